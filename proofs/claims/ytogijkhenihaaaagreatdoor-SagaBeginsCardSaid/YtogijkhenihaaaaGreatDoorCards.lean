/-
  DERIVED. GIVEN WITH THE SEED: THE CARDS: each row of YtogijkhenihaaaaGreatDoorRows.lean that lists a variable, with what it lists TIED to the program's text (the seventh form; the later family's looks); each row that meets fmt, with fmt's text TOLD by the authors' own Lean function (tested against real Go, not proved from fmt's source: count such statements apart). THE CARD IS WHAT COUNTS. Prove the row's statement (the work); the ties are given (YtogijkhenihaaaaGreatDoorTie.lean); close each card by the builder's one call (the guide's Derived/Test/ToyasCard.lean, 'card_holds'). Laid BY PROGRAM, IN A SANDBOX (cutbox-door.mjs). By AI agents, Wed Nov 11 2026. No macro, syntax, notation, axiom, sorry.
-/
import Derived.Test.YtogijkhenihaaaaGreatDoorRows
import GoSem.ClaimSeven
namespace Go.Proofs.YtogijkhenihaaaaGreatDoor
namespace Rows

/-- THE TIED CARD OF 'redresstop.TopCodec'. -/
def topCodecCard : Claim7 := { stood := { row := topCodecRow, standIns := [], harness := (true, "db89caaa50bbf99fd64c98c0dd9a52422fd35acc4f0f42bb03144100fac12dc1"), looks := true }, kinds := [], alts := [], laidByText := true, laidKinds := [.data, .data, .data, .widerDeep], laidTests := true, laidLooks := .later }
def TopCodecCardSaid : Prop := Claim7.holds Tryz.pinned (.plain (OpenSpec.ofChange topCodecSpec)) topCodecCard

/-- THE TIED CARD OF 'redresslaw25.SagaBegins'. -/
def sagaBeginsCard : Claim7 := { stood := { row := sagaBeginsRow, standIns := [], harness := (true, "db89caaa50bbf99fd64c98c0dd9a52422fd35acc4f0f42bb03144100fac12dc1"), looks := true }, kinds := [], alts := [], laidByText := true, laidKinds := [.data, .data, .data, .widerDeep], laidTests := true, laidLooks := .later }
def SagaBeginsCardSaid : Prop := Claim7.holds Tryz.pinned (.plain (OpenSpec.ofChange sagaBeginsSpec)) sagaBeginsCard

/-- THE TIED CARD OF 'redresslaw25.SagaEnds'. -/
def sagaEndsCard : Claim7 := { stood := { row := sagaEndsRow, standIns := [], harness := (true, "db89caaa50bbf99fd64c98c0dd9a52422fd35acc4f0f42bb03144100fac12dc1"), looks := true }, kinds := [], alts := [], laidByText := true, laidKinds := [.data, .data, .data, .widerDeep], laidTests := true, laidLooks := .later }
def SagaEndsCardSaid : Prop := Claim7.holds Tryz.pinned (.plain (OpenSpec.ofChange sagaEndsSpec)) sagaEndsCard

/-- THE TIED CARD OF 'redresslaw25.SagaShape'. -/
def sagaShapeCard : Claim7 := { stood := { row := sagaShapeRow, standIns := [], harness := (true, "db89caaa50bbf99fd64c98c0dd9a52422fd35acc4f0f42bb03144100fac12dc1"), looks := true }, kinds := [], alts := [], laidByText := true, laidKinds := [.data, .data, .data, .widerDeep], laidTests := true, laidLooks := .later }
def SagaShapeCardSaid : Prop := Claim7.holds Tryz.pinned (.plain (OpenSpec.ofChange sagaShapeSpec)) sagaShapeCard

/-- THE TIED CARD OF 'redresslaw25.SagaPacks'. -/
def sagaPacksCard : Claim7 := { stood := { row := sagaPacksRow, standIns := [], harness := (true, "db89caaa50bbf99fd64c98c0dd9a52422fd35acc4f0f42bb03144100fac12dc1"), looks := true }, kinds := [], alts := [], laidByText := true, laidKinds := [.data, .data, .data, .sentinel, .sentinel, .widerDeep], laidTests := true, laidLooks := .later }
def SagaPacksCardSaid : Prop := Claim7.holds Tryz.pinned (.plain (OpenSpec.ofChange sagaPacksSpec)) sagaPacksCard

/-- THE TIED CARD OF 'redresslaw25.SagaBack'. -/
def sagaBackCard : Claim7 := { stood := { row := sagaBackRow, standIns := [], harness := (true, "db89caaa50bbf99fd64c98c0dd9a52422fd35acc4f0f42bb03144100fac12dc1"), looks := true }, kinds := [], alts := [], laidByText := true, laidKinds := [.data, .data, .data, .sentinel, .sentinel, .widerDeep], laidTests := true, laidLooks := .later }
def SagaBackCardSaid : Prop := Claim7.holds Tryz.pinned (.plain (OpenSpec.ofChange sagaBackSpec)) sagaBackCard

/-- THE SECOND FORM's CARD OF 'redresstop.TopCodec'. -/
def topCodecUptoCard : Claim7 := { stood := { row := topCodecUptoRow, standIns := [], harness := (true, "db89caaa50bbf99fd64c98c0dd9a52422fd35acc4f0f42bb03144100fac12dc1"), looks := true }, kinds := [], alts := [], laidByText := true, laidKinds := [.data, .data, .data, .widerDeep], laidTests := true, laidLooks := .later }
def TopCodecUptoCardSaid : Prop := Claim7.holds Tryz.pinned (.plain (OpenSpec.upto topCodecSpec)) topCodecUptoCard

/-- THE SECOND FORM's CARD OF 'redresslaw25.SagaBegins'. -/
def sagaBeginsUptoCard : Claim7 := { stood := { row := sagaBeginsUptoRow, standIns := [], harness := (true, "db89caaa50bbf99fd64c98c0dd9a52422fd35acc4f0f42bb03144100fac12dc1"), looks := true }, kinds := [], alts := [], laidByText := true, laidKinds := [.data, .data, .data, .widerDeep], laidTests := true, laidLooks := .later }
def SagaBeginsUptoCardSaid : Prop := Claim7.holds Tryz.pinned (.plain (OpenSpec.upto sagaBeginsSpec)) sagaBeginsUptoCard

/-- THE SECOND FORM's CARD OF 'redresslaw25.SagaEnds'. -/
def sagaEndsUptoCard : Claim7 := { stood := { row := sagaEndsUptoRow, standIns := [], harness := (true, "db89caaa50bbf99fd64c98c0dd9a52422fd35acc4f0f42bb03144100fac12dc1"), looks := true }, kinds := [], alts := [], laidByText := true, laidKinds := [.data, .data, .data, .widerDeep], laidTests := true, laidLooks := .later }
def SagaEndsUptoCardSaid : Prop := Claim7.holds Tryz.pinned (.plain (OpenSpec.upto sagaEndsSpec)) sagaEndsUptoCard

/-- THE SECOND FORM's CARD OF 'redresslaw25.SagaShape'. -/
def sagaShapeUptoCard : Claim7 := { stood := { row := sagaShapeUptoRow, standIns := [], harness := (true, "db89caaa50bbf99fd64c98c0dd9a52422fd35acc4f0f42bb03144100fac12dc1"), looks := true }, kinds := [], alts := [], laidByText := true, laidKinds := [.data, .data, .data, .widerDeep], laidTests := true, laidLooks := .later }
def SagaShapeUptoCardSaid : Prop := Claim7.holds Tryz.pinned (.plain (OpenSpec.upto sagaShapeSpec)) sagaShapeUptoCard

/-- THE SECOND FORM's CARD OF 'redresslaw25.SagaPacks'. -/
def sagaPacksUptoCard : Claim7 := { stood := { row := sagaPacksUptoRow, standIns := [], harness := (true, "db89caaa50bbf99fd64c98c0dd9a52422fd35acc4f0f42bb03144100fac12dc1"), looks := true }, kinds := [], alts := [], laidByText := true, laidKinds := [.data, .data, .data, .sentinel, .sentinel, .widerDeep], laidTests := true, laidLooks := .later }
def SagaPacksUptoCardSaid : Prop := Claim7.holds Tryz.pinned (.plain (OpenSpec.upto sagaPacksSpec)) sagaPacksUptoCard

/-- THE SECOND FORM's CARD OF 'redresslaw25.SagaBack'. -/
def sagaBackUptoCard : Claim7 := { stood := { row := sagaBackUptoRow, standIns := [], harness := (true, "db89caaa50bbf99fd64c98c0dd9a52422fd35acc4f0f42bb03144100fac12dc1"), looks := true }, kinds := [], alts := [], laidByText := true, laidKinds := [.data, .data, .data, .sentinel, .sentinel, .widerDeep], laidTests := true, laidLooks := .later }
def SagaBackUptoCardSaid : Prop := Claim7.holds Tryz.pinned (.plain (OpenSpec.upto sagaBackSpec)) sagaBackUptoCard
end Rows
end Go.Proofs.YtogijkhenihaaaaGreatDoor
