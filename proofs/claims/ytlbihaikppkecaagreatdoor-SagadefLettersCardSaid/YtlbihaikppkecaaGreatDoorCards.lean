/-
  DERIVED. GIVEN WITH THE SEED: THE CARDS: each row of YtlbihaikppkecaaGreatDoorRows.lean that lists a variable, with what it lists TIED to the program's text (the seventh form; the later family's looks); each row that meets fmt, with fmt's text TOLD by the authors' own Lean function (tested against real Go, not proved from fmt's source: count such statements apart). THE CARD IS WHAT COUNTS. Prove the row's statement (the work); the ties are given (YtlbihaikppkecaaGreatDoorTie.lean); close each card by the builder's one call (the guide's Derived/Test/ToyasCard.lean, 'card_holds'). Laid BY PROGRAM, IN A SANDBOX (cutbox-door.mjs). By AI agents, Wed Nov 11 2026. No macro, syntax, notation, axiom, sorry.
-/
import Derived.Test.YtlbihaikppkecaaGreatDoorRows
import GoSem.ClaimSeven
namespace Go.Proofs.YtlbihaikppkecaaGreatDoor
namespace Rows

/-- THE TIED CARD OF 'redresslaw22.SagadefKeys'. -/
def sagadefKeysCard : Claim7 := { stood := { row := sagadefKeysRow, standIns := [], harness := (true, "40682a4bbc1a9573d928ff180afdc8a99de7b851daea7a2c9b6adc8571b777de"), looks := false }, kinds := [], alts := [], laidByText := true, laidKinds := [.data, .data, .data, .widerDeep], laidTests := true, laidLooks := .later }
def SagadefKeysCardSaid : Prop := Claim7.holds Tryz.pinned (.plain (OpenSpec.ofChange sagadefKeysSpec)) sagadefKeysCard

/-- THE TIED CARD OF 'redresslaw22.SagadefApart'. -/
def sagadefApartCard : Claim7 := { stood := { row := sagadefApartRow, standIns := [], harness := (true, "40682a4bbc1a9573d928ff180afdc8a99de7b851daea7a2c9b6adc8571b777de"), looks := false }, kinds := [], alts := [], laidByText := true, laidKinds := [.data, .data, .data, .widerDeep], laidTests := true, laidLooks := .later }
def SagadefApartCardSaid : Prop := Claim7.holds Tryz.pinned (.plain (OpenSpec.ofChange sagadefApartSpec)) sagadefApartCard

/-- THE TIED CARD OF 'redresslaw22.SagadefCalls'. -/
def sagadefCallsCard : Claim7 := { stood := { row := sagadefCallsRow, standIns := [], harness := (true, "40682a4bbc1a9573d928ff180afdc8a99de7b851daea7a2c9b6adc8571b777de"), looks := false }, kinds := [], alts := [], laidByText := true, laidKinds := [.data, .data, .data, .widerDeep], laidTests := true, laidLooks := .later }
def SagadefCallsCardSaid : Prop := Claim7.holds Tryz.pinned (.plain (OpenSpec.ofChange sagadefCallsSpec)) sagadefCallsCard

/-- THE TIED CARD OF 'redresslaw22.SagadefLetters'. -/
def sagadefLettersCard : Claim7 := { stood := { row := sagadefLettersRow, standIns := [], harness := (true, "40682a4bbc1a9573d928ff180afdc8a99de7b851daea7a2c9b6adc8571b777de"), looks := false }, kinds := [], alts := [], laidByText := true, laidKinds := [.data, .data, .data, .widerDeep], laidTests := true, laidLooks := .later }
def SagadefLettersCardSaid : Prop := Claim7.holds Tryz.pinned (.plain (OpenSpec.ofChange sagadefLettersSpec)) sagadefLettersCard

/-- THE SECOND FORM's CARD OF 'redresslaw22.SagadefKeys'. -/
def sagadefKeysUptoCard : Claim7 := { stood := { row := sagadefKeysUptoRow, standIns := [], harness := (true, "40682a4bbc1a9573d928ff180afdc8a99de7b851daea7a2c9b6adc8571b777de"), looks := false }, kinds := [], alts := [], laidByText := true, laidKinds := [.data, .data, .data, .widerDeep], laidTests := true, laidLooks := .later }
def SagadefKeysUptoCardSaid : Prop := Claim7.holds Tryz.pinned (.plain (OpenSpec.upto sagadefKeysSpec)) sagadefKeysUptoCard

/-- THE SECOND FORM's CARD OF 'redresslaw22.SagadefApart'. -/
def sagadefApartUptoCard : Claim7 := { stood := { row := sagadefApartUptoRow, standIns := [], harness := (true, "40682a4bbc1a9573d928ff180afdc8a99de7b851daea7a2c9b6adc8571b777de"), looks := false }, kinds := [], alts := [], laidByText := true, laidKinds := [.data, .data, .data, .widerDeep], laidTests := true, laidLooks := .later }
def SagadefApartUptoCardSaid : Prop := Claim7.holds Tryz.pinned (.plain (OpenSpec.upto sagadefApartSpec)) sagadefApartUptoCard

/-- THE SECOND FORM's CARD OF 'redresslaw22.SagadefCalls'. -/
def sagadefCallsUptoCard : Claim7 := { stood := { row := sagadefCallsUptoRow, standIns := [], harness := (true, "40682a4bbc1a9573d928ff180afdc8a99de7b851daea7a2c9b6adc8571b777de"), looks := false }, kinds := [], alts := [], laidByText := true, laidKinds := [.data, .data, .data, .widerDeep], laidTests := true, laidLooks := .later }
def SagadefCallsUptoCardSaid : Prop := Claim7.holds Tryz.pinned (.plain (OpenSpec.upto sagadefCallsSpec)) sagadefCallsUptoCard

/-- THE SECOND FORM's CARD OF 'redresslaw22.SagadefLetters'. -/
def sagadefLettersUptoCard : Claim7 := { stood := { row := sagadefLettersUptoRow, standIns := [], harness := (true, "40682a4bbc1a9573d928ff180afdc8a99de7b851daea7a2c9b6adc8571b777de"), looks := false }, kinds := [], alts := [], laidByText := true, laidKinds := [.data, .data, .data, .widerDeep], laidTests := true, laidLooks := .later }
def SagadefLettersUptoCardSaid : Prop := Claim7.holds Tryz.pinned (.plain (OpenSpec.upto sagadefLettersSpec)) sagadefLettersUptoCard
end Rows
end Go.Proofs.YtlbihaikppkecaaGreatDoor
