/-
  DERIVED. GIVEN WITH THE SEED: THE CARDS: each row of YtnnkppeafnpdcaaDoorRows.lean that lists a variable, with what it lists TIED to the program's text (the seventh form; the later family's looks); each row that meets fmt, with fmt's text TOLD by the authors' own Lean function (tested against real Go, not proved from fmt's source: count such statements apart). THE CARD IS WHAT COUNTS. Prove the row's statement (the work); the ties are given (YtnnkppeafnpdcaaDoorTie.lean); close each card by the builder's one call (the guide's Derived/Test/ToyasCard.lean, 'card_holds'). Laid BY PROGRAM, IN A SANDBOX (cutbox-door.mjs). By AI agents, Wed Nov 11 2026. No macro, syntax, notation, axiom, sorry.
-/
import Derived.Test.YtnnkppeafnpdcaaDoorRows
import GoSem.ClaimSeven
namespace Go.Proofs.YtnnkppeafnpdcaaDoor
namespace Rows

/-- THE TIED CARD OF 'redresslaw13.CheckTells'. -/
def checkTellsCard : Claim7 := { stood := { row := checkTellsRow, standIns := [], harness := (true, "b6a80a68eacd2cc2132d5ae533cb61f07b5b1160a3419efa94faea7cb4bbee12"), looks := false }, kinds := [], alts := [], laidByText := true, laidKinds := [.data, .data, .data, .widerDeep], laidTests := true, laidLooks := .later }
def CheckTellsCardSaid : Prop := Claim7.holds Tryd.pinned (.plain (OpenSpec.ofChange checkTellsSpec)) checkTellsCard

/-- THE TIED CARD OF 'redresslaw13.CheckFewer'. -/
def checkFewerCard : Claim7 := { stood := { row := checkFewerRow, standIns := [], harness := (true, "b6a80a68eacd2cc2132d5ae533cb61f07b5b1160a3419efa94faea7cb4bbee12"), looks := false }, kinds := [], alts := [], laidByText := true, laidKinds := [.data, .data, .data, .widerDeep], laidTests := true, laidLooks := .later }
def CheckFewerCardSaid : Prop := Claim7.holds Tryd.pinned (.plain (OpenSpec.ofChange checkFewerSpec)) checkFewerCard

/-- THE TIED CARD OF 'redresslaw13.CheckFinds'. -/
def checkFindsCard : Claim7 := { stood := { row := checkFindsRow, standIns := [], harness := (true, "b6a80a68eacd2cc2132d5ae533cb61f07b5b1160a3419efa94faea7cb4bbee12"), looks := false }, kinds := [], alts := [], laidByText := true, laidKinds := [.data, .data, .data, .widerDeep], laidTests := true, laidLooks := .later }
def CheckFindsCardSaid : Prop := Claim7.holds Tryd.pinned (.plain (OpenSpec.ofChange checkFindsSpec)) checkFindsCard

/-- THE TIED CARD OF 'redresslaw13.CheckUndone'. -/
def checkUndoneCard : Claim7 := { stood := { row := checkUndoneRow, standIns := [], harness := (true, "b6a80a68eacd2cc2132d5ae533cb61f07b5b1160a3419efa94faea7cb4bbee12"), looks := false }, kinds := [], alts := [], laidByText := true, laidKinds := [.data, .data, .data, .widerDeep], laidTests := true, laidLooks := .later }
def CheckUndoneCardSaid : Prop := Claim7.holds Tryd.pinned (.plain (OpenSpec.ofChange checkUndoneSpec)) checkUndoneCard

/-- THE TIED CARD OF 'redresslaw13.CheckOwn'. -/
def checkOwnCard : Claim7 := { stood := { row := checkOwnRow, standIns := [], harness := (true, "b6a80a68eacd2cc2132d5ae533cb61f07b5b1160a3419efa94faea7cb4bbee12"), looks := false }, kinds := [], alts := [], laidByText := true, laidKinds := [.data, .data, .data, .widerDeep], laidTests := true, laidLooks := .later }
def CheckOwnCardSaid : Prop := Claim7.holds Tryd.pinned (.plain (OpenSpec.ofChange checkOwnSpec)) checkOwnCard

/-- THE SECOND FORM's CARD OF 'redresslaw13.CheckTells'. -/
def checkTellsUptoCard : Claim7 := { stood := { row := checkTellsUptoRow, standIns := [], harness := (true, "b6a80a68eacd2cc2132d5ae533cb61f07b5b1160a3419efa94faea7cb4bbee12"), looks := false }, kinds := [], alts := [], laidByText := true, laidKinds := [.data, .data, .data, .widerDeep], laidTests := true, laidLooks := .later }
def CheckTellsUptoCardSaid : Prop := Claim7.holds Tryd.pinned (.plain (OpenSpec.upto checkTellsSpec)) checkTellsUptoCard

/-- THE SECOND FORM's CARD OF 'redresslaw13.CheckFewer'. -/
def checkFewerUptoCard : Claim7 := { stood := { row := checkFewerUptoRow, standIns := [], harness := (true, "b6a80a68eacd2cc2132d5ae533cb61f07b5b1160a3419efa94faea7cb4bbee12"), looks := false }, kinds := [], alts := [], laidByText := true, laidKinds := [.data, .data, .data, .widerDeep], laidTests := true, laidLooks := .later }
def CheckFewerUptoCardSaid : Prop := Claim7.holds Tryd.pinned (.plain (OpenSpec.upto checkFewerSpec)) checkFewerUptoCard

/-- THE SECOND FORM's CARD OF 'redresslaw13.CheckFinds'. -/
def checkFindsUptoCard : Claim7 := { stood := { row := checkFindsUptoRow, standIns := [], harness := (true, "b6a80a68eacd2cc2132d5ae533cb61f07b5b1160a3419efa94faea7cb4bbee12"), looks := false }, kinds := [], alts := [], laidByText := true, laidKinds := [.data, .data, .data, .widerDeep], laidTests := true, laidLooks := .later }
def CheckFindsUptoCardSaid : Prop := Claim7.holds Tryd.pinned (.plain (OpenSpec.upto checkFindsSpec)) checkFindsUptoCard

/-- THE SECOND FORM's CARD OF 'redresslaw13.CheckUndone'. -/
def checkUndoneUptoCard : Claim7 := { stood := { row := checkUndoneUptoRow, standIns := [], harness := (true, "b6a80a68eacd2cc2132d5ae533cb61f07b5b1160a3419efa94faea7cb4bbee12"), looks := false }, kinds := [], alts := [], laidByText := true, laidKinds := [.data, .data, .data, .widerDeep], laidTests := true, laidLooks := .later }
def CheckUndoneUptoCardSaid : Prop := Claim7.holds Tryd.pinned (.plain (OpenSpec.upto checkUndoneSpec)) checkUndoneUptoCard

/-- THE SECOND FORM's CARD OF 'redresslaw13.CheckOwn'. -/
def checkOwnUptoCard : Claim7 := { stood := { row := checkOwnUptoRow, standIns := [], harness := (true, "b6a80a68eacd2cc2132d5ae533cb61f07b5b1160a3419efa94faea7cb4bbee12"), looks := false }, kinds := [], alts := [], laidByText := true, laidKinds := [.data, .data, .data, .widerDeep], laidTests := true, laidLooks := .later }
def CheckOwnUptoCardSaid : Prop := Claim7.holds Tryd.pinned (.plain (OpenSpec.upto checkOwnSpec)) checkOwnUptoCard
end Rows
end Go.Proofs.YtnnkppeafnpdcaaDoor
