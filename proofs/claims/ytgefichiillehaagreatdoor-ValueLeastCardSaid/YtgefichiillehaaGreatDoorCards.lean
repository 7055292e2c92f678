/-
  DERIVED. GIVEN WITH THE SEED: THE CARDS: each row of YtgefichiillehaaGreatDoorRows.lean that lists a variable, with what it lists TIED to the program's text (the seventh form; the later family's looks); each row that meets fmt, with fmt's text TOLD by the authors' own Lean function (tested against real Go, not proved from fmt's source: count such statements apart). THE CARD IS WHAT COUNTS. Prove the row's statement (the work); the ties are given (YtgefichiillehaaGreatDoorTie.lean); close each card by the builder's one call (the guide's Derived/Test/ToyasCard.lean, 'card_holds'). Laid BY PROGRAM, IN A SANDBOX (cutbox-door.mjs). By AI agents, Wed Nov 11 2026. No macro, syntax, notation, axiom, sorry.
-/
import Derived.Test.YtgefichiillehaaGreatDoorRows
import GoSem.ClaimSeven
namespace Go.Proofs.YtgefichiillehaaGreatDoor
namespace Rows

/-- THE TIED CARD OF 'redresslaw15.ValueFits'. -/
def valueFitsCard : Claim7 := { stood := { row := valueFitsRow, standIns := [], harness := (true, "e6a66052e751e2181c466fadb57d8be4a24c0cb7d80bf2acf8a329a396190e12"), looks := true }, kinds := [], alts := [], laidByText := true, laidKinds := [.data, .data, .data, .widerDeep], laidTests := true, laidLooks := .later }
def ValueFitsCardSaid : Prop := Claim7.holds Tryz.pinned (.plain (OpenSpec.ofChange valueFitsSpec)) valueFitsCard

/-- THE TIED CARD OF 'redresslaw15.ValueEnds'. -/
def valueEndsCard : Claim7 := { stood := { row := valueEndsRow, standIns := [], harness := (true, "e6a66052e751e2181c466fadb57d8be4a24c0cb7d80bf2acf8a329a396190e12"), looks := true }, kinds := [], alts := [], laidByText := true, laidKinds := [.data, .data, .data, .widerDeep], laidTests := true, laidLooks := .later }
def ValueEndsCardSaid : Prop := Claim7.holds Tryz.pinned (.plain (OpenSpec.ofChange valueEndsSpec)) valueEndsCard

/-- THE TIED CARD OF 'redresslaw15.ValueFields'. -/
def valueFieldsCard : Claim7 := { stood := { row := valueFieldsRow, standIns := [], harness := (true, "e6a66052e751e2181c466fadb57d8be4a24c0cb7d80bf2acf8a329a396190e12"), looks := true }, kinds := [], alts := [], laidByText := true, laidKinds := [.data, .data, .data, .widerDeep], laidTests := true, laidLooks := .later }
def ValueFieldsCardSaid : Prop := Claim7.holds Tryz.pinned (.plain (OpenSpec.ofChange valueFieldsSpec)) valueFieldsCard

/-- THE TIED CARD OF 'redresslaw15.ValueWhole'. -/
def valueWholeCard : Claim7 := { stood := { row := valueWholeRow, standIns := [], harness := (true, "e6a66052e751e2181c466fadb57d8be4a24c0cb7d80bf2acf8a329a396190e12"), looks := true }, kinds := [], alts := [], laidByText := true, laidKinds := [.data, .data, .data, .widerDeep], laidTests := true, laidLooks := .later }
def ValueWholeCardSaid : Prop := Claim7.holds Tryz.pinned (.plain (OpenSpec.ofChange valueWholeSpec)) valueWholeCard

/-- THE TIED CARD OF 'redresslaw15.ValueWraps'. -/
def valueWrapsCard : Claim7 := { stood := { row := valueWrapsRow, standIns := [], harness := (true, "e6a66052e751e2181c466fadb57d8be4a24c0cb7d80bf2acf8a329a396190e12"), looks := true }, kinds := [], alts := [], laidByText := true, laidKinds := [.data, .data, .data, .widerDeep], laidTests := true, laidLooks := .later }
def ValueWrapsCardSaid : Prop := Claim7.holds Tryz.pinned (.plain (OpenSpec.ofChange valueWrapsSpec)) valueWrapsCard

/-- THE TIED CARD OF 'redresslaw15.ValueOwn'. -/
def valueOwnCard : Claim7 := { stood := { row := valueOwnRow, standIns := [], harness := (true, "e6a66052e751e2181c466fadb57d8be4a24c0cb7d80bf2acf8a329a396190e12"), looks := true }, kinds := [], alts := [], laidByText := true, laidKinds := [.data, .data, .data, .widerDeep], laidTests := true, laidLooks := .later }
def ValueOwnCardSaid : Prop := Claim7.holds Tryz.pinned (.plain (OpenSpec.ofChange valueOwnSpec)) valueOwnCard

/-- THE TIED CARD OF 'redresslaw15.ValueLeasts'. -/
def valueLeastsCard : Claim7 := { stood := { row := valueLeastsRow, standIns := [], harness := (true, "e6a66052e751e2181c466fadb57d8be4a24c0cb7d80bf2acf8a329a396190e12"), looks := true }, kinds := [], alts := [], laidByText := true, laidKinds := [.data, .data, .data, .widerDeep], laidTests := true, laidLooks := .later }
def ValueLeastsCardSaid : Prop := Claim7.holds Tryz.pinned (.plain (OpenSpec.ofChange valueLeastsSpec)) valueLeastsCard

/-- THE TIED CARD OF 'redresslaw15.ValueLeast'. -/
def valueLeastCard : Claim7 := { stood := { row := valueLeastRow, standIns := [], harness := (true, "e6a66052e751e2181c466fadb57d8be4a24c0cb7d80bf2acf8a329a396190e12"), looks := true }, kinds := [], alts := [], laidByText := true, laidKinds := [.data, .data, .data, .widerDeep], laidTests := true, laidLooks := .later }
def ValueLeastCardSaid : Prop := Claim7.holds Tryz.pinned (.plain (OpenSpec.ofChange valueLeastSpec)) valueLeastCard

/-- THE TIED CARD OF 'redresslaw16.CodecEncodes'. -/
def codecEncodesCard : Claim7 := { stood := { row := codecEncodesRow, standIns := [], harness := (true, "e6a66052e751e2181c466fadb57d8be4a24c0cb7d80bf2acf8a329a396190e12"), looks := true }, kinds := [], alts := [], laidByText := true, laidKinds := [.data, .data, .data, .widerDeep], laidTests := true, laidLooks := .later }
def CodecEncodesCardSaid : Prop := Claim7.holds Tryz.pinned (.plain (OpenSpec.ofChange codecEncodesSpec)) codecEncodesCard

/-- THE TIED CARD OF 'redresslaw16.CodecBack'. -/
def codecBackCard : Claim7 := { stood := { row := codecBackRow, standIns := [], harness := (true, "e6a66052e751e2181c466fadb57d8be4a24c0cb7d80bf2acf8a329a396190e12"), looks := true }, kinds := [], alts := [], laidByText := true, laidKinds := [.data, .data, .data, .widerDeep], laidTests := true, laidLooks := .later }
def CodecBackCardSaid : Prop := Claim7.holds Tryz.pinned (.plain (OpenSpec.ofChange codecBackSpec)) codecBackCard

/-- THE TIED CARD OF 'redresslaw16.CodecOne'. -/
def codecOneCard : Claim7 := { stood := { row := codecOneRow, standIns := [], harness := (true, "e6a66052e751e2181c466fadb57d8be4a24c0cb7d80bf2acf8a329a396190e12"), looks := true }, kinds := [], alts := [], laidByText := true, laidKinds := [.data, .data, .data, .widerDeep], laidTests := true, laidLooks := .later }
def CodecOneCardSaid : Prop := Claim7.holds Tryz.pinned (.plain (OpenSpec.ofChange codecOneSpec)) codecOneCard

/-- THE TIED CARD OF 'redresslaw16.CodecCut'. -/
def codecCutCard : Claim7 := { stood := { row := codecCutRow, standIns := [], harness := (true, "e6a66052e751e2181c466fadb57d8be4a24c0cb7d80bf2acf8a329a396190e12"), looks := true }, kinds := [], alts := [], laidByText := true, laidKinds := [.data, .data, .data, .widerDeep], laidTests := true, laidLooks := .later }
def CodecCutCardSaid : Prop := Claim7.holds Tryz.pinned (.plain (OpenSpec.ofChange codecCutSpec)) codecCutCard

/-- THE SECOND FORM's CARD OF 'redresslaw15.ValueFits'. -/
def valueFitsUptoCard : Claim7 := { stood := { row := valueFitsUptoRow, standIns := [], harness := (true, "e6a66052e751e2181c466fadb57d8be4a24c0cb7d80bf2acf8a329a396190e12"), looks := true }, kinds := [], alts := [], laidByText := true, laidKinds := [.data, .data, .data, .widerDeep], laidTests := true, laidLooks := .later }
def ValueFitsUptoCardSaid : Prop := Claim7.holds Tryz.pinned (.plain (OpenSpec.upto valueFitsSpec)) valueFitsUptoCard

/-- THE SECOND FORM's CARD OF 'redresslaw15.ValueEnds'. -/
def valueEndsUptoCard : Claim7 := { stood := { row := valueEndsUptoRow, standIns := [], harness := (true, "e6a66052e751e2181c466fadb57d8be4a24c0cb7d80bf2acf8a329a396190e12"), looks := true }, kinds := [], alts := [], laidByText := true, laidKinds := [.data, .data, .data, .widerDeep], laidTests := true, laidLooks := .later }
def ValueEndsUptoCardSaid : Prop := Claim7.holds Tryz.pinned (.plain (OpenSpec.upto valueEndsSpec)) valueEndsUptoCard

/-- THE SECOND FORM's CARD OF 'redresslaw15.ValueFields'. -/
def valueFieldsUptoCard : Claim7 := { stood := { row := valueFieldsUptoRow, standIns := [], harness := (true, "e6a66052e751e2181c466fadb57d8be4a24c0cb7d80bf2acf8a329a396190e12"), looks := true }, kinds := [], alts := [], laidByText := true, laidKinds := [.data, .data, .data, .widerDeep], laidTests := true, laidLooks := .later }
def ValueFieldsUptoCardSaid : Prop := Claim7.holds Tryz.pinned (.plain (OpenSpec.upto valueFieldsSpec)) valueFieldsUptoCard

/-- THE SECOND FORM's CARD OF 'redresslaw15.ValueWhole'. -/
def valueWholeUptoCard : Claim7 := { stood := { row := valueWholeUptoRow, standIns := [], harness := (true, "e6a66052e751e2181c466fadb57d8be4a24c0cb7d80bf2acf8a329a396190e12"), looks := true }, kinds := [], alts := [], laidByText := true, laidKinds := [.data, .data, .data, .widerDeep], laidTests := true, laidLooks := .later }
def ValueWholeUptoCardSaid : Prop := Claim7.holds Tryz.pinned (.plain (OpenSpec.upto valueWholeSpec)) valueWholeUptoCard

/-- THE SECOND FORM's CARD OF 'redresslaw15.ValueWraps'. -/
def valueWrapsUptoCard : Claim7 := { stood := { row := valueWrapsUptoRow, standIns := [], harness := (true, "e6a66052e751e2181c466fadb57d8be4a24c0cb7d80bf2acf8a329a396190e12"), looks := true }, kinds := [], alts := [], laidByText := true, laidKinds := [.data, .data, .data, .widerDeep], laidTests := true, laidLooks := .later }
def ValueWrapsUptoCardSaid : Prop := Claim7.holds Tryz.pinned (.plain (OpenSpec.upto valueWrapsSpec)) valueWrapsUptoCard

/-- THE SECOND FORM's CARD OF 'redresslaw15.ValueOwn'. -/
def valueOwnUptoCard : Claim7 := { stood := { row := valueOwnUptoRow, standIns := [], harness := (true, "e6a66052e751e2181c466fadb57d8be4a24c0cb7d80bf2acf8a329a396190e12"), looks := true }, kinds := [], alts := [], laidByText := true, laidKinds := [.data, .data, .data, .widerDeep], laidTests := true, laidLooks := .later }
def ValueOwnUptoCardSaid : Prop := Claim7.holds Tryz.pinned (.plain (OpenSpec.upto valueOwnSpec)) valueOwnUptoCard

/-- THE SECOND FORM's CARD OF 'redresslaw15.ValueLeasts'. -/
def valueLeastsUptoCard : Claim7 := { stood := { row := valueLeastsUptoRow, standIns := [], harness := (true, "e6a66052e751e2181c466fadb57d8be4a24c0cb7d80bf2acf8a329a396190e12"), looks := true }, kinds := [], alts := [], laidByText := true, laidKinds := [.data, .data, .data, .widerDeep], laidTests := true, laidLooks := .later }
def ValueLeastsUptoCardSaid : Prop := Claim7.holds Tryz.pinned (.plain (OpenSpec.upto valueLeastsSpec)) valueLeastsUptoCard

/-- THE SECOND FORM's CARD OF 'redresslaw15.ValueLeast'. -/
def valueLeastUptoCard : Claim7 := { stood := { row := valueLeastUptoRow, standIns := [], harness := (true, "e6a66052e751e2181c466fadb57d8be4a24c0cb7d80bf2acf8a329a396190e12"), looks := true }, kinds := [], alts := [], laidByText := true, laidKinds := [.data, .data, .data, .widerDeep], laidTests := true, laidLooks := .later }
def ValueLeastUptoCardSaid : Prop := Claim7.holds Tryz.pinned (.plain (OpenSpec.upto valueLeastSpec)) valueLeastUptoCard

/-- THE SECOND FORM's CARD OF 'redresslaw16.CodecEncodes'. -/
def codecEncodesUptoCard : Claim7 := { stood := { row := codecEncodesUptoRow, standIns := [], harness := (true, "e6a66052e751e2181c466fadb57d8be4a24c0cb7d80bf2acf8a329a396190e12"), looks := true }, kinds := [], alts := [], laidByText := true, laidKinds := [.data, .data, .data, .widerDeep], laidTests := true, laidLooks := .later }
def CodecEncodesUptoCardSaid : Prop := Claim7.holds Tryz.pinned (.plain (OpenSpec.upto codecEncodesSpec)) codecEncodesUptoCard

/-- THE SECOND FORM's CARD OF 'redresslaw16.CodecBack'. -/
def codecBackUptoCard : Claim7 := { stood := { row := codecBackUptoRow, standIns := [], harness := (true, "e6a66052e751e2181c466fadb57d8be4a24c0cb7d80bf2acf8a329a396190e12"), looks := true }, kinds := [], alts := [], laidByText := true, laidKinds := [.data, .data, .data, .widerDeep], laidTests := true, laidLooks := .later }
def CodecBackUptoCardSaid : Prop := Claim7.holds Tryz.pinned (.plain (OpenSpec.upto codecBackSpec)) codecBackUptoCard

/-- THE SECOND FORM's CARD OF 'redresslaw16.CodecOne'. -/
def codecOneUptoCard : Claim7 := { stood := { row := codecOneUptoRow, standIns := [], harness := (true, "e6a66052e751e2181c466fadb57d8be4a24c0cb7d80bf2acf8a329a396190e12"), looks := true }, kinds := [], alts := [], laidByText := true, laidKinds := [.data, .data, .data, .widerDeep], laidTests := true, laidLooks := .later }
def CodecOneUptoCardSaid : Prop := Claim7.holds Tryz.pinned (.plain (OpenSpec.upto codecOneSpec)) codecOneUptoCard

/-- THE SECOND FORM's CARD OF 'redresslaw16.CodecCut'. -/
def codecCutUptoCard : Claim7 := { stood := { row := codecCutUptoRow, standIns := [], harness := (true, "e6a66052e751e2181c466fadb57d8be4a24c0cb7d80bf2acf8a329a396190e12"), looks := true }, kinds := [], alts := [], laidByText := true, laidKinds := [.data, .data, .data, .widerDeep], laidTests := true, laidLooks := .later }
def CodecCutUptoCardSaid : Prop := Claim7.holds Tryz.pinned (.plain (OpenSpec.upto codecCutSpec)) codecCutUptoCard
end Rows
end Go.Proofs.YtgefichiillehaaGreatDoor
