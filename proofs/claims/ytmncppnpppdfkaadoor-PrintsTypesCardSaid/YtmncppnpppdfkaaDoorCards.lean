/-
  DERIVED. GIVEN WITH THE SEED: THE CARDS: each row of YtmncppnpppdfkaaDoorRows.lean that lists a variable, with what it lists TIED to the program's text (the seventh form; the later family's looks); each row that meets fmt, with fmt's text TOLD by the authors' own Lean function (tested against real Go, not proved from fmt's source: count such statements apart). THE CARD IS WHAT COUNTS. Prove the row's statement (the work); the ties are given (YtmncppnpppdfkaaDoorTie.lean); close each card by the builder's one call (the guide's Derived/Test/ToyasCard.lean, 'card_holds'). Laid BY PROGRAM, IN A SANDBOX (cutbox-door.mjs). By AI agents, Wed Nov 11 2026. No macro, syntax, notation, axiom, sorry.
-/
import Derived.Test.YtmncppnpppdfkaaDoorRows
import GoSem.ClaimSeven
namespace Go.Proofs.YtmncppnpppdfkaaDoor
namespace Rows

/-- THE TIED CARD OF 'redresslaw14.PrintsAlike'. -/
def printsAlikeCard : Claim7 := { stood := { row := printsAlikeRow, standIns := [], harness := (true, "7f2c0d34420372a6a01165cac85d65707ec7e6d373560871244ce32cfb8b7c1c"), looks := false }, kinds := [], alts := [], laidByText := true, laidKinds := [.data, .data, .data, .widerDeep], laidTests := true, laidLooks := .later }
def PrintsAlikeCardSaid : Prop := Claim7.holds Tryd.pinned (.plain (OpenSpec.ofChange printsAlikeSpec)) printsAlikeCard

/-- THE TIED CARD OF 'redresslaw14.PrintsTypes'. -/
def printsTypesCard : Claim7 := { stood := { row := printsTypesRow, standIns := [], harness := (true, "7f2c0d34420372a6a01165cac85d65707ec7e6d373560871244ce32cfb8b7c1c"), looks := false }, kinds := [], alts := [], laidByText := true, laidKinds := [.data, .data, .data, .widerDeep], laidTests := true, laidLooks := .later }
def PrintsTypesCardSaid : Prop := Claim7.holds Tryd.pinned (.plain (OpenSpec.ofChange printsTypesSpec)) printsTypesCard

/-- THE SECOND FORM's CARD OF 'redresslaw14.PrintsAlike'. -/
def printsAlikeUptoCard : Claim7 := { stood := { row := printsAlikeUptoRow, standIns := [], harness := (true, "7f2c0d34420372a6a01165cac85d65707ec7e6d373560871244ce32cfb8b7c1c"), looks := false }, kinds := [], alts := [], laidByText := true, laidKinds := [.data, .data, .data, .widerDeep], laidTests := true, laidLooks := .later }
def PrintsAlikeUptoCardSaid : Prop := Claim7.holds Tryd.pinned (.plain (OpenSpec.upto printsAlikeSpec)) printsAlikeUptoCard

/-- THE SECOND FORM's CARD OF 'redresslaw14.PrintsTypes'. -/
def printsTypesUptoCard : Claim7 := { stood := { row := printsTypesUptoRow, standIns := [], harness := (true, "7f2c0d34420372a6a01165cac85d65707ec7e6d373560871244ce32cfb8b7c1c"), looks := false }, kinds := [], alts := [], laidByText := true, laidKinds := [.data, .data, .data, .widerDeep], laidTests := true, laidLooks := .later }
def PrintsTypesUptoCardSaid : Prop := Claim7.holds Tryd.pinned (.plain (OpenSpec.upto printsTypesSpec)) printsTypesUptoCard
end Rows
end Go.Proofs.YtmncppnpppdfkaaDoor
