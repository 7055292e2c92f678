/-
  DERIVED. GIVEN WITH THE SEED: THE CARDS: each row of YtjfdohhdkdjifaaGreatDoorRows.lean that lists a variable, with what it lists TIED to the program's text (the seventh form; the later family's looks); each row that meets fmt, with fmt's text TOLD by the authors' own Lean function (tested against real Go, not proved from fmt's source: count such statements apart). THE CARD IS WHAT COUNTS. Prove the row's statement (the work); the ties are given (YtjfdohhdkdjifaaGreatDoorTie.lean); close each card by the builder's one call (the guide's Derived/Test/ToyasCard.lean, 'card_holds'). Laid BY PROGRAM, IN A SANDBOX (cutbox-door.mjs). By AI agents, Wed Nov 11 2026. No macro, syntax, notation, axiom, sorry.
-/
import Derived.Test.YtjfdohhdkdjifaaGreatDoorRows
import GoSem.ClaimSeven
namespace Go.Proofs.YtjfdohhdkdjifaaGreatDoor
namespace Rows

/-- THE TIED CARD OF 'redresstop.TopCodec'. -/
def topCodecCard : Claim7 := { stood := { row := topCodecRow, standIns := [], harness := (true, "9e7766219ca2bb8afa0ca031d3b7f1ed6894e52af6458bc898abb9a385099d61"), looks := true }, kinds := [], alts := [], laidByText := true, laidKinds := [.data, .data, .data, .widerDeep], laidTests := true, laidLooks := .later }
def TopCodecCardSaid : Prop := Claim7.holds Tryz.pinned (.plain (OpenSpec.ofChange topCodecSpec)) topCodecCard

/-- THE TIED CARD OF 'redresslaw15.ValueLeasts'. -/
def valueLeastsCard : Claim7 := { stood := { row := valueLeastsRow, standIns := [], harness := (true, "9e7766219ca2bb8afa0ca031d3b7f1ed6894e52af6458bc898abb9a385099d61"), looks := true }, kinds := [], alts := [], laidByText := true, laidKinds := [.data, .data, .data, .widerDeep], laidTests := true, laidLooks := .later }
def ValueLeastsCardSaid : Prop := Claim7.holds Tryz.pinned (.plain (OpenSpec.ofChange valueLeastsSpec)) valueLeastsCard

/-- THE TIED CARD OF 'redresslaw16.CodecEncodes'. -/
def codecEncodesCard : Claim7 := { stood := { row := codecEncodesRow, standIns := [], harness := (true, "9e7766219ca2bb8afa0ca031d3b7f1ed6894e52af6458bc898abb9a385099d61"), looks := true }, kinds := [], alts := [], laidByText := true, laidKinds := [.data, .data, .data, .widerDeep], laidTests := true, laidLooks := .later }
def CodecEncodesCardSaid : Prop := Claim7.holds Tryz.pinned (.plain (OpenSpec.ofChange codecEncodesSpec)) codecEncodesCard

/-- THE TIED CARD OF 'redresslaw16.CodecBack'. -/
def codecBackCard : Claim7 := { stood := { row := codecBackRow, standIns := [], harness := (true, "9e7766219ca2bb8afa0ca031d3b7f1ed6894e52af6458bc898abb9a385099d61"), looks := true }, kinds := [], alts := [], laidByText := true, laidKinds := [.data, .data, .data, .widerDeep], laidTests := true, laidLooks := .later }
def CodecBackCardSaid : Prop := Claim7.holds Tryz.pinned (.plain (OpenSpec.ofChange codecBackSpec)) codecBackCard

/-- THE TIED CARD OF 'redresslaw16.CodecOne'. -/
def codecOneCard : Claim7 := { stood := { row := codecOneRow, standIns := [], harness := (true, "9e7766219ca2bb8afa0ca031d3b7f1ed6894e52af6458bc898abb9a385099d61"), looks := true }, kinds := [], alts := [], laidByText := true, laidKinds := [.data, .data, .data, .widerDeep], laidTests := true, laidLooks := .later }
def CodecOneCardSaid : Prop := Claim7.holds Tryz.pinned (.plain (OpenSpec.ofChange codecOneSpec)) codecOneCard

/-- THE TIED CARD OF 'redresslaw16.CodecCut'. -/
def codecCutCard : Claim7 := { stood := { row := codecCutRow, standIns := [], harness := (true, "9e7766219ca2bb8afa0ca031d3b7f1ed6894e52af6458bc898abb9a385099d61"), looks := true }, kinds := [], alts := [], laidByText := true, laidKinds := [.data, .data, .data, .widerDeep], laidTests := true, laidLooks := .later }
def CodecCutCardSaid : Prop := Claim7.holds Tryz.pinned (.plain (OpenSpec.ofChange codecCutSpec)) codecCutCard

/-- THE SECOND FORM's CARD OF 'redresstop.TopCodec'. -/
def topCodecUptoCard : Claim7 := { stood := { row := topCodecUptoRow, standIns := [], harness := (true, "9e7766219ca2bb8afa0ca031d3b7f1ed6894e52af6458bc898abb9a385099d61"), looks := true }, kinds := [], alts := [], laidByText := true, laidKinds := [.data, .data, .data, .widerDeep], laidTests := true, laidLooks := .later }
def TopCodecUptoCardSaid : Prop := Claim7.holds Tryz.pinned (.plain (OpenSpec.upto topCodecSpec)) topCodecUptoCard

/-- THE SECOND FORM's CARD OF 'redresslaw15.ValueLeasts'. -/
def valueLeastsUptoCard : Claim7 := { stood := { row := valueLeastsUptoRow, standIns := [], harness := (true, "9e7766219ca2bb8afa0ca031d3b7f1ed6894e52af6458bc898abb9a385099d61"), looks := true }, kinds := [], alts := [], laidByText := true, laidKinds := [.data, .data, .data, .widerDeep], laidTests := true, laidLooks := .later }
def ValueLeastsUptoCardSaid : Prop := Claim7.holds Tryz.pinned (.plain (OpenSpec.upto valueLeastsSpec)) valueLeastsUptoCard

/-- THE SECOND FORM's CARD OF 'redresslaw16.CodecEncodes'. -/
def codecEncodesUptoCard : Claim7 := { stood := { row := codecEncodesUptoRow, standIns := [], harness := (true, "9e7766219ca2bb8afa0ca031d3b7f1ed6894e52af6458bc898abb9a385099d61"), looks := true }, kinds := [], alts := [], laidByText := true, laidKinds := [.data, .data, .data, .widerDeep], laidTests := true, laidLooks := .later }
def CodecEncodesUptoCardSaid : Prop := Claim7.holds Tryz.pinned (.plain (OpenSpec.upto codecEncodesSpec)) codecEncodesUptoCard

/-- THE SECOND FORM's CARD OF 'redresslaw16.CodecBack'. -/
def codecBackUptoCard : Claim7 := { stood := { row := codecBackUptoRow, standIns := [], harness := (true, "9e7766219ca2bb8afa0ca031d3b7f1ed6894e52af6458bc898abb9a385099d61"), looks := true }, kinds := [], alts := [], laidByText := true, laidKinds := [.data, .data, .data, .widerDeep], laidTests := true, laidLooks := .later }
def CodecBackUptoCardSaid : Prop := Claim7.holds Tryz.pinned (.plain (OpenSpec.upto codecBackSpec)) codecBackUptoCard

/-- THE SECOND FORM's CARD OF 'redresslaw16.CodecOne'. -/
def codecOneUptoCard : Claim7 := { stood := { row := codecOneUptoRow, standIns := [], harness := (true, "9e7766219ca2bb8afa0ca031d3b7f1ed6894e52af6458bc898abb9a385099d61"), looks := true }, kinds := [], alts := [], laidByText := true, laidKinds := [.data, .data, .data, .widerDeep], laidTests := true, laidLooks := .later }
def CodecOneUptoCardSaid : Prop := Claim7.holds Tryz.pinned (.plain (OpenSpec.upto codecOneSpec)) codecOneUptoCard

/-- THE SECOND FORM's CARD OF 'redresslaw16.CodecCut'. -/
def codecCutUptoCard : Claim7 := { stood := { row := codecCutUptoRow, standIns := [], harness := (true, "9e7766219ca2bb8afa0ca031d3b7f1ed6894e52af6458bc898abb9a385099d61"), looks := true }, kinds := [], alts := [], laidByText := true, laidKinds := [.data, .data, .data, .widerDeep], laidTests := true, laidLooks := .later }
def CodecCutUptoCardSaid : Prop := Claim7.holds Tryz.pinned (.plain (OpenSpec.upto codecCutSpec)) codecCutUptoCard
end Rows
end Go.Proofs.YtjfdohhdkdjifaaGreatDoor
