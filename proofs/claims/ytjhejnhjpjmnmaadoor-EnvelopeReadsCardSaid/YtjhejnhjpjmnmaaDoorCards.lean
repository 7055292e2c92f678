/-
  DERIVED. GIVEN WITH THE SEED: THE CARDS: each row of YtjhejnhjpjmnmaaDoorRows.lean that lists a variable, with what it lists TIED to the program's text (the seventh form; the later family's looks); each row that meets fmt, with fmt's text TOLD by the authors' own Lean function (tested against real Go, not proved from fmt's source: count such statements apart). THE CARD IS WHAT COUNTS. Prove the row's statement (the work); the ties are given (YtjhejnhjpjmnmaaDoorTie.lean); close each card by the builder's one call (the guide's Derived/Test/ToyasCard.lean, 'card_holds'). Laid BY PROGRAM, IN A SANDBOX (cutbox-door.mjs). By AI agents, Wed Nov 11 2026. No macro, syntax, notation, axiom, sorry.
-/
import Derived.Test.YtjhejnhjpjmnmaaDoorRows
import GoSem.ClaimSeven
namespace Go.Proofs.YtjhejnhjpjmnmaaDoor
namespace Rows

/-- THE TIED CARD OF 'redresslaw17.EnvelopePacks'. -/
def envelopePacksCard : Claim7 := { stood := { row := envelopePacksRow, standIns := [], harness := (true, "05c6c2e737c6e109c7396892f450a3421576d88a24ab7c67903e9e277ad03f3a"), looks := false }, kinds := [], alts := [], laidByText := true, laidKinds := [.widerDeep], laidTests := true, laidLooks := .later }
def EnvelopePacksCardSaid : Prop := Claim7.holds Tryd.pinned (.plain (OpenSpec.ofChange envelopePacksSpec)) envelopePacksCard

/-- THE TIED CARD OF 'redresslaw17.EnvelopeReads'. -/
def envelopeReadsCard : Claim7 := { stood := { row := envelopeReadsRow, standIns := [], harness := (true, "05c6c2e737c6e109c7396892f450a3421576d88a24ab7c67903e9e277ad03f3a"), looks := false }, kinds := [], alts := [], laidByText := true, laidKinds := [.widerDeep], laidTests := true, laidLooks := .later }
def EnvelopeReadsCardSaid : Prop := Claim7.holds Tryd.pinned (.plain (OpenSpec.ofChange envelopeReadsSpec)) envelopeReadsCard

/-- THE TIED CARD OF 'redresslaw17.EnvelopeBack'. -/
def envelopeBackCard : Claim7 := { stood := { row := envelopeBackRow, standIns := [], harness := (true, "05c6c2e737c6e109c7396892f450a3421576d88a24ab7c67903e9e277ad03f3a"), looks := false }, kinds := [], alts := [], laidByText := true, laidKinds := [.widerDeep], laidTests := true, laidLooks := .later }
def EnvelopeBackCardSaid : Prop := Claim7.holds Tryd.pinned (.plain (OpenSpec.ofChange envelopeBackSpec)) envelopeBackCard

/-- THE TIED CARD OF 'redresslaw17.EnvelopeBurst'. -/
def envelopeBurstCard : Claim7 := { stood := { row := envelopeBurstRow, standIns := [], harness := (true, "05c6c2e737c6e109c7396892f450a3421576d88a24ab7c67903e9e277ad03f3a"), looks := false }, kinds := [], alts := [], laidByText := true, laidKinds := [.widerDeep], laidTests := true, laidLooks := .later }
def EnvelopeBurstCardSaid : Prop := Claim7.holds Tryd.pinned (.plain (OpenSpec.ofChange envelopeBurstSpec)) envelopeBurstCard

/-- THE TIED CARD OF 'redresslaw17.EnvelopeAnswers'. -/
def envelopeAnswersCard : Claim7 := { stood := { row := envelopeAnswersRow, standIns := [], harness := (true, "05c6c2e737c6e109c7396892f450a3421576d88a24ab7c67903e9e277ad03f3a"), looks := false }, kinds := [], alts := [], laidByText := true, laidKinds := [.widerDeep], laidTests := true, laidLooks := .later }
def EnvelopeAnswersCardSaid : Prop := Claim7.holds Tryd.pinned (.plain (OpenSpec.ofChange envelopeAnswersSpec)) envelopeAnswersCard

/-- THE TIED CARD OF 'redresslaw17.EnvelopeTwo'. -/
def envelopeTwoCard : Claim7 := { stood := { row := envelopeTwoRow, standIns := [], harness := (true, "05c6c2e737c6e109c7396892f450a3421576d88a24ab7c67903e9e277ad03f3a"), looks := false }, kinds := [], alts := [], laidByText := true, laidKinds := [.widerDeep], laidTests := true, laidLooks := .later }
def EnvelopeTwoCardSaid : Prop := Claim7.holds Tryd.pinned (.plain (OpenSpec.ofChange envelopeTwoSpec)) envelopeTwoCard

/-- THE SECOND FORM's CARD OF 'redresslaw17.EnvelopePacks'. -/
def envelopePacksUptoCard : Claim7 := { stood := { row := envelopePacksUptoRow, standIns := [], harness := (true, "05c6c2e737c6e109c7396892f450a3421576d88a24ab7c67903e9e277ad03f3a"), looks := false }, kinds := [], alts := [], laidByText := true, laidKinds := [.widerDeep], laidTests := true, laidLooks := .later }
def EnvelopePacksUptoCardSaid : Prop := Claim7.holds Tryd.pinned (.plain (OpenSpec.upto envelopePacksSpec)) envelopePacksUptoCard

/-- THE SECOND FORM's CARD OF 'redresslaw17.EnvelopeReads'. -/
def envelopeReadsUptoCard : Claim7 := { stood := { row := envelopeReadsUptoRow, standIns := [], harness := (true, "05c6c2e737c6e109c7396892f450a3421576d88a24ab7c67903e9e277ad03f3a"), looks := false }, kinds := [], alts := [], laidByText := true, laidKinds := [.widerDeep], laidTests := true, laidLooks := .later }
def EnvelopeReadsUptoCardSaid : Prop := Claim7.holds Tryd.pinned (.plain (OpenSpec.upto envelopeReadsSpec)) envelopeReadsUptoCard

/-- THE SECOND FORM's CARD OF 'redresslaw17.EnvelopeBack'. -/
def envelopeBackUptoCard : Claim7 := { stood := { row := envelopeBackUptoRow, standIns := [], harness := (true, "05c6c2e737c6e109c7396892f450a3421576d88a24ab7c67903e9e277ad03f3a"), looks := false }, kinds := [], alts := [], laidByText := true, laidKinds := [.widerDeep], laidTests := true, laidLooks := .later }
def EnvelopeBackUptoCardSaid : Prop := Claim7.holds Tryd.pinned (.plain (OpenSpec.upto envelopeBackSpec)) envelopeBackUptoCard

/-- THE SECOND FORM's CARD OF 'redresslaw17.EnvelopeBurst'. -/
def envelopeBurstUptoCard : Claim7 := { stood := { row := envelopeBurstUptoRow, standIns := [], harness := (true, "05c6c2e737c6e109c7396892f450a3421576d88a24ab7c67903e9e277ad03f3a"), looks := false }, kinds := [], alts := [], laidByText := true, laidKinds := [.widerDeep], laidTests := true, laidLooks := .later }
def EnvelopeBurstUptoCardSaid : Prop := Claim7.holds Tryd.pinned (.plain (OpenSpec.upto envelopeBurstSpec)) envelopeBurstUptoCard

/-- THE SECOND FORM's CARD OF 'redresslaw17.EnvelopeAnswers'. -/
def envelopeAnswersUptoCard : Claim7 := { stood := { row := envelopeAnswersUptoRow, standIns := [], harness := (true, "05c6c2e737c6e109c7396892f450a3421576d88a24ab7c67903e9e277ad03f3a"), looks := false }, kinds := [], alts := [], laidByText := true, laidKinds := [.widerDeep], laidTests := true, laidLooks := .later }
def EnvelopeAnswersUptoCardSaid : Prop := Claim7.holds Tryd.pinned (.plain (OpenSpec.upto envelopeAnswersSpec)) envelopeAnswersUptoCard

/-- THE SECOND FORM's CARD OF 'redresslaw17.EnvelopeTwo'. -/
def envelopeTwoUptoCard : Claim7 := { stood := { row := envelopeTwoUptoRow, standIns := [], harness := (true, "05c6c2e737c6e109c7396892f450a3421576d88a24ab7c67903e9e277ad03f3a"), looks := false }, kinds := [], alts := [], laidByText := true, laidKinds := [.widerDeep], laidTests := true, laidLooks := .later }
def EnvelopeTwoUptoCardSaid : Prop := Claim7.holds Tryd.pinned (.plain (OpenSpec.upto envelopeTwoSpec)) envelopeTwoUptoCard
end Rows
end Go.Proofs.YtjhejnhjpjmnmaaDoor
