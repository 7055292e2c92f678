/-
  NARROWER THAN 'FOR EVERY INPUT', by the rows' own cells (each row's printed sentence says how): EnvelopePacks: laid · EnvelopeReads: laid · EnvelopeBack: laid · EnvelopeBurst: laid · EnvelopeAnswers: laid · EnvelopeTwo: laid.
  DERIVED. THE GIVEN ROWS OF THIS SEAT. 6 by the template 'for every input the law returns true; each argument reads behind the call as it read before'; 0 by the template 'total and deterministic' (their statements: YtjhejnhjpjmnmaaDoorTotals.lean).
  GIVEN WITH THE SEED: the statements are not yours to turn. If you find one false, say at which input.
  Laid BY PROGRAM, IN A SANDBOX (cutbox-rows.mjs): the forced cells as the released guide's own fill.sh prints them over the translation 468370269396ed11… (all of the seat's roots in one cut). By AI agents, Wed Nov 11 2026. No macro, syntax, notation, axiom, sorry.
-/
import Derived.Test.YtjhejnhjpjmnmaaDoorChecked
import GoSem.Claim
import GoSem.ClaimJoined
import GoSem.ClaimMapViews
import Derived.JoinedTies
import Derived.KernelRfl
namespace Go.Proofs.YtjhejnhjpjmnmaaDoor
/- THE CELL 'sum', in the pinned program and in every row, IS THE sha256 OF THE DUMP (.gsa) THAT YtjhejnhjpjmnmaaDoorProg.lean LOADS. Nothing in Lean hashes anything: it is a label: what it is worth is what the hold of that sum in a sandbox is worth. -/
noncomputable def Tryd.pinned : Pinned := { name := "ytjhejnhjpjmnmaadoor", sum := "468370269396ed11cbc31a099ca358ec96a5f7a2add984833dded4ce81aa70ad", checked := Tryd.checked }
namespace Rows
def none {H : Type} : Left H := { results := [], args := [] }

/- WHAT THE LISTED PACKAGE-LEVEL VARIABLES READ AS WHEN THE CALL BEGINS. Each datum BY PROGRAM (the guide's laid-datum.mjs) off the statement by which the dump's own 'gosem.cut.vars' lays the variable. In a bare row this is a premise. The card (YtjhejnhjpjmnmaaDoorCards.lean) ties it to the program's text. -/
def laid_redress_token_keywords {H : Type} : DataW H := .agg [.lit (.string [109, 111, 100, 117, 108, 101]), .lit (.string [114, 101, 99, 111, 114, 100]), .lit (.string [99, 104, 111, 105, 99, 101]), .lit (.string [115, 101, 114, 118, 105, 99, 101]), .lit (.string [115, 97, 103, 97]), .lit (.string [100, 111]), .lit (.string [97, 116]), .lit (.string [117, 110, 100, 111]), .lit (.string [103, 105, 118, 101]), .lit (.string [116, 97, 107, 101]), .lit (.string [110, 111, 116, 101]), .lit (.string [110, 111, 110, 101]), .lit (.string [98, 111, 111, 108]), .lit (.string [105, 110, 116]), .lit (.string [116, 101, 120, 116]), .lit (.string [108, 105, 115, 116]), .lit (.string [111, 112, 116])]

/-- 'redresslaw17.EnvelopePacks': WHATEVER THE INPUT: true; the input reads as it did. -/
def envelopePacksSpec : ChangeSpec := { name := "envelopePacks", fn := fun _ => fun
  | [d] => { results := [.lit (.bool true)], args := [d] }
  | _ => none }
def envelopePacksRow : OpenClaim := { program := "ytjhejnhjpjmnmaadoor", sum := "468370269396ed11cbc31a099ca358ec96a5f7a2add984833dded4ce81aa70ad", func := "redress/redresslaw17.EnvelopePacks", spec := "envelopePacks", unfollowed := true, recurses := true, named := ["redress/token.keywords"], apart := false, laid := [("redress/token.keywords", laid_redress_token_keywords)] }
def EnvelopePacksSaid : Prop := envelopePacksRow.holds Tryd.pinned (OpenSpec.ofChange envelopePacksSpec)

/-- ITS FALSE NEIGHBOUR: 'it returns false'. Refute it at one input. -/
def envelopePacksWrong : ChangeSpec := { name := "envelopePacks", fn := fun _ => fun
  | [d] => { results := [.lit (.bool false)], args := [d] }
  | _ => none }
def EnvelopePacksWrongFalsely : Prop := envelopePacksRow.holds Tryd.pinned (OpenSpec.ofChange envelopePacksWrong)

/-- 'redresslaw17.EnvelopeReads': WHATEVER THE INPUT: true; the input reads as it did. -/
def envelopeReadsSpec : ChangeSpec := { name := "envelopeReads", fn := fun _ => fun
  | [d] => { results := [.lit (.bool true)], args := [d] }
  | _ => none }
def envelopeReadsRow : OpenClaim := { program := "ytjhejnhjpjmnmaadoor", sum := "468370269396ed11cbc31a099ca358ec96a5f7a2add984833dded4ce81aa70ad", func := "redress/redresslaw17.EnvelopeReads", spec := "envelopeReads", unfollowed := true, recurses := true, named := ["redress/token.keywords"], apart := false, laid := [("redress/token.keywords", laid_redress_token_keywords)] }
def EnvelopeReadsSaid : Prop := envelopeReadsRow.holds Tryd.pinned (OpenSpec.ofChange envelopeReadsSpec)

/-- ITS FALSE NEIGHBOUR: 'it returns false'. Refute it at one input. -/
def envelopeReadsWrong : ChangeSpec := { name := "envelopeReads", fn := fun _ => fun
  | [d] => { results := [.lit (.bool false)], args := [d] }
  | _ => none }
def EnvelopeReadsWrongFalsely : Prop := envelopeReadsRow.holds Tryd.pinned (OpenSpec.ofChange envelopeReadsWrong)

/-- 'redresslaw17.EnvelopeBack': WHATEVER THE INPUT: true; the input reads as it did. -/
def envelopeBackSpec : ChangeSpec := { name := "envelopeBack", fn := fun _ => fun
  | [d1, d2] => { results := [.lit (.bool true)], args := [d1, d2] }
  | _ => none }
def envelopeBackRow : OpenClaim := { program := "ytjhejnhjpjmnmaadoor", sum := "468370269396ed11cbc31a099ca358ec96a5f7a2add984833dded4ce81aa70ad", func := "redress/redresslaw17.EnvelopeBack", spec := "envelopeBack", unfollowed := true, recurses := true, named := ["redress/token.keywords"], apart := false, laid := [("redress/token.keywords", laid_redress_token_keywords)] }
def EnvelopeBackSaid : Prop := envelopeBackRow.holds Tryd.pinned (OpenSpec.ofChange envelopeBackSpec)

/-- ITS FALSE NEIGHBOUR: 'it returns false'. Refute it at one input. -/
def envelopeBackWrong : ChangeSpec := { name := "envelopeBack", fn := fun _ => fun
  | [d1, d2] => { results := [.lit (.bool false)], args := [d1, d2] }
  | _ => none }
def EnvelopeBackWrongFalsely : Prop := envelopeBackRow.holds Tryd.pinned (OpenSpec.ofChange envelopeBackWrong)

/-- 'redresslaw17.EnvelopeBurst': WHATEVER THE INPUT: true; the input reads as it did. -/
def envelopeBurstSpec : ChangeSpec := { name := "envelopeBurst", fn := fun _ => fun
  | [d1, d2, d3] => { results := [.lit (.bool true)], args := [d1, d2, d3] }
  | _ => none }
def envelopeBurstRow : OpenClaim := { program := "ytjhejnhjpjmnmaadoor", sum := "468370269396ed11cbc31a099ca358ec96a5f7a2add984833dded4ce81aa70ad", func := "redress/redresslaw17.EnvelopeBurst", spec := "envelopeBurst", unfollowed := true, recurses := true, named := ["redress/token.keywords"], apart := false, laid := [("redress/token.keywords", laid_redress_token_keywords)] }
def EnvelopeBurstSaid : Prop := envelopeBurstRow.holds Tryd.pinned (OpenSpec.ofChange envelopeBurstSpec)

/-- ITS FALSE NEIGHBOUR: 'it returns false'. Refute it at one input. -/
def envelopeBurstWrong : ChangeSpec := { name := "envelopeBurst", fn := fun _ => fun
  | [d1, d2, d3] => { results := [.lit (.bool false)], args := [d1, d2, d3] }
  | _ => none }
def EnvelopeBurstWrongFalsely : Prop := envelopeBurstRow.holds Tryd.pinned (OpenSpec.ofChange envelopeBurstWrong)

/-- 'redresslaw17.EnvelopeAnswers': WHATEVER THE INPUT: true; the input reads as it did. -/
def envelopeAnswersSpec : ChangeSpec := { name := "envelopeAnswers", fn := fun _ => fun
  | [d1, d2, d3] => { results := [.lit (.bool true)], args := [d1, d2, d3] }
  | _ => none }
def envelopeAnswersRow : OpenClaim := { program := "ytjhejnhjpjmnmaadoor", sum := "468370269396ed11cbc31a099ca358ec96a5f7a2add984833dded4ce81aa70ad", func := "redress/redresslaw17.EnvelopeAnswers", spec := "envelopeAnswers", unfollowed := true, recurses := true, named := ["redress/token.keywords"], apart := false, laid := [("redress/token.keywords", laid_redress_token_keywords)] }
def EnvelopeAnswersSaid : Prop := envelopeAnswersRow.holds Tryd.pinned (OpenSpec.ofChange envelopeAnswersSpec)

/-- ITS FALSE NEIGHBOUR: 'it returns false'. Refute it at one input. -/
def envelopeAnswersWrong : ChangeSpec := { name := "envelopeAnswers", fn := fun _ => fun
  | [d1, d2, d3] => { results := [.lit (.bool false)], args := [d1, d2, d3] }
  | _ => none }
def EnvelopeAnswersWrongFalsely : Prop := envelopeAnswersRow.holds Tryd.pinned (OpenSpec.ofChange envelopeAnswersWrong)

/-- 'redresslaw17.EnvelopeTwo': WHATEVER THE INPUT: true; the input reads as it did. -/
def envelopeTwoSpec : ChangeSpec := { name := "envelopeTwo", fn := fun _ => fun
  | [d1, d2, d3] => { results := [.lit (.bool true)], args := [d1, d2, d3] }
  | _ => none }
def envelopeTwoRow : OpenClaim := { program := "ytjhejnhjpjmnmaadoor", sum := "468370269396ed11cbc31a099ca358ec96a5f7a2add984833dded4ce81aa70ad", func := "redress/redresslaw17.EnvelopeTwo", spec := "envelopeTwo", unfollowed := true, recurses := true, named := ["redress/token.keywords"], apart := false, laid := [("redress/token.keywords", laid_redress_token_keywords)] }
def EnvelopeTwoSaid : Prop := envelopeTwoRow.holds Tryd.pinned (OpenSpec.ofChange envelopeTwoSpec)

/-- ITS FALSE NEIGHBOUR: 'it returns false'. Refute it at one input. -/
def envelopeTwoWrong : ChangeSpec := { name := "envelopeTwo", fn := fun _ => fun
  | [d1, d2, d3] => { results := [.lit (.bool false)], args := [d1, d2, d3] }
  | _ => none }
def EnvelopeTwoWrongFalsely : Prop := envelopeTwoRow.holds Tryd.pinned (OpenSpec.ofChange envelopeTwoWrong)

/- THE SECOND FORM. 'bulk': how many values and letters a reading holds, each counted each time it is reached (what is shared counts as often as it is met; a slice's spare places count too). A statement '..UptoSaid' is the law's where the arguments, and the package variables that the reading takes, are together of bulk at most 1048576: NARROWER than '..Said'. Prove '..Said' where nothing that the law and all that it calls make is longer than what came in: it says more and counts as full. Else prove '..UptoSaid'. A law counts once. -/
mutual
def uptoBulk {H : Type} : DataW H → Nat
  | .lit (.string bytes) => bytes.length + 1
  | .lit _ => 1
  | .nil => 1
  | .ptr d => uptoBulk d + 1
  | .slice elems spare => uptoBulkAll elems + uptoBulkAll spare + 1
  | .agg parts => uptoBulkAll parts + 1
  | .iface _ d => uptoBulk d + 1
  | .map entries => uptoBulkEntries entries + 1
  | .held _ => 1
def uptoBulkAll {H : Type} : List (DataW H) → Nat
  | [] => 0
  | d :: r => uptoBulk d + uptoBulkAll r
def uptoBulkEntries {H : Type} : List (Lit × DataW H) → Nat
  | [] => 0
  | x :: r => uptoBulkEntry x + uptoBulkEntries r
def uptoBulkEntry {H : Type} : Lit × DataW H → Nat
  | (.string bytes, d) => bytes.length + uptoBulk d + 1
  | (_, d) => uptoBulk d + 1
 end
def uptoSmall : (H : Type) → List (DataW H) → Bool := fun _ ds => decide (uptoBulkAll ds ≤ 1048576)
def OpenSpec.upto (s : _root_.Go.ChangeSpec) : _root_.Go.OpenSpec := { _root_.Go.OpenSpec.ofChange s with cond := some uptoSmall }

/-- 'redresslaw17.EnvelopePacks', WHERE WHAT IT READS IS OF BULK AT MOST 1048576: true; the input reads as it did. -/
def envelopePacksUptoRow : OpenClaim := { program := "ytjhejnhjpjmnmaadoor", sum := "468370269396ed11cbc31a099ca358ec96a5f7a2add984833dded4ce81aa70ad", func := "redress/redresslaw17.EnvelopePacks", spec := "envelopePacks", unfollowed := true, recurses := true, named := ["redress/token.keywords"], apart := false, laid := [("redress/token.keywords", laid_redress_token_keywords)], narrowed := true }
def EnvelopePacksUptoSaid : Prop := envelopePacksUptoRow.holds Tryd.pinned (OpenSpec.upto envelopePacksSpec)

/-- 'redresslaw17.EnvelopeReads', WHERE WHAT IT READS IS OF BULK AT MOST 1048576: true; the input reads as it did. -/
def envelopeReadsUptoRow : OpenClaim := { program := "ytjhejnhjpjmnmaadoor", sum := "468370269396ed11cbc31a099ca358ec96a5f7a2add984833dded4ce81aa70ad", func := "redress/redresslaw17.EnvelopeReads", spec := "envelopeReads", unfollowed := true, recurses := true, named := ["redress/token.keywords"], apart := false, laid := [("redress/token.keywords", laid_redress_token_keywords)], narrowed := true }
def EnvelopeReadsUptoSaid : Prop := envelopeReadsUptoRow.holds Tryd.pinned (OpenSpec.upto envelopeReadsSpec)

/-- 'redresslaw17.EnvelopeBack', WHERE WHAT IT READS IS OF BULK AT MOST 1048576: true; the input reads as it did. -/
def envelopeBackUptoRow : OpenClaim := { program := "ytjhejnhjpjmnmaadoor", sum := "468370269396ed11cbc31a099ca358ec96a5f7a2add984833dded4ce81aa70ad", func := "redress/redresslaw17.EnvelopeBack", spec := "envelopeBack", unfollowed := true, recurses := true, named := ["redress/token.keywords"], apart := false, laid := [("redress/token.keywords", laid_redress_token_keywords)], narrowed := true }
def EnvelopeBackUptoSaid : Prop := envelopeBackUptoRow.holds Tryd.pinned (OpenSpec.upto envelopeBackSpec)

/-- 'redresslaw17.EnvelopeBurst', WHERE WHAT IT READS IS OF BULK AT MOST 1048576: true; the input reads as it did. -/
def envelopeBurstUptoRow : OpenClaim := { program := "ytjhejnhjpjmnmaadoor", sum := "468370269396ed11cbc31a099ca358ec96a5f7a2add984833dded4ce81aa70ad", func := "redress/redresslaw17.EnvelopeBurst", spec := "envelopeBurst", unfollowed := true, recurses := true, named := ["redress/token.keywords"], apart := false, laid := [("redress/token.keywords", laid_redress_token_keywords)], narrowed := true }
def EnvelopeBurstUptoSaid : Prop := envelopeBurstUptoRow.holds Tryd.pinned (OpenSpec.upto envelopeBurstSpec)

/-- 'redresslaw17.EnvelopeAnswers', WHERE WHAT IT READS IS OF BULK AT MOST 1048576: true; the input reads as it did. -/
def envelopeAnswersUptoRow : OpenClaim := { program := "ytjhejnhjpjmnmaadoor", sum := "468370269396ed11cbc31a099ca358ec96a5f7a2add984833dded4ce81aa70ad", func := "redress/redresslaw17.EnvelopeAnswers", spec := "envelopeAnswers", unfollowed := true, recurses := true, named := ["redress/token.keywords"], apart := false, laid := [("redress/token.keywords", laid_redress_token_keywords)], narrowed := true }
def EnvelopeAnswersUptoSaid : Prop := envelopeAnswersUptoRow.holds Tryd.pinned (OpenSpec.upto envelopeAnswersSpec)

/-- 'redresslaw17.EnvelopeTwo', WHERE WHAT IT READS IS OF BULK AT MOST 1048576: true; the input reads as it did. -/
def envelopeTwoUptoRow : OpenClaim := { program := "ytjhejnhjpjmnmaadoor", sum := "468370269396ed11cbc31a099ca358ec96a5f7a2add984833dded4ce81aa70ad", func := "redress/redresslaw17.EnvelopeTwo", spec := "envelopeTwo", unfollowed := true, recurses := true, named := ["redress/token.keywords"], apart := false, laid := [("redress/token.keywords", laid_redress_token_keywords)], narrowed := true }
def EnvelopeTwoUptoSaid : Prop := envelopeTwoUptoRow.holds Tryd.pinned (OpenSpec.upto envelopeTwoSpec)

end Rows
end Go.Proofs.YtjhejnhjpjmnmaaDoor
