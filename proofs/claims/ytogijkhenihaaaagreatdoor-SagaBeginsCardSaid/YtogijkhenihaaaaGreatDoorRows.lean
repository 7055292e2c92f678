/-
  NARROWER THAN 'FOR EVERY INPUT', by the rows' own cells (each row's printed sentence says how): TopCodec: laid · SagaBegins: laid · SagaEnds: laid · SagaShape: laid · SagaPacks: laid · SagaBack: laid.
  DERIVED. THE GIVEN ROWS OF THIS SEAT. 6 by the template 'for every input the law returns true; each argument reads behind the call as it read before'; 0 by the template 'total and deterministic' (their statements: YtogijkhenihaaaaGreatDoorTotals.lean).
  GIVEN WITH THE SEED: the statements are not yours to turn. If you find one false, say at which input.
  Laid BY PROGRAM, IN A SANDBOX (cutbox-rows.mjs): the forced cells as the released guide's own fill.sh prints them over the translation d607de4fb32d88dc… (all of the seat's roots in one cut). By AI agents, Wed Nov 11 2026. No macro, syntax, notation, axiom, sorry.
-/
import Derived.Test.YtogijkhenihaaaaGreatDoorChecked
import GoSem.Claim
import GoSem.ClaimJoined
import GoSem.ClaimMapViews
import Derived.JoinedTies
import Derived.KernelRfl
namespace Go.Proofs.YtogijkhenihaaaaGreatDoor
/- THE CELL 'sum', in the pinned program and in every row, IS THE sha256 OF THE DUMP (.gsa) THAT YtogijkhenihaaaaGreatDoorProg.lean LOADS. Nothing in Lean hashes anything: it is a label: what it is worth is what the hold of that sum in a sandbox is worth. -/
noncomputable def Tryz.pinned : Pinned := { name := "ytogijkhenihaaaagreatdoor", sum := "d607de4fb32d88dc80652b2001b04e9cd1c24fd19bc6a6ecddd233b902ac3684", checked := Tryz.checked }
namespace Rows
def none {H : Type} : Left H := { results := [], args := [] }

/- WHAT THE LISTED PACKAGE-LEVEL VARIABLES READ AS WHEN THE CALL BEGINS. Each datum BY PROGRAM (the guide's laid-datum.mjs) off the statement by which the dump's own 'gosem.cut.vars' lays the variable. In a bare row this is a premise. The card (YtogijkhenihaaaaGreatDoorCards.lean) ties it to the program's text. -/
def laid_math_bits_deBruijn32tab {H : Type} : DataW H := .agg [.lit (.int .u8 0), .lit (.int .u8 1), .lit (.int .u8 28), .lit (.int .u8 2), .lit (.int .u8 29), .lit (.int .u8 14), .lit (.int .u8 24), .lit (.int .u8 3), .lit (.int .u8 30), .lit (.int .u8 22), .lit (.int .u8 20), .lit (.int .u8 15), .lit (.int .u8 25), .lit (.int .u8 17), .lit (.int .u8 4), .lit (.int .u8 8), .lit (.int .u8 31), .lit (.int .u8 27), .lit (.int .u8 13), .lit (.int .u8 23), .lit (.int .u8 21), .lit (.int .u8 19), .lit (.int .u8 16), .lit (.int .u8 7), .lit (.int .u8 26), .lit (.int .u8 12), .lit (.int .u8 18), .lit (.int .u8 6), .lit (.int .u8 11), .lit (.int .u8 5), .lit (.int .u8 10), .lit (.int .u8 9)]
def laid_math_bits_deBruijn64tab {H : Type} : DataW H := .agg [.lit (.int .u8 0), .lit (.int .u8 1), .lit (.int .u8 56), .lit (.int .u8 2), .lit (.int .u8 57), .lit (.int .u8 49), .lit (.int .u8 28), .lit (.int .u8 3), .lit (.int .u8 61), .lit (.int .u8 58), .lit (.int .u8 42), .lit (.int .u8 50), .lit (.int .u8 38), .lit (.int .u8 29), .lit (.int .u8 17), .lit (.int .u8 4), .lit (.int .u8 62), .lit (.int .u8 47), .lit (.int .u8 59), .lit (.int .u8 36), .lit (.int .u8 45), .lit (.int .u8 43), .lit (.int .u8 51), .lit (.int .u8 22), .lit (.int .u8 53), .lit (.int .u8 39), .lit (.int .u8 33), .lit (.int .u8 30), .lit (.int .u8 24), .lit (.int .u8 18), .lit (.int .u8 12), .lit (.int .u8 5), .lit (.int .u8 63), .lit (.int .u8 55), .lit (.int .u8 48), .lit (.int .u8 27), .lit (.int .u8 60), .lit (.int .u8 41), .lit (.int .u8 37), .lit (.int .u8 16), .lit (.int .u8 46), .lit (.int .u8 35), .lit (.int .u8 44), .lit (.int .u8 21), .lit (.int .u8 52), .lit (.int .u8 32), .lit (.int .u8 23), .lit (.int .u8 11), .lit (.int .u8 54), .lit (.int .u8 26), .lit (.int .u8 40), .lit (.int .u8 15), .lit (.int .u8 34), .lit (.int .u8 20), .lit (.int .u8 31), .lit (.int .u8 10), .lit (.int .u8 25), .lit (.int .u8 14), .lit (.int .u8 19), .lit (.int .u8 9), .lit (.int .u8 13), .lit (.int .u8 8), .lit (.int .u8 7), .lit (.int .u8 6)]
def laid_internal_strconv_uint64pow10 {H : Type} : DataW H := .agg [.lit (.int .u64 1), .lit (.int .u64 10), .lit (.int .u64 100), .lit (.int .u64 1000), .lit (.int .u64 10000), .lit (.int .u64 100000), .lit (.int .u64 1000000), .lit (.int .u64 10000000), .lit (.int .u64 100000000), .lit (.int .u64 1000000000), .lit (.int .u64 10000000000), .lit (.int .u64 100000000000), .lit (.int .u64 1000000000000), .lit (.int .u64 10000000000000), .lit (.int .u64 100000000000000), .lit (.int .u64 1000000000000000), .lit (.int .u64 10000000000000000), .lit (.int .u64 100000000000000000), .lit (.int .u64 1000000000000000000), .lit (.int .u64 10000000000000000000)]
def laid_redress_token_keywords {H : Type} : DataW H := .agg [.lit (.string [109, 111, 100, 117, 108, 101]), .lit (.string [114, 101, 99, 111, 114, 100]), .lit (.string [99, 104, 111, 105, 99, 101]), .lit (.string [115, 101, 114, 118, 105, 99, 101]), .lit (.string [115, 97, 103, 97]), .lit (.string [100, 111]), .lit (.string [97, 116]), .lit (.string [117, 110, 100, 111]), .lit (.string [103, 105, 118, 101]), .lit (.string [116, 97, 107, 101]), .lit (.string [110, 111, 116, 101]), .lit (.string [110, 111, 110, 101]), .lit (.string [98, 111, 111, 108]), .lit (.string [105, 110, 116]), .lit (.string [116, 101, 120, 116]), .lit (.string [108, 105, 115, 116]), .lit (.string [111, 112, 116])]
def laid_strconv_ErrRange {H : Type} : DataW H := .iface "*errors.errorString" (.ptr (.agg [.lit (.string [118, 97, 108, 117, 101, 32, 111, 117, 116, 32, 111, 102, 32, 114, 97, 110, 103, 101])]))
def laid_strconv_ErrSyntax {H : Type} : DataW H := .iface "*errors.errorString" (.ptr (.agg [.lit (.string [105, 110, 118, 97, 108, 105, 100, 32, 115, 121, 110, 116, 97, 120])]))

/-- 'redresstop.TopCodec': WHATEVER THE INPUT: true; the input reads as it did. -/
def topCodecSpec : ChangeSpec := { name := "topCodec", fn := fun _ => fun
  | [d1, d2, d3, d4, d5] => { results := [.lit (.bool true)], args := [d1, d2, d3, d4, d5] }
  | _ => none }
def topCodecRow : OpenClaim := { program := "ytogijkhenihaaaagreatdoor", sum := "d607de4fb32d88dc80652b2001b04e9cd1c24fd19bc6a6ecddd233b902ac3684", func := "redress/redresstop.TopCodec", spec := "topCodec", inPlace := ["internal/bytealg.IndexByteString", "internal/abi.NoEscape", "internal/bytealg.MakeNoZero"], unfollowed := true, recurses := true, named := ["redress/token.keywords", "internal/strconv.uint64pow10", "math/bits.deBruijn32tab", "math/bits.deBruijn64tab"], apart := false, laid := [("math/bits.deBruijn32tab", laid_math_bits_deBruijn32tab), ("math/bits.deBruijn64tab", laid_math_bits_deBruijn64tab), ("internal/strconv.uint64pow10", laid_internal_strconv_uint64pow10), ("redress/token.keywords", laid_redress_token_keywords)] }
def TopCodecSaid : Prop := topCodecRow.holds Tryz.pinned (OpenSpec.ofChange topCodecSpec)

/-- ITS FALSE NEIGHBOUR: 'it returns false'. Refute it at one input. -/
def topCodecWrong : ChangeSpec := { name := "topCodec", fn := fun _ => fun
  | [d1, d2, d3, d4, d5] => { results := [.lit (.bool false)], args := [d1, d2, d3, d4, d5] }
  | _ => none }
def TopCodecWrongFalsely : Prop := topCodecRow.holds Tryz.pinned (OpenSpec.ofChange topCodecWrong)

/-- 'redresslaw25.SagaBegins': WHATEVER THE INPUT: true; the input reads as it did. -/
def sagaBeginsSpec : ChangeSpec := { name := "sagaBegins", fn := fun _ => fun
  | [d1, d2, d3, d4, d5] => { results := [.lit (.bool true)], args := [d1, d2, d3, d4, d5] }
  | _ => none }
def sagaBeginsRow : OpenClaim := { program := "ytogijkhenihaaaagreatdoor", sum := "d607de4fb32d88dc80652b2001b04e9cd1c24fd19bc6a6ecddd233b902ac3684", func := "redress/redresslaw25.SagaBegins", spec := "sagaBegins", inPlace := ["internal/abi.NoEscape", "internal/bytealg.MakeNoZero"], unfollowed := true, recurses := true, named := ["redress/token.keywords", "internal/strconv.uint64pow10", "math/bits.deBruijn32tab", "math/bits.deBruijn64tab"], apart := false, laid := [("math/bits.deBruijn32tab", laid_math_bits_deBruijn32tab), ("math/bits.deBruijn64tab", laid_math_bits_deBruijn64tab), ("internal/strconv.uint64pow10", laid_internal_strconv_uint64pow10), ("redress/token.keywords", laid_redress_token_keywords)] }
def SagaBeginsSaid : Prop := sagaBeginsRow.holds Tryz.pinned (OpenSpec.ofChange sagaBeginsSpec)

/-- ITS FALSE NEIGHBOUR: 'it returns false'. Refute it at one input. -/
def sagaBeginsWrong : ChangeSpec := { name := "sagaBegins", fn := fun _ => fun
  | [d1, d2, d3, d4, d5] => { results := [.lit (.bool false)], args := [d1, d2, d3, d4, d5] }
  | _ => none }
def SagaBeginsWrongFalsely : Prop := sagaBeginsRow.holds Tryz.pinned (OpenSpec.ofChange sagaBeginsWrong)

/-- 'redresslaw25.SagaEnds': WHATEVER THE INPUT: true; the input reads as it did. -/
def sagaEndsSpec : ChangeSpec := { name := "sagaEnds", fn := fun _ => fun
  | [d1, d2, d3, d4, d5, d6] => { results := [.lit (.bool true)], args := [d1, d2, d3, d4, d5, d6] }
  | _ => none }
def sagaEndsRow : OpenClaim := { program := "ytogijkhenihaaaagreatdoor", sum := "d607de4fb32d88dc80652b2001b04e9cd1c24fd19bc6a6ecddd233b902ac3684", func := "redress/redresslaw25.SagaEnds", spec := "sagaEnds", inPlace := ["internal/abi.NoEscape", "internal/bytealg.MakeNoZero"], unfollowed := true, recurses := true, named := ["redress/token.keywords", "internal/strconv.uint64pow10", "math/bits.deBruijn32tab", "math/bits.deBruijn64tab"], apart := false, laid := [("math/bits.deBruijn32tab", laid_math_bits_deBruijn32tab), ("math/bits.deBruijn64tab", laid_math_bits_deBruijn64tab), ("internal/strconv.uint64pow10", laid_internal_strconv_uint64pow10), ("redress/token.keywords", laid_redress_token_keywords)] }
def SagaEndsSaid : Prop := sagaEndsRow.holds Tryz.pinned (OpenSpec.ofChange sagaEndsSpec)

/-- ITS FALSE NEIGHBOUR: 'it returns false'. Refute it at one input. -/
def sagaEndsWrong : ChangeSpec := { name := "sagaEnds", fn := fun _ => fun
  | [d1, d2, d3, d4, d5, d6] => { results := [.lit (.bool false)], args := [d1, d2, d3, d4, d5, d6] }
  | _ => none }
def SagaEndsWrongFalsely : Prop := sagaEndsRow.holds Tryz.pinned (OpenSpec.ofChange sagaEndsWrong)

/-- 'redresslaw25.SagaShape': WHATEVER THE INPUT: true; the input reads as it did. -/
def sagaShapeSpec : ChangeSpec := { name := "sagaShape", fn := fun _ => fun
  | [d1, d2, d3, d4, d5, d6] => { results := [.lit (.bool true)], args := [d1, d2, d3, d4, d5, d6] }
  | _ => none }
def sagaShapeRow : OpenClaim := { program := "ytogijkhenihaaaagreatdoor", sum := "d607de4fb32d88dc80652b2001b04e9cd1c24fd19bc6a6ecddd233b902ac3684", func := "redress/redresslaw25.SagaShape", spec := "sagaShape", inPlace := ["internal/abi.NoEscape", "internal/bytealg.MakeNoZero"], unfollowed := true, recurses := true, named := ["redress/token.keywords", "internal/strconv.uint64pow10", "math/bits.deBruijn32tab", "math/bits.deBruijn64tab"], apart := false, laid := [("math/bits.deBruijn32tab", laid_math_bits_deBruijn32tab), ("math/bits.deBruijn64tab", laid_math_bits_deBruijn64tab), ("internal/strconv.uint64pow10", laid_internal_strconv_uint64pow10), ("redress/token.keywords", laid_redress_token_keywords)] }
def SagaShapeSaid : Prop := sagaShapeRow.holds Tryz.pinned (OpenSpec.ofChange sagaShapeSpec)

/-- ITS FALSE NEIGHBOUR: 'it returns false'. Refute it at one input. -/
def sagaShapeWrong : ChangeSpec := { name := "sagaShape", fn := fun _ => fun
  | [d1, d2, d3, d4, d5, d6] => { results := [.lit (.bool false)], args := [d1, d2, d3, d4, d5, d6] }
  | _ => none }
def SagaShapeWrongFalsely : Prop := sagaShapeRow.holds Tryz.pinned (OpenSpec.ofChange sagaShapeWrong)

/-- 'redresslaw25.SagaPacks': WHATEVER THE INPUT: true; the input reads as it did. -/
def sagaPacksSpec : ChangeSpec := { name := "sagaPacks", fn := fun _ => fun
  | [d1, d2] => { results := [.lit (.bool true)], args := [d1, d2] }
  | _ => none }
def sagaPacksRow : OpenClaim := { program := "ytogijkhenihaaaagreatdoor", sum := "d607de4fb32d88dc80652b2001b04e9cd1c24fd19bc6a6ecddd233b902ac3684", func := "redress/redresslaw25.SagaPacks", spec := "sagaPacks", inPlace := ["internal/abi.NoEscape", "internal/bytealg.MakeNoZero", "internal/bytealg.IndexByteString", "internal/bytealg.IndexString"], unfollowed := true, recurses := true, named := ["redress/token.keywords", "internal/strconv.uint64pow10", "math/bits.deBruijn32tab", "math/bits.deBruijn64tab", "internal/bytealg.MaxLen", "strconv.ErrSyntax", "strconv.ErrRange"], apart := false, laid := [("math/bits.deBruijn32tab", laid_math_bits_deBruijn32tab), ("math/bits.deBruijn64tab", laid_math_bits_deBruijn64tab), ("internal/strconv.uint64pow10", laid_internal_strconv_uint64pow10), ("strconv.ErrRange", laid_strconv_ErrRange), ("strconv.ErrSyntax", laid_strconv_ErrSyntax), ("redress/token.keywords", laid_redress_token_keywords)] }
def SagaPacksSaid : Prop := sagaPacksRow.holds Tryz.pinned (OpenSpec.ofChange sagaPacksSpec)

/-- ITS FALSE NEIGHBOUR: 'it returns false'. Refute it at one input. -/
def sagaPacksWrong : ChangeSpec := { name := "sagaPacks", fn := fun _ => fun
  | [d1, d2] => { results := [.lit (.bool false)], args := [d1, d2] }
  | _ => none }
def SagaPacksWrongFalsely : Prop := sagaPacksRow.holds Tryz.pinned (OpenSpec.ofChange sagaPacksWrong)

/-- 'redresslaw25.SagaBack': WHATEVER THE INPUT: true; the input reads as it did. -/
def sagaBackSpec : ChangeSpec := { name := "sagaBack", fn := fun _ => fun
  | [d1, d2] => { results := [.lit (.bool true)], args := [d1, d2] }
  | _ => none }
def sagaBackRow : OpenClaim := { program := "ytogijkhenihaaaagreatdoor", sum := "d607de4fb32d88dc80652b2001b04e9cd1c24fd19bc6a6ecddd233b902ac3684", func := "redress/redresslaw25.SagaBack", spec := "sagaBack", inPlace := ["internal/abi.NoEscape", "internal/bytealg.MakeNoZero", "internal/bytealg.IndexByteString", "internal/bytealg.IndexString"], unfollowed := true, recurses := true, named := ["redress/token.keywords", "internal/strconv.uint64pow10", "math/bits.deBruijn32tab", "math/bits.deBruijn64tab", "internal/bytealg.MaxLen", "strconv.ErrSyntax", "strconv.ErrRange"], apart := false, laid := [("math/bits.deBruijn32tab", laid_math_bits_deBruijn32tab), ("math/bits.deBruijn64tab", laid_math_bits_deBruijn64tab), ("internal/strconv.uint64pow10", laid_internal_strconv_uint64pow10), ("strconv.ErrRange", laid_strconv_ErrRange), ("strconv.ErrSyntax", laid_strconv_ErrSyntax), ("redress/token.keywords", laid_redress_token_keywords)] }
def SagaBackSaid : Prop := sagaBackRow.holds Tryz.pinned (OpenSpec.ofChange sagaBackSpec)

/-- ITS FALSE NEIGHBOUR: 'it returns false'. Refute it at one input. -/
def sagaBackWrong : ChangeSpec := { name := "sagaBack", fn := fun _ => fun
  | [d1, d2] => { results := [.lit (.bool false)], args := [d1, d2] }
  | _ => none }
def SagaBackWrongFalsely : Prop := sagaBackRow.holds Tryz.pinned (OpenSpec.ofChange sagaBackWrong)

/- THE SECOND FORM. 'bulk': how many values and letters a reading holds, each counted each time it is reached (what is shared counts as often as it is met; a slice's spare places count too). A statement '..UptoSaid' is the law's where the arguments, and the package variables that the reading takes, are together of bulk at most 1048576: NARROWER than '..Said'. Prove '..Said' where nothing that the law and all that it calls make is longer than what came in: it says more and counts as full. Else prove '..UptoSaid'. A law counts once. -/
mutual
def uptoBulk {H : Type} : DataW H → Nat
  | .lit (.string bytes) => bytes.length + 1
  | .lit _ => 1
  | .nil => 1
  | .ptr d => uptoBulk d + 1
  | .slice elems spare => uptoBulkAll elems + uptoBulkAll spare + 1
  | .agg parts => uptoBulkAll parts + 1
  | .iface _ d => uptoBulk d + 1
  | .map entries => uptoBulkEntries entries + 1
  | .held _ => 1
def uptoBulkAll {H : Type} : List (DataW H) → Nat
  | [] => 0
  | d :: r => uptoBulk d + uptoBulkAll r
def uptoBulkEntries {H : Type} : List (Lit × DataW H) → Nat
  | [] => 0
  | x :: r => uptoBulkEntry x + uptoBulkEntries r
def uptoBulkEntry {H : Type} : Lit × DataW H → Nat
  | (.string bytes, d) => bytes.length + uptoBulk d + 1
  | (_, d) => uptoBulk d + 1
 end
def uptoSmall : (H : Type) → List (DataW H) → Bool := fun _ ds => decide (uptoBulkAll ds ≤ 1048576)
def OpenSpec.upto (s : _root_.Go.ChangeSpec) : _root_.Go.OpenSpec := { _root_.Go.OpenSpec.ofChange s with cond := some uptoSmall }

/-- 'redresstop.TopCodec', WHERE WHAT IT READS IS OF BULK AT MOST 1048576: true; the input reads as it did. -/
def topCodecUptoRow : OpenClaim := { program := "ytogijkhenihaaaagreatdoor", sum := "d607de4fb32d88dc80652b2001b04e9cd1c24fd19bc6a6ecddd233b902ac3684", func := "redress/redresstop.TopCodec", spec := "topCodec", inPlace := ["internal/bytealg.IndexByteString", "internal/abi.NoEscape", "internal/bytealg.MakeNoZero"], unfollowed := true, recurses := true, named := ["redress/token.keywords", "internal/strconv.uint64pow10", "math/bits.deBruijn32tab", "math/bits.deBruijn64tab"], apart := false, laid := [("math/bits.deBruijn32tab", laid_math_bits_deBruijn32tab), ("math/bits.deBruijn64tab", laid_math_bits_deBruijn64tab), ("internal/strconv.uint64pow10", laid_internal_strconv_uint64pow10), ("redress/token.keywords", laid_redress_token_keywords)], narrowed := true }
def TopCodecUptoSaid : Prop := topCodecUptoRow.holds Tryz.pinned (OpenSpec.upto topCodecSpec)

/-- 'redresslaw25.SagaBegins', WHERE WHAT IT READS IS OF BULK AT MOST 1048576: true; the input reads as it did. -/
def sagaBeginsUptoRow : OpenClaim := { program := "ytogijkhenihaaaagreatdoor", sum := "d607de4fb32d88dc80652b2001b04e9cd1c24fd19bc6a6ecddd233b902ac3684", func := "redress/redresslaw25.SagaBegins", spec := "sagaBegins", inPlace := ["internal/abi.NoEscape", "internal/bytealg.MakeNoZero"], unfollowed := true, recurses := true, named := ["redress/token.keywords", "internal/strconv.uint64pow10", "math/bits.deBruijn32tab", "math/bits.deBruijn64tab"], apart := false, laid := [("math/bits.deBruijn32tab", laid_math_bits_deBruijn32tab), ("math/bits.deBruijn64tab", laid_math_bits_deBruijn64tab), ("internal/strconv.uint64pow10", laid_internal_strconv_uint64pow10), ("redress/token.keywords", laid_redress_token_keywords)], narrowed := true }
def SagaBeginsUptoSaid : Prop := sagaBeginsUptoRow.holds Tryz.pinned (OpenSpec.upto sagaBeginsSpec)

/-- 'redresslaw25.SagaEnds', WHERE WHAT IT READS IS OF BULK AT MOST 1048576: true; the input reads as it did. -/
def sagaEndsUptoRow : OpenClaim := { program := "ytogijkhenihaaaagreatdoor", sum := "d607de4fb32d88dc80652b2001b04e9cd1c24fd19bc6a6ecddd233b902ac3684", func := "redress/redresslaw25.SagaEnds", spec := "sagaEnds", inPlace := ["internal/abi.NoEscape", "internal/bytealg.MakeNoZero"], unfollowed := true, recurses := true, named := ["redress/token.keywords", "internal/strconv.uint64pow10", "math/bits.deBruijn32tab", "math/bits.deBruijn64tab"], apart := false, laid := [("math/bits.deBruijn32tab", laid_math_bits_deBruijn32tab), ("math/bits.deBruijn64tab", laid_math_bits_deBruijn64tab), ("internal/strconv.uint64pow10", laid_internal_strconv_uint64pow10), ("redress/token.keywords", laid_redress_token_keywords)], narrowed := true }
def SagaEndsUptoSaid : Prop := sagaEndsUptoRow.holds Tryz.pinned (OpenSpec.upto sagaEndsSpec)

/-- 'redresslaw25.SagaShape', WHERE WHAT IT READS IS OF BULK AT MOST 1048576: true; the input reads as it did. -/
def sagaShapeUptoRow : OpenClaim := { program := "ytogijkhenihaaaagreatdoor", sum := "d607de4fb32d88dc80652b2001b04e9cd1c24fd19bc6a6ecddd233b902ac3684", func := "redress/redresslaw25.SagaShape", spec := "sagaShape", inPlace := ["internal/abi.NoEscape", "internal/bytealg.MakeNoZero"], unfollowed := true, recurses := true, named := ["redress/token.keywords", "internal/strconv.uint64pow10", "math/bits.deBruijn32tab", "math/bits.deBruijn64tab"], apart := false, laid := [("math/bits.deBruijn32tab", laid_math_bits_deBruijn32tab), ("math/bits.deBruijn64tab", laid_math_bits_deBruijn64tab), ("internal/strconv.uint64pow10", laid_internal_strconv_uint64pow10), ("redress/token.keywords", laid_redress_token_keywords)], narrowed := true }
def SagaShapeUptoSaid : Prop := sagaShapeUptoRow.holds Tryz.pinned (OpenSpec.upto sagaShapeSpec)

/-- 'redresslaw25.SagaPacks', WHERE WHAT IT READS IS OF BULK AT MOST 1048576: true; the input reads as it did. -/
def sagaPacksUptoRow : OpenClaim := { program := "ytogijkhenihaaaagreatdoor", sum := "d607de4fb32d88dc80652b2001b04e9cd1c24fd19bc6a6ecddd233b902ac3684", func := "redress/redresslaw25.SagaPacks", spec := "sagaPacks", inPlace := ["internal/abi.NoEscape", "internal/bytealg.MakeNoZero", "internal/bytealg.IndexByteString", "internal/bytealg.IndexString"], unfollowed := true, recurses := true, named := ["redress/token.keywords", "internal/strconv.uint64pow10", "math/bits.deBruijn32tab", "math/bits.deBruijn64tab", "internal/bytealg.MaxLen", "strconv.ErrSyntax", "strconv.ErrRange"], apart := false, laid := [("math/bits.deBruijn32tab", laid_math_bits_deBruijn32tab), ("math/bits.deBruijn64tab", laid_math_bits_deBruijn64tab), ("internal/strconv.uint64pow10", laid_internal_strconv_uint64pow10), ("strconv.ErrRange", laid_strconv_ErrRange), ("strconv.ErrSyntax", laid_strconv_ErrSyntax), ("redress/token.keywords", laid_redress_token_keywords)], narrowed := true }
def SagaPacksUptoSaid : Prop := sagaPacksUptoRow.holds Tryz.pinned (OpenSpec.upto sagaPacksSpec)

/-- 'redresslaw25.SagaBack', WHERE WHAT IT READS IS OF BULK AT MOST 1048576: true; the input reads as it did. -/
def sagaBackUptoRow : OpenClaim := { program := "ytogijkhenihaaaagreatdoor", sum := "d607de4fb32d88dc80652b2001b04e9cd1c24fd19bc6a6ecddd233b902ac3684", func := "redress/redresslaw25.SagaBack", spec := "sagaBack", inPlace := ["internal/abi.NoEscape", "internal/bytealg.MakeNoZero", "internal/bytealg.IndexByteString", "internal/bytealg.IndexString"], unfollowed := true, recurses := true, named := ["redress/token.keywords", "internal/strconv.uint64pow10", "math/bits.deBruijn32tab", "math/bits.deBruijn64tab", "internal/bytealg.MaxLen", "strconv.ErrSyntax", "strconv.ErrRange"], apart := false, laid := [("math/bits.deBruijn32tab", laid_math_bits_deBruijn32tab), ("math/bits.deBruijn64tab", laid_math_bits_deBruijn64tab), ("internal/strconv.uint64pow10", laid_internal_strconv_uint64pow10), ("strconv.ErrRange", laid_strconv_ErrRange), ("strconv.ErrSyntax", laid_strconv_ErrSyntax), ("redress/token.keywords", laid_redress_token_keywords)], narrowed := true }
def SagaBackUptoSaid : Prop := sagaBackUptoRow.holds Tryz.pinned (OpenSpec.upto sagaBackSpec)

end Rows
end Go.Proofs.YtogijkhenihaaaaGreatDoor
