/- redressref13: names (printed by gen_rchk1.py). No condition. -/
import Derived.Test.YtmncppnpppdfkaaDoorChkDoc
import Derived.Test.YtmncppnpppdfkaaDoorChkFewer
set_option linter.unusedVariables false
set_option linter.unusedSimpArgs false
namespace Go.Proofs.YtmncppnpppdfkaaDoor
open Go.RowKit Go.BigFrame
namespace Chk
open Go.Proofs.YtmncppnpppdfkaaDoor.Id
def ansV (o : Option ByteArray) : Value := .tuple #[.string (o.getD ⟨#[]⟩), .bool o.isNone]
end Chk
theorem rname_s (s : ByteArray) (w : World) : Calls Tryd.prog 27 #[.string s] w fun e w' => e = .returned (.bool (Tk.isName s)) ∧ w = w' := (rname_any s w).mono fun _ _ ⟨h1, h2⟩ => ⟨h1, h2.symm⟩
end Go.Proofs.YtmncppnpppdfkaaDoor
