/- prints, plain: a schema's words and their text. No condition. -/
import Derived.Test.YtmncppnpppdfkaaDoorIdlK2
import Derived.Lib.ItoaMem
set_option linter.unusedVariables false
set_option linter.unusedSimpArgs false
namespace Go.Proofs.YtmncppnpppdfkaaDoor
namespace Prn
open Go.Proofs.YtmncppnpppdfkaaDoor.Id
def wBool : ByteArray := ⟨#[98, 111, 111, 108]⟩
def wText : ByteArray := ⟨#[116, 101, 120, 116]⟩
def sortW (x : Srt) : ByteArray := if x.kind = 1 then wNone else if x.kind = 2 then wBool else if x.kind = 3 then wInt else if x.kind = 4 then wText else if x.kind = 5 then wList else if x.kind = 6 then wOpt else x.name
def numW (n : Int) : ByteArray := ⟨(Lib.itoa n).toArray⟩
def fldW (f : Fld) : List ByteArray := f.name :: sColon :: (f.type.map sortW ++ [sSemi])
def recW (r : Rec) : List ByteArray := (if r.choice then wChoice else wRecord) :: r.name :: sLeft :: (r.fields.flatMap fldW ++ [sRight])
def undoW (m : Mth) : List ByteArray := if m.undo.toList.isEmpty then [] else [wUndo, m.undo]
def mthW (m : Mth) : List ByteArray := m.effect :: m.name :: sOpen :: m.arg :: sClose :: sArrow :: sortW ⟨m.result, ⟨#[]⟩⟩ :: (undoW m ++ [sSemi])
def svcW (v : Svc) : List ByteArray := wService :: v.name :: sLeft :: (v.methods.flatMap mthW ++ [sRight])
def stpW (p : Stp) : List ByteArray := [wDo, p.service, sDot, p.method, wAt, numW p.at_, sSemi]
def sagW (g : Sag) : List ByteArray := wSaga :: g.name :: sOpen :: g.arg :: sClose :: sLeft :: (g.steps.flatMap stpW ++ [sRight])
def schW (x : Sch) : List ByteArray := wModule :: x.name :: sSemi :: (x.records.flatMap recW ++ (x.services.flatMap svcW ++ x.sagas.flatMap sagW))
/-- Words, a blank between any two. -/
def jl : List ByteArray → List UInt8
  | [] => []
  | w :: l => w.data.toList ++ l.flatMap fun u => 32 :: u.data.toList
def jn (l : List ByteArray) : ByteArray := ⟨(jl l).toArray⟩
theorem jn_data (l : List ByteArray) : (jn l).data.toList = jl l := by simp [jn]
end Prn
end Go.Proofs.YtmncppnpppdfkaaDoor
