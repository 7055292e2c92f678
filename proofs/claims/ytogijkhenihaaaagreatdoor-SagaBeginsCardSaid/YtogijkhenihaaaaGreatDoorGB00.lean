import Derived.Test.YtogijkhenihaaaaGreatDoorRows
import Derived.WalkKit
import Derived.WalkSpells
import Derived.WalkLawsBesides
import Derived.BigQuiet
import Derived.Handy
import Derived.Deep.OwnRows
import Derived.Deep.LoopGhost
import Derived.Deep.DeepCutAuto
import Derived.Lib.Hide
import Derived.Lib.Strings
import Derived.Deep.AppendLies
import Derived.Lib.SmallJoins
import Derived.Maps.AppendAt
import Derived.Laws.ResultCell
import Derived.Laws.AppendOwnNone
import Derived.Deep.Slices
import Derived.Deep.Fields
import Derived.ChangeSame
import Derived.Laws.Rows
import Derived.Laws.Tables
import Derived.Deep.RegionHeld3
set_option linter.all false
set_option maxRecDepth 100000
set_option maxHeartbeats 0
namespace Go.Proofs.YtogijkhenihaaaaGreatDoor
open Lib (hid)
abbrev xA:=@List.setIfInBounds_toArray
abbrev xB:=@Nat.le_refl
abbrev xC:=@List.set_cons_succ
abbrev xE:=@List.set_cons_zero
abbrev xG:=@beq_eq_false_iff_ne
abbrev xH:=@World.block_lt_of_cell?
abbrev xI:=@List.length_append
abbrev xJ:=@List.length_cons
abbrev xK:=@Nat.add_zero
abbrev xM:=@Nat.le_trans
abbrev xO:=@List.length_nil
abbrev xP:=@List.drop_of_length_le
abbrev xQ:=@List.drop_eq_getElem_cons
abbrev xR:=@List.getElem_mem
abbrev xU:=@List.append_assoc
abbrev xX:=@Bool.and_eq_true
abbrev xY:=@Int.cast_ofNat_Int
abbrev xZ:=@List.getLast?_singleton
abbrev yA:=@List.getLast?_cons_cons
abbrev yB:=@List.dropLast_singleton
abbrev yC:=@List.dropLast_cons_cons
abbrev yD:=@Array.getElem?_eq_getElem
abbrev yE:=@List.take_of_length_le
abbrev yF:=@List.getElem?_eq_getElem
abbrev yG:=@List.getD_eq_getElem?_getD
abbrev yH:=@List.mem_cons
abbrev yI:=@List.nil_append
abbrev yJ:=@List.flatMap_cons
namespace Sm
def uP(h x:Nat):Nat:=(h ^^^ x) * 1099511628211 % 18446744073709551616
def rH(h:Nat)(s:List UInt8):Nat:=s.foldl (λh x=>uP h x.toNat) h
def print(s:List UInt8):Nat:=rH 14695981039346656037 s
theorem LU(h x:Nat):uP h x<18446744073709551616:=Nat.mod_lt _ (by decide)
theorem Jp{h:Nat}(hh:h<18446744073709551616)(s:List UInt8):rH h s<18446744073709551616:=by
 induction s generalizing h with
 |nil=>exact hh
 |cons x s ih=>exact ih (LU _ _)
theorem EU(h:Nat)(s:List UInt8)(x:UInt8):rH h (s++[x])=uP (rH h s) x.toNat:=by
 unfold rH;rw[List.foldl_append,List.foldl_cons,List.foldl_nil]
end Sm
