import Derived.Test.YtogijkhenihaaaaGreatDoorGB35
set_option linter.all false
set_option maxRecDepth 100000
set_option maxHeartbeats 0
namespace Go.Proofs.YtogijkhenihaaaaGreatDoor
open Lib (hid)
open Go.BigFrame Go.RowKit
def Cd.Ed(s:Id.Sch)(q:Cd.Q4)(bb:ByteArray)(w0:World)(k:Nat)(K:Cd.S->Id.Srt->Prop):Prop:=∀(tv:Value)(t:List Id.Srt)(x:Cd.S)(vv:Cd.Q1)(w:World),(∀ y l,t=y::l->K x y)->Chk.okT s t=true->t.length<=12->Cd.Fit bb x->Below w0.heap.size w0 w->Vl.bT w (some w0.heap.size) (.slice vv.a vv.n vv.c) x.v->Id.bG w0 none tv t ->
 Calls Tryz.prog 192 #[.agg (Cd.stC q bb vv x.sz x.at_ 0),tv,.int .i64 (12 - (k:Int))] w (Cd.PtE q bb w0.heap.size w (Cd.aY s bb.data.toList k t x))
