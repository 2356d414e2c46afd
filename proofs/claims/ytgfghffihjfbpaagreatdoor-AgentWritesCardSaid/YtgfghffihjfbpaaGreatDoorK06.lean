/- lemmas for agentWrites_holds: C1. No conditions. -/
import Derived.Test.YtgfghffihjfbpaaGreatDoorProg
import Derived.Test.YtgfghffihjfbpaaGreatDoorK01
set_option linter.unusedVariables false
set_option linter.unusedSimpArgs false
namespace Go.Proofs.YtgfghffihjfbpaaGreatDoor
open Go.RowKit Go.Shelf
def inB (lo hi n:Int):Bool:=decide (lo≤n) && decide (n≤hi)
def outB (lo hi n:Int):Bool:=decide (n < lo) || decide (hi < n)
def anyOut (lo hi:Int) (xs:List Int):Bool:=xs.any (outB lo hi)
def Sp.ok (lo hi:Int) (s:Sp):Bool:=decide (lo≤s.lo∧s.lo≤s.hi) && decide (s.hi≤hi)
theorem indexfunc_int (f:FuncId) (cp:Array Value) (p:Int→Bool) (A:Option Addr) (xs:List Int) (n c:Nat) (w:World) (hn:n=xs.length) (hm:n≤9223372036854775807)
 (eg:∀args w,(callFunc f args).run Tryz.prog w= .ok (.enter f args) w) (hx:Rd w w.heap.size icell A xs)
 (hf:∀x0 w',(x0:Int)∈xs→Below w.heap.size w w'→Calls Tryz.prog f (#[.int .i64 x0] ++ cp) w' fun e w''=>e= .returned (.bool (p x0))∧Below w'.heap.size w' w'') :
 Calls Tryz.prog 114 #[.slice A n c,.func (.func f) #[] cp] w fun e w'=>∃r:Int,e= .returned (.int .i64 r)∧decide (0≤r)=xs.any p∧Below w.heap.size w w':=by
 have Hn:=hide hn;clear hn
 have Hx:=hide hx;clear hx
 have Hf:=hide hf;clear hf
 go_enter Tryz.func114,Tryz.ntmps114
 go_wp2_with fail
 go_loopw [4,8] (fun v i wr=>∃k:Nat,k≤n∧i= .int .i64 k∧Below w.heap.size w wr∧Hid (∀y∈xs.take k,p y=false)) (fun _ i _=>n-(intOf i).toNat)
 case atStart=>exact⟨0,by omega,rfl,Below.refl _ _,hide pre_nil⟩
 case round=>
  obtain⟨k,hk,rfl,hb,hpre⟩:=hrel
  by_cases hlt:k < n
  ·obtain⟨b,off,x0,rfl,hB,hxk,hc0⟩:=(Hx.out.below hb).int (i:=k) (by have:=Hn.out;omega)
   have H:=hide (Hf.out x0 wr (List.mem_of_getElem? hxk) hb)
   have Hxk:=hide hxk;clear hxk
   go_wp2_with (go_at_fn f;refine H.out.mono ?_;rintro e w' ⟨rfl,hb'⟩)
   ·go_ret
    have hp:p x0=true:=by assumption
    exact⟨k,rfl,by rw[any_hit Hxk.out hp];simp,hb.trans (hb'.mono hb.size)⟩
   ·have hp:p x0=false:=by assumption
    exact⟨⟨k+1,by omega,by go_num,hb.trans (hb'.mono hb.size),hide (pre_snoc Hxk.out hp hpre.out)⟩,by simp[intOf];omega⟩
  ·go_wp2
   go_ret
   exact⟨-1,rfl,by rw[any_miss (k:=k) (by have:=Hn.out;omega) hpre.out];simp,hb⟩
theorem containsfunc_int (f:FuncId) (cp:Array Value) (p:Int→Bool) (A:Option Addr) (xs:List Int) (n c:Nat) (w:World) (hn:n=xs.length) (hm:n≤9223372036854775807)
 (eg:∀args w,(callFunc f args).run Tryz.prog w= .ok (.enter f args) w) (hx:Rd w w.heap.size icell A xs)
 (hf:∀x0 w',(x0:Int)∈xs→Below w.heap.size w w'→Calls Tryz.prog f (#[.int .i64 x0] ++ cp) w' fun e w''=>e= .returned (.bool (p x0))∧Below w'.heap.size w' w'') :
 Calls Tryz.prog 97 #[.slice A n c,.func (.func f) #[] cp] w fun e w'=>e= .returned (.bool (xs.any p))∧Below w.heap.size w w':=by
 have H:=hide (indexfunc_int f cp p A xs n c w hn hm eg hx hf);clear hx hf hn eg
 go_enter Tryz.func97,Tryz.ntmps97
 go_wp2_with (go_at_call 114;refine H.out.mono ?_;rintro e w' ⟨r,rfl,hr,hb⟩;have Hr:=hide hr;clear hr)
 go_ret
 exact⟨by rw[←Hr.out];rfl,hb⟩
end Go.Proofs.YtgfghffihjfbpaaGreatDoor
