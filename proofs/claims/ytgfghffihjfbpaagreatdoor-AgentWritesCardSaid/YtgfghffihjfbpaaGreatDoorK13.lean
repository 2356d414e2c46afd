/- lemmas for agentWrites_holds: AG7. No conditions. -/
import Derived.Test.YtgfghffihjfbpaaGreatDoorK06
import Derived.Test.YtgfghffihjfbpaaGreatDoorK12
set_option linter.unusedVariables false
set_option linter.unusedSimpArgs false
namespace Go.Proofs.YtgfghffihjfbpaaGreatDoor
open Go.RowKit Go.Shelf
structure Sx where
 a:Int
 b:Int
 lo:Int
 hi:Int
def Sx.cells (x:Sx):List Value:=[.int .i64 x.a,.int .i64 x.b,.int .i64 x.lo,.int .i64 x.hi]
def Sx.nums (x:Sx):List Int:=[x.a,x.b,x.lo,x.hi]
theorem Sx.len (x:Sx):x.cells.length=4:=rfl
structure Mx where
 a:Int
 lo:Int
 hi:Int
def Mx.cells (x:Mx):List Value:=[.int .i64 x.a,.int .i64 x.lo,.int .i64 x.hi]
def Mx.nums (x:Mx):List Int:=[x.a,x.lo,x.hi]
theorem Mx.len (x:Mx):x.cells.length=3:=rfl
def Tells (f:FuncId) (v:Value) (xs:List Int):Prop:=∀w:World,Calls Tryz.prog f #[v] w fun e w'=>∃k:Kid,e= .returned (.slice k.A k.n k.c)∧k.xs=xs∧KidOk w' (fun b=>w.heap.size≤b) k∧Below w.heap.size w w'
theorem kid_lit {w0 w:World} (cs:Array Value) (e:TypeId) (xs:List Int) (h:cs.toList=xs.flatMap icell) (h0:xs≠[]) (hl:xs.length≤1000000) (hb:Below w0.heap.size w0 w) (n:Nat) (hn:n=xs.length) :
 ∃k:Kid,(Ending.returned (.slice (some ⟨w.heap.size,0,none⟩) n n):Ending)= .returned (.slice k.A k.n k.c)∧k.xs=xs∧KidOk (w.alloc (.cells cs e)) (fun b=>w0.heap.size≤b) k∧Below w0.heap.size w0 (w.alloc (.cells cs e)):=by
 subst hn
 have ho:=Own.lit (cells:=icell) w e 1 cs xs icell_len h hl w0.heap.size hb.size
 obtain⟨k,e1,e2,e3⟩:=KidOk.of_own ho h0
 exact⟨k,by rw[e1],e2,e3,hb.alloc hb.size _⟩
theorem sx_any (x:Sx):Tells 64 (.agg #[.int .i64 x.a,.int .i64 x.b,.int .i64 x.lo,.int .i64 x.hi]) x.nums:=by
 intro w
 obtain⟨b1,w1,e1,ew1,hx1,hb1,hz1⟩:=mk_bx w #[.int .i64 x.a,.int .i64 x.b,.int .i64 x.lo,.int .i64 x.hi] 107
 obtain⟨q0,q1,q2,q3⟩:=hx1.at_.c4
 have hk:=kid_lit (w0:=w) (w:=w1) #[.int .i64 x.a,.int .i64 x.b,.int .i64 x.lo,.int .i64 x.hi] 3 x.nums rfl (by simp[Sx.nums]) (by simp[Sx.nums]) hb1 4 rfl
 rw[hz1,e1.out] at hk
 have HK:=hide hk
 clear hx1 hb1 hz1 hk
 go_enter Tryz.func64,Tryz.ntmps64
 go_wp2_with fail
 rw[ew1.out,e1.out]
 go_wp2_with fail
 go_returns
 exact HK.out
theorem rsx_any (x:Sx):Tells 53 (.agg #[.int .i64 x.a,.int .i64 x.b,.int .i64 x.lo,.int .i64 x.hi]) x.nums:=by
 intro w
 obtain⟨b1,w1,e1,ew1,hx1,hb1,hz1⟩:=mk_bx w #[.int .i64 x.a,.int .i64 x.b,.int .i64 x.lo,.int .i64 x.hi] 107
 obtain⟨q0,q1,q2,q3⟩:=hx1.at_.c4
 have hk:=kid_lit (w0:=w) (w:=w1) #[.int .i64 x.a,.int .i64 x.b,.int .i64 x.lo,.int .i64 x.hi] 3 x.nums rfl (by simp[Sx.nums]) (by simp[Sx.nums]) hb1 4 rfl
 rw[hz1,e1.out] at hk
 have HK:=hide hk
 clear hx1 hb1 hz1 hk
 go_enter Tryz.func53,Tryz.ntmps53
 go_wp2_with fail
 rw[ew1.out,e1.out]
 go_wp2_with fail
 go_returns
 exact HK.out
theorem mx_any (x:Mx):Tells 69 (.agg #[.int .i64 x.a,.int .i64 x.lo,.int .i64 x.hi]) x.nums:=by
 intro w
 obtain⟨b1,w1,e1,ew1,hx1,hb1,hz1⟩:=mk_bx w #[.int .i64 x.a,.int .i64 x.lo,.int .i64 x.hi] 109
 obtain⟨q0,q1,q2⟩:=hx1.at_.c3
 have hk:=kid_lit (w0:=w) (w:=w1) #[.int .i64 x.a,.int .i64 x.lo,.int .i64 x.hi] 3 x.nums rfl (by simp[Mx.nums]) (by simp[Mx.nums]) hb1 3 rfl
 rw[hz1,e1.out] at hk
 have HK:=hide hk
 clear hx1 hb1 hz1 hk
 go_enter Tryz.func69,Tryz.ntmps69
 go_wp2_with fail
 rw[ew1.out,e1.out]
 go_wp2_with fail
 go_returns
 exact HK.out
theorem rmx_any (x:Mx):Tells 54 (.agg #[.int .i64 x.a,.int .i64 x.lo,.int .i64 x.hi]) x.nums:=by
 intro w
 obtain⟨b1,w1,e1,ew1,hx1,hb1,hz1⟩:=mk_bx w #[.int .i64 x.a,.int .i64 x.lo,.int .i64 x.hi] 109
 obtain⟨q0,q1,q2⟩:=hx1.at_.c3
 have hk:=kid_lit (w0:=w) (w:=w1) #[.int .i64 x.a,.int .i64 x.lo,.int .i64 x.hi] 3 x.nums rfl (by simp[Mx.nums]) (by simp[Mx.nums]) hb1 3 rfl
 rw[hz1,e1.out] at hk
 have HK:=hide hk
 clear hx1 hb1 hz1 hk
 go_enter Tryz.func54,Tryz.ntmps54
 go_wp2_with fail
 rw[ew1.out,e1.out]
 go_wp2_with fail
 go_returns
 exact HK.out
theorem gx_any (x:Mx):Tells 74 (.agg #[.int .i64 x.a,.int .i64 x.lo,.int .i64 x.hi]) x.nums:=by
 intro w
 obtain⟨b1,w1,e1,ew1,hx1,hb1,hz1⟩:=mk_bx w #[.int .i64 x.a,.int .i64 x.lo,.int .i64 x.hi] 130
 obtain⟨q0,q1,q2⟩:=hx1.at_.c3
 have hk:=kid_lit (w0:=w) (w:=w1) #[.int .i64 x.a,.int .i64 x.lo,.int .i64 x.hi] 3 x.nums rfl (by simp[Mx.nums]) (by simp[Mx.nums]) hb1 3 rfl
 rw[hz1,e1.out] at hk
 have HK:=hide hk
 clear hx1 hb1 hz1 hk
 go_enter Tryz.func74,Tryz.ntmps74
 go_wp2_with fail
 rw[ew1.out,e1.out]
 go_wp2_with fail
 go_returns
 exact HK.out
theorem rgx_any (x:Mx):Tells 55 (.agg #[.int .i64 x.a,.int .i64 x.lo,.int .i64 x.hi]) x.nums:=by
 intro w
 obtain⟨b1,w1,e1,ew1,hx1,hb1,hz1⟩:=mk_bx w #[.int .i64 x.a,.int .i64 x.lo,.int .i64 x.hi] 130
 obtain⟨q0,q1,q2⟩:=hx1.at_.c3
 have hk:=kid_lit (w0:=w) (w:=w1) #[.int .i64 x.a,.int .i64 x.lo,.int .i64 x.hi] 3 x.nums rfl (by simp[Mx.nums]) (by simp[Mx.nums]) hb1 3 rfl
 rw[hz1,e1.out] at hk
 have HK:=hide hk
 clear hx1 hb1 hz1 hk
 go_enter Tryz.func55,Tryz.ntmps55
 go_wp2_with fail
 rw[ew1.out,e1.out]
 go_wp2_with fail
 go_returns
 exact HK.out
end Go.Proofs.YtgfghffihjfbpaaGreatDoor
