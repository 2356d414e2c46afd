/- lemmas for topFed_holds: V4. No conditions. -/
import Derived.Test.YtiioegopckoldaaGreatDoorK06
import Derived.Handy
import Derived.Deep.Cut
import Derived.WalkMore
import Derived.BigRegion
import Derived.Deep.RegionHeld
set_option linter.unusedVariables false
set_option linter.unusedSimpArgs false
namespace Go.Proofs.YtiioegopckoldaaGreatDoor
open Go.RowKit Go.Shelf
attribute [local go_sem] Oper.semAt_some ite_min
def tblC (t:Nat→Nat→Int):List Value:=(List.range 441).map fun q=> .int .i64 (t (q / 21) (q % 21))
theorem tbl_len (t:Nat→Nat→Int):(tblC t).length=441:=by simp[tblC]
theorem tbl_get (t:Nat→Nat→Int) {i k:Nat} (hi:i < 21) (hk:k < 21):(tblC t)[i*21+k]?=some (.int .i64 (t i k)):=by
 have h1:(i*21+k) / 21=i:=by omega
 have h2:(i*21+k) % 21=k:=by omega
 simp only[tblC,List.getElem?_map,List.getElem?_range (show i*21+k < 441 by omega),Option.map_some,h1,h2]
def updT (t:Nat→Nat→Int) (i k:Nat) (v:Int):Nat→Nat→Int:=fun a b=>if a=i∧b=k then v else t a b
theorem tbl_set (t:Nat→Nat→Int) {i k:Nat} (hi:i < 21) (hk:k < 21) (v:Int):(tblC t).set (i*21+k) (.int .i64 v)=tblC (updT t i k v):=by
 apply List.ext_getElem?
 intro q
 by_cases hq:q < 441
 ·by_cases he:i*21+k=q
  ·subst he
   rw[List.getElem?_set_self (by rw[tbl_len];exact hq),tbl_get _ hi hk]
   simp[updT]
  ·rw[List.getElem?_set_ne he]
   simp only[tblC,List.getElem?_map,List.getElem?_range hq,Option.map_some]
   congr 2
   have:¬(q / 21=i∧q % 21=k):=by omega
   simp[updT,this]
 ·rw[List.getElem?_eq_none (by rw[List.length_set,tbl_len];omega),List.getElem?_eq_none (by rw[tbl_len];omega)]
theorem tbl_zero:(List.replicate 441 (Value.int .i64 0))=tblC (fun _ _=>0):=by
 apply List.ext_getElem?
 intro q
 by_cases hq:q < 441
 ·simp only[tblC,List.getElem?_map,List.getElem?_range hq,Option.map_some,List.getElem?_replicate,if_pos hq]
 ·rw[List.getElem?_eq_none (by rw[List.length_replicate];omega),List.getElem?_eq_none (by rw[tbl_len];omega)]
theorem tbl_congr {t t':Nat→Nat→Int} (h:∀i k,i < 21→k < 21→t i k=t' i k):tblC t=tblC t':=by
 unfold tblC
 refine List.map_congr_left fun q hq=>?_
 rw[h _ _ (by have:=List.mem_range.1 hq;omega) (by omega)]
section
variable {w w':World} {p:Nat} {t:Nat→Nat→Int}
theorem Bx.tg (h:Bx w p (tblC t)) {i k:Nat} (hi:i < 21) (hk:k < 21):w.cell? ⟨p,i*21+k,none⟩=some (.int .i64 (t i k)):=h.at_.2 _ _ (tbl_get t hi hk)
theorem Bx.ts (h:Bx w p (tblC t)) {i k:Nat} (hi:i < 21) (hk:k < 21) (v:Int):Bx (w.setCell ⟨p,i*21+k,none⟩ (.int .i64 v)) p (tblC (updT t i k v)):=by
 have h1:=h.set (j:=i*21+k) (.int .i64 v) (by rw[tbl_len];omega)
 rw[tbl_set t hi hk] at h1
 exact h1
end
def tab0:Nat→Nat→Int:=fun i k=>if i=k then 0 else 20000000
def boundT (t:Nat→Nat→Int) (b:Bd):Nat→Nat→Int:=updT t b.low.toNat b.high.toNat (min (t b.low.toNat b.high.toNat) b.by_)
def phaseT (n:Nat) (t:Nat→Nat→Int) (j:Nat):Nat→Nat→Int:=fun i k=>if i < n∧k < n then min (t i k) (t i j+t j k) else t i k
def diagOk (n:Nat) (t:Nat→Nat→Int):Bool:=(List.range n).all fun i=>decide (t i i=0)
def solveGo (n:Nat):Nat→Nat→(Nat→Nat→Int)→(Nat→Nat→Int)×Bool
 | 0,_,t=>(t,true)
 | f+1,j,t=>if diagOk n (phaseT n t j) then solveGo n f (j+1) (phaseT n t j) else(phaseT n t j,false)
def solveF (p:Nat) (out:Nat→Bool) (sh:List Q4) (mk:List Us):(Nat→Nat→Int)×Bool:=solveGo (p+1) (p+1) 0 ((boundsF p out sh mk).foldl boundT tab0)
def onNormV (R:Act→World→Prop):Exit→Act→World→Prop
 | .normal,a,w=>R a w
 | _,_,_=>False
theorem wp_norm {P:Program} {c:Code} {Q:Exit→Act→World→Prop} {a:Act} {w:World} (h:c.wp P (onNormV (fun a' W'=>Q .normal a' W')) a w):c.wp P Q a w:=by
 refine wp_mono h ?_
 intro e a' W2 h
 cases e with
 | normal=>exact h
 | ret=>exact h.elim
 | exit id=>exact h.elim
 | goto t=>exact h.elim
 | panic ch=>exact h.elim
 | outgrown=>exact h.elim
theorem zero_tbl:∃Z:Array Value,Z.toList=tblC (fun _ _=>0)∧∀W,(zeroValue 386).run Tryz.prog W= .ok (.agg Z) W:=
 ⟨(List.replicate 441 (Value.int .i64 0)).toArray,by rw[List.toList_toArray];exact tbl_zero,fun W=>by kernel_rfl⟩
theorem wpList_allocT {ops:Array Oper} {rest:List Oper} {o:Oper} {a:Act} {w:World} {Q:Exit→Act→World→Prop} {Z:Array Value} (hg:o.guard=none) (hop:o.op=Op.alloc 386)
 (hz:∀W,(zeroValue 386).run Tryz.prog W= .ok (.agg Z) W) (h:wpList Tryz.prog ops Q rest (a.put o.dst (.pointer (some ⟨w.heap.size,0,none⟩))) (w.alloc (.cells Z 386))):wpList Tryz.prog ops Q (o :: rest) a w:=by
 refine wpList_plain hg fun K hK=>?_
 unfold Oper.wp
 simp[execOp,hop,Instr.alloc,hz,newVar,Value.cells,Result.andThen]
 exact hK _ _ h
theorem bounds_fn (v:Array Value) (v0 v1 v2 v3 v4 v5:Value) (w:World) (hv:v= #[v0,v1,v2,v3,v4,v5]) :
 Calls Tryz.prog 276 #[.agg v] w fun e w'=>e= .returned (.func (.func 287) #[] #[.pointer (some ⟨w.heap.size,0,none⟩)])∧w'=w.alloc (.cells #[v0,v1,v2,v3,v4,v5] 371):=by
 subst hv
 go_enter Tryz.func276,Tryz.ntmps276
 go_wp2
 go_ret
 exact⟨rfl,rfl⟩
theorem enters_bounds1:∀args w,(callFunc 287 args).run Tryz.prog w= .ok (.enter 287 args) w:=enters_of Tryz.func287 (by kernel_rfl) rfl
def Bd.fine (p:Nat) (b:Bd):Prop:=∃i k:Nat,b.low=i∧b.high=k∧i≤p∧k≤p∧i≠k∧ -20000000≤b.by_∧b.by_≤20000000
theorem zero_fine (p:Nat):∀n i,i+n≤p→∀b∈zeroFrom p i n,b.fine p
 | 0,i,h,b,hb=>by cases hb
 | n + 1, i, h, b, hb => by
   simp only[zeroFrom,zeroB,List.mem_append,List.mem_cons,List.not_mem_nil,or_false] at hb
   rcases hb with(rfl | rfl) | hb
   ·exact⟨p,i,rfl,rfl,by omega,by omega,by omega,by show(-20000000:Int)≤10000000;omega,by show(10000000:Int)≤20000000;omega⟩
   ·exact⟨i,p,rfl,rfl,by omega,by omega,by omega,by show(-20000000:Int)≤10000000;omega,by show(10000000:Int)≤20000000;omega⟩
   ·exact zero_fine p n (i+1) (by omega) b hb
theorem from_fine {α:Type} (p:Nat) (out:Nat→Bool) (f:α→List Bd):∀(l:List α) (i:Nat),(∀x∈l,∀b∈f x,b.fine p)→∀b∈fromB out f i l,b.fine p
 | [],_,_,b,hb=>by cases hb
 | x :: l, i, h, b, hb => by
   simp only[fromB,List.mem_append] at hb
   rcases hb with hb | hb
   ·split at hb
    ·cases hb
    ·exact h x List.mem_cons_self b hb
   ·exact from_fine p out f l (i+1) (fun y hy=>h y (List.mem_cons_of_mem _ hy)) b hb
theorem sv_parts {p:Nat} {sh:List Q4} {mk:List Us} {th:List Q4} (hok:svOk p sh mk th=true):1≤p∧p≤20∧sh.length≤60∧mk.length≤20∧(∀q∈sh,q4Ok p (-20000000) 20000000 q=true)∧(∀x∈mk,mkOk p x=true):=by
 simp only[svOk,Bool.and_eq_true,decide_eq_true_eq,List.all_eq_true,inB] at hok
 obtain⟨⟨⟨⟨⟨⟨h1,h2⟩,h3⟩,h4⟩,h5⟩,h6⟩,h7⟩:=hok
 exact⟨by omega,by omega,h2,h3,h5,h6⟩
theorem shot_bd {p:Nat} {q:Q4} (h:q4Ok p (-20000000) 20000000 q=true):q.a≠q.b∧0≤q.a∧q.a≤(p:Int)-1∧0≤q.b∧q.b≤(p:Int)-1∧ -20000000≤q.lo∧q.lo≤q.hi∧q.hi≤20000000:=by
 simp only[q4Ok,twoB,inB,Sp.ok,Bool.and_eq_true,decide_eq_true_eq] at h
 omega
theorem mark_bd {p:Nat} {x:Us} (h:mkOk p x=true):0≤x.field∧x.field≤(p:Int)-1∧ -10000000≤x.frm∧x.frm≤x.to∧x.to≤10000000:=by
 simp only[mkOk,inB,Sp.ok,Bool.and_eq_true,decide_eq_true_eq] at h
 omega
theorem bounds_fine {p:Nat} {out:Nat→Bool} {sh:List Q4} {mk:List Us} {th:List Q4} (hok:svOk p sh mk th=true):∀b∈boundsF p out sh mk,b.fine p:=by
 obtain⟨h1,h2,h3,h4,h5,h6⟩:=sv_parts hok
 intro b hb
 simp only[boundsF,List.mem_append] at hb
 rcases hb with hb | hb | hb
 ·exact zero_fine p p 0 (by omega) b hb
 ·refine from_fine p out shotB sh 0 (fun q hq b hb=>?_) b hb
  have:=shot_bd (h5 q hq)
  simp only[shotB,List.mem_cons,List.not_mem_nil,or_false] at hb
  rcases hb with rfl | rfl
  ·exact⟨q.a.toNat,q.b.toNat,by show q.a=_;omega,by show q.b=_;omega,by omega,by omega,by omega,by show -20000000≤q.hi;omega,by show q.hi≤20000000;omega⟩
  ·exact⟨q.b.toNat,q.a.toNat,by show q.b=_;omega,by show q.a=_;omega,by omega,by omega,by omega,by show -20000000≤ -q.lo;omega,by show -q.lo≤20000000;omega⟩
 ·refine from_fine p out (markB p) mk sh.length (fun q hq b hb=>?_) b hb
  have:=mark_bd (h6 q hq)
  simp only[markB,List.mem_cons,List.not_mem_nil,or_false] at hb
  rcases hb with rfl | rfl
  ·exact⟨p,q.field.toNat,rfl,by show q.field=_;omega,by omega,by omega,by omega,by show -20000000≤q.to;omega,by show q.to≤20000000;omega⟩
  ·exact⟨q.field.toNat,p,by show q.field=_;omega,rfl,by omega,by omega,by omega,by show -20000000≤ -q.frm;omega,by show -q.frm≤20000000;omega⟩
def row0 (i k:Nat):Nat→Nat→Int:=fun a b=>if a < i∨(a=i∧b < k) then tab0 a b else 0
theorem row0_next {i k:Nat} (hik:¬i=k):updT (row0 i k) i k 20000000=row0 i (k+1):=by
 funext a b
 unfold updT row0
 by_cases h:a=i∧b=k
 ·rw[if_pos h,if_pos (by omega)]
  unfold tab0
  rw[if_neg (by omega)]
 ·rw[if_neg h]
  by_cases h2:a < i∨(a=i∧b < k)
  ·rw[if_pos h2,if_pos (by omega)]
  ·rw[if_neg h2,if_neg (by omega)]
theorem row0_skip {i k:Nat} (hik:i=k):row0 i k=row0 i (k+1):=by
 funext a b
 unfold row0
 by_cases h:a=i∧b=k
 ·rw[if_neg (by omega),if_pos (by omega)]
  unfold tab0
  rw[if_pos (by omega)]
 ·by_cases h2:a < i∨(a=i∧b < k)
  ·rw[if_pos h2,if_pos (by omega)]
  ·rw[if_neg h2,if_neg (by omega)]
theorem row0_row (i:Nat):tblC (row0 i 21)=tblC (row0 (i+1) 0):=tbl_congr fun a b ha hb=>by
 unfold row0
 by_cases h2:a < i∨(a=i∧b < 21)
 ·rw[if_pos h2,if_pos (by omega)]
 ·rw[if_neg h2,if_neg (by omega)]
theorem row0_start:tblC (fun _ _=>0)=tblC (row0 0 0):=tbl_congr fun a b ha hb=>by
 unfold row0
 rw[if_neg (by omega)]
theorem row0_end:tblC (row0 21 0)=tblC tab0:=tbl_congr fun a b ha hb=>by
 unfold row0
 rw[if_pos (by omega)]
structure FwOk (n j:Nat) (t:Nat→Nat→Int):Prop where
 lo:∀i k,i < n→k < n→ -20000000*2 ^ j≤t i k
 hi:∀i k,i < n→k < n→t i k≤20000000
 dg:∀i,i < n→t i i=0
theorem FwOk.start (n:Nat):FwOk n 0 tab0:=by
 refine⟨fun i k _ _=>?_,fun i k _ _=>?_,fun i _=>by unfold tab0;rw[if_pos rfl]⟩
 ·unfold tab0;split <;> omega
 ·unfold tab0;split <;> omega
theorem FwOk.bound {p:Nat} {t:Nat→Nat→Int} (h:FwOk (p+1) 0 t) {b:Bd} (hb:b.fine p):FwOk (p+1) 0 (boundT t b):=by
 obtain⟨i,k,e1,e2,hi,hk,hik,h1,h2⟩:=hb
 have a1:=h.lo i k (by omega) (by omega)
 have a2:=h.hi i k (by omega) (by omega)
 refine⟨fun x y hx hy=>?_,fun x y hx hy=>?_,fun x hx=>?_⟩
 ·have:=h.lo x y hx hy
  unfold boundT updT
  rw[e1,e2,Int.toNat_natCast,Int.toNat_natCast]
  split <;> omega
 ·have:=h.hi x y hx hy
  unfold boundT updT
  rw[e1,e2,Int.toNat_natCast,Int.toNat_natCast]
  split <;> omega
 ·have:=h.dg x hx
  unfold boundT updT
  rw[e1,e2,Int.toNat_natCast,Int.toNat_natCast,if_neg (by omega)]
  exact this
theorem FwOk.fold {p:Nat}:∀(L:List Bd) (t:Nat→Nat→Int),FwOk (p+1) 0 t→(∀b∈L,b.fine p)→FwOk (p+1) 0 (L.foldl boundT t)
 | [],_,h,_=>h
 | b :: L,t,h,hf=>FwOk.fold L (boundT t b) (h.bound (hf b List.mem_cons_self)) (fun x hx=>hf x (List.mem_cons_of_mem _ hx))
theorem FwOk.next {n j:Nat} {t:Nat→Nat→Int} (h:FwOk n j t) (hj:j < n) (hd:diagOk n (phaseT n t j)=true):FwOk n (j+1) (phaseT n t j):=by
 have hp:(2:Int) ^ (j+1)=2*2 ^ j:=by rw[Int.pow_succ];omega
 have hpos:(0:Int) < 2 ^ j:=Int.pow_pos (by omega)
 refine⟨fun i k hi hk=>?_,fun i k hi hk=>?_,fun i hi=>?_⟩
 ·have h1:=h.lo i k hi hk
  have h2:=h.lo i j hi hj
  have h3:=h.lo j k hj hk
  unfold phaseT
  rw[if_pos ⟨hi,hk⟩,hp]
  omega
 ·have h1:=h.hi i k hi hk
  unfold phaseT
  rw[if_pos ⟨hi,hk⟩]
  omega
 ·simp only[diagOk,List.all_eq_true,List.mem_range,decide_eq_true_eq] at hd
  exact hd i hi
def phTo (n:Nat) (t:Nat→Nat→Int) (j i k:Nat):Nat→Nat→Int:=fun a b=>if a < n∧b < n∧(a < i∨(a=i∧b < k)) then min (t a b) (t a j+t j b) else t a b
theorem phTo_start (n:Nat) (t:Nat→Nat→Int) (j:Nat):phTo n t j 0 0=t:=by
 funext a b
 unfold phTo
 rw[if_neg (by omega)]
theorem phTo_row (n:Nat) (t:Nat→Nat→Int) (j i:Nat):phTo n t j i n=phTo n t j (i+1) 0:=by
 funext a b
 unfold phTo
 by_cases h:a < n∧b < n∧(a < i∨(a=i∧b < n))
 ·rw[if_pos h,if_pos (by omega)]
 ·rw[if_neg h,if_neg (by omega)]
theorem phTo_end (n:Nat) (t:Nat→Nat→Int) (j:Nat):phTo n t j n 0=phaseT n t j:=by
 funext a b
 unfold phTo phaseT
 by_cases h:a < n∧b < n
 ·rw[if_pos h,if_pos (by omega)]
 ·rw[if_neg h,if_neg (by omega)]
theorem phTo_at (n:Nat) (t:Nat→Nat→Int) (j i k:Nat):phTo n t j i k i k=t i k:=by
 unfold phTo
 rw[if_neg (by omega)]
theorem phTo_col {n:Nat} {t:Nat→Nat→Int} {j:Nat} (hd:t j j=0) (i k a:Nat):phTo n t j i k a j=t a j:=by
 unfold phTo
 split
 ·rw[hd];omega
 ·rfl
theorem phTo_lin {n:Nat} {t:Nat→Nat→Int} {j:Nat} (hd:t j j=0) (i k b:Nat):phTo n t j i k j b=t j b:=by
 unfold phTo
 split
 ·rw[hd];omega
 ·rfl
theorem phTo_next {n:Nat} {t:Nat→Nat→Int} {j i k:Nat} (hi:i < n) (hk:k < n):updT (phTo n t j i k) i k (min (t i k) (t i j+t j k))=phTo n t j i (k+1):=by
 funext a b
 unfold updT phTo
 by_cases h:a=i∧b=k
 ·obtain⟨rfl,rfl⟩:=h
  rw[if_pos ⟨rfl,rfl⟩,if_pos (by omega)]
 ·rw[if_neg h]
  by_cases h2:a < n∧b < n∧(a < i∨(a=i∧b < k))
  ·rw[if_pos h2,if_pos (by omega)]
  ·rw[if_neg h2,if_neg (by omega)]
theorem pow_le_21 {j:Nat} (h:j≤21):(2:Int) ^ j≤2097152:=by
 have:(2:Nat) ^ j≤2 ^ 21:=Nat.pow_le_pow_right (by omega) h
 have h2:((2 ^ j:Nat):Int)≤((2 ^ 21:Nat):Int):=Int.ofNat_le.2 this
 simpa using h2
structure SolI (w:World) (sv:List Value) (bb:Nat) (t:Nat→Nat→Int) (W:World):Prop where
 T:Bx W (w.heap.size+1+1) (tblC t)
 bf:∃f:Bd,Bx W bb [.int .i64 f.low,.int .i64 f.high,.int .i64 f.by_]∧(f.low= -1∨∃x y:Nat,f.low=x∧f.high=y∧t x y≤f.by_)
 sv:At W w.heap.size sv
 tb:Bx W (w.heap.size+1) [.pointer (some ⟨w.heap.size+1+1,0,none⟩)]
 bl:Below w.heap.size w W
theorem SolI.kept {w W W':World} {sv:List Value} {bb:Nat} {t:Nat→Nat→Int} {R:Nat→Prop} (h:SolI w sv bb t W) (hk:Kept R W W') (h0:∀x,x < w.heap.size+3→R x) (hb:R bb):SolI w sv bb t W':=by
 obtain⟨f,h1,h2⟩:=h.bf
 exact⟨h.T.kept hk (h0 _ (by omega)),⟨f,h1.kept hk hb,h2⟩,h.sv.kept hk (h0 _ (by omega)),h.tb.kept hk (h0 _ (by omega)),h.bl.trans (hk.below (fun b hb=>h0 b (by omega)) h.bl.size)⟩
theorem SolI.below {w W W':World} {sv:List Value} {bb:Nat} {t:Nat→Nat→Int} (h:SolI w sv bb t W) (hb:Below W.heap.size W W'):SolI w sv bb t W':=h.kept (Kept.all (fun _=>True) hb) (fun _ _=>trivial) trivial
def foldB (L:List Bd) (k:Nat):Nat→Nat→Int:=(L.take k).foldl boundT tab0
theorem foldB_next {L:List Bd} {k:Nat} (hk:k < L.length):foldB L (k+1)=boundT (foldB L k) (L.getD k ⟨0,0,0⟩):=by
 unfold foldB
 rw[List.take_add_one,List.foldl_append,List.getD_eq_getElem?_getD,List.getElem?_eq_getElem hk]
 rfl
theorem foldB_zero (L:List Bd):foldB L 0=tab0:=rfl
theorem foldB_all (L:List Bd):foldB L L.length=L.foldl boundT tab0:=by unfold foldB;rw[List.take_length]
theorem boundT_same {t:Nat→Nat→Int} {b:Bd} {x y:Nat} (h1:b.low=x) (h2:b.high=y) (h:t x y≤b.by_):boundT t b=t:=by
 funext i k
 unfold boundT updT
 rw[h1,h2,Int.toNat_natCast,Int.toNat_natCast,Int.min_eq_left h]
 split
 ·rename_i h;rw[h.1,h.2]
 ·rfl
set_option maxHeartbeats 4000000 in
set_option maxRecDepth 100000 in
theorem solve_nil (p:Nat) (A1 A2 A3:Option Addr) (n1 c1 n2 c2 n3 c3:Nat) (sh:List Q4) (mk:List Us) (th:List Q4) (w:World) (hsv:SvAt w A1 A2 A3 n1 n2 n3 sh mk th) (hok:svOk p sh mk th=true) :
 Calls Tryz.prog 258 #[.agg #[.int .i64 p,.slice A1 n1 c1,.slice A2 n2 c2,.slice A3 n3 c3,.map none,.int .i64 0]] w fun e w'=>∃b,e= .returned (.tuple #[.pointer (some ⟨b,0,none⟩),.bool (solveF p (fun _=>false) sh mk).2])∧Bx w' b (tblC (solveF p (fun _=>false) sh mk).1)∧w.heap.size≤b∧Below w.heap.size w w':=by
 refine(callsIn_wide (n:=9)).1 ?_
 refine callsIn_of_wp_marks Tryz.func258 rfl trivial ?_ rfl
 simp only[Tryz.ntmps258,List.size_toArray,List.length_cons,List.length_nil,Nat.reduceAdd,Nat.reduceSub,Array.replicate_succ,Array.replicate_zero,List.push_toArray,List.append_toArray,List.nil_append,List.cons_append]
 refine wpIn_wide.2 ?_
 obtain⟨Z,hZ,hz⟩:=zero_tbl
 have HZ:=hide hZ
 clear hZ
 go_wp2_with fail
 go_step3
 go_wp2_with (refine wpList_allocT rfl rfl hz ?_)
 obtain⟨w3,Hw3⟩:∃w3,Hid (((w.alloc (.cells #[.int .i64 p,.slice A1 n1 c1,.slice A2 n2 c2,.slice A3 n3 c3,.map none,.int .i64 0] 371)).alloc (.cells #[.pointer (some ⟨w.heap.size+1+1,0,none⟩)] 345)).alloc (.cells Z 386)=w3):=⟨_,hide rfl⟩
 have hs0:At w3 w.heap.size [.int .i64 p,.slice A1 n1 c1,.slice A2 n2 c2,.slice A3 n3 c3,.map none,.int .i64 0]:=by rw[←Hw3.out];exact((At.new w #[.int .i64 p,.slice A1 n1 c1,.slice A2 n2 c2,.slice A3 n3 c3,.map none,.int .i64 0] _ _ rfl _ rfl).alloc _).alloc _
 have ht0:Bx w3 (w.heap.size+1) [.pointer (some ⟨w.heap.size+1+1,0,none⟩)]:=by rw[←Hw3.out];exact(Bx.new _ #[.pointer (some ⟨w.heap.size+1+1,0,none⟩)] _ _ (by simp) _ rfl).alloc _
 have hT0:Bx w3 (w.heap.size+1+1) (tblC (row0 0 0)):=by rw[←Hw3.out];exact Bx.new _ Z _ _ (by simp) _ (HZ.out.trans row0_start)
 have hB3:Below w.heap.size w w3:=by rw[←Hw3.out];exact((below_new w _).alloc (by simp) _).alloc (by simp;omega) _
 rw[Hw3.out]
 have hz3:w3.heap.size=w.heap.size+3:=by rw[←Hw3.out];simp
 have HT0:=hide hT0;have Hs0:=hide hs0;have Ht0:=hide ht0;have HB3:=hide hB3;have Hsv:=hide hsv;have Hok:=hide hok
 clear Hw3 hT0 hs0 ht0 hB3 hsv hok HZ hz Z
 go_loopw [14] (fun i wr=>∃k:Nat,k≤21∧i= .int .i64 k∧Hid (Bx wr (w.heap.size+1+1) (tblC (row0 k 0)))∧Kept (fun b=>b≠w.heap.size+1+1) w3 wr) (fun i _=>21-(intOf i).toNat)
 case atStart=>exact⟨0,by omega,rfl,HT0,Kept.refl _ _⟩
 case round=>
  clear HT0
  obtain⟨i,hi,rfl,hT,hk⟩:=hrel
  by_cases hlt:i < 21
  ·have i0:(0:Int)≤(i:Int):=by omega
   have i1:(i:Int) < 21:=by omega
   go_wp2_with fail
   go_loopw [17] (fun u wr=>∃k:Nat,k≤21∧u= .int .i64 k∧Hid (Bx wr (w.heap.size+1+1) (tblC (row0 i k)))∧Kept (fun b=>b≠w.heap.size+1+1) w3 wr) (fun i _=>21-(intOf i).toNat)
   case atStart=>exact⟨0,by omega,rfl,hT,hk⟩
   case round=>
    clear hT hk
    obtain⟨k,hkk,rfl,hT,hk⟩:=hrel
    by_cases hlk:k < 21
    ·have k0:(0:Int)≤(k:Int):=by omega
     have k1:(k:Int) < 21:=by omega
     by_cases hik:i=k
     ·have Hs:=row0_skip hik
      have e0:¬((i:Int)≠(k:Int)):=by omega
      have hT2:=hide (show Bx _ _ _ from(by rw[←Hs];exact hT.out:Bx _ _ (tblC (row0 i (k+1)))))
      clear Hs
      go_wp2_with fail
      exact⟨⟨k+1,by omega,by go_num,hT2,hk⟩,by simp[intOf];omega⟩
     ·have e0:(i:Int)≠(k:Int):=by omega
      have y0:=(Ht0.out.kept hk (by omega)).at_.c1
      have y1:=hT.out.fz (i*21+k)
      have y2:=hT.out.tg hlt hlk
      have hT2:=hide (row0_next hik ▸ hT.out.ts hlt hlk 20000000)
      have hk2:=hk.trans (Kept.setCell _ ⟨w.heap.size+1+1,i*21+k,none⟩ (.int .i64 20000000))
      have Hk2:=hide hk2
      clear hk2
      go_wp2_with fail
      exact⟨⟨k+1,by omega,by go_num,hT2,Hk2.out⟩,by simp[intOf];omega⟩
    ·obtain rfl:k=21:=by omega
     have hT2:=hT.out
     rw[row0_row] at hT2
     have HT2:=hide hT2
     clear hT2
     go_wp2_with fail
     exact⟨⟨i+1,by omega,by go_num,HT2,hk⟩,by simp[intOf];omega⟩
  ·obtain rfl:i=21:=by omega
   have hT2:=hT.out
   rw[row0_end] at hT2
   have HT2:=hide hT2
   have hs3:=Hs0.out.kept hk (by omega)
   obtain⟨bb,w4,eb4,ew4,hb4,hB4,hz4⟩:=mk_bx wr #[.int .i64 (-1),.int .i64 0,.int .i64 0] 388
   obtain⟨q0,q1,q2,q3,q4,q5⟩:=(hs3.below (below_new wr (.cells #[.int .i64 (-1),.int .i64 0,.int .i64 0] 388))).c6l
   clear hT2 hT
   go_wp2_with fail
   refine(bounds_fn _ _ _ _ _ _ _ _ rfl).mono ?_
   rintro e w5 ⟨rfl,hw5⟩
   rw[ew4.out] at hw5
   rw[eb4.out]
   clear q0 q1 q2 q3 q4 q5
   go_wp2_with fail
   rw[←hw5,eb4.out]
   have hsz5:w5.heap.size=bb+2:=by rw[hw5];simp[hz4]
   have hBr:Below w.heap.size w wr:=HB3.out.trans (hk.below (fun b hb=>by omega) (by omega))
   have hb5:Below w4.heap.size w4 w5:=by rw[hw5];exact below_new _ _
   have hBb:w.heap.size+3≤bb:=by have:=hk.size;have:=eb4.out;omega
   have hB5:Below w.heap.size w w5:=(hBr.trans (hB4.mono hBr.size)).trans (hb5.mono (by have:=hBr.size;have:=eb4.out;omega))
   have hsv5:At w5 (bb+1) [.int .i64 p,.slice A1 n1 c1,.slice A2 n2 c2,.slice A3 n3 c3,.map none,.int .i64 0]:=by rw[hw5];exact At.new w4 #[.int .i64 p,.slice A1 n1 c1,.slice A2 n2 c2,.slice A3 n3 c3,.map none,.int .i64 0] _ _ hz4.symm _ rfl
   have hb45:Kept (fun _=>True) wr w5:=(Kept.all _ hB4).trans (Kept.all _ hb5)
   have hI0:SolI w [.int .i64 p,.slice A1 n1 c1,.slice A2 n2 c2,.slice A3 n3 c3,.map none,.int .i64 0] bb tab0 w5:=
    ⟨HT2.out.kept hb45 trivial,⟨⟨-1,0,0⟩,(show Bx w4 bb [.int .i64 (-1),.int .i64 0,.int .i64 0] from hb4).below hb5,.inl rfl⟩,hs3.kept hb45 trivial,(Ht0.out.kept hk (by omega)).kept hb45 trivial,hB5⟩
   have hparts:=sv_parts Hok.out
   have hseq:=fun n hn=>bounds1_seq n hn (bb+1) p A1 A2 A3 n1 c1 n2 c2 n3 c3 sh mk w.heap.size w5 hB5.size hsv5 (Hsv.out.rs.below hB5) (Hsv.out.rm.below hB5) Hsv.out.es Hsv.out.em hparts.2.1 (by have:=Hsv.out.es;omega) (by have:=Hsv.out.em;omega)
    (fun q hq=>by have:=shot_bd (hparts.2.2.2.2.1 q hq);omega) (fun x hx=>by have:=mark_bd (hparts.2.2.2.2.2 x hx);omega)
   have Hfine:=hide (bounds_fine (out:=fun _=>false) Hok.out)
   obtain⟨L,hL⟩:∃L,L=boundsF p (fun _=>false) sh mk:=⟨_,rfl⟩
   rw[←hL] at hseq Hfine
   have HL:=hide hL
   have Hp:=hide hparts
   have HI0:=hide hI0
   have E1:=hide enters_bounds1
   clear hw5 hb4 hB4 hz4 hBr hb5 hsv5 hb45 hI0 hparts hL HT2 hs3 hk eb4 ew4
   refine(wpIn_wide (n:=9)).1 ?_
   refine wp_rangeX (gf:=287) rfl E1.out (hseq _ (by omega)) (Kept.all _ (Below.refl _ _)) (fun b k X G args W h=>by rw[show args=_ from h];rfl) (fun b=>b=w.heap.size+1+1∨b=bb)
    (fun b h=>h.elim) (by intro b hb;omega) (by intro b hb;omega)
    (fun k X W'=>SolI w [.int .i64 p,.slice A1 n1 c1,.slice A2 n2 c2,.slice A3 n3 c3,.map none,.int .i64 0] bb (foldB L k) W'∧(∀x,X x→w5.heap.size+2≤x)∧w5.heap.size+2≤W'.heap.size)
    (fun c k X W'=>False)
    (fun k X G a' W'=>∃b7,(a'.tmps.size=124∧a'.defers=[]∧slot a' 2= .pointer (some ⟨w.heap.size+1,0,none⟩)∧slot a' 6= .pointer (some ⟨bb,0,none⟩)∧slot a' 7= .pointer (some ⟨b7,0,none⟩))∧At W' b7 [.int .i64 (L.getD k ⟨0,0,0⟩).low,.int .i64 (L.getD k ⟨0,0,0⟩).high,.int .i64 (L.getD k ⟨0,0,0⟩).by_]∧w5.heap.size+2≤b7)
    (fun k X X' A B h hk hX=>⟨h.1.kept hk (fun x hx=>⟨fun h'=>by have:=h.2.1 _ h';omega,by omega,by omega⟩) ⟨fun h'=>by have:=h.2.1 _ h';omega,by omega,by omega⟩,
     fun x hx=>by(rcases hX x hx with h' | h');exact h.2.1 x h';have:=h.2.2;omega,Nat.le_trans h.2.2 hk.size⟩)
    (fun c k X X' A B h hk hX=>h.elim)
    (fun k X G a' A B h hk=>by
     obtain⟨b7,h1,h2,h3⟩:=h
     exact⟨b7,h1,h2.kept hk (by omega),h3⟩)
    (fun W' hk hs=>⟨by rw[foldB_zero];exact HI0.out.kept hk (fun _ _=>trivial) trivial,fun x h=>h.elim,by omega⟩)
    (fun h=>h.elim) ?assign ?body ?done ?stop ?panic
   case panic=>intro k chain X W h;exact h.elim
   case stop=>intro c k X W hk h;exact h.elim
   case assign=>
    rintro l k X G args W' ⟨hi,hXD,hWD⟩ hz hk hXlt hXge hE
    obtain rfl:args=_:=hE
    have Hi:=hide hi;have HXD:=hide hXD
    obtain⟨⟨f,s,t⟩,hbd⟩:∃bd,bd=L.getD k ⟨0,0,0⟩:=⟨_,rfl⟩
    rw[←hbd]
    have Hk:=hide hk;have Hsz:=hide hsz5
    clear hi hXD hbd hk hsz5
    unfold Bd.enc
    dsimp only
    gi_wp2_with fail
    refine⟨Kept.alloc _ _ _,⟨Hi.out.below (below_new _ _),HXD.out,by first | exact hWD | omega⟩,W'.heap.size,(by and_intros <;> first | rfl | trivial),At.new _ _ _ _ rfl _ rfl,by omega⟩
   case body=>
    rintro l k X G a' W' ⟨hI,hXD,hWD⟩ ⟨b7,⟨hs,hd,s2,s6,s7⟩,h7,hb7⟩ hz hk hXlt hXge
    have Hsz:=hide hsz5
    clear hsz5
    rw[act_eq hs hd]
    obtain⟨u,hu⟩:∃u,u=slot a':=⟨_,rfl⟩
    rw[←hu] at s2 s6 s7 ⊢
    have he:({tmps:=((List.range 124).map u).toArray,defers:=[] }:Act)={tmps:=#[(u 0),(u 1),(u 2),(u 3),(u 4),(u 5),(u 6),(u 7),(u 8),(u 9),(u 10),(u 11),(u 12),(u 13),(u 14),(u 15),(u 16),(u 17),(u 18),(u 19),(u 20),(u 21),(u 22),(u 23),(u 24),(u 25),(u 26),(u 27),(u 28),(u 29),(u 30),(u 31),(u 32),(u 33),(u 34),(u 35),(u 36),(u 37),(u 38),(u 39),(u 40),(u 41),(u 42),(u 43),(u 44),(u 45),(u 46),(u 47),(u 48),(u 49),(u 50),(u 51),(u 52),(u 53),(u 54),(u 55),(u 56),(u 57),(u 58),(u 59),(u 60),(u 61),(u 62),(u 63),(u 64),(u 65),(u 66),(u 67),(u 68),(u 69),(u 70),(u 71),(u 72),(u 73),(u 74),(u 75),(u 76),(u 77),(u 78),(u 79),(u 80),(u 81),(u 82),(u 83),(u 84),(u 85),(u 86),(u 87),(u 88),(u 89),(u 90),(u 91),(u 92),(u 93),(u 94),(u 95),(u 96),(u 97),(u 98),(u 99),(u 100),(u 101),(u 102),(u 103),(u 104),(u 105),(u 106),(u 107),(u 108),(u 109),(u 110),(u 111),(u 112),(u 113),(u 114),(u 115),(u 116),(u 117),(u 118),(u 119),(u 120),(u 121),(u 122),(u 123)],defers:=[] }:=rfl
    rw[he,s2,s6,s7]
    clear he hs hd hu s2 s6 s7
    have hmem:L.getD k ⟨0,0,0⟩∈L:=by rw[List.getD_eq_getElem?_getD,List.getElem?_eq_getElem hk];exact List.getElem_mem hk
    have hf:=Hfine.out _ hmem
    have hnx:=foldB_next hk
    obtain⟨⟨f,s,t⟩,hbd⟩:∃bd,bd=L.getD k ⟨0,0,0⟩:=⟨_,rfl⟩
    rw[←hbd] at hf h7 hnx
    obtain⟨i,j,e1,e2,hi,hj,hij,hy1,hy2⟩:=hf
    dsimp only at e1 e2 hy1 hy2 h7
    subst e1 e2
    obtain⟨T,hT⟩:∃T,T=foldB L k:=⟨_,rfl⟩
    rw[←hT] at hI hnx
    obtain⟨⟨f0,f1,f2⟩,hbf,hbc⟩:=hI.bf
    dsimp only at hbf hbc
    obtain⟨z0,z1,z2⟩:=h7.c3
    obtain⟨b0,b1,b2⟩:=hbf.at_.c3
    have HI:=hide hI;have Hnx:=hide hnx;have Hbc:=hide hbc;have Hbf:=hide hbf;have H7:=hide h7;have HXD:=hide hXD;have Hkl:=hide hk;have Hp2:=hide Hp.out.2.1
    clear hI hnx hbc hbf h7 hXD hbd hT hmem hk
    have i0:(0:Int)≤(i:Int):=by omega
    have j0:(0:Int)≤(j:Int):=by omega
    have i1:(i:Int) < 21:=by have:=Hp2.out;omega
    have j1:(j:Int) < 21:=by have:=Hp2.out;omega
    have hi21:i < 21:=by omega
    have hj21:j < 21:=by omega
    have h7ne:b7≠w.heap.size+1+1:=by have:=Hsz.out;omega
    have htne:w.heap.size+1≠w.heap.size+1+1:=by omega
    have Htb:=hide HI.out.tb
    by_cases he:(i:Int)=f0∧(j:Int)=f1∧t=f2
    ·obtain⟨rfl,rfl,rfl⟩:=he
     have Hsame:=hide (boundT_same (t:=T) (b:=⟨(i:Int),(j:Int),t⟩) rfl rfl (by
      rcases Hbc.out with h | ⟨x,y,h1,h2,h3⟩
      ·exfalso;omega
      ·obtain rfl:x=i:=by omega
       obtain rfl:y=j:=by omega
       exact h3))
     gi_wp2_with fail
     refine⟨Kept.refl _ _,?_,fun x hx=>HXD.out x (.inl hx),by first | exact hWD | omega⟩
     rw[Hnx.out,Hsame.out]
     exact HI.out
    have hc:¬(i:Int)=f0∨((i:Int)=f0∧¬(j:Int)=f1)∨((i:Int)=f0∧(j:Int)=f1∧¬t=f2):=by omega
    clear he
    rcases hc with hc | ⟨rfl,hc⟩ | ⟨rfl,rfl,hc⟩
    all_goals gi_wp2_with fail
    all_goals clear z0 z1 z2 b0 b1 b2
    all_goals have hT:=HI.out.T
    all_goals
     refine wpIn_region_S (S:=(fun W=>Kept (fun b=>b≠w.heap.size+1+1) W' W)) (z:=21) (by kernel_rfl) (by(try dsimp only);exact Kept.all _ (Below.refl _ _).drew) (fun hHeld=>?_)
     have hdr:Below W'.heap.size W' (World.drew W'):=(Below.refl _ _).drew
     generalize World.drew W'=Wd16 at hHeld hdr ⊢
     have hT:=hT.bel hdr
     have hbc:=Below.refl Wd16.heap.size Wd16
     iterate 2
      refine tkSl [0,5] ?_ rfl rfl (Or.inl ⟨by rfl,?_⟩) hHeld ?_
      rotate_left
      ·(intro w hSw;(try dsimp only at hSw);obtain⟨z0,z1,z2⟩:=(H7.out.kept hSw h7ne).c3;have y0:=(Htb.out.kept hSw htne).at_.c1;go_simp;try(with_reducible rfl))
      try simp only[Act.put,tl1,tl2,tl3]
     iterate 7
      refine tkSl [1,3,6,8,10,14,17] ?_ rfl rfl (Or.inl ⟨by rfl,?_⟩) hHeld ?_
      rotate_left
      ·(intro w _;go_simp;try(with_reducible rfl))
      try simp only[Act.put,tl1,tl2,tl3]
     iterate 5
      refine tkSl [2,4,7,9,15] ?_ rfl rfl (Or.inl ⟨by rfl,?_⟩) hHeld ?_
      rotate_left
      ·(intro w hSw;(try dsimp only at hSw);obtain⟨z0,z1,z2⟩:=(H7.out.kept hSw h7ne).c3;have y0:=(Htb.out.kept hSw htne).at_.c1;go_simp;try(with_reducible rfl))
      try simp only[Act.put,tl1,tl2,tl3]
     iterate 3
      refine tkSl [11,12,18] ?_ rfl rfl (Or.inl ⟨by rfl,?_⟩) hHeld ?_
      rotate_left
      ·(intro w _;go_simp;try(with_reducible rfl))
      try simp only[Act.put,tl1,tl2,tl3]
     refine wpAnyS_ready (rs:=[13]) (by kernel_rfl) (by simp) ?_
     refine AllS.cons (o:=⟨_,_,_,_,_,_⟩) rfl (fun _=>trivial) (fun K hK=>?_) AllS.nil
     have hz:=hT.tg hi21 hj21
     go_simp
     clear hz
     have hHeldN:=hHeld
     refine hK.out _ _ ?_ (fun hHeld2=>?_)
     ·intro _;exact hHeldN
     clear hK K hHeld hHeldN;have hHeld:=hHeld2 (by decide);clear hHeld2
     try simp only[Act.put,tl1,tl2,tl3]
     iterate 2
      refine tkSl [16,19] ?_ rfl rfl (Or.inl ⟨by rfl,?_⟩) hHeld ?_
      rotate_left
      ·(intro w _;go_simp;try(with_reducible rfl))
      try simp only[Act.put,tl1,tl2,tl3]
     refine wpAnyS_ready (rs:=[20]) (by kernel_rfl) (by simp) ?_
     refine AllS.cons (o:=⟨_,_,_,_,_,_⟩) rfl (fun _=>trivial) (fun K hK=>?_) AllS.nil
     have HT:=hide hT
     have y9:=HT.out.fz (i*21+j)
     have y8:=HT.out.tg hi21 hj21
     have HkF:=hide (hHeld.trans (Kept.setCell _ ⟨w.heap.size+1+1,i*21+j,none⟩ (.int .i64 (min (T i j) t))))
     clear hT
     go_simp
     refine hK.out _ _ ?_ (fun _=>?_)
     ·intro _;(try dsimp only);exact HkF.out
     clear hK K hHeld
     try simp only[Act.put,tl1,tl2,tl3]
     refine wpAnyS_done (by kernel_rfl) ?_ _
     have hTn:=HT.out.ts hi21 hj21 (min (T i j) t)
     rw[show updT T i j (min (T i j) t)=boundT T ⟨(i:Int),(j:Int),t⟩ by simp[boundT]] at hTn
     have hk16:=HkF.out
     obtain⟨wz,Hwz⟩:∃wz,Hid (Wd16.setCell ⟨w.heap.size+1+1,i*21+j,none⟩ (.int .i64 (min (T i j) t))=wz):=⟨_,hide rfl⟩
     rw[Hwz.out] at hTn hk16 ⊢
     have hbz:=Hbf.out.kept hk16 (by omega)
     obtain⟨b0,b1,b2⟩:=hbz.at_.c3
     have y3:=hbz.fz 0;have y4:=hbz.fz 1;have y5:=hbz.fz 2
     obtain⟨z0,z1,z2⟩:=(H7.out.kept hk16 h7ne).c3
     have hset:Bx (((wz.setCell ⟨bb,0,none⟩ (.int .i64 i)).setCell ⟨bb,1,none⟩ (.int .i64 j)).setCell ⟨bb,2,none⟩ (.int .i64 t)) bb [.int .i64 i,.int .i64 j,.int .i64 t]:=by
      simpa using((hbz.set (j:=0) (.int .i64 (i:Int)) (by simp)).set (j:=1) (.int .i64 (j:Int)) (by simp)).set (j:=2) (.int .i64 t) (by simp)
     have hkb:Kept (fun b=>b≠bb) wz (((wz.setCell ⟨bb,0,none⟩ (.int .i64 i)).setCell ⟨bb,1,none⟩ (.int .i64 j)).setCell ⟨bb,2,none⟩ (.int .i64 t)):=((Kept.setCell _ ⟨bb,0,none⟩ _).trans (Kept.setCell _ ⟨bb,1,none⟩ _)).trans (Kept.setCell _ ⟨bb,2,none⟩ _)
     have HTn:=hide hTn;have Hk16:=hide hk16;have Hset:=hide hset;have Hkb:=hide hkb
     clear hTn hk16 hset hkb hbz Hwz y8 y9 HkF HT hT hdr hbc
     gi_wp2_with fail
     have hk2:=(Hk16.out.mono (R':=fun b=>b≠w.heap.size+1+1∧b≠bb) fun b _ hb=>hb.1).trans (Hkb.out.mono fun b _ hb=>hb.2)
     refine⟨hk2.mono fun b _ hb=>?_,?_,fun x hx=>HXD.out x (.inl hx),by have:=hk2.size;omega⟩
     ·have:=Hsz.out
      rcases hb with⟨_,hb⟩ | hb
      ·omega
      ·have:=HXD.out b (.inl hb);omega
     ·rw[Hnx.out]
      exact⟨HTn.out.kept Hkb.out (by omega),⟨⟨i,j,t⟩,Hset.out,.inr ⟨i,j,rfl,rfl,by simp[boundT,updT];omega⟩⟩,HI.out.sv.kept hk2 ⟨by omega,by omega⟩,HI.out.tb.kept hk2 ⟨by omega,by omega⟩,HI.out.bl.trans (hk2.below (fun b hb=>⟨by omega,by omega⟩) HI.out.bl.size)⟩
   case done=>
    intro X W' ⟨hI,hXD,hWD⟩ hDf
    rw[foldB_all] at hI
    have HFw:=hide (FwOk.fold (p:=p) L tab0 (FwOk.start _) Hfine.out)
    obtain⟨T,hT⟩:∃T,T=L.foldl boundT tab0:=⟨_,rfl⟩
    rw[←hT] at hI HFw
    have HTe:=hide hT
    have HTb:=hide hI.T
    have Htb:=hide hI.tb
    have HI:=hide hI
    have HD:=hide hDf;have Hsz:=hide hsz5
    have hp20:=Hp.out.2.1
    have fn:IntKind.i64.wrap ((p:Int)+1)=(p:Int)+1:=wrapI (by omega)
    obtain⟨q0,q1,q2,q3,q4,q5⟩:=hI.sv.c6l
    have htne:w.heap.size+1≠w.heap.size+1+1:=by omega
    clear hI hDf hseq hXD hsz5 hT
    go_wp2_with fail
    clear q0 q1 q2 q3 q4 q5
    go_step3
    go_wp2_with fail
    go_loopw [64,3] (fun u v wr=>∃(j:Nat) (t:Nat→Nat→Int),j≤p+1∧u= .int .i64 j∧v= .bool true∧Hid (Bx wr (w.heap.size+1+1) (tblC t))∧Hid (FwOk (p+1) j t)∧Hid (solveGo (p+1) (p+1) 0 T=solveGo (p+1) (p+1-j) j t)∧Kept (fun b=>b≠w.heap.size+1+1) W' wr) (fun i _ _=>p+1-(intOf i).toNat)
    case atStart=>exact⟨0,T,by omega,rfl,rfl,HTb,HFw,hide rfl,Kept.refl _ _⟩
    case round=>
     clear HTb HFw
     obtain⟨j,t,hj,rfl,rfl,hT,hF,hS,hk⟩:=hrel
     by_cases hlt:j < p+1
     ·have j1:(j:Int) < (p:Int)+1:=by omega
      go_wp2_with fail
      go_loopw [68] (fun u wr=>∃i:Nat,i≤p+1∧u= .int .i64 i∧Hid (Bx wr (w.heap.size+1+1) (tblC (phTo (p+1) t j i 0)))∧Kept (fun b=>b≠w.heap.size+1+1) W' wr) (fun i _=>p+1-(intOf i).toNat)
      case atStart=>exact⟨0,by omega,rfl,hide (by rw[phTo_start];exact hT.out),hk⟩
      case round=>
       clear hT hk
       obtain⟨i,hi,rfl,hT,hk⟩:=hrel
       by_cases hli:i < p+1
       ·have i1:(i:Int) < (p:Int)+1:=by omega
        go_wp2_with fail
        go_loopw [72] (fun u wr=>∃k:Nat,k≤p+1∧u= .int .i64 k∧Hid (Bx wr (w.heap.size+1+1) (tblC (phTo (p+1) t j i k)))∧Kept (fun b=>b≠w.heap.size+1+1) W' wr) (fun i _=>p+1-(intOf i).toNat)
        case atStart=>exact⟨0,by omega,rfl,hT,hk⟩
        case round=>
         clear hT hk
         obtain⟨k,hkk,rfl,hTH,hk⟩:=hrel
         by_cases hlk:k < p+1
         ·have k1:(k:Int) < (p:Int)+1:=by omega
          obtain⟨wq,rfl⟩:∃x,x=wr:=⟨wr,rfl⟩
          have hd:=hF.out.dg j hlt
          have l1:=hF.out.lo i j hli hlt
          have l2:=hF.out.lo j k hlt hlk
          have u1:=hF.out.hi i j hli hlt
          have u2:=hF.out.hi j k hlt hlk
          have hpw:=pow_le_21 (show j≤21 by omega)
          obtain⟨a0,h0⟩:∃a,a=t i k:=⟨_,rfl⟩
          obtain⟨a1,h1⟩:∃a,a=t i j:=⟨_,rfl⟩
          obtain⟨a2,h2⟩:∃a,a=t j k:=⟨_,rfl⟩
          rw[←h1] at l1 u1
          rw[←h2] at l2 u2
          have Hc0:=hide (show phTo (p+1) t j i k i k=a0 by rw[phTo_at,h0])
          have Hc1:=hide (show phTo (p+1) t j i k i j=a1 by rw[phTo_col hd,h1])
          have Hc2:=hide (show phTo (p+1) t j i k j k=a2 by rw[phTo_lin hd,h2])
          have Hnx:=hide (show updT (phTo (p+1) t j i k) i k (min a0 (a1+a2))=phTo (p+1) t j i (k+1) by rw[h0,h1,h2];exact phTo_next hli hlk)
          have hi21:i < 21:=by omega
          have hj21:j < 21:=by omega
          have hk21:k < 21:=by omega
          have i0:(0:Int)≤(i:Int):=by omega
          have j0:(0:Int)≤(j:Int):=by omega
          have k0:(0:Int)≤(k:Int):=by omega
          have i2:(i:Int) < 21:=by omega
          have j2:(j:Int) < 21:=by omega
          have k2:(k:Int) < 21:=by omega
          have fs:IntKind.i64.wrap (a1+a2)=a1+a2:=wrapI (by omega)
          clear hd l1 l2 u1 u2 hpw h0 h1 h2
          go_wp2_with fail
          have hT:=hTH.out
          have Htb:=hide (Htb.out.kept hk htne)
          have Hkq:=hide hk
          clear hk
          refine wp_norm ?_
          refine wp_region_held_drew (S:=(fun W=>Kept (fun b=>b≠w.heap.size+1+1) wq W)) (by kernel_rfl) (by(try dsimp only);exact Kept.all _ (Below.refl _ _).drew) (fun hHeld=>?_)
          have hdr:Below wq.heap.size wq (World.drew wq):=(Below.refl _ _).drew
          generalize World.drew wq=Wd29 at hHeld hdr ⊢
          have hT:=hT.bel hdr
          have hbc:=Below.refl Wd29.heap.size Wd29
          iterate 4
           refine tkHl [0,3,10,17] ?_ rfl rfl (Or.inl ⟨by rfl,?_⟩) hHeld ?_
           rotate_left
           ·(intro w hSw;(try dsimp only at hSw);have y0:=(Htb.out.kept hSw htne).at_.c1;go_simp;try(with_reducible rfl))
           try simp only[Act.put,tl1,tl2,tl3]
          iterate 19
           refine tkHl [1,2,4,5,6,7,8,11,12,13,14,15,18,19,20,21,22,26,27] ?_ rfl rfl (Or.inl ⟨by rfl,?_⟩) hHeld ?_
           rotate_left
           ·(intro w _;go_simp;try(with_reducible rfl))
           try simp only[Act.put,tl1,tl2,tl3]
          refine cut0 (C:=fun (Wc29_1:World)=>Below Wd29.heap.size Wd29 Wc29_1∧Kept (fun b=>b≠w.heap.size+1+1) wq Wc29_1) (G:=?_) ?_ ?_
          rotate_left
          ·intro hCut
           replace hbc:=Below.refl Wd29.heap.size Wd29
           refine wpAnyH_ready (rs:=[9,16,23]) (by kernel_rfl) (by simp) ?_
           refine AllReadyH.cons (o:=⟨_,_,_,_,_,_⟩) rfl (fun K hK=>?_) ?_
           ·
            have hz:=hT.tg hi21 hk21
            rw[Hc0.out] at hz
            go_simp
            clear hz
            have hHeldN:=hHeld
            refine hK.out _ _ ?_ (fun hHeld2=>?_)
            ·exact hHeldN
            clear hK K hHeldN;have hHeld:=hHeld2;clear hHeld2
            try simp only[Act.put,tl1,tl2,tl3]
            refine wpAnyH_ready (rs:=[16,23]) (by kernel_rfl) (by simp) ?_
            refine AllReadyH.cons (o:=⟨_,_,_,_,_,_⟩) rfl (fun K hK=>?_) ?_
            ·
             have hz:=hT.tg hi21 hj21
             rw[Hc1.out] at hz
             go_simp
             clear hz
             have hHeldN:=hHeld
             refine hK.out _ _ ?_ (fun hHeld2=>?_)
             ·exact hHeldN
             clear hK K hHeldN;have hHeld:=hHeld2;clear hHeld2
             try simp only[Act.put,tl1,tl2,tl3]
             refine wpAnyH_ready (rs:=[23]) (by kernel_rfl) (by simp) ?_
             refine AllReadyH.cons (o:=⟨_,_,_,_,_,_⟩) rfl (fun K hK=>?_) AllReadyH.nil
             have hz:=hT.tg hj21 hk21
             rw[Hc2.out] at hz
             go_simp
             clear hz
             have hHeldN:=hHeld
             refine hK.out _ _ ?_ (fun hHeld2=>?_)
             ·exact hHeldN
             clear hK K hHeldN;have hHeld:=hHeld2;clear hHeld2
             try simp only[Act.put,tl1,tl2,tl3]
             iterate 3
              refine tkHl [24,25,28] ?_ rfl rfl (Or.inl ⟨by rfl,?_⟩) hHeld ?_
              rotate_left
              ·(intro w _;go_simp;try(with_reducible rfl))
              try simp only[Act.put,tl1,tl2,tl3]
             exact hCut Wd29 ⟨hbc,hHeld⟩
            refine AllReadyH.cons (o:=⟨_,_,_,_,_,_⟩) rfl (fun K hK=>?_) AllReadyH.nil
            have hz:=hT.tg hj21 hk21
            rw[Hc2.out] at hz
            go_simp
            clear hz
            have hHeldN:=hHeld
            refine hK.out _ _ ?_ (fun hHeld2=>?_)
            ·exact hHeldN
            clear hK K hHeldN;have hHeld:=hHeld2;clear hHeld2
            try simp only[Act.put,tl1,tl2,tl3]
            refine wpAnyH_ready (rs:=[16]) (by kernel_rfl) (by simp) ?_
            refine AllReadyH.cons (o:=⟨_,_,_,_,_,_⟩) rfl (fun K hK=>?_) AllReadyH.nil
            have hz:=hT.tg hi21 hj21
            rw[Hc1.out] at hz
            go_simp
            clear hz
            have hHeldN:=hHeld
            refine hK.out _ _ ?_ (fun hHeld2=>?_)
            ·exact hHeldN
            clear hK K hHeldN;have hHeld:=hHeld2;clear hHeld2
            try simp only[Act.put,tl1,tl2,tl3]
            iterate 3
             refine tkHl [24,25,28] ?_ rfl rfl (Or.inl ⟨by rfl,?_⟩) hHeld ?_
             rotate_left
             ·(intro w _;go_simp;try(with_reducible rfl))
             try simp only[Act.put,tl1,tl2,tl3]
            exact hCut Wd29 ⟨hbc,hHeld⟩
           refine AllReadyH.cons (o:=⟨_,_,_,_,_,_⟩) rfl (fun K hK=>?_) ?_
           ·
            have hz:=hT.tg hi21 hj21
            rw[Hc1.out] at hz
            go_simp
            clear hz
            have hHeldN:=hHeld
            refine hK.out _ _ ?_ (fun hHeld2=>?_)
            ·exact hHeldN
            clear hK K hHeldN;have hHeld:=hHeld2;clear hHeld2
            try simp only[Act.put,tl1,tl2,tl3]
            refine wpAnyH_ready (rs:=[9,23]) (by kernel_rfl) (by simp) ?_
            refine AllReadyH.cons (o:=⟨_,_,_,_,_,_⟩) rfl (fun K hK=>?_) ?_
            ·
             have hz:=hT.tg hi21 hk21
             rw[Hc0.out] at hz
             go_simp
             clear hz
             have hHeldN:=hHeld
             refine hK.out _ _ ?_ (fun hHeld2=>?_)
             ·exact hHeldN
             clear hK K hHeldN;have hHeld:=hHeld2;clear hHeld2
             try simp only[Act.put,tl1,tl2,tl3]
             refine wpAnyH_ready (rs:=[23]) (by kernel_rfl) (by simp) ?_
             refine AllReadyH.cons (o:=⟨_,_,_,_,_,_⟩) rfl (fun K hK=>?_) AllReadyH.nil
             have hz:=hT.tg hj21 hk21
             rw[Hc2.out] at hz
             go_simp
             clear hz
             have hHeldN:=hHeld
             refine hK.out _ _ ?_ (fun hHeld2=>?_)
             ·exact hHeldN
             clear hK K hHeldN;have hHeld:=hHeld2;clear hHeld2
             try simp only[Act.put,tl1,tl2,tl3]
             iterate 3
              refine tkHl [24,25,28] ?_ rfl rfl (Or.inl ⟨by rfl,?_⟩) hHeld ?_
              rotate_left
              ·(intro w _;go_simp;try(with_reducible rfl))
              try simp only[Act.put,tl1,tl2,tl3]
             exact hCut Wd29 ⟨hbc,hHeld⟩
            refine AllReadyH.cons (o:=⟨_,_,_,_,_,_⟩) rfl (fun K hK=>?_) AllReadyH.nil
            have hz:=hT.tg hj21 hk21
            rw[Hc2.out] at hz
            go_simp
            clear hz
            have hHeldN:=hHeld
            refine hK.out _ _ ?_ (fun hHeld2=>?_)
            ·exact hHeldN
            clear hK K hHeldN;have hHeld:=hHeld2;clear hHeld2
            try simp only[Act.put,tl1,tl2,tl3]
            refine tkH 24 ?_ rfl (Or.inl ⟨by rfl,?_⟩) hHeld ?_
            rotate_left
            ·(intro w _;go_simp;try(with_reducible rfl))
            try simp only[Act.put,tl1,tl2,tl3]
            refine wpAnyH_ready (rs:=[9]) (by kernel_rfl) (by simp) ?_
            refine AllReadyH.cons (o:=⟨_,_,_,_,_,_⟩) rfl (fun K hK=>?_) AllReadyH.nil
            have hz:=hT.tg hi21 hk21
            rw[Hc0.out] at hz
            go_simp
            clear hz
            have hHeldN:=hHeld
            refine hK.out _ _ ?_ (fun hHeld2=>?_)
            ·exact hHeldN
            clear hK K hHeldN;have hHeld:=hHeld2;clear hHeld2
            try simp only[Act.put,tl1,tl2,tl3]
            iterate 2
             refine tkHl [25,28] ?_ rfl rfl (Or.inl ⟨by rfl,?_⟩) hHeld ?_
             rotate_left
             ·(intro w _;go_simp;try(with_reducible rfl))
             try simp only[Act.put,tl1,tl2,tl3]
            exact hCut Wd29 ⟨hbc,hHeld⟩
           refine AllReadyH.cons (o:=⟨_,_,_,_,_,_⟩) rfl (fun K hK=>?_) AllReadyH.nil
           have hz:=hT.tg hj21 hk21
           rw[Hc2.out] at hz
           go_simp
           clear hz
           have hHeldN:=hHeld
           refine hK.out _ _ ?_ (fun hHeld2=>?_)
           ·exact hHeldN
           clear hK K hHeldN;have hHeld:=hHeld2;clear hHeld2
           try simp only[Act.put,tl1,tl2,tl3]
           refine wpAnyH_ready (rs:=[9,16]) (by kernel_rfl) (by simp) ?_
           refine AllReadyH.cons (o:=⟨_,_,_,_,_,_⟩) rfl (fun K hK=>?_) ?_
           ·
            have hz:=hT.tg hi21 hk21
            rw[Hc0.out] at hz
            go_simp
            clear hz
            have hHeldN:=hHeld
            refine hK.out _ _ ?_ (fun hHeld2=>?_)
            ·exact hHeldN
            clear hK K hHeldN;have hHeld:=hHeld2;clear hHeld2
            try simp only[Act.put,tl1,tl2,tl3]
            refine wpAnyH_ready (rs:=[16]) (by kernel_rfl) (by simp) ?_
            refine AllReadyH.cons (o:=⟨_,_,_,_,_,_⟩) rfl (fun K hK=>?_) AllReadyH.nil
            have hz:=hT.tg hi21 hj21
            rw[Hc1.out] at hz
            go_simp
            clear hz
            have hHeldN:=hHeld
            refine hK.out _ _ ?_ (fun hHeld2=>?_)
            ·exact hHeldN
            clear hK K hHeldN;have hHeld:=hHeld2;clear hHeld2
            try simp only[Act.put,tl1,tl2,tl3]
            iterate 3
             refine tkHl [24,25,28] ?_ rfl rfl (Or.inl ⟨by rfl,?_⟩) hHeld ?_
             rotate_left
             ·(intro w _;go_simp;try(with_reducible rfl))
             try simp only[Act.put,tl1,tl2,tl3]
            exact hCut Wd29 ⟨hbc,hHeld⟩
           refine AllReadyH.cons (o:=⟨_,_,_,_,_,_⟩) rfl (fun K hK=>?_) AllReadyH.nil
           have hz:=hT.tg hi21 hj21
           rw[Hc1.out] at hz
           go_simp
           clear hz
           have hHeldN:=hHeld
           refine hK.out _ _ ?_ (fun hHeld2=>?_)
           ·exact hHeldN
           clear hK K hHeldN;have hHeld:=hHeld2;clear hHeld2
           try simp only[Act.put,tl1,tl2,tl3]
           refine tkH 24 ?_ rfl (Or.inl ⟨by rfl,?_⟩) hHeld ?_
           rotate_left
           ·(intro w _;go_simp;try(with_reducible rfl))
           try simp only[Act.put,tl1,tl2,tl3]
           refine wpAnyH_ready (rs:=[9]) (by kernel_rfl) (by simp) ?_
           refine AllReadyH.cons (o:=⟨_,_,_,_,_,_⟩) rfl (fun K hK=>?_) AllReadyH.nil
           have hz:=hT.tg hi21 hk21
           rw[Hc0.out] at hz
           go_simp
           clear hz
           have hHeldN:=hHeld
           refine hK.out _ _ ?_ (fun hHeld2=>?_)
           ·exact hHeldN
           clear hK K hHeldN;have hHeld:=hHeld2;clear hHeld2
           try simp only[Act.put,tl1,tl2,tl3]
           iterate 2
            refine tkHl [25,28] ?_ rfl rfl (Or.inl ⟨by rfl,?_⟩) hHeld ?_
            rotate_left
            ·(intro w _;go_simp;try(with_reducible rfl))
            try simp only[Act.put,tl1,tl2,tl3]
           exact hCut Wd29 ⟨hbc,hHeld⟩
          intro Wc29_1 ⟨hbN,hHeldN⟩
          have hT:=hT.bel hbN
          have hbc:=hbc.trans (hbN.mono hbc.size);clear hHeld hbN;have hHeld:=hHeldN;clear hHeldN
          refine wpAnyH_ready (rs:=[29]) (by kernel_rfl) (by simp) ?_
          refine AllReadyH.cons (o:=⟨_,_,_,_,_,_⟩) rfl (fun K hK=>?_) AllReadyH.nil
          have HT:=hide hT
          have y9:=HT.out.fz (i*21+k)
          have y8:=HT.out.tg hi21 hk21
          rw[Hc0.out] at y8
          have HkF:=hide (hHeld.trans (Kept.setCell _ ⟨w.heap.size+1+1,i*21+k,none⟩ (.int .i64 (min a0 (a1+a2)))))
          clear hT
          go_simp
          refine hK.out _ _ ?_ (fun _=>?_)
          ·(try dsimp only);exact HkF.out
          clear hK K hHeld
          try simp only[Act.put,tl1,tl2,tl3]
          refine wpAnyH_done (by kernel_rfl) ?_ _
          have hTn:=HT.out.ts hi21 hk21 (min a0 (a1+a2))
          rw[Hnx.out] at hTn
          have HTn:=hide hTn
          have Hk2:=hide (Hkq.out.trans HkF.out)
          clear hTn HkF HT y8 y9 hdr hbc
          unfold onNormV
          dsimp only
          go_wp2_with fail
          exact⟨⟨k+1,by omega,by go_num,HTn,Hk2.out⟩,by simp[intOf];omega⟩
         ·obtain rfl:k=p+1:=by omega
          have hT2:=hTH.out
          rw[phTo_row] at hT2
          have HT2:=hide hT2
          clear hT2 hTH
          go_wp2_with fail
          exact⟨⟨i+1,by omega,by go_num,HT2,hk⟩,by simp[intOf];omega⟩
       ·obtain rfl:i=p+1:=by omega
        have hT2:=hT.out
        rw[phTo_end] at hT2
        have HT2:=hide hT2
        clear hT2 hT
        go_wp2_with fail
        obtain⟨t',ht'⟩:∃t',t'=phaseT (p+1) t j:=⟨_,rfl⟩
        rw[←ht'] at HT2
        have Ht':=hide ht'
        clear ht'
        go_loopw [107,3] (fun u v wr=>∃x:Nat,x≤p+1∧u= .int .i64 x∧v= .bool true∧Hid (Bx wr (w.heap.size+1+1) (tblC t'))∧Hid (∀y,y < x→t' y y=0)∧Kept (fun b=>b≠w.heap.size+1+1) W' wr) (fun i _ _=>p+1-(intOf i).toNat)
        case atStart=>exact⟨0,by omega,rfl,rfl,HT2,hide (fun y hy=>by omega),hk⟩
        case round=>
         clear HT2 hk
         obtain⟨x,hx,rfl,rfl,hT,hz,hk⟩:=hrel
         by_cases hlx:x < p+1
         ·have x1:(x:Int) < (p:Int)+1:=by omega
          have x0:(0:Int)≤(x:Int):=by omega
          have x2:(x:Int) < 21:=by omega
          have y0:=(Htb.out.kept hk htne).at_.c1
          have y2:=(Htb.out.kept hk htne).fz 0
          have y1:=hT.out.tg (show x < 21 by omega) (show x < 21 by omega)
          obtain⟨d,hd⟩:∃d,d=t' x x:=⟨_,rfl⟩
          rw[←hd] at y1
          have Hd:=hide hd
          clear hd
          by_cases hd0:d=0
          ·subst hd0
           have Hz2:=hide (show ∀y,y < x+1→t' y y=0 from fun y hy=>by
            by_cases e:y=x
            ·rw[e];exact Hd.out.symm
            ·exact hz.out y (by omega))
           go_wp2_with fail
           exact⟨⟨x+1,by omega,by go_num,rfl,hT,Hz2,hk⟩,by simp[intOf];omega⟩
          ·have Hs:=hide (show solveGo (p+1) (p+1-j) j t=(t',false) by
            rw[show p+1-j=(p-j)+1 by omega]
            unfold solveGo
            rw[←Ht'.out,if_neg]
            intro hdg
            simp only[diagOk,List.all_eq_true,List.mem_range,decide_eq_true_eq] at hdg
            exact hd0 (by rw[Hd.out];exact hdg x hlx))
           have hb0:(d == 0)=false:=by simpa using hd0
           go_wp2_with fail
           unfold Exit.noGoto
           go_wp2_with fail
           have HSf:=hide (show solveF p (fun _=>false) sh mk=(t',false) by unfold solveF;rw[←HL.out,←HTe.out,hS.out];exact Hs.out)
           have hk2:Kept (fun b=>b≠w.heap.size+1) wr _:=Kept.setCell wr ⟨w.heap.size+1,0,none⟩ (.pointer (some ⟨w.heap.size+1+1,0,none⟩))
           have htb2:=(Htb.out.kept hk htne).set (j:=0) (.pointer (some ⟨w.heap.size+1+1,0,none⟩)) (by simp)
           have hDf:(wr.setCell ⟨w.heap.size+1,0,none⟩ (.pointer (some ⟨w.heap.size+1+1,0,none⟩))).heap[w5.heap.size]?=some (.deferred (some [])):=
            (hk2.same _ (by have:=Hsz.out;show _≠_;omega) (by have:=hk.size;omega)).trans ((hk.same _ (by have:=Hsz.out;show _≠_;omega) (by omega)).trans HD.out)
           have hk3:=Kept.putObj (wr.setCell ⟨w.heap.size+1,0,none⟩ (.pointer (some ⟨w.heap.size+1+1,0,none⟩))) w5.heap.size (.deferred none)
           have htb3:=(htb2.kept hk3 (by have:=Hsz.out;omega)).at_.c1
           have hT3:=(hT.out.kept hk2 (by omega)).kept hk3 (by have:=Hsz.out;omega)
           have hB3:=HI.out.bl.trans (((hk.mono fun b _ (hb:b < w.heap.size)=>by omega).trans ((hk2.mono fun b _ hb=>by show b≠_;omega).trans (hk3.mono fun b _ hb=>by have:=Hsz.out;omega))).below (fun b hb=>hb) HI.out.bl.size)
           refine⟨by simp,.inl ⟨_,_,rfl,run_takeDeferred hDf,?_⟩⟩
           refine⟨.tuple #[.pointer (some ⟨w.heap.size+1+1,0,none⟩),.bool false],?_,w.heap.size+1+1,by rw[HSf.out],by rw[HSf.out];exact hT3,by omega,hB3⟩
           simp only[results,Tryz.results258]
           simp[go_sem,htb3]
         ·obtain rfl:x=p+1:=by omega
          have hdg:diagOk (p+1) (phaseT (p+1) t j)=true:=by
           simp only[diagOk,List.all_eq_true,List.mem_range,decide_eq_true_eq]
           intro y hy
           rw[←Ht'.out]
           exact hz.out y hy
          have HF2:=hide (hF.out.next hlt hdg)
          have HS2:=hide (show solveGo (p+1) (p+1) 0 T=solveGo (p+1) (p+1-(j+1)) (j+1) t' by
           rw[hS.out,show p+1-j=(p-j)+1 by omega,show p+1-(j+1)=p-j by omega,Ht'.out]
           conv=>lhs;unfold solveGo
           rw[if_pos hdg])
          rw[←Ht'.out] at HF2
          clear hdg
          go_wp2_with fail
          exact⟨⟨j+1,t',by omega,by go_num,rfl,hT,HF2,HS2,hk⟩,by simp[intOf];omega⟩
     ·obtain rfl:j=p+1:=by omega
      have y0:=(Htb.out.kept hk htne).at_.c1
      have y2:=(Htb.out.kept hk htne).fz 0
      go_wp2_with fail
      unfold Exit.noGoto
      go_wp2_with fail
      have HSf:=hide (show solveF p (fun _=>false) sh mk=(t,true) by unfold solveF;rw[←HL.out,←HTe.out,hS.out,Nat.sub_self];rfl)
      have hk2:Kept (fun b=>b≠w.heap.size+1) wr _:=Kept.setCell wr ⟨w.heap.size+1,0,none⟩ (.pointer (some ⟨w.heap.size+1+1,0,none⟩))
      have htb2:=(Htb.out.kept hk htne).set (j:=0) (.pointer (some ⟨w.heap.size+1+1,0,none⟩)) (by simp)
      have hDf:(wr.setCell ⟨w.heap.size+1,0,none⟩ (.pointer (some ⟨w.heap.size+1+1,0,none⟩))).heap[w5.heap.size]?=some (.deferred (some [])):=
       (hk2.same _ (by have:=Hsz.out;show _≠_;omega) (by have:=hk.size;omega)).trans ((hk.same _ (by have:=Hsz.out;show _≠_;omega) (by omega)).trans HD.out)
      have hk3:=Kept.putObj (wr.setCell ⟨w.heap.size+1,0,none⟩ (.pointer (some ⟨w.heap.size+1+1,0,none⟩))) w5.heap.size (.deferred none)
      have htb3:=(htb2.kept hk3 (by have:=Hsz.out;omega)).at_.c1
      have hT3:=(hT.out.kept hk2 (by omega)).kept hk3 (by have:=Hsz.out;omega)
      have hB3:=HI.out.bl.trans (((hk.mono fun b _ (hb:b < w.heap.size)=>by omega).trans ((hk2.mono fun b _ hb=>by show b≠_;omega).trans (hk3.mono fun b _ hb=>by have:=Hsz.out;omega))).below (fun b hb=>hb) HI.out.bl.size)
      refine⟨by simp,.inl ⟨_,_,rfl,run_takeDeferred hDf,?_⟩⟩
      refine⟨.tuple #[.pointer (some ⟨w.heap.size+1+1,0,none⟩),.bool true],?_,w.heap.size+1+1,by rw[HSf.out],by rw[HSf.out];exact hT3,by omega,hB3⟩
      simp only[results,Tryz.results258]
      simp[go_sem,htb3]
end Go.Proofs.YtiioegopckoldaaGreatDoor
