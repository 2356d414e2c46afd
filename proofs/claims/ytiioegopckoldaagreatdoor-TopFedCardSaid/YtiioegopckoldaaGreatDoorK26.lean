/- lemmas for topFed_holds: W4 Dry W5. No conditions. -/
import Derived.Test.YtiioegopckoldaaGreatDoorK25
import Derived.Test.YtiioegopckoldaaGreatDoorK08
import Derived.Test.YtiioegopckoldaaGreatDoorK04
set_option linter.unusedVariables false
set_option linter.unusedSimpArgs false
namespace Go.Proofs.YtiioegopckoldaaGreatDoor
open Go.RowKit Go.Shelf
attribute [local go_sem ↓] Go.wp_at_zero Go.wp_at_succ
def downF (v fill thr:Int):Int:=max 0 (v-fill)*thr / 1000
def upG (v fill thr:Int):Int:=(max 0 (v-fill)*thr+999) / 1000
def amt (v:Int):Prop:=0≤v∧v≤1000000000000
theorem mul_bd {x t:Int} (h0:0≤x) (h1:x≤1000000000000) (t0:0≤t) (t1:t≤1000):0≤x*t∧x*t≤1000000000000000:=by
 refine⟨Int.mul_nonneg h0 t0,?_⟩
 have:=Int.mul_le_mul h1 t1 t0 (by omega:(0:Int)≤1000000000000)
 omega
theorem w64 {x:Int} (h: -9223372036854775808≤x∧x≤9223372036854775807):wrap64 x=x:=by
 unfold wrap64
 omega
theorem quo1000 {y:Int} (h0:0≤y) (h1:y≤2000000000000000):wrap64 ((wrap64 y).tdiv 1000)=y / 1000:=by
 rw[w64 (x:=y) (by omega),Int.tdiv_eq_ediv_of_nonneg h0]
 exact w64 (by omega)
set_option maxHeartbeats 1000000 in
theorem down_any (v fill thr:Int) (w:World) (hv:amt v) (hf:amt fill) (t0:0≤thr) (t1:thr≤1000) :
 Calls Tryz.prog 163 #[.int .i64 v,.int .i64 fill,.int .i64 thr] w fun e w'=>e= .returned (.int .i64 (downF v fill thr))∧w=w':=by
 obtain⟨v0,v1⟩:=hv
 obtain⟨f0,f1⟩:=hf
 by_cases h:fill < v
 ·have Hb:=hide (mul_bd (x:=v-fill) (by omega) (by omega) t0 t1)
  have h1:(0:Int) < v-fill:=by omega
  go_enter Tryz.func163,Tryz.ntmps163
  go_wp2
  go_ret
  exact⟨ret_int (by rw[quo1000 Hb.out.1 (by have:=Hb.out.2;omega)];unfold downF;rw[Int.max_eq_right (by omega)]),rfl⟩
 ·have h1:v-fill≤0:=by omega
  go_enter Tryz.func163,Tryz.ntmps163
  go_wp2
  go_ret
  exact⟨ret_int (by unfold downF;rw[Int.max_eq_left (by omega)];simp),rfl⟩
set_option maxHeartbeats 1000000 in
theorem up_fn (v fill thr:Int) (w:World) (hv:amt v) (hf:amt fill) (t0:0≤thr) (t1:thr≤1000) :
 Calls Tryz.prog 162 #[.int .i64 v,.int .i64 fill,.int .i64 thr] w fun e w'=>e= .returned (.int .i64 (upG v fill thr))∧w=w':=by
 obtain⟨v0,v1⟩:=hv
 obtain⟨f0,f1⟩:=hf
 by_cases h:fill < v
 ·have Hb:=hide (mul_bd (x:=v-fill) (by omega) (by omega) t0 t1)
  have h1:(0:Int) < v-fill:=by omega
  go_enter Tryz.func162,Tryz.ntmps162
  go_wp2
  go_ret
  refine⟨ret_int ?_,rfl⟩
  have hb:=Hb.out
  unfold upG
  rw[Int.max_eq_right (by omega)]
  generalize (v-fill)*thr=m at hb ⊢
  simp only[w64 (x:=m) (by omega),w64 (x:=m+1000) (by omega),w64 (x:=m+1000-1) (by omega)]
  rw[Int.tdiv_eq_ediv_of_nonneg (by omega),w64 (by omega),show m+1000-1=m+999 by omega]
 ·have h1:v-fill≤0:=by omega
  go_enter Tryz.func162,Tryz.ntmps162
  go_wp2
  go_ret
  exact⟨ret_int (by unfold upG;rw[Int.max_eq_left (by omega)];simp),rfl⟩
theorem downF_bd {v fill thr:Int} (hv:amt v) (hf:amt fill) (t0:0≤thr) (t1:thr≤1000):0≤downF v fill thr∧downF v fill thr≤v:=by
 unfold downF
 obtain⟨v0,v1⟩:=hv
 obtain⟨f0,f1⟩:=hf
 obtain⟨x,hx⟩:∃x,x=max 0 (v-fill):=⟨_,rfl⟩
 rw[←hx]
 have h1:0≤x∧x≤v:=by omega
 have h2:=Int.mul_nonneg h1.1 t0
 have h3:=Int.mul_le_mul_of_nonneg_left t1 h1.1
 omega
theorem upG_bd {v fill thr:Int} (hv:amt v) (hf:amt fill) (t0:0≤thr) (t1:thr≤1000):0≤upG v fill thr∧upG v fill thr≤v:=by
 unfold upG
 obtain⟨v0,v1⟩:=hv
 obtain⟨f0,f1⟩:=hf
 obtain⟨x,hx⟩:∃x,x=max 0 (v-fill):=⟨_,rfl⟩
 rw[←hx]
 have h1:0≤x∧x≤v:=by omega
 have h2:=Int.mul_nonneg h1.1 t0
 have h3:=Int.mul_le_mul_of_nonneg_left t1 h1.1
 omega
theorem flows_any (a b:Int) (w:World) :
 Calls Tryz.prog 94 #[.agg #[.int .i64 a,.int .i64 b]] w fun e w'=>e= .returned (.bool (Sp.ok 0 13000000 ⟨a,b⟩))∧Below w.heap.size w w':=by
 go_enter Tryz.func94,Tryz.ntmps94
 go_wp2_with fail
 refine calls_gen fun W HW=>?_
 have hb:Below w.heap.size w W:=by rw[←HW.out];exact below_new _ _
 refine(channel_proper _ _ _ _).mono ?_
 rintro e w' ⟨rfl,hb2⟩
 go_wp2
 go_ret
 exact⟨rfl,hb.trans (hb2.mono hb.size)⟩
structure Wk where
 fill:Sp
 thr:Sp
 deriving DecidableEq
def wkF (seep fill:Sp) (dry:Bool):Wk:=⟨if dry then fill else⟨0,0⟩,⟨1000-seep.hi,1000-seep.lo⟩⟩
def Wk.wf (x:Wk):Prop:=amt x.fill.lo∧amt x.fill.hi∧(0≤x.thr.lo∧x.thr.lo≤1000)∧(0≤x.thr.hi∧x.thr.hi≤1000)
set_option maxHeartbeats 2000000 in
theorem work_any (f s0 s1 l0 l1:Int) (dry:Bool) (w:World) (hs0:0≤s0∧s0≤1000) (hs1:0≤s1∧s1≤1000) :
 Calls Tryz.prog 99 #[.agg #[.int .i64 f,.int .i64 s0,.int .i64 s1,.int .i64 l0,.int .i64 l1],.bool dry] w fun e w'=>e= .returned (.agg #[.int .i64 (wkF ⟨s0,s1⟩ ⟨l0,l1⟩ dry).fill.lo,.int .i64 (wkF ⟨s0,s1⟩ ⟨l0,l1⟩ dry).fill.hi,.int .i64 (1000-s1),.int .i64 (1000-s0)])∧Below w.heap.size w w':=by
 cases dry
 all_goals
  go_enter Tryz.func99,Tryz.ntmps99
  go_wp2
  refine bodyPost_ret (by simp[results,Tryz.results99,go_sem,wkF];try rfl) rfl ⟨rfl,?_⟩
  exact(((Below.refl _ _).alloc (Nat.le_refl _) _).alloc (by simp) _).alloc (by simp;omega) _
end Go.Proofs.YtiioegopckoldaaGreatDoor
namespace Go.Proofs.YtiioegopckoldaaGreatDoor
open Go.RowKit Go.Shelf
attribute [local go_sem ↓] Go.wp_at_zero Go.wp_at_succ
structure GC (w W:World) (b1:Nat) (c1:List Value) (b2:Nat) (c2:List Value) (r:Nat):Prop where
 a1:At W b1 c1
 a2:At W b2 c2
 rr:∃x y:Value,At W r [x,y]
 fz:∀j:Nat,W.frozen? ⟨r,j,none⟩=false
 bl:Below w.heap.size w W
 n1:b1≠r
 n2:b2≠r
 le:w.heap.size≤r
section
variable {w W W':World} {b1 b2 r:Nat} {c1 c2:List Value}
theorem GC.keep (h:GC w W b1 c1 b2 c2 r) (hb:Below W.heap.size W W'):GC w W' b1 c1 b2 c2 r:=by
 obtain⟨x,y,hr⟩:=h.rr
 exact⟨h.a1.below hb,h.a2.below hb,⟨x,y,hr.below hb⟩,fun j=>(hb.frozen (p:=⟨_,j,none⟩) hr.1).trans (h.fz j),h.bl.trans (hb.mono h.bl.size),h.n1,h.n2,h.le⟩
theorem GC.drew (h:GC w W b1 c1 b2 c2 r):GC w W.drew b1 c1 b2 c2 r:=⟨h.a1,h.a2,h.rr,h.fz,h.bl.drew,h.n1,h.n2,h.le⟩
theorem At.other {w:World} {p r:Nat} {cs:List Value} (h:At w p cs) (j:Nat) (u:Value) (hne:p≠r):At (w.setCell ⟨r,j,none⟩ u) p cs:=
 ⟨by simpa[World.setCell] using h.1,fun i v hv=>(World.cell?_setCell_other _ _ _ _ (by simp[hne])).trans (h.2 i v hv)⟩
theorem GC.set2 (h:GC w W b1 c1 b2 c2 r) (x y:Value):GC w ((W.setCell ⟨r,0,none⟩ x).setCell ⟨r,1,none⟩ y) b1 c1 b2 c2 r:=by
 obtain⟨x',y',hr⟩:=h.rr
 refine⟨(h.a1.other _ _ h.n1).other _ _ h.n1,(h.a2.other _ _ h.n2).other _ _ h.n2,⟨x,y,?_⟩,fun j=>?_,(h.bl.setCell h.le _).setCell h.le _,h.n1,h.n2,h.le⟩
 ·have h1:=(hr.set (j:=0) x (by simp)).set (j:=1) y (by simp)
  simpa using h1
 ·rw[World.frozen?_setCell,World.frozen?_setCell]
  exact h.fz j
end
theorem gc_new (w:World) (c1 c2 c3:Array Value) (t1 t2 t3:TypeId) (x y:Value) (h3:c3.toList=[x,y]) :
 GC w (((w.alloc (.cells c1 t1)).alloc (.cells c2 t2)).alloc (.cells c3 t3)) w.heap.size c1.toList (w.heap.size+1) c2.toList (w.heap.size+1+1):=by
 refine⟨((At.new w c1 t1 _ rfl _ rfl).alloc _).alloc _,(At.new _ c2 t2 _ (by simp) _ rfl).alloc _,⟨x,y,At.new _ c3 t3 _ (by simp) _ h3⟩,fun j=>At.frozen_new _ c3 t3 _ (by simp) j,?_,by omega,by omega,by omega⟩
 exact((below_new w _).alloc (by simp) _).alloc (by simp;omega) _
theorem below_of_eq {w w':World} (h:w=w'):Below w.heap.size w w':=h ▸ Below.refl _ _
def goF (x:Wk) (v:Sp):Sp:=⟨downF v.lo x.fill.hi x.thr.lo,upG v.hi x.fill.lo x.thr.hi⟩
def seF (x:Wk) (v:Sp):Sp:=⟨v.lo-upG v.lo x.fill.lo x.thr.hi,v.hi-downF v.hi x.fill.hi x.thr.lo⟩
def amts (v:Sp):Prop:=amt v.lo∧amt v.hi
theorem goF_amt {x:Wk} {v:Sp} (hx:x.wf) (hv:amts v):amts (goF x v):=by
 obtain⟨f0,f1,t0,t1⟩:=hx
 have h1:=downF_bd hv.1 f1 t0.1 t0.2
 have h2:=upG_bd hv.2 f0 t1.1 t1.2
 obtain⟨⟨a,b⟩,⟨c,d⟩⟩:=hv
 exact⟨⟨h1.1,by show downF _ _ _≤_;omega⟩,⟨h2.1,by show upG _ _ _≤_;omega⟩⟩
theorem seF_amt {x:Wk} {v:Sp} (hx:x.wf) (hv:amts v):amts (seF x v):=by
 obtain⟨f0,f1,t0,t1⟩:=hx
 have h1:=downF_bd hv.2 f1 t0.1 t0.2
 have h2:=upG_bd hv.1 f0 t1.1 t1.2
 obtain⟨⟨a,b⟩,⟨c,d⟩⟩:=hv
 exact⟨⟨by show 0≤v.lo-upG _ _ _;omega,by show v.lo-upG _ _ _≤_;omega⟩,⟨by show 0≤v.hi-downF _ _ _;omega,by show v.hi-downF _ _ _≤_;omega⟩⟩
set_option maxHeartbeats 4000000 in
set_option maxRecDepth 100000 in
theorem goes_any (f0 f1 t0 t1 v0 v1:Int) (w:World) (hx:Wk.wf ⟨⟨f0,f1⟩,⟨t0,t1⟩⟩) (hv:amts ⟨v0,v1⟩) :
 Calls Tryz.prog 103 #[.agg #[.int .i64 f0,.int .i64 f1,.int .i64 t0,.int .i64 t1],.agg #[.int .i64 v0,.int .i64 v1]] w fun e w'=>e= .returned (.agg #[.int .i64 (goF ⟨⟨f0,f1⟩,⟨t0,t1⟩⟩ ⟨v0,v1⟩).lo,.int .i64 (goF ⟨⟨f0,f1⟩,⟨t0,t1⟩⟩ ⟨v0,v1⟩).hi])∧Below w.heap.size w w':=by
 have Hx:=hide hx;have Hv:=hide hv;clear hx hv
 go_enter Tryz.func103,Tryz.ntmps103
 go_wp2_with fail
 obtain⟨W0,HW0⟩:∃W0,Hid (((w.alloc (.cells #[.int .i64 f0,.int .i64 f1,.int .i64 t0,.int .i64 t1] 210)).alloc (.cells #[.int .i64 v0,.int .i64 v1] 24)).alloc (.cells #[.int .i64 0,.int .i64 0] 24)=W0):=⟨_,hide rfl⟩
 rw[HW0.out]
 have HS:Hid (GC w W0 w.heap.size [.int .i64 f0,.int .i64 f1,.int .i64 t0,.int .i64 t1] (w.heap.size+1) [.int .i64 v0,.int .i64 v1] (w.heap.size+1+1)):=by
  rw[←HW0.out];exact hide (gc_new w #[.int .i64 f0,.int .i64 f1,.int .i64 t0,.int .i64 t1] #[.int .i64 v0,.int .i64 v1] #[.int .i64 0,.int .i64 0] _ _ _ _ _ rfl)
 clear HW0
 refine wp_region_held_drew (S:=(fun W=>GC w W w.heap.size [.int .i64 f0,.int .i64 f1,.int .i64 t0,.int .i64 t1] (w.heap.size+1) [.int .i64 v0,.int .i64 v1] (w.heap.size+1+1))) (by kernel_rfl) (by(try dsimp only);exact HS.out.drew) (fun hHeld=>?_)
 iterate 10
  refine tkHl [0,2,3,5,6,9,11,12,14,15] ?_ rfl rfl (Or.inl ⟨by rfl,?_⟩) hHeld ?_
  rotate_left
  ·(intro w hSw;(try dsimp only at hSw);go_simp;try(with_reducible rfl))
  try simp only[Act.put,tl1,tl2,tl3]
 iterate 6
  refine tkHl [1,4,7,10,13,16] ?_ rfl rfl (Or.inl ⟨by rfl,?_⟩) hHeld ?_
  rotate_left
  ·(intro w hSw;(try dsimp only at hSw);obtain⟨q0,q1,q2,q3⟩:=hSw.a1.c4;obtain⟨p0,p1⟩:=hSw.a2.c2;go_simp;try(with_reducible rfl))
  try simp only[Act.put,tl1,tl2,tl3]
 refine wpAnyH_ready (rs:=[8]) (by kernel_rfl) (by simp) ?_
 refine AllReadyH.cons (o:=⟨_,_,_,_,_,_⟩) rfl (fun K hK=>?_) AllReadyH.nil
 go_simp
 refine(down_any _ _ _ _ (by first | exact Hv.out.1) Hx.out.2.1 Hx.out.2.2.1.1 Hx.out.2.2.1.2).mono ?_
 rintro e w' ⟨rfl,hw⟩
 have hb:=below_of_eq hw
 clear hw
 go_wp2_with fail
 refine hK.out _ _ ?_ (fun hHeld2=>?_)
 ·(try dsimp only)
  (first | exact HS.out.drew | exact hHeld.keep hb | exact hHeld.drew | exact hHeld.set2 _ _ | exact hHeld.keep (below_new _ _))
 clear hK K hHeld;have hHeld:=hHeld2;clear hHeld2
 try simp only[Act.put,tl1,tl2,tl3]
 refine wpAnyH_ready (rs:=[17]) (by kernel_rfl) (by simp) ?_
 refine AllReadyH.cons (o:=⟨_,_,_,_,_,_⟩) rfl (fun K hK=>?_) AllReadyH.nil
 go_simp
 refine(up_fn _ _ _ _ (by first | exact Hv.out.2) Hx.out.1 Hx.out.2.2.2.1 Hx.out.2.2.2.2).mono ?_
 rintro e w' ⟨rfl,hw⟩
 have hb:=below_of_eq hw
 clear hw
 go_wp2_with fail
 refine hK.out _ _ ?_ (fun hHeld2=>?_)
 ·(try dsimp only)
  (first | exact HS.out.drew | exact hHeld.keep hb | exact hHeld.drew | exact hHeld.set2 _ _ | exact hHeld.keep (below_new _ _))
 clear hK K hHeld;have hHeld:=hHeld2;clear hHeld2
 try simp only[Act.put,tl1,tl2,tl3]
 refine tkH 18 ?_ rfl (Or.inl ⟨by rfl,?_⟩) hHeld ?_
 rotate_left
 ·(intro w hSw;(try dsimp only at hSw);go_simp;try(with_reducible rfl))
 try simp only[Act.put,tl1,tl2,tl3]
 refine wpAnyH_ready (rs:=[19]) (by kernel_rfl) (by simp) ?_
 refine AllReadyH.cons (o:=⟨_,_,_,_,_,_⟩) rfl (fun K hK=>?_) AllReadyH.nil
 obtain⟨u0,u1,hrr⟩:=hHeld.rr
 obtain⟨z0,z1⟩:=hrr.c2
 have y0:=hHeld.fz 0
 have y1:=hHeld.fz 1
 go_simp
 refine hK.out _ _ ?_ (fun hHeld2=>?_)
 ·(try dsimp only)
  (first | exact HS.out.drew | exact hHeld.keep hb | exact hHeld.drew | exact hHeld.set2 _ _ | exact hHeld.keep (below_new _ _))
 clear hK K hHeld;have hHeld:=hHeld2;clear hHeld2
 try simp only[Act.put,tl1,tl2,tl3]
 refine wpAnyH_done (by kernel_rfl) ?_ _
 all_goals
  obtain⟨k0,k1⟩:=two_set _ _ (.int .i64 (downF v0 f1 t0)) (.int .i64 (upG v1 f0 t1)) z0 z1
  go_wp2
  exact bodyPost_ret (by simp[results,Tryz.results103,go_sem,k0,k1,goF];try rfl) rfl ⟨rfl,hHeld.bl⟩
set_option maxHeartbeats 4000000 in
set_option maxRecDepth 100000 in
theorem seeps_any (f0 f1 t0 t1 v0 v1:Int) (w:World) (hx:Wk.wf ⟨⟨f0,f1⟩,⟨t0,t1⟩⟩) (hv:amts ⟨v0,v1⟩) :
 Calls Tryz.prog 102 #[.agg #[.int .i64 f0,.int .i64 f1,.int .i64 t0,.int .i64 t1],.agg #[.int .i64 v0,.int .i64 v1]] w fun e w'=>e= .returned (.agg #[.int .i64 (seF ⟨⟨f0,f1⟩,⟨t0,t1⟩⟩ ⟨v0,v1⟩).lo,.int .i64 (seF ⟨⟨f0,f1⟩,⟨t0,t1⟩⟩ ⟨v0,v1⟩).hi])∧Below w.heap.size w w':=by
 have B1:=downF_bd hv.2 hx.2.1 hx.2.2.1.1 hx.2.2.1.2
 have B2:=upG_bd hv.1 hx.1 hx.2.2.2.1 hx.2.2.2.2
 have B3:=hv.1.2
 have B4:=hv.2.2
 dsimp only at B1 B2 B3 B4
 obtain⟨B5,B6⟩:=B1
 obtain⟨B7,B8⟩:=B2
 have Hx:=hide hx;have Hv:=hide hv;clear hx hv
 go_enter Tryz.func102,Tryz.ntmps102
 go_wp2_with fail
 obtain⟨W0,HW0⟩:∃W0,Hid (((w.alloc (.cells #[.int .i64 f0,.int .i64 f1,.int .i64 t0,.int .i64 t1] 210)).alloc (.cells #[.int .i64 v0,.int .i64 v1] 24)).alloc (.cells #[.int .i64 0,.int .i64 0] 24)=W0):=⟨_,hide rfl⟩
 rw[HW0.out]
 have HS:Hid (GC w W0 w.heap.size [.int .i64 f0,.int .i64 f1,.int .i64 t0,.int .i64 t1] (w.heap.size+1) [.int .i64 v0,.int .i64 v1] (w.heap.size+1+1)):=by
  rw[←HW0.out];exact hide (gc_new w #[.int .i64 f0,.int .i64 f1,.int .i64 t0,.int .i64 t1] #[.int .i64 v0,.int .i64 v1] #[.int .i64 0,.int .i64 0] _ _ _ _ _ rfl)
 clear HW0
 refine wp_region_held_drew (S:=(fun W=>GC w W w.heap.size [.int .i64 f0,.int .i64 f1,.int .i64 t0,.int .i64 t1] (w.heap.size+1) [.int .i64 v0,.int .i64 v1] (w.heap.size+1+1))) (by kernel_rfl) (by(try dsimp only);exact HS.out.drew) (fun hHeld=>?_)
 iterate 12
  refine tkHl [0,2,4,5,7,8,12,14,16,17,19,20] ?_ rfl rfl (Or.inl ⟨by rfl,?_⟩) hHeld ?_
  rotate_left
  ·(intro w hSw;(try dsimp only at hSw);go_simp;try(with_reducible rfl))
  try simp only[Act.put,tl1,tl2,tl3]
 iterate 8
  refine tkHl [1,3,6,9,13,15,18,21] ?_ rfl rfl (Or.inl ⟨by rfl,?_⟩) hHeld ?_
  rotate_left
  ·(intro w hSw;(try dsimp only at hSw);obtain⟨q0,q1,q2,q3⟩:=hSw.a1.c4;obtain⟨p0,p1⟩:=hSw.a2.c2;go_simp;try(with_reducible rfl))
  try simp only[Act.put,tl1,tl2,tl3]
 refine wpAnyH_ready (rs:=[10]) (by kernel_rfl) (by simp) ?_
 refine AllReadyH.cons (o:=⟨_,_,_,_,_,_⟩) rfl (fun K hK=>?_) AllReadyH.nil
 go_simp
 refine(up_fn _ _ _ _ (by first | exact Hv.out.1) Hx.out.1 Hx.out.2.2.2.1 Hx.out.2.2.2.2).mono ?_
 rintro e w' ⟨rfl,hw⟩
 have hb:=below_of_eq hw
 clear hw
 go_wp2_with fail
 refine hK.out _ _ ?_ (fun hHeld2=>?_)
 ·(try dsimp only)
  (first | exact HS.out.drew | exact hHeld.keep hb | exact hHeld.drew | exact hHeld.set2 _ _ | exact hHeld.keep (below_new _ _))
 clear hK K hHeld;have hHeld:=hHeld2;clear hHeld2
 try simp only[Act.put,tl1,tl2,tl3]
 refine tkH 11 ?_ rfl (Or.inl ⟨by rfl,?_⟩) hHeld ?_
 rotate_left
 ·(intro w hSw;(try dsimp only at hSw);go_simp;try(with_reducible rfl))
 try simp only[Act.put,tl1,tl2,tl3]
 refine wpAnyH_ready (rs:=[22]) (by kernel_rfl) (by simp) ?_
 refine AllReadyH.cons (o:=⟨_,_,_,_,_,_⟩) rfl (fun K hK=>?_) AllReadyH.nil
 go_simp
 refine(down_any _ _ _ _ (by first | exact Hv.out.2) Hx.out.2.1 Hx.out.2.2.1.1 Hx.out.2.2.1.2).mono ?_
 rintro e w' ⟨rfl,hw⟩
 have hb:=below_of_eq hw
 clear hw
 go_wp2_with fail
 refine hK.out _ _ ?_ (fun hHeld2=>?_)
 ·(try dsimp only)
  (first | exact HS.out.drew | exact hHeld.keep hb | exact hHeld.drew | exact hHeld.set2 _ _ | exact hHeld.keep (below_new _ _))
 clear hK K hHeld;have hHeld:=hHeld2;clear hHeld2
 try simp only[Act.put,tl1,tl2,tl3]
 iterate 2
  refine tkHl [23,24] ?_ rfl rfl (Or.inl ⟨by rfl,?_⟩) hHeld ?_
  rotate_left
  ·(intro w hSw;(try dsimp only at hSw);go_simp;try(with_reducible rfl))
  try simp only[Act.put,tl1,tl2,tl3]
 refine wpAnyH_ready (rs:=[25]) (by kernel_rfl) (by simp) ?_
 refine AllReadyH.cons (o:=⟨_,_,_,_,_,_⟩) rfl (fun K hK=>?_) AllReadyH.nil
 obtain⟨u0,u1,hrr⟩:=hHeld.rr
 obtain⟨z0,z1⟩:=hrr.c2
 have y0:=hHeld.fz 0
 have y1:=hHeld.fz 1
 go_simp
 refine hK.out _ _ ?_ (fun hHeld2=>?_)
 ·(try dsimp only)
  (first | exact HS.out.drew | exact hHeld.keep hb | exact hHeld.drew | exact hHeld.set2 _ _ | exact hHeld.keep (below_new _ _))
 clear hK K hHeld;have hHeld:=hHeld2;clear hHeld2
 try simp only[Act.put,tl1,tl2,tl3]
 refine wpAnyH_done (by kernel_rfl) ?_ _
 all_goals
  obtain⟨k0,k1⟩:=two_set _ _ (.int .i64 (IntKind.i64.wrap (v0-upG v0 f0 t1))) (.int .i64 (IntKind.i64.wrap (v1-downF v1 f1 t0))) z0 z1
  rw[wrapI (by omega),wrapI (by omega)] at k0 k1 hHeld
  rw[wrapI (by omega),wrapI (by omega)]
  go_wp2
  exact bodyPost_ret (by simp[results,Tryz.results102,go_sem,k0,k1,seF];try rfl) rfl ⟨rfl,hHeld.bl⟩
end Go.Proofs.YtiioegopckoldaaGreatDoor
namespace Go.Proofs.YtiioegopckoldaaGreatDoor
open Go.RowKit Go.Shelf
attribute [local go_sem ↓] Go.wp_at_zero Go.wp_at_succ
def addS (a b:Sp):Sp:=⟨a.lo+b.lo,a.hi+b.hi⟩
def sumS (s:Sp) (xs:List Sp):Sp:=xs.foldl addS s
theorem sumS_snoc {s:Sp} {xs:List Sp} {k:Nat} {x:Sp} (h:xs[k]?=some x):sumS s (xs.take (k+1))=addS (sumS s (xs.take k)) x:=by
 unfold sumS
 rw[List.take_add_one,h]
 simp
theorem sumS_bd {s:Sp} {xs:List Sp} {M:Int} (h0:0≤s.lo∧s.lo≤M) (h1:0≤s.hi∧s.hi≤M) (hx:∀x∈xs,amts x) (k:Nat) (hk:k≤xs.length) :
 (0≤(sumS s (xs.take k)).lo∧(sumS s (xs.take k)).lo≤M+k*1000000000000)∧(0≤(sumS s (xs.take k)).hi∧(sumS s (xs.take k)).hi≤M+k*1000000000000):=by
 induction k with
 | zero=>simp[sumS];omega
 | succ k ih =>
   obtain⟨h2,h3⟩:=ih (by omega)
   have hg:xs[k]?=some xs[k]:=List.getElem?_eq_getElem (by omega)
   obtain⟨⟨a,b⟩,c,d⟩:=hx _ (List.getElem_mem (by omega:k < xs.length))
   rw[sumS_snoc hg]
   simp only[addS]
   omega
structure SC (w W:World) (b:Nat) (s:Sp) (r:Nat):Prop where
 a1:At W b [.int .i64 s.lo,.int .i64 s.hi]
 f1:∀j:Nat,W.frozen? ⟨b,j,none⟩=false
 rr:At W r [.int .i64 0,.int .i64 0]
 fz:∀j:Nat,W.frozen? ⟨r,j,none⟩=false
 bl:Below w.heap.size w W
 n1:b≠r
 lb:w.heap.size≤b
 le:w.heap.size≤r
theorem SC.keep {w W W':World} {b r:Nat} {s:Sp} (h:SC w W b s r) (hb:Below W.heap.size W W'):SC w W' b s r:=
 ⟨h.a1.below hb,fun j=>(hb.frozen (p:=⟨_,j,none⟩) h.a1.1).trans (h.f1 j),h.rr.below hb,fun j=>(hb.frozen (p:=⟨_,j,none⟩) h.rr.1).trans (h.fz j),h.bl.trans (hb.mono h.bl.size),h.n1,h.lb,h.le⟩
theorem SC.set {w W:World} {b r:Nat} {s:Sp} (h:SC w W b s r) (x y:Int):SC w ((W.setCell ⟨b,0,none⟩ (.int .i64 x)).setCell ⟨b,1,none⟩ (.int .i64 y)) b ⟨x,y⟩ r:=by
 refine⟨?_,fun j=>?_,(h.rr.other _ _ (Ne.symm h.n1)).other _ _ (Ne.symm h.n1),fun j=>?_,(h.bl.setCell h.lb _).setCell h.lb _,h.n1,h.lb,h.le⟩
 ·have h1:=(h.a1.set (j:=0) (.int .i64 x) (by simp)).set (j:=1) (.int .i64 y) (by simp)
  simpa using h1
 ·rw[World.frozen?_setCell,World.frozen?_setCell];exact h.f1 j
 ·rw[World.frozen?_setCell,World.frozen?_setCell];exact h.fz j
theorem sc_new (w:World) (a b:Int) (t1 t2:TypeId):SC w ((w.alloc (.cells #[.int .i64 a,.int .i64 b] t1)).alloc (.cells #[.int .i64 0,.int .i64 0] t2)) w.heap.size ⟨a,b⟩ (w.heap.size+1):=by
 refine⟨(At.new w _ t1 _ rfl _ rfl).alloc _,fun j=>?_,At.new _ _ t2 _ (by simp) _ rfl,fun j=>At.frozen_new _ _ t2 _ (by simp) j,(below_new w _).alloc (by simp) _,by omega,by omega,by omega⟩
 exact((below_new _ _).frozen (p:=⟨w.heap.size,j,none⟩) (by simp)).trans (At.frozen_new _ _ t1 _ rfl j)
set_option maxHeartbeats 4000000 in
set_option maxRecDepth 100000 in
theorem sum_any (a0 b0:Int) (A:Option Addr) (n c:Nat) (xs:List Sp) (w:World) (hr:Rd w w.heap.size Sp.cells A xs) (hn:n=xs.length) (hn2:n≤1000) (h0:0≤a0∧a0≤1000000000000000) (h1:0≤b0∧b0≤1000000000000000) (hx:∀x∈xs,amts x) :
 Calls Tryz.prog 101 #[.agg #[.int .i64 a0,.int .i64 b0],.slice A n c] w fun e w'=>e= .returned (.agg #[.int .i64 (sumS ⟨a0,b0⟩ xs).lo,.int .i64 (sumS ⟨a0,b0⟩ xs).hi])∧Below w.heap.size w w':=by
 have Hr:=hide hr;have Hn:=hide hn
 have Hbd:=hide (fun k hk=>sumS_bd (s:=⟨a0,b0⟩) (xs:=xs) (M:=1000000000000000) h0 h1 hx k hk)
 have Hx:=hide hx
 clear hr hn hx
 have hS:=sc_new w a0 b0 24 24
 go_enter Tryz.func101,Tryz.ntmps101
 go_wp2_with fail
 go_loopw [9] (fun i wr=>∃k:Nat,k≤n∧i= .int .i64 k∧SC w wr w.heap.size (sumS ⟨a0,b0⟩ (xs.take k)) (w.heap.size+1)) (fun i _=>n-(intOf i).toNat)
 case atStart=>exact⟨0,by omega,rfl,hS⟩
 case round=>
  clear hS
  obtain⟨k,hk,rfl,hS⟩:=hrel
  obtain⟨B1,B2⟩:=Hbd.out k (by have:=Hn.out;omega)
  obtain⟨s,hs⟩:∃s,s=sumS ⟨a0,b0⟩ (xs.take k):=⟨_,rfl⟩
  rw[←hs] at B1 B2 hS
  obtain⟨lo,hi⟩:=s
  dsimp only at B1 B2
  have Hs:=hide hs;clear hs
  by_cases hlt:k < n
  ·obtain⟨b,off,x0,x1,rfl,hbB,hxk,c0,c1⟩:=Hr.out.sp (i:=k) (by have:=Hn.out;omega)
   have hxa:=Hx.out _ (List.mem_of_getElem? hxk)
   obtain⟨⟨x2,x3⟩,x4,x5⟩:=hxa
   dsimp only at x2 x3 x4 x5
   have hcb:=hS.bl
   have c0:=(hcb.cell (p:=⟨b,off+k*2,none⟩) hbB).trans c0
   have c1:=(hcb.cell (p:=⟨b,off+k*2+1,none⟩) hbB).trans c1
   have hi0:(0:Int)≤(k:Int):=by omega
   have hi1:(k:Int) < (n:Int):=by omega
   obtain⟨q0,q1⟩:=hS.a1.c2
   have y0:=hS.f1 0
   have y1:=hS.f1 1
   have hlb:=hS.a1.1
   go_wp2_with fail
   refine⟨⟨k+1,by omega,by go_num,?_⟩,by simp[intOf];omega⟩
   have hz:=(hS.set (lo+x0) (hi+x1)).keep (below_new _ (.cells #[.int .i64 x0,.int .i64 x1] 24))
   rw[sumS_snoc hxk,←Hs.out]
   exact hz
  ·obtain rfl:k=n:=by omega
   obtain⟨q0,q1⟩:=hS.a1.c2
   obtain⟨p0,p1⟩:=hS.rr.c2
   have y0:=hS.fz 0
   have y1:=hS.fz 1
   obtain⟨k0,k1⟩:=two_set _ _ (.int .i64 lo) (.int .i64 hi) p0 p1
   go_wp2
   refine bodyPost_ret (by simp[results,Tryz.results101,go_sem,k0,k1];try rfl) rfl ⟨?_,(hS.bl.setCell hS.le _).setCell hS.le _⟩
   have hz:=Hs.out
   rw[Hn.out,List.take_length] at hz
   rw[←hz]
end Go.Proofs.YtiioegopckoldaaGreatDoor
namespace Go.Proofs.YtiioegopckoldaaGreatDoor
open Go.RowKit Go.Shelf
attribute [local go_sem ↓] Go.wp_at_zero Go.wp_at_succ
theorem index_int (A:Option Addr) (xs:List Int) (n c:Nat) (x:Int) (w:World) (hn:n=xs.length) (hm:n≤1000000) (hx:Rd w w.heap.size icell A xs) :
 Calls Tryz.prog 137 #[.slice A n c,.int .i64 x] w fun e w'=>∃r:Int,e= .returned (.int .i64 r)∧decide (0≤r)=decide (x∈xs)∧w=w':=by
 have Hn:=hide hn;clear hn
 have Hx:=hide hx;clear hx
 go_enter Tryz.func137,Tryz.ntmps137
 go_wp2_with fail
 go_loopw [4,8] (fun v i wr=>∃k:Nat,k≤n∧i= .int .i64 k∧w=wr∧Hid (∀y∈xs.take k,decide (x=y)=false)) (fun _ i _=>n-(intOf i).toNat)
 case atStart=>exact⟨0,by omega,rfl,rfl,hide (pre_nil (p:=fun y=>decide (x=y)))⟩
 case round=>
  obtain⟨k,hk,rfl,rfl,hpre⟩:=hrel
  by_cases hlt:k < n
  ·obtain⟨b,off,x0,rfl,hB,hxk,hc0⟩:=Hx.out.int (i:=k) (by have:=Hn.out;omega)
   have Hxk:=hide hxk;clear hxk
   have hi0:(0:Int)≤(k:Int):=by omega
   have hi1:(k:Int) < (n:Int):=by omega
   by_cases hxx:x=x0
   ·subst hxx
    go_wp2
    go_ret
    exact⟨k,rfl,by simp[List.mem_of_getElem? Hxk.out],by first | rfl | trivial⟩
   ·go_wp2
    exact⟨⟨k+1,by omega,by go_num,by first | rfl | trivial,hide (pre_snoc (p:=fun y=>decide (x=y)) Hxk.out (decide_eq_false hxx) hpre.out)⟩,by simp[intOf];omega⟩
  ·go_wp2
   go_ret
   refine⟨-1,rfl,?_,rfl⟩
   have hz:=hpre.out
   rw[show k=xs.length by have:=Hn.out;omega,List.take_length] at hz
   have hno:x∉xs:=fun hm=>by have:=hz x hm;simp at this
   simp[hno]
theorem contains_int (A:Option Addr) (xs:List Int) (n c:Nat) (x:Int) (w:World) (hn:n=xs.length) (hm:n≤1000000) (hx:Rd w w.heap.size icell A xs) :
 Calls Tryz.prog 100 #[.slice A n c,.int .i64 x] w fun e w'=>e= .returned (.bool (decide (x∈xs)))∧w=w':=by
 have H:=hide (index_int A xs n c x w hn hm hx);clear hx hn hm
 go_enter Tryz.func100,Tryz.ntmps100
 go_wp2_with (go_at_call 137;refine H.out.mono ?_;rintro e w' ⟨r,rfl,hr,rfl⟩;have Hr:=hide hr;clear hr)
 go_ret
 exact⟨ret_bool Hr.out,rfl⟩
set_option maxHeartbeats 1000000 in
theorem first_any (f:FuncId) (cp:Array Value) (p:Int→Bool) (hi:Int) (w:World) (h0:0≤hi) (h1:hi≤1000000)
 (eg:∀args w,(callFunc f args).run Tryz.prog w= .ok (.enter f args) w)
 (hf:∀m w',0≤m→m≤hi→Below w.heap.size w w'→Calls Tryz.prog f (#[.int .i64 m] ++ cp) w' fun e w''=>e= .returned (.bool (p m))∧Below w'.heap.size w' w'') :
 Calls Tryz.prog 142 #[.int .i64 hi,.func (.func f) #[] cp] w fun e w'=>∃r:Int,e= .returned (.int .i64 r)∧(0≤r∧r≤hi+1)∧(r=0∨p (r-1)=false)∧(r=hi+1∨p r=true)∧Below w.heap.size w w':=by
 have Hf:=hide hf;clear hf
 go_enter Tryz.func142,Tryz.ntmps142
 go_wp2_with fail
 go_loopw [5,6] (fun a b wr=>∃lo en:Int,a= .int .i64 lo∧b= .int .i64 en∧Below w.heap.size w wr∧(0≤lo∧lo≤en∧en≤hi+1)∧Hid (lo=0∨p (lo-1)=false)∧Hid (en=hi+1∨p en=true)) (fun a b _=>(intOf b-intOf a).toNat)
 case atStart=>exact⟨0,hi+1,rfl,rfl,Below.refl _ _,⟨by omega,by omega,by omega⟩,hide (.inl rfl),hide (.inl rfl)⟩
 case round=>
  obtain⟨lo,en,rfl,rfl,hb,⟨b0,b1,b2⟩,hl,he⟩:=hrel
  by_cases hlt:lo < en
  ·have hq0:(en-lo).tdiv 2=(en-lo) / 2:=Int.tdiv_eq_ediv_of_nonneg (by omega)
   obtain⟨q,hq⟩:∃q,q=(en-lo) / 2:=⟨_,rfl⟩
   rw[←hq] at hq0
   have hq1:0≤q∧q < en-lo:=by omega
   obtain⟨hq2,hq3⟩:=hq1
   have H:=hide (Hf.out (lo+q) wr (by omega) (by omega) hb)
   clear hq
   go_wp2_with fail
   refine H.out.mono ?_
   rintro e w' ⟨rfl,hb'⟩
   cases hp:p (lo+q)
   ·go_wp2_with fail
    exact⟨⟨lo+q+1,en,rfl,rfl,hb.trans (hb'.mono hb.size),⟨by omega,by omega,b2⟩,hide (.inr (by rw[show lo+q+1-1=lo+q by omega];exact hp)),he⟩,by simp[intOf];omega⟩
   ·go_wp2_with fail
    exact⟨⟨lo,lo+q,rfl,rfl,hb.trans (hb'.mono hb.size),⟨by omega,by omega,by omega⟩,hl,hide (.inr hp)⟩,by simp[intOf];omega⟩
  ·obtain rfl:lo=en:=by omega
   go_wp2
   go_ret
   exact⟨lo,rfl,⟨by omega,by omega⟩,hl.out,he.out,hb⟩
theorem enter_any (Ac Af:Option Addr) (nc cc nf cf:Nat) (dry days:Int) (cs:List Ca) (fs:List Int) (a b:Int) (w:World) (hnet:NetAt w Ac Af nc nf cs fs) :
 Calls Tryz.prog 38 #[.agg #[.slice Ac nc cc,.slice Af nf cf,.int .i64 dry,.int .i64 days],.agg #[.int .i64 a,.int .i64 b]] w fun e w'=>e= .returned (.int .i64 (if netOk cs fs dry days then(if Sp.ok 0 13000000 ⟨a,b⟩ then 0 else 21) else 50))∧Below w.heap.size w w':=by
 have hat0:=(At.new w #[.slice Ac nc cc,.slice Af nf cf,.int .i64 dry,.int .i64 days] 28 w.heap.size rfl _ rfl).alloc (.cells #[.int .i64 a,.int .i64 b] 24)
 have hat1:=At.new (w.alloc (.cells #[.slice Ac nc cc,.slice Af nf cf,.int .i64 dry,.int .i64 days] 28)) #[.int .i64 a,.int .i64 b] 24 (w.heap.size+1) (by simp) _ rfl
 have hB0:=(below_new w (.cells #[.slice Ac nc cc,.slice Af nf cf,.int .i64 dry,.int .i64 days] 28)).alloc (by simp) (.cells #[.int .i64 a,.int .i64 b] 24)
 have hE:=fun W h=>chanCheck_any Ac Af nc cc nf cf dry days cs fs W h
 cases hok:netOk cs fs dry days
 ·have he:netErr cs fs dry days=50:=by simp[netErr,hok]
  rw[he] at hE
  have HE:=hide hE;clear hE he hok
  go_enter Tryz.func38,Tryz.ntmps38
  go_wp2_with fail
  refine calls_gen fun W1 HW1=>?_
  rw[HW1.out] at hat0 hat1 hB0
  refine(HE.out W1 (hnet.below hB0)).mono ?_
  rintro e w2 ⟨rfl,hb2⟩
  go_wp2
  go_ret
  exact⟨rfl,hB0.trans (hb2.mono hB0.size)⟩
 ·have he:netErr cs fs dry days=0:=by simp[netErr,hok]
  rw[he] at hE
  have HE:=hide hE;clear hE he hok
  cases hsp:Sp.ok 0 13000000 ⟨a,b⟩
  all_goals
   have Hsp:=hide hsp;clear hsp
   go_enter Tryz.func38,Tryz.ntmps38
   go_wp2_with fail
   refine calls_gen fun W1 HW1=>?_
   rw[HW1.out] at hat0 hat1 hB0
   refine(HE.out W1 (hnet.below hB0)).mono ?_
   rintro e w2 ⟨rfl,hb2⟩
   obtain⟨q0,q1⟩:=(hat1.below hb2).c2
   go_wp2_with fail
   refine(flows_any a b w2).mono ?_
   rintro e w3 ⟨rfl,hb3⟩
   rw[Hsp.out]
   go_wp2
   go_ret
   exact⟨rfl,(hB0.trans (hb2.mono hB0.size)).trans (hb3.mono (hB0.trans (hb2.mono hB0.size)).size)⟩
end Go.Proofs.YtiioegopckoldaaGreatDoor
namespace Go.Proofs.YtiioegopckoldaaGreatDoor
open Go.RowKit Go.Shelf
theorem usAll_mem {nf cyc:Int}:∀{last:Int} {us:List Us},usAll nf cyc last us=true→∀u∈us,(0≤u.field∧u.field < nf)∧last≤u.frm∧u.frm < u.to∧u.to≤cyc
 | _,[],_,u,hu=>by simp at hu
 | last, v :: us, h, u, hu => by
   simp only[usAll,usOk,Bool.and_eq_true,decide_eq_true_eq,Bool.not_eq_true',decide_eq_false_iff_not] at h
   obtain⟨⟨⟨h1,h2⟩,h3,h4,h5⟩,h6⟩:=h
   rcases List.mem_cons.1 hu with rfl | hu
   ·omega
   ·have:=usAll_mem h6 u hu
    omega
theorem usesOk_mem {nf days:Int} {us:List Us} (h:usesOk nf days us=true) {u:Us} (hu:u∈us):(0≤u.field∧u.field < nf)∧0≤u.frm∧u.frm < u.to∧u.to≤days*1440:=by
 simp only[usesOk,Bool.and_eq_true] at h
 exact usAll_mem h.1 u hu
theorem usesOk_len {nf days:Int} {us:List Us} (h:usesOk nf days us=true):us.length≤60:=by
 simp only[usesOk,Bool.and_eq_true,decide_eq_true_eq] at h
 exact h.2
def carrJ (l:List Int) (v:Int) (f:Int→Option Int) (c:Int):Option Int:=if c∈l then some v else f c
def carrU (cs:List Ca) (fs:List Int) (cyc:Int) (f:Int→Option Int) (u:Us):Int→Option Int:=carrJ (upK cs fs u.field) (u.to-cyc) f
def carr (cs:List Ca) (fs:List Int) (cyc:Int) (us:List Us) (k:Nat):Int→Option Int:=(us.take k).foldl (carrU cs fs cyc) (fun _=>none)
theorem carrJ_nil (v:Int) (f:Int→Option Int) (c:Int):carrJ [] v f c=f c:=by simp[carrJ]
theorem carrJ_snoc (l:List Int) (x v:Int) (f:Int→Option Int) (c:Int):carrJ (l ++ [x]) v f c=upd (carrJ l v f) x (some v) c:=by
 unfold carrJ upd
 by_cases e:c=x <;> simp[e]
theorem carr_succ {cs:List Ca} {fs:List Int} {cyc:Int} {us:List Us} {k:Nat} {u:Us} (hx:us[k]?=some u):carr cs fs cyc us (k+1)=carrJ (upK cs fs u.field) (u.to-cyc) (carr cs fs cyc us k):=by
 unfold carr
 rw[take_snoc hx,List.foldl_append]
 rfl
def dryStep (dry:Int) (u:Us) (st:List Int×(Int→Option Int)) (c:Int):List Int×(Int→Option Int):=(if dry < u.frm-(st.2 c).getD 0 then st.1 ++ [c] else st.1,upd st.2 c (some u.to))
def drySt (dry:Int) (u:Us) (f:Int→Option Int) (p:List Int):List Int×(Int→Option Int):=p.foldl (dryStep dry u) ([],f)
def fK (cs:List Ca) (fs:List Int) (dry cyc:Int) (us:List Us) (k:Nat):Int→Option Int:=(us.take k).foldl (fun f u=>(drySt dry u f (pathK cs fs u.field)).2) (carr cs fs cyc us us.length)
def dryL (cs:List Ca) (fs:List Int) (dry cyc:Int) (us:List Us) (k:Nat):List Int:=match us[k]? with | some u=>(drySt dry u (fK cs fs dry cyc us k) (pathK cs fs u.field)).1 | none=>[]
theorem fK_succ {cs:List Ca} {fs:List Int} {dry cyc:Int} {us:List Us} {k:Nat} {u:Us} (hx:us[k]?=some u):fK cs fs dry cyc us (k+1)=(drySt dry u (fK cs fs dry cyc us k) (pathK cs fs u.field)).2:=by
 unfold fK
 rw[take_snoc hx,List.foldl_append]
 rfl
theorem drySt_snoc {dry:Int} {u:Us} {f:Int→Option Int} {p:List Int} {k:Nat} {c:Int} (hx:p[k]?=some c):drySt dry u f (p.take (k+1))=dryStep dry u (drySt dry u f (p.take k)) c:=by
 unfold drySt
 rw[take_snoc hx,List.foldl_append]
 rfl
theorem drySt_len (dry:Int) (u:Us) (f:Int→Option Int) (p:List Int):(drySt dry u f p).1.length≤p.length:=by
 unfold drySt
 have:∀(p:List Int) (st:List Int×(Int→Option Int)),(p.foldl (dryStep dry u) st).1.length≤st.1.length+p.length:=by
  intro p
  induction p with
  | nil=>intro st;simp
  | cons c p ih =>
    intro st
    have:=ih (dryStep dry u st c)
    have h2:(dryStep dry u st c).1.length≤st.1.length+1:=by unfold dryStep;split <;> simp
    simp only[List.foldl_cons,List.length_cons]
    omega
 simpa using this p ([],f)
def timesIn (f:Int→Option Int):Prop:=∀c x,f c=some x→ -23040≤x∧x≤23040
theorem timesIn_none:timesIn (fun _=>none):=fun c x h=>by cases h
theorem timesIn_upd {f:Int→Option Int} (h:timesIn f) {k v:Int} (hv: -23040≤v∧v≤23040):timesIn (upd f k (some v)):=fun c x hx=>by
 unfold upd at hx
 split at hx
 ·injection hx with hx;subst hx;exact hv
 ·exact h c x hx
theorem timesIn_carrJ {f:Int→Option Int} (h:timesIn f) {l:List Int} {v:Int} (hv: -23040≤v∧v≤23040):timesIn (carrJ l v f):=fun c x hx=>by
 unfold carrJ at hx
 split at hx
 ·injection hx with hx;subst hx;exact hv
 ·exact h c x hx
theorem timesIn_get {f:Int→Option Int} (h:timesIn f) (c:Int): -23040≤(f c).getD 0∧(f c).getD 0≤23040:=by
 cases e:f c with
 | none=>simp
 | some x=>simpa using h c x e
theorem timesIn_carr {nf days:Int} {us:List Us} (hu:usesOk nf days us=true) (hd:1≤days∧days≤16) (cs:List Ca) (fs:List Int):∀k,timesIn (carr cs fs (days*1440) us k)
 | 0=>timesIn_none
 | k + 1 => by
   cases hx:us[k]? with
   | none =>
     have:us.length≤k:=List.getElem?_eq_none_iff.1 hx
     have h1:=timesIn_carr hu hd cs fs k
     unfold carr at h1 ⊢
     rwa [List.take_of_length_le (by omega),←List.take_of_length_le this]
   | some u =>
     rw[carr_succ hx]
     have:=usesOk_mem hu (List.mem_of_getElem? hx)
     exact timesIn_carrJ (timesIn_carr hu hd cs fs k) (by omega)
theorem timesIn_drySt {u:Us} (hu: -23040≤u.to∧u.to≤23040) (dry:Int):∀(p:List Int) (st:List Int×(Int→Option Int)),timesIn st.2→timesIn (p.foldl (dryStep dry u) st).2
 | [],st,h=>h
 | c :: p,st,h=>timesIn_drySt hu dry p (dryStep dry u st c) (timesIn_upd h hu)
theorem timesIn_fK {nf days:Int} {us:List Us} (hu:usesOk nf days us=true) (hd:1≤days∧days≤16) (cs:List Ca) (fs:List Int) (dry:Int):∀k,timesIn (fK cs fs dry (days*1440) us k)
 | 0=>timesIn_carr hu hd cs fs _
 | k + 1 => by
   cases hx:us[k]? with
   | none =>
     have:us.length≤k:=List.getElem?_eq_none_iff.1 hx
     have h1:=timesIn_fK hu hd cs fs dry k
     unfold fK at h1 ⊢
     rw[List.take_of_length_le (by omega:us.length≤k+1)]
     rwa [List.take_of_length_le this] at h1
   | some u =>
     rw[fK_succ hx]
     have:=usesOk_mem hu (List.mem_of_getElem? hx)
     exact timesIn_drySt (by omega) dry _ _ (timesIn_fK hu hd cs fs dry k)
end Go.Proofs.YtiioegopckoldaaGreatDoor
namespace Go.Proofs.YtiioegopckoldaaGreatDoor
open Go.RowKit Go.Shelf
def atS (xs:List Sp) (i:Nat):Sp:=xs[i]?.getD ⟨0,0⟩
def putS (xs:List Sp) (i:Nat) (y:Sp):List Sp:=xs.set i (addS (atS xs i) y)
def wkAt (cs:List Ca) (dr:List Int) (c:Int):Wk:=match cs[c.toNat]? with | some ca=>wkF ca.seep ca.fill (decide (c∈dr)) | none=>⟨⟨0,0⟩,⟨0,0⟩⟩
def canalW (cs:List Ca) (dr:List Int) (st:List Sp×Sp) (c:Int):List Sp×Sp:=(putS st.1 c.toNat (seF (wkAt cs dr c) st.2),goF (wkAt cs dr c) st.2)
def pathW (cs:List Ca) (dr:List Int) (p:List Int) (lost:List Sp) (v:Sp):List Sp×Sp:=p.foldl (canalW cs dr) (lost,v)
def useW (cs:List Ca) (fs:List Int) (dry cyc a b:Int) (us:List Us) (st:List Sp×List Sp) (k:Nat):List Sp×List Sp:=
 match us[k]? with
 | some u=>(putS st.1 u.field.toNat (pathW cs (dryL cs fs dry cyc us k) (pathK cs fs u.field) st.2 ⟨a*(u.to-u.frm),b*(u.to-u.frm)⟩).2,(pathW cs (dryL cs fs dry cyc us k) (pathK cs fs u.field) st.2 ⟨a*(u.to-u.frm),b*(u.to-u.frm)⟩).1)
 | none=>st
def watersK (cs:List Ca) (fs:List Int) (dry cyc a b:Int) (us:List Us) (k:Nat):List Sp×List Sp:=(List.range k).foldl (useW cs fs dry cyc a b us) (List.replicate fs.length ⟨0,0⟩,List.replicate cs.length ⟨0,0⟩)
theorem watersK_succ (cs:List Ca) (fs:List Int) (dry cyc a b:Int) (us:List Us) (k:Nat):watersK cs fs dry cyc a b us (k+1)=useW cs fs dry cyc a b us (watersK cs fs dry cyc a b us k) k:=by
 unfold watersK
 rw[List.range_succ,List.foldl_append]
 rfl
theorem pathW_snoc {cs:List Ca} {dr:List Int} {p:List Int} {lost:List Sp} {v:Sp} {k:Nat} {c:Int} (h:p[k]?=some c):pathW cs dr (p.take (k+1)) lost v=canalW cs dr (pathW cs dr (p.take k) lost v) c:=by
 unfold pathW
 rw[List.take_add_one,h]
 simp
def bdS (M:Int) (xs:List Sp):Prop:=∀x∈xs,(0≤x.lo∧x.lo≤M)∧(0≤x.hi∧x.hi≤M)
theorem bdS.at {M:Int} {xs:List Sp} (h:bdS M xs) (hM:0≤M) (i:Nat):(0≤(atS xs i).lo∧(atS xs i).lo≤M)∧(0≤(atS xs i).hi∧(atS xs i).hi≤M):=by
 unfold atS
 cases hx:xs[i]? with
 | none=>simp;omega
 | some x=>exact h x (List.mem_of_getElem? hx)
theorem bdS.put {M:Int} {xs:List Sp} (h:bdS M xs) (hM:0≤M) (i:Nat) {y:Sp} (hy:amts y):bdS (M+1000000000000) (putS xs i y):=by
 intro x hx
 unfold putS at hx
 obtain⟨⟨y0,y1⟩,y2,y3⟩:=hy
 rcases List.mem_or_eq_of_mem_set hx with hx | rfl
 ·have:=h x hx;omega
 ·have:=h.at hM i
  simp only[addS]
  omega
theorem putS_len (xs:List Sp) (i:Nat) (y:Sp):(putS xs i y).length=xs.length:=by simp[putS]
theorem wkAt_wf {cs:List Ca} {fs:List Int} {dry days:Int} (hok:netOk cs fs dry days=true) (dr:List Int) (c:Int):(wkAt cs dr c).wf:=by
 unfold wkAt
 cases hx:cs[c.toNat]? with
 | none=>simp[Wk.wf,amt]
 | some ca =>
   have h:=(caAll_iff 0 cs).1 (netOk_parts hok).2.2.2.2.2.1 _ _ hx
   simp only[caOk,inB,Sp.ok,Bool.and_eq_true,decide_eq_true_eq] at h
   obtain⟨_,⟨⟨h1,h2⟩,h3⟩,⟨h4,h5⟩,h6⟩:=h
   cases hd:decide (c∈dr) <;> (simp[wkF,Wk.wf,amt];omega)
theorem pathW_amts {cs:List Ca} {fs:List Int} {dry days:Int} (hok:netOk cs fs dry days=true) (dr p:List Int) (lost:List Sp) {v:Sp} (hv:amts v) {M:Int} (hM:0≤M) (hl:bdS M lost) :
 ∀k,k≤p.length→amts (pathW cs dr (p.take k) lost v).2∧bdS (M+k*1000000000000) (pathW cs dr (p.take k) lost v).1∧(pathW cs dr (p.take k) lost v).1.length=lost.length:=by
 intro k
 induction k with
 | zero=>intro _;simp only[List.take_zero];exact⟨hv,by show bdS _ lost;simpa using hl,rfl⟩
 | succ k ih =>
   intro hk
   obtain⟨h1,h2,h3⟩:=ih (by omega)
   rw[pathW_snoc (List.getElem?_eq_getElem (by omega:k < p.length))]
   have hw:=wkAt_wf hok dr p[k]
   refine⟨goF_amt hw h1,?_,by show(putS _ _ _).length=_;rw[putS_len,h3]⟩
   have:=h2.put (by omega) p[k].toNat (seF_amt hw h1)
   rw[show M+((k+1:Nat):Int)*1000000000000=M+(k:Int)*1000000000000+1000000000000 by omega]
   exact this
theorem flow_amts {a b m days:Int} (h:Sp.ok 0 13000000 ⟨a,b⟩=true) (hd:1≤days∧days≤16) (h0:0≤m) (h1:m≤days*1440):amts ⟨a*m,b*m⟩:=by
 simp only[Sp.ok,Bool.and_eq_true,decide_eq_true_eq] at h
 obtain⟨⟨a0,a1⟩,b1⟩:=h
 have key:∀x:Int,0≤x→x≤13000000→amt (x*m):=fun x x0 x1=>by
  have h2:=Int.mul_nonneg x0 h0
  have h3:=Int.mul_le_mul x1 (show m≤23040 by omega) h0 (by omega)
  exact⟨h2,by omega⟩
 exact⟨key a a0 (by omega),key b (by omega) b1⟩
theorem watersK_bd {cs:List Ca} {fs:List Int} {dry days a b:Int} {us:List Us} (hok:netOk cs fs dry days=true) (huo:usesOk fs.length days us=true) (hs:Sp.ok 0 13000000 ⟨a,b⟩=true) :
 ∀k,k≤us.length→bdS (k*1000000000000) (watersK cs fs dry (days*1440) a b us k).1∧bdS (k*16000000000000) (watersK cs fs dry (days*1440) a b us k).2∧(watersK cs fs dry (days*1440) a b us k).1.length=fs.length∧(watersK cs fs dry (days*1440) a b us k).2.length=cs.length:=by
 intro k
 induction k with
 | zero =>
   intro _
   have hr:∀n,bdS 0 (List.replicate n (⟨0,0⟩:Sp)):=fun n x hx=>by have:=List.eq_of_mem_replicate hx;subst this;simp
   refine⟨by simpa[watersK] using hr _,by simpa[watersK] using hr _,by simp[watersK],by simp[watersK]⟩
 | succ k ih =>
   intro hk
   obtain⟨h1,h2,h3,h4⟩:=ih (by omega)
   rw[watersK_succ]
   have hx:us[k]?=some us[k]:=List.getElem?_eq_getElem (by omega)
   obtain⟨⟨f0,f1⟩,t0,t1,t2⟩:=usesOk_mem huo (List.getElem_mem (by omega:k < us.length))
   unfold useW
   rw[hx]
   simp only
   have hv:=flow_amts (m:=us[k].to-us[k].frm) hs (netOk_parts hok).2.2.2.1 (by omega) (by omega)
   have hp:=pathK_len cs fs hok f0 f1
   obtain⟨p1,p2,p3⟩:=pathW_amts hok (dryL cs fs dry (days*1440) us k) (pathK cs fs us[k].field) (watersK cs fs dry (days*1440) a b us k).2 hv (M:=k*16000000000000) (by omega) h2 (pathK cs fs us[k].field).length (Nat.le_refl _)
   rw[List.take_length] at p1 p2 p3
   refine⟨?_,?_,by rw[putS_len];exact h3,by rw[p3];exact h4⟩
   ·have:=h1.put (by omega) us[k].field.toNat p1
    rw[show((k+1:Nat):Int)*1000000000000=(k:Int)*1000000000000+1000000000000 by omega]
    exact this
   ·intro x hx
    have:=p2 x hx
    omega
def onNormal (R:Act→World→Prop):Exit→Act→World→Prop
 | .normal,a,w=>R a w
 | _,_,_=>False
theorem gen_new {K:Act→World→Prop} {a:Act} {W:World} {cs:Array Value} {t:TypeId} (h:∀w',At w' W.heap.size cs.toList→(∀j:Nat,w'.frozen? ⟨W.heap.size,j,none⟩=false)→Below W.heap.size W w'→W.heap.size < w'.heap.size→K a w'):K a (W.alloc (.cells cs t)):=
 h _ (At.new W cs t _ rfl _ rfl) (fun j=>At.frozen_new _ _ _ _ rfl j) (below_new _ _) (by simp)
theorem gen_newD {K:Act→World→Prop} {a:Act} {W:World} {cs:Array Value} {t:TypeId} (h:∀w',At w' W.heap.size cs.toList→(∀j:Nat,w'.frozen? ⟨W.heap.size,j,none⟩=false)→Below W.drew.heap.size W.drew w'→W.heap.size < w'.heap.size→K a w'):K a (W.alloc (.cells cs t)).drew:=
 h _ (At.new W cs t _ rfl _ rfl) (fun j=>At.frozen_new _ _ _ _ rfl j) (below_new W.drew _) (by simp)
theorem frz_below {W w':World} {b:Nat} (h:∀j:Nat,W.frozen? ⟨b,j,none⟩=false) (hl:b < W.heap.size) (hb:Below W.heap.size W w'):∀j:Nat,w'.frozen? ⟨b,j,none⟩=false:=fun j=>(hb.frozen (p:=⟨b,j,none⟩) hl).trans (h j)
end Go.Proofs.YtiioegopckoldaaGreatDoor
