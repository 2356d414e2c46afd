/- lemmas for topRented_holds: DE1. No conditions. -/
import Derived.Test.YtiioegopckoldaaGreatDoorK01
import Derived.Test.YtiioegopckoldaaGreatDoorK03
import Derived.Handy
import Derived.Deep.Cut
import Derived.Deep.RegionHeld
set_option linter.unusedVariables false
set_option linter.unusedSimpArgs false
namespace Go.Proofs.YtiioegopckoldaaGreatDoor
open Go.RowKit Go.Shelf
theorem dein_fn (n lo hi:Int) (w:World) :
 Calls Tryz.prog 129 #[.int .i64 n,.int .i64 lo,.int .i64 hi] w fun e w'=>e= .returned (.bool (inB lo hi n))∧w=w':=by
 by_cases h:lo≤n
 all_goals
  go_enter Tryz.func129,Tryz.ntmps129
  go_wp2
  go_ret
  exact⟨by first | (simp[inB,h];done) | (simp[inB,h];omega),rfl⟩
theorem dein_any (n lo hi:Int) (w:World) :
 Calls Tryz.prog 129 #[.int .i64 n,.int .i64 lo,.int .i64 hi] w fun e w'=>e= .returned (.bool (inB lo hi n))∧Below w.heap.size w w':=
 (dein_fn n lo hi w).mono fun _ _ h=>⟨h.1,h.2 ▸ Below.refl _ _⟩
theorem deperson_fn (n:Int) (w:World) :
 Calls Tryz.prog 174 #[.int .i64 n] w fun e w'=>e= .returned (.bool (inB 1 9999 n))∧w=w':=by
 go_enter Tryz.func174,Tryz.ntmps174
 go_wp2_with fail
 refine(dein_fn _ _ _ _).mono ?_
 rintro e w' ⟨rfl,rfl⟩
 go_wp2_with fail
 go_ret
 exact⟨rfl,rfl⟩
theorem deend_any (days:Int) (H:Option Addr) (n c:Nat) (w:World) (h1:0≤days) (h2:days≤16) :
 Calls Tryz.prog 172 #[.agg #[.int .i64 days,.slice H n c]] w fun e w'=>e= .returned (.int .i64 (days*1440))∧Below w.heap.size w w':=by
 have f1:IntKind.i64.wrap (days*1440)=days*1440:=wrapI (by omega)
 clear h1 h2
 go_enter Tryz.func172,Tryz.ntmps172
 go_wp2
 go_ret
 exact⟨rfl,below_new w _⟩
def properB (a b t0 t1:Int):Bool:=decide (a≤t0) && (decide (t0 < t1) && decide (t1≤b))
theorem deproper_any (t0 t1 a b:Int) (w:World) :
 Calls Tryz.prog 171 #[.agg #[.int .i64 t0,.int .i64 t1],.int .i64 a,.int .i64 b] w fun e w'=>e= .returned (.bool (properB a b t0 t1))∧Below w.heap.size w w':=by
 by_cases h:a≤t0
 ·by_cases h2:t0 < t1
  all_goals
   go_enter Tryz.func171,Tryz.ntmps171
   go_wp2
   go_ret
   exact⟨by first | (simp[properB,h,h2];done) | (simp[properB,h,h2];omega),below_new w _⟩
 ·go_enter Tryz.func171,Tryz.ntmps171
  go_wp2
  go_ret
  exact⟨by first | (simp[properB,h];done) | (simp[properB,h];omega),below_new w _⟩
def hdOk (e next:Int) (h:Us):Bool:=inB 0 9999 h.field && ((h.frm == next) && properB next e h.frm h.to)
def hdsOk (e:Int):Int→List Us→Bool
 | next,[]=>next == e
 | next,h :: hs=>hdOk e next h && hdsOk e h.to hs
def rollsOk (days:Int) (hs:List Us):Bool:=inB 1 16 days && (inB 1 60 (hs.length:Int) && hdsOk (days*1440) 0 hs)
def rollsErr (days:Int) (hs:List Us):Int:=if rollsOk days hs then 0 else 40
theorem hdOk_to {e next:Int} {h:Us} (hk:hdOk e next h=true):next=h.frm∧h.frm < h.to∧h.to≤e∧0≤h.field∧h.field≤9999:=by
 simp only[hdOk,properB,inB,Bool.and_eq_true,decide_eq_true_eq,beq_iff_eq] at hk
 omega
theorem hdsOk_drop {e next:Int} {hs:List Us} {k:Nat} {h:Us} (hx:hs[k]?=some h):hdsOk e next (hs.drop k)=(hdOk e next h && hdsOk e h.to (hs.drop (k+1))):=by
 obtain⟨hlt,rfl⟩:=List.getElem?_eq_some_iff.1 hx
 rw[List.drop_eq_getElem_cons hlt]
 rfl
set_option maxHeartbeats 4000000 in
set_option maxRecDepth 100000 in
theorem deCheck_any (days:Int) (H:Option Addr) (n c:Nat) (hs:List Us) (w:World) (hn:n=hs.length) (hm:n≤9223372036854775807) (hx:Rd w w.heap.size Us.cells H hs) :
 Calls Tryz.prog 117 #[.agg #[.int .i64 days,.slice H n c]] w fun e w'=>e= .returned (.int .i64 (rollsErr days hs))∧Below w.heap.size w w':=by
 obtain⟨b1,w1,e1,ew1,hx1,hb1,hz1⟩:=mk_bx w #[.int .i64 days,.slice H n c] 58
 have hx1:At w1 b1 [.int .i64 days,.slice H n c]:=hx1.at_
 have HB1:=hide hb1
 have HX:=hide (hx.bel hb1)
 have Hn:=hide hn
 have Hat:=hide hx1
 clear hn hx hb1 hz1 hx1
 cases cd:inB 1 16 days
 ·have he:=hide (show rollsErr days hs=40 by simp[rollsErr,rollsOk,cd])
  have Cd:=hide cd
  obtain⟨q0,q1⟩:=Hat.out.c2
  clear cd
  go_enter Tryz.func117,Tryz.ntmps117
  go_upto_region 1 with fail
  rw[ew1.out,e1.out]
  go_wp2_with fail
  refine(dein_any _ _ _ _).mono ?_
  rintro e w2 ⟨rfl,hb2⟩
  rw[Cd.out]
  go_wp2_with fail
  go_ret
  exact⟨ret_int he.out.symm,HB1.out.trans (hb2.mono HB1.out.size)⟩
 have hd:1≤days∧days≤16:=by simpa[inB] using cd
 have Cd:=hide cd
 cases cn:inB 1 60 (n:Int)
 ·have he:=hide (show rollsErr days hs=40 by rw[Hn.out] at cn;simp[rollsErr,rollsOk,cn])
  have Cn:=hide cn
  obtain⟨q0,q1⟩:=Hat.out.c2
  clear cd cn
  go_enter Tryz.func117,Tryz.ntmps117
  go_upto_region 1 with fail
  rw[ew1.out,e1.out]
  go_wp2_with fail
  refine(dein_any _ _ _ _).mono ?_
  rintro e w2 ⟨rfl,hb2⟩
  rw[Cd.out]
  obtain⟨r0,r1⟩:=(Hat.out.below hb2).c2
  clear q0 q1
  go_wp2_with fail
  refine(dein_any _ _ _ _).mono ?_
  rintro e w3 ⟨rfl,hb3⟩
  rw[Cn.out]
  go_wp2_with fail
  go_ret
  exact⟨ret_int he.out.symm,HB1.out.trans ((hb2.trans (hb3.mono hb2.size)).mono HB1.out.size)⟩
 have hn6:1≤(n:Int)∧(n:Int)≤60:=by simpa[inB] using cn
 have Cn:=hide cn
 have Hpre:=hide (show rollsOk days hs=hdsOk (days*1440) 0 hs by rw[Hn.out] at cn;simp[rollsOk,cd,cn])
 obtain⟨q0,q1⟩:=Hat.out.c2
 clear cd cn
 go_enter Tryz.func117,Tryz.ntmps117
 go_upto_region 1 with fail
 rw[ew1.out,e1.out]
 clear ew1 e1
 go_wp2_with fail
 refine(dein_any _ _ _ _).mono ?_
 rintro e w2 ⟨rfl,hb2⟩
 rw[Cd.out]
 have Hat2:=hide (Hat.out.below hb2)
 obtain⟨r0,r1⟩:=Hat2.out.c2
 clear q0 q1
 go_wp2_with fail
 refine(dein_any _ _ _ _).mono ?_
 rintro e w3 ⟨rfl,hb3⟩
 rw[Cn.out]
 have Hat3:=hide (Hat2.out.below hb3)
 obtain⟨q0,q1⟩:=Hat3.out.c2
 have HB3:=hide (HB1.out.trans ((hb2.trans (hb3.mono hb2.size)).mono HB1.out.size))
 have HX3:=hide ((HX.out.bel hb2).bel hb3)
 clear r0 r1 hb2 hb3
 go_wp2_with fail
 go_loopw [3,20] (fun nx i wr=>∃(k:Nat) (next:Int),k≤n∧i= .int .i64 k∧nx= .int .i64 next∧Below w3.heap.size w3 wr∧(0≤next∧next≤23040)∧Hid (hdsOk (days*1440) 0 hs=hdsOk (days*1440) next (hs.drop k))) (fun _ i _=>n-(intOf i).toNat)
 case atStart=>exact⟨0,0,by omega,rfl,rfl,Below.refl _ _,by omega,hide rfl⟩
 case round=>
  obtain⟨k,next,hk,rfl,rfl,hb,⟨hx0,hx1⟩,hpre⟩:=hrel
  obtain⟨wo,rfl⟩:∃wo,wo=wr:=⟨wr,rfl⟩
  have Hat4:=hide (Hat3.out.below hb)
  by_cases hlt:k < n
  ·obtain⟨b,off,s0,s1,s2,rfl,hB,hxk,d0,d1,d2⟩:=(HX3.out.bel hb).us (i:=k) (by have:=Hn.out;omega)
   have hstep:=hdsOk_drop (e:=days*1440) (next:=next) hxk
   obtain⟨b5,w5,e5,ew5,hx5,hb5,hz5⟩:=mk_bx wo #[.int .i64 s0,.int .i64 s1,.int .i64 s2] 63
   have hx5:At w5 b5 [.int .i64 s0,.int .i64 s1,.int .i64 s2]:=hx5.at_
   have Hx5:=hide hx5
   have HB5:=hide (HB3.out.trans ((hb.trans (hb5.mono hb.size)).mono HB3.out.size))
   have H35:=hide (hb.trans (hb5.mono hb.size))
   have Hat5:=hide (Hat4.out.below hb5)
   clear hx5 hb5 hz5 hb q0 q1
   go_upto_region 7 with fail
   rw[ew5.out,e5.out]
   clear d0 d1 d2 ew5 e5
   cases c1:inB 0 9999 s0
   ·have he:=hide (show rollsErr days hs=40 by rw[rollsErr,Hpre.out,hpre.out,hstep];simp[hdOk,c1])
    have C1:=hide c1
    clear c1 hstep
    refine wp_region_held_drew (S:=(fun W=>Below w5.heap.size w5 W)) (by kernel_rfl) (by(try dsimp only);exact(Below.refl _ _).drew) (fun hHeld=>?_)
    generalize World.drew w5=Wd7 at hHeld ⊢
    have hbc:=Below.refl Wd7.heap.size Wd7
    refine tkH 0 ?_ rfl (Or.inl ⟨by rfl,?_⟩) hHeld ?_
    rotate_left
    ·(intro w _;go_simp;try(with_reducible rfl))
    try simp only[Act.put,tl1,tl2,tl3]
    refine tkH 1 ?_ rfl (Or.inl ⟨by rfl,?_⟩) hHeld ?_
    rotate_left
    ·(intro w hSw;(try dsimp only at hSw);obtain⟨y0,y1⟩:=(Hat5.out.bel hSw).c2;obtain⟨x0,x1,x2⟩:=(Hx5.out.bel hSw).c3;go_simp;try(with_reducible rfl))
    try simp only[Act.put,tl1,tl2,tl3]
    refine wpAnyH_ready (rs:=[2]) (by kernel_rfl) (by simp) ?_
    refine AllReadyH.cons (o:=⟨_,_,_,_,_,_⟩) rfl (fun K hK=>?_) AllReadyH.nil
    go_simp
    refine(dein_any _ _ _ _).mono ?_
    rintro e V26 ⟨rfl,hb⟩
    rw[C1.out]
    go_wp2_with fail
    have hHeldN:=hHeld.trans (hb.mono hHeld.size)
    have hbc:=hbc.trans (hb.mono hbc.size)
    refine hK.out _ _ ?_ (fun hHeld2=>?_)
    ·exact hHeldN
    clear hK K hHeld hHeldN hb;have hHeld:=hHeld2;clear hHeld2
    try simp only[Act.put,tl1,tl2,tl3]
    iterate 2
     refine tkHl [3,4] ?_ rfl rfl (Or.inl ⟨by rfl,?_⟩) hHeld ?_
     rotate_left
     ·(intro w _;go_simp;try(with_reducible rfl))
     try simp only[Act.put,tl1,tl2,tl3]
    iterate 5
     refine tkHl [5,6,7,8,9] _ rfl rfl (Or.inr ⟨by rfl,rfl⟩) hHeld ?_
     try simp only[Act.put,tl1,tl2,tl3]
    iterate 2
     refine tkHl [10,11] ?_ rfl rfl (Or.inl ⟨by rfl,?_⟩) hHeld ?_
     rotate_left
     ·(intro w _;go_simp;try(with_reducible rfl))
     try simp only[Act.put,tl1,tl2,tl3]
    iterate 7
     refine tkHl [12,13,14,15,16,17,18] _ rfl rfl (Or.inr ⟨by rfl,rfl⟩) hHeld ?_
     try simp only[Act.put,tl1,tl2,tl3]
    refine tkH 19 ?_ rfl (Or.inl ⟨by rfl,?_⟩) hHeld ?_
    rotate_left
    ·(intro w _;go_simp;try(with_reducible rfl))
    try simp only[Act.put,tl1,tl2,tl3]
    refine wpAnyH_done (by kernel_rfl) ?_ _
    go_wp2_with fail
    go_ret
    exact⟨ret_int he.out.symm,HB5.out.trans (hHeld.mono HB5.out.size)⟩
   have C1:=hide c1
   by_cases c2:s1=next
   rotate_left
   ·have he:=hide (show rollsErr days hs=40 by rw[rollsErr,Hpre.out,hpre.out,hstep];simp[hdOk,c2])
    have C2:(s1 != next)=true:=by simpa using c2
    clear c1 c2 hstep
    refine wp_region_held_drew (S:=(fun W=>Below w5.heap.size w5 W)) (by kernel_rfl) (by(try dsimp only);exact(Below.refl _ _).drew) (fun hHeld=>?_)
    generalize World.drew w5=Wd7 at hHeld ⊢
    have hbc:=Below.refl Wd7.heap.size Wd7
    refine tkH 0 ?_ rfl (Or.inl ⟨by rfl,?_⟩) hHeld ?_
    rotate_left
    ·(intro w _;go_simp;try(with_reducible rfl))
    try simp only[Act.put,tl1,tl2,tl3]
    refine tkH 1 ?_ rfl (Or.inl ⟨by rfl,?_⟩) hHeld ?_
    rotate_left
    ·(intro w hSw;(try dsimp only at hSw);obtain⟨y0,y1⟩:=(Hat5.out.bel hSw).c2;obtain⟨x0,x1,x2⟩:=(Hx5.out.bel hSw).c3;go_simp;try(with_reducible rfl))
    try simp only[Act.put,tl1,tl2,tl3]
    refine wpAnyH_ready (rs:=[2]) (by kernel_rfl) (by simp) ?_
    refine AllReadyH.cons (o:=⟨_,_,_,_,_,_⟩) rfl (fun K hK=>?_) AllReadyH.nil
    go_simp
    refine(dein_any _ _ _ _).mono ?_
    rintro e V26 ⟨rfl,hb⟩
    rw[C1.out]
    go_wp2_with fail
    have hHeldN:=hHeld.trans (hb.mono hHeld.size)
    have hbc:=hbc.trans (hb.mono hbc.size)
    refine hK.out _ _ ?_ (fun hHeld2=>?_)
    ·exact hHeldN
    clear hK K hHeld hHeldN hb;have hHeld:=hHeld2;clear hHeld2
    try simp only[Act.put,tl1,tl2,tl3]
    iterate 5
     refine tkHl [3,4,5,6,8] ?_ rfl rfl (Or.inl ⟨by rfl,?_⟩) hHeld ?_
     rotate_left
     ·(intro w _;go_simp;try(with_reducible rfl))
     try simp only[Act.put,tl1,tl2,tl3]
    refine tkH 7 ?_ rfl (Or.inl ⟨by rfl,?_⟩) hHeld ?_
    rotate_left
    ·(intro w hSw;(try dsimp only at hSw);obtain⟨y0,y1⟩:=(Hat5.out.bel hSw).c2;obtain⟨x0,x1,x2⟩:=(Hx5.out.bel hSw).c3;go_simp;try(with_reducible rfl))
    try simp only[Act.put,tl1,tl2,tl3]
    iterate 3
     refine tkHl [9,10,11] ?_ rfl rfl (Or.inl ⟨by rfl,?_⟩) hHeld ?_
     rotate_left
     ·(intro w _;go_simp;try(with_reducible rfl))
     try simp only[Act.put,tl1,tl2,tl3]
    iterate 7
     refine tkHl [12,13,14,15,16,17,18] _ rfl rfl (Or.inr ⟨by rfl,rfl⟩) hHeld ?_
     try simp only[Act.put,tl1,tl2,tl3]
    refine tkH 19 ?_ rfl (Or.inl ⟨by rfl,?_⟩) hHeld ?_
    rotate_left
    ·(intro w _;go_simp;try(with_reducible rfl))
    try simp only[Act.put,tl1,tl2,tl3]
    refine wpAnyH_done (by kernel_rfl) ?_ _
    go_wp2_with fail
    go_ret
    exact⟨ret_int he.out.symm,HB5.out.trans (hHeld.mono HB5.out.size)⟩
   subst c2
   cases c3:properB s1 (days*1440) s1 s2
   ·have he:=hide (show rollsErr days hs=40 by rw[rollsErr,Hpre.out,hpre.out,hstep];simp[hdOk,c3])
    have C3:=hide c3
    have C2:(s1 != s1)=false:=by simp
    clear c1 c3 hstep
    refine wp_region_held_drew (S:=(fun W=>Below w5.heap.size w5 W)) (by kernel_rfl) (by(try dsimp only);exact(Below.refl _ _).drew) (fun hHeld=>?_)
    generalize World.drew w5=Wd7 at hHeld ⊢
    have hbc:=Below.refl Wd7.heap.size Wd7
    refine tkH 0 ?_ rfl (Or.inl ⟨by rfl,?_⟩) hHeld ?_
    rotate_left
    ·(intro w _;go_simp;try(with_reducible rfl))
    try simp only[Act.put,tl1,tl2,tl3]
    refine tkH 1 ?_ rfl (Or.inl ⟨by rfl,?_⟩) hHeld ?_
    rotate_left
    ·(intro w hSw;(try dsimp only at hSw);obtain⟨y0,y1⟩:=(Hat5.out.bel hSw).c2;obtain⟨x0,x1,x2⟩:=(Hx5.out.bel hSw).c3;go_simp;try(with_reducible rfl))
    try simp only[Act.put,tl1,tl2,tl3]
    refine wpAnyH_ready (rs:=[2]) (by kernel_rfl) (by simp) ?_
    refine AllReadyH.cons (o:=⟨_,_,_,_,_,_⟩) rfl (fun K hK=>?_) AllReadyH.nil
    go_simp
    refine(dein_any _ _ _ _).mono ?_
    rintro e V26 ⟨rfl,hb⟩
    rw[C1.out]
    go_wp2_with fail
    have hHeldN:=hHeld.trans (hb.mono hHeld.size)
    have hbc:=hbc.trans (hb.mono hbc.size)
    refine hK.out _ _ ?_ (fun hHeld2=>?_)
    ·exact hHeldN
    clear hK K hHeld hHeldN hb;have hHeld:=hHeld2;clear hHeld2
    try simp only[Act.put,tl1,tl2,tl3]
    iterate 5
     refine tkHl [3,4,5,6,8] ?_ rfl rfl (Or.inl ⟨by rfl,?_⟩) hHeld ?_
     rotate_left
     ·(intro w _;go_simp;try(with_reducible rfl))
     try simp only[Act.put,tl1,tl2,tl3]
    refine tkH 7 ?_ rfl (Or.inl ⟨by rfl,?_⟩) hHeld ?_
    rotate_left
    ·(intro w hSw;(try dsimp only at hSw);obtain⟨y0,y1⟩:=(Hat5.out.bel hSw).c2;obtain⟨x0,x1,x2⟩:=(Hx5.out.bel hSw).c3;go_simp;try(with_reducible rfl))
    try simp only[Act.put,tl1,tl2,tl3]
    iterate 5
     refine tkHl [9,10,11,12,14] ?_ rfl rfl (Or.inl ⟨by rfl,?_⟩) hHeld ?_
     rotate_left
     ·(intro w _;go_simp;try(with_reducible rfl))
     try simp only[Act.put,tl1,tl2,tl3]
    iterate 2
     refine tkHl [13,15] ?_ rfl rfl (Or.inl ⟨by rfl,?_⟩) hHeld ?_
     rotate_left
     ·(intro w hSw;(try dsimp only at hSw);obtain⟨y0,y1⟩:=(Hat5.out.bel hSw).c2;obtain⟨x0,x1,x2⟩:=(Hx5.out.bel hSw).c3;go_simp;try(with_reducible rfl))
     try simp only[Act.put,tl1,tl2,tl3]
    refine wpAnyH_ready (rs:=[16]) (by kernel_rfl) (by simp) ?_
    refine AllReadyH.cons (o:=⟨_,_,_,_,_,_⟩) rfl (fun K hK=>?_) AllReadyH.nil
    go_simp
    refine(deend_any _ _ _ _ _ (by omega) (by omega)).mono ?_
    rintro e V40 ⟨rfl,hb⟩
    go_wp2_with fail
    have hHeldN:=hHeld.trans (hb.mono hHeld.size)
    have hbc:=hbc.trans (hb.mono hbc.size)
    refine hK.out _ _ ?_ (fun hHeld2=>?_)
    ·exact hHeldN
    clear hK K hHeld hHeldN hb;have hHeld:=hHeld2;clear hHeld2
    try simp only[Act.put,tl1,tl2,tl3]
    refine wpAnyH_ready (rs:=[17]) (by kernel_rfl) (by simp) ?_
    refine AllReadyH.cons (o:=⟨_,_,_,_,_,_⟩) rfl (fun K hK=>?_) AllReadyH.nil
    go_simp
    refine(deproper_any _ _ _ _ _).mono ?_
    rintro e V41 ⟨rfl,hb⟩
    rw[C3.out]
    go_wp2_with fail
    have hHeldN:=hHeld.trans (hb.mono hHeld.size)
    have hbc:=hbc.trans (hb.mono hbc.size)
    refine hK.out _ _ ?_ (fun hHeld2=>?_)
    ·exact hHeldN
    clear hK K hHeld hHeldN hb;have hHeld:=hHeld2;clear hHeld2
    try simp only[Act.put,tl1,tl2,tl3]
    iterate 2
     refine tkHl [18,19] ?_ rfl rfl (Or.inl ⟨by rfl,?_⟩) hHeld ?_
     rotate_left
     ·(intro w _;go_simp;try(with_reducible rfl))
     try simp only[Act.put,tl1,tl2,tl3]
    refine wpAnyH_done (by kernel_rfl) ?_ _
    go_wp2_with fail
    go_ret
    exact⟨ret_int he.out.symm,HB5.out.trans (hHeld.mono HB5.out.size)⟩
   have C3:=hide c3
   have C2:(s1 != s1)=false:=by simp
   have hs2:s1 < s2∧s2≤days*1440:=by simp only[properB,Bool.and_eq_true,decide_eq_true_eq] at c3;omega
   have Hst:=hide (show hdsOk (days*1440) 0 hs=hdsOk (days*1440) s2 (hs.drop (k+1)) by rw[hpre.out,hstep];simp[hdOk,c1,c3])
   clear c1 c3 hstep
   refine wp_region_held_drew (S:=(fun W=>Below w5.heap.size w5 W)) (by kernel_rfl) (by(try dsimp only);exact(Below.refl _ _).drew) (fun hHeld=>?_)
   generalize World.drew w5=Wd7 at hHeld ⊢
   have hbc:=Below.refl Wd7.heap.size Wd7
   refine tkH 0 ?_ rfl (Or.inl ⟨by rfl,?_⟩) hHeld ?_
   rotate_left
   ·(intro w _;go_simp;try(with_reducible rfl))
   try simp only[Act.put,tl1,tl2,tl3]
   refine tkH 1 ?_ rfl (Or.inl ⟨by rfl,?_⟩) hHeld ?_
   rotate_left
   ·(intro w hSw;(try dsimp only at hSw);obtain⟨y0,y1⟩:=(Hat5.out.bel hSw).c2;obtain⟨x0,x1,x2⟩:=(Hx5.out.bel hSw).c3;go_simp;try(with_reducible rfl))
   try simp only[Act.put,tl1,tl2,tl3]
   refine wpAnyH_ready (rs:=[2]) (by kernel_rfl) (by simp) ?_
   refine AllReadyH.cons (o:=⟨_,_,_,_,_,_⟩) rfl (fun K hK=>?_) AllReadyH.nil
   go_simp
   refine(dein_any _ _ _ _).mono ?_
   rintro e V26 ⟨rfl,hb⟩
   rw[C1.out]
   go_wp2_with fail
   have hHeldN:=hHeld.trans (hb.mono hHeld.size)
   have hbc:=hbc.trans (hb.mono hbc.size)
   refine hK.out _ _ ?_ (fun hHeld2=>?_)
   ·exact hHeldN
   clear hK K hHeld hHeldN hb;have hHeld:=hHeld2;clear hHeld2
   try simp only[Act.put,tl1,tl2,tl3]
   iterate 5
    refine tkHl [3,4,5,6,8] ?_ rfl rfl (Or.inl ⟨by rfl,?_⟩) hHeld ?_
    rotate_left
    ·(intro w _;go_simp;try(with_reducible rfl))
    try simp only[Act.put,tl1,tl2,tl3]
   refine tkH 7 ?_ rfl (Or.inl ⟨by rfl,?_⟩) hHeld ?_
   rotate_left
   ·(intro w hSw;(try dsimp only at hSw);obtain⟨y0,y1⟩:=(Hat5.out.bel hSw).c2;obtain⟨x0,x1,x2⟩:=(Hx5.out.bel hSw).c3;go_simp;try(with_reducible rfl))
   try simp only[Act.put,tl1,tl2,tl3]
   iterate 5
    refine tkHl [9,10,11,12,14] ?_ rfl rfl (Or.inl ⟨by rfl,?_⟩) hHeld ?_
    rotate_left
    ·(intro w _;go_simp;try(with_reducible rfl))
    try simp only[Act.put,tl1,tl2,tl3]
   iterate 2
    refine tkHl [13,15] ?_ rfl rfl (Or.inl ⟨by rfl,?_⟩) hHeld ?_
    rotate_left
    ·(intro w hSw;(try dsimp only at hSw);obtain⟨y0,y1⟩:=(Hat5.out.bel hSw).c2;obtain⟨x0,x1,x2⟩:=(Hx5.out.bel hSw).c3;go_simp;try(with_reducible rfl))
    try simp only[Act.put,tl1,tl2,tl3]
   refine wpAnyH_ready (rs:=[16]) (by kernel_rfl) (by simp) ?_
   refine AllReadyH.cons (o:=⟨_,_,_,_,_,_⟩) rfl (fun K hK=>?_) AllReadyH.nil
   go_simp
   refine(deend_any _ _ _ _ _ (by omega) (by omega)).mono ?_
   rintro e V40 ⟨rfl,hb⟩
   go_wp2_with fail
   have hHeldN:=hHeld.trans (hb.mono hHeld.size)
   have hbc:=hbc.trans (hb.mono hbc.size)
   refine hK.out _ _ ?_ (fun hHeld2=>?_)
   ·exact hHeldN
   clear hK K hHeld hHeldN hb;have hHeld:=hHeld2;clear hHeld2
   try simp only[Act.put,tl1,tl2,tl3]
   refine wpAnyH_ready (rs:=[17]) (by kernel_rfl) (by simp) ?_
   refine AllReadyH.cons (o:=⟨_,_,_,_,_,_⟩) rfl (fun K hK=>?_) AllReadyH.nil
   go_simp
   refine(deproper_any _ _ _ _ _).mono ?_
   rintro e V41 ⟨rfl,hb⟩
   rw[C3.out]
   go_wp2_with fail
   have hHeldN:=hHeld.trans (hb.mono hHeld.size)
   have hbc:=hbc.trans (hb.mono hbc.size)
   refine hK.out _ _ ?_ (fun hHeld2=>?_)
   ·exact hHeldN
   clear hK K hHeld hHeldN hb;have hHeld:=hHeld2;clear hHeld2
   try simp only[Act.put,tl1,tl2,tl3]
   iterate 2
    refine tkHl [18,19] ?_ rfl rfl (Or.inl ⟨by rfl,?_⟩) hHeld ?_
    rotate_left
    ·(intro w _;go_simp;try(with_reducible rfl))
    try simp only[Act.put,tl1,tl2,tl3]
   refine wpAnyH_done (by kernel_rfl) ?_ _
   obtain⟨p0,p1,p2⟩:=(Hx5.out.bel hHeld).c3
   have HR:=hide (H35.out.trans (hHeld.mono H35.out.size))
   clear hbc hHeld
   go_wp2_with fail
   exact⟨⟨k+1,s2,by omega,by go_num,rfl,HR.out,by omega,Hst⟩,by simp[intOf];omega⟩
  ·obtain rfl:n=k:=by omega
   have hpr:=hpre.out
   rw[List.drop_of_length_le (by have:=Hn.out;omega)] at hpr
   have HBo:=hide (HB3.out.trans (hb.mono HB3.out.size))
   obtain⟨p0,p1⟩:=Hat4.out.c2
   have hpr2:rollsErr days hs=if next=days*1440 then 0 else 40:=by
    rw[rollsErr,Hpre.out,hpr]
    by_cases h:next=days*1440 <;> simp[hdsOk,h]
   have HP:=hide hpr2
   clear hpr hpr2 hb hpre q0 q1
   go_wp2_with fail
   refine(deend_any days _ _ _ _ (by omega) hd.2).mono ?_
   rintro e w7 ⟨rfl,hb7⟩
   by_cases h:next=days*1440
   ·have C:(next != days*1440)=false:=by simpa using h
    have he:=HP.out
    rw[if_pos h] at he
    have he:=hide he
    clear h
    go_wp2_with fail
    go_ret
    exact⟨ret_int he.out.symm,HBo.out.trans (hb7.mono HBo.out.size)⟩
   ·have C:(next != days*1440)=true:=by simpa using h
    have he:=HP.out
    rw[if_neg h] at he
    have he:=hide he
    clear h
    go_wp2_with fail
    go_ret
    exact⟨ret_int he.out.symm,HBo.out.trans (hb7.mono HBo.out.size)⟩
end Go.Proofs.YtiioegopckoldaaGreatDoor
