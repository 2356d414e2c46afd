/- lemmas for topRented_holds: OS1 OS2. No conditions. -/
import Derived.Test.YtiioegopckoldaaGreatDoorK12
set_option linter.unusedVariables false
set_option linter.unusedSimpArgs false
namespace Go.Proofs.YtiioegopckoldaaGreatDoor
open Go.RowKit Go.Shelf
theorem cisnan_any (x:Int) (w:World):Calls Tryz.prog 168 #[.int .i64 x] w fun e w'=>e= .returned (.bool false)∧w=w':=by
 have hx:(x != x)=false:=by simp
 go_enter Tryz.func168,Tryz.ntmps168
 go_wp2_with fail
 go_returns
 exact⟨rfl,rfl⟩
def cmpI3 (x y:Int):Int:=if x < y then -1 else if y < x then 1 else 0
theorem ccompare_any (x y:Int) (w:World):Calls Tryz.prog 114 #[.int .i64 x,.int .i64 y] w fun e w'=>e= .returned (.int .i64 (cmpI3 x y))∧w=w':=by
 obtain⟨c,hc⟩:∃c,Hid (c=cmpI3 x y):=⟨_,hide rfl⟩
 rw[←hc.out]
 go_enter Tryz.func114,Tryz.ntmps114
 go_wp2_with fail
 refine(cisnan_any _ _).mono ?_
 rintro e w' ⟨rfl,rfl⟩
 go_wp2_with fail
 refine(cisnan_any _ _).mono ?_
 rintro e w' ⟨rfl,rfl⟩
 by_cases h1:x < y
 ·have e1:c= -1:=by rw[hc.out];exact if_pos h1
  clear hc
  subst e1
  go_wp2_with fail
  go_returns
  exact⟨rfl,rfl⟩
 by_cases h2:y < x
 ·have e1:c=1:=by rw[hc.out];unfold cmpI3;rw[if_neg h1,if_pos h2]
  clear hc
  subst e1
  go_wp2_with fail
  go_returns
  exact⟨rfl,rfl⟩
 ·have e1:c=0:=by rw[hc.out];unfold cmpI3;rw[if_neg h1,if_neg h2]
  clear hc
  subst e1
  go_wp2_with fail
  go_returns
  exact⟨rfl,rfl⟩
theorem ccompare_b (x y:Int) (w:World):Calls Tryz.prog 114 #[.int .i64 x,.int .i64 y] w fun e w'=>e= .returned (.int .i64 (cmpI3 x y))∧Below w.heap.size w w':=
 (ccompare_any x y w).mono fun e w' ⟨h,hw⟩=>⟨h,hw ▸ Below.refl _ _⟩
theorem deday_any (x:Dv) (w:World):Calls Tryz.prog 124 #[.agg #[.int .i64 x.id,.int .i64 x.day,.int .u8 x.kind,.int .i64 x.fr,.int .i64 x.to,.int .i64 x.tf,.int .i64 x.tt,.int .i64 x.un,.slice x.h.a x.h.n x.h.c]] w fun e w'=>e= .returned (.int .i64 x.day)∧Below w.heap.size w w':=by
 obtain⟨b1,w1,e1,ew1,hx1,hb1,hz1⟩:=mk_bx w #[.int .i64 x.id,.int .i64 x.day,.int .u8 x.kind,.int .i64 x.fr,.int .i64 x.to,.int .i64 x.tf,.int .i64 x.tt,.int .i64 x.un,.slice x.h.a x.h.n x.h.c] 73
 have hx1:Bx w1 b1 x.cells:=hx1
 have HB:=hide hb1
 obtain⟨q0,q1,q2,q3,q4,q5,q6,q7,q8⟩:=(show At w1 b1 [.int .i64 x.id,.int .i64 x.day,.int .u8 x.kind,.int .i64 x.fr,.int .i64 x.to,.int .i64 x.tf,.int .i64 x.tt,.int .i64 x.un,.slice x.h.a x.h.n x.h.c] from hx1.at_).c9
 clear hx1 hb1 hz1
 go_enter Tryz.func124,Tryz.ntmps124
 go_wp2_with fail
 rw[ew1.out,e1.out]
 go_wp2_with fail
 go_returns
 exact⟨rfl,by have h:=HB.out;rw[e1.out] at h;exact h⟩
theorem deid_any (x:Dv) (w:World):Calls Tryz.prog 125 #[.agg #[.int .i64 x.id,.int .i64 x.day,.int .u8 x.kind,.int .i64 x.fr,.int .i64 x.to,.int .i64 x.tf,.int .i64 x.tt,.int .i64 x.un,.slice x.h.a x.h.n x.h.c]] w fun e w'=>e= .returned (.int .i64 x.id)∧Below w.heap.size w w':=by
 obtain⟨b1,w1,e1,ew1,hx1,hb1,hz1⟩:=mk_bx w #[.int .i64 x.id,.int .i64 x.day,.int .u8 x.kind,.int .i64 x.fr,.int .i64 x.to,.int .i64 x.tf,.int .i64 x.tt,.int .i64 x.un,.slice x.h.a x.h.n x.h.c] 73
 have hx1:Bx w1 b1 x.cells:=hx1
 have HB:=hide hb1
 obtain⟨q0,q1,q2,q3,q4,q5,q6,q7,q8⟩:=(show At w1 b1 [.int .i64 x.id,.int .i64 x.day,.int .u8 x.kind,.int .i64 x.fr,.int .i64 x.to,.int .i64 x.tf,.int .i64 x.tt,.int .i64 x.un,.slice x.h.a x.h.n x.h.c] from hx1.at_).c9
 clear hx1 hb1 hz1
 go_enter Tryz.func125,Tryz.ntmps125
 go_wp2_with fail
 rw[ew1.out,e1.out]
 go_wp2_with fail
 go_returns
 exact⟨rfl,by have h:=HB.out;rw[e1.out] at h;exact h⟩
def cmpD (x y:Dv):Int:=if cmpI3 x.day y.day≠0 then cmpI3 x.day y.day else cmpI3 x.id y.id
set_option maxHeartbeats 8000000 in
set_option maxRecDepth 100000 in
theorem decmp_any (x y:Dv) (q bb:Nat) (w:World) (hq:At w q [.slice (some ⟨bb,0,none⟩) 2 2]) (hat:At w bb [.func (.func 124) #[] #[],.func (.func 125) #[] #[]]) :
 Calls Tryz.prog 178 #[.agg #[.int .i64 x.id,.int .i64 x.day,.int .u8 x.kind,.int .i64 x.fr,.int .i64 x.to,.int .i64 x.tf,.int .i64 x.tt,.int .i64 x.un,.slice x.h.a x.h.n x.h.c],.agg #[.int .i64 y.id,.int .i64 y.day,.int .u8 y.kind,.int .i64 y.fr,.int .i64 y.to,.int .i64 y.tf,.int .i64 y.tt,.int .i64 y.un,.slice y.h.a y.h.n y.h.c],.pointer (some ⟨q,0,none⟩)] w fun e w'=>e= .returned (.int .i64 (cmpD x y))∧Below w.heap.size w w':=by
 obtain⟨b3,w1,e3,ew1,hx3,hb1,hz1⟩:=mk_bx w #[.int .i64 x.id,.int .i64 x.day,.int .u8 x.kind,.int .i64 x.fr,.int .i64 x.to,.int .i64 x.tf,.int .i64 x.tt,.int .i64 x.un,.slice x.h.a x.h.n x.h.c] 73
 obtain⟨b4,w2,e4,ew2,hx4,hb2,hz2⟩:=mk_bx w1 #[.int .i64 y.id,.int .i64 y.day,.int .u8 y.kind,.int .i64 y.fr,.int .i64 y.to,.int .i64 y.tf,.int .i64 y.tt,.int .i64 y.un,.slice y.h.a y.h.n y.h.c] 73
 have e34:b3+1=b4:=by have:=e4.out;omega
 have hx3:Bx w1 b3 x.cells:=hx3
 have hx4:Bx w2 b4 y.cells:=hx4
 have hB2:=hb1.trans (hb2.mono hb1.size)
 have X3:=hide (hx3.bel hb2);have X4:=hide hx4;have HB2:=hide hB2
 have Q2:=hide (hq.below hB2);have A2:=hide (hat.below hB2)
 have hq0:=Q2.out.c1
 clear hx3 hx4 hb1 hb2 hB2 hz1 hz2 hq hat
 go_enter Tryz.func178,Tryz.ntmps178
 go_upto_region 1 with fail
 rw[ew1.out,e3.out,e34,ew2.out]
 go_wp2_with fail
 clear hq0
 go_loopw [11] (fun iv wr=>∃k:Nat,k≤2∧iv= .int .i64 k∧Hid (1≤k→cmpI3 x.day y.day=0)∧Hid (2≤k→cmpI3 x.id y.id=0)∧Below w2.heap.size w2 wr) (fun iv _=>2-(intOf iv).toNat)
 case atStart=>exact⟨0,by omega,rfl,hide (fun h=>by omega),hide (fun h=>by omega),Below.refl _ _⟩
 case round=>
  obtain⟨k,hk,rfl,H1,H2,hb⟩:=hrel
  obtain rfl | rfl | rfl:k=0∨k=1∨k=2:=by omega
  ·obtain⟨y0,y1⟩:=(A2.out.below hb).c2
   have Hb:=hide hb
   obtain⟨wo,rfl⟩:∃wo,wo=wr:=⟨wr,rfl⟩
   obtain⟨c,hc⟩:∃c,Hid (c=cmpI3 x.day y.day):=⟨_,hide rfl⟩
   clear hb
   go_upto_region 4 with fail
   clear y0 y1
   refine wp_region_held_drew (S:=(fun W=>Below wo.heap.size wo W)) (by kernel_rfl) (by(try dsimp only);exact(Below.refl _ _).drew) (fun hHeld=>?_)
   generalize World.drew wo=Wd4 at hHeld ⊢
   have hbc:=Below.refl Wd4.heap.size Wd4
   iterate 2
    refine tkHl [0,3] ?_ rfl rfl (Or.inl ⟨by rfl,?_⟩) hHeld ?_
    rotate_left
    ·(intro w _;go_simp;try(with_reducible rfl))
    try simp only[Act.put,tl1,tl2,tl3]
   iterate 2
    refine tkHl [1,4] ?_ rfl rfl (Or.inl ⟨by rfl,?_⟩) hHeld ?_
    rotate_left
    ·(intro w hSw;(try dsimp only at hSw);obtain⟨q0,q1,q2,q3,q4,q5,q6,q7,q8⟩:=(show At _ b3 [.int .i64 x.id,.int .i64 x.day,.int .u8 x.kind,.int .i64 x.fr,.int .i64 x.to,.int .i64 x.tf,.int .i64 x.tt,.int .i64 x.un,.slice x.h.a x.h.n x.h.c] from((X3.out.bel Hb.out).bel hSw).at_).c9;obtain⟨p0,p1,p2,p3,p4,p5,p6,p7,p8⟩:=(show At _ b4 [.int .i64 y.id,.int .i64 y.day,.int .u8 y.kind,.int .i64 y.fr,.int .i64 y.to,.int .i64 y.tf,.int .i64 y.tt,.int .i64 y.un,.slice y.h.a y.h.n y.h.c] from((X4.out.bel Hb.out).bel hSw).at_).c9;go_simp;try(with_reducible rfl))
    try simp only[Act.put,tl1,tl2,tl3]
   refine wpAnyH_ready (rs:=[2]) (by kernel_rfl) (by simp) ?_
   refine AllReadyH.cons (o:=⟨_,_,_,_,_,_⟩) rfl (fun K hK=>?_) AllReadyH.nil
   go_simp
   refine(deday_any x _).mono ?_
   rintro e V17 ⟨rfl,hb⟩
   go_wp2_with fail
   have hHeldN:=hHeld.trans (hb.mono hHeld.size)
   have hbc:=hbc.trans (hb.mono hbc.size)
   refine hK.out _ _ ?_ (fun hHeld2=>?_)
   ·exact hHeldN
   clear hK K hHeld hHeldN hb;have hHeld:=hHeld2;clear hHeld2
   try simp only[Act.put,tl1,tl2,tl3]
   refine wpAnyH_ready (rs:=[5]) (by kernel_rfl) (by simp) ?_
   refine AllReadyH.cons (o:=⟨_,_,_,_,_,_⟩) rfl (fun K hK=>?_) AllReadyH.nil
   go_simp
   refine(deday_any y _).mono ?_
   rintro e V20 ⟨rfl,hb⟩
   go_wp2_with fail
   have hHeldN:=hHeld.trans (hb.mono hHeld.size)
   have hbc:=hbc.trans (hb.mono hbc.size)
   refine hK.out _ _ ?_ (fun hHeld2=>?_)
   ·exact hHeldN
   clear hK K hHeld hHeldN hb;have hHeld:=hHeld2;clear hHeld2
   try simp only[Act.put,tl1,tl2,tl3]
   refine wpAnyH_ready (rs:=[6]) (by kernel_rfl) (by simp) ?_
   refine AllReadyH.cons (o:=⟨_,_,_,_,_,_⟩) rfl (fun K hK=>?_) AllReadyH.nil
   go_simp
   refine(ccompare_b _ _ _).mono ?_
   rintro e V21 ⟨rfl,hb⟩
   rw[←hc.out]
   go_wp2_with fail
   have hHeldN:=hHeld.trans (hb.mono hHeld.size)
   have hbc:=hbc.trans (hb.mono hbc.size)
   refine hK.out _ _ ?_ (fun hHeld2=>?_)
   ·exact hHeldN
   clear hK K hHeld hHeldN hb;have hHeld:=hHeld2;clear hHeld2
   try simp only[Act.put,tl1,tl2,tl3]
   refine tkH 7 ?_ rfl (Or.inl ⟨by rfl,?_⟩) hHeld ?_
   rotate_left
   ·(intro w _;go_simp;try(with_reducible rfl))
   try simp only[Act.put,tl1,tl2,tl3]
   refine wpAnyH_done (by kernel_rfl) ?_ _
   have Hb2:=hide (Hb.out.trans (hHeld.mono Hb.out.size))
   clear hHeld hbc
   by_cases h0:c=0
   ·have h1:cmpI3 x.day y.day=0:=by rw[←hc.out];exact h0
    clear hc
    subst h0
    go_wp2_with fail
    exact⟨⟨1,by omega,rfl,hide (fun _=>h1),hide (fun h=>by omega),Hb2.out⟩,by simp[intOf]⟩
   ·have tn:(c != 0)=true:=by simpa using h0
    go_wp2_with fail
    go_returns
    refine⟨?_,HB2.out.trans (Hb2.out.mono HB2.out.size)⟩
    rw[show cmpD x y=c by unfold cmpD;rw[if_pos (by rw[←hc.out];exact h0),←hc.out]]
    rfl
  ·obtain⟨y0,y1⟩:=(A2.out.below hb).c2
   have Hb:=hide hb
   obtain⟨wo,rfl⟩:∃wo,wo=wr:=⟨wr,rfl⟩
   obtain⟨c,hc⟩:∃c,Hid (c=cmpI3 x.id y.id):=⟨_,hide rfl⟩
   have hday:=H1.out (by omega)
   have Hday:=hide hday
   clear hb hday
   go_upto_region 4 with fail
   clear y0 y1
   refine wp_region_held_drew (S:=(fun W=>Below wo.heap.size wo W)) (by kernel_rfl) (by(try dsimp only);exact(Below.refl _ _).drew) (fun hHeld=>?_)
   generalize World.drew wo=Wd4 at hHeld ⊢
   have hbc:=Below.refl Wd4.heap.size Wd4
   iterate 2
    refine tkHl [0,3] ?_ rfl rfl (Or.inl ⟨by rfl,?_⟩) hHeld ?_
    rotate_left
    ·(intro w _;go_simp;try(with_reducible rfl))
    try simp only[Act.put,tl1,tl2,tl3]
   iterate 2
    refine tkHl [1,4] ?_ rfl rfl (Or.inl ⟨by rfl,?_⟩) hHeld ?_
    rotate_left
    ·(intro w hSw;(try dsimp only at hSw);obtain⟨q0,q1,q2,q3,q4,q5,q6,q7,q8⟩:=(show At _ b3 [.int .i64 x.id,.int .i64 x.day,.int .u8 x.kind,.int .i64 x.fr,.int .i64 x.to,.int .i64 x.tf,.int .i64 x.tt,.int .i64 x.un,.slice x.h.a x.h.n x.h.c] from((X3.out.bel Hb.out).bel hSw).at_).c9;obtain⟨p0,p1,p2,p3,p4,p5,p6,p7,p8⟩:=(show At _ b4 [.int .i64 y.id,.int .i64 y.day,.int .u8 y.kind,.int .i64 y.fr,.int .i64 y.to,.int .i64 y.tf,.int .i64 y.tt,.int .i64 y.un,.slice y.h.a y.h.n y.h.c] from((X4.out.bel Hb.out).bel hSw).at_).c9;go_simp;try(with_reducible rfl))
    try simp only[Act.put,tl1,tl2,tl3]
   refine wpAnyH_ready (rs:=[2]) (by kernel_rfl) (by simp) ?_
   refine AllReadyH.cons (o:=⟨_,_,_,_,_,_⟩) rfl (fun K hK=>?_) AllReadyH.nil
   go_simp
   refine(deid_any x _).mono ?_
   rintro e V17 ⟨rfl,hb⟩
   go_wp2_with fail
   have hHeldN:=hHeld.trans (hb.mono hHeld.size)
   have hbc:=hbc.trans (hb.mono hbc.size)
   refine hK.out _ _ ?_ (fun hHeld2=>?_)
   ·exact hHeldN
   clear hK K hHeld hHeldN hb;have hHeld:=hHeld2;clear hHeld2
   try simp only[Act.put,tl1,tl2,tl3]
   refine wpAnyH_ready (rs:=[5]) (by kernel_rfl) (by simp) ?_
   refine AllReadyH.cons (o:=⟨_,_,_,_,_,_⟩) rfl (fun K hK=>?_) AllReadyH.nil
   go_simp
   refine(deid_any y _).mono ?_
   rintro e V20 ⟨rfl,hb⟩
   go_wp2_with fail
   have hHeldN:=hHeld.trans (hb.mono hHeld.size)
   have hbc:=hbc.trans (hb.mono hbc.size)
   refine hK.out _ _ ?_ (fun hHeld2=>?_)
   ·exact hHeldN
   clear hK K hHeld hHeldN hb;have hHeld:=hHeld2;clear hHeld2
   try simp only[Act.put,tl1,tl2,tl3]
   refine wpAnyH_ready (rs:=[6]) (by kernel_rfl) (by simp) ?_
   refine AllReadyH.cons (o:=⟨_,_,_,_,_,_⟩) rfl (fun K hK=>?_) AllReadyH.nil
   go_simp
   refine(ccompare_b _ _ _).mono ?_
   rintro e V21 ⟨rfl,hb⟩
   rw[←hc.out]
   go_wp2_with fail
   have hHeldN:=hHeld.trans (hb.mono hHeld.size)
   have hbc:=hbc.trans (hb.mono hbc.size)
   refine hK.out _ _ ?_ (fun hHeld2=>?_)
   ·exact hHeldN
   clear hK K hHeld hHeldN hb;have hHeld:=hHeld2;clear hHeld2
   try simp only[Act.put,tl1,tl2,tl3]
   refine tkH 7 ?_ rfl (Or.inl ⟨by rfl,?_⟩) hHeld ?_
   rotate_left
   ·(intro w _;go_simp;try(with_reducible rfl))
   try simp only[Act.put,tl1,tl2,tl3]
   refine wpAnyH_done (by kernel_rfl) ?_ _
   have Hb2:=hide (Hb.out.trans (hHeld.mono Hb.out.size))
   clear hHeld hbc
   by_cases h0:c=0
   ·have h1:cmpI3 x.id y.id=0:=by rw[←hc.out];exact h0
    clear hc
    subst h0
    go_wp2_with fail
    exact⟨⟨2,by omega,rfl,hide (fun _=>Hday.out),hide (fun _=>h1),Hb2.out⟩,by simp[intOf]⟩
   ·have tn:(c != 0)=true:=by simpa using h0
    go_wp2_with fail
    go_returns
    refine⟨?_,HB2.out.trans (Hb2.out.mono HB2.out.size)⟩
    rw[show cmpD x y=c by unfold cmpD;rw[if_neg (by rw[Hday.out];simp),←hc.out]]
    rfl
  ·have Hb:=hide hb
   clear hb
   go_wp2_with fail
   go_returns
   refine⟨?_,HB2.out.trans (Hb.out.mono HB2.out.size)⟩
   rw[show cmpD x y=0 by unfold cmpD;rw[if_neg (by rw[H1.out (by omega)];simp),H2.out (by omega)]]
   rfl
end Go.Proofs.YtiioegopckoldaaGreatDoor
namespace Go.Proofs.YtiioegopckoldaaGreatDoor
open Go.RowKit Go.Shelf
def OrdL (ds:List Dv):Prop:=∀(j k:Nat) (x y:Dv),j≤k→ds[j]?=some x→ds[k]?=some y→0≤cmpD y x
structure Ox (g n q bb:Nat) (ds:List Dv) (w:World):Prop where
 rd:Rd w w.heap.size Dv.cells (some ⟨g,0,none⟩) ds
 q:At w q [.slice (some ⟨bb,0,none⟩) 2 2]
 fn:At w bb [.func (.func 124) #[] #[],.func (.func 125) #[] #[]]
 en:n=ds.length
theorem Ox.bel {g n q bb:Nat} {ds:List Dv} {w w':World} (h:Ox g n q bb ds w) (hb:Below w.heap.size w w'):Ox g n q bb ds w':=⟨h.rd.bel hb,h.q.below hb,h.fn.below hb,h.en⟩
theorem Ox.at_ {g n q bb:Nat} {ds:List Dv} {w:World} (h:Ox g n q bb ds w) {i:Nat} (hi:i < n):∃d,ds[i]?=some d∧g < w.heap.size∧w.cell? ⟨g,i*9,none⟩=some (.int .i64 d.id)∧w.cell? ⟨g,i*9+1,none⟩=some (.int .i64 d.day)∧w.cell? ⟨g,i*9+2,none⟩=some (.int .u8 d.kind)∧w.cell? ⟨g,i*9+3,none⟩=some (.int .i64 d.fr)∧w.cell? ⟨g,i*9+4,none⟩=some (.int .i64 d.to)∧w.cell? ⟨g,i*9+5,none⟩=some (.int .i64 d.tf)∧w.cell? ⟨g,i*9+6,none⟩=some (.int .i64 d.tt)∧w.cell? ⟨g,i*9+7,none⟩=some (.int .i64 d.un)∧w.cell? ⟨g,i*9+8,none⟩=some (.slice d.h.a d.h.n d.h.c):=by
 obtain⟨b,off,d,e,hB,hx,h0,h1,h2,h3,h4,h5,h6,h7,h8⟩:=h.rd.dv (i:=i) (by rw[←h.en];exact hi)
 injection e with e
 injection e with e1 e2
 subst e1 e2
 rw[Nat.zero_add] at h0 h1 h2 h3 h4 h5 h6 h7 h8
 exact⟨d,hx,hB,h0,h1,h2,h3,h4,h5,h6,h7,h8⟩
set_option maxHeartbeats 8000000 in
set_option maxRecDepth 100000 in
theorem deisort_ord (g n c a b q bb:Nat) (ds:List Dv) (w:World) (ho:Ox g n q bb ds w) (hl:OrdL ds) (hn:n≤60) (hab:a≤b) (hbn:b≤n) :
 Calls Tryz.prog 239 #[.slice (some ⟨g,0,none⟩) n c,.int .i64 a,.int .i64 b,.func (.func 178) #[] #[.pointer (some ⟨q,0,none⟩)]] w fun e w'=>(∃v,e= .returned v)∧Below w.heap.size w w':=by
 have HO:=hide ho;have Hl:=hide hl
 have ka:IntKind.i64.wrap ((a:Int)+1)=(a:Int)+1:=wrapI (by omega)
 clear ho hl
 go_enter Tryz.func239,Tryz.ntmps239
 go_wp2_with fail
 clear ka
 go_loopw [8] (fun iv wr=>∃i:Nat,a+1≤i∧i≤b+1∧iv= .int .i64 i∧Below w.heap.size w wr) (fun iv _=>b-(intOf iv).toNat)
 case atStart=>exact⟨a+1,by omega,by omega,by go_num,Below.refl _ _⟩
 case round=>
  obtain⟨i,h1,h2,rfl,hb⟩:=hrel
  by_cases hib:i < b
  ·obtain⟨j,hj⟩:∃j,i=j+1:=⟨i-1,by omega⟩
   have ik:(i:Int) < (b:Int):=by omega
   have ki:IntKind.i64.wrap ((i:Int)+1)=(i:Int)+1:=wrapI (by omega)
   have k1:IntKind.i64.wrap ((i:Int)-1)=(j:Int):=by rw[wrapI (by omega)];omega
   have Hj:=hide hj
   clear hj
   have Hb:=hide hb
   obtain⟨wo,rfl⟩:∃wo,wo=wr:=⟨wr,rfl⟩
   clear hb
   go_wp2_with fail
   go_loopw [9] (fun jv wr=>jv= .int .i64 (i:Int)∧Below wo.heap.size wo wr) (fun _ _=>0)
   case atStart=>exact⟨rfl,Below.refl _ _⟩
   case round=>
    obtain⟨rfl,hb⟩:=hrel
    have O9:=hide ((HO.out.bel Hb.out).bel hb)
    obtain⟨x,hx,hg,x0,x1,x2,x3,x4,x5,x6,x7,x8⟩:=O9.out.at_ (i:=i) (by omega)
    obtain⟨y,hy,_,y0,y1,y2,y3,y4,y5,y6,y7,y8⟩:=O9.out.at_ (i:=j) (by have:=Hj.out;omega)
    have hc:=Hl.out j i y x (by have:=Hj.out;omega) hy hx
    have d1:decide ((a:Int) < (i:Int))=true:=decide_eq_true (by omega)
    have d1':decide (a < i)=true:=decide_eq_true (by omega)
    have d2:decide (cmpD x y < 0)=false:=decide_eq_false (by omega)
    have i1:(i:Int) < (n:Int):=by omega
    have i2:(j:Int) < (n:Int):=by have:=Hj.out;omega
    have Hbb:=hide (Hb.out.trans (hb.mono Hb.out.size))
    obtain⟨wp,rfl⟩:∃wp,wp=wr:=⟨wr,rfl⟩
    have X:=hide (And.intro hg (And.intro x0 (And.intro x1 (And.intro x2 (And.intro x3 (And.intro x4 (And.intro x5 (And.intro x6 (And.intro x7 x8)))))))))
    have Y:=hide (And.intro hg (And.intro y0 (And.intro y1 (And.intro y2 (And.intro y3 (And.intro y4 (And.intro y5 (And.intro y6 (And.intro y7 y8)))))))))
    clear hx hy hc hg hb x0 x1 x2 x3 x4 x5 x6 x7 x8 y0 y1 y2 y3 y4 y5 y6 y7 y8
    go_upto_region 4 with fail
    refine wp_region_held_drew (S:=(fun W=>Below wp.heap.size wp W)) (by kernel_rfl) (by(try dsimp only);exact(Below.refl _ _).drew) (fun hHeld=>?_)
    generalize World.drew wp=Wd4 at hHeld ⊢
    have hbc:=Below.refl Wd4.heap.size Wd4
    iterate 12
     refine tkHl [0,1,2,3,4,5,6,7,9,10,11,12] ?_ rfl rfl (Or.inl ⟨by rfl,?_⟩) hHeld ?_
     rotate_left
     ·(intro w _;go_simp;try(with_reducible rfl))
     try simp only[Act.put,tl1,tl2,tl3]
    iterate 2
     refine tkHl [8,13] ?_ rfl rfl (Or.inl ⟨by rfl,?_⟩) hHeld ?_
     rotate_left
     ·(intro w hSw;(try dsimp only at hSw);have x0:=(hSw.cell (p:=⟨g,i*9,none⟩) X.out.1).trans X.out.2.1;have x1:=(hSw.cell (p:=⟨g,i*9+1,none⟩) X.out.1).trans X.out.2.2.1;have x2:=(hSw.cell (p:=⟨g,i*9+2,none⟩) X.out.1).trans X.out.2.2.2.1;have x3:=(hSw.cell (p:=⟨g,i*9+3,none⟩) X.out.1).trans X.out.2.2.2.2.1;have x4:=(hSw.cell (p:=⟨g,i*9+4,none⟩) X.out.1).trans X.out.2.2.2.2.2.1;have x5:=(hSw.cell (p:=⟨g,i*9+5,none⟩) X.out.1).trans X.out.2.2.2.2.2.2.1;have x6:=(hSw.cell (p:=⟨g,i*9+6,none⟩) X.out.1).trans X.out.2.2.2.2.2.2.2.1;have x7:=(hSw.cell (p:=⟨g,i*9+7,none⟩) X.out.1).trans X.out.2.2.2.2.2.2.2.2.1;have x8:=(hSw.cell (p:=⟨g,i*9+8,none⟩) X.out.1).trans X.out.2.2.2.2.2.2.2.2.2;have y0:=(hSw.cell (p:=⟨g,j*9,none⟩) Y.out.1).trans Y.out.2.1;have y1:=(hSw.cell (p:=⟨g,j*9+1,none⟩) Y.out.1).trans Y.out.2.2.1;have y2:=(hSw.cell (p:=⟨g,j*9+2,none⟩) Y.out.1).trans Y.out.2.2.2.1;have y3:=(hSw.cell (p:=⟨g,j*9+3,none⟩) Y.out.1).trans Y.out.2.2.2.2.1;have y4:=(hSw.cell (p:=⟨g,j*9+4,none⟩) Y.out.1).trans Y.out.2.2.2.2.2.1;have y5:=(hSw.cell (p:=⟨g,j*9+5,none⟩) Y.out.1).trans Y.out.2.2.2.2.2.2.1;have y6:=(hSw.cell (p:=⟨g,j*9+6,none⟩) Y.out.1).trans Y.out.2.2.2.2.2.2.2.1;have y7:=(hSw.cell (p:=⟨g,j*9+7,none⟩) Y.out.1).trans Y.out.2.2.2.2.2.2.2.2.1;have y8:=(hSw.cell (p:=⟨g,j*9+8,none⟩) Y.out.1).trans Y.out.2.2.2.2.2.2.2.2.2;go_simp;try(with_reducible rfl))
     try simp only[Act.put,tl1,tl2,tl3]
    refine wpAnyH_ready (rs:=[14]) (by kernel_rfl) (by simp) ?_
    refine AllReadyH.cons (o:=⟨_,_,_,_,_,_⟩) rfl (fun K hK=>?_) AllReadyH.nil
    go_simp
    refine(decmp_any x y q bb _ ((O9.out.bel hHeld).q) ((O9.out.bel hHeld).fn)).mono ?_
    rintro e V32 ⟨rfl,hb⟩
    go_wp2_with fail
    have hHeldN:=hHeld.trans (hb.mono hHeld.size)
    have hbc:=hbc.trans (hb.mono hbc.size)
    refine hK.out _ _ ?_ (fun hHeld2=>?_)
    ·exact hHeldN
    clear hK K hHeld hHeldN hb;have hHeld:=hHeld2;clear hHeld2
    try simp only[Act.put,tl1,tl2,tl3]
    iterate 2
     refine tkHl [15,16] ?_ rfl rfl (Or.inl ⟨by rfl,?_⟩) hHeld ?_
     rotate_left
     ·(intro w _;go_simp;try(with_reducible rfl))
     try simp only[Act.put,tl1,tl2,tl3]
    refine wpAnyH_done (by kernel_rfl) ?_ _
    have HBB:=hide (Hbb.out.trans (hHeld.mono Hbb.out.size))
    clear hHeld hbc
    go_wp2_with fail
    exact⟨⟨i+1,by omega,by omega,by go_num,HBB.out⟩,by simp[intOf];omega⟩
  ·go_wp2_with fail
   go_returns
   exact⟨⟨_,rfl⟩,hb⟩
end Go.Proofs.YtiioegopckoldaaGreatDoor
