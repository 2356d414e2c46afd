/- lemmas for topFed_holds: T05 PC2 App2 PC4. No conditions. -/
import Derived.Test.YtiioegopckoldaaGreatDoorK24
import Derived.Test.YtiioegopckoldaaGreatDoorK29
import Derived.Test.YtiioegopckoldaaGreatDoorK32
import Derived.Test.YtiioegopckoldaaGreatDoorK38
import Derived.Test.YtiioegopckoldaaGreatDoorK14
import Derived.Test.YtiioegopckoldaaGreatDoorK37
import Derived.Test.YtiioegopckoldaaGreatDoorK08
import Derived.Test.YtiioegopckoldaaGreatDoorK25
import Derived.Deep.Cut
set_option linter.unusedVariables false
set_option linter.unusedSimpArgs false
namespace Go.Proofs.YtiioegopckoldaaGreatDoor
open Go.RowKit Go.Shelf
theorem make_canal1 (w:World):(Instr.makeSlice 25 (.int .i64 1) (.int .i64 1)).run Tryz.prog w= .ok (.slice (some ⟨w.heap.size,0,none⟩) 1 1) (w.alloc (.cells #[.int .i64 0,.int .i64 0,.int .i64 0,.int .i64 0,.int .i64 0] 213)):=by kernel_rfl
def caT:Ca:=⟨0,⟨0,0⟩,⟨0,0⟩⟩
set_option maxHeartbeats 4000000 in
set_option maxRecDepth 100000 in
theorem tpipe_any (w:World):Calls Tryz.prog 28 #[] w fun e w'=>∃b1 b2,e= .returned (.agg #[.slice (some ⟨b1,0,none⟩) 1 1,.slice (some ⟨b2,0,none⟩) 1 1,.int .i64 0,.int .i64 1])∧NetAt w' (some ⟨b1,0,none⟩) (some ⟨b2,0,none⟩) 1 1 [caT] [1]∧Below w.heap.size w w':=by
 obtain⟨b1,w1,e1,ew1,hx1,hb1,hz1⟩:=mk_bx w #[.slice none 0 0,.slice none 0 0,.int .i64 0,.int .i64 0] 28
 have hx1:Bx w1 b1 [.slice none 0 0,.slice none 0 0,.int .i64 0,.int .i64 0]:=hx1
 obtain⟨b2,w2,e2,ew2,r2,hb2⟩:=mk_row (cells:=Ca.cells) w1 #[.int .i64 0,.int .i64 0,.int .i64 0,.int .i64 0,.int .i64 0] 213 [caT] rfl
 obtain⟨b3,w3,e3,ew3,r3,hb3⟩:=mk_row (cells:=icell) w2 #[.int .i64 1] 3 [1] rfl
 have hl:w.heap.size≤b1:=by have:=e1.out;omega
 have h12:b1+1=b2:=by rw[←e2.out,hz1]
 have h23:b2+1=b3:=by rw[←e3.out,←e2.out,←ew2.out];simp
 have hx3:=(hx1.bel hb2).bel hb3
 have HX:=hide hx3;have HB:=hide ((hb1.trans (hb2.mono hb1.size)).trans (hb3.mono (hb1.trans (hb2.mono hb1.size)).size));have R2:=hide (r2.bel hb3);have R3:=hide r3
 have hm:=make_canal1 w1
 rw[ew2.out,e2.out] at hm
 rw[←ew3.out] at hx3
 obtain⟨k0,k1,k2,k3⟩:=hx3.at_.c4
 have f0:=hx3.fz 0
 have f1:=hx3.fz 1
 have f2:=hx3.fz 2
 have f3:=hx3.fz 3
 clear hx1 hb1 hz1 hb2 r2 hx3 r3 hb3
 go_enter Tryz.func28,Tryz.ntmps28
 go_upto_region 1 with fail
 rw[ew1.out,e1.out]
 go_wp2_with fail
 rw[ew3.out,e3.out]
 have hF:=(((HX.out.set (.slice (some ⟨b2,0,none⟩) 1 1) (j:=0) (by simp)).set (.slice (some ⟨b3,0,none⟩) 1 1) (j:=1) (by simp)).set (.int .i64 0) (j:=2) (by simp)).set (.int .i64 1) (j:=3) (by simp)
 have HW:=hide ((((HB.out.setCell (p:=⟨b1,0,none⟩) hl (.slice (some ⟨b2,0,none⟩) 1 1)).setCell (p:=⟨b1,1,none⟩) hl (.slice (some ⟨b3,0,none⟩) 1 1)).setCell (p:=⟨b1,2,none⟩) hl (.int .i64 0)).setCell (p:=⟨b1,3,none⟩) hl (.int .i64 1))
 have hk:Kept (fun c=>c≠b1) w3 ((((w3.setCell ⟨b1,0,none⟩ (.slice (some ⟨b2,0,none⟩) 1 1)).setCell ⟨b1,1,none⟩ (.slice (some ⟨b3,0,none⟩) 1 1)).setCell ⟨b1,2,none⟩ (.int .i64 0)).setCell ⟨b1,3,none⟩ (.int .i64 1)):=(((Kept.setCell w3 ⟨b1,0,none⟩ _).trans (Kept.setCell _ ⟨b1,1,none⟩ _)).trans (Kept.setCell _ ⟨b1,2,none⟩ _)).trans (Kept.setCell _ ⟨b1,3,none⟩ _)
 have RF:=hide (R2.out.keptAt hk (by omega))
 have RG:=hide (R3.out.keptAt hk (by omega))
 clear k0 k1 k2 k3 f0 f1 f2 f3 hk
 generalize (((w3.setCell ⟨b1,0,none⟩ (.slice (some ⟨b2,0,none⟩) 1 1)).setCell ⟨b1,1,none⟩ (.slice (some ⟨b3,0,none⟩) 1 1)).setCell ⟨b1,2,none⟩ (.int .i64 0)).setCell ⟨b1,3,none⟩ (.int .i64 1)=W at hF HW RF RG ⊢
 obtain⟨k0,k1,k2,k3⟩:=(show At W b1 [.slice (some ⟨b2,0,none⟩) 1 1,.slice (some ⟨b3,0,none⟩) 1 1,.int .i64 0,.int .i64 1] from hF.at_).c4
 refine bodyPost_ret (by simp[results,Tryz.results28,go_sem,k0,k1,k2,k3];try rfl) rfl ?_
 exact⟨b2,b3,rfl,⟨RF.out,RG.out,rfl,rfl,by omega,by omega⟩,HW.out⟩
theorem Rd.spHd {w:World} {A:Option Addr} {x:Sp} {xs:List Sp} (h:Rd w w.heap.size Sp.cells A (x :: xs)) :
 ∃b o,A=some ⟨b,o,none⟩∧b < w.heap.size∧w.cell? ⟨b,o,none⟩=some (.int .i64 x.lo)∧w.cell? ⟨b,o+1,none⟩=some (.int .i64 x.hi):=by
 obtain⟨b,o,lo,hi,e,hB,hx,c0,c1⟩:=h.sp (i:=0) (by simp)
 rw[List.getElem?_cons_zero] at hx
 injection hx with hx
 subst hx
 rw[Nat.zero_mul,Nat.add_zero] at c0 c1
 exact⟨b,o,e,hB,c0,c1⟩
theorem Rd.intHd {w:World} {A:Option Addr} {x:Int} {xs:List Int} (h:Rd w w.heap.size icell A (x :: xs)) :
 ∃b o,A=some ⟨b,o,none⟩∧b < w.heap.size∧w.cell? ⟨b,o,none⟩=some (.int .i64 x):=by
 obtain⟨b,o,y,e,hB,hx,c0⟩:=h.int (i:=0) (by simp)
 rw[List.getElem?_cons_zero] at hx
 injection hx with hx
 subst hx
 rw[Nat.add_zero] at c0
 exact⟨b,o,e,hB,c0⟩
def usT:List Us:=[⟨0,5,15⟩]
set_option maxRecDepth 100000 in
theorem watersT:watersS [caT] [1] 0 1 2 3 usT=(([⟨20,30⟩],[⟨0,0⟩]),0):=by kernel_rfl
set_option maxHeartbeats 4000000 in
set_option maxRecDepth 100000 in
theorem alive05_any (w:World) (hnv:Nv w):Calls Tryz.prog 29 #[] w fun e w'=>e= .returned (.bool true)∧Below w.heap.size w w':=by
 have Hnv:=hide hnv
 clear hnv
 go_enter Tryz.func29,Tryz.ntmps29
 go_wp2_with fail
 refine(tpipe_any _).mono ?_
 rintro e w1 ⟨b1,b2,rfl,hn,hb1⟩
 have HB1:=hide hb1
 have N1:=hide hn
 clear hb1 hn
 go_wp2_with fail
 refine(textent_any _ _ _).mono ?_
 rintro e w3 ⟨rfl,hb3⟩
 obtain⟨b4,w4,e4,ew4,r4,hb4⟩:=mk_row (cells:=Us.cells) w3 #[.int .i64 0,.int .i64 5,.int .i64 15] 119 usT rfl
 have HB4:=hide (HB1.out.trans ((hb3.trans (hb4.mono hb3.size)).mono HB1.out.size))
 have N4:=hide ((N1.out.below hb3).below hb4)
 have R4:=hide r4
 clear hb3 hb4 r4
 go_wp2_with fail
 rw[ew4.out,e4.out]
 clear ew4 e4
 refine(waters_fn (some ⟨b1,0,none⟩) (some ⟨b2,0,none⟩) (some ⟨b4,0,none⟩) 1 _ 1 _ 1 _ 0 1 2 3 [caT] [1] usT w4 N4.out R4.out rfl (by omega)).mono ?_
 rintro e w5 ⟨v1,v2,rfl,o1,o2,hb5⟩
 rw[watersT] at o1 o2 ⊢
 obtain⟨A1,c1,rfl,r1⟩:=o1.rdn 1 rfl
 obtain⟨A2,c2,rfl,r2⟩:=o2.rdn 1 rfl
 obtain⟨ba,oa,rfl,hla,ca0,ca1⟩:=r1.spHd
 obtain⟨bb,ob,rfl,hlb,cb0,cb1⟩:=r2.spHd
 have HB5:=hide (HB4.out.trans (hb5.mono HB4.out.size))
 have CA:=hide (And.intro hla (And.intro ca0 ca1))
 have CB:=hide (And.intro hlb (And.intro cb0 cb1))
 clear hb5 o1 o2 r1 r2 hla hlb ca0 ca1 cb0 cb1
 go_upto_region 2 with fail
 refine wp_region_held_drew (S:=(fun W=>Below w5.heap.size w5 W)) (by kernel_rfl) (by(try dsimp only);exact(Below.refl _ _).drew) (fun hHeld=>?_)
 generalize World.drew w5=Wd2 at hHeld ⊢
 have hbc:=Below.refl Wd2.heap.size Wd2
 refine wpAnyH_ready (rs:=[0]) (by kernel_rfl) (by simp) ?_
 refine AllReadyH.cons (o:=⟨_,_,_,_,_,_⟩) rfl (fun K hK=>?_) AllReadyH.nil
 go_simp
 refine(alive04_any _ ((Hnv.out.below HB5.out).below hHeld)).mono ?_
 rintro e V14 ⟨rfl,hb⟩
 go_wp2_with fail
 have hHeldN:=hHeld.trans (hb.mono hHeld.size)
 have hbc:=hbc.trans (hb.mono hbc.size)
 refine hK.out _ _ ?_ (fun hHeld2=>?_)
 ·exact hHeldN
 clear hK K hHeld hHeldN hb;have hHeld:=hHeld2;clear hHeld2
 try simp only[Act.put,tl1,tl2,tl3]
 iterate 12
  refine tkHl [1,2,3,4,5,6,7,8,9,10,11,12] ?_ rfl rfl (Or.inl ⟨by rfl,?_⟩) hHeld ?_
  rotate_left
  ·(intro w _;go_simp;try(with_reducible rfl))
  try simp only[Act.put,tl1,tl2,tl3]
 refine tkH 13 ?_ rfl (Or.inl ⟨by rfl,?_⟩) hHeld ?_
 rotate_left
 ·(intro w hSw;(try dsimp only at hSw);have c0:=(hSw.cell (p:=⟨ba,oa,none⟩) CA.out.1).trans CA.out.2.1;have c1:=(hSw.cell (p:=⟨ba,oa+1,none⟩) CA.out.1).trans CA.out.2.2;have c2:=(hSw.cell (p:=⟨bb,ob,none⟩) CB.out.1).trans CB.out.2.1;have c3:=(hSw.cell (p:=⟨bb,ob+1,none⟩) CB.out.1).trans CB.out.2.2;go_simp;try(with_reducible rfl))
 try simp only[Act.put,tl1,tl2,tl3]
 refine wpAnyH_ready (rs:=[14]) (by kernel_rfl) (by simp) ?_
 refine AllReadyH.cons (o:=⟨_,_,_,_,_,_⟩) rfl (fun K hK=>?_) AllReadyH.nil
 go_simp
 refine(textent_any _ _ _).mono ?_
 rintro e V28 ⟨rfl,hb⟩
 go_wp2_with fail
 have hHeldN:=hHeld.trans (hb.mono hHeld.size)
 have hbc:=hbc.trans (hb.mono hbc.size)
 refine hK.out _ _ ?_ (fun hHeld2=>?_)
 ·exact hHeldN
 clear hK K hHeld hHeldN hb;have hHeld:=hHeld2;clear hHeld2
 try simp only[Act.put,tl1,tl2,tl3]
 iterate 10
  refine tkHl [15,16,17,18,19,20,21,22,23,24] ?_ rfl rfl (Or.inl ⟨by rfl,?_⟩) hHeld ?_
  rotate_left
  ·(intro w _;go_simp;try(with_reducible rfl))
  try simp only[Act.put,tl1,tl2,tl3]
 refine tkH 25 ?_ rfl (Or.inl ⟨by rfl,?_⟩) hHeld ?_
 rotate_left
 ·(intro w hSw;(try dsimp only at hSw);have c0:=(hSw.cell (p:=⟨ba,oa,none⟩) CA.out.1).trans CA.out.2.1;have c1:=(hSw.cell (p:=⟨ba,oa+1,none⟩) CA.out.1).trans CA.out.2.2;have c2:=(hSw.cell (p:=⟨bb,ob,none⟩) CB.out.1).trans CB.out.2.1;have c3:=(hSw.cell (p:=⟨bb,ob+1,none⟩) CB.out.1).trans CB.out.2.2;go_simp;try(with_reducible rfl))
 try simp only[Act.put,tl1,tl2,tl3]
 refine wpAnyH_ready (rs:=[26]) (by kernel_rfl) (by simp) ?_
 refine AllReadyH.cons (o:=⟨_,_,_,_,_,_⟩) rfl (fun K hK=>?_) AllReadyH.nil
 go_simp
 refine(textent_any _ _ _).mono ?_
 rintro e V40 ⟨rfl,hb⟩
 go_wp2_with fail
 have hHeldN:=hHeld.trans (hb.mono hHeld.size)
 have hbc:=hbc.trans (hb.mono hbc.size)
 refine hK.out _ _ ?_ (fun hHeld2=>?_)
 ·exact hHeldN
 clear hK K hHeld hHeldN hb;have hHeld:=hHeld2;clear hHeld2
 try simp only[Act.put,tl1,tl2,tl3]
 iterate 3
  refine tkHl [27,28,29] ?_ rfl rfl (Or.inl ⟨by rfl,?_⟩) hHeld ?_
  rotate_left
  ·(intro w _;go_simp;try(with_reducible rfl))
  try simp only[Act.put,tl1,tl2,tl3]
 refine wpAnyH_done (by kernel_rfl) ?_ _
 have HB6:=hide (HB5.out.trans (hHeld.mono HB5.out.size))
 clear hHeld hbc
 go_wp2_with fail
 go_returns
 exact⟨rfl,HB6.out⟩
def soT:So:=⟨⟨0,0⟩,9,20,⟨0,0⟩,⟨0,0⟩,⟨0,0⟩⟩
set_option maxRecDepth 100000 in
theorem needT:needF soT=(20,0):=by kernel_rfl
theorem wantsT {o:List Int} {i e:Int} (h:wantsP [caT] [1] 0 1 2 3 [soT] o i e):o=[10]∧i=0∧e=0:=by
 refine wantsP_one h ?_
 unfold wantsP
 rw[if_pos (by decide),if_pos (by decide),if_pos (by decide)]
 refine .inl ⟨WOk.nil.snoc (s:=soT) (n:=20) (r:=10) rfl needT ?_,rfl,rfl⟩
 unfold minutesP leastB
 rw[if_pos (by decide),if_pos (by decide),if_pos (by decide)]
 exact .inr ⟨rfl,by decide,by decide,by decide,.inr (by decide)⟩
set_option maxRecDepth 100000 in
theorem planT (A:Option Addr) (c:Nat):planF [10] [⟨15,4,A,1,c,[0]⟩]=([[10]],40,0):=by kernel_rfl
def rcT:Rc:=⟨⟨9,9⟩,⟨0,1⟩,⟨0,0⟩⟩
set_option maxRecDepth 100000 in
theorem flErrT:flErr [rcT] ⟨3,3⟩ []=0:=by kernel_rfl
set_option maxRecDepth 100000 in
theorem flLT:flL [rcT] ⟨3,3⟩ []=[⟨3,3⟩,⟨2,3⟩]:=by kernel_rfl
set_option maxHeartbeats 4000000 in
set_option maxRecDepth 100000 in
theorem alive06_any (w:World) (hnv:Nv w):Calls Tryz.prog 6 #[] w fun e w'=>e= .returned (.bool true)∧Below w.heap.size w w':=by
 have Hnv:=hide hnv
 clear hnv
 go_enter Tryz.func6,Tryz.ntmps6
 go_wp2_with fail
 refine(tpipe_any _).mono ?_
 rintro e w1 ⟨b1,b2,rfl,hn,hb1⟩
 have HB1:=hide hb1
 have N1:=hide hn
 clear hb1 hn
 go_wp2_with fail
 refine(textent_any _ _ _).mono ?_
 rintro e w3 ⟨rfl,hb3⟩
 obtain⟨b4,w4,e4,ew4,r4,hb4⟩:=mk_row (cells:=So.cells) w3 #[.int .i64 0,.int .i64 0,.int .i64 9,.int .i64 20,.int .i64 0,.int .i64 0,.int .i64 0,.int .i64 0,.int .i64 0,.int .i64 0] 51 [soT] rfl
 have HB4:=hide (HB1.out.trans ((hb3.trans (hb4.mono hb3.size)).mono HB1.out.size))
 have N4:=hide ((N1.out.below hb3).below hb4)
 have R4:=hide r4
 clear hb3 hb4 r4
 go_wp2_with fail
 rw[ew4.out,e4.out]
 clear ew4 e4
 refine(wants_fn (some ⟨b1,0,none⟩) (some ⟨b2,0,none⟩) (some ⟨b4,0,none⟩) 1 _ 1 _ 1 _ 0 1 2 3 [caT] [1] [soT] w4 N4.out rfl (by omega) R4.out).mono ?_
 rintro e w5 ⟨v1,out,i,er,rfl,o1,hw,hb5⟩
 obtain⟨rfl,rfl,rfl⟩:=wantsT hw
 obtain⟨A1,c1,rfl,r1⟩:=o1.rdn 1 rfl
 obtain⟨ba,oa,rfl,hla,ca0⟩:=r1.intHd
 have HB5:=hide (HB4.out.trans (hb5.mono HB4.out.size))
 have CA:=hide (And.intro hla ca0)
 obtain⟨b6,w6,e6,ew6,r6,hb6⟩:=mk_row (cells:=icell) w5 #[.int .i64 10] 3 [10] rfl
 obtain⟨b7,w7,e7,ew7,r7,hb7⟩:=mk_row (cells:=icell) w6 #[.int .i64 0] 3 [0] rfl
 obtain⟨b8,w8,e8,ew8,r8,hb8⟩:=mk_row (cells:=Rr.cells) w7 #[.int .i64 15,.int .i64 4,.slice (some ⟨b7,0,none⟩) 1 1] 65 [⟨15,4,some ⟨b7,0,none⟩,1,1,[0]⟩] rfl
 have h67:b6+1=b7:=by rw[←e7.out,←e6.out,←ew6.out];simp
 have h78:b7+1=b8:=by rw[←e8.out,←e7.out,←ew7.out];simp
 have hb58:=(hb6.trans (hb7.mono hb6.size)).trans (hb8.mono (hb6.trans (hb7.mono hb6.size)).size)
 have HB8:=hide (HB5.out.trans (hb58.mono HB5.out.size))
 have H58:=hide hb58
 have R6:=hide ((r6.bel hb7).bel hb8)
 have R8:Hid (RsAt w8 (some ⟨b8,0,none⟩) 1 [⟨15,4,some ⟨b7,0,none⟩,1,1,[0]⟩]):=hide ⟨r8,rfl,fun r hr=>by
  rw[List.mem_singleton] at hr
  subst hr
  exact⟨rfl,by simp,r7.bel hb8⟩⟩
 clear hb5 o1 r1 hla ca0 hw hb6 hb7 hb8 r6 r7 r8 hb58
 go_wp2_with fail
 rw[ew6.out,e6.out,h67,ew7.out,h78,ew8.out]
 clear ew6 e6 ew7 e7 ew8 e8 h67 h78
 refine(plan_any (some ⟨b6,0,none⟩) (some ⟨b8,0,none⟩) 1 _ 1 _ [10] _ w8 R6.out rfl (by omega) R8.out (by omega)).mono ?_
 rintro e w9 ⟨v9,rfl,⟨ss,o9,hrows⟩,hb9⟩
 rw[planT] at hrows ⊢
 obtain⟨s9,rfl⟩:∃s9,ss=[s9]:=List.length_eq_one_iff.1 hrows.len
 obtain⟨A9,c9,rfl,r9⟩:=o9.rdn 1 rfl
 obtain⟨bc,oc,a,n',c',rfl,hlc,hx,cc0⟩:=r9.sl (i:=0) (by simp)
 obtain⟨en,rrow⟩:=hrows.row 0 _ _ hx rfl
 obtain rfl:n'=1:=en
 obtain⟨bd,od,rfl,hld,cd0⟩:=rrow.intHd
 rw[Nat.add_zero] at cc0
 have HB9:=hide (HB8.out.trans (hb9.mono HB8.out.size))
 have H59:=hide (H58.out.trans (hb9.mono H58.out.size))
 have CC:=hide (And.intro hlc cc0)
 have CD:=hide (And.intro hld cd0)
 clear hb9 hrows o9 r9 hx hlc cc0 rrow hld cd0
 go_wp2_with fail
 refine(textent_any _ _ _).mono ?_
 rintro e w10 ⟨rfl,hb10⟩
 have H10:=hide hb10
 clear hb10
 go_wp2_with fail
 refine(textent_any _ _ _).mono ?_
 rintro e w11 ⟨rfl,hb11⟩
 obtain⟨b12,w12,e12,ew12,r12,hb12⟩:=mk_row (cells:=Rc.cells) w11 #[.int .i64 9,.int .i64 9,.int .i64 0,.int .i64 1,.int .i64 0,.int .i64 0] 47 [rcT] rfl
 have H12:=hide (H10.out.trans ((hb11.trans (hb12.mono hb11.size)).mono H10.out.size))
 have R12:=hide r12
 clear hb11 hb12 r12
 go_wp2_with fail
 rw[ew12.out,e12.out]
 clear ew12 e12
 refine(textent_any _ _ _).mono ?_
 rintro e w13 ⟨rfl,hb13⟩
 have H13:=hide (H12.out.trans (hb13.mono H12.out.size))
 have R13:=hide (R12.out.bel hb13)
 clear hb13
 go_wp2_with fail
 refine(gflows_any (some ⟨b12,0,none⟩) none [rcT] ⟨3,3⟩ [] 1 _ 0 _ w13 rfl (by omega) R13.out rfl (by omega) (Rd.nil _ _ _ _)).mono ?_
 rintro e w14 ⟨v1,v2,rfl,o1,o2,hb14⟩
 rw[flErrT]
 rw[flLT] at o1
 obtain⟨A2,c2,rfl,r1⟩:=o1.rdn 2 rfl
 obtain⟨be,oe,lo,hi,rfl,hle,hx,ce0,ce1⟩:=r1.sp (i:=1) (by simp)
 obtain⟨rfl,rfl⟩:2=lo∧3=hi:=by injection hx with hx;injection hx with h1 h2;exact⟨h1,h2⟩
 have H14:=hide (H13.out.trans (hb14.mono H13.out.size))
 have HB14:=hide (HB9.out.trans (H14.out.mono HB9.out.size))
 have CE:=hide (And.intro hle (And.intro ce0 ce1))
 have CC':=hide (And.intro (Nat.lt_of_lt_of_le CC.out.1 H14.out.size) ((H14.out.cell CC.out.1).trans CC.out.2))
 have CD':=hide (And.intro (Nat.lt_of_lt_of_le CD.out.1 H14.out.size) ((H14.out.cell CD.out.1).trans CD.out.2))
 have h514:=H59.out.trans (H14.out.mono H59.out.size)
 have CA':=hide (And.intro (Nat.lt_of_lt_of_le CA.out.1 h514.size) ((h514.cell (p:=⟨ba,oa,none⟩) CA.out.1).trans CA.out.2))
 clear hb14 o1 o2 r1 hx hle ce0 ce1 h514
 clear CA CC CD H59 H10 H12 H13 H14 H58
 go_upto_region 4 with fail
 refine wp_region_held_drew (S:=(fun W=>Below w14.heap.size w14 W)) (by kernel_rfl) (by(try dsimp only);exact(Below.refl _ _).drew) (fun hHeld=>?_)
 generalize World.drew w14=Wd4 at hHeld ⊢
 have hbc:=Below.refl Wd4.heap.size Wd4
 refine wpAnyH_ready (rs:=[0]) (by kernel_rfl) (by simp) ?_
 refine AllReadyH.cons (o:=⟨_,_,_,_,_,_⟩) rfl (fun K hK=>?_) AllReadyH.nil
 go_simp
 refine(alive05_any _ ((Hnv.out.below HB14.out).below hHeld)).mono ?_
 rintro e V38 ⟨rfl,hb⟩
 go_wp2_with fail
 have hHeldN:=hHeld.trans (hb.mono hHeld.size)
 have hbc:=hbc.trans (hb.mono hbc.size)
 refine hK.out _ _ ?_ (fun hHeld2=>?_)
 ·exact hHeldN
 clear hK K hHeld hHeldN hb;have hHeld:=hHeld2;clear hHeld2
 try simp only[Act.put,tl1,tl2,tl3]
 iterate 12
  refine tkHl [1,2,3,4,5,6,7,8,9,10,11,12] ?_ rfl rfl (Or.inl ⟨by rfl,?_⟩) hHeld ?_
  rotate_left
  ·(intro w _;go_simp;try(with_reducible rfl))
  try simp only[Act.put,tl1,tl2,tl3]
 refine tkH 13 ?_ rfl (Or.inl ⟨by rfl,?_⟩) hHeld ?_
 rotate_left
 ·(intro w hSw;(try dsimp only at hSw);have c0:=(hSw.cell (p:=⟨ba,oa,none⟩) CA'.out.1).trans CA'.out.2;have c1:=(hSw.cell (p:=⟨bc,oc,none⟩) CC'.out.1).trans CC'.out.2;have c2:=(hSw.cell (p:=⟨bd,od,none⟩) CD'.out.1).trans CD'.out.2;have c3:=(hSw.cell (p:=⟨be,oe+1*2,none⟩) CE.out.1).trans CE.out.2.1;have c4:=(hSw.cell (p:=⟨be,oe+1*2+1,none⟩) CE.out.1).trans CE.out.2.2;simp only[Nat.one_mul] at c3 c4;go_simp;try(with_reducible rfl))
 try simp only[Act.put,tl1,tl2,tl3]
 iterate 18
  refine tkHl [14,15,16,17,18,19,20,21,22,23,24,25,26,27,28,29,30,31] ?_ rfl rfl (Or.inl ⟨by rfl,?_⟩) hHeld ?_
  rotate_left
  ·(intro w _;go_simp;try(with_reducible rfl))
  try simp only[Act.put,tl1,tl2,tl3]
 refine tkH 32 ?_ rfl (Or.inl ⟨by rfl,?_⟩) hHeld ?_
 rotate_left
 ·(intro w hSw;(try dsimp only at hSw);have c0:=(hSw.cell (p:=⟨ba,oa,none⟩) CA'.out.1).trans CA'.out.2;have c1:=(hSw.cell (p:=⟨bc,oc,none⟩) CC'.out.1).trans CC'.out.2;have c2:=(hSw.cell (p:=⟨bd,od,none⟩) CD'.out.1).trans CD'.out.2;have c3:=(hSw.cell (p:=⟨be,oe+1*2,none⟩) CE.out.1).trans CE.out.2.1;have c4:=(hSw.cell (p:=⟨be,oe+1*2+1,none⟩) CE.out.1).trans CE.out.2.2;simp only[Nat.one_mul] at c3 c4;go_simp;try(with_reducible rfl))
 try simp only[Act.put,tl1,tl2,tl3]
 iterate 6
  refine tkHl [33,34,35,36,37,38] ?_ rfl rfl (Or.inl ⟨by rfl,?_⟩) hHeld ?_
  rotate_left
  ·(intro w _;go_simp;try(with_reducible rfl))
  try simp only[Act.put,tl1,tl2,tl3]
 refine tkH 39 ?_ rfl (Or.inl ⟨by rfl,?_⟩) hHeld ?_
 rotate_left
 ·(intro w hSw;(try dsimp only at hSw);have c0:=(hSw.cell (p:=⟨ba,oa,none⟩) CA'.out.1).trans CA'.out.2;have c1:=(hSw.cell (p:=⟨bc,oc,none⟩) CC'.out.1).trans CC'.out.2;have c2:=(hSw.cell (p:=⟨bd,od,none⟩) CD'.out.1).trans CD'.out.2;have c3:=(hSw.cell (p:=⟨be,oe+1*2,none⟩) CE.out.1).trans CE.out.2.1;have c4:=(hSw.cell (p:=⟨be,oe+1*2+1,none⟩) CE.out.1).trans CE.out.2.2;simp only[Nat.one_mul] at c3 c4;go_simp;try(with_reducible rfl))
 try simp only[Act.put,tl1,tl2,tl3]
 refine tkH 40 ?_ rfl (Or.inl ⟨by rfl,?_⟩) hHeld ?_
 rotate_left
 ·(intro w _;go_simp;try(with_reducible rfl))
 try simp only[Act.put,tl1,tl2,tl3]
 refine tkH 41 ?_ rfl (Or.inl ⟨by rfl,?_⟩) hHeld ?_
 rotate_left
 ·(intro w hSw;(try dsimp only at hSw);have c0:=(hSw.cell (p:=⟨ba,oa,none⟩) CA'.out.1).trans CA'.out.2;have c1:=(hSw.cell (p:=⟨bc,oc,none⟩) CC'.out.1).trans CC'.out.2;have c2:=(hSw.cell (p:=⟨bd,od,none⟩) CD'.out.1).trans CD'.out.2;have c3:=(hSw.cell (p:=⟨be,oe+1*2,none⟩) CE.out.1).trans CE.out.2.1;have c4:=(hSw.cell (p:=⟨be,oe+1*2+1,none⟩) CE.out.1).trans CE.out.2.2;simp only[Nat.one_mul] at c3 c4;go_simp;try(with_reducible rfl))
 try simp only[Act.put,tl1,tl2,tl3]
 iterate 14
  refine tkHl [42,43,44,45,46,47,48,49,50,51,52,53,54,55] ?_ rfl rfl (Or.inl ⟨by rfl,?_⟩) hHeld ?_
  rotate_left
  ·(intro w _;go_simp;try(with_reducible rfl))
  try simp only[Act.put,tl1,tl2,tl3]
 refine tkH 56 ?_ rfl (Or.inl ⟨by rfl,?_⟩) hHeld ?_
 rotate_left
 ·(intro w hSw;(try dsimp only at hSw);have c0:=(hSw.cell (p:=⟨ba,oa,none⟩) CA'.out.1).trans CA'.out.2;have c1:=(hSw.cell (p:=⟨bc,oc,none⟩) CC'.out.1).trans CC'.out.2;have c2:=(hSw.cell (p:=⟨bd,od,none⟩) CD'.out.1).trans CD'.out.2;have c3:=(hSw.cell (p:=⟨be,oe+1*2,none⟩) CE.out.1).trans CE.out.2.1;have c4:=(hSw.cell (p:=⟨be,oe+1*2+1,none⟩) CE.out.1).trans CE.out.2.2;simp only[Nat.one_mul] at c3 c4;go_simp;try(with_reducible rfl))
 try simp only[Act.put,tl1,tl2,tl3]
 refine wpAnyH_ready (rs:=[57]) (by kernel_rfl) (by simp) ?_
 refine AllReadyH.cons (o:=⟨_,_,_,_,_,_⟩) rfl (fun K hK=>?_) AllReadyH.nil
 go_simp
 refine(textent_any _ _ _).mono ?_
 rintro e V95 ⟨rfl,hb⟩
 go_wp2_with fail
 have hHeldN:=hHeld.trans (hb.mono hHeld.size)
 have hbc:=hbc.trans (hb.mono hbc.size)
 refine hK.out _ _ ?_ (fun hHeld2=>?_)
 ·exact hHeldN
 clear hK K hHeld hHeldN hb;have hHeld:=hHeld2;clear hHeld2
 try simp only[Act.put,tl1,tl2,tl3]
 iterate 3
  refine tkHl [58,59,60] ?_ rfl rfl (Or.inl ⟨by rfl,?_⟩) hHeld ?_
  rotate_left
  ·(intro w _;go_simp;try(with_reducible rfl))
  try simp only[Act.put,tl1,tl2,tl3]
 refine wpAnyH_done (by kernel_rfl) ?_ _
 have HB15:=hide (HB14.out.trans (hHeld.mono HB14.out.size))
 clear hHeld hbc
 go_wp2_with fail
 go_returns
 exact⟨rfl,HB15.out⟩
end Go.Proofs.YtiioegopckoldaaGreatDoor
namespace Go.Proofs.YtiioegopckoldaaGreatDoor
open Go.RowKit Go.Shelf
def greatF (ns:List Int) (rs:List Rr):Bool:=decide (12 < ns.length) || (decide (12 < rs.length) || rs.any fun r=>decide (16 < r.n))
structure RsAt0 (w:World) (A:Option Addr) (n:Nat) (rs:List Rr):Prop where
 rd:Rd w w.heap.size Rr.cells A rs
 en:n=rs.length
 row:∀r∈rs,r.n=r.fs.length∧r.n≤9223372036854775807∧Rd w w.heap.size icell r.A r.fs
theorem RsAt0.bel {w w':World} {A:Option Addr} {n:Nat} {rs:List Rr} (h:RsAt0 w A n rs) (hb:Below w.heap.size w w'):RsAt0 w' A n rs:=⟨h.rd.bel hb,h.en,fun r hr=>⟨(h.row r hr).1,(h.row r hr).2.1,(h.row r hr).2.2.bel hb⟩⟩
theorem RsAt0.small {w:World} {A:Option Addr} {n:Nat} {rs:List Rr} {ns:List Int} (h:RsAt0 w A n rs) (hg:greatF ns rs=false):RsAt w A n rs∧n≤12∧ns.length≤12∧∀r∈rs,r.n≤16:=by
 simp only[greatF,Bool.or_eq_false_iff,decide_eq_false_iff_not,List.any_eq_false,decide_eq_true_eq] at hg
 have h16:∀r∈rs,r.n≤16:=fun r hr=>by have:=hg.2.2 r hr;omega
 exact⟨⟨h.rd,h.en,fun r hr=>⟨(h.row r hr).1,by have:=h16 r hr;omega,(h.row r hr).2.2⟩⟩,by rw[h.en];omega,by omega,h16⟩
set_option maxHeartbeats 4000000 in
set_option maxRecDepth 100000 in
theorem great6_any (A1 A2:Option Addr) (m c1 r c2:Nat) (ns:List Int) (rs:List Rr) (w:World) (hm:m=ns.length) (hm2:m≤9223372036854775807) (hR:RsAt0 w A2 r rs) (hr2:r≤9223372036854775807) :
 Calls Tryz.prog 37 #[.slice A1 m c1,.slice A2 r c2] w fun e w'=>e= .returned (.bool (greatF ns rs))∧Below w.heap.size w w':=by
 have Hm:=hide hm;have Her:=hide hR.en;have HR:=hide hR
 clear hm hR
 go_enter Tryz.func37,Tryz.ntmps37
 by_cases h1:12 < m
 ·have Hg:Hid (greatF ns rs=true):=hide (by unfold greatF;rw[decide_eq_true (by have:=Hm.out;omega)];rfl)
  have i1:(12:Int) < (m:Int):=by omega
  go_wp2_with fail
  go_ret
  exact⟨ret_bool Hg.out.symm,Below.refl _ _⟩
 have i1:¬(12:Int) < (m:Int):=by omega
 by_cases h2:12 < r
 ·have Hg:Hid (greatF ns rs=true):=hide (by unfold greatF;rw[decide_eq_true (p:=12 < rs.length) (by have:=Her.out;omega)];simp)
  have i2:(12:Int) < (r:Int):=by omega
  go_wp2_with fail
  go_ret
  exact⟨ret_bool Hg.out.symm,Below.refl _ _⟩
 have i2:¬(12:Int) < (r:Int):=by omega
 have Hg:Hid (greatF ns rs=rs.any fun r=>decide (16 < r.n)):=hide (by unfold greatF;rw[decide_eq_false (by have:=Hm.out;omega),decide_eq_false (p:=12 < rs.length) (by have:=Her.out;omega)];rfl)
 go_wp2_with fail
 go_loopw [5] (fun i wr=>∃k:Nat,k≤r∧i= .int .i64 k∧Below w.heap.size w wr∧Hid (∀y∈rs.take k,(fun r:Rr=>decide (16 < r.n)) y=false)) (fun i _=>r-(intOf i).toNat)
 case atStart=>exact⟨0,by omega,rfl,Below.refl _ _,hide pre_nil⟩
 case round=>
  obtain⟨k,hk,rfl,hb,hpre⟩:=hrel
  by_cases hlt:k < r
  ·obtain⟨b7,off,q,hA,hql,hqx,c0,c1',c2'⟩:=(HR.out.bel hb).rd.rr (i:=k) (by rw[←Her.out];exact hlt)
   have hqn:=(HR.out.row q (List.mem_of_getElem? hqx)).2.1
   have ik:(k:Int) < (r:Int):=by omega
   obtain⟨n,hn⟩:∃n,n=q.n:=⟨_,rfl⟩
   rw[←hn] at hqn c2'
   have Hn:=hide hn;have Hqx:=hide hqx
   rw[hA]
   clear hn hA hqx
   by_cases h16:16 < n
   ·have i16:(16:Int) < (n:Int):=by omega
    go_wp2_with fail
    go_ret
    exact⟨ret_bool (by rw[Hg.out,any_hit Hqx.out (p:=fun r:Rr=>decide (16 < r.n)) (by rw[←Hn.out];exact decide_eq_true h16)]),hb⟩
   ·have i16:¬(16:Int) < (n:Int):=by omega
    go_wp2_with fail
    exact⟨⟨k+1,by omega,by go_num,hb,hide (pre_snoc Hqx.out (p:=fun r:Rr=>decide (16 < r.n)) (by rw[←Hn.out];exact decide_eq_false h16) hpre.out)⟩,by simp[intOf];omega⟩
  ·have hkr:rs.length≤k:=by have:=Her.out;omega
   go_wp2_with fail
   go_ret
   exact⟨ret_bool (by rw[Hg.out,any_miss hkr hpre.out]),hb⟩
set_option maxHeartbeats 4000000 in
set_option maxRecDepth 100000 in
theorem ropen_any (A2:Option Addr) (r c2:Nat) (rs:List Rr) (m:Nat) (w:World) (hm8:m≤8) (hR:RsAt w A2 r rs) (hr8:r≤8) (hok:rentTo m rs rs.length=true) :
 Calls Tryz.prog 52 #[.slice A2 r c2] w fun e w'=>∃v,e= .returned v∧Own w' w.heap.size 3 1 icell v ((rs.map fun q=>bitsF q.fs).map Int.ofNat)∧Below w.heap.size w w':=by
 have Her:=hide hR.en;have HR:=hide hR;have Hok:=hide hok
 clear hR hok
 go_enter Tryz.func52,Tryz.ntmps52
 go_wp2_with fail
 go_loopw [3,4] (fun v i wr=>∃(k:Nat) (pv:Value),pv=v∧k≤r∧i= .int .i64 k∧Hid (Own wr w.heap.size 3 1 icell pv (((rs.take k).map fun q=>bitsF q.fs).map Int.ofNat))∧Below w.heap.size w wr) (fun _ i _=>r-(intOf i).toNat)
 case atStart=>exact⟨0,_,rfl,by omega,rfl,hide (Own.nil _ _ _ _ _),Below.refl _ _⟩
 case round=>
  obtain⟨k,pv,rfl,hk,rfl,HO,hb⟩:=hrel
  by_cases hlt:k < r
  ·obtain⟨b7,off,q,hA,hql,hqx,c0,c1',c2'⟩:=(HR.out.bel hb).rd.rr (i:=k) (by rw[←Her.out];exact hlt)
   have Hrow:=hide (HR.out.row q (List.mem_of_getElem? hqx))
   have Hfld:Hid (fldOk m q.fs=true):=hide (by
    have h:=rentTo_le (j:=k+1) Hok.out (by have:=Her.out;omega)
    have hfs:fsAt rs k=q.fs:=by unfold fsAt;rw[hqx];rfl
    rw[rentTo,hfs,Bool.and_eq_true,Bool.and_eq_true,Bool.and_eq_true] at h
    exact h.2.2.2)
   have ik:(k:Int) < (r:Int):=by omega
   have hqn:=Hrow.out.2.1
   obtain⟨n,hn⟩:∃n,n=q.n:=⟨_,rfl⟩
   rw[←hn] at hqn c2'
   have Hn:=hide (show n=q.fs.length by rw[hn];exact Hrow.out.1)
   have Hqx:=hide hqx
   have Hc2:=hide c2'
   rw[hA]
   clear hn hA hqx c0 c1' c2' hlt
   obtain⟨wo,rfl⟩:∃wo,wo=wr:=⟨wr,rfl⟩
   go_wp2_with fail
   go_loopw [5,6] (fun v i wr=>∃j:Nat,j≤n∧v= .int .i64 ((bitsTo q.fs j:Nat):Int)∧i= .int .i64 j∧Below wo.heap.size wo wr) (fun _ i _=>n-(intOf i).toNat)
   case atStart=>exact⟨0,by omega,rfl,rfl,Below.refl _ _⟩
   case round=>
    obtain⟨j,hj,rfl,rfl,hb2⟩:=hrel
    have y2:=(hb2.cell (p:=⟨b7,off+k*3+2,none⟩) hql).trans Hc2.out
    have hbits:=bitsTo_lt hm8 (fldTo_le (j:=j) Hfld.out (by have:=Hn.out;omega))
    by_cases hjn:j < n
    ·obtain⟨bf,of,f,hAf,hlf,hxf,cf⟩:=((Hrow.out.2.2.bel hb).bel hb2).int (i:=j) (by rw[←Hn.out];exact hjn)
     have hfa:fAt q.fs j=f:=by unfold fAt;rw[List.getD_eq_getElem?_getD,hxf];rfl
     have hfb:0≤f∧f < 8:=by
      have h:=fldTo_le (j:=j+1) Hfld.out (by have:=Hn.out;omega)
      rw[fldTo,Bool.and_eq_true,Bool.and_eq_true] at h
      have h2:=h.2.1
      rw[hfa] at h2
      simp[inB] at h2;omega
     obtain⟨fn,rfl⟩:∃fn:Nat,f=fn:=⟨f.toNat,by omega⟩
     have hos:=or_step hbits (show fn < 8 by omega)
     have Hnext:Hid (bitsTo q.fs (j+1)=bitsTo q.fs j ||| 2 ^ fn):=hide (by rw[bitsTo,hfa];rfl)
     obtain⟨z,hz⟩:∃z,z=bitsTo q.fs j:=⟨_,rfl⟩
     rw[←hz] at hbits hos Hnext ⊢
     have ij:(j:Int) < (n:Int):=by omega
     have f0:¬(fn:Int) < 0:=by omega
     rw[hAf] at y2
     clear hfa hz hAf hxf
     go_wp2_with fail
     exact⟨⟨j+1,by omega,by first | (rw[Hnext.out];done) | rw[Hnext.out,hos],by go_num,hb2⟩,by simp[intOf];omega⟩
    ·obtain rfl:n=j:=by omega
     have hlen:(((rs.take k).map fun q=>bitsF q.fs).map Int.ofNat).length+1≤1000000:=by rw[List.length_map,List.length_map,List.length_take];omega
     have HB2:=hide hb2
     go_wp2_with (at_builtin;refine wpList_app1 (v:=pv) (xs:=((rs.take k).map fun q=>bitsF q.fs).map Int.ofNat) (base:=w.heap.size) (k:=1) (bytes:=8) (E:=3) el_int rfl (.tmp 34) (.tmp 36) rfl rfl rfl (HO.out.bel HB2.out) ((bitsTo q.fs n:Nat):Int) rfl hlen (Nat.le_trans hb.size HB2.out.size) ?_;intro vq w10 o10 k10;have O10:=hide o10;have K10:=hide k10;clear o10 k10)
     refine⟨⟨k+1,_,rfl,by omega,by go_num,hide ?_,((hb.trans (HB2.out.mono hb.size)).trans (K10.out.below (fun b hb=>hb) (Nat.le_trans hb.size HB2.out.size)))⟩,by simp[intOf];omega⟩
     rw[take_snoc Hqx.out,List.map_append,List.map_append]
     have e:bitsF q.fs=bitsTo q.fs n:=by unfold bitsF;rw[←Hn.out]
     show Own _ _ _ _ _ _ (_ ++ [((bitsF q.fs:Nat):Int)])
     rw[e]
     exact O10.out
  ·have hkr:rs.length≤k:=by have:=Her.out;omega
   go_wp2_with fail
   go_ret
   have h:=HO.out
   rw[List.take_of_length_le hkr] at h
   exact⟨_,rfl,h,hb⟩
end Go.Proofs.YtiioegopckoldaaGreatDoor
namespace Go.Proofs.YtiioegopckoldaaGreatDoor
open Go.RowKit Go.Shelf
section
variable {α:Type} {cells:α→List Value} {P:Program} {T E:TypeId} {k bytes:Nat} {w:World} {base g:Nat} {B:Nat} {A:Option Addr} {n c:Nat} {ys:List α}
theorem ElLaw.fresh (L:ElLaw P T E k bytes cells) (hown:Own w base E k cells (.slice (some ⟨g,0,none⟩) 0 0) []) (hr:Rd w B cells A ys) (hn:ys.length=n) (hlen:n≤1000000) (hbase:base≤w.heap.size) (ty:TypeId) :
 ∃v' w',(Builtin.append_ #[T,T] ty #[.slice (some ⟨g,0,none⟩) 0 0,.slice A n c]).run P w= .ok v' w'∧Own w' base E k cells v' ys∧Below w.heap.size w w'∧(v'.ownBlock=some g∨v'.ownBlock=some w.heap.size):=by
 obtain⟨v',w',hrun,ho,hg,hat⟩:=L.append (c:=c) hown hr hn (by simpa using hlen) hbase ty
 rw[List.nil_append] at ho
 refine⟨v',w',hrun,ho,?_,hat⟩
 subst hn
 obtain⟨i,z,hi,hz,hsize,hby,hzs⟩:=L.info
 by_cases h0:ys.length=0
 ·
  have hrun2:(Builtin.append_ #[T,T] ty #[.slice (some ⟨g,0,none⟩) 0 0,.slice A ys.length c]).run P w= .ok (.slice (some ⟨g,0,none⟩) 0 0) w:=by
   rw[h0]
   cases A <;> simp[Builtin.append_,run_underlying L.ty,sizeOf,typeInfo,hi,Builtin.lenOf,Builtin.firstCells,loadCells,loadCellsFrom,storeCells]
  rw[hrun2] at hrun
  injection hrun with _ hw
  subst hw
  exact Below.refl _ _
 ·obtain⟨b,off,rfl,_,hc⟩:=hr (by omega)
  have hcells:∀j u,(ys.flatMap cells)[j]?=some u→w.cell? ((⟨b,off,none⟩:Addr).add j)=some u:=by
   intro j u hu
   have hadd:(⟨b,off,none⟩:Addr).add j=⟨b,off+j,none⟩:=by unfold Addr.add;split <;> simp_all
   rw[hadd]
   exact hc j u hu
  have hb1:(0+ys.length)*bytes≤140737488355328:=by
   have:(0+ys.length)*bytes≤1000000*1000:=Nat.mul_le_mul (by omega) L.small
   omega
  have hrun2:=run_append_grow (P:=P) w T ty E i z L.ty hi hz ⟨g,0,none⟩ 0 0 [] (by simp) (by intro j u hu;simp at hu) ⟨b,off,none⟩ ys.length c (ys.flatMap cells) (by rw[hsize];exact flat_len L.len ys) hcells (by omega) (by omega) (growslice_fits (by omega) (by rw[hby];exact hb1))
  rw[hrun2] at hrun
  injection hrun with _ hw
  rw[←hw]
  exact Below.alloc (a:=w) (w:=w.drew) ⟨rfl,rfl,rfl,Nat.le_refl _,fun _ _=>rfl⟩ (Nat.le_refl _) _
end
end Go.Proofs.YtiioegopckoldaaGreatDoor
namespace Go.Proofs.YtiioegopckoldaaGreatDoor
open Go.RowKit Go.Shelf
attribute [local go_sem] ite_max
def bcell (b:Bool):List Value:=[.bool b]
theorem bcell_len (b:Bool):(bcell b).length=1:=rfl
theorem Rd.bool {w:World} {B:Nat} {A:Option Addr} {xs:List Bool} (h:Rd w B bcell A xs) {i:Nat} (hi:i < xs.length) :
 ∃b off x,A=some ⟨b,off,none⟩∧b < B∧xs[i]?=some x∧w.cell? ⟨b,off+i,none⟩=some (.bool x):=by
 obtain⟨b,off,e,hB,hc⟩:=h (by omega)
 have hx:xs[i]?=some xs[i]:=List.getElem?_eq_getElem hi
 have h0:=hc _ _ (flat_get bcell_len hx (j:=0) (by omega))
 rw[Nat.mul_one,Nat.add_zero] at h0
 exact⟨b,off,_,e,hB,hx,h0⟩
structure Trt (pr:List Int) (r:Nat) (o:List Nat) (us:List Bool):Prop where
 ul:us.length=r
 u:∀i,i < r→(us.getD i false=true↔i∈o)
 nd:o.Nodup
 lt:∀i∈o,i < r
 pw:o.Pairwise (fun i j=>pr.getD j 0≤pr.getD i 0)
 rest:∀i∈o,∀j,j < r→j∉o→pr.getD j 0≤pr.getD i 0
theorem getD_setB {xs:List Bool} {i j:Nat} {v:Bool} (hi:i < xs.length):(xs.set i v).getD j false=if j=i then v else xs.getD j false:=by
 rw[List.getD_eq_getElem?_getD]
 by_cases h:j=i
 ·rw[if_pos h,h,List.getElem?_set_self hi];rfl
 ·rw[if_neg h,List.getElem?_set_ne (fun e=>h e.symm),List.getD_eq_getElem?_getD]
theorem Trt.snoc {pr:List Int} {r a:Nat} {o:List Nat} {us:List Bool} (h:Trt pr r o us) (ha:a < r) (hn:a∉o) (hm:∀j,j < r→j∉o→pr.getD j 0≤pr.getD a 0):Trt pr r (o ++ [a]) (us.set a true):=by
 refine⟨by rw[List.length_set];exact h.ul,fun i hi=>?_,?_,fun i hi=>?_,?_,fun i hi j hj hnj=>?_⟩
 ·rw[getD_setB (by rw[h.ul];exact ha),List.mem_append,List.mem_singleton]
  by_cases e:i=a
  ·rw[if_pos e];simp[e]
  ·rw[if_neg e,h.u i hi];simp[e]
 ·exact List.nodup_append.2 ⟨h.nd,by simp,fun x hx y hy=>by rw[List.mem_singleton] at hy;rw[hy];exact fun e=>hn (e ▸ hx)⟩
 ·rw[List.mem_append,List.mem_singleton] at hi
  rcases hi with hi | rfl
  ·exact h.lt i hi
  ·exact ha
 ·rw[List.pairwise_append]
  exact⟨h.pw,by simp,fun x hx y hy=>by rw[List.mem_singleton] at hy;rw[hy];exact h.rest x hx a ha hn⟩
 ·rw[List.mem_append,List.mem_singleton] at hi hnj
  rw[not_or] at hnj
  rcases hi with hi | rfl
  ·exact h.rest i hi j hj hnj.1
  ·exact hm j hj hnj.1
def AtIs (pr:List Int) (o:List Nat) (k:Nat) (a:Int):Prop:=
 (a= -1∧∀j,j < k→j∈o)∨∃m:Nat,a=m∧m < k∧m∉o∧∀j,j < k→j∉o→pr.getD j 0≤pr.getD m 0
theorem Own.put1 {w:World} {base:Nat} {e:TypeId} {g n cap:Nat} {xs:List Int} (h:Own w base e 1 icell (.slice (some ⟨g,0,none⟩) n cap) xs) {i:Nat} (hi:i < xs.length) (hn:n=xs.length) (y:Int) :
 Own (w.setCell ⟨g,i,none⟩ (.int .i64 y)) base e 1 icell (.slice (some ⟨g,0,none⟩) n cap) (xs.set i y)∧w.cell? ⟨g,i,none⟩=some (.int .i64 (xs.getD i 0))∧w.frozen? ⟨g,i,none⟩=false:=by
 have hx:xs[i]?=some xs[i]:=List.getElem?_eq_getElem hi
 obtain⟨h1,_,h3⟩:=h.put_ icell_len hx (j:=0) (x':=y) (u:= .int .i64 y) (by omega) rfl hn
 rw[Nat.mul_one,Nat.add_zero] at h1 h3
 refine⟨h1,?_,h3⟩
 subst hn
 have h4:=World.ownsRow.cellAt h i (by rw[Nat.mul_one];exact hi)
 rw[h4]
 have h5:=flat_get icell_len hx (j:=0) (by omega)
 rw[Nat.mul_one,Nat.add_zero] at h5
 rw[h5,List.getD_eq_getElem?_getD,hx];rfl
theorem AtIs.used {pr:List Int} {o:List Nat} {k:Nat} {a:Int} (h:AtIs pr o k a) (hk:k∈o):AtIs pr o (k+1) a:=by
 rcases h with⟨h1,h2⟩ | ⟨m,h1,h2,h3,h4⟩
 ·exact .inl ⟨h1,fun j hj=>by
   by_cases e:j=k
   ·rw[e];exact hk
   ·exact h2 j (by omega)⟩
 ·exact .inr ⟨m,h1,by omega,h3,fun j hj hn=>by
   by_cases e:j=k
   ·rw[e] at hn;exact absurd hk hn
   ·exact h4 j (by omega) hn⟩
theorem AtIs.first {pr:List Int} {o:List Nat} {k:Nat} {a:Int} (h:AtIs pr o k a) (hk:k∉o) (ha:a < 0):AtIs pr o (k+1) (k:Int):=by
 rcases h with⟨h1,h2⟩ | ⟨m,h1,h2,h3,h4⟩
 ·exact .inr ⟨k,rfl,by omega,hk,fun j hj hn=>by
   by_cases e:j=k
   ·rw[e];exact Int.le_refl _
   ·exact absurd (h2 j (by omega)) hn⟩
 ·omega
theorem AtIs.stay {pr:List Int} {o:List Nat} {k m:Nat} (h:AtIs pr o k (m:Int)) (hp:¬pr.getD m 0 < pr.getD k 0):AtIs pr o (k+1) (m:Int):=by
 rcases h with⟨h1,h2⟩ | ⟨m',h1,h2,h3,h4⟩
 ·omega
 ·obtain rfl:m=m':=by omega
  exact .inr ⟨m,rfl,by omega,h3,fun j hj hn=>by
   by_cases e:j=k
   ·rw[e];omega
   ·exact h4 j (by omega) hn⟩
theorem Rd.nat' {w:World} {B b o:Nat} {xs:List Nat} (h:Rd w B icell (some ⟨b,o,none⟩) (xs.map Int.ofNat)) {i:Nat} (hi:i < xs.length):∃x,xs[i]?=some x∧b < B∧w.cell? ⟨b,o+i,none⟩=some (.int .i64 (x:Int)):=by
 obtain⟨b7,off,y,hA,hql,hyk,c0⟩:=h.int (i:=i) (by rw[List.length_map];exact hi)
 injection hA with hA
 injection hA with hA1 hA2 _
 subst hA1 hA2
 rw[List.getElem?_map] at hyk
 cases hh:xs[i]? with
 | none=>rw[hh] at hyk;cases hyk
 | some s=>rw[hh] at hyk;cases hyk;exact⟨s,rfl,hql,c0⟩
end Go.Proofs.YtiioegopckoldaaGreatDoor
