/- lemmas for topFed_holds: TF. No conditions. -/
import Derived.Test.YtiioegopckoldaaGreatDoorK42
import Derived.Test.YtiioegopckoldaaGreatDoorK10
import Derived.Test.YtiioegopckoldaaGreatDoorK01
import Derived.Deep.Cut
import Derived.BigQuiet
set_option linter.unusedVariables false
set_option linter.unusedSimpArgs false
namespace Go.Proofs.YtiioegopckoldaaGreatDoor
open Go.RowKit Go.Shelf
attribute [local go_sem] ite_min ite_max
theorem RunG.some_ {g:List Rc} {s:Sp} (hg:gOk g=true) (hs:s.fine 1000000):∀k,k≤g.length→∃v,RunG g s k v
 | 0,_=>⟨s.lo,RunG.start hs ⟨Int.le_refl _,hs.2.1⟩⟩
 | k + 1, hk => by
   obtain⟨v,h⟩:=RunG.some_ hg hs k (by omega)
   have hx:g[k]?=some g[k]:=List.getElem?_eq_getElem (by omega)
   have hf:=gOk_fine hg g[k] (List.getElem_mem (by omega))
   exact⟨_,h.next hx hf ⟨Int.le_refl _,hf.1.2.1⟩ ⟨Int.le_refl _,hf.2.1.2.1⟩ ⟨Int.le_refl _,hf.2.2.2.1⟩⟩
set_option maxHeartbeats 40000000 in
set_option maxRecDepth 100000 in
theorem topfed_walk (A Ac Af A1 A2 B:Option Addr) (n c nc cc nf cf m cm r c2 nb cb:Nat) (sl sh dry days:Int) (g:List Rc) (cs:List Ca) (fs:List Int) (ss:List So) (rs:List Rr) (bys:List Nat) (w:World) (hnv:Nv w) (hn:n=g.length) (hm:n≤9223372036854775807) (hx:Rd w w.heap.size Rc.cells A g)
 (hnc:nc=cs.length) (hnf:nf=fs.length) (hcs:Rd w w.heap.size Ca.cells Ac cs) (hfs:Rd w w.heap.size icell Af fs) (hms:m=ss.length) (hms2:m≤9223372036854775807) (hss:Rd w w.heap.size So.cells A1 ss) (hR:RsAt0 w A2 r rs) (hr2:r≤9223372036854775807) (hnb:nb=bys.length) (hnb2:nb≤9223372036854775807) (hby:Rd w w.heap.size u32cell B bys) (h32:∀x∈bys,x≤4294967295) :
 Calls Tryz.prog 3 #[.slice A n c,.agg #[.int .i64 sl,.int .i64 sh],.agg #[.slice Ac nc cc,.slice Af nf cf,.int .i64 dry,.int .i64 days],.slice A1 m cm,.slice A2 r c2,.slice B nb cb] w fun e w'=>e= .returned (.bool true)∧Below w.heap.size w w':=by
 obtain⟨b6,v1,e6,ev1,hx6,hb1,hz1⟩:=mk_bx w #[.int .i64 sl,.int .i64 sh] 24
 obtain⟨b7,w1,e7,ev2,hx7,hb2,hz2⟩:=mk_bx v1 #[.slice Ac nc cc,.slice Af nf cf,.int .i64 dry,.int .i64 days] 28
 have e67:b6+1=b7:=by have:=e7.out;omega
 have hB1:=hb1.trans (hb2.mono hb1.size)
 have X6:=hide (hx6.bel hb2);have X7:=hide hx7
 have Hx:=hide (hx.bel hB1);have Hcs:=hide (hcs.bel hB1);have Hfs:=hide (hfs.bel hB1);have Rs:=hide (hss.bel hB1);have RR:=hide (hR.bel hB1);have Hby:=hide (hby.bel hB1)
 have Hn:=hide hn;have Hnc:=hide hnc;have Hnf:=hide hnf;have Hms:=hide hms;have Hnb:=hide hnb;have H32:=hide h32;have HB1:=hide hB1
 have Hnv:=hide (hnv.below hB1)
 clear hn hx hnc hnf hcs hfs hms hss hR hnb hby h32 hx6 hx7 hb1 hb2 hz1 hz2 hB1 hnv
 go_enter Tryz.func3,Tryz.ntmps3
 go_wp2_with fail
 rw[ev1.out,e6.out,e67,ev2.out]
 refine(alive06_any _ Hnv.out).mono ?_
 rintro e w2 ⟨rfl,hb2⟩
 have H2:=hide hb2
 clear hb2
 by_cases h20:20 < n
 ·have d0:decide (20 < (n:Int))=true:=decide_eq_true (by omega)
  go_wp2_with fail
  go_returns
  exact⟨rfl,HB1.out.trans (H2.out.mono HB1.out.size)⟩
 have hn20:n≤20:=by omega
 go_wp2_with fail
 refine(rcheck_any A g n c _ Hn.out hm (Hx.out.bel H2.out)).mono ?_
 rintro e w3 ⟨rfl,hb3⟩
 have H3:=hide (H2.out.trans (hb3.mono H2.out.size))
 obtain⟨q0,q1,_,_⟩:=(X6.out.bel H3.out).w2
 clear hb3
 cases hg:gOk g
 ·have Hgc:Hid (gCheck g=20):=hide (by unfold gCheck;rw[hg];rfl)
  rw[Hgc.out]
  clear hg q0 q1
  go_wp2_with fail
  go_returns
  exact⟨rfl,HB1.out.trans (H3.out.mono HB1.out.size)⟩
 have Hgc:Hid (gCheck g=0):=hide (by unfold gCheck;rw[hg];rfl)
 have Hg:=hide hg
 rw[Hgc.out]
 clear hg
 go_wp2_with fail
 refine(spanned_any _ _ _ _ _).mono ?_
 rintro e w4 ⟨rfl,hb4⟩
 have H4:=hide (H3.out.trans (hb4.mono H3.out.size))
 clear hb4 q0 q1
 cases hso:Sp.ok 0 1000000 ⟨sl,sh⟩
 ·clear hso
  go_wp2_with fail
  go_returns
  exact⟨rfl,HB1.out.trans (H4.out.mono HB1.out.size)⟩
 have Hso:=hide hso
 have hs1:Sp.fine 1000000 ⟨sl,sh⟩:=by
  simp only[Sp.ok,Bool.and_eq_true,decide_eq_true_eq] at hso
  exact⟨hso.1.1,hso.1.2,hso.2⟩
 have hs2:0≤sl∧sl≤sh∧sh≤1000000:=hs1
 obtain⟨v0,hv0⟩:=RunG.some_ Hg.out hs1 g.length (Nat.le_refl _)
 obtain⟨l,a,b,t1,t2,t3,t4,_,_,t7⟩:=gal_told Hg.out Hso.out hv0
 rw[←Hn.out] at t3 t4
 have T1:=hide t1;have T2:=hide t2;have T3:=hide t3;have T4:=hide t4;have T7:=hide t7
 have Hs1:=hide hs1
 obtain⟨q0,q1,_,_⟩:=(X6.out.bel H4.out).w2
 clear hso t1 t2 t3 t4 t7 hv0 hs1
 go_wp2_with fail
 refine(gflows_any A none g ⟨sl,sh⟩ [] n c 0 0 w4 Hn.out hm (Hx.out.bel H4.out) rfl (by omega) (Rd.nil _ _ _ _)).mono ?_
 rintro e w7 ⟨vf,vl,rfl,o1,_,hb7⟩
 rw[T2.out] at o1
 rw[T1.out]
 have H7:=hide (H4.out.trans (hb7.mono H4.out.size))
 obtain⟨Ax,cx,rfl,rfl_⟩:=o1.rdn (n+1) T3.out
 obtain⟨bf,of,y0,y1,hAf,hbf,hxf,f0,f1⟩:=rfl_.sp (i:=n) (by rw[T3.out];omega)
 rw[T4.out] at hxf
 injection hxf with hxf
 injection hxf with hy0 hy1
 subst hy0 hy1
 have Hf0:=hide (show w7.cell? ⟨bf,of+n*2,none⟩=some (.int .i64 a)∧w7.cell? ⟨bf,of+n*2+1,none⟩=some (.int .i64 b)∧bf < w7.heap.size from⟨f0,f1,hbf⟩)
 subst hAf
 have kn:IntKind.i64.wrap ((n:Int)+1)=(n:Int)+1:=wrapI (by omega)
 have kq:(((n:Int)+1 != (n:Int)+1))=false:=by simp
 have kq2:((((n+1:Nat):Int)) != (n:Int)+1)=false:=by simp
 have hn1:(n:Int) < (n:Int)+1:=by omega
 clear o1 rfl_ f0 f1 hbf hb7 q0 q1
 go_upto_region 9 with fail
 refine wp_region_held_drew (S:=(fun W=>Below w7.heap.size w7 W)) (by kernel_rfl) (by(try dsimp only);exact(Below.refl _ _).drew) (fun hHeld=>?_)
 generalize World.drew w7=Wd9 at hHeld ⊢
 have hbc:=Below.refl Wd9.heap.size Wd9
 refine tkH 0 ?_ rfl (Or.inl ⟨by rfl,?_⟩) hHeld ?_
 rotate_left
 ·(intro w hSw;(try dsimp only at hSw);obtain⟨p0,p1,p2,p3⟩:=(X7.out.bel (H7.out.trans (hSw.mono H7.out.size))).at_.c4;have f0:=(hSw.cell (p:=⟨bf,of+n*2,none⟩) Hf0.out.2.2).trans Hf0.out.1;have f1:=(hSw.cell (p:=⟨bf,of+n*2+1,none⟩) Hf0.out.2.2).trans Hf0.out.2.1;go_simp;try(with_reducible rfl))
 try simp only[Act.put,tl1,tl2,tl3]
 iterate 6
  refine tkHl [1,2,3,4,6,7] ?_ rfl rfl (Or.inl ⟨by rfl,?_⟩) hHeld ?_
  rotate_left
  ·(intro w _;go_simp;try(with_reducible rfl))
  try simp only[Act.put,tl1,tl2,tl3]
 refine tkH 5 ?_ rfl (Or.inl ⟨by rfl,?_⟩) hHeld ?_
 rotate_left
 ·(intro w hSw;(try dsimp only at hSw);obtain⟨p0,p1,p2,p3⟩:=(X7.out.bel (H7.out.trans (hSw.mono H7.out.size))).at_.c4;have f0:=(hSw.cell (p:=⟨bf,of+n*2,none⟩) Hf0.out.2.2).trans Hf0.out.1;have f1:=(hSw.cell (p:=⟨bf,of+n*2+1,none⟩) Hf0.out.2.2).trans Hf0.out.2.1;go_simp;try(with_reducible rfl))
 try simp only[Act.put,tl1,tl2,tl3]
 refine wpAnyH_ready (rs:=[8]) (by kernel_rfl) (by simp) ?_
 refine AllReadyH.cons (o:=⟨_,_,_,_,_,_⟩) rfl (fun K hK=>?_) AllReadyH.nil
 go_simp
 refine(planned_any Ac Af A1 A2 nc _ nf _ m _ r _ dry days a b cs fs ss rs _ Hnc.out Hnf.out ((Hcs.out.bel H7.out).bel hHeld) ((Hfs.out.bel H7.out).bel hHeld) Hms.out hms2 ((Rs.out.bel H7.out).bel hHeld) ((RR.out.bel H7.out).bel hHeld) hr2).mono ?_
 rintro e V74 ⟨p1,p2,p3,p4,rfl,hpl0,hb⟩
 have hpl:=fun h=>(hpl0 h).imp fun o ho=>And.intro ho.1 (ho.2.mono hHeld.size)
 clear hpl0
 go_wp2_with fail
 have hHeldN:=hHeld.trans (hb.mono hHeld.size)
 have hbc:=hbc.trans (hb.mono hbc.size)
 refine hK.out _ _ ?_ (fun hHeld2=>?_)
 ·exact hHeldN
 clear hK K hHeld hHeldN hb;have hHeld:=hHeld2;clear hHeld2
 try simp only[Act.put,tl1,tl2,tl3]
 iterate 9
  refine tkHl [9,10,11,12,13,14,15,16,17] ?_ rfl rfl (Or.inl ⟨by rfl,?_⟩) hHeld ?_
  rotate_left
  ·(intro w _;go_simp;try(with_reducible rfl))
  try simp only[Act.put,tl1,tl2,tl3]
 refine wpAnyH_done (by kernel_rfl) ?_ _
 have H8:=hide (H7.out.trans (hHeld.mono H7.out.size))
 obtain⟨w8,rfl⟩:∃w8,w8=V74:=⟨V74,rfl⟩
 clear hHeld hbc
 cases p4
 ·clear hpl
  go_wp2_with fail
  go_returns
  exact⟨rfl,HB1.out.trans (H8.out.mono HB1.out.size)⟩
 obtain⟨out,hok,ho⟩:=hpl rfl
 have Hok:=hide hok
 obtain⟨nu,hnu⟩:∃nu,nu=(fedU out ss.length).1.length:=⟨_,rfl⟩
 obtain⟨Au,cu,rfl,ru0⟩:=ho.rdn nu hnu.symm
 have hnu8:nu≤60:=by rw[hnu];have:=fedU_len out ss.length;have:=hok.n8;omega
 have Hnu:=hide hnu
 have hm8:m≤8:=by rw[Hms.out];exact hok.n8
 have Ru:=hide ru0
 have rby:=Hby.out.bel H8.out
 clear hok hpl ho hnu ru0
 go_upto_region 12 with fail
 refine wp_region_held_drew (S:=(fun W=>Below w8.heap.size w8 W)) (by kernel_rfl) (by(try dsimp only);exact(Below.refl _ _).drew) (fun hHeld=>?_)
 generalize World.drew w8=Wd12 at hHeld ⊢
 have rby:=rby.bel hHeld
 have hbc:=Below.refl Wd12.heap.size Wd12
 refine tkH 0 ?_ rfl (Or.inl ⟨by rfl,?_⟩) hHeld ?_
 rotate_left
 ·(intro w hSw;(try dsimp only at hSw);obtain⟨q0,q1,_,_⟩:=(X6.out.bel (H8.out.trans (hSw.mono H8.out.size))).w2;go_simp;try(with_reducible rfl))
 try simp only[Act.put,tl1,tl2,tl3]
 refine tkH 1 ?_ rfl (Or.inl ⟨by rfl,?_⟩) hHeld ?_
 rotate_left
 ·(intro w _;go_simp;try(with_reducible rfl))
 try simp only[Act.put,tl1,tl2,tl3]
 refine wpAnyH_ready (rs:=[2]) (by kernel_rfl) (by simp) ?_
 refine AllReadyH.cons (o:=⟨_,_,_,_,_,_⟩) rfl (fun K hK=>?_) AllReadyH.nil
 go_simp
 refine(tnth_any _ _ _ bys _ _ Hnb.out H32.out rby hnb2 (by omega) (by omega)).mono ?_
 rintro e V84 ⟨m84,rfl,hm84,hb⟩
 go_wp2_with fail
 have hHeldN:=hHeld.trans (hb.mono hHeld.size)
 have rby:=rby.bel hb
 have hbc:=hbc.trans (hb.mono hbc.size)
 refine hK.out _ _ ?_ (fun hHeld2=>?_)
 ·exact hHeldN
 clear hK K hHeld hHeldN hb;have hHeld:=hHeld2;clear hHeld2
 try simp only[Act.put,tl1,tl2,tl3]
 refine wpAnyH_ready (rs:=[3]) (by kernel_rfl) (by simp) ?_
 refine AllReadyH.cons (o:=⟨_,_,_,_,_,_⟩) rfl (fun K hK=>?_) AllReadyH.nil
 go_simp
 refine(tamong_any _ _ _ _ hs2.1 hs2.2.1 (by omega) hm84).mono ?_
 rintro e V85 ⟨r85,rfl,⟨hl85,hu85⟩,hb⟩
 go_wp2_with fail
 have hHeldN:=hHeld.trans (hb.mono hHeld.size)
 have rby:=rby.bel hb
 have hbc:=hbc.trans (hb.mono hbc.size)
 refine hK.out _ _ ?_ (fun hHeld2=>?_)
 ·exact hHeldN
 clear hK K hHeld hHeldN hb;have hHeld:=hHeld2;clear hHeld2
 try simp only[Act.put,tl1,tl2,tl3]
 refine tkH 4 ?_ rfl (Or.inl ⟨by rfl,?_⟩) hHeld ?_
 rotate_left
 ·(intro w _;go_simp;try(with_reducible rfl))
 try simp only[Act.put,tl1,tl2,tl3]
 refine wpAnyH_done (by kernel_rfl) ?_ _
 have H9:=hide (H8.out.trans (hHeld.mono H8.out.size))
 have HR0:=hide (RunG.start (g:=g) Hs1.out (show inS r85 ⟨sl,sh⟩ from⟨hl85,hu85⟩))
 obtain⟨w9,rfl⟩:∃w9,w9=V85:=⟨V85,rfl⟩
 have hcb0:0≤r85∧r85≤2000000:=by omega
 have Ru9:=hide (Ru.out.bel hHeld)
 clear rby hHeld hbc hl85 hu85 hm84 Ru
 go_wp2_with fail
 go_loopw [21,88] (fun a i wr=>∃(k:Nat) (cur:Int),a= .int .i64 cur∧i= .int .i64 k∧k≤n∧(0≤cur∧cur≤2000000)∧Hid (RunG g ⟨sl,sh⟩ k cur)∧Below w9.heap.size w9 wr) (fun _ i _=>n-(intOf i).toNat)
 case atStart=>exact⟨0,r85,rfl,rfl,by omega,hcb0,HR0,Below.refl _ _⟩
 case round=>as_aux_lemma=>
  obtain⟨k,cur,rfl,rfl,hk,⟨hc0,hc1⟩,HRn,hb⟩:=hrel
  by_cases hlt:k < n
  ·have ik:(k:Int) < (n:Int):=by omega
   have H10:=hide (H9.out.trans (hb.mono H9.out.size))
   obtain⟨ba,offa,a0,a1,a2,a3,a4,a5,hAa,hba,hxk,d0,d1,d2,d3,d4,d5⟩:=(Hx.out.bel H10.out).rc (i:=k) (by have:=Hn.out;omega)
   have hrf:=gOk_fine Hg.out _ (List.mem_of_getElem? hxk)
   obtain⟨⟨g1,g2,g3⟩,⟨g4,g5,g6⟩,⟨g7,g8,g9⟩⟩:=hrf
   simp only at g1 g2 g3 g4 g5 g6 g7 g8 g9
   obtain⟨b14,w14,e14,ew14,hx14,hb14,hz14⟩:=mk_bx wr #[.int .i64 a0,.int .i64 a1,.int .i64 a2,.int .i64 a3,.int .i64 a4,.int .i64 a5] 47
   have Hxk:=hide hxk;have Hb:=hide (hb.trans (hb14.mono hb.size));have X14:=hide hx14
   have rby:=(Hby.out.bel H10.out).bel hb14
   have k0:IntKind.i64.wrap (3*(k:Int))=3*(k:Int):=wrapI (by omega)
   have k01:IntKind.i64.wrap (3*(k:Int)+1)=3*(k:Int)+1:=wrapI (by omega)
   have k02:IntKind.i64.wrap (3*(k:Int)+2)=3*(k:Int)+2:=wrapI (by omega)
   have k03:IntKind.i64.wrap (3*(k:Int)+3)=3*(k:Int)+3:=wrapI (by omega)
   subst hAa
   clear hxk hb hz14 hx14 hb14 hba
   go_upto_region 16 with fail
   rw[ew14.out,e14.out]
   clear d0 d1 d2 d3 d4 d5
   refine wp_region_held_drew (S:=(fun W=>Below w14.heap.size w14 W)) (by kernel_rfl) (by(try dsimp only);exact(Below.refl _ _).drew) (fun hHeld=>?_)
   generalize World.drew w14=Wd16 at hHeld ⊢
   have rby:=rby.bel hHeld
   have hbc:=Below.refl Wd16.heap.size Wd16
   iterate 16
    refine tkHl [0,1,3,4,5,6,10,12,13,14,15,20,22,23,24,25] ?_ rfl rfl (Or.inl ⟨by rfl,?_⟩) hHeld ?_
    rotate_left
    ·(intro w _;go_simp;try(with_reducible rfl))
    try simp only[Act.put,tl1,tl2,tl3]
   iterate 3
    refine tkHl [2,11,21] ?_ rfl rfl (Or.inl ⟨by rfl,?_⟩) hHeld ?_
    rotate_left
    ·(intro w hSw;(try dsimp only at hSw);obtain⟨z0,z1,z2,z3,z4,z5⟩:=(X14.out.bel hSw).at_.c6;go_simp;try(with_reducible rfl))
    try simp only[Act.put,tl1,tl2,tl3]
   refine wpAnyH_ready (rs:=[7]) (by kernel_rfl) (by simp) ?_
   refine AllReadyH.cons (o:=⟨_,_,_,_,_,_⟩) rfl (fun K hK=>?_) AllReadyH.nil
   go_simp
   refine(tnth_any _ _ _ bys _ _ Hnb.out H32.out rby hnb2 (by omega) (by omega)).mono ?_
   rintro e V100 ⟨m100,rfl,hm100,hb⟩
   go_wp2_with fail
   have hHeldN:=hHeld.trans (hb.mono hHeld.size)
   have rby:=rby.bel hb
   have hbc:=hbc.trans (hb.mono hbc.size)
   refine hK.out _ _ ?_ (fun hHeld2=>?_)
   ·exact hHeldN
   clear hK K hHeld hHeldN hb;have hHeld:=hHeld2;clear hHeld2
   try simp only[Act.put,tl1,tl2,tl3]
   refine wpAnyH_ready (rs:=[8]) (by kernel_rfl) (by simp) ?_
   refine AllReadyH.cons (o:=⟨_,_,_,_,_,_⟩) rfl (fun K hK=>?_) AllReadyH.nil
   go_simp
   refine(tamong_any _ _ _ _ g1 g2 (by omega) hm100).mono ?_
   rintro e V101 ⟨r101,rfl,⟨hl101,hu101⟩,hb⟩
   go_wp2_with fail
   have hHeldN:=hHeld.trans (hb.mono hHeld.size)
   have rby:=rby.bel hb
   have hbc:=hbc.trans (hb.mono hbc.size)
   refine hK.out _ _ ?_ (fun hHeld2=>?_)
   ·exact hHeldN
   clear hK K hHeld hHeldN hb;have hHeld:=hHeld2;clear hHeld2
   try simp only[Act.put,tl1,tl2,tl3]
   refine tkH 9 ?_ rfl (Or.inl ⟨by rfl,?_⟩) hHeld ?_
   rotate_left
   ·(intro w _;go_simp;try(with_reducible rfl))
   try simp only[Act.put,tl1,tl2,tl3]
   refine wpAnyH_ready (rs:=[16]) (by kernel_rfl) (by simp) ?_
   refine AllReadyH.cons (o:=⟨_,_,_,_,_,_⟩) rfl (fun K hK=>?_) AllReadyH.nil
   go_simp
   refine(tnth_any _ _ _ bys _ _ Hnb.out H32.out rby hnb2 (by omega) (by omega)).mono ?_
   rintro e V109 ⟨m109,rfl,hm109,hb⟩
   go_wp2_with fail
   have hHeldN:=hHeld.trans (hb.mono hHeld.size)
   have rby:=rby.bel hb
   have hbc:=hbc.trans (hb.mono hbc.size)
   refine hK.out _ _ ?_ (fun hHeld2=>?_)
   ·exact hHeldN
   clear hK K hHeld hHeldN hb;have hHeld:=hHeld2;clear hHeld2
   try simp only[Act.put,tl1,tl2,tl3]
   refine wpAnyH_ready (rs:=[17]) (by kernel_rfl) (by simp) ?_
   refine AllReadyH.cons (o:=⟨_,_,_,_,_,_⟩) rfl (fun K hK=>?_) AllReadyH.nil
   go_simp
   refine(tamong_any _ _ _ _ g4 g5 (by omega) hm109).mono ?_
   rintro e V110 ⟨r110,rfl,⟨hl110,hu110⟩,hb⟩
   go_wp2_with fail
   have hHeldN:=hHeld.trans (hb.mono hHeld.size)
   have rby:=rby.bel hb
   have hbc:=hbc.trans (hb.mono hbc.size)
   refine hK.out _ _ ?_ (fun hHeld2=>?_)
   ·exact hHeldN
   clear hK K hHeld hHeldN hb;have hHeld:=hHeld2;clear hHeld2
   try simp only[Act.put,tl1,tl2,tl3]
   iterate 2
    refine tkHl [18,19] ?_ rfl rfl (Or.inl ⟨by rfl,?_⟩) hHeld ?_
    rotate_left
    ·(intro w _;go_simp;try(with_reducible rfl))
    try simp only[Act.put,tl1,tl2,tl3]
   refine wpAnyH_ready (rs:=[26]) (by kernel_rfl) (by simp) ?_
   refine AllReadyH.cons (o:=⟨_,_,_,_,_,_⟩) rfl (fun K hK=>?_) AllReadyH.nil
   go_simp
   refine(tnth_any _ _ _ bys _ _ Hnb.out H32.out rby hnb2 (by omega) (by omega)).mono ?_
   rintro e V119 ⟨m119,rfl,hm119,hb⟩
   go_wp2_with fail
   have hHeldN:=hHeld.trans (hb.mono hHeld.size)
   have rby:=rby.bel hb
   have hbc:=hbc.trans (hb.mono hbc.size)
   refine hK.out _ _ ?_ (fun hHeld2=>?_)
   ·exact hHeldN
   clear hK K hHeld hHeldN hb;have hHeld:=hHeld2;clear hHeld2
   try simp only[Act.put,tl1,tl2,tl3]
   refine wpAnyH_ready (rs:=[27]) (by kernel_rfl) (by simp) ?_
   refine AllReadyH.cons (o:=⟨_,_,_,_,_,_⟩) rfl (fun K hK=>?_) AllReadyH.nil
   go_simp
   refine(tamong_any _ _ _ _ g7 g8 (by omega) hm119).mono ?_
   rintro e V120 ⟨r120,rfl,⟨hl120,hu120⟩,hb⟩
   have k1:IntKind.i64.wrap (min cur r101-r110)=min cur r101-r110:=wrapI (by omega)
   have k2:IntKind.i64.wrap (max 0 (min cur r101-r110)+r120)=max 0 (min cur r101-r110)+r120:=wrapI (by omega)
   go_wp2_with fail
   have hHeldN:=hHeld.trans (hb.mono hHeld.size)
   have rby:=rby.bel hb
   have hbc:=hbc.trans (hb.mono hbc.size)
   refine hK.out _ _ ?_ (fun hHeld2=>?_)
   ·exact hHeldN
   clear hK K hHeld hHeldN hb;have hHeld:=hHeld2;clear hHeld2
   try simp only[Act.put,tl1,tl2,tl3]
   iterate 2
    refine tkHl [28,29] ?_ rfl rfl (Or.inl ⟨by rfl,?_⟩) hHeld ?_
    rotate_left
    ·(intro w _;go_simp;try(with_reducible rfl))
    try simp only[Act.put,tl1,tl2,tl3]
   refine wpAnyH_done (by kernel_rfl) ?_ _
   obtain⟨nx,hnx⟩:∃nx,nx=max 0 (min cur r101-r110)+r120:=⟨_,rfl⟩
   rw[←hnx]
   have hnxb:0≤nx∧nx≤2000000:=by omega
   have hnf:nx=nextF cur r101 r110 r120:=hnx
   have Hrn:=HRn.out.next Hxk.out (gOk_fine Hg.out _ (List.mem_of_getElem? Hxk.out)) (show inS r101 _ from⟨hl101,hu101⟩) (show inS r110 _ from⟨hl110,hu110⟩) (show inS r120 _ from⟨hl120,hu120⟩)
   rw[←hnf] at Hrn
   have HRn':=hide Hrn
   have Hbb:=hide (Hb.out.trans (hHeld.mono Hb.out.size))
   clear Hrn hnf hnx hHeld hbc rby
   go_wp2_with fail
   exact⟨⟨k+1,nx,rfl,by go_num,by omega,hnxb,HRn',Hbb.out⟩,by simp[intOf];omega⟩
  ·obtain rfl:n=k:=by omega
   have H10:=hide (H9.out.trans (hb.mono H9.out.size))
   obtain⟨w10,rfl⟩:∃w10,w10=wr:=⟨wr,rfl⟩
   obtain⟨l',a',b',_,u2,_,u4,u5,u6,_⟩:=gal_told Hg.out Hso.out (by rw[←Hn.out];exact HRn.out)
   have hl':l'=l:=by rw[←u2,T2.out]
   subst hl'
   rw[←Hn.out,T4.out] at u4
   injection u4 with u4
   injection u4 with u7 u8
   subst u7 u8
   have hcc:Sp.ok 0 13000000 ⟨cur,cur⟩=true:=by simp[Sp.ok];omega
   have hfit:=Hok.out
   have Huo:Hid (usesOk (fs.length:Int) days (fedU out ss.length).1=true):=hide (by
    have hfb:=fed_bd (a:=a) (b:=b) hfit.net (fun k s hs=>by
     obtain⟨_,x,_,_,_,_,h1,h2,h3,_⟩:=want_gets hfit.net hfit.sp hfit.le hfit.so hfit.wo hs
     exact⟨x,h1,h2,h3⟩) hfit.wo.len
    have h1:=fedU_ok hfb (days:=days) (k:=ss.length) (by have:=hfit.n8;omega) hfit.fit
    rw[hfit.wo.len,hfit.le] at h1
    rw[hfit.le]
    exact h1)
   have N10:Hid (NetAt w10 Ac Af nc nf cs fs):=hide ⟨Hcs.out.bel H10.out,Hfs.out.bel H10.out,Hnc.out,Hnf.out,by have:=Hnc.out;have:=hfit.c24;omega,by have:=Hnf.out;have:=hfit.c24;omega⟩
   have Hws:Hid (watersS cs fs dry days cur cur (fedU out ss.length).1=(watersK cs fs dry (days*1440) cur cur (fedU out ss.length).1 (fedU out ss.length).1.length,0)):=hide (by unfold watersS;rw[if_pos hfit.net,if_pos hcc,if_pos Huo.out])
   have HL:Hid ((watersK cs fs dry (days*1440) cur cur (fedU out ss.length).1 (fedU out ss.length).1.length).1.length=m):=hide (by rw[(watersK_bd (dry:=dry) hfit.net Huo.out hcc _ (Nat.le_refl _)).2.2.1,←hfit.le];exact Hms.out.symm)
   have Hgt:Hid (∀(k:Nat) (s:So) (nd:Int),ss[k]?=some s→needF s=(nd,0)→nd≤(atS (watersK cs fs dry (days*1440) cur cur (fedU out ss.length).1 (fedU out ss.length).1.length).1 k).lo):=hide fun k s nd hs hnd=>by
    obtain⟨nd',x,e1,_,_,_,e2,_,_,e3⟩:=want_gets hfit.net hfit.sp hfit.le hfit.so hfit.wo hs
    rw[hnd] at e1
    injection e1 with e1 _
    subst e1
    have h1:=fed_gets (dry:=dry) hfit.net hfit.sp hfit.le hfit.so hfit.wo Huo.out hs e2 e3
    have h2:=((waters_in (dry:=dry) hfit.net Huo.out u5 u6 _ (Nat.le_refl _)).2 k).1
    omega
   have ru:=Ru9.out.bel hb
   clear u2 u5 u6 hcc hb hfit
   go_upto_region 18 with fail
   refine wp_region_held_drew (S:=(fun W=>Below w10.heap.size w10 W)) (by kernel_rfl) (by(try dsimp only);exact(Below.refl _ _).drew) (fun hHeld=>?_)
   generalize World.drew w10=Wd18 at hHeld ⊢
   have ru:=ru.bel hHeld
   have hbc:=Below.refl Wd18.heap.size Wd18
   refine tkH 0 ?_ rfl (Or.inl ⟨by rfl,?_⟩) hHeld ?_
   rotate_left
   ·(intro w hSw;(try dsimp only at hSw);obtain⟨p0,p1,p2,p3⟩:=(X7.out.bel (H10.out.trans (hSw.mono H10.out.size))).at_.c4;go_simp;try(with_reducible rfl))
   try simp only[Act.put,tl1,tl2,tl3]
   iterate 3
    refine tkHl [1,2,4] ?_ rfl rfl (Or.inl ⟨by rfl,?_⟩) hHeld ?_
    rotate_left
    ·(intro w _;go_simp;try(with_reducible rfl))
    try simp only[Act.put,tl1,tl2,tl3]
   refine wpAnyH_ready (rs:=[3]) (by kernel_rfl) (by simp) ?_
   refine AllReadyH.cons (o:=⟨_,_,_,_,_,_⟩) rfl (fun K hK=>?_) AllReadyH.nil
   go_simp
   refine(textent_any _ _ _).mono ?_
   rintro e V127 ⟨rfl,hb⟩
   go_wp2_with fail
   have hHeldN:=hHeld.trans (hb.mono hHeld.size)
   have ru:=ru.bel hb
   have hbc:=hbc.trans (hb.mono hbc.size)
   refine hK.out _ _ ?_ (fun hHeld2=>?_)
   ·exact hHeldN
   clear hK K hHeld hHeldN hb;have hHeld:=hHeld2;clear hHeld2
   try simp only[Act.put,tl1,tl2,tl3]
   refine wpAnyH_ready (rs:=[5]) (by kernel_rfl) (by simp) ?_
   refine AllReadyH.cons (o:=⟨_,_,_,_,_,_⟩) rfl (fun K hK=>?_) AllReadyH.nil
   go_simp
   refine(waters_fn _ _ _ _ _ _ _ _ _ _ _ _ _ cs fs (fedU out ss.length).1 _ (N10.out.below hHeld) ru Hnu.out (by omega)).mono ?_
   rintro e V129 ⟨v1,v2,rfl,o1,o2,hb⟩
   simp only[Hws.out] at o1 o2 ⊢
   obtain⟨A24,c24,rfl,r24⟩:=o1.rdn m HL.out
   clear o1 o2
   go_wp2_with fail
   have hHeldN:=hHeld.trans (hb.mono hHeld.size)
   have ru:=ru.bel hb
   have hbc:=hbc.trans (hb.mono hbc.size)
   refine hK.out _ _ ?_ (fun hHeld2=>?_)
   ·exact hHeldN
   clear hK K hHeld hHeldN hb;have hHeld:=hHeld2;clear hHeld2
   try simp only[Act.put,tl1,tl2,tl3]
   iterate 7
    refine tkHl [6,7,8,9,10,11,12] ?_ rfl rfl (Or.inl ⟨by rfl,?_⟩) hHeld ?_
    rotate_left
    ·(intro w _;go_simp;try(with_reducible rfl))
    try simp only[Act.put,tl1,tl2,tl3]
   refine wpAnyH_done (by kernel_rfl) ?_ _
   have H11:=hide (H10.out.trans (hHeld.mono H10.out.size))
   obtain⟨w11,rfl⟩:∃w11,w11=V129:=⟨V129,rfl⟩
   have tn:((m:Int) != (m:Int))=false:=by simp
   obtain⟨L,hL⟩:∃L,L=(watersK cs fs dry (days*1440) cur cur (fedU out ss.length).1 (fedU out ss.length).1.length).1:=⟨_,rfl⟩
   have hLl:=HL.out;have hgt:=Hgt.out
   rw[←hL] at r24 hLl hgt
   have R24:=hide r24;have HLl:=hide hLl;have Hgt':=hide hgt
   clear hL r24 hLl hgt Hgt HL Hws hHeld hbc ru
   go_wp2_with fail
   go_loopw [144] (fun kv wr=>∃k:Nat,k≤m∧kv= .int .i64 k∧Below w11.heap.size w11 wr) (fun kv _=>m-(intOf kv).toNat)
   case atStart=>exact⟨0,by omega,rfl,Below.refl _ _⟩
   case round=>as_aux_lemma=>
    obtain⟨k,hk,rfl,hb⟩:=hrel
    have Hb:=hide hb
    by_cases hkm:k < m
    ·have ik:(k:Int) < (m:Int):=by omega
     obtain⟨bs,os,s,hAs,hbs,hxs,c0,c1,c2',c3,c4',c5,c6,c7,c8,c9⟩:=((Rs.out.bel H11.out).bel hb).so2 (i:=k) (by rw[←Hms.out];exact hkm)
     obtain⟨nd,x,hnd,_,_,_,_⟩:=want_gets Hok.out.net Hok.out.sp Hok.out.le Hok.out.so Hok.out.wo hxs
     have g1:=Hgt'.out k s nd hxs hnd
     obtain⟨bl,ol,lo,hi,hAl,hbl,hxl,l0,l1⟩:=(R24.out.bel hb).sp (i:=k) (by rw[HLl.out];exact hkm)
     have hatk:atS L k=⟨lo,hi⟩:=by unfold atS;rw[hxl];rfl
     rw[hatk] at g1
     have g1':nd≤lo:=g1
     have Hnd:=hide hnd
     obtain⟨b28,v0,e28,ev0,hx28,hb0,hz0⟩:=mk_bx wr #[.int .i64 s.salt.lo,.int .i64 s.salt.hi,.int .i64 s.limit,.int .i64 s.crop,.int .i64 s.mineral.lo,.int .i64 s.mineral.hi,.int .i64 s.wash.lo,.int .i64 s.wash.hi,.int .i64 s.rise.lo,.int .i64 s.rise.hi] 51
     have H0:=hide (hb.trans (hb0.mono hb.size))
     have X28:=hide hx28
     have L0:=hide (show wr.cell? ⟨bl,ol+k*2,none⟩=some (.int .i64 lo)∧wr.cell? ⟨bl,ol+k*2+1,none⟩=some (.int .i64 hi)∧bl < wr.heap.size from⟨l0,l1,hbl⟩)
     have Hb0:=hide hb0
     subst hAs
     clear hxs g1 hatk hnd hb hbs hxl l0 l1 hbl hb0 hz0 hx28
     go_upto_region 24 with fail
     rw[ev0.out,e28.out]
     obtain⟨z0,z1,z2,z3,z4,z5,z6,z7,z8,z9⟩:=X28.out.at_.c10
     clear c0 c1 c2' c3 c4' c5 c6 c7 c8 c9
     go_wp2_with fail
     refine(need_soil s _).mono ?_
     rintro e vn ⟨rfl,hbn⟩
     rw[Hnd.out]
     have Hn1:=hide (H0.out.trans (hbn.mono H0.out.size));have Hn0:=hide (Hb0.out.trans (hbn.mono Hb0.out.size))
     have l0:=(Hn0.out.cell (p:=⟨bl,ol+k*2,none⟩) L0.out.2.2).trans L0.out.1
     have dl:decide (lo < nd)=false:=decide_eq_false (by omega)
     clear z0 z1 z2 z3 z4 z5 z6 z7 z8 z9 hbn
     subst hAl
     go_wp2_with fail
     exact⟨⟨k+1,by omega,by go_num,Hn1.out⟩,by simp[intOf];omega⟩
    ·clear hb
     go_wp2_with fail
     go_ret
     exact⟨rfl,HB1.out.trans ((H11.out.trans (Hb.out.mono H11.out.size)).mono HB1.out.size)⟩
end Go.Proofs.YtiioegopckoldaaGreatDoor
