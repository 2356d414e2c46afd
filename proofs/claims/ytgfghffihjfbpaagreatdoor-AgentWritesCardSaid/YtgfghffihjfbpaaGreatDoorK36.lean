/- lemmas for agentWrites_holds: AGJ. No conditions. -/
import Derived.Test.YtgfghffihjfbpaaGreatDoorK35
set_option linter.unusedVariables false
set_option linter.unusedSimpArgs false
namespace Go.Proofs.YtgfghffihjfbpaaGreatDoor
open Go.RowKit Go.Shelf
set_option maxHeartbeats 4000000 in
set_option maxRecDepth 100000 in
theorem ar_Book (b:Bo) (w:World) (hok:b.ok w) :
 Calls Tryz.prog 21 #[.agg #[.slice b.A1 b.n1 b.c1,.slice b.A2 b.n2 b.c2,.slice b.A3 b.n3 b.c3,.slice b.A4 b.n4 b.c4]] w fun e w'=>e= .returned (.bool b.boundB)∧Below w.heap.size w w':=by
 obtain⟨b1,w1,e1,ew1,hx1,hb1,hz1⟩:=mk_bx w #[.slice b.A1 b.n1 b.c1,.slice b.A2 b.n2 b.c2,.slice b.A3 b.n3 b.c3,.slice b.A4 b.n4 b.c4] 27
 obtain⟨q0,q1,q2,q3⟩:=hx1.at_.c4
 have HR:=hide (ar_Rows b w1 (hok.bel hb1))
 have HB1:=hide hb1;have Hok:=hide hok
 clear hx1 hb1 hz1 hok
 go_enter Tryz.func21,Tryz.ntmps21
 go_upto_region 1 with fail
 rw[ew1.out,e1.out]
 go_wp2_with fail
 refine HR.out.mono ?_
 rintro e w2 ⟨v,rs,rfl,hh,hm,hb2⟩
 have HB2:=hide (HB1.out.trans (hb2.mono HB1.out.size))
 obtain⟨N,hN⟩:∃N,rs.length=N:=⟨_,rfl⟩
 have hNr:b.rows.length=N:=by rw[←hm,List.length_map,hN]
 have hN3:N≤300:=by rw[←hNr];exact Hok.out.rows_le
 obtain⟨A,c,rfl,hr⟩:=hh.own.rdn N hN
 have HH:=hide hh;have HM:=hide hm;have HN:=hide hN;have HNr:=hide hNr;have HRd:=hide hr
 clear HR hh hm hb2 hN hNr hr q0 q1 q2 q3
 by_cases h2:200 < N
 ·have HW:=hide (show b.boundB=false by unfold Bo.boundB;rw[decide_eq_false (by have:=HNr.out;omega)];rfl)
  have d2:decide ((200:Int) < (N:Int))=true:=decide_eq_true (by omega)
  go_wp2_with fail
  go_returns
  exact⟨by rw[HW.out];rfl,HB2.out⟩
 ·have d2:decide ((200:Int) < (N:Int))=false:=decide_eq_false (by omega)
  have d3:¬(200:Int) < (N:Int):=by omega
  go_wp2_with fail
  clear d2 d3
  go_loopw [4] (fun iv wr=>∃k:Nat,k≤N∧iv= .int .i64 k∧RowsOk b.rows k∧Hid (Below w2.heap.size w2 wr)) (fun iv _=>N-(intOf iv).toNat)
  case atStart=>exact⟨0,by omega,rfl,rfl,hide (Below.refl _ _)⟩
  case round=>
   obtain⟨k,hk,rfl,hall,hb⟩:=hrel
   obtain⟨wo,rfl⟩:∃wo,wo=wr:=⟨_,rfl⟩
   by_cases hlt:k < N
   ·obtain⟨bb,off,x,rfl,hbl,hxk,c0,c1,c2⟩:=(HRd.out.below hb.out).rw (i:=k) (by have:=HN.out;omega)
    have ik:(k:Int) < (N:Int):=by omega
    have hrk:b.rows[k]?=some (x.i,x.kid.xs):=by rw[←HM.out,List.getElem?_map,hxk];rfl
    have hkd:=(HH.out.bel hb.out).kids x (List.mem_of_getElem? hxk)
    have HKD:=hide hkd
    have Kn:=hide hkd.n
    have hkl:=Hok.out.nums_le x.i (b.rows_kind (List.mem_of_getElem? hrk)).2
    dsimp only at hkl
    have g4:x.kid.n≤40:=by rw[hkd.n];exact hkl
    have hsn:=all_snoc hrk
    rw[show(b.rows.take k).all rowOk=true from hall,Bool.true_and] at hsn
    have Hro:=hide (show rowOk (x.i,x.kid.xs)=(cntB (worB x.i) (x.kid.n:Int) && !anyOut (-1000000000000) 1000000000000 x.kid.xs) by unfold rowOk;rw[Kn.out])
    have Hsn:=hide hsn;have Hmem:=hide (List.mem_of_getElem? hrk)
    have hbb:bb < wo.heap.size:=Nat.lt_of_lt_of_le hbl hb.out.size
    have Hno:Hid (rowOk (x.i,x.kid.xs)=false→b.boundB=false):=hide (fun h=>by
     unfold Bo.boundB
     cases ha:b.rows.all rowOk
     ·rw[Bool.and_false]
     ·have:=List.all_eq_true.1 ha _ Hmem.out
      rw[h] at this;cases this)
    clear hxk hrk hkd hkl hsn c0
    go_upto_region 7 with fail
    cases hcm:cntB (worB x.i) (x.kid.n:Int)
    ·have Hcm:=hide hcm
     have HW:=hide (Hno.out (by rw[Hro.out,hcm];rfl))
     clear hcm
     refine wp_region_held_drew (S:=(fun W=>Below wo.heap.size wo W)) (by kernel_rfl) (by(try dsimp only);exact(Below.refl _ _).drew) (fun hHeld=>?_)
     generalize World.drew wo=Wd7 at hHeld ⊢
     have hbc:=Below.refl Wd7.heap.size Wd7
     iterate 8
      refine tkHl [0,1,2,3,5,6,7,8] ?_ rfl rfl (Or.inl ⟨by rfl,?_⟩) hHeld ?_
      rotate_left
      ·(intro w _;go_simp;try(with_reducible rfl))
      try simp only[Act.put,tl1,tl2,tl3]
     iterate 2
      refine tkHl [4,9] ?_ rfl rfl (Or.inl ⟨by rfl,?_⟩) hHeld ?_
      rotate_left
      ·(intro w hSw;(try dsimp only at hSw);have c1:=(hSw.cell (p:=⟨bb,off+k*3+1,none⟩) hbb).trans c1;have c2:=(hSw.cell (p:=⟨bb,off+k*3+2,none⟩) hbb).trans c2;go_simp;try(with_reducible rfl))
      try simp only[Act.put,tl1,tl2,tl3]
     refine tkH 10 ?_ rfl (Or.inl ⟨by rfl,?_⟩) hHeld ?_
     rotate_left
     ·(intro w _;go_simp;try(with_reducible rfl))
     try simp only[Act.put,tl1,tl2,tl3]
     refine wpAnyH_ready (rs:=[11]) (by kernel_rfl) (by simp) ?_
     refine AllReadyH.cons (o:=⟨_,_,_,_,_,_⟩) rfl (fun K hK=>?_) AllReadyH.nil
     go_simp
     refine(ar_command ⟨(worB x.i).toArray⟩ x.kid.n Wd7 (by omega)).mono ?_
     rintro e V27 ⟨rfl,hw⟩
     have hb:=below_of_eqA hw
     clear hw
     dsimp only
     rw[Hcm.out]
     go_wp2_with fail
     have hHeldN:=hHeld.trans (hb.mono hHeld.size)
     have hbc:=hbc.trans (hb.mono hbc.size)
     refine hK.out _ _ ?_ (fun hHeld2=>?_)
     ·exact hHeldN
     clear hK K hHeld hHeldN hb;have hHeld:=hHeld2;clear hHeld2
     try simp only[Act.put,tl1,tl2,tl3]
     iterate 2
      refine tkHl [12,13] ?_ rfl rfl (Or.inl ⟨by rfl,?_⟩) hHeld ?_
      rotate_left
      ·(intro w _;go_simp;try(with_reducible rfl))
      try simp only[Act.put,tl1,tl2,tl3]
     iterate 7
      refine tkHl [14,15,16,17,18,19,20] _ rfl rfl (Or.inr ⟨by rfl,rfl⟩) hHeld ?_
      try simp only[Act.put,tl1,tl2,tl3]
     refine tkH 21 ?_ rfl (Or.inl ⟨by rfl,?_⟩) hHeld ?_
     rotate_left
     ·(intro w _;go_simp;try(with_reducible rfl))
     try simp only[Act.put,tl1,tl2,tl3]
     refine wpAnyH_done (by kernel_rfl) ?_ _
     go_wp2_with fail
     go_returns
     exact⟨by rw[HW.out];rfl,HB2.out.trans ((hb.out.trans (hHeld.mono hb.out.size)).mono HB2.out.size)⟩
    ·have Hcm:=hide hcm
     cases hsd:(!anyOut (-1000000000000) 1000000000000 x.kid.xs)
     ·have Hsd:=hide hsd
      have HW:=hide (Hno.out (by rw[Hro.out,hcm,hsd];rfl))
      clear hcm hsd
      refine wp_region_held_drew (S:=(fun W=>Below wo.heap.size wo W)) (by kernel_rfl) (by(try dsimp only);exact(Below.refl _ _).drew) (fun hHeld=>?_)
      generalize World.drew wo=Wd7 at hHeld ⊢
      have hbc:=Below.refl Wd7.heap.size Wd7
      iterate 8
       refine tkHl [0,1,2,3,5,6,7,8] ?_ rfl rfl (Or.inl ⟨by rfl,?_⟩) hHeld ?_
       rotate_left
       ·(intro w _;go_simp;try(with_reducible rfl))
       try simp only[Act.put,tl1,tl2,tl3]
      iterate 2
       refine tkHl [4,9] ?_ rfl rfl (Or.inl ⟨by rfl,?_⟩) hHeld ?_
       rotate_left
       ·(intro w hSw;(try dsimp only at hSw);have c1:=(hSw.cell (p:=⟨bb,off+k*3+1,none⟩) hbb).trans c1;have c2:=(hSw.cell (p:=⟨bb,off+k*3+2,none⟩) hbb).trans c2;go_simp;try(with_reducible rfl))
       try simp only[Act.put,tl1,tl2,tl3]
      refine tkH 10 ?_ rfl (Or.inl ⟨by rfl,?_⟩) hHeld ?_
      rotate_left
      ·(intro w _;go_simp;try(with_reducible rfl))
      try simp only[Act.put,tl1,tl2,tl3]
      refine wpAnyH_ready (rs:=[11]) (by kernel_rfl) (by simp) ?_
      refine AllReadyH.cons (o:=⟨_,_,_,_,_,_⟩) rfl (fun K hK=>?_) AllReadyH.nil
      go_simp
      refine(ar_command ⟨(worB x.i).toArray⟩ x.kid.n Wd7 (by omega)).mono ?_
      rintro e V27 ⟨rfl,hw⟩
      have hb:=below_of_eqA hw
      clear hw
      dsimp only
      rw[Hcm.out]
      go_wp2_with fail
      have hHeldN:=hHeld.trans (hb.mono hHeld.size)
      have hbc:=hbc.trans (hb.mono hbc.size)
      refine hK.out _ _ ?_ (fun hHeld2=>?_)
      ·exact hHeldN
      clear hK K hHeld hHeldN hb;have hHeld:=hHeld2;clear hHeld2
      try simp only[Act.put,tl1,tl2,tl3]
      iterate 6
       refine tkHl [12,13,14,15,16,17] ?_ rfl rfl (Or.inl ⟨by rfl,?_⟩) hHeld ?_
       rotate_left
       ·(intro w _;go_simp;try(with_reducible rfl))
       try simp only[Act.put,tl1,tl2,tl3]
      refine tkH 18 ?_ rfl (Or.inl ⟨by rfl,?_⟩) hHeld ?_
      rotate_left
      ·(intro w hSw;(try dsimp only at hSw);have c1:=(hSw.cell (p:=⟨bb,off+k*3+1,none⟩) hbb).trans c1;have c2:=(hSw.cell (p:=⟨bb,off+k*3+2,none⟩) hbb).trans c2;go_simp;try(with_reducible rfl))
      try simp only[Act.put,tl1,tl2,tl3]
      refine wpAnyH_ready (rs:=[19]) (by kernel_rfl) (by simp) ?_
      refine AllReadyH.cons (o:=⟨_,_,_,_,_,_⟩) rfl (fun K hK=>?_) AllReadyH.nil
      go_simp
      refine(ar_said x.kid.A x.kid.xs x.kid.n x.kid.c V27 Kn.out (by omega) (HKD.out.bel hHeld).rd).mono ?_
      rintro e V35 ⟨rfl,hw⟩
      have hb:=below_of_eqA hw
      clear hw
      rw[Hsd.out]
      go_wp2_with fail
      have hHeldN:=hHeld.trans (hb.mono hHeld.size)
      have hbc:=hbc.trans (hb.mono hbc.size)
      refine hK.out _ _ ?_ (fun hHeld2=>?_)
      ·exact hHeldN
      clear hK K hHeld hHeldN hb;have hHeld:=hHeld2;clear hHeld2
      try simp only[Act.put,tl1,tl2,tl3]
      iterate 2
       refine tkHl [20,21] ?_ rfl rfl (Or.inl ⟨by rfl,?_⟩) hHeld ?_
       rotate_left
       ·(intro w _;go_simp;try(with_reducible rfl))
       try simp only[Act.put,tl1,tl2,tl3]
      refine wpAnyH_done (by kernel_rfl) ?_ _
      go_wp2_with fail
      go_returns
      exact⟨by rw[HW.out];rfl,HB2.out.trans ((hb.out.trans (hHeld.mono hb.out.size)).mono HB2.out.size)⟩
     ·have Hsd:=hide hsd
      have hso:RowsOk b.rows (k+1):=by
       show(b.rows.take (k+1)).all rowOk=true
       rw[Hsn.out,Hro.out,hcm,hsd];rfl
      clear hcm hsd
      refine wp_region_held_drew (S:=(fun W=>Below wo.heap.size wo W)) (by kernel_rfl) (by(try dsimp only);exact(Below.refl _ _).drew) (fun hHeld=>?_)
      generalize World.drew wo=Wd7 at hHeld ⊢
      have hbc:=Below.refl Wd7.heap.size Wd7
      iterate 8
       refine tkHl [0,1,2,3,5,6,7,8] ?_ rfl rfl (Or.inl ⟨by rfl,?_⟩) hHeld ?_
       rotate_left
       ·(intro w _;go_simp;try(with_reducible rfl))
       try simp only[Act.put,tl1,tl2,tl3]
      iterate 2
       refine tkHl [4,9] ?_ rfl rfl (Or.inl ⟨by rfl,?_⟩) hHeld ?_
       rotate_left
       ·(intro w hSw;(try dsimp only at hSw);have c1:=(hSw.cell (p:=⟨bb,off+k*3+1,none⟩) hbb).trans c1;have c2:=(hSw.cell (p:=⟨bb,off+k*3+2,none⟩) hbb).trans c2;go_simp;try(with_reducible rfl))
       try simp only[Act.put,tl1,tl2,tl3]
      refine tkH 10 ?_ rfl (Or.inl ⟨by rfl,?_⟩) hHeld ?_
      rotate_left
      ·(intro w _;go_simp;try(with_reducible rfl))
      try simp only[Act.put,tl1,tl2,tl3]
      refine wpAnyH_ready (rs:=[11]) (by kernel_rfl) (by simp) ?_
      refine AllReadyH.cons (o:=⟨_,_,_,_,_,_⟩) rfl (fun K hK=>?_) AllReadyH.nil
      go_simp
      refine(ar_command ⟨(worB x.i).toArray⟩ x.kid.n Wd7 (by omega)).mono ?_
      rintro e V27 ⟨rfl,hw⟩
      have hb:=below_of_eqA hw
      clear hw
      dsimp only
      rw[Hcm.out]
      go_wp2_with fail
      have hHeldN:=hHeld.trans (hb.mono hHeld.size)
      have hbc:=hbc.trans (hb.mono hbc.size)
      refine hK.out _ _ ?_ (fun hHeld2=>?_)
      ·exact hHeldN
      clear hK K hHeld hHeldN hb;have hHeld:=hHeld2;clear hHeld2
      try simp only[Act.put,tl1,tl2,tl3]
      iterate 6
       refine tkHl [12,13,14,15,16,17] ?_ rfl rfl (Or.inl ⟨by rfl,?_⟩) hHeld ?_
       rotate_left
       ·(intro w _;go_simp;try(with_reducible rfl))
       try simp only[Act.put,tl1,tl2,tl3]
      refine tkH 18 ?_ rfl (Or.inl ⟨by rfl,?_⟩) hHeld ?_
      rotate_left
      ·(intro w hSw;(try dsimp only at hSw);have c1:=(hSw.cell (p:=⟨bb,off+k*3+1,none⟩) hbb).trans c1;have c2:=(hSw.cell (p:=⟨bb,off+k*3+2,none⟩) hbb).trans c2;go_simp;try(with_reducible rfl))
      try simp only[Act.put,tl1,tl2,tl3]
      refine wpAnyH_ready (rs:=[19]) (by kernel_rfl) (by simp) ?_
      refine AllReadyH.cons (o:=⟨_,_,_,_,_,_⟩) rfl (fun K hK=>?_) AllReadyH.nil
      go_simp
      refine(ar_said x.kid.A x.kid.xs x.kid.n x.kid.c V27 Kn.out (by omega) (HKD.out.bel hHeld).rd).mono ?_
      rintro e V35 ⟨rfl,hw⟩
      have hb:=below_of_eqA hw
      clear hw
      rw[Hsd.out]
      go_wp2_with fail
      have hHeldN:=hHeld.trans (hb.mono hHeld.size)
      have hbc:=hbc.trans (hb.mono hbc.size)
      refine hK.out _ _ ?_ (fun hHeld2=>?_)
      ·exact hHeldN
      clear hK K hHeld hHeldN hb;have hHeld:=hHeld2;clear hHeld2
      try simp only[Act.put,tl1,tl2,tl3]
      iterate 2
       refine tkHl [20,21] ?_ rfl rfl (Or.inl ⟨by rfl,?_⟩) hHeld ?_
       rotate_left
       ·(intro w _;go_simp;try(with_reducible rfl))
       try simp only[Act.put,tl1,tl2,tl3]
      refine wpAnyH_done (by kernel_rfl) ?_ _
      have hbf:=hide (hb.out.trans (hHeld.mono hb.out.size))
      go_wp2_with fail
      exact⟨⟨k+1,by omega,by go_num,hso,hbf⟩,by simp[intOf];omega⟩
   ·have ik:¬(k:Int) < (N:Int):=by omega
    have HW:=hide (show b.boundB=true by
     unfold Bo.boundB
     rw[decide_eq_true (by have:=HNr.out;omega),Bool.true_and]
     have:(b.rows.take k).all rowOk=true:=hall
     rwa [List.take_of_length_le (by have:=HNr.out;omega)] at this)
    go_wp2_with fail
    go_returns
    exact⟨by rw[HW.out];rfl,HB2.out.trans (hb.out.mono HB2.out.size)⟩
set_option maxHeartbeats 4000000 in
set_option maxRecDepth 100000 in
theorem ar_WriteBook (b:Bo) (w:World) (hok:b.ok w) :
 Calls Tryz.prog 8 #[.agg #[.slice b.A1 b.n1 b.c1,.slice b.A2 b.n2 b.c2,.slice b.A3 b.n3 b.c3,.slice b.A4 b.n4 b.c4]] w fun e w'=>e= .returned (.tuple #[.string ⟨b.wrote.1.toArray⟩,.int .i64 b.wrote.2])∧Below w.heap.size w w':=by
 obtain⟨b1,w1,e1,ew1,hx1,hb1,hz1⟩:=mk_bx w #[.slice b.A1 b.n1 b.c1,.slice b.A2 b.n2 b.c2,.slice b.A3 b.n3 b.c3,.slice b.A4 b.n4 b.c4] 27
 obtain⟨q0,q1,q2,q3⟩:=hx1.at_.c4
 have HBK:=hide (ar_Book b w1 (hok.bel hb1))
 have HB1:=hide hb1;have Hok:=hide hok;have HX1:=hide hx1
 clear hx1 hb1 hz1 hok
 go_enter Tryz.func8,Tryz.ntmps8
 go_upto_region 1 with fail
 rw[ew1.out,e1.out]
 go_wp2_with fail
 refine HBK.out.mono ?_
 rintro e w2 ⟨rfl,hb2⟩
 clear q0 q1 q2 q3 HBK
 have HB2:=hide (HB1.out.trans (hb2.mono HB1.out.size))
 obtain⟨q0,q1,q2,q3⟩:=(HX1.out.bel hb2).at_.c4
 have HR:=hide (ar_Rows b w2 (Hok.out.bel HB2.out))
 clear hb2
 cases hbo:b.boundB
 ·have HW:=hide (show b.wrote=([],2) by unfold Bo.wrote;rw[hbo];rfl)
  clear hbo
  go_wp2_with fail
  go_returns
  exact⟨by rw[HW.out];rfl,HB2.out⟩
 ·have HW:=hide (show b.wrote=sealS (b.rows.map rowL) by unfold Bo.wrote;rw[hbo];rfl)
  have Hbo:=hide hbo
  clear hbo
  go_wp2_with fail
  refine HR.out.mono ?_
  rintro e w3 ⟨v,rs,rfl,hh,hm,hb3⟩
  have HB3:=hide (HB2.out.trans (hb3.mono HB2.out.size))
  obtain⟨N,hN⟩:∃N,rs.length=N:=⟨_,rfl⟩
  have hNr:b.rows.length=N:=by rw[←hm,List.length_map,hN]
  have hN3:N≤300:=by rw[←hNr];exact Hok.out.rows_le
  obtain⟨A,c,rfl,hr⟩:=hh.own.rdn N hN
  obtain⟨R,hR⟩:∃R,R=b.rows.map rowL:=⟨_,rfl⟩
  have HRl:=hide (show R.length=N by rw[hR,List.length_map,hNr])
  have Hll:=hide (show ∀k,k≤300→(linesTo R k).length≤10030*k from fun k hk=>linesTo_len R (fun x hx=>by
   rw[hR] at hx
   obtain⟨r,hr,rfl⟩:=List.mem_map.1 hx
   have h1:=Hbo.out
   unfold Bo.boundB at h1
   rw[Bool.and_eq_true] at h1
   have h2:=rowOk_bd (List.all_eq_true.1 h1.2 r hr)
   have h3:=Hok.out.nums_le r.1 (b.rows_kind hr).2
   have h4:=phraseB_len (letB r.1) r.2 h2
   rw[letB_len] at h4
   unfold rowL
   omega) k (by omega))
  have HWr:=hide (show b.wrote=writB (linesTo R N) N by rw[HW.out,←hR,seal_writ,HRl.out])
  have HRe:=hide hR
  have HH:=hide hh;have HM:=hide hm;have HN:=hide hN;have HNr:=hide hNr;have HRd:=hide hr
  clear HR hh hm hb3 hN hNr hr q0 q1 q2 q3 hR HW
  go_wp2_with fail
  go_loopw [5,6] (fun tv iv wr=>∃k:Nat,k≤N∧iv= .int .i64 k∧tv= .string ⟨(linesTo R k).toArray⟩∧Hid (Below w3.heap.size w3 wr)) (fun _ iv _=>N-(intOf iv).toNat)
  case atStart=>exact⟨0,by omega,rfl,rfl,hide (Below.refl _ _)⟩
  case round=>
   obtain⟨k,hk,rfl,rfl,hb⟩:=hrel
   obtain⟨wo,rfl⟩:∃wo,wo=wr:=⟨_,rfl⟩
   have hlk:=Hll.out k (by omega)
   by_cases hlt:k < N
   ·obtain⟨bb,off,x,rfl,hbl,hxk,c0,c1,c2⟩:=(HRd.out.below hb.out).rw (i:=k) (by have:=HN.out;omega)
    have ik:(k:Int) < (N:Int):=by omega
    have hrk:b.rows[k]?=some (x.i,x.kid.xs):=by rw[←HM.out,List.getElem?_map,hxk];rfl
    have hkd:=(HH.out.bel hb.out).kids x (List.mem_of_getElem? hxk)
    have hkl:=Hok.out.nums_le x.i (b.rows_kind (List.mem_of_getElem? hrk)).2
    dsimp only at hkl
    have hnb:=rowOk_bd (by
     have h:=Hbo.out
     unfold Bo.boundB at h
     rw[Bool.and_eq_true] at h
     exact List.all_eq_true.1 h.2 _ (List.mem_of_getElem? hrk))
    dsimp only at hnb
    have HL:=hide (ar_bookLine k (letB x.i) (worB x.i) x.kid.A x.kid.n x.kid.c x.kid.xs wo (by omega) (by rw[letB_len];omega) hkd.n (by rw[hkd.n];omega) hkd.rd hnb)
    have hRk:R[k]?=some (phraseB (letB x.i) x.kid.xs):=by rw[HRe.out,List.getElem?_map,hrk];rfl
    have Hsn:=hide (linesTo_snoc hRk)
    have hle:=lineB_len k (phraseB (letB x.i) x.kid.xs) (by omega) (by
     have h4:=phraseB_len (letB x.i) x.kid.xs hnb
     rw[letB_len] at h4
     omega)
    obtain⟨T,hT⟩:∃T,T=linesTo R k:=⟨_,rfl⟩
    obtain⟨Ln,hLn⟩:∃Ln,Ln=lineB k (phraseB (letB x.i) x.kid.xs):=⟨_,rfl⟩
    rw[←hT] at hlk Hsn ⊢
    rw[←hLn] at hle Hsn HL
    have t1:¬9223372036854775807 < T.length+Ln.length:=by omega
    clear hxk hrk hkd hkl hnb hRk hT hLn
    go_wp2_with fail
    refine HL.out.mono ?_
    rintro e w8 ⟨rfl,hb8⟩
    have HB8:=hide (hb.out.trans (hb8.mono hb.out.size))
    clear hb8 c0 c1 c2
    go_wp2_with fail
    exact⟨⟨k+1,by omega,by go_num,by rw[Hsn.out,←bytes_app],HB8⟩,by simp[intOf];omega⟩
   ·obtain rfl:N=k:=by omega
    have HWt:=hide (ar_written (linesTo R N) N wo (by omega) (by omega))
    go_wp2_with fail
    refine HWt.out.mono ?_
    rintro e w8 ⟨rfl,hb8⟩
    have HB8:=hide (HB3.out.trans ((hb.out.trans (hb8.mono hb.out.size)).mono HB3.out.size))
    clear hb8
    go_wp2_with fail
    go_returns
    exact⟨by rw[HWr.out];rfl,HB8.out⟩
end Go.Proofs.YtgfghffihjfbpaaGreatDoor
