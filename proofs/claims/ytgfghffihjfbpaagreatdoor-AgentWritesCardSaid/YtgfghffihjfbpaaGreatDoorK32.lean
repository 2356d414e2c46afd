/- lemmas for agentWrites_holds: AGF. No conditions. -/
import Derived.Test.YtgfghffihjfbpaaGreatDoorK27
import Derived.Test.YtgfghffihjfbpaaGreatDoorK30
import Derived.Test.YtgfghffihjfbpaaGreatDoorK31
import Derived.Deep.Cut
import Derived.Deep.RegionHeld3
import Derived.Deep.DrawnRows
set_option linter.unusedVariables false
set_option linter.unusedSimpArgs false
namespace Go.Proofs.YtgfghffihjfbpaaGreatDoor
open Go.RowKit Go.Shelf
attribute [local go_sem] Oper.semAt_some
theorem scell_one (l:List UInt8):∀u∈scell l,u.oneCell'=true:=by simp[scell,Value.oneCell']
theorem el_str:ElLaw Tryz.prog 58 9 1 16 scell:=elLaw_of Tryz.underlying58 (z:= .string ⟨#[]⟩) (by kernel_rfl) rfl (by omega) (fun _=>rfl) scell_one (by omega)
def BelW (W0 W:World):Prop:=Below W0.heap.size W0 W
theorem BelW.bel {W0 W W':World} (h:BelW W0 W) (hb:Below W.heap.size W W'):BelW W0 W':=Below.trans h (hb.mono (Below.size h))
def RowBoxX (L:List (Nat×List Int)) (X:Nat→Prop) (bh k:Nat) (W:World):Prop:=∃kd:Kid,Bx W bh [.string ⟨(letB (L.getD k (0,[])).1).toArray⟩,.string ⟨(worB (L.getD k (0,[])).1).toArray⟩,.func (.func (allF (L.getD k (0,[])).1)) #[] #[],.func (.func (addF (L.getD k (0,[])).1)) #[] #[],.slice kd.A kd.n kd.c]∧kd.xs=(L.getD k (0,[])).2∧KidOk W X kd
theorem RowBoxX.kept {L:List (Nat×List Int)} {X:Nat→Prop} {bh k:Nat} {W W':World} {R:Nat→Prop} (h:RowBoxX L X bh k W) (hk:Kept R W W') (h1:R bh) (h2:∀p,X p→R p):RowBoxX L X bh k W':=by
 obtain⟨kd,h3,h4,h5⟩:=h
 exact⟨kd,h3.kept hk h1,h4,h5.kept hk h2⟩
def OffB (bL bh:Nat) (W:World):Prop:=∀v g,W.cell? ⟨bL,0,none⟩=some v→v.ownBlock=some g→g≠bh
theorem lines_take (L:List (Nat×List Int)) {k:Nat} {r:Nat×List Int} (h:L[k]?=some r):(L.map rowL).take (k+1)=(L.map rowL).take k ++ [rowL r]:=take_snoc (by rw[List.getElem?_map,h];rfl)
set_option maxHeartbeats 4000000 in
set_option maxRecDepth 100000 in
theorem ag_WriteBook (b:Bo) (w:World) (hok:b.ok w) (ht:Tb w) :
 Calls Tryz.prog 7 #[.agg #[.slice b.A1 b.n1 b.c1,.slice b.A2 b.n2 b.c2,.slice b.A3 b.n3 b.c3,.slice b.A4 b.n4 b.c4]] w fun e w'=>e= .returned (.tuple #[.string ⟨b.wrote.1.toArray⟩,.int .i64 b.wrote.2])∧Below w.heap.size w w':=by
 obtain⟨b1,w1,e1,ew1,hx1,hb1,hz1⟩:=mk_bx w #[.slice b.A1 b.n1 b.c1,.slice b.A2 b.n2 b.c2,.slice b.A3 b.n3 b.c3,.slice b.A4 b.n4 b.c4] 27
 have hw1:w.heap.size=b1:=e1.out
 have Hw1:=hide hw1;have Hz1:=hide hz1
 have Hok:=hide hok;have Ht:=hide ht;have HB1:=hide hb1;have HX1:=hide hx1
 have E1:=hide enters_rows1
 have HBD:=hide (ag_bound b w1 (hok.bel hb1))
 obtain⟨q0,q1,q2,q3⟩:=hx1.at_.c4
 clear hok ht hx1 hb1 hz1 hw1
 refine(callsIn_wide (n:=9)).1 ?_
 refine callsIn_of_wp_marks Tryz.func7 rfl trivial ?_ rfl
 simp only[Tryz.ntmps7,List.size_toArray,List.length_cons,List.length_nil,Nat.reduceAdd,Nat.reduceSub,Array.replicate_succ,Array.replicate_zero,List.push_toArray,List.append_toArray,List.nil_append,List.cons_append]
 refine wpIn_wide.2 ?_
 go_upto_region 1 with fail
 rw[ew1.out,e1.out]
 go_wp2_with fail
 refine HBD.out.mono ?_
 rintro e w2 ⟨rfl,hb2⟩
 clear q0 q1 q2 q3 HBD
 have HB2:=hide (HB1.out.trans (hb2.mono HB1.out.size))
 obtain⟨q0,q1,q2,q3⟩:=(HX1.out.bel hb2).at_.c4
 have HX2:=hide (HX1.out.bel hb2)
 have hs2:=hb2.size
 clear hb2
 cases hbo:b.boundB
 ·have HW:=hide (show b.wrote=([],2) by unfold Bo.wrote;rw[hbo];rfl)
  clear hbo
  go_wp2_with fail
  refine⟨_,results_tmp2 rfl _ _ _,?_⟩
  exact⟨by rw[HW.out];rfl,HB2.out⟩
 ·have HW:=hide (show b.wrote=sealS (b.rows.map rowL) by unfold Bo.wrote;rw[hbo];rfl)
  have Hbo:=hide hbo
  clear hbo
  obtain⟨b4,w4,e4,ew4,hx4,hb4,hz4⟩:=mk_bx w2 #[.slice none 0 0] 58
  have H4:=hide hx4;have He4:=hide e4.out;have Hz4:=hide hz4
  have HB4:=hide (HB2.out.trans (hb4.mono HB2.out.size))
  obtain⟨z0,z1,z2,z3⟩:=(HX2.out.bel hb4).at_.c4
  clear hx4 hb4 hz4 q0 q1 q2 q3
  go_upto_region 4 with fail
  rw[ew4.out,e4.out]
  clear ew1 e1 ew4 e4
  go_wp2_with fail
  refine(agrows_fn b w4).mono ?_
  rintro e w5 ⟨q,rfl,hxq,hq,hb5⟩
  clear z0 z1 z2 z3
  have hX4:=hide (H4.out.bel hb5)
  have hq5:=hxq.lt
  have HB5:=hide (HB4.out.trans (hb5.mono HB4.out.size))
  have hs5:=hb5.size;have hw1:=Hw1.out;have hz1:=Hz1.out;have he4:=He4.out;have hz4:=Hz4.out
  have hseq:=fun n hn=>agrows1_seq n hn (fun p=>p < b1∨p=q) q b w5 hxq (fun W hk=>Hok.out.bel (HB5.out.trans (hk.below (fun p hp=> .inl (by omega)) HB5.out.size))) (.inr rfl)
  obtain⟨N,hN⟩:∃N,b.rows.length=N:=⟨_,rfl⟩
  rw[hN] at hseq
  have hN3:N≤300:=by rw[←hN];exact Hok.out.rows_le
  have HN:=hide hN
  clear hxq hb5 H4 hN
  go_wp2_with fail
  refine(wpIn_wide (n:=9)).1 ?_
  refine wp_rangeX (gf:=48) rfl E1.out (hseq _ (by omega)) (Kept.all _ (Below.refl _ _)) (fun B k X G args W h=>by obtain⟨kd,h,_⟩:=h;rw[h];rfl) (fun p=>p=b4)
   (fun p h=>h.elim) (by intro p hp;omega) (by intro p hp;omega)
   (fun k X W=>BoxX 9 1 scell w b4 (w5.heap.size+2) ((b.rows.map rowL).take k) X W)
   (fun c k X W=>False)
   (fun k X G a W=>∃bh:Nat,(a.tmps.size=25∧a.defers=[]∧slot a 4= .pointer (some ⟨b4,0,none⟩)∧slot a 5= .pointer (some ⟨bh,0,none⟩))∧w5.heap.size+2≤bh∧bh < W.heap.size∧OffB b4 bh W∧RowBoxX b.rows (fun p=>w5.heap.size+2≤p∧X p) bh k W)
   (fun k X X' A B h hk hX=>h.kept hk (fun p hp hx=>⟨hx,by omega,by omega⟩) ⟨fun h'=>by have:=h.xge _ h';omega,by omega,by omega⟩ (fun p hp=>⟨fun h'=>by have:=h.xge _ h';omega,by omega,by omega⟩) hX)
   (fun c k X X' A B h hk hX=>h.elim)
   (fun k X G a A B h hk=>by
    obtain⟨bh,h1,h2,h3,h4,h5⟩:=h
    exact⟨bh,h1,h2,Nat.lt_of_lt_of_le h3 hk.size,fun v g hv hg=>h4 v g ((hk.cell (p:=⟨b4,0,none⟩) (by show b4≠_;omega) (by show b4 < _;omega)).symm.trans hv) hg,h5.kept hk (by omega) (fun p hp=>by have:=hp.1;omega)⟩)
   (fun W hk hs=>⟨⟨_,(hk.cell (p:=⟨b4,0,none⟩) trivial hX4.out.lt).trans hX4.out.at_.c1,(hk.frozen (p:=⟨b4,0,none⟩) trivial hX4.out.lt).trans (hX4.out.fz 0),Own.nil _ _ _ _ _,by simp[Value.ownBlock]⟩,by omega,HB5.out.trans (hk.below (fun _ _=>trivial) HB5.out.size),fun p h=>h.elim,by omega⟩)
   (fun h=>h.elim) ?assign ?body ?done ?stop ?panic
  case panic=>intro k chain X W h;exact h.elim
  case stop=>intro c k X W hk h;exact h.elim
  case assign=>
   rintro l k X G args W hi hz hk hXlt hXge ⟨kd,rfl,hxs,hko⟩
   have Hi:=hide hi;have Hko:=hide hko
   clear hi hko
   obtain⟨lb,hlb⟩:∃lb:ByteArray,lb=⟨(letB (b.rows.getD k (0,[])).1).toArray⟩:=⟨_,rfl⟩
   obtain⟨wb,hwb⟩:∃wb:ByteArray,wb=⟨(worB (b.rows.getD k (0,[])).1).toArray⟩:=⟨_,rfl⟩
   obtain⟨fa,hfa⟩:∃fa,fa=allF (b.rows.getD k (0,[])).1:=⟨_,rfl⟩
   obtain⟨fd,hfd⟩:∃fd,fd=addF (b.rows.getD k (0,[])).1:=⟨_,rfl⟩
   have Hrb:Hid (∀W',Kept (fun _=>True) W W'→∀bh,Bx W' bh [.string lb,.string wb,.func (.func fa) #[] #[],.func (.func fd) #[] #[],.slice kd.A kd.n kd.c]→RowBoxX b.rows (fun p=>w5.heap.size+2≤p∧X p) bh k W'):=hide (fun W' hk' bh hB=>⟨kd,by rw[←hlb,←hwb,←hfa,←hfd];exact hB,hxs,Hko.out.kept hk' (fun _ _=>trivial)⟩)
   unfold rowV
   rw[←hlb,←hwb,←hfa,←hfd]
   clear hlb hwb hfa hfd hxs Hko
   gi_wp2_with fail
   refine⟨Kept.alloc _ _ _,Hi.out.kept (Kept.alloc (fun _=>True) _ _) (fun _ _ _=>trivial) trivial (fun _ _=>trivial) (fun _ h=> .inl h),⟨_,(by and_intros <;> first | rfl | trivial),hz,by simp,fun v g hv hg=>?_,Hrb.out _ (Kept.alloc _ _ _) _ (Bx.new W _ _ _ rfl _ rfl)⟩⟩
   obtain⟨v',hc,_,ho,_⟩:=Hi.out.own
   have hv2:=((Kept.alloc (fun _=>True) W (.cells #[.string lb,.string wb,.func (.func fa) #[] #[],.func (.func fd) #[] #[],.slice kd.A kd.n kd.c] 67)).cell (p:=⟨b4,0,none⟩) trivial Hi.out.lt).trans hc
   have hv3:=Option.some.inj (hv2.symm.trans hv)
   subst hv3
   have:=(ho.blockG hg).2
   omega
  case body=>
   rintro l k X G a W hinv ⟨bh,⟨hs,hd,s4,s5⟩,hbh,hbhl,hoff,hkd⟩ hz hk hXlt hXge
   rw[act_eq hs hd]
   obtain⟨u,hu⟩:∃u,u=slot a:=⟨_,rfl⟩
   rw[←hu] at s4 s5 ⊢
   have he:({tmps:=((List.range 25).map u).toArray,defers:=[] }:Act)={tmps:=#[(u 0),(u 1),(u 2),(u 3),(u 4),(u 5),(u 6),(u 7),(u 8),(u 9),(u 10),(u 11),(u 12),(u 13),(u 14),(u 15),(u 16),(u 17),(u 18),(u 19),(u 20),(u 21),(u 22),(u 23),(u 24)],defers:=[] }:=rfl
   rw[he,s4,s5]
   clear he hs hd hu s4 s5
   obtain⟨wo,rfl⟩:∃wo,wo=W:=⟨_,rfl⟩
   obtain⟨v,hc,hf,ho,hn⟩:=hinv.own
   obtain⟨kd,hat,hxs,hko⟩:=hkd
   obtain⟨⟨i,xs⟩,hr⟩:∃r,r=b.rows.getD k (0,[]):=⟨_,rfl⟩
   rw[←hr] at hxs hat
   dsimp only at hxs hat
   subst hxs
   have hrk:b.rows[k]?=some (i,kd.xs):=by rw[hr,List.getD_eq_getElem?_getD,List.getElem?_eq_getElem (by have:=HN.out;omega)];rfl
   have hro:rowOk (i,kd.xs)=true:=by
    have h:=Hbo.out
    unfold Bo.boundB at h
    rw[Bool.and_eq_true] at h
    exact List.all_eq_true.1 h.2 _ (List.mem_of_getElem? hrk)
   have hnb:=rowOk_bd hro
   have hkl:=Hok.out.nums_le i (b.rows_kind (List.mem_of_getElem? hrk)).2
   dsimp only at hkl hnb
   have Kn:=hide hko.n
   have g4:kd.n≤40:=by rw[Kn.out];exact hkl
   have Htk:=hide (lines_take b.rows hrk)
   obtain⟨Ls,hLs⟩:∃Ls,Ls=(b.rows.map rowL).take k:=⟨_,rfl⟩
   have hLl:Ls.length=k:=by rw[hLs,List.length_take,List.length_map,Nat.min_eq_left (by have:=HN.out;omega)]
   obtain⟨Ln,hLn⟩:∃Ln,Ln=rowL (i,kd.xs):=⟨_,rfl⟩
   rw[←hLs] at ho Htk hinv
   rw[←hLn] at Htk
   obtain⟨Z,hZ⟩:∃Z,Z=w5.heap.size+2:=⟨_,rfl⟩
   rw[←hZ] at hinv ho
   have H4v:=hide (show ¬v.ownBlock=some b4 from fun e=>by have:=(ho.blockG e).1;omega)
   have HBv:=hide (show ¬v.ownBlock=some bh from fun e=>hoff v bh hc e rfl)
   have Hlow:=hide (show ∀p,p < w.heap.size→¬v.ownBlock=some p from fun p hp e=>by have:=(ho.blockG e).1;omega)
   have HP:Hid (∀V,Kept (fun c=>¬v.ownBlock=some c) wo V→Calls Tryz.prog 19 #[.string ⟨(letB i).toArray⟩,.string ⟨#[44]⟩,.slice kd.A kd.n kd.c] V fun e w'=>e= .returned (.string ⟨Ln.toArray⟩)∧Below V.heap.size V w'):=hide (fun V hV=>by
    have h:=ag_phrase (letB i) kd.A kd.xs kd.n kd.c V Kn.out (by omega) (by rw[letB_len];omega) (hko.kept hV (fun p hp e=>hn p e (.inl hp.2))).rd hnb (Ht.out.bel (hinv.bl.trans (hV.below (fun p hp=>Hlow.out p hp) hinv.bl.size)))
    rw[hLn]
    exact h)
   have hlen:Ls.length+1≤1000000:=by rw[hLl];omega
   have hzl:Z≤wo.heap.size:=by omega
   have hbZ:b4 < Z:=by omega
   have hwb:w.heap.size≤b4:=by omega
   have hb4W:b4 < wo.heap.size:=by omega
   have Hinv:=hide hinv;have Hc:=hide hc;have Hf:=hide hf;have Ho:=hide ho;have Hn:=hide hn;have HXlt:=hide hXlt;have Hat:=hide hat
   have HO:=ho
   have HBW:BelW wo wo:=Below.refl _ _
   have HLl:=hide hLl;have HZ:=hide hZ
   clear hinv hc hf ho hn hXlt hat hoff hko hrk hro hnb hkl hLs hLn hr hLl hZ
   gi_wp2_with fail
   refine wpIn_region_S (S:=(fun W=>Kept (fun c=>¬v.ownBlock=some c) wo W)) (z:=9) (by kernel_rfl) (by(try dsimp only);exact Kept.all _ (Below.refl _ _).drew) (fun hHeld=>?_)
   have hdr:Below wo.heap.size wo (World.drew wo):=(Below.refl _ _).drew
   generalize World.drew wo=Wd6 at hHeld hdr ⊢
   have HO:=HO.bel hdr
   have HBW:=HBW.bel hdr
   have hbc:=Below.refl Wd6.heap.size Wd6
   refine tkS 0 ?_ rfl (Or.inl ⟨by rfl,?_⟩) hHeld ?_
   rotate_left
   ·(intro w hSw;(try dsimp only at hSw);have z4:=(hSw.cell (p:=⟨b4,0,none⟩) H4v.out hb4W).trans Hc.out;have zh:=(Hat.out.kept hSw HBv.out).at_;have zh0:=zh.2 0 _ rfl;have zh4:=zh.2 4 _ rfl;go_simp;try(with_reducible rfl))
   try simp only[Act.put,tl1,tl2,tl3]
   iterate 3
    refine tkSl [1,2,4] ?_ rfl rfl (Or.inl ⟨by rfl,?_⟩) hHeld ?_
    rotate_left
    ·(intro w _;go_simp;try(with_reducible rfl))
    try simp only[Act.put,tl1,tl2,tl3]
   iterate 2
    refine tkSl [3,5] ?_ rfl rfl (Or.inl ⟨by rfl,?_⟩) hHeld ?_
    rotate_left
    ·(intro w hSw;(try dsimp only at hSw);have z4:=(hSw.cell (p:=⟨b4,0,none⟩) H4v.out hb4W).trans Hc.out;have zh:=(Hat.out.kept hSw HBv.out).at_;have zh0:=zh.2 0 _ rfl;have zh4:=zh.2 4 _ rfl;go_simp;try(with_reducible rfl))
    try simp only[Act.put,tl1,tl2,tl3]
   refine wpAnyS_ready (rs:=[6]) (by kernel_rfl) (by simp) ?_
   refine AllS.cons (o:=⟨_,_,_,_,_,_⟩) rfl (fun _=>trivial) (fun K hK=>?_) AllS.nil
   go_simp
   refine⟨trivial,(CallsIn.inRound l (callsIn_wide.2 (HP.out Wd6 hHeld))).mono ?_⟩
   rintro e V18 ⟨rfl,hb⟩
   gi_wp2_with fail
   have hHeldN:=hHeld.trans (Kept.all _ hb)
   have HO:=HO.bel hb
   have HBW:=HBW.bel hb
   have hbc:=hbc.trans (hb.mono hbc.size)
   refine hK.out _ _ ?_ (fun hHeld2=>?_)
   ·intro _;exact hHeldN
   clear hK K hHeld hHeldN hb;have hHeld:=hHeld2 (by decide);clear hHeld2
   try simp only[Act.put,tl1,tl2,tl3]
   refine wpAnyS_ready (rs:=[7]) (by kernel_rfl) (by simp) ?_
   refine AllS.cons (o:=⟨_,_,_,_,_,_⟩) rfl (fun _=>trivial) (fun K hK=>?_) AllS.nil
   go_simp
   obtain⟨b19,V19,eb19,ev19,r19,hb⟩:=mk_row (cells:=scell) V18 #[.string ⟨Ln.toArray⟩] 9 [Ln] rfl
   rw[ev19.out,eb19.out]
   have hHeldN:=hHeld.trans (Kept.all _ hb)
   have HO:=HO.bel hb
   have HBW:=HBW.bel hb
   have hbc:=hbc.trans (hb.mono hbc.size)
   refine hK.out _ _ ?_ (fun hHeld2=>?_)
   ·intro _;exact hHeldN
   clear hK K hHeld hHeldN hb;have hHeld:=hHeld2 (by decide);clear hHeld2
   try simp only[Act.put,tl1,tl2,tl3]
   refine wpAnyS_ready (rs:=[8]) (by kernel_rfl) (by simp) ?_
   refine AllS.cons (o:=⟨_,_,_,_,_,_⟩) rfl (fun _=>trivial) (fun K hK=>?_) AllS.nil
   refine opIn_app (v:=v) (xs:=Ls) (ys:=[Ln]) (n:=1) el_str (.tmp 12) (.tmp 19) rfl rfl HO rfl rfl r19 hlen (Nat.le_trans hzl hHeld.size) ?_
   intro v20 V20 o20 hg hat
   have hst:=hide (BoxX.step (X':=X) Hinv.out Hc.out Hf.out Ho.out Hn.out (fun b h=> .inl h) HXlt.out HBW hg o20 hat hbZ hwb)
   have Hs20:=hide o20.rd
   have hHeldN:=hHeld.trans ((Kept.grown hg).mono fun c _ h e=>h e.symm)
   refine hK.out _ _ ?_ (fun hHeld2=>?_)
   ·intro _;exact hHeldN
   clear hK K hHeld hHeldN hbc;have hHeld:=hHeld2 (by decide);clear hHeld2
   have hbc:=Below.refl V20.heap.size V20
   try simp only[Act.put,tl1,tl2,tl3]
   refine wpAnyS_ready (rs:=[9]) (by kernel_rfl) (by simp) ?_
   refine AllS.cons (o:=⟨_,_,_,_,_,_⟩) rfl (fun _=>trivial) (fun K hK=>?_) AllS.nil
   have z4:=(hHeld.cell (p:=⟨b4,0,none⟩) H4v.out hb4W).trans Hc.out
   have y4:=(hHeld.frozen (p:=⟨b4,0,none⟩) H4v.out hb4W).trans Hf.out
   obtain⟨A20,c20,rfl,_⟩:=Hs20.out
   go_simp
   refine hK.out _ _ (fun h=>absurd rfl h) (fun _=>?_)
   clear hK K hHeld
   try simp only[Act.put,tl1,tl2,tl3]
   refine wpAnyS_done (by kernel_rfl) ?_ _
   rw[show(Ls ++ [Ln]).length=Ls.length+1 from by simp] at hst
   have Hst:=hst
   clear hst Hs20 z4 y4
   gi_wp2_with fail
   rw[HZ.out] at Hst
   refine⟨Hst.out.2.mono fun p hp hr=>?_,by show BoxX 9 1 scell w b4 (w5.heap.size+2) ((b.rows.map rowL).take (k+1)) X _;rw[Htk.out];exact Hst.out.1⟩
   rcases hr with⟨h1,h2⟩ | h1
   ·exact⟨fun e=>by have:=(Ho.out.blockG e).1;have:=HZ.out;omega,h2⟩
   ·exact⟨fun e=>Hn.out p e (.inl h1),fun e=>by rcases hXge p (.inl h1) with h2 | h2;exact h2.elim;omega⟩
  case done=>
   intro X W hinv hD
   obtain⟨v,hc,hf,ho,_⟩:=hinv.own
   obtain⟨R,hR⟩:∃R,R=b.rows.map rowL:=⟨_,rfl⟩
   have hRl:R.length=N:=by rw[hR,List.length_map];exact HN.out
   rw[←hR,List.take_of_length_le (by omega)] at ho
   obtain⟨A,c,rfl,hr⟩:=ho.rdn N hRl
   have HS:=hide (ag_sealed A N c R W hRl.symm hN3 hr (fun x hx=>by
    rw[hR] at hx
    obtain⟨r,hr,rfl⟩:=List.mem_map.1 hx
    have h1:=Hbo.out
    unfold Bo.boundB at h1
    rw[Bool.and_eq_true] at h1
    have h2:=rowOk_bd (List.all_eq_true.1 h1.2 r hr)
    have h3:=Hok.out.nums_le r.1 (b.rows_kind hr).2
    have h4:=phraseB_len (letB r.1) r.2 h2
    rw[letB_len] at h4
    unfold rowL
    omega) (Ht.out.bel hinv.bl))
   have HBl:=hide hinv.bl
   have HD:=hide hD
   have hlt:w5.heap.size < W.heap.size:=by have:=hinv.zle;omega
   have HWr:=hide (show b.wrote=sealS R by rw[HW.out,hR])
   have y4:=hc
   clear hinv hf ho hr hD hc hRl
   go_wp2_with fail
   refine HS.out.mono ?_
   rintro e w6 ⟨rfl,hb6⟩
   have HD6:=hide ((hb6.block _ hlt).trans HD.out)
   have HB6:=hide (HBl.out.trans (hb6.mono HBl.out.size))
   clear hb6 y4
   go_wp2_with fail
   refine⟨by simp,.inl ⟨_,_,rfl,run_takeDeferred HD6.out,?_⟩⟩
   refine⟨_,results_tmp2 rfl _ _ _,?_⟩
   exact⟨by rw[HWr.out,hR];rfl,HB6.out.trans ((Kept.putObj w6 w5.heap.size (.deferred none)).below (fun p hp=>by show p≠w5.heap.size;omega) HB6.out.size)⟩
end Go.Proofs.YtgfghffihjfbpaaGreatDoor
