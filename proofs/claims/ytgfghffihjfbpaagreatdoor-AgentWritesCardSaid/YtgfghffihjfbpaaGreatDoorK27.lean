/- lemmas for agentWrites_holds: AGC. No conditions. -/
import Derived.Test.YtgfghffihjfbpaaGreatDoorK26
set_option linter.unusedVariables false
set_option linter.unusedSimpArgs false
namespace Go.Proofs.YtgfghffihjfbpaaGreatDoor
open Go.RowKit Go.Shelf
attribute [local go_sem] Oper.semAt_some
theorem enters_rows1:∀args w,(callFunc 48 args).run Tryz.prog w= .ok (.enter 48 args) w:=enters_of Tryz.func48 (by kernel_rfl) rfl
structure BdI (w0:World) (b2 b3 Z k:Nat) (X:Nat→Prop) (W:World):Prop where
 c2:Bx W b2 [.bool false]
 c3:Bx W b3 [.int .i64 k]
 bl:Below w0.heap.size w0 W
 xge:∀p,X p→Z≤p
 zle:Z≤W.heap.size
theorem BdI.kept {w0:World} {b2 b3 Z k:Nat} {X X' R:Nat→Prop} {W W':World} (h:BdI w0 b2 b3 Z k X W) (hk:Kept R W W') (h2:R b2) (h3:R b3) (h0:∀p,p < w0.heap.size→R p) (hX:∀p,X' p→X p∨W.heap.size≤p):BdI w0 b2 b3 Z k X' W':=
 ⟨h.c2.kept hk h2,h.c3.kept hk h3,h.bl.trans (hk.below h0 h.bl.size),fun p hp=>by rcases hX p hp with h' | h';exact h.xge p h';have:=h.zle;omega,Nat.le_trans h.zle hk.size⟩
theorem all_snoc {L:List (Nat×List Int)} {k:Nat} {r:Nat×List Int} (h:L[k]?=some r):(L.take (k+1)).all rowOk=((L.take k).all rowOk && rowOk r):=by
 rw[take_snoc h,List.all_append]
 simp
def RowsOk (L:List (Nat×List Int)) (k:Nat):Prop:=(L.take k).all rowOk=true
def RowBox (L:List (Nat×List Int)) (Z bh k:Nat) (W:World):Prop:=∃kd:Kid,Bx W bh [.string ⟨(letB (L.getD k (0,[])).1).toArray⟩,.string ⟨(worB (L.getD k (0,[])).1).toArray⟩,.func (.func (allF (L.getD k (0,[])).1)) #[] #[],.func (.func (addF (L.getD k (0,[])).1)) #[] #[],.slice kd.A kd.n kd.c]∧kd.xs=(L.getD k (0,[])).2∧KidOk W (fun p=>Z≤p) kd
theorem RowBox.kept {L:List (Nat×List Int)} {Z bh k:Nat} {W W':World} {R:Nat→Prop} (h:RowBox L Z bh k W) (hk:Kept R W W') (h1:R bh) (h2:∀p,Z≤p→R p):RowBox L Z bh k W':=by
 obtain⟨kd,h3,h4,h5⟩:=h
 exact⟨kd,h3.kept hk h1,h4,h5.kept hk h2⟩
set_option maxHeartbeats 4000000 in
set_option maxRecDepth 100000 in
theorem ag_bound (b:Bo) (w:World) (hok:b.ok w) :
 Calls Tryz.prog 17 #[.agg #[.slice b.A1 b.n1 b.c1,.slice b.A2 b.n2 b.c2,.slice b.A3 b.n3 b.c3,.slice b.A4 b.n4 b.c4]] w fun e w'=>e= .returned (.bool b.boundB)∧Below w.heap.size w w':=by
 obtain⟨b1,w1,e1,ew1,hx1,hb1,hz1⟩:=mk_bx w #[.slice b.A1 b.n1 b.c1,.slice b.A2 b.n2 b.c2,.slice b.A3 b.n3 b.c3,.slice b.A4 b.n4 b.c4] 27
 obtain⟨b2,w2,e2,ew2,hx2,hb2,hz2⟩:=mk_bx w1 #[.bool false] 4
 obtain⟨b3,w3,e3,ew3,hx3,hb3,hz3⟩:=mk_bx w2 #[.int .i64 0] 3
 have h12:b1+1=b2:=by have:=e2.out;omega
 have h23:b2+1=b3:=by have:=e3.out;omega
 have hw1:w.heap.size=b1:=e1.out
 have hB3:=(hb1.trans (hb2.mono hb1.size)).trans (hb3.mono (hb1.trans (hb2.mono hb1.size)).size)
 have H2:=hide (hx2.bel hb3);have H3:=hide hx3
 obtain⟨q0,q1,q2,q3⟩:=((hx1.bel hb2).bel hb3).at_.c4
 have HB3:=hide hB3;have Hok:=hide hok
 have H12:=hide h12;have H23:=hide h23;have Hw1:=hide hw1;have Hz3:=hide hz3
 have E1:=hide enters_rows1
 clear hx1 hb1 hz1 hx2 hb2 hz2 hx3 hb3 hz3 hB3 hok h12 h23 hw1
 refine(callsIn_wide (n:=9)).1 ?_
 refine callsIn_of_wp_marks Tryz.func17 rfl trivial ?_ rfl
 simp only[Tryz.ntmps17,List.size_toArray,List.length_cons,List.length_nil,Nat.reduceAdd,Nat.reduceSub,Array.replicate_succ,Array.replicate_zero,List.push_toArray,List.append_toArray,List.nil_append,List.cons_append]
 refine wpIn_wide.2 ?_
 go_upto_region 2 with fail
 rw[ew1.out,e1.out,H12.out,ew2.out,H23.out,ew3.out]
 clear ew1 ew2 ew3 e1 e2 e3
 go_wp2_with fail
 refine(agrows_fn b w3).mono ?_
 rintro e w4 ⟨q,rfl,hxq,hq,hb4⟩
 clear q0 q1 q2 q3
 have hX2:=hide (H2.out.bel hb4);have hX3:=hide (H3.out.bel hb4)
 have hq4:=hxq.lt
 have HB4:=hide (HB3.out.trans (hb4.mono HB3.out.size))
 have hs3:=Hz3.out;have h12:=H12.out;have h23:=H23.out;have hw1:=Hw1.out;have hs4:=hb4.size
 have hseq:=fun n hn=>agrows1_seq n hn (fun p=>p < b1∨p=q) q b w4 hxq (fun W hk=>Hok.out.bel (HB4.out.trans (hk.below (fun p hp=> .inl (by omega)) HB4.out.size))) (.inr rfl)
 obtain⟨N,hN⟩:∃N,b.rows.length=N:=⟨_,rfl⟩
 rw[hN] at hseq
 have HN:=hide hN
 clear hxq hb4 H2 H3 hN
 go_wp2_with fail
 refine(wpIn_wide (n:=9)).1 ?_
 refine wp_rangeX (gf:=48) rfl E1.out (hseq _ (by omega)) (Kept.all _ (Below.refl _ _)) (fun B k X G args W h=>by obtain⟨kd,h,_⟩:=h;rw[h];rfl) (fun p=>p=b2∨p=b3)
  (fun p h=>h.elim) (by intro p hp;omega) (by intro p hp;omega)
  (fun k X W=>BdI w b2 b3 (w4.heap.size+2) k X W∧k≤200∧RowsOk b.rows k)
  (fun c k X W=>c= .ret∧BdI w b2 b3 (w4.heap.size+2) k X W∧b.boundB=false)
  (fun k X G a W=>∃bh:Nat,(a.tmps.size=22∧a.defers=[]∧slot a 2= .pointer (some ⟨b2,0,none⟩)∧slot a 3= .pointer (some ⟨b3,0,none⟩)∧slot a 4= .pointer (some ⟨bh,0,none⟩))∧w4.heap.size+2≤bh∧RowBox b.rows (w4.heap.size+2) bh k W)
  (fun k X X' A B h hk hX=>⟨h.1.kept hk ⟨fun h'=>by have:=h.1.xge _ h';omega,by omega,by omega⟩ ⟨fun h'=>by have:=h.1.xge _ h';omega,by omega,by omega⟩ (fun p hp=>⟨fun h'=>by have:=h.1.xge _ h';omega,by omega,by omega⟩) hX,h.2⟩)
  (fun c k X X' A B h hk hX=>⟨h.1,h.2.1.kept hk ⟨fun h'=>by have:=h.2.1.xge _ h';omega,by omega,by omega⟩ ⟨fun h'=>by have:=h.2.1.xge _ h';omega,by omega,by omega⟩ (fun p hp=>⟨fun h'=>by have:=h.2.1.xge _ h';omega,by omega,by omega⟩) hX,h.2.2⟩)
  (fun k X G a A B h hk=>by
   obtain⟨bh,h1,h2,h3⟩:=h
   exact⟨bh,h1,h2,h3.kept hk (by omega) (fun p hp=>by omega)⟩)
  (fun W hk hs=>⟨⟨hX2.out.kept hk trivial,hX3.out.kept hk trivial,HB4.out.trans (hk.below (fun _ _=>trivial) HB4.out.size),fun p h=>h.elim,by omega⟩,by omega,rfl⟩)
  (fun h=>h.elim) ?assign ?body ?done ?stop ?panic
 case panic=>intro k chain X W h;exact h.elim
 case stop=>
  rintro c k X W hkN ⟨rfl,hinv,hbo⟩ hD
  have hk:=Kept.putObj W w4.heap.size (.deferred none)
  have hb:=hinv.bl.trans (hk.below (fun p hp=>by omega) hinv.bl.size)
  have y2:=(hinv.c2.kept hk (by omega)).at_.c1
  have HB:=hide hb;have HD:=hide hD
  clear hinv hk hb hD
  gi_wp2_with fail
  refine⟨by simp,.inl ⟨_,_,rfl,run_takeDeferred HD.out,?_⟩⟩
  refine⟨.bool false,by simp[results,Tryz.results17,go_sem,y2],by rw[hbo],HB.out⟩
 case done=>
  rintro X W ⟨hinv,hk200,hall⟩ hD
  have Hbo:=hide (show b.boundB=true by
   unfold Bo.boundB
   rw[decide_eq_true (by have:=HN.out;omega),Bool.true_and]
   have:(b.rows.take N).all rowOk=true:=hall
   rwa [List.take_of_length_le (by have:=HN.out;omega)] at this)
  have HD:=hide hD;have Hinv:=hide hinv
  have y2:=hinv.c2.at_.c1
  have f2:=hinv.c2.fz 0
  clear hall hD hinv
  go_wp2_with fail
  have k1:=Kept.setCell W ⟨b2,0,none⟩ (.bool true)
  have hk:=Kept.putObj (W.setCell ⟨b2,0,none⟩ (.bool true)) w4.heap.size (.deferred none)
  have hD2:(W.setCell ⟨b2,0,none⟩ (.bool true)).heap[w4.heap.size]?=some (.deferred (some [])):=(k1.same _ (by show w4.heap.size≠b2;omega) (by have:=Hinv.out.zle;omega)).trans HD.out
  refine⟨by simp,.inl ⟨_,_,rfl,run_takeDeferred hD2,?_⟩⟩
  have y3:=((Hinv.out.c2.set (j:=0) (.bool true) (by simp)).kept hk (by show b2≠w4.heap.size;omega)).at_.c1
  have hbb:=(Hinv.out.bl.trans (k1.below (fun p hp=>by show p≠b2;omega) Hinv.out.bl.size))
  refine⟨.bool true,by simp[results,Tryz.results17,go_sem,y3],by rw[Hbo.out],hbb.trans (hk.below (fun p hp=>by show p≠w4.heap.size;omega) hbb.size)⟩
 case assign=>
  rintro l k X G args W hi hz hk hXlt hXge ⟨kd,rfl,hxs,hko⟩
  have Hi:=hide hi;have Hko:=hide hko
  clear hi hko
  obtain⟨lb,hlb⟩:∃lb:ByteArray,lb=⟨(letB (b.rows.getD k (0,[])).1).toArray⟩:=⟨_,rfl⟩
  obtain⟨wb,hwb⟩:∃wb:ByteArray,wb=⟨(worB (b.rows.getD k (0,[])).1).toArray⟩:=⟨_,rfl⟩
  obtain⟨fa,hfa⟩:∃fa,fa=allF (b.rows.getD k (0,[])).1:=⟨_,rfl⟩
  obtain⟨fd,hfd⟩:∃fd,fd=addF (b.rows.getD k (0,[])).1:=⟨_,rfl⟩
  have Hrb:Hid (∀W',Kept (fun _=>True) W W'→∀bh,Bx W' bh [.string lb,.string wb,.func (.func fa) #[] #[],.func (.func fd) #[] #[],.slice kd.A kd.n kd.c]→RowBox b.rows (w4.heap.size+2) bh k W'):=hide (fun W' hk' bh hB=>⟨kd,by rw[←hlb,←hwb,←hfa,←hfd];exact hB,hxs,(Hko.out.kept hk' (fun _ _=>trivial)).mono fun _ _ hp=>hp.1⟩)
  unfold rowV
  rw[←hlb,←hwb,←hfa,←hfd]
  clear hlb hwb hfa hfd hxs Hko
  gi_wp2_with fail
  exact⟨Kept.alloc _ _ _,⟨Hi.out.1.kept (Kept.alloc (fun _=>True) _ _) trivial trivial (fun _ _=>trivial) (fun _ h=> .inl h),Hi.out.2⟩,⟨_,(by and_intros <;> first | rfl | trivial),hz,Hrb.out _ (Kept.alloc _ _ _) _ (Bx.new W _ _ _ rfl _ rfl)⟩⟩
 case body=>
  rintro l k X G a W ⟨hinv,hk200,hall⟩ ⟨bh,⟨hs,hd,s2,s3,s4⟩,hbh,hkd⟩ hz hk hXlt hXge
  rw[act_eq hs hd]
  obtain⟨u,hu⟩:∃u,u=slot a:=⟨_,rfl⟩
  rw[←hu] at s2 s3 s4 ⊢
  have he:({tmps:=((List.range 22).map u).toArray,defers:=[] }:Act)={tmps:=#[(u 0),(u 1),(u 2),(u 3),(u 4),(u 5),(u 6),(u 7),(u 8),(u 9),(u 10),(u 11),(u 12),(u 13),(u 14),(u 15),(u 16),(u 17),(u 18),(u 19),(u 20),(u 21)],defers:=[] }:=rfl
  rw[he,s2,s3,s4]
  clear he hs hd hu s2 s3 s4
  obtain⟨kd,hat,hxs,hko⟩:=hkd
  obtain⟨⟨i,xs⟩,hr⟩:∃r,r=b.rows.getD k (0,[]):=⟨_,rfl⟩
  rw[←hr] at hxs hat
  dsimp only at hxs hat
  subst hxs
  have hrk:b.rows[k]?=some (i,kd.xs):=by rw[hr,List.getD_eq_getElem?_getD,List.getElem?_eq_getElem (by have:=HN.out;omega)];rfl
  have hsn:=all_snoc hrk
  rw[show(b.rows.take k).all rowOk=true from hall,Bool.true_and] at hsn
  have hkb:=b.rows_kind (List.mem_of_getElem? hrk)
  have hkl:=Hok.out.nums_le i hkb.2
  dsimp only at hkl
  have HrN:=hide (show k < b.rows.length from(List.getElem?_eq_some_iff.1 hrk).1)
  have Hmem:=hide (List.mem_of_getElem? hrk)
  have Hsn:=hide hsn
  have Kn:=hide hko.n
  have g4:kd.n≤40:=by rw[Kn.out];exact hkl
  have HKD:=hide hko
  have Hinv:=hide hinv;have Hat:=hide hat
  have y3:W.cell? ⟨b3,0,none⟩=some (.int .i64 k):=hinv.c3.at_.c1
  have f3:=hinv.c3.fz 0
  have f2:=hinv.c2.fz 0
  clear hinv hat hko hrk hr hsn hkb hkl hall
  by_cases hk2:(200:Int) < (k:Int)+1
  ·have Hbo:=hide (show b.boundB=false by unfold Bo.boundB;rw[decide_eq_false (by have:=HrN.out;omega)];rfl)
   have y2:(W.setCell ⟨b3,0,none⟩ (.int .i64 ((k:Int)+1))).cell? ⟨b2,0,none⟩=some (.bool false):=(World.cell?_setCell_far _ _ _ _ (by show b3≠b2;omega)).trans Hinv.out.c2.at_.c1
   gi_wp2_with fail
   refine⟨trivial,?_⟩
   gi_wp2_with fail
   have h3:=Hinv.out.c3.set (j:=0) (.int .i64 ((k:Int)+1)) (by simp)
   have hk3:Kept (fun p=>p≠b3∧p≠b2) W ((W.setCell ⟨b3,0,none⟩ (.int .i64 ((k:Int)+1))).setCell ⟨b2,0,none⟩ (.bool false)):=((Kept.setCell W ⟨b3,0,none⟩ _).mono fun p _ hp=>hp.1).trans ((Kept.setCell _ ⟨b2,0,none⟩ _).mono fun p _ hp=>hp.2)
   have h2:=(Hinv.out.c2.kept (Kept.setCell W ⟨b3,0,none⟩ (.int .i64 ((k:Int)+1))) (by show b2≠b3;omega)).set (j:=0) (.bool false) (by simp)
   have h3':=h3.kept (Kept.setCell _ ⟨b2,0,none⟩ (.bool false)) (by show b3≠b2;omega)
   refine⟨hk3.mono fun p hp hr=>⟨fun e=>?_,fun e=>?_⟩,rfl,⟨h2,by rw[Int.natCast_add];exact h3',Hinv.out.bl.trans (hk3.below (fun p hp=>⟨by omega,by omega⟩) Hinv.out.bl.size),fun p hp=>Hinv.out.xge p (.inl hp),Nat.le_trans Hinv.out.zle hk3.size⟩,Hbo.out⟩
   ·rcases hr with h | h
    ·exact h.2 (.inr e)
    ·have:=Hinv.out.xge _ (.inl h);omega
   ·rcases hr with h | h
    ·exact h.2 (.inl e)
    ·have:=Hinv.out.xge _ (.inl h);omega
  ·have hk3:Kept (fun p=>p≠b3) W (W.setCell ⟨b3,0,none⟩ (.int .i64 ((k:Int)+1))):=Kept.setCell W ⟨b3,0,none⟩ _
   have h3:=Hinv.out.c3.set (j:=0) (.int .i64 ((k:Int)+1)) (by simp)
   obtain⟨wz,hwz⟩:∃wz,W.setCell ⟨b3,0,none⟩ (.int .i64 ((k:Int)+1))=wz:=⟨_,rfl⟩
   rw[hwz] at hk3 h3
   have hkz:=HKD.out.kept hk3 (fun p hp=>by omega)
   have hI3:BdI w b2 b3 (w4.heap.size+2) (k+1) X wz:=⟨Hinv.out.c2.kept hk3 (by omega),by rw[Int.natCast_add];exact h3,Hinv.out.bl.trans (hk3.below (fun p hp=>by omega) Hinv.out.bl.size),fun p hp=>Hinv.out.xge p (.inl hp),Nat.le_trans Hinv.out.zle hk3.size⟩
   have HI3:=hide hI3;have HK3:=hide hk3
   have hat3:=(Hat.out.kept hk3 (by omega)).at_
   have z1:=hat3.2 1 _ rfl
   have z4:=hat3.2 4 _ rfl
   clear hat3
   have HC:=hide (ag_known 0 ⟨(worB i).toArray⟩ kd.A kd.xs kd.n kd.c wz (by
    have:(worB i).length≤10:=by
     match i with
     | 0 | 1 | 2=>exact Nat.le_of_ble_eq_true rfl
     | m+3=>exact Nat.le_of_ble_eq_true rfl
    show(worB i).toArray.size≤maxLen
    unfold maxLen
    simp;omega) Kn.out (by omega) hkz.rd)
   have Hwz:=hide hwz
   have d1:decide ((200:Int) < (k:Int)+1)=false:=decide_eq_false hk2
   clear hkz hI3 hk3 h3 hwz HKD
   rw[←Hwz.out] at z1 z4
   have y2:=HI3.out.c2.at_.c1
   have f2:=HI3.out.c2.fz 0
   rw[←Hwz.out] at y2 f2
   gi_wp2_with fail
   rw[Hwz.out] at y2 f2 ⊢
   refine⟨trivial,(CallsIn.inRound l (callsIn_wide.2 HC.out)).mono ?_⟩
   rintro e w5 ⟨rfl,hb5⟩
   have HB5:=hide hb5
   have y2:=(HI3.out.c2.bel hb5).at_.c1
   have f2:=(HI3.out.c2.bel hb5).fz 0
   clear hb5 z1 z4 y3 f3
   have hrw:(cntB (⟨(worB i).toArray⟩:ByteArray).data.toList (kd.n:Int) && !anyOut (-1000000000000) 1000000000000 kd.xs)=rowOk (i,kd.xs):=by
    unfold rowOk;rw[Kn.out]
   rw[hrw]
   have K5:=hide (HK3.out.trans (Kept.all _ HB5.out))
   have I5:=hide (HI3.out.kept (X':=X) (Kept.all (fun _=>True) HB5.out) trivial trivial (fun _ _=>trivial) (fun _ h=> .inl h))
   clear hrw
   cases hro:rowOk (i,kd.xs)
   ·have Hbo:=hide (show b.boundB=false by
     unfold Bo.boundB
     cases ha:b.rows.all rowOk
     ·rw[Bool.and_false]
     ·have:=List.all_eq_true.1 ha _ Hmem.out
      rw[hro] at this;cases this)
    gi_wp2_with fail
    have hk5:Kept (fun p=>p≠b3∧p≠b2) W (w5.setCell ⟨b2,0,none⟩ (.bool false)):=(K5.out.mono fun p _ hp=>hp.1).trans ((Kept.setCell w5 ⟨b2,0,none⟩ _).mono fun p _ hp=>hp.2)
    have kb:=Kept.setCell w5 ⟨b2,0,none⟩ (.bool false)
    refine⟨hk5.mono fun p hp hr=>⟨fun e=>?_,fun e=>?_⟩,rfl,⟨I5.out.c2.set (j:=0) (.bool false) (by simp),I5.out.c3.kept kb (by show b3≠b2;omega),I5.out.bl.trans (kb.below (fun p hp=>by show p≠b2;omega) I5.out.bl.size),I5.out.xge,Nat.le_trans I5.out.zle kb.size⟩,Hbo.out⟩
    ·rcases hr with h | h
     ·exact h.2 (.inr e)
     ·have:=Hinv.out.xge _ (.inl h);omega
    ·rcases hr with h | h
     ·exact h.2 (.inl e)
     ·have:=Hinv.out.xge _ (.inl h);omega
   ·have hso:RowsOk b.rows (k+1):=by
     show(b.rows.take (k+1)).all rowOk=true
     rw[Hsn.out,hro]
    gi_wp2_with fail
    refine⟨K5.out.mono fun p hp hr e=>?_,I5.out,by omega,hso⟩
    rcases hr with h | h
    ·exact h.2 (.inr e)
    ·have:=Hinv.out.xge _ (.inl h);omega
end Go.Proofs.YtgfghffihjfbpaaGreatDoor
