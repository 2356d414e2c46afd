/- lemmas for topFed_holds: F16 F17. No conditions. -/
import Derived.Test.YtiioegopckoldaaGreatDoorK13
import Derived.Test.YtiioegopckoldaaGreatDoorK09
set_option linter.unusedVariables false
set_option linter.unusedSimpArgs false
namespace Go.Proofs.YtiioegopckoldaaGreatDoor
open Go.RowKit Go.Shelf
attribute [local go_sem] Oper.semAt_some
theorem set_same {α:Type} {l:List α} {i:Nat} {x:α} (h:l[i]?=some x):l.set i x=l:=by
 apply List.ext_getElem?
 intro j
 by_cases e:i=j
 ·subst e
  rw[List.getElem?_set_self (List.getElem?_eq_some_iff.1 h).1,h]
 ·rw[List.getElem?_set_ne e]
theorem sp_eq {a b:Sp} (h1:a.lo=b.lo) (h2:a.hi=b.hi):a=b:=by cases a;cases b;simp_all
theorem ne_ite {y f:Sp} {α:Type} {a b:α} (h:¬y=f):(if y.lo=f.lo then(if y.hi=f.hi then a else b) else b)=b:=by
 split
 ·rename_i h1;split
  ·rename_i h2;exact absurd (sp_eq h1 h2) h
  ·rfl
 ·rfl
theorem rcall {l n:Nat} {P:Program} {f:FuncId} {args:Array Value} {w:World} {R:Ending→World→Prop} (h:Calls P f args w R):(Fence.wide.inRound l).fn f∧CallsIn (Fence.wide.inRound l) n P f args w R:=
 ⟨trivial,CallsIn.inRound l (callsIn_wide.2 h)⟩
def UpInv (g:List Rc) (rd:List Sp) (s:Sp) (m:Nat) (F:List Sp):Prop:=
 F.length=g.length+1∧F.take m=((List.range (g.length+1)).map (dnK g rd s)).take m∧flowsF (g.drop m) (rd.drop m) (inK g rd s m)=some (F.drop m)
theorem UpInv.start {g:List Rc} {rd:List Sp} {s:Sp} (h:okS (dnK g rd s g.length)):UpInv g rd s g.length ((List.range (g.length+1)).map (dnK g rd s)):=by
 refine⟨by simp,rfl,?_⟩
 rw[flowsF_last g rd s h,List.range_succ,List.map_append,List.drop_left' (by simp)]
 rfl
theorem UpInv.step {g:List Rc} {rd:List Sp} {s:Sp} {m:Nat} {F:List Sp} {r:Rc} (h:UpInv g rd s (m+1) F) (hr:g[m]?=some r) (hok:okS (dnK g rd s m)):∃t,F[m]?=some (dnK g rd s m)∧F[m+1]?=some t∧UpInv g rd s m (F.set m (upS r (dnK g rd s m) t))∧
 ((∀r∈g,r.fine)→(leastF r (dnK g rd s m).lo≤t.lo∧t.lo≤t.hi∧t.hi≤mostF r (dnK g rd s m).hi)):=by
 obtain⟨hl,ht,hf⟩:=h
 have hm:m < g.length:=(List.getElem?_eq_some_iff.1 hr).1
 have h1:F[m+1]?=some F[m+1]:=List.getElem?_eq_getElem (by omega)
 have h0:F[m]?=some (dnK g rd s m):=by
  have e1:(F.take (m+1))[m]?=F[m]?:=by rw[List.getElem?_take,if_pos (by omega)]
  rw[←e1,ht,List.getElem?_take,if_pos (by omega),List.getElem?_map,List.getElem?_range (by omega)]
  rfl
 have hd:F.drop (m+1)=F[m+1] :: F.drop (m+1+1):=List.drop_eq_getElem_cons (by omega)
 refine⟨F[m+1],h0,h1,⟨by simp[hl],?_,?_⟩,fun hfine=>?_⟩
 ·rw[List.take_set_of_le (by omega)]
  have e2:F.take m=(F.take (m+1)).take m:=by rw[List.take_take,Nat.min_eq_left (by omega)]
  rw[e2,ht,List.take_take,Nat.min_eq_left (by omega)]
 ·rw[hd] at hf
  have h5:=flowsF_up g rd s m r hr _ _ hok hf
  rw[h5,List.drop_set,if_neg (by omega),Nat.sub_self]
  have h6:F.drop m=dnK g rd s m :: F[m+1] :: F.drop (m+1+1):=by
   rw[List.drop_eq_getElem_cons (by omega),hd]
   congr 1
   rw[List.getElem?_eq_getElem (by omega)] at h0
   injection h0
  rw[h6];rfl
 ·obtain⟨t',l',e,a1,a2,a3⟩:=flowsF_head _ _ _ _ (fun r hr=>hfine r (List.mem_of_mem_drop hr)) hf
  rw[hd] at e
  injection e with e _
  rw[←e] at a1 a2 a3
  rw[inK_succ,show g.getD m Rc.zero=r by rw[List.getD_eq_getElem?_getD,hr];rfl] at a1 a3
  obtain⟨b1,b2⟩:=cutS_sub (a:=outS r (dnK g rd s m)) (b:=(rd.drop (m+1)).headD allS)
  exact⟨Int.le_trans b1 a1,a2,Int.le_trans a3 b2⟩
theorem UpInv.done {g:List Rc} {rd:List Sp} {s:Sp} {F:List Sp} (h:UpInv g rd s 0 F):flowsF g rd s=some F:=by
 have:=h.2.2
 simpa[inK] using this
set_option maxHeartbeats 4000000 in
set_option maxRecDepth 100000 in
theorem fit_ok (Aa Ar:Option Addr) (n ca cr:Nat) (g:List Rc) (rd:List Sp) (s:Sp) (w:World) (hg:Rd w w.heap.size Rc.cells Aa g) (hr:Rd w w.heap.size Sp.cells Ar rd) (hn:n=g.length) (hn2:n≤20) (hrl:rd.length=n+1) (hfine:∀r∈g,r.fine)
 (hrd:∀x∈rd,0≤x.lo∧x.lo≤13000000∧0≤x.hi∧x.hi≤13000000) (hs:s.fine 1000000) (hok:∀k,k≤n→okS (dnK g rd s k)) :
 Calls Tryz.prog 33 #[.agg #[.slice Aa n ca,.slice Ar (n+1) cr],.agg #[.int .i64 s.lo,.int .i64 s.hi]] w (FitPost g rd s w):=by
 obtain⟨b2,w1,e2,ew1,hx2,hb1,hz1⟩:=mk_bx w #[.slice Aa n ca,.slice Ar (n+1) cr] 109
 obtain⟨b3,w2,e3,ew2,hx3,hb2,hz2⟩:=mk_bx w1 #[.int .i64 s.lo,.int .i64 s.hi] 24
 obtain⟨b4,w3,e4,ew3,hx4,hb3,hz3⟩:=mk_bx w2 #[.slice none 0 0] 35
 obtain⟨b5,w4,e5,ew4,hx5,hb4,hz4⟩:=mk_bx w3 #[.bool false] 4
 have i3:b3=b2+1:=by have:=e3.out;omega
 subst i3
 have i4:b4=b2+1+1:=by have:=e4.out;omega
 subst i4
 have i5:b5=b2+1+1+1:=by have:=e5.out;omega
 subst i5
 have i2:w.heap.size=b2:=e2.out
 have hB4:=((hb1.trans (hb2.mono hb1.size)).trans (hb3.mono (hb1.trans (hb2.mono hb1.size)).size)).trans (hb4.mono ((hb1.trans (hb2.mono hb1.size)).trans (hb3.mono (hb1.trans (hb2.mono hb1.size)).size)).size)
 obtain⟨bc,w5,ec,ew5,hxc,hb5,hz5⟩:=mk_bx w4 #[.slice Aa n ca,.slice Ar (n+1) cr] 109
 obtain⟨bi,w6,ei,ew6,hxi,hb6,hz6⟩:=mk_bx w5 #[.int .i64 s.lo,.int .i64 s.hi] 24
 have j1:bi=bc+1:=by have:=ei.out;omega
 subst j1
 have j2:w4.heap.size=bc:=ec.out
 have hb46:=hb5.trans (hb6.mono hb5.size)
 have hB6:=hB4.trans (hb46.mono hB4.size)
 have hs6:w.heap.size≤w6.heap.size:=hB6.size
 have HC:=hide (collect_sp 156 #[.pointer (some ⟨bc+1,0,none⟩),.pointer (some ⟨bc,0,none⟩)] (dnK g rd s) (n+1) True (TornAt n (n+1)) (fun b=>b < w.heap.size∨b=bc+1∨b=bc) w6 enters_down1
  (fun n0 hn0=>down1_seq n0 hn0 (bc+1) bc Aa Ar n ca cr g rd s w.heap.size w6 (n+1) True hs6 hxi.at_ (hxc.bel hb6).at_ (hg.below hB6) (hr.below hB6) hn hn2 hrl hfine hrd hs (fun k hk=>hok k (by omega)) (.inl ⟨rfl,trivial⟩)) (fun b hb=>by omega) (by omega))
 have hmf:∀(fn:Fn) (first cap:Array Value) (w:World),(Instr.makeFunc fn first cap).run Tryz.prog w= .ok (.func fn first cap) w:=fun _ _ _ _=>rfl
 have hx24:=((hx2.bel hb2).bel hb3).bel hb4
 have hx34:=(hx3.bel hb3).bel hb4
 have hx44:=hx4.bel hb4
 obtain⟨q0,q1,_,_⟩:=hx24.w2
 obtain⟨q2,q3,_,_⟩:=hx34.w2
 have Hn:=hide hn;have Hg:=hide hg;have Hfine:=hide hfine;have Hok:=hide hok
 have Hbd:=hide (dnK_bd hfine hrd hs)
 clear hg hr hfine hrd hs hok hrl hx2 hx3 hx4 hz1 hz2 hz3 hz4 hz5 hz6 hn
 refine(callsIn_wide (n:=12)).1 ?_
 refine callsIn_of_wp_marks Tryz.func33 rfl trivial ?_ rfl
 simp only[Tryz.ntmps33,List.size_toArray,List.length_cons,List.length_nil,Nat.reduceAdd,Nat.reduceSub,Array.replicate_succ,Array.replicate_zero,List.push_toArray,List.append_toArray,List.nil_append,List.cons_append]
 gi_wp2_with fail
 rw[ew1.out,ew2.out,ew3.out,ew4.out]
 refine wcall ((down_fn Aa Ar n (n+1) ca cr s.lo s.hi w4).mono ?_)
 rintro e wd ⟨rfl,hw⟩
 rw[ew5.out,ew6.out] at hw
 subst hw
 rw[j2]
 gi_wp2_with fail
 refine wcall (HC.out.mono ?_)
 rintro e w7 (⟨_,v,rfl,ho7,hb7⟩ | ⟨chain,k,rfl,⟨hbad,_⟩,_⟩)
 rotate_left
 ·omega
 obtain⟨A7,c7,rfl,hrd7⟩:=ho7.rdn (n+1) (by simp)
 have hA7:∃gf,A7=some ⟨gf,0,none⟩∧wd.heap.size≤gf∧gf < w7.heap.size:=by
  obtain⟨_,h | ⟨q,cap,cur,hv,hq,hq2,_⟩⟩:=ho7
  ·have:=h.2;simp at this
  ·injection hv with h1 h2 h3
   exact⟨q,h1,hq,(Array.getElem?_eq_some_iff.1 hq2).1⟩
 obtain⟨gf,rfl,hgf1,hgf2⟩:=hA7
 have hx47:=(hx44.bel hb46).bel hb7
 have hx57:=(hx5.bel hb46).bel hb7
 have hx27:=(hx24.bel hb46).bel hb7
 have hB7:=hB6.trans (hb7.mono hB6.size)
 obtain⟨p0,y0⟩:=hx47.w1
 obtain⟨v0,v1,_,_⟩:=hx27.w2
 have l47:=hx47.lt
 have l27:=hx27.lt
 have i6:bc+1 < wd.heap.size:=hxi.lt
 have i7:b2+1+1+1 < bc:=by have:=hx5.lt;omega
 clear hrd7
 gi_wp2_with fail
 refine wcall (calls_gen fun w8 Hw8=>?_)
 have hk8:Kept (fun b=>b≠b2+1+1) w7 w8:=by rw[←Hw8.out];exact Kept.setCell w7 ⟨b2+1+1,0,none⟩ _
 have hx48:Bx w8 (b2+1+1) [.slice (some ⟨gf,0,none⟩) (n+1) c7]:=by rw[←Hw8.out];simpa using hx47.set (j:=0) (.slice (some ⟨gf,0,none⟩) (n+1) c7) (by simp)
 have hx58:=hx57.kept hk8 (by omega)
 have ho8:=ho7.keptG hk8 (fun g hg=>by have:=(ho7.blockG hg).1;omega)
 have hB8:=hB7.trans (hk8.below (fun b hb=>by omega) hB7.size)
 have hs8:=hk8.size
 obtain⟨bs,w9,es,ew9,hxs,hb9,hz9⟩:=mk_bx w8 #[.slice Aa n ca] 107
 refine(back_fn Aa n ca w8).mono ?_
 rintro e w10 ⟨rfl,hw⟩
 rw[ew9.out] at hw
 subst hw
 rw[es.out]
 have ebs:w8.heap.size=bs:=es.out
 have hx49:=hx48.bel hb9
 have hx59:=hx58.bel hb9
 have ho9:=ho8.bel hb9
 have hB9:=hB8.trans (hb9.mono hB8.size)
 have hlt9:w.heap.size < w10.heap.size:=by have:=hB8.size;omega
 have hseq:=fun n0 hn0=>back1_seq n0 hn0 bs Aa n ca g w.heap.size w10 (by omega) hxs.at_ (Hg.out.below hB9) Hn.out hn2
 clear hx48 hx58 ho8 hk8 hx47 hx57 ho7 hb7 p0 y0 v0 v1 hx27 HC
 gi_wp2_with fail
 have E1:=hide enters_back1
 refine wp_range (gf:=157) rfl E1.out (hseq _ (by omega)) (Kept.all _ (Below.refl _ _)) (fun _=>rfl) (fun b=>b=gf)
  (fun b h=>h.elim) (by intro b hb;omega) (by intro b hb;omega)
  (fun k Wz=>∃F,Own Wz w.heap.size 24 2 Sp.cells (.slice (some ⟨gf,0,none⟩) (n+1) c7) F∧UpInv g rd s (n-k) F∧Kept (fun b=>b < w10.heap.size∧b≠gf) w10 Wz)
  (fun c k Wz=>False)
  (fun k a Wz=>∃b7,(a.tmps.size=56∧a.defers=[]∧slot a 4= .pointer (some ⟨b2+1+1,0,none⟩)∧slot a 6= .int .i64 ((n-1-k:Nat):Int)∧slot a 7= .pointer (some ⟨b7,0,none⟩))∧At Wz b7 [.int .i64 (g.getD (n-1-k) Rc.zero).cap.lo,.int .i64 (g.getD (n-1-k) Rc.zero).cap.hi,.int .i64 (g.getD (n-1-k) Rc.zero).leak.lo,.int .i64 (g.getD (n-1-k) Rc.zero).leak.hi,.int .i64 (g.getD (n-1-k) Rc.zero).gain.lo,.int .i64 (g.getD (n-1-k) Rc.zero).gain.hi]∧w10.heap.size+2≤b7)
  (fun k A B h hk=>by
   obtain⟨F,h1,h2,h3⟩:=h
   exact⟨F,h1.keptG hk (fun q hq=>by simp[Value.ownBlock] at hq;exact⟨fun h=>h,by omega,by omega⟩),h2,h3.trans (hk.mono fun b _ hb=>⟨fun h=>h,by omega,by omega⟩)⟩)
  (fun c k A B h hk=>h)
  (fun k a A B h hk=>by
   obtain⟨b7,h1,h6,h7⟩:=h
   exact⟨b7,h1,h6.kept hk (by omega),h7⟩)
  (fun Wz hk hs=>⟨_,(ho9.keptG hk (fun _ _=>trivial)).mono (by omega),by rw[Nat.sub_zero,Hn.out];exact UpInv.start (Hok.out _ (by rw[Hn.out];exact Nat.le_refl _)),hk.mono fun _ _ _=>trivial⟩)
  (fun h=>h.elim) ?assign ?body ?done ?stop ?panic
 case panic=>intro k chain Wz h;exact h.elim
 case stop=>intro c k Wz hk h;exact h.elim
 case assign=>
  intro l k Wz hi hz hk
  simp only[rcAgg]
  have Hi:=hide hi
  clear hi
  generalize g.getD (n-1-k) Rc.zero=rk
  generalize n-1-k=m
  gi_wp2_with fail
  obtain⟨F,h1,h2,h3⟩:=Hi.out
  have hka:=Kept.alloc (fun _=>True) Wz (.cells #[.int .i64 rk.cap.lo,.int .i64 rk.cap.hi,.int .i64 rk.leak.lo,.int .i64 rk.leak.hi,.int .i64 rk.gain.lo,.int .i64 rk.gain.hi] 114)
  exact⟨Kept.alloc _ _ _,⟨F,h1.keptG hka (fun _ _=>trivial),h2,h3.trans (hka.mono fun _ _ _=>trivial)⟩,_,(by and_intros <;> first | rfl | trivial),At.new Wz _ _ _ rfl _ rfl,hz⟩
 case body=>
  rintro l k a Wz ⟨F,hF,hU,hkz⟩ ⟨b7,⟨hs,hd,s4,s6,s7⟩,h7,hb7⟩ hz hk
  rw[act_eq hs hd]
  obtain⟨u,hu⟩:∃u,u=slot a:=⟨_,rfl⟩
  rw[←hu] at s4 s6 s7 ⊢
  have he:({tmps:=((List.range 56).map u).toArray,defers:=[] }:Act)={tmps:=#[(u 0),(u 1),(u 2),(u 3),(u 4),(u 5),(u 6),(u 7),(u 8),(u 9),(u 10),(u 11),(u 12),(u 13),(u 14),(u 15),(u 16),(u 17),(u 18),(u 19),(u 20),(u 21),(u 22),(u 23),(u 24),(u 25),(u 26),(u 27),(u 28),(u 29),(u 30),(u 31),(u 32),(u 33),(u 34),(u 35),(u 36),(u 37),(u 38),(u 39),(u 40),(u 41),(u 42),(u 43),(u 44),(u 45),(u 46),(u 47),(u 48),(u 49),(u 50),(u 51),(u 52),(u 53),(u 54),(u 55)],defers:=[] }:=rfl
  rw[he,s4,s6,s7]
  clear he hs hd hu s4 s6 s7
  obtain⟨m,hm⟩:∃m,n-k=m+1:=⟨n-k-1,by omega⟩
  have em:n-1-k=m:=by omega
  have hmn:m < n:=by omega
  rw[em] at h7 ⊢
  rw[hm] at hU
  obtain⟨r,hrg⟩:∃r,g[m]?=some r:=⟨_,List.getElem?_eq_getElem (by rw[←Hn.out];exact hmn)⟩
  have er:g.getD m Rc.zero=r:=by rw[List.getD_eq_getElem?_getD,hrg];rfl
  rw[er] at h7
  have hokm:=Hok.out m (by omega)
  obtain⟨t,hf0,hf1,hU2,hb⟩:=hU.step hrg hokm
  have hrf:=Hfine.out r (List.mem_of_getElem? hrg)
  obtain⟨hb1',hb2',hb3'⟩:=hb Hfine.out
  have hbd:=(Hbd.out m (by rw[←Hn.out];omega) (fun j hj=>Hok.out j (by omega))).2
  obtain⟨f,hfe⟩:∃f,f=dnK g rd s m:=⟨_,rfl⟩
  rw[←hfe] at hf0 hU2 hb1' hb3' hbd hokm
  unfold okS at hokm
  have hFl:n+1=F.length:=by rw[hU.1,Hn.out]
  have HFl:=hide hFl;have HU2:=hide hU2;have Hrf:=hide hrf;have Hf0:=hide hf0;have Hf1:=hide hf1;have Hm:=hide hm;have Hkz:=hide hkz;have HF:=hide hF
  have hx4z:=hx49.kept hkz ⟨by omega,by omega⟩
  obtain⟨p0,y0⟩:=hx4z.w1
  obtain⟨c0,c1,_,_⟩:=gown_sp hF hf1 hFl
  obtain⟨d0,d1,_,_⟩:=gown_sp hF hf0 hFl
  have ib1:(m:Int)+1 < (n:Int)+1:=by omega
  have ib2:IntKind.i64.wrap ((m:Int)+1)=(m:Int)+1:=wrapI (by omega)
  have ib3:0≤(m:Int)+1:=by omega
  have ib4:(m:Int) < (n:Int)+1:=by omega
  have lz:=hx4z.lt
  have lgf:gf < Wz.heap.size:=by have:=hkz.size;omega
  clear hF hU hkz hm em hrg er hf0 hf1 hU2 hb hrf hfe hFl i2 j2 ebs hz9
  gi_wp2_with fail
  obtain⟨b8,V1,e8,ev1,hx8,hV1,hzV1⟩:=mk_bx Wz #[.int .i64 t.lo,.int .i64 t.hi] 24
  rw[ev1.out,e8.out]
  have h71:=h7.bel hV1
  refine rcall ((search_any 91 #[.pointer (some ⟨b7,0,none⟩),.pointer (some ⟨b8,0,none⟩)] (fun n=>decide (t.lo≤mostF r n)) f.lo f.hi V1 hbd.1 hokm hbd.2.2.2 enters_fit2
   (fun n W h1 h2 hW=>fit2_any n b7 b8 r t W (h71.below hW) (hx8.at_.below hW) (by omega) Hrf.out)).mono ?_)
  rintro e V2 ⟨q1,rfl,hq1,hq2,hq3,hV2⟩
  have eq1:q1=(upS r f t).lo:=up_lo hokm hq1 (fun h=>by simpa using hq2 h) (fun h=>by simpa using hq3 h) (Int.le_trans hb2' hb3')
  rw[eq1]
  have hV02:=hV1.trans (hV2.mono hV1.size)
  have hx82:=hx8.bel hV2
  have h72:=h71.bel hV2
  have hF2:=HF.out.bel hV02
  obtain⟨p0,y0⟩:=(hx4z.bel hV02).w1
  obtain⟨d0,d1,_,_⟩:=gown_sp hF2 Hf0.out HFl.out
  clear hq1 hq2 hq3 eq1 c0 c1
  gi_wp2_with fail
  refine rcall ((search_any 92 #[.pointer (some ⟨b7,0,none⟩),.pointer (some ⟨b8,0,none⟩)] (fun n=>decide (t.hi < leastF r n)) f.lo f.hi V2 hbd.1 hokm hbd.2.2.2 enters_fit3
   (fun n W h1 h2 hW=>fit3_any n b7 b8 r t W (h72.below hW) (hx82.at_.below hW) (by omega) Hrf.out)).mono ?_)
  rintro e V3 ⟨q2,rfl,hq1,hq2,hq3,hV3⟩
  have eq2:q2-1=(upS r f t).hi:=up_hi hokm hq1 (fun h=>by simpa using hq2 h) (fun h=>by simpa using hq3 h) (Int.le_trans hb1' hb2')
  have wq:IntKind.i64.wrap (q2-1)=(upS r f t).hi:=by rw[←eq2];exact wrapI (by omega)
  have hV03:=hV02.trans (hV3.mono hV02.size)
  have hF3:=HF.out.bel hV03
  have hx43:=hx4z.bel hV03
  obtain⟨u1,u2,u3⟩:=up_ok Hrf.out hokm hb2' hb1' hb3'
  obtain⟨y,hy⟩:∃y,y=upS r f t:=⟨_,rfl⟩
  rw[←hy] at wq u1 u2 u3 HU2 ⊢
  clear hq1 hq2 hq3 eq2 p0 y0 d0 d1 hF2 hx82 h72 h71 hx8 hy
  gi_wp2_with fail
  obtain⟨b11,V4,e11,ev4,hx11,hV4,hzV4⟩:=mk_bx V3 #[.int .i64 y.lo,.int .i64 y.hi] 24
  rw[ev4.out,e11.out]
  have hV04:=hV03.trans (hV4.mono hV03.size)
  have hF4:=HF.out.bel hV04
  have hx44z:=hx4z.bel hV04
  obtain⟨d0,d1,_,_⟩:=gown_sp hF4 Hf0.out HFl.out
  have lgf4:gf < V4.heap.size:=by have:=hV04.size;omega
  by_cases hyf:y=f
  ·have hyf1:y.lo=f.lo:=by rw[hyf]
   have hyf2:y.hi=f.hi:=by rw[hyf]
   have Hyf:=hide hyf
   rw[hyf1,hyf2] at hx11 ⊢
   clear hyf hyf1 hyf2
   refine wpIn_region_S (S:=(fun W=>Below V4.heap.size V4 W)) (z:=6) (by kernel_rfl) (by(try dsimp only);exact(Below.refl _ _).drew) (fun hHeld=>?_)
   generalize World.drew V4=Wd10 at hHeld ⊢
   have hbc:=Below.refl Wd10.heap.size Wd10
   iterate 2
    refine tkSl [0,1] ?_ rfl rfl (Or.inl ⟨by rfl,?_⟩) hHeld ?_
    rotate_left
    ·(intro w hSw;(try dsimp only at hSw);obtain⟨x0,x1,_,_⟩:=(hx11.below hSw).w2;obtain⟨p0,_⟩:=(hx44z.below hSw).w1;have d0:=(hSw.cell (p:=⟨gf,m*2,none⟩) lgf4).trans d0;have d1:=(hSw.cell (p:=⟨gf,m*2+1,none⟩) lgf4).trans d1;go_simp;try(with_reducible rfl))
    try simp only[Act.put,tl1,tl2,tl3]
   iterate 2
    refine tkSl [2,3] ?_ rfl rfl (Or.inl ⟨by rfl,?_⟩) hHeld ?_
    rotate_left
    ·(intro w _;go_simp;try(with_reducible rfl))
    try simp only[Act.put,tl1,tl2,tl3]
   refine tkS 4 ?_ rfl (Or.inl ⟨by rfl,?_⟩) hHeld ?_
   rotate_left
   ·(intro w hSw;(try dsimp only at hSw);obtain⟨x0,x1,_,_⟩:=(hx11.below hSw).w2;obtain⟨p0,_⟩:=(hx44z.below hSw).w1;have d0:=(hSw.cell (p:=⟨gf,m*2,none⟩) lgf4).trans d0;have d1:=(hSw.cell (p:=⟨gf,m*2+1,none⟩) lgf4).trans d1;go_simp;try(with_reducible rfl))
   try simp only[Act.put,tl1,tl2,tl3]
   refine tkS 5 ?_ rfl (Or.inl ⟨by rfl,?_⟩) hHeld ?_
   rotate_left
   ·(intro w _;go_simp;try(with_reducible rfl))
   try simp only[Act.put,tl1,tl2,tl3]
   refine wpAnyS_done (by kernel_rfl) ?_ _
   gi_wp2_with fail
   have hK4:=Kept.all (fun b=>b < w10.heap.size+2∧¬b=gf) (hV04.trans (hHeld.mono hV04.size))
   refine⟨hK4,F,HF.out.bel (hV04.trans (hHeld.mono hV04.size)),?_,Hkz.out.trans (Kept.all _ (hV04.trans (hHeld.mono hV04.size)))⟩
   have hU3:=HU2.out
   rw[Hyf.out,set_same Hf0.out] at hU3
   rw[show n-(k+1)=m by have:=Hm.out;omega]
   exact hU3
  ·refine wpIn_region_S (S:=(fun W=>Below V4.heap.size V4 W)) (z:=6) (by kernel_rfl) (by(try dsimp only);exact(Below.refl _ _).drew) (fun hHeld=>?_)
   generalize World.drew V4=Wd10 at hHeld ⊢
   have hbc:=Below.refl Wd10.heap.size Wd10
   iterate 2
    refine tkSl [0,1] ?_ rfl rfl (Or.inl ⟨by rfl,?_⟩) hHeld ?_
    rotate_left
    ·(intro w hSw;(try dsimp only at hSw);obtain⟨x0,x1,_,_⟩:=(hx11.below hSw).w2;obtain⟨p0,_⟩:=(hx44z.below hSw).w1;have d0:=(hSw.cell (p:=⟨gf,m*2,none⟩) lgf4).trans d0;have d1:=(hSw.cell (p:=⟨gf,m*2+1,none⟩) lgf4).trans d1;go_simp;try(with_reducible rfl))
    try simp only[Act.put,tl1,tl2,tl3]
   iterate 2
    refine tkSl [2,3] ?_ rfl rfl (Or.inl ⟨by rfl,?_⟩) hHeld ?_
    rotate_left
    ·(intro w _;go_simp;try(with_reducible rfl))
    try simp only[Act.put,tl1,tl2,tl3]
   refine tkS 4 ?_ rfl (Or.inl ⟨by rfl,?_⟩) hHeld ?_
   rotate_left
   ·(intro w hSw;(try dsimp only at hSw);obtain⟨x0,x1,_,_⟩:=(hx11.below hSw).w2;obtain⟨p0,_⟩:=(hx44z.below hSw).w1;have d0:=(hSw.cell (p:=⟨gf,m*2,none⟩) lgf4).trans d0;have d1:=(hSw.cell (p:=⟨gf,m*2+1,none⟩) lgf4).trans d1;go_simp;try(with_reducible rfl))
   try simp only[Act.put,tl1,tl2,tl3]
   refine tkS 5 ?_ rfl (Or.inl ⟨by rfl,?_⟩) hHeld ?_
   rotate_left
   ·(intro w hSw;(try dsimp only at hSw);go_simp;exact ne_ite hyf)
   try simp only[Act.put,tl1,tl2,tl3]
   refine wpAnyS_done (by kernel_rfl) ?_ _
   generalize Wd10=V5 at hHeld hbc ⊢
   have hV05:=hV04.trans (hHeld.mono hV04.size)
   have hF5:=HF.out.bel hV05
   have hx45:=hx4z.bel hV05
   have hx115:=hx11.bel hHeld
   have hB5:=hHeld
   clear hHeld hbc d0 d1 hx44z hx11 hF4
   gi_wp2_with fail
   refine wpIn_region_S (S:=(fun W=>Below V5.heap.size V5 W)) (z:=6) (by kernel_rfl) (by(try dsimp only);exact(Below.refl _ _).drew) (fun hHeld=>?_)
   generalize World.drew V5=Wd11 at hHeld ⊢
   have hF5:=hF5.bel hHeld
   have hbc:=Below.refl Wd11.heap.size Wd11
   iterate 2
    refine tkSl [0,3] ?_ rfl rfl (Or.inl ⟨by rfl,?_⟩) hHeld ?_
    rotate_left
    ·(intro w hSw;(try dsimp only at hSw);obtain⟨x0,x1,_,_⟩:=(hx115.below hSw).w2;obtain⟨p0,_⟩:=(hx45.below hSw).w1;go_simp;try(with_reducible rfl))
    try simp only[Act.put,tl1,tl2,tl3]
   iterate 2
    refine tkSl [1,2] ?_ rfl rfl (Or.inl ⟨by rfl,?_⟩) hHeld ?_
    rotate_left
    ·(intro w _;go_simp;try(with_reducible rfl))
    try simp only[Act.put,tl1,tl2,tl3]
   refine wpAnyS_ready (rs:=[4]) (by kernel_rfl) (by simp) ?_
   refine AllS.cons (o:=⟨_,_,_,_,_,_⟩) rfl (fun _=>trivial) (fun K hK=>?_) AllS.nil
   go_simp
   refine rcall ((some_ok _ _ _ _ u2).mono ?_)
   rintro e V53 ⟨rfl,hb⟩
   gi_wp2_with fail
   have hHeldN:=hHeld.trans (hb.mono hHeld.size)
   have hF5:=hF5.bel hb
   have hbc:=hbc.trans (hb.mono hbc.size)
   refine hK.out _ _ ?_ (fun hHeld2=>?_)
   ·intro _;exact hHeldN
   clear hK K hHeld hHeldN hb;have hHeld:=hHeld2 (by decide);clear hHeld2
   try simp only[Act.put,tl1,tl2,tl3]
   refine tkS 5 ?_ rfl (Or.inl ⟨by rfl,?_⟩) hHeld ?_
   rotate_left
   ·(intro w _;go_simp;try(with_reducible rfl))
   try simp only[Act.put,tl1,tl2,tl3]
   refine wpAnyS_ready (rs:=[6]) (by kernel_rfl) (by simp) ?_
   refine AllS.cons (o:=⟨_,_,_,_,_,_⟩) rfl (fun _=>trivial) (fun K hK=>?_) AllS.nil
   obtain⟨z0,z1,y0,y1⟩:=gown_sp hF5 Hf0.out HFl.out
   obtain⟨hset,hkS⟩:=gown_sp_set hF5 Hf0.out y HFl.out
   have Hset:=hide hset;have HkS:=hide hkS;have hHeldF:=hHeld
   clear hset hkS
   go_simp
   refine hK.out _ _ (fun h=>absurd rfl h) (fun _=>?_)
   clear hK K hHeld
   try simp only[Act.put,tl1,tl2,tl3]
   refine wpAnyS_done (by kernel_rfl) ?_ _
   gi_wp2_with fail
   have hK5:=((Kept.all (fun _=>True) (hV05.trans (hHeldF.mono hV05.size))).mono (fun _ _ _=>trivial)).trans HkS.out
   refine⟨hK5.mono fun b _ hb=>hb.2,F.set m y,Hset.out,?_,Hkz.out.trans (hK5.mono fun b _ hb=>hb.2)⟩
   rw[show n-(k+1)=m by have:=Hm.out;omega]
   exact HU2.out
 case done=>
  rintro Wz ⟨F,hF,hU,hkz⟩ hD
  rw[Nat.sub_self] at hU
  have HUF:=hide hU.done
  have hx4z:=hx49.kept hkz ⟨by omega,by omega⟩
  have hx5z:=hx59.kept hkz ⟨by omega,by omega⟩
  obtain⟨p0,y0⟩:=hx4z.w1
  obtain⟨p1,y1⟩:=hx5z.w1
  have hBz:=hB9.trans (hkz.below (fun b hb=>⟨by omega,by omega⟩) hB9.size)
  have hlz:=hx5z.lt
  have hls:=hkz.size
  have HF:=hide hF;have HD:=hide hD
  obtain⟨D,hDe⟩:∃D,D=w10.heap.size:=⟨_,rfl⟩
  rw[←hDe] at HD ⊢
  have hDz:D < Wz.heap.size:=(Array.getElem?_eq_some_iff.1 HD.out).1
  have hD1:b2+1+1+1 < D:=by omega
  have hD2:gf < D:=by omega
  have hD3:w.heap.size≤b2:=by omega
  have hD4:b2+1+1+1 < gf:=by omega
  clear hF hU hD hDe i2 j2 ebs hz9
  gi_wp2_with fail
  have hk1:=(Kept.setCell Wz ⟨b2+1+1,0,none⟩ (.slice (some ⟨gf,0,none⟩) (n+1) c7)).mono (R':=fun b=>b≠b2+1+1∧b≠b2+1+1+1) (fun b _ h=>h.1)
  have hk2:=(Kept.setCell (Wz.setCell ⟨b2+1+1,0,none⟩ (.slice (some ⟨gf,0,none⟩) (n+1) c7)) ⟨b2+1+1+1,0,none⟩ (.bool true)).mono (R':=fun b=>b≠b2+1+1∧b≠b2+1+1+1) (fun b _ h=>h.2)
  have hk:=hk1.trans hk2
  have hxA:=(hx4z.set (j:=0) (.slice (some ⟨gf,0,none⟩) (n+1) c7) (by simp)).other (q:=⟨b2+1+1+1,0,none⟩) (.bool true) (by simp)
  have hxB:=(hx5z.other (q:=⟨b2+1+1,0,none⟩) (.slice (some ⟨gf,0,none⟩) (n+1) c7) (by simp)).set (j:=0) (.bool true) (by simp)
  simp only[List.set_cons_zero] at hxA hxB
  obtain⟨V,Hv⟩:∃V,Hid ((Wz.setCell ⟨b2+1+1,0,none⟩ (.slice (some ⟨gf,0,none⟩) (n+1) c7)).setCell ⟨b2+1+1+1,0,none⟩ (.bool true)=V):=⟨_,hide rfl⟩
  rw[Hv.out] at hk hxA hxB ⊢
  have hDv:=(hk.same D ⟨by omega,by omega⟩ hDz).trans HD.out
  refine⟨by simp,.inl ⟨_,_,rfl,run_takeDeferred hDv,?_⟩⟩
  have hkp:=Kept.putObj V D (.deferred none)
  obtain⟨V',Hv'⟩:∃V',Hid (V.putObj D (.deferred none)=V'):=⟨_,hide rfl⟩
  rw[Hv'.out] at hkp ⊢
  have hxA':=hxA.kept hkp (by omega)
  have hxB':=hxB.kept hkp (by omega)
  have hfit1:(invoke (.fn (.func 86) #[.pointer (some ⟨b2+1+1,0,none⟩),.pointer (some ⟨b2+1+1+1,0,none⟩)]) #[]).run Tryz.prog V'= .ok (.enter 86 #[.pointer (some ⟨b2+1+1,0,none⟩),.pointer (some ⟨b2+1+1+1,0,none⟩)]) V':=by simp[go_sem]
  refine leavesM_cons (f:=86) (args:=#[.pointer (some ⟨b2+1+1,0,none⟩),.pointer (some ⟨b2+1+1+1,0,none⟩)]) (by simp) (fun h=>by simp[Fence.wide] at h) hfit1 (fun _ _=>trivial) ?_
  refine(fit1_idle _ _ _ V').mono ?_
  rintro e u' w'' ⟨rfl,rfl,rfl⟩
  obtain⟨c4,_⟩:=hxA'.w1
  obtain⟨c5,_⟩:=hxB'.w1
  have ho:=(HF.out.keptG hk (fun q hq=>by simp[Value.ownBlock] at hq;exact⟨by omega,by omega⟩)).keptG hkp (fun q hq=>by simp[Value.ownBlock] at hq;omega)
  refine⟨.tuple #[.slice (some ⟨gf,0,none⟩) (n+1) c7,.bool true],by simp[results,Tryz.results33,go_sem,c4,c5];try rfl,?_⟩
  refine⟨.slice (some ⟨gf,0,none⟩) (n+1) c7,by rw[HUF.out];rfl,by rw[HUF.out];exact ho,?_⟩
  exact(hBz.trans (hk.below (fun b hb=>⟨by omega,by omega⟩) hBz.size)).trans (hkp.below (fun b hb=>by omega) (hBz.trans (hk.below (fun b hb=>⟨by omega,by omega⟩) hBz.size)).size)
theorem fit_any (Aa Ar:Option Addr) (n ca cr:Nat) (g:List Rc) (rd:List Sp) (s:Sp) (w:World) (hg:Rd w w.heap.size Rc.cells Aa g) (hr:Rd w w.heap.size Sp.cells Ar rd) (hn:n=g.length) (hn2:n≤20) (hrl:rd.length=n+1) (hfine:∀r∈g,r.fine)
 (hrd:∀x∈rd,0≤x.lo∧x.lo≤13000000∧0≤x.hi∧x.hi≤13000000) (hs:s.fine 1000000) :
 Calls Tryz.prog 33 #[.agg #[.slice Aa n ca,.slice Ar (n+1) cr],.agg #[.int .i64 s.lo,.int .i64 s.hi]] w (FitPost g rd s w):=by
 rcases first_bad (P:=fun k=>okS (dnK g rd s k)) n with h | ⟨j,h1,h2,h3⟩
 ·exact fit_ok Aa Ar n ca cr g rd s w hg hr hn hn2 hrl hfine hrd hs h
 ·exact fit_torn Aa Ar n ca cr g rd s w hg hr hn hn2 hrl hfine hrd hs j h1 h2 h3
end Go.Proofs.YtiioegopckoldaaGreatDoor
namespace Go.Proofs.YtiioegopckoldaaGreatDoor
open Go.RowKit Go.Shelf
attribute [local go_sem] ite_min ite_max
def flErr (g:List Rc) (s:Sp) (l:List Ga):Int:=if gEnter g s l=0 then(if(fitS g l s).isSome then 0 else 24) else gEnter g s l
def flL (g:List Rc) (s:Sp) (l:List Ga):List Sp:=if flErr g s l=0 then(fitS g l s).getD [] else []
def loL (g:List Rc) (s:Sp) (l:List Ga):List Sp:=if flErr g s l=0 then lostS g ((fitS g l s).getD []) else []
def FlowsPost (g:List Rc) (s:Sp) (l:List Ga) (w:World) (e:Ending) (w':World):Prop:=
 ∃vf vl,e= .returned (.tuple #[vf,vl,.int .i64 (flErr g s l)])∧Own w' w.heap.size 24 2 Sp.cells vf (flL g s l)∧Own w' w.heap.size 24 2 Sp.cells vl (loL g s l)∧Below w.heap.size w w'
theorem bad_fine {m:Int} {s:Sp} (h:Sp.bad m s=false):s.fine m:=by
 simp only[Sp.bad,Bool.or_eq_false_iff,decide_eq_false_iff_not] at h
 unfold Sp.fine;omega
theorem gOk_fine {g:List Rc} (h:gOk g=true):∀r∈g,r.fine:=by
 intro r hr
 simp only[gOk,Bool.and_eq_true,Bool.not_eq_true',List.any_eq_false] at h
 have h1:=h.2 r hr
 simp only[Rc.bad,anyBad,List.any_cons,List.any_nil,Bool.or_false,Bool.or_eq_true,not_or,Bool.not_eq_true] at h1
 exact⟨bad_fine h1.1,bad_fine h1.2.1,bad_fine h1.2.2⟩
theorem enter_parts {g:List Rc} {s:Sp} {l:List Ga} (h:gEnter g s l=0):gOk g=true∧g.length≤12∧l.length≤30∧(∀r∈g,r.fine)∧s.fine 1000000∧gaIn g.length l∧∀x∈l,x.flow.fine 13000000:=by
 unfold gEnter at h
 split at h
 ·rename_i h1
  split at h
  ·omega
  ·rename_i h2
   split at h
   ·omega
   ·rename_i h3
    simp only[gasBad,Bool.or_eq_true,decide_eq_true_eq,not_or,Nat.not_lt,Bool.not_eq_true,List.any_eq_false] at h3
    have h4:∀x∈l,(0≤x.shaft∧x.shaft≤g.length)∧x.flow.fine 13000000:=fun x hx=>by
     have:=h3.2 x hx
     simp only[Ga.bad,anyBad,List.any_cons,List.any_nil,Bool.or_false,Bool.or_eq_false_iff,Bool.not_eq_false'] at this
     refine⟨?_,bad_fine this.2⟩
     have h5:=this.1
     simp only[inB,Bool.and_eq_true,decide_eq_true_eq] at h5
     exact h5
    have h5:g.length≤12:=by
     simp only[gOk,inB,Bool.and_eq_true,decide_eq_true_eq] at h1
     omega
    refine⟨h1,h5,h3.1,gOk_fine h1,bad_fine (by simpa[anyBad] using h2),fun x hx=>(h4 x hx).1,fun x hx=>(h4 x hx).2⟩
 ·omega
theorem flowsF_fine:∀(g:List Rc) (rd:List Sp) (s:Sp) (l:List Sp),(∀r∈g,r.fine)→(∀x∈rd,0≤x.lo∧x.lo≤13000000∧0≤x.hi∧x.hi≤13000000)→s.fine 13000000→flowsF g rd s=some l→∀x∈l,x.fine 13000000
 | g, rd, s, l, hg, hrd, hs, h => by
   obtain⟨t,l',rfl,h1,h2,h3⟩:=flowsF_head g rd s l hg h
   have hx:0≤(rd.headD allS).lo∧(rd.headD allS).lo≤13000000∧0≤(rd.headD allS).hi∧(rd.headD allS).hi≤13000000:=by
    cases rd with
    | nil=>simp[allS]
    | cons y rd=>exact hrd y (by simp)
   obtain⟨a1,a2,a3⟩:=hs
   have ht:t.fine 13000000:=by
    simp only[cutS,Sp.fine] at *;omega
   intro x hxm
   rcases List.mem_cons.1 hxm with rfl | hxm
   ·exact ht
   ·match g,hg,h with
    | [], _, h =>
      unfold flowsF at h
      split at h
      ·injection h with h;injection h with _ h;subst h;cases hxm
      ·cases h
    | r :: g, hg, h =>
      unfold flowsF at h
      split at h
      ·rename_i hok
       obtain⟨l2,hl2,e⟩:=Option.map_eq_some_iff.1 h
       injection e with _ e
       subst e
       have hc:(cutS s (rd.headD allS)).fine 13000000:=by simp only[cutS,Sp.fine] at *;omega
       have ho:=outS_fine (hg r (by simp)) hc
       have ho2:(outS r (cutS s (rd.headD allS))).fine 13000000:=by obtain⟨b1,b2,b3⟩:=ho;exact⟨b1,b2,by omega⟩
       exact flowsF_fine g rd.tail _ l2 (fun r hr=>hg r (by simp[hr])) (fun y hy=>hrd y (List.mem_of_mem_tail hy)) ho2 hl2 x hxm
      ·cases h
theorem lostS_get {g:List Rc} {F:List Sp} {k:Nat} {r:Rc} {f:Sp} (hr:g[k]?=some r) (hf:F[k]?=some f):(lostS g F).take (k+1)=(lostS g F).take k ++ [⟨f.lo-max 0 (min f.lo r.cap.hi-r.leak.lo),f.hi-max 0 (min f.hi r.cap.lo-r.leak.hi)⟩]:=by
 refine take_snoc ?_
 unfold lostS
 rw[List.getElem?_map,List.getElem?_range (List.getElem?_eq_some_iff.1 hr).1]
 simp[List.getD_eq_getElem?_getD,hr,hf]
theorem lostS_len (g:List Rc) (F:List Sp):(lostS g F).length=g.length:=by simp[lostS]
theorem Own.rdw {α:Type} {cells:α→List Value} {w:World} {base:Nat} {e:TypeId} {k:Nat} {A:Option Addr} {n c:Nat} {xs:List α} (h:Own w base e k cells (.slice A n c) xs):Rd w w.heap.size cells A xs:=by
 obtain⟨_,_,hA,hr⟩:=h.rd
 injection hA with h1 _ _
 subst h1
 exact hr
set_option maxHeartbeats 4000000 in
set_option maxRecDepth 100000 in
theorem gflows_any (A A':Option Addr) (g:List Rc) (s:Sp) (l:List Ga) (n c n' c':Nat) (w:World) (hn:n=g.length) (hm:n≤9223372036854775807) (hx:Rd w w.heap.size Rc.cells A g)
 (hn':n'=l.length) (hm':n'≤9223372036854775807) (hx':Rd w w.heap.size Ga.cells A' l) :
 Calls Tryz.prog 9 #[.slice A n c,.agg #[.int .i64 s.lo,.int .i64 s.hi],.slice A' n' c'] w (FlowsPost g s l w):=by
 obtain⟨b4,w1,e4,ew1,hx4,hb1,hz1⟩:=mk_bx w #[.int .i64 s.lo,.int .i64 s.hi] 24
 have HE:=hide (genter_any A A' g s.lo s.hi l n c n' c' w1 hn hm ((hx.below hb1).more hb1.size) hn' hm' ((hx'.below hb1).more hb1.size))
 obtain⟨q0,q1,_,_⟩:=hx4.w2
 have Hn:=hide hn;have Hn':=hide hn';have Hx:=hide hx;have Hx':=hide hx'
 clear hn hn' hx hx' hz1
 by_cases he:gEnter g s l=0
 ·obtain⟨hok,hg12,hl30,hfine,hs,hga,hgf⟩:=enter_parts he
  have HE0:=hide (show Calls Tryz.prog 31 #[.slice A n c,.agg #[.int .i64 s.lo,.int .i64 s.hi],.slice A' n' c'] w1 fun e w'=>e= .returned (.int .i64 0)∧Below w1.heap.size w1 w' by have:=HE.out;rw[he] at this;exact this)
  have He:=hide he
  clear he HE
  have hn12:n≤12:=by rw[Hn.out];exact hg12
  have hn30:n'≤30:=by rw[Hn'.out];exact hl30
  go_enter Tryz.func9,Tryz.ntmps9
  go_wp2_with fail
  rw[ew1.out,e4.out]
  refine HE0.out.mono ?_
  rintro e w2 ⟨rfl,hb2⟩
  have hx42:=hx4.bel hb2
  obtain⟨q0,q1,_,_⟩:=hx42.w2
  have hB2:=hb1.trans (hb2.mono hb1.size)
  go_wp2_with fail
  refine(gopen_any A A' g l n c n' c' w2 Hn.out (by omega) ((Hx.out.below hB2).more hB2.size) Hn'.out (by omega) ((Hx'.out.below hB2).more hB2.size) (by rw[Hn.out];exact hga)).mono ?_
  rintro e w3 ⟨Aa,ca,gb,cb,rfl,hoa,hob,hb3⟩
  have hx43:=hx42.bel hb3
  obtain⟨q0,q1,_,_⟩:=hx43.w2
  have hra:=hoa.rdw
  have hrb:=hob.rdw
  have l43:=hx43.lt
  go_wp2_with fail
  obtain⟨b10,w4,e10,ew4,hx10,hb4,hz4⟩:=mk_bx w3 #[.slice Aa n ca,.slice (some ⟨gb,0,none⟩) (n+1) cb] 109
  rw[ew4.out,e10.out]
  have eF:flowsF g (rdS n l) s=fitS g l s:=by rw[Hn.out];rfl
  have HFit:=hide (fit_any Aa (some ⟨gb,0,none⟩) n ca cb g (rdS n l) s w4 (hra.bel hb4) (hrb.bel hb4) Hn.out (by omega) (rdS_len _ _) hfine (rdS_bd n l hgf) hs)
  have hB4:=hB2.trans ((hb3.trans (hb4.mono hb3.size)).mono hB2.size)
  have hx10':=hx10
  have Hra:=hide (hra.bel hb4)
  clear hx42 hx43 hx4 hoa hob hra hrb
  cases hF:fitS g l s with
  | none =>
    rw[hF] at eF
    have E1:=hide (show flErr g s l=24 by simp[flErr,He.out,hF])
    have hp:FitPost g (rdS n l) s=fun w e w'=>∃v,e= .returned (.tuple #[v,.bool false])∧Own w' w.heap.size 24 2 Sp.cells v []∧Below w.heap.size w w':=by funext w e w';simp[FitPost,eF]
    rw[hp] at HFit
    clear hF eF hp
    refine HFit.out.mono ?_
    rintro e w5 ⟨v,rfl,hov,hb5⟩
    clear hov
    go_wp2_with fail
    refine bodyPost_ret (v:= .tuple #[.slice none 0 0,.slice none 0 0,.int .i64 24]) (by simp[results,Tryz.results9,go_sem];try rfl) rfl ?_
    exact⟨.slice none 0 0,.slice none 0 0,by rw[E1.out],by simp only[flL,E1.out];exact Own.nil _ _ _ _ _,by simp only[loL,E1.out];exact Own.nil _ _ _ _ _,hB4.trans (hb5.mono hB4.size)⟩
  | some F =>
    rw[hF] at eF
    have E1:=hide (show flErr g s l=0 by simp[flErr,He.out,hF])
    have hp:FitPost g (rdS n l) s=fun w e w'=>∃v,e= .returned (.tuple #[v,.bool true])∧Own w' w.heap.size 24 2 Sp.cells v F∧Below w.heap.size w w':=by funext w e w';simp[FitPost,eF]
    rw[hp] at HFit
    have hFl:F.length=n+1:=by rw[flowsF_len _ _ _ _ eF,Hn.out]
    have hFfine:=flowsF_fine _ _ _ _ hfine (rdS_bd n l hgf) (by obtain⟨b1,b2,b3⟩:=hs;exact⟨b1,b2,by omega⟩) eF
    have HF:=hide hF;have HFl:=hide hFl;have HFf:=hide hFfine;have Hfine:=hide hfine
    clear hF eF hp hFl hFfine
    refine HFit.out.mono ?_
    rintro e w5 ⟨v,rfl,hov,hb5⟩
    obtain⟨Af,cf,rfl,hrf⟩:=hov.rdn (n+1) HFl.out
    obtain⟨v0,v1,_,_⟩:=(hx10.bel hb5).w2
    have Hov:=hide hov
    have hB5:=hB4.trans (hb5.mono hB4.size)
    have Hra5:=hide (Hra.out.bel hb5);have Hrf5:=hide hrf
    clear hov hrf
    go_wp2_with fail
    go_loopw [7,36] (fun a i wr=>∃(k:Nat) (vl:Value),vl=a∧i= .int .i64 k∧k≤n∧Own wr w5.heap.size 24 2 Sp.cells vl ((lostS g F).take k)∧Below w5.heap.size w5 wr) (fun _ i _=>n-(intOf i).toNat)
    case atStart=>exact⟨0,_,rfl,rfl,by omega,Own.nil _ _ _ _ _,Below.refl _ _⟩
    case round=>
     obtain⟨k,vl,rfl,rfl,hk,hvl,hb⟩:=hrel
     by_cases hlt:k < n
     ·obtain⟨bg,offg,a0,a1,a2,a3,a4,a5,rfl,hbg,hxk,e0,e1,e2,e3,e4',e5⟩:=(Hra5.out.below hb).rc (i:=k) (by have:=Hn.out;omega)
      obtain⟨bq,offq,f0,f1,rfl,hbq,hfk,d0,d1⟩:=(Hrf5.out.below hb).sp (i:=k) (by have:=HFl.out;omega)
      have hff:=HFf.out _ (List.mem_of_getElem? hfk)
      obtain⟨⟨g1,g2,g3⟩,⟨g4,g5,g6⟩,⟨g7,g8,g9⟩⟩:=Hfine.out _ (List.mem_of_getElem? hxk)
      obtain⟨f,hf⟩:∃f:Sp,f=⟨f0,f1⟩:=⟨_,rfl⟩
      have ef0:f0=f.lo:=by rw[hf]
      have ef1:f1=f.hi:=by rw[hf]
      subst ef0 ef1
      obtain⟨fb1,fb2,fb3⟩:=hff
      simp only at g1 g2 g3 g4 g5 g6 g7 g8 g9 fb1 fb2 fb3
      have hstep:=lostS_get hxk hfk
      have hx:∀m:Int,m=m:=fun _=>rfl
      obtain⟨b13,w13,e13,ew13,hx13,hb13,hz13⟩:=mk_bx wr #[.int .i64 a0,.int .i64 a1,.int .i64 a2,.int .i64 a3,.int .i64 a4,.int .i64 a5] 114
      obtain⟨b14,w14,e14,ew14,hx14,hb14,hz14⟩:=mk_bx w13 #[.int .i64 f.lo,.int .i64 f.hi] 24
      have mb1:0≤f.lo∧f.lo≤1000000000:=by omega
      have mb2:0≤a1∧a1≤1000000000:=by omega
      have mb3:0≤a2∧a2≤1000000000:=by omega
      have mb4:0≤a5∧a5≤1000000000:=by omega
      have lb1:0≤f.hi∧f.hi≤1000000000:=by omega
      have lb2:0≤a0∧a0≤1000000000:=by omega
      have lb3:0≤a3∧a3≤1000000000:=by omega
      have lb4:0≤a4∧a4≤1000000000:=by omega
      have k1:IntKind.i64.wrap (f.lo+a5)=f.lo+a5:=wrapI (by omega)
      have k2:IntKind.i64.wrap (f.hi+a4)=f.hi+a4:=wrapI (by omega)
      have k3:IntKind.i64.wrap (f.lo+a5-mostF ⟨⟨a0,a1⟩,⟨a2,a3⟩,⟨a4,a5⟩⟩ f.lo)=f.lo+a5-mostF ⟨⟨a0,a1⟩,⟨a2,a3⟩,⟨a4,a5⟩⟩ f.lo:=wrapI (by simp only[mostF];omega)
      have k4:IntKind.i64.wrap (f.hi+a4-leastF ⟨⟨a0,a1⟩,⟨a2,a3⟩,⟨a4,a5⟩⟩ f.hi)=f.hi+a4-leastF ⟨⟨a0,a1⟩,⟨a2,a3⟩,⟨a4,a5⟩⟩ f.hi:=wrapI (by simp only[leastF];omega)
      have hres:(⟨f.lo+a5-mostF ⟨⟨a0,a1⟩,⟨a2,a3⟩,⟨a4,a5⟩⟩ f.lo,f.hi+a4-leastF ⟨⟨a0,a1⟩,⟨a2,a3⟩,⟨a4,a5⟩⟩ f.hi⟩:Sp)=⟨f.lo-max 0 (min f.lo a1-a2),f.hi-max 0 (min f.hi a0-a3)⟩:=by
       simp only[mostF,leastF,Sp.mk.injEq];omega
      simp only at hstep
      rw[←hres] at hstep
      obtain⟨LL,hLL⟩:∃LL,LL=(lostS g F).take k:=⟨_,rfl⟩
      have hLlen:LL.length≤12:=by rw[hLL,List.length_take,lostS_len,←Hn.out];omega
      rw[←hLL] at hvl hstep
      have Hstep:=hide hstep
      have i13:b14=b13+1:=by have:=e14.out;omega
      subst i13
      have hvlb:=fun q hq=>(hvl.blockG (g:=q) hq).2
      have hne13:¬vl.ownBlock=some b13:=fun e=>by have:=hvlb _ e;have:=e13.out;omega
      have hne14:¬vl.ownBlock=some (b13+1):=fun e=>by have:=hvlb _ e;have:=e13.out;omega
      have hbase:w5.heap.size≤w14.heap.size:=by have:=hb.size;have:=hb13.size;have:=hb14.size;omega
      have Hb:=hide hb;have Hvl0:=hide hvl
      have hbqw:bq < wr.heap.size:=by have:=hb.size;omega
      replace hx13:=hx13.bel hb14
      replace hvl:=(hvl.bel hb13).bel hb14
      have hb134:=hb13.trans (hb14.mono hb13.size)
      clear hxk hfk hf hstep hLL hvlb hres hx hz13 hz14 g1 g2 g3 g4 g5 g6 g7 g8 g9 fb1 fb2 fb3 hb
      go_wp2_with fail
      rw[ew13.out,e13.out,ew14.out]
      refine wp_region_held_drew (S:=(fun W=>Kept (fun b=>¬vl.ownBlock=some b) w14 W)) (by kernel_rfl) (by(try dsimp only);exact Kept.all _ (Below.refl _ _).drew) (fun hHeld=>?_)
      have hdr:Below w14.heap.size w14 (World.drew w14):=(Below.refl _ _).drew
      generalize World.drew w14=Wd12 at hHeld hdr ⊢
      have hvl:=hvl.bel hdr
      have hbc:=Below.refl Wd12.heap.size Wd12
      iterate 11
       refine tkHl [0,1,3,4,5,9,13,15,16,17,21] ?_ rfl rfl (Or.inl ⟨by rfl,?_⟩) hHeld ?_
       rotate_left
       ·(intro w _;go_simp;try(with_reducible rfl))
       try simp only[Act.put,tl1,tl2,tl3]
      iterate 8
       refine tkHl [2,6,8,10,14,18,20,22] ?_ rfl rfl (Or.inl ⟨by rfl,?_⟩) hHeld ?_
       rotate_left
       ·(intro w hSw;(try dsimp only at hSw);obtain⟨q0,q1,_,_⟩:=(hx14.kept hSw hne14).w2;obtain⟨z0,z1,z2,z3,z4,z5⟩:=(hx13.at_.kept hSw hne13).c6;go_simp;try(with_reducible rfl))
       try simp only[Act.put,tl1,tl2,tl3]
      iterate 2
       refine tkHl [7,19] ?_ rfl rfl (Or.inl ⟨by rfl,?_⟩) hHeld ?_
       rotate_left
       ·(intro w _;go_simp;try(with_reducible rfl))
       try simp only[Act.put,tl1,tl2,tl3]
      refine wpAnyH_ready (rs:=[11]) (by kernel_rfl) (by simp) ?_
      refine AllReadyH.cons (o:=⟨_,_,_,_,_,_⟩) rfl (fun K hK=>?_) AllReadyH.nil
      go_simp
      refine(most_any _ _ _ _ _ _ _ _ mb1 mb2 mb3 mb4).mono ?_
      rintro e V56 ⟨rfl,hb⟩
      go_wp2_with fail
      have hHeldN:=hHeld.trans (Kept.all _ hb)
      have hvl:=hvl.bel hb
      have hbc:=hbc.trans (hb.mono hbc.size)
      refine hK.out _ _ ?_ (fun hHeld2=>?_)
      ·exact hHeldN
      clear hK K hHeld hHeldN hb;have hHeld:=hHeld2;clear hHeld2
      try simp only[Act.put,tl1,tl2,tl3]
      refine tkH 12 ?_ rfl (Or.inl ⟨by rfl,?_⟩) hHeld ?_
      rotate_left
      ·(intro w _;go_simp;try(with_reducible rfl))
      try simp only[Act.put,tl1,tl2,tl3]
      refine wpAnyH_ready (rs:=[23]) (by kernel_rfl) (by simp) ?_
      refine AllReadyH.cons (o:=⟨_,_,_,_,_,_⟩) rfl (fun K hK=>?_) AllReadyH.nil
      go_simp
      refine(least_any _ _ _ _ _ _ _ _ lb1 lb2 lb3 lb4).mono ?_
      rintro e V68 ⟨rfl,hb⟩
      go_wp2_with fail
      have hHeldN:=hHeld.trans (Kept.all _ hb)
      have hvl:=hvl.bel hb
      have hbc:=hbc.trans (hb.mono hbc.size)
      refine hK.out _ _ ?_ (fun hHeld2=>?_)
      ·exact hHeldN
      clear hK K hHeld hHeldN hb;have hHeld:=hHeld2;clear hHeld2
      try simp only[Act.put,tl1,tl2,tl3]
      iterate 2
       refine tkHl [24,25] ?_ rfl rfl (Or.inl ⟨by rfl,?_⟩) hHeld ?_
       rotate_left
       ·(intro w _;go_simp;try(with_reducible rfl))
       try simp only[Act.put,tl1,tl2,tl3]
      refine wpAnyH_ready (rs:=[26]) (by kernel_rfl) (by simp) ?_
      refine AllReadyH.cons (o:=⟨_,_,_,_,_,_⟩) rfl (fun K hK=>?_) AllReadyH.nil
      go_simp
      obtain⟨b71,V71,eb71,ev71,r71,hb⟩:=mk_row (cells:=Sp.cells) V68 #[.int .i64 (f.lo+a5-mostF ⟨⟨a0,a1⟩,⟨a2,a3⟩,⟨a4,a5⟩⟩ f.lo),.int .i64 (f.hi+a4-leastF ⟨⟨a0,a1⟩,⟨a2,a3⟩,⟨a4,a5⟩⟩ f.hi)] 24 [⟨f.lo+a5-mostF ⟨⟨a0,a1⟩,⟨a2,a3⟩,⟨a4,a5⟩⟩ f.lo,f.hi+a4-leastF ⟨⟨a0,a1⟩,⟨a2,a3⟩,⟨a4,a5⟩⟩ f.hi⟩] rfl
      rw[ev71.out,eb71.out]
      have hHeldN:=hHeld.trans (Kept.all _ hb)
      have hvl:=hvl.bel hb
      have hbc:=hbc.trans (hb.mono hbc.size)
      refine hK.out _ _ ?_ (fun hHeld2=>?_)
      ·exact hHeldN
      clear hK K hHeld hHeldN hb;have hHeld:=hHeld2;clear hHeld2
      try simp only[Act.put,tl1,tl2,tl3]
      refine wpAnyH_ready (rs:=[27]) (by kernel_rfl) (by simp) ?_
      refine AllReadyH.cons (o:=⟨_,_,_,_,_,_⟩) rfl (fun K hK=>?_) AllReadyH.nil
      refine op_app (v:=vl) (xs:=LL) (ys:=[⟨f.lo+a5-mostF ⟨⟨a0,a1⟩,⟨a2,a3⟩,⟨a4,a5⟩⟩ f.lo,f.hi+a4-leastF ⟨⟨a0,a1⟩,⟨a2,a3⟩,⟨a4,a5⟩⟩ f.hi⟩]) (n:=1) el_sp (.tmp 45) (.tmp 71) rfl rfl hvl rfl rfl r71 (by omega) (Nat.le_trans hbase hHeld.size) ?_
      intro vv V72 hown hg hat
      have hkg:=hHeld.trans ((Kept.grown hg).mono fun b _ hb e=>hb e.symm)
      refine hK.out _ _ ?_ (fun hHeld2=>?_)
      ·(try dsimp only);exact hkg
      clear hK K hHeld;have hHeld:=hHeld2;clear hHeld2
      try simp only[Act.put,tl1,tl2,tl3]
      refine tkH 28 ?_ rfl (Or.inl ⟨by rfl,?_⟩) hHeld ?_
      rotate_left
      ·(intro w _;go_simp;try(with_reducible rfl))
      try simp only[Act.put,tl1,tl2,tl3]
      refine wpAnyH_done (by kernel_rfl) ?_ _
      go_wp2_with fail
      have hB14:=Hb.out.trans (hb134.mono Hb.out.size)
      exact⟨⟨k+1,vv,rfl,by go_num,by omega,by rw[Hstep.out];exact hown,hB14.trans (hkg.below (fun b hb e=>by have:=(Hvl0.out.blockG e).1;omega) hB14.size)⟩,by simp[intOf];omega⟩
     ·obtain rfl:n=k:=by omega
      rw[List.take_of_length_le (by rw[lostS_len,←Hn.out];exact Nat.le_refl _)] at hvl
      have hov:=Hov.out.bel hb
      obtain⟨Al,cl,rfl,hrl⟩:=hvl.rdn n (by rw[lostS_len,Hn.out])
      have Hvl:=hide hvl;have Hov2:=hide hov
      have hBr:=hB5.trans (hb.mono hB5.size)
      clear hvl hov hrl
      go_wp2_with fail
      refine bodyPost_ret (v:= .tuple #[.slice Af (n+1) cf,.slice Al n cl,.int .i64 0]) (by simp[results,Tryz.results9,go_sem];try rfl) rfl ?_
      refine⟨.slice Af (n+1) cf,.slice Al n cl,by rw[E1.out],?_,?_,hBr⟩
      ·simp only[flL,E1.out,HF.out];exact Hov2.out.mono hB4.size
      ·simp only[loL,E1.out,HF.out];exact Hvl.out.mono hB5.size
 ·have E1:=hide (show flErr g s l=gEnter g s l by simp[flErr,he])
  have He:=hide he
  have hne:(gEnter g s l == 0)=false:=by simpa using he
  have hne2:(gEnter g s l != 0)=true:=by simpa using he
  clear he
  go_enter Tryz.func9,Tryz.ntmps9
  go_wp2_with fail
  rw[ew1.out,e4.out]
  refine HE.out.mono ?_
  rintro e w2 ⟨rfl,hb2⟩
  go_wp2_with fail
  refine bodyPost_ret (v:= .tuple #[.slice none 0 0,.slice none 0 0,.int .i64 (gEnter g s l)]) (by simp[results,Tryz.results9,go_sem];try rfl) rfl ?_
  have hz:¬flErr g s l=0:=by rw[E1.out];exact He.out
  exact⟨.slice none 0 0,.slice none 0 0,by rw[E1.out],by simp only[flL,if_neg hz];exact Own.nil _ _ _ _ _,by simp only[loL,if_neg hz];exact Own.nil _ _ _ _ _,hb1.trans (hb2.mono hb1.size)⟩
end Go.Proofs.YtiioegopckoldaaGreatDoor
