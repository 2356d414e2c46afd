/- lemmas for topRented_holds: OW4. No conditions. -/
import Derived.Test.YtiioegopckoldaaGreatDoorK24
import Derived.Test.YtiioegopckoldaaGreatDoorK07
import Derived.Test.YtiioegopckoldaaGreatDoorK12
set_option linter.unusedVariables false
set_option linter.unusedSimpArgs false
namespace Go.Proofs.YtiioegopckoldaaGreatDoor
open Go.RowKit Go.Shelf
attribute [local go_sem] Oper.semAt_some
theorem el_hold:ElLaw Tryz.prog 56 63 3 24 Us.cells:=elLaw_of Tryz.underlying56 (z:= .agg #[.int .i64 0,.int .i64 0,.int .i64 0]) (by kernel_rfl) rfl (by omega) (fun _=>rfl) Us.one (by omega)
theorem enters_runs1:∀args w,(callFunc 130 args).run Tryz.prog w= .ok (.enter 130 args) w:=enters_of Tryz.func130 (by kernel_rfl) rfl
theorem enters_owners1:∀args w,(callFunc 59 args).run Tryz.prog w= .ok (.enter 59 args) w:=enters_of Tryz.func59 (by kernel_rfl) rfl
theorem enters_owners2:∀args w,(callFunc 60 args).run Tryz.prog w= .ok (.enter 60 args) w:=enters_of Tryz.func60 (by kernel_rfl) rfl
structure C1 (w:World) (p:Nat) (v:Value):Prop where
 c:w.cell? ⟨p,0,none⟩=some v
 f:w.frozen? ⟨p,0,none⟩=false
 lt:p < w.heap.size
theorem C1.kept {R:Nat→Prop} {w w':World} {p:Nat} {v:Value} (h:C1 w p v) (hk:Kept R w w') (hp:R p):C1 w' p v:=
 ⟨(hk.cell (p:=⟨p,0,none⟩) hp h.lt).trans h.c,(hk.frozen (p:=⟨p,0,none⟩) hp h.lt).trans h.f,Nat.lt_of_lt_of_le h.lt hk.size⟩
set_option maxHeartbeats 4000000 in
set_option maxRecDepth 100000 in
theorem deOwners_rents (days day:Int) (H A:Option Addr) (nh ch n c:Nat) (hs:List Us) (ds:List Dv) (w:World) (hro:rollsOk days hs=true) (hnh:nh=hs.length) (hxh:Rd w w.heap.size Us.cells H hs) (hA:Rd w w.heap.size Dv.cells A ds) (hn:n=ds.length) (hn6:n≤60) (hday:inB 0 100000 day=true)
 (hval:∀d∈ds,deOk days d []=true∧d.h=⟨none,0,0⟩∧0≤d.kind∧d.kind≤255) (hdist:∀(j k:Nat) (x y:Dv),j < k→ds[j]?=some x→ds[k]?=some y→x.id≠y.id) (hord:OrdOk ds) (hrun:RunOk (days*1440) day (hs.map pcOf) ds)
 (h1:1≤(runP ds (hs.map pcOf)).length) (hlen:(runP ds (hs.map pcOf)).length≤1000) :
 Calls Tryz.prog 19 #[.agg #[.int .i64 days,.slice H nh ch],.slice A n c,.int .i64 day] w fun e w'=>∃v1 v2,e= .returned (.tuple #[v1,v2,.int .i64 0])∧Own w' w.heap.size 63 3 Us.cells v2 (runsF (fun p=>p.user day) (runP ds (hs.map pcOf)))∧Below w.heap.size w w':=by
 obtain⟨b3,w1,e3,ew1,hx3,hb1,hz3⟩:=mk_bx w #[.int .i64 days,.slice H nh ch] 58
 obtain⟨b5,w2,e5,ew2,hx5,hb2,hz5⟩:=mk_bx w1 #[.int .i64 day] 3
 obtain⟨b6,w3,e6,ew3,hx6,hb3,hz6⟩:=mk_bx w2 #[.slice none 0 0] 56
 obtain⟨b7,w4,e7,ew4,hx7,hb4,hz7⟩:=mk_bx w3 #[.slice none 0 0] 56
 have h35:b3+1=b5:=by have:=e5.out;omega
 have h56:b5+1=b6:=by have:=e6.out;omega
 have h67:b6+1=b7:=by have:=e7.out;omega
 have hw3:w.heap.size=b3:=e3.out
 have hw4:w4.heap.size=b7+1:=by omega
 have hB4:=((hb1.trans (hb2.mono hb1.size)).trans (hb3.mono (hb1.trans (hb2.mono hb1.size)).size)).trans (hb4.mono ((hb1.trans (hb2.mono hb1.size)).trans (hb3.mono (hb1.trans (hb2.mono hb1.size)).size)).size)
 have HU:=hide (deuntil_rents days day H A nh ch n c hs ds w4 hro hnh (hxh.bel hB4) (hA.bel hB4) hn hn6 hday hval hdist hord hrun)
 have HX5:=hide (((hx5.bel hb3).bel hb4));have HX6:=hide (hx6.bel hb4);have HX7:=hide hx7
 obtain⟨q0,q1⟩:=(((hx3.bel hb2).bel hb3).bel hb4).at_.c2
 have q5:=HX5.out.at_.c1
 have HB4:=hide hB4;have H1:=hide h1;have HLN:=hide hlen
 have Hw3:=hide hw3;have Hw4:=hide hw4;have H35:=hide h35;have H56:=hide h56;have H67:=hide h67
 clear hxh hA hx3 hb1 hz3 hx5 hb2 hz5 hx6 hb3 hz6 hx7 hb4 hz7 hB4 hro hnh hn hday hval hdist hord hrun h1 hlen hw3 hw4 h35 h56 h67
 refine(callsIn_wide (n:=9)).1 ?_
 refine callsIn_of_wp_marks Tryz.func19 rfl trivial ?_ rfl
 simp only[Tryz.ntmps19,List.size_toArray,List.length_cons,List.length_nil,Nat.reduceAdd,Nat.reduceSub,Array.replicate_succ,Array.replicate_zero,List.push_toArray,List.append_toArray,List.nil_append,List.cons_append]
 refine wpIn_wide.2 ?_
 go_upto_region 1 with fail
 rw[ew1.out,e3.out,H35.out,ew2.out,H56.out,ew3.out,H67.out,ew4.out]
 clear ew1 e3 ew2 e5 ew3 e6 ew4 e7
 go_wp2_with fail
 refine HU.out.mono ?_
 rintro e w5 ⟨b,bm,base,vp,rfl,hbs,bk5,hb5⟩
 obtain⟨ps,hps⟩:∃ps,ps=runP ds (hs.map pcOf):=⟨_,rfl⟩
 rw[←hps] at bk5 H1 HLN
 have HPS:=hide hps
 obtain⟨N,hN⟩:∃N,ps.length=N:=⟨_,rfl⟩
 obtain⟨g,cp,rfl⟩:=bk5.ow.some_ N hN (by have:=H1.out;omega)
 have HB5:=hide (HB4.out.trans (hb5.mono HB4.out.size))
 have HX55:=hide (HX5.out.bel hb5);have HX65:=hide (HX6.out.bel hb5);have HX75:=hide (HX7.out.bel hb5)
 have HBK:=hide bk5;have HN:=hide hN;have Hbs:=hide hbs
 have HLL:=hide (show ∀who:Pc→Int,(runsF who ps).length≤1001 from fun who=>by
  have:=runsG_len who ps (((ps[0]?).map who).getD 0) 0 0
  have:=HLN.out
  unfold runsF;omega)
 have E1:=hide enters_runs1
 have hg:=bk5.ltv (g:=g) rfl
 have hlb:=bk5.ltb;have hlm:=bk5.ltm;have hgb:=bk5.hb;have hgm:=bk5.hm
 have hnn:1≤N∧N≤1000:=by have:=H1.out;have:=HLN.out;omega
 clear q0 q1 q5 hb5 bk5 hN HU HX5 HX6 HX7 hps
 go_wp2_with fail
 refine(deruns_fn b 59 #[] w5).mono ?_
 rintro e w6 ⟨b2,b3',rfl,x2,x3,hz2,hz3,hb6⟩
 have HBR:=hide (HB5.out.trans (hb6.mono HB5.out.size))
 have HZ:=hide (HX65.out.bel hb6);have HOT:=hide (HX75.out.bel hb6);have HX56:=hide (HX55.out.bel hb6)
 have HBK6:=hide (HBK.out.bel hb6)
 have hs6:=hb6.size
 have hx2l:=x2.lt;have hx3l:=x3.lt
 have hw6:=HZ.out.lt
 have hw3:=Hw3.out;have hw4:=Hw4.out;have h35:=H35.out;have h56:=H56.out;have h67:=H67.out;have hbs:=Hbs.out
 have HRz:=hide (show ∀q,(q=b2∨q=b3'∨q=b∨q=bm∨q=g)→q < w6.heap.size∧¬q=b6 from fun q hq=>by omega)
 have hseq:=fun n hn=>deruns1_seq n hn (fun p=>p.ow) 59 #[] (fun q=>q=b2∨q=b3'∨q=b∨q=bm∨q=g) b2 b3' b bm base g N cp nh ch days H ps (fun _=>none) 0 0 w6 x2 x3 HBK6.out (.inl rfl) (.inr (.inl rfl)) (.inr (.inr (.inl rfl))) (.inr (.inr (.inr (.inl rfl)))) (.inr (.inr (.inr (.inr rfl)))) HN.out.symm hnn.1 (by omega) enters_owners1 (fun x w' _ _=>deowner_any x w')
 have HLL1:=HLL.out (fun p=>p.ow)
 have hbw6:w.heap.size≤b6:=by omega
 clear hb6 x2 x3
 go_wp2_with fail
 refine(wpIn_wide (n:=9)).1 ?_
 refine wp_rangeX (gf:=130) rfl E1.out (hseq _ (by omega)) (Kept.all _ (Below.refl _ _)) (fun b k X G args W h=>by rw[show args=_ from h];rfl) (fun b=>b=b6)
  (fun b h=>h.elim) (by intro b hb;omega) (by intro b hb;exact HRz.out b hb)
  (fun k X W=>BoxX 63 3 Us.cells w b6 (w6.heap.size+2) ((runsF (fun p=>p.ow) ps).take k) X W∧Kept (fun q=>q < w6.heap.size∧q≠b6) w6 W)
  (fun c k X W=>False)
  (fun k X G a W=>∃bh,(a.tmps.size=39∧a.defers=[]∧slot a 6= .pointer (some ⟨b6,0,none⟩)∧slot a 7= .pointer (some ⟨b7,0,none⟩)∧slot a 10= .pointer (some ⟨bh,0,none⟩))∧At W bh [.int .i64 ((runsF (fun p=>p.ow) ps).getD k ⟨0,0,0⟩).field,.int .i64 ((runsF (fun p=>p.ow) ps).getD k ⟨0,0,0⟩).frm,.int .i64 ((runsF (fun p=>p.ow) ps).getD k ⟨0,0,0⟩).to]∧w6.heap.size+2≤bh∧(∀b,X b∨G b→b < bh))
  (fun k X X' A B h hk hX=>⟨h.1.kept hk (fun b hb hx=>⟨hx,by omega,by omega⟩) ⟨fun h'=>by have:=h.1.xge _ h';omega,by omega,by omega⟩ (fun b hb=>⟨fun h'=>by have:=h.1.xge _ h';omega,by omega,by omega⟩) hX,h.2.trans (hk.mono fun q _ hq=>⟨fun h'=>by have:=h.1.xge _ h';omega,by omega,by omega⟩)⟩)
  (fun c k X X' A B h hk hX=>h.elim)
  (fun k X G a A B h hk=>by
   obtain⟨bh,h1,h5,h6,h7⟩:=h
   exact⟨bh,h1,h5.kept hk (by omega),h6,h7⟩)
  (fun W hk hs=>⟨⟨⟨_,(hk.cell (p:=⟨b6,0,none⟩) trivial HZ.out.lt).trans HZ.out.at_.c1,(hk.frozen (p:=⟨b6,0,none⟩) trivial HZ.out.lt).trans (HZ.out.fz 0),Own.nil _ _ _ _ _,by simp[Value.ownBlock]⟩,by omega,HBR.out.trans (hk.below (fun _ _=>trivial) HBR.out.size),fun b h=>h.elim,by omega⟩,hk.mono fun _ _ _=>trivial⟩)
  (fun h=>h.elim) ?assign ?body ?done ?stop ?panic
 case panic=>intro k chain X W h;exact h.elim
 case stop=>intro c k X W hk h;exact h.elim
 case assign=>
  rintro l k X G args W hi hz hk hXlt hXge hE
  rw[show args=_ from hE]
  have Hi:=hide hi
  clear hi hE
  obtain⟨⟨f,s,t⟩,hbd⟩:∃bd,bd=(runsF (fun p=>p.ow) ps).getD k ⟨0,0,0⟩:=⟨_,rfl⟩
  rw[←hbd]
  unfold Us.enc
  dsimp only
  gi_wp2_with fail
  exact⟨Kept.alloc _ _ _,⟨Hi.out.1.kept (Kept.alloc (fun _=>True) _ _) (fun _ _ _=>trivial) trivial (fun _ _=>trivial) (fun _ h=> .inl h),Hi.out.2.trans (Kept.alloc _ _ _)⟩,⟨_,(by and_intros <;> first | rfl | trivial),At.new W _ _ _ rfl _ rfl,hz,hXlt⟩⟩
 case body=>
  rintro l k X G a W hinv ⟨bh,⟨hs,hd,s6,s7,s10⟩,hat,hbh,hXb⟩ hz hk hXlt hXge
  rw[act_eq hs hd]
  obtain⟨u,hu⟩:∃u,u=slot a:=⟨_,rfl⟩
  rw[←hu] at s6 s7 s10 ⊢
  have he:({tmps:=((List.range 39).map u).toArray,defers:=[] }:Act)={tmps:=#[(u 0),(u 1),(u 2),(u 3),(u 4),(u 5),(u 6),(u 7),(u 8),(u 9),(u 10),(u 11),(u 12),(u 13),(u 14),(u 15),(u 16),(u 17),(u 18),(u 19),(u 20),(u 21),(u 22),(u 23),(u 24),(u 25),(u 26),(u 27),(u 28),(u 29),(u 30),(u 31),(u 32),(u 33),(u 34),(u 35),(u 36),(u 37),(u 38)],defers:=[] }:=rfl
  rw[he,s6,s7,s10]
  clear he hs hd hu s6 s7 s10
  obtain⟨v,hc,hf,ho,hn⟩:=hinv.1.own
  obtain⟨x,hx⟩:∃x,x=(runsF (fun p=>p.ow) ps).getD k ⟨0,0,0⟩:=⟨_,rfl⟩
  have htk:(runsF (fun p=>p.ow) ps).take (k+1)=(runsF (fun p=>p.ow) ps).take k ++ [x]:=take_snoc (by rw[hx,List.getD_eq_getElem?_getD,List.getElem?_eq_getElem hk];rfl)
  rw[←hx] at hat
  have Htk:=hide htk
  have hlen:((runsF (fun p=>p.ow) ps).take k).length=k:=by rw[List.length_take,Nat.min_eq_left (by omega)]
  have Hlen:=hide hlen
  have hLL:=HLL.out
  obtain⟨c0,c1,c2⟩:=hat.c3
  have Hinv:=hide hinv;have Ho:=hide ho;have Hn:=hide hn;have Hc:=hide hc;have Hf:=hide hf;have HXlt:=hide hXlt
  have hr:=hide (Rd.new (cells:=Us.cells) W #[.int .i64 x.field,.int .i64 x.frm,.int .i64 x.to] 63 [x] rfl)
  have hlt:=hinv.1.lt
  clear hinv ho hn hXlt hat hx htk hlen
  gi_wp2_with (gi_at_builtin;go_loud (refine wpListIn_app (v:=v) (xs:=(runsF (fun p=>p.ow) ps).take k) (ys:=[x]) (n:=1) el_hold rfl (.tmp 25) (.tmp 27) rfl rfl (Ho.out.alloc _) rfl rfl hr.out (by rw[Hlen.out];simp;omega) (by simp;omega) ?_;intro vv wv hown1 hg1 hat1;have Hst:=hide (BoxX.step (X':=X) Hinv.out.1 Hc.out Hf.out Ho.out Hn.out (fun b h=> .inl h) HXlt.out (below_new W _) hg1 hown1 hat1 (by omega) (by omega));have hkk:=((Kept.all (fun _=>True) (below_new W _)).mono (fun _ _ _=>trivial)).trans ((Kept.grown hg1).mono (R':=fun b=>¬v.ownBlock=some b) fun b _ hb e=>hb e.symm);have hnv:¬v.ownBlock=some b6:=(fun e=>by have:=(Ho.out.blockG e).1;omega);have hc1:=(hkk.cell (p:=⟨b6,0,none⟩) hnv hlt).trans hc;have hf1:=(hkk.frozen (p:=⟨b6,0,none⟩) hnv hlt).trans hf;obtain⟨A1,c1',rfl,hrd1⟩:=hown1.rdn (k+1) (by rw[List.length_append,Hlen.out];rfl);clear hkk hown1 hg1 hat1 hrd1 c0 c1 c2))
  refine⟨Hst.out.2.mono fun b hb hr=>?_,by rw[Htk.out];exact Hst.out.1,Hinv.out.2.trans (Hst.out.2.mono fun q _ hq=>⟨fun e=>by have:=(Ho.out.blockG e).1;omega,hq.2⟩)⟩
  rcases hr with⟨h1,h2⟩ | h1
  ·exact⟨fun e=>by have:=(Ho.out.blockG e).1;omega,h2⟩
  ·exact⟨fun e=>Hn.out b e (.inl h1),fun e=>by(rcases hXge b (.inl h1) with h2 | h2);exact h2.elim;(have e2:b=b6:=e);omega⟩
 case done=>
  intro X w7 hinv hD
  obtain⟨v1,hc,hf,ho,_⟩:=hinv.1.own
  obtain⟨A1,k1,rfl,_⟩:=ho.rdn _ rfl
  have hk7:=hinv.2
  have HV1:=hide (C1.mk hc hf hinv.1.lt)
  have HBK7:=hide (HBK6.out.kept hk7 ⟨by omega,by omega⟩ ⟨by omega,by omega⟩ (fun q hq=>by have:=HBK6.out.ltv hq;exact⟨by omega,by omega⟩))
  have HX57:=hide (HX56.out.kept hk7 ⟨by omega,by omega⟩)
  have HX77:=hide (HOT.out.kept hk7 ⟨by omega,by omega⟩)
  have hs7:=hk7.size
  have hz7:=hinv.1.zle
  have HB7:=hide hinv.1.bl
  have HD:=hide hD
  have hmf:∀(fn:Fn) (first cap:Array Value) (w:World),(Instr.makeFunc fn first cap).run Tryz.prog w= .ok (.func fn first cap) w:=fun _ _ _ _=>rfl
  clear hinv hk7 hc hf ho hD hseq HZ HBR HRz HOT HX56 HBK6 HLL1 hbw6
  go_wp2_with fail
  refine(deruns_fn b 60 #[.pointer (some ⟨b5,0,none⟩)] w7).mono ?_
  rintro e w9 ⟨b2',b3'',rfl,x2,x3,hz2',hz3',hb9⟩
  have HBR:=hide (HB7.out.trans (hb9.mono HB7.out.size))
  have HZ:=hide (HX77.out.bel hb9);have HX59:=hide (HX57.out.bel hb9)
  have HBK9:=hide (HBK7.out.bel hb9)
  have HV9:=hide (HV1.out.kept (Kept.all (fun _=>True) hb9) trivial)
  have HD9:=hide ((hb9.block _ (show w6.heap.size < w7.heap.size by omega)).trans HD.out)
  have hs9:=hb9.size
  have hx2l:=x2.lt;have hx3l:=x3.lt
  have hw9:=HZ.out.lt
  have HRz:=hide (show ∀q,(q=b2'∨q=b3''∨q=b∨q=bm∨q=g∨q=b5)→q < w9.heap.size∧¬q=b7 from fun q hq=>by omega)
  have hseq:=fun n hn=>deruns1_seq n hn (fun p=>p.user day) 60 #[.pointer (some ⟨b5,0,none⟩)] (fun q=>q=b2'∨q=b3''∨q=b∨q=bm∨q=g∨q=b5) b2' b3'' b bm base g N cp nh ch days H ps (fun _=>none) 0 0 w9 x2 x3 HBK9.out (.inl rfl) (.inr (.inl rfl)) (.inr (.inr (.inl rfl))) (.inr (.inr (.inr (.inl rfl)))) (.inr (.inr (.inr (.inr (.inl rfl))))) HN.out.symm hnn.1 (by omega) enters_owners2 (fun x w' _ hk=>deuses_any x day b5 w' (HX59.out.at_.kept hk (.inr (.inr (.inr (.inr (.inr rfl)))))))
  have HLL1:=HLL.out (fun p=>p.user day)
  have hbw6:w.heap.size≤b7:=by omega
  clear hb9 x2 x3
  go_wp2_with fail
  refine(wpIn_wide (n:=9)).1 ?_
  refine wp_rangeX (gf:=130) rfl E1.out (hseq _ (by omega)) (Kept.all _ (Below.refl _ _)) (fun b k X G args W h=>by rw[show args=_ from h];rfl) (fun b=>b=b7)
   (fun b h=>h.elim) (by intro b hb;omega) (by intro b hb;exact HRz.out b hb)
   (fun k X W=>BoxX 63 3 Us.cells w b7 (w9.heap.size+2) ((runsF (fun p=>p.user day) ps).take k) X W∧Kept (fun q=>q < w9.heap.size∧q≠b7) w9 W)
   (fun c k X W=>False)
   (fun k X G a W=>∃bh,(a.tmps.size=39∧a.defers=[]∧slot a 6= .pointer (some ⟨b6,0,none⟩)∧slot a 7= .pointer (some ⟨b7,0,none⟩)∧slot a 11= .pointer (some ⟨bh,0,none⟩))∧At W bh [.int .i64 ((runsF (fun p=>p.user day) ps).getD k ⟨0,0,0⟩).field,.int .i64 ((runsF (fun p=>p.user day) ps).getD k ⟨0,0,0⟩).frm,.int .i64 ((runsF (fun p=>p.user day) ps).getD k ⟨0,0,0⟩).to]∧w9.heap.size+2≤bh∧(∀b,X b∨G b→b < bh))
   (fun k X X' A B h hk hX=>⟨h.1.kept hk (fun b hb hx=>⟨hx,by omega,by omega⟩) ⟨fun h'=>by have:=h.1.xge _ h';omega,by omega,by omega⟩ (fun b hb=>⟨fun h'=>by have:=h.1.xge _ h';omega,by omega,by omega⟩) hX,h.2.trans (hk.mono fun q _ hq=>⟨fun h'=>by have:=h.1.xge _ h';omega,by omega,by omega⟩)⟩)
   (fun c k X X' A B h hk hX=>h.elim)
   (fun k X G a A B h hk=>by
    obtain⟨bh,h1,h5,h6,h7⟩:=h
    exact⟨bh,h1,h5.kept hk (by omega),h6,h7⟩)
   (fun W hk hs=>⟨⟨⟨_,(hk.cell (p:=⟨b7,0,none⟩) trivial HZ.out.lt).trans HZ.out.at_.c1,(hk.frozen (p:=⟨b7,0,none⟩) trivial HZ.out.lt).trans (HZ.out.fz 0),Own.nil _ _ _ _ _,by simp[Value.ownBlock]⟩,by omega,HBR.out.trans (hk.below (fun _ _=>trivial) HBR.out.size),fun b h=>h.elim,by omega⟩,hk.mono fun _ _ _=>trivial⟩)
   (fun h=>h.elim) ?assign ?body ?done ?stop ?panic
  case panic=>intro k chain X W h;exact h.elim
  case stop=>intro c k X W hk h;exact h.elim
  case assign=>
   rintro l k X G args W hi hz hk hXlt hXge hE
   rw[show args=_ from hE]
   have Hi:=hide hi
   clear hi hE
   obtain⟨⟨f,s,t⟩,hbd⟩:∃bd,bd=(runsF (fun p=>p.user day) ps).getD k ⟨0,0,0⟩:=⟨_,rfl⟩
   rw[←hbd]
   unfold Us.enc
   dsimp only
   gi_wp2_with fail
   exact⟨Kept.alloc _ _ _,⟨Hi.out.1.kept (Kept.alloc (fun _=>True) _ _) (fun _ _ _=>trivial) trivial (fun _ _=>trivial) (fun _ h=> .inl h),Hi.out.2.trans (Kept.alloc _ _ _)⟩,⟨_,(by and_intros <;> first | rfl | trivial),At.new W _ _ _ rfl _ rfl,hz,hXlt⟩⟩
  case body=>
   rintro l k X G a W hinv ⟨bh,⟨hs,hd,s6,s7,s11⟩,hat,hbh,hXb⟩ hz hk hXlt hXge
   rw[act_eq hs hd]
   obtain⟨u,hu⟩:∃u,u=slot a:=⟨_,rfl⟩
   rw[←hu] at s6 s7 s11 ⊢
   have he:({tmps:=((List.range 39).map u).toArray,defers:=[] }:Act)={tmps:=#[(u 0),(u 1),(u 2),(u 3),(u 4),(u 5),(u 6),(u 7),(u 8),(u 9),(u 10),(u 11),(u 12),(u 13),(u 14),(u 15),(u 16),(u 17),(u 18),(u 19),(u 20),(u 21),(u 22),(u 23),(u 24),(u 25),(u 26),(u 27),(u 28),(u 29),(u 30),(u 31),(u 32),(u 33),(u 34),(u 35),(u 36),(u 37),(u 38)],defers:=[] }:=rfl
   rw[he,s6,s7,s11]
   clear he hs hd hu s6 s7 s11
   obtain⟨v,hc,hf,ho,hn⟩:=hinv.1.own
   obtain⟨x,hx⟩:∃x,x=(runsF (fun p=>p.user day) ps).getD k ⟨0,0,0⟩:=⟨_,rfl⟩
   have htk:(runsF (fun p=>p.user day) ps).take (k+1)=(runsF (fun p=>p.user day) ps).take k ++ [x]:=take_snoc (by rw[hx,List.getD_eq_getElem?_getD,List.getElem?_eq_getElem hk];rfl)
   rw[←hx] at hat
   have Htk:=hide htk
   have hlen:((runsF (fun p=>p.user day) ps).take k).length=k:=by rw[List.length_take,Nat.min_eq_left (by omega)]
   have Hlen:=hide hlen
   have hLL:=HLL.out
   obtain⟨c0,c1,c2⟩:=hat.c3
   have Hinv:=hide hinv;have Ho:=hide ho;have Hn:=hide hn;have Hc:=hide hc;have Hf:=hide hf;have HXlt:=hide hXlt
   have hr:=hide (Rd.new (cells:=Us.cells) W #[.int .i64 x.field,.int .i64 x.frm,.int .i64 x.to] 63 [x] rfl)
   have hlt:=hinv.1.lt
   clear hinv ho hn hXlt hat hx htk hlen
   gi_wp2_with (gi_at_builtin;go_loud (refine wpListIn_app (v:=v) (xs:=(runsF (fun p=>p.user day) ps).take k) (ys:=[x]) (n:=1) el_hold rfl (.tmp 33) (.tmp 35) rfl rfl (Ho.out.alloc _) rfl rfl hr.out (by rw[Hlen.out];simp;omega) (by simp;omega) ?_;intro vv wv hown1 hg1 hat1;have Hst:=hide (BoxX.step (X':=X) Hinv.out.1 Hc.out Hf.out Ho.out Hn.out (fun b h=> .inl h) HXlt.out (below_new W _) hg1 hown1 hat1 (by omega) (by omega));have hkk:=((Kept.all (fun _=>True) (below_new W _)).mono (fun _ _ _=>trivial)).trans ((Kept.grown hg1).mono (R':=fun b=>¬v.ownBlock=some b) fun b _ hb e=>hb e.symm);have hnv:¬v.ownBlock=some b7:=(fun e=>by have:=(Ho.out.blockG e).1;omega);have hc1:=(hkk.cell (p:=⟨b7,0,none⟩) hnv hlt).trans hc;have hf1:=(hkk.frozen (p:=⟨b7,0,none⟩) hnv hlt).trans hf;obtain⟨A1,c1',rfl,hrd1⟩:=hown1.rdn (k+1) (by rw[List.length_append,Hlen.out];rfl);clear hkk hown1 hg1 hat1 hrd1 c0 c1 c2))
   refine⟨Hst.out.2.mono fun b hb hr=>?_,by rw[Htk.out];exact Hst.out.1,Hinv.out.2.trans (Hst.out.2.mono fun q _ hq=>⟨fun e=>by have:=(Ho.out.blockG e).1;omega,hq.2⟩)⟩
   rcases hr with⟨h1,h2⟩ | h1
   ·exact⟨fun e=>by have:=(Ho.out.blockG e).1;omega,h2⟩
   ·exact⟨fun e=>Hn.out b e (.inl h1),fun e=>by(rcases hXge b (.inl h1) with h2 | h2);exact h2.elim;(have e2:b=b7:=e);omega⟩
  case done=>
   intro X' w10 hinv hD10
   obtain⟨v2,hc,hf,ho,_⟩:=hinv.1.own
   obtain⟨A2,k2,rfl,_⟩:=ho.rdn _ rfl
   have hk10:=hinv.2
   have HV2:=hide (C1.mk hc hf hinv.1.lt)
   have HV1:=hide (HV9.out.kept hk10 ⟨by omega,by omega⟩)
   have HD1:=hide ((hk10.same _ ⟨by omega,by omega⟩ (by omega)).trans HD9.out)
   have HD2:=hide hD10
   rw[List.take_of_length_le (Nat.le_refl _)] at ho
   have HO:=hide ho
   have HB10:=hide hinv.1.bl
   have hzl:=hinv.1.zle
   have hg2:=fun q hq=>(ho.blockG (g:=q) hq).1
   have Hg2:=hide hg2
   have y1:=HV1.out.c;have y2:=HV2.out.c;have f1:=HV1.out.f;have f2:=HV2.out.f
   clear hinv hk10 hc hf ho hD10 hseq HZ HBR HRz HLL1 hg2
   go_wp2_with fail
   go_region
   go_wp2_with fail
   obtain⟨wz,hwz⟩:∃wz,((w10.setCell ⟨b6,0,none⟩ (.slice A1 (runsF (fun p=>p.ow) ps).length k1)).setCell ⟨b7,0,none⟩ (.slice A2 (runsF (fun p=>p.user day) ps).length k2)).drew=wz:=⟨_,rfl⟩
   have hkz:Kept (fun q=>q≠b6∧q≠b7) w10 wz:=by
    rw[←hwz]
    exact((((Kept.setCell w10 ⟨b6,0,none⟩ _).mono fun q _ hq=>hq.1).trans ((Kept.setCell _ ⟨b7,0,none⟩ _).mono fun q _ hq=>hq.2)).trans (Kept.drew _ _ 1))
   have hz7c:wz.cell? ⟨b7,0,none⟩=some (.slice A2 (runsF (fun p=>p.user day) ps).length k2):=by
    rw[←hwz,World.cell?_drew]
    exact World.cell?_setCell_same _ _ _ ((World.cell?_setCell_far _ _ _ _ (by show b6≠b7;omega)).trans HV2.out.c)
   have hz6c:wz.cell? ⟨b6,0,none⟩=some (.slice A1 (runsF (fun p=>p.ow) ps).length k1):=by
    rw[←hwz,World.cell?_drew]
    exact(World.cell?_setCell_far _ _ _ _ (by show b7≠b6;omega)).trans (World.cell?_setCell_same _ _ _ HV1.out.c)
   rw[hwz]
   have hs10:=hkz.size
   have hDa:wz.heap[w9.heap.size]?=some (.deferred (some [])):=(hkz.same _ ⟨by omega,by omega⟩ (by omega)).trans HD2.out
   have hka:Kept (fun q=>q≠w9.heap.size) wz (wz.putObj w9.heap.size (.deferred none)):=Kept.putObj wz _ _
   have hDb:(wz.putObj w9.heap.size (.deferred none)).heap[w6.heap.size]?=some (.deferred (some [])):=(hka.same _ (by omega) (by omega)).trans ((hkz.same _ ⟨by omega,by omega⟩ (by omega)).trans HD1.out)
   have hkb:Kept (fun q=>q≠w6.heap.size) (wz.putObj w9.heap.size (.deferred none)) ((wz.putObj w9.heap.size (.deferred none)).putObj w6.heap.size (.deferred none)):=Kept.putObj _ _ _
   have hkab:Kept (fun q=>q≠w9.heap.size∧q≠w6.heap.size) wz ((wz.putObj w9.heap.size (.deferred none)).putObj w6.heap.size (.deferred none)):=(hka.mono fun q _ hq=>hq.1).trans (hkb.mono fun q _ hq=>hq.2)
   have y7:=(hkab.cell (p:=⟨b7,0,none⟩) ⟨by show b7≠_;omega,by show b7≠_;omega⟩ (by show b7 < _;have:=HV2.out.lt;omega)).trans hz7c
   have y6:=(hkab.cell (p:=⟨b6,0,none⟩) ⟨by show b6≠_;omega,by show b6≠_;omega⟩ (by show b6 < _;have:=HV1.out.lt;omega)).trans hz6c
   have hall:=(hkz.mono (R':=fun q=>q≠b6∧q≠b7∧q≠w9.heap.size∧q≠w6.heap.size) fun q _ hq=>⟨hq.1,hq.2.1⟩).trans (hkab.mono fun q _ hq=>⟨hq.2.2.1,hq.2.2.2⟩)
   have ho:=(HO.out.keptG hall (fun q hq=>by have:=Hg2.out q hq;exact⟨by omega,by omega,by omega,by omega⟩)).mono (show w.heap.size≤_ by omega)
   have hbl:=HB10.out.trans (hall.below (fun q hq=>⟨by omega,by omega,by omega,by omega⟩) HB10.out.size)
   refine⟨by simp,.inl ⟨_,_,rfl,run_takeDeferred hDa,?_⟩⟩
   refine⟨by simp,.inl ⟨_,_,rfl,run_takeDeferred hDb,?_⟩⟩
   refine⟨.tuple #[.slice A1 (runsF (fun p=>p.ow) ps).length k1,.slice A2 (runsF (fun p=>p.user day) ps).length k2,.int .i64 0],?_,_,_,rfl,?_,hbl⟩
   ·simp only[results,Tryz.results19]
    simp[go_sem,y6,y7]
   ·rw[←HPS.out]
    exact ho
end Go.Proofs.YtiioegopckoldaaGreatDoor
