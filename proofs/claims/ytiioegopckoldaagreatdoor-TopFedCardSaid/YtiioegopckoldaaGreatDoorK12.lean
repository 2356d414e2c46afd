/- lemmas for topFed_holds: F11 F10. No conditions. -/
import Derived.Test.YtiioegopckoldaaGreatDoorK11
import Derived.Test.YtiioegopckoldaaGreatDoorK10
import Derived.Test.YtiioegopckoldaaGreatDoorK08
set_option linter.unusedVariables false
set_option linter.unusedSimpArgs false
namespace Go.Proofs.YtiioegopckoldaaGreatDoor
open Go.RowKit Go.Shelf
attribute [local go_sem] Oper.semAt_some
theorem el_sp:ElLaw Tryz.prog 35 24 2 16 Sp.cells:=elLaw_of Tryz.underlying35 info_Sp rfl (by omega) Sp.len Sp.one (by omega)
def GivesS (L:Nat→Sp):Nat→Nat→(Nat→Prop)→(Nat→Prop)→Array Value→World→Prop:=fun _ k _ _ args _=>args= #[.agg #[.int .i64 (L k).lo,.int .i64 (L k).hi]]
def CollPost (fin:Prop) (Pn:Nat→List PanicEntry→Prop) (L:List Sp) (w:World) (e:Ending) (w':World):Prop:=
 (fin∧∃v,e= .returned v∧Own w' w.heap.size 24 2 Sp.cells v L∧Below w.heap.size w w')∨(∃chain k,e= .panicked chain∧Pn k chain∧Below w.heap.size w w')
set_option maxHeartbeats 4000000 in
set_option maxRecDepth 100000 in
theorem appendSeq_sp (gf:Nat) (lb:Array Value) (L:Nat→Sp) (N:Nat) (fin:Prop) (Pn:Nat→List PanicEntry→Prop) (R:Nat→Prop) (w:World) (eg:∀args w,(callFunc gf args).run Tryz.prog w= .ok (.enter gf args) w)
 (hseq:∀n,6≤n→SeqXF n Tryz.prog gf lb (GivesS L) N fin Pn (fun _=>False) R w) (hR:∀b,R b→b < w.heap.size) (hlen:N≤1000) :
 Calls Tryz.prog 155 #[.slice none 0 0,.func (.func gf) #[] lb] w (CollPost fin Pn ((List.range N).map L) w):=by
 obtain⟨w1,Hw1⟩:∃w1,Hid (w.alloc (.cells #[.slice none 0 0] 35)=w1):=⟨_,hide rfl⟩
 have hb1:Below w.heap.size w w1:=by rw[←Hw1.out];exact below_new _ _
 have hz1:w1.heap.size=w.heap.size+1:=by rw[←Hw1.out];simp
 have hbx:Bx w1 w.heap.size [.slice none 0 0]:=by rw[←Hw1.out];exact Bx.new w _ _ _ rfl _ rfl
 have htake:∀k,k < N→(List.range (k+1)).map L=(List.range k).map L ++ [L k]:=fun k _=>by rw[List.range_succ,List.map_append];rfl
 refine(callsIn_wide (n:=9)).1 ?_
 refine callsIn_of_wp_marks Tryz.func155 rfl trivial ?_ rfl
 simp only[Tryz.ntmps155,List.size_toArray,List.length_cons,List.length_nil,Nat.reduceAdd,Nat.reduceSub,Array.replicate_succ,Array.replicate_zero,List.push_toArray,List.append_toArray,List.nil_append,List.cons_append]
 gi_wp2_with fail
 rw[Hw1.out]
 refine wp_rangeXF (gf:=gf) (lb:=lb) rfl eg (hseq _ (by omega)) (Kept.all _ hb1) (fun b k X G args W h=>by rw[show args=_ from h];rfl) (fun b=>b=w.heap.size)
  (fun b h=>h.elim) (by intro b hb;omega) (by intro b hb;have:=hR b hb;omega)
  (fun k X W=>BoxX 24 2 Sp.cells w w.heap.size (w1.heap.size+2) ((List.range k).map L) X W)
  (fun c k X W=>False)
  (fun k X G a W=>∃b5,a.tmps.size=13∧a.defers=[]∧slot a 2= .pointer (some ⟨w.heap.size,0,none⟩)∧slot a 5= .pointer (some ⟨b5,0,none⟩)∧At W b5 [.int .i64 (L k).lo,.int .i64 (L k).hi]∧w1.heap.size+2≤b5∧(∀b,X b∨G b→b < b5))
  (fun k X X' A B h hk hX=>h.kept hk (fun b hb hx=>⟨hx,by omega,by omega⟩) ⟨fun h'=>by have:=h.xge _ h';omega,by omega,by omega⟩ (fun b hb=>⟨fun h'=>by have:=h.xge _ h';omega,by omega,by omega⟩) hX)
  (fun c k X X' A B h hk hX=>h.elim)
  (fun k X G a A B h hk=>by
   obtain⟨b5,h1,h2,h3,h4,h5,h6,h7⟩:=h
   exact⟨b5,h1,h2,h3,h4,h5.kept hk (by omega),h6,h7⟩)
  (fun W hk hs=>⟨⟨_,(hk.cell (p:=⟨w.heap.size,0,none⟩) trivial hbx.lt).trans hbx.w1.1,(hk.frozen (p:=⟨w.heap.size,0,none⟩) trivial hbx.lt).trans hbx.w1.2,Own.nil _ _ _ _ _,by simp[Value.ownBlock]⟩,by omega,hb1.trans (hk.below (fun _ _=>trivial) hb1.size),fun b h=>h.elim,by omega⟩)
  ?assign ?body ?done ?stop ?panic
 case stop=>intro c k X W hk h;exact h.elim
 case assign=>
  rintro l k X G args W hi hz hk hXlt hXge hE
  rw[show args=_ from hE]
  have Hi:=hide hi
  clear hi hE
  gi_wp2_with fail
  exact⟨Kept.alloc _ _ _,Hi.out.kept (Kept.alloc (fun _=>True) _ _) (fun _ _ _=>trivial) trivial (fun _ _=>trivial) (fun _ h=> .inl h),⟨_,by first | rfl | trivial,by first | rfl | trivial,by first | rfl | trivial,by first | rfl | trivial,At.new W _ _ _ rfl _ rfl,hz,hXlt⟩⟩
 case body=>
  rintro l k X G a W hinv ⟨b5,hs,hd,s2,s5,hat,hb5,hXb⟩ hz hk hXlt hXge
  rw[act_eq hs hd]
  obtain⟨u,hu⟩:∃u,u=slot a:=⟨_,rfl⟩
  rw[←hu] at s2 s5 ⊢
  have he:({tmps:=((List.range 13).map u).toArray,defers:=[] }:Act)={tmps:=#[(u 0),(u 1),(u 2),(u 3),(u 4),(u 5),(u 6),(u 7),(u 8),(u 9),(u 10),(u 11),(u 12)],defers:=[] }:=rfl
  rw[he,s2,s5]
  clear he hs hd hu s2 s5
  obtain⟨v,hc,hf,ho,hn⟩:=hinv.own
  obtain⟨c0,c1⟩:=hat.c2
  have Hinv:=hide hinv;have Ho:=hide ho;have Hn:=hide hn;have Hc:=hide hc;have Hf:=hide hf;have HXlt:=hide hXlt
  have hr:=hide (Rd.new (cells:=Sp.cells) W #[.int .i64 (L k).lo,.int .i64 (L k).hi] 24 [L k] rfl)
  have hlt:=hinv.lt
  clear hinv ho hn hXlt hat
  gi_wp2_with (gi_at_builtin;go_loud (refine wpListIn_app (v:=v) (xs:=(List.range k).map L) (ys:=[L k]) (n:=1) el_sp rfl (.tmp 8) (.tmp 10) rfl rfl (Ho.out.alloc _) rfl rfl hr.out (by simp;omega) (by simp;omega) ?_;intro vv wv hown1 hg1 hat1;have Hst:=hide (BoxX.step (X':=X) Hinv.out Hc.out Hf.out Ho.out Hn.out (fun b h=> .inl h) HXlt.out (below_new W _) hg1 hown1 hat1 (by omega) (Nat.le_refl _));have hkk:=((Kept.all (fun _=>True) (below_new W _)).mono (fun _ _ _=>trivial)).trans ((Kept.grown hg1).mono (R':=fun b=>¬v.ownBlock=some b) fun b _ hb e=>hb e.symm);have hnv:¬v.ownBlock=some w.heap.size:=(fun e=>by have:=(Ho.out.blockG e).1;omega);have hc1:=(hkk.cell (p:=⟨w.heap.size,0,none⟩) hnv hlt).trans hc;have hf1:=(hkk.frozen (p:=⟨w.heap.size,0,none⟩) hnv hlt).trans hf;obtain⟨A1,c1',rfl,hrd1⟩:=hown1.rdn (k+1) (by simp);clear hkk hown1 hg1 hat1 hrd1 c0 c1))
  refine⟨Hst.out.2.mono fun b hb hr=>?_,by show BoxX _ _ _ _ _ _ ((List.range (k+1)).map L) _ _;rw[htake k hk];exact Hst.out.1⟩
  rcases hr with⟨h1,h2⟩ | h1
  ·exact⟨fun e=>by have:=(Ho.out.blockG e).1;omega,h2⟩
  ·exact⟨fun e=>Hn.out b e (.inl h1),fun e=>by(rcases hXge b (.inl h1) with h2 | h2);exact h2.elim;(have e2:b=w.heap.size:=e);omega⟩
 case done=>
  intro hfin X W hinv hD
  obtain⟨v,hc,hf,ho,hn⟩:=hinv.own
  have Hinv:=hide hinv;have Ho:=hide ho;have HD:=hide hD
  clear hinv ho hn hD
  gi_wp2_with fail
  refine⟨by simp,.inl ⟨_,_,rfl,run_takeDeferred HD.out,?_⟩⟩
  refine⟨_,results_tmp rfl _ _ _,?_⟩
  have hk:=Kept.putObj W w1.heap.size (.deferred none)
  exact .inl ⟨hfin,v,rfl,(Ho.out.keptG hk (fun g hg=>by have:=(Ho.out.blockG hg).1;omega)).mono (by omega),Hinv.out.bl.trans (hk.below (fun b hb=>by omega) Hinv.out.bl.size)⟩
 case panic=>
  intro k chain X W hp hinv hD
  refine⟨by simp,.inl ⟨_,_,rfl,run_takeDeferred hD,?_⟩⟩
  exact .inr ⟨chain,k,rfl,hp,hinv.bl.trans ((Kept.putObj W w1.heap.size (.deferred none)).below (fun b hb=>by omega) hinv.bl.size)⟩
theorem collect_sp (gf:Nat) (lb:Array Value) (L:Nat→Sp) (N:Nat) (fin:Prop) (Pn:Nat→List PanicEntry→Prop) (R:Nat→Prop) (w:World) (eg:∀args w,(callFunc gf args).run Tryz.prog w= .ok (.enter gf args) w)
 (hseq:∀n,6≤n→SeqXF n Tryz.prog gf lb (GivesS L) N fin Pn (fun _=>False) R w) (hR:∀b,R b→b < w.heap.size) (hlen:N≤1000) :
 Calls Tryz.prog 87 #[.func (.func gf) #[] lb] w (CollPost fin Pn ((List.range N).map L) w):=by
 have H:=hide (appendSeq_sp gf lb L N fin Pn R w eg hseq hR hlen)
 clear hseq eg
 go_enter Tryz.func87,Tryz.ntmps87
 go_wp2_with fail
 refine H.out.mono ?_
 rintro e w' (⟨hfin,v,rfl,ho,hb⟩ | ⟨chain,k,rfl,hp,hb⟩)
 ·have Ho:=hide ho
  clear ho
  go_wp2
  go_ret
  exact .inl ⟨hfin,v,rfl,Ho.out,hb⟩
 ·exact⟨rfl,.inr ⟨chain,k,rfl,hp,hb⟩⟩
end Go.Proofs.YtiioegopckoldaaGreatDoor
namespace Go.Proofs.YtiioegopckoldaaGreatDoor
open Go.RowKit Go.Shelf
attribute [local go_sem] ite_min ite_max
section
variable {W:World} {base:Nat} {e:TypeId} {g n c i:Nat} {D:List Sp} {x:Sp}
theorem gown_sp (h:Own W base e 2 Sp.cells (.slice (some ⟨g,0,none⟩) n c) D) (hx:D[i]?=some x) (hn:n=D.length):W.cell? ⟨g,i*2,none⟩=some (.int .i64 x.lo)∧W.cell? ⟨g,i*2+1,none⟩=some (.int .i64 x.hi)∧W.frozen? ⟨g,i*2,none⟩=false∧W.frozen? ⟨g,i*2+1,none⟩=false:=by
 subst hn
 have hi:i < D.length:=(List.getElem?_eq_some_iff.1 hx).1
 have hlt:i*2+1 < D.length*2:=by omega
 refine⟨?_,?_,World.ownsRow.frozenAt h _,World.ownsRow.frozenAt h _⟩
 ·rw[World.ownsRow.cellAt h (i*2) (by omega)]
  exact flat_get Sp.len hx (j:=0) (by omega)
 ·rw[World.ownsRow.cellAt h (i*2+1) hlt]
  exact flat_get Sp.len hx (j:=1) (by omega)
theorem gown_sp_set (h:Own W base e 2 Sp.cells (.slice (some ⟨g,0,none⟩) n c) D) (hx:D[i]?=some x) (y:Sp) (hn:n=D.length) :
 Own ((W.setCell ⟨g,i*2,none⟩ (.int .i64 y.lo)).setCell ⟨g,i*2+1,none⟩ (.int .i64 y.hi)) base e 2 Sp.cells (.slice (some ⟨g,0,none⟩) n c) (D.set i y)∧Kept (fun b=>b≠g) W ((W.setCell ⟨g,i*2,none⟩ (.int .i64 y.lo)).setCell ⟨g,i*2+1,none⟩ (.int .i64 y.hi)):=by
 have hi:i < D.length:=(List.getElem?_eq_some_iff.1 hx).1
 obtain⟨o1,_,_⟩:=h.put_ Sp.len (i:=i) (j:=0) (x':=⟨y.lo,x.hi⟩) (u:= .int .i64 y.lo) hx (by omega) rfl hn
 have hx1:(D.set i ⟨y.lo,x.hi⟩)[i]?=some ⟨y.lo,x.hi⟩:=List.getElem?_set_self hi
 obtain⟨o2,_,_⟩:=o1.put_ Sp.len (i:=i) (j:=1) (x':=y) (u:= .int .i64 y.hi) hx1 (by omega) rfl (by rw[List.length_set];exact hn)
 rw[List.set_set] at o2
 exact⟨o2,(Kept.setCell W ⟨g,i*2,none⟩ _).trans (Kept.setCell _ ⟨g,i*2+1,none⟩ _)⟩
end
theorem info_reach:(Tryz.prog.info? 114).map (fun i=>(i.zero,i.size,i.bytes))=some (some (.agg #[.int .i64 0,.int .i64 0,.int .i64 0,.int .i64 0,.int .i64 0,.int .i64 0]),6,48):=by kernel_rfl
theorem el_reach:ElLaw Tryz.prog 107 114 6 48 Rc.cells:=elLaw_of Tryz.underlying107 info_reach rfl (by omega) Rc.len Rc.one (by omega)
def gaIn (n:Nat) (l:List Ga):Prop:=∀x∈l,0≤x.shaft∧x.shaft≤n
set_option maxHeartbeats 4000000 in
set_option maxRecDepth 100000 in
theorem gopen_any (A A':Option Addr) (g:List Rc) (l:List Ga) (n c n' c':Nat) (w:World) (hn:n=g.length) (hm:n≤20) (hx:Rd w w.heap.size Rc.cells A g)
 (hn':n'=l.length) (hm':n'≤100) (hx':Rd w w.heap.size Ga.cells A' l) (hl:gaIn n l) :
 Calls Tryz.prog 32 #[.slice A n c,.slice A' n' c'] w fun e w'=>∃Aa ca gb cb,e= .returned (.agg #[.slice Aa n ca,.slice (some ⟨gb,0,none⟩) (n+1) cb])∧Own w' w.heap.size 114 6 Rc.cells (.slice Aa n ca) g∧Own w' w.heap.size 24 2 Sp.cells (.slice (some ⟨gb,0,none⟩) (n+1) cb) (rdS n l)∧Below w.heap.size w w':=by
 obtain⟨b4,w0,e4,ew0,hx4,hb0,hz0⟩:=mk_bx w #[.slice none 0 0,.slice none 0 0] 109
 obtain⟨b5,w1,e5,ew1,hx5,hb1,hz1⟩:=mk_bx w0 #[.slice none 0 0,.slice none 0 0] 109
 obtain⟨b6,w2,e6,ew2,hx6,hb2,hz2⟩:=mk_bx w1 #[.int .i64 0,.int .i64 13000000] 24
 have Hn:=hide hn;have Hx:=hide hx;have Hn':=hide hn';have Hx':=hide hx';have Hl:=hide hl
 clear hn hx hn' hx' hl
 have hb12:=hb1.trans (hb2.mono hb1.size)
 have hb02:=hb0.trans (hb12.mono hb0.size)
 have i5:b5=b4+1:=by have:=e5.out;omega
 subst i5
 have i6:b6=b4+1+1:=by have:=e6.out;omega
 subst i6
 have i4:w.heap.size=b4:=e4.out
 have c0:=hx6.w2.1
 have c1:=hx6.w2.2.1
 go_enter Tryz.func32,Tryz.ntmps32
 go_wp2_with fail
 rw[ew0.out,ew1.out,ew2.out,show((n:Int)+1)=((n+1:Nat):Int) from rfl]
 refine(repeat_any (b4+1+1) 0 1 (n+1) allS w2 hx6.lt c0 c1 (by omega) (by omega)).mono ?_
 rintro e w3 ⟨v,rfl,ho3,hb3⟩
 obtain⟨A3,c3,hv3,hr3⟩:=ho3.rd
 have hA3:∃gb,A3=some ⟨gb,0,none⟩∧w2.heap.size≤gb∧gb < w3.heap.size:=by
  obtain⟨_,h | ⟨q,cap,cur,hv,hq,hq2,_⟩⟩:=ho3
  ·have:=h.2;simp at this
  ·rw[hv3] at hv
   injection hv with h1 h2 h3
   exact⟨q,h1,hq,(Array.getElem?_eq_some_iff.1 hq2).1⟩
 obtain⟨gb,rfl,hgb1,hgb2⟩:=hA3
 rw[List.length_replicate] at hv3
 subst hv3
 have hx5':=(hx5.bel hb2).bel hb3
 have hx4':=((hx4.bel hb1).bel hb2).bel hb3
 obtain⟨p0,p1,y0,y1⟩:=hx5'.w2
 have i3:w2.heap.size≤w3.heap.size:=hb3.size
 have hB3:=hb02.trans (hb3.mono hb02.size)
 have Ho3:=hide ho3
 clear ho3 hr3 c0 c1 hx6 hx5 hx4
 go_wp2_with fail
 have Hx3:=hide (Hx.out.below hB3)
 have Hx3':=hide (Hx'.out.below hB3)
 have i7:b4≤w3.heap.size:=by omega
 rw[i4] at Hx3 Hx3'
 go_loopw [19] (fun i wr=>∃(k:Nat) (va:Value),i= .int .i64 k∧k≤n∧Bx wr (b4+1) [va,.slice (some ⟨gb,0,none⟩) (n+1) c3]∧Own wr w3.heap.size 114 6 Rc.cells va (g.take k)∧Kept (fun b=>b < w3.heap.size∧b≠b4+1) w3 wr) (fun i _=>n-(intOf i).toNat)
 case atStart=>exact⟨0,_,rfl,by omega,by simpa using hx5'.set (j:=1) (.slice (some ⟨gb,0,none⟩) (n+1) c3) (by simp),Own.nil _ _ _ _ _,(Kept.setCell w3 ⟨b4+1,1,none⟩ _).mono fun b _ hb=>hb.2⟩
 case round=>
  obtain⟨k,va,rfl,hk,hp5,hva,hkp⟩:=hrel
  obtain⟨z0,z1,v0,v1⟩:=hp5.w2
  have hlw:=hp5.lt
  have hsz:=hkp.size
  by_cases hlt:k < n
  ·obtain⟨b,off,r0,r1,r2,r3,r4,r5,rfl,hB,hxk,q0,q1,q2,q3,q4,q5⟩:=(Hx3.out.keptR hkp (fun b hb=>⟨by omega,by omega⟩) i7).rc (i:=k) (by have:=Hn.out;omega)
   obtain⟨b7,w5,e7,ew5,hx7,hb5,hz5⟩:=mk_bx wr #[.int .i64 r0,.int .i64 r1,.int .i64 r2,.int .i64 r3,.int .i64 r4,.int .i64 r5] 47
   have hr:=Rd.new (cells:=Rc.cells) w5 #[.int .i64 r0,.int .i64 r1,.int .i64 r2,.int .i64 r3,.int .i64 r4,.int .i64 r5] 114 [⟨⟨r0,r1⟩,⟨r2,r3⟩,⟨r4,r5⟩⟩] rfl
   rw[hz5] at hr
   have hb6:=below_new w5 (.cells #[.int .i64 r0,.int .i64 r1,.int .i64 r2,.int .i64 r3,.int .i64 r4,.int .i64 r5] 114)
   have hb56:=hb5.trans (hb6.mono hb5.size)
   have hnv:¬va.ownBlock=some (b4+1):=fun e=>by have:=(hva.blockG e).1;omega
   have Hr:=hide hr;have Hva:=hide hva;have Hva6:=hide (hva.bel hb56)
   have hp6:=hp5.bel hb56
   have Hk:=hide hkp;have Hxk:=hide hxk
   clear hva hkp hr hxk
   go_wp2_with (at_builtin;go_loud (rw[ew5.out,e7.out];refine wpList_app (v:=va) (xs:=g.take k) (ys:=[⟨⟨r0,r1⟩,⟨r2,r3⟩,⟨r4,r5⟩⟩]) (n:=1) el_reach rfl (.tmp 24) (.tmp 27) rfl rfl Hva6.out rfl rfl Hr.out (by rw[List.length_take];omega) (Nat.le_trans hsz hb56.size) ?_;intro vv wv hown1 hg1 hat1;have hp7:=hp6.kept (Kept.grown hg1) (fun e=>hnv e.symm);obtain⟨s0,s1,t0,t1⟩:=hp7.w2;have hkv:=kept_app2 Hva.out hb56 hg1;obtain⟨A1,c1,rfl,hrd1⟩:=hown1.rdn (k+1) (by rw[List.length_append,List.length_take];have:=Hn.out;simp;omega);have Hown1:=hide hown1;clear hown1 hg1 hat1 hrd1))
   refine⟨⟨k+1,_,by go_num,by omega,by simpa using hp7.set (j:=0) (.slice A1 (k+1) c1) (by simp),?_,?_⟩,by simp[intOf];omega⟩
   ·rw[take_snoc Hxk.out]
    exact Hown1.out.keptG (Kept.setCell wv ⟨b4+1,0,none⟩ _) (fun q hq=>by have:=(Hown1.out.blockG hq).1;show q≠b4+1;omega)
   ·exact Hk.out.trans ((hkv.mono fun b _ hb e=>by have:=(Hva.out.blockG e).1;omega).trans ((Kept.setCell wv ⟨b4+1,0,none⟩ _).mono fun b _ hb=>hb.2))
  ·obtain rfl:n=k:=by omega
   rw[List.take_of_length_le (by rw[←Hn.out];exact Nat.le_refl _)] at hva
   obtain⟨Aa,ca,rfl,hra⟩:=hva.rdn n Hn.out.symm
   clear hra
   obtain⟨wo,rfl⟩:∃wo,wo=wr:=⟨wr,rfl⟩
   have hvb:Own wo b4 24 2 Sp.cells (.slice (some ⟨gb,0,none⟩) (n+1) c3) (rdS n []):=by
    have h1:=Ho3.out.keptG hkp (fun q hq=>by simp[Value.ownBlock] at hq;omega)
    exact(h1.mono (by omega))
   have Hva:=hide hva;have Hvb:=hide hvb;have Hk:=hide hkp
   have i8:b4+1≠gb:=by omega
   have i9:∀q,(Value.slice Aa n ca).ownBlock=some q→q≠gb:=fun q hq=>by have:=(hva.blockG hq).1;omega
   have i10:gb < wo.heap.size:=by omega
   clear hva hvb hkp z0 z1 v0 v1 Ho3
   go_wp2_with fail
   go_loopw [33] (fun i wr=>∃k:Nat,i= .int .i64 k∧k≤n'∧Own wr b4 24 2 Sp.cells (.slice (some ⟨gb,0,none⟩) (n+1) c3) (rdS n (l.take k))∧Kept (fun b=>b < wo.heap.size∧b≠gb) wo wr) (fun i _=>n'-(intOf i).toNat)
   case atStart=>exact⟨0,rfl,by omega,Hvb.out,Kept.refl _ _⟩
   case round=>
    obtain⟨k,rfl,hk,hvb,hkp⟩:=hrel
    replace hp5:=hp5.kept hkp ⟨hp5.lt,i8⟩
    have hsz:=hkp.size
    by_cases hlt:k < n'
    ·obtain⟨b,off,s,lo,hi,rfl,hB,hxk,q0,q1,q2⟩:=((Hx3'.out.keptR Hk.out (fun b hb=>⟨by omega,by omega⟩) i7).keptR hkp (fun b hb=>⟨by omega,by omega⟩) (by omega)).ga (i:=k) (by have:=Hn'.out;omega)
     have hsh:=Hl.out _ (List.mem_of_getElem? hxk)
     simp only at hsh
     obtain⟨j,rfl⟩:∃j:Nat,s=j:=⟨s.toNat,by omega⟩
     have hj:j < n+1:=by omega
     have hj2:(j:Int) < (n:Int)+1:=by omega
     obtain⟨b9,w9,e9,ew9,hx9,hb9,hz9⟩:=mk_bx wr #[.int .i64 j,.int .i64 lo,.int .i64 hi] 185
     have hxj:(rdS n (l.take k))[j]?=some ((rdS n (l.take k)).getD j allS):=by rw[List.getD_eq_getElem?_getD,List.getElem?_eq_getElem (by rw[rdS_len];exact hj)];rfl
     obtain⟨r0,hr0⟩:∃r0,r0=(rdS n (l.take k)).getD j allS:=⟨_,rfl⟩
     rw[←hr0] at hxj
     have et:rdS n (l.take (k+1))=(rdS n (l.take k)).set j (cutS r0 ⟨lo,hi⟩):=by
      rw[take_snoc hxk,rdS_snoc,hr0];rfl
     have Het:=hide et;have Hk2:=hide hkp
     obtain⟨D,hD⟩:∃D,D=rdS n (l.take k):=⟨_,rfl⟩
     have hDl:n+1=D.length:=by rw[hD,rdS_len]
     rw[←hD] at hxj Het hvb
     have HDl:=hide hDl;clear hDl
     have hne5:=i8
     have Hxk:=hide hxj
     have hne9:b9≠gb:=by have:=e9.out;omega
     replace hp5:=hp5.bel hb9
     replace hvb:=hvb.bel hb9
     clear hxj et hkp hD hr0 hsh hxk
     go_wp2_with fail
     rw[ew9.out,e9.out]
     refine wp_region_held_drew (S:=(fun W=>Kept (fun b=>b≠gb) w9 W)) (by kernel_rfl) (by(try dsimp only);exact Kept.all _ (Below.refl _ _).drew) (fun hHeld=>?_)
     have hdr:Below w9.heap.size w9 (World.drew w9):=(Below.refl _ _).drew
     generalize World.drew w9=Wd11 at hHeld hdr ⊢
     have hvb:=hvb.bel hdr
     have hbc:=Below.refl Wd11.heap.size Wd11
     iterate 5
      refine tkHl [0,2,4,6,10] ?_ rfl rfl (Or.inl ⟨by rfl,?_⟩) hHeld ?_
      rotate_left
      ·(intro w _;go_simp;try(with_reducible rfl))
      try simp only[Act.put,tl1,tl2,tl3]
     iterate 5
      refine tkHl [1,3,5,7,11] ?_ rfl rfl (Or.inl ⟨by rfl,?_⟩) hHeld ?_
      rotate_left
      ·(intro w hSw;(try dsimp only at hSw);obtain⟨p0,p1,_,_⟩:=(hp5.kept hSw hne5).w2;obtain⟨c0,c1,c2⟩:=(hx9.at_.kept hSw hne9).c3;go_simp;try(with_reducible rfl))
      try simp only[Act.put,tl1,tl2,tl3]
     refine tkH 8 ?_ rfl (Or.inl ⟨by rfl,?_⟩) hHeld ?_
     rotate_left
     ·(intro w _;go_simp;try(with_reducible rfl))
     try simp only[Act.put,tl1,tl2,tl3]
     refine wpAnyH_ready (rs:=[9]) (by kernel_rfl) (by simp) ?_
     refine AllReadyH.cons (o:=⟨_,_,_,_,_,_⟩) rfl (fun K hK=>?_) AllReadyH.nil
     obtain⟨z0,z1,_,_⟩:=gown_sp hvb Hxk.out HDl.out
     go_simp
     clear z0 z1
     have hHeldN:=hHeld
     refine hK.out _ _ ?_ (fun hHeld2=>?_)
     ·exact hHeldN
     clear hK K hHeld hHeldN;have hHeld:=hHeld2;clear hHeld2
     try simp only[Act.put,tl1,tl2,tl3]
     refine wpAnyH_ready (rs:=[12]) (by kernel_rfl) (by simp) ?_
     refine AllReadyH.cons (o:=⟨_,_,_,_,_,_⟩) rfl (fun K hK=>?_) AllReadyH.nil
     go_simp
     refine(common_any _ _ _ _ _).mono ?_
     rintro e V49 ⟨rfl,hb⟩
     go_wp2_with fail
     have hHeldN:=hHeld.trans (Kept.all _ hb)
     have hvb:=hvb.bel hb
     have hbc:=hbc.trans (hb.mono hbc.size)
     refine hK.out _ _ ?_ (fun hHeld2=>?_)
     ·exact hHeldN
     clear hK K hHeld hHeldN hb;have hHeld:=hHeld2;clear hHeld2
     try simp only[Act.put,tl1,tl2,tl3]
     refine tkH 13 ?_ rfl (Or.inl ⟨by rfl,?_⟩) hHeld ?_
     rotate_left
     ·(intro w _;go_simp;try(with_reducible rfl))
     try simp only[Act.put,tl1,tl2,tl3]
     refine wpAnyH_ready (rs:=[14]) (by kernel_rfl) (by simp) ?_
     refine AllReadyH.cons (o:=⟨_,_,_,_,_,_⟩) rfl (fun K hK=>?_) AllReadyH.nil
     obtain⟨z0,z1,y0,y1⟩:=gown_sp hvb Hxk.out HDl.out
     obtain⟨hset,hkp⟩:=gown_sp_set hvb Hxk.out (cutS r0 ⟨lo,hi⟩) HDl.out
     have Hset:=hide hset;have Hkp:=hide (hHeld.trans hkp)
     clear hset hkp
     go_simp
     refine hK.out _ _ ?_ (fun _=>?_)
     ·(try dsimp only);exact Hkp.out
     clear hK K hHeld
     try simp only[Act.put,tl1,tl2,tl3]
     refine wpAnyH_done (by kernel_rfl) ?_ _
     go_wp2_with fail
     exact⟨⟨k+1,by go_num,by omega,by rw[Het.out];exact Hset.out,Hk2.out.trans (((Kept.all (fun _=>True) hb9).mono (fun _ _ _=>trivial)).trans (Hkp.out.mono fun b _ hb=>hb.2))⟩,by simp[intOf];omega⟩
    ·have el:l.take k=l:=List.take_of_length_le (by rw[←Hn'.out];omega)
     rw[el] at hvb
     have hva:=Hva.out.keptG hkp (fun q hq=>⟨(Hva.out.blockG hq).2,i9 q hq⟩)
     have hx4:=(hx4'.kept Hk.out ⟨by omega,by omega⟩).kept hkp ⟨by have:=Hk.out.size;omega,by omega⟩
     have hBW:Below w.heap.size w wr:=(hB3.trans (Hk.out.below (fun b hb=>⟨by omega,by omega⟩) (by omega))).trans (hkp.below (fun b hb=>⟨by omega,by omega⟩) (by have:=Hk.out.size;omega))
     obtain⟨p0,p1,y0,y1⟩:=hp5.w2
     obtain⟨s0,s1,t0,t1⟩:=hx4.w2
     have Hva2:=hide hva;have Hvb2:=hide hvb
     clear hva hvb el
     go_wp2_with fail
     obtain⟨k0,k1⟩:=two_set wr b4 (.slice Aa n ca) (.slice (some ⟨gb,0,none⟩) (n+1) c3) s0 s1
     refine bodyPost_ret (v:= .agg #[.slice Aa n ca,.slice (some ⟨gb,0,none⟩) (n+1) c3]) (by simp[results,Tryz.results32,go_sem,k0,k1];try rfl) rfl ?_
     refine⟨Aa,ca,gb,c3,rfl,?_,?_,?_⟩
     ·have h1:=Hva2.out.keptG ((Kept.setCell wr ⟨b4,0,none⟩ (.slice Aa n ca)).trans (Kept.setCell _ ⟨b4,1,none⟩ (.slice (some ⟨gb,0,none⟩) (n+1) c3))) (fun q hq=>by have:=(Hva2.out.blockG hq).1;show q≠b4;omega)
      exact h1.mono (by omega)
     ·have h1:=Hvb2.out.keptG ((Kept.setCell wr ⟨b4,0,none⟩ (.slice Aa n ca)).trans (Kept.setCell _ ⟨b4,1,none⟩ (.slice (some ⟨gb,0,none⟩) (n+1) c3))) (fun q hq=>by simp[Value.ownBlock] at hq;show q≠b4;omega)
      rw[i4];exact h1
     ·exact(hBW.setCell (p:=⟨b4,0,none⟩) (by show _≤b4;omega) _).setCell (p:=⟨b4,1,none⟩) (by show _≤b4;omega) _
end Go.Proofs.YtiioegopckoldaaGreatDoor
