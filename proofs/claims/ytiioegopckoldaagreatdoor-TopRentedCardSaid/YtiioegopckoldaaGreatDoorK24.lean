/- lemmas for topRented_holds: OW5 OW3 V4. No conditions. -/
import Derived.Test.YtiioegopckoldaaGreatDoorK22
import Derived.Test.YtiioegopckoldaaGreatDoorK23
import Derived.Test.YtiioegopckoldaaGreatDoorK12
import Derived.Test.YtiioegopckoldaaGreatDoorK02
import Derived.Test.YtiioegopckoldaaGreatDoorK03
import Derived.Handy
import Derived.Test.YtiioegopckoldaaGreatDoorK11
import Derived.Deep.Cut
import Derived.WalkMore
import Derived.BigRegion
import Derived.Deep.RegionHeld
set_option linter.unusedVariables false
set_option linter.unusedSimpArgs false
namespace Go.Proofs.YtiioegopckoldaaGreatDoor
open Go.RowKit Go.Shelf
section
variable {hs:List Us} {rs:List Rr} {at_:Int} {ns:List Int} {ds:List Dv}
theorem Offered.run_len (h:Offered hs rs at_) (hd:DeedsOk (hs ++ [lastH at_]) ns ds):(runP ds ((hs ++ [lastH at_]).map pcOf)).length≤200∧1≤(runP ds ((hs ++ [lastH at_]).map pcOf)).length:=by
 have h1:=runP_len h.chain (hd.run 0 (Int.le_refl _)) ds.length (Nat.le_refl _)
 rw[List.take_of_length_le (Nat.le_refl _)] at h1
 have h2:=hd.len
 have h3:((hs ++ [lastH at_]).map pcOf).length=rs.length+1:=by rw[List.length_map,List.length_append,h.len];rfl
 have h4:=h.r7
 exact⟨by omega,hd.ch.ne (by decide)⟩
theorem Offered.own99 (h:Offered hs rs at_) {p:Pc} (hp:p∈(hs ++ [lastH at_]).map pcOf):99≤p.ow∧p.ow≤107:=by
 obtain⟨x,hx,rfl⟩:=List.mem_map.1 hp
 exact h.bd hx
theorem Offered.run_own (h:Offered hs rs at_) (hd:DeedsOk (hs ++ [lastH at_]) ns ds) {p:Pc} (hp:p∈runP ds ((hs ++ [lastH at_]).map pcOf)):99≤p.ow∧p.ow≤107:=by
 have h1:=(totB_pos (q:=fun x=>x.ow == p.ow) hd.ch).1 ⟨p,hp,by simp⟩
 rw[hd.own] at h1
 obtain⟨q,hq,e⟩:=(totB_pos h.chain).2 h1
 have:=h.own99 hq
 have e2:q.ow=p.ow:=by simpa using e
 omega
end
theorem runsG_bd (who:Pc→Int):∀{ps:List Pc} {w fr to e:Int},Chain to ps e→0≤fr→fr≤to→∀u∈runsG who w fr to ps,0≤u.frm∧u.frm≤u.to∧u.to≤e
 | [], w, fr, to, e, h, h0, h1, u, hu => by
   have e1:to=e:=h
   have e2:u=⟨w,fr,to⟩:=by simpa[runsG] using hu
   subst e2
   exact⟨h0,h1,by show to≤e;omega⟩
 | p :: ps, w, fr, to, e, h, h0, h1, u, hu => by
   obtain⟨g1,g2,g3⟩:=h
   have hle:=g3.le
   unfold runsG at hu
   split at hu
   ·exact runsG_bd who g3 h0 (by omega) u hu
   ·rcases List.mem_cons.1 hu with rfl | hu
    ·exact⟨h0,h1,by show to≤e;omega⟩
    ·exact runsG_bd who g3 (by omega) (by omega) u hu
theorem runsF_bd (who:Pc→Int) {ps:List Pc} {e:Int} (h:Chain 0 ps e):∀u∈runsF who ps,0≤u.frm∧u.frm≤u.to∧u.to≤e:=runsG_bd who h (Int.le_refl _) (Int.le_refl _)
theorem runsF_len (who:Pc→Int) (ps:List Pc):(runsF who ps).length≤ps.length+1:=(runsG_len who ps _ 0 0).2
theorem sumH_snoc (x:Int):∀(xs:List Us) (u:Us),sumH x (xs ++ [u])=sumH x xs+if u.field=x then u.to-u.frm else 0
 | [],u=>by simp[sumH]
 | v :: xs, u => by
   have:=sumH_snoc x xs u
   simp only[List.cons_append,sumH]
   omega
theorem sumH_bd (x e:Int):∀(xs:List Us),(∀u∈xs,0≤u.frm∧u.frm≤u.to∧u.to≤e)→0≤e→0≤sumH x xs∧sumH x xs≤xs.length*e
 | [],_,he=>by simp[sumH]
 | u :: xs, h, he => by
   have h1:=sumH_bd x e xs (fun v hv=>h v (by simp[hv])) he
   have h2:=h u (by simp)
   have h3:((u :: xs).length:Int)*e=(xs.length:Int)*e+e:=by rw[List.length_cons,Int.natCast_succ,Int.add_mul,Int.one_mul]
   rw[h3]
   simp only[sumH]
   split <;> omega
theorem Offered.nil:Offered [] [] 0:=⟨rfl,by simp,by decide,fun j h hj=>by simp at hj,rfl⟩
theorem Offered.snoc {hs:List Us} {rs:List Rr} {at_ m:Int} {r:Rr} (h:Offered hs rs at_) (h6:rs.length≤6) (hm:1≤m) (ht:at_+m≤1439) (hr:r.mi=m):Offered (hs ++ [⟨100+rs.length,at_,at_+m⟩]) (rs ++ [r]) (at_+m):=by
 refine⟨by rw[List.length_append,List.length_append,h.len];rfl,by rw[List.length_append];simp;omega,ht,fun j x hj=>?_,?_⟩
 ·rw[List.getElem?_append] at hj
  split at hj
  ·next hl=>
   obtain⟨h1,h2⟩:=h.is j x hj
   refine⟨h1,?_⟩
   rw[h2]
   unfold miAt
   rw[List.getElem?_append_left (by rw[←h.len];exact hl)]
  ·next hl=>
   have h1:=(List.getElem?_eq_some_iff.1 hj).1
   simp at h1
   have e:j=hs.length:=by omega
   subst e
   rw[Nat.sub_self] at hj
   have e2:(⟨100+rs.length,at_,at_+m⟩:Us)=x:=by simpa using hj
   subst e2
   refine⟨by show(100:Int)+rs.length=100+hs.length;rw[h.len],?_⟩
   unfold miAt
   rw[h.len,List.getElem?_append_right (Nat.le_refl _),Nat.sub_self]
   show at_+m-at_=r.mi
   omega
 ·rw[List.map_append]
  exact Chain.app.2 ⟨at_,h.ch,rfl,by show at_ < at_+m;omega,rfl⟩
theorem row_bd {hs:List Us} {rs:List Rr} {at_:Int} {ns:List Int} {p:List (List Int)} (h:Offered hs rs at_) (hns:ns.length≤8) (hp:Planned ns rs p) {i:Nat} (hi:i < rs.length) :
 (p.getD i []).length=ns.length∧(allD (hs ++ [lastH at_]) p i).length≤8*i∧∀j,j≤ns.length→0≤(rowD (p.getD i []) i (allD (hs ++ [lastH at_]) p i) (frmAt (hs ++ [lastH at_]) i) j).2∧(rowD (p.getD i []) i (allD (hs ++ [lastH at_]) p i) (frmAt (hs ++ [lastH at_]) i) j).2≤1440∧
  (rowD (p.getD i []) i (allD (hs ++ [lastH at_]) p i) (frmAt (hs ++ [lastH at_]) i) j).1.length≤8*i+j∧(j < ns.length→0≤(p.getD i []).getD j 0∧(p.getD i []).getD j 0≤1440):=by
 obtain⟨g1,g2,g3⟩:=allD_is h hns hp i (by omega)
 have hlen:(hs ++ [lastH at_]).length=rs.length+1:=by rw[List.length_append,h.len];rfl
 obtain⟨x,hx⟩:∃x,(hs ++ [lastH at_])[i]?=some x:=⟨_,List.getElem?_eq_getElem (by omega)⟩
 have fx:frmAt (hs ++ [lastH at_]) i=x.frm:=by unfold frmAt;rw[List.getD_eq_getElem?_getD,hx];rfl
 have hxl:=h.at_lt hx
 obtain⟨hx1,hx2⟩:x.field=100+i∧x.to-x.frm=miAt rs i:=by
  rcases h.fld hx with⟨_,h1,_⟩ | ⟨h1,_⟩
  ·exact h.is i x h1
  ·omega
 have hrl:=hp.row i hi
 have hcell:∀k,k < (p.getD i []).length→0≤(p.getD i []).getD k 0:=fun k hk=>(hp.ok i hi k (by omega)).1
 have hsum:x.frm+sumTo (fun k=>(p.getD i []).getD k 0) (p.getD i []).length≤x.to:=by
  rw[hrl]
  cases hm:ns.length with
  | zero=>simp only[sumTo];omega
  | succ k =>
    have:=(hp.ok i hi k (by omega)).2.1
    have e:usedTo p i k=sumTo (fun k=>(p.getD i []).getD k 0) k:=rfl
    have e2:cellAt p i k=(p.getD i []).getD k 0:=rfl
    show x.frm+(sumTo (fun k=>(p.getD i []).getD k 0) k+(p.getD i []).getD k 0)≤x.to
    omega
 rw[fx] at g1 ⊢
 have:=h.r7
 refine⟨hrl,g2,fun j hj=>?_⟩
 obtain⟨r1,r2,r3,r4⟩:=rowD_is g1 hx hx1 (by omega) (by omega) hxl.1 (Int.le_refl _) hxl.2.2 hcell hsum j (by omega)
 have hle:=sumTo_nonneg' hcell j (by omega)
 have h0:=sumTo_nonneg' (f:=fun k=>(p.getD i []).getD k 0) (n:=j) (fun q hq=>hcell q (by omega)) 0 (by omega)
 have hz:sumTo (fun k=>(p.getD i []).getD k 0) 0=0:=rfl
 refine⟨by omega,by omega,by omega,fun hj2=>⟨hcell j (by omega),?_⟩⟩
 have h1:=sumTo_nonneg' hcell (j+1) (by omega)
 have h2:sumTo (fun k=>(p.getD i []).getD k 0) (j+1)=sumTo (fun k=>(p.getD i []).getD k 0) j+(p.getD i []).getD j 0:=rfl
 omega
structure RT (w:World) (base b8:Nat) (vh vr:Value) (hs:List Us) (rs:List Rr):Prop where
 bx:Bx w b8 [.int .i64 1,vh]
 oh:Own w base 63 3 Us.cells vh hs
 orr:Own w base 65 3 Rr.cells vr rs
 row:∀r∈rs,r.n=r.fs.length∧r.n≤8∧Own w base 3 1 icell (.slice r.A r.n r.c) r.fs
 b8l:b8 < base
 s1:∀g,vh.ownBlock=some g→vr.ownBlock≠some g∧∀r∈rs,(Value.slice r.A r.n r.c).ownBlock≠some g
 s2:∀g,vr.ownBlock=some g→∀r∈rs,(Value.slice r.A r.n r.c).ownBlock≠some g
section
variable {w w':World} {base b8:Nat} {vh vr vh' vr':Value} {hs:List Us} {rs:List Rr}
theorem RT.kept {R:Nat→Prop} (h:RT w base b8 vh vr hs rs) (hk:Kept R w w') (h8:R b8) (hr:∀q,base≤q→q < w.heap.size→R q):RT w' base b8 vh vr hs rs:=
 ⟨h.bx.kept hk h8,h.oh.keptG hk (fun g e=>hr g (h.oh.blockG e).1 (h.oh.blockG e).2),h.orr.keptG hk (fun g e=>hr g (h.orr.blockG e).1 (h.orr.blockG e).2),fun r hrr=>⟨(h.row r hrr).1,(h.row r hrr).2.1,(h.row r hrr).2.2.keptG hk (fun g e=>hr g ((h.row r hrr).2.2.blockG e).1 ((h.row r hrr).2.2.blockG e).2)⟩,h.b8l,h.s1,h.s2⟩
theorem RT.bel (h:RT w base b8 vh vr hs rs) (hb:Below w.heap.size w w'):RT w' base b8 vh vr hs rs:=h.kept (Kept.all (fun _=>True) hb) trivial (fun _ _ _=>trivial)
theorem RT.hold (h:RT w base b8 vh vr hs rs) (x:Us) (ho:Own w' base 63 3 Us.cells vh' (hs ++ [x])) (hk:Kept (fun b=>¬vh.ownBlock=some b) w w') (hat:vh'.ownBlock=vh.ownBlock∨∃n,vh'.ownBlock=some n∧w.heap.size≤n) :
 RT (w'.setCell ⟨b8,1,none⟩ vh') base b8 vh' vr (hs ++ [x]) rs∧Kept (fun q=>q < base∧q≠b8) w (w'.setCell ⟨b8,1,none⟩ vh'):=by
 have hb:=h.b8l
 have n8:¬vh.ownBlock=some b8:=fun e=>by have:=(h.oh.blockG e).1;omega
 have ks:Kept (fun q=>q≠b8) w' (w'.setCell ⟨b8,1,none⟩ vh'):=Kept.setCell w' ⟨b8,1,none⟩ vh'
 have k2:Kept (fun b=>¬vh.ownBlock=some b∧b≠b8) w (w'.setCell ⟨b8,1,none⟩ vh'):=(hk.mono fun _ _ q=>q.1).trans (ks.mono fun _ _ q=>q.2)
 have nv:∀g,vh'.ownBlock=some g→vh.ownBlock=some g∨w.heap.size≤g:=fun g e=>by
  rcases hat with e2 | ⟨n,e2,hn⟩
  ·exact .inl (e2 ▸ e)
  ·rw[e] at e2;injection e2 with e2;exact .inr (by omega)
 refine⟨⟨by simpa using(h.bx.kept hk n8).set (j:=1) vh' (by simp),ho.keptG ks (fun g e=>by have:=(ho.blockG e).1;omega),h.orr.keptG k2 (fun g e=>⟨fun e2=>(h.s1 g e2).1 e,by have:=(h.orr.blockG e).1;omega⟩),fun r hr=>⟨(h.row r hr).1,(h.row r hr).2.1,(h.row r hr).2.2.keptG k2 (fun g e=>⟨fun e2=>(h.s1 g e2).2 r hr e,by have:=((h.row r hr).2.2.blockG e).1;omega⟩)⟩,hb,fun g e=>?_,h.s2⟩,k2.mono fun q _ hq=>⟨fun e=>by have:=(h.oh.blockG e).1;omega,hq.2⟩⟩
 rcases nv g e with e2 | e2
 ·exact h.s1 g e2
 ·exact⟨fun e3=>by have:=(h.orr.blockG e3).2;omega,fun r hr e3=>by have:=((h.row r hr).2.2.blockG e3).2;omega⟩
theorem RT.rent (h:RT w base b8 vh vr hs rs) (q:Rr) (z:Nat) (hz:∀g,(base≤g∧(vh.ownBlock=some g∨vr.ownBlock=some g∨∃r∈rs,(Value.slice r.A r.n r.c).ownBlock=some g))→g < z) (hq:q.n=q.fs.length∧q.n≤8∧Own w z 3 1 icell (.slice q.A q.n q.c) q.fs) (hbz:base≤z)
 (ho:Own w' base 65 3 Rr.cells vr' (rs ++ [q])) (hk:Kept (fun b=>¬vr.ownBlock=some b) w w') (hat:vr'.ownBlock=vr.ownBlock∨∃n,vr'.ownBlock=some n∧w.heap.size≤n) :
 RT w' base b8 vh vr' hs (rs ++ [q])∧Kept (fun q=>q < base) w w':=by
 have hb:=h.b8l
 have n8:¬vr.ownBlock=some b8:=fun e=>by have:=(h.orr.blockG e).1;omega
 have nv:∀g,vr'.ownBlock=some g→vr.ownBlock=some g∨w.heap.size≤g:=fun g e=>by
  rcases hat with e2 | ⟨n,e2,hn⟩
  ·exact .inl (e2 ▸ e)
  ·rw[e] at e2;injection e2 with e2;exact .inr (by omega)
 have hqz:∀g,(Value.slice q.A q.n q.c).ownBlock=some g→z≤g∧g < w.heap.size:=fun g e=>hq.2.2.blockG e
 have qv:∀g,(Value.slice q.A q.n q.c).ownBlock=some g→¬vr.ownBlock=some g:=fun g e e2=>by
  have:=hz g ⟨(h.orr.blockG e2).1,.inr (.inl e2)⟩;have:=(hqz g e).1;omega
 refine⟨⟨h.bx.kept hk n8,h.oh.keptG hk (fun g e e2=>(h.s1 g e).1 e2),ho,fun r hr=>?_,hb,fun g e=>⟨fun e2=>?_,fun r hr=>?_⟩,fun g e r hr=>?_⟩,hk.mono fun g _ hg e=>by have:=(h.orr.blockG e).1;omega⟩
 ·rcases List.mem_append.1 hr with hr | hr
  ·exact⟨(h.row r hr).1,(h.row r hr).2.1,(h.row r hr).2.2.keptG hk (fun g e e2=>h.s2 g e2 r hr e)⟩
  ·obtain rfl:=List.mem_singleton.1 hr
   exact⟨hq.1,hq.2.1,(hq.2.2.keptG hk (fun g e=>qv g e)).mono hbz⟩
 ·rcases nv g e2 with e3 | e3
  ·exact(h.s1 g e).1 e3
  ·have:=(h.oh.blockG e).2;omega
 ·rcases List.mem_append.1 hr with hr | hr
  ·exact(h.s1 g e).2 r hr
  ·obtain rfl:=List.mem_singleton.1 hr
   intro e2
   have:=hz g ⟨(h.oh.blockG e).1,.inl e⟩;have:=(hqz g e2).1;omega
 ·rcases List.mem_append.1 hr with hr | hr
  ·rcases nv g e with e3 | e3
   ·exact h.s2 g e3 r hr
   ·intro e2;have:=((h.row r hr).2.2.blockG e2).2;omega
  ·obtain rfl:=List.mem_singleton.1 hr
   intro e2
   rcases nv g e with e3 | e3
   ·exact qv g e2 e3
   ·have:=(hqz g e2).2;omega
theorem RT.start {w:World} {base b8:Nat} (hb:Bx w b8 [.int .i64 1,.slice none 0 0]) (h:b8 < base):RT w base b8 (.slice none 0 0) (.slice none 0 0) [] []:=
 ⟨hb,Own.nil _ _ _ _ _,Own.nil _ _ _ _ _,fun r hr=>by simp at hr,h,fun g e=>by simp[Value.ownBlock] at e,fun g e=>by simp[Value.ownBlock] at e⟩
theorem RT.rents (h:RT w base b8 vh vr hs rs) {R:Nat} (hR:rs.length=R):∃A c,vr= .slice A R c∧RsAt w A R rs:=by
 obtain⟨A,c,rfl,hr⟩:=h.orr.rdn R hR
 refine⟨A,c,rfl,hr,hR.symm,fun r hrr=>?_⟩
 obtain⟨h1,h2,h3⟩:=h.row r hrr
 obtain⟨A',c',e,h4⟩:=h3.rdn r.n h1.symm
 injection e with e1 _ _
 subst e1
 exact⟨h1,by omega,h4⟩
theorem RT.holds (h:RT w base b8 vh vr hs rs) {R:Nat} (hR:hs.length=R):∃A c,vh= .slice A R c∧Rd w w.heap.size Us.cells A hs:=by
 obtain⟨A,c,rfl,hr⟩:=h.oh.rdn R hR
 exact⟨A,c,rfl,hr⟩
end
end Go.Proofs.YtiioegopckoldaaGreatDoor
namespace Go.Proofs.YtiioegopckoldaaGreatDoor
open Go.RowKit Go.Shelf
attribute [local go_sem] Oper.semAt_some
def Us.enc (u:Us):Value:= .agg #[.int .i64 u.field,.int .i64 u.frm,.int .i64 u.to]
def GivesU (L:List Us):Nat→Nat→(Nat→Prop)→(Nat→Prop)→Array Value→World→Prop:=fun _ k _ _ args _=>args= #[(L.getD k ⟨0,0,0⟩).enc]
theorem got_atU {L D R:List Us} {x:Us} {k:Nat} (h:L=D ++ x :: R) (hk:k=D.length):L.getD k ⟨0,0,0⟩=x∧k < L.length∧L=(D ++ [x]) ++ R:=by
 subst h hk
 refine⟨?_,?_,?_⟩
 ·rw[List.getD_eq_getElem?_getD,List.getElem?_append_right (Nat.le_refl _),Nat.sub_self]
  rfl
 ·simp
 ·simp
theorem drop_gotP {α:Type} {xs:List α} {i:Nat} {x:α} (h:xs[i]?=some x):xs.drop i=x :: xs.drop (i+1):=by
 obtain⟨hi,e⟩:=List.getElem?_eq_some_iff.1 h
 rw[List.drop_eq_getElem_cons hi,e]
theorem deowner_any (x:Pc) (w:World) :
 Calls Tryz.prog 59 #[.agg #[.int .i64 x.fr,.int .i64 x.to,.int .i64 x.ow,.int .i64 x.le,.int .i64 x.un]] w fun e w'=>e= .returned (.int .i64 x.ow)∧Below w.heap.size w w':=by
 go_enter Tryz.func59,Tryz.ntmps59
 go_wp2
 go_ret
 exact⟨rfl,below_new w _⟩
theorem deuses_any (x:Pc) (day:Int) (q:Nat) (w:World) (hq:At w q [.int .i64 day]) :
 Calls Tryz.prog 60 #[.agg #[.int .i64 x.fr,.int .i64 x.to,.int .i64 x.ow,.int .i64 x.le,.int .i64 x.un],.pointer (some ⟨q,0,none⟩)] w fun e w'=>e= .returned (.int .i64 (x.user day))∧Below w.heap.size w w':=by
 have q0:=(hq.below (below_new w (.cells #[.int .i64 x.fr,.int .i64 x.to,.int .i64 x.ow,.int .i64 x.le,.int .i64 x.un] 156))).c1
 have hB:=below_new w (.cells #[.int .i64 x.fr,.int .i64 x.to,.int .i64 x.ow,.int .i64 x.le,.int .i64 x.un] 156)
 clear hq
 go_enter Tryz.func60,Tryz.ntmps60
 go_wp2_with fail
 refine(deuser_any x day _).mono ?_
 rintro e w2 ⟨rfl,hb2⟩
 have HB2:=hide (hB.trans (hb2.mono hB.size))
 clear hb2 hB q0
 go_wp2
 go_ret
 exact⟨rfl,HB2.out⟩
theorem deruns_fn (b:Nat) (f:FuncId) (cp:Array Value) (w:World) :
 Calls Tryz.prog 58 #[.pointer (some ⟨b,0,none⟩),.func (.func f) #[] cp] w fun e w'=>∃b2 b3,e= .returned (.func (.func 130) #[] #[.pointer (some ⟨b3,0,none⟩),.pointer (some ⟨b2,0,none⟩)])∧Bx w' b2 [.pointer (some ⟨b,0,none⟩)]∧Bx w' b3 [.func (.func f) #[] cp]∧w.heap.size≤b2∧w.heap.size≤b3∧Below w.heap.size w w':=by
 obtain⟨b2,w2,e2,ew2,hx2,hb2,hz2⟩:=mk_bx w #[.pointer (some ⟨b,0,none⟩)] 147
 obtain⟨b3,w3,e3,ew3,hx3,hb3,hz3⟩:=mk_bx w2 #[.func (.func f) #[] cp] 157
 have h23:b2+1=b3:=by have:=e3.out;omega
 have hmf:∀(fn:Fn) (first cap:Array Value) (w:World),(Instr.makeFunc fn first cap).run Tryz.prog w= .ok (.func fn first cap) w:=fun _ _ _ _=>rfl
 have HX2:=hide (hx2.bel hb3);have HX3:=hide hx3;have HB:=hide (hb2.trans (hb3.mono hb2.size))
 have hz:=hb2.size
 have h2:w.heap.size≤b2:=by have:=e2.out;omega
 have h3:w.heap.size≤b3:=by omega
 clear hx2 hx3 hb2 hb3 hz2 hz3 hz
 go_enter Tryz.func58,Tryz.ntmps58
 go_upto_region 1 with fail
 rw[ew2.out,e2.out,h23,ew3.out]
 go_wp2_with fail
 go_ret
 exact⟨b2,b3,rfl,HX2.out,HX3.out,h2,h3,HB.out⟩
set_option maxHeartbeats 4000000 in
set_option maxRecDepth 100000 in
theorem deruns1_seq (n0:Nat) (hn0:6≤n0) (who:Pc→Int) (f:FuncId) (cp:Array Value) (R:Nat→Prop) (b2 b3 b bm base g N c nh ch:Nat) (days:Int) (H:Option Addr) (ps:List Pc) (dd:Int→Option Bool) (nd sd:Nat) (wa:World)
 (h2:Bx wa b2 [.pointer (some ⟨b,0,none⟩)]) (h3:Bx wa b3 [.func (.func f) #[] cp]) (hbk:Bk wa b bm base days H nh ch (.slice (some ⟨g,0,none⟩) N c) ps dd nd sd)
 (r2:R b2) (r3:R b3) (rb:R b) (rm:R bm) (rg:R g) (hN:N=ps.length) (h1:1≤N) (hm:N≤1000000)
 (eg:∀args w,(callFunc f args).run Tryz.prog w= .ok (.enter f args) w)
 (hf:∀x w',x∈ps→Kept R wa w'→Calls Tryz.prog f (#[.agg #[.int .i64 x.fr,.int .i64 x.to,.int .i64 x.ow,.int .i64 x.le,.int .i64 x.un]] ++ cp) w' fun e w''=>e= .returned (.int .i64 (who x))∧Below w'.heap.size w' w'') :
 SeqX n0 Tryz.prog 130 #[.pointer (some ⟨b3,0,none⟩),.pointer (some ⟨b2,0,none⟩)] (GivesU (runsF who ps)) (runsF who ps).length False (fun _ _=>False) (fun _=>False) R wa:=by
 intro l J Jx Wi hW hJ hJx hY h0 hinf
 have HJ:=hide hJ;have HJx:=hide hJx;have HY:=hide hY;have H0:=hide h0
 have H2:=hide (h2.kept hW r2);have H3:=hide (h3.kept hW r3)
 have HBK:=hide (hbk.kept hW rb rm (fun q hq=>by injection hq with hq;subst hq;exact rg))
 have HW:=hide hW;have Hf:=hide hf;have HN:=hide hN
 obtain⟨L,hL⟩:∃L,L=runsF who ps:=⟨_,rfl⟩
 rw[←hL] at HY hinf ⊢
 have HL:=hide hL
 obtain⟨p0,hp0⟩:∃p,ps[0]?=some p:=⟨_,List.getElem?_eq_getElem (by omega)⟩
 have Hp0:=hide hp0
 have HP:Hid (∀W:World,Below Wi.heap.size Wi W→W.cell? ⟨g,0,none⟩=some (.int .i64 p0.fr)∧W.cell? ⟨g,1,none⟩=some (.int .i64 p0.to)∧W.cell? ⟨g,2,none⟩=some (.int .i64 p0.ow)∧W.cell? ⟨g,3,none⟩=some (.int .i64 p0.le)∧W.cell? ⟨g,4,none⟩=some (.int .i64 p0.un)):=hide fun W hb=>by
  obtain⟨bb,off,p,hA,_,hx,d0,d1,d2,d3,d4⟩:=(HBK.out.bel hb).ow.rdS.pc (i:=0) (by have:=HN.out;omega)
  injection hA with hA
  injection hA with hA1 hA2
  subst hA1 hA2
  obtain rfl:p=p0:=by rw[Hp0.out] at hx;exact(Option.some.inj hx).symm
  simp only[Nat.zero_mul,Nat.zero_add,Nat.add_zero] at d0 d1 d2 d3 d4
  exact⟨d0,d1,d2,d3,d4⟩
 have iN:(0:Int) < (N:Int):=by omega
 have iN2:0 < N:=by omega
 clear hJ hJx hY h0 hinf h2 h3 hbk hf hN hL hW hp0
 refine callsIn_of_wp Tryz.func130 rfl trivial ?_ rfl
 simp only[Tryz.ntmps130,List.size_toArray,List.length_cons,List.length_nil,Nat.reduceAdd,Nat.reduceSub,Array.replicate_succ,Array.replicate_zero,List.push_toArray,List.append_toArray,List.nil_append,List.cons_append]
 gi_wp2_with fail
 refine wpIn_region_S (S:=(fun W=>Below Wi.heap.size Wi W)) (z:=10) (by kernel_rfl) (by(try dsimp only);exact(Below.refl _ _).drew) (fun hHeld=>?_)
 generalize World.drew Wi=Wd0 at hHeld ⊢
 have hbc:=Below.refl Wd0.heap.size Wd0
 iterate 2
  refine tkSl [0,1] ?_ rfl rfl (Or.inl ⟨by rfl,?_⟩) hHeld ?_
  rotate_left
  ·(intro w hSw;(try dsimp only at hSw);have y3:=(H3.out.below hSw).at_.c1;have y2:=(H2.out.below hSw).at_.c1;have yb:=(HBK.out.bel hSw).bx.at_.2 2 _ rfl;obtain⟨d0,d1,d2,d3,d4⟩:=(HP.out _ hSw);go_simp;try(with_reducible rfl))
  try simp only[Act.put,tl1,tl2,tl3]
 iterate 2
  refine tkSl [2,3] ?_ rfl rfl (Or.inl ⟨by rfl,?_⟩) hHeld ?_
  rotate_left
  ·(intro w _;go_simp;try(with_reducible rfl))
  try simp only[Act.put,tl1,tl2,tl3]
 refine tkS 4 ?_ rfl (Or.inl ⟨by rfl,?_⟩) hHeld ?_
 rotate_left
 ·(intro w hSw;(try dsimp only at hSw);have y3:=(H3.out.below hSw).at_.c1;have y2:=(H2.out.below hSw).at_.c1;have yb:=(HBK.out.bel hSw).bx.at_.2 2 _ rfl;obtain⟨d0,d1,d2,d3,d4⟩:=(HP.out _ hSw);go_simp;try(with_reducible rfl))
 try simp only[Act.put,tl1,tl2,tl3]
 refine tkS 5 ?_ rfl (Or.inl ⟨by rfl,?_⟩) hHeld ?_
 rotate_left
 ·(intro w _;go_simp;try(with_reducible rfl))
 try simp only[Act.put,tl1,tl2,tl3]
 refine tkS 6 ?_ rfl (Or.inl ⟨by rfl,?_⟩) hHeld ?_
 rotate_left
 ·(intro w hSw;(try dsimp only at hSw);have y3:=(H3.out.below hSw).at_.c1;have y2:=(H2.out.below hSw).at_.c1;have yb:=(HBK.out.bel hSw).bx.at_.2 2 _ rfl;obtain⟨d0,d1,d2,d3,d4⟩:=(HP.out _ hSw);go_simp;try(with_reducible rfl))
 try simp only[Act.put,tl1,tl2,tl3]
 refine cut1 (C:=fun (b4:Nat) (Wc0_1:World)=>(Bx Wc0_1 b4 [.int .i64 0,.int .i64 0,.int .i64 0])∧(Wi.heap.size≤b4)∧Below Wd0.heap.size Wd0 Wc0_1∧Below Wi.heap.size Wi Wc0_1) (G:=?_) ?_ ?_
 rotate_left
 ·intro hCut
  replace hbc:=Below.refl Wd0.heap.size Wd0
  refine wpAnyS_ready (rs:=[7,9]) (by kernel_rfl) (by simp) ?_
  refine AllS.cons (o:=⟨_,_,_,_,_,_⟩) rfl (fun _=>trivial) (fun K hK=>?_) ?_
  ·
   go_simp
   refine wide_call ((Hf.out p0 _ (List.mem_of_getElem? Hp0.out) (HW.out.trans (Kept.all _ hHeld))).mono ?_)
   rintro e V15 ⟨rfl,hb⟩
   gi_wp2_with fail
   have hHeldN:=hHeld.trans (hb.mono hHeld.size)
   have hbc:=hbc.trans (hb.mono hbc.size)
   refine hK.out _ _ ?_ (fun hHeld2=>?_)
   ·intro _;exact hHeldN
   clear hK K hHeldN hb;have hHeld:=hHeld2 (by decide);clear hHeld2
   try simp only[Act.put,tl1,tl2,tl3]
   refine tkS 8 ?_ rfl (Or.inl ⟨by rfl,?_⟩) hHeld ?_
   rotate_left
   ·(intro w _;go_simp;try(with_reducible rfl))
   try simp only[Act.put,tl1,tl2,tl3]
   refine wpAnyS_ready (rs:=[9]) (by kernel_rfl) (by simp) ?_
   refine AllS.cons (o:=⟨_,_,_,_,_,_⟩) rfl (fun _=>trivial) (fun K hK=>?_) AllS.nil
   go_simp
   obtain⟨b4,V4,eb4,ev4,hx4,hb,hz4⟩:=mk_bx V15 #[.int .i64 0,.int .i64 0,.int .i64 0] 63
   rw[ev4.out,eb4.out]
   have hge4:Wi.heap.size≤b4:=by have:=eb4.out;have:=hHeld.size;omega
   clear ev4 eb4 hz4
   have hHeldN:=hHeld.trans (hb.mono hHeld.size)
   have hbc:=hbc.trans (hb.mono hbc.size)
   refine hK.out _ _ ?_ (fun hHeld2=>?_)
   ·intro _;exact hHeldN
   clear hK K hHeldN hb;have hHeld:=hHeld2 (by decide);clear hHeld2
   try simp only[Act.put,tl1,tl2,tl3]
   exact hCut b4 V4 ⟨hx4,hge4,hbc,hHeld⟩
  refine AllS.cons (o:=⟨_,_,_,_,_,_⟩) rfl (fun _=>trivial) (fun K hK=>?_) AllS.nil
  go_simp
  obtain⟨b4,V4,eb4,ev4,hx4,hb,hz4⟩:=mk_bx Wd0 #[.int .i64 0,.int .i64 0,.int .i64 0] 63
  rw[ev4.out,eb4.out]
  have hge4:Wi.heap.size≤b4:=by have:=eb4.out;have:=hHeld.size;omega
  clear ev4 eb4 hz4
  have hHeldN:=hHeld.trans (hb.mono hHeld.size)
  have hbc:=hbc.trans (hb.mono hbc.size)
  refine hK.out _ _ ?_ (fun hHeld2=>?_)
  ·intro _;exact hHeldN
  clear hK K hHeldN hb;have hHeld:=hHeld2 (by decide);clear hHeld2
  try simp only[Act.put,tl1,tl2,tl3]
  refine wpAnyS_ready (rs:=[7]) (by kernel_rfl) (by simp) ?_
  refine AllS.cons (o:=⟨_,_,_,_,_,_⟩) rfl (fun _=>trivial) (fun K hK=>?_) AllS.nil
  go_simp
  refine wide_call ((Hf.out p0 _ (List.mem_of_getElem? Hp0.out) (HW.out.trans (Kept.all _ hHeld))).mono ?_)
  rintro e V15 ⟨rfl,hb⟩
  gi_wp2_with fail
  have hHeldN:=hHeld.trans (hb.mono hHeld.size)
  have hx4:=hx4.bel hb
  have hbc:=hbc.trans (hb.mono hbc.size)
  refine hK.out _ _ ?_ (fun hHeld2=>?_)
  ·intro _;exact hHeldN
  clear hK K hHeldN hb;have hHeld:=hHeld2 (by decide);clear hHeld2
  try simp only[Act.put,tl1,tl2,tl3]
  refine tkS 8 ?_ rfl (Or.inl ⟨by rfl,?_⟩) hHeld ?_
  rotate_left
  ·(intro w _;go_simp;try(with_reducible rfl))
  try simp only[Act.put,tl1,tl2,tl3]
  exact hCut b4 V15 ⟨hx4,hge4,hbc,hHeld⟩
 intro b4 Wc0_1 ⟨hx4,hge4,hbN,hHeldN⟩
 have hbc:=hbc.trans (hbN.mono hbc.size);clear hHeld hbN;have hHeld:=hHeldN;clear hHeldN
 refine wpAnyS_ready (rs:=[10]) (by kernel_rfl) (by simp) ?_
 refine AllS.cons (o:=⟨_,_,_,_,_,_⟩) rfl (fun _=>trivial) (fun K hK=>?_) AllS.nil
 obtain⟨z0,z1,z2⟩:=hx4.at_.c3
 have f0:=hx4.fz 0
 have f1:=hx4.fz 1
 have f2:=hx4.fz 2
 have hset:=((hx4.set (j:=0) (.int .i64 (who p0)) (by simp)).set (j:=1) (.int .i64 0) (by simp)).set (j:=2) (.int .i64 0) (by simp)
 have hHeldF:=hHeld
 go_simp
 refine hK.out _ _ (fun h=>absurd rfl h) (fun _=>?_)
 clear hK K hHeld
 try simp only[Act.put,tl1,tl2,tl3]
 refine wpAnyS_done (by kernel_rfl) ?_ _
 obtain⟨wz,Hwz⟩:∃wz,Hid (((Wc0_1.setCell ⟨b4,0,none⟩ (.int .i64 (who p0))).setCell ⟨b4,1,none⟩ (.int .i64 0)).setCell ⟨b4,2,none⟩ (.int .i64 0)=wz):=⟨_,hide rfl⟩
 have hB0:=((hHeldF.setCell (p:=⟨b4,0,none⟩) hge4 (.int .i64 (who p0))).setCell (p:=⟨b4,1,none⟩) hge4 (.int .i64 0)).setCell (p:=⟨b4,2,none⟩) hge4 (.int .i64 0)
 rw[Hwz.out] at hset hB0
 have hj0:=hide (show J 0 (fun b=>b=b4) wz from HJ.out 0 (fun _=>False) _ Wi wz H0.out (Kept.all _ hB0) (fun b hb=> .inr (by omega)))
 rw[Hwz.out]
 have hL0:=hide (show L=[] ++ runsG who (who p0) 0 0 (ps.drop 0) by rw[HL.out];unfold runsF;rw[Hp0.out];rfl)
 have hK0:=hide (Kept.all R hB0)
 have y2:=(H2.out.below hB0).at_.c1
 have yb:=(HBK.out.bel hB0).bx.at_.2 2 _ rfl
 have HS0:=hide (show Bx wz b4 [.int .i64 (who p0),.int .i64 0,.int .i64 0] from hset)
 clear hset z0 z1 z2 f0 f1 f2 hHeldF Hwz hB0 hbc
 gi_wp2_with fail
 clear y2 yb
 gi_loopw [22] (fun i wr=>∃(j k:Nat) (D:List Us) (x fr to:Int),i= .int .i64 j∧j≤N∧Hid (L=D ++ runsG who x fr to (ps.drop j))∧Hid (k=D.length)∧Hid (Bx wr b4 [.int .i64 x,.int .i64 fr,.int .i64 to])∧Hid (J k (fun b=>b=b4) wr)∧Hid (Kept R Wi wr)) (fun i _=>N-(intOf i).toNat)
 case atStart=>exact⟨0,0,[],_,0,0,rfl,by omega,hL0,hide rfl,HS0,hj0,hK0⟩
 case round=>
  clear hL0 HS0 hj0 hK0
  obtain⟨j,k,D,x,fr,to,rfl,hj,hD,hk,hbx,hJ,hkp⟩:=hrel
  by_cases hlt:j < N
  ·obtain⟨bb,off,p,hA,_,hxp,d0,d1,d2,d3,d4⟩:=(HBK.out.kept hkp.out rb rm (fun q hq=>by injection hq with hq;subst hq;exact rg)).ow.rdS.pc (i:=j) (by have:=HN.out;omega)
   injection hA with hA
   injection hA with hA1 hA2
   subst hA1 hA2
   simp only[Nat.zero_add] at d0 d1 d2 d3 d4
   have ij:(j:Int) < (N:Int):=by omega
   obtain⟨b6,w6,e6,ew6,hx6,hb6,hz6⟩:=mk_bx wr #[.int .i64 p.fr,.int .i64 p.to,.int .i64 p.ow,.int .i64 p.le,.int .i64 p.un] 156
   have hx6:Bx w6 b6 p.cells:=hx6
   have Hx6:=hide hx6
   have hK6:=hide (hkp.out.trans (Kept.all R hb6))
   have HC:=hide (Hf.out p w6 (List.mem_of_getElem? hxp) (HW.out.trans hK6.out))
   have HX4:=hide (hbx.out.bel hb6)
   have h46:b4≠b6:=by have:=hbx.out.lt;have:=e6.out;omega
   have hge6:Wi.heap.size≤b6:=by have:=e6.out;have:=hkp.out.size;omega
   have hJ6:=hide (show J k (fun b=>(b=b4∨b=b6)∨False) w6 from HJ.out k _ _ wr w6 hJ.out (Kept.all _ hb6) (fun b hb=>by rcases hb with(h | h) | h;exact .inl h;exact .inr (by rw[h];have:=e6.out;omega);exact h.elim))
   have hDp:=hide (show L=D ++ runsG who x fr to (p :: ps.drop (j+1)) by rw[←drop_gotP hxp];exact hD.out)
   have hz:=hbx.out.lt
   have Hxp:=hide hxp
   clear hx6 hb6 hz6 hD hbx hJ hkp hxp
   have y3:=(H3.out.kept hK6.out r3).at_.c1
   obtain⟨q0,q1,q2,q3,q4⟩:=Hx6.out.at_.c5
   rw[←ew6.out] at y3 q0 q1 q2 q3 q4
   rw[←e6.out] at q0 q1 q2 q3 q4
   gi_wp2_with fail
   clear y3 q0 q1 q2 q3 q4 d0 d1 d2 d3 d4
   rw[ew6.out,e6.out]
   refine wide_call (HC.out.mono ?_)
   rintro e w7 ⟨rfl,hb7⟩
   have hK7:=hide (hK6.out.trans (Kept.all R hb7))
   have hx4:=HX4.out.bel hb7
   have hx6:=Hx6.out.bel hb7
   have HX4:=hide hx4;have HX6:=hide hx6
   have hJ7:=hide (show J k (fun b=>(b=b4∨b=b6)∨False) w7 from HJ.out k _ _ w6 w7 hJ6.out (Kept.all _ hb7) (fun b hb=> .inl hb))
   have hl4:=hx4.lt
   have hl6:=hx6.lt
   obtain⟨z0,z1,z2⟩:=hx4.at_.c3
   clear hx4 hx6 hb7 HC hJ6
   by_cases hw:who p=x
   ·have hDn:=hide (show L=D ++ runsG who x fr p.to (ps.drop (j+1)) by have:=hDp.out;unfold runsG at this;rw[if_pos hw] at this;exact this)
    have tw:(who p != x)=false:=by simpa using hw
    have hset:=hide (HX4.out.set (j:=2) (.int .i64 p.to) (by simp))
    have hKn:=hide (hK7.out.setNew (p:=⟨b4,2,none⟩) hge4 (.int .i64 p.to))
    have hJn:=hide (show J k (fun b=>b=b4) (w7.setCell ⟨b4,2,none⟩ (.int .i64 p.to)) from HJ.out k _ _ w7 _ hJ7.out ((Kept.setCell w7 ⟨b4,2,none⟩ (.int .i64 p.to)).mono fun b _ hb e=>hb (.inl (.inl e))) (fun b hb=> .inl (.inl (.inl hb))))
    have f2:=HX4.out.fz 2
    obtain⟨q0,q1,q2,q3,q4⟩:=HX6.out.at_.c5
    subst hw
    gi_wp2_with fail
    exact⟨⟨j+1,k,D,who p,fr,p.to,by go_num,by omega,hDn,hk,hset,hJn,hKn⟩,by simp[intOf];omega⟩
   ·have hDn:=hide (show L=D ++ ⟨x,fr,to⟩ :: runsG who (who p) p.fr p.to (ps.drop (j+1)) by
     have:=hDp.out;rw[runsG,if_neg hw] at this;exact this)
    have tw:(who p != x)=true:=by simpa using hw
    obtain⟨g1,k1,hD2⟩:=got_atU hDn.out hk.out
    have hE:GivesU L Wi.heap.size k (fun b=>b=b4∨b=b6) (fun _=>False) #[.agg #[.int .i64 x,.int .i64 fr,.int .i64 to]] w7:=by unfold GivesU;rw[g1];rfl
    have hyy:=HY.out k (fun b=>b=b4∨b=b6) (fun _=>False) _ w7 hJ7.out (fun b hb=>by rcases hb with(h | h) | h;rw[h];exact hl4;rw[h];exact hl6;exact h.elim) hE k1
    obtain⟨fn,tmps,assign,body,hy,hR⟩:=hyy
    have HR:=hide hR;have HD2:=hide hD2;have Hk1:=hide k1
    clear hR hE g1 k1 hD2
    gi_wp2_with fail
    refine⟨fun h=>by simp[Fence.wide] at h,HR.out.mono ?_⟩
    rintro e W3 (⟨rfl,hJ3,hk3⟩ | ⟨rfl,hJx3,hk3⟩)
    ·have hx4:=HX4.out.kept hk3 (.inr (.inl rfl))
     have hx6:=HX6.out.kept hk3 (.inr (.inr rfl))
     have hK3:=hK7.out.trans (hk3.mono fun _ _ h=> .inl h)
     have hset:=hide ((((hx4.set (j:=0) (.int .i64 (who p)) (by simp)).set (j:=1) (.int .i64 p.fr) (by simp)).set (j:=2) (.int .i64 0) (by simp)).set (j:=2) (.int .i64 p.to) (by simp))
     have hKn:=hide ((((hK3.setNew (p:=⟨b4,0,none⟩) hge4 (.int .i64 (who p))).setNew (p:=⟨b4,1,none⟩) hge4 (.int .i64 p.fr)).setNew (p:=⟨b4,2,none⟩) hge4 (.int .i64 0)).setNew (p:=⟨b4,2,none⟩) hge4 (.int .i64 p.to))
     have kst:Kept (fun b=>b≠b4) W3 ((((W3.setCell ⟨b4,0,none⟩ (.int .i64 (who p))).setCell ⟨b4,1,none⟩ (.int .i64 p.fr)).setCell ⟨b4,2,none⟩ (.int .i64 0)).setCell ⟨b4,2,none⟩ (.int .i64 p.to)):=
      (((Kept.setCell W3 ⟨b4,0,none⟩ _).trans (Kept.setCell _ ⟨b4,1,none⟩ _)).trans (Kept.setCell _ ⟨b4,2,none⟩ _)).trans (Kept.setCell _ ⟨b4,2,none⟩ _)
     have hJn:=hide (show J (k+1) (fun b=>b=b4) _ from HJ.out (k+1) _ _ W3 _ hJ3 (kst.mono fun b _ hb e=>hb (.inl e)) (fun b hb=> .inl (.inl hb)))
     obtain⟨z0,z1,z2⟩:=hx4.at_.c3
     have f0:=hx4.fz 0
     have f1:=hx4.fz 1
     have f2:=hx4.fz 2
     obtain⟨q0,q1,q2,q3,q4⟩:=hx6.at_.c5
     have hkn:=hide (show k+1=(D ++ [(⟨x,fr,to⟩:Us)]).length by rw[hk.out];simp)
     clear hx4 hx6 hK3 kst hJ3 hk3 hy
     gi_wp2_with fail
     exact⟨⟨j+1,k+1,_,who p,p.fr,p.to,by go_num,by omega,HD2,hkn,hset,hJn,hKn⟩,by simp[intOf];omega⟩
    ·clear hy
     gi_wp2_with fail
     repeat(refine⟨fun _ h=>(by cases h),?_⟩;gi_wp2_with fail)
     refine bodyPost_ret (results_none rfl _ _ _) rfl ?_
     exact .inl ⟨_,rfl,_,.inr ⟨k+1,by have:=Hk1.out;omega,hJx3⟩⟩
  ·obtain rfl:N=j:=by omega
   have hdr:ps.drop N=[]:=List.drop_eq_nil_of_le (by have:=HN.out;omega)
   have hDn:L=D ++ ⟨x,fr,to⟩ :: []:=by have:=hD.out;rw[hdr] at this;exact this
   obtain⟨g1,k1,hD2⟩:=got_atU hDn hk.out
   have hlen:=hide (show L.length=k+1 by rw[hDn,hk.out];simp)
   have hl4:=hbx.out.lt
   have hJ7:J k (fun b=>b=b4∨False) wr:=HJ.out k _ _ wr wr hJ.out (Kept.refl _ _) (fun b hb=>by rcases hb with h | h;exact .inl h;exact h.elim)
   have hE:GivesU L Wi.heap.size k (fun b=>b=b4) (fun _=>False) #[.agg #[.int .i64 x,.int .i64 fr,.int .i64 to]] wr:=by unfold GivesU;rw[g1];rfl
   have hyy:=HY.out k (fun b=>b=b4) (fun _=>False) _ wr hJ7 (fun b hb=>by rcases hb with h | h;rw[h];exact hl4;exact h.elim) hE k1
   obtain⟨fn,tmps,assign,body,hy,hR⟩:=hyy
   have HR:=hide hR
   obtain⟨z0,z1,z2⟩:=hbx.out.at_.c3
   clear hR hE g1 k1 hD2 hDn hdr hD hJ7
   gi_wp2_with fail
   refine⟨fun h=>by simp[Fence.wide] at h,HR.out.mono ?_⟩
   rintro e W3 (⟨rfl,hJ3,hk3⟩ | ⟨rfl,hJx3,hk3⟩)
   ·rw[←hlen.out] at hJ3
    clear hy
    gi_wp2_with fail
    go_end0
    exact .inl ⟨_,rfl,_,.inl hJ3⟩
   ·clear hy
    gi_wp2_with fail
    go_end0
    exact .inl ⟨_,rfl,_,.inr ⟨k+1,by rw[hlen.out];exact Nat.le_refl _,hJx3⟩⟩
end Go.Proofs.YtiioegopckoldaaGreatDoor
namespace Go.Proofs.YtiioegopckoldaaGreatDoor
open Go.RowKit Go.Shelf
attribute [local go_sem] Oper.semAt_some ite_min
def tblC (t:Nat→Nat→Int):List Value:=(List.range 441).map fun q=> .int .i64 (t (q / 21) (q % 21))
theorem tbl_len (t:Nat→Nat→Int):(tblC t).length=441:=by simp[tblC]
theorem tbl_get (t:Nat→Nat→Int) {i k:Nat} (hi:i < 21) (hk:k < 21):(tblC t)[i*21+k]?=some (.int .i64 (t i k)):=by
 have h1:(i*21+k) / 21=i:=by omega
 have h2:(i*21+k) % 21=k:=by omega
 simp only[tblC,List.getElem?_map,List.getElem?_range (show i*21+k < 441 by omega),Option.map_some,h1,h2]
def updT (t:Nat→Nat→Int) (i k:Nat) (v:Int):Nat→Nat→Int:=fun a b=>if a=i∧b=k then v else t a b
theorem tbl_set (t:Nat→Nat→Int) {i k:Nat} (hi:i < 21) (hk:k < 21) (v:Int):(tblC t).set (i*21+k) (.int .i64 v)=tblC (updT t i k v):=by
 apply List.ext_getElem?
 intro q
 by_cases hq:q < 441
 ·by_cases he:i*21+k=q
  ·subst he
   rw[List.getElem?_set_self (by rw[tbl_len];exact hq),tbl_get _ hi hk]
   simp[updT]
  ·rw[List.getElem?_set_ne he]
   simp only[tblC,List.getElem?_map,List.getElem?_range hq,Option.map_some]
   congr 2
   have:¬(q / 21=i∧q % 21=k):=by omega
   simp[updT,this]
 ·rw[List.getElem?_eq_none (by rw[List.length_set,tbl_len];omega),List.getElem?_eq_none (by rw[tbl_len];omega)]
section
variable {w w':World} {p:Nat} {t:Nat→Nat→Int}
theorem Bx.ts (h:Bx w p (tblC t)) {i k:Nat} (hi:i < 21) (hk:k < 21) (v:Int):Bx (w.setCell ⟨p,i*21+k,none⟩ (.int .i64 v)) p (tblC (updT t i k v)):=by
 have h1:=h.set (j:=i*21+k) (.int .i64 v) (by rw[tbl_len];omega)
 rw[tbl_set t hi hk] at h1
 exact h1
end
def tab0:Nat→Nat→Int:=fun i k=>if i=k then 0 else 20000000
def phaseT (n:Nat) (t:Nat→Nat→Int) (j:Nat):Nat→Nat→Int:=fun i k=>if i < n∧k < n then min (t i k) (t i j+t j k) else t i k
def diagOk (n:Nat) (t:Nat→Nat→Int):Bool:=(List.range n).all fun i=>decide (t i i=0)
def Bd.fine (p:Nat) (b:Bd):Prop:=∃i k:Nat,b.low=i∧b.high=k∧i≤p∧k≤p∧i≠k∧ -20000000≤b.by_∧b.by_≤20000000
structure FwOk (n j:Nat) (t:Nat→Nat→Int):Prop where
 lo:∀i k,i < n→k < n→ -20000000*2 ^ j≤t i k
 hi:∀i k,i < n→k < n→t i k≤20000000
 dg:∀i,i < n→t i i=0
theorem FwOk.start (n:Nat):FwOk n 0 tab0:=by
 refine⟨fun i k _ _=>?_,fun i k _ _=>?_,fun i _=>by unfold tab0;rw[if_pos rfl]⟩
 ·unfold tab0;split <;> omega
 ·unfold tab0;split <;> omega
theorem FwOk.next {n j:Nat} {t:Nat→Nat→Int} (h:FwOk n j t) (hj:j < n) (hd:diagOk n (phaseT n t j)=true):FwOk n (j+1) (phaseT n t j):=by
 have hp:(2:Int) ^ (j+1)=2*2 ^ j:=by rw[Int.pow_succ];omega
 have hpos:(0:Int) < 2 ^ j:=Int.pow_pos (by omega)
 refine⟨fun i k hi hk=>?_,fun i k hi hk=>?_,fun i hi=>?_⟩
 ·have h1:=h.lo i k hi hk
  have h2:=h.lo i j hi hj
  have h3:=h.lo j k hj hk
  unfold phaseT
  rw[if_pos ⟨hi,hk⟩,hp]
  omega
 ·have h1:=h.hi i k hi hk
  unfold phaseT
  rw[if_pos ⟨hi,hk⟩]
  omega
 ·simp only[diagOk,List.all_eq_true,List.mem_range,decide_eq_true_eq] at hd
  exact hd i hi
structure SolI (w:World) (sv:List Value) (bb:Nat) (t:Nat→Nat→Int) (W:World):Prop where
 T:Bx W (w.heap.size+1+1) (tblC t)
 bf:∃f:Bd,Bx W bb [.int .i64 f.low,.int .i64 f.high,.int .i64 f.by_]∧(f.low= -1∨∃x y:Nat,f.low=x∧f.high=y∧t x y≤f.by_)
 sv:At W w.heap.size sv
 tb:Bx W (w.heap.size+1) [.pointer (some ⟨w.heap.size+1+1,0,none⟩)]
 bl:Below w.heap.size w W
theorem SolI.kept {w W W':World} {sv:List Value} {bb:Nat} {t:Nat→Nat→Int} {R:Nat→Prop} (h:SolI w sv bb t W) (hk:Kept R W W') (h0:∀x,x < w.heap.size+3→R x) (hb:R bb):SolI w sv bb t W':=by
 obtain⟨f,h1,h2⟩:=h.bf
 exact⟨h.T.kept hk (h0 _ (by omega)),⟨f,h1.kept hk hb,h2⟩,h.sv.kept hk (h0 _ (by omega)),h.tb.kept hk (h0 _ (by omega)),h.bl.trans (hk.below (fun b hb=>h0 b (by omega)) h.bl.size)⟩
theorem SolI.below {w W W':World} {sv:List Value} {bb:Nat} {t:Nat→Nat→Int} (h:SolI w sv bb t W) (hb:Below W.heap.size W W'):SolI w sv bb t W':=h.kept (Kept.all (fun _=>True) hb) (fun _ _=>trivial) trivial
end Go.Proofs.YtiioegopckoldaaGreatDoor
