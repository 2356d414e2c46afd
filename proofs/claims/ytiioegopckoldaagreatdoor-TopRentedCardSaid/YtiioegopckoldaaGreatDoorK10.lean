/- lemmas for topRented_holds: DE7 DE8 DE9. No conditions. -/
import Derived.Test.YtiioegopckoldaaGreatDoorK09
import Derived.Recover
import Derived.Defers
set_option linter.unusedVariables false
set_option linter.unusedSimpArgs false
namespace Go.Proofs.YtiioegopckoldaaGreatDoor
open Go.RowKit Go.Shelf
def Chain:Int→List Pc→Int→Prop
 | a,[],b=>a=b
 | a,p :: ps,b=>p.fr=a∧p.fr < p.to∧Chain p.to ps b
theorem Chain.le:∀{ps:List Pc} {a b:Int},Chain a ps b→a≤b
 | [],a,b,h=>by unfold Chain at h;omega
 | p :: ps,a,b,h=>by obtain⟨h1,h2,h3⟩:=h;have:=h3.le;omega
theorem Chain.app:∀{xs ys:List Pc} {a b:Int},Chain a (xs ++ ys) b↔∃m,Chain a xs m∧Chain m ys b
 | [],ys,a,b=>⟨fun h=>⟨a,rfl,h⟩,fun⟨m,h1,h2⟩=>by unfold Chain at h1;subst h1;exact h2⟩
 | p :: xs,ys,a,b=>⟨fun⟨h1,h2,h3⟩=>by
  obtain⟨m,h4,h5⟩:=Chain.app.1 h3
  exact⟨m,⟨h1,h2,h4⟩,h5⟩,fun⟨m,⟨h1,h2,h4⟩,h5⟩=>⟨h1,h2,Chain.app.2 ⟨m,h4,h5⟩⟩⟩
theorem Chain.cut (m:Int):∀{ps:List Pc} {a b:Int},Chain a ps b→Chain a (cutL m ps) b
 | [],a,b,h=>h
 | p :: ps, a, b, h => by
   obtain⟨h1,h2,h3⟩:=h
   unfold cutL
   split
   ·next h4=>exact⟨h1,h4.1,rfl,h4.2,h3⟩
   ·exact⟨h1,h2,h3.cut m⟩
theorem Chain.ne {ps:List Pc} {a b:Int} (h:Chain a ps b) (hab:a < b):0 < ps.length:=by
 cases ps with
 | nil=>unfold Chain at h;omega
 | cons p ps=>simp
theorem Chain.begins {m:Int}:∀{ps:List Pc} {a b:Int},Chain a ps b→a≤m→m < b→∃p∈cutL m ps,p.fr=m
 | [],a,b,h,h1,h2=>by unfold Chain at h;omega
 | p :: ps, a, b, h, h1, h2 => by
   obtain⟨h3,h4,h5⟩:=h
   unfold cutL
   split
   ·exact⟨⟨m,p.to,p.ow,p.le,p.un⟩,by simp,rfl⟩
   ·by_cases e:p.fr=m
    ·exact⟨p,by simp,e⟩
    ·obtain⟨q,hq,e2⟩:=h5.begins (m:=m) (by omega) h2
     exact⟨q,by simp[hq],e2⟩
theorem Chain.ends {m:Int}:∀{ps:List Pc} {a b:Int},Chain a ps b→a < m→m≤b→∃p∈cutL m ps,p.to=m
 | [],a,b,h,h1,h2=>by unfold Chain at h;omega
 | p :: ps, a, b, h, h1, h2 => by
   obtain⟨h3,h4,h5⟩:=h
   unfold cutL
   split
   ·exact⟨⟨p.fr,m,p.ow,p.le,p.un⟩,by simp,rfl⟩
   ·by_cases e:p.to=m
    ·exact⟨p,by simp,e⟩
    ·obtain⟨q,hq,e2⟩:=h5.ends (m:=m) (by omega) h2
     exact⟨q,by simp[hq],e2⟩
theorem cutL_fr {m:Int}:∀{ps:List Pc} {p:Pc},p∈ps→∃q∈cutL m ps,q.fr=p.fr
 | [],p,h=>by simp at h
 | q :: ps, p, h => by
   unfold cutL
   rcases List.mem_cons.1 h with rfl | h
   ·split
    ·exact⟨⟨p.fr,m,p.ow,p.le,p.un⟩,by simp,rfl⟩
    ·exact⟨p,by simp,rfl⟩
   ·split
    ·exact⟨p,by simp[h],rfl⟩
    ·obtain⟨r,hr,e⟩:=cutL_fr (m:=m) h
     exact⟨r,by simp[hr],e⟩
theorem Chain.at_:∀{ps:List Pc} {a b:Int} {k:Nat} {p:Pc},Chain a ps b→ps[k]?=some p→Chain a (ps.take k) p.fr∧Chain p.fr (ps.drop k) b
 | [],a,b,k,p,_,hk=>by simp at hk
 | q :: ps, a, b, 0, p, h, hk => by
   have:q=p:=by simpa using hk
   subst this
   obtain⟨h1,h2,h3⟩:=h
   subst h1
   exact⟨rfl,rfl,h2,h3⟩
 | q :: ps, a, b, k + 1, p, h, hk => by
   obtain⟨h1,h2,h3⟩:=h
   obtain⟨g1,g2⟩:=h3.at_ (k:=k) (by simpa using hk)
   exact⟨⟨h1,h2,g1⟩,g2⟩
theorem Chain.at_lt {ps:List Pc} {a b:Int} {k:Nat} {p:Pc} (h:Chain a ps b) (hk:ps[k]?=some p):a≤p.fr∧p.fr < p.to∧p.to≤b:=by
 obtain⟨h1,h2⟩:=h.at_ hk
 have hd:ps.drop k=p :: ps.drop (k+1):=by
  obtain⟨hlt,rfl⟩:=List.getElem?_eq_some_iff.1 hk
  exact List.drop_eq_getElem_cons hlt
 rw[hd] at h2
 have:=h2.2.2.le
 exact⟨h1.le,h2.2.1,this⟩
theorem Chain.mono {ps:List Pc} {a b:Int} {i j:Nat} {p q:Pc} (h:Chain a ps b) (hi:ps[i]?=some p) (hj:ps[j]?=some q) (hij:i < j):p.to≤q.fr:=by
 obtain⟨h1,_⟩:=h.at_ hj
 have hi':(ps.take j)[i]?=some p:=by rw[List.getElem?_take,if_pos hij];exact hi
 exact(h1.at_lt hi').2.2
theorem Chain.mid {ps:List Pc} {a b t0 t1:Int} {i j:Nat} {p q:Pc} (h:Chain a ps b) (hi:ps[i]?=some p) (hj:ps[j]?=some q) (e0:p.fr=t0) (e1:q.to=t1) (ht:t0 < t1):i≤j∧Chain t0 ((ps.take (j+1)).drop i) t1:=by
 have hij:i≤j:=by
  apply Classical.byContradiction
  intro hc
  have:=h.mono hj hi (by omega)
  have:=(h.at_lt hj).2.1
  omega
 refine⟨hij,?_⟩
 obtain⟨h1,_⟩:=h.at_ hj
 have h2:Chain a (ps.take (j+1)) q.to:=by
  rw[take_snoc hj]
  exact Chain.app.2 ⟨q.fr,h1,rfl,(h.at_lt hj).2.1,rfl⟩
 have hi':(ps.take (j+1))[i]?=some p:=by rw[List.getElem?_take,if_pos (by omega)];exact hi
 have h3:=(h2.at_ hi').2
 rw[e0,e1] at h3
 exact h3
theorem enters_of1:∀args w,(callFunc 264 args).run Tryz.prog w= .ok (.enter 264 args) w:=enters_of Tryz.func264 (by kernel_rfl) rfl
theorem enters_of2:∀args w,(callFunc 265 args).run Tryz.prog w= .ok (.enter 265 args) w:=enters_of Tryz.func265 (by kernel_rfl) rfl
def ofL (t0 t1:Int) (ps:List Pc):List Pc:=cutL t1 (cutL t0 ps)
theorem ofL_of {ps:List Pc} {a e t0 t1:Int} (h:Chain a ps e) (h0:a≤t0) (ht:t0 < t1) (h1:t1≤e) :
 ∃(i j:Nat),fidx (fun p=>p.fr == t0) (ofL t0 t1 ps)=(i:Int)∧fidx (fun p=>p.to == t1) (ofL t0 t1 ps)=(j:Int)∧i≤j∧j < (ofL t0 t1 ps).length∧Chain t0 (((ofL t0 t1 ps).take (j+1)).drop i) t1:=by
 have hc:=(h.cut t0).cut t1
 obtain⟨p0,hp0,e0⟩:=h.begins (m:=t0) h0 (by omega)
 obtain⟨p1,hp1,e1⟩:=cutL_fr (m:=t1) hp0
 obtain⟨q1,hq1,e2⟩:=(h.cut t0).ends (m:=t1) (by omega) h1
 rcases fidx_of (fun p=>p.fr == t0) (ofL t0 t1 ps) with⟨_,hall⟩ | ⟨i,p,hf,hpi,hpp,_⟩
 ·have:=hall p1 hp1
  simp only[beq_eq_false_iff_ne,ne_eq] at this
  exact absurd (e1.trans e0) this
 rcases fidx_of (fun p=>p.to == t1) (ofL t0 t1 ps) with⟨_,hall⟩ | ⟨j,q,hg,hqj,hqq,_⟩
 ·have:=hall q1 hq1
  simp only[beq_eq_false_iff_ne,ne_eq] at this
  exact absurd e2 this
 have hpp':p.fr=t0:=by simpa using hpp
 have hqq':q.to=t1:=by simpa using hqq
 obtain⟨g1,g2⟩:=Chain.mid hc hpi hqj hpp' hqq' ht
 exact⟨i,j,hf,hg,g1,(List.getElem?_eq_some_iff.1 hqj).1,g2⟩
def Mid (t0 t1:Int) (ps:List Pc) (i j:Nat):Prop:=fidx (fun p=>p.fr == t0) (ofL t0 t1 ps)=(i:Int)∧fidx (fun p=>p.to == t1) (ofL t0 t1 ps)=(j:Int)
set_option maxHeartbeats 8000000 in
set_option maxRecDepth 100000 in
theorem deof_any (b bm base:Nat) (days e:Int) (H:Option Addr) (nh ch:Nat) (vp:Value) (ps:List Pc) (dd:Int→Option Bool) (nd sd:Nat) (t0 t1:Int) (w:World) (hbk:Bk w b bm base days H nh ch vp ps dd nd sd) (hl:ps.length≤90000) (hch:Chain 0 ps e) (h0:0≤t0) (ht:t0 < t1) (h1:t1≤e) :
 Calls Tryz.prog 245 #[.pointer (some ⟨b,0,none⟩),.agg #[.int .i64 t0,.int .i64 t1]] w fun en w'=>∃(g c i j n:Nat),en= .returned (.slice (some ⟨g,i*5,none⟩) (j+1-i) (c-i))∧Bk w' b bm base days H nh ch (.slice (some ⟨g,0,none⟩) n c) (ofL t0 t1 ps) dd nd sd∧Kept (Bk.own b bm vp) w w'∧Lie w vp (.slice (some ⟨g,0,none⟩) n c)∧n=(ofL t0 t1 ps).length∧i≤j∧j < n∧Chain t0 (((ofL t0 t1 ps).take (j+1)).drop i) t1∧Mid t0 t1 ps i j:=by
 obtain⟨i,j,hi,hj,hij,hjn,hmid⟩:=ofL_of hch h0 ht h1
 have hp0:0 < ps.length:=hch.ne (by omega)
 have hc1:=cutL_len t0 ps
 have hc2:=cutL_len t1 (cutL t0 ps)
 have hlo:(ofL t0 t1 ps).length≤90002:=by unfold ofL;omega
 have Hi:=hide hi;have Hj:=hide hj;have Hmid:=hide hmid
 clear hi hj hmid hch
 obtain⟨b3,w1,e3,ew1,hx3,hb1,hz3⟩:=mk_bx w #[.int .i64 t0,.int .i64 t1] 61
 have hx3:Bx w1 b3 [.int .i64 t0,.int .i64 t1]:=hx3
 have HX3:=hide hx3;have HB1:=hide hb1;have HK0:=hide hbk;have HK1:=hide (hbk.bel hb1)
 have hoff:=hbk.off (q:=b3) (.inl (by have:=e3.out;omega))
 obtain⟨q0,q1⟩:=hx3.at_.c2
 clear hbk hx3 hb1 hz3
 go_enter Tryz.func245,Tryz.ntmps245
 go_upto_region 1 with fail
 rw[ew1.out,e3.out]
 clear ew1 e3
 go_wp2_with fail
 refine(decut_any b bm base days H nh ch vp ps dd nd sd t0 w1 HK1.out (by omega) hp0).mono ?_
 rintro en w2 ⟨⟨v2,rfl⟩,vp2,bk2,k2,l2⟩
 have HX2:=hide (HX3.out.kept k2 hoff)
 have K12:=hide ((Kept.all (Bk.own b bm vp) HB1.out).trans k2)
 have L2:Hid (Lie w vp vp2):=hide (l2.imp_right fun⟨q,e,hq⟩=>⟨q,e,Nat.le_trans HB1.out.size hq⟩)
 have BK2:=hide bk2
 have hoff2:Bk.own b bm vp2 b3:=⟨hoff.1,hoff.2.1,fun e=>by
  rcases l2 with h | ⟨q,h,hq⟩
  ·exact hoff.2.2 (by rw[←h];exact e)
  ·rw[e] at h;injection h with h;have:=HX3.out.lt;omega⟩
 clear q0 q1 bk2 k2 l2
 obtain⟨q0,q1⟩:=HX2.out.at_.c2
 go_wp2_with fail
 refine(decut_any b bm base days H nh ch vp2 (cutL t0 ps) dd nd sd t1 w2 BK2.out (by omega) (by omega)).mono ?_
 rintro en w3 ⟨⟨v3,rfl⟩,vp3,bk3,k3,l3⟩
 obtain⟨n,hn⟩:∃n,(ofL t0 t1 ps).length=n:=⟨_,rfl⟩
 obtain⟨g,c,rfl⟩:=bk3.ow.some_ n hn (by omega)
 have HX3':=hide (HX2.out.kept k3 hoff2)
 have K13:=hide (HK0.out.own_trans K12.out L2.out k3)
 have L3:Hid (Lie w vp (.slice (some ⟨g,0,none⟩) n c)):=hide (L2.out.trans l3 K12.out.size)
 have BK3:=hide (show Bk w3 b bm base days H nh ch (.slice (some ⟨g,0,none⟩) n c) (ofL t0 t1 ps) dd nd sd from bk3)
 have hnc:n≤c∧c≤9223372036854775807:=by
  rcases BK3.out.ow.2 with h | ⟨_,_,_,h,_,_,h2,h3,_⟩
  ·exact absurd h.1 (by simp)
  ·injection h with _ _ h5
   subst h5
   rw[hn] at h2
   unfold maxLen at h3
   omega
 have Hn:=hide hn
 have hjn:j < n:=by omega
 have hn9:n≤90002:=by omega
 have hix:=deindex_pc 264 #[.pointer (some ⟨b3,0,none⟩)] (fun p=>p.fr == t0) (some ⟨g,0,none⟩) (ofL t0 t1 ps) n c w3 hn.symm (by omega) enters_of1 BK3.out.ow.rdS (fun x w' _ hb=>deof1_any x t0 t1 b3 w' (HX3'.out.at_.below hb))
 rw[Hi.out] at hix
 have Hix:=hide hix
 clear hix hn q0 q1 bk3 k3 l3 hlo hc1 hc2 hp0 hl
 have y2:=BK3.out.bx.at_.2 2 _ rfl
 go_wp2_with fail
 refine Hix.out.mono ?_
 rintro en w4 ⟨rfl,hb4⟩
 have HB4:=hide hb4
 have BK4:=hide (BK3.out.bel hb4)
 have HX4:=hide (HX3'.out.bel hb4)
 have hix:=deindex_pc 265 #[.pointer (some ⟨b3,0,none⟩)] (fun p=>p.to == t1) (some ⟨g,0,none⟩) (ofL t0 t1 ps) n c w4 Hn.out.symm (by omega) enters_of2 BK4.out.ow.rdS (fun x w' _ hb=>deof2_any x t0 t1 b3 w' (HX4.out.at_.below hb))
 rw[Hj.out] at hix
 have Hix2:=hide hix
 clear hix y2 hb4
 have y2:=BK4.out.bx.at_.2 2 _ rfl
 go_wp2_with fail
 refine Hix2.out.mono ?_
 rintro en w5 ⟨rfl,hb5⟩
 have BK5:=hide (BK4.out.bel hb5)
 have HB5:=hide (HB4.out.trans (hb5.mono HB4.out.size))
 clear hb5 y2
 have y2:=BK5.out.bx.at_.2 2 _ rfl
 have fj:IntKind.i64.wrap ((j:Int)+1)=(j:Int)+1:=wrapI (by omega)
 have z1:(0:Int)≤(i:Int):=by omega
 have z2:(i:Int)≤(j:Int)+1:=by omega
 have z3:(j:Int)+1≤(c:Int):=by omega
 have z4:((j:Int)+1).toNat=j+1:=by omega
 have z5:¬(c=i):=by omega
 have z6:(0:Int)≤(j:Int)+1:=by omega
 go_wp2_with fail
 go_returns
 exact⟨g,c,i,j,n,rfl,BK5.out,K13.out.trans (Kept.all _ HB5.out),L3.out,Hn.out.symm,hij,hjn,Hmid.out,Hi.out,Hj.out⟩
end Go.Proofs.YtiioegopckoldaaGreatDoor
namespace Go.Proofs.YtiioegopckoldaaGreatDoor
open Go.RowKit Go.Shelf
theorem deneed_ok (y:Int) (w:World):Calls Tryz.prog 127 #[.bool true,.int .u8 y] w fun e w'=>(∃v,e= .returned v)∧w=w':=by
 go_enter Tryz.func127,Tryz.ntmps127
 go_wp2
 go_returns
 exact⟨⟨_,rfl⟩,rfl⟩
theorem Own.sub {w:World} {base g n c:Nat} {xs:List Pc} (h:Own w base 156 5 Pc.cells (.slice (some ⟨g,0,none⟩) n c) xs) (i j:Nat) (hi:i≤xs.length):Rd w w.heap.size Pc.cells (some ⟨g,i*5,none⟩) ((xs.take (j+1)).drop i):=fun hne=>by
 have hlt:=(h.blockG rfl).2
 refine⟨g,i*5,rfl,hlt,fun q v hq=>?_⟩
 refine own_src h i hi ?_
 have e:xs.drop i=(xs.take (j+1)).drop i ++ (xs.drop (j+1)).drop (i-(j+1)):=by
  conv=>lhs;rw[←List.take_append_drop (j+1) xs]
  rw[List.drop_append]
  congr 1
  rw[List.length_take]
  by_cases hj:j+1≤xs.length
  ·rw[Nat.min_eq_left hj]
  ·rw[List.drop_of_length_le (by omega:xs.length≤j+1)]
   simp
 rw[e,List.flatMap_append,List.getElem?_append_left (List.getElem?_eq_some_iff.1 hq).1]
 exact hq
theorem enters_his1:∀args w,(callFunc 246 args).run Tryz.prog w= .ok (.enter 246 args) w:=enters_of Tryz.func246 (by kernel_rfl) rfl
theorem enters_rent1:∀args w,(callFunc 216 args).run Tryz.prog w= .ok (.enter 216 args) w:=enters_of Tryz.func216 (by kernel_rfl) rfl
set_option maxHeartbeats 8000000 in
set_option maxRecDepth 100000 in
theorem dehis_ok (b bm base:Nat) (days e:Int) (H:Option Addr) (nh ch:Nat) (vp:Value) (ps:List Pc) (dd:Int→Option Bool) (nd sd:Nat) (d:Dv) (w:World) (hbk:Bk w b bm base days H nh ch vp ps dd nd sd) (hl:ps.length≤90000) (hch:Chain 0 ps e) (h0:0≤d.tf) (ht:d.tf < d.tt) (h1:d.tt≤e)
 (hown:∀i j,Mid d.tf d.tt ps i j→∀p∈((ofL d.tf d.tt ps).take (j+1)).drop i,p.ow=d.fr) :
 Calls Tryz.prog 214 #[.pointer (some ⟨b,0,none⟩),.agg #[.int .i64 d.id,.int .i64 d.day,.int .u8 d.kind,.int .i64 d.fr,.int .i64 d.to,.int .i64 d.tf,.int .i64 d.tt,.int .i64 d.un,.slice d.h.a d.h.n d.h.c]] w fun en w'=>∃(g c i j n:Nat),en= .returned (.slice (some ⟨g,i*5,none⟩) (j+1-i) (c-i))∧Bk w' b bm base days H nh ch (.slice (some ⟨g,0,none⟩) n c) (ofL d.tf d.tt ps) dd nd sd∧Kept (Bk.own b bm vp) w w'∧Lie w vp (.slice (some ⟨g,0,none⟩) n c)∧n=(ofL d.tf d.tt ps).length∧i≤j∧j < n∧Chain d.tf (((ofL d.tf d.tt ps).take (j+1)).drop i) d.tt∧Mid d.tf d.tt ps i j:=by
 obtain⟨b3,w1,e3,ew1,hx3,hb1,hz3⟩:=mk_bx w #[.int .i64 d.id,.int .i64 d.day,.int .u8 d.kind,.int .i64 d.fr,.int .i64 d.to,.int .i64 d.tf,.int .i64 d.tt,.int .i64 d.un,.slice d.h.a d.h.n d.h.c] 73
 have hx3:Bx w1 b3 d.cells:=hx3
 have HX3:=hide hx3;have HB1:=hide hb1;have HK0:=hide hbk;have HK1:=hide (hbk.bel hb1)
 have hoff:=hbk.off (q:=b3) (.inl (by have:=e3.out;omega))
 have Hown:=hide hown;have Hch:=hide hch
 obtain⟨q0,q1,q2,q3,q4,q5,q6,q7,q8⟩:=At.c9 hx3.at_
 clear hbk hx3 hb1 hz3 hown hch
 go_enter Tryz.func214,Tryz.ntmps214
 go_upto_region 1 with fail
 rw[ew1.out,e3.out]
 clear ew1 e3
 go_wp2_with fail
 refine(deof_any b bm base days e H nh ch vp ps dd nd sd d.tf d.tt w1 HK1.out hl Hch.out h0 ht h1).mono ?_
 rintro en w2 ⟨g,c,i,j,n,rfl,bk2,k2,l2,hn,hij,hjn,hmid,hM⟩
 have HX2:=hide (HX3.out.kept k2 hoff)
 have K2:=hide ((Kept.all (Bk.own b bm vp) HB1.out).trans k2)
 have L2:Hid (Lie w vp (.slice (some ⟨g,0,none⟩) n c)):=hide (l2.imp_right fun⟨q,e,hq⟩=>⟨q,e,Nat.le_trans HB1.out.size hq⟩)
 have BK2:=hide bk2
 have Hn:=hide hn
 have hlen:j+1-i=(((ofL d.tf d.tt ps).take (j+1)).drop i).length:=by
  have:=Hn.out
  rw[List.length_drop,List.length_take]
  omega
 have hno:(((ofL d.tf d.tt ps).take (j+1)).drop i).any (fun p=>p.ow != d.fr)=false:=by
  rw[List.any_eq_false]
  intro p hp
  rw[Hown.out i j hM p hp]
  simp
 have hn9:n≤90002:=by
  have h1:=cutL_len d.tf ps
  have h2:=cutL_len d.tt (cutL d.tf ps)
  have:=Hn.out
  unfold ofL at this
  omega
 have hcn:=decontains_pc 246 #[.pointer (some ⟨b3,0,none⟩)] (fun p=>p.ow != d.fr) (some ⟨g,i*5,none⟩) (((ofL d.tf d.tt ps).take (j+1)).drop i) (j+1-i) (c-i) w2 hlen (by omega) enters_his1 (bk2.ow.sub i j (by have:=Hn.out;omega)) (fun x w' _ hb=>dehis1_any x d b3 w' (HX2.out.at_.below hb))
 rw[hno] at hcn
 have Hcn:=hide hcn;have Hmid:=hide hmid;have HM:=hide hM
 clear hcn hno hlen hn bk2 k2 l2 hmid hM q0 q1 q2 q3 q4 q5 q6 q7 q8
 go_wp2_with fail
 refine Hcn.out.mono ?_
 rintro en w3 ⟨rfl,hb3⟩
 have BK3:=hide (BK2.out.bel hb3)
 have K3:=hide (K2.out.trans (Kept.all _ hb3))
 clear hb3
 go_wp2_with fail
 refine(deneed_ok 2 w3).mono ?_
 rintro en w4 ⟨⟨v4,rfl⟩,rfl⟩
 go_wp2_with fail
 go_returns
 exact⟨g,c,i,j,n,rfl,BK3.out,K3.out,L2.out,Hn.out,hij,hjn,Hmid.out,HM.out⟩
end Go.Proofs.YtiioegopckoldaaGreatDoor
namespace Go.Proofs.YtiioegopckoldaaGreatDoor
open Go.RowKit Go.Shelf
def Pc.lets (to un:Int) (p:Pc):Pc:=⟨p.fr,p.to,p.ow,to,un⟩
def letR (i r:Nat) (to un:Int) (ps:List Pc):List Pc:=ps.take i ++ ((ps.drop i).take r).map (Pc.lets to un) ++ ps.drop (i+r)
theorem letR_zero (i:Nat) (to un:Int) (ps:List Pc):letR i 0 to un ps=ps:=by simp[letR]
theorem letR_len (i r:Nat) (to un:Int) (ps:List Pc) (h:i+r≤ps.length):(letR i r to un ps).length=ps.length:=by
 simp[letR];omega
theorem letR_next {i r:Nat} {to un:Int} {ps:List Pc} {p:Pc} (h:ps[i+r]?=some p):(letR i r to un ps)[i+r]?=some p∧(letR i r to un ps).set (i+r) (p.lets to un)=letR i (r+1) to un ps:=by
 have hlt:=(List.getElem?_eq_some_iff.1 h).1
 have hA:(ps.take i ++ ((ps.drop i).take r).map (Pc.lets to un)).length=i+r:=by simp;omega
 have hd:ps.drop (i+r)=p :: ps.drop (i+r+1):=by
  obtain⟨hlt,rfl⟩:=List.getElem?_eq_some_iff.1 h
  exact List.drop_eq_getElem_cons hlt
 have hx:(ps.drop i)[r]?=some p:=by rw[List.getElem?_drop];exact h
 unfold letR
 constructor
 ·rw[List.getElem?_append_right (by omega),hA,Nat.sub_self,hd];rfl
 ·rw[hd,List.set_append_right _ _ (by omega),hA,Nat.sub_self,take_snoc hx,List.map_append]
  simp[Nat.add_assoc]
set_option maxHeartbeats 8000000 in
set_option maxRecDepth 100000 in
theorem derent_ok (b bm base:Nat) (days e:Int) (H:Option Addr) (nh ch:Nat) (vp:Value) (ps:List Pc) (dd:Int→Option Bool) (nd sd:Nat) (d:Dv) (w:World) (hbk:Bk w b bm base days H nh ch vp ps dd nd sd) (hl:ps.length≤90000) (hch:Chain 0 ps e) (h0:0≤d.tf) (ht:d.tf < d.tt) (h1:d.tt≤e)
 (hown:∀i j,Mid d.tf d.tt ps i j→∀p∈((ofL d.tf d.tt ps).take (j+1)).drop i,p.ow=d.fr) (hfree:∀i j,Mid d.tf d.tt ps i j→∀p∈((ofL d.tf d.tt ps).take (j+1)).drop i,p.busy d.day=false) :
 Calls Tryz.prog 182 #[.pointer (some ⟨b,0,none⟩),.agg #[.int .i64 d.id,.int .i64 d.day,.int .u8 d.kind,.int .i64 d.fr,.int .i64 d.to,.int .i64 d.tf,.int .i64 d.tt,.int .i64 d.un,.slice d.h.a d.h.n d.h.c]] w fun en w'=>(∃v,en= .returned v)∧∃(vp':Value) (i j:Nat),Bk w' b bm base days H nh ch vp' (letR i (j+1-i) d.to d.un (ofL d.tf d.tt ps)) dd nd sd∧Kept (Bk.own b bm vp) w w'∧Lie w vp vp'∧i≤j∧j < (ofL d.tf d.tt ps).length∧Chain d.tf (((ofL d.tf d.tt ps).take (j+1)).drop i) d.tt∧Mid d.tf d.tt ps i j:=by
 obtain⟨b3,w1,e3,ew1,hx3,hb1,hz3⟩:=mk_bx w #[.int .i64 d.id,.int .i64 d.day,.int .u8 d.kind,.int .i64 d.fr,.int .i64 d.to,.int .i64 d.tf,.int .i64 d.tt,.int .i64 d.un,.slice d.h.a d.h.n d.h.c] 73
 have hx3:Bx w1 b3 d.cells:=hx3
 have HX3:=hide hx3;have HB1:=hide hb1;have HK0:=hide hbk;have HK1:=hide (hbk.bel hb1)
 have hoff:=hbk.off (q:=b3) (.inl (by have:=e3.out;omega))
 have HH:=hide (dehis_ok b bm base days e H nh ch vp ps dd nd sd d w1 HK1.out hl hch h0 ht h1 hown)
 have Hfree:=hide hfree
 obtain⟨q0,q1,q2,q3,q4,q5,q6,q7,q8⟩:=At.c9 hx3.at_
 clear hbk hx3 hb1 hz3 hown hch hfree
 go_enter Tryz.func182,Tryz.ntmps182
 go_upto_region 1 with fail
 rw[ew1.out,e3.out]
 clear ew1 e3
 go_wp2_with fail
 refine HH.out.mono ?_
 rintro en w2 ⟨g,c,i,j,n,rfl,bk2,k2,l2,hn,hij,hjn,hmid,hM⟩
 have HX2:=hide (HX3.out.kept k2 hoff)
 have hoff2:Bk.own b bm (.slice (some ⟨g,0,none⟩) n c) b3:=⟨hoff.1,hoff.2.1,fun e=>by
  rcases l2 with h | ⟨q,h,hq⟩
  ·exact hoff.2.2 (by rw[←h];exact e)
  ·rw[e] at h;injection h with h;have:=HX3.out.lt;omega⟩
 have K2:=hide ((Kept.all (Bk.own b bm vp) HB1.out).trans k2)
 have L2:Hid (Lie w vp (.slice (some ⟨g,0,none⟩) n c)):=hide (l2.imp_right fun⟨q,e,hq⟩=>⟨q,e,Nat.le_trans HB1.out.size hq⟩)
 have BK2:=hide bk2
 have Hn:=hide hn
 have hlen:j+1-i=(((ofL d.tf d.tt ps).take (j+1)).drop i).length:=by
  have:=Hn.out
  rw[List.length_drop,List.length_take]
  omega
 have hno:(((ofL d.tf d.tt ps).take (j+1)).drop i).any (fun p=>p.busy d.day)=false:=by
  rw[List.any_eq_false]
  intro p hp
  rw[Hfree.out i j hM p hp]
  simp
 have hn9:n≤90002:=by
  have h1:=cutL_len d.tf ps
  have h2:=cutL_len d.tt (cutL d.tf ps)
  have:=Hn.out
  unfold ofL at this
  omega
 have hcn:=decontains_pc 216 #[.pointer (some ⟨b3,0,none⟩)] (fun p=>p.busy d.day) (some ⟨g,i*5,none⟩) (((ofL d.tf d.tt ps).take (j+1)).drop i) (j+1-i) (c-i) w2 hlen (by omega) enters_rent1 (bk2.ow.sub i j (by have:=Hn.out;omega)) (fun x w' _ hb=>derent1_any x d b3 w' (HX2.out.at_.below hb))
 rw[hno] at hcn
 have Hcn:=hide hcn;have Hmid:=hide hmid;have HM:=hide hM
 clear hcn hno hlen hn bk2 k2 l2 hmid hM q0 q1 q2 q3 q4 q5 q6 q7 q8
 go_wp2_with fail
 refine Hcn.out.mono ?_
 rintro en w3 ⟨rfl,hb3⟩
 have BK3:=hide (BK2.out.bel hb3)
 have K3:=hide (K2.out.trans (Kept.all _ hb3))
 have HX3':=hide (HX2.out.bel hb3)
 clear hb3
 go_wp2_with fail
 refine(deneed_ok 3 w3).mono ?_
 rintro en w4 ⟨⟨v4,rfl⟩,rfl⟩
 obtain⟨m,hm⟩:∃m,m=j+1-i:=⟨_,rfl⟩
 rw[←hm]
 have hmb:i+m≤n∧0 < m:=by omega
 have Hm:=hide hm
 have BK4:=hide (show Bk w3 b bm base days H nh ch (.slice (some ⟨g,0,none⟩) n c) (letR i 0 d.to d.un (ofL d.tf d.tt ps)) dd nd sd by rw[letR_zero];exact BK3.out)
 clear hm
 go_wp2_with fail
 go_loopw [16] (fun iv wr=>∃r:Nat,r≤m∧iv= .int .i64 r∧Hid (Bk wr b bm base days H nh ch (.slice (some ⟨g,0,none⟩) n c) (letR i r d.to d.un (ofL d.tf d.tt ps)) dd nd sd)∧Hid (Kept (fun q=>q≠g) w3 wr)) (fun iv _=>m-(intOf iv).toNat)
 case atStart=>exact⟨0,by omega,rfl,BK4,hide (Kept.refl _ _)⟩
 case round=>
  obtain⟨r,hr,rfl,hbk,hkp⟩:=hrel
  obtain⟨wo,rfl⟩:∃wo,wo=wr:=⟨wr,rfl⟩
  by_cases hlt:r < m
  ·obtain⟨p,hp⟩:∃p,(ofL d.tf d.tt ps)[i+r]?=some p:=⟨_,List.getElem?_eq_getElem (by have:=Hn.out;omega)⟩
   obtain⟨hq,hset⟩:=letR_next (to:=d.to) (un:=d.un) hp
   have Hq:=hide hq;have Hset:=hide hset
   have hll:=hide (show n=(letR i r d.to d.un (ofL d.tf d.tt ps)).length by rw[letR_len _ _ _ _ _ (by have:=Hn.out;omega)];exact Hn.out)
   have HXo:=hide (HX3'.out.kept hkp.out (fun e=>hoff2.2.2 (by rw[e];rfl)))
   have ik:(r:Int) < (m:Int):=by omega
   have OW:=hbk.out.ow
   have hng:b3≠g:=fun e=>hoff2.2.2 (by rw[e];rfl)
   clear hp hq hset
   go_upto_region 6 with fail
   refine wp_region_held_drew (S:=(fun W=>Kept (fun b=>b≠g) wo W)) (by kernel_rfl) (by(try dsimp only);exact Kept.all _ (Below.refl _ _).drew) (fun hHeld=>?_)
   have hdr:Below wo.heap.size wo (World.drew wo):=(Below.refl _ _).drew
   generalize World.drew wo=Wd6 at hHeld hdr ⊢
   have OW:=OW.bel hdr
   have hbc:=Below.refl Wd6.heap.size Wd6
   iterate 6
    refine tkHl [0,1,2,3,4,6] ?_ rfl rfl (Or.inl ⟨by rfl,?_⟩) hHeld ?_
    rotate_left
    ·(intro w _;go_simp;try(with_reducible rfl))
    try simp only[Act.put,tl1,tl2,tl3]
   iterate 2
    refine tkHl [5,7] ?_ rfl rfl (Or.inl ⟨by rfl,?_⟩) hHeld ?_
    rotate_left
    ·(intro w hSw;(try dsimp only at hSw);obtain⟨q0,q1,q2,q3,q4,q5,q6,q7,q8⟩:=At.c9 (HXo.out.kept hSw hng).at_;go_simp;try(with_reducible rfl))
    try simp only[Act.put,tl1,tl2,tl3]
   iterate 2
    refine tkHl [8,9] ?_ rfl rfl (Or.inl ⟨by rfl,?_⟩) hHeld ?_
    rotate_left
    ·(intro w _;go_simp;try(with_reducible rfl))
    try simp only[Act.put,tl1,tl2,tl3]
   refine wpAnyH_ready (rs:=[10]) (by kernel_rfl) (by simp) ?_
   refine AllReadyH.cons (o:=⟨_,_,_,_,_,_⟩) rfl (fun K hK=>?_) AllReadyH.nil
   have e53:(i+r)*5=i*5+r*5:=by omega
   obtain⟨OF1,⟨u1,z1⟩,f1⟩:=OW.put_ Pc.len (i:=i+r) (j:=3) (x':=⟨p.fr,p.to,p.ow,d.to,p.un⟩) (u:= .int .i64 d.to) Hq.out (by omega) (by simp[Pc.cells]) hll.out
   have hH:=hHeld
   rw[e53] at z1 f1
   go_simp
   refine hK.out _ _ ?_ (fun hHeld2=>?_)
   ·(try dsimp only);exact hH.trans (Kept.setCell _ ⟨g,i*5+r*5+3,none⟩ _)
   clear hK K hHeld;have hHeld:=hHeld2;clear hHeld2
   try simp only[Act.put,tl1,tl2,tl3]
   iterate 2
    refine tkHl [11,12] ?_ rfl rfl (Or.inl ⟨by rfl,?_⟩) hHeld ?_
    rotate_left
    ·(intro w _;go_simp;try(with_reducible rfl))
    try simp only[Act.put,tl1,tl2,tl3]
   refine wpAnyH_ready (rs:=[13]) (by kernel_rfl) (by simp) ?_
   refine AllReadyH.cons (o:=⟨_,_,_,_,_,_⟩) rfl (fun K hK=>?_) AllReadyH.nil
   obtain⟨OF2,⟨u2,z2⟩,f2⟩:=OF1.put_ Pc.len (i:=i+r) (j:=4) (x':=p.lets d.to d.un) (u:= .int .i64 d.un) (List.getElem?_set_self (List.getElem?_eq_some_iff.1 Hq.out).1) (by omega) (by simp[Pc.cells,Pc.lets]) (by rw[List.length_set];exact hll.out)
   rw[List.set_set] at OF2
   have hH2:=hHeld
   have z2:=z2;have f2:=f2
   rw[e53] at z2 f2
   go_simp
   refine hK.out _ _ ?_ (fun _=>?_)
   ·(try dsimp only);exact hH2.trans (Kept.setCell _ ⟨g,i*5+r*5+4,none⟩ _)
   clear hK K hHeld
   try simp only[Act.put,tl1,tl2,tl3]
   refine wpAnyH_done (by kernel_rfl) ?_ _
   have HF:=hide (show Bk (World.setCell (World.setCell Wd6 ⟨g,(i+r)*5+3,none⟩ (.int .i64 d.to)) ⟨g,(i+r)*5+4,none⟩ (.int .i64 d.un)) b bm base days H nh ch (.slice (some ⟨g,0,none⟩) n c) (letR i (r+1) d.to d.un (ofL d.tf d.tt ps)) dd nd sd by
    have hk:=(hH.trans (Kept.setCell Wd6 ⟨g,(i+r)*5+3,none⟩ (.int .i64 d.to))).trans (Kept.setCell _ ⟨g,(i+r)*5+4,none⟩ (.int .i64 d.un))
    have hB:=hbk.out
    exact⟨hB.bx.kept hk (fun e=>(hB.nv g rfl).1 e.symm),by rw[←Hset.out];exact OF2,hB.mp.keptR hk (fun e=>(hB.nv g rfl).2 e.symm),hB.hb,hB.hm,hB.ne,hB.nv⟩)
   have HKf:=hide (hkp.out.trans ((hH.trans (Kept.setCell Wd6 ⟨g,(i+r)*5+3,none⟩ (.int .i64 d.to))).trans (Kept.setCell _ ⟨g,(i+r)*5+4,none⟩ (.int .i64 d.un))))
   rw[e53] at HF HKf
   go_wp2_with fail
   exact⟨⟨r+1,by omega,by go_num,HF,HKf⟩,by simp[intOf];omega⟩
  ·obtain rfl:m=r:=by omega
   go_wp2_with fail
   go_returns
   exact⟨⟨_,rfl⟩,_,i,j,by rw[←Hm.out];exact hbk.out,HK0.out.own_trans K3.out L2.out (hkp.out.mono fun q _ hq e=>hq.2.2 (by rw[e];rfl)),L2.out,hij,by rw[←Hn.out];exact hjn,Hmid.out,HM.out⟩
end Go.Proofs.YtiioegopckoldaaGreatDoor
