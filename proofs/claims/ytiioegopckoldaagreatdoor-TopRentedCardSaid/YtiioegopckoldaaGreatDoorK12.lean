/- lemmas for topRented_holds: DEC OW1. No conditions. -/
import Derived.Test.YtiioegopckoldaaGreatDoorK11
set_option linter.unusedVariables false
set_option linter.unusedSimpArgs false
namespace Go.Proofs.YtiioegopckoldaaGreatDoor
open Go.RowKit Go.Shelf
def rentP (d:Dv) (ps:List Pc):List Pc:=
 letR (fidx (fun p=>p.fr == d.tf) (ofL d.tf d.tt ps)).toNat ((fidx (fun p=>p.to == d.tt) (ofL d.tf d.tt ps)).toNat+1-(fidx (fun p=>p.fr == d.tf) (ofL d.tf d.tt ps)).toNat) d.to d.un (ofL d.tf d.tt ps)
structure RentOk (e:Int) (ps:List Pc) (d:Dv):Prop where
 k:d.kind=4
 fr:0≤d.fr∧d.fr≤9999
 to:0≤d.to∧d.to≤9999
 t0:0≤d.tf
 t1:d.tf < d.tt
 t2:d.tt≤e
 own:∀i j,Mid d.tf d.tt ps i j→∀p∈((ofL d.tf d.tt ps).take (j+1)).drop i,p.ow=d.fr
 free:∀i j,Mid d.tf d.tt ps i j→∀p∈((ofL d.tf d.tt ps).take (j+1)).drop i,p.busy d.day=false
theorem Chain.lets (to un:Int):∀{ps:List Pc} {a b:Int},Chain a ps b→Chain a (ps.map (Pc.lets to un)) b
 | [],a,b,h=>h
 | p :: ps,a,b,h=>⟨h.1,h.2.1,h.2.2.lets to un⟩
theorem Chain.letR {i r:Nat} {to un a b:Int} {ps:List Pc} (h:Chain a ps b):Chain a (letR i r to un ps) b:=by
 have e:ps=ps.take i ++ ((ps.drop i).take r ++ ps.drop (i+r)):=by
  conv=>lhs;rw[←List.take_append_drop i ps]
  congr 1
  conv=>lhs;rw[←List.take_append_drop r (ps.drop i)]
  rw[List.drop_drop]
 rw[e] at h
 obtain⟨m,h1,h2⟩:=Chain.app.1 h
 obtain⟨n,h3,h4⟩:=Chain.app.1 h2
 unfold Go.Proofs.YtiioegopckoldaaGreatDoor.letR
 exact Chain.app.2 ⟨n,Chain.app.2 ⟨m,h1,h3.lets to un⟩,h4⟩
theorem Chain.rentP {d:Dv} {a b:Int} {ps:List Pc} (h:Chain a ps b):Chain a (rentP d ps) b:=((h.cut _).cut _).letR
theorem rentP_len {e:Int} {ps:List Pc} {d:Dv} (h:Chain 0 ps e) (hr:RentOk e ps d):(rentP d ps).length≤ps.length+2:=by
 obtain⟨i,j,hi,hj,hij,hjn,_⟩:=ofL_of h hr.t0 hr.t1 hr.t2
 have h1:=cutL_len d.tf ps
 have h2:=cutL_len d.tt (cutL d.tf ps)
 unfold Go.Proofs.YtiioegopckoldaaGreatDoor.rentP
 rw[hi,hj]
 simp only[Int.toNat_natCast]
 rw[letR_len _ _ _ _ _ (by omega)]
 unfold ofL
 omega
theorem detry_rent (b bm base:Nat) (days e:Int) (H:Option Addr) (nh ch:Nat) (vp:Value) (ps:List Pc) (d:Dv) (w:World) (hbk:Bk w b bm base days H nh ch vp ps (fun _=>none) 0 0) (hl:ps.length≤90000) (hch:Chain 0 ps e) (hr:RentOk e ps d) :
 Calls Tryz.prog 56 #[.pointer (some ⟨b,0,none⟩),.agg #[.int .i64 d.id,.int .i64 d.day,.int .u8 d.kind,.int .i64 d.fr,.int .i64 d.to,.int .i64 d.tf,.int .i64 d.tt,.int .i64 d.un,.slice d.h.a d.h.n d.h.c]] w fun en w'=>en= .returned (.int .u8 0)∧∃(vp':Value),Bk w' b bm base days H nh ch vp' (rentP d ps) (fun _=>none) 0 0∧Kept (Bk.own b bm vp) w w'∧Lie w vp vp':=by
 refine(detry4_ok b bm base days e H nh ch vp ps (fun _=>none) 0 0 d w hbk hl hch hr.k hr.fr hr.to hr.t0 hr.t1 hr.t2 rfl rfl hr.own hr.free).mono ?_
 rintro en w' ⟨rfl,vp',i,j,h1,h2,h3,_,_,_,hM⟩
 refine⟨rfl,vp',?_,h2,h3⟩
 unfold rentP
 rw[hM.1,hM.2]
 exact h1
def RunOk (e day:Int):List Pc→List Dv→Prop
 | _,[]=>True
 | ps,d :: ds=>d.day≤day∧RentOk e ps d∧RunOk e day (rentP d ps) ds
def runP (ds:List Dv) (ps:List Pc):List Pc:=ds.foldl (fun ps d=>rentP d ps) ps
theorem RunOk.at_ {e day:Int}:∀{ds:List Dv} {ps:List Pc} {k:Nat} {d:Dv},RunOk e day ps ds→ds[k]?=some d→d.day≤day∧RentOk e (runP (ds.take k) ps) d
 | [],ps,k,d,_,hk=>by simp at hk
 | x :: ds, ps, 0, d, h, hk => by
   have:x=d:=by simpa using hk
   subst this
   exact⟨h.1,h.2.1⟩
 | x :: ds, ps, k + 1, d, h, hk => by
   have:=h.2.2.at_ (k:=k) (by simpa using hk)
   simpa[runP] using this
theorem runP_next {ds:List Dv} {ps:List Pc} {k:Nat} {d:Dv} (h:ds[k]?=some d):runP (ds.take (k+1)) ps=rentP d (runP (ds.take k) ps):=by
 unfold runP
 rw[take_snoc h,List.foldl_append]
 rfl
theorem runP_chain {e:Int}:∀(ds:List Dv) {ps:List Pc},Chain 0 ps e→Chain 0 (runP ds ps) e
 | [],_,h=>h
 | d :: ds,ps,h=>runP_chain ds (h.rentP (d:=d))
theorem runP_len {e day:Int} {ds:List Dv} {ps:List Pc} (h:Chain 0 ps e) (hr:RunOk e day ps ds):∀k,k≤ds.length→(runP (ds.take k) ps).length≤ps.length+2*k
 | 0,_=>by simp[runP]
 | k + 1, hk => by
   have ih:=runP_len h hr k (by omega)
   have hx:ds[k]?=some ds[k]:=List.getElem?_eq_getElem (by omega)
   rw[runP_next hx]
   have:=rentP_len (runP_chain (ds.take k) h) (hr.at_ hx).2
   omega
theorem chain_of_rolls {e:Int}:∀{hs:List Us} {a:Int},hdsOk e a hs=true→Chain a (hs.map pcOf) e
 | [],a,h=>by simp[hdsOk] at h;exact h
 | x :: hs, a, h => by
   unfold hdsOk at h
   rw[Bool.and_eq_true] at h
   obtain⟨h1,h2,h3,_⟩:=hdOk_to h.1
   exact⟨h1.symm,h2,chain_of_rolls h.2⟩
set_option maxHeartbeats 8000000 in
set_option maxRecDepth 100000 in
theorem deuntil_rents (days day:Int) (H A:Option Addr) (nh ch n c:Nat) (hs:List Us) (ds:List Dv) (w:World) (hro:rollsOk days hs=true) (hnh:nh=hs.length) (hxh:Rd w w.heap.size Us.cells H hs) (hA:Rd w w.heap.size Dv.cells A ds) (hn:n=ds.length) (hn6:n≤60) (hday:inB 0 100000 day=true)
 (hval:∀d∈ds,deOk days d []=true∧d.h=⟨none,0,0⟩∧0≤d.kind∧d.kind≤255) (hdist:∀(j k:Nat) (x y:Dv),j < k→ds[j]?=some x→ds[k]?=some y→x.id≠y.id) (hord:OrdOk ds) (hrun:RunOk (days*1440) day (hs.map pcOf) ds) :
 Calls Tryz.prog 57 #[.agg #[.int .i64 days,.slice H nh ch],.slice A n c,.int .i64 day] w fun e w'=>∃b bm base vp,e= .returned (.tuple #[.pointer (some ⟨b,0,none⟩),.int .i64 0])∧w.heap.size≤base∧Bk w' b bm base days H nh ch vp (runP ds (hs.map pcOf)) (fun _=>none) 0 0∧Below w.heap.size w w':=by
 have hnh60:nh≤60∧1≤nh:=by
  have:=hro
  simp only[rollsOk,inB,Bool.and_eq_true,decide_eq_true_eq] at this
  omega
 have hchn:Chain 0 (hs.map pcOf) (days*1440):=by
  have:=hro
  simp only[rollsOk,Bool.and_eq_true] at this
  exact chain_of_rolls this.2.2
 obtain⟨b3,w1,e3,ew1,hx3,hb1,hz3⟩:=mk_bx w #[.int .i64 days,.slice H nh ch] 58
 have hx3:At w1 b3 [.int .i64 days,.slice H nh ch]:=hx3.at_
 have HR:=hide (deread_fresh days H A nh ch n c hs ds w1 hro hnh (by omega) (hxh.bel hb1) (hA.bel hb1) hn hn6 hval hdist hord)
 have HB1:=hide hb1;have HX1:=hide hx3;have Hxh:=hide (hxh.bel hb1);have Hn:=hide hn;have Hnh:=hide hnh;have Hrun:=hide hrun;have Hch:=hide hchn;have Hday:=hide hday
 obtain⟨q0,q1⟩:=hx3.c2
 clear hxh hx3 hb1 hz3 hnh hro hA hn hval hdist hord hrun hchn hday
 go_enter Tryz.func57,Tryz.ntmps57
 go_upto_region 1 with fail
 rw[ew1.out,e3.out]
 clear ew1 e3
 go_wp2_with fail
 refine HR.out.mono ?_
 rintro e w2 ⟨v2,rfl,o2,hb2⟩
 obtain⟨A2,c2,rfl,r2⟩:=o2.rdn n Hn.out.symm
 have HB2:=hide (HB1.out.trans (hb2.mono HB1.out.size))
 have HX2:=hide (HX1.out.below hb2);have Hxh2:=hide (Hxh.out.bel hb2);have HA2:=hide r2
 clear q0 q1 o2 r2 hb2 HR
 obtain⟨q0,q1⟩:=HX2.out.c2
 go_wp2_with fail
 refine(dein_fn _ _ _ _).mono ?_
 rintro e w' ⟨rfl,rfl⟩
 rw[Hday.out]
 go_wp2_with fail
 refine(deopen_any days H nh ch hs w2 Hnh.out (by omega) Hxh2.out).mono ?_
 rintro e w3 ⟨b,bm,vp,rfl,bk3,hb3⟩
 have HB3:=hide (HB2.out.trans (hb3.mono HB2.out.size))
 have HA3:=hide (HA2.out.bel hb3)
 have HBK:=hide (show Bk w3 b bm w2.heap.size days H nh ch vp (runP (ds.take 0) (hs.map pcOf)) (fun _=>none) 0 0 from bk3)
 have hs2:=HB2.out.size
 clear q0 q1 bk3
 go_wp2_with fail
 go_loopw [29] (fun iv wr=>∃(k:Nat) (vp:Value),k≤n∧iv= .int .i64 k∧Hid (Bk wr b bm w2.heap.size days H nh ch vp (runP (ds.take k) (hs.map pcOf)) (fun _=>none) 0 0)∧Hid (Below w2.heap.size w2 wr)) (fun iv _=>n-(intOf iv).toNat)
 case atStart=>exact⟨0,vp,by omega,rfl,HBK,hide hb3⟩
 case round=>
  obtain⟨k,vp,hk,rfl,hbk,hB⟩:=hrel
  obtain⟨wo,rfl⟩:∃wo,wo=wr:=⟨wr,rfl⟩
  by_cases hlt:k < n
  ·obtain⟨bb,off,x,rfl,hBb,hxk,d0,d1,d2,d3,d4,d5,d6,d7,d8⟩:=(HA2.out.below hB.out).dv (i:=k) (by have:=Hn.out;omega)
   have hrk:=Hrun.out.at_ hxk
   have hnx:=runP_next (ps:=hs.map pcOf) hxk
   have hch':=runP_chain (ds.take k) Hch.out
   have hln:=runP_len Hch.out Hrun.out k (by have:=Hn.out;omega)
   obtain⟨b5,w5,e5,ew5,hx5,hb5,hz5⟩:=mk_bx wo #[.int .i64 x.id,.int .i64 x.day,.int .u8 x.kind,.int .i64 x.fr,.int .i64 x.to,.int .i64 x.tf,.int .i64 x.tt,.int .i64 x.un,.slice x.h.a x.h.n x.h.c] 73
   have HT:=hide (detry_rent b bm w2.heap.size days (days*1440) H nh ch vp (runP (ds.take k) (hs.map pcOf)) x w5 (hbk.out.bel hb5) (by rw[List.length_map] at hln;have:=Hnh.out;omega) hch' hrk.2)
   have HBK5:=hide (hbk.out.bel hb5)
   have HB5:=hide (hB.out.trans (hb5.mono hB.out.size))
   have hdd:decide (x.day≤day)=true:=decide_eq_true hrk.1
   have Hnx:=hide hnx
   obtain⟨x0,x1,x2,x3,x4,x5,x6,x7,x8⟩:=At.c9 (show At w5 b5 x.cells from hx5.at_)
   clear hx5 hb5 hz5 hxk hrk hnx hch' hln
   go_upto_region 10 with fail
   rw[ew5.out,e5.out]
   clear d0 d1 d2 d3 d4 d5 d6 d7 d8 ew5 e5
   go_wp2_with fail
   refine HT.out.mono ?_
   rintro e w6 ⟨rfl,vp',bk6,k6,l6⟩
   have HB6:=hide (HBK5.out.below HB5.out k6 (Nat.le_refl _) HB5.out.size)
   have HBK6:Hid (Bk w6 b bm w2.heap.size days H nh ch vp' (runP (ds.take (k+1)) (hs.map pcOf)) (fun _=>none) 0 0):=hide (by rw[Hnx.out];exact bk6)
   clear bk6 k6 l6 x0 x1 x2 x3 x4 x5 x6 x7 x8
   go_wp2_with fail
   exact⟨⟨k+1,vp',by omega,by go_num,HBK6,HB6⟩,by simp[intOf];omega⟩
  ·obtain rfl:n=k:=by omega
   have hf:=hbk.out
   rw[List.take_of_length_le (by have:=Hn.out;omega)] at hf
   have HF:=hide hf
   clear hf
   go_wp2_with fail
   go_returns
   exact⟨b,bm,w2.heap.size,vp,rfl,hs2,HF.out,HB2.out.trans (hB.out.mono HB2.out.size)⟩
end Go.Proofs.YtiioegopckoldaaGreatDoor
namespace Go.Proofs.YtiioegopckoldaaGreatDoor
open Go.RowKit Go.Shelf
def totB (q:Pc→Bool):List Pc→Int
 | []=>0
 | p :: ps=>(if q p then p.to-p.fr else 0)+totB q ps
theorem totB_app (q:Pc→Bool):∀xs ys:List Pc,totB q (xs ++ ys)=totB q xs+totB q ys
 | [],ys=>by simp[totB]
 | p :: xs, ys => by
   have:=totB_app q xs ys
   simp only[List.cons_append,totB]
   omega
def Cutty (q:Pc→Bool):Prop:=∀(p:Pc) (a b:Int),q ⟨a,b,p.ow,p.le,p.un⟩=q p
theorem totB_cut {q:Pc→Bool} (hq:Cutty q) (m:Int):∀ps:List Pc,totB q (cutL m ps)=totB q ps
 | []=>rfl
 | p :: ps => by
   have ih:=totB_cut hq m ps
   unfold cutL
   split
   ·simp only[totB,hq p]
    split <;> omega
   ·simp only[totB,ih]
theorem totB_ofL {q:Pc→Bool} (hq:Cutty q) (a b:Int) (ps:List Pc):totB q (ofL a b ps)=totB q ps:=by
 unfold ofL
 rw[totB_cut hq,totB_cut hq]
theorem Chain.sum:∀{ps:List Pc} {a b:Int},Chain a ps b→totB (fun _=>true) ps=b-a
 | [],a,b,h=>by unfold Chain at h;simp[totB];omega
 | p :: ps, a, b, h => by
   obtain⟨h1,h2,h3⟩:=h
   have:=h3.sum
   simp only[totB,if_true]
   omega
theorem totB_const {q:Pc→Bool} {c:Bool}:∀{ps:List Pc},(∀p∈ps,q p=c)→totB q ps=if c then totB (fun _=>true) ps else 0
 | [],_=>by cases c <;> rfl
 | p :: ps, h => by
   have ih:=totB_const (q:=q) (c:=c) (ps:=ps) fun x hx=>h x (by simp[hx])
   simp only[totB,h p (by simp),ih]
   cases c <;> simp
theorem totB_lets {q:Pc→Bool} (f:Pc→Pc) (hf:∀p,(f p).fr=p.fr∧(f p).to=p.to):∀ps:List Pc,totB q (ps.map f)=totB (fun p=>q (f p)) ps
 | []=>rfl
 | p :: ps => by
   simp only[List.map_cons,totB,totB_lets f hf ps,(hf p).1,(hf p).2]
theorem totB_nonneg {q:Pc→Bool}:∀{ps:List Pc} {a b:Int},Chain a ps b→0≤totB q ps
 | [],_,_,_=>by simp[totB]
 | p :: ps, a, b, h => by
   obtain⟨_,h2,h3⟩:=h
   have:=totB_nonneg (q:=q) h3
   simp only[totB]
   split <;> omega
theorem totB_pos {q:Pc→Bool}:∀{ps:List Pc} {a b:Int},Chain a ps b→((∃p∈ps,q p=true)↔0 < totB q ps)
 | [],_,_,_=>by simp[totB]
 | p :: ps, a, b, h => by
   obtain⟨_,h2,h3⟩:=h
   have h0:=totB_nonneg (q:=q) h3
   have ih:=totB_pos (q:=q) h3
   simp only[totB]
   cases hq:q p
   ·simp only[List.mem_cons,exists_eq_or_imp,hq]
    simpa using ih
   ·simp only[List.mem_cons,exists_eq_or_imp,hq]
    simp
    omega
theorem rent_parts {e tf tt:Int} {ps:List Pc} (h:Chain 0 ps e) (h0:0≤tf) (ht:tf < tt) (h1:tt≤e) :
 ∃A M B,ofL tf tt ps=A ++ (M ++ B)∧Chain tf M tt∧(∀i j,Mid tf tt ps i j→((ofL tf tt ps).take (j+1)).drop i=M)∧(∀d:Dv,d.tf=tf→d.tt=tt→rentP d ps=A ++ (M.map (Pc.lets d.to d.un) ++ B)):=by
 obtain⟨i,j,hi,hj,hij,hjn,hm⟩:=ofL_of h h0 ht h1
 have hM:((ofL tf tt ps).take (j+1)).drop i=((ofL tf tt ps).drop i).take (j+1-i):=by rw[List.drop_take]
 refine⟨(ofL tf tt ps).take i,((ofL tf tt ps).take (j+1)).drop i,(ofL tf tt ps).drop (j+1),?_,hm,?_,?_⟩
 ·rw[hM]
  conv=>lhs;rw[←List.take_append_drop i (ofL tf tt ps)]
  congr 1
  conv=>lhs;rw[←List.take_append_drop (j+1-i) ((ofL tf tt ps).drop i)]
  rw[List.drop_drop,show i+(j+1-i)=j+1 by omega]
 ·intro i' j' ⟨hi',hj'⟩
  rw[hi] at hi';rw[hj] at hj'
  obtain rfl:i=i':=by omega
  obtain rfl:j=j':=by omega
  rfl
 ·intro d e1 e2
  unfold rentP letR
  rw[e1,e2,hi,hj,Int.toNat_natCast,Int.toNat_natCast,hM,show i+(j+1-i)=j+1 by omega,List.append_assoc]
theorem cutL_all {P:Pc→Prop} {m:Int} (hc:∀(p:Pc) (a b:Int),p.fr≤a→a < b→b≤p.to→P p→P ⟨a,b,p.ow,p.le,p.un⟩):∀{ps:List Pc},(∀p∈ps,P p)→∀p∈cutL m ps,P p
 | [],_,p,hp=>by simp[cutL] at hp
 | x :: ps, h, p, hp => by
   have hx:=h x (by simp)
   unfold cutL at hp
   split at hp
   ·next hm=>
    rcases List.mem_cons.1 hp with rfl | hp
    ·exact hc x _ _ (by omega) (by omega) (by omega) hx
    rcases List.mem_cons.1 hp with rfl | hp
    ·exact hc x _ _ (by omega) (by omega) (by omega) hx
    ·exact h p (by simp[hp])
   ·rcases List.mem_cons.1 hp with rfl | hp
    ·exact hx
    ·exact cutL_all hc (fun y hy=>h y (by simp[hy])) p hp
structure PInv (hs:List Us) (now:Int) (p:Pc):Prop where
 own:∃h∈hs,h.frm≤p.fr∧p.to≤h.to∧p.ow=h.field
 free:p.le=0∨p.to≤now
theorem PInv.cut {hs:List Us} {now:Int} (p:Pc) (a b:Int) (h1:p.fr≤a) (_:a < b) (h2:b≤p.to) (h:PInv hs now p):PInv hs now ⟨a,b,p.ow,p.le,p.un⟩:=by
 obtain⟨x,hx,g1,g2,g3⟩:=h.own
 exact⟨⟨x,hx,by show x.frm≤a;omega,by show b≤x.to;omega,g3⟩,h.free.imp_right fun h=>by show b≤now;omega⟩
structure LetOk (hs:List Us) (e:Int) (d:Dv):Prop where
 k:d.kind=4
 day:d.day=0
 fr:0≤d.fr∧d.fr≤9999
 to:1≤d.to∧d.to≤9999
 t0:0≤d.tf
 t1:d.tf < d.tt
 t2:d.tt≤e
 un:d.un=30
 hold:∃h∈hs,d.fr=h.field∧h.frm≤d.tf∧d.tt≤h.to
def ApartH (hs:List Us):Prop:=∀h∈hs,∀k∈hs,h.frm < k.to→k.frm < h.to→h.field=k.field
theorem rent_step {hs:List Us} {e now:Int} {ps:List Pc} {d:Dv} (hap:ApartH hs) (h:Chain 0 ps e) (hp:∀p∈ps,PInv hs now p) (hd:LetOk hs e d) (hn:now≤d.tf) :
 RentOk e ps d∧(∀p∈rentP d ps,PInv hs d.tt p)∧
 (∀who,totB (fun p=>p.ow == who) (rentP d ps)=totB (fun p=>p.ow == who) ps)∧
 (∀who,d.fr≠who→totB (fun p=>p.user 1 == who) (rentP d ps)=totB (fun p=>p.user 1 == who) ps+if d.to=who then d.tt-d.tf else 0):=by
 obtain⟨A,M,B,hL,hM,hmid,hr⟩:=rent_parts h hd.t0 hd.t1 hd.t2
 have hr:=hr d rfl rfl
 have hall:∀p∈ofL d.tf d.tt ps,PInv hs now p:=cutL_all PInv.cut (cutL_all PInv.cut hp)
 have hin:∀p∈M,p∈ofL d.tf d.tt ps:=fun p hp=>by rw[hL];simp[hp]
 have hMp:∀p∈M,d.tf≤p.fr∧p.fr < p.to∧p.to≤d.tt:=fun p hp=>by
  obtain⟨k,hk⟩:=List.getElem?_of_mem hp
  exact hM.at_lt hk
 obtain⟨y,hy,y1,y2,y3⟩:=hd.hold
 have hown:∀p∈M,p.ow=d.fr:=fun p hp=>by
  obtain⟨x,hx,g1,g2,g3⟩:=(hall p (hin p hp)).own
  obtain⟨m1,m2,m3⟩:=hMp p hp
  rw[g3,y1]
  exact hap x hx y hy (by omega) (by omega)
 have hfree:∀p∈M,p.le=0:=fun p hp=>by
  obtain⟨m1,m2,m3⟩:=hMp p hp
  rcases(hall p (hin p hp)).free with h | h
  ·exact h
  ·omega
 have hbusy:∀p∈M,∀day,p.busy day=false:=fun p hp day=>by simp[Pc.busy,hfree p hp]
 refine⟨⟨hd.k,hd.fr,⟨by have:=hd.to;omega,hd.to.2⟩,hd.t0,hd.t1,hd.t2,fun i j hij p hp=>hown p (by rw[←hmid i j hij];exact hp),fun i j hij p hp=>hbusy p (by rw[←hmid i j hij];exact hp) _⟩,?_,?_,?_⟩
 ·intro p hp
  rw[hr] at hp
  have wk:∀p,p∈ofL d.tf d.tt ps→PInv hs d.tt p:=fun p hp=>⟨(hall p hp).own,(hall p hp).free.imp_right fun h=>by have:=hd.t1;omega⟩
  rcases List.mem_append.1 hp with hp | hp
  ·exact wk p (by rw[hL];simp[hp])
  rcases List.mem_append.1 hp with hp | hp
  ·obtain⟨x,hx,rfl⟩:=List.mem_map.1 hp
   obtain⟨z,hz,g1,g2,g3⟩:=(hall x (hin x hx)).own
   exact⟨⟨z,hz,g1,g2,g3⟩,.inr (hMp x hx).2.2⟩
  ·exact wk p (by rw[hL];simp[hp])
 ·intro who
  have h1:=totB_ofL (q:=fun p=>p.ow == who) (fun _ _ _=>rfl) d.tf d.tt ps
  rw[hr,totB_app,totB_app,totB_lets (Pc.lets d.to d.un) (fun _=>⟨rfl,rfl⟩)]
  rw[hL,totB_app,totB_app] at h1
  exact h1
 ·intro who hw
  have h1:=totB_ofL (q:=fun p=>p.user 1 == who) (fun _ _ _=>rfl) d.tf d.tt ps
  rw[hr,totB_app,totB_app,totB_lets (Pc.lets d.to d.un) (fun _=>⟨rfl,rfl⟩)]
  rw[hL,totB_app,totB_app] at h1
  have e1:totB (fun p=>p.user 1 == who) M=0:=by
   rw[totB_const (c:=false) (fun p hp=>by simp[Pc.user,hbusy p hp,hown p hp,hw])];rfl
  have e2:totB (fun p=>(p.lets d.to d.un).user 1 == who) M=if d.to=who then d.tt-d.tf else 0:=by
   rw[totB_const (c:=d.to == who) (fun p hp=>by
    have:(p.lets d.to d.un).busy 1=true:=by
     have h1:=hd.to
     simp[Pc.busy,Pc.lets,hd.un]
     omega
    show(Pc.user (p.lets d.to d.un) 1 == who)=(d.to == who)
    rw[Pc.user,if_pos this]
    rfl),hM.sum]
   by_cases e:d.to=who <;> simp[e]
  rw[e1] at h1
  rw[e2]
  omega
def sumD (who:Int):List Dv→Int
 | []=>0
 | d :: ds=>(if d.to=who then d.tt-d.tf else 0)+sumD who ds
theorem sumD_app (who:Int):∀xs ys:List Dv,sumD who (xs ++ ys)=sumD who xs+sumD who ys
 | [],ys=>by simp[sumD]
 | d :: xs, ys => by
   have:=sumD_app who xs ys
   simp only[List.cons_append,sumD]
   omega
theorem run_all {hs:List Us} {e day:Int} (hap:ApartH hs) (hday:0≤day):∀{ds:List Dv} {ps:List Pc} {now:Int},Chain 0 ps e→(∀p∈ps,PInv hs now p)→(∀d∈ds,LetOk hs e d∧now≤d.tf)→ds.Pairwise (fun x y=>x.tt≤y.tf)→
 RunOk e day ps ds∧(∀who,totB (fun p=>p.ow == who) (runP ds ps)=totB (fun p=>p.ow == who) ps)∧(∀who,(∀d∈ds,d.fr≠who)→totB (fun p=>p.user 1 == who) (runP ds ps)=totB (fun p=>p.user 1 == who) ps+sumD who ds)
 | [],ps,now,_,_,_,_=>⟨trivial,fun _=>rfl,fun _ _=>by simp[runP,sumD]⟩
 | d :: ds, ps, now, h, hp, hd, hw => by
   obtain⟨h1,h2,h3,h4⟩:=rent_step hap h hp (hd d (by simp)).1 (hd d (by simp)).2
   obtain⟨hw1,hw2⟩:=List.pairwise_cons.1 hw
   obtain⟨r1,r2,r3⟩:=run_all hap hday (h.rentP (d:=d)) h2 (fun x hx=>⟨(hd x (by simp[hx])).1,hw1 x hx⟩) hw2
   refine⟨⟨by rw[(hd d (by simp)).1.day];exact hday,h1,r1⟩,fun who=>?_,fun who hf=>?_⟩
   ·show totB _ (runP ds (rentP d ps))=_
    rw[r2,h3]
   ·show totB _ (runP ds (rentP d ps))=_
    rw[r3 who fun x hx=>hf x (by simp[hx]),h4 who (hf d (by simp))]
    simp only[sumD]
    omega
def runsG (who:Pc→Int):Int→Int→Int→List Pc→List Us
 | w,fr,to,[]=>[⟨w,fr,to⟩]
 | w,fr,to,p :: ps=>if who p=w then runsG who w fr p.to ps else⟨w,fr,to⟩ :: runsG who (who p) p.fr p.to ps
def runsF (who:Pc→Int) (ps:List Pc):List Us:=runsG who (((ps[0]?).map who).getD 0) 0 0 ps
def sumH (x:Int):List Us→Int
 | []=>0
 | u :: us=>(if u.field=x then u.to-u.frm else 0)+sumH x us
theorem runsG_sum (who:Pc→Int) (x:Int):∀{ps:List Pc} {w fr to e:Int},Chain to ps e→sumH x (runsG who w fr to ps)=(if w=x then to-fr else 0)+totB (fun p=>who p == x) ps
 | [],w,fr,to,e,_=>by simp[runsG,sumH,totB]
 | p :: ps, w, fr, to, e, h => by
   obtain⟨h1,h2,h3⟩:=h
   unfold runsG
   split
   ·next hw=>
    rw[runsG_sum who x h3]
    simp only[totB,hw,beq_iff_eq]
    split <;> omega
   ·next hw=>
    simp only[sumH,totB,runsG_sum who x h3,beq_iff_eq]
theorem runsF_sum (who:Pc→Int) (x:Int) {ps:List Pc} {e:Int} (h:Chain 0 ps e):sumH x (runsF who ps)=totB (fun p=>who p == x) ps:=by
 unfold runsF
 rw[runsG_sum who x h]
 split <;> omega
theorem runsG_len (who:Pc→Int):∀(ps:List Pc) (w fr to:Int),1≤(runsG who w fr to ps).length∧(runsG who w fr to ps).length≤ps.length+1
 | [],w,fr,to=>by simp[runsG]
 | p :: ps, w, fr, to => by
   unfold runsG
   split
   ·have:=runsG_len who ps w fr p.to
    simp only[List.length_cons];omega
   ·have:=runsG_len who ps (who p) p.fr p.to
    simp only[List.length_cons];omega
structure ShareOf (ps:List Pc) (l:List Sp):Prop where
 srt:l.Pairwise (fun a b=>a.lo < b.lo)
 is:∀s∈l,0 < totB (fun p=>p.ow == s.lo) ps∧s.hi=totB (fun p=>p.ow == s.lo) ps
 all:∀x,0 < totB (fun p=>p.ow == x) ps→∃s∈l,s.lo=x
theorem srt_uniq:∀{a b:List Sp},a.Pairwise (fun a b=>a.lo < b.lo)→b.Pairwise (fun a b=>a.lo < b.lo)→(∀s,s∈a↔s∈b)→a=b
 | [],[],_,_,_=>rfl
 | [],y :: b,_,_,h=>by have:=(h y).2 (by simp);simp at this
 | x :: a,[],_,_,h=>by have:=(h x).1 (by simp);simp at this
 | x :: a, y :: b, ha, hb, h => by
   obtain⟨a1,a2⟩:=List.pairwise_cons.1 ha
   obtain⟨b1,b2⟩:=List.pairwise_cons.1 hb
   have hxy:x=y:=by
    rcases List.mem_cons.1 ((h x).1 (by simp)) with e | e
    ·exact e
    rcases List.mem_cons.1 ((h y).2 (by simp)) with f | f
    ·exact f.symm
    have:=a1 y f;have:=b1 x e
    omega
   subst hxy
   rw[srt_uniq a2 b2 fun s=>⟨fun hs=>?_,fun hs=>?_⟩]
   ·rcases List.mem_cons.1 ((h s).1 (by simp[hs])) with e | e
    ·subst e;have:=a1 s hs;omega
    ·exact e
   ·rcases List.mem_cons.1 ((h s).2 (by simp[hs])) with e | e
    ·subst e;have:=b1 s hs;omega
    ·exact e
theorem ShareOf.uniq {ps qs:List Pc} {a b:List Sp} (ha:ShareOf ps a) (hb:ShareOf qs b) (h:∀who,totB (fun p=>p.ow == who) ps=totB (fun p=>p.ow == who) qs):a=b:=by
 refine srt_uniq ha.srt hb.srt fun s=>⟨fun hs=>?_,fun hs=>?_⟩
 ·obtain⟨h1,h2⟩:=ha.is s hs
  rw[h] at h1
  obtain⟨t,ht,e⟩:=hb.all _ h1
  obtain⟨_,h3⟩:=hb.is t ht
  have:t=s:=by
   cases t;cases s
   simp only at e h2 h3
   subst e
   rw[h3,h2,h]
  exact this ▸ ht
 ·obtain⟨h1,h2⟩:=hb.is s hs
  rw[←h] at h1
  obtain⟨t,ht,e⟩:=ha.all _ h1
  obtain⟨_,h3⟩:=ha.is t ht
  have:t=s:=by
   cases t;cases s
   simp only at e h2 h3
   subst e
   rw[h3,h2,h]
  exact this ▸ ht
end Go.Proofs.YtiioegopckoldaaGreatDoor
