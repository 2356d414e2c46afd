/- lemmas for topFed_holds: DEC DED T04. No conditions. -/
import Derived.Test.YtiioegopckoldaaGreatDoorK23
import Derived.Test.YtiioegopckoldaaGreatDoorK15
import Derived.Test.YtiioegopckoldaaGreatDoorK17
set_option linter.unusedVariables false
set_option linter.unusedSimpArgs false
namespace Go.Proofs.YtiioegopckoldaaGreatDoor
open Go.RowKit Go.Shelf
theorem deisort_one (v fn:Value) (w:World):Calls Tryz.prog 239 #[v,.int .i64 0,.int .i64 1,fn] w fun e w'=>(∃v,e= .returned v)∧w=w':=by
 go_enter Tryz.func239,Tryz.ntmps239
 go_wp2_with fail
 go_loopw [8] (fun iv wr=>iv= .int .i64 1∧w=wr) (fun _ _=>0)
 case atStart=>exact⟨rfl,rfl⟩
 case round=>
  obtain⟨rfl,rfl⟩:=hrel
  go_wp2_with fail
  go_returns
  exact⟨⟨_,rfl⟩,rfl⟩
theorem destable_one (v fn:Value) (w:World):Calls Tryz.prog 206 #[v,.int .i64 1,fn] w fun e w'=>(∃v,e= .returned v)∧w=w':=by
 go_enter Tryz.func206,Tryz.ntmps206
 go_wp2_with fail
 go_loopw [7,8] (fun av bv wr=>av= .int .i64 0∧bv= .int .i64 20∧w=wr) (fun _ _ _=>0)
 case atStart=>exact⟨rfl,rfl,rfl⟩
 case round=>
  obtain⟨rfl,rfl,rfl⟩:=hrel
  go_wp2_with fail
  refine(deisort_one _ _ _).mono ?_
  rintro e w' ⟨⟨v1,rfl⟩,rfl⟩
  go_wp2_with fail
  go_loopw [6] (fun bv wr=>bv= .int .i64 20∧w=wr) (fun _ _=>0)
  case atStart=>exact⟨rfl,rfl⟩
  case round=>
   obtain⟨rfl,rfl⟩:=hrel
   go_wp2_with fail
   go_returns
   exact⟨⟨_,rfl⟩,rfl⟩
theorem desort_one (g c:Nat) (fn:Value) (w:World):Calls Tryz.prog 177 #[.slice (some ⟨g,0,none⟩) 1 c,fn] w fun e w'=>(∃v,e= .returned v)∧w=w':=by
 go_enter Tryz.func177,Tryz.ntmps177
 go_wp2_with fail
 refine(destable_one _ _ _).mono ?_
 rintro e w' ⟨⟨v1,rfl⟩,rfl⟩
 go_wp2_with fail
 go_returns
 exact⟨⟨_,rfl⟩,rfl⟩
theorem ord_one (d:Dv):OrdOk [d]:=fun v base bb w ho hat=>by
 obtain⟨g,c,rfl⟩:=ho.some_ 1 rfl (by omega)
 obtain⟨b3,w1,e3,ew1,hx3,hb1,hz3⟩:=mk_bx w #[.slice (some ⟨bb,0,none⟩) 2 2] 287
 have HB:=hide hb1
 have hmf:∀(fn:Fn) (first cap:Array Value) (w:World),(Instr.makeFunc fn first cap).run Tryz.prog w= .ok (.func fn first cap) w:=fun _ _ _ _=>rfl
 clear hx3 hb1 hz3 ho hat
 go_enter Tryz.func123,Tryz.ntmps123
 go_upto_region 1 with fail
 rw[ew1.out,e3.out]
 go_wp2_with fail
 refine(desort_one _ _ _ _).mono ?_
 rintro e w' ⟨⟨v1,rfl⟩,rfl⟩
 go_wp2_with fail
 go_returns
 exact⟨rfl,HB.out⟩
def rentP (d:Dv) (ps:List Pc):List Pc:=
 letR (fidx (fun p=>p.fr == d.tf) (ofL d.tf d.tt ps)).toNat ((fidx (fun p=>p.to == d.tt) (ofL d.tf d.tt ps)).toNat+1-(fidx (fun p=>p.fr == d.tf) (ofL d.tf d.tt ps)).toNat) d.to d.un (ofL d.tf d.tt ps)
structure RentOk (e:Int) (ps:List Pc) (d:Dv):Prop where
 k:d.kind=4
 fr:0≤d.fr∧d.fr≤9999
 to:0≤d.to∧d.to≤9999
 t0:0≤d.tf
 t1:d.tf < d.tt
 t2:d.tt≤e
 own:∀i j,Mid d.tf d.tt ps i j→∀p∈((ofL d.tf d.tt ps).take (j+1)).drop i,p.ow=d.fr
 free:∀i j,Mid d.tf d.tt ps i j→∀p∈((ofL d.tf d.tt ps).take (j+1)).drop i,p.busy d.day=false
theorem Chain.lets (to un:Int):∀{ps:List Pc} {a b:Int},Chain a ps b→Chain a (ps.map (Pc.lets to un)) b
 | [],a,b,h=>h
 | p :: ps,a,b,h=>⟨h.1,h.2.1,h.2.2.lets to un⟩
theorem Chain.letR {i r:Nat} {to un a b:Int} {ps:List Pc} (h:Chain a ps b):Chain a (letR i r to un ps) b:=by
 have e:ps=ps.take i ++ ((ps.drop i).take r ++ ps.drop (i+r)):=by
  conv=>lhs;rw[←List.take_append_drop i ps]
  congr 1
  conv=>lhs;rw[←List.take_append_drop r (ps.drop i)]
  rw[List.drop_drop]
 rw[e] at h
 obtain⟨m,h1,h2⟩:=Chain.app.1 h
 obtain⟨n,h3,h4⟩:=Chain.app.1 h2
 unfold Go.Proofs.YtiioegopckoldaaGreatDoor.letR
 exact Chain.app.2 ⟨n,Chain.app.2 ⟨m,h1,h3.lets to un⟩,h4⟩
theorem Chain.rentP {d:Dv} {a b:Int} {ps:List Pc} (h:Chain a ps b):Chain a (rentP d ps) b:=((h.cut _).cut _).letR
theorem rentP_len {e:Int} {ps:List Pc} {d:Dv} (h:Chain 0 ps e) (hr:RentOk e ps d):(rentP d ps).length≤ps.length+2:=by
 obtain⟨i,j,hi,hj,hij,hjn,_⟩:=ofL_of h hr.t0 hr.t1 hr.t2
 have h1:=cutL_len d.tf ps
 have h2:=cutL_len d.tt (cutL d.tf ps)
 unfold Go.Proofs.YtiioegopckoldaaGreatDoor.rentP
 rw[hi,hj]
 simp only[Int.toNat_natCast]
 rw[letR_len _ _ _ _ _ (by omega)]
 unfold ofL
 omega
theorem detry_rent (b bm base:Nat) (days e:Int) (H:Option Addr) (nh ch:Nat) (vp:Value) (ps:List Pc) (d:Dv) (w:World) (hbk:Bk w b bm base days H nh ch vp ps (fun _=>none) 0 0) (hl:ps.length≤90000) (hch:Chain 0 ps e) (hr:RentOk e ps d) :
 Calls Tryz.prog 56 #[.pointer (some ⟨b,0,none⟩),.agg #[.int .i64 d.id,.int .i64 d.day,.int .u8 d.kind,.int .i64 d.fr,.int .i64 d.to,.int .i64 d.tf,.int .i64 d.tt,.int .i64 d.un,.slice d.h.a d.h.n d.h.c]] w fun en w'=>en= .returned (.int .u8 0)∧∃(vp':Value),Bk w' b bm base days H nh ch vp' (rentP d ps) (fun _=>none) 0 0∧Kept (Bk.own b bm vp) w w'∧Lie w vp vp':=by
 refine(detry4_ok b bm base days e H nh ch vp ps (fun _=>none) 0 0 d w hbk hl hch hr.k hr.fr hr.to hr.t0 hr.t1 hr.t2 rfl rfl hr.own hr.free).mono ?_
 rintro en w' ⟨rfl,vp',i,j,h1,h2,h3,_,_,_,hM⟩
 refine⟨rfl,vp',?_,h2,h3⟩
 unfold rentP
 rw[hM.1,hM.2]
 exact h1
def RunOk (e day:Int):List Pc→List Dv→Prop
 | _,[]=>True
 | ps,d :: ds=>d.day≤day∧RentOk e ps d∧RunOk e day (rentP d ps) ds
def runP (ds:List Dv) (ps:List Pc):List Pc:=ds.foldl (fun ps d=>rentP d ps) ps
theorem RunOk.at_ {e day:Int}:∀{ds:List Dv} {ps:List Pc} {k:Nat} {d:Dv},RunOk e day ps ds→ds[k]?=some d→d.day≤day∧RentOk e (runP (ds.take k) ps) d
 | [],ps,k,d,_,hk=>by simp at hk
 | x :: ds, ps, 0, d, h, hk => by
   have:x=d:=by simpa using hk
   subst this
   exact⟨h.1,h.2.1⟩
 | x :: ds, ps, k + 1, d, h, hk => by
   have:=h.2.2.at_ (k:=k) (by simpa using hk)
   simpa[runP] using this
theorem runP_next {ds:List Dv} {ps:List Pc} {k:Nat} {d:Dv} (h:ds[k]?=some d):runP (ds.take (k+1)) ps=rentP d (runP (ds.take k) ps):=by
 unfold runP
 rw[take_snoc h,List.foldl_append]
 rfl
theorem runP_chain {e:Int}:∀(ds:List Dv) {ps:List Pc},Chain 0 ps e→Chain 0 (runP ds ps) e
 | [],_,h=>h
 | d :: ds,ps,h=>runP_chain ds (h.rentP (d:=d))
theorem runP_len {e day:Int} {ds:List Dv} {ps:List Pc} (h:Chain 0 ps e) (hr:RunOk e day ps ds):∀k,k≤ds.length→(runP (ds.take k) ps).length≤ps.length+2*k
 | 0,_=>by simp[runP]
 | k + 1, hk => by
   have ih:=runP_len h hr k (by omega)
   have hx:ds[k]?=some ds[k]:=List.getElem?_eq_getElem (by omega)
   rw[runP_next hx]
   have:=rentP_len (runP_chain (ds.take k) h) (hr.at_ hx).2
   omega
theorem chain_of_rolls {e:Int}:∀{hs:List Us} {a:Int},hdsOk e a hs=true→Chain a (hs.map pcOf) e
 | [],a,h=>by simp[hdsOk] at h;exact h
 | x :: hs, a, h => by
   unfold hdsOk at h
   rw[Bool.and_eq_true] at h
   obtain⟨h1,h2,h3,_⟩:=hdOk_to h.1
   exact⟨h1.symm,h2,chain_of_rolls h.2⟩
set_option maxHeartbeats 8000000 in
set_option maxRecDepth 100000 in
theorem deuntil_rents (days day:Int) (H A:Option Addr) (nh ch n c:Nat) (hs:List Us) (ds:List Dv) (w:World) (hro:rollsOk days hs=true) (hnh:nh=hs.length) (hxh:Rd w w.heap.size Us.cells H hs) (hA:Rd w w.heap.size Dv.cells A ds) (hn:n=ds.length) (hn6:n≤60) (hday:inB 0 100000 day=true)
 (hval:∀d∈ds,deOk days d []=true∧d.h=⟨none,0,0⟩∧0≤d.kind∧d.kind≤255) (hdist:∀(j k:Nat) (x y:Dv),j < k→ds[j]?=some x→ds[k]?=some y→x.id≠y.id) (hord:OrdOk ds) (hrun:RunOk (days*1440) day (hs.map pcOf) ds) :
 Calls Tryz.prog 57 #[.agg #[.int .i64 days,.slice H nh ch],.slice A n c,.int .i64 day] w fun e w'=>∃b bm base vp,e= .returned (.tuple #[.pointer (some ⟨b,0,none⟩),.int .i64 0])∧w.heap.size≤base∧Bk w' b bm base days H nh ch vp (runP ds (hs.map pcOf)) (fun _=>none) 0 0∧Below w.heap.size w w':=by
 have hnh60:nh≤60∧1≤nh:=by
  have:=hro
  simp only[rollsOk,inB,Bool.and_eq_true,decide_eq_true_eq] at this
  omega
 have hchn:Chain 0 (hs.map pcOf) (days*1440):=by
  have:=hro
  simp only[rollsOk,Bool.and_eq_true] at this
  exact chain_of_rolls this.2.2
 obtain⟨b3,w1,e3,ew1,hx3,hb1,hz3⟩:=mk_bx w #[.int .i64 days,.slice H nh ch] 58
 have hx3:At w1 b3 [.int .i64 days,.slice H nh ch]:=hx3.at_
 have HR:=hide (deread_fresh days H A nh ch n c hs ds w1 hro hnh (by omega) (hxh.bel hb1) (hA.bel hb1) hn hn6 hval hdist hord)
 have HB1:=hide hb1;have HX1:=hide hx3;have Hxh:=hide (hxh.bel hb1);have Hn:=hide hn;have Hnh:=hide hnh;have Hrun:=hide hrun;have Hch:=hide hchn;have Hday:=hide hday
 obtain⟨q0,q1⟩:=hx3.c2
 clear hxh hx3 hb1 hz3 hnh hro hA hn hval hdist hord hrun hchn hday
 go_enter Tryz.func57,Tryz.ntmps57
 go_upto_region 1 with fail
 rw[ew1.out,e3.out]
 clear ew1 e3
 go_wp2_with fail
 refine HR.out.mono ?_
 rintro e w2 ⟨v2,rfl,o2,hb2⟩
 obtain⟨A2,c2,rfl,r2⟩:=o2.rdn n Hn.out.symm
 have HB2:=hide (HB1.out.trans (hb2.mono HB1.out.size))
 have HX2:=hide (HX1.out.below hb2);have Hxh2:=hide (Hxh.out.bel hb2);have HA2:=hide r2
 clear q0 q1 o2 r2 hb2 HR
 obtain⟨q0,q1⟩:=HX2.out.c2
 go_wp2_with fail
 refine(dein_fn _ _ _ _).mono ?_
 rintro e w' ⟨rfl,rfl⟩
 rw[Hday.out]
 go_wp2_with fail
 refine(deopen_any days H nh ch hs w2 Hnh.out (by omega) Hxh2.out).mono ?_
 rintro e w3 ⟨b,bm,vp,rfl,bk3,hb3⟩
 have HB3:=hide (HB2.out.trans (hb3.mono HB2.out.size))
 have HA3:=hide (HA2.out.bel hb3)
 have HBK:=hide (show Bk w3 b bm w2.heap.size days H nh ch vp (runP (ds.take 0) (hs.map pcOf)) (fun _=>none) 0 0 from bk3)
 have hs2:=HB2.out.size
 clear q0 q1 bk3
 go_wp2_with fail
 go_loopw [29] (fun iv wr=>∃(k:Nat) (vp:Value),k≤n∧iv= .int .i64 k∧Hid (Bk wr b bm w2.heap.size days H nh ch vp (runP (ds.take k) (hs.map pcOf)) (fun _=>none) 0 0)∧Hid (Below w2.heap.size w2 wr)) (fun iv _=>n-(intOf iv).toNat)
 case atStart=>exact⟨0,vp,by omega,rfl,HBK,hide hb3⟩
 case round=>
  obtain⟨k,vp,hk,rfl,hbk,hB⟩:=hrel
  obtain⟨wo,rfl⟩:∃wo,wo=wr:=⟨wr,rfl⟩
  by_cases hlt:k < n
  ·obtain⟨bb,off,x,rfl,hBb,hxk,d0,d1,d2,d3,d4,d5,d6,d7,d8⟩:=(HA2.out.below hB.out).dv (i:=k) (by have:=Hn.out;omega)
   have hrk:=Hrun.out.at_ hxk
   have hnx:=runP_next (ps:=hs.map pcOf) hxk
   have hch':=runP_chain (ds.take k) Hch.out
   have hln:=runP_len Hch.out Hrun.out k (by have:=Hn.out;omega)
   obtain⟨b5,w5,e5,ew5,hx5,hb5,hz5⟩:=mk_bx wo #[.int .i64 x.id,.int .i64 x.day,.int .u8 x.kind,.int .i64 x.fr,.int .i64 x.to,.int .i64 x.tf,.int .i64 x.tt,.int .i64 x.un,.slice x.h.a x.h.n x.h.c] 73
   have HT:=hide (detry_rent b bm w2.heap.size days (days*1440) H nh ch vp (runP (ds.take k) (hs.map pcOf)) x w5 (hbk.out.bel hb5) (by rw[List.length_map] at hln;have:=Hnh.out;omega) hch' hrk.2)
   have HBK5:=hide (hbk.out.bel hb5)
   have HB5:=hide (hB.out.trans (hb5.mono hB.out.size))
   have hdd:decide (x.day≤day)=true:=decide_eq_true hrk.1
   have Hnx:=hide hnx
   obtain⟨x0,x1,x2,x3,x4,x5,x6,x7,x8⟩:=At.c9 (show At w5 b5 x.cells from hx5.at_)
   clear hx5 hb5 hz5 hxk hrk hnx hch' hln
   go_upto_region 10 with fail
   rw[ew5.out,e5.out]
   clear d0 d1 d2 d3 d4 d5 d6 d7 d8 ew5 e5
   go_wp2_with fail
   refine HT.out.mono ?_
   rintro e w6 ⟨rfl,vp',bk6,k6,l6⟩
   have HB6:=hide (HBK5.out.below HB5.out k6 (Nat.le_refl _) HB5.out.size)
   have HBK6:Hid (Bk w6 b bm w2.heap.size days H nh ch vp' (runP (ds.take (k+1)) (hs.map pcOf)) (fun _=>none) 0 0):=hide (by rw[Hnx.out];exact bk6)
   clear bk6 k6 l6 x0 x1 x2 x3 x4 x5 x6 x7 x8
   go_wp2_with fail
   exact⟨⟨k+1,vp',by omega,by go_num,HBK6,HB6⟩,by simp[intOf];omega⟩
  ·obtain rfl:n=k:=by omega
   have hf:=hbk.out
   rw[List.take_of_length_le (by have:=Hn.out;omega)] at hf
   have HF:=hide hf
   clear hf
   go_wp2_with fail
   go_returns
   exact⟨b,bm,w2.heap.size,vp,rfl,hs2,HF.out,HB2.out.trans (hB.out.mono HB2.out.size)⟩
end Go.Proofs.YtiioegopckoldaaGreatDoor
namespace Go.Proofs.YtiioegopckoldaaGreatDoor
open Go.RowKit Go.Shelf
theorem enters_at1:∀args w,(callFunc 196 args).run Tryz.prog w= .ok (.enter 196 args) w:=enters_of Tryz.func196 (by kernel_rfl) rfl
def atP (m:Int) (p:Pc):Bool:=decide (p.fr≤m) && decide (m < p.to)
set_option maxHeartbeats 8000000 in
set_option maxRecDepth 100000 in
theorem deAt_rents (days day m:Int) (H A:Option Addr) (nh ch n c k:Nat) (hs:List Us) (ds:List Dv) (p:Pc) (w:World) (hro:rollsOk days hs=true) (hnh:nh=hs.length) (hxh:Rd w w.heap.size Us.cells H hs) (hA:Rd w w.heap.size Dv.cells A ds) (hn:n=ds.length) (hn6:n≤60) (hday:inB 0 100000 day=true)
 (hval:∀d∈ds,deOk days d []=true∧d.h=⟨none,0,0⟩∧0≤d.kind∧d.kind≤255) (hdist:∀(j k:Nat) (x y:Dv),j < k→ds[j]?=some x→ds[k]?=some y→x.id≠y.id) (hord:OrdOk ds) (hrun:RunOk (days*1440) day (hs.map pcOf) ds)
 (hk:fidx (atP m) (runP ds (hs.map pcOf))=k) (hp:(runP ds (hs.map pcOf))[k]?=some p) (hlen:(runP ds (hs.map pcOf)).length≤100000) :
 Calls Tryz.prog 146 #[.agg #[.int .i64 days,.slice H nh ch],.slice A n c,.int .i64 day,.int .i64 m] w fun e w'=>e= .returned (.tuple #[.int .i64 p.ow,.int .i64 (p.user day),.int .i64 0])∧Below w.heap.size w w':=by
 obtain⟨b4,w1,e4,ew1,hx4,hb1,hz4⟩:=mk_bx w #[.int .i64 days,.slice H nh ch] 58
 have hx4:At w1 b4 [.int .i64 days,.slice H nh ch]:=hx4.at_
 obtain⟨b7,w2,e7,ew2,hx7,hb2,hz7⟩:=mk_bx w1 #[.int .i64 m] 3
 have hx7:At w2 b7 [.int .i64 m]:=hx7.at_
 have h47:b4+1=b7:=by rw[←e7.out,hz4]
 have hB2:=hb1.trans (hb2.mono hb1.size)
 have HU:=hide (deuntil_rents days day H A nh ch n c hs ds w2 hro hnh (hxh.bel hB2) (hA.bel hB2) hn hn6 hday hval hdist hord hrun)
 have HB2:=hide hB2;have HX7:=hide hx7
 obtain⟨q0,q1⟩:=(hx4.below hb2).c2
 have Hk:=hide hk;have Hp:=hide hp
 clear hxh hx4 hb1 hz4 hnh hro hA hn hval hdist hord hrun hday hx7 hb2 hz7 hB2 hk hp
 go_enter Tryz.func146,Tryz.ntmps146
 go_upto_region 1 with fail
 rw[ew1.out,e4.out,ew2.out,h47]
 clear ew1 e4 ew2 e7
 go_wp2_with fail
 refine HU.out.mono ?_
 rintro e w3 ⟨b,bm,base,vp,rfl,hbs,bk3,hb3⟩
 obtain⟨N,hN⟩:∃N,(runP ds (hs.map pcOf)).length=N:=⟨_,rfl⟩
 have hkN:k < N:=by rw[←hN];exact(List.getElem?_eq_some_iff.1 Hp.out).1
 obtain⟨g,cp,rfl⟩:=bk3.ow.some_ N hN (by omega)
 have HB3:=hide (HB2.out.trans (hb3.mono HB2.out.size))
 have HX3:=hide (HX7.out.below hb3)
 have HBK:=hide bk3
 have hix:=deindex_pc 196 #[.pointer (some ⟨b7,0,none⟩)] (atP m) (some ⟨g,0,none⟩) (runP ds (hs.map pcOf)) N cp w3 hN.symm (by omega) enters_at1 bk3.ow.rdS (fun x w' _ hb=>deat1_any x m b7 w' (HX3.out.below hb))
 rw[Hk.out] at hix
 have Hix:=hide hix
 have y2:=bk3.bx.at_.2 2 _ rfl
 have HN:=hide hN
 clear q0 q1 hb3 bk3 hix hN HU
 go_wp2_with fail
 refine Hix.out.mono ?_
 rintro e w4 ⟨rfl,hb4⟩
 have HB4:=hide (HB3.out.trans (hb4.mono HB3.out.size))
 have HBK4:=hide (HBK.out.bel hb4)
 clear y2 hb4 Hix
 obtain⟨bb,off,p',hA',hBb,hxk,d0,d1,d2,d3,d4⟩:=HBK4.out.ow.rdS.pc (i:=k) (by have:=HN.out;omega)
 injection hA' with hA'
 injection hA' with hA1 hA2
 subst hA1 hA2
 rw[Hp.out] at hxk
 injection hxk with hxk
 subst hxk
 simp only[Nat.zero_add] at d0 d1 d2 d3 d4
 have y2:=HBK4.out.bx.at_.2 2 _ rfl
 have D:=hide (And.intro d0 (And.intro d1 (And.intro d2 (And.intro d3 d4))))
 have ik:(k:Int) < (N:Int):=by omega
 clear d0 d1 d2 d3 d4 y2
 go_upto_region 7 with fail
 refine wp_region_held_drew (S:=(fun W=>Below w4.heap.size w4 W)) (by kernel_rfl) (by(try dsimp only);exact(Below.refl _ _).drew) (fun hHeld=>?_)
 generalize World.drew w4=Wd7 at hHeld ⊢
 have hbc:=Below.refl Wd7.heap.size Wd7
 iterate 9
  refine tkHl [0,1,2,4,8,9,10,12,15] ?_ rfl rfl (Or.inl ⟨by rfl,?_⟩) hHeld ?_
  rotate_left
  ·(intro w _;go_simp;try(with_reducible rfl))
  try simp only[Act.put,tl1,tl2,tl3]
 iterate 2
  refine tkHl [3,11] ?_ rfl rfl (Or.inl ⟨by rfl,?_⟩) hHeld ?_
  rotate_left
  ·(intro w hSw;(try dsimp only at hSw);have y2:=(HBK4.out.bel hSw).bx.at_.2 2 _ rfl;have d0:=(hSw.cell (p:=⟨g,k*5,none⟩) hBb).trans D.out.1;have d1:=(hSw.cell (p:=⟨g,k*5+1,none⟩) hBb).trans D.out.2.1;have d2:=(hSw.cell (p:=⟨g,k*5+2,none⟩) hBb).trans D.out.2.2.1;have d3:=(hSw.cell (p:=⟨g,k*5+3,none⟩) hBb).trans D.out.2.2.2.1;have d4:=(hSw.cell (p:=⟨g,k*5+4,none⟩) hBb).trans D.out.2.2.2.2;go_simp;try(with_reducible rfl))
  try simp only[Act.put,tl1,tl2,tl3]
 iterate 3
  refine tkHl [5,6,13] ?_ rfl rfl (Or.inl ⟨by rfl,?_⟩) hHeld ?_
  rotate_left
  ·(intro w _;go_simp;try(with_reducible rfl))
  try simp only[Act.put,tl1,tl2,tl3]
 iterate 2
  refine tkHl [7,14] ?_ rfl rfl (Or.inl ⟨by rfl,?_⟩) hHeld ?_
  rotate_left
  ·(intro w hSw;(try dsimp only at hSw);have y2:=(HBK4.out.bel hSw).bx.at_.2 2 _ rfl;have d0:=(hSw.cell (p:=⟨g,k*5,none⟩) hBb).trans D.out.1;have d1:=(hSw.cell (p:=⟨g,k*5+1,none⟩) hBb).trans D.out.2.1;have d2:=(hSw.cell (p:=⟨g,k*5+2,none⟩) hBb).trans D.out.2.2.1;have d3:=(hSw.cell (p:=⟨g,k*5+3,none⟩) hBb).trans D.out.2.2.2.1;have d4:=(hSw.cell (p:=⟨g,k*5+4,none⟩) hBb).trans D.out.2.2.2.2;go_simp;try(with_reducible rfl))
  try simp only[Act.put,tl1,tl2,tl3]
 refine wpAnyH_ready (rs:=[16]) (by kernel_rfl) (by simp) ?_
 refine AllReadyH.cons (o:=⟨_,_,_,_,_,_⟩) rfl (fun K hK=>?_) AllReadyH.nil
 go_simp
 refine(deuser_any p day _).mono ?_
 rintro e V47 ⟨rfl,hb⟩
 go_wp2_with fail
 have hHeldN:=hHeld.trans (hb.mono hHeld.size)
 have hbc:=hbc.trans (hb.mono hbc.size)
 refine hK.out _ _ ?_ (fun hHeld2=>?_)
 ·exact hHeldN
 clear hK K hHeld hHeldN hb;have hHeld:=hHeld2;clear hHeld2
 try simp only[Act.put,tl1,tl2,tl3]
 iterate 3
  refine tkHl [17,18,19] ?_ rfl rfl (Or.inl ⟨by rfl,?_⟩) hHeld ?_
  rotate_left
  ·(intro w _;go_simp;try(with_reducible rfl))
  try simp only[Act.put,tl1,tl2,tl3]
 refine wpAnyH_done (by kernel_rfl) ?_ _
 have HB5:=hide (HB4.out.trans (hHeld.mono HB4.out.size))
 clear hHeld hbc
 go_wp2_with fail
 go_returns
 exact⟨rfl,HB5.out⟩
end Go.Proofs.YtiioegopckoldaaGreatDoor
namespace Go.Proofs.YtiioegopckoldaaGreatDoor
open Go.RowKit Go.Shelf
theorem textent_any (lo hi:Int) (w:World):Calls Tryz.prog 14 #[.int .i64 lo,.int .i64 hi] w fun e w'=>e= .returned (.agg #[.int .i64 lo,.int .i64 hi])∧Below w.heap.size w w':=by
 obtain⟨b1,w1,e1,ew1,hx1,hb1,hz1⟩:=mk_bx w #[.int .i64 0,.int .i64 0] 24
 have hx1:Bx w1 b1 [.int .i64 0,.int .i64 0]:=hx1
 have HX:=hide hx1;have HB:=hide hb1
 have hl:w.heap.size≤b1:=by have:=e1.out;omega
 obtain⟨k0,k1,k2,k3⟩:=hx1.w2
 clear hx1 hb1 hz1
 go_enter Tryz.func14,Tryz.ntmps14
 go_upto_region 1 with fail
 rw[ew1.out,e1.out]
 go_wp2_with fail
 have hF:=HX.out.set2 (.int .i64 lo) (.int .i64 hi)
 have HW:=hide ((HB.out.setCell (p:=⟨b1,0,none⟩) hl (.int .i64 lo)).setCell (p:=⟨b1,1,none⟩) hl (.int .i64 hi))
 clear k0 k1 k2 k3
 generalize (w1.setCell ⟨b1,0,none⟩ (.int .i64 lo)).setCell ⟨b1,1,none⟩ (.int .i64 hi)=W at hF HW ⊢
 obtain⟨k0,k1⟩:=hF.at_.c2
 refine bodyPost_ret (by simp[results,Tryz.results14,go_sem,k0,k1];try rfl) rfl ?_
 exact⟨rfl,HW.out⟩
theorem Rd.keptAt {α:Type} {cells:α→List Value} {w w':World} {b o:Nat} {xs:List α} {R:Nat→Prop} (h:Rd w w.heap.size cells (some ⟨b,o,none⟩) xs) (hk:Kept R w w') (hb:R b):Rd w' w'.heap.size cells (some ⟨b,o,none⟩) xs:=fun hne=>by
 obtain⟨bb,oo,e,hlt,hc⟩:=h hne
 injection e with e
 injection e with e1 e3
 subst e1 e3
 exact⟨_,_,rfl,Nat.lt_of_lt_of_le hlt hk.size,fun j v hj=>(hk.cell (p:=⟨b,o+j,none⟩) hb hlt).trans (hc j v hj)⟩
def hsA:List Us:=[⟨1,0,720⟩,⟨2,720,1440⟩]
set_option maxHeartbeats 4000000 in
set_option maxRecDepth 100000 in
theorem thalves_any (w:World):Calls Tryz.prog 66 #[] w fun e w'=>∃b,e= .returned (.agg #[.int .i64 1,.slice (some ⟨b,0,none⟩) 2 2])∧Rd w' w'.heap.size Us.cells (some ⟨b,0,none⟩) hsA∧Below w.heap.size w w':=by
 obtain⟨b1,w1,e1,ew1,hx1,hb1,hz1⟩:=mk_bx w #[.int .i64 0,.slice none 0 0] 58
 have hx1:Bx w1 b1 [.int .i64 0,.slice none 0 0]:=hx1
 obtain⟨b2,w2,e2,ew2,r2,hb2⟩:=mk_row (cells:=Us.cells) w1 #[.int .i64 1,.int .i64 0,.int .i64 720,.int .i64 2,.int .i64 720,.int .i64 1440] 63 hsA rfl
 have hx2:=hx1.bel hb2
 have HX:=hide hx2;have HB:=hide (hb1.trans (hb2.mono hb1.size));have R2:=hide r2
 have hl:w.heap.size≤b1:=by have:=e1.out;omega
 have h12:b1+1=b2:=by rw[←e2.out,hz1]
 have hne':b1≠b2:=by omega
 rw[←ew2.out] at hx2
 obtain⟨k0,k1,k2,k3⟩:=hx2.w2
 clear hx1 hb1 hz1 hb2 r2 hx2
 go_enter Tryz.func66,Tryz.ntmps66
 go_upto_region 1 with fail
 rw[ew1.out,e1.out]
 go_wp2_with fail
 rw[ew2.out,e2.out]
 have hF:=HX.out.set2 (.int .i64 1) (.slice (some ⟨b2,0,none⟩) 2 2)
 have HW:=hide ((HB.out.setCell (p:=⟨b1,0,none⟩) hl (.int .i64 1)).setCell (p:=⟨b1,1,none⟩) hl (.slice (some ⟨b2,0,none⟩) 2 2))
 have hk:Kept (fun c=>c≠b1) w2 ((w2.setCell ⟨b1,0,none⟩ (.int .i64 1)).setCell ⟨b1,1,none⟩ (.slice (some ⟨b2,0,none⟩) 2 2)):=(Kept.setCell w2 ⟨b1,0,none⟩ _).trans (Kept.setCell _ ⟨b1,1,none⟩ _)
 have RF:Hid (Rd ((w2.setCell ⟨b1,0,none⟩ (.int .i64 1)).setCell ⟨b1,1,none⟩ (.slice (some ⟨b2,0,none⟩) 2 2)) ((w2.setCell ⟨b1,0,none⟩ (.int .i64 1)).setCell ⟨b1,1,none⟩ (.slice (some ⟨b2,0,none⟩) 2 2)).heap.size Us.cells (some ⟨b2,0,none⟩) hsA):=hide (fun hne=>by
  obtain⟨bb,o,e,hlt,hc⟩:=R2.out hne
  refine⟨bb,o,e,Nat.lt_of_lt_of_le hlt hk.size,fun j v hj=>?_⟩
  injection e with e
  injection e with e1 e3
  subst e1 e3
  rw[←hc j v hj]
  exact hk.cell (p:=⟨b2,0+j,none⟩) (fun e=>hne' e.symm) hlt)
 clear k0 k1 k2 k3 hk
 generalize (w2.setCell ⟨b1,0,none⟩ (.int .i64 1)).setCell ⟨b1,1,none⟩ (.slice (some ⟨b2,0,none⟩) 2 2)=W at hF HW RF ⊢
 obtain⟨k0,k1⟩:=hF.at_.c2
 refine bodyPost_ret (by simp[results,Tryz.results66,go_sem,k0,k1];try rfl) rfl ?_
 exact⟨b2,rfl,RF.out,HW.out⟩
def dA:Dv:=⟨0,1,4,1,3,700,720,9,⟨none,0,0⟩⟩
theorem dA_ok:∀d∈[dA],deOk 1 d []=true∧d.h=⟨none,0,0⟩∧0≤d.kind∧d.kind≤255:=fun d h=>by
 rw[List.mem_singleton] at h
 subst h
 exact⟨by decide,rfl,by decide,by decide⟩
theorem dA_rent:RentOk (1*1440) (hsA.map pcOf) dA:=by
 have hm:∀i j,Mid dA.tf dA.tt (hsA.map pcOf) i j→i=1∧j=1:=fun i j ⟨h1,h2⟩=>by
  have e1:fidx (fun p:Pc=>p.fr == dA.tf) (ofL dA.tf dA.tt (hsA.map pcOf))=1:=by decide
  have e2:fidx (fun p:Pc=>p.to == dA.tt) (ofL dA.tf dA.tt (hsA.map pcOf))=1:=by decide
  omega
 refine⟨rfl,by decide,by decide,by decide,by decide,by decide,fun i j h=>?_,fun i j h=>?_⟩
 ·obtain⟨rfl,rfl⟩:=hm i j h
  decide
 ·obtain⟨rfl,rfl⟩:=hm i j h
  decide
theorem dA_run:RunOk (1*1440) 3 (hsA.map pcOf) [dA]:=⟨by decide,dA_rent,trivial⟩
theorem dA_at:fidx (atP 705) (runP [dA] (hsA.map pcOf))=(1:Nat):=by decide
theorem dA_pc:(runP [dA] (hsA.map pcOf))[1]?=some ⟨700,720,1,3,9⟩:=by decide
theorem dA_user:(⟨700,720,1,3,9⟩:Pc).user 3=3:=by decide
set_option maxHeartbeats 8000000 in
set_option maxRecDepth 100000 in
theorem alive04_any (w:World) (hnv:Nv w):Calls Tryz.prog 78 #[] w fun e w'=>e= .returned (.bool true)∧Below w.heap.size w w':=by
 have Hnv:=hide hnv
 clear hnv
 go_enter Tryz.func78,Tryz.ntmps78
 go_wp2_with fail
 refine(textent_any _ _ _).mono ?_
 rintro e w1 ⟨rfl,hb1⟩
 have HB1:=hide hb1
 clear hb1
 obtain⟨b2,w2,e2,ew2,r2,hb2⟩:=mk_row (cells:=Sp.cells) w1 #[.int .i64 700,.int .i64 710] 24 [⟨700,710⟩] rfl
 have HB2:=hide (HB1.out.trans (hb2.mono HB1.out.size))
 have R2:=hide r2
 clear r2 hb2
 go_wp2_with fail
 rw[ew2.out,e2.out]
 clear ew2 e2
 refine(textent_any _ _ _).mono ?_
 rintro e w3 ⟨rfl,hb3⟩
 obtain⟨b4,w4,e4,ew4,hx4,hb4,hz4⟩:=mk_bx w3 #[.slice (some ⟨b2,0,none⟩) 1 1,.slice none 0 0,.int .i64 0,.int .i64 0,.int .i64 1000,.int .i64 1000] 86
 have HB4:=hide (HB2.out.trans ((hb3.trans (hb4.mono hb3.size)).mono HB2.out.size))
 have R4:=(R2.out.bel hb3).bel hb4
 obtain⟨q0,q1,q2,q3,q4,q5⟩:=(show At w4 b4 [.slice (some ⟨b2,0,none⟩) 1 1,.slice none 0 0,.int .i64 0,.int .i64 0,.int .i64 1000,.int .i64 1000] from hx4.at_).c6l
 obtain⟨b5,w5,e5,ew5,hx5,hb5,hz5⟩:=mk_bx w4 #[.int .u8 1,.int .i64 0,.int .i64 0,.int .i64 0,.int .i64 0] 257
 have HB5:=hide (HB4.out.trans (hb5.mono HB4.out.size))
 have HA:=hide (hAll_A (some ⟨b2,0,none⟩) 1 1 b5 w5 (Hnv.out.below HB5.out) hx5.at_ (R4.bel hb5))
 clear hb3 hx4 hb4 hz4 hx5 hb5 hz5 R4
 go_upto_region 2 with fail
 rw[ew4.out,e4.out]
 clear ew4 e4
 go_wp2_with fail
 rw[ew5.out,e5.out]
 clear ew5 e5 q0 q1 q2 q3 q4 q5
 refine HA.out.mono ?_
 rintro e w6 ⟨rfl,hb6⟩
 obtain⟨b7,w7,e7,ew7,hx7,hb7,hz7⟩:=mk_bx w6 #[.int .i64 700,.int .i64 710] 24
 have HB7:=hide (HB5.out.trans ((hb6.trans (hb7.mono hb6.size)).mono HB5.out.size))
 have X7:=hide (show At w7 b7 [.int .i64 700,.int .i64 710] from hx7.at_)
 obtain⟨b8,w8,e8,ew8,r8,hb8⟩:=mk_row (cells:=Sp.cells) w7 #[.int .i64 0,.int .i64 720,.int .i64 720,.int .i64 1440] 61 tuA rfl
 have HB8:=hide (HB7.out.trans (hb8.mono HB7.out.size))
 have X8:=hide (X7.out.below hb8)
 have R8:=hide r8
 clear hb6 hx7 hb7 hz7 r8 hb8
 go_upto_region 3 with fail
 rw[ew7.out,e7.out]
 clear ew7 e7
 obtain⟨q0,q1⟩:=X8.out.c2
 rw[←ew8.out] at q0 q1
 go_wp2_with fail
 rw[ew8.out,e8.out]
 clear ew8 e8 q0 q1
 refine(hOnA_any (some ⟨b8,0,none⟩) 2 w8 R8.out).mono ?_
 rintro e w9 ⟨v9,rfl,o9,hb9⟩
 obtain⟨A9,c9,rfl,r9⟩:=o9.rdn 1 rfl
 have HB9:=hide (HB8.out.trans (hb9.mono HB8.out.size))
 have X9:=hide (X8.out.below hb9)
 have R9:=hide r9
 clear o9 r9 hb9
 go_wp2_with fail
 refine(thalves_any _).mono ?_
 rintro e w10 ⟨bh,rfl,rh,hb10⟩
 obtain⟨b11,w11,e11,ew11,r11,hb11⟩:=mk_row (cells:=Dv.cells) w10 #[.int .i64 0,.int .i64 1,.int .u8 4,.int .i64 1,.int .i64 3,.int .i64 700,.int .i64 720,.int .i64 9,.slice none 0 0] 73 [dA] rfl
 have HB11:=hide (HB9.out.trans ((hb10.trans (hb11.mono hb10.size)).mono HB9.out.size))
 have X11:=hide ((X9.out.below hb10).below hb11)
 have R11:=hide ((R9.out.bel hb10).bel hb11)
 have HT:=hide (deAt_rents 1 3 705 (some ⟨bh,0,none⟩) (some ⟨b11,0,none⟩) 2 2 1 1 1 hsA [dA] _ w11 (by decide) rfl (rh.bel hb11) r11 rfl (by omega) (by decide) dA_ok (fun j k x y hjk hj hk=>by
  have h1:=(List.getElem?_eq_some_iff.1 hk).1
  simp at h1
  omega) (ord_one dA) dA_run dA_at dA_pc (by decide))
 rw[dA_user] at HT
 clear hb10 hb11 r11 rh
 go_wp2_with fail
 rw[ew11.out,e11.out]
 clear ew11 e11
 refine HT.out.mono ?_
 rintro e w12 ⟨rfl,hb12⟩
 have HB12:=hide (HB11.out.trans (hb12.mono HB11.out.size))
 have X12:=hide (X11.out.below hb12)
 have R12:=hide (R11.out.bel hb12)
 clear hb12 HT
 obtain⟨b9,o9,y,rfl,hb9,hy,c9⟩:=R12.out.int (i:=0) (by decide)
 injection hy with hy
 subst hy
 rw[Nat.add_zero] at c9
 have C9:=hide (And.intro hb9 c9)
 clear hb9 c9
 go_upto_region 5 with fail
 refine wp_region_held_drew (S:=(fun W=>Below w12.heap.size w12 W)) (by kernel_rfl) (by(try dsimp only);exact(Below.refl _ _).drew) (fun hHeld=>?_)
 generalize World.drew w12=Wd5 at hHeld ⊢
 have hbc:=Below.refl Wd5.heap.size Wd5
 refine wpAnyH_ready (rs:=[0]) (by kernel_rfl) (by simp) ?_
 refine AllReadyH.cons (o:=⟨_,_,_,_,_,_⟩) rfl (fun K hK=>?_) AllReadyH.nil
 go_simp
 refine(alive02_any _).mono ?_
 rintro e V39 ⟨rfl,hb⟩
 go_wp2_with fail
 have hHeldN:=hHeld.trans (hb.mono hHeld.size)
 have hbc:=hbc.trans (hb.mono hbc.size)
 refine hK.out _ _ ?_ (fun hHeld2=>?_)
 ·exact hHeldN
 clear hK K hHeld hHeldN hb;have hHeld:=hHeld2;clear hHeld2
 try simp only[Act.put,tl1,tl2,tl3]
 iterate 5
  refine tkHl [1,2,3,4,5] ?_ rfl rfl (Or.inl ⟨by rfl,?_⟩) hHeld ?_
  rotate_left
  ·(intro w _;go_simp;try(with_reducible rfl))
  try simp only[Act.put,tl1,tl2,tl3]
 refine tkH 6 ?_ rfl (Or.inl ⟨by rfl,?_⟩) hHeld ?_
 rotate_left
 ·(intro w hSw;(try dsimp only at hSw);obtain⟨q0,q1⟩:=(X12.out.below hSw).c2;have c9:=(hSw.cell (p:=⟨b9,o9,none⟩) C9.out.1).trans C9.out.2;go_simp;try(with_reducible rfl))
 try simp only[Act.put,tl1,tl2,tl3]
 refine wpAnyH_ready (rs:=[7]) (by kernel_rfl) (by simp) ?_
 refine AllReadyH.cons (o:=⟨_,_,_,_,_,_⟩) rfl (fun K hK=>?_) AllReadyH.nil
 go_simp
 refine(textent_any _ _ _).mono ?_
 rintro e V46 ⟨rfl,hb⟩
 go_wp2_with fail
 have hHeldN:=hHeld.trans (hb.mono hHeld.size)
 have hbc:=hbc.trans (hb.mono hbc.size)
 refine hK.out _ _ ?_ (fun hHeld2=>?_)
 ·exact hHeldN
 clear hK K hHeld hHeldN hb;have hHeld:=hHeld2;clear hHeld2
 try simp only[Act.put,tl1,tl2,tl3]
 iterate 14
  refine tkHl [8,9,10,11,12,13,14,15,16,17,18,19,20,21] ?_ rfl rfl (Or.inl ⟨by rfl,?_⟩) hHeld ?_
  rotate_left
  ·(intro w _;go_simp;try(with_reducible rfl))
  try simp only[Act.put,tl1,tl2,tl3]
 refine tkH 22 ?_ rfl (Or.inl ⟨by rfl,?_⟩) hHeld ?_
 rotate_left
 ·(intro w hSw;(try dsimp only at hSw);obtain⟨q0,q1⟩:=(X12.out.below hSw).c2;have c9:=(hSw.cell (p:=⟨b9,o9,none⟩) C9.out.1).trans C9.out.2;go_simp;try(with_reducible rfl))
 try simp only[Act.put,tl1,tl2,tl3]
 iterate 19
  refine tkHl [23,24,25,26,27,28,29,30,31,32,33,34,35,36,37,38,39,40,41] ?_ rfl rfl (Or.inl ⟨by rfl,?_⟩) hHeld ?_
  rotate_left
  ·(intro w _;go_simp;try(with_reducible rfl))
  try simp only[Act.put,tl1,tl2,tl3]
 refine wpAnyH_done (by kernel_rfl) ?_ _
 have HB13:=hide (HB12.out.trans (hHeld.mono HB12.out.size))
 clear hHeld hbc
 go_wp2_with fail
 go_returns
 exact⟨rfl,HB13.out⟩
end Go.Proofs.YtiioegopckoldaaGreatDoor
