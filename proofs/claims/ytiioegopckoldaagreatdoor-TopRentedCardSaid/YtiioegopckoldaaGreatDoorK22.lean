/- lemmas for topRented_holds: OW2 S2 S7 S10. No conditions. -/
import Derived.Test.YtiioegopckoldaaGreatDoorK12
import Derived.Test.YtiioegopckoldaaGreatDoorK15
import Derived.Test.YtiioegopckoldaaGreatDoorK21
import Derived.Test.YtiioegopckoldaaGreatDoorK19
import Derived.Handy
import Derived.Deep.RegionHeld3
import Derived.Test.YtiioegopckoldaaGreatDoorK02
set_option linter.unusedVariables false
set_option linter.unusedSimpArgs false
namespace Go.Proofs.YtiioegopckoldaaGreatDoor
open Go.RowKit Go.Shelf
def dOf (n i k:Nat) (now m:Int):Dv:=⟨n,0,4,100+i,1+k,now,now+m,30,⟨none,0,0⟩⟩
def rowD (row:List Int) (i:Nat) (acc:List Dv) (f:Int):Nat→List Dv×Int
 | 0=>(acc,f)
 | k+1=>if 0 < row.getD k 0 then((rowD row i acc f k).1 ++ [dOf (rowD row i acc f k).1.length i k (rowD row i acc f k).2 (row.getD k 0)],(rowD row i acc f k).2+row.getD k 0) else rowD row i acc f k
def frmAt (hs:List Us) (i:Nat):Int:=(hs.getD i ⟨0,0,0⟩).frm
def allD (hs:List Us) (p:List (List Int)):Nat→List Dv
 | 0=>[]
 | i+1=>(rowD (p.getD i []) i (allD hs p i) (frmAt hs i) (p.getD i []).length).1
theorem sumD_dOf (n i k x:Nat) (now m:Int):sumD (1+x) [dOf n i k now m]=if x=k then m else 0:=by
 have e:sumD (1+x) [dOf n i k now m]=(if(1+k:Int)=1+x then now+m-now else 0)+0:=rfl
 rw[e]
 by_cases h:x=k
 ·subst h;rw[if_pos rfl,if_pos rfl];omega
 ·rw[if_neg h,if_neg (by omega)];rfl
structure DI (hs:List Us) (e pos:Int) (ds:List Dv):Prop where
 ok:∀d∈ds,LetOk hs e d∧d.tt≤pos∧100≤d.fr∧d.to≠d.fr∧d.h=⟨none,0,0⟩
 pw:ds.Pairwise (fun x y=>x.tt≤y.tf)
 id:∀(j:Nat) (d:Dv),ds[j]?=some d→d.id=j
theorem DI.nil (hs:List Us) (e pos:Int):DI hs e pos []:=⟨fun d hd=>by simp at hd,List.Pairwise.nil,fun j d h=>by simp at h⟩
theorem DI.wk {hs:List Us} {e pos q:Int} {ds:List Dv} (h:DI hs e pos ds) (hq:pos≤q):DI hs e q ds:=
 ⟨fun d hd=>by obtain⟨h1,h2,h3⟩:=h.ok d hd;exact⟨h1,by omega,h3⟩,h.pw,h.id⟩
theorem DI.snoc {hs:List Us} {e pos m:Int} {ds:List Dv} {i k:Nat} {h:Us} (hd:DI hs e pos ds) (hh:hs[i]?=some h) (hf:h.field=100+i) (hi:i≤7) (hk:k≤7) (h0:0≤h.frm) (h1:h.frm≤pos) (hm:0 < m) (h2:pos+m≤h.to) (he:h.to≤e):DI hs e (pos+m) (ds ++ [dOf ds.length i k pos m]):=by
 have hw:=hd.wk (q:=pos+m) (by omega)
 refine⟨fun d hdm=>?_,List.pairwise_append.2 ⟨hd.pw,by simp,fun x hx y hy=>?_⟩,fun j d hj=>?_⟩
 ·rcases List.mem_append.1 hdm with hdm | hdm
  ·exact hw.ok d hdm
  ·obtain rfl:=List.mem_singleton.1 hdm
   refine⟨⟨rfl,rfl,?_,?_,?_,?_,?_,rfl,h,List.mem_of_getElem? hh,?_,?_,?_⟩,?_,?_,?_,rfl⟩ <;> simp only[dOf] <;> omega
 ·obtain rfl:=List.mem_singleton.1 hy
  exact(hd.ok x hx).2.1
 ·rw[List.getElem?_append] at hj
  split at hj
  ·exact hd.id j d hj
  ·next hl=>
   have hj2:j-ds.length=0:=by
    have:=(List.getElem?_eq_some_iff.1 hj).1
    simp at this
    omega
   rw[hj2] at hj
   have:dOf ds.length i k pos m=d:=by simpa using hj
   subst this
   simp only[dOf]
   omega
theorem sumTo_nonneg' {f:Nat→Int}:∀{n:Nat},(∀k,k < n→0≤f k)→∀j,j≤n→sumTo f j≤sumTo f n
 | 0, _, j, hj => by obtain rfl : j = 0 := by omega
                     exact Int.le_refl _
 | n + 1, h, j, hj => by
   by_cases e:j=n+1
   ·subst e;exact Int.le_refl _
   ·have:=sumTo_nonneg' (fun k hk=>h k (by omega)) j (show j≤n by omega)
    have:=h n (by omega)
    show sumTo f j≤sumTo f n+f n
    omega
theorem rowD_is {hs:List Us} {e f:Int} {acc:List Dv} {row:List Int} {i:Nat} {h:Us} (hd:DI hs e f acc) (hh:hs[i]?=some h) (hf:h.field=100+i) (hi:i≤7) (hl:row.length≤8) (h0:0≤h.frm) (h1:h.frm≤f) (he:h.to≤e)
 (hr:∀k,k < row.length→0≤row.getD k 0) (hs':f+sumTo (fun k=>row.getD k 0) row.length≤h.to):∀k,k≤row.length→
 DI hs e (rowD row i acc f k).2 (rowD row i acc f k).1∧(rowD row i acc f k).2=f+sumTo (fun k=>row.getD k 0) k∧(rowD row i acc f k).1.length≤acc.length+k∧∀x:Nat,sumD (1+x) (rowD row i acc f k).1=sumD (1+x) acc+if x < k then row.getD x 0 else 0
 | 0,_=>⟨hd,by simp[rowD,sumTo],by simp[rowD],fun x=>by simp[rowD]⟩
 | k + 1, hk => by
   obtain⟨g1,g2,g3,g4⟩:=rowD_is hd hh hf hi hl h0 h1 he hr hs' k (by omega)
   have hk0:=hr k (by omega)
   have hle:=sumTo_nonneg' hr (k+1) hk
   have hnn:=sumTo_nonneg' hr k (by omega)
   have hz:0≤sumTo (fun k=>row.getD k 0) k:=by
    have:=sumTo_nonneg' (f:=fun k=>row.getD k 0) (n:=k) (fun q hq=>hr q (by omega)) 0 (by omega)
    simpa[sumTo] using this
   have hsn:sumTo (fun k=>row.getD k 0) (k+1)=sumTo (fun k=>row.getD k 0) k+row.getD k 0:=rfl
   by_cases hp:0 < row.getD k 0
   ·have e1:rowD row i acc f (k+1)=((rowD row i acc f k).1 ++ [dOf (rowD row i acc f k).1.length i k (rowD row i acc f k).2 (row.getD k 0)],(rowD row i acc f k).2+row.getD k 0):=if_pos hp
    rw[e1]
    refine⟨g1.snoc hh hf hi (by omega) h0 (by omega) hp (by omega) he,?_,?_,fun x=>?_⟩
    ·show(rowD row i acc f k).2+row.getD k 0=_
     omega
    ·simp only[List.length_append,List.length_cons,List.length_nil];omega
    ·rw[sumD_app,g4,sumD_dOf]
     by_cases hx:x=k
     ·subst hx
      rw[if_neg (by omega),if_pos rfl,if_pos (by omega)]
      omega
     ·rw[if_neg hx]
      by_cases hx2:x < k
      ·rw[if_pos hx2,if_pos (by omega)];omega
      ·rw[if_neg hx2,if_neg (by omega)];omega
   ·have e1:rowD row i acc f (k+1)=rowD row i acc f k:=if_neg hp
    rw[e1]
    refine⟨g1,by omega,by omega,fun x=>?_⟩
    rw[g4]
    by_cases hx:x=k
    ·subst hx
     rw[if_neg (by omega),if_pos (by omega)]
     omega
    ·by_cases hx2:x < k
     ·rw[if_pos hx2,if_pos (by omega)]
     ·rw[if_neg hx2,if_neg (by omega)]
structure Offered (hs:List Us) (rs:List Rr) (at_:Int):Prop where
 len:hs.length=rs.length
 r7:rs.length≤7
 top:at_≤1439
 is:∀(j:Nat) (h:Us),hs[j]?=some h→h.field=100+j∧h.to-h.frm=miAt rs j
 ch:Chain 0 (hs.map pcOf) at_
def lastH (at_:Int):Us:=⟨99,at_,1440⟩
theorem hdsOk_of {e:Int}:∀{hs:List Us} {a:Int},Chain a (hs.map pcOf) e→(∀h∈hs,0≤h.field∧h.field≤9999)→hdsOk e a hs=true
 | [],a,h,_=>by unfold hdsOk;simpa[Chain] using h
 | x :: hs, a, h, hf => by
   obtain⟨h1,h2,h3⟩:=h
   have:=h3.le
   have h4:=hdsOk_of (hs:=hs) h3 fun y hy=>hf y (by simp[hy])
   have h5:=hf x (by simp)
   have h1':x.frm=a:=h1
   have h2':x.frm < x.to:=h2
   have h6:x.to≤e:=this
   have h4':hdsOk e x.to hs=true:=h4
   simp only[hdsOk,hdOk,properB,inB,Bool.and_eq_true,decide_eq_true_eq,beq_iff_eq]
   exact⟨⟨h5,h1',by omega,h2',h6⟩,h4'⟩
theorem Chain.adj:∀{ps:List Pc} {a b:Int} {i:Nat} {p q:Pc},Chain a ps b→ps[i]?=some p→ps[i+1]?=some q→q.fr=p.to
 | [],_,_,_,_,_,_,hp,_=>by simp at hp
 | x :: ps, a, b, 0, p, q, h, hp, hq => by
   have e1:x=p:=by simpa using hp
   subst e1
   cases ps with
   | nil=>simp at hq
   | cons y ps =>
     have e2:y=q:=by simpa using hq
     subst e2
     exact h.2.2.1
 | x :: ps,a,b,i+1,p,q,h,hp,hq=>h.2.2.adj (i:=i) (by simpa using hp) (by simpa using hq)
section
variable {hs:List Us} {rs:List Rr} {at_:Int}
theorem Offered.chain (h:Offered hs rs at_):Chain 0 ((hs ++ [lastH at_]).map pcOf) 1440:=by
 rw[List.map_append]
 exact Chain.app.2 ⟨at_,h.ch,rfl,by have:=h.top;show at_ < 1440;omega,rfl⟩
theorem Offered.fld (h:Offered hs rs at_) {j:Nat} {x:Us} (hx:(hs ++ [lastH at_])[j]?=some x):(j < rs.length∧hs[j]?=some x∧x.field=100+j)∨(j=rs.length∧x=lastH at_):=by
 rw[List.getElem?_append] at hx
 split at hx
 ·next hl=>exact .inl ⟨by rw[←h.len];exact hl,hx,(h.is j x hx).1⟩
 ·next hl=>
  have:=(List.getElem?_eq_some_iff.1 hx).1
  simp at this
  have e:j-hs.length=0:=by omega
  rw[e] at hx
  exact .inr ⟨by rw[←h.len];omega,by simpa using hx.symm⟩
theorem Offered.bd (h:Offered hs rs at_) {x:Us} (hx:x∈hs ++ [lastH at_]):99≤x.field∧x.field≤107:=by
 obtain⟨j,hj⟩:=List.getElem?_of_mem hx
 have:=h.r7
 rcases h.fld hj with⟨h1,_,h2⟩ | ⟨_,rfl⟩
 ·omega
 ·show(99:Int)≤99∧(99:Int)≤107
  omega
theorem Offered.at_lt (h:Offered hs rs at_) {j:Nat} {x:Us} (hx:(hs ++ [lastH at_])[j]?=some x):0≤x.frm∧x.frm < x.to∧x.to≤1440:=
 h.chain.at_lt (p:=pcOf x) (k:=j) (by rw[List.getElem?_map,hx];rfl)
theorem Offered.apart (h:Offered hs rs at_):ApartH (hs ++ [lastH at_]):=by
 intro x hx y hy h1 h2
 obtain⟨i,hi⟩:=List.getElem?_of_mem hx
 obtain⟨j,hj⟩:=List.getElem?_of_mem hy
 have m:∀{a b:Nat} {u v:Us},(hs ++ [lastH at_])[a]?=some u→(hs ++ [lastH at_])[b]?=some v→a < b→u.to≤v.frm:=fun {a b u v} ha hb hab=>
  h.chain.mono (p:=pcOf u) (q:=pcOf v) (by rw[List.getElem?_map,ha];rfl) (by rw[List.getElem?_map,hb];rfl) hab
 rcases Nat.lt_trichotomy i j with hlt | rfl | hlt
 ·have:=m hi hj hlt;omega
 ·rw[hi] at hj;injection hj with hj;rw[hj]
 ·have:=m hj hi hlt;omega
theorem Offered.rolls (h:Offered hs rs at_):rollsOk 1 (hs ++ [lastH at_])=true:=by
 have h1:=hdsOk_of h.chain fun x hx=>by have:=h.bd hx;omega
 have h2:(hs ++ [lastH at_]).length=rs.length+1:=by rw[List.length_append,h.len];rfl
 have:=h.r7
 simp only[rollsOk,inB,Bool.and_eq_true,decide_eq_true_eq,h2]
 exact⟨⟨by omega,by omega⟩,⟨by omega,by omega⟩,h1⟩
theorem Offered.pinv (h:Offered hs rs at_):∀p∈(hs ++ [lastH at_]).map pcOf,PInv (hs ++ [lastH at_]) 0 p:=by
 intro p hp
 obtain⟨x,hx,rfl⟩:=List.mem_map.1 hp
 exact⟨⟨x,hx,Int.le_refl _,Int.le_refl _,rfl⟩,.inl rfl⟩
theorem allD_is {ns:List Int} {p:List (List Int)} (h:Offered hs rs at_) (hns:ns.length≤8) (hp:Planned ns rs p):∀i,i≤rs.length→
 DI (hs ++ [lastH at_]) 1440 (frmAt (hs ++ [lastH at_]) i) (allD (hs ++ [lastH at_]) p i)∧(allD (hs ++ [lastH at_]) p i).length≤8*i∧∀x:Nat,x < ns.length→sumD (1+x) (allD (hs ++ [lastH at_]) p i)=sumTo (fun j=>cellAt p j x) i
 | 0,_=>⟨DI.nil _ _ _,by simp[allD],fun x _=>rfl⟩
 | i + 1, hi => by
   obtain⟨g1,g2,g3⟩:=allD_is h hns hp i (by omega)
   have hlen:(hs ++ [lastH at_]).length=rs.length+1:=by rw[List.length_append,h.len];rfl
   obtain⟨x,hx⟩:∃x,(hs ++ [lastH at_])[i]?=some x:=⟨_,List.getElem?_eq_getElem (by omega)⟩
   obtain⟨y,hy⟩:∃y,(hs ++ [lastH at_])[i+1]?=some y:=⟨_,List.getElem?_eq_getElem (by omega)⟩
   have hadj:y.frm=x.to:=h.chain.adj (p:=pcOf x) (q:=pcOf y) (i:=i) (by rw[List.getElem?_map,hx];rfl) (by rw[List.getElem?_map,hy];rfl)
   have fx:frmAt (hs ++ [lastH at_]) i=x.frm:=by unfold frmAt;rw[List.getD_eq_getElem?_getD,hx];rfl
   have fy:frmAt (hs ++ [lastH at_]) (i+1)=y.frm:=by unfold frmAt;rw[List.getD_eq_getElem?_getD,hy];rfl
   have hxl:=h.at_lt hx
   obtain⟨hx1,hx2⟩:x.field=100+i∧x.to-x.frm=miAt rs i:=by
    rcases h.fld hx with⟨_,h1,_⟩ | ⟨h1,_⟩
    ·exact h.is i x h1
    ·omega
   have hrl:=hp.row i (by omega)
   have hcell:∀k,k < (p.getD i []).length→0≤(p.getD i []).getD k 0:=fun k hk=>(hp.ok i (by omega) k (by omega)).1
   have hsum:x.frm+sumTo (fun k=>(p.getD i []).getD k 0) (p.getD i []).length≤x.to:=by
    rw[hrl]
    cases hm:ns.length with
    | zero=>simp only[sumTo];omega
    | succ k =>
      have:=(hp.ok i (by omega) k (by omega)).2.1
      have e:usedTo p i k=sumTo (fun k=>(p.getD i []).getD k 0) k:=rfl
      have e2:cellAt p i k=(p.getD i []).getD k 0:=rfl
      show x.frm+(sumTo (fun k=>(p.getD i []).getD k 0) k+(p.getD i []).getD k 0)≤x.to
      omega
   rw[fx] at g1
   have:=h.r7
   obtain⟨r1,r2,r3,r4⟩:=rowD_is g1 hx hx1 (by omega) (by omega) hxl.1 (Int.le_refl _) hxl.2.2 hcell hsum _ (Nat.le_refl _)
   have ea:allD (hs ++ [lastH at_]) p (i+1)=(rowD (p.getD i []) i (allD (hs ++ [lastH at_]) p i) x.frm (p.getD i []).length).1:=by rw[←fx];rfl
   rw[ea,fy,hadj]
   refine⟨r1.wk (by omega),by omega,fun z hz=>?_⟩
   rw[r4,g3 z hz,if_pos (by omega)]
   rfl
structure DeedsOk (hs:List Us) (ns:List Int) (ds:List Dv):Prop where
 len:ds.length≤56
 val:∀d∈ds,deOk 1 d []=true∧d.h=⟨none,0,0⟩∧0≤d.kind∧d.kind≤255
 dist:∀(j k:Nat) (x y:Dv),j < k→ds[j]?=some x→ds[k]?=some y→x.id≠y.id
 ord:OrdOk ds
 run:∀day:Int,0≤day→RunOk (1*1440) day (hs.map pcOf) ds
 own:∀who,totB (fun p=>p.ow == who) (runP ds (hs.map pcOf))=totB (fun p=>p.ow == who) (hs.map pcOf)
 use:∀x:Nat,x < ns.length→sumH (1+x) (runsF (fun p=>p.user 1) (runP ds (hs.map pcOf)))=ns.getD x 0
 ch:Chain 0 (runP ds (hs.map pcOf)) 1440
theorem Offered.deeds {ns:List Int} {p:List (List Int)} (h:Offered hs rs at_) (hns:ns.length≤8) (hp:Planned ns rs p):DeedsOk (hs ++ [lastH at_]) ns (allD (hs ++ [lastH at_]) p rs.length):=by
 obtain⟨g1,g2,g3⟩:=allD_is h hns hp rs.length (Nat.le_refl _)
 have h7:=h.r7
 obtain⟨ds,hds⟩:∃ds,allD (hs ++ [lastH at_]) p rs.length=ds:=⟨_,rfl⟩
 rw[hds] at g1 g2 g3 ⊢
 have hlen:ds.length≤56:=by omega
 have hall:∀d∈ds,LetOk (hs ++ [lastH at_]) 1440 d∧(0:Int)≤d.tf:=fun d hd=>⟨(g1.ok d hd).1,(g1.ok d hd).1.t0⟩
 have hrun:=fun (day:Int) (hday:0≤day)=>run_all (day:=day) h.apart hday h.chain h.pinv hall g1.pw
 have hto:∀(x:Nat) (d:Dv),x < ns.length→d∈ds→d.fr≠1+(x:Int):=fun x d hx hd=>by have:=(g1.ok d hd).2.2.1;omega
 refine⟨hlen,fun d hd=>?_,fun j k x y hjk hx hy=>?_,?_,fun day hday=>(hrun day hday).1,(hrun 0 (Int.le_refl _)).2.1,fun x hx=>?_,runP_chain ds h.chain⟩
 ·obtain⟨k1,k2,k3,k4,k5⟩:=g1.ok d hd
  obtain⟨j,hj⟩:=List.getElem?_of_mem hd
  have hid:=g1.id j d hj
  have hjl:=(List.getElem?_eq_some_iff.1 hj).1
  refine⟨?_,k5,by rw[k1.k];decide,by rw[k1.k];decide⟩
  have a1:=k1.fr;have a2:=k1.to;have a3:=k1.t0;have a4:=k1.t1;have a5:=k1.t2;have a6:=k1.un;have a7:=k1.day
  simp only[deOk,deKind,k1.k,pairB,properB,inB,k5,Bool.and_eq_true,decide_eq_true_eq]
  simp
  omega
 ·rw[g1.id j x hx,g1.id k y hy];omega
 ·by_cases h0:ds.length=0
  ·obtain rfl:=List.length_eq_zero_iff.1 h0
   exact ord_nil
  ·exact ord_sorted (ordL_ids (D:=0) (fun d hd=>(g1.ok d hd).1.day) fun j k x y hjk hx hy=>by rw[g1.id j x hx,g1.id k y hy];omega) (by omega) (by omega)
 ·rw[runsF_sum _ _ (runP_chain ds h.chain),(hrun 0 (Int.le_refl _)).2.2 (1+x) (fun d hd=>hto x d hx hd),g3 x hx,hp.got x hx,totB_const (c:=false)]
  ·simp
  ·intro q hq
   obtain⟨z,hz,rfl⟩:=List.mem_map.1 hq
   have:=h.bd hz
   have:z.field≠1+(x:Int):=by omega
   simpa[pcOf,Pc.user,Pc.busy] using this
end
end Go.Proofs.YtiioegopckoldaaGreatDoor
namespace Go.Proofs.YtiioegopckoldaaGreatDoor
open Go.RowKit Go.Shelf
attribute [local go_sem] ite_min ite_max
def Sp.at (h:Bool) (s:Sp):Int:=if h then s.hi else s.lo
structure So.fit (B:Int) (s:So):Prop where
 a0:0≤s.salt.lo∧s.salt.lo≤B
 a1:0≤s.salt.hi∧s.salt.hi≤B
 cr:0≤s.crop∧s.crop≤1000000000
 m0:0≤s.mineral.lo∧s.mineral.lo≤100000
 m1:0≤s.mineral.hi∧s.mineral.hi≤100000
 w0:0≤s.wash.lo∧s.wash.lo≤100000
 w1:0≤s.wash.hi∧s.wash.hi≤100000
 r0:0≤s.rise.lo∧s.rise.lo≤100000000
 r1:0≤s.rise.hi∧s.rise.hi≤100000000
theorem So.fit.mono {B B':Int} {s:So} (h:s.fit B) (hb:B≤B'):s.fit B':=⟨⟨h.a0.1,by have:=h.a0.2;omega⟩,⟨h.a1.1,by have:=h.a1.2;omega⟩,h.cr,h.m0,h.m1,h.w0,h.w1,h.r0,h.r1⟩
end Go.Proofs.YtiioegopckoldaaGreatDoor
namespace Go.Proofs.YtiioegopckoldaaGreatDoor
open Go.RowKit Go.Shelf
attribute [local go_sem] ite_min ite_max
structure Aft (w W:World) (cs:List Value) (ts:List Int):Prop where
 so:At W w.heap.size cs
 sl:At W (w.heap.size+1+1+1+1) [.slice (some ⟨w.heap.size+1+1+1,0,none⟩) 3 3]
 rd:Rd W W.heap.size icell (some ⟨w.heap.size+1+1+1,0,none⟩) ts
 rc:At W (w.heap.size+1+1) [.int .i64 0,.int .i64 0]
 fz:∀j:Nat,W.frozen? ⟨w.heap.size+1+1,j,none⟩=false
 bl:Below w.heap.size w W
theorem Aft.keep {w W W':World} {cs:List Value} {ts:List Int} (h:Aft w W cs ts) (hb:Below W.heap.size W W'):Aft w W' cs ts:=
 ⟨h.so.below hb,h.sl.below hb,(h.rd.below hb).more hb.size,h.rc.below hb,fun j=>(hb.frozen (p:=⟨_,j,none⟩) h.rc.1).trans (h.fz j),h.bl.trans (hb.mono h.bl.size)⟩
end Go.Proofs.YtiioegopckoldaaGreatDoor
namespace Go.Proofs.YtiioegopckoldaaGreatDoor
open Go.RowKit Go.Shelf
attribute [local go_sem] Oper.semAt_some
def So.set (s:So) (a:Sp):So:={s with salt:=a }
theorem So.fit.set {s:So} {B B':Int} {a:Sp} (hf:s.fit B) (h0:0≤a.lo∧a.lo≤B') (h1:0≤a.hi∧a.hi≤B'):(s.set a).fit B':=⟨h0,h1,hf.cr,hf.m0,hf.m1,hf.w0,hf.w1,hf.r0,hf.r1⟩
end Go.Proofs.YtiioegopckoldaaGreatDoor
namespace Go.Proofs.YtiioegopckoldaaGreatDoor
open Go.RowKit Go.Shelf
attribute [local go_sem] Oper.semAt_some
structure AfInv (w:World) (L cb base:Nat) (n:Int) (xs:List Sp) (W:World):Prop where
 own:∃v,Own W base 24 2 Sp.cells v xs∧W.cell? ⟨L,0,none⟩=some v∧W.frozen? ⟨L,0,none⟩=false
 lt:L < W.heap.size
 cnt:At W cb [.int .i64 n]
 bl:Below w.heap.size w W
 big:base≤W.heap.size
theorem AfInv.kept {w W W':World} {L cb base:Nat} {n:Int} {xs:List Sp} {R:Nat→Prop} (h:AfInv w L cb base n xs W) (hk:Kept R W W') (h1:∀b,base≤b→R b) (h2:R L) (h3:R cb) (h4:∀b,b < w.heap.size→R b):AfInv w L cb base n xs W':=by
 obtain⟨v,ho,hc,hf⟩:=h.own
 exact⟨⟨v,ho.keptR hk h1,(hk.cell (p:=⟨L,0,none⟩) h2 h.lt).trans hc,(hk.frozen (p:=⟨L,0,none⟩) h2 h.lt).trans hf⟩,Nat.lt_of_lt_of_le h.lt hk.size,h.cnt.kept hk h3,h.bl.trans (hk.below h4 h.bl.size),Nat.le_trans h.big hk.size⟩
theorem AfInv.step {w W wv:World} {L cb base:Nat} {n:Int} {xs:List Sp} {x:Sp} {vv:Value} (h:AfInv w L cb base n xs W) (ho:Own wv base 24 2 Sp.cells vv (xs ++ [x])) (hk:Kept (fun b=>b < base) W wv)
 (hL:L < base) (hcb:cb < base) (hne:cb≠L) (hw:w.heap.size≤L):AfInv w L cb base n (xs ++ [x]) (wv.setCell ⟨L,0,none⟩ vv)∧Kept (fun b=>b < base∧¬b=L) W (wv.setCell ⟨L,0,none⟩ vv):=by
 obtain⟨v,_,hc,hf⟩:=h.own
 have hk2:Kept (fun b=>b < base∧¬b=L) W (wv.setCell ⟨L,0,none⟩ vv):=(hk.mono fun b _ hb=>hb.1).trans ((Kept.setCell wv ⟨L,0,none⟩ vv).mono fun b _ hb=>hb.2)
 have hc1:wv.cell? ⟨L,0,none⟩=some v:=(hk.cell (p:=⟨L,0,none⟩) hL h.lt).trans hc
 have hf1:wv.frozen? ⟨L,0,none⟩=false:=(hk.frozen (p:=⟨L,0,none⟩) hL h.lt).trans hf
 refine⟨⟨⟨vv,ho.setCell ?_ _,World.cell?_setCell_same' _ _ _ (by rw[hc1];rfl),by rw[World.frozen?_setCell];exact hf1⟩,Nat.lt_of_lt_of_le h.lt hk2.size,h.cnt.kept hk2 ⟨hcb,hne⟩,h.bl.trans (hk2.below (fun b hb=>⟨by omega,by omega⟩) h.bl.size),Nat.le_trans h.big hk2.size⟩,hk2⟩
 intro e
 rcases ho.block_ with hb | ⟨g,hb,hb2,_⟩
 ·rw[hb] at e;cases e
 ·rw[hb] at e
  injection e with e
  simp only at e
  omega
end Go.Proofs.YtiioegopckoldaaGreatDoor
namespace Go.Proofs.YtiioegopckoldaaGreatDoor
open Go.RowKit Go.Shelf
attribute [local go_sem] ite_min ite_max
end Go.Proofs.YtiioegopckoldaaGreatDoor
namespace Go.Proofs.YtiioegopckoldaaGreatDoor
open Go.RowKit Go.Shelf
end Go.Proofs.YtiioegopckoldaaGreatDoor
namespace Go.Proofs.YtiioegopckoldaaGreatDoor
open Go.RowKit Go.Shelf
set_option maxHeartbeats 1000000 in
theorem least_fn (f:FuncId) (cp:Array Value) (so:Int→Bool) (lo hi:Int) (w:World) (eg:∀args w,(callFunc f args).run Tryz.prog w= .ok (.enter f args) w) (hlo:0≤lo) (hle:lo≤hi+1) (hhi:hi≤1000000000000)
 (hf:∀x w',lo≤x→x≤hi→Below w.heap.size w w'→Calls Tryz.prog f (#[.int .i64 x] ++ cp) w' fun e w''=>e= .returned (.bool (so x))∧Below w'.heap.size w' w'')
 (hmono:∀x y,lo≤x→x≤y→y≤hi→so x=true→so y=true) :
 Calls Tryz.prog 46 #[.int .i64 lo,.int .i64 hi,.func (.func f) #[] cp] w fun e w'=>∃r:Int,e= .returned (.int .i64 r)∧lo≤r∧r≤hi+1∧(∀x,lo≤x→x < r→so x=false)∧(r≤hi→so r=true)∧Below w.heap.size w w':=by
 have Hf:=hide hf;have Hm:=hide hmono;clear hf hmono
 go_enter Tryz.func46,Tryz.ntmps46
 go_wp2_with fail
 go_loopw [0,1] (fun a b wr=>∃l h:Int,a= .int .i64 l∧b= .int .i64 h∧lo≤l∧l≤h∧h≤hi+1∧Hid (∀x,lo≤x→x < l→so x=false)∧Hid (h≤hi→so h=true)∧Below w.heap.size w wr) (fun a b _=>(intOf b-intOf a).toNat)
 case atStart=>exact⟨lo,hi+1,rfl,by go_num,by omega,by omega,by omega,hide (fun x h1 h2=>by omega),hide (fun h=>by omega),Below.refl _ _⟩
 case round=>
  obtain⟨l,h,rfl,rfl,h1,h2,h3,ha,hb,hB⟩:=hrel
  by_cases hlt:l < h
  ·obtain⟨m,hm⟩:∃m,m=l+(h-l) / 2:=⟨_,rfl⟩
   have hm1:l≤m∧m < h:=by omega
   have hm2:lo≤l+(h-l) / 2∧l+(h-l) / 2≤hi:=by omega
   have H:=hide (Hf.out (l+(h-l) / 2) wr hm2.1 hm2.2 hB)
   cases hs:so (l+(h-l) / 2)
   all_goals
    have Hs:=hide hs
    rw[hs] at H
    clear hs
    go_wp2_with (go_at_fn f;refine H.out.mono ?_;rintro e w' ⟨rfl,hb'⟩)
   ·refine⟨⟨_,h,rfl,rfl,by go_num,by go_num,h3,hide (fun x h4 h5=>?_),hb,hB.trans (hb'.mono hB.size)⟩,by simp[intOf];omega⟩
    rcases Bool.eq_false_or_eq_true (so x) with e | e
    ·have:=Hm.out x (l+(h-l) / 2) h4 (by omega) hm2.2 e
     rw[Hs.out] at this
     cases this
    ·exact e
   ·exact⟨⟨l,_,rfl,rfl,h1,by omega,by omega,ha,hide (fun _=>Hs.out),hB.trans (hb'.mono hB.size)⟩,by simp[intOf];omega⟩
  ·obtain rfl:l=h:=by omega
   go_wp2
   go_ret
   exact⟨l,rfl,h1,h3,ha.out,hb.out,hB⟩
end Go.Proofs.YtiioegopckoldaaGreatDoor
namespace Go.Proofs.YtiioegopckoldaaGreatDoor
open Go.RowKit Go.Shelf
end Go.Proofs.YtiioegopckoldaaGreatDoor
