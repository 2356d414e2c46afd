/- lemmas for topRented_holds: C7 SH1 PC2 App2 PC4 PD1. No conditions. -/
import Derived.Test.YtiioegopckoldaaGreatDoorK03
import Derived.Test.YtiioegopckoldaaGreatDoorK02
import Derived.Test.YtiioegopckoldaaGreatDoorK05
import Derived.Deep.RegionHeld3
import Derived.Deep.DrawnRows
import Derived.Deep.QuietTactic
import Derived.BigQuiet
import Derived.Test.YtiioegopckoldaaGreatDoorK27
import Derived.Test.YtiioegopckoldaaGreatDoorK20
import Derived.Test.YtiioegopckoldaaGreatDoorK19
import Derived.Deep.Cut
import Derived.Test.YtiioegopckoldaaGreatDoorK21
import Derived.Test.YtiioegopckoldaaGreatDoorK23
set_option linter.unusedVariables false
set_option linter.unusedSimpArgs false
namespace Go.Proofs.YtiioegopckoldaaGreatDoor
open Go.RowKit Go.Shelf
attribute [local go_sem ↓] Go.wp_at_zero Go.wp_at_succ
theorem At.drew {w:World} {p:Nat} {cs:List Value} (h:At w p cs):At w.drew p cs:=h
theorem At.drewN {w:World} {p:Nat} {cs:List Value} (h:At w p cs) (n:Nat):At (w.drewN n) p cs:=h
end Go.Proofs.YtiioegopckoldaaGreatDoor
namespace Go.Proofs.YtiioegopckoldaaGreatDoor
open Go.RowKit Go.Shelf
attribute [local go_sem] Oper.semAt_some
structure MapBox (w:World) (L b n:Nat) (f:Int→Option Bool) (W:World):Prop where
 box:At W L [.map (some b)]
 mp:∃s,Mp Tryz.prog 3 4 ldB W b n f s
 bl:Below w.heap.size w W
theorem MapBox.kept {w W W':World} {L b n:Nat} {f:Int→Option Bool} {R:Nat→Prop} (h:MapBox w L b n f W) (hk:Kept R W W') (h1:R L) (h2:R b) (h4:∀b,b < w.heap.size→R b):MapBox w L b n f W':=
 let⟨s,hs⟩:=h.mp
 ⟨h.box.kept hk h1,⟨s,hs.keptR hk h2⟩,h.bl.trans (hk.below h4 h.bl.size)⟩
theorem MapBox.put {w W W':World} {L b n n' s:Nat} {f f' g:Int→Option Bool} (h:MapBox w L b n f W) (hmp:Mp Tryz.prog 3 4 ldB W' b n' g s) (hg:W.grownBy W' (some b)) (hne:¬L=b) (hw:w.heap.size≤b) (hf:∀k,f' k=g k) :
 MapBox w L b n' f' W'∧Kept (fun x=>¬x=b) W W':=by
 have hk:Kept (fun x=>¬x=b) W W':=(Kept.grown hg).mono fun x _ hx=>by simpa using hx
 exact⟨⟨h.box.kept hk hne,⟨s,hmp.congr hf⟩,h.bl.trans (hk.below (fun x hx=>by omega) h.bl.size)⟩,hk⟩
end Go.Proofs.YtiioegopckoldaaGreatDoor
namespace Go.Proofs.YtiioegopckoldaaGreatDoor
open Go.RowKit Go.Shelf
attribute [local go_sem ↓] Go.wp_at_zero Go.wp_at_succ
theorem eqL_stop {α:Type} [DecidableEq α] {xs ys:List α} {k:Nat} {x y:α} (hx:xs[k]?=some x) (hy:ys[k]?=some y) (h:x≠y):xs≠ys:=by
 rintro rfl
 rw[hx] at hy
 exact h (Option.some.inj hy)
theorem eqL_snoc {α:Type} {xs ys:List α} {k:Nat} {x y:α} (hx:xs[k]?=some x) (hy:ys[k]?=some y) (h:x=y) (hp:xs.take k=ys.take k):xs.take (k+1)=ys.take (k+1):=by
 rw[take_snoc hx,take_snoc hy,h,hp]
end Go.Proofs.YtiioegopckoldaaGreatDoor
namespace Go.Proofs.YtiioegopckoldaaGreatDoor
open Go.RowKit Go.Shelf
set_option maxHeartbeats 2000000 in
theorem same_Sp (A B:Option Addr) (xs ys:List Sp) (n c m d:Nat) (w:World) (hn:n=xs.length) (hm:m=ys.length) (hn':n≤9223372036854775807) (hm':m≤9223372036854775807)
 (hx:Rd w w.heap.size Sp.cells A xs) (hy:Rd w w.heap.size Sp.cells B ys) :
 Calls Tryz.prog 21 #[.slice A n c,.slice B m d] w fun e w'=>e= .returned (.bool (decide (xs=ys)))∧Below w.heap.size w w':=by
 have Hn:=hide hn;have Hm:=hide hm;have Hx:=hide hx;have Hy:=hide hy
 clear hn hm hx hy
 by_cases hnm:n=m
 ·subst hnm
  go_enter Tryz.func21,Tryz.ntmps21
  go_wp2_with fail
  go_loopw [4,5] (fun v i wr=>∃k:Nat,k≤n∧i= .int .i64 k∧Below w.heap.size w wr∧Hid (xs.take k=ys.take k)) (fun _ i _=>n-(intOf i).toNat)
  case atStart=>exact⟨0,by omega,rfl,Below.refl _ _,hide (by simp)⟩
  case round=>
   obtain⟨k,hk,rfl,hb,hpre⟩:=hrel
   by_cases hlt:k < n
   ·obtain⟨b,off,lox,hix,rfl,hB,hxk,hcx0,hcx1⟩:=(Hx.out.below hb).sp (i:=k) (by have:=Hn.out;omega)
    have Hxk:=hide hxk;clear hxk
    obtain⟨b',off',loy,hiy,rfl,hB',hyk,hcy0,hcy1⟩:=(Hy.out.below hb).sp (i:=k) (by have:=Hm.out;omega)
    have Hyk:=hide hyk;clear hyk
    by_cases e0:lox=loy
    ·subst e0
     by_cases e1:hix=hiy
     ·subst e1
      go_wp2_with fail
      go_quiet (fail)
      go_wp2_with fail
      exact⟨⟨k+1,by omega,by go_num,below_drewN hb _,hide (eqL_snoc Hxk.out Hyk.out rfl hpre.out)⟩,by simp[intOf];omega⟩
     ·have h1:(hix == hiy)=false:=by simpa using e1
      have h2:(hix != hiy)=true:=by simpa using e1
      have H0:=hide e1;clear e1
      go_wp2_with fail
      go_quiet (fail)
      go_wp2_with fail
      go_ret
      exact⟨ret_bool (by have:=eqL_stop Hxk.out Hyk.out (by have:=H0.out;simp[this]);simp[this]),below_drewN hb _⟩
    ·have h1:(lox == loy)=false:=by simpa using e0
     have h2:(lox != loy)=true:=by simpa using e0
     have H0:=hide e0;clear e0
     go_wp2_with fail
     go_quiet (fail)
     go_wp2_with fail
     go_ret
     exact⟨ret_bool (by have:=eqL_stop Hxk.out Hyk.out (by have:=H0.out;simp[this]);simp[this]),below_drewN hb _⟩
   ·go_wp2_with fail
    go_ret
    refine⟨ret_bool ?_,hb⟩
    have h1:=hpre.out
    rw[List.take_of_length_le (by have:=Hn.out;omega),List.take_of_length_le (by have:=Hm.out;omega)] at h1
    simp[h1]
 ·have h1:((n:Int) == (m:Int))=false:=by simp;omega
  have h2:((n:Int) != (m:Int))=true:=by simp;omega
  have Hnm:=hide hnm;clear hnm
  go_enter Tryz.func21,Tryz.ntmps21
  go_wp2_with fail
  go_ret
  refine⟨ret_bool ?_,Below.refl _ _⟩
  have h3:xs≠ys:=by
   rintro rfl
   exact Hnm.out (Hn.out.trans Hm.out.symm)
  simp[h3]
end Go.Proofs.YtiioegopckoldaaGreatDoor
namespace Go.Proofs.YtiioegopckoldaaGreatDoor
open Go.RowKit Go.Shelf
def greatF (ns:List Int) (rs:List Rr):Bool:=decide (12 < ns.length) || (decide (12 < rs.length) || rs.any fun r=>decide (16 < r.n))
structure RsAt0 (w:World) (A:Option Addr) (n:Nat) (rs:List Rr):Prop where
 rd:Rd w w.heap.size Rr.cells A rs
 en:n=rs.length
 row:∀r∈rs,r.n=r.fs.length∧r.n≤9223372036854775807∧Rd w w.heap.size icell r.A r.fs
theorem RsAt0.bel {w w':World} {A:Option Addr} {n:Nat} {rs:List Rr} (h:RsAt0 w A n rs) (hb:Below w.heap.size w w'):RsAt0 w' A n rs:=⟨h.rd.bel hb,h.en,fun r hr=>⟨(h.row r hr).1,(h.row r hr).2.1,(h.row r hr).2.2.bel hb⟩⟩
theorem RsAt0.small {w:World} {A:Option Addr} {n:Nat} {rs:List Rr} {ns:List Int} (h:RsAt0 w A n rs) (hg:greatF ns rs=false):RsAt w A n rs∧n≤12∧ns.length≤12∧∀r∈rs,r.n≤16:=by
 simp only[greatF,Bool.or_eq_false_iff,decide_eq_false_iff_not,List.any_eq_false,decide_eq_true_eq] at hg
 have h16:∀r∈rs,r.n≤16:=fun r hr=>by have:=hg.2.2 r hr;omega
 exact⟨⟨h.rd,h.en,fun r hr=>⟨(h.row r hr).1,by have:=h16 r hr;omega,(h.row r hr).2.2⟩⟩,by rw[h.en];omega,by omega,h16⟩
set_option maxHeartbeats 4000000 in
set_option maxRecDepth 100000 in
theorem ropen_any (A2:Option Addr) (r c2:Nat) (rs:List Rr) (m:Nat) (w:World) (hm8:m≤8) (hR:RsAt w A2 r rs) (hr8:r≤8) (hok:rentTo m rs rs.length=true) :
 Calls Tryz.prog 52 #[.slice A2 r c2] w fun e w'=>∃v,e= .returned v∧Own w' w.heap.size 3 1 icell v ((rs.map fun q=>bitsF q.fs).map Int.ofNat)∧Below w.heap.size w w':=by
 have Her:=hide hR.en;have HR:=hide hR;have Hok:=hide hok
 clear hR hok
 go_enter Tryz.func52,Tryz.ntmps52
 go_wp2_with fail
 go_loopw [3,4] (fun v i wr=>∃(k:Nat) (pv:Value),pv=v∧k≤r∧i= .int .i64 k∧Hid (Own wr w.heap.size 3 1 icell pv (((rs.take k).map fun q=>bitsF q.fs).map Int.ofNat))∧Below w.heap.size w wr) (fun _ i _=>r-(intOf i).toNat)
 case atStart=>exact⟨0,_,rfl,by omega,rfl,hide (Own.nil _ _ _ _ _),Below.refl _ _⟩
 case round=>
  obtain⟨k,pv,rfl,hk,rfl,HO,hb⟩:=hrel
  by_cases hlt:k < r
  ·obtain⟨b7,off,q,hA,hql,hqx,c0,c1',c2'⟩:=(HR.out.bel hb).rd.rr (i:=k) (by rw[←Her.out];exact hlt)
   have Hrow:=hide (HR.out.row q (List.mem_of_getElem? hqx))
   have Hfld:Hid (fldOk m q.fs=true):=hide (by
    have h:=rentTo_le (j:=k+1) Hok.out (by have:=Her.out;omega)
    have hfs:fsAt rs k=q.fs:=by unfold fsAt;rw[hqx];rfl
    rw[rentTo,hfs,Bool.and_eq_true,Bool.and_eq_true,Bool.and_eq_true] at h
    exact h.2.2.2)
   have ik:(k:Int) < (r:Int):=by omega
   have hqn:=Hrow.out.2.1
   obtain⟨n,hn⟩:∃n,n=q.n:=⟨_,rfl⟩
   rw[←hn] at hqn c2'
   have Hn:=hide (show n=q.fs.length by rw[hn];exact Hrow.out.1)
   have Hqx:=hide hqx
   have Hc2:=hide c2'
   rw[hA]
   clear hn hA hqx c0 c1' c2' hlt
   obtain⟨wo,rfl⟩:∃wo,wo=wr:=⟨wr,rfl⟩
   go_wp2_with fail
   go_loopw [5,6] (fun v i wr=>∃j:Nat,j≤n∧v= .int .i64 ((bitsTo q.fs j:Nat):Int)∧i= .int .i64 j∧Below wo.heap.size wo wr) (fun _ i _=>n-(intOf i).toNat)
   case atStart=>exact⟨0,by omega,rfl,rfl,Below.refl _ _⟩
   case round=>
    obtain⟨j,hj,rfl,rfl,hb2⟩:=hrel
    have y2:=(hb2.cell (p:=⟨b7,off+k*3+2,none⟩) hql).trans Hc2.out
    have hbits:=bitsTo_lt hm8 (fldTo_le (j:=j) Hfld.out (by have:=Hn.out;omega))
    by_cases hjn:j < n
    ·obtain⟨bf,of,f,hAf,hlf,hxf,cf⟩:=((Hrow.out.2.2.bel hb).bel hb2).int (i:=j) (by rw[←Hn.out];exact hjn)
     have hfa:fAt q.fs j=f:=by unfold fAt;rw[List.getD_eq_getElem?_getD,hxf];rfl
     have hfb:0≤f∧f < 8:=by
      have h:=fldTo_le (j:=j+1) Hfld.out (by have:=Hn.out;omega)
      rw[fldTo,Bool.and_eq_true,Bool.and_eq_true] at h
      have h2:=h.2.1
      rw[hfa] at h2
      simp[inB] at h2;omega
     obtain⟨fn,rfl⟩:∃fn:Nat,f=fn:=⟨f.toNat,by omega⟩
     have hos:=or_step hbits (show fn < 8 by omega)
     have Hnext:Hid (bitsTo q.fs (j+1)=bitsTo q.fs j ||| 2 ^ fn):=hide (by rw[bitsTo,hfa];rfl)
     obtain⟨z,hz⟩:∃z,z=bitsTo q.fs j:=⟨_,rfl⟩
     rw[←hz] at hbits hos Hnext ⊢
     have ij:(j:Int) < (n:Int):=by omega
     have f0:¬(fn:Int) < 0:=by omega
     rw[hAf] at y2
     clear hfa hz hAf hxf
     go_wp2_with fail
     exact⟨⟨j+1,by omega,by first | (rw[Hnext.out];done) | rw[Hnext.out,hos],by go_num,hb2⟩,by simp[intOf];omega⟩
    ·obtain rfl:n=j:=by omega
     have hlen:(((rs.take k).map fun q=>bitsF q.fs).map Int.ofNat).length+1≤1000000:=by rw[List.length_map,List.length_map,List.length_take];omega
     have HB2:=hide hb2
     go_wp2_with (at_builtin;refine wpList_app1 (v:=pv) (xs:=((rs.take k).map fun q=>bitsF q.fs).map Int.ofNat) (base:=w.heap.size) (k:=1) (bytes:=8) (E:=3) el_int rfl (.tmp 34) (.tmp 36) rfl rfl rfl (HO.out.bel HB2.out) ((bitsTo q.fs n:Nat):Int) rfl hlen (Nat.le_trans hb.size HB2.out.size) ?_;intro vq w10 o10 k10;have O10:=hide o10;have K10:=hide k10;clear o10 k10)
     refine⟨⟨k+1,_,rfl,by omega,by go_num,hide ?_,((hb.trans (HB2.out.mono hb.size)).trans (K10.out.below (fun b hb=>hb) (Nat.le_trans hb.size HB2.out.size)))⟩,by simp[intOf];omega⟩
     rw[take_snoc Hqx.out,List.map_append,List.map_append]
     have e:bitsF q.fs=bitsTo q.fs n:=by unfold bitsF;rw[←Hn.out]
     show Own _ _ _ _ _ _ (_ ++ [((bitsF q.fs:Nat):Int)])
     rw[e]
     exact O10.out
  ·have hkr:rs.length≤k:=by have:=Her.out;omega
   go_wp2_with fail
   go_ret
   have h:=HO.out
   rw[List.take_of_length_le hkr] at h
   exact⟨_,rfl,h,hb⟩
end Go.Proofs.YtiioegopckoldaaGreatDoor
namespace Go.Proofs.YtiioegopckoldaaGreatDoor
open Go.RowKit Go.Shelf
section
variable {α:Type} {cells:α→List Value} {P:Program} {T E:TypeId} {k bytes:Nat} {w:World} {base g:Nat} {B:Nat} {A:Option Addr} {n c:Nat} {ys:List α}
theorem ElLaw.fresh (L:ElLaw P T E k bytes cells) (hown:Own w base E k cells (.slice (some ⟨g,0,none⟩) 0 0) []) (hr:Rd w B cells A ys) (hn:ys.length=n) (hlen:n≤1000000) (hbase:base≤w.heap.size) (ty:TypeId) :
 ∃v' w',(Builtin.append_ #[T,T] ty #[.slice (some ⟨g,0,none⟩) 0 0,.slice A n c]).run P w= .ok v' w'∧Own w' base E k cells v' ys∧Below w.heap.size w w'∧(v'.ownBlock=some g∨v'.ownBlock=some w.heap.size):=by
 obtain⟨v',w',hrun,ho,hg,hat⟩:=L.append (c:=c) hown hr hn (by simpa using hlen) hbase ty
 rw[List.nil_append] at ho
 refine⟨v',w',hrun,ho,?_,hat⟩
 subst hn
 obtain⟨i,z,hi,hz,hsize,hby,hzs⟩:=L.info
 by_cases h0:ys.length=0
 ·
  have hrun2:(Builtin.append_ #[T,T] ty #[.slice (some ⟨g,0,none⟩) 0 0,.slice A ys.length c]).run P w= .ok (.slice (some ⟨g,0,none⟩) 0 0) w:=by
   rw[h0]
   cases A <;> simp[Builtin.append_,run_underlying L.ty,sizeOf,typeInfo,hi,Builtin.lenOf,Builtin.firstCells,loadCells,loadCellsFrom,storeCells]
  rw[hrun2] at hrun
  injection hrun with _ hw
  subst hw
  exact Below.refl _ _
 ·obtain⟨b,off,rfl,_,hc⟩:=hr (by omega)
  have hcells:∀j u,(ys.flatMap cells)[j]?=some u→w.cell? ((⟨b,off,none⟩:Addr).add j)=some u:=by
   intro j u hu
   have hadd:(⟨b,off,none⟩:Addr).add j=⟨b,off+j,none⟩:=by unfold Addr.add;split <;> simp_all
   rw[hadd]
   exact hc j u hu
  have hb1:(0+ys.length)*bytes≤140737488355328:=by
   have:(0+ys.length)*bytes≤1000000*1000:=Nat.mul_le_mul (by omega) L.small
   omega
  have hrun2:=run_append_grow (P:=P) w T ty E i z L.ty hi hz ⟨g,0,none⟩ 0 0 [] (by simp) (by intro j u hu;simp at hu) ⟨b,off,none⟩ ys.length c (ys.flatMap cells) (by rw[hsize];exact flat_len L.len ys) hcells (by omega) (by omega) (growslice_fits (by omega) (by rw[hby];exact hb1))
  rw[hrun2] at hrun
  injection hrun with _ hw
  rw[←hw]
  exact Below.alloc (a:=w) (w:=w.drew) ⟨rfl,rfl,rfl,Nat.le_refl _,fun _ _=>rfl⟩ (Nat.le_refl _) _
end
end Go.Proofs.YtiioegopckoldaaGreatDoor
namespace Go.Proofs.YtiioegopckoldaaGreatDoor
open Go.RowKit Go.Shelf
attribute [local go_sem] ite_max
def bcell (b:Bool):List Value:=[.bool b]
theorem bcell_len (b:Bool):(bcell b).length=1:=rfl
theorem Rd.bool {w:World} {B:Nat} {A:Option Addr} {xs:List Bool} (h:Rd w B bcell A xs) {i:Nat} (hi:i < xs.length) :
 ∃b off x,A=some ⟨b,off,none⟩∧b < B∧xs[i]?=some x∧w.cell? ⟨b,off+i,none⟩=some (.bool x):=by
 obtain⟨b,off,e,hB,hc⟩:=h (by omega)
 have hx:xs[i]?=some xs[i]:=List.getElem?_eq_getElem hi
 have h0:=hc _ _ (flat_get bcell_len hx (j:=0) (by omega))
 rw[Nat.mul_one,Nat.add_zero] at h0
 exact⟨b,off,_,e,hB,hx,h0⟩
structure Trt (pr:List Int) (r:Nat) (o:List Nat) (us:List Bool):Prop where
 ul:us.length=r
 u:∀i,i < r→(us.getD i false=true↔i∈o)
 nd:o.Nodup
 lt:∀i∈o,i < r
 pw:o.Pairwise (fun i j=>pr.getD j 0≤pr.getD i 0)
 rest:∀i∈o,∀j,j < r→j∉o→pr.getD j 0≤pr.getD i 0
theorem getD_setB {xs:List Bool} {i j:Nat} {v:Bool} (hi:i < xs.length):(xs.set i v).getD j false=if j=i then v else xs.getD j false:=by
 rw[List.getD_eq_getElem?_getD]
 by_cases h:j=i
 ·rw[if_pos h,h,List.getElem?_set_self hi];rfl
 ·rw[if_neg h,List.getElem?_set_ne (fun e=>h e.symm),List.getD_eq_getElem?_getD]
theorem Trt.snoc {pr:List Int} {r a:Nat} {o:List Nat} {us:List Bool} (h:Trt pr r o us) (ha:a < r) (hn:a∉o) (hm:∀j,j < r→j∉o→pr.getD j 0≤pr.getD a 0):Trt pr r (o ++ [a]) (us.set a true):=by
 refine⟨by rw[List.length_set];exact h.ul,fun i hi=>?_,?_,fun i hi=>?_,?_,fun i hi j hj hnj=>?_⟩
 ·rw[getD_setB (by rw[h.ul];exact ha),List.mem_append,List.mem_singleton]
  by_cases e:i=a
  ·rw[if_pos e];simp[e]
  ·rw[if_neg e,h.u i hi];simp[e]
 ·exact List.nodup_append.2 ⟨h.nd,by simp,fun x hx y hy=>by rw[List.mem_singleton] at hy;rw[hy];exact fun e=>hn (e ▸ hx)⟩
 ·rw[List.mem_append,List.mem_singleton] at hi
  rcases hi with hi | rfl
  ·exact h.lt i hi
  ·exact ha
 ·rw[List.pairwise_append]
  exact⟨h.pw,by simp,fun x hx y hy=>by rw[List.mem_singleton] at hy;rw[hy];exact h.rest x hx a ha hn⟩
 ·rw[List.mem_append,List.mem_singleton] at hi hnj
  rw[not_or] at hnj
  rcases hi with hi | rfl
  ·exact h.rest i hi j hj hnj.1
  ·exact hm j hj hnj.1
def AtIs (pr:List Int) (o:List Nat) (k:Nat) (a:Int):Prop:=
 (a= -1∧∀j,j < k→j∈o)∨∃m:Nat,a=m∧m < k∧m∉o∧∀j,j < k→j∉o→pr.getD j 0≤pr.getD m 0
theorem Own.put1 {w:World} {base:Nat} {e:TypeId} {g n cap:Nat} {xs:List Int} (h:Own w base e 1 icell (.slice (some ⟨g,0,none⟩) n cap) xs) {i:Nat} (hi:i < xs.length) (hn:n=xs.length) (y:Int) :
 Own (w.setCell ⟨g,i,none⟩ (.int .i64 y)) base e 1 icell (.slice (some ⟨g,0,none⟩) n cap) (xs.set i y)∧w.cell? ⟨g,i,none⟩=some (.int .i64 (xs.getD i 0))∧w.frozen? ⟨g,i,none⟩=false:=by
 have hx:xs[i]?=some xs[i]:=List.getElem?_eq_getElem hi
 obtain⟨h1,_,h3⟩:=h.put_ icell_len hx (j:=0) (x':=y) (u:= .int .i64 y) (by omega) rfl hn
 rw[Nat.mul_one,Nat.add_zero] at h1 h3
 refine⟨h1,?_,h3⟩
 subst hn
 have h4:=World.ownsRow.cellAt h i (by rw[Nat.mul_one];exact hi)
 rw[h4]
 have h5:=flat_get icell_len hx (j:=0) (by omega)
 rw[Nat.mul_one,Nat.add_zero] at h5
 rw[h5,List.getD_eq_getElem?_getD,hx];rfl
theorem AtIs.used {pr:List Int} {o:List Nat} {k:Nat} {a:Int} (h:AtIs pr o k a) (hk:k∈o):AtIs pr o (k+1) a:=by
 rcases h with⟨h1,h2⟩ | ⟨m,h1,h2,h3,h4⟩
 ·exact .inl ⟨h1,fun j hj=>by
   by_cases e:j=k
   ·rw[e];exact hk
   ·exact h2 j (by omega)⟩
 ·exact .inr ⟨m,h1,by omega,h3,fun j hj hn=>by
   by_cases e:j=k
   ·rw[e] at hn;exact absurd hk hn
   ·exact h4 j (by omega) hn⟩
theorem AtIs.first {pr:List Int} {o:List Nat} {k:Nat} {a:Int} (h:AtIs pr o k a) (hk:k∉o) (ha:a < 0):AtIs pr o (k+1) (k:Int):=by
 rcases h with⟨h1,h2⟩ | ⟨m,h1,h2,h3,h4⟩
 ·exact .inr ⟨k,rfl,by omega,hk,fun j hj hn=>by
   by_cases e:j=k
   ·rw[e];exact Int.le_refl _
   ·exact absurd (h2 j (by omega)) hn⟩
 ·omega
theorem Rd.nat' {w:World} {B b o:Nat} {xs:List Nat} (h:Rd w B icell (some ⟨b,o,none⟩) (xs.map Int.ofNat)) {i:Nat} (hi:i < xs.length):∃x,xs[i]?=some x∧b < B∧w.cell? ⟨b,o+i,none⟩=some (.int .i64 (x:Int)):=by
 obtain⟨b7,off,y,hA,hql,hyk,c0⟩:=h.int (i:=i) (by rw[List.length_map];exact hi)
 injection hA with hA
 injection hA with hA1 hA2 _
 subst hA1 hA2
 rw[List.getElem?_map] at hyk
 cases hh:xs[i]? with
 | none=>rw[hh] at hyk;cases hyk
 | some s=>rw[hh] at hyk;cases hyk;exact⟨s,rfl,hql,c0⟩
end Go.Proofs.YtiioegopckoldaaGreatDoor
namespace Go.Proofs.YtiioegopckoldaaGreatDoor
open Go.RowKit Go.Shelf
theorem Rd.nth {w:World} {B b o:Nat} {xs:List Int} (h:Rd w B icell (some ⟨b,o,none⟩) xs) {i:Nat} (hi:i < xs.length):∃x,xs[i]?=some x∧b < B∧w.cell? ⟨b,o+i,none⟩=some (.int .i64 x):=by
 obtain⟨b7,off,y,hA,hql,hyk,c0⟩:=h.int (i:=i) hi
 injection hA with hA
 injection hA with hA1 hA2 _
 subst hA1 hA2
 exact⟨y,hyk,hql,c0⟩
def RowTo (rs:List Rr) (p:List (List Int)) (i k:Nat):Prop:=∀j,j < k→0≤cellAt p i j∧cellAt p i j≤miAt rs i-usedTo p i j∧(0 < cellAt p i j→(bitsF (fsAt rs i)).testBit j=true)
theorem RowTo.used {rs:List Rr} {p:List (List Int)} {i k:Nat} (h:RowTo rs p i k):0≤usedTo p i k∧(0 < k→usedTo p i k≤miAt rs i):=by
 refine⟨sumTo_nonneg fun j hj=>(h j hj).1,fun hk=>?_⟩
 obtain⟨q,rfl⟩:∃q,k=q+1:=⟨k-1,by omega⟩
 have:=(h q (by omega)).2.1
 show usedTo p i q+cellAt p i q≤_
 omega
theorem RowTo.succ {rs:List Rr} {p:List (List Int)} {i k:Nat} (h:RowTo rs p i k) (h1:0≤cellAt p i k∧cellAt p i k≤miAt rs i-usedTo p i k∧(0 < cellAt p i k→(bitsF (fsAt rs i)).testBit k=true)):RowTo rs p i (k+1):=fun j hj=>by
 by_cases e:j=k
 ·rw[e];exact h1
 ·exact h j (by omega)
theorem RentsOk.mi {ns:List Int} {rs:List Rr} (h:RentsOk ns rs) {i:Nat} (hi:i < rs.length):0≤miAt rs i∧miAt rs i≤23040:=by
 have h1:=rentTo_le (j:=i+1) h.rt (by omega)
 have h2:=leftTo_bd (rentTo_le (j:=i) h.rt (by omega))
 rw[rentTo,Bool.and_eq_true,Bool.and_eq_true] at h1
 have h3:=h1.2.1
 simp[inB] at h3
 omega
theorem RentsOk.bits {ns:List Int} {rs:List Rr} (h:RentsOk ns rs) {i:Nat} (hi:i < rs.length):bitsF (fsAt rs i) < 256:=by
 have h1:=rentTo_le (j:=i+1) h.rt (by omega)
 rw[rentTo,Bool.and_eq_true,Bool.and_eq_true,Bool.and_eq_true] at h1
 exact bitsTo_lt h.nl h1.2.2.2
theorem RentsOk.pr_bd {ns:List Int} {rs:List Rr} (h:RentsOk ns rs) (i:Nat):0≤prAt rs i∧prAt rs i≤100000:=by
 rw[←pr_get];exact getD_mem (p:=fun x:Int=>0≤x∧x≤100000) (d:=0) h.p (by decide) i
def gotTo (p:List (List Int)) (i k:Nat):Int:=sumTo (fun j=>cellAt p j k) i
def paidTo (rs:List Rr) (p:List (List Int)) (m i:Nat):Int:=sumTo (fun j=>usedTo p j m*prAt rs j) i
theorem gotTo_bd {rs:List Rr} {p:List (List Int)} {m i k:Nat} (hk:k < m) (h:∀j,j < i→RowTo rs p j m) (hmi:∀j,j < i→0≤miAt rs j∧miAt rs j≤23040):0≤gotTo p i k∧gotTo p i k≤i*23040:=
 sumTo_bd fun j hj=>by
  have h1:=h j hj k hk
  have h2:=RowTo.used (k:=k) fun q hq=>h j hj q (by omega)
  have h3:=hmi j hj
  omega
theorem paidTo_bd {rs:List Rr} {p:List (List Int)} {m i:Nat} (h:∀j,j < i→RowTo rs p j m) (hmi:∀j,j < i→0≤miAt rs j∧miAt rs j≤23040) (hpr:∀j,0≤prAt rs j∧prAt rs j≤100000):0≤paidTo rs p m i∧paidTo rs p m i≤i*2304000000:=
 sumTo_bd fun j hj=>by
  have h2:=(h j hj).used
  have h3:=hmi j hj
  have hu:usedTo p j m≤23040:=by
   by_cases hm:0 < m
   ·have:=h2.2 hm;omega
   ·obtain rfl:m=0:=by omega
    show(0:Int)≤23040;omega
  have h4:=hpr j
  refine⟨Int.mul_nonneg h2.1 h4.1,?_⟩
  have h5:usedTo p j m*prAt rs j≤23040*prAt rs j:=Int.mul_le_mul_of_nonneg_right hu h4.1
  omega
set_option maxHeartbeats 40000000 in
set_option maxRecDepth 100000 in
theorem rplanned_any (A1 A2 A3:Option Addr) (m c1 r c2 np c3:Nat) (ns:List Int) (rs:List Rr) (ssl:List Sl) (p:List (List Int)) (w:World) (hN:Rd w w.heap.size icell A1 ns) (hm:m=ns.length) (hok:RentsOk ns rs) (hR:RsAt w A2 r rs) (hnp:np=p.length) (hP:Rd w w.heap.size Sl.cells A3 ssl) (hRw:Rows w w.heap.size icell ssl p) :
 Calls Tryz.prog 17 #[.slice A1 m c1,.slice A2 r c2,.slice A3 np c3] w fun e w'=>∃c b,e= .returned (.tuple #[.int .i64 c,.bool b])∧(b=true→Planned ns rs p∧c=planCost rs p m)∧(b=false→¬Planned ns rs p∧c=0)∧Below w.heap.size w w':=by
 have Hm:=hide hm;have Her:=hide hR.en;have HR:=hide hR;have HN:=hide hN;have Hnp:=hide hnp;have HP:=hide hP;have HRw:=hide hRw;have Hok:=hide hok
 have hm8:m≤8:=by rw[hm];exact hok.nl
 have hr8:r≤8:=by rw[hR.en];exact hok.rl
 clear hm hR hN hnp hP hRw hok
 by_cases hlen:np=r
 rotate_left
 ·have e1:((np:Int) != (r:Int))=true:=by simp;omega
  have hno:¬Planned ns rs p:=fun h=>hlen (by rw[Hnp.out,Her.out];exact h.len)
  have Hno:=hide hno
  clear hlen hno
  go_enter Tryz.func17,Tryz.ntmps17
  go_wp2_with fail
  go_ret2
  exact⟨_,_,rfl,(fun h=>by cases h),(fun _=>⟨Hno.out,rfl⟩),Below.refl _ _⟩
 subst hlen
 have e0:((np:Int) != (np:Int))=false:=by simp
 go_enter Tryz.func17,Tryz.ntmps17
 go_wp2_with fail
 refine(ropen_any A2 np c2 rs ns.length w Hok.out.nl HR.out hr8 Hok.out.rt).mono ?_
 rintro e w1 ⟨vS,rfl,oS,hb1⟩
 obtain⟨AS,cS,rfl,rS⟩:=oS.rdn np (by rw[List.length_map,List.length_map];exact Her.out.symm)
 have RS1:=hide rS
 have hB1:=hide hb1
 clear oS rS hb1
 go_wp2_with fail
 rw[make_ints m (by omega)]
 have ho1:=own_made m (by omega) w1 w1.heap.size (Nat.le_refl _)
 have hb1:=below_new w1 (.cells (madeCells #[.int .i64 0] (m*1)) 3)
 obtain⟨gG,hgG⟩:∃g,g=w1.heap.size:=⟨_,rfl⟩
 obtain⟨w2,Hw2⟩:∃w2,Hid (w1.alloc (.cells (madeCells #[.int .i64 0] (m*1)) 3)=w2):=⟨_,hide rfl⟩
 rw[Hw2.out] at ho1 hb1 ⊢
 have ho1':Own w2 gG 3 1 icell (.slice (some ⟨gG,0,none⟩) m m) (List.replicate m 0):=by rw[←hgG] at ho1;exact ho1
 have HG:=hide ho1'
 have hw1g:w1.heap.size≤gG:=by omega
 have hg2:gG < w2.heap.size:=(ho1'.blockG (g:=gG) rfl).2
 have hww1:w.heap.size≤w1.heap.size:=hB1.out.size
 have HB2:=hide (hB1.out.trans (hb1.mono hB1.out.size))
 have RS2:=hide (RS1.out.below hb1)
 rw[←hgG]
 clear ho1 ho1' hb1 hgG Hw2 RS1
 go_wp2_with fail
 go_loopw [10,11] (fun cv iv wr=>∃(i:Nat) (G:List Int),i≤np∧cv= .int .i64 (paidTo rs p m i)∧iv= .int .i64 i∧Hid (∀j,j < i→(p.getD j []).length=m∧RowTo rs p j m)∧Hid (G.length=m∧∀k,k < m→G.getD k 0=gotTo p i k)∧Hid (Own wr gG 3 1 icell (.slice (some ⟨gG,0,none⟩) m m) G)∧Kept (fun b=>b≠gG) w2 wr) (fun _ iv _=>np-(intOf iv).toNat)
 case atStart=>exact⟨0,_,by omega,rfl,rfl,hide (fun j h=>by omega),hide ⟨by simp,fun k hk=>by rw[List.getD_eq_getElem?_getD,List.getElem?_replicate,if_pos hk];rfl⟩,HG,Kept.refl _ _⟩
 case round=>
  obtain⟨i,G,hi,rfl,rfl,Hrows,HGe,HO,hK⟩:=hrel
  have hBr:=HB2.out.trans (hK.below (fun b hb=>by omega) HB2.out.size)
  by_cases hlt:i < np
  ·obtain⟨bp,op,a,n,cc,hA,hbp,hsl,hcw⟩:=HP.out.sl (i:=i) (by have:=HRw.out.len;have:=Hnp.out;omega)
   have hcell:=(hBr.cell (p:=⟨bp,op+i,none⟩) hbp).trans hcw
   obtain⟨xs,hxs⟩:∃xs,p[i]?=some xs:=⟨_,List.getElem?_eq_getElem (by have:=Hnp.out;omega)⟩
   obtain⟨hn,hrd⟩:=HRw.out.row i _ xs hsl hxs
   simp only at hn hrd
   have hpx:p.getD i []=xs:=by rw[List.getD_eq_getElem?_getD,hxs];rfl
   have Hpx:=hide hpx;have Hn:=hide hn;have Hrd:=hide hrd
   have HBr:=hide hBr
   have ii:(i:Int) < (np:Int):=by omega
   have hir:i < rs.length:=by have:=Her.out;omega
   subst hA
   clear hpx hxs hsl hn hrd hBr
   by_cases hnm:n=m
   rotate_left
   ·have e1:((n:Int) != (m:Int))=true:=by simp;omega
    have hno:¬Planned ns rs p:=fun h=>hnm (by rw[Hn.out,←Hpx.out,Hm.out];exact h.row i hir)
    have Hno:=hide hno
    clear hnm hno
    go_wp2_with fail
    go_ret2
    exact⟨_,_,rfl,(fun h=>by cases h),(fun _=>⟨Hno.out,rfl⟩),HBr.out⟩
   subst hnm
   have e1:((n:Int) != (n:Int))=false:=by simp
   obtain⟨b7,off,q,hA2,hql,hqx,c0w,c1w,_⟩:=HR.out.rd.rr (i:=i) hir
   have c0:=(HBr.out.cell (p:=⟨b7,off+i*3,none⟩) hql).trans c0w
   subst hA2
   have hmi:miAt rs i=q.mi:=by unfold miAt;rw[hqx];rfl
   have hprq:prAt rs i=q.pr:=by unfold prAt;rw[hqx];rfl
   have Hprq:=hide hprq;have Hmi:=hide hmi
   have hmib:=Hok.out.mi hir
   rw[hmi] at hmib
   have hprb:=Hok.out.pr_bd i
   rw[hprq] at hprb
   have Hcw:=hide hcw
   have Hc1:=hide c1w
   have hpb:=paidTo_bd (i:=i) (fun j hj=>(Hrows.out j hj).2) (fun j hj=>Hok.out.mi (by omega)) Hok.out.pr_bd
   obtain⟨pd,hpd⟩:∃pd,pd=paidTo rs p n i:=⟨_,rfl⟩
   rw[←hpd] at hpb
   have Hpd:=hide hpd
   have HK:=hide hK
   obtain⟨wo,rfl⟩:∃wo,wo=wr:=⟨wr,rfl⟩
   clear hqx hmi hprq hpd hK hcw c0w c1w
   go_wp2_with fail
   clear c0 hcell
   go_loopw [10,12,13] (fun cv lv kv wr=>∃(k:Nat) (G2:List Int) (z lf:Int),k≤n∧cv= .int .i64 z∧lv= .int .i64 lf∧kv= .int .i64 k∧Hid (z=pd+usedTo p i k*q.pr)∧Hid (lf=q.mi-usedTo p i k)∧(0≤lf∧lf≤23040)∧Hid (RowTo rs p i k)∧Hid (G2.length=n∧∀j,j < n→G2.getD j 0=gotTo p i j+if j < k then cellAt p i j else 0)∧Hid (Own wr gG 3 1 icell (.slice (some ⟨gG,0,none⟩) n n) G2)∧Kept (fun b=>b≠gG) wo wr) (fun _ _ kv _=>n-(intOf kv).toNat)
   case atStart=>exact⟨0,G,pd,q.mi,by omega,by rw[Hpd.out],rfl,rfl,hide (by show pd=pd+0*q.pr;rw[Int.zero_mul,Int.add_zero]),hide (by show q.mi=q.mi-0;omega),hmib,hide (fun j h=>by omega),hide ⟨HGe.out.1,fun j hj=>by rw[HGe.out.2 j hj,if_neg (by omega),Int.add_zero]⟩,HO,Kept.refl _ _⟩
   case round=>
    obtain⟨k,G2,z,lf,hk,rfl,rfl,rfl,Hz,Hlf,hlf,Hrow,HG2,HO2,hK2⟩:=hrel
    have hB2r:=HBr.out.trans (hK2.below (fun b hb=>by omega) HBr.out.size)
    by_cases hkn:k < n
    ·obtain⟨bx,ox,x,hax,_,hxk,cx⟩:=(Hrd.out.bel hB2r).int (i:=k) (by rw[←Hn.out];exact hkn)
     have hca:cellAt p i k=x:=by unfold cellAt;rw[Hpx.out,List.getD_eq_getElem?_getD,hxk];rfl
     have h2c:=(hB2r.cell (p:=⟨bp,op+i,none⟩) hbp).trans Hcw.out
     have hc1:=(hB2r.cell (p:=⟨b7,off+i*3+1,none⟩) hql).trans Hc1.out
     have rs3:=((RS2.out.keptR HK.out (fun b hb=>by omega) (by omega)).keptR hK2 (fun b hb=>by omega) (by have:=HK.out.size;omega))
     obtain⟨bs,os,hAS⟩:∃b o,AS=some ⟨b,o,none⟩:=by
      obtain⟨b,o,q,h,_⟩:=rs3.int (i:=0) (by simp;omega)
      exact⟨b,o,h⟩
     subst hAS
     obtain⟨s,hsk,_,cs⟩:=rs3.nat' (i:=i) (by simp;omega)
     have hsg:s=bitsF (fsAt rs i):=by
      rw[List.getElem?_map,List.getElem?_eq_getElem hir] at hsk
      unfold fsAt
      rw[List.getElem?_eq_getElem hir]
      exact(Option.some.inj hsk).symm
     have hs256:s < 256:=by rw[hsg];exact Hok.out.bits hir
     have ht:=shr_zero s k hs256
     subst hax
     have ik:(k:Int) < (n:Int):=by omega
     have HB2r:=hide hB2r;have HK2:=hide hK2;have Hsg:=hide hsg;have Hca:=hide hca
     have hub:=Hrow.out.used
     obtain⟨u,hu⟩:∃u,u=usedTo p i k:=⟨_,rfl⟩
     have Hu:=hide hu
     have hlf2:=Hlf.out
     have hz2:=Hz.out
     rw[←hu] at hub hlf2 hz2
     replace hlf2:=hide hlf2;replace hz2:=hide hz2
     clear hxk hca hB2r hK2 hsk hsg rs3 hu
     go_upto_region 16 with fail
     clear h2c cx
     go_wp2_with fail
     refine(aflajref06_within 0 lf x wr).mono ?_
     rintro e w3 ⟨rfl,rfl⟩
     cases hif:inB 0 lf x
     ·have hno:¬Planned ns rs p:=fun h=>by
       have h1:=h.ok i hir k (by rw[←Hm.out];exact hkn)
       rw[Hca.out,←Hu.out,Hmi.out,←hlf2.out] at h1
       simp[inB] at hif
       omega
      have Hno:=hide hno
      clear hif hno
      go_wp2_with fail
      go_ret2
      exact⟨_,_,rfl,(fun h=>by cases h),(fun _=>⟨Hno.out,rfl⟩),HB2r.out⟩
     have hxb:0≤x∧x≤lf:=by simp[inB] at hif;omega
     clear hif
     have hlf3:=hlf2.out
     have hz3:=hz2.out
     have hbd:=gotTo_bd (i:=i) hkn (fun j hj=>(Hrows.out j hj).2) (fun j hj=>Hok.out.mi (by omega))
     obtain⟨og,zg,fg⟩:=HO2.out.put1 (i:=k) (by rw[HG2.out.1];exact hkn) HG2.out.1.symm (G2.getD k 0+x)
     have hgk:=HG2.out.2 k hkn
     rw[if_neg (by omega),Int.add_zero] at hgk
     obtain⟨gk,hgk2⟩:∃gk,gk=G2.getD k 0:=⟨_,rfl⟩
     rw[←hgk2] at og zg hgk
     have hgb:0≤gk∧gk≤184320:=by omega
     obtain⟨mm0,mm1⟩:=mul_bd2 (x:=x) (p:=q.pr) hxb.1 (by omega) hprb.1 hprb.2
     obtain⟨mu0,mu1⟩:=mul_bd2 (x:=u) (p:=q.pr) hub.1 (by omega) hprb.1 hprb.2
     obtain⟨pv,hpv⟩:∃pv,pv=x*q.pr:=⟨_,rfl⟩
     obtain⟨pu,hpu⟩:∃pu,pu=u*q.pr:=⟨_,rfl⟩
     have iw1:IntKind.i64.wrap (x*q.pr)=pv:=by rw[←hpv];exact wrapI (by omega)
     rw[←hpv] at mm0 mm1
     rw[←hpu] at mu0 mu1 hz3
     have hpd8:(i:Int)*2304000000≤18432000000:=by omega
     have iw2:IntKind.i64.wrap (z+pv)=z+pv:=wrapI (by omega)
     have iw3:IntKind.i64.wrap (lf-x)=lf-x:=wrapI (by omega)
     have iw4:IntKind.i64.wrap (gk+x)=gk+x:=wrapI (by omega)
     have kst:=HK2.out.trans (Kept.setCell wr ⟨gG,k,none⟩ (.int .i64 (gk+x)))
     have hc1':(wr.setCell ⟨gG,k,none⟩ (.int .i64 (gk+x))).cell? ⟨b7,off+i*3+1,none⟩=some (.int .i64 q.pr):=((Kept.setCell wr ⟨gG,k,none⟩ (.int .i64 (gk+x))).cell (p:=⟨b7,off+i*3+1,none⟩) (by show b7≠gG;omega) (by have:=HB2r.out.size;show b7 < _;omega)).trans hc1
     have Hpv:=hide hpv;have Hpu:=hide hpu;have Hgk2:=hide hgk2;have Hgk:=hide hgk
     have Og:=hide og;have Kst:=hide kst;have Hlf2:=hide hlf3;have Hz2:=hide hz3
     clear hpv hpu hgk2 hgk og kst hlf2 hz2 hlf3 hz3 hbd hc1
     have next:0≤x∧(0 < x→s.testBit k=true)→Hid (RowTo rs p i (k+1)):=fun h=>hide (Hrow.out.succ (by
      rw[Hca.out,←Hu.out,Hmi.out,←Hsg.out]
      exact⟨h.1,by have:=Hlf2.out;omega,h.2⟩))
     have Hnext:=hide next
     clear next
     by_cases hx0:0 < x
     ·cases hsb:s.testBit k
      ·rw[hsb] at ht
       have hno:¬Planned ns rs p:=fun h=>by
        have h1:=(h.ok i hir k (by rw[←Hm.out];exact hkn)).2.2
        rw[Hca.out,←Hsg.out] at h1
        rw[h1 hx0] at hsb;cases hsb
       have Hno:=hide hno
       clear hno hsb
       go_wp2_with fail
       go_ret2
       exact⟨_,_,rfl,(fun h=>by cases h),(fun _=>⟨Hno.out,rfl⟩),HB2r.out⟩
      ·rw[hsb] at ht
       have HR1:=Hnext.out ⟨hxb.1,fun _=>hsb⟩
       clear hsb
       go_upto_region 20 with fail
       obtain⟨w4,hw4⟩:∃w4,Hid (wr.setCell ⟨gG,k,none⟩ (.int .i64 (gk+x))=w4):=⟨_,hide rfl⟩
       have og:=Og.out;have kst:=Kst.out
       rw[hw4.out] at hc1' og kst ⊢
       have Og4:=hide og;have Kst4:=hide kst
       have HG4:Hid ((G2.set k (gk+x)).length=n∧∀j,j < n→(G2.set k (gk+x)).getD j 0=gotTo p i j+if j < k+1 then cellAt p i j else 0):=hide ⟨by rw[List.length_set];exact HG2.out.1,fun j hj=>by
        rw[getD_set (by rw[HG2.out.1];exact hkn)]
        by_cases e:j=k
        ·rw[if_pos e,e,if_pos (by omega),Hca.out,Hgk.out]
        ·rw[if_neg e,HG2.out.2 j hj]
         by_cases e2:j < k
         ·rw[if_pos e2,if_pos (by omega)]
         ·rw[if_neg e2,if_neg (by omega)]⟩
       have Hz4:Hid (z+pv=pd+usedTo p i (k+1)*q.pr):=hide (by
        show z+pv=pd+(usedTo p i k+cellAt p i k)*q.pr
        rw[Hca.out,←Hu.out,Int.add_mul,←Hpu.out,←Hpv.out,Hz2.out];omega)
       have Hlf4:Hid (lf-x=q.mi-usedTo p i (k+1)):=hide (by
        show lf-x=q.mi-(usedTo p i k+cellAt p i k)
        rw[Hca.out,←Hu.out,Hlf2.out];omega)
       clear og kst zg fg hw4 iw3 iw4
       go_wp2_with fail
       exact⟨⟨k+1,_,_,_,by omega,rfl,rfl,by go_num,Hz4,Hlf4,⟨by omega,by omega⟩,HR1,HG4,Og4,Kst4.out⟩,by simp[intOf];omega⟩
     ·have HR1:=Hnext.out ⟨hxb.1,fun h=>absurd h hx0⟩
      clear ht
      go_upto_region 20 with fail
      obtain⟨w4,hw4⟩:∃w4,Hid (wr.setCell ⟨gG,k,none⟩ (.int .i64 (gk+x))=w4):=⟨_,hide rfl⟩
      have og:=Og.out;have kst:=Kst.out
      rw[hw4.out] at hc1' og kst ⊢
      have Og4:=hide og;have Kst4:=hide kst
      have HG4:Hid ((G2.set k (gk+x)).length=n∧∀j,j < n→(G2.set k (gk+x)).getD j 0=gotTo p i j+if j < k+1 then cellAt p i j else 0):=hide ⟨by rw[List.length_set];exact HG2.out.1,fun j hj=>by
       rw[getD_set (by rw[HG2.out.1];exact hkn)]
       by_cases e:j=k
       ·rw[if_pos e,e,if_pos (by omega),Hca.out,Hgk.out]
       ·rw[if_neg e,HG2.out.2 j hj]
        by_cases e2:j < k
        ·rw[if_pos e2,if_pos (by omega)]
        ·rw[if_neg e2,if_neg (by omega)]⟩
      have Hz4:Hid (z+pv=pd+usedTo p i (k+1)*q.pr):=hide (by
       show z+pv=pd+(usedTo p i k+cellAt p i k)*q.pr
       rw[Hca.out,←Hu.out,Int.add_mul,←Hpu.out,←Hpv.out,Hz2.out];omega)
      have Hlf4:Hid (lf-x=q.mi-usedTo p i (k+1)):=hide (by
       show lf-x=q.mi-(usedTo p i k+cellAt p i k)
       rw[Hca.out,←Hu.out,Hlf2.out];omega)
      clear og kst zg fg hw4 iw3 iw4
      go_wp2_with fail
      exact⟨⟨k+1,_,_,_,by omega,rfl,rfl,by go_num,Hz4,Hlf4,⟨by omega,by omega⟩,HR1,HG4,Og4,Kst4.out⟩,by simp[intOf];omega⟩
    ·obtain rfl:n=k:=by omega
     have Hrows':Hid (∀j,j < i+1→(p.getD j []).length=n∧RowTo rs p j n):=hide fun j hj=>by
      by_cases e:j=i
      ·rw[e];exact⟨by rw[Hpx.out];exact Hn.out.symm,Hrow.out⟩
      ·exact Hrows.out j (by omega)
     have HG':Hid (G2.length=n∧∀k,k < n→G2.getD k 0=gotTo p (i+1) k):=hide ⟨HG2.out.1,fun k hk=>by rw[HG2.out.2 k hk,if_pos hk];rfl⟩
     have Hpd':Hid (paidTo rs p n (i+1)=z):=hide (by
      show paidTo rs p n i+usedTo p i n*prAt rs i=z
      rw[Hz.out,←Hpd.out,Hprq.out])
     have HKK:=hide (HK.out.trans hK2)
     clear hK2 hB2r
     go_wp2_with fail
     exact⟨⟨i+1,G2,by omega,by rw[Hpd'.out],by go_num,Hrows',HG',HO2,HKK.out⟩,by simp[intOf];omega⟩
  ·obtain rfl:i=np:=by omega
   have HBr:=hide hBr
   have Hpd:Hid (paidTo rs p m i=planCost rs p m):=hide (by unfold planCost;rw[←Her.out];rfl)
   rw[Hpd.out]
   obtain⟨pc,hpc⟩:∃pc,pc=planCost rs p m:=⟨_,rfl⟩
   rw[←hpc]
   have Hpc:=hide hpc
   obtain⟨AG,cG,eG,rG⟩:=HO.out.rdn m HGe.out.1
   injection eG with eG1 _ eG2
   subst eG1 eG2
   have RG:=hide rG
   obtain⟨wo,rfl⟩:∃wo,wo=wr:=⟨wr,rfl⟩
   clear hpc hBr rG
   go_wp2_with fail
   go_loopw [15] (fun kv wr=>∃k:Nat,k≤m∧kv= .int .i64 k∧Hid (∀j,j < k→gotTo p i j=ns.getD j 0)∧Below wo.heap.size wo wr) (fun kv _=>m-(intOf kv).toNat)
   case atStart=>exact⟨0,by omega,rfl,hide (fun j h=>by omega),Below.refl _ _⟩
   case round=>
    obtain⟨k,hk,rfl,Hall,hb⟩:=hrel
    have hB:=HBr.out.trans (hb.mono HBr.out.size)
    by_cases hkm:k < m
    ·obtain⟨g1,hg1,_,cg⟩:=(RG.out.bel hb).nth (i:=k) (by rw[HGe.out.1];exact hkm)
     obtain⟨b1,o1,x,hA1,_,hx,cx⟩:=(HN.out.bel hB).int (i:=k) (by rw[←Hm.out];exact hkm)
     rw[Nat.zero_add] at cg
     have hgx:gotTo p i k=g1:=by rw[←HGe.out.2 k hkm,List.getD_eq_getElem?_getD,hg1];rfl
     have hnx:ns.getD k 0=x:=by rw[List.getD_eq_getElem?_getD,hx];rfl
     have Hgx:=hide hgx;have Hnx:=hide hnx;have HB:=hide hB;have Hb:=hide hb
     have ik:(k:Int) < (m:Int):=by omega
     rw[hA1]
     clear hgx hnx hg1 hx hA1 hB hb
     by_cases hgeq:g1=x
     ·have e1:(g1 != x)=false:=by simp[hgeq]
      have Hge:=hide hgeq
      clear hgeq
      go_upto_region 24 with fail
      go_quiet (fail)
      go_wp2_with fail
      exact⟨⟨k+1,by omega,by go_num,hide (fun j hj=>by
       by_cases e:j=k
       ·rw[e,Hgx.out,Hnx.out,Hge.out]
       ·exact Hall.out j (by omega)),below_drewN Hb.out _⟩,by simp[intOf];omega⟩
     ·have e1:(g1 != x)=true:=by simp[hgeq]
      have hno:¬Planned ns rs p:=fun h=>by
       have h1:=h.got k (by rw[←Hm.out];exact hkm)
       rw[←Her.out,Hnx.out] at h1
       exact hgeq (Hgx.out.symm.trans h1)
      have Hno:=hide hno
      clear hgeq hno
      go_upto_region 24 with fail
      go_quiet (fail)
      go_wp2_with fail
      go_ret2
      exact⟨_,_,rfl,(fun h=>by cases h),(fun _=>⟨Hno.out,rfl⟩),below_drewN HB.out _⟩
    ·obtain rfl:m=k:=by omega
     have HB:=hide hB
     have Hpl:Hid (Planned ns rs p):=hide ⟨by rw[←Hnp.out,Her.out],fun j hj=>by rw[←Hm.out];exact(Hrows.out j (by rw[Her.out];exact hj)).1,fun j hj q hq=>(Hrows.out j (by rw[Her.out];exact hj)).2 q (by rw[Hm.out];exact hq),fun q hq=>by rw[←Her.out];exact Hall.out q (by rw[Hm.out];exact hq)⟩
     clear hb hB
     go_wp2_with fail
     go_ret2
     exact⟨_,_,rfl,(fun _=>⟨Hpl.out,Hpc.out⟩),(fun h=>by cases h),HB.out⟩
end Go.Proofs.YtiioegopckoldaaGreatDoor
