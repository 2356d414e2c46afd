/- lemmas for topFed_holds: PD1. No conditions. -/
import Derived.Test.YtiioegopckoldaaGreatDoorK39
import Derived.Deep.Cut
import Derived.Test.YtiioegopckoldaaGreatDoorK40
import Derived.Test.YtiioegopckoldaaGreatDoorK38
set_option linter.unusedVariables false
set_option linter.unusedSimpArgs false
namespace Go.Proofs.YtiioegopckoldaaGreatDoor
open Go.RowKit Go.Shelf
theorem Rd.nth {w:World} {B b o:Nat} {xs:List Int} (h:Rd w B icell (some ⟨b,o,none⟩) xs) {i:Nat} (hi:i < xs.length):∃x,xs[i]?=some x∧b < B∧w.cell? ⟨b,o+i,none⟩=some (.int .i64 x):=by
 obtain⟨b7,off,y,hA,hql,hyk,c0⟩:=h.int (i:=i) hi
 injection hA with hA
 injection hA with hA1 hA2 _
 subst hA1 hA2
 exact⟨y,hyk,hql,c0⟩
def RowTo (rs:List Rr) (p:List (List Int)) (i k:Nat):Prop:=∀j,j < k→0≤cellAt p i j∧cellAt p i j≤miAt rs i-usedTo p i j∧(0 < cellAt p i j→(bitsF (fsAt rs i)).testBit j=true)
theorem RowTo.used {rs:List Rr} {p:List (List Int)} {i k:Nat} (h:RowTo rs p i k):0≤usedTo p i k∧(0 < k→usedTo p i k≤miAt rs i):=by
 refine⟨sumTo_nonneg fun j hj=>(h j hj).1,fun hk=>?_⟩
 obtain⟨q,rfl⟩:∃q,k=q+1:=⟨k-1,by omega⟩
 have:=(h q (by omega)).2.1
 show usedTo p i q+cellAt p i q≤_
 omega
theorem RowTo.succ {rs:List Rr} {p:List (List Int)} {i k:Nat} (h:RowTo rs p i k) (h1:0≤cellAt p i k∧cellAt p i k≤miAt rs i-usedTo p i k∧(0 < cellAt p i k→(bitsF (fsAt rs i)).testBit k=true)):RowTo rs p i (k+1):=fun j hj=>by
 by_cases e:j=k
 ·rw[e];exact h1
 ·exact h j (by omega)
theorem RentsOk.mi {ns:List Int} {rs:List Rr} (h:RentsOk ns rs) {i:Nat} (hi:i < rs.length):0≤miAt rs i∧miAt rs i≤23040:=by
 have h1:=rentTo_le (j:=i+1) h.rt (by omega)
 have h2:=leftTo_bd (rentTo_le (j:=i) h.rt (by omega))
 rw[rentTo,Bool.and_eq_true,Bool.and_eq_true] at h1
 have h3:=h1.2.1
 simp[inB] at h3
 omega
theorem RentsOk.bits {ns:List Int} {rs:List Rr} (h:RentsOk ns rs) {i:Nat} (hi:i < rs.length):bitsF (fsAt rs i) < 256:=by
 have h1:=rentTo_le (j:=i+1) h.rt (by omega)
 rw[rentTo,Bool.and_eq_true,Bool.and_eq_true,Bool.and_eq_true] at h1
 exact bitsTo_lt h.nl h1.2.2.2
theorem RentsOk.pr_bd {ns:List Int} {rs:List Rr} (h:RentsOk ns rs) (i:Nat):0≤prAt rs i∧prAt rs i≤100000:=by
 rw[←pr_get];exact getD_mem (p:=fun x:Int=>0≤x∧x≤100000) (d:=0) h.p (by decide) i
def gotTo (p:List (List Int)) (i k:Nat):Int:=sumTo (fun j=>cellAt p j k) i
def paidTo (rs:List Rr) (p:List (List Int)) (m i:Nat):Int:=sumTo (fun j=>usedTo p j m*prAt rs j) i
theorem gotTo_bd {rs:List Rr} {p:List (List Int)} {m i k:Nat} (hk:k < m) (h:∀j,j < i→RowTo rs p j m) (hmi:∀j,j < i→0≤miAt rs j∧miAt rs j≤23040):0≤gotTo p i k∧gotTo p i k≤i*23040:=
 sumTo_bd fun j hj=>by
  have h1:=h j hj k hk
  have h2:=RowTo.used (k:=k) fun q hq=>h j hj q (by omega)
  have h3:=hmi j hj
  omega
theorem paidTo_bd {rs:List Rr} {p:List (List Int)} {m i:Nat} (h:∀j,j < i→RowTo rs p j m) (hmi:∀j,j < i→0≤miAt rs j∧miAt rs j≤23040) (hpr:∀j,0≤prAt rs j∧prAt rs j≤100000):0≤paidTo rs p m i∧paidTo rs p m i≤i*2304000000:=
 sumTo_bd fun j hj=>by
  have h2:=(h j hj).used
  have h3:=hmi j hj
  have hu:usedTo p j m≤23040:=by
   by_cases hm:0 < m
   ·have:=h2.2 hm;omega
   ·obtain rfl:m=0:=by omega
    show(0:Int)≤23040;omega
  have h4:=hpr j
  refine⟨Int.mul_nonneg h2.1 h4.1,?_⟩
  have h5:usedTo p j m*prAt rs j≤23040*prAt rs j:=Int.mul_le_mul_of_nonneg_right hu h4.1
  omega
set_option maxHeartbeats 40000000 in
set_option maxRecDepth 100000 in
theorem rplanned_any (A1 A2 A3:Option Addr) (m c1 r c2 np c3:Nat) (ns:List Int) (rs:List Rr) (ssl:List Sl) (p:List (List Int)) (w:World) (hN:Rd w w.heap.size icell A1 ns) (hm:m=ns.length) (hok:RentsOk ns rs) (hR:RsAt w A2 r rs) (hnp:np=p.length) (hP:Rd w w.heap.size Sl.cells A3 ssl) (hRw:Rows w w.heap.size icell ssl p) :
 Calls Tryz.prog 17 #[.slice A1 m c1,.slice A2 r c2,.slice A3 np c3] w fun e w'=>∃c b,e= .returned (.tuple #[.int .i64 c,.bool b])∧(b=true→Planned ns rs p∧c=planCost rs p m)∧(b=false→¬Planned ns rs p∧c=0)∧Below w.heap.size w w':=by
 have Hm:=hide hm;have Her:=hide hR.en;have HR:=hide hR;have HN:=hide hN;have Hnp:=hide hnp;have HP:=hide hP;have HRw:=hide hRw;have Hok:=hide hok
 have hm8:m≤8:=by rw[hm];exact hok.nl
 have hr8:r≤8:=by rw[hR.en];exact hok.rl
 clear hm hR hN hnp hP hRw hok
 by_cases hlen:np=r
 rotate_left
 ·have e1:((np:Int) != (r:Int))=true:=by simp;omega
  have hno:¬Planned ns rs p:=fun h=>hlen (by rw[Hnp.out,Her.out];exact h.len)
  have Hno:=hide hno
  clear hlen hno
  go_enter Tryz.func17,Tryz.ntmps17
  go_wp2_with fail
  go_ret2
  exact⟨_,_,rfl,(fun h=>by cases h),(fun _=>⟨Hno.out,rfl⟩),Below.refl _ _⟩
 subst hlen
 have e0:((np:Int) != (np:Int))=false:=by simp
 go_enter Tryz.func17,Tryz.ntmps17
 go_wp2_with fail
 refine(ropen_any A2 np c2 rs ns.length w Hok.out.nl HR.out hr8 Hok.out.rt).mono ?_
 rintro e w1 ⟨vS,rfl,oS,hb1⟩
 obtain⟨AS,cS,rfl,rS⟩:=oS.rdn np (by rw[List.length_map,List.length_map];exact Her.out.symm)
 have RS1:=hide rS
 have hB1:=hide hb1
 clear oS rS hb1
 go_wp2_with fail
 rw[make_ints m (by omega)]
 have ho1:=own_made m (by omega) w1 w1.heap.size (Nat.le_refl _)
 have hb1:=below_new w1 (.cells (madeCells #[.int .i64 0] (m*1)) 3)
 obtain⟨gG,hgG⟩:∃g,g=w1.heap.size:=⟨_,rfl⟩
 obtain⟨w2,Hw2⟩:∃w2,Hid (w1.alloc (.cells (madeCells #[.int .i64 0] (m*1)) 3)=w2):=⟨_,hide rfl⟩
 rw[Hw2.out] at ho1 hb1 ⊢
 have ho1':Own w2 gG 3 1 icell (.slice (some ⟨gG,0,none⟩) m m) (List.replicate m 0):=by rw[←hgG] at ho1;exact ho1
 have HG:=hide ho1'
 have hw1g:w1.heap.size≤gG:=by omega
 have hg2:gG < w2.heap.size:=(ho1'.blockG (g:=gG) rfl).2
 have hww1:w.heap.size≤w1.heap.size:=hB1.out.size
 have HB2:=hide (hB1.out.trans (hb1.mono hB1.out.size))
 have RS2:=hide (RS1.out.below hb1)
 rw[←hgG]
 clear ho1 ho1' hb1 hgG Hw2 RS1
 go_wp2_with fail
 go_loopw [10,11] (fun cv iv wr=>∃(i:Nat) (G:List Int),i≤np∧cv= .int .i64 (paidTo rs p m i)∧iv= .int .i64 i∧Hid (∀j,j < i→(p.getD j []).length=m∧RowTo rs p j m)∧Hid (G.length=m∧∀k,k < m→G.getD k 0=gotTo p i k)∧Hid (Own wr gG 3 1 icell (.slice (some ⟨gG,0,none⟩) m m) G)∧Kept (fun b=>b≠gG) w2 wr) (fun _ iv _=>np-(intOf iv).toNat)
 case atStart=>exact⟨0,_,by omega,rfl,rfl,hide (fun j h=>by omega),hide ⟨by simp,fun k hk=>by rw[List.getD_eq_getElem?_getD,List.getElem?_replicate,if_pos hk];rfl⟩,HG,Kept.refl _ _⟩
 case round=>
  obtain⟨i,G,hi,rfl,rfl,Hrows,HGe,HO,hK⟩:=hrel
  have hBr:=HB2.out.trans (hK.below (fun b hb=>by omega) HB2.out.size)
  by_cases hlt:i < np
  ·obtain⟨bp,op,a,n,cc,hA,hbp,hsl,hcw⟩:=HP.out.sl (i:=i) (by have:=HRw.out.len;have:=Hnp.out;omega)
   have hcell:=(hBr.cell (p:=⟨bp,op+i,none⟩) hbp).trans hcw
   obtain⟨xs,hxs⟩:∃xs,p[i]?=some xs:=⟨_,List.getElem?_eq_getElem (by have:=Hnp.out;omega)⟩
   obtain⟨hn,hrd⟩:=HRw.out.row i _ xs hsl hxs
   simp only at hn hrd
   have hpx:p.getD i []=xs:=by rw[List.getD_eq_getElem?_getD,hxs];rfl
   have Hpx:=hide hpx;have Hn:=hide hn;have Hrd:=hide hrd
   have HBr:=hide hBr
   have ii:(i:Int) < (np:Int):=by omega
   have hir:i < rs.length:=by have:=Her.out;omega
   subst hA
   clear hpx hxs hsl hn hrd hBr
   by_cases hnm:n=m
   rotate_left
   ·have e1:((n:Int) != (m:Int))=true:=by simp;omega
    have hno:¬Planned ns rs p:=fun h=>hnm (by rw[Hn.out,←Hpx.out,Hm.out];exact h.row i hir)
    have Hno:=hide hno
    clear hnm hno
    go_wp2_with fail
    go_ret2
    exact⟨_,_,rfl,(fun h=>by cases h),(fun _=>⟨Hno.out,rfl⟩),HBr.out⟩
   subst hnm
   have e1:((n:Int) != (n:Int))=false:=by simp
   obtain⟨b7,off,q,hA2,hql,hqx,c0w,c1w,_⟩:=HR.out.rd.rr (i:=i) hir
   have c0:=(HBr.out.cell (p:=⟨b7,off+i*3,none⟩) hql).trans c0w
   subst hA2
   have hmi:miAt rs i=q.mi:=by unfold miAt;rw[hqx];rfl
   have hprq:prAt rs i=q.pr:=by unfold prAt;rw[hqx];rfl
   have Hprq:=hide hprq;have Hmi:=hide hmi
   have hmib:=Hok.out.mi hir
   rw[hmi] at hmib
   have hprb:=Hok.out.pr_bd i
   rw[hprq] at hprb
   have Hcw:=hide hcw
   have Hc1:=hide c1w
   have hpb:=paidTo_bd (i:=i) (fun j hj=>(Hrows.out j hj).2) (fun j hj=>Hok.out.mi (by omega)) Hok.out.pr_bd
   obtain⟨pd,hpd⟩:∃pd,pd=paidTo rs p n i:=⟨_,rfl⟩
   rw[←hpd] at hpb
   have Hpd:=hide hpd
   have HK:=hide hK
   obtain⟨wo,rfl⟩:∃wo,wo=wr:=⟨wr,rfl⟩
   clear hqx hmi hprq hpd hK hcw c0w c1w
   go_wp2_with fail
   clear c0 hcell
   go_loopw [10,12,13] (fun cv lv kv wr=>∃(k:Nat) (G2:List Int) (z lf:Int),k≤n∧cv= .int .i64 z∧lv= .int .i64 lf∧kv= .int .i64 k∧Hid (z=pd+usedTo p i k*q.pr)∧Hid (lf=q.mi-usedTo p i k)∧(0≤lf∧lf≤23040)∧Hid (RowTo rs p i k)∧Hid (G2.length=n∧∀j,j < n→G2.getD j 0=gotTo p i j+if j < k then cellAt p i j else 0)∧Hid (Own wr gG 3 1 icell (.slice (some ⟨gG,0,none⟩) n n) G2)∧Kept (fun b=>b≠gG) wo wr) (fun _ _ kv _=>n-(intOf kv).toNat)
   case atStart=>exact⟨0,G,pd,q.mi,by omega,by rw[Hpd.out],rfl,rfl,hide (by show pd=pd+0*q.pr;rw[Int.zero_mul,Int.add_zero]),hide (by show q.mi=q.mi-0;omega),hmib,hide (fun j h=>by omega),hide ⟨HGe.out.1,fun j hj=>by rw[HGe.out.2 j hj,if_neg (by omega),Int.add_zero]⟩,HO,Kept.refl _ _⟩
   case round=>
    obtain⟨k,G2,z,lf,hk,rfl,rfl,rfl,Hz,Hlf,hlf,Hrow,HG2,HO2,hK2⟩:=hrel
    have hB2r:=HBr.out.trans (hK2.below (fun b hb=>by omega) HBr.out.size)
    by_cases hkn:k < n
    ·obtain⟨bx,ox,x,hax,_,hxk,cx⟩:=(Hrd.out.bel hB2r).int (i:=k) (by rw[←Hn.out];exact hkn)
     have hca:cellAt p i k=x:=by unfold cellAt;rw[Hpx.out,List.getD_eq_getElem?_getD,hxk];rfl
     have h2c:=(hB2r.cell (p:=⟨bp,op+i,none⟩) hbp).trans Hcw.out
     have hc1:=(hB2r.cell (p:=⟨b7,off+i*3+1,none⟩) hql).trans Hc1.out
     have rs3:=((RS2.out.keptR HK.out (fun b hb=>by omega) (by omega)).keptR hK2 (fun b hb=>by omega) (by have:=HK.out.size;omega))
     obtain⟨bs,os,hAS⟩:∃b o,AS=some ⟨b,o,none⟩:=by
      obtain⟨b,o,q,h,_⟩:=rs3.int (i:=0) (by simp;omega)
      exact⟨b,o,h⟩
     subst hAS
     obtain⟨s,hsk,_,cs⟩:=rs3.nat' (i:=i) (by simp;omega)
     have hsg:s=bitsF (fsAt rs i):=by
      rw[List.getElem?_map,List.getElem?_eq_getElem hir] at hsk
      unfold fsAt
      rw[List.getElem?_eq_getElem hir]
      exact(Option.some.inj hsk).symm
     have hs256:s < 256:=by rw[hsg];exact Hok.out.bits hir
     have ht:=shr_zero s k hs256
     subst hax
     have ik:(k:Int) < (n:Int):=by omega
     have HB2r:=hide hB2r;have HK2:=hide hK2;have Hsg:=hide hsg;have Hca:=hide hca
     have hub:=Hrow.out.used
     obtain⟨u,hu⟩:∃u,u=usedTo p i k:=⟨_,rfl⟩
     have Hu:=hide hu
     have hlf2:=Hlf.out
     have hz2:=Hz.out
     rw[←hu] at hub hlf2 hz2
     replace hlf2:=hide hlf2;replace hz2:=hide hz2
     clear hxk hca hB2r hK2 hsk hsg rs3 hu
     go_upto_region 16 with fail
     clear h2c cx
     go_wp2_with fail
     refine(aflajref06_within 0 lf x wr).mono ?_
     rintro e w3 ⟨rfl,rfl⟩
     cases hif:inB 0 lf x
     ·have hno:¬Planned ns rs p:=fun h=>by
       have h1:=h.ok i hir k (by rw[←Hm.out];exact hkn)
       rw[Hca.out,←Hu.out,Hmi.out,←hlf2.out] at h1
       simp[inB] at hif
       omega
      have Hno:=hide hno
      clear hif hno
      go_wp2_with fail
      go_ret2
      exact⟨_,_,rfl,(fun h=>by cases h),(fun _=>⟨Hno.out,rfl⟩),HB2r.out⟩
     have hxb:0≤x∧x≤lf:=by simp[inB] at hif;omega
     clear hif
     have hlf3:=hlf2.out
     have hz3:=hz2.out
     have hbd:=gotTo_bd (i:=i) hkn (fun j hj=>(Hrows.out j hj).2) (fun j hj=>Hok.out.mi (by omega))
     obtain⟨og,zg,fg⟩:=HO2.out.put1 (i:=k) (by rw[HG2.out.1];exact hkn) HG2.out.1.symm (G2.getD k 0+x)
     have hgk:=HG2.out.2 k hkn
     rw[if_neg (by omega),Int.add_zero] at hgk
     obtain⟨gk,hgk2⟩:∃gk,gk=G2.getD k 0:=⟨_,rfl⟩
     rw[←hgk2] at og zg hgk
     have hgb:0≤gk∧gk≤184320:=by omega
     obtain⟨mm0,mm1⟩:=mul_bd2 (x:=x) (p:=q.pr) hxb.1 (by omega) hprb.1 hprb.2
     obtain⟨mu0,mu1⟩:=mul_bd2 (x:=u) (p:=q.pr) hub.1 (by omega) hprb.1 hprb.2
     obtain⟨pv,hpv⟩:∃pv,pv=x*q.pr:=⟨_,rfl⟩
     obtain⟨pu,hpu⟩:∃pu,pu=u*q.pr:=⟨_,rfl⟩
     have iw1:IntKind.i64.wrap (x*q.pr)=pv:=by rw[←hpv];exact wrapI (by omega)
     rw[←hpv] at mm0 mm1
     rw[←hpu] at mu0 mu1 hz3
     have hpd8:(i:Int)*2304000000≤18432000000:=by omega
     have iw2:IntKind.i64.wrap (z+pv)=z+pv:=wrapI (by omega)
     have iw3:IntKind.i64.wrap (lf-x)=lf-x:=wrapI (by omega)
     have iw4:IntKind.i64.wrap (gk+x)=gk+x:=wrapI (by omega)
     have kst:=HK2.out.trans (Kept.setCell wr ⟨gG,k,none⟩ (.int .i64 (gk+x)))
     have hc1':(wr.setCell ⟨gG,k,none⟩ (.int .i64 (gk+x))).cell? ⟨b7,off+i*3+1,none⟩=some (.int .i64 q.pr):=((Kept.setCell wr ⟨gG,k,none⟩ (.int .i64 (gk+x))).cell (p:=⟨b7,off+i*3+1,none⟩) (by show b7≠gG;omega) (by have:=HB2r.out.size;show b7 < _;omega)).trans hc1
     have Hpv:=hide hpv;have Hpu:=hide hpu;have Hgk2:=hide hgk2;have Hgk:=hide hgk
     have Og:=hide og;have Kst:=hide kst;have Hlf2:=hide hlf3;have Hz2:=hide hz3
     clear hpv hpu hgk2 hgk og kst hlf2 hz2 hlf3 hz3 hbd hc1
     have next:0≤x∧(0 < x→s.testBit k=true)→Hid (RowTo rs p i (k+1)):=fun h=>hide (Hrow.out.succ (by
      rw[Hca.out,←Hu.out,Hmi.out,←Hsg.out]
      exact⟨h.1,by have:=Hlf2.out;omega,h.2⟩))
     have Hnext:=hide next
     clear next
     by_cases hx0:0 < x
     ·cases hsb:s.testBit k
      ·rw[hsb] at ht
       have hno:¬Planned ns rs p:=fun h=>by
        have h1:=(h.ok i hir k (by rw[←Hm.out];exact hkn)).2.2
        rw[Hca.out,←Hsg.out] at h1
        rw[h1 hx0] at hsb;cases hsb
       have Hno:=hide hno
       clear hno hsb
       go_wp2_with fail
       go_ret2
       exact⟨_,_,rfl,(fun h=>by cases h),(fun _=>⟨Hno.out,rfl⟩),HB2r.out⟩
      ·rw[hsb] at ht
       have HR1:=Hnext.out ⟨hxb.1,fun _=>hsb⟩
       clear hsb
       go_upto_region 20 with fail
       obtain⟨w4,hw4⟩:∃w4,Hid (wr.setCell ⟨gG,k,none⟩ (.int .i64 (gk+x))=w4):=⟨_,hide rfl⟩
       have og:=Og.out;have kst:=Kst.out
       rw[hw4.out] at hc1' og kst ⊢
       have Og4:=hide og;have Kst4:=hide kst
       have HG4:Hid ((G2.set k (gk+x)).length=n∧∀j,j < n→(G2.set k (gk+x)).getD j 0=gotTo p i j+if j < k+1 then cellAt p i j else 0):=hide ⟨by rw[List.length_set];exact HG2.out.1,fun j hj=>by
        rw[getD_set (by rw[HG2.out.1];exact hkn)]
        by_cases e:j=k
        ·rw[if_pos e,e,if_pos (by omega),Hca.out,Hgk.out]
        ·rw[if_neg e,HG2.out.2 j hj]
         by_cases e2:j < k
         ·rw[if_pos e2,if_pos (by omega)]
         ·rw[if_neg e2,if_neg (by omega)]⟩
       have Hz4:Hid (z+pv=pd+usedTo p i (k+1)*q.pr):=hide (by
        show z+pv=pd+(usedTo p i k+cellAt p i k)*q.pr
        rw[Hca.out,←Hu.out,Int.add_mul,←Hpu.out,←Hpv.out,Hz2.out];omega)
       have Hlf4:Hid (lf-x=q.mi-usedTo p i (k+1)):=hide (by
        show lf-x=q.mi-(usedTo p i k+cellAt p i k)
        rw[Hca.out,←Hu.out,Hlf2.out];omega)
       clear og kst zg fg hw4 iw3 iw4
       go_wp2_with fail
       exact⟨⟨k+1,_,_,_,by omega,rfl,rfl,by go_num,Hz4,Hlf4,⟨by omega,by omega⟩,HR1,HG4,Og4,Kst4.out⟩,by simp[intOf];omega⟩
     ·have HR1:=Hnext.out ⟨hxb.1,fun h=>absurd h hx0⟩
      clear ht
      go_upto_region 20 with fail
      obtain⟨w4,hw4⟩:∃w4,Hid (wr.setCell ⟨gG,k,none⟩ (.int .i64 (gk+x))=w4):=⟨_,hide rfl⟩
      have og:=Og.out;have kst:=Kst.out
      rw[hw4.out] at hc1' og kst ⊢
      have Og4:=hide og;have Kst4:=hide kst
      have HG4:Hid ((G2.set k (gk+x)).length=n∧∀j,j < n→(G2.set k (gk+x)).getD j 0=gotTo p i j+if j < k+1 then cellAt p i j else 0):=hide ⟨by rw[List.length_set];exact HG2.out.1,fun j hj=>by
       rw[getD_set (by rw[HG2.out.1];exact hkn)]
       by_cases e:j=k
       ·rw[if_pos e,e,if_pos (by omega),Hca.out,Hgk.out]
       ·rw[if_neg e,HG2.out.2 j hj]
        by_cases e2:j < k
        ·rw[if_pos e2,if_pos (by omega)]
        ·rw[if_neg e2,if_neg (by omega)]⟩
      have Hz4:Hid (z+pv=pd+usedTo p i (k+1)*q.pr):=hide (by
       show z+pv=pd+(usedTo p i k+cellAt p i k)*q.pr
       rw[Hca.out,←Hu.out,Int.add_mul,←Hpu.out,←Hpv.out,Hz2.out];omega)
      have Hlf4:Hid (lf-x=q.mi-usedTo p i (k+1)):=hide (by
       show lf-x=q.mi-(usedTo p i k+cellAt p i k)
       rw[Hca.out,←Hu.out,Hlf2.out];omega)
      clear og kst zg fg hw4 iw3 iw4
      go_wp2_with fail
      exact⟨⟨k+1,_,_,_,by omega,rfl,rfl,by go_num,Hz4,Hlf4,⟨by omega,by omega⟩,HR1,HG4,Og4,Kst4.out⟩,by simp[intOf];omega⟩
    ·obtain rfl:n=k:=by omega
     have Hrows':Hid (∀j,j < i+1→(p.getD j []).length=n∧RowTo rs p j n):=hide fun j hj=>by
      by_cases e:j=i
      ·rw[e];exact⟨by rw[Hpx.out];exact Hn.out.symm,Hrow.out⟩
      ·exact Hrows.out j (by omega)
     have HG':Hid (G2.length=n∧∀k,k < n→G2.getD k 0=gotTo p (i+1) k):=hide ⟨HG2.out.1,fun k hk=>by rw[HG2.out.2 k hk,if_pos hk];rfl⟩
     have Hpd':Hid (paidTo rs p n (i+1)=z):=hide (by
      show paidTo rs p n i+usedTo p i n*prAt rs i=z
      rw[Hz.out,←Hpd.out,Hprq.out])
     have HKK:=hide (HK.out.trans hK2)
     clear hK2 hB2r
     go_wp2_with fail
     exact⟨⟨i+1,G2,by omega,by rw[Hpd'.out],by go_num,Hrows',HG',HO2,HKK.out⟩,by simp[intOf];omega⟩
  ·obtain rfl:i=np:=by omega
   have HBr:=hide hBr
   have Hpd:Hid (paidTo rs p m i=planCost rs p m):=hide (by unfold planCost;rw[←Her.out];rfl)
   rw[Hpd.out]
   obtain⟨pc,hpc⟩:∃pc,pc=planCost rs p m:=⟨_,rfl⟩
   rw[←hpc]
   have Hpc:=hide hpc
   obtain⟨AG,cG,eG,rG⟩:=HO.out.rdn m HGe.out.1
   injection eG with eG1 _ eG2
   subst eG1 eG2
   have RG:=hide rG
   obtain⟨wo,rfl⟩:∃wo,wo=wr:=⟨wr,rfl⟩
   clear hpc hBr rG
   go_wp2_with fail
   go_loopw [15] (fun kv wr=>∃k:Nat,k≤m∧kv= .int .i64 k∧Hid (∀j,j < k→gotTo p i j=ns.getD j 0)∧Below wo.heap.size wo wr) (fun kv _=>m-(intOf kv).toNat)
   case atStart=>exact⟨0,by omega,rfl,hide (fun j h=>by omega),Below.refl _ _⟩
   case round=>
    obtain⟨k,hk,rfl,Hall,hb⟩:=hrel
    have hB:=HBr.out.trans (hb.mono HBr.out.size)
    by_cases hkm:k < m
    ·obtain⟨g1,hg1,_,cg⟩:=(RG.out.bel hb).nth (i:=k) (by rw[HGe.out.1];exact hkm)
     obtain⟨b1,o1,x,hA1,_,hx,cx⟩:=(HN.out.bel hB).int (i:=k) (by rw[←Hm.out];exact hkm)
     rw[Nat.zero_add] at cg
     have hgx:gotTo p i k=g1:=by rw[←HGe.out.2 k hkm,List.getD_eq_getElem?_getD,hg1];rfl
     have hnx:ns.getD k 0=x:=by rw[List.getD_eq_getElem?_getD,hx];rfl
     have Hgx:=hide hgx;have Hnx:=hide hnx;have HB:=hide hB;have Hb:=hide hb
     have ik:(k:Int) < (m:Int):=by omega
     rw[hA1]
     clear hgx hnx hg1 hx hA1 hB hb
     by_cases hgeq:g1=x
     ·have e1:(g1 != x)=false:=by simp[hgeq]
      have Hge:=hide hgeq
      clear hgeq
      go_upto_region 24 with fail
      go_quiet (fail)
      go_wp2_with fail
      exact⟨⟨k+1,by omega,by go_num,hide (fun j hj=>by
       by_cases e:j=k
       ·rw[e,Hgx.out,Hnx.out,Hge.out]
       ·exact Hall.out j (by omega)),below_drewN Hb.out _⟩,by simp[intOf];omega⟩
     ·have e1:(g1 != x)=true:=by simp[hgeq]
      have hno:¬Planned ns rs p:=fun h=>by
       have h1:=h.got k (by rw[←Hm.out];exact hkm)
       rw[←Her.out,Hnx.out] at h1
       exact hgeq (Hgx.out.symm.trans h1)
      have Hno:=hide hno
      clear hgeq hno
      go_upto_region 24 with fail
      go_quiet (fail)
      go_wp2_with fail
      go_ret2
      exact⟨_,_,rfl,(fun h=>by cases h),(fun _=>⟨Hno.out,rfl⟩),below_drewN HB.out _⟩
    ·obtain rfl:m=k:=by omega
     have HB:=hide hB
     have Hpl:Hid (Planned ns rs p):=hide ⟨by rw[←Hnp.out,Her.out],fun j hj=>by rw[←Hm.out];exact(Hrows.out j (by rw[Her.out];exact hj)).1,fun j hj q hq=>(Hrows.out j (by rw[Her.out];exact hj)).2 q (by rw[Hm.out];exact hq),fun q hq=>by rw[←Her.out];exact Hall.out q (by rw[Hm.out];exact hq)⟩
     clear hb hB
     go_wp2_with fail
     go_ret2
     exact⟨_,_,rfl,(fun _=>⟨Hpl.out,Hpc.out⟩),(fun h=>by cases h),HB.out⟩
end Go.Proofs.YtiioegopckoldaaGreatDoor
