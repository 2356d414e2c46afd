/- lemmas for topRented_holds: TR. No conditions. -/
import Derived.Test.YtiioegopckoldaaGreatDoorK24
import Derived.Test.YtiioegopckoldaaGreatDoorK25
import Derived.Test.YtiioegopckoldaaGreatDoorK27
import Derived.Test.YtiioegopckoldaaGreatDoorK28
import Derived.Test.YtiioegopckoldaaGreatDoorK29
import Derived.Test.YtiioegopckoldaaGreatDoorK42
import Derived.Deep.Cut
import Derived.BigQuiet
set_option linter.unusedVariables false
set_option linter.unusedSimpArgs false
namespace Go.Proofs.YtiioegopckoldaaGreatDoor
open Go.RowKit Go.Shelf
attribute [local go_sem] ite_min ite_max
theorem ev_nv {w:World} (h:Nv w):CV.Var0 evNv w:=h
theorem ShareOf.len9 {ps:List Pc} {l:List Sp} {e:Int} (h:ShareOf ps l) (hc:Chain 0 ps e) (ho:∀p∈ps,99≤p.ow∧p.ow≤107):l.length≤9:=
 nodup_len (fun s:Sp=>s.lo) 9 99 (h.srt.imp fun h=>Int.ne_of_lt h) (fun s hs=>by
  obtain⟨p,hp,e⟩:=(totB_pos hc).2 (h.is s hs).1
  have:=ho p hp
  have e2:p.ow=s.lo:=by simpa using e
  omega)
theorem Rd.u8z {w:World} {B n i:Nat} {A:Option Addr} (h:Rd w B u8i A (List.replicate n 0)) (hi:i < n):∃b off,A=some ⟨b,off,none⟩∧w.cell? ⟨b,off+i,none⟩=some (.int .u8 0):=by
 obtain⟨b,off,e,_,hc⟩:=h (by rw[List.length_replicate];omega)
 have hx:(List.replicate n (0:Int))[i]?=some 0:=by rw[List.getElem?_replicate,if_pos hi]
 have:=hc _ _ (flat_get (cells:=u8i) (k:=1) (fun _=>rfl) hx (j:=0) (by omega))
 simp only[Nat.mul_one,Nat.add_zero] at this
 exact⟨b,off,e,this⟩
theorem el_rentT:ElLaw Tryz.prog 30 65 3 40 Rr.cells:=elLaw_of Tryz.underlying30 (z:= .agg #[.int .i64 0,.int .i64 0,.slice none 0 0]) (by kernel_rfl) rfl (by omega) Rr.len (fun r=>by simp[Rr.cells,Value.oneCell']) (by omega)
theorem trWrapU {x:Int} (h:0≤x∧x≤4294967295):IntKind.u32.wrap x=x:=by
 unfold IntKind.wrap
 simp[IntKind.bits,IntKind.signed]
 omega
theorem tr_plan_bad {out:List Int} {rs:List Rr} (h:rentsOk out rs=false):planF out rs=([],0,62):=by
 unfold planF;rw[h];rfl
set_option maxHeartbeats 40000000 in
set_option maxRecDepth 100000 in
theorem toprented_walk (A B C:Option Addr) (m cm nl cl nb cb:Nat) (ns:List Int) (ls bys:List Nat) (w:World) (hnv:Nv w) (hms:m=ns.length) (hms2:m≤9223372036854775807) (hns:Rd w w.heap.size icell A ns)
 (hnl:nl=ls.length) (hnl2:nl≤9223372036854775807) (hls:Rd w w.heap.size u16cell B ls) (h16:∀x∈ls,x≤65535) (hnb:nb=bys.length) (hnb2:nb≤9223372036854775807) (hby:Rd w w.heap.size u32cell C bys) (h32:∀x∈bys,x≤4294967295) :
 Calls Tryz.prog 4 #[.slice A m cm,.slice B nl cl,.slice C nb cb] w fun e w'=>e= .returned (.bool true)∧Below w.heap.size w w':=by
 have Hns:=hide hns;have Hls:=hide hls;have Hby:=hide hby
 have Hms:=hide hms;have Hnl:=hide hnl;have Hnb:=hide hnb;have H16:=hide h16;have H32:=hide h32
 have Hnv:=hide (ev_nv hnv)
 clear hnv hms hns hnl hls h16 hnb hby h32
 go_enter Tryz.func4,Tryz.ntmps4
 go_wp2_with fail
 refine(ev06_any _ Hnv.out).mono ?_
 rintro e w2 ⟨rfl,hb2⟩
 have H2:=hide hb2
 clear hb2
 by_cases h8:8 < m
 ·have d0:decide (8 < (m:Int))=true:=decide_eq_true (by omega)
  go_wp2_with fail
  go_returns
  exact⟨rfl,H2.out⟩
 by_cases h7:7 < nl
 ·have d0:decide (8 < (m:Int))=false:=decide_eq_false (by omega)
  have d1:decide (7 < (nl:Int))=true:=decide_eq_true (by omega)
  go_wp2_with fail
  go_returns
  exact⟨rfl,H2.out⟩
 have hm8:m≤8:=by omega
 have hn7:nl≤7:=by omega
 obtain⟨b8,w3,e8,ew3,hx8,hb3,hz3⟩:=mk_bx w2 #[.int .i64 1,.slice none 0 0] 58
 have HB3:=hide (H2.out.trans (hb3.mono H2.out.size))
 have hbl:=hx8.lt
 have HRT:=hide (RT.start (base:=w3.heap.size) hx8 hbl)
 have hw8:w.heap.size≤b8:=by have:=e8.out;have:=H2.out.size;omega
 clear hx8 hb3 hz3
 go_upto_region 9 with fail
 rw[ew3.out,e8.out]
 clear ew3 e8
 go_wp2_with fail
 go_loopw [58,10,9] (fun kv av rv wr=>∃(k:Nat) (at_:Int) (vh vr:Value) (hs:List Us) (rs:List Rr),vr=rv∧k≤nl∧kv= .int .i64 k∧av= .int .i64 at_∧rs.length=k∧(0≤at_∧at_≤1439)∧Hid (Offered hs rs at_)∧Hid (RT wr w3.heap.size b8 vh vr hs rs)∧Hid (Kept (fun q=>q < w3.heap.size∧q≠b8) w3 wr)) (fun kv _ _ _=>nl-(intOf kv).toNat)
 case atStart=>exact⟨0,0,_,_,[],[],rfl,by omega,rfl,rfl,rfl,by omega,hide Offered.nil,HRT,hide (Kept.refl _ _)⟩
 case round=>
  clear HRT
  obtain⟨k,at_,vh,vr,hs,rs,rfl,hk,rfl,rfl,hrl,hat,HO,HT,HK⟩:=hrel
  obtain⟨wo,rfl⟩:∃wo,wo=wr:=⟨wr,rfl⟩
  have HBo:=hide (HB3.out.trans (HK.out.below (B:=w.heap.size) (fun q hq=>⟨by have:=HB3.out.size;omega,by omega⟩) HB3.out.size))
  by_cases hlt:k < nl
  ·have ik:(k:Int) < (nl:Int):=by omega
   obtain⟨bl,ol,x,rfl,hbl2,hx,cx⟩:=(Hls.out.bel HBo.out).u16 (i:=k) (by have:=Hnl.out;omega)
   have hx16:=H16.out x (List.mem_of_getElem? hx)
   obtain⟨r,hr⟩:∃r,r=(x:Int) % 400:=⟨_,rfl⟩
   have hr0:0≤r∧r < 400:=by rw[hr];exact⟨Int.emod_nonneg _ (by omega),Int.emod_lt_of_pos _ (by omega)⟩
   have t1:Int.tmod (x:Int) 400=r:=by rw[Int.tmod_eq_emod_of_nonneg (by omega),hr]
   have t2:(x:Int) % 400=r:=hr.symm
   obtain⟨mm,hmm⟩:∃mm,mm=min (1+r) (1439-at_):=⟨_,rfl⟩
   have t3:min (1+r) (1439-at_)=mm:=hmm.symm
   have hmb:mm≤1+r∧mm≤1439-at_:=by omega
   have hmc:mm=1+r∨mm=1439-at_:=by omega
   clear hr hmm hx
   by_cases hm1:mm < 1
   ·have Hrl:=hide hrl
    clear hrl
    go_upto_region 25 with fail
    have hr7:=HO.out.r7
    obtain⟨R,hRl⟩:∃R,rs.length=R:=⟨_,rfl⟩
    have hR7:R≤7:=by omega
    have HRl:=hide hRl
    obtain⟨Ar,cr,rfl,_⟩:=HT.out.rents hRl
    have hhl:hs.length=R:=by rw[HO.out.len,hRl]
    have Hhl:=hide hhl
    have hlh:hs.length+1≤1000000:=by omega
    clear hr7 hRl hhl
    obtain⟨y0,y1⟩:=HT.out.bx.at_.c2
    have f1:=HT.out.bx.fz 1
    have hbz:w3.heap.size≤wo.heap.size:=HK.out.size
    have hb8l:=HT.out.b8l
    have h8o:b8 < wo.heap.size:=by omega
    go_upto_region 26 with(at_builtin;go_loud (refine wpList_app1l (v:=vh) (xs:=hs) (base:=w3.heap.size) (k:=3) (bytes:=24) (E:=63) el_hold rfl (.tmp 123) (.tmp 127) rfl rfl rfl HT.out.oh ⟨99,at_,1440⟩ rfl hlh hbz ?_);intro v10 w10 o10 k10 hat10;have n8:¬vh.ownBlock=some b8:=(fun e=>by have:=(HT.out.oh.blockG e).1;omega);have y1:=(k10.cell (p:=⟨b8,1,none⟩) n8 h8o).trans y1;have f1:=(k10.frozen (p:=⟨b8,1,none⟩) n8 h8o).trans f1;have HX10:=hide (HT.out.hold ⟨99,at_,1440⟩ o10 k10 hat10);obtain⟨A10,c10,rfl,_⟩:=o10.rdn (R+1) (by rw[List.length_append,Hhl.out];rfl);clear o10 k10 hat10)
    obtain⟨w11,hw11⟩:∃w11,w10.setCell ⟨b8,1,none⟩ (.slice A10 (R+1) c10)=w11:=⟨_,rfl⟩
    obtain⟨HT2,hK2⟩:=HX10.out
    rw[hw11] at HT2 hK2 ⊢
    have HB11:=hide (HBo.out.trans (hK2.below (B:=w.heap.size) (fun q hq=>⟨by have:=HB3.out.size;omega,by omega⟩) HBo.out.size))
    obtain⟨_,_,e10,hR⟩:=HT2.rents HRl.out
    injection e10 with e10a _ e10b
    subst e10a e10b
    obtain⟨_,_,e10,hH⟩:=HT2.holds (R:=R+1) (by rw[List.length_append,Hhl.out];rfl)
    injection e10 with e10a _ e10b
    subst e10a e10b
    have HR:=hide hR;have HH:=hide (show Rd w11 w11.heap.size Us.cells A10 (hs ++ [lastH at_]) from hH);have HX:=hide HT2.bx
    have hlen1:=hide (show R+1=(hs ++ [lastH at_]).length by rw[List.length_append,Hhl.out];rfl)
    clear y0 y1 f1 hw11 HT2 hK2 HX10 hR hH n8
    go_wp2_with fail
    refine(plan_any A Ar m _ R _ ns rs w11 (Hns.out.bel HB11.out) Hms.out hms2 HR.out (by omega)).mono ?_
    rintro e w12 ⟨vA,rfl,⟨ssA,oA,rA⟩,hb12⟩
    have H12:=hide (HB11.out.trans (hb12.mono HB11.out.size));have H11:=hide hb12
    obtain⟨A4,c4,rfl,pA⟩:=oA.rdn _ rfl
    have ssAl:ssA.length=(planF ns rs).1.length:=rA.len
    rw[ssAl]
    clear hb12 oA ssAl
    cases hro:rentsOk ns rs
    ·rw[tr_plan_bad hro]
     clear hro pA rA
     go_wp2_with fail
     go_returns
     exact⟨rfl,H12.out⟩
    have Hro:=hide (RentsOk.of hro)
    clear hro
    by_cases hf:(boR ns rs).Feas (capsR rs)
    rotate_left
    ·have hpn:=plan_none Hro.out hf
     rw[hpn]
     clear hpn hf pA rA
     go_wp2_with fail
     go_returns
     exact⟨rfl,H12.out⟩
    obtain⟨p,cst,hpf,hpl,_,_⟩:=plan_planned Hro.out hf
    rw[hpf] at rA ⊢
    have Hpl:=hide hpl
    have hpr:p.length=R:=by rw[hpl.len,HRl.out]
    have hp1:(p,cst,(0:Int)).1.length=R:=hpr
    rw[hp1]
    have PA:=hide pA;have RA:=hide rA;have Hpr:=hide hpr
    clear hpf hpl hpr hp1 hf pA rA
    go_wp2_with fail
    refine(rplanned_any A Ar A4 m _ R _ R _ ns rs ssA p w12 (Hns.out.bel H12.out) Hms.out Hro.out (HR.out.bel H11.out) Hpr.out.symm PA.out RA.out).mono ?_
    rintro e w13 ⟨c',bb,rfl,_,hnn,hb13⟩
    have H13:=hide (H12.out.trans (hb13.mono H12.out.size));have H113:=hide (H11.out.trans (hb13.mono H11.out.size));have H213:=hide hb13
    cases bb
    ·exact absurd Hpl.out (hnn rfl).1
    have HXd:=hide (HX.out.bel H113.out);have HHd:=hide (HH.out.bel H113.out)
    have HPd:=hide (PA.out.bel H213.out)
    have HRd:=hide ((RA.out.below H213.out).more H213.out.size)
    clear hnn hb13
    go_wp2_with fail
    go_loopw [159,21] (fun kv dv wr=>∃(k:Nat) (vd:Value),vd=dv∧k≤R∧kv= .int .i64 k∧Hid (Own wr w13.heap.size 73 9 Dv.cells vd (allD (hs ++ [lastH at_]) p k))∧Hid (Below w13.heap.size w13 wr)) (fun kv _ _=>R-(intOf kv).toNat)
    case atStart=>exact⟨0,_,rfl,by omega,rfl,hide (Own.nil _ _ _ _ _),hide (Below.refl _ _)⟩
    case round=>
     obtain⟨k,vd,rfl,hk,rfl,HD,Hb⟩:=hrel
     obtain⟨wq,rfl⟩:∃wq,wq=wr:=⟨wr,rfl⟩
     obtain⟨y0,y1⟩:=(HXd.out.bel Hb.out).at_.c2
     by_cases hlt:k < R
     ·obtain⟨hrl,hal,hbd⟩:=row_bd HO.out Hro.out.nl Hpl.out (i:=k) (by rw[HRl.out];exact hlt)
      obtain⟨row,hrow⟩:∃row,row=p.getD k []:=⟨_,rfl⟩
      obtain⟨ba,oa,sa,sn,sc,rfl,_,hsx,cx4⟩:=(HPd.out.bel Hb.out).sl (i:=k) (by rw[HRd.out.len];have:=Hpr.out;omega)
      have hpk:p[k]?=some row:=by rw[hrow,List.getD_eq_getElem?_getD,List.getElem?_eq_getElem (by have:=Hpr.out;omega)];rfl
      obtain⟨hsn,hrr⟩:=HRd.out.row k _ row hsx hpk
      obtain⟨bh,oh,f,s,t,rfl,_,hxh,c0,c1,c2⟩:=(HHd.out.bel Hb.out).us (i:=k) (by have:=hlen1.out;omega)
      have hfs:frmAt (hs ++ [lastH at_]) k=s:=by unfold frmAt;rw[List.getD_eq_getElem?_getD,hxh];rfl
      rw[←hrow] at hrl hbd
      rw[hfs] at hbd
      have hsn2:sn=m:=by have h:sn=row.length:=hsn;rw[h,hrl,Hms.out]
      subst hsn2
      have Hbd:=hide hbd;have Hrow:=hide hrow;have Hrl:=hide hrl;have Hfs:=hide hfs;have HRr:=hide hrr;have Hal:=hide hal
      have ik:(k:Int) < (R:Int):=by omega
      have ik1:(k:Int) < (R:Int)+1:=by omega
      have ik2:k < R+1:=by omega
      clear hbd hrow hrl hfs hrr hsn hsx hpk hxh hal
      go_wp2_with fail
      clear y0 y1 cx4 c0 c1 c2
      go_loopw [173,21,24] (fun jv dv nv wr=>∃(j:Nat) (vd:Value) (now:Int),vd=dv∧j≤sn∧jv= .int .i64 j∧nv= .int .i64 now∧Hid (now=(rowD row k (allD (hs ++ [lastH at_]) p k) s j).2)∧Hid (Own wr w13.heap.size 73 9 Dv.cells vd (rowD row k (allD (hs ++ [lastH at_]) p k) s j).1)∧Hid (Below w13.heap.size w13 wr)) (fun jv _ _ _=>sn-(intOf jv).toNat)
      case atStart=>exact⟨0,vd,s,rfl,by omega,rfl,rfl,hide rfl,HD,Hb⟩
      case round=>
       clear HD Hb
       obtain⟨j,vd,now,rfl,hj,rfl,rfl,Hnow,HD,Hb⟩:=hrel
       obtain⟨wp,rfl⟩:∃wp,wp=wr:=⟨wr,rfl⟩
       by_cases hjm:j < sn
       ·obtain⟨n0,n1,n2,n3⟩:=Hbd.out j (by have:=Hms.out;omega)
        obtain⟨g0,g1⟩:=n3 (by have:=Hms.out;omega)
        rw[←Hnow.out] at n0 n1
        obtain⟨bx,ox,g,rfl,_,hgx,cx⟩:=((HRr.out).below Hb.out).int (i:=j) (by rw[Hrl.out];have:=Hms.out;omega)
        have hgg:row.getD j 0=g:=by rw[List.getD_eq_getElem?_getD,hgx];rfl
        rw[hgg] at g0 g1
        have ij:(j:Int) < (sn:Int):=by omega
        have Hgg:=hide hgg
        obtain⟨Ld,hLd⟩:∃L,(rowD row k (allD (hs ++ [lastH at_]) p k) s j).1.length=L:=⟨_,rfl⟩
        obtain⟨Ad,cd,rfl,_⟩:=HD.out.rdn Ld hLd
        rw[hLd] at n2
        have HLd:=hide hLd
        have Hsz:=Hb.out.size
        clear n3 hgx hgg hLd
        by_cases hg:0 < g
        ·have Hs:Hid (rowD row k (allD (hs ++ [lastH at_]) p k) s (j+1)=((rowD row k (allD (hs ++ [lastH at_]) p k) s j).1 ++ [dOf Ld k j now g],now+g)):=hide (by show(if 0 < row.getD j 0 then _ else _)=_;rw[Hgg.out,if_pos hg,←Hnow.out,HLd.out])
         have f1:IntKind.i64.wrap (100+(k:Int))=100+(k:Int):=wrapI (by omega)
         have f2:IntKind.i64.wrap (1+(j:Int))=1+(j:Int):=wrapI (by omega)
         have f3:IntKind.i64.wrap (now+g)=now+g:=wrapI (by omega)
         have hll:(rowD row k (allD (hs ++ [lastH at_]) p k) s j).1.length+1≤1000000:=by rw[HLd.out];omega
         go_wp2_with (at_builtin;go_loud (refine wpList_app1l (v:= .slice Ad Ld cd) (xs:=(rowD row k (allD (hs ++ [lastH at_]) p k) s j).1) (base:=w13.heap.size) (k:=9) (bytes:=88) (E:=73) el_dv rfl (.tmp 180) (.tmp 193) rfl rfl rfl HD.out (dOf Ld k j now g) rfl hll Hsz ?_);intro v' w10' o10 k10 hat;have O10:=hide o10;have K10:=hide k10;clear o10 k10 hat)
         have hK:Below w13.heap.size w13 w10':=Hb.out.trans (K10.out.below (fun b hb e=>by have:=(HD.out.blockG e).1;omega) Hsz)
         exact⟨⟨j+1,v',now+g,rfl,by omega,by go_num,rfl,hide (by rw[Hs.out]),hide (by rw[Hs.out];exact O10.out),hide hK⟩,by simp[intOf];omega⟩
        ·have Hs:Hid (rowD row k (allD (hs ++ [lastH at_]) p k) s (j+1)=rowD row k (allD (hs ++ [lastH at_]) p k) s j):=hide (by show(if 0 < row.getD j 0 then _ else _)=_;rw[Hgg.out,if_neg hg])
         go_wp2_with fail
         exact⟨⟨j+1,_,now,rfl,by omega,by go_num,rfl,hide (by rw[Hs.out];exact Hnow.out),hide (by rw[Hs.out];exact HD.out),Hb⟩,by simp[intOf];omega⟩
       ·obtain rfl:sn=j:=by omega
        have Hs:Hid (allD (hs ++ [lastH at_]) p (k+1)=(rowD row k (allD (hs ++ [lastH at_]) p k) s sn).1):=hide (by show(rowD _ _ _ _ _).1=_;rw[←Hrow.out,Hfs.out,Hrl.out,Hms.out])
        go_wp2_with fail
        exact⟨⟨k+1,vd,rfl,by omega,by go_num,hide (by rw[Hs.out];exact HD.out),Hb⟩,by simp[intOf];omega⟩
     ·obtain rfl:R=k:=by omega
      obtain⟨ds,hds⟩:∃ds,ds=allD (hs ++ [lastH at_]) p R:=⟨_,rfl⟩
      have hok:DeedsOk (hs ++ [lastH at_]) ns ds:=by rw[hds,←HRl.out];exact HO.out.deeds Hro.out.nl Hpl.out
      obtain⟨n,hn⟩:∃n,ds.length=n:=⟨_,rfl⟩
      have HDs:=HD.out
      rw[←hds] at HDs
      obtain⟨Ad,cd,rfl,hdr⟩:=HDs.rdn n hn
      have hn56:n≤56:=by rw[←hn];exact hok.len
      have HOK:=hide hok;have Hn:=hide hn;have HDr:=hide hdr
      have Hbq:=hide (H13.out.trans (Hb.out.mono H13.out.size))
      have HXq:=hide (HXd.out.bel Hb.out);have HHq:=hide (HHd.out.bel Hb.out)
      have d60:decide (60 < (n:Int))=false:=decide_eq_false (by omega)
      have d60b:¬(60:Int) < (n:Int):=by omega
      have Hrun:=hide (HO.out.run_len hok)
      obtain⟨ps,hps⟩:∃ps,ps=runP ds ((hs ++ [lastH at_]).map pcOf):=⟨_,rfl⟩
      have HPS:=hide hps
      clear hds hok hn HDs hdr HD hps
      go_wp2_with fail
      refine(deRead_rents 1 1 A10 Ad (R+1) _ n _ (hs ++ [lastH at_]) ds wq HO.out.rolls hlen1.out HHq.out HDr.out Hn.out.symm (by omega) HOK.out.val HOK.out.dist HOK.out.ord (HOK.out.run 1 (by omega))).mono ?_
      rintro e w14 ⟨v1,v2,rfl,o1,o2,hb14⟩
      have Hb14:=hide (Hbq.out.trans (hb14.mono Hbq.out.size))
      have HX14:=hide (HXq.out.bel hb14);have HH14:=hide (HHq.out.bel hb14);have HD14:=hide (HDr.out.bel hb14)
      obtain⟨Aw,cw,rfl,hwy⟩:=o2.rdn n (by simp)
      obtain⟨Aq,cq,rfl,_⟩:=o1.rdn n Hn.out
      have HWy:=hide hwy
      clear o1 o2 hwy hb14 y0 y1
      obtain⟨y0,y1⟩:=HX14.out.at_.c2
      go_wp2_with fail
      refine(deOwners_rents 1 1 A10 Ad (R+1) _ n _ (hs ++ [lastH at_]) ds w14 HO.out.rolls hlen1.out HH14.out HD14.out Hn.out.symm (by omega) (by decide) HOK.out.val HOK.out.dist HOK.out.ord (HOK.out.run 1 (by omega)) Hrun.out.2 (by have:=Hrun.out.1;omega)).mono ?_
      rintro e w15 ⟨v1,v2,rfl,o2,hb15⟩
      have Hb15:=hide (Hb14.out.trans (hb15.mono Hb14.out.size))
      have HX15:=hide (HX14.out.bel hb15);have HH15:=hide (HH14.out.bel hb15);have HD15:=hide (HD14.out.bel hb15);have HW15:=hide (HWy.out.bel hb15)
      obtain⟨us,hus⟩:∃us,us=runsF (fun p=>p.user 1) (runP ds ((hs ++ [lastH at_]).map pcOf)):=⟨_,rfl⟩
      rw[←hus] at o2
      obtain⟨nu,hnu⟩:∃nu,us.length=nu:=⟨_,rfl⟩
      obtain⟨Au,cu,rfl,huy⟩:=o2.rdn nu hnu
      have HUy:=hide huy;have Hus:=hide hus;have Hnu:=hide hnu
      have hnu2:nu≤201:=by have h1:=runsF_len (fun p=>p.user 1) (runP ds ((hs ++ [lastH at_]).map pcOf));rw[←hus,hnu] at h1;have:=Hrun.out.1;omega
      clear o2 huy hus hnu hb15 y0 y1
      obtain⟨y0,y1⟩:=HX15.out.at_.c2
      go_wp2_with fail
      refine(deShares_rents 1 1 A10 none (R+1) _ 0 _ (hs ++ [lastH at_]) [] w15 HO.out.rolls hlen1.out HH15.out (fun h=>by simp at h) rfl (by omega) (by decide) (fun d hd=>by simp at hd) (fun j k x y _ h=>by simp at h) ord_nil trivial 1440 (by decide) HO.out.chain (by show((hs ++ [lastH at_]).map pcOf).length≤1000;rw[List.length_map,←hlen1.out];omega) (by show 1≤((hs ++ [lastH at_]).map pcOf).length;rw[List.length_map,←hlen1.out];omega) (fun q hq=>HO.out.own99 hq)).mono ?_
      rintro e w16 ⟨vs1,l1,rfl,os1,hsh1,hb16⟩
      have Hb16:=hide (Hb15.out.trans (hb16.mono Hb15.out.size))
      have HX16:=hide (HX15.out.bel hb16);have HH16:=hide (HH15.out.bel hb16);have HD16:=hide (HD15.out.bel hb16);have HW16:=hide (HW15.out.bel hb16);have HU16:=hide (HUy.out.bel hb16)
      obtain⟨n1,hn1⟩:∃n1,l1.length=n1:=⟨_,rfl⟩
      obtain⟨As1,cs1,rfl,hs1y⟩:=os1.rdn n1 hn1
      have HS1:=hide hs1y;have Hsh1:=hide hsh1;have Hn1:=hide hn1
      clear os1 hs1y hsh1 hn1 hb16 y0 y1
      obtain⟨y0,y1⟩:=HX16.out.at_.c2
      go_wp2_with fail
      refine(deShares_rents 1 1 A10 Ad (R+1) _ n _ (hs ++ [lastH at_]) ds w16 HO.out.rolls hlen1.out HH16.out HD16.out Hn.out.symm (by omega) (by decide) HOK.out.val HOK.out.dist HOK.out.ord (HOK.out.run 1 (by omega)) 1440 (by decide) HOK.out.ch (by have:=Hrun.out.1;omega) Hrun.out.2 (fun q hq=>HO.out.run_own HOK.out hq)).mono ?_
      rintro e w17 ⟨vs2,l2,rfl,os2,hsh2,hb17⟩
      have Hb17:=hide (Hb16.out.trans (hb17.mono Hb16.out.size))
      have HW17:=hide (HW16.out.bel hb17);have HU17:=hide (HU16.out.bel hb17);have HS17:=hide (HS1.out.bel hb17)
      obtain⟨n2,hn2⟩:∃n2,l2.length=n2:=⟨_,rfl⟩
      obtain⟨As2,cs2,rfl,hs2y⟩:=os2.rdn n2 hn2
      have hl12:l1=l2:=Hsh1.out.uniq hsh2 (fun who=>(HOK.out.own who).symm)
      have HS2:=hide hs2y;have Hn2:=hide hn2
      have HL12:=hide hl12
      have hl91:n1≤9:=by rw[←Hn1.out];exact Hsh1.out.len9 HO.out.chain (fun q hq=>HO.out.own99 hq)
      have hl92:n2≤9:=by rw[←hn2];exact hsh2.len9 HOK.out.ch (fun q hq=>HO.out.run_own HOK.out hq)
      have hss:=same_Sp As1 As2 l1 l2 n1 cs1 n2 cs2 w17 Hn1.out.symm hn2.symm (by omega) (by omega) HS17.out hs2y
      rw[decide_eq_true hl12] at hss
      have HSS:=hide hss
      clear os2 hs2y hsh2 hn2 hb17 y0 y1 hl12 hss
      go_wp2_with fail
      refine HSS.out.mono ?_
      rintro e w18 ⟨rfl,hb18⟩
      have Hb18:=hide (Hb17.out.trans (hb18.mono Hb17.out.size))
      have HW18:=hide (HW17.out.bel hb18);have HU18:=hide (HU17.out.bel hb18)
      clear hb18
      go_wp2_with fail
      go_loopw [251] (fun iv wr=>∃i:Nat,i≤n∧iv= .int .i64 i∧w18=wr) (fun iv _=>n-(intOf iv).toNat)
      case atStart=>exact⟨0,by omega,rfl,by first | rfl | trivial⟩
      case round=>
       obtain⟨i,hi,rfl,rfl⟩:=hrel
       by_cases hin:i < n
       ·obtain⟨bw,ow,rfl,cw0⟩:=HW18.out.u8z hin
        have ik:(i:Int) < (n:Int):=by omega
        go_wp2_with fail
        exact⟨⟨i+1,by omega,by go_num,by first | rfl | trivial⟩,by simp[intOf];omega⟩
       ·obtain rfl:n=i:=by omega
        go_wp2_with fail
        go_loopw [260] (fun kv wr=>∃k:Nat,k≤m∧kv= .int .i64 k∧Hid (Below w18.heap.size w18 wr)) (fun kv _=>m-(intOf kv).toNat)
        case atStart=>exact⟨0,by omega,rfl,hide (Below.refl _ _)⟩
        case round=>
         obtain⟨k,hk,rfl,Hb⟩:=hrel
         obtain⟨wp,rfl⟩:∃wp,wp=wr:=⟨wr,rfl⟩
         have Hb0:=hide (Hb18.out.trans (Hb.out.mono Hb18.out.size))
         by_cases hkm:k < m
         ·obtain⟨bx,ox,g,rfl,_,hgx,cx⟩:=(Hns.out.bel Hb0.out).int (i:=k) (by rw[←Hms.out];exact hkm)
          have hg:0≤g∧g≤23040:=Hro.out.n g (List.mem_of_getElem? hgx)
          have huse:=HOK.out.use k (by rw[←Hms.out];exact hkm)
          rw[←Hus.out,List.getD_eq_getElem?_getD,hgx] at huse
          have huse2:sumH (1+(k:Int)) us=g:=huse
          have Huse:=hide huse2
          have ik:(k:Int) < (m:Int):=by omega
          clear hgx huse huse2
          go_wp2_with fail
          clear cx
          go_loopw [267,40] (fun jv mv wr=>∃(j:Nat) (mm:Int),j≤nu∧jv= .int .i64 j∧mv= .int .i64 mm∧Hid (mm=g-sumH (1+(k:Int)) (us.take j))∧Hid (Below w18.heap.size w18 wr)) (fun jv _ _=>nu-(intOf jv).toNat)
          case atStart=>exact⟨0,g,by omega,rfl,rfl,hide (by simp[sumH]),Hb⟩
          case round=>
           clear Hb0 Hb
           obtain⟨j,mm,hj,rfl,rfl,Hmm,Hb⟩:=hrel
           obtain⟨wj,rfl⟩:∃wj,wj=wr:=⟨wr,rfl⟩
           by_cases hjn:j < nu
           ·obtain⟨bu,ou,f,s,t,rfl,_,hxu,c0,c1,c2⟩:=(HU18.out.bel Hb.out).us (i:=j) (by rw[Hnu.out];exact hjn)
            have hub:=runsF_bd (fun p=>p.user 1) HOK.out.ch
            rw[←Hus.out] at hub
            have hu1:0≤s∧s≤t∧t≤1440:=hub _ (List.mem_of_getElem? hxu)
            have hsb:=sumH_bd (1+(k:Int)) 1440 (us.take j) (fun u hu=>hub u (List.mem_of_mem_take hu)) (by omega)
            rw[List.length_take,Nat.min_eq_left (by rw[Hnu.out];omega)] at hsb
            have hmb: -300000≤mm∧mm≤23040:=by rw[Hmm.out];omega
            have hsn:sumH (1+(k:Int)) (us.take (j+1))=sumH (1+(k:Int)) (us.take j)+if f=1+(k:Int) then t-s else 0:=by rw[take_snoc hxu,sumH_snoc]
            have Hsn:=hide hsn
            have ij:(j:Int) < (nu:Int):=by omega
            have f1:IntKind.i64.wrap (1+(k:Int))=1+(k:Int):=wrapI (by omega)
            have f2:IntKind.i64.wrap (t-s)=t-s:=wrapI (by omega)
            have f3:IntKind.i64.wrap (mm-(t-s))=mm-(t-s):=wrapI (by omega)
            obtain⟨b42,w42,e42,ew42,hx42,hb42,hz42⟩:=mk_bx wj #[.int .i64 f,.int .i64 s,.int .i64 t] 63
            obtain⟨q0,q1,q2⟩:=hx42.at_.c3
            have HBn:=hide (Hb.out.trans (hb42.mono Hb.out.size))
            clear hub hsb hsn hxu hx42 hb42 hz42 Hb
            go_upto_region 65 with fail
            rw[ew42.out,e42.out]
            clear c0 c1 c2 ew42 e42
            by_cases hf:f=1+(k:Int)
            ·have Hsn2:=hide (show mm-(t-s)=g-sumH (1+(k:Int)) (us.take (j+1)) by rw[Hsn.out,if_pos hf,Hmm.out];omega)
             subst hf
             go_wp2_with fail
             exact⟨⟨j+1,_,by omega,by go_num,rfl,Hsn2,HBn⟩,by simp[intOf];omega⟩
            ·have Hsn2:=hide (show mm=g-sumH (1+(k:Int)) (us.take (j+1)) by rw[Hsn.out,if_neg hf,Hmm.out];omega)
             go_wp2_with fail
             exact⟨⟨j+1,_,by omega,by go_num,rfl,Hsn2,HBn⟩,by simp[intOf];omega⟩
           ·obtain rfl:nu=j:=by omega
            have hm0:mm=0:=by rw[Hmm.out,List.take_of_length_le (by rw[Hnu.out];exact Nat.le_refl _),Huse.out];omega
            clear Hmm
            subst hm0
            go_wp2_with fail
            exact⟨⟨k+1,by omega,by go_num,Hb⟩,by simp[intOf];omega⟩
         ·obtain rfl:m=k:=by omega
          go_wp2_with fail
          go_returns
          exact⟨rfl,Hb0.out⟩
   ·have hmr:1≤mm:=by omega
    obtain⟨Ar,cr,rfl,_⟩:=HT.out.orr.rdn k hrl
    obtain⟨y0,y1⟩:=HT.out.bx.at_.c2
    have f1:=HT.out.bx.fz 1
    have hhl:hs.length=k:=by rw[HO.out.len,hrl]
    have hlh:hs.length+1≤1000000:=by omega
    have hbz:w3.heap.size≤wo.heap.size:=HK.out.size
    have hb8l:=HT.out.b8l
    have h8o:b8 < wo.heap.size:=by omega
    have g1:IntKind.i64.wrap (100+(k:Int))=100+(k:Int):=wrapI (by omega)
    have g2:IntKind.i64.wrap (at_+mm)=at_+mm:=wrapI (by omega)
    have hmle:at_+mm≤1439:=by omega
    have Hhl:=hide hhl;have Hrl:=hide hrl
    clear hrl hhl
    clear hmc
    go_upto_region 15 with(at_builtin;go_loud (refine wpList_app1l (v:=vh) (xs:=hs) (base:=w3.heap.size) (k:=3) (bytes:=24) (E:=63) el_hold rfl (.tmp 73) (.tmp 82) rfl rfl rfl HT.out.oh ⟨100+(k:Int),at_,at_+mm⟩ rfl hlh hbz ?_);intro v10 w10 o10 k10 hat10;have n8:¬vh.ownBlock=some b8:=(fun e=>by have:=(HT.out.oh.blockG e).1;omega);have y1:=(k10.cell (p:=⟨b8,1,none⟩) n8 h8o).trans y1;have f1:=(k10.frozen (p:=⟨b8,1,none⟩) n8 h8o).trans f1;have HX10:=hide (HT.out.hold ⟨100+(k:Int),at_,at_+mm⟩ o10 k10 hat10);obtain⟨A10,c10,rfl,_⟩:=o10.rdn (k+1) (by rw[List.length_append,Hhl.out];rfl);clear o10 k10 hat10)
    obtain⟨w11,hw11⟩:∃w11,w10.setCell ⟨b8,1,none⟩ (.slice A10 (k+1) c10)=w11:=⟨_,rfl⟩
    obtain⟨HT2,hK2⟩:=HX10.out
    rw[hw11] at HT2 hK2 ⊢
    have HB11:=hide (HBo.out.trans (hK2.below (B:=w.heap.size) (fun q hq=>⟨by have:=HB3.out.size;omega,by omega⟩) HBo.out.size))
    have HK11:=hide (HK.out.trans (hK2.mono fun q _ hq=>hq))
    have HT11:=hide HT2
    have g3:IntKind.i64.wrap (2*(k:Int))=2*(k:Int):=wrapI (by omega)
    have HNT:=hide (tnth_any C nb cb bys (2*(k:Int)) w11 Hnb.out H32.out (Hby.out.bel HB11.out) hnb2 (by omega) (by omega))
    clear y0 y1 f1 hw11 HT2 hK2 HX10 n8
    go_wp2_with fail
    refine HNT.out.mono ?_
    rintro e w12 ⟨m1,rfl,hm1b,hb12⟩
    have HB12:=hide (HB11.out.trans (hb12.mono HB11.out.size))
    have HT12:=hide (HT11.out.bel hb12)
    have HK12:=hide (HK11.out.trans (Kept.all (fun q=>q < w3.heap.size∧q≠b8) hb12))
    obtain⟨r2,hr2⟩:∃r2,r2=(m1:Int) % 50:=⟨_,rfl⟩
    have hr20:0≤r2∧r2 < 50:=by rw[hr2];exact⟨Int.emod_nonneg _ (by omega),Int.emod_lt_of_pos _ (by omega)⟩
    have u1:Int.tmod (m1:Int) 50=r2:=by rw[Int.tmod_eq_emod_of_nonneg (by omega),hr2]
    have u2:(m1:Int) % 50=r2:=hr2.symm
    have u3:IntKind.u32.wrap r2=r2:=trWrapU (by omega)
    have u4:IntKind.i64.wrap r2=r2:=wrapI (by omega)
    obtain⟨b14,w14,e14,ew14,hx14,hb14,hz14⟩:=mk_bx w12 #[.int .i64 mm,.int .i64 r2,.slice none 0 0] 65
    have HB14:=hide (HB12.out.trans (hb14.mono HB12.out.size))
    have HT14:=hide (HT12.out.bel hb14)
    have HK14:=hide (HK12.out.trans (Kept.all (fun q=>q < w3.heap.size∧q≠b8) hb14))
    have HX14:=hide hx14
    have hl14:=hx14.lt
    have hb14g:w12.heap.size≤b14:=by have:=e14.out;omega
    have hs12:=HB12.out.size
    have HB1214:=hide hb14
    have hs1214:=hb14.size
    have hs312:=HK12.out.size
    clear hr2 hb12 hx14 hb14 hz14 HNT
    go_upto_region 16 with fail
    rw[ew14.out,e14.out]
    clear ew14 e14 u1 u2 u3 u4
    go_wp2_with fail
    go_loopw [95] (fun jv wr=>∃(j:Nat) (vf:Value) (fl:List Int),j≤m∧jv= .int .i64 j∧fl.length≤j∧Hid (Bx wr b14 [.int .i64 mm,.int .i64 r2,vf])∧Hid (Own wr w14.heap.size 3 1 icell vf fl)∧Hid (Kept (fun q=>q < w14.heap.size∧q≠b14) w14 wr)) (fun jv _=>m-(intOf jv).toNat)
    case atStart=>exact⟨0,_,[],by omega,rfl,by simp,HX14,hide (Own.nil _ _ _ _ _),hide (Kept.refl _ _)⟩
    case round=>
     clear HX14
     obtain⟨j,vf,fl,hj,rfl,hfl,HX,HF,HKj⟩:=hrel
     obtain⟨wj,rfl⟩:∃wj,wj=wr:=⟨wr,rfl⟩
     by_cases hjm:j < m
     ·have HBj:=hide (HB14.out.trans (HKj.out.below (B:=w.heap.size) (fun q hq=>⟨by have:=HB14.out.size;omega,by omega⟩) HB14.out.size))
      have g4:IntKind.i64.wrap (2*(k:Int)+1)=2*(k:Int)+1:=wrapI (by omega)
      have HNT:=hide (tnth_any C nb cb bys (2*(k:Int)+1) wj Hnb.out H32.out (Hby.out.bel HBj.out) hnb2 (by omega) (by omega))
      have ij:(j:Int) < (m:Int):=by omega
      go_wp2_with fail
      refine HNT.out.mono ?_
      rintro e wn ⟨m2,rfl,hm2b,hbn⟩
      have HXn:=hide (HX.out.bel hbn)
      have HFn:=hide (HF.out.bel hbn)
      have HKn:=hide (HKj.out.trans (Kept.all (fun q=>q < w14.heap.size∧q≠b14) hbn))
      clear hbn HNT
      have hfl1:fl.length+1≤1000000:=by omega
      have hsn:w14.heap.size≤wn.heap.size:=HKn.out.size
      cases hbit:(bits BinOp.and IntKind.u32 ((m2:Int) / 2 ^ j) 1 == 1)
      ·go_wp2_with fail
       exact⟨⟨j+1,vf,fl,by omega,by go_num,by omega,HXn,HFn,HKn⟩,by simp[intOf];omega⟩
      ·obtain⟨z0,z1,z2⟩:=HXn.out.at_.c3
       have fz:=HXn.out.fz 2
       go_wp2_with (at_builtin;go_loud (refine wpList_app1l (v:=vf) (xs:=fl) (base:=w14.heap.size) (k:=1) (bytes:=8) (E:=3) el_int rfl (.tmp 108) (.tmp 110) rfl rfl rfl HFn.out (j:Int) rfl hfl1 hsn ?_);intro v10' w10' o10 k10 hat10;go_loud (have nf:¬vf.ownBlock=some b14:=(fun e=>by have:=(HFn.out.blockG e).1;omega));go_loud (have z2:=(k10.cell (p:=⟨b14,2,none⟩) nf (by show b14 < _;omega)).trans z2);go_loud (have fz:=(k10.frozen (p:=⟨b14,2,none⟩) nf (by show b14 < _;omega)).trans fz);go_loud (have HXm:=hide ((HXn.out.kept k10 nf).set (j:=2) v10' (by simp)));go_loud (have HFm:=hide (o10.setCell (p:=⟨b14,2,none⟩) (fun e=>by have h9:w14.heap.size≤b14:=(o10.blockG e).1;omega) v10'));go_loud (have HKm:=hide (HKn.out.trans ((k10.mono (R':=fun q=>q < w14.heap.size∧q≠b14) fun q _ hq e=>by have:=(HFn.out.blockG e).1;omega).trans ((Kept.setCell w10' ⟨b14,2,none⟩ v10').mono fun q _ hq=>hq.2))));go_loud (obtain⟨Af,cf,rfl,_⟩:=o10.rdn (fl.length+1) (by simp));clear o10 k10 hat10)
       exact⟨⟨j+1,_,fl ++ [(j:Int)],by omega,by go_num,by simp;omega,HXm,HFm,HKm⟩,by simp[intOf];omega⟩
     ·obtain rfl:m=j:=by omega
      obtain⟨F,hF⟩:∃F,fl.length=F:=⟨_,rfl⟩
      obtain⟨Af,cf,rfl,_⟩:=HF.out.rdn F hF
      have hF8:F≤8:=by omega
      have K12:=hide (((Kept.all (fun q=>q < w12.heap.size) HB1214.out).trans (HKj.out.mono fun q _ (hq:q < w12.heap.size)=>⟨by omega,by omega⟩)))
      have HTj:=hide (HT12.out.kept K12.out (by show b8 < _;omega) (fun q _ hq=>hq))
      obtain⟨q,hq⟩:∃q:Rr,q=⟨mm,r2,Af,F,cf,fl⟩:=⟨_,rfl⟩
      have Hrow:=hide (show q.n=q.fs.length∧q.n≤8∧Own wj w14.heap.size 3 1 icell (.slice q.A q.n q.c) q.fs by rw[hq];exact⟨hF.symm,hF8,HF.out⟩)
      have hqm:q.mi=mm:=by rw[hq]
      have Hq:=hide hq
      have HF':=hide hF
      have hrl1:rs.length+1≤1000000:=by rw[Hrl.out];omega
      have hsj:w3.heap.size≤wj.heap.size:=by have:=HKj.out.size;omega
      obtain⟨z0,z1,z2⟩:=HX.out.at_.c3
      clear hq hF
      go_wp2_with (at_builtin;go_loud (refine wpList_app1l (v:= .slice Ar k cr) (xs:=rs) (base:=w3.heap.size) (k:=3) (bytes:=40) (E:=65) el_rentT rfl (.tmp 114) (.tmp 116) rfl rfl rfl HTj.out.orr q (by rw[Hq.out];rfl) hrl1 hsj ?_);intro v20 w20 o20 k20 hat20;have HN20:=hide (HTj.out.rent q w14.heap.size (fun g hg=>by
       have:g < w12.heap.size:=by
        rcases hg.2 with h | h | ⟨r,hr,h⟩
        ·exact(HT12.out.oh.blockG h).2
        ·exact(HT12.out.orr.blockG h).2
        ·exact((HT12.out.row r hr).2.2.blockG h).2
       omega) Hrow.out (by omega) o20 k20 hat20);clear o20 k20 hat20)
      have hKn:=HK12.out.trans ((K12.out.mono (R':=fun q=>q < w3.heap.size∧q≠b8) fun q _ hq=>by show q < w12.heap.size;have:=hq.1;omega).trans (HN20.out.2.mono fun q _ hq=>hq.1))
      have hON:=HO.out.snoc (m:=mm) (r:=q) (by rw[Hrl.out];omega) hmr hmle hqm
      rw[Hrl.out] at hON
      exact⟨⟨k+1,at_+mm,_,v20,_,rs ++ [q],rfl,by omega,by go_num,rfl,by rw[List.length_append,Hrl.out];rfl,by omega,hide hON,hide HN20.out.1,hide hKn⟩,by simp[intOf];omega⟩
  ·obtain rfl:nl=k:=by omega
   have Hrl:=hide hrl
   clear hrl
   go_upto_region 25 with fail
   have hr7:=HO.out.r7
   obtain⟨R,hRl⟩:∃R,rs.length=R:=⟨_,rfl⟩
   have hR7:R≤7:=by omega
   have HRl:=hide hRl
   obtain⟨Ar,cr,rfl,_⟩:=HT.out.rents hRl
   have hhl:hs.length=R:=by rw[HO.out.len,hRl]
   have Hhl:=hide hhl
   have hlh:hs.length+1≤1000000:=by omega
   clear hr7 hRl hhl
   obtain⟨y0,y1⟩:=HT.out.bx.at_.c2
   have f1:=HT.out.bx.fz 1
   have hbz:w3.heap.size≤wo.heap.size:=HK.out.size
   have hb8l:=HT.out.b8l
   have h8o:b8 < wo.heap.size:=by omega
   go_upto_region 26 with(at_builtin;go_loud (refine wpList_app1l (v:=vh) (xs:=hs) (base:=w3.heap.size) (k:=3) (bytes:=24) (E:=63) el_hold rfl (.tmp 123) (.tmp 127) rfl rfl rfl HT.out.oh ⟨99,at_,1440⟩ rfl hlh hbz ?_);intro v10 w10 o10 k10 hat10;have n8:¬vh.ownBlock=some b8:=(fun e=>by have:=(HT.out.oh.blockG e).1;omega);have y1:=(k10.cell (p:=⟨b8,1,none⟩) n8 h8o).trans y1;have f1:=(k10.frozen (p:=⟨b8,1,none⟩) n8 h8o).trans f1;have HX10:=hide (HT.out.hold ⟨99,at_,1440⟩ o10 k10 hat10);obtain⟨A10,c10,rfl,_⟩:=o10.rdn (R+1) (by rw[List.length_append,Hhl.out];rfl);clear o10 k10 hat10)
   obtain⟨w11,hw11⟩:∃w11,w10.setCell ⟨b8,1,none⟩ (.slice A10 (R+1) c10)=w11:=⟨_,rfl⟩
   obtain⟨HT2,hK2⟩:=HX10.out
   rw[hw11] at HT2 hK2 ⊢
   have HB11:=hide (HBo.out.trans (hK2.below (B:=w.heap.size) (fun q hq=>⟨by have:=HB3.out.size;omega,by omega⟩) HBo.out.size))
   obtain⟨_,_,e10,hR⟩:=HT2.rents HRl.out
   injection e10 with e10a _ e10b
   subst e10a e10b
   obtain⟨_,_,e10,hH⟩:=HT2.holds (R:=R+1) (by rw[List.length_append,Hhl.out];rfl)
   injection e10 with e10a _ e10b
   subst e10a e10b
   have HR:=hide hR;have HH:=hide (show Rd w11 w11.heap.size Us.cells A10 (hs ++ [lastH at_]) from hH);have HX:=hide HT2.bx
   have hlen1:=hide (show R+1=(hs ++ [lastH at_]).length by rw[List.length_append,Hhl.out];rfl)
   clear y0 y1 f1 hw11 HT2 hK2 HX10 hR hH n8
   go_wp2_with fail
   refine(plan_any A Ar m _ R _ ns rs w11 (Hns.out.bel HB11.out) Hms.out hms2 HR.out (by omega)).mono ?_
   rintro e w12 ⟨vA,rfl,⟨ssA,oA,rA⟩,hb12⟩
   have H12:=hide (HB11.out.trans (hb12.mono HB11.out.size));have H11:=hide hb12
   obtain⟨A4,c4,rfl,pA⟩:=oA.rdn _ rfl
   have ssAl:ssA.length=(planF ns rs).1.length:=rA.len
   rw[ssAl]
   clear hb12 oA ssAl
   cases hro:rentsOk ns rs
   ·rw[tr_plan_bad hro]
    clear hro pA rA
    go_wp2_with fail
    go_returns
    exact⟨rfl,H12.out⟩
   have Hro:=hide (RentsOk.of hro)
   clear hro
   by_cases hf:(boR ns rs).Feas (capsR rs)
   rotate_left
   ·have hpn:=plan_none Hro.out hf
    rw[hpn]
    clear hpn hf pA rA
    go_wp2_with fail
    go_returns
    exact⟨rfl,H12.out⟩
   obtain⟨p,cst,hpf,hpl,_,_⟩:=plan_planned Hro.out hf
   rw[hpf] at rA ⊢
   have Hpl:=hide hpl
   have hpr:p.length=R:=by rw[hpl.len,HRl.out]
   have hp1:(p,cst,(0:Int)).1.length=R:=hpr
   rw[hp1]
   have PA:=hide pA;have RA:=hide rA;have Hpr:=hide hpr
   clear hpf hpl hpr hp1 hf pA rA
   go_wp2_with fail
   refine(rplanned_any A Ar A4 m _ R _ R _ ns rs ssA p w12 (Hns.out.bel H12.out) Hms.out Hro.out (HR.out.bel H11.out) Hpr.out.symm PA.out RA.out).mono ?_
   rintro e w13 ⟨c',bb,rfl,_,hnn,hb13⟩
   have H13:=hide (H12.out.trans (hb13.mono H12.out.size));have H113:=hide (H11.out.trans (hb13.mono H11.out.size));have H213:=hide hb13
   cases bb
   ·exact absurd Hpl.out (hnn rfl).1
   have HXd:=hide (HX.out.bel H113.out);have HHd:=hide (HH.out.bel H113.out)
   have HPd:=hide (PA.out.bel H213.out)
   have HRd:=hide ((RA.out.below H213.out).more H213.out.size)
   clear hnn hb13
   go_wp2_with fail
   go_loopw [159,21] (fun kv dv wr=>∃(k:Nat) (vd:Value),vd=dv∧k≤R∧kv= .int .i64 k∧Hid (Own wr w13.heap.size 73 9 Dv.cells vd (allD (hs ++ [lastH at_]) p k))∧Hid (Below w13.heap.size w13 wr)) (fun kv _ _=>R-(intOf kv).toNat)
   case atStart=>exact⟨0,_,rfl,by omega,rfl,hide (Own.nil _ _ _ _ _),hide (Below.refl _ _)⟩
   case round=>
    obtain⟨k,vd,rfl,hk,rfl,HD,Hb⟩:=hrel
    obtain⟨wq,rfl⟩:∃wq,wq=wr:=⟨wr,rfl⟩
    obtain⟨y0,y1⟩:=(HXd.out.bel Hb.out).at_.c2
    by_cases hlt:k < R
    ·obtain⟨hrl,hal,hbd⟩:=row_bd HO.out Hro.out.nl Hpl.out (i:=k) (by rw[HRl.out];exact hlt)
     obtain⟨row,hrow⟩:∃row,row=p.getD k []:=⟨_,rfl⟩
     obtain⟨ba,oa,sa,sn,sc,rfl,_,hsx,cx4⟩:=(HPd.out.bel Hb.out).sl (i:=k) (by rw[HRd.out.len];have:=Hpr.out;omega)
     have hpk:p[k]?=some row:=by rw[hrow,List.getD_eq_getElem?_getD,List.getElem?_eq_getElem (by have:=Hpr.out;omega)];rfl
     obtain⟨hsn,hrr⟩:=HRd.out.row k _ row hsx hpk
     obtain⟨bh,oh,f,s,t,rfl,_,hxh,c0,c1,c2⟩:=(HHd.out.bel Hb.out).us (i:=k) (by have:=hlen1.out;omega)
     have hfs:frmAt (hs ++ [lastH at_]) k=s:=by unfold frmAt;rw[List.getD_eq_getElem?_getD,hxh];rfl
     rw[←hrow] at hrl hbd
     rw[hfs] at hbd
     have hsn2:sn=m:=by have h:sn=row.length:=hsn;rw[h,hrl,Hms.out]
     subst hsn2
     have Hbd:=hide hbd;have Hrow:=hide hrow;have Hrl:=hide hrl;have Hfs:=hide hfs;have HRr:=hide hrr;have Hal:=hide hal
     have ik:(k:Int) < (R:Int):=by omega
     have ik1:(k:Int) < (R:Int)+1:=by omega
     have ik2:k < R+1:=by omega
     clear hbd hrow hrl hfs hrr hsn hsx hpk hxh hal
     go_wp2_with fail
     clear y0 y1 cx4 c0 c1 c2
     go_loopw [173,21,24] (fun jv dv nv wr=>∃(j:Nat) (vd:Value) (now:Int),vd=dv∧j≤sn∧jv= .int .i64 j∧nv= .int .i64 now∧Hid (now=(rowD row k (allD (hs ++ [lastH at_]) p k) s j).2)∧Hid (Own wr w13.heap.size 73 9 Dv.cells vd (rowD row k (allD (hs ++ [lastH at_]) p k) s j).1)∧Hid (Below w13.heap.size w13 wr)) (fun jv _ _ _=>sn-(intOf jv).toNat)
     case atStart=>exact⟨0,vd,s,rfl,by omega,rfl,rfl,hide rfl,HD,Hb⟩
     case round=>
      clear HD Hb
      obtain⟨j,vd,now,rfl,hj,rfl,rfl,Hnow,HD,Hb⟩:=hrel
      obtain⟨wp,rfl⟩:∃wp,wp=wr:=⟨wr,rfl⟩
      by_cases hjm:j < sn
      ·obtain⟨n0,n1,n2,n3⟩:=Hbd.out j (by have:=Hms.out;omega)
       obtain⟨g0,g1⟩:=n3 (by have:=Hms.out;omega)
       rw[←Hnow.out] at n0 n1
       obtain⟨bx,ox,g,rfl,_,hgx,cx⟩:=((HRr.out).below Hb.out).int (i:=j) (by rw[Hrl.out];have:=Hms.out;omega)
       have hgg:row.getD j 0=g:=by rw[List.getD_eq_getElem?_getD,hgx];rfl
       rw[hgg] at g0 g1
       have ij:(j:Int) < (sn:Int):=by omega
       have Hgg:=hide hgg
       obtain⟨Ld,hLd⟩:∃L,(rowD row k (allD (hs ++ [lastH at_]) p k) s j).1.length=L:=⟨_,rfl⟩
       obtain⟨Ad,cd,rfl,_⟩:=HD.out.rdn Ld hLd
       rw[hLd] at n2
       have HLd:=hide hLd
       have Hsz:=Hb.out.size
       clear n3 hgx hgg hLd
       by_cases hg:0 < g
       ·have Hs:Hid (rowD row k (allD (hs ++ [lastH at_]) p k) s (j+1)=((rowD row k (allD (hs ++ [lastH at_]) p k) s j).1 ++ [dOf Ld k j now g],now+g)):=hide (by show(if 0 < row.getD j 0 then _ else _)=_;rw[Hgg.out,if_pos hg,←Hnow.out,HLd.out])
        have f1:IntKind.i64.wrap (100+(k:Int))=100+(k:Int):=wrapI (by omega)
        have f2:IntKind.i64.wrap (1+(j:Int))=1+(j:Int):=wrapI (by omega)
        have f3:IntKind.i64.wrap (now+g)=now+g:=wrapI (by omega)
        have hll:(rowD row k (allD (hs ++ [lastH at_]) p k) s j).1.length+1≤1000000:=by rw[HLd.out];omega
        go_wp2_with (at_builtin;go_loud (refine wpList_app1l (v:= .slice Ad Ld cd) (xs:=(rowD row k (allD (hs ++ [lastH at_]) p k) s j).1) (base:=w13.heap.size) (k:=9) (bytes:=88) (E:=73) el_dv rfl (.tmp 180) (.tmp 193) rfl rfl rfl HD.out (dOf Ld k j now g) rfl hll Hsz ?_);intro v' w10' o10 k10 hat;have O10:=hide o10;have K10:=hide k10;clear o10 k10 hat)
        have hK:Below w13.heap.size w13 w10':=Hb.out.trans (K10.out.below (fun b hb e=>by have:=(HD.out.blockG e).1;omega) Hsz)
        exact⟨⟨j+1,v',now+g,rfl,by omega,by go_num,rfl,hide (by rw[Hs.out]),hide (by rw[Hs.out];exact O10.out),hide hK⟩,by simp[intOf];omega⟩
       ·have Hs:Hid (rowD row k (allD (hs ++ [lastH at_]) p k) s (j+1)=rowD row k (allD (hs ++ [lastH at_]) p k) s j):=hide (by show(if 0 < row.getD j 0 then _ else _)=_;rw[Hgg.out,if_neg hg])
        go_wp2_with fail
        exact⟨⟨j+1,_,now,rfl,by omega,by go_num,rfl,hide (by rw[Hs.out];exact Hnow.out),hide (by rw[Hs.out];exact HD.out),Hb⟩,by simp[intOf];omega⟩
      ·obtain rfl:sn=j:=by omega
       have Hs:Hid (allD (hs ++ [lastH at_]) p (k+1)=(rowD row k (allD (hs ++ [lastH at_]) p k) s sn).1):=hide (by show(rowD _ _ _ _ _).1=_;rw[←Hrow.out,Hfs.out,Hrl.out,Hms.out])
       go_wp2_with fail
       exact⟨⟨k+1,vd,rfl,by omega,by go_num,hide (by rw[Hs.out];exact HD.out),Hb⟩,by simp[intOf];omega⟩
    ·obtain rfl:R=k:=by omega
     obtain⟨ds,hds⟩:∃ds,ds=allD (hs ++ [lastH at_]) p R:=⟨_,rfl⟩
     have hok:DeedsOk (hs ++ [lastH at_]) ns ds:=by rw[hds,←HRl.out];exact HO.out.deeds Hro.out.nl Hpl.out
     obtain⟨n,hn⟩:∃n,ds.length=n:=⟨_,rfl⟩
     have HDs:=HD.out
     rw[←hds] at HDs
     obtain⟨Ad,cd,rfl,hdr⟩:=HDs.rdn n hn
     have hn56:n≤56:=by rw[←hn];exact hok.len
     have HOK:=hide hok;have Hn:=hide hn;have HDr:=hide hdr
     have Hbq:=hide (H13.out.trans (Hb.out.mono H13.out.size))
     have HXq:=hide (HXd.out.bel Hb.out);have HHq:=hide (HHd.out.bel Hb.out)
     have d60:decide (60 < (n:Int))=false:=decide_eq_false (by omega)
     have d60b:¬(60:Int) < (n:Int):=by omega
     have Hrun:=hide (HO.out.run_len hok)
     obtain⟨ps,hps⟩:∃ps,ps=runP ds ((hs ++ [lastH at_]).map pcOf):=⟨_,rfl⟩
     have HPS:=hide hps
     clear hds hok hn HDs hdr HD hps
     go_wp2_with fail
     refine(deRead_rents 1 1 A10 Ad (R+1) _ n _ (hs ++ [lastH at_]) ds wq HO.out.rolls hlen1.out HHq.out HDr.out Hn.out.symm (by omega) HOK.out.val HOK.out.dist HOK.out.ord (HOK.out.run 1 (by omega))).mono ?_
     rintro e w14 ⟨v1,v2,rfl,o1,o2,hb14⟩
     have Hb14:=hide (Hbq.out.trans (hb14.mono Hbq.out.size))
     have HX14:=hide (HXq.out.bel hb14);have HH14:=hide (HHq.out.bel hb14);have HD14:=hide (HDr.out.bel hb14)
     obtain⟨Aw,cw,rfl,hwy⟩:=o2.rdn n (by simp)
     obtain⟨Aq,cq,rfl,_⟩:=o1.rdn n Hn.out
     have HWy:=hide hwy
     clear o1 o2 hwy hb14 y0 y1
     obtain⟨y0,y1⟩:=HX14.out.at_.c2
     go_wp2_with fail
     refine(deOwners_rents 1 1 A10 Ad (R+1) _ n _ (hs ++ [lastH at_]) ds w14 HO.out.rolls hlen1.out HH14.out HD14.out Hn.out.symm (by omega) (by decide) HOK.out.val HOK.out.dist HOK.out.ord (HOK.out.run 1 (by omega)) Hrun.out.2 (by have:=Hrun.out.1;omega)).mono ?_
     rintro e w15 ⟨v1,v2,rfl,o2,hb15⟩
     have Hb15:=hide (Hb14.out.trans (hb15.mono Hb14.out.size))
     have HX15:=hide (HX14.out.bel hb15);have HH15:=hide (HH14.out.bel hb15);have HD15:=hide (HD14.out.bel hb15);have HW15:=hide (HWy.out.bel hb15)
     obtain⟨us,hus⟩:∃us,us=runsF (fun p=>p.user 1) (runP ds ((hs ++ [lastH at_]).map pcOf)):=⟨_,rfl⟩
     rw[←hus] at o2
     obtain⟨nu,hnu⟩:∃nu,us.length=nu:=⟨_,rfl⟩
     obtain⟨Au,cu,rfl,huy⟩:=o2.rdn nu hnu
     have HUy:=hide huy;have Hus:=hide hus;have Hnu:=hide hnu
     have hnu2:nu≤201:=by have h1:=runsF_len (fun p=>p.user 1) (runP ds ((hs ++ [lastH at_]).map pcOf));rw[←hus,hnu] at h1;have:=Hrun.out.1;omega
     clear o2 huy hus hnu hb15 y0 y1
     obtain⟨y0,y1⟩:=HX15.out.at_.c2
     go_wp2_with fail
     refine(deShares_rents 1 1 A10 none (R+1) _ 0 _ (hs ++ [lastH at_]) [] w15 HO.out.rolls hlen1.out HH15.out (fun h=>by simp at h) rfl (by omega) (by decide) (fun d hd=>by simp at hd) (fun j k x y _ h=>by simp at h) ord_nil trivial 1440 (by decide) HO.out.chain (by show((hs ++ [lastH at_]).map pcOf).length≤1000;rw[List.length_map,←hlen1.out];omega) (by show 1≤((hs ++ [lastH at_]).map pcOf).length;rw[List.length_map,←hlen1.out];omega) (fun q hq=>HO.out.own99 hq)).mono ?_
     rintro e w16 ⟨vs1,l1,rfl,os1,hsh1,hb16⟩
     have Hb16:=hide (Hb15.out.trans (hb16.mono Hb15.out.size))
     have HX16:=hide (HX15.out.bel hb16);have HH16:=hide (HH15.out.bel hb16);have HD16:=hide (HD15.out.bel hb16);have HW16:=hide (HW15.out.bel hb16);have HU16:=hide (HUy.out.bel hb16)
     obtain⟨n1,hn1⟩:∃n1,l1.length=n1:=⟨_,rfl⟩
     obtain⟨As1,cs1,rfl,hs1y⟩:=os1.rdn n1 hn1
     have HS1:=hide hs1y;have Hsh1:=hide hsh1;have Hn1:=hide hn1
     clear os1 hs1y hsh1 hn1 hb16 y0 y1
     obtain⟨y0,y1⟩:=HX16.out.at_.c2
     go_wp2_with fail
     refine(deShares_rents 1 1 A10 Ad (R+1) _ n _ (hs ++ [lastH at_]) ds w16 HO.out.rolls hlen1.out HH16.out HD16.out Hn.out.symm (by omega) (by decide) HOK.out.val HOK.out.dist HOK.out.ord (HOK.out.run 1 (by omega)) 1440 (by decide) HOK.out.ch (by have:=Hrun.out.1;omega) Hrun.out.2 (fun q hq=>HO.out.run_own HOK.out hq)).mono ?_
     rintro e w17 ⟨vs2,l2,rfl,os2,hsh2,hb17⟩
     have Hb17:=hide (Hb16.out.trans (hb17.mono Hb16.out.size))
     have HW17:=hide (HW16.out.bel hb17);have HU17:=hide (HU16.out.bel hb17);have HS17:=hide (HS1.out.bel hb17)
     obtain⟨n2,hn2⟩:∃n2,l2.length=n2:=⟨_,rfl⟩
     obtain⟨As2,cs2,rfl,hs2y⟩:=os2.rdn n2 hn2
     have hl12:l1=l2:=Hsh1.out.uniq hsh2 (fun who=>(HOK.out.own who).symm)
     have HS2:=hide hs2y;have Hn2:=hide hn2
     have HL12:=hide hl12
     have hl91:n1≤9:=by rw[←Hn1.out];exact Hsh1.out.len9 HO.out.chain (fun q hq=>HO.out.own99 hq)
     have hl92:n2≤9:=by rw[←hn2];exact hsh2.len9 HOK.out.ch (fun q hq=>HO.out.run_own HOK.out hq)
     have hss:=same_Sp As1 As2 l1 l2 n1 cs1 n2 cs2 w17 Hn1.out.symm hn2.symm (by omega) (by omega) HS17.out hs2y
     rw[decide_eq_true hl12] at hss
     have HSS:=hide hss
     clear os2 hs2y hsh2 hn2 hb17 y0 y1 hl12 hss
     go_wp2_with fail
     refine HSS.out.mono ?_
     rintro e w18 ⟨rfl,hb18⟩
     have Hb18:=hide (Hb17.out.trans (hb18.mono Hb17.out.size))
     have HW18:=hide (HW17.out.bel hb18);have HU18:=hide (HU17.out.bel hb18)
     clear hb18
     go_wp2_with fail
     go_loopw [251] (fun iv wr=>∃i:Nat,i≤n∧iv= .int .i64 i∧w18=wr) (fun iv _=>n-(intOf iv).toNat)
     case atStart=>exact⟨0,by omega,rfl,by first | rfl | trivial⟩
     case round=>
      obtain⟨i,hi,rfl,rfl⟩:=hrel
      by_cases hin:i < n
      ·obtain⟨bw,ow,rfl,cw0⟩:=HW18.out.u8z hin
       have ik:(i:Int) < (n:Int):=by omega
       go_wp2_with fail
       exact⟨⟨i+1,by omega,by go_num,by first | rfl | trivial⟩,by simp[intOf];omega⟩
      ·obtain rfl:n=i:=by omega
       go_wp2_with fail
       go_loopw [260] (fun kv wr=>∃k:Nat,k≤m∧kv= .int .i64 k∧Hid (Below w18.heap.size w18 wr)) (fun kv _=>m-(intOf kv).toNat)
       case atStart=>exact⟨0,by omega,rfl,hide (Below.refl _ _)⟩
       case round=>
        obtain⟨k,hk,rfl,Hb⟩:=hrel
        obtain⟨wp,rfl⟩:∃wp,wp=wr:=⟨wr,rfl⟩
        have Hb0:=hide (Hb18.out.trans (Hb.out.mono Hb18.out.size))
        by_cases hkm:k < m
        ·obtain⟨bx,ox,g,rfl,_,hgx,cx⟩:=(Hns.out.bel Hb0.out).int (i:=k) (by rw[←Hms.out];exact hkm)
         have hg:0≤g∧g≤23040:=Hro.out.n g (List.mem_of_getElem? hgx)
         have huse:=HOK.out.use k (by rw[←Hms.out];exact hkm)
         rw[←Hus.out,List.getD_eq_getElem?_getD,hgx] at huse
         have huse2:sumH (1+(k:Int)) us=g:=huse
         have Huse:=hide huse2
         have ik:(k:Int) < (m:Int):=by omega
         clear hgx huse huse2
         go_wp2_with fail
         clear cx
         go_loopw [267,40] (fun jv mv wr=>∃(j:Nat) (mm:Int),j≤nu∧jv= .int .i64 j∧mv= .int .i64 mm∧Hid (mm=g-sumH (1+(k:Int)) (us.take j))∧Hid (Below w18.heap.size w18 wr)) (fun jv _ _=>nu-(intOf jv).toNat)
         case atStart=>exact⟨0,g,by omega,rfl,rfl,hide (by simp[sumH]),Hb⟩
         case round=>
          clear Hb0 Hb
          obtain⟨j,mm,hj,rfl,rfl,Hmm,Hb⟩:=hrel
          obtain⟨wj,rfl⟩:∃wj,wj=wr:=⟨wr,rfl⟩
          by_cases hjn:j < nu
          ·obtain⟨bu,ou,f,s,t,rfl,_,hxu,c0,c1,c2⟩:=(HU18.out.bel Hb.out).us (i:=j) (by rw[Hnu.out];exact hjn)
           have hub:=runsF_bd (fun p=>p.user 1) HOK.out.ch
           rw[←Hus.out] at hub
           have hu1:0≤s∧s≤t∧t≤1440:=hub _ (List.mem_of_getElem? hxu)
           have hsb:=sumH_bd (1+(k:Int)) 1440 (us.take j) (fun u hu=>hub u (List.mem_of_mem_take hu)) (by omega)
           rw[List.length_take,Nat.min_eq_left (by rw[Hnu.out];omega)] at hsb
           have hmb: -300000≤mm∧mm≤23040:=by rw[Hmm.out];omega
           have hsn:sumH (1+(k:Int)) (us.take (j+1))=sumH (1+(k:Int)) (us.take j)+if f=1+(k:Int) then t-s else 0:=by rw[take_snoc hxu,sumH_snoc]
           have Hsn:=hide hsn
           have ij:(j:Int) < (nu:Int):=by omega
           have f1:IntKind.i64.wrap (1+(k:Int))=1+(k:Int):=wrapI (by omega)
           have f2:IntKind.i64.wrap (t-s)=t-s:=wrapI (by omega)
           have f3:IntKind.i64.wrap (mm-(t-s))=mm-(t-s):=wrapI (by omega)
           obtain⟨b42,w42,e42,ew42,hx42,hb42,hz42⟩:=mk_bx wj #[.int .i64 f,.int .i64 s,.int .i64 t] 63
           obtain⟨q0,q1,q2⟩:=hx42.at_.c3
           have HBn:=hide (Hb.out.trans (hb42.mono Hb.out.size))
           clear hub hsb hsn hxu hx42 hb42 hz42 Hb
           go_upto_region 65 with fail
           rw[ew42.out,e42.out]
           clear c0 c1 c2 ew42 e42
           by_cases hf:f=1+(k:Int)
           ·have Hsn2:=hide (show mm-(t-s)=g-sumH (1+(k:Int)) (us.take (j+1)) by rw[Hsn.out,if_pos hf,Hmm.out];omega)
            subst hf
            go_wp2_with fail
            exact⟨⟨j+1,_,by omega,by go_num,rfl,Hsn2,HBn⟩,by simp[intOf];omega⟩
           ·have Hsn2:=hide (show mm=g-sumH (1+(k:Int)) (us.take (j+1)) by rw[Hsn.out,if_neg hf,Hmm.out];omega)
            go_wp2_with fail
            exact⟨⟨j+1,_,by omega,by go_num,rfl,Hsn2,HBn⟩,by simp[intOf];omega⟩
          ·obtain rfl:nu=j:=by omega
           have hm0:mm=0:=by rw[Hmm.out,List.take_of_length_le (by rw[Hnu.out];exact Nat.le_refl _),Huse.out];omega
           clear Hmm
           subst hm0
           go_wp2_with fail
           exact⟨⟨k+1,by omega,by go_num,Hb⟩,by simp[intOf];omega⟩
        ·obtain rfl:m=k:=by omega
         go_wp2_with fail
         go_returns
         exact⟨rfl,Hb0.out⟩
end Go.Proofs.YtiioegopckoldaaGreatDoor
