/- lemmas for topFed_holds: C6 V3. No conditions. -/
import Derived.Test.YtiioegopckoldaaGreatDoorK05
import Derived.Test.YtiioegopckoldaaGreatDoorK03
import Derived.Test.YtiioegopckoldaaGreatDoorK02
import Derived.Test.YtiioegopckoldaaGreatDoorK04
import Derived.Handy
set_option linter.unusedVariables false
set_option linter.unusedSimpArgs false
namespace Go.Proofs.YtiioegopckoldaaGreatDoor
open Go.RowKit Go.Shelf
theorem mapB:MapLaw Tryz.prog 159 3 4 Value.bool ldB (fun _=>True) false:=
 mapLaw_bool Tryz.underlying3 Tryz.underlying159 Tryz.underlying4 (fun w=>by kernel_rfl)
theorem mapI:MapLaw Tryz.prog 97 3 3 (Value.int .i64) ldI okI 0:=
 mapLaw_int Tryz.underlying3 Tryz.underlying97 Tryz.underlying3 (fun w=>by kernel_rfl)
theorem cycle_any (Ac Af:Option Addr) (nc cc nf cf:Nat) (dry days:Int) (w:World) (h1:0≤days) (h2:days≤1000000) :
 Calls Tryz.prog 96 #[.agg #[.slice Ac nc cc,.slice Af nf cf,.int .i64 dry,.int .i64 days]] w fun e w'=>e= .returned (.int .i64 (days*1440))∧Below w.heap.size w w':=by
 go_enter Tryz.func96,Tryz.ntmps96
 go_wp2
 go_ret
 exact⟨rfl,below_new _ _⟩
theorem field_any (Ac Af:Option Addr) (nc cc nf cf:Nat) (dry days:Int) (A:Option Addr) (xs:List Int) (n c:Nat) (w:World) (hn:n=xs.length) (hm:n≤9223372036854775807) (hx:Rd w w.heap.size icell A xs) (hnf:nf≤1000) :
 Calls Tryz.prog 95 #[.agg #[.slice Ac nc cc,.slice Af nf cf,.int .i64 dry,.int .i64 days],.slice A n c] w fun e w'=>e= .returned (.bool (!(anyOut 0 ((nf:Int)-1) xs)))∧Below w.heap.size w w':=by
 have Hn:=hide hn;have Hx:=hide hx;clear hn hx
 go_enter Tryz.func95,Tryz.ntmps95
 go_wp2_with fail
 refine calls_gen fun W HW=>?_
 have hb:Below w.heap.size w W:=by rw[←HW.out];exact below_new _ _
 refine(channel_from 0 ((nf:Int)-1) A xs n c W Hn.out hm ((Hx.out.below hb).more hb.size)).mono ?_
 rintro e w' ⟨rfl,hb2⟩
 go_wp2
 go_ret
 exact⟨rfl,hb.trans (hb2.mono hb.size)⟩
theorem field_lit1 (k nf:Int):(!(anyOut 0 (nf-1) [k]))=(decide (0≤k) && decide (k < nf)):=by
 rw[Bool.eq_iff_iff];simp[anyOut,outB];omega
set_option maxHeartbeats 4000000 in
set_option maxRecDepth 100000 in
theorem chanCheck_any (Ac Af:Option Addr) (nc cc nf cf:Nat) (dry days:Int) (cs:List Ca) (fs:List Int) (w:World) (hnet:NetAt w Ac Af nc nf cs fs) :
 Calls Tryz.prog 73 #[.agg #[.slice Ac nc cc,.slice Af nf cf,.int .i64 dry,.int .i64 days]] w fun e w'=>e= .returned (.int .i64 (netErr cs fs dry days))∧Below w.heap.size w w':=by
 have hnc:=hnet.nc2
 have hnf:=hnet.nf2
 cases hp:netPre cs fs dry days && !(anyOut 0 cs.length fs)
 ·have h50:netErr cs fs dry days=50:=by
   have h1:netOk cs fs dry days=false:=by
    simp only[netOk]
    rw[hp];rfl
   simp[netErr,h1]
  rw[h50]
  have hcase:16 < nc∨(¬16 < nc∧12 < nf)∨(¬16 < nc∧¬12 < nf∧inB 0 23040 dry=false)∨(¬16 < nc∧¬12 < nf∧inB 0 23040 dry=true∧inB 1 16 days=false)∨(¬16 < nc∧¬12 < nf∧inB 0 23040 dry=true∧inB 1 16 days=true∧(!(anyOut 0 nc fs))=false):=by
   rw[←hnet.ec] at hp
   by_cases a:16 < nc
   ·exact .inl a
   by_cases b:12 < nf
   ·exact .inr (.inl ⟨a,b⟩)
   cases c:inB 0 23040 dry
   ·exact .inr (.inr (.inl ⟨a,b,rfl⟩))
   cases d:inB 1 16 days
   ·exact .inr (.inr (.inr (.inl ⟨a,b,rfl,rfl⟩)))
   have h1:netPre cs fs dry days=true:=by
    unfold netPre
    rw[c,d,←hnet.ec,←hnet.ef]
    simp
    omega
   rw[h1,Bool.true_and] at hp
   exact .inr (.inr (.inr (.inr ⟨a,b,rfl,rfl,hp⟩)))
  clear hp h50
  have hat0:=At.new w #[.slice Ac nc cc,.slice Af nf cf,.int .i64 dry,.int .i64 days] 28 w.heap.size rfl _ rfl
  have hB0:=below_new w (.cells #[.slice Ac nc cc,.slice Af nf cf,.int .i64 dry,.int .i64 days] 28)
  rcases hcase with a | ⟨a,b⟩ | ⟨a,b,c⟩ | ⟨a,b,c,d⟩ | ⟨a,b,c,d,e⟩
  ·go_enter Tryz.func73,Tryz.ntmps73
   go_wp2
   go_ret
   exact⟨rfl,hB0⟩
  ·go_enter Tryz.func73,Tryz.ntmps73
   go_wp2
   go_ret
   exact⟨rfl,hB0⟩
  all_goals
   have C:=hide c;clear c
  ·go_enter Tryz.func73,Tryz.ntmps73
   go_wp2_with fail
   refine(channel_from_one _ _ _ _ _ (by simp)).mono ?_
   rintro e w2 ⟨rfl,hb2⟩
   rw[C.out]
   go_wp2
   go_ret
   exact⟨rfl,hB0.trans (hb2.mono hB0.size)⟩
  all_goals
   have D:=hide d;clear d
  ·go_enter Tryz.func73,Tryz.ntmps73
   go_wp2_with fail
   refine(channel_from_one _ _ _ _ _ (by simp)).mono ?_
   rintro e w2 ⟨rfl,hb2⟩
   rw[C.out]
   have hat2:=hat0.below hb2
   have hB2:=hB0.trans (hb2.mono hB0.size)
   obtain⟨q0,q1,q2,q3⟩:=hat2.c4
   clear hat0 hb2 hB0
   go_wp2_with fail
   refine(channel_from_one _ _ _ _ _ (by simp)).mono ?_
   rintro e w3 ⟨rfl,hb3⟩
   rw[D.out]
   have hat3:=hat2.below hb3
   have hB3:=hB2.trans (hb3.mono hB2.size)
   obtain⟨p0,p1,p2,p3⟩:=hat3.c4
   clear hat2 hb3 hB2 q0 q1 q2 q3
   go_wp2
   go_ret
   exact⟨rfl,hB3⟩
  ·have E3:=hide e;clear e
   go_enter Tryz.func73,Tryz.ntmps73
   go_wp2_with fail
   refine(channel_from_one _ _ _ _ _ (by simp)).mono ?_
   rintro e w2 ⟨rfl,hb2⟩
   rw[C.out]
   have hat2:=hat0.below hb2
   have hB2:=hB0.trans (hb2.mono hB0.size)
   obtain⟨q0,q1,q2,q3⟩:=hat2.c4
   clear hat0 hb2 hB0
   go_wp2_with fail
   refine(channel_from_one _ _ _ _ _ (by simp)).mono ?_
   rintro e w3 ⟨rfl,hb3⟩
   rw[D.out]
   have hat3:=hat2.below hb3
   have hB3:=hB2.trans (hb3.mono hB2.size)
   obtain⟨p0,p1,p2,p3⟩:=hat3.c4
   clear hat2 hb3 hB2 q0 q1 q2 q3
   go_wp2_with fail
   refine(channel_from _ _ _ _ _ _ _ hnet.ef (by omega) ((hnet.rf.below hB3).more hB3.size)).mono ?_
   rintro e w4 ⟨rfl,hb4⟩
   rw[E3.out]
   go_wp2
   go_ret
   exact⟨rfl,hB3.trans (hb4.mono hB3.size)⟩
 ·have hp2:¬(16 < nc)∧¬(12 < nf):=by
   have:=hnet.ec;have:=hnet.ef
   simp[netPre] at hp
   omega
  obtain⟨n1,n2⟩:=hp2
  have e1:inB 0 23040 dry=true:=by simp[netPre] at hp;simp[hp]
  have e2:inB 1 16 days=true:=by simp[netPre] at hp;simp[hp]
  have e3:(!(anyOut 0 nc fs))=true:=by rw[hnet.ec];simp[netPre] at hp;simp[hp]
  have E1:=hide e1;have E2:=hide e2;have E3:=hide e3
  have Hp:=hide hp
  have hat0:=At.new w #[.slice Ac nc cc,.slice Af nf cf,.int .i64 dry,.int .i64 days] 28 w.heap.size rfl _ rfl
  have hB0:=below_new w (.cells #[.slice Ac nc cc,.slice Af nf cf,.int .i64 dry,.int .i64 days] 28)
  clear hp e3 e1 e2
  go_enter Tryz.func73,Tryz.ntmps73
  go_wp2_with fail
  refine(channel_from_one _ _ _ _ _ (by simp)).mono ?_
  rintro e w2 ⟨rfl,hb2⟩
  rw[E1.out]
  have hat2:=hat0.below hb2
  have hB2:=hB0.trans (hb2.mono hB0.size)
  obtain⟨q0,q1,q2,q3⟩:=hat2.c4
  clear hat0 hb2 hB0
  go_wp2_with fail
  refine(channel_from_one _ _ _ _ _ (by simp)).mono ?_
  rintro e w3 ⟨rfl,hb3⟩
  rw[E2.out]
  have hat3:=hat2.below hb3
  have hB3:=hB2.trans (hb3.mono hB2.size)
  obtain⟨p0,p1,p2,p3⟩:=hat3.c4
  clear hat2 hb3 hB2 q0 q1 q2 q3
  go_wp2_with fail
  refine(channel_from _ _ _ _ _ _ _ hnet.ef (by omega) ((hnet.rf.below hB3).more hB3.size)).mono ?_
  rintro e w4 ⟨rfl,hb4⟩
  rw[E3.out]
  have hat4:=hat3.below hb4
  have hB4:=hB3.trans (hb4.mono hB3.size)
  obtain⟨q0,q1,q2,q3⟩:=hat4.c4
  clear hat3 hb4 hB3 p0 p1 p2 p3
  go_wp2_with fail
  go_loopw [44] (fun i wr=>∃k:Nat,k≤nc∧i= .int .i64 k∧Below w.heap.size w wr∧At wr w.heap.size [.slice Ac nc cc,.slice Af nf cf,.int .i64 dry,.int .i64 days]∧Hid (caTo cs k)) (fun i _=>nc-(intOf i).toNat)
  case atStart=>exact⟨0,by omega,rfl,hB4,hat4,hide (caTo_zero cs)⟩
  case round=>
   clear hat4 hB4 q0 q1 q2 q3
   obtain⟨k,hk,rfl,hB,hat,hto⟩:=hrel
   by_cases hlt:k < nc
   ·obtain⟨b,off,f,s0,s1,l0,l1,hA,hbB,hx,c0,c1,c2,c3,c4⟩:=(hnet.below hB).rc.ca (i:=k) (by have:=hnet.ec;omega)
    subst hA
    have Hx:=hide hx
    clear hx
    have hbx0:=At.new wr #[.int .i64 f,.int .i64 s0,.int .i64 s1,.int .i64 l0,.int .i64 l1] 213 wr.heap.size rfl _ rfl
    have hbw0:=below_new wr (.cells #[.int .i64 f,.int .i64 s0,.int .i64 s1,.int .i64 l0,.int .i64 l1] 213)
    cases e1:inB 0 k f
    all_goals have E1:=hide e1;clear e1
    ·go_wp2_with fail
     refine(channel_from_one _ _ _ _ _ (by simp)).mono ?_
     rintro e w5 ⟨rfl,hb5⟩
     rw[E1.out]
     go_wp2
     go_ret
     have hbad:caAll 0 cs=false:=caAll_hit Hx.out (by simp[caOk,E1.out])
     exact⟨ret_int (by simp[netErr,netOk,hbad]),hB.trans ((hbw0.trans (hb5.mono hbw0.size)).mono hB.size)⟩
    ·cases e2:Sp.ok 0 1000 ⟨s0,s1⟩
     all_goals have E2:=hide e2;clear e2
     ·go_wp2_with fail
      refine(channel_from_one _ _ _ _ _ (by simp)).mono ?_
      rintro e w5 ⟨rfl,hb5⟩
      rw[E1.out]
      have hbx5:=hbx0.below hb5
      have hbw5:=hbw0.trans (hb5.mono hbw0.size)
      obtain⟨q0,q1,q2,q3,q4⟩:=hbx5.c5
      go_wp2_with fail
      refine(channel_proper _ _ _ _).mono ?_
      rintro e w6 ⟨rfl,hb6⟩
      rw[E2.out]
      have hbx6:=hbx5.below hb6
      have hbw6:=hbw5.trans (hb6.mono hbw5.size)
      clear q0 q1 q2 q3 q4
      obtain⟨q0,q1,q2,q3,q4⟩:=hbx6.c5
      go_wp2
      go_ret
      have hbad:caAll 0 cs=false:=caAll_hit Hx.out (by simp[caOk,E1.out,E2.out])
      exact⟨ret_int (by simp[netErr,netOk,hbad]),hB.trans (hbw6.mono hB.size)⟩
     ·cases e3:Sp.ok 0 10000000 ⟨l0,l1⟩
      all_goals have E3:=hide e3;clear e3
      ·go_wp2_with fail
       refine(channel_from_one _ _ _ _ _ (by simp)).mono ?_
       rintro e w5 ⟨rfl,hb5⟩
       rw[E1.out]
       have hbx5:=hbx0.below hb5
       have hbw5:=hbw0.trans (hb5.mono hbw0.size)
       obtain⟨q0,q1,q2,q3,q4⟩:=hbx5.c5
       go_wp2_with fail
       refine(channel_proper _ _ _ _).mono ?_
       rintro e w6 ⟨rfl,hb6⟩
       rw[E2.out]
       have hbx6:=hbx5.below hb6
       have hbw6:=hbw5.trans (hb6.mono hbw5.size)
       clear q0 q1 q2 q3 q4
       obtain⟨q0,q1,q2,q3,q4⟩:=hbx6.c5
       go_wp2_with fail
       refine(channel_proper _ _ _ _).mono ?_
       rintro e w7 ⟨rfl,hb7⟩
       rw[E3.out]
       have hbx7:=hbx6.below hb7
       have hbw7:=hbw6.trans (hb7.mono hbw6.size)
       clear q0 q1 q2 q3 q4
       obtain⟨q0,q1,q2,q3,q4⟩:=hbx7.c5
       go_wp2
       go_ret
       have hbad:caAll 0 cs=false:=caAll_hit Hx.out (by simp[caOk,E1.out,E2.out,E3.out])
       exact⟨ret_int (by simp[netErr,netOk,hbad]),hB.trans (hbw7.mono hB.size)⟩
      ·go_wp2_with fail
       refine(channel_from_one _ _ _ _ _ (by simp)).mono ?_
       rintro e w5 ⟨rfl,hb5⟩
       rw[E1.out]
       have hbx5:=hbx0.below hb5
       have hbw5:=hbw0.trans (hb5.mono hbw0.size)
       obtain⟨q0,q1,q2,q3,q4⟩:=hbx5.c5
       go_wp2_with fail
       refine(channel_proper _ _ _ _).mono ?_
       rintro e w6 ⟨rfl,hb6⟩
       rw[E2.out]
       have hbx6:=hbx5.below hb6
       have hbw6:=hbw5.trans (hb6.mono hbw5.size)
       clear q0 q1 q2 q3 q4
       obtain⟨q0,q1,q2,q3,q4⟩:=hbx6.c5
       go_wp2_with fail
       refine(channel_proper _ _ _ _).mono ?_
       rintro e w7 ⟨rfl,hb7⟩
       rw[E3.out]
       have hbx7:=hbx6.below hb7
       have hbw7:=hbw6.trans (hb7.mono hbw6.size)
       clear q0 q1 q2 q3 q4
       obtain⟨q0,q1,q2,q3,q4⟩:=hbx7.c5
       go_wp2
       exact⟨⟨k+1,by omega,by go_num,hB.trans (hbw7.mono hB.size),(hat.below hbw7),hide (caTo_snoc hto.out Hx.out (by simp[caOk,E1.out,E2.out,E3.out]))⟩,by simp[intOf];omega⟩
   ·have hall:caAll 0 cs=true:=caTo_all hto.out (by have:=hnet.ec;omega)
    have Hall:=hide hall
    have hat1:=hat.alloc (.map #[] 0)
    have hB1:=hB.trans ((below_new wr (.map #[] 0)).mono hB.size)
    obtain⟨q0,q1,q2,q3⟩:=hat1.c4
    have hsz:w.heap.size < wr.heap.size:=hat.1
    clear hall hto
    have hmm:=@run_makeMap Tryz.prog
    have Hm:=hide (Mp.made wr Tryz.prog 3 4 ldB)
    go_wp2_with fail
    clear hmm q0 q1 q2 q3
    obtain⟨bm,hbm⟩:∃bm,bm=wr.heap.size:=⟨_,rfl⟩
    rw[←hbm] at Hm ⊢
    have Hbm:=hide hbm
    clear hbm
    obtain⟨wo,HW1⟩:∃wo,Hid (wr.alloc (.map #[] 0)=wo):=⟨_,hide rfl⟩
    rw[HW1.out] at Hm hB1 hat1 ⊢
    go_loopw [72] (fun i wq=>∃(k s:Nat) (f:Int→Option Bool),k≤nf∧i= .int .i64 k∧Below w.heap.size w wq∧At wq w.heap.size [.slice Ac nc cc,.slice Af nf cf,.int .i64 dry,.int .i64 days]∧Hid (SetTo fs k f s)∧Hid (Mp Tryz.prog 3 4 ldB wq bm k f s)) (fun i _=>nf-(intOf i).toNat)
    case atStart=>exact⟨0,0,_,by omega,rfl,hB1,hat1,hide (SetTo.zero fs),Hm⟩
    case round=>
     clear hat1 hB1 Hm hat hB HW1
     obtain⟨k2,s,f,hk2,rfl,hB,hat,hset,hmp⟩:=hrel
     by_cases hlt2:k2 < nf
     ·obtain⟨b,off,x,hA,hbB,hx,c0⟩:=(hnet.below hB).rf.int (i:=k2) (by have:=hnet.ef;omega)
      subst hA
      have Hx:=hide hx
      clear hx
      have hxr:okI x:=by
       have:=Hp.out
       simp only[Bool.and_eq_true,Bool.not_eq_true',anyOut,List.any_eq_false] at this
       have:=this.2 x (List.mem_of_getElem? Hx.out)
       simp[outB] at this
       have:=hnet.ec
       unfold okI
       omega
      have Hxr:=hide hxr;clear hxr
      go_wp2_with (at_mapUpdate;refine wpList_mapWrite rfl _ _ _ rfl mapB hmp.out (by omega) rfl x rfl Hxr.out true rfl trivial ?_;intro w5 hmp5 hg5)
      have hbb:=Hbm.out
      exact⟨⟨k2+1,_,_,by omega,by go_num,hB.grown hg5 hB.size (fun g hg=>by injection hg with hg;omega),hat.kept (Kept.grown hg5) (by simp;omega),hide (hset.out.snoc Hx.out),hide hmp5⟩,by simp[intOf];omega⟩
     ·obtain⟨q0,q1,q2,q3⟩:=hat.c4
      have hkn:k2=fs.length:=by have:=hnet.ef;omega
      have hs1:=hset.out.eq
      rw[hkn,List.take_length] at hs1
      have hfin:netErr cs fs dry days=if s=fs.length then 0 else 50:=by
       have h1:=Hp.out
       have h2:=Hall.out
       have h3:netOk cs fs dry days=decide fs.Nodup:=by
        simp only[netOk]
        rw[h2,Bool.and_true,h1,Bool.true_and]
       unfold netErr
       rw[h3]
       by_cases hd:fs.Nodup
       ·rw[if_pos (hs1.2 hd)];simp[hd]
       ·rw[if_neg (fun e=>hd (hs1.1 e))];simp[hd]
      have Hfin:=hide hfin
      have hs2:s=nf∨s≠nf:=by omega
      have Hef:=hide hnet.ef
      clear hfin hs1 hkn hset
      rcases hs2 with hs2 | hs2
      ·subst hs2
       go_wp2_with (at_len;refine wpList_mapLen rfl _ rfl mapB hmp.out rfl ?_)
       go_ret
       exact⟨ret_int (by rw[Hfin.out,if_pos Hef.out]),hB⟩
      ·have t1:((s:Int) != (nf:Int))=true:=by simp;omega
       have t2:((s:Int) == (nf:Int))=false:=by simp;omega
       have Hs2:=hide hs2
       clear hs2
       go_wp2_with (at_len;refine wpList_mapLen rfl _ rfl mapB hmp.out rfl ?_)
       go_ret
       exact⟨ret_int (by rw[Hfin.out,if_neg (fun e=>Hs2.out (e.trans Hef.out.symm))]),hB⟩
end Go.Proofs.YtiioegopckoldaaGreatDoor
namespace Go.Proofs.YtiioegopckoldaaGreatDoor
open Go.RowKit Go.Shelf Go.Maps Go.MapKept Go.ChangeMaps
attribute [local go_sem] Oper.semAt_some
structure Bd where
 low:Int
 high:Int
 by_:Int
 deriving DecidableEq
def Bd.enc (b:Bd):Value:= .agg #[.int .i64 b.low,.int .i64 b.high,.int .i64 b.by_]
def zeroB (p i:Nat):List Bd:=[⟨p,i,10000000⟩,⟨i,p,10000000⟩]
def shotB (q:Q4):List Bd:=[⟨q.a,q.b,q.hi⟩,⟨q.b,q.a,-q.lo⟩]
def markB (p:Nat) (x:Us):List Bd:=[⟨p,x.field,x.to⟩,⟨x.field,p,-x.frm⟩]
def zeroFrom (p:Nat):Nat→Nat→List Bd
 | _,0=>[]
 | i,n+1=>zeroB p i ++ zeroFrom p (i+1) n
def fromB {α:Type} (out:Nat→Bool) (f:α→List Bd):Nat→List α→List Bd
 | _,[]=>[]
 | i,x :: l=>(if out i then [] else f x) ++ fromB out f (i+1) l
def boundsF (p:Nat) (out:Nat→Bool) (sh:List Q4) (mk:List Us):List Bd:=zeroFrom p 0 p ++ (fromB out shotB 0 sh ++ fromB out (markB p) sh.length mk)
def GivesB (L:List Bd):Nat→Nat→(Nat→Prop)→(Nat→Prop)→Array Value→World→Prop:=fun _ k _ _ args _=>args= #[(L.getD k ⟨0,0,0⟩).enc]
theorem At.c6l {w:World} {p:Nat} {v0 v1 v2 v3 v4 v5:Value} (h:At w p [v0,v1,v2,v3,v4,v5]):w.cell? ⟨p,0,none⟩=some v0∧w.cell? ⟨p,1,none⟩=some v1∧w.cell? ⟨p,2,none⟩=some v2∧w.cell? ⟨p,3,none⟩=some v3∧w.cell? ⟨p,4,none⟩=some v4∧w.cell? ⟨p,5,none⟩=some v5:=⟨h.2 0 _ rfl,h.2 1 _ rfl,h.2 2 _ rfl,h.2 3 _ rfl,h.2 4 _ rfl,h.2 5 _ rfl⟩
theorem got_at {L D R:List Bd} {x:Bd} {k:Nat} (h:L=D ++ x :: R) (hk:k=D.length):L.getD k ⟨0,0,0⟩=x∧k < L.length∧L=(D ++ [x]) ++ R:=by
 subst h hk
 refine⟨?_,?_,?_⟩
 ·rw[List.getD_eq_getElem?_getD,List.getElem?_append_right (Nat.le_refl _),Nat.sub_self]
  rfl
 ·simp
 ·simp
theorem drop_got {α:Type} {xs:List α} {i:Nat} {x:α} (h:xs[i]?=some x):xs.drop i=x :: xs.drop (i+1):=by
 obtain⟨hi,e⟩:=List.getElem?_eq_some_iff.1 h
 rw[List.drop_eq_getElem_cons hi,e]
theorem zeroFrom_done (p j:Nat) (h:p=j):zeroFrom p j (p-j)=[]:=by rw[h,Nat.sub_self];cases j <;> rfl
set_option maxHeartbeats 4000000 in
set_option maxRecDepth 100000 in
theorem bounds1_seq (n0:Nat) (hn0:6≤n0) (bs p:Nat) (A1 A2 A3:Option Addr) (n1 c1 n2 c2 n3 c3:Nat) (sh:List Q4) (mk:List Us) (B:Nat) (wa:World) (hB:B≤wa.heap.size)
 (hbs:At wa bs [.int .i64 p,.slice A1 n1 c1,.slice A2 n2 c2,.slice A3 n3 c3,.map none,.int .i64 0]) (hs:Rd wa B Q4.cells A1 sh) (hm:Rd wa B Us.cells A2 mk) (hn1:n1=sh.length) (hn2:n2=mk.length)
 (hp:p≤20) (h1:n1≤60) (h2:n2≤20) (hsb:∀q∈sh,-20000000≤q.lo∧q.lo≤20000000∧ -20000000≤q.hi∧q.hi≤20000000) (hmb:∀x∈mk,-20000000≤x.frm∧x.frm≤20000000∧ -20000000≤x.to∧x.to≤20000000) :
 SeqX n0 Tryz.prog 287 #[.pointer (some ⟨bs,0,none⟩)] (GivesB (boundsF p (fun _=>false) sh mk)) (boundsF p (fun _=>false) sh mk).length False (fun _ _=>False) (fun _=>False) (fun b=>b < B∨b=bs) wa:=by
 intro l J Jx Wi hW hJ hJx hY h0 hinf
 have HJ:=hide hJ;have HJx:=hide hJx;have HY:=hide hY;have H0:=hide h0
 have hbs:=hbs.kept hW (.inr rfl)
 have Hs:=hide (hs.keptR hW (fun _ h=> .inl h) hB);have Hm:=hide (hm.keptR hW (fun _ h=> .inl h) hB)
 have hBW:B≤Wi.heap.size:=Nat.le_trans hB hW.size
 have Hn1:=hide hn1;have Hn2:=hide hn2;have Hsb:=hide hsb;have Hmb:=hide hmb
 obtain⟨L,hL⟩:∃L,L=boundsF p (fun _=>false) sh mk:=⟨_,rfl⟩
 rw[←hL] at HY hinf ⊢
 have HL:=hide hL
 have Hbs:=hide hbs
 obtain⟨q0,q1,q2,q3,q4,q5⟩:=hbs.c6l
 clear hJ hJx hY h0 hinf hs hm hn1 hn2 hsb hmb hL hW hbs
 refine callsIn_of_wp Tryz.func287 rfl trivial ?_ rfl
 simp only[Tryz.ntmps287,List.size_toArray,List.length_cons,List.length_nil,Nat.reduceAdd,Nat.reduceSub,Array.replicate_succ,Array.replicate_zero,List.push_toArray,List.append_toArray,List.nil_append,List.cons_append]
 gi_wp2_with fail
 clear q0 q1 q2 q3 q4 q5
 gi_loopw [13] (fun i wr=>∃(j k:Nat) (D:List Bd),i= .int .i64 j∧j≤p∧Hid (L=D ++ (zeroFrom p j (p-j) ++ (fromB (fun _=>false) shotB 0 sh ++ fromB (fun _=>false) (markB p) sh.length mk)))∧Hid (k=D.length)∧Hid (J k (fun _=>False) wr)∧Kept (fun b=>b < B∨b=bs) Wi wr) (fun i _=>p-(intOf i).toNat)
 case atStart=>exact⟨0,0,[],rfl,by omega,hide (by rw[HL.out];rfl),hide rfl,H0,Kept.refl _ _⟩
 case round=>
  obtain⟨j,k,D,rfl,hj,hD,hk,hJ,hkp⟩:=hrel
  by_cases hlt:j < p
  ·have hz:zeroFrom p j (p-j)=⟨p,j,10000000⟩ :: ⟨j,p,10000000⟩ :: zeroFrom p (j+1) (p-(j+1)):=by
    rw[show p-j=(p-(j+1))+1 by omega]
    rfl
   have hD1:=hD.out
   rw[hz] at hD1
   obtain⟨g1,k1,hD2⟩:=got_at hD1 hk.out
   have hD2':L=(D ++ [⟨p,j,10000000⟩]) ++ ⟨j,p,10000000⟩ :: (zeroFrom p (j+1) (p-(j+1)) ++ (fromB (fun _=>false) shotB 0 sh ++ fromB (fun _=>false) (markB p) sh.length mk)):=hD2
   obtain⟨g2,k2,hD3⟩:=got_at (k:=k+1) hD2' (by rw[hk.out];simp)
   have Hg2:=hide g2;have Hk2:=hide k2;have HD3:=hide hD3;have Hkp:=hide hkp
   have hE:GivesB L Wi.heap.size k (fun _=>False) (fun _=>False) #[.agg #[.int .i64 p,.int .i64 j,.int .i64 10000000]] wr:=by unfold GivesB;rw[g1];rfl
   have hyy:=HY.out k (fun _=>False) (fun _=>False) _ wr (HJ.out k _ _ wr wr hJ.out (Kept.refl _ _) (fun b hb=>by rcases hb with h | h <;> exact .inl h)) (fun b hb=>by rcases hb with h | h <;> exact h.elim) hE k1
   obtain⟨fn,tmps,assign,body,hy,hR⟩:=hyy
   have HR:=hide hR
   clear hR hz hD1 g1 k1 hD2 hD2' g2 k2 hD3 hD hE hkp
   gi_wp2_with fail
   refine⟨fun h=>by simp[Fence.wide] at h,HR.out.mono ?_⟩
   rintro e W3 (⟨rfl,hJ3,hk3⟩ | ⟨rfl,hJx3,hk3⟩)
   ·have hE:GivesB L Wi.heap.size (k+1) (fun _=>False) (fun _=>False) #[.agg #[.int .i64 j,.int .i64 p,.int .i64 10000000]] W3:=by unfold GivesB;rw[Hg2.out];rfl
    have hyy:=HY.out (k+1) (fun _=>False) (fun _=>False) _ W3 (HJ.out _ _ _ W3 W3 hJ3 (Kept.refl _ _) (fun b hb=>by rcases hb with h | h <;> exact .inl h)) (fun b hb=>by rcases hb with h | h <;> exact h.elim) hE Hk2.out
    clear hy
    obtain⟨fn2,tmps2,assign2,body2,hy,hR⟩:=hyy
    have HR2:=hide hR
    have Hk3:=hide (hk3.mono fun _ _ h=> .inl h)
    clear hR hE hJ3 hk3
    gi_wp2_with fail
    refine⟨fun h=>by simp[Fence.wide] at h,HR2.out.mono ?_⟩
    rintro e W4 (⟨rfl,hJ4,hk4⟩ | ⟨rfl,hJx4,hk4⟩)
    ·have Hj4:=hide hJ4
     have Hk4:=hide ((Hkp.out.trans Hk3.out).trans (hk4.mono fun _ _ h=> .inl h))
     clear hJ4 hk4 hy
     gi_wp2_with fail
     exact⟨⟨j+1,k+1+1,_,rfl,by omega,HD3,hide (by rw[hk.out];simp),Hj4,Hk4.out⟩,by simp[intOf];omega⟩
    ·clear hy
     gi_wp2_with fail
     refine bodyPost_ret (results_none rfl _ _ _) rfl ?_
     exact .inl ⟨_,rfl,fun _=>False,.inr ⟨k+1+1,by have:=Hk2.out;omega,hJx4⟩⟩
   ·clear hy
    gi_wp2_with fail
    repeat(refine⟨fun _ h=>(by cases h),?_⟩;gi_wp2_with fail)
    refine bodyPost_ret (results_none rfl _ _ _) rfl ?_
    exact .inl ⟨_,rfl,fun _=>False,.inr ⟨k+1,by have:=Hk2.out;omega,hJx3⟩⟩
  ·obtain rfl:p=j:=by omega
   have HkO:=hide hkp;have hJO:=hJ
   obtain⟨wo2,rfl⟩:∃x,x=wr:=⟨wr,rfl⟩
   obtain⟨q0,q1,q2,q3,q4,q5⟩:=(Hbs.out.kept HkO.out (.inr rfl)).c6l
   have hDz:L=D ++ (fromB (fun _=>false) shotB 0 (sh.drop 0) ++ fromB (fun _=>false) (markB p) sh.length mk):=by rw[List.drop_zero];have:=hD.out;rw[zeroFrom_done p p rfl] at this;exact this
   have HDz:=hide hDz
   have hkO:=hk
   clear hDz hD hkp hJ hk
   gi_wp2_with fail
   clear q0 q1 q2 q3 q4 q5
   gi_loopw [35] (fun i wr=>∃(j k:Nat) (D:List Bd),i= .int .i64 j∧j≤n1∧Hid (L=D ++ (fromB (fun _=>false) shotB (0+j) (sh.drop j) ++ fromB (fun _=>false) (markB p) sh.length mk))∧Hid (k=D.length)∧Hid (J k (fun _=>False) wr)∧Kept (fun b=>b < B∨b=bs) Wi wr) (fun i _=>n1-(intOf i).toNat)
   case atStart=>exact⟨0,_,_,rfl,by omega,HDz,hkO,hJO,HkO.out⟩
   case round=>
    clear HDz hkO hJO HkO
    obtain⟨j,k,D,rfl,hj,hD,hk,hJ,hkp⟩:=hrel
    by_cases hlt:j < n1
    ·obtain⟨b,off,s0,s1,s2,s3,rfl,hb,hx,d0,d1,d2,d3⟩:=(Hs.out.keptR hkp (fun _ h=> .inl h) hBW).q4 (i:=j) (by have:=Hn1.out;omega)
     have hbd:=Hsb.out _ (List.mem_of_getElem? hx)
     dsimp only at hbd
     obtain⟨m1,m2,m3,m4⟩:=hbd
     obtain⟨b6,w6,e6,ew6,hx6,hb6,hz6⟩:=mk_bx wr #[.int .i64 s0,.int .i64 s1,.int .i64 s2,.int .i64 s3] 306
     have hx6:At w6 b6 [.int .i64 s0,.int .i64 s1,.int .i64 s2,.int .i64 s3]:=hx6.at_
     have hz:=drop_got hx
     have hD1:L=D ++ ⟨s0,s1,s3⟩ :: ⟨s1,s0,-s2⟩ :: (fromB (fun _=>false) shotB (0+j+1) (sh.drop (j+1)) ++ fromB (fun _=>false) (markB p) sh.length mk):=by have:=hD.out;rw[hz] at this;exact this
     obtain⟨g1,k1,hD2⟩:=got_at hD1 hk.out
     have hD2':L=(D ++ [⟨s0,s1,s3⟩]) ++ ⟨s1,s0,-s2⟩ :: (fromB (fun _=>false) shotB (0+j+1) (sh.drop (j+1)) ++ fromB (fun _=>false) (markB p) sh.length mk):=hD2
     obtain⟨g2,k2,hD3⟩:=got_at (k:=k+1) hD2' (by rw[hk.out];simp)
     have Hg2:=hide g2;have Hk2:=hide k2;have HD3:=hide hD3
     have hE:GivesB L Wi.heap.size k (fun b=>b=b6) (fun _=>False) #[.agg #[.int .i64 s0,.int .i64 s1,.int .i64 s3]] w6:=by unfold GivesB;rw[g1];rfl
     have hj6:J k (fun b=>b=b6∨False) w6:=HJ.out k _ _ wr w6 hJ.out (Kept.all _ hb6) (fun b hb=>by rcases hb with h | h;exact .inr (by rw[h];have:=e6.out;omega);exact .inl h)
     have hyy:=HY.out k (fun b=>b=b6) (fun _=>False) _ w6 hj6 (fun b hb=>by rcases hb with h | h;rw[h];exact hx6.1;exact h.elim) hE k1
     obtain⟨fn,tmps,assign,body,hy,hR⟩:=hyy
     have HR:=hide hR
     have Hkp:=hide (hkp.trans (Kept.all (fun b=>b < B∨b=bs) hb6))
     have hbs6:=Hbs.out.kept Hkp.out (.inr rfl)
     have hlk:∀W,(Instr.lookup 159 (.map none) (.int .i64 ((j:Int))) false).run Tryz.prog W= .ok (.bool false) W:=fun W=>Maps.look_nil false mapB.key mapB.ty (mapB.zero _) (keyOf_int_mk mapB.ktype (okI_wf ⟨by omega,by omega⟩))
     have f1:IntKind.i64.wrap s3=s3:=wrapI (by omega)
     have f2:IntKind.i64.wrap (-s2)= -s2:=wrapI (by omega)
     have f3:IntKind.i64.wrap (0-s2)= -s2:=by rw[Int.zero_sub];exact f2
     have f4:IntKind.i64.wrap (s3+0)=s3:=by rw[Int.add_zero];exact f1
     have f5:IntKind.i64.wrap ((j:Int))=(j:Int):=wrapI (by omega)
     have Hbs6:=hide hbs6;have Hx6:=hide hx6
     rw[←ew6.out] at hy hbs6 hx6
     rw[←e6.out] at hx6
     obtain⟨q0,q1,q2,q3,q4,q5⟩:=hbs6.c6l
     obtain⟨x0,x1,x2,x3⟩:=hx6.c4
     clear hR hD1 g1 k1 hD2 hD2' g2 k2 hD3 hD hE hkp hj6 hx hz hbs6 hx6 m1 m2 m3 m4
     gi_wp2_with fail
     rw[ew6.out,e6.out]
     refine⟨fun h=>by simp[Fence.wide] at h,HR.out.mono ?_⟩
     rintro e W3 (⟨rfl,hJ3,hk3⟩ | ⟨rfl,hJx3,hk3⟩)
     ·have hE:GivesB L Wi.heap.size (k+1) (fun b=>b=b6) (fun _=>False) #[.agg #[.int .i64 s1,.int .i64 s0,.int .i64 (-s2)]] W3:=by unfold GivesB;rw[Hg2.out];rfl
      have hx3:=Hx6.out.kept hk3 (.inr rfl)
      have hyy:=HY.out (k+1) (fun b=>b=b6) (fun _=>False) _ W3 (HJ.out _ _ _ W3 W3 hJ3 (Kept.refl _ _) (fun b hb=>by rcases hb with h | h;exact .inl h;exact h.elim)) (fun b hb=>by rcases hb with h | h;rw[h];exact hx3.1;exact h.elim) hE Hk2.out
      clear hy x0 x1 x2 x3 q0 q1 q2 q3 q4 q5
      obtain⟨fn2,tmps2,assign2,body2,hy,hR⟩:=hyy
      have HR2:=hide hR
      have Hk3:=hide (Hkp.out.trans (hk3.mono fun _ _ h=> .inl h))
      obtain⟨q0,q1,q2,q3,q4,q5⟩:=(Hbs.out.kept Hk3.out (.inr rfl)).c6l
      obtain⟨x0,x1,x2,x3⟩:=hx3.c4
      clear hR hE hJ3 hk3
      gi_wp2_with fail
      refine⟨fun h=>by simp[Fence.wide] at h,HR2.out.mono ?_⟩
      rintro e W4 (⟨rfl,hJ4,hk4⟩ | ⟨rfl,hJx4,hk4⟩)
      ·have Hj4:=hide (HJ.out _ _ (fun _=>False) W4 W4 hJ4 (Kept.refl _ _) (fun b hb=>hb.elim))
       have Hk4:=hide (Hk3.out.trans (hk4.mono fun _ _ h=> .inl h))
       clear hJ4 hk4 hy x0 x1 x2 x3 q0 q1 q2 q3 q4 q5
       gi_wp2_with fail
       exact⟨⟨j+1,k+1+1,_,rfl,by omega,HD3,hide (by rw[hk.out];simp),Hj4,Hk4.out⟩,by simp[intOf];omega⟩
      ·clear hy x0 x1 x2 x3 q0 q1 q2 q3 q4 q5
       gi_wp2_with fail
       refine bodyPost_ret (results_none rfl _ _ _) rfl ?_
       exact .inl ⟨_,rfl,_,.inr ⟨k+1+1,by have:=Hk2.out;omega,hJx4⟩⟩
     ·clear hy x0 x1 x2 x3 q0 q1 q2 q3 q4 q5
      gi_wp2_with fail
      repeat(refine⟨fun _ h=>(by cases h),?_⟩;gi_wp2_with fail)
      refine bodyPost_ret (results_none rfl _ _ _) rfl ?_
      exact .inl ⟨_,rfl,_,.inr ⟨k+1,by have:=Hk2.out;omega,hJx3⟩⟩
    ·obtain rfl:n1=j:=by omega
     have hXd:sh.drop n1=[]:=List.drop_eq_nil_of_le (by have:=Hn1.out;omega)
     have HkO:=hide hkp;have hJO:=hJ
     obtain⟨wo3,rfl⟩:∃x,x=wr:=⟨wr,rfl⟩
     obtain⟨q0,q1,q2,q3,q4,q5⟩:=(Hbs.out.kept HkO.out (.inr rfl)).c6l
     have hDz:L=D ++ (fromB (fun _=>false) (markB p) sh.length (mk.drop 0)):=by rw[List.drop_zero];have:=hD.out;rw[hXd] at this;exact this
     have HDz:=hide hDz
     have hkO:=hk
     clear hDz hD hkp hJ hk
     gi_wp2_with fail
     clear q0 q1 q2 q3 q4 q5
     gi_loopw [82] (fun i wr=>∃(j k:Nat) (D:List Bd),i= .int .i64 j∧j≤n2∧Hid (L=D ++ (fromB (fun _=>false) (markB p) (sh.length+j) (mk.drop j)))∧Hid (k=D.length)∧Hid (J k (fun _=>False) wr)∧Kept (fun b=>b < B∨b=bs) Wi wr) (fun i _=>n2-(intOf i).toNat)
     case atStart=>exact⟨0,_,_,rfl,by omega,HDz,hkO,hJO,HkO.out⟩
     case round=>
      clear HDz hkO hJO HkO
      obtain⟨j,k,D,rfl,hj,hD,hk,hJ,hkp⟩:=hrel
      by_cases hlt:j < n2
      ·obtain⟨b,off,s0,s1,s2,rfl,hb,hx,d0,d1,d2⟩:=(Hm.out.keptR hkp (fun _ h=> .inl h) hBW).us (i:=j) (by have:=Hn2.out;omega)
       have hbd:=Hmb.out _ (List.mem_of_getElem? hx)
       dsimp only at hbd
       obtain⟨m1,m2,m3,m4⟩:=hbd
       obtain⟨b6,w6,e6,ew6,hx6,hb6,hz6⟩:=mk_bx wr #[.int .i64 s0,.int .i64 s1,.int .i64 s2] 382
       have hx6:At w6 b6 [.int .i64 s0,.int .i64 s1,.int .i64 s2]:=hx6.at_
       have hz:=drop_got hx
       have hD1:L=D ++ ⟨p,s0,s2⟩ :: ⟨s0,p,-s1⟩ :: (fromB (fun _=>false) (markB p) (sh.length+j+1) (mk.drop (j+1))):=by have:=hD.out;rw[hz] at this;exact this
       obtain⟨g1,k1,hD2⟩:=got_at hD1 hk.out
       have hD2':L=(D ++ [⟨p,s0,s2⟩]) ++ ⟨s0,p,-s1⟩ :: (fromB (fun _=>false) (markB p) (sh.length+j+1) (mk.drop (j+1))):=hD2
       obtain⟨g2,k2,hD3⟩:=got_at (k:=k+1) hD2' (by rw[hk.out];simp)
       have Hg2:=hide g2;have Hk2:=hide k2;have HD3:=hide hD3
       have hE:GivesB L Wi.heap.size k (fun b=>b=b6) (fun _=>False) #[.agg #[.int .i64 p,.int .i64 s0,.int .i64 s2]] w6:=by unfold GivesB;rw[g1];rfl
       have hj6:J k (fun b=>b=b6∨False) w6:=HJ.out k _ _ wr w6 hJ.out (Kept.all _ hb6) (fun b hb=>by rcases hb with h | h;exact .inr (by rw[h];have:=e6.out;omega);exact .inl h)
       have hyy:=HY.out k (fun b=>b=b6) (fun _=>False) _ w6 hj6 (fun b hb=>by rcases hb with h | h;rw[h];exact hx6.1;exact h.elim) hE k1
       obtain⟨fn,tmps,assign,body,hy,hR⟩:=hyy
       have HR:=hide hR
       have Hkp:=hide (hkp.trans (Kept.all (fun b=>b < B∨b=bs) hb6))
       have hbs6:=Hbs.out.kept Hkp.out (.inr rfl)
       have hlk:∀W,(Instr.lookup 159 (.map none) (.int .i64 ((n1:Int)+(j:Int))) false).run Tryz.prog W= .ok (.bool false) W:=fun W=>Maps.look_nil false mapB.key mapB.ty (mapB.zero _) (keyOf_int_mk mapB.ktype (okI_wf ⟨by omega,by omega⟩))
       have f1:IntKind.i64.wrap s2=s2:=wrapI (by omega)
       have f2:IntKind.i64.wrap (-s1)= -s1:=wrapI (by omega)
       have f3:IntKind.i64.wrap (0-s1)= -s1:=by rw[Int.zero_sub];exact f2
       have f4:IntKind.i64.wrap (s2+0)=s2:=by rw[Int.add_zero];exact f1
       have f5:IntKind.i64.wrap ((n1:Int)+(j:Int))=(n1:Int)+(j:Int):=wrapI (by omega)
       have Hbs6:=hide hbs6;have Hx6:=hide hx6
       rw[←ew6.out] at hy hbs6 hx6
       rw[←e6.out] at hx6
       obtain⟨q0,q1,q2,q3,q4,q5⟩:=hbs6.c6l
       obtain⟨x0,x1,x2⟩:=hx6.c3
       clear hR hD1 g1 k1 hD2 hD2' g2 k2 hD3 hD hE hkp hj6 hx hz hbs6 hx6 m1 m2 m3 m4
       gi_wp2_with fail
       rw[ew6.out,e6.out]
       refine⟨fun h=>by simp[Fence.wide] at h,HR.out.mono ?_⟩
       rintro e W3 (⟨rfl,hJ3,hk3⟩ | ⟨rfl,hJx3,hk3⟩)
       ·have hE:GivesB L Wi.heap.size (k+1) (fun b=>b=b6) (fun _=>False) #[.agg #[.int .i64 s0,.int .i64 p,.int .i64 (-s1)]] W3:=by unfold GivesB;rw[Hg2.out];rfl
        have hx3:=Hx6.out.kept hk3 (.inr rfl)
        have hyy:=HY.out (k+1) (fun b=>b=b6) (fun _=>False) _ W3 (HJ.out _ _ _ W3 W3 hJ3 (Kept.refl _ _) (fun b hb=>by rcases hb with h | h;exact .inl h;exact h.elim)) (fun b hb=>by rcases hb with h | h;rw[h];exact hx3.1;exact h.elim) hE Hk2.out
        clear hy x0 x1 x2 q0 q1 q2 q3 q4 q5
        obtain⟨fn2,tmps2,assign2,body2,hy,hR⟩:=hyy
        have HR2:=hide hR
        have Hk3:=hide (Hkp.out.trans (hk3.mono fun _ _ h=> .inl h))
        obtain⟨q0,q1,q2,q3,q4,q5⟩:=(Hbs.out.kept Hk3.out (.inr rfl)).c6l
        obtain⟨x0,x1,x2⟩:=hx3.c3
        clear hR hE hJ3 hk3
        gi_wp2_with fail
        refine⟨fun h=>by simp[Fence.wide] at h,HR2.out.mono ?_⟩
        rintro e W4 (⟨rfl,hJ4,hk4⟩ | ⟨rfl,hJx4,hk4⟩)
        ·have Hj4:=hide (HJ.out _ _ (fun _=>False) W4 W4 hJ4 (Kept.refl _ _) (fun b hb=>hb.elim))
         have Hk4:=hide (Hk3.out.trans (hk4.mono fun _ _ h=> .inl h))
         clear hJ4 hk4 hy x0 x1 x2 q0 q1 q2 q3 q4 q5
         gi_wp2_with fail
         exact⟨⟨j+1,k+1+1,_,rfl,by omega,HD3,hide (by rw[hk.out];simp),Hj4,Hk4.out⟩,by simp[intOf];omega⟩
        ·clear hy x0 x1 x2 q0 q1 q2 q3 q4 q5
         gi_wp2_with fail
         refine bodyPost_ret (results_none rfl _ _ _) rfl ?_
         exact .inl ⟨_,rfl,_,.inr ⟨k+1+1,by have:=Hk2.out;omega,hJx4⟩⟩
       ·clear hy x0 x1 x2 q0 q1 q2 q3 q4 q5
        gi_wp2_with fail
        repeat(refine⟨fun _ h=>(by cases h),?_⟩;gi_wp2_with fail)
        refine bodyPost_ret (results_none rfl _ _ _) rfl ?_
        exact .inl ⟨_,rfl,_,.inr ⟨k+1,by have:=Hk2.out;omega,hJx3⟩⟩
      ·obtain rfl:n2=j:=by omega
       have hXd:mk.drop n2=[]:=List.drop_eq_nil_of_le (by have:=Hn2.out;omega)
       have hend:L=D ++ []:=by have:=hD.out;rw[hXd] at this;simpa[fromB] using this
       have HL2:=hide (show L.length=k by rw[hend,hk.out];simp)
       have hJe:=hJ.out
       rw[←HL2.out] at hJe
       clear hend hD hk
       gi_wp2_with fail
       go_end0
       exact .inl ⟨_,rfl,_,.inl hJe⟩
end Go.Proofs.YtiioegopckoldaaGreatDoor
