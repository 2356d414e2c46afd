/- lemmas for topFed_holds: W8 Law OpenG OpenS. No conditions. -/
import Derived.Test.YtiioegopckoldaaGreatDoorK26
import Derived.Test.YtiioegopckoldaaGreatDoorRows
import Derived.Test.YtiioegopckoldaaGreatDoorK01
import Derived.ProofKit
import Derived.Deep.Slices
import Derived.ChangeSame
import Derived.OpenShut
import Derived.Test.YtiioegopckoldaaGreatDoorK29
set_option linter.unusedVariables false
set_option linter.unusedSimpArgs false
namespace Go.Proofs.YtiioegopckoldaaGreatDoor
open Go.RowKit Go.Shelf
attribute [local go_sem ↓] Go.wp_at_zero Go.wp_at_succ
def wkT (cs:List Ca) (c:Int):Wk:=match cs[c.toNat]? with | some ca=>wkF ca.seep ca.fill true | none=>⟨⟨0,0⟩,⟨0,0⟩⟩
def getK (cs:List Ca) (p:List Int) (v:Int):Int:=p.foldl (fun v c=>(goF (wkT cs c) ⟨v,v⟩).lo) v
theorem getK_snoc {cs:List Ca} {p:List Int} {v:Int} {k:Nat} {c:Int} (h:p[k]?=some c):getK cs (p.take (k+1)) v=(goF (wkT cs c) ⟨getK cs (p.take k) v,getK cs (p.take k) v⟩).lo:=by
 unfold getK
 rw[List.take_add_one,h]
 simp
theorem wkT_wf {cs:List Ca} {fs:List Int} {dry days:Int} (hok:netOk cs fs dry days=true) (c:Int):(wkT cs c).wf:=by
 unfold wkT
 cases hx:cs[c.toNat]? with
 | none=>simp[Wk.wf,amt]
 | some ca =>
   have h:=(caAll_iff 0 cs).1 (netOk_parts hok).2.2.2.2.2.1 _ _ hx
   simp only[caOk,inB,Sp.ok,Bool.and_eq_true,decide_eq_true_eq] at h
   obtain⟨_,⟨⟨h1,h2⟩,h3⟩,⟨h4,h5⟩,h6⟩:=h
   simp[wkF,Wk.wf,amt];omega
theorem getK_amt {cs:List Ca} {fs:List Int} {dry days:Int} (hok:netOk cs fs dry days=true) (p:List Int) {v:Int} (hv:amt v):∀k,k≤p.length→amt (getK cs (p.take k) v):=by
 intro k
 induction k with
 | zero=>intro _;simpa[getK] using hv
 | succ k ih =>
   intro hk
   rw[getK_snoc (List.getElem?_eq_getElem (by omega:k < p.length))]
   have h:=ih (by omega)
   exact(goF_amt (wkT_wf hok _) (v:=⟨_,_⟩) ⟨h,h⟩).1
theorem run_fieldSp (x y:Value) (w:World):(Instr.field 24 (.agg #[x,y]) 0).run Tryz.prog w= .ok x w:=by
 have h:(Tryz.prog.info? 24).isSome=true:=by kernel_rfl
 simp[Instr.field,go_sem,asAgg,Tryz.underlying24]
set_option maxHeartbeats 4000000 in
set_option maxRecDepth 100000 in
theorem minutes1_any (Ac Af Ap:Option Addr) (nc cc nf cf np cp:Nat) (dry days a b want m:Int) (cs:List Ca) (fs p:List Int) (bf bp bn bw:Nat) (w:World) (hnet:NetAt w Ac Af nc nf cs fs) (hok:netOk cs fs dry days=true) (hv:amt (a*m))
 (hp:Rd w w.heap.size icell Ap p) (hnp:np=p.length) (hp16:np≤1000) (hpr:∀x∈p,0≤x∧x < cs.length)
 (hf:At w bf [.int .i64 a,.int .i64 b]) (hpb:At w bp [.slice Ap np cp]) (hn:At w bn [.slice Ac nc cc,.slice Af nf cf,.int .i64 dry,.int .i64 days]) (hw:At w bw [.int .i64 want]) :
 Calls Tryz.prog 143 #[.int .i64 m,.pointer (some ⟨bf,0,none⟩),.pointer (some ⟨bp,0,none⟩),.pointer (some ⟨bn,0,none⟩),.pointer (some ⟨bw,0,none⟩)] w fun e w'=>e= .returned (.bool (decide (want≤getK cs p (a*m))))∧Below w.heap.size w w':=by
 have Hnet:=hide hnet;have Hok:=hide hok;have Hnp:=hide hnp;have Hpr:=hide hpr;have Hp:=hide hp;have Hn:=hide hn;have Hw:=hide hw
 have Ham:=hide (getK_amt hok p hv)
 have Em:wrap64 (a*m)=a*m:=w64 (by obtain⟨h1,h2⟩:=hv;omega)
 obtain⟨q0,q1⟩:=hf.c2
 have q2:=hpb.c1
 obtain⟨am,ham⟩:∃am,am=a*m:=⟨_,rfl⟩
 rw[←ham] at Em Ham ⊢
 clear hnet hok hnp hpr hp hn hw hv hf hpb
 go_enter Tryz.func143,Tryz.ntmps143
 go_wp2_with fail
 rw[←ham,Em]
 clear ham
 go_loopw [7,16] (fun v i wr=>∃k:Nat,k≤np∧i= .int .i64 k∧v= .int .i64 (getK cs (p.take k) am)∧Below w.heap.size w wr) (fun _ i _=>np-(intOf i).toNat)
 case atStart=>exact⟨0,by omega,rfl,rfl,Below.refl _ _⟩
 case round=>
  obtain⟨k,hk,rfl,rfl,hb⟩:=hrel
  obtain⟨V,hV⟩:∃V,V=getK cs (p.take k) am:=⟨_,rfl⟩
  have hVa:=Ham.out k (by have:=Hnp.out;omega)
  rw[←hV] at hVa ⊢
  have HVa:=hide hVa;have HV:=hide hV
  clear hV hVa q0 q1 q2
  by_cases hlt:k < np
  ·obtain⟨b0,off0,c,rfl,hB0,hxk,c0⟩:=((Hp.out.below hb).more hb.size).int (i:=k) (by have:=Hnp.out;omega)
   obtain⟨cp0,cp1⟩:=Hpr.out c (List.mem_of_getElem? hxk)
   obtain⟨cn,rfl⟩:∃cn:Nat,c=cn:=⟨c.toNat,by omega⟩
   obtain⟨bc,offc,cf0,s0,s1,l0,l1,rfl,hbc,hca,e0,e1,e2,e3,e4⟩:=(Hnet.out.below hb).rc.ca (i:=cn) (by omega)
   have hcb:=(caAll_iff 0 cs).1 (netOk_parts Hok.out).2.2.2.2.2.1 _ _ hca
   simp only[caOk,inB,Sp.ok,Bool.and_eq_true,decide_eq_true_eq] at hcb
   obtain⟨_,⟨⟨B0,B1⟩,B2⟩,⟨B3,B4⟩,B5⟩:=hcb
   have Hwk:=hide (show wkT cs cn=wkF ⟨s0,s1⟩ ⟨l0,l1⟩ true from by unfold wkT;rw[Int.toNat_natCast,hca])
   have hn1:=Hnet.out.ec
   have i0:(0:Int)≤(k:Int):=by omega
   have i1:(k:Int) < (np:Int):=by omega
   have i2:(cn:Int) < (nc:Int):=by omega
   obtain⟨q0,q1,q2,q3⟩:=(Hn.out.below hb).c4
   have Hxk:=hide hxk;have Hca:=hide hca;have Hn1:=hide hn1
   clear hxk hca hn1
   go_wp2_with fail
   refine(work_any cf0 s0 s1 l0 l1 true wr ⟨B0,by omega⟩ ⟨by omega,B2⟩).mono ?_
   rintro e w2 ⟨rfl,hb2⟩
   go_wp2_with fail
   refine(goes_any _ _ _ _ V V w2 (by have h:=wkT_wf Hok.out cn;rw[Hwk.out] at h;exact h) ⟨HVa.out,HVa.out⟩).mono ?_
   rintro e w3 ⟨rfl,hb3⟩
   go_wp2_with fail
   rw[run_fieldSp]
   go_wp2_with fail
   refine⟨⟨k+1,by omega,by go_num,?_,(hb.trans (hb2.mono hb.size)).trans (hb3.mono (Nat.le_trans hb.size hb2.size))⟩,by simp[intOf];omega⟩
   rw[getK_snoc Hxk.out,←HV.out,Hwk.out]
   rfl
  ·obtain rfl:k=np:=by omega
   have qw:=(Hw.out.below hb).c1
   go_wp2
   go_ret
   have hz:=HV.out
   rw[List.take_of_length_le (by have:=Hnp.out;omega)] at hz
   rw[←hz]
   exact⟨rfl,hb⟩
end Go.Proofs.YtiioegopckoldaaGreatDoor
namespace Go.Proofs.YtiioegopckoldaaGreatDoor
open Go.RowKit Go.Shelf
attribute [local go_sem ↓] Go.wp_at_zero Go.wp_at_succ
theorem enters_minutes1:∀args w,(callFunc 143 args).run Tryz.prog w= .ok (.enter 143 args) w:=enters_of Tryz.func143 (by kernel_rfl) rfl
def enoughB (cs:List Ca) (fs:List Int) (a k want m:Int):Bool:=decide (want≤getK cs (pathK cs fs k) (a*m))
def leastB (p:Int→Bool) (cyc r e:Int):Prop:=(e=6∧r=0∧p cyc=false)∨(e=0∧0≤r∧r≤cyc∧p r=true∧(r=0∨p (r-1)=false))
def minutesP (cs:List Ca) (fs:List Int) (dry days a b k want r e:Int):Prop:=
 if netOk cs fs dry days then(if Sp.ok 0 13000000 ⟨a,b⟩ then(if inF fs.length k && inB 0 1000000000000 want then leastB (enoughB cs fs a k want) (days*1440) r e else(r=0∧e=2)) else(r=0∧e=21)) else(r=0∧e=50)
theorem at_rd_int {W:World} {b:Nat} {x:Int} (h:At W b [.int .i64 x]):Rd W W.heap.size icell (some ⟨b,0,none⟩) [x]:=
 fun _=>⟨b,0,rfl,h.1,fun j v hv=>by rw[Nat.zero_add];exact h.2 j v (by simpa[icell] using hv)⟩
theorem want_lit (want:Int):(!(anyOut 0 1000000000000 [want]))=inB 0 1000000000000 want:=by
 simp only[anyOut,List.any_cons,List.any_nil,Bool.or_false,outB,inB,Bool.not_or]
 congr 1 <;> (rw[Bool.eq_iff_iff];simp)
set_option maxHeartbeats 4000000 in
set_option maxRecDepth 100000 in
theorem minutes_fn (Ac Af:Option Addr) (nc cc nf cf:Nat) (dry days a b k want:Int) (cs:List Ca) (fs:List Int) (w:World) (hnet:NetAt w Ac Af nc nf cs fs) :
 Calls Tryz.prog 77 #[.agg #[.slice Ac nc cc,.slice Af nf cf,.int .i64 dry,.int .i64 days],.agg #[.int .i64 a,.int .i64 b],.int .i64 k,.int .i64 want] w fun e w'=>∃r er:Int,e= .returned (.tuple #[.int .i64 r,.int .i64 er])∧minutesP cs fs dry days a b k want r er∧Below w.heap.size w w':=by
 have hat0:=((At.new w #[.slice Ac nc cc,.slice Af nf cf,.int .i64 dry,.int .i64 days] 28 w.heap.size rfl _ rfl).alloc (.cells #[.int .i64 a,.int .i64 b] 24)).alloc (.cells #[.int .i64 want] 3)
 have hat1:=(At.new (w.alloc (.cells #[.slice Ac nc cc,.slice Af nf cf,.int .i64 dry,.int .i64 days] 28)) #[.int .i64 a,.int .i64 b] 24 (w.heap.size+1) (by simp) _ rfl).alloc (.cells #[.int .i64 want] 3)
 have hat2:=At.new ((w.alloc (.cells #[.slice Ac nc cc,.slice Af nf cf,.int .i64 dry,.int .i64 days] 28)).alloc (.cells #[.int .i64 a,.int .i64 b] 24)) #[.int .i64 want] 3 (w.heap.size+1+1) (by simp) _ rfl
 have hB0:=((below_new w (.cells #[.slice Ac nc cc,.slice Af nf cf,.int .i64 dry,.int .i64 days] 28)).alloc (by simp) (.cells #[.int .i64 a,.int .i64 b] 24)).alloc (by simp;omega) (.cells #[.int .i64 want] 3)
 have hE:=fun W h=>enter_any Ac Af nc cc nf cf dry days cs fs a b W h
 have hnf2:=hnet.nf2
 have Hnet:=hide hnet
 clear hnet
 cases hgo:(netOk cs fs dry days && Sp.ok 0 13000000 ⟨a,b⟩)
 ·obtain⟨er,her,hne⟩:∃er:Int,er=(if netOk cs fs dry days then(if Sp.ok 0 13000000 ⟨a,b⟩ then 0 else 21) else 50)∧(er=21∨er=50):=by
   refine⟨_,rfl,?_⟩
   cases h1:netOk cs fs dry days <;> cases h2:Sp.ok 0 13000000 ⟨a,b⟩ <;> simp[h1,h2] at hgo ⊢
  have hs:minutesP cs fs dry days a b k want 0 er:=by
   rw[her];unfold minutesP
   cases h1:netOk cs fs dry days <;> cases h2:Sp.ok 0 13000000 ⟨a,b⟩ <;> simp[h1,h2] at hgo ⊢
  rw[←her] at hE
  have HE:=hide hE;have Hs:=hide hs
  clear hE her hs hgo
  rcases hne with rfl | rfl
  all_goals
   go_enter Tryz.func77,Tryz.ntmps77
   go_wp2_with fail
   refine calls_gen fun W1 HW1=>?_
   rw[HW1.out] at hat0 hat1 hat2 hB0
   refine(HE.out W1 (Hnet.out.below hB0)).mono ?_
   rintro e w2 ⟨rfl,hb2⟩
   go_wp2
   go_ret2
   exact⟨_,_,rfl,Hs.out,hB0.trans (hb2.mono hB0.size)⟩
 ·rw[Bool.and_eq_true] at hgo
  obtain⟨hok,hsp⟩:=hgo
  rw[hok,hsp] at hE
  simp only[if_true] at hE
  have hs:∀r e,(if inF nf k && inB 0 1000000000000 want then leastB (enoughB cs fs a k want) (days*1440) r e else(r=0∧e=2))→minutesP cs fs dry days a b k want r e:=by
   intro r e h;simpa[minutesP,hok,hsp,Hnet.out.ef] using h
  have hdy:=(netOk_parts hok).2.2.2.1
  have HE:=hide hE;have Hok:=hide hok;have Hsp:=hide hsp;have Hs:=hide hs
  clear hE hok hsp hs
  cases hin:inF nf k
  ·have hs2:=Hs.out 0 2 (by simp[hin])
   have Hin:=hide hin;have Hs2:=hide hs2
   clear hin hs2
   go_enter Tryz.func77,Tryz.ntmps77
   go_wp2_with fail
   refine calls_gen fun W1 HW1=>?_
   rw[HW1.out] at hat0 hat1 hat2 hB0
   refine(HE.out W1 (Hnet.out.below hB0)).mono ?_
   rintro e w2 ⟨rfl,hb2⟩
   have hat3:=hat0.below hb2
   have hB2:=hB0.trans (hb2.mono hB0.size)
   obtain⟨q0,q1,q2,q3⟩:=hat3.c4
   clear hat0 hB0 hb2 hat1
   go_wp2_with fail
   refine calls_gen fun W3 HW3=>?_
   have hb3:Below w2.heap.size w2 W3:=by rw[←HW3.out];exact(below_new _ _).alloc (by simp) _
   have hlit:Rd W3 W3.heap.size icell (some ⟨w2.heap.size+1,0,none⟩) [k]:=by rw[←HW3.out];exact at_rd_int (At.new _ #[.int .i64 k] _ _ (by simp) _ rfl)
   refine(field_any Ac Af nc cc nf cf dry days _ [k] 1 1 W3 rfl (by omega) hlit hnf2).mono ?_
   rintro e w4 ⟨rfl,hb4⟩
   rw[field_lit1,show(decide (0≤k) && decide (k < nf))=inF nf k from rfl,Hin.out]
   go_wp2
   go_ret2
   exact⟨_,_,rfl,Hs2.out,hB2.trans ((hb3.trans (hb4.mono hb3.size)).mono hB2.size)⟩
  ·have Hin:=hide hin
   have hk2:0≤k∧k < nf:=by simpa[inF] using hin
   obtain⟨k0,k1⟩:=hk2
   rw[hin,Bool.true_and] at Hs
   clear hin
   cases hwt:inB 0 1000000000000 want
   ·have hs2:=Hs.out 0 2 (by simp[hwt])
    have Hwt:=hide hwt;have Hs2:=hide hs2
    clear hwt hs2
    go_enter Tryz.func77,Tryz.ntmps77
    go_wp2_with fail
    refine calls_gen fun W1 HW1=>?_
    rw[HW1.out] at hat0 hat1 hat2 hB0
    refine(HE.out W1 (Hnet.out.below hB0)).mono ?_
    rintro e w2 ⟨rfl,hb2⟩
    have hat3:=hat0.below hb2
    have hat5:=hat2.below hb2
    have hB2:=hB0.trans (hb2.mono hB0.size)
    obtain⟨q0,q1,q2,q3⟩:=hat3.c4
    clear hat0 hB0 hb2 hat1
    go_wp2_with fail
    refine calls_gen fun W3 HW3=>?_
    have hb3:Below w2.heap.size w2 W3:=by rw[←HW3.out];exact(below_new _ _).alloc (by simp) _
    have hlit:Rd W3 W3.heap.size icell (some ⟨w2.heap.size+1,0,none⟩) [k]:=by rw[←HW3.out];exact at_rd_int (At.new _ #[.int .i64 k] _ _ (by simp) _ rfl)
    refine(field_any Ac Af nc cc nf cf dry days _ [k] 1 1 W3 rfl (by omega) hlit hnf2).mono ?_
    rintro e w4 ⟨rfl,hb4⟩
    rw[field_lit1,show(decide (0≤k) && decide (k < nf))=inF nf k from rfl,Hin.out]
    have hB4:=hB2.trans ((hb3.trans (hb4.mono hb3.size)).mono hB2.size)
    have qw:=((hat5.below hb3).below hb4).c1
    go_wp2_with fail
    refine calls_gen fun W5 HW5=>?_
    have hb5:Below w4.heap.size w4 W5:=by rw[←HW5.out];exact below_new _ _
    have hlit5:Rd W5 W5.heap.size icell (some ⟨w4.heap.size,0,none⟩) [want]:=by rw[←HW5.out];exact at_rd_int (At.new _ #[.int .i64 want] _ _ rfl _ rfl)
    refine(channel_from 0 1000000000000 _ [want] 1 1 W5 rfl (by omega) hlit5).mono ?_
    rintro e w6 ⟨rfl,hb6⟩
    rw[want_lit,Hwt.out]
    go_wp2
    go_ret2
    exact⟨_,_,rfl,Hs2.out,hB4.trans ((hb5.trans (hb6.mono hb5.size)).mono hB4.size)⟩
   ·have hs2:∀r e,leastB (enoughB cs fs a k want) (days*1440) r e→minutesP cs fs dry days a b k want r e:=fun r e h=>Hs.out r e (by rw[hwt];exact h)
    have Hwt:=hide hwt;have Hs2:=hide hs2
    clear hwt hs2 Hs
    go_enter Tryz.func77,Tryz.ntmps77
    go_wp2_with fail
    refine calls_gen fun W1 HW1=>?_
    rw[HW1.out] at hat0 hat1 hat2 hB0
    refine(HE.out W1 (Hnet.out.below hB0)).mono ?_
    rintro e w2 ⟨rfl,hb2⟩
    have hat3:=hat0.below hb2
    have hat4:=hat1.below hb2
    have hat5:=hat2.below hb2
    have hB2:=hB0.trans (hb2.mono hB0.size)
    obtain⟨q0,q1,q2,q3⟩:=hat3.c4
    clear hat0 hB0 hb2 hat1
    go_wp2_with fail
    refine calls_gen fun W3 HW3=>?_
    have hb3:Below w2.heap.size w2 W3:=by rw[←HW3.out];exact(below_new _ _).alloc (by simp) _
    have hlit:Rd W3 W3.heap.size icell (some ⟨w2.heap.size+1,0,none⟩) [k]:=by rw[←HW3.out];exact at_rd_int (At.new _ #[.int .i64 k] _ _ (by simp) _ rfl)
    have hx3:At W3 w2.heap.size [.slice Ac nc cc,.slice Af nf cf,.int .i64 dry,.int .i64 days]:=by rw[←HW3.out];exact(At.new w2 #[.slice Ac nc cc,.slice Af nf cf,.int .i64 dry,.int .i64 days] _ _ rfl _ rfl).alloc _
    refine(field_any Ac Af nc cc nf cf dry days _ [k] 1 1 W3 rfl (by omega) hlit hnf2).mono ?_
    rintro e w4 ⟨rfl,hb4⟩
    rw[field_lit1,show(decide (0≤k) && decide (k < nf))=inF nf k from rfl,Hin.out]
    have hb24:=hb3.trans (hb4.mono hb3.size)
    have hB4:=hB2.trans (hb24.mono hB2.size)
    have hw4:=hat5.below hb24
    have hf4:=hat4.below hb24
    have hn4:=hat3.below hb24
    have hx4:=hx3.below hb4
    have qw:=hw4.c1
    clear hat3 hat4 hat5 hat2 hx3 hlit q0 q1 q2 q3
    go_wp2_with fail
    refine calls_gen fun W5 HW5=>?_
    have hb5:Below w4.heap.size w4 W5:=by rw[←HW5.out];exact below_new _ _
    have hlit5:Rd W5 W5.heap.size icell (some ⟨w4.heap.size,0,none⟩) [want]:=by rw[←HW5.out];exact at_rd_int (At.new _ #[.int .i64 want] _ _ rfl _ rfl)
    refine(channel_from 0 1000000000000 _ [want] 1 1 W5 rfl (by omega) hlit5).mono ?_
    rintro e w6 ⟨rfl,hb6⟩
    rw[want_lit,Hwt.out]
    have hb46:=hb5.trans (hb6.mono hb5.size)
    have hB6:=hB4.trans (hb46.mono hB4.size)
    have hw6:=hw4.below hb46
    have hf6:=hf4.below hb46
    have hn6:=hn4.below hb46
    have hx6:=hx4.below hb46
    obtain⟨q0,q1,q2,q3⟩:=hx6.c4
    clear hw4 hf4 hn4 hx4 hlit5 hb5 hb6 hb46 hb3 hb4 hb24 qw
    go_wp2_with fail
    refine(path_net Ac Af nc cc nf cf dry days cs fs k w6 (Hnet.out.below hB6) Hok.out k0 k1).mono ?_
    rintro e w7 ⟨vp,rfl,hp,hb7⟩
    obtain⟨Ap,cp,rfl,hrp⟩:=hp.rd
    obtain⟨np,hnp⟩:∃np,np=(pathK cs fs k).length:=⟨_,rfl⟩
    rw[←hnp]
    have Hnp:=hide hnp
    obtain⟨w8,Hw8⟩:∃w8,Hid (w7.alloc (.cells #[.slice Ap np cp] 26)=w8):=⟨_,hide rfl⟩
    have hb8:Below w7.heap.size w7 w8:=by rw[←Hw8.out];exact below_new _ _
    have hp8:At w8 w7.heap.size [.slice Ap np cp]:=by rw[←Hw8.out];exact At.new w7 #[.slice Ap np cp] _ _ rfl _ rfl
    have hb68:=hb7.trans (hb8.mono hb7.size)
    have hB8:=hB6.trans (hb68.mono hB6.size)
    have hw8:=hw6.below hb68
    have hf8:=hf6.below hb68
    have hn8:=hn6.below hb68
    have hx8:=hx6.below hb68
    have hrp8:=(hrp.below hb8).more hb8.size
    have hnp16:np≤16:=by rw[hnp];exact pathK_len cs fs Hok.out k0 (by rw[←Hnet.out.ef];exact k1)
    have hpr:∀x∈pathK cs fs k,0≤x∧x < cs.length:=fun x hx=>by
     have h:x∈upK cs fs k:=by simpa[pathK,pathF,upK] using hx
     exact upK_okI Hok.out (k:=k) k0 (by rw[←Hnet.out.ef];exact k1) h
    have hm1:=fun (m:Int) (W:World) (h0:0≤m) (h1:m≤days*1440) (hb:Below w8.heap.size w8 W)=>
     minutes1_any Ac Af Ap nc cc nf cf np cp dry days a b want m cs fs (pathK cs fs k) (w.heap.size+1) w7.heap.size w.heap.size (w.heap.size+1+1) W (Hnet.out.below (hB8.trans (hb.mono hB8.size))) Hok.out (flow_amts Hsp.out hdy h0 h1).1
      ((hrp8.below hb).more hb.size) Hnp.out (by omega) hpr (hf8.below hb) (hp8.below hb) (hn8.below hb) (hw8.below hb)
    obtain⟨q0',q1',q2',q3'⟩:=hx8.c4
    rw[←Hw8.out] at q0' q1' q2' q3'
    have Hm1:=hide hm1;have Hx8:=hide hx8
    clear hm1 hw8 hf8 hn8 hx8 hp8 hrp8 hpr hrp hp hnp hw6 hf6 hn6 hx6 q0 q1 q2 q3
    have E1:=hide enters_minutes1
    go_wp2_with fail
    rw[Hw8.out]
    refine(cycle_any Ac Af nc cc nf cf dry days w8 (by omega) (by omega)).mono ?_
    rintro e w9 ⟨rfl,hb9⟩
    go_wp2_with fail
    refine(first_any 143 _ (enoughB cs fs a k want) (days*1440) w9 (by omega) (by omega) E1.out ?_).mono ?_
    ·intro m W h0 h1 hb
     exact Hm1.out m W h0 h1 (hb9.trans (hb.mono hb9.size))
    rintro e w10 ⟨r,rfl,⟨r0,r1⟩,hr2,hr3,hb10⟩
    have hx10:=(Hx8.out.below hb9).below hb10
    obtain⟨q0,q1,q2,q3⟩:=hx10.c4
    have Hr2:=hide hr2;have Hr3:=hide hr3
    clear hr2 hr3 q0' q1' q2' q3'
    go_wp2_with fail
    refine(cycle_any Ac Af nc cc nf cf dry days w10 (by omega) (by omega)).mono ?_
    rintro e w11 ⟨rfl,hb11⟩
    have hB11:=hB8.trans ((hb9.trans ((hb10.trans (hb11.mono hb10.size)).mono hb9.size)).mono hB8.size)
    by_cases hgt:days*1440 < r
    ·go_wp2
     go_ret2
     refine⟨_,_,rfl,Hs2.out 0 6 (.inl ⟨rfl,rfl,?_⟩),hB11⟩
     rcases Hr2.out with h | h
     ·omega
     ·rw[show r-1=days*1440 by omega] at h;exact h
    ·go_wp2
     go_ret2
     refine⟨_,_,rfl,Hs2.out r 0 (.inr ⟨rfl,by omega,by omega,?_,Hr2.out⟩),hB11⟩
     rcases Hr3.out with h | h
     ·omega
     ·exact h
end Go.Proofs.YtiioegopckoldaaGreatDoor
namespace Go.Proofs.YtiioegopckoldaaGreatDoor
open Go.RowKit Go.Shelf
open Go.RowKit Go.Shelf
attribute [local go_sem ↓] Go.wp_at_zero Go.wp_at_succ
open Go.RowKit Go.Shelf
attribute [local go_sem ↓] Go.wp_at_zero Go.wp_at_succ
theorem downF_mono {v v' fill thr:Int} (h:v≤v') (t0:0≤thr):downF v fill thr≤downF v' fill thr:=by
 unfold downF
 exact Int.ediv_le_ediv (by omega) (Int.mul_le_mul_of_nonneg_right (by omega) t0)
theorem getK_mono {cs:List Ca} {fs:List Int} {dry days:Int} (hok:netOk cs fs dry days=true):∀(p:List Int) {v v':Int},v≤v'→getK cs p v≤getK cs p v'
 | [],_,_,h=>h
 | c :: p,v,v',h=>getK_mono hok p (downF_mono h (wkT_wf hok c).2.2.1.1)
theorem leastB_one {p:Int→Bool} {cyc r e r' e':Int} (hm:∀x y,0≤x→x≤y→p x=true→p y=true) (h:leastB p cyc r e) (h':leastB p cyc r' e'):r=r'∧e=e':=by
 rcases h with⟨he,hr,hp⟩ | ⟨he,h0,h1,hp,hl⟩ <;> rcases h' with⟨he',hr',hp'⟩ | ⟨he',h0',h1',hp',hl'⟩
 ·omega
 ·have:=hm r' cyc h0' h1' hp';rw[hp] at this;cases this
 ·have:=hm r cyc h0 h1 hp;rw[hp'] at this;cases this
 ·refine⟨?_,by omega⟩
  by_cases hlt:r < r'
  ·rcases hl' with h2 | h2
   ·omega
   ·have:=hm r (r'-1) h0 (by omega) hp;rw[h2] at this;cases this
  ·by_cases hgt:r' < r
   ·rcases hl with h2 | h2
    ·omega
    ·have:=hm r' (r-1) h0' (by omega) hp';rw[h2] at this;cases this
   ·omega
theorem minutesP_one {cs:List Ca} {fs:List Int} {dry days a b k want r e r' e':Int} (h:minutesP cs fs dry days a b k want r e) (h':minutesP cs fs dry days a b k want r' e'):r=r'∧e=e':=by
 unfold minutesP at h h'
 split at h
 ·rename_i hok
  rw[if_pos hok] at h'
  split at h
  ·rename_i hsp
   rw[if_pos hsp] at h'
   split at h
   ·rename_i hin
    rw[if_pos hin] at h'
    have ha:0≤a:=by simp only[Sp.ok,Bool.and_eq_true,decide_eq_true_eq] at hsp;omega
    refine leastB_one (fun x y hx hxy hp=>?_) h h'
    have hp2:want≤getK cs (pathK cs fs k) (a*x):=by simpa[enoughB] using hp
    have:=getK_mono hok (pathK cs fs k) (Int.mul_le_mul_of_nonneg_left hxy ha)
    simp[enoughB]
    omega
   ·rename_i hin
    rw[if_neg hin] at h'
    omega
  ·rename_i hsp
   rw[if_neg hsp] at h'
   omega
 ·rename_i hok
  rw[if_neg hok] at h'
  omega
end Go.Proofs.YtiioegopckoldaaGreatDoor
namespace Go.Proofs.YtiioegopckoldaaGreatDoor
open Go.RowKit Go.Shelf Go.WideShapes Go.ChangeShapes Go.ChangeAt Go.Deep
theorem Tryz.own:ownKnob Tryz.prog.godebug=none:=by kernel_rfl
theorem Tryz.laidOut:laidOutB Tryz.prog=true:=by kernel_rfl
section
variable {H:Type} {enc:TypeId×Value→H} {P:Program}
theorem trodAll_stays (hl:laidOutB P=true) {W W':World} {sp:Nat→Bool} (hb:Below W.heap.size W W'):∀{ts:List TypeId} {vs:List Value} {ds:List (DataW H)} {ps:List MemPlace},
 (∀t∈ts,P.readableRec t=true∧t < P.types.size)→DataW.TrodAll enc P W 0 (fun _=>true) true ts vs ds ps→(∀x∈ps,x.block < W.heap.size)→(∀x∈ps,sp x.block=true)→DataW.TrodAll enc P W' 0 sp true ts vs ds ps
 | [], vs, ds, ps, _, h, _, _ => by
   obtain⟨rfl,rfl,rfl⟩:=trodAll_nil h
   exact trodAll_mk0
 | t :: ts, vs, ds, ps, ht, h, hlt, hsp => by
   obtain⟨v,vs',d,ds',p,q,rfl,rfl,rfl,hd,hr⟩:=trodAll_cons h
   have h1:=WideElems.Trod_stays hl (ht t (by simp)).1 (ht t (by simp)).2 (sp':=sp) hd (fun x hx=>hb.same (hlt x (by simp[hx]))) (fun x hx=>hsp x (by simp[hx]))
   have h2:=trodAll_stays hl hb (fun t' h'=>ht t' (by simp[h'])) hr (fun x hx=>hlt x (by simp[hx])) (fun x hx=>hsp x (by simp[hx]))
   exact trodAll_cons_mk h1 h2
theorem post_of_below {f:Func} {s:ChangeSpec} {apart fresh handsOn again:Bool} {W W':World} {args:Array Value} {v:Value} {ds gs:List (DataW H)} {before pa pv:List MemPlace}
 (hW:DataW.Whole enc P f.params.toList s.vars apart W args.toList ds gs before)
 (hres:∀(b:Nat) (sp:Nat→Bool) (hd:Bool),DataW.TrodAll enc P W' b sp hd f.resultTypes.toList (v.resultList f.resultTypes.size) (s.fn H (ds ++ gs)).results [])
 (hargs:∀sp:Nat→Bool,(∀p∈before,sp p.block=true)→DataW.TrodAll enc P W' 0 sp true f.params.toList args.toList (s.fn H (ds ++ gs)).args pa)
 (hvars:∀sp:Nat→Bool,(∀p∈before,sp p.block=true)→DataW.TrodVars enc P W' sp s.vars (s.fn H (ds ++ gs)).vars pv)
 (hps:before=pa ++ pv) (hb:Below W.heap.size W W')
 (hok:∀(j:Nat) (t:TypeId) (r:Value),f.resultTypes[j]?=some t→(v.resultList f.resultTypes.size)[j]?=some r→Value.okWide P W' .any 0 t r) :
 s.post enc P f apart fresh handsOn again W args v W':=by
 have hlt:∀p∈before,p.block < W.heap.size:=fun p hp=>hW.lt p hp
 have hold:∀p∈before,(fun b=>decide (b < W.heap.size)) p.block=true:=fun p hp=>by simpa using hlt p hp
 refine⟨ds,gs,before,[],pa,pv,hW,hres _ _ _,hargs _ hold,hvars _ hold,World.keptBut_mono (fun p hp=>⟨hp,?_⟩) (hb.frame (·∈before)),fun _=>?_⟩
 ·rw[hps,List.mem_append] at hp
  exact Or.inr hp
 ·obtain⟨_,_,_,_,_,hz,hn⟩:=hW
  refine⟨hok,_,_,([] ++ pa) ++ pv,⟨[] ++ pa,pv,trodAll_append (hargs _ (fun _ _=>rfl)) (hres _ _ _),hvars _ (fun _ _=>rfl),rfl,?_,?_⟩,?_⟩
  ·intro b off hp
   have hin:MemPlace.cell b off∈before:=by rw[hps];simpa using hp
   rw[hb.frozen (hlt _ hin)]
   exact hz b off hin
  ·intro ha
   have:=hn ha
   rw[hps] at this
   simpa using this
  ·intro p hp _
   rw[hps]
   simpa using hp
end
end Go.Proofs.YtiioegopckoldaaGreatDoor
namespace Go.Proofs.YtiioegopckoldaaGreatDoor
open Go.RowKit Go.Shelf Go.WideShapes Go.ChangeShapes Go.ChangeAt Go.Deep
def Shape {α:Type} (t:TypeId) (rep:α→List Value) (ok:α→Prop):Prop:=
 ∀(H:Type) (enc:TypeId×Value→H) (w:World) (base:Nat) (spare:Nat→Bool) (held:Bool) (fuel:Nat) (cs:List Value) (x:DataW H×List MemPlace),DataW.trod enc Tryz.prog w base spare held fuel t cs=some x→∃a:α,cs=rep a∧ok a
def i64ok (n:Int):Prop:= -9223372036854775808≤n∧n≤9223372036854775807
theorem i64ok_of {n:Int} (h:(Lit.int .i64 n).wf=true):i64ok n:=bounds_i64 h
theorem shape_int:Shape 3 icell i64ok:=fun H enc w base spare held fuel cs x h=>by
 obtain⟨n,rfl,_,hw⟩:=DataW.trod_int Tryz.underlying3 h
 exact⟨n,rfl,i64ok_of hw⟩
theorem trod_field {H:Type} {enc:TypeId×Value→H} {P:Program} {w:World} {base:Nat} {spare:Nat→Bool} {held:Bool} {fuel:Nat} {t:TypeId} {cs:List Value} {x:DataW H×List MemPlace} {fs:Array Field}
 (ht:P.underlying t=some (.struct fs)) (h:DataW.trod enc P w base spare held fuel t cs=some x) :
 cs.length=P.cellsOf t∧∀(i:Nat) (f:Field),fs[i]?=some f→∃n y,DataW.trod enc P w base spare held n f.type ((cs.drop f.offset).take (P.cellsOf f.type))=some y:=by
 obtain⟨xs,n,_,_,hl,hlen,hf⟩:=DataW.trod_struct ht h
 refine⟨hl,fun i f hi=>⟨n,?_⟩⟩
 have hi':i < xs.length:=by rw[hlen];exact(Array.getElem?_eq_some_iff.1 hi).1
 rw[hf i f hi,List.getElem?_eq_getElem hi']
 exact⟨_,rfl⟩
def Sp.wf (s:Sp):Prop:=i64ok s.lo∧i64ok s.hi
theorem cells_int:Tryz.prog.cellsOf 3=1:=by kernel_rfl
theorem cells_sp:Tryz.prog.cellsOf 24=2:=by kernel_rfl
theorem trod_sub {α:Type} {t ft:TypeId} {off k:Nat} {rep:α→List Value} {ok:α→Prop} {H:Type} {enc:TypeId×Value→H} {w:World} {base:Nat} {spare:Nat→Bool} {held:Bool} {fuel:Nat} {cs:List Value} {x:DataW H×List MemPlace} {fs:Array Field}
 (ht:Tryz.prog.underlying t=some (.struct fs)) (h:DataW.trod enc Tryz.prog w base spare held fuel t cs=some x) (i:Nat) {f:Field} (hi:fs[i]?=some f) (hft:f.type=ft) (hoff:f.offset=off) (hk:Tryz.prog.cellsOf ft=k) (hs:Shape ft rep ok) :
 ∃a,(cs.drop off).take k=rep a∧ok a:=by
 obtain⟨_,hf⟩:=trod_field ht h
 obtain⟨_,_,h0⟩:=hf i f hi
 rw[hft,hoff,hk] at h0
 exact hs _ _ _ _ _ _ _ _ _ h0
theorem shape_sp:Shape 24 Sp.cells Sp.wf:=fun H enc w base spare held fuel cs x h=>by
 have hl:=(trod_field Tryz.underlying24 h).1
 rw[cells_sp] at hl
 obtain⟨a,e0,o0⟩:=trod_sub Tryz.underlying24 h 0 rfl rfl rfl cells_int shape_int
 obtain⟨b,e1,o1⟩:=trod_sub Tryz.underlying24 h 1 rfl rfl rfl cells_int shape_int
 match cs,hl with
 | [c0, c1], _ =>
   refine⟨⟨a,b⟩,?_,o0,o1⟩
   simp[icell] at e0 e1
   rw[e0,e1];rfl
set_option maxRecDepth 100000 in
theorem open_val {α:Type} {t:TypeId} {rep:α→List Value} {ok:α→Prop} (hs:Shape t rep ok) {fs:Array Field} (ht:Tryz.prog.underlying t=some (.struct fs)) {H:Type} {enc:TypeId×Value→H} {W:World} {base b':Nat} {spare:Nat→Bool} {held:Bool} {v:Value} {d:DataW H} {p:List MemPlace}
 (hv:Value.okWide Tryz.prog W .any b' t v) (h:DataW.Trod enc Tryz.prog W base spare held t v d p):∃a:α,v= .agg (rep a).toArray∧ok a:=by
 obtain⟨cs,rfl,_⟩:=okWide_struct ht hv
 obtain⟨fuel,hf⟩:=h
 obtain⟨a,e,o⟩:=hs _ _ _ _ _ _ _ _ _ hf
 refine⟨a,?_,o⟩
 have:cs.toList=rep a:=e
 rw[←this]
set_option maxRecDepth 100000 in
theorem open_sl_cs {α:Type} {t e:TypeId} {rep:α→List Value} {ok:α→Prop} {k:Nat} (hs:Shape e rep ok) (ht:Tryz.prog.underlying t=some (.slice e)) (hC:Tryz.prog.cellsOf e=k) (hk:∀a,(rep a).length=k) (hk0:0 < k)
 {H:Type} {enc:TypeId×Value→H} {W:World} {base:Nat} {spare:Nat→Bool} {held:Bool} {fuel:Nat} {cs:List Value} {y:DataW H×List MemPlace}
 (hf:DataW.trod enc Tryz.prog W base spare held fuel t cs=some y) :
 ∃A n c,∃xs:List α,cs=[.slice A n c]∧n=xs.length∧n≤9223372036854775807∧Rd W W.heap.size rep A xs∧∀x∈xs,ok x:=by
 rcases open_slice ht hf with⟨hcs,_⟩ | ⟨a,len,cap,m,n,D,Pl,hcs,_,hl,hm,hmm,_,hi⟩
 ·subst hcs
  exact⟨none,0,0,[],rfl,rfl,by omega,Rd.nil _ _ _ _,by simp⟩
 ·subst hcs
  have hle:len≤m:=by rw[hmm];split <;> omega
  have hex:∀i,i < len→∃x:α,ok x∧∀j u,(rep x)[j]?=some u→W.cell? (a.add (i*k+j))=some u:=fun i hlt=>by
   obtain⟨cs',hc,ht'⟩:=hi i (by omega)
   rw[hC] at hc
   obtain⟨x,rfl,o⟩:=hs _ _ _ _ _ _ _ _ _ ht'
   obtain⟨_,hcl,hat⟩:=World.cells?_some hc
   refine⟨x,o,fun j u hu=>?_⟩
   have hj:j < k:=by rw[←hcl];exact(List.getElem?_eq_some_iff.1 hu).1
   have:=hat j hj
   rw[hu,add_add] at this
   exact this
  rcases Nat.eq_zero_or_pos len with h0 | h0
  ·subst h0
   exact⟨some a,0,cap,[],rfl,rfl,by omega,Rd.nil _ _ _ _,by simp⟩
  ·obtain⟨x0,_,_⟩:=hex 0 h0
   haveI:Inhabited α:=⟨x0⟩
   obtain⟨f,hfx⟩:=choose_lt hex
   have hspot:a.spot=none∧a.block < W.heap.size:=by
    have h1:0 < (rep (f 0)).length:=by rw[hk];exact hk0
    have h2:=(hfx 0 h0).2 0 _ (List.getElem?_eq_getElem h1)
    rw[show 0*k+0=0 by omega] at h2
    have h3:a.add 0=a:=by simp[Addr.add]
    rw[h3] at h2
    refine⟨?_,World.block_lt_of_cell? W a h2⟩
    unfold World.cell? at h2
    split at h2
    ·split at h2
     ·cases h2
     ·rename_i hn;simpa using hn
    ·cases h2
   have hA:a=⟨a.block,a.off,none⟩:=by
    obtain⟨ab,ao,sp⟩:=a
    simp only at hspot
    rw[hspot.1]
   refine⟨some a,len,cap,(List.range len).map f,rfl,by simp,by simp only[maxLen] at hm;omega,fun _=>⟨a.block,a.off,by rw[←hA],hspot.2,?_⟩,?_⟩
   ·intro j u hu
    have hlen:=flat_len hk ((List.range len).map f)
    have hj:j < len*k:=by
     have:=(List.getElem?_eq_some_iff.1 hu).1
     rw[hlen] at this
     simpa using this
    have hik:j / k < len:=Nat.div_lt_of_lt_mul (by rw[Nat.mul_comm];exact hj)
    have hdm:j / k*k+j % k=j:=by rw[Nat.mul_comm];exact Nat.div_add_mod j k
    have hx:((List.range len).map f)[j / k]?=some (f (j / k)):=by simp[hik]
    have h4:=flat_get hk hx (Nat.mod_lt j hk0)
    rw[hdm,hu] at h4
    have h5:=(hfx _ hik).2 _ _ h4.symm
    rw[hdm,hA] at h5
    unfold Addr.add at h5
    split at h5
    ·rename_i hz;rw[hz];simpa using h5
    ·exact h5
   ·intro x hx
    obtain⟨i,hi',rfl⟩:=List.mem_map.1 hx
    exact(hfx i (by simpa using hi')).1
set_option maxRecDepth 100000 in
theorem open_sl {α:Type} {t e:TypeId} {rep:α→List Value} {ok:α→Prop} {k:Nat} (hs:Shape e rep ok) (ht:Tryz.prog.underlying t=some (.slice e)) (hC:Tryz.prog.cellsOf e=k) (hk:∀a,(rep a).length=k) (hk0:0 < k)
 {H:Type} {enc:TypeId×Value→H} {W:World} {base b':Nat} {spare:Nat→Bool} {held:Bool} {v:Value} {d:DataW H} {p:List MemPlace}
 (hv:Value.okWide Tryz.prog W .any b' t v) (h:DataW.Trod enc Tryz.prog W base spare held t v d p) :
 ∃A n c,∃xs:List α,v= .slice A n c∧n=xs.length∧n≤9223372036854775807∧Rd W W.heap.size rep A xs∧∀x∈xs,ok x:=by
 obtain⟨a0,len,cap,rfl⟩:=okWide_slice ht hv
 obtain⟨fuel,hf⟩:=h
 rcases open_slice ht hf with⟨hcs,_⟩ | ⟨a,len',cap',m,n,D,Pl,hcs,_,hl,hm,hmm,_,hi⟩
 ·simp[Value.cells] at hcs
  obtain⟨rfl,rfl,rfl⟩:=hcs
  exact⟨none,0,0,[],rfl,rfl,by omega,Rd.nil _ _ _ _,by simp⟩
 ·simp[Value.cells] at hcs
  obtain⟨rfl,rfl,rfl⟩:=hcs
  have hle:len≤m:=by rw[hmm];split <;> omega
  have hex:∀i,i < len→∃x:α,ok x∧∀j u,(rep x)[j]?=some u→W.cell? (a.add (i*k+j))=some u:=fun i hlt=>by
   obtain⟨cs',hc,ht'⟩:=hi i (by omega)
   rw[hC] at hc
   obtain⟨x,rfl,o⟩:=hs _ _ _ _ _ _ _ _ _ ht'
   obtain⟨_,hcl,hat⟩:=World.cells?_some hc
   refine⟨x,o,fun j u hu=>?_⟩
   have hj:j < k:=by rw[←hcl];exact(List.getElem?_eq_some_iff.1 hu).1
   have:=hat j hj
   rw[hu,add_add] at this
   exact this
  rcases Nat.eq_zero_or_pos len with h0 | h0
  ·subst h0
   exact⟨some a,0,cap,[],rfl,rfl,by omega,Rd.nil _ _ _ _,by simp⟩
  ·obtain⟨x0,_,_⟩:=hex 0 h0
   haveI:Inhabited α:=⟨x0⟩
   obtain⟨f,hfx⟩:=choose_lt hex
   have hspot:a.spot=none∧a.block < W.heap.size:=by
    have h1:0 < (rep (f 0)).length:=by rw[hk];exact hk0
    have h2:=(hfx 0 h0).2 0 _ (List.getElem?_eq_getElem h1)
    rw[show 0*k+0=0 by omega] at h2
    have h3:a.add 0=a:=by simp[Addr.add]
    rw[h3] at h2
    refine⟨?_,World.block_lt_of_cell? W a h2⟩
    unfold World.cell? at h2
    split at h2
    ·split at h2
     ·cases h2
     ·rename_i hn;simpa using hn
    ·cases h2
   have hA:a=⟨a.block,a.off,none⟩:=by
    obtain⟨ab,ao,sp⟩:=a
    simp only at hspot
    rw[hspot.1]
   refine⟨some a,len,cap,(List.range len).map f,rfl,by simp,by simp only[maxLen] at hm;omega,fun _=>⟨a.block,a.off,by rw[←hA],hspot.2,?_⟩,?_⟩
   ·intro j u hu
    have hlen:=flat_len hk ((List.range len).map f)
    have hj:j < len*k:=by
     have:=(List.getElem?_eq_some_iff.1 hu).1
     rw[hlen] at this
     simpa using this
    have hik:j / k < len:=Nat.div_lt_of_lt_mul (by rw[Nat.mul_comm];exact hj)
    have hdm:j / k*k+j % k=j:=by rw[Nat.mul_comm];exact Nat.div_add_mod j k
    have hx:((List.range len).map f)[j / k]?=some (f (j / k)):=by simp[hik]
    have h4:=flat_get hk hx (Nat.mod_lt j hk0)
    rw[hdm,hu] at h4
    have h5:=(hfx _ hik).2 _ _ h4.symm
    rw[hdm,hA] at h5
    unfold Addr.add at h5
    split at h5
    ·rename_i hz;rw[hz];simpa using h5
    ·exact h5
   ·intro x hx
    obtain⟨i,hi',rfl⟩:=List.mem_map.1 hx
    exact(hfx i (by simpa using hi')).1
end Go.Proofs.YtiioegopckoldaaGreatDoor
namespace Go.Proofs.YtiioegopckoldaaGreatDoor
open Go.RowKit Go.Shelf Go.WideShapes Go.ChangeShapes Go.ChangeAt
section
variable {H:Type} {enc:TypeId×Value→H} {P:Program} {w:World} {base:Nat} {spare:Nat→Bool} {held:Bool}
theorem trodAll_six {t0 t1 t2 t3 t4 t5:TypeId} {args:Array Value} {ds:List (DataW H)} {ps:List MemPlace} (h:DataW.TrodAll enc P w base spare held [t0,t1,t2,t3,t4,t5] args.toList ds ps) :
 ∃v0 v1 v2 v3 v4 v5 d0 d1 d2 d3 d4 d5 p0 p1 p2 p3 p4 p5,args= #[v0,v1,v2,v3,v4,v5]∧ds=[d0,d1,d2,d3,d4,d5]∧ps=p0 ++ p1 ++ p2 ++ p3 ++ p4 ++ p5∧DataW.Trod enc P w base spare held t0 v0 d0 p0∧DataW.Trod enc P w base spare held t1 v1 d1 p1∧DataW.Trod enc P w base spare held t2 v2 d2 p2∧DataW.Trod enc P w base spare held t3 v3 d3 p3∧DataW.Trod enc P w base spare held t4 v4 d4 p4∧DataW.Trod enc P w base spare held t5 v5 d5 p5:=by
 obtain⟨v0,vs0,d0,ds0,p0,q0,hargs,rfl,rfl,hd0,hrest⟩:=trodAll_cons h
 obtain⟨v1,vs1,d1,ds1,p1,q1,rfl,rfl,rfl,hd1,hrest⟩:=trodAll_cons hrest
 obtain⟨v2,vs2,d2,ds2,p2,q2,rfl,rfl,rfl,hd2,hrest⟩:=trodAll_cons hrest
 obtain⟨v3,vs3,d3,ds3,p3,q3,rfl,rfl,rfl,hd3,hrest⟩:=trodAll_cons hrest
 obtain⟨v4,vs4,d4,ds4,p4,q4,rfl,rfl,rfl,hd4,hrest⟩:=trodAll_cons hrest
 obtain⟨v5,vs5,d5,ds5,p5,q5,rfl,rfl,rfl,hd5,hrest⟩:=trodAll_cons hrest
 obtain⟨rfl,rfl,rfl⟩:=trodAll_nil hrest
 exact⟨v0,v1,v2,v3,v4,v5,d0,d1,d2,d3,d4,d5,p0,p1,p2,p3,p4,p5,by cases args;simp_all,rfl,by simp,hd0,hd1,hd2,hd3,hd4,hd5⟩
end
def u32cell (n:Nat):List Value:=[.int .u32 (n:Int)]
theorem u32cell_len (n:Nat):(u32cell n).length=1:=rfl
theorem Rd.u32 {w:World} {B:Nat} {A:Option Addr} {xs:List Nat} (h:Rd w B u32cell A xs) {i:Nat} (hi:i < xs.length) :
 ∃b off n,A=some ⟨b,off,none⟩∧b < B∧xs[i]?=some n∧w.cell? ⟨b,off+i,none⟩=some (.int .u32 (n:Int)):=by
 obtain⟨b,off,e,hB,hc⟩:=h (by omega)
 have hx:xs[i]?=some xs[i]:=List.getElem?_eq_getElem hi
 have:=flat_get u32cell_len hx (j:=0) (by omega)
 simp only[Nat.mul_one,Nat.add_zero] at this
 exact⟨b,off,_,e,hB,hx,hc _ _ this⟩
theorem bounds_u32 {n:Int} (h:(Lit.int .u32 n).wf=true):0≤n∧n≤4294967295:=by
 simp[Lit.wf,IntKind.min,IntKind.max,IntKind.signed,IntKind.bits] at h
 omega
theorem cells_u32:Tryz.prog.cellsOf 44=1:=by kernel_rfl
theorem shape_u32:Shape 44 u32cell (fun n=>n≤4294967295):=fun H enc w base spare held fuel cs x h=>by
 obtain⟨n,rfl,_,hw⟩:=DataW.trod_int Tryz.underlying44 h
 have hb:=bounds_u32 hw
 exact⟨n.toNat,by unfold u32cell;rw[Int.toNat_of_nonneg hb.1],by omega⟩
def u8cell (n:Nat):List Value:=[.int .u8 (n:Int)]
theorem u8cell_len (n:Nat):(u8cell n).length=1:=rfl
theorem Rd.u8 {w:World} {B:Nat} {A:Option Addr} {xs:List Nat} (h:Rd w B u8cell A xs) {i:Nat} (hi:i < xs.length) :
 ∃b off n,A=some ⟨b,off,none⟩∧b < B∧xs[i]?=some n∧w.cell? ⟨b,off+i,none⟩=some (.int .u8 (n:Int)):=by
 obtain⟨b,off,e,hB,hc⟩:=h (by omega)
 have hx:xs[i]?=some xs[i]:=List.getElem?_eq_getElem hi
 have:=flat_get u8cell_len hx (j:=0) (by omega)
 simp only[Nat.mul_one,Nat.add_zero] at this
 exact⟨b,off,_,e,hB,hx,hc _ _ this⟩
end Go.Proofs.YtiioegopckoldaaGreatDoor
namespace Go.Proofs.YtiioegopckoldaaGreatDoor
open Go.RowKit Go.Shelf Go.WideShapes Go.ChangeShapes Go.ChangeAt Go.Deep
def So.wf (s:So):Prop:=s.salt.wf∧i64ok s.limit∧i64ok s.crop∧s.mineral.wf∧s.wash.wf∧s.rise.wf
theorem So.len (s:So):s.cells.length=10:=rfl
theorem cells_so:Tryz.prog.cellsOf 51=10:=by kernel_rfl
theorem shape_so:Shape 51 So.cells So.wf:=fun H enc w base spare held fuel cs x h=>by
 have hl:=(trod_field Tryz.underlying51 h).1
 rw[cells_so] at hl
 obtain⟨a,e0,o0⟩:=trod_sub Tryz.underlying51 h 0 rfl rfl rfl cells_sp shape_sp
 obtain⟨b,e1,o1⟩:=trod_sub Tryz.underlying51 h 1 rfl rfl rfl cells_int shape_int
 obtain⟨c,e2,o2⟩:=trod_sub Tryz.underlying51 h 2 rfl rfl rfl cells_int shape_int
 obtain⟨d,e3,o3⟩:=trod_sub Tryz.underlying51 h 3 rfl rfl rfl cells_sp shape_sp
 obtain⟨e,e4,o4⟩:=trod_sub Tryz.underlying51 h 4 rfl rfl rfl cells_sp shape_sp
 obtain⟨f,e5,o5⟩:=trod_sub Tryz.underlying51 h 5 rfl rfl rfl cells_sp shape_sp
 match cs,hl with
 | [c0, c1, c2, c3, c4, c5, c6, c7, c8, c9], _ =>
   refine⟨⟨a,b,c,d,e,f⟩,?_,o0,o1,o2,o3,o4,o5⟩
   simp[Sp.cells,icell] at e0 e1 e2 e3 e4 e5
   rw[e0.1,e0.2,e1,e2,e3.1,e3.2,e4.1,e4.2,e5.1,e5.2];rfl
end Go.Proofs.YtiioegopckoldaaGreatDoor
