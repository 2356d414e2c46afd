/- lemmas for topFed_holds: W7 S1 S2 S3H S7. No conditions. -/
import Derived.Test.YtiioegopckoldaaGreatDoorK28
import Derived.Test.YtiioegopckoldaaGreatDoorK01
import Derived.Handy
import Derived.Deep.RegionHeld3
import Derived.Test.YtiioegopckoldaaGreatDoorK03
import Derived.Test.YtiioegopckoldaaGreatDoorK02
set_option linter.unusedVariables false
set_option linter.unusedSimpArgs false
namespace Go.Proofs.YtiioegopckoldaaGreatDoor
open Go.RowKit Go.Shelf
attribute [local go_sem ↓] Go.wp_at_zero Go.wp_at_succ
def watersS (cs:List Ca) (fs:List Int) (dry days a b:Int) (us:List Us):(List Sp×List Sp)×Int:=
 if netOk cs fs dry days then(if Sp.ok 0 13000000 ⟨a,b⟩ then(if usesOk fs.length days us then(watersK cs fs dry (days*1440) a b us us.length,0) else(([],[]),51)) else(([],[]),21)) else(([],[]),50)
set_option maxHeartbeats 4000000 in
set_option maxRecDepth 100000 in
theorem waters_fn (Ac Af Au:Option Addr) (nc cc nf cf nu cu:Nat) (dry days a b:Int) (cs:List Ca) (fs:List Int) (us:List Us) (w:World) (hnet:NetAt w Ac Af nc nf cs fs) (hus:Rd w w.heap.size Us.cells Au us) (hnu:nu=us.length) (hnu2:nu≤100000) :
 Calls Tryz.prog 13 #[.agg #[.slice Ac nc cc,.slice Af nf cf,.int .i64 dry,.int .i64 days],.agg #[.int .i64 a,.int .i64 b],.slice Au nu cu] w fun e w'=>∃v1 v2,e= .returned (.tuple #[v1,v2,.int .i64 (watersS cs fs dry days a b us).2])∧
  Own w' w.heap.size 24 2 Sp.cells v1 (watersS cs fs dry days a b us).1.1∧Own w' w.heap.size 24 2 Sp.cells v2 (watersS cs fs dry days a b us).1.2∧Below w.heap.size w w':=by
 have hat0:=(At.new w #[.slice Ac nc cc,.slice Af nf cf,.int .i64 dry,.int .i64 days] 28 w.heap.size rfl _ rfl).alloc (.cells #[.int .i64 a,.int .i64 b] 24)
 have hat1:=At.new (w.alloc (.cells #[.slice Ac nc cc,.slice Af nf cf,.int .i64 dry,.int .i64 days] 28)) #[.int .i64 a,.int .i64 b] 24 (w.heap.size+1) (by simp) _ rfl
 have hB0:=(below_new w (.cells #[.slice Ac nc cc,.slice Af nf cf,.int .i64 dry,.int .i64 days] 28)).alloc (by simp) (.cells #[.int .i64 a,.int .i64 b] 24)
 have hE:=fun W h=>enter_any Ac Af nc cc nf cf dry days cs fs a b W h
 have hnf2:=hnet.nf2
 have Hus:=hide hus;have Hnu:=hide hnu;have Hnet:=hide hnet
 clear hus hnu hnet
 cases hgo:(netOk cs fs dry days && Sp.ok 0 13000000 ⟨a,b⟩)
 ·obtain⟨er,her,hne⟩:∃er:Int,er=(if netOk cs fs dry days then(if Sp.ok 0 13000000 ⟨a,b⟩ then 0 else 21) else 50)∧(er=21∨er=50):=by
   refine⟨_,rfl,?_⟩
   cases h1:netOk cs fs dry days <;> cases h2:Sp.ok 0 13000000 ⟨a,b⟩ <;> simp[h1,h2] at hgo ⊢
  have hs:watersS cs fs dry days a b us=(([],[]),er):=by
   rw[her];unfold watersS
   cases h1:netOk cs fs dry days <;> cases h2:Sp.ok 0 13000000 ⟨a,b⟩ <;> simp[h1,h2] at hgo ⊢
  rw[hs]
  rw[←her] at hE
  have HE:=hide hE
  clear hE her hs hgo
  rcases hne with rfl | rfl
  all_goals
   go_enter Tryz.func13,Tryz.ntmps13
   go_wp2_with fail
   refine calls_gen fun W1 HW1=>?_
   rw[HW1.out] at hat0 hat1 hB0
   refine(HE.out W1 (Hnet.out.below hB0)).mono ?_
   rintro e w2 ⟨rfl,hb2⟩
   go_wp2
   go_ret3
   exact⟨_,_,rfl,Own.nil _ _ _ _ _,Own.nil _ _ _ _ _,hB0.trans (hb2.mono hB0.size)⟩
 ·rw[Bool.and_eq_true] at hgo
  obtain⟨hok,hsp⟩:=hgo
  rw[hok,hsp] at hE
  simp only[if_true] at hE
  have hs:watersS cs fs dry days a b us=if usesOk nf days us then(watersK cs fs dry (days*1440) a b us us.length,0) else(([],[]),51):=by simp[watersS,hok,hsp,Hnet.out.ef]
  rw[hs]
  have hdy:=(netOk_parts hok).2.2.2.1
  have HE:=hide hE;have Hok:=hide hok;have Hsp:=hide hsp
  clear hE hok hsp hs
  cases hin:usesOk nf days us
  all_goals
   have Hin:=hide hin
   clear hin
   go_enter Tryz.func13,Tryz.ntmps13
   go_wp2_with fail
   refine calls_gen fun W1 HW1=>?_
   rw[HW1.out] at hat0 hat1 hB0
   refine(HE.out W1 (Hnet.out.below hB0)).mono ?_
   rintro e w2 ⟨rfl,hb2⟩
   have hat2:=hat0.below hb2
   have hat3:=hat1.below hb2
   have hB2:=hB0.trans (hb2.mono hB0.size)
   obtain⟨q0,q1,q2,q3⟩:=hat2.c4
   clear hat0 hB0 hb2 hat1
   go_wp2_with fail
   refine calls_gen fun W3 HW3=>?_
   have hb3:Below w2.heap.size w2 W3:=by rw[←HW3.out];exact below_new _ _
   have hx3:At W3 w2.heap.size [.slice Ac nc cc,.slice Af nf cf,.int .i64 dry,.int .i64 days]:=by rw[←HW3.out];exact At.new w2 _ _ _ rfl _ rfl
   have hB3:=hB2.trans (hb3.mono hB2.size)
   refine(right_any Ac Af nc cc nf cf dry days Au us nu cu W3 ((Hus.out.below hB3).more hB3.size) Hnu.out hnu2 hnf2 hdy.1 hdy.2).mono ?_
   rintro e w4 ⟨rfl,hb4⟩
   rw[Hin.out]
   have hB4:=hB3.trans (hb4.mono hB3.size)
  ·go_wp2
   go_ret3
   exact⟨_,_,rfl,Own.nil _ _ _ _ _,Own.nil _ _ _ _ _,hB4⟩
  ·obtain⟨q0',q1',q2',q3'⟩:=(hx3.below hb4).c4
   obtain⟨p0,p1⟩:=((hat3.below hb3).below hb4).c2
   go_wp2_with fail
   refine(waters_any Ac Af Au nc cc nf cf nu cu dry days a b cs fs us w4 (Hnet.out.below hB4) ((Hus.out.below hB4).more hB4.size) Hnu.out Hok.out Hin.out Hsp.out).mono ?_
   rintro e w5 ⟨gf,gl,rfl,hof,hol,hb5⟩
   have Hof:=hide hof;have Hol:=hide hol
   clear hof hol
   go_wp2
   go_ret3
   exact⟨_,_,rfl,Hof.out.mono hB4.size,Hol.out.mono hB4.size,hB4.trans (hb5.mono hB4.size)⟩
end Go.Proofs.YtiioegopckoldaaGreatDoor
namespace Go.Proofs.YtiioegopckoldaaGreatDoor
open Go.RowKit Go.Shelf
set_option maxHeartbeats 400000 in
theorem salt_from1 (x lo hi:Int) (p q:Nat) (w:World) (hp:w.cell? ⟨p,0,none⟩=some (.int .i64 lo)) (hq:w.cell? ⟨q,0,none⟩=some (.int .i64 hi)) :
 Calls Tryz.prog 165 #[.int .i64 x,.pointer (some ⟨p,0,none⟩),.pointer (some ⟨q,0,none⟩)] w fun e w'=>e= .returned (.bool (outB lo hi x))∧Below w.heap.size w w':=by
 by_cases h:x < lo
 all_goals
  go_enter Tryz.func165,Tryz.ntmps165
  go_wp2
  go_ret
  exact⟨by first | (simp[outB,h];done) | (simp[outB,h];omega),Below.refl _ _⟩
theorem enters_salt_from1:∀args w,(callFunc 165 args).run Tryz.prog w= .ok (.enter 165 args) w:=enters_of Tryz.func165 (by kernel_rfl) rfl
set_option maxHeartbeats 400000 in
theorem salt_from (lo hi:Int) (A:Option Addr) (xs:List Int) (n c:Nat) (w:World) (hn:n=xs.length) (hm:n≤9223372036854775807) (hx:Rd w w.heap.size icell A xs) :
 Calls Tryz.prog 104 #[.int .i64 lo,.int .i64 hi,.slice A n c] w fun e w'=>e= .returned (.bool (!(anyOut lo hi xs)))∧Below w.heap.size w w':=by
 have hb1:Below w.heap.size w (w.alloc (.cells #[.int .i64 lo] 3)):=below_new _ _
 have hc1:(w.alloc (.cells #[.int .i64 lo] 3)).cell? ⟨w.heap.size,0,none⟩=some (.int .i64 lo):=cell_new _ _ _ _ _ rfl
 obtain⟨w1,Hw1⟩:∃w1,Hid (w.alloc (.cells #[.int .i64 lo] 3)=w1):=⟨_,hide rfl⟩
 rw[Hw1.out] at hb1 hc1
 have hs1:w1.heap.size=w.heap.size+1:=by rw[←Hw1.out];simp
 have hb2:Below w1.heap.size w1 (w1.alloc (.cells #[.int .i64 hi] 3)):=below_new _ _
 have hc2:(w1.alloc (.cells #[.int .i64 hi] 3)).cell? ⟨w1.heap.size,0,none⟩=some (.int .i64 hi):=cell_new _ _ _ _ _ rfl
 have hc1':=(hb2.cell (p:=⟨w.heap.size,0,none⟩) (by simp;omega)).trans hc1
 have hb3:=hb1.trans (hb2.mono hb1.size)
 have H:=hide (containsfunc_int 165 #[.pointer (some ⟨w.heap.size,0,none⟩),.pointer (some ⟨w1.heap.size,0,none⟩)] (outB lo hi) A xs n c (w1.alloc (.cells #[.int .i64 hi] 3)) hn hm enters_salt_from1
  ((hx.below hb3).more hb3.size)
  (fun x w' _ hb=>salt_from1 x lo hi w.heap.size w1.heap.size w' ((hb.cell (p:=⟨w.heap.size,0,none⟩) (by simp;omega)).trans hc1') ((hb.cell (p:=⟨w1.heap.size,0,none⟩) (by simp)).trans hc2)))
 rw[hs1] at H
 have Hb:=hide hb3
 clear hx hn hc1 hc2 hc1' hb1 hb2 hb3
 go_enter Tryz.func104,Tryz.ntmps104
 go_wp2_with fail
 rw[Hw1.out]
 refine H.out.mono ?_
 rintro e w' ⟨rfl,hb⟩
 go_wp2
 go_ret
 exact⟨rfl,Hb.out.trans (hb.mono Hb.out.size)⟩
theorem salt_one_in (lo hi x:Int):(!(anyOut lo hi [x]))=inB lo hi x:=by
 rw[Bool.eq_iff_iff];simp[anyOut,outB,inB]
theorem salt_two_in (lo hi x y:Int):(!(anyOut lo hi [x,y]))=(inB lo hi x && inB lo hi y):=by
 rw[Bool.eq_iff_iff];simp[anyOut,outB,inB]
theorem salt_from_one (lo hi x:Int) (w1:World) (p:Nat) (hp:p=w1.heap.size):Calls Tryz.prog 104 #[.int .i64 lo,.int .i64 hi,.slice (some ⟨p,0,none⟩) 1 1] (w1.alloc (.cells #[.int .i64 x] 3)) fun e w'=>e= .returned (.bool (inB lo hi x))∧Below w1.heap.size w1 w':=by
 subst hp
 refine(salt_from lo hi _ [x] 1 1 _ rfl (by omega) (by simpa using Rd.new (cells:=icell) w1 #[.int .i64 x] 3 [x] rfl)).mono ?_
 rintro e w' ⟨rfl,hb⟩
 exact⟨ret_bool (salt_one_in lo hi x),(below_new w1 _).trans (hb.mono (by simp))⟩
theorem salt_from_two (lo hi x y:Int) (w1:World) (p:Nat) (hp:p=w1.heap.size):Calls Tryz.prog 104 #[.int .i64 lo,.int .i64 hi,.slice (some ⟨p,0,none⟩) 2 2] (w1.alloc (.cells #[.int .i64 x,.int .i64 y] 3)) fun e w'=>e= .returned (.bool (inB lo hi x && inB lo hi y))∧Below w1.heap.size w1 w':=by
 subst hp
 refine(salt_from lo hi _ [x,y] 2 2 _ rfl (by omega) (by simpa using Rd.new (cells:=icell) w1 #[.int .i64 x,.int .i64 y] 3 [x,y] rfl)).mono ?_
 rintro e w' ⟨rfl,hb⟩
 exact⟨ret_bool (salt_two_in lo hi x y),(below_new w1 _).trans (hb.mono (by simp))⟩
set_option maxHeartbeats 400000 in
theorem salt_proper (lo hi m:Int) (w:World) :
 Calls Tryz.prog 74 #[.agg #[.int .i64 lo,.int .i64 hi],.int .i64 m] w fun e w'=>e= .returned (.bool (Sp.ok 0 m ⟨lo,hi⟩))∧Below w.heap.size w w':=by
 by_cases h:lo≤hi
 ·have hb0:Below w.heap.size w (w.alloc (.cells #[.int .i64 lo,.int .i64 hi] 24)):=below_new _ _
  go_enter Tryz.func74,Tryz.ntmps74
  go_wp2_with fail
  refine(salt_from_two 0 m lo hi _ _ (by simp)).mono ?_
  rintro e w' ⟨rfl,hb⟩
  go_wp2
  go_ret
  exact⟨ret_bool (by rw[Bool.eq_iff_iff];simp[inB,Sp.ok];omega),hb0.trans (hb.mono hb0.size)⟩
 ·go_enter Tryz.func74,Tryz.ntmps74
  go_wp2
  go_ret
  exact⟨ret_bool (by simp[Sp.ok];omega),below_new _ _⟩
set_option maxHeartbeats 400000 in
theorem aflajref06_within (lo hi n:Int) (w:World) :
 Calls Tryz.prog 53 #[.int .i64 n,.int .i64 lo,.int .i64 hi] w fun e w'=>e= .returned (.bool (inB lo hi n))∧w=w':=by
 by_cases h:lo≤n
 all_goals
  go_enter Tryz.func53,Tryz.ntmps53
  go_wp2
  go_ret
  exact⟨by first | (simp[inB,h];done) | (simp[inB,h];omega),rfl⟩
structure So where
 salt:Sp
 limit:Int
 crop:Int
 mineral:Sp
 wash:Sp
 rise:Sp
 deriving DecidableEq
def So.cells (s:So):List Value:=[.int .i64 s.salt.lo,.int .i64 s.salt.hi,.int .i64 s.limit,.int .i64 s.crop,.int .i64 s.mineral.lo,.int .i64 s.mineral.hi,.int .i64 s.wash.lo,.int .i64 s.wash.hi,.int .i64 s.rise.lo,.int .i64 s.rise.hi]
def soOk (s:So):Bool:=Sp.ok 0 100000000 s.salt && Sp.ok 0 100000000 s.rise && Sp.ok 0 100000 s.mineral && Sp.ok 0 100000 s.wash && inB 0 100000000 s.limit && inB 0 1000000000 s.crop
def soCheck (s:So):Int:=if soOk s then 0 else 60
set_option maxHeartbeats 4000000 in
theorem salt_check (a0 a1 li cr m0 m1 w0 w1 r0 r1:Int) (w:World) :
 Calls Tryz.prog 41 #[.agg #[.int .i64 a0,.int .i64 a1,.int .i64 li,.int .i64 cr,.int .i64 m0,.int .i64 m1,.int .i64 w0,.int .i64 w1,.int .i64 r0,.int .i64 r1]] w fun e w'=>e= .returned (.int .i64 (soCheck ⟨⟨a0,a1⟩,li,cr,⟨m0,m1⟩,⟨w0,w1⟩,⟨r0,r1⟩⟩))∧Below w.heap.size w w':=by
 have hB:Below w.heap.size w (w.alloc (.cells #[.int .i64 a0,.int .i64 a1,.int .i64 li,.int .i64 cr,.int .i64 m0,.int .i64 m1,.int .i64 w0,.int .i64 w1,.int .i64 r0,.int .i64 r1] 51)):=below_new _ _
 have hat:=At.new w #[.int .i64 a0,.int .i64 a1,.int .i64 li,.int .i64 cr,.int .i64 m0,.int .i64 m1,.int .i64 w0,.int .i64 w1,.int .i64 r0,.int .i64 r1] 51 w.heap.size rfl [.int .i64 a0,.int .i64 a1,.int .i64 li,.int .i64 cr,.int .i64 m0,.int .i64 m1,.int .i64 w0,.int .i64 w1,.int .i64 r0,.int .i64 r1] rfl
 cases h0:Sp.ok 0 100000000 ⟨a0,a1⟩
 ·
  have H0:=hide h0;clear h0
  go_enter Tryz.func41,Tryz.ntmps41
  go_wp2_with (first | (go_at_call 74;refine(salt_proper _ _ _ _).mono ?_;rintro e w' ⟨rfl,hb⟩;have hat:=hat.below hb;have hB:=hB.trans (hb.mono hB.size);obtain⟨q0,q1,q2,q3,q4,q5,q6,q7,q8,q9⟩:=hat.c10;first | rw[H0.out]) | (go_at_call 104;refine(salt_from_one _ _ _ _ _ (by simp)).mono ?_;rintro e w' ⟨rfl,hb⟩;have hat:=hat.below hb;have hB:=hB.trans (hb.mono hB.size);obtain⟨q0,q1,q2,q3,q4,q5,q6,q7,q8,q9⟩:=hat.c10;first | rw[H0.out]))
  go_ret
  exact⟨ret_int (by have e0:=H0.out;simp[soCheck,soOk,e0]),hB⟩
 ·
  have H0:=hide h0;clear h0
  cases h1:Sp.ok 0 100000000 ⟨r0,r1⟩
  ·
   have H1:=hide h1;clear h1
   go_enter Tryz.func41,Tryz.ntmps41
   go_wp2_with (first | (go_at_call 74;refine(salt_proper _ _ _ _).mono ?_;rintro e w' ⟨rfl,hb⟩;have hat:=hat.below hb;have hB:=hB.trans (hb.mono hB.size);obtain⟨q0,q1,q2,q3,q4,q5,q6,q7,q8,q9⟩:=hat.c10;first | rw[H0.out] | rw[H1.out]) | (go_at_call 104;refine(salt_from_one _ _ _ _ _ (by simp)).mono ?_;rintro e w' ⟨rfl,hb⟩;have hat:=hat.below hb;have hB:=hB.trans (hb.mono hB.size);obtain⟨q0,q1,q2,q3,q4,q5,q6,q7,q8,q9⟩:=hat.c10;first | rw[H0.out] | rw[H1.out]))
   go_ret
   exact⟨ret_int (by have e0:=H0.out;have e1:=H1.out;simp[soCheck,soOk,e0,e1]),hB⟩
  ·
   have H1:=hide h1;clear h1
   cases h2:Sp.ok 0 100000 ⟨m0,m1⟩
   ·
    have H2:=hide h2;clear h2
    go_enter Tryz.func41,Tryz.ntmps41
    go_wp2_with (first | (go_at_call 74;refine(salt_proper _ _ _ _).mono ?_;rintro e w' ⟨rfl,hb⟩;have hat:=hat.below hb;have hB:=hB.trans (hb.mono hB.size);obtain⟨q0,q1,q2,q3,q4,q5,q6,q7,q8,q9⟩:=hat.c10;first | rw[H0.out] | rw[H1.out] | rw[H2.out]) | (go_at_call 104;refine(salt_from_one _ _ _ _ _ (by simp)).mono ?_;rintro e w' ⟨rfl,hb⟩;have hat:=hat.below hb;have hB:=hB.trans (hb.mono hB.size);obtain⟨q0,q1,q2,q3,q4,q5,q6,q7,q8,q9⟩:=hat.c10;first | rw[H0.out] | rw[H1.out] | rw[H2.out]))
    go_ret
    exact⟨ret_int (by have e0:=H0.out;have e1:=H1.out;have e2:=H2.out;simp[soCheck,soOk,e0,e1,e2]),hB⟩
   ·
    have H2:=hide h2;clear h2
    cases h3:Sp.ok 0 100000 ⟨w0,w1⟩
    ·
     have H3:=hide h3;clear h3
     go_enter Tryz.func41,Tryz.ntmps41
     go_wp2_with (first | (go_at_call 74;refine(salt_proper _ _ _ _).mono ?_;rintro e w' ⟨rfl,hb⟩;have hat:=hat.below hb;have hB:=hB.trans (hb.mono hB.size);obtain⟨q0,q1,q2,q3,q4,q5,q6,q7,q8,q9⟩:=hat.c10;first | rw[H0.out] | rw[H1.out] | rw[H2.out] | rw[H3.out]) | (go_at_call 104;refine(salt_from_one _ _ _ _ _ (by simp)).mono ?_;rintro e w' ⟨rfl,hb⟩;have hat:=hat.below hb;have hB:=hB.trans (hb.mono hB.size);obtain⟨q0,q1,q2,q3,q4,q5,q6,q7,q8,q9⟩:=hat.c10;first | rw[H0.out] | rw[H1.out] | rw[H2.out] | rw[H3.out]))
     go_ret
     exact⟨ret_int (by have e0:=H0.out;have e1:=H1.out;have e2:=H2.out;have e3:=H3.out;simp[soCheck,soOk,e0,e1,e2,e3]),hB⟩
    ·
     have H3:=hide h3;clear h3
     cases h4:inB 0 100000000 li
     ·
      have H4:=hide h4;clear h4
      go_enter Tryz.func41,Tryz.ntmps41
      go_wp2_with (first | (go_at_call 74;refine(salt_proper _ _ _ _).mono ?_;rintro e w' ⟨rfl,hb⟩;have hat:=hat.below hb;have hB:=hB.trans (hb.mono hB.size);obtain⟨q0,q1,q2,q3,q4,q5,q6,q7,q8,q9⟩:=hat.c10;first | rw[H0.out] | rw[H1.out] | rw[H2.out] | rw[H3.out] | rw[H4.out]) | (go_at_call 104;refine(salt_from_one _ _ _ _ _ (by simp)).mono ?_;rintro e w' ⟨rfl,hb⟩;have hat:=hat.below hb;have hB:=hB.trans (hb.mono hB.size);obtain⟨q0,q1,q2,q3,q4,q5,q6,q7,q8,q9⟩:=hat.c10;first | rw[H0.out] | rw[H1.out] | rw[H2.out] | rw[H3.out] | rw[H4.out]))
      go_ret
      exact⟨ret_int (by have e0:=H0.out;have e1:=H1.out;have e2:=H2.out;have e3:=H3.out;have e4:=H4.out;simp[soCheck,soOk,e0,e1,e2,e3,e4]),hB⟩
     ·
      have H4:=hide h4;clear h4
      cases h5:inB 0 1000000000 cr
      all_goals
       have H5:=hide h5;clear h5
       go_enter Tryz.func41,Tryz.ntmps41
       go_wp2_with (first | (go_at_call 74;refine(salt_proper _ _ _ _).mono ?_;rintro e w' ⟨rfl,hb⟩;have hat:=hat.below hb;have hB:=hB.trans (hb.mono hB.size);obtain⟨q0,q1,q2,q3,q4,q5,q6,q7,q8,q9⟩:=hat.c10;first | rw[H0.out] | rw[H1.out] | rw[H2.out] | rw[H3.out] | rw[H4.out] | rw[H5.out]) | (go_at_call 104;refine(salt_from_one _ _ _ _ _ (by simp)).mono ?_;rintro e w' ⟨rfl,hb⟩;have hat:=hat.below hb;have hB:=hB.trans (hb.mono hB.size);obtain⟨q0,q1,q2,q3,q4,q5,q6,q7,q8,q9⟩:=hat.c10;first | rw[H0.out] | rw[H1.out] | rw[H2.out] | rw[H3.out] | rw[H4.out] | rw[H5.out]))
       go_ret
       exact⟨ret_int (by have e0:=H0.out;have e1:=H1.out;have e2:=H2.out;have e3:=H3.out;have e4:=H4.out;have e5:=H5.out;simp[soCheck,soOk,e0,e1,e2,e3,e4,e5]),hB⟩
end Go.Proofs.YtiioegopckoldaaGreatDoor
namespace Go.Proofs.YtiioegopckoldaaGreatDoor
open Go.RowKit Go.Shelf
attribute [local go_sem] ite_min ite_max
def Sp.at (h:Bool) (s:Sp):Int:=if h then s.hi else s.lo
theorem at_low (lo hi:Int) (w:World):Calls Tryz.prog 108 #[.agg #[.int .i64 lo,.int .i64 hi]] w fun e w'=>e= .returned (.int .i64 lo)∧Below w.heap.size w w':=by
 go_enter Tryz.func108,Tryz.ntmps108
 go_wp2
 go_ret
 exact⟨rfl,below_new _ _⟩
theorem at_high (lo hi:Int) (w:World):Calls Tryz.prog 105 #[.agg #[.int .i64 lo,.int .i64 hi]] w fun e w'=>e= .returned (.int .i64 hi)∧Below w.heap.size w w':=by
 go_enter Tryz.func105,Tryz.ntmps105
 go_wp2
 go_ret
 exact⟨rfl,below_new _ _⟩
def lowV:Value:= .agg #[.func (.func 108) #[] #[],.func (.func 109) #[] #[],.func (.func 110) #[] #[]]
def highV:Value:= .agg #[.func (.func 105) #[] #[],.func (.func 106) #[] #[],.func (.func 107) #[] #[]]
theorem low_any (w:World):Calls Tryz.prog 45 #[] w fun e w'=>e= .returned lowV∧Below w.heap.size w w':=by
 go_enter Tryz.func45,Tryz.ntmps45
 go_wp2
 go_returns
 exact⟨rfl,below_new _ _⟩
theorem high_any (w:World):Calls Tryz.prog 44 #[] w fun e w'=>e= .returned highV∧Below w.heap.size w w':=by
 go_enter Tryz.func44,Tryz.ntmps44
 go_wp2
 go_returns
 exact⟨rfl,below_new _ _⟩
structure So.fit (B:Int) (s:So):Prop where
 a0:0≤s.salt.lo∧s.salt.lo≤B
 a1:0≤s.salt.hi∧s.salt.hi≤B
 cr:0≤s.crop∧s.crop≤1000000000
 m0:0≤s.mineral.lo∧s.mineral.lo≤100000
 m1:0≤s.mineral.hi∧s.mineral.hi≤100000
 w0:0≤s.wash.lo∧s.wash.lo≤100000
 w1:0≤s.wash.hi∧s.wash.hi≤100000
 r0:0≤s.rise.lo∧s.rise.lo≤100000000
 r1:0≤s.rise.hi∧s.rise.hi≤100000000
def saltedF (h:Bool) (s:So) (v:Int):Int:=1000*(s.salt.at h+s.rise.at h)+v*s.mineral.at h-max 0 (v-s.crop)*s.wash.at (!h)
theorem prod_le {a b A B:Int} (ha:0≤a) (hb:0≤b) (hA:a≤A) (hB:b≤B):0≤a*b∧a*b≤A*B:=
 ⟨Int.mul_nonneg ha hb,Int.mul_le_mul hA hB hb (by omega)⟩
theorem So.fit.mono {B B':Int} {s:So} (h:s.fit B) (hb:B≤B'):s.fit B':=⟨⟨h.a0.1,by have:=h.a0.2;omega⟩,⟨h.a1.1,by have:=h.a1.2;omega⟩,h.cr,h.m0,h.m1,h.w0,h.w1,h.r0,h.r1⟩
theorem salted_wrap {a r v m cr w:Int} (ha:0≤a∧a≤100000000000000) (hr:0≤r∧r≤100000000) (hv:0≤v∧v≤1000000000) (hm:0≤m∧m≤100000) (hcr:0≤cr∧cr≤1000000000) (hw:0≤w∧w≤100000) :
 IntKind.i64.wrap (IntKind.i64.wrap (IntKind.i64.wrap (1000*IntKind.i64.wrap (a+r))+IntKind.i64.wrap (v*m))-IntKind.i64.wrap (max 0 (IntKind.i64.wrap (v-cr))*w))=1000*(a+r)+v*m-max 0 (v-cr)*w:=by
 have p1:=prod_le hv.1 hm.1 hv.2 hm.2
 have hx:0≤max 0 (v-cr)∧max 0 (v-cr)≤1000000000:=by omega
 have p2:=prod_le hx.1 hw.1 hx.2 hw.2
 rw[show IntKind.i64.wrap (v-cr)=v-cr by rw[IntKind.wrap_i64];omega]
 generalize v*m=x at *
 generalize max 0 (v-cr)*w=y at *
 simp only[IntKind.wrap_i64]
 omega
end Go.Proofs.YtiioegopckoldaaGreatDoor
namespace Go.Proofs.YtiioegopckoldaaGreatDoor
open Go.RowKit Go.Shelf
attribute [local go_sem] ite_min ite_max
theorem keep_high {w W W':World} {a0 a1 cr m0 m1 w0 w1 r0 r1:Int} (hb:Below W.heap.size W W') (h:W.cell? ⟨w.heap.size,0,none⟩=some (.int .i64 a0)∧W.cell? ⟨w.heap.size,1,none⟩=some (.int .i64 a1)∧W.cell? ⟨w.heap.size,3,none⟩=some (.int .i64 cr)∧W.cell? ⟨w.heap.size,4,none⟩=some (.int .i64 m0)∧W.cell? ⟨w.heap.size,5,none⟩=some (.int .i64 m1)∧W.cell? ⟨w.heap.size,6,none⟩=some (.int .i64 w0)∧W.cell? ⟨w.heap.size,7,none⟩=some (.int .i64 w1)∧W.cell? ⟨w.heap.size,8,none⟩=some (.int .i64 r0)∧W.cell? ⟨w.heap.size,9,none⟩=some (.int .i64 r1)∧W.cell? ⟨w.heap.size+1,0,none⟩=some (.func (.func 105) #[] #[])∧W.cell? ⟨w.heap.size+2,0,none⟩=some (.func (.func 108) #[] #[])∧w.heap.size+2 < W.heap.size∧Below w.heap.size w W) :
 W'.cell? ⟨w.heap.size,0,none⟩=some (.int .i64 a0)∧W'.cell? ⟨w.heap.size,1,none⟩=some (.int .i64 a1)∧W'.cell? ⟨w.heap.size,3,none⟩=some (.int .i64 cr)∧W'.cell? ⟨w.heap.size,4,none⟩=some (.int .i64 m0)∧W'.cell? ⟨w.heap.size,5,none⟩=some (.int .i64 m1)∧W'.cell? ⟨w.heap.size,6,none⟩=some (.int .i64 w0)∧W'.cell? ⟨w.heap.size,7,none⟩=some (.int .i64 w1)∧W'.cell? ⟨w.heap.size,8,none⟩=some (.int .i64 r0)∧W'.cell? ⟨w.heap.size,9,none⟩=some (.int .i64 r1)∧W'.cell? ⟨w.heap.size+1,0,none⟩=some (.func (.func 105) #[] #[])∧W'.cell? ⟨w.heap.size+2,0,none⟩=some (.func (.func 108) #[] #[])∧w.heap.size+2 < W'.heap.size∧Below w.heap.size w W':=by
 obtain⟨h0,h1,h2,h3,h4,h5,h6,h7,h8,h9,h10,hl,hB⟩:=h
 exact⟨(hb.cell (by simp only[];omega)).trans h0,(hb.cell (by simp only[];omega)).trans h1,(hb.cell (by simp only[];omega)).trans h2,(hb.cell (by simp only[];omega)).trans h3,(hb.cell (by simp only[];omega)).trans h4,(hb.cell (by simp only[];omega)).trans h5,(hb.cell (by simp only[];omega)).trans h6,(hb.cell (by simp only[];omega)).trans h7,(hb.cell (by simp only[];omega)).trans h8,(hb.cell (by simp only[];omega)).trans h9,(hb.cell (by simp only[];omega)).trans h10,Nat.lt_of_lt_of_le hl hb.size,hB.trans (hb.mono hB.size)⟩
theorem keep_high_last {w W:World} {a0 a1 cr m0 m1 w0 w1 r0 r1:Int} (h:W.cell? ⟨w.heap.size,0,none⟩=some (.int .i64 a0)∧W.cell? ⟨w.heap.size,1,none⟩=some (.int .i64 a1)∧W.cell? ⟨w.heap.size,3,none⟩=some (.int .i64 cr)∧W.cell? ⟨w.heap.size,4,none⟩=some (.int .i64 m0)∧W.cell? ⟨w.heap.size,5,none⟩=some (.int .i64 m1)∧W.cell? ⟨w.heap.size,6,none⟩=some (.int .i64 w0)∧W.cell? ⟨w.heap.size,7,none⟩=some (.int .i64 w1)∧W.cell? ⟨w.heap.size,8,none⟩=some (.int .i64 r0)∧W.cell? ⟨w.heap.size,9,none⟩=some (.int .i64 r1)∧W.cell? ⟨w.heap.size+1,0,none⟩=some (.func (.func 105) #[] #[])∧W.cell? ⟨w.heap.size+2,0,none⟩=some (.func (.func 108) #[] #[])∧w.heap.size+2 < W.heap.size∧Below w.heap.size w W):Below w.heap.size w W:=by
 obtain⟨h0,h1,h2,h3,h4,h5,h6,h7,h8,h9,h10,hl,hB⟩:=h
 exact hB
theorem keep_high_drew {w W:World} {a0 a1 cr m0 m1 w0 w1 r0 r1:Int} (h:W.cell? ⟨w.heap.size,0,none⟩=some (.int .i64 a0)∧W.cell? ⟨w.heap.size,1,none⟩=some (.int .i64 a1)∧W.cell? ⟨w.heap.size,3,none⟩=some (.int .i64 cr)∧W.cell? ⟨w.heap.size,4,none⟩=some (.int .i64 m0)∧W.cell? ⟨w.heap.size,5,none⟩=some (.int .i64 m1)∧W.cell? ⟨w.heap.size,6,none⟩=some (.int .i64 w0)∧W.cell? ⟨w.heap.size,7,none⟩=some (.int .i64 w1)∧W.cell? ⟨w.heap.size,8,none⟩=some (.int .i64 r0)∧W.cell? ⟨w.heap.size,9,none⟩=some (.int .i64 r1)∧W.cell? ⟨w.heap.size+1,0,none⟩=some (.func (.func 105) #[] #[])∧W.cell? ⟨w.heap.size+2,0,none⟩=some (.func (.func 108) #[] #[])∧w.heap.size+2 < W.heap.size∧Below w.heap.size w W):W.drew.cell? ⟨w.heap.size,0,none⟩=some (.int .i64 a0)∧W.drew.cell? ⟨w.heap.size,1,none⟩=some (.int .i64 a1)∧W.drew.cell? ⟨w.heap.size,3,none⟩=some (.int .i64 cr)∧W.drew.cell? ⟨w.heap.size,4,none⟩=some (.int .i64 m0)∧W.drew.cell? ⟨w.heap.size,5,none⟩=some (.int .i64 m1)∧W.drew.cell? ⟨w.heap.size,6,none⟩=some (.int .i64 w0)∧W.drew.cell? ⟨w.heap.size,7,none⟩=some (.int .i64 w1)∧W.drew.cell? ⟨w.heap.size,8,none⟩=some (.int .i64 r0)∧W.drew.cell? ⟨w.heap.size,9,none⟩=some (.int .i64 r1)∧W.drew.cell? ⟨w.heap.size+1,0,none⟩=some (.func (.func 105) #[] #[])∧W.drew.cell? ⟨w.heap.size+2,0,none⟩=some (.func (.func 108) #[] #[])∧w.heap.size+2 < W.drew.heap.size∧Below w.heap.size w W.drew:=by
 obtain⟨h0,h1,h2,h3,h4,h5,h6,h7,h8,h9,h10,hl,hB⟩:=h
 exact⟨h0,h1,h2,h3,h4,h5,h6,h7,h8,h9,h10,hl,hB.drew⟩
set_option maxHeartbeats 8000000 in
set_option maxRecDepth 100000 in
theorem salted_high (a0 a1 li cr m0 m1 w0 w1 r0 r1 v:Int) (w:World) (hf:So.fit 100000000000000 ⟨⟨a0,a1⟩,li,cr,⟨m0,m1⟩,⟨w0,w1⟩,⟨r0,r1⟩⟩) (h0:0≤v) (h1:v≤1000000000) :
 Calls Tryz.prog 43 #[.agg #[.int .i64 a0,.int .i64 a1,.int .i64 li,.int .i64 cr,.int .i64 m0,.int .i64 m1,.int .i64 w0,.int .i64 w1,.int .i64 r0,.int .i64 r1],highV,lowV,.int .i64 v] w fun e w'=>e= .returned (.int .i64 (saltedF true ⟨⟨a0,a1⟩,li,cr,⟨m0,m1⟩,⟨w0,w1⟩,⟨r0,r1⟩⟩ v))∧Below w.heap.size w w':=by
 have Hf:=hide hf;clear hf
 unfold lowV highV
 go_enter Tryz.func43,Tryz.ntmps43
 go_wp2_with fail
 obtain⟨wd,Hwd⟩:∃wd,Hid ((((w.alloc (.cells #[.int .i64 a0,.int .i64 a1,.int .i64 li,.int .i64 cr,.int .i64 m0,.int .i64 m1,.int .i64 w0,.int .i64 w1,.int .i64 r0,.int .i64 r1] 128)).alloc (.cells #[.func (.func 105) #[] #[],.func (.func 106) #[] #[],.func (.func 107) #[] #[]] 133)).alloc (.cells #[.func (.func 108) #[] #[],.func (.func 109) #[] #[],.func (.func 110) #[] #[]] 133))=wd):=⟨_,hide rfl⟩
 rw[Hwd.out]
 have HcB:=hide (show wd.cell? ⟨w.heap.size,0,none⟩=some (.int .i64 a0)∧wd.cell? ⟨w.heap.size,1,none⟩=some (.int .i64 a1)∧wd.cell? ⟨w.heap.size,3,none⟩=some (.int .i64 cr)∧wd.cell? ⟨w.heap.size,4,none⟩=some (.int .i64 m0)∧wd.cell? ⟨w.heap.size,5,none⟩=some (.int .i64 m1)∧wd.cell? ⟨w.heap.size,6,none⟩=some (.int .i64 w0)∧wd.cell? ⟨w.heap.size,7,none⟩=some (.int .i64 w1)∧wd.cell? ⟨w.heap.size,8,none⟩=some (.int .i64 r0)∧wd.cell? ⟨w.heap.size,9,none⟩=some (.int .i64 r1)∧wd.cell? ⟨w.heap.size+1,0,none⟩=some (.func (.func 105) #[] #[])∧wd.cell? ⟨w.heap.size+2,0,none⟩=some (.func (.func 108) #[] #[])∧w.heap.size+2 < wd.heap.size∧Below w.heap.size w wd from by
  rw[←Hwd.out]
  obtain⟨q0,q1,q2,q3,q4,q5,q6,q7,q8,q9⟩:=((At.new w #[.int .i64 a0,.int .i64 a1,.int .i64 li,.int .i64 cr,.int .i64 m0,.int .i64 m1,.int .i64 w0,.int .i64 w1,.int .i64 r0,.int .i64 r1] 128 w.heap.size rfl [.int .i64 a0,.int .i64 a1,.int .i64 li,.int .i64 cr,.int .i64 m0,.int .i64 m1,.int .i64 w0,.int .i64 w1,.int .i64 r0,.int .i64 r1] rfl).alloc (.cells #[.func (.func 105) #[] #[],.func (.func 106) #[] #[],.func (.func 107) #[] #[]] 133) |>.alloc (.cells #[.func (.func 108) #[] #[],.func (.func 109) #[] #[],.func (.func 110) #[] #[]] 133)).c10
  obtain⟨f0,f1,f2⟩:=((At.new (w.alloc (.cells #[.int .i64 a0,.int .i64 a1,.int .i64 li,.int .i64 cr,.int .i64 m0,.int .i64 m1,.int .i64 w0,.int .i64 w1,.int .i64 r0,.int .i64 r1] 128)) #[.func (.func 105) #[] #[],.func (.func 106) #[] #[],.func (.func 107) #[] #[]] 133 (w.heap.size+1) (by simp) [.func (.func 105) #[] #[],.func (.func 106) #[] #[],.func (.func 107) #[] #[]] rfl).alloc (.cells #[.func (.func 108) #[] #[],.func (.func 109) #[] #[],.func (.func 110) #[] #[]] 133)).c3
  obtain⟨g0,g1,g2⟩:=(At.new ((w.alloc (.cells #[.int .i64 a0,.int .i64 a1,.int .i64 li,.int .i64 cr,.int .i64 m0,.int .i64 m1,.int .i64 w0,.int .i64 w1,.int .i64 r0,.int .i64 r1] 128)).alloc (.cells #[.func (.func 105) #[] #[],.func (.func 106) #[] #[],.func (.func 107) #[] #[]] 133)) #[.func (.func 108) #[] #[],.func (.func 109) #[] #[],.func (.func 110) #[] #[]] 133 (w.heap.size+2) (by simp) [.func (.func 108) #[] #[],.func (.func 109) #[] #[],.func (.func 110) #[] #[]] rfl).c3
  exact⟨q0,q1,q3,q4,q5,q6,q7,q8,q9,f0,g0,by simp,((below_new w _).alloc (by simp) _).alloc (by simp;omega) _⟩)
 clear Hwd
 go_region_held3 (fun W=>W.cell? ⟨w.heap.size,0,none⟩=some (.int .i64 a0)∧W.cell? ⟨w.heap.size,1,none⟩=some (.int .i64 a1)∧W.cell? ⟨w.heap.size,3,none⟩=some (.int .i64 cr)∧W.cell? ⟨w.heap.size,4,none⟩=some (.int .i64 m0)∧W.cell? ⟨w.heap.size,5,none⟩=some (.int .i64 m1)∧W.cell? ⟨w.heap.size,6,none⟩=some (.int .i64 w0)∧W.cell? ⟨w.heap.size,7,none⟩=some (.int .i64 w1)∧W.cell? ⟨w.heap.size,8,none⟩=some (.int .i64 r0)∧W.cell? ⟨w.heap.size,9,none⟩=some (.int .i64 r1)∧W.cell? ⟨w.heap.size+1,0,none⟩=some (.func (.func 105) #[] #[])∧W.cell? ⟨w.heap.size+2,0,none⟩=some (.func (.func 108) #[] #[])∧w.heap.size+2 < W.heap.size∧Below w.heap.size w W) (first | assumption | exact keep_high_drew HcB.out | exact keep_high hb (by assumption)) (first | (go_at_call 105;refine(at_high _ _ _).mono ?_;rintro e w' ⟨rfl,hb⟩) | (go_at_call 108;refine(at_low _ _ _).mono ?_;rintro e w' ⟨rfl,hb⟩))
 all_goals
  go_wp2_with fail
  go_ret
  exact⟨ret_int (salted_wrap Hf.out.a1 Hf.out.r1 ⟨h0,h1⟩ Hf.out.m1 Hf.out.cr Hf.out.w0),keep_high_last (by assumption)⟩
end Go.Proofs.YtiioegopckoldaaGreatDoor
namespace Go.Proofs.YtiioegopckoldaaGreatDoor
open Go.RowKit Go.Shelf
attribute [local go_sem] ite_min ite_max
structure Aft (w W:World) (cs:List Value) (ts:List Int):Prop where
 so:At W w.heap.size cs
 sl:At W (w.heap.size+1+1+1+1) [.slice (some ⟨w.heap.size+1+1+1,0,none⟩) 3 3]
 rd:Rd W W.heap.size icell (some ⟨w.heap.size+1+1+1,0,none⟩) ts
 rc:At W (w.heap.size+1+1) [.int .i64 0,.int .i64 0]
 fz:∀j:Nat,W.frozen? ⟨w.heap.size+1+1,j,none⟩=false
 bl:Below w.heap.size w W
theorem Aft.keep {w W W':World} {cs:List Value} {ts:List Int} (h:Aft w W cs ts) (hb:Below W.heap.size W W'):Aft w W' cs ts:=
 ⟨h.so.below hb,h.sl.below hb,(h.rd.below hb).more hb.size,h.rc.below hb,fun j=>(hb.frozen (p:=⟨_,j,none⟩) h.rc.1).trans (h.fz j),h.bl.trans (hb.mono h.bl.size)⟩
end Go.Proofs.YtiioegopckoldaaGreatDoor
namespace Go.Proofs.YtiioegopckoldaaGreatDoor
open Go.RowKit Go.Shelf
attribute [local go_sem] Oper.semAt_some
def So.set (s:So) (a:Sp):So:={s with salt:=a }
theorem So.fit.set {s:So} {B B':Int} {a:Sp} (hf:s.fit B) (h0:0≤a.lo∧a.lo≤B') (h1:0≤a.hi∧a.hi≤B'):(s.set a).fit B':=⟨h0,h1,hf.cr,hf.m0,hf.m1,hf.w0,hf.w1,hf.r0,hf.r1⟩
end Go.Proofs.YtiioegopckoldaaGreatDoor
namespace Go.Proofs.YtiioegopckoldaaGreatDoor
open Go.RowKit Go.Shelf
attribute [local go_sem] Oper.semAt_some
theorem So.fit_of {s:So} (h:soOk s=true):s.fit 100000000:=by
 simp[soOk,Sp.ok,inB] at h
 constructor <;> omega
structure AfInv (w:World) (L cb base:Nat) (n:Int) (xs:List Sp) (W:World):Prop where
 own:∃v,Own W base 24 2 Sp.cells v xs∧W.cell? ⟨L,0,none⟩=some v∧W.frozen? ⟨L,0,none⟩=false
 lt:L < W.heap.size
 cnt:At W cb [.int .i64 n]
 bl:Below w.heap.size w W
 big:base≤W.heap.size
theorem AfInv.kept {w W W':World} {L cb base:Nat} {n:Int} {xs:List Sp} {R:Nat→Prop} (h:AfInv w L cb base n xs W) (hk:Kept R W W') (h1:∀b,base≤b→R b) (h2:R L) (h3:R cb) (h4:∀b,b < w.heap.size→R b):AfInv w L cb base n xs W':=by
 obtain⟨v,ho,hc,hf⟩:=h.own
 exact⟨⟨v,ho.keptR hk h1,(hk.cell (p:=⟨L,0,none⟩) h2 h.lt).trans hc,(hk.frozen (p:=⟨L,0,none⟩) h2 h.lt).trans hf⟩,Nat.lt_of_lt_of_le h.lt hk.size,h.cnt.kept hk h3,h.bl.trans (hk.below h4 h.bl.size),Nat.le_trans h.big hk.size⟩
theorem AfInv.step {w W wv:World} {L cb base:Nat} {n:Int} {xs:List Sp} {x:Sp} {vv:Value} (h:AfInv w L cb base n xs W) (ho:Own wv base 24 2 Sp.cells vv (xs ++ [x])) (hk:Kept (fun b=>b < base) W wv)
 (hL:L < base) (hcb:cb < base) (hne:cb≠L) (hw:w.heap.size≤L):AfInv w L cb base n (xs ++ [x]) (wv.setCell ⟨L,0,none⟩ vv)∧Kept (fun b=>b < base∧¬b=L) W (wv.setCell ⟨L,0,none⟩ vv):=by
 obtain⟨v,_,hc,hf⟩:=h.own
 have hk2:Kept (fun b=>b < base∧¬b=L) W (wv.setCell ⟨L,0,none⟩ vv):=(hk.mono fun b _ hb=>hb.1).trans ((Kept.setCell wv ⟨L,0,none⟩ vv).mono fun b _ hb=>hb.2)
 have hc1:wv.cell? ⟨L,0,none⟩=some v:=(hk.cell (p:=⟨L,0,none⟩) hL h.lt).trans hc
 have hf1:wv.frozen? ⟨L,0,none⟩=false:=(hk.frozen (p:=⟨L,0,none⟩) hL h.lt).trans hf
 refine⟨⟨⟨vv,ho.setCell ?_ _,World.cell?_setCell_same' _ _ _ (by rw[hc1];rfl),by rw[World.frozen?_setCell];exact hf1⟩,Nat.lt_of_lt_of_le h.lt hk2.size,h.cnt.kept hk2 ⟨hcb,hne⟩,h.bl.trans (hk2.below (fun b hb=>⟨by omega,by omega⟩) h.bl.size),Nat.le_trans h.big hk2.size⟩,hk2⟩
 intro e
 rcases ho.block_ with hb | ⟨g,hb,hb2,_⟩
 ·rw[hb] at e;cases e
 ·rw[hb] at e
  injection e with e
  simp only at e
  omega
end Go.Proofs.YtiioegopckoldaaGreatDoor
