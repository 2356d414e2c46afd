/- lemmas for agentWrites_holds: AG4. No conditions. -/
import Derived.Test.YtgfghffihjfbpaaGreatDoorK22
set_option linter.unusedVariables false
set_option linter.unusedSimpArgs false
namespace Go.Proofs.YtgfghffihjfbpaaGreatDoor
open Go.RowKit Go.Shelf
theorem ar_within (x lo hi:Int) (w:World):Calls Tryz.prog 28 #[.int .i64 x,.int .i64 lo,.int .i64 hi] w fun e w'=>e= .returned (.bool (inB lo hi x))∧w=w':=by
 by_cases h:lo≤x
 all_goals
  go_enter Tryz.func28,Tryz.ntmps28
  go_wp2_with fail
  go_returns
  exact⟨by first | (simp[inB,h];done) | (simp[inB];omega),rfl⟩
theorem ar_said (A:Option Addr) (xs:List Int) (n c:Nat) (w:World) (hn:n=xs.length) (hm:n≤1000000) (hx:Rd w w.heap.size icell A xs) :
 Calls Tryz.prog 30 #[.slice A n c] w fun e w'=>e= .returned (.bool (!(anyOut (-1000000000000) 1000000000000 xs)))∧w=w':=by
 have Hn:=hide hn;have Hx:=hide hx
 clear hn hx
 go_enter Tryz.func30,Tryz.ntmps30
 go_wp2_with fail
 go_loopw [3] (fun i wr=>∃k:Nat,k≤n∧i= .int .i64 k∧Hid (∀y∈xs.take k,outB (-1000000000000) 1000000000000 y=false)∧w=wr) (fun i _=>n-(intOf i).toNat)
 case atStart=>exact⟨0,by omega,rfl,hide (by simp),by first | rfl | trivial⟩
 case round=>
  obtain⟨k,hk,rfl,hpre,rfl⟩:=hrel
  by_cases hlt:k < n
  ·obtain⟨b,off,x0,rfl,_,hxk,c0⟩:=Hx.out.int (i:=k) (by have:=Hn.out;omega)
   have ik:(k:Int) < (n:Int):=by omega
   have Hxk:=hide hxk
   clear hxk
   go_wp2_with fail
   refine(ar_within x0 _ _ w).mono ?_
   rintro e w' ⟨rfl,rfl⟩
   cases hi:inB (-1000000000000) 1000000000000 x0
   ·have ho:outB (-1000000000000) 1000000000000 x0=true:=by simp[inB] at hi;simp[outB];omega
    have ha:=any_hit Hxk.out ho
    go_wp2_with fail
    go_returns
    exact⟨by unfold anyOut;rw[ha];rfl,rfl⟩
   ·have ho:outB (-1000000000000) 1000000000000 x0=false:=by simp[inB] at hi;simp[outB];omega
    have hp:=hide (pre_snoc Hxk.out ho hpre.out)
    go_wp2_with fail
    exact⟨⟨k+1,by omega,by go_num,hp,by first | rfl | trivial⟩,by simp[intOf];omega⟩
  ·obtain rfl:n=k:=by omega
   have ha:=any_miss (k:=n) (by have:=Hn.out;omega) hpre.out
   go_wp2_with fail
   go_returns
   exact⟨by unfold anyOut;rw[ha];rfl,rfl⟩
set_option maxHeartbeats 8000000 in
theorem ar_command (s:ByteArray) (n:Nat) (w:World) (hn:n≤1000000):Calls Tryz.prog 29 #[.string s,.int .i64 n] w fun e w'=>e= .returned (.bool (cntB s.data.toList n))∧w=w':=by
 have ht:s.toList=s.data.toList:=ByteArray.toList_eq s
 obtain⟨k,hk⟩:∃k,k=s.data.toList:=⟨_,rfl⟩
 rw[←hk] at ht ⊢
 by_cases h0:k=[83,72,79,84]
 ·have e0:(s.toList == [83,72,79,84])=true:=by rw[ht,h0];decide
  have e1:(s.toList == [77,65,82,75])=false:=by rw[ht,h0];decide
  have e2:(s.toList == [71,65,85,71,69])=false:=by rw[ht,h0];decide
  have e3:(s.toList == [82,65,73,78])=false:=by rw[ht,h0];decide
  have e4:(s.toList == [67,76,69,65,78])=false:=by rw[ht,h0];decide
  have e5:(s.toList == [68,69,69,68])=false:=by rw[ht,h0];decide
  have e6:(s.toList == [67,89,67,76,69])=false:=by rw[ht,h0];decide
  have hc:Hid (cntB k (n:Int)=((n:Int) == 4)):=hide (by
   rw[h0]
   show(decide (Int.tmod ((n:Int)-4) 2=0) && inB 0 0 ((n:Int)-4))=_
   by_cases h:(n:Int)=4
   ·rw[h];rfl
   ·have:inB 0 0 ((n:Int)-4)=false:=by simp[inB];omega
    rw[this,Bool.and_false];symm;simpa using h)
  clear ht hk h0
  go_enter Tryz.func29,Tryz.ntmps29
  go_wp2_with fail
  go_returns
  exact⟨by rw[hc.out];rfl,rfl⟩
 by_cases h1:k=[77,65,82,75]
 ·have e0:(s.toList == [83,72,79,84])=false:=by rw[ht,h1];decide
  have e1:(s.toList == [77,65,82,75])=true:=by rw[ht,h1];decide
  have e2:(s.toList == [71,65,85,71,69])=false:=by rw[ht,h1];decide
  have e3:(s.toList == [82,65,73,78])=false:=by rw[ht,h1];decide
  have e4:(s.toList == [67,76,69,65,78])=false:=by rw[ht,h1];decide
  have e5:(s.toList == [68,69,69,68])=false:=by rw[ht,h1];decide
  have e6:(s.toList == [67,89,67,76,69])=false:=by rw[ht,h1];decide
  have hc:Hid (cntB k (n:Int)=((n:Int) == 3)):=hide (by
   rw[h1]
   show(decide (Int.tmod ((n:Int)-3) 2=0) && inB 0 0 ((n:Int)-3))=_
   by_cases h:(n:Int)=3
   ·rw[h];rfl
   ·have:inB 0 0 ((n:Int)-3)=false:=by simp[inB];omega
    rw[this,Bool.and_false];symm;simpa using h)
  clear ht hk h0 h1
  go_enter Tryz.func29,Tryz.ntmps29
  go_wp2_with fail
  go_returns
  exact⟨by rw[hc.out];rfl,rfl⟩
 by_cases h2:k=[71,65,85,71,69]
 ·have e0:(s.toList == [83,72,79,84])=false:=by rw[ht,h2];decide
  have e1:(s.toList == [77,65,82,75])=false:=by rw[ht,h2];decide
  have e2:(s.toList == [71,65,85,71,69])=true:=by rw[ht,h2];decide
  have e3:(s.toList == [82,65,73,78])=false:=by rw[ht,h2];decide
  have e4:(s.toList == [67,76,69,65,78])=false:=by rw[ht,h2];decide
  have e5:(s.toList == [68,69,69,68])=false:=by rw[ht,h2];decide
  have e6:(s.toList == [67,89,67,76,69])=false:=by rw[ht,h2];decide
  have hc:Hid (cntB k (n:Int)=((n:Int) == 3)):=hide (by
   rw[h2]
   show(decide (Int.tmod ((n:Int)-3) 2=0) && inB 0 0 ((n:Int)-3))=_
   by_cases h:(n:Int)=3
   ·rw[h];rfl
   ·have:inB 0 0 ((n:Int)-3)=false:=by simp[inB];omega
    rw[this,Bool.and_false];symm;simpa using h)
  clear ht hk h0 h1 h2
  go_enter Tryz.func29,Tryz.ntmps29
  go_wp2_with fail
  go_returns
  exact⟨by rw[hc.out];rfl,rfl⟩
 by_cases h3:k=[82,65,73,78]
 ·have e0:(s.toList == [83,72,79,84])=false:=by rw[ht,h3];decide
  have e1:(s.toList == [77,65,82,75])=false:=by rw[ht,h3];decide
  have e2:(s.toList == [71,65,85,71,69])=false:=by rw[ht,h3];decide
  have e3:(s.toList == [82,65,73,78])=true:=by rw[ht,h3];decide
  have e4:(s.toList == [67,76,69,65,78])=false:=by rw[ht,h3];decide
  have e5:(s.toList == [68,69,69,68])=false:=by rw[ht,h3];decide
  have e6:(s.toList == [67,89,67,76,69])=false:=by rw[ht,h3];decide
  have hc:Hid (cntB k (n:Int)=((n:Int) == 2)):=hide (by
   rw[h3]
   show(decide (Int.tmod ((n:Int)-2) 2=0) && inB 0 0 ((n:Int)-2))=_
   by_cases h:(n:Int)=2
   ·rw[h];rfl
   ·have:inB 0 0 ((n:Int)-2)=false:=by simp[inB];omega
    rw[this,Bool.and_false];symm;simpa using h)
  clear ht hk h0 h1 h2 h3
  go_enter Tryz.func29,Tryz.ntmps29
  go_wp2_with fail
  go_returns
  exact⟨by rw[hc.out];rfl,rfl⟩
 by_cases h4:k=[67,76,69,65,78]
 ·have e0:(s.toList == [83,72,79,84])=false:=by rw[ht,h4];decide
  have e1:(s.toList == [77,65,82,75])=false:=by rw[ht,h4];decide
  have e2:(s.toList == [71,65,85,71,69])=false:=by rw[ht,h4];decide
  have e3:(s.toList == [82,65,73,78])=false:=by rw[ht,h4];decide
  have e4:(s.toList == [67,76,69,65,78])=true:=by rw[ht,h4];decide
  have e5:(s.toList == [68,69,69,68])=false:=by rw[ht,h4];decide
  have e6:(s.toList == [67,89,67,76,69])=false:=by rw[ht,h4];decide
  have hc:Hid (cntB k (n:Int)=((n:Int) == 3)):=hide (by
   rw[h4]
   show(decide (Int.tmod ((n:Int)-3) 2=0) && inB 0 0 ((n:Int)-3))=_
   by_cases h:(n:Int)=3
   ·rw[h];rfl
   ·have:inB 0 0 ((n:Int)-3)=false:=by simp[inB];omega
    rw[this,Bool.and_false];symm;simpa using h)
  clear ht hk h0 h1 h2 h3 h4
  go_enter Tryz.func29,Tryz.ntmps29
  go_wp2_with fail
  go_returns
  exact⟨by rw[hc.out];rfl,rfl⟩
 by_cases h5:k=[68,69,69,68]
 ·have e0:(s.toList == [83,72,79,84])=false:=by rw[ht,h5];decide
  have e1:(s.toList == [77,65,82,75])=false:=by rw[ht,h5];decide
  have e2:(s.toList == [71,65,85,71,69])=false:=by rw[ht,h5];decide
  have e3:(s.toList == [82,65,73,78])=false:=by rw[ht,h5];decide
  have e4:(s.toList == [67,76,69,65,78])=false:=by rw[ht,h5];decide
  have e5:(s.toList == [68,69,69,68])=true:=by rw[ht,h5];decide
  have e6:(s.toList == [67,89,67,76,69])=false:=by rw[ht,h5];decide
  have hc:Hid (cntB k (n:Int)=(inB 8 24 (n:Int) && ((n:Int) % 2 == 0))):=hide (by
   rw[h5]
   show(decide (Int.tmod ((n:Int)-8) 2=0) && inB 0 16 ((n:Int)-8))=_
   by_cases h:inB 8 24 (n:Int)=true
   ·have h':=h
    simp only[inB,Bool.and_eq_true,decide_eq_true_eq] at h'
    have h2:inB 0 16 ((n:Int)-8)=true:=by simp[inB];omega
    rw[h,h2,Int.tmod_eq_emod_of_nonneg (by omega),Bool.and_true,Bool.true_and]
    rw[Bool.eq_iff_iff];simp;omega
   ·have h2:inB 0 16 ((n:Int)-8)=false:=by simp[inB] at h ⊢;omega
    have h3:inB 8 24 (n:Int)=false:=by simpa using h
    rw[h2,Bool.and_false,h3,Bool.false_and])
  clear ht hk h0 h1 h2 h3 h4 h5
  have tm:Int.tmod (n:Int) 2=(n:Int) % 2:=Int.tmod_eq_emod_of_nonneg (by omega)
  cases hi:inB 8 24 (n:Int)
  all_goals
   go_enter Tryz.func29,Tryz.ntmps29
   go_wp2_with fail
   refine(ar_within _ _ _ w).mono ?_
   rintro e w' ⟨rfl,rfl⟩
   rw[hi]
   go_wp2_with fail
   go_returns
   exact⟨by rw[hc.out,hi];rfl,rfl⟩
 by_cases h6:k=[67,89,67,76,69]
 ·have e0:(s.toList == [83,72,79,84])=false:=by rw[ht,h6];decide
  have e1:(s.toList == [77,65,82,75])=false:=by rw[ht,h6];decide
  have e2:(s.toList == [71,65,85,71,69])=false:=by rw[ht,h6];decide
  have e3:(s.toList == [82,65,73,78])=false:=by rw[ht,h6];decide
  have e4:(s.toList == [67,76,69,65,78])=false:=by rw[ht,h6];decide
  have e5:(s.toList == [68,69,69,68])=false:=by rw[ht,h6];decide
  have e6:(s.toList == [67,89,67,76,69])=true:=by rw[ht,h6];decide
  have hc:Hid (cntB k (n:Int)=((n:Int) == 0)):=hide (by
   rw[h6]
   show(decide (Int.tmod ((n:Int)-0) 2=0) && inB 0 0 ((n:Int)-0))=_
   by_cases h:(n:Int)=0
   ·rw[h];rfl
   ·have:inB 0 0 ((n:Int)-0)=false:=by simp[inB];omega
    rw[this,Bool.and_false];symm;simpa using h)
  clear ht hk h0 h1 h2 h3 h4 h5 h6
  go_enter Tryz.func29,Tryz.ntmps29
  go_wp2_with fail
  go_returns
  exact⟨by rw[hc.out];rfl,rfl⟩
 have e0:(s.toList == [83,72,79,84])=false:=by rw[ht];simpa using h0
 have e1:(s.toList == [77,65,82,75])=false:=by rw[ht];simpa using h1
 have e2:(s.toList == [71,65,85,71,69])=false:=by rw[ht];simpa using h2
 have e3:(s.toList == [82,65,73,78])=false:=by rw[ht];simpa using h3
 have e4:(s.toList == [67,76,69,65,78])=false:=by rw[ht];simpa using h4
 have e5:(s.toList == [68,69,69,68])=false:=by rw[ht];simpa using h5
 have e6:(s.toList == [67,89,67,76,69])=false:=by rw[ht];simpa using h6
 have hc:Hid (cntB k (n:Int)=false):=hide (by unfold cntB cmdF;simp[h0,h1,h2,h3,h4,h5,h6])
 clear ht hk h0 h1 h2 h3 h4 h5 h6
 go_enter Tryz.func29,Tryz.ntmps29
 go_wp2_with fail
 go_returns
 exact⟨by rw[hc.out];rfl,rfl⟩
end Go.Proofs.YtgfghffihjfbpaaGreatDoor
