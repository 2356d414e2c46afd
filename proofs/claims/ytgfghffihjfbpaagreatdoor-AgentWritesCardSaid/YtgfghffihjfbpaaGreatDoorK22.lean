/- lemmas for agentWrites_holds: AG3. No conditions. -/
import Derived.Test.YtgfghffihjfbpaaGreatDoorK21
set_option linter.unusedVariables false
set_option linter.unusedSimpArgs false
namespace Go.Proofs.YtgfghffihjfbpaaGreatDoor
open Go.RowKit Go.Shelf
theorem ar_digit (u:Nat) (hu:u < 10) (w:World):Calls Tryz.prog 58 #[.int .i64 (u:Int)] w fun e w'=>e= .returned (.string ⟨(Lib.decDigits u).toArray⟩)∧w=w':=by
 have hd:Lib.decDigits u=[UInt8.ofNat (48+u)]:=by rw[Lib.decDigits,dif_pos hu]
 rw[hd]
 clear hd
 obtain rfl | rfl | rfl | rfl | rfl | rfl | rfl | rfl | rfl | rfl:u=0∨u=1∨u=2∨u=3∨u=4∨u=5∨u=6∨u=7∨u=8∨u=9:=by omega
 all_goals
  go_enter Tryz.func58,Tryz.ntmps58
  go_wp2_with fail
  go_returns
  exact⟨by first | rfl | (simp;rfl),rfl⟩
theorem dec_len (u:Nat) (h:u≤1000000000000000):(Lib.decDigits u).length≤20:=by
 rw[Lib.decDigits_length]
 exact Lib.nDigits_le20 u (by omega)
theorem ar_nat:∀(u:Nat),u≤1000000000000000→∀w:World,Calls Tryz.prog 58 #[.int .i64 (u:Int)] w fun e w'=>e= .returned (.string ⟨(Lib.decDigits u).toArray⟩)∧w=w':=by
 intro u
 induction u using Nat.strongRecOn with
 | ind u ih =>
   intro hu w
   by_cases h10:u < 10
   ·exact ar_digit u h10 w
   ·have h1:=hide (ih (u / 10) (by omega) (by omega))
    have h2:=hide (ar_digit (u % 10) (by omega))
    have hd:Hid (Lib.decDigits u=Lib.decDigits (u / 10) ++ Lib.decDigits (u % 10)):=hide (by
     rw[Lib.decDigits,dif_neg h10]
     congr 1
     rw[Lib.decDigits,dif_pos (by omega)])
    have l1:=dec_len (u / 10) (by omega)
    have l2:=dec_len (u % 10) (by omega)
    obtain⟨q,hq⟩:∃q,q=u / 10:=⟨_,rfl⟩
    obtain⟨r,hr⟩:∃r,r=u % 10:=⟨_,rfl⟩
    rw[←hq] at h1 hd l1
    rw[←hr] at h2 hd l2
    have t1:Int.tdiv (u:Int) 10=(q:Int):=by rw[Int.tdiv_eq_ediv_of_nonneg (by omega),hq];rfl
    have t2:(u:Int) / 10=(q:Int):=by rw[hq];rfl
    have t3:Int.tmod (u:Int) 10=(r:Int):=by rw[Int.tmod_eq_emod_of_nonneg (by omega),hr];rfl
    have t4:(u:Int) % 10=(r:Int):=by rw[hr];rfl
    have t5:IntKind.i64.wrap (q:Int)=(q:Int):=wrapI (by omega)
    have t6:IntKind.i64.wrap (r:Int)=(r:Int):=wrapI (by omega)
    have t7:¬9223372036854775807 < (Lib.decDigits q).length+(Lib.decDigits r).length:=by omega
    have n0:¬(u:Int) < 0:=by omega
    have n1:¬(u:Int) < 10:=by omega
    clear hq hr ih
    go_enter Tryz.func58,Tryz.ntmps58
    go_wp2_with fail
    refine(h1.out w).mono ?_
    rintro e w' ⟨rfl,rfl⟩
    go_wp2_with fail
    refine(h2.out w).mono ?_
    rintro e w' ⟨rfl,rfl⟩
    go_wp2_with fail
    go_returns
    exact⟨by rw[hd.out,←bytes_app];rfl,rfl⟩
theorem ar_number (n:Int) (w:World) (h0: -1000000000000≤n) (h1:n≤1000000000000):Calls Tryz.prog 58 #[.int .i64 n] w fun e w'=>e= .returned (.string ⟨(Lib.itoa n).toArray⟩)∧w=w':=by
 by_cases hn:n < 0
 ·obtain⟨u,hu⟩:∃u:Nat,n= -(u:Int):=⟨n.natAbs,by omega⟩
  have hi:Hid (Lib.itoa n=[45] ++ Lib.decDigits u):=hide (by unfold Lib.itoa;rw[if_pos hn,hu];simp)
  have hl:=dec_len u (by omega)
  have H:=hide (ar_nat u (by omega) w)
  have f1:IntKind.i64.wrap (-n)=(u:Int):=by rw[hu,Int.neg_neg];exact wrapI (by omega)
  have f2:IntKind.i64.wrap (0-n)=(u:Int):=by rw[Int.zero_sub];exact f1
  have t7:¬9223372036854775807 < 1+(Lib.decDigits u).length:=by omega
  clear hu
  go_enter Tryz.func58,Tryz.ntmps58
  go_wp2_with fail
  refine H.out.mono ?_
  rintro e w' ⟨rfl,rfl⟩
  go_wp2_with fail
  go_returns
  exact⟨by rw[hi.out,←bytes_app];rfl,rfl⟩
 ·obtain⟨u,rfl⟩:∃u:Nat,n=u:=⟨n.toNat,by omega⟩
  have hi:Lib.itoa (u:Int)=Lib.decDigits u:=by unfold Lib.itoa;rw[if_neg hn,Int.toNat_natCast]
  rw[hi]
  exact ar_nat u (by omega) w
theorem ar_phrase (wl:List UInt8) (A:Option Addr) (xs:List Int) (n c:Nat) (w:World) (hn:n=xs.length) (hm:n≤1000) (hw:wl.length≤1000000) (hx:Rd w w.heap.size icell A xs) (hb:∀x∈xs,-1000000000000≤x∧x≤1000000000000) :
 Calls Tryz.prog 57 #[.string ⟨wl.toArray⟩,.string ⟨#[44]⟩,.slice A n c] w fun e w'=>e= .returned (.string ⟨(phraseB wl xs).toArray⟩)∧w=w':=by
 have Hn:=hide hn;have Hx:=hide hx;have Hb:=hide hb
 clear hn hx hb
 go_enter Tryz.func57,Tryz.ntmps57
 go_wp2_with fail
 go_loopw [0,7] (fun v i wr=>∃k:Nat,k≤n∧i= .int .i64 k∧v= .string ⟨(phraseB wl (xs.take k)).toArray⟩∧w=wr) (fun _ i _=>n-(intOf i).toNat)
 case atStart=>exact⟨0,by omega,rfl,by simp[phraseB],by first | rfl | trivial⟩
 case round=>
  obtain⟨k,hk,rfl,rfl,rfl⟩:=hrel
  by_cases hlt:k < n
  ·obtain⟨b,off,x0,rfl,_,hxk,c0⟩:=Hx.out.int (i:=k) (by have:=Hn.out;omega)
   have hbd:=Hb.out x0 (List.mem_of_getElem? hxk)
   have Hs:=hide (show phraseB wl (xs.take (k+1))=phraseB wl (xs.take k) ++ (44 :: Lib.itoa x0) by rw[take_snoc hxk,phraseB_snoc])
   have hil:=Lib.itoa_length_le x0 (by omega) (by omega)
   have hpl:=phraseB_len wl (xs.take k) (fun y hy=>Hb.out y (List.mem_of_mem_take hy))
   rw[List.length_take,Nat.min_eq_left (by rw[←Hn.out];omega)] at hpl
   obtain⟨ph,hph⟩:∃ph,ph=phraseB wl (xs.take k):=⟨_,rfl⟩
   rw[←hph] at hpl
   have t1:¬9223372036854775807 < 1+(Lib.itoa x0).length:=by omega
   have t2:¬9223372036854775807 < ph.length+(1+(Lib.itoa x0).length):=by omega
   rw[←hph] at Hs ⊢
   have ik:(k:Int) < (n:Int):=by omega
   clear hxk hph
   go_wp2_with fail
   refine(ar_number x0 w (by omega) (by omega)).mono ?_
   rintro e w2 ⟨rfl,rfl⟩
   go_wp2_with fail
   refine⟨⟨k+1,by omega,by go_num,?_,by first | rfl | trivial⟩,by simp[intOf];omega⟩
   rw[Hs.out,show(⟨#[44]⟩:ByteArray)=⟨([44]:List UInt8).toArray⟩ from rfl,bytes_app,bytes_app]
   rfl
  ·obtain rfl:n=k:=by omega
   go_wp2_with fail
   go_returns
   exact⟨by rw[List.take_of_length_le (by rw[Hn.out];exact Nat.le_refl _)];rfl,rfl⟩
end Go.Proofs.YtgfghffihjfbpaaGreatDoor
