/- lemmas for agentWrites_holds: AG1. No conditions. -/
import Derived.Test.YtgfghffihjfbpaaGreatDoorK06
import Derived.Test.YtgfghffihjfbpaaGreatDoorK18
import Derived.Test.YtgfghffihjfbpaaGreatDoorK09
import Derived.Test.YtgfghffihjfbpaaGreatDoorK11
set_option linter.unusedVariables false
set_option linter.unusedSimpArgs false
namespace Go.Proofs.YtgfghffihjfbpaaGreatDoor
open Go.RowKit Go.Shelf Go.Maps Go.MapKept Go.ChangeMaps
set_option maxHeartbeats 400000 in
theorem ag_within1 (x lo hi:Int) (p q:Nat) (w:World) (hp:w.cell? ⟨p,0,none⟩=some (.int .i64 lo)) (hq:w.cell? ⟨q,0,none⟩=some (.int .i64 hi)) :
 Calls Tryz.prog 98 #[.int .i64 x,.pointer (some ⟨p,0,none⟩),.pointer (some ⟨q,0,none⟩)] w fun e w'=>e= .returned (.bool (outB lo hi x))∧Below w.heap.size w w':=by
 by_cases h:x < lo
 all_goals
  go_enter Tryz.func98,Tryz.ntmps98
  go_wp2
  go_ret
  exact⟨by first | (simp[outB,h];done) | (simp[outB,h];omega),Below.refl _ _⟩
theorem enters_ag_within1:∀args w,(callFunc 98 args).run Tryz.prog w= .ok (.enter 98 args) w:=enters_of Tryz.func98 (by kernel_rfl) rfl
set_option maxHeartbeats 400000 in
theorem ag_within (lo hi:Int) (A:Option Addr) (xs:List Int) (n c:Nat) (w:World) (hn:n=xs.length) (hm:n≤9223372036854775807) (hx:Rd w w.heap.size icell A xs) :
 Calls Tryz.prog 60 #[.int .i64 lo,.int .i64 hi,.slice A n c] w fun e w'=>e= .returned (.bool (!(anyOut lo hi xs)))∧Below w.heap.size w w':=by
 have hb1:Below w.heap.size w (w.alloc (.cells #[.int .i64 lo] 3)):=below_new _ _
 have hc1:(w.alloc (.cells #[.int .i64 lo] 3)).cell? ⟨w.heap.size,0,none⟩=some (.int .i64 lo):=cell_new _ _ _ _ _ rfl
 obtain⟨w1,Hw1⟩:∃w1,Hid (w.alloc (.cells #[.int .i64 lo] 3)=w1):=⟨_,hide rfl⟩
 rw[Hw1.out] at hb1 hc1
 have hs1:w1.heap.size=w.heap.size+1:=by rw[←Hw1.out];simp
 have hb2:Below w1.heap.size w1 (w1.alloc (.cells #[.int .i64 hi] 3)):=below_new _ _
 have hc2:(w1.alloc (.cells #[.int .i64 hi] 3)).cell? ⟨w1.heap.size,0,none⟩=some (.int .i64 hi):=cell_new _ _ _ _ _ rfl
 have hc1':=(hb2.cell (p:=⟨w.heap.size,0,none⟩) (by simp;omega)).trans hc1
 have hb3:=hb1.trans (hb2.mono hb1.size)
 have H:=hide (containsfunc_int 98 #[.pointer (some ⟨w.heap.size,0,none⟩),.pointer (some ⟨w1.heap.size,0,none⟩)] (outB lo hi) A xs n c (w1.alloc (.cells #[.int .i64 hi] 3)) hn hm enters_ag_within1
  ((hx.below hb3).more hb3.size)
  (fun x w' _ hb=>ag_within1 x lo hi w.heap.size w1.heap.size w' ((hb.cell (p:=⟨w.heap.size,0,none⟩) (by simp;omega)).trans hc1') ((hb.cell (p:=⟨w1.heap.size,0,none⟩) (by simp)).trans hc2)))
 rw[hs1] at H
 have Hb:=hide hb3
 clear hx hn hc1 hc2 hc1' hb1 hb2 hb3
 go_enter Tryz.func60,Tryz.ntmps60
 go_wp2_with fail
 rw[Hw1.out]
 refine H.out.mono ?_
 rintro e w' ⟨rfl,hb⟩
 go_wp2
 go_ret
 exact⟨rfl,Hb.out.trans (hb.mono Hb.out.size)⟩
theorem ag_one_in (lo hi x:Int):(!(anyOut lo hi [x]))=inB lo hi x:=by
 rw[Bool.eq_iff_iff];simp[anyOut,outB,inB]
theorem ag_within_one (lo hi x:Int) (w1:World) (p:Nat) (hp:p=w1.heap.size):Calls Tryz.prog 60 #[.int .i64 lo,.int .i64 hi,.slice (some ⟨p,0,none⟩) 1 1] (w1.alloc (.cells #[.int .i64 x] 3)) fun e w'=>e= .returned (.bool (inB lo hi x))∧Below w1.heap.size w1 w':=by
 subst hp
 refine(ag_within lo hi _ [x] 1 1 _ rfl (by omega) (by simpa using Rd.new (cells:=icell) w1 #[.int .i64 x] 3 [x] rfl)).mono ?_
 rintro e w' ⟨rfl,hb⟩
 exact⟨ret_bool (ag_one_in lo hi x),(below_new w1 _).trans (hb.mono (by simp))⟩
theorem ag_sayable (A:Option Addr) (xs:List Int) (n c:Nat) (w:World) (hn:n=xs.length) (hm:n≤9223372036854775807) (hx:Rd w w.heap.size icell A xs) :
 Calls Tryz.prog 26 #[.slice A n c] w fun e w'=>e= .returned (.bool (!(anyOut (-1000000000000) 1000000000000 xs)))∧Below w.heap.size w w':=by
 have H:=hide (ag_within (-1000000000000) 1000000000000 A xs n c w hn hm hx)
 clear hx hn
 go_enter Tryz.func26,Tryz.ntmps26
 go_wp2_with fail
 refine H.out.mono ?_
 rintro e w' ⟨rfl,hb⟩
 go_wp2
 go_ret
 exact⟨rfl,hb⟩
def bSHOT:ByteArray:=⟨#[83,72,79,84]⟩
def bMARK:ByteArray:=⟨#[77,65,82,75]⟩
def bGAUGE:ByteArray:=⟨#[71,65,85,71,69]⟩
def bRAIN:ByteArray:=⟨#[82,65,73,78]⟩
def bCLEAN:ByteArray:=⟨#[67,76,69,65,78]⟩
def bDEED:ByteArray:=⟨#[68,69,69,68]⟩
def bCYCLE:ByteArray:=⟨#[67,89,67,76,69]⟩
def cmdF (k:List UInt8):Option (Int×Int):=
 if k=[67,89,67,76,69] then some (0,0) else if k=[68,69,69,68] then some (8,8) else if k=[67,76,69,65,78] then some (3,0) else if k=[82,65,73,78] then some (2,0)
 else if k=[71,65,85,71,69] then some (3,0) else if k=[77,65,82,75] then some (3,0) else if k=[83,72,79,84] then some (4,0) else none
def cmdN (k:List UInt8):Nat:=
 if k=[67,89,67,76,69] then 107 else if k=[68,69,69,68] then 106 else if k=[67,76,69,65,78] then 105 else if k=[82,65,73,78] then 104
 else if k=[71,65,85,71,69] then 103 else if k=[77,65,82,75] then 102 else 101
def cmdV (k:List UInt8):Option Value:=(cmdF k).map fun p=> .agg #[.int .i64 p.1,.int .i64 p.2,.func (.func (cmdN k)) #[] #[]]
def cmdW:List UInt8→Option Value:=
 updS (updS (updS (updS (updS (updS (updS (fun _=>none) bSHOT.data.toList (some (.agg #[.int .i64 4,.int .i64 0,.func (.func 101) #[] #[]]))) bMARK.data.toList (some (.agg #[.int .i64 3,.int .i64 0,.func (.func 102) #[] #[]])))
  bGAUGE.data.toList (some (.agg #[.int .i64 3,.int .i64 0,.func (.func 103) #[] #[]]))) bRAIN.data.toList (some (.agg #[.int .i64 2,.int .i64 0,.func (.func 104) #[] #[]])))
  bCLEAN.data.toList (some (.agg #[.int .i64 3,.int .i64 0,.func (.func 105) #[] #[]]))) bDEED.data.toList (some (.agg #[.int .i64 8,.int .i64 8,.func (.func 106) #[] #[]])))
  bCYCLE.data.toList (some (.agg #[.int .i64 0,.int .i64 0,.func (.func 107) #[] #[]]))
theorem cmdW_eq (k:List UInt8):cmdW k=cmdV k:=by
 unfold cmdW cmdV cmdF cmdN updS
 simp only[bSHOT,bMARK,bGAUGE,bRAIN,bCLEAN,bDEED,bCYCLE]
 by_cases h1:k=[67,89,67,76,69]
 ·simp[h1]
 by_cases h2:k=[68,69,69,68]
 ·simp[h2]
 by_cases h3:k=[67,76,69,65,78]
 ·simp[h3]
 by_cases h4:k=[82,65,73,78]
 ·simp[h4]
 by_cases h5:k=[71,65,85,71,69]
 ·simp[h5]
 by_cases h6:k=[77,65,82,75]
 ·simp[h6]
 by_cases h7:k=[83,72,79,84]
 ·simp[h7]
 simp[h1,h2,h3,h4,h5,h6,h7]
set_option maxHeartbeats 4000000 in
set_option maxRecDepth 100000 in
theorem ag_commands (w:World) :
 Calls Tryz.prog 82 #[] w fun e w'=>∃bm,e= .returned (.map (some bm))∧MpS Tryz.prog 9 w' bm 7 cmdV∧Below w.heap.size w w':=by
 obtain⟨w3,ew3⟩:∃w3,Hid (w.alloc (.map #[] 0)=w3):=⟨_,hide rfl⟩
 have hm3:=MpS.made w Tryz.prog 9
 have hb3:Below w.heap.size w (w.alloc (.map #[] 0)):=below_new _ _
 obtain⟨bm,ebm⟩:∃bm,Hid (w.heap.size=bm):=⟨_,hide rfl⟩
 rw[ew3.out,ebm.out] at hm3
 rw[ew3.out] at hb3
 have HM3:=hide hm3;have HB3:=hide hb3
 clear hm3 hb3
 go_enter Tryz.func82,Tryz.ntmps82
 have hmm:=@run_makeMap Tryz.prog
 go_wp2_with (first | (rw[ew3.out,ebm.out];clear hmm) | (refine wpList_mapInsS rfl (.tmp 1) (.const (.string bCYCLE)) (.tmp 8) rfl Tryz.underlying9 Tryz.underlying148 HM9.out (by omega) rfl bCYCLE rfl (by decide) _ rfl ?_;intro w10 hM10 hg10;have HM10:=hide hM10;have HG10:=hide (Kept.grown hg10);clear hM10 hg10) | (refine wpList_mapInsS rfl (.tmp 1) (.const (.string bDEED)) (.tmp 7) rfl Tryz.underlying9 Tryz.underlying148 HM8.out (by omega) rfl bDEED rfl (by decide) _ rfl ?_;intro w9 hM9 hg9;have HM9:=hide hM9;have HG9:=hide (Kept.grown hg9);clear hM9 hg9) | (refine wpList_mapInsS rfl (.tmp 1) (.const (.string bCLEAN)) (.tmp 6) rfl Tryz.underlying9 Tryz.underlying148 HM7.out (by omega) rfl bCLEAN rfl (by decide) _ rfl ?_;intro w8 hM8 hg8;have HM8:=hide hM8;have HG8:=hide (Kept.grown hg8);clear hM8 hg8) | (refine wpList_mapInsS rfl (.tmp 1) (.const (.string bRAIN)) (.tmp 5) rfl Tryz.underlying9 Tryz.underlying148 HM6.out (by omega) rfl bRAIN rfl (by decide) _ rfl ?_;intro w7 hM7 hg7;have HM7:=hide hM7;have HG7:=hide (Kept.grown hg7);clear hM7 hg7) | (refine wpList_mapInsS rfl (.tmp 1) (.const (.string bGAUGE)) (.tmp 4) rfl Tryz.underlying9 Tryz.underlying148 HM5.out (by omega) rfl bGAUGE rfl (by decide) _ rfl ?_;intro w6 hM6 hg6;have HM6:=hide hM6;have HG6:=hide (Kept.grown hg6);clear hM6 hg6) | (refine wpList_mapInsS rfl (.tmp 1) (.const (.string bMARK)) (.tmp 3) rfl Tryz.underlying9 Tryz.underlying148 HM4.out (by omega) rfl bMARK rfl (by decide) _ rfl ?_;intro w5 hM5 hg5;have HM5:=hide hM5;have HG5:=hide (Kept.grown hg5);clear hM5 hg5) | (refine wpList_mapInsS rfl (.tmp 1) (.const (.string bSHOT)) (.tmp 2) rfl Tryz.underlying9 Tryz.underlying148 HM3.out (by omega) rfl bSHOT rfl (by decide) _ rfl ?_;intro w4 hM4 hg4;have HM4:=hide hM4;have HG4:=hide (Kept.grown hg4);clear hM4 hg4))
 have K:=(((((HG4.out.trans HG5.out).trans HG6.out).trans HG7.out).trans HG8.out).trans HG9.out).trans HG10.out
 have HW:=hide (HB3.out.trans (K.below (B:=w.heap.size) (fun b hb e=>by injection e;have:=ebm.out;omega) HB3.out.size))
 clear K
 go_ret
 refine⟨bm,rfl,?_,HW.out⟩
 rw[←show cmdW=cmdV from funext cmdW_eq]
 exact HM10.out
end Go.Proofs.YtgfghffihjfbpaaGreatDoor
