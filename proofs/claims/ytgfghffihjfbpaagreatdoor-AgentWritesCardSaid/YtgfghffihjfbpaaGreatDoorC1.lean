/- Channel and its reference: small functions, by contracts. -/
import Derived.Test.YtgfghffihjfbpaaGreatDoorProg
import Derived.Test.YtgfghffihjfbpaaGreatDoorBase
set_option linter.unusedVariables false
set_option linter.unusedSimpArgs false
namespace Go.Proofs.YtgfghffihjfbpaaGreatDoor
open Go.RowKit Go.Shelf

/-- From lo to hi, or not. -/
def inB (lo hi n : Int) : Bool := decide (lo ≤ n) && decide (n ≤ hi)
def outB (lo hi n : Int) : Bool := decide (n < lo) || decide (hi < n)
def anyOut (lo hi : Int) (xs : List Int) : Bool := xs.any (outB lo hi)
def Sp.ok (lo hi : Int) (s : Sp) : Bool := decide (lo ≤ s.lo ∧ s.lo ≤ s.hi) && decide (s.hi ≤ hi)


/-- slices.IndexFunc at int: not below 0 just where one of them is so. -/
theorem indexfunc_int (f : FuncId) (cp : Array Value) (p : Int → Bool) (A : Option Addr) (xs : List Int) (n c : Nat) (w : World) (hn : n = xs.length) (hm : n ≤ 9223372036854775807)
    (eg : ∀ args w, (callFunc f args).run Tryz.prog w = .ok (.enter f args) w) (hx : Rd w w.heap.size icell A xs)
    (hf : ∀ x0 w', (x0 : Int) ∈ xs → Below w.heap.size w w' → Calls Tryz.prog f (#[.int .i64 x0] ++ cp) w' fun e w'' => e = .returned (.bool (p x0)) ∧ Below w'.heap.size w' w'') :
    Calls Tryz.prog 114 #[.slice A n c, .func (.func f) #[] cp] w fun e w' => ∃ r : Int, e = .returned (.int .i64 r) ∧ decide (0 ≤ r) = xs.any p ∧ Below w.heap.size w w' := by
  have Hn := hide hn; clear hn
  have Hx := hide hx; clear hx
  have Hf := hide hf; clear hf
  go_enter Tryz.func114, Tryz.ntmps114
  go_wp2_with fail
  go_loopw [4, 8] (fun v i wr => ∃ k : Nat, k ≤ n ∧ i = .int .i64 k ∧ Below w.heap.size w wr ∧ Hid (∀ y ∈ xs.take k, p y = false)) (fun _ i _ => n - (intOf i).toNat)
  case atStart => exact ⟨0, by omega, rfl, Below.refl _ _, hide pre_nil⟩
  case round =>
    obtain ⟨k, hk, rfl, hb, hpre⟩ := hrel
    by_cases hlt : k < n
    · obtain ⟨b, off, x0, rfl, hB, hxk, hc0⟩ := (Hx.out.below hb).int (i := k) (by have := Hn.out; omega)
      have H := hide (Hf.out x0 wr (List.mem_of_getElem? hxk) hb)
      have Hxk := hide hxk; clear hxk
      go_wp2_with (go_at_fn f; refine H.out.mono ?_; rintro e w' ⟨rfl, hb'⟩)
      · go_ret
        have hp : p x0 = true := by assumption
        exact ⟨k, rfl, by rw [any_hit Hxk.out hp]; simp, hb.trans (hb'.mono hb.size)⟩
      · have hp : p x0 = false := by assumption
        exact ⟨⟨k + 1, by omega, by go_num, hb.trans (hb'.mono hb.size), hide (pre_snoc Hxk.out hp hpre.out)⟩, by simp [intOf]; omega⟩
    · go_wp2
      go_ret
      exact ⟨-1, rfl, by rw [any_miss (k := k) (by have := Hn.out; omega) hpre.out]; simp, hb⟩
/-- slices.ContainsFunc at int. -/
theorem containsfunc_int (f : FuncId) (cp : Array Value) (p : Int → Bool) (A : Option Addr) (xs : List Int) (n c : Nat) (w : World) (hn : n = xs.length) (hm : n ≤ 9223372036854775807)
    (eg : ∀ args w, (callFunc f args).run Tryz.prog w = .ok (.enter f args) w) (hx : Rd w w.heap.size icell A xs)
    (hf : ∀ x0 w', (x0 : Int) ∈ xs → Below w.heap.size w w' → Calls Tryz.prog f (#[.int .i64 x0] ++ cp) w' fun e w'' => e = .returned (.bool (p x0)) ∧ Below w'.heap.size w' w'') :
    Calls Tryz.prog 97 #[.slice A n c, .func (.func f) #[] cp] w fun e w' => e = .returned (.bool (xs.any p)) ∧ Below w.heap.size w w' := by
  have H := hide (indexfunc_int f cp p A xs n c w hn hm eg hx hf); clear hx hf hn eg
  go_enter Tryz.func97, Tryz.ntmps97
  go_wp2_with (go_at_call 114; refine H.out.mono ?_; rintro e w' ⟨r, rfl, hr, hb⟩; have Hr := hide hr; clear hr)
  go_ret
  exact ⟨by rw [← Hr.out]; rfl, hb⟩


set_option maxHeartbeats 400000 in
theorem channel_from1 (x lo hi : Int) (p q : Nat) (w : World) (hp : w.cell? ⟨p, 0, none⟩ = some (.int .i64 lo)) (hq : w.cell? ⟨q, 0, none⟩ = some (.int .i64 hi)) :
    Calls Tryz.prog 290 #[.int .i64 x, .pointer (some ⟨p, 0, none⟩), .pointer (some ⟨q, 0, none⟩)] w fun e w' => e = .returned (.bool (outB lo hi x)) ∧ Below w.heap.size w w' := by
  by_cases h : x < lo
  all_goals
    go_enter Tryz.func290, Tryz.ntmps290
    go_wp2
    go_ret
    exact ⟨by first | (simp [outB, h]; done) | (simp [outB, h]; omega), Below.refl _ _⟩

theorem enters_channel_from1 : ∀ args w, (callFunc 290 args).run Tryz.prog w = .ok (.enter 290 args) w := enters_of Tryz.func290 (by kernel_rfl) rfl

set_option maxHeartbeats 400000 in
/-- from: all are from lo to hi. -/
theorem channel_from (lo hi : Int) (A : Option Addr) (xs : List Int) (n c : Nat) (w : World) (hn : n = xs.length) (hm : n ≤ 9223372036854775807) (hx : Rd w w.heap.size icell A xs) :
    Calls Tryz.prog 268 #[.int .i64 lo, .int .i64 hi, .slice A n c] w fun e w' => e = .returned (.bool (!(anyOut lo hi xs))) ∧ Below w.heap.size w w' := by
  have hb1 : Below w.heap.size w (w.alloc (.cells #[.int .i64 lo] 3)) := below_new _ _
  have hc1 : (w.alloc (.cells #[.int .i64 lo] 3)).cell? ⟨w.heap.size, 0, none⟩ = some (.int .i64 lo) := cell_new _ _ _ _ _ rfl
  obtain ⟨w1, Hw1⟩ : ∃ w1, Hid (w.alloc (.cells #[.int .i64 lo] 3) = w1) := ⟨_, hide rfl⟩
  rw [Hw1.out] at hb1 hc1
  have hs1 : w1.heap.size = w.heap.size + 1 := by rw [← Hw1.out]; simp
  have hb2 : Below w1.heap.size w1 (w1.alloc (.cells #[.int .i64 hi] 3)) := below_new _ _
  have hc2 : (w1.alloc (.cells #[.int .i64 hi] 3)).cell? ⟨w1.heap.size, 0, none⟩ = some (.int .i64 hi) := cell_new _ _ _ _ _ rfl
  have hc1' := (hb2.cell (p := ⟨w.heap.size, 0, none⟩) (by simp; omega)).trans hc1
  have hb3 := hb1.trans (hb2.mono hb1.size)
  have H := hide (containsfunc_int 290 #[.pointer (some ⟨w.heap.size, 0, none⟩), .pointer (some ⟨w1.heap.size, 0, none⟩)] (outB lo hi) A xs n c (w1.alloc (.cells #[.int .i64 hi] 3)) hn hm enters_channel_from1
    ((hx.below hb3).more hb3.size)
    (fun x w' _ hb => channel_from1 x lo hi w.heap.size w1.heap.size w' ((hb.cell (p := ⟨w.heap.size, 0, none⟩) (by simp; omega)).trans hc1') ((hb.cell (p := ⟨w1.heap.size, 0, none⟩) (by simp)).trans hc2)))
  rw [hs1] at H
  have Hb := hide hb3
  clear hx hn hc1 hc2 hc1' hb1 hb2 hb3
  go_enter Tryz.func268, Tryz.ntmps268
  go_wp2_with fail
  rw [Hw1.out]
  refine H.out.mono ?_
  rintro e w' ⟨rfl, hb⟩
  go_wp2
  go_ret
  exact ⟨rfl, Hb.out.trans (hb.mono Hb.out.size)⟩

theorem channel_one_in (lo hi x : Int) : (!(anyOut lo hi [x])) = inB lo hi x := by
  rw [Bool.eq_iff_iff]; simp [anyOut, outB, inB]
theorem channel_two_in (lo hi x y : Int) : (!(anyOut lo hi [x, y])) = (inB lo hi x && inB lo hi y) := by
  rw [Bool.eq_iff_iff]; simp [anyOut, outB, inB]
/-- from of one number, of two. -/
theorem channel_from_one (lo hi x : Int) (w1 : World) (p : Nat) (hp : p = w1.heap.size) : Calls Tryz.prog 268 #[.int .i64 lo, .int .i64 hi, .slice (some ⟨p, 0, none⟩) 1 1] (w1.alloc (.cells #[.int .i64 x] 3)) fun e w' => e = .returned (.bool (inB lo hi x)) ∧ Below w1.heap.size w1 w' := by
  subst hp
  refine (channel_from lo hi _ [x] 1 1 _ rfl (by omega) (by simpa using Rd.new (cells := icell) w1 #[.int .i64 x] 3 [x] rfl)).mono ?_
  rintro e w' ⟨rfl, hb⟩
  exact ⟨ret_bool (channel_one_in lo hi x), (below_new w1 _).trans (hb.mono (by simp))⟩
theorem channel_from_two (lo hi x y : Int) (w1 : World) (p : Nat) (hp : p = w1.heap.size) : Calls Tryz.prog 268 #[.int .i64 lo, .int .i64 hi, .slice (some ⟨p, 0, none⟩) 2 2] (w1.alloc (.cells #[.int .i64 x, .int .i64 y] 3)) fun e w' => e = .returned (.bool (inB lo hi x && inB lo hi y)) ∧ Below w1.heap.size w1 w' := by
  subst hp
  refine (channel_from lo hi _ [x, y] 2 2 _ rfl (by omega) (by simpa using Rd.new (cells := icell) w1 #[.int .i64 x, .int .i64 y] 3 [x, y] rfl)).mono ?_
  rintro e w' ⟨rfl, hb⟩
  exact ⟨ret_bool (channel_two_in lo hi x y), (below_new w1 _).trans (hb.mono (by simp))⟩

set_option maxHeartbeats 400000 in
/-- proper: in order, from 0 to a number. -/
theorem channel_proper (lo hi m : Int) (w : World) :
    Calls Tryz.prog 269 #[.agg #[.int .i64 lo, .int .i64 hi], .int .i64 m] w fun e w' => e = .returned (.bool (Sp.ok 0 m ⟨lo, hi⟩)) ∧ Below w.heap.size w w' := by
  by_cases h : lo ≤ hi
  · have hb0 : Below w.heap.size w (w.alloc (.cells #[.int .i64 lo, .int .i64 hi] 105)) := below_new _ _
    go_enter Tryz.func269, Tryz.ntmps269
    go_wp2_with fail
    refine (channel_from_two 0 m lo hi _ _ (by simp)).mono ?_
    rintro e w' ⟨rfl, hb⟩
    go_wp2
    go_ret
    exact ⟨ret_bool (by rw [Bool.eq_iff_iff]; simp [inB, Sp.ok]; omega), hb0.trans (hb.mono hb0.size)⟩
  · go_enter Tryz.func269, Tryz.ntmps269
    go_wp2
    go_ret
    exact ⟨ret_bool (by simp [Sp.ok]; omega), below_new _ _⟩


end Go.Proofs.YtgfghffihjfbpaaGreatDoor
