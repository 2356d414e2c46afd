/- Gallery: crowd, Clone, by contract. -/
import Derived.Test.YtkmocikcohhdoaaFP
import Derived.Test.YtkmocikcohhdoaaOwn2
import Derived.Test.YtkmocikcohhdoaaGA
set_option linter.unusedVariables false
set_option linter.unusedSimpArgs false
namespace Go.Proofs.Ytkmocikcohhdoaa
open Go.RowKit Go.Shelf
attribute [local go_sem] ite_min ite_max
theorem holds_snoc {ss : List Sp} {j : Nat} {x : Sp} (hx : ss[j]? = some x) (n : Int) : holds (ss.take (j + 1)) n = if inB x.lo x.hi n then holds (ss.take j) n + 1 else holds (ss.take j) n := by
  unfold holds
  rw [take_snoc hx, List.filter_append, List.length_append]
  by_cases h : inB x.lo x.hi n = true
  · rw [if_pos h]
    simp only [inB] at h
    have : ([x].filter fun s => decide (s.lo ≤ n) && decide (n ≤ s.hi)) = [x] := by
      simp only [Bool.and_eq_true, decide_eq_true_eq] at h
      simp [h]
    rw [this]; rfl
  · rw [if_neg h]
    simp only [inB] at h
    have : ([x].filter fun s => decide (s.lo ≤ n) && decide (n ≤ s.hi)) = [] := by
      simp only [Bool.and_eq_true, decide_eq_true_eq] at h
      simp; omega
    rw [this]; rfl
def crowdT (ss : List Sp) (k : Nat) : Nat := (ss.take k).foldl (fun m s => max m (holds ss s.lo)) 0
theorem crowdT_snoc {ss : List Sp} {k : Nat} {x : Sp} (hx : ss[k]? = some x) : crowdT ss (k + 1) = max (crowdT ss k) (holds ss x.lo) := by
  unfold crowdT; rw [take_snoc hx, List.foldl_append]; rfl
theorem crowdT_all {ss : List Sp} {k : Nat} (h : ss.length ≤ k) : crowdT ss k = crowdS ss := by unfold crowdT crowdS; rw [List.take_of_length_le h]
theorem crowdT_le (ss : List Sp) (k : Nat) : crowdT ss k ≤ ss.length := foldl_max_le _ _ _ _ (by omega) fun x _ => holds_len ss x.lo
set_option maxHeartbeats 4000000 in
set_option maxRecDepth 100000 in
theorem crowd_any (A : Option Addr) (ss : List Sp) (n c : Nat) (w : World) (hn : n = ss.length) (hm : n ≤ 1000) (hx : Rd w w.heap.size Sp.cells A ss) :
    Calls Try.prog 78 #[.slice A n c] w fun e w' => e = .returned (.int .i64 (crowdS ss : Int)) ∧ Below w.heap.size w w' := by
  have Hn := hide hn; have Hx := hide hx
  clear hn hx
  go_enter Try.func78, Try.ntmps78
  go_wp2_with fail
  go_loopw [3, 11] (fun v i wr => ∃ k : Nat, k ≤ n ∧ v = .int .i64 (crowdT ss k : Int) ∧ i = .int .i64 k ∧ Below w.heap.size w wr) (fun _ i _ => n - (intOf i).toNat)
  case atStart => exact ⟨0, by omega, rfl, rfl, Below.refl _ _⟩
  case round =>
    obtain ⟨k, hk, rfl, rfl, hb⟩ := hrel
    by_cases hlt : k < n
    · obtain ⟨b, off, lo, hi, rfl, hB, hxk, c0, c1⟩ := (Hx.out.below hb).sp (i := k) (by have := Hn.out; omega)
      have Hxk := hide hxk; have Hb := hide hb
      have hc1 : crowdT ss k ≤ 1000 := by have := crowdT_le ss k; have := Hn.out; omega
      obtain ⟨b5, w5, e5, ew5, hx5, hb5, hz5⟩ := mk_bx wr #[.int .i64 lo, .int .i64 hi] 24
      have hB5 := hb.trans (hb5.mono hb.size)
      clear hxk hb hz5
      go_wp2_with fail
      rw [ew5.out, e5.out]
      obtain ⟨wo, rfl⟩ : ∃ wo, wo = wr := ⟨wr, rfl⟩
      go_loopw [6, 17] (fun v i wr => ∃ j : Nat, j ≤ n ∧ v = .int .i64 (holds (ss.take j) lo : Int) ∧ i = .int .i64 j ∧ Below w5.heap.size w5 wr) (fun _ i _ => n - (intOf i).toNat)
      case atStart => exact ⟨0, by omega, rfl, rfl, Below.refl _ _⟩
      case round =>
        obtain ⟨j, hj, rfl, rfl, hbq⟩ := hrel
        have hBq := hB5.trans (hbq.mono hB5.size)
        by_cases hlt2 : j < n
        · obtain ⟨b', off', lo2, hi2, e', hB2, hxj, d0, d1⟩ := (Hx.out.below hBq).sp (i := j) (by have := Hn.out; omega)
          injection e' with e'
          injection e' with e1 e2
          subst e1 e2
          obtain ⟨b8, w8, e8, ew8, hx8, hb8, hz8⟩ := mk_bx wr #[.int .i64 lo2, .int .i64 hi2] 24
          obtain ⟨p0, p1, _, _⟩ := ((hx5.bel hbq).bel hb8).w2
          rw [← ew8.out] at p0 p1
          have hh := holds_snoc hxj lo
          have hh1 : holds (ss.take j) lo ≤ 1000 := by have := holds_len (ss.take j) lo; rw [List.length_take] at this; have := Hn.out; omega
          have Hh := hide hh; have Hbq := hide hbq
          clear hxj hh hz8 hbq c0 c1
          go_wp2_with fail
          rw [ew8.out, e8.out]
          refine (from_any _ _ _ _).mono ?_
          rintro e w9 ⟨rfl, rfl⟩
          have hb9 := Hbq.out.trans (hb8.mono Hbq.out.size)
          cases hin : inB lo2 hi2 lo
          · rw [hin] at Hh
            have Hh2 := hide (Hh.out.trans (if_neg (by decide)))
            go_wp2_with fail
            exact ⟨⟨j + 1, by omega, by rw [Hh2.out], by go_num, hb9⟩, by simp [intOf]; omega⟩
          · rw [hin] at Hh
            have Hh2 := hide (Hh.out.trans (if_pos rfl))
            go_wp2_with fail
            exact ⟨⟨j + 1, by omega, by rw [Hh2.out]; go_num, by go_num, hb9⟩, by simp [intOf]; omega⟩
        · have eh : holds (ss.take j) lo = holds ss lo := by rw [List.take_of_length_le (by have := Hn.out; omega)]
          have hh1 : holds ss lo ≤ 1000 := by have := holds_len ss lo; have := Hn.out; omega
          have hs := crowdT_snoc Hxk.out
          simp only at hs
          rw [eh]
          have Hs := hide hs
          clear hs eh c0 c1
          go_wp2_with fail
          exact ⟨⟨k + 1, by omega, by rw [Hs.out]; congr 1; omega, by go_num, hBq⟩, by simp [intOf]; omega⟩
    · have e1 := crowdT_all (ss := ss) (k := k) (by have := Hn.out; omega)
      rw [e1]
      clear e1
      go_wp2_with fail
      go_ret
      exact ⟨rfl, hb⟩
theorem eql_rcs_some (g o l c : Nat) (w : World) : (binOp .eql 22 (.slice (some ⟨g, o, none⟩) l c) (.slice none 0 0)).run Try.prog w = .ok (.bool false) w := by kernel_rfl
section
attribute [local go_sem] eql_rcs_some
set_option maxHeartbeats 4000000 in
set_option maxRecDepth 100000 in
/-- A clone is a row of its own. -/
theorem clone_rc (A : Option Addr) (g : List Rc) (n c : Nat) (w : World) (hn : n = g.length) (h1 : 1 ≤ n) (h2 : n ≤ 1000) (hx : Rd w w.heap.size Rc.cells A g) :
    Calls Try.prog 107 #[.slice A n c] w fun e w' => ∃ u, e = .returned u ∧ Own w' w.heap.size 96 6 Rc.cells u g ∧ Below w.heap.size w w' := by
  obtain ⟨b, off, rfl, _, _⟩ := hx (by omega)
  obtain ⟨b5, w5, e5, ew5, ho5, hb5⟩ := mk_own (cells := Rc.cells) w #[] 96 6 [] Rc.len rfl (by simp) w.heap.size (Nat.le_refl _)
  have Hl : Hid (g.length = n) := hide hn.symm
  have Hx := hide (hx.bel hb5); have Ho := hide ho5
  have hs5 : w.heap.size ≤ w5.heap.size := hb5.size
  clear hx ho5 hn
  go_enter Try.func107, Try.ntmps107
  go_wp2_with (at_builtin; rw [ew5.out, e5.out]; refine wpList_app (v := .slice (some ⟨b5, 0, none⟩) 0 0) (xs := []) (ys := g) (n := n) el_rc rfl (.tmp 5) (.tmp 6) rfl rfl Ho.out Hl.out rfl Hx.out (by have := Hl.out; simp; omega) hs5 ?_; intro vv wv hown1 hg1 hat1; have Hown1 := hide hown1; have Hg1 := hide hg1; clear hown1 hg1 hat1)
  go_ret
  exact ⟨_, rfl, Hown1.out, own_grown Ho.out hb5 Hg1.out (Nat.le_refl _)⟩
end
end Go.Proofs.Ytkmocikcohhdoaa
