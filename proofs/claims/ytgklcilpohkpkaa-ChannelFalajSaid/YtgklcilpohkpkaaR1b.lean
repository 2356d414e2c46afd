/- The reference of channel: small functions, by contracts. -/
import Derived.Test.YtgklcilpohkpkaaR1
set_option linter.unusedVariables false
set_option linter.unusedSimpArgs false
namespace Go.Proofs.Ytgklcilpohkpkaa
open Go.RowKit Go.Shelf
set_option maxHeartbeats 4000000 in
set_option maxRecDepth 100000 in
theorem rHas_any (A : Option Addr) (xs : List Int) (n c : Nat) (x : Int) (w : World) (hx : Rd w w.heap.size icell A xs) (hn : n = xs.length) (hn2 : n ≤ 100000) :
    Calls Try.prog 81 #[.slice A n c, .int .i64 x] w fun e w' => e = .returned (.bool (decide (x ∈ xs))) ∧ w = w' := by
  have Hx := hide hx; have Hn := hide hn
  clear hx hn
  go_enter Try.func81, Try.ntmps81
  go_wp2_with fail
  go_loop [5] (fun i => ∃ k : Nat, k ≤ n ∧ i = .int .i64 k ∧ Hid (x ∉ xs.take k)) (fun i => n - (intOf i).toNat)
  case atStart => exact ⟨0, by omega, rfl, hide (by simp)⟩
  case round =>
    obtain ⟨k, hk, rfl, hpre⟩ := hrel
    by_cases hlt : k < n
    · obtain ⟨b, off, y, hA, hB, hxk, c0⟩ := Hx.out.int (i := k) (by have := Hn.out; omega)
      subst hA
      have Hxk := hide hxk; clear hxk
      by_cases he : y = x
      · subst he
        go_wp2
        go_ret
        exact ⟨ret_bool (by simp [List.mem_of_getElem? Hxk.out]), rfl⟩
      · have h1 : (y == x) = false := by simpa using he
        have He := hide he; clear he
        go_wp2
        refine ⟨⟨k + 1, by omega, by go_num, hide ?_⟩, by simp [intOf]; omega⟩
        rw [take_snoc Hxk.out]
        have := hpre.out
        have := He.out
        simp_all
        omega
    · go_wp2
      go_ret
      refine ⟨ret_bool ?_, rfl⟩
      have := hpre.out
      rw [List.take_of_length_le (by have := Hn.out; omega)] at this
      simp [this]
/-- The numbers of a list that another one has not. -/
def withoutL (l m : List Int) : List Int := l.filter fun x => !decide (x ∈ m)
theorem withoutL_snoc (l m : List Int) (x : Int) : withoutL (l ++ [x]) m = withoutL l m ++ (if x ∈ m then [] else [x]) := by
  unfold withoutL
  rw [List.filter_append]
  congr 1
  by_cases h : x ∈ m <;> simp [h]
set_option maxHeartbeats 4000000 in
set_option maxRecDepth 100000 in
theorem rWithout_any (A B : Option Addr) (l m : List Int) (n c p d : Nat) (w : World) (hl : Rd w w.heap.size icell A l) (hm : Rd w w.heap.size icell B m) (hn : n = l.length) (hn2 : n ≤ 1000) (hp : p = m.length) (hp2 : p ≤ 1000) :
    Calls Try.prog 59 #[.slice A n c, .slice B p d] w fun e w' => ∃ v, e = .returned v ∧ Own w' w.heap.size 3 1 icell v (withoutL l m) ∧ Below w.heap.size w w' := by
  have Hl := hide hl; have Hm := hide hm; have Hn := hide hn; have Hp := hide hp
  clear hl hm hn hp
  go_enter Try.func59, Try.ntmps59
  go_wp2_with fail
  go_loopw [5, 6] (fun v i wr => ∃ k : Nat, k ≤ n ∧ i = .int .i64 k ∧ Own wr w.heap.size 3 1 icell v (withoutL (l.take k) m) ∧ Below w.heap.size w wr) (fun _ i _ => n - (intOf i).toNat)
  case atStart => exact ⟨0, by omega, rfl, Own.nil _ _ _ _ _, Below.refl _ _⟩
  case round =>
    obtain ⟨k, hk, rfl, hown, hb⟩ := hrel
    have Hown := hide hown; clear hown
    have hsz := hb.size
    by_cases hlt : k < n
    · obtain ⟨b, off, x, hA, hB, hxk, c0⟩ := (Hl.out.below hb).int (i := k) (by have := Hn.out; omega)
      subst hA
      have Hxk := hide hxk; clear hxk
      have hll : (withoutL (l.take k) m).length ≤ k := by
        unfold withoutL
        have := List.length_filter_le (fun x => !decide (x ∈ m)) (l.take k)
        have := List.length_take_le k l
        omega
      by_cases he : x ∈ m
      · have He := hide he; clear he
        go_wp2_with (go_at_call 81; refine (rHas_any B m p d x _ ((Hm.out.below hb).more hb.size) Hp.out (by omega)).mono ?_; rintro e w' ⟨rfl, rfl⟩; rw [decide_eq_true He.out])
        refine ⟨⟨k + 1, by omega, by go_num, ?_, hb⟩, by simp [intOf]; omega⟩
        rw [take_snoc Hxk.out, withoutL_snoc, if_pos He.out, List.append_nil]
        exact Hown.out
      · have He := hide he; clear he
        have hr := hide (Rd.new (cells := icell) wr #[.int .i64 x] 3 [x] rfl)
        have c0' : (wr.alloc (.cells #[.int .i64 x] 3)).cell? ⟨b, off + k, none⟩ = some (.int .i64 x) := ((below_new wr _).cell (p := ⟨b, off + k, none⟩) (by show b < _; omega)).trans c0
        go_wp2_with (first | (go_at_call 81; refine (rHas_any B m p d x _ ((Hm.out.below hb).more hb.size) Hp.out (by omega)).mono ?_; rintro e w' ⟨rfl, rfl⟩; rw [decide_eq_false He.out]) | (at_builtin; refine wpList_app (v := u5) (xs := withoutL (l.take k) m) (ys := [x]) (n := 1) el_int rfl (.tmp 20) (.tmp 25) rfl rfl (Hown.out.alloc _) rfl rfl hr.out (by omega) (by simp; omega) ?_; intro vv wv hown1 hg1 hat1; have Hw := hide (below_own (Hown.out.alloc _) (hb.alloc hb.size _) hg1 (by simp; omega)); have Hown1 := hide hown1; clear hown1 hg1 hat1))
        refine ⟨⟨k + 1, by omega, by go_num, ?_, Hw.out⟩, by simp [intOf]; omega⟩
        rw [take_snoc Hxk.out, withoutL_snoc, if_neg He.out]
        exact Hown1.out
    · go_wp2
      go_ret
      refine ⟨_, rfl, ?_, hb⟩
      have := Hown.out
      rw [List.take_of_length_le (by have := Hn.out; omega)] at this
      exact this
end Go.Proofs.Ytgklcilpohkpkaa
