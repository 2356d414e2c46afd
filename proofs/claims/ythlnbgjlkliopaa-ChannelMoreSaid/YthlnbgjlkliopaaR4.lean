/- The reference of channel: paths and moves, by contracts. -/
import Derived.Test.YthlnbgjlkliopaaR2
import Derived.Test.YthlnbgjlkliopaaR1b
import Derived.Test.YthlnbgjlkliopaaC10
set_option linter.unusedVariables false
set_option linter.unusedSimpArgs false
namespace Go.Proofs.Ythlnbgjlkliopaa
open Go.RowKit Go.Shelf
attribute [local go_sem ↓] Go.wp_at_zero Go.wp_at_succ
theorem sorted_ext : ∀ (l m : List Int), l.Pairwise (· < ·) → m.Pairwise (· < ·) → (∀ x, x ∈ l ↔ x ∈ m) → l = m
  | [], [], _, _, _ => rfl
  | [], y :: m, _, _, h => by have := (h y).2 (by simp); simp at this
  | x :: l, [], _, _, h => by have := (h x).1 (by simp); simp at this
  | x :: l, y :: m, hl, hm, h => by
    rw [List.pairwise_cons] at hl hm
    have e : x = y := by
      rcases List.mem_cons.1 ((h x).1 (by simp)) with e | hx
      · exact e
      · rcases List.mem_cons.1 ((h y).2 (by simp)) with e | hy
        · exact e.symm
        · have h1 := hm.1 x hx
          have h2 := hl.1 y hy
          omega
    subst e
    congr 1
    refine sorted_ext l m hl.2 hm.2 fun z => ⟨fun hz => ?_, fun hz => ?_⟩
    · rcases List.mem_cons.1 ((h z).1 (by simp [hz])) with e | h'
      · have := hl.1 z hz; omega
      · exact h'
    · rcases List.mem_cons.1 ((h z).2 (by simp [hz])) with e | h'
      · have := hm.1 z hz; omega
      · exact h'
theorem upF_sorted {cs : List Ca} (h : caFrm cs) : ∀ (f node : Nat), node ≤ f → (upF cs f node).Pairwise (· > ·)
  | 0, node, _ => by simp [upF]
  | f + 1, node, hn => by
    unfold upF
    split
    · simp
    · have h1 := frmN_le h (node - 1)
      rw [List.pairwise_cons]
      refine ⟨fun x hx => ?_, upF_sorted h f (frmN cs (node - 1)) (by omega)⟩
      have := upF_range h f (frmN cs (node - 1)) (by omega) x hx
      omega
theorem pathK_sorted {cs : List Ca} {fs : List Int} (h : caFrm cs) (k : Int) : (pathK cs fs k).Pairwise (· < ·) := by
  unfold pathK pathF
  rw [List.pairwise_reverse]
  exact upF_sorted h _ _ (Nat.le_refl _)
theorem mem_pathK {cs : List Ca} {fs : List Int} {k x : Int} : x ∈ pathK cs fs k ↔ x ∈ upK cs fs k := by simp [pathK, pathF, upK]
theorem range_sorted : ∀ n, ((List.range n).map Int.ofNat).Pairwise (· < ·)
  | 0 => by simp
  | n + 1 => by
    rw [List.range_succ, List.map_append, List.pairwise_append]
    refine ⟨range_sorted n, by simp, fun a ha b hb => ?_⟩
    simp at ha hb
    obtain ⟨i, hi, rfl⟩ := ha
    omega
/-- The stones of the one and of the other. -/
theorem without_only {cs : List Ca} {fs : List Int} {dry days : Int} (hok : netOk cs fs dry days = true) {a b : Int} (a0 : 0 ≤ a) (a1 : a < fs.length) : withoutL (pathK cs fs a) (pathK cs fs b) = onlyK cs fs a b cs.length := by
  refine sorted_ext _ _ ((pathK_sorted (netOk_frm hok) a).sublist List.filter_sublist) ((range_sorted _).sublist List.filter_sublist) fun x => ?_
  unfold withoutL onlyK
  simp only [List.mem_filter, Bool.not_eq_true', decide_eq_false_iff_not, Bool.and_eq_true, decide_eq_true_eq, mem_pathK]
  constructor
  · rintro ⟨h1, h2⟩
    have := upK_okI hok a0 a1 h1
    refine ⟨List.mem_map.2 ⟨x.toNat, by simp; omega, ?_⟩, h1, h2⟩
    show ((x.toNat : Nat) : Int) = x
    omega
  · rintro ⟨_, h1, h2⟩
    exact ⟨h1, h2⟩

end Go.Proofs.Ythlnbgjlkliopaa
