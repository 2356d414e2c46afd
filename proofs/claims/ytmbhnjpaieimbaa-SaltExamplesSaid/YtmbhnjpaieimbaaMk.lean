/- Rows of ints that are made. -/
import Derived.Test.YtmbhnjpaieimbaaCE
import Derived.Laws.MakeOwn
set_option linter.unusedVariables false
set_option linter.unusedSimpArgs false
namespace Go.Proofs.Ytmbhnjpaieimbaa
open Go.RowKit Go.Shelf
theorem made_ints (n : Nat) : (madeCells #[.int .i64 0] (n * 1)).toList = (List.replicate n (0 : Int)).flatMap icell := by
  apply List.ext_getElem?
  intro j
  by_cases hj : j < n
  · have hx : (List.replicate n (0 : Int))[j]? = some 0 := by rw [List.getElem?_replicate, if_pos hj]
    have h := flat_get icell_len hx (j := 0) (by omega)
    simp only [Nat.mul_one, Nat.add_zero] at h
    rw [h]
    simp [madeCells, hj, icell, Nat.mod_one]
  · rw [List.getElem?_eq_none (by simp [madeCells]; omega), List.getElem?_eq_none (by rw [flat_len icell_len]; simp; omega)]
theorem make_ints (n : Nat) (hn : n ≤ 1000) (w : World) : (Instr.makeSlice 41 (.int .i64 (n : Int)) (.int .i64 (n : Int))).run Try.prog w = .ok (.slice (some ⟨w.heap.size, 0, none⟩) n n) (w.alloc (.cells (madeCells #[.int .i64 0] (n * 1)) 3)) := by
  obtain ⟨i, hi, hz, hs, hbt⟩ : ∃ i, Try.prog.info? 3 = some i ∧ i.zero = some (.int .i64 0) ∧ i.size = 1 ∧ i.bytes = 8 := by
    have h : (Try.prog.info? 3).map (fun i => (i.zero, i.size, i.bytes)) = some (some (.int .i64 0), 1, 8) := by kernel_rfl
    obtain ⟨i, hi, hzz⟩ := Option.map_eq_some_iff.1 h
    simp only [Prod.mk.injEq] at hzz
    exact ⟨i, hi, hzz.1, hzz.2.1, hzz.2.2⟩
  have hrun := run_make (P := Try.prog) w 41 3 i (.int .i64 0) Try.underlying41 hi hz .i64 .i64 n n (by omega) (Int.le_refl _) (by rw [hbt]; omega) (by omega)
  simp only [Int.toNat_natCast, hs] at hrun
  exact hrun
theorem own_made (n : Nat) (hn : n ≤ 1000) (w : World) (base : Nat) (hb : base ≤ w.heap.size) : Own (w.alloc (.cells (madeCells #[.int .i64 0] (n * 1)) 3)) base 3 1 icell (.slice (some ⟨w.heap.size, 0, none⟩) n n) (List.replicate n 0) := by
  have h := Own.lit (cells := icell) w 3 1 (madeCells #[.int .i64 0] (n * 1)) (List.replicate n 0) icell_len (made_ints n) (by simp; omega) base hb
  rw [List.length_replicate] at h
  exact h
end Go.Proofs.Ytmbhnjpaieimbaa
