/- Channel: what Minutes answers is one number. -/
import Derived.Test.YtgklcilpohkpkaaW9
set_option linter.unusedVariables false
set_option linter.unusedSimpArgs false
namespace Go.Proofs.Ytgklcilpohkpkaa
open Go.RowKit Go.Shelf
theorem downF_mono {v v' fill thr : Int} (h : v ≤ v') (t0 : 0 ≤ thr) : downF v fill thr ≤ downF v' fill thr := by
  unfold downF
  exact Int.ediv_le_ediv (by omega) (Int.mul_le_mul_of_nonneg_right (by omega) t0)
theorem getK_mono {cs : List Ca} {fs : List Int} {dry days : Int} (hok : netOk cs fs dry days = true) : ∀ (p : List Int) {v v' : Int}, v ≤ v' → getK cs p v ≤ getK cs p v'
  | [], _, _, h => h
  | c :: p, v, v', h => getK_mono hok p (downF_mono h (wkT_wf hok c).2.2.1.1)
theorem leastB_one {p : Int → Bool} {cyc r e r' e' : Int} (hm : ∀ x y, 0 ≤ x → x ≤ y → p x = true → p y = true) (h : leastB p cyc r e) (h' : leastB p cyc r' e') : r = r' ∧ e = e' := by
  rcases h with ⟨he, hr, hp⟩ | ⟨he, h0, h1, hp, hl⟩ <;> rcases h' with ⟨he', hr', hp'⟩ | ⟨he', h0', h1', hp', hl'⟩
  · omega
  · have := hm r' cyc h0' h1' hp'; rw [hp] at this; cases this
  · have := hm r cyc h0 h1 hp; rw [hp'] at this; cases this
  · refine ⟨?_, by omega⟩
    by_cases hlt : r < r'
    · rcases hl' with h2 | h2
      · omega
      · have := hm r (r' - 1) h0 (by omega) hp; rw [h2] at this; cases this
    · by_cases hgt : r' < r
      · rcases hl with h2 | h2
        · omega
        · have := hm r' (r - 1) h0' (by omega) hp'; rw [h2] at this; cases this
      · omega
theorem minutesP_one {cs : List Ca} {fs : List Int} {dry days a b k want r e r' e' : Int} (h : minutesP cs fs dry days a b k want r e) (h' : minutesP cs fs dry days a b k want r' e') : r = r' ∧ e = e' := by
  unfold minutesP at h h'
  split at h
  · rename_i hok
    rw [if_pos hok] at h'
    split at h
    · rename_i hsp
      rw [if_pos hsp] at h'
      split at h
      · rename_i hin
        rw [if_pos hin] at h'
        have ha : 0 ≤ a := by simp only [Sp.ok, Bool.and_eq_true, decide_eq_true_eq] at hsp; omega
        refine leastB_one (fun x y hx hxy hp => ?_) h h'
        have hp2 : want ≤ getK cs (pathK cs fs k) (a * x) := by simpa [enoughB] using hp
        have := getK_mono hok (pathK cs fs k) (Int.mul_le_mul_of_nonneg_left hxy ha)
        simp [enoughB]
        omega
      · rename_i hin
        rw [if_neg hin] at h'
        omega
    · rename_i hsp
      rw [if_neg hsp] at h'
      omega
  · rename_i hok
    rw [if_neg hok] at h'
    omega
end Go.Proofs.Ytgklcilpohkpkaa
