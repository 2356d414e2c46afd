/- A canal is parched, minute by minute of the uses' ends, just where the reference says that it is dry. -/
import Derived.Test.YthlnbgjlkliopaaDry2
set_option linter.unusedVariables false
set_option linter.unusedSimpArgs false
namespace Go.Proofs.Ythlnbgjlkliopaa
def endB (dry : Int) (a i : Nat) (ua u : Us) (e : Int) : Bool := decide (e ≤ ua.frm) && ((decide (i < a) || !decide (e = u.to)) && decide (ua.frm - e ≤ dry))
def wetB (cs : List Ca) (fs : List Int) (dry cyc : Int) (a i : Nat) (ua u : Us) (c : Int) : Bool := decide (c ∈ pathK cs fs u.field) && (endB dry a i ua u u.to || endB dry a i ua u (u.to - cyc))
def parTo (cs : List Ca) (fs : List Int) (dry cyc : Int) (us : List Us) (a : Nat) (ua : Us) (c : Int) (k : Nat) : Bool := (us.take k).zipIdx.all fun p => !wetB cs fs dry cyc a p.2 ua p.1 c
theorem parTo_zero (cs : List Ca) (fs : List Int) (dry cyc : Int) (us : List Us) (a : Nat) (ua : Us) (c : Int) : parTo cs fs dry cyc us a ua c 0 = true := by simp [parTo]
theorem parTo_snoc {cs : List Ca} {fs : List Int} {dry cyc : Int} {us : List Us} {a : Nat} {ua u : Us} {c : Int} {k : Nat} (hx : us[k]? = some u) : parTo cs fs dry cyc us a ua c (k + 1) = (parTo cs fs dry cyc us a ua c k && !wetB cs fs dry cyc a k ua u c) := by
  have hl : (us.take k).length = k := by have := (List.getElem?_eq_some_iff.1 hx).1; simp; omega
  unfold parTo
  rw [take_snoc hx, List.zipIdx_append, List.all_append, hl]
  simp
theorem parTo_hit {cs : List Ca} {fs : List Int} {dry cyc : Int} {us : List Us} {a : Nat} {ua u : Us} {c : Int} {k : Nat} (hx : us[k]? = some u) (hw : wetB cs fs dry cyc a k ua u c = true) : parTo cs fs dry cyc us a ua c us.length = false := by
  unfold parTo
  rw [List.all_eq_false]
  refine ⟨(u, k), ?_, by simp [hw]⟩
  rw [List.take_length]
  exact List.mem_zipIdx_iff_getElem?.2 (by simpa using hx)
theorem par_eq {cs : List Ca} {fs : List Int} {dry days nf : Int} {us : List Us} (huo : usesOk nf days us = true) {a : Nat} {ua : Us} (ha : us[a]? = some ua) (c : Int) : parTo cs fs dry (days * 1440) us a ua c us.length = dryB cs fs dry (days * 1440) us a c := by
  unfold dryB
  rw [ha]
  simp only [parTo, dryTo, List.take_length]
  rw [Bool.eq_iff_iff, List.all_eq_true, List.all_eq_true]
  have key : ∀ p ∈ us.zipIdx, (!wetB cs fs dry (days * 1440) a p.2 ua p.1 c) = oneB cs fs dry (days * 1440) a p.2 ua p.1 c := by
    rintro ⟨u, i⟩ hp
    have hi : us[i]? = some u := by simpa using List.mem_zipIdx_iff_getElem?.1 hp
    have m1 := usesOk_mem huo (List.mem_of_getElem? hi)
    have m2 := usesOk_mem huo (List.mem_of_getElem? ha)
    have hs : i < a → u.to ≤ ua.frm := fun h => by
      simp only [usesOk, Bool.and_eq_true] at huo
      exact usAll_sorted huo.1 i a u ua h hi ha
    have ht : a ≤ i → ua.to ≤ u.to := fun h => uses_sorted huo h ha hi
    simp only [wetB, oneB, gapR, endB]
    by_cases hc : c ∈ pathK cs fs u.field
    · by_cases hia : i < a
      · have h1 := hs hia
        have h2 : ¬ a ≤ i := by omega
        simp only [hc, hia, h2, decide_true, Bool.true_and, Bool.true_or, if_false, Bool.not_true, Bool.false_or]
        rw [Bool.eq_iff_iff]
        simp only [Bool.not_eq_true', Bool.or_eq_false_iff, Bool.and_eq_false_iff, decide_eq_false_iff_not, decide_eq_true_eq]
        omega
      · have h2 : a ≤ i := by omega
        have h3 := ht h2
        have hne : ¬ u.to - days * 1440 = u.to := by omega
        simp only [hc, hia, h2, decide_true, Bool.true_and, decide_false, Bool.false_or, if_true, Bool.not_true, hne, Bool.not_false, Bool.and_false, Bool.false_and]
        rw [Bool.eq_iff_iff]
        simp only [Bool.not_eq_true', Bool.or_eq_false_iff, Bool.and_eq_false_iff, decide_eq_false_iff_not, decide_eq_true_eq]
        omega
    · simp [hc]
  constructor
  · intro h p hp; rw [← key p hp]; exact h p hp
  · intro h p hp; rw [key p hp]; exact h p hp
theorem par_list {cs : List Ca} {fs : List Int} {dry days nf : Int} {us : List Us} (hok : netOk cs fs dry days = true) (huo : usesOk nf days us = true) {a : Nat} {ua : Us} (ha : us[a]? = some ua) : (pathK cs fs ua.field).filter (fun c => parTo cs fs dry (days * 1440) us a ua c us.length) = dryL cs fs dry (days * 1440) us a := by
  rw [dry_eq hok huo]
  unfold dryR
  rw [ha]
  exact List.filter_congr fun c _ => par_eq huo ha c
/-- With a cycle's minutes none is dry. -/
theorem dry_none {cs : List Ca} {fs : List Int} {days nf : Int} {us : List Us} (hok : netOk cs fs 23040 days = true) (huo : usesOk nf days us = true) (a : Nat) : dryL cs fs 23040 (days * 1440) us a = [] := by
  rw [dry_eq hok huo]
  unfold dryR
  split
  · rename_i u hu
    rw [List.filter_eq_nil_iff]
    intro c hc hd
    have hd2 := (netOk_parts hok).2.2.2.1
    have m1 := usesOk_mem huo (List.mem_of_getElem? hu)
    unfold dryB at hd
    rw [hu] at hd
    simp only [dryTo, List.take_length, List.all_eq_true] at hd
    have h := hd (u, a) (List.mem_zipIdx_iff_getElem?.2 (by simpa using hu))
    simp [oneB, gapR, hc] at h
    omega
  · rfl
end Go.Proofs.Ythlnbgjlkliopaa
