/- GalleryCleaned, plain: what is cleaned is enough, the fewest, and the first of those; with nothing cleaned so much flows anyway. No program is named here. -/
import Derived.Test.YtkmocikcohhdoaaGC
import Derived.Test.YtkmocikcohhdoaaFP
import Derived.Test.YtkmocikcohhdoaaF17
set_option linter.unusedVariables false
set_option linter.unusedSimpArgs false
namespace Go.Proofs.Ytkmocikcohhdoaa
open Go.RowKit Go.Shelf

theorem earl_irr : ∀ a : List Int, earl a a = false
  | [] => rfl
  | x :: a => by rw [earl, if_pos rfl]; exact earl_irr a
theorem earl_trans : ∀ a b c : List Int, a.length = b.length → b.length = c.length → earl a b = true → earl b c = true → earl a c = true
  | [], [], _, _, _, h, _ => by cases h
  | x :: a, y :: b, [], _, h, _, _ => by simp at h
  | x :: a, y :: b, z :: c, h1, h2, h3, h4 => by
    unfold earl at h3 h4 ⊢
    have h1' : a.length = b.length := by simpa using h1
    have h2' : b.length = c.length := by simpa using h2
    by_cases hxy : x = y
    · rw [if_pos hxy] at h3
      by_cases hyz : y = z
      · rw [if_pos hyz] at h4
        rw [if_pos (by omega)]
        exact earl_trans a b c h1' h2' h3 h4
      · rw [if_neg hyz] at h4
        rw [if_neg (by omega)]
        simp only [decide_eq_true_eq] at h4 ⊢
        omega
    · rw [if_neg hxy] at h3
      simp only [decide_eq_true_eq] at h3
      by_cases hyz : y = z
      · rw [if_neg (by omega)]
        simp only [decide_eq_true_eq]
        omega
      · rw [if_neg hyz] at h4
        simp only [decide_eq_true_eq] at h4
        rw [if_neg (by omega)]
        simp only [decide_eq_true_eq]
        omega
/-- A list that is to be taken rather than another one. -/
def lessL (a b : List Int) : Prop := a.length < b.length ∨ (a.length = b.length ∧ earl a b = true)
theorem better_iff (a b : List Int) : better a (some b) = true ↔ lessL a b := by simp [better, lessL]
theorem lessL_irr (a : List Int) : ¬ lessL a a := by
  rintro (h | ⟨_, h⟩)
  · omega
  · rw [earl_irr] at h; cases h
theorem lessL_trans {a b c : List Int} (h1 : lessL a b) (h2 : lessL b c) : lessL a c := by
  rcases h1 with h1 | ⟨h1, h3⟩ <;> rcases h2 with h2 | ⟨h2, h4⟩
  · exact .inl (by omega)
  · exact .inl (by omega)
  · exact .inl (by omega)
  · exact .inr ⟨by omega, earl_trans a b c h1 h2 h3 h4⟩
theorem fold_none {g : List Rc} {lo want : Int} : ∀ k, cleanFold g lo want k = none → ∀ s, s < k → endF (cleanTo g s g.length) lo < want
  | 0, _, s, hs => by omega
  | k + 1, h, s, hs => by
    rw [cleanFold_succ] at h
    unfold cleanStep at h
    split at h
    · cases h
    · rename_i hc
      rw [h] at hc
      simp [better] at hc
      by_cases e : s = k
      · rw [e]; omega
      · exact fold_none k h s (by omega)
theorem fold_some {g : List Rc} {lo want : Int} : ∀ k l, cleanFold g lo want k = some l → (∃ s, s < k ∧ l = mem s 12 ∧ want ≤ endF (cleanTo g s g.length) lo) ∧ ∀ s, s < k → want ≤ endF (cleanTo g s g.length) lo → ¬ lessL (mem s 12) l
  | 0, l, h => by cases h
  | k + 1, l, h => by
    rw [cleanFold_succ] at h
    unfold cleanStep at h
    split at h
    · rename_i hc
      simp only [Bool.and_eq_true, decide_eq_true_eq] at hc
      injection h with h
      subst h
      refine ⟨⟨k, by omega, rfl, hc.1⟩, fun s hs hw hl => ?_⟩
      by_cases e : s = k
      · subst e; exact lessL_irr _ hl
      · cases ho : cleanFold g lo want k with
        | none => have := fold_none k ho s (by omega); omega
        | some o =>
          rw [ho] at hc
          exact (fold_some k o ho).2 s (by omega) hw (lessL_trans hl ((better_iff _ _).1 hc.2))
    · rename_i hc
      obtain ⟨⟨s, hs, e, hw⟩, hm⟩ := fold_some k l h
      refine ⟨⟨s, by omega, e, hw⟩, fun s' hs' hw' hl => ?_⟩
      by_cases e' : s' = k
      · subst e'
        rw [h] at hc
        apply hc
        simp only [Bool.and_eq_true, decide_eq_true_eq]
        exact ⟨hw', (better_iff _ _).2 hl⟩
      · exact hm s' (by omega) hw' hl
/-- The set of a list. -/
def ownTo (l : List Int) (k : Nat) : Nat := (l.take k).foldl (fun o x => o ||| 2 ^ x.toNat) 0
theorem ownTo_succ {l : List Int} {k : Nat} {x : Int} (h : l[k]? = some x) : ownTo l (k + 1) = ownTo l k ||| 2 ^ x.toNat := by
  obtain ⟨hk, rfl⟩ := List.getElem?_eq_some_iff.1 h
  unfold ownTo
  rw [List.take_succ_eq_append_getElem hk, List.foldl_append]
  rfl
theorem or_bit (j : Nat) : ∀ (l : List Int) (o : Nat), (l.foldl (fun o x => o ||| 2 ^ x.toNat) o).testBit j = (o.testBit j || l.any fun x => decide (x.toNat = j))
  | [], o => by simp
  | x :: l, o => by
    rw [List.foldl_cons, or_bit j l, Nat.testBit_or, Nat.testBit_two_pow, List.any_cons, Bool.or_assoc]
theorem mem_get {s n k : Nat} {x : Int} (h : (mem s n)[k]? = some x) : ∃ i : Nat, i < n ∧ s.testBit i = true ∧ x = (i : Int) := by
  have := List.mem_of_getElem? h
  unfold mem at this
  obtain ⟨i, hi, rfl⟩ := List.mem_map.1 this
  obtain ⟨h1, h2⟩ := List.mem_filter.1 hi
  exact ⟨i, List.mem_range.1 h1, h2, rfl⟩
theorem mem_lt {s n m k : Nat} {x : Int} (hs : s < 2 ^ n) (hm : n ≤ m) (h : (mem s m)[k]? = some x) : 0 ≤ x ∧ x < n := by
  rw [mem_all s n hs m hm] at h
  obtain ⟨i, h1, _, rfl⟩ := mem_get h
  omega
theorem mem_up {s n k : Nat} {x y : Int} (h1 : (mem s n)[k]? = some x) (h2 : (mem s n)[k + 1]? = some y) : x < y := by
  have hp : (mem s n).Pairwise (· < ·) := by
    unfold mem
    rw [List.pairwise_map]
    refine List.Pairwise.imp ?_ (List.Pairwise.filter _ List.pairwise_lt_range)
    intro a b hab; omega
  obtain ⟨ha, rfl⟩ := List.getElem?_eq_some_iff.1 h1
  obtain ⟨hb, rfl⟩ := List.getElem?_eq_some_iff.1 h2
  exact List.pairwise_iff_getElem.1 hp k (k + 1) ha hb (by omega)
theorem ownTo_all {s n : Nat} (hn : n ≤ 12) (hs : s < 2 ^ n) : ownTo (mem s 12) (mem s 12).length = s := by
  apply Nat.eq_of_testBit_eq
  intro j
  unfold ownTo
  rw [List.take_length, or_bit, Nat.zero_testBit, Bool.false_or, mem_all s n hs 12 hn]
  by_cases hj : j < n
  · cases hb : s.testBit j
    · rw [List.any_eq_false]
      intro x hx
      obtain ⟨k, hk⟩ := List.getElem?_of_mem hx
      obtain ⟨i, _, h3, rfl⟩ := mem_get hk
      simp only [Int.toNat_natCast, decide_eq_true_eq]
      intro e
      rw [e, hb] at h3; cases h3
    · rw [List.any_eq_true]
      refine ⟨(j : Int), ?_, by simp⟩
      unfold mem
      exact List.mem_map.2 ⟨j, List.mem_filter.2 ⟨List.mem_range.2 hj, hb⟩, rfl⟩
  · rw [Nat.testBit_lt_two_pow (Nat.lt_of_lt_of_le hs (Nat.pow_le_pow_right (by omega) (by omega)))]
    rw [List.any_eq_false]
    intro x hx
    obtain ⟨k, hk⟩ := List.getElem?_of_mem hx
    obtain ⟨i, h2, _, rfl⟩ := mem_get hk
    simp only [Int.toNat_natCast, decide_eq_true_eq]
    omega
theorem ownTo_lt {s n : Nat} (hn : n ≤ 12) (hs : s < 2 ^ n) (k : Nat) : ownTo (mem s 12) k < 65536 := by
  refine Nat.lt_pow_two_of_testBit (n := 16) _ fun j hj => ?_
  unfold ownTo
  rw [or_bit, Nat.zero_testBit, Bool.false_or, List.any_eq_false]
  intro x hx
  obtain ⟨i, hi⟩ := List.getElem?_of_mem (List.mem_of_mem_take hx)
  have := mem_lt hs hn hi
  simp only [decide_eq_true_eq]
  omega
/-- Without gauges: at the end there flows at least as much as comes through. -/
theorem flows_free : ∀ (g : List Rc) (rd : List Sp) (s : Sp), (∀ r ∈ g, r.fine) → s.fine 2000000 → (∀ x ∈ rd, x = allS) → ∃ F, flowsF g rd s = some F ∧ (F.getD g.length allS).lo = endF g s.lo
  | [], rd, s, _, hs, hr => by
    have e : rd.headD allS = allS := by
      cases rd with
      | nil => rfl
      | cons x rd => exact hr x (by simp)
    obtain ⟨h1, h2, h3⟩ := hs
    unfold flowsF
    rw [e, if_pos (by simp only [cutS, allS]; omega)]
    refine ⟨_, rfl, ?_⟩
    show max s.lo 0 = s.lo
    omega
  | r :: g, rd, s, hg, hs, hr => by
    have e : rd.headD allS = allS := by
      cases rd with
      | nil => rfl
      | cons x rd => exact hr x (by simp)
    obtain ⟨h1, h2, h3⟩ := hs
    have ec : cutS s allS = s := by
      obtain ⟨lo, hi⟩ := s
      simp only [cutS, allS] at *
      rw [show max lo 0 = lo by omega, show min hi 13000000 = hi by omega]
    obtain ⟨F, hF, hl⟩ := flows_free g rd.tail (outS r s) (fun r hr => hg r (by simp [hr])) (outS_fine (hg r (by simp)) ⟨h1, h2, by omega⟩) (fun x hx => hr x (List.mem_of_mem_tail hx))
    unfold flowsF
    rw [e, ec, if_pos h2, hF]
    exact ⟨_, rfl, by simpa [endF, outS, List.getD] using hl⟩
theorem flows_free_err {g : List Rc} {s : Sp} (hg : gOk g = true) (hs : Sp.ok 0 1000000 s = true) : ∃ F, fitS g [] s = some F ∧ (F.getD g.length allS).lo = endF g s.lo ∧ flErr g s [] = 0 := by
  have hE : gEnter g s [] = 0 := by
    have hb : anyBad 1000000 [s] = false := by
      have : (!(anyBad 1000000 [s])) = Sp.ok 0 1000000 s := by simp [anyBad, spOk_bad]
      rw [hs] at this
      simpa using this
    have hgb : gasBad g [] = false := by simp [gasBad]
    simp [gEnter, hg, hb, hgb]
  obtain ⟨_, _, _, hf, hsf, _, _⟩ := enter_parts hE
  obtain ⟨F, hF, hl⟩ := flows_free g (rdS g.length []) s hf ⟨hsf.1, hsf.2.1, by have := hsf.2.2; omega⟩ (fun x hx => List.eq_of_mem_replicate hx)
  exact ⟨F, hF, hl, by simp [flErr, hE, fitS, hF]⟩
end Go.Proofs.Ytkmocikcohhdoaa
