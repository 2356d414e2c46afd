/- The plan is a plan: what is planned gives each field its need, and costs what it says (plain). -/
import Derived.Test.YtmbhnjpaieimbaaPBD
set_option linter.unusedVariables false
set_option linter.unusedSimpArgs false
namespace Go.Proofs.Ytmbhnjpaieimbaa
open Bo
/-- A set without one bit. -/
theorem bit_clear (s k j : Nat) (hs : s.testBit k = true) : (s ^^^ 2 ^ k).testBit j = (s.testBit j && decide (j ≠ k)) := by
  rw [Nat.testBit_xor, Nat.testBit_two_pow]
  by_cases hj : k = j
  · subst hj; simp [hs]
  · have hj' : ¬ j = k := fun e => hj e.symm
    simp [hj, hj']
theorem getD_setN {xs : List Nat} {i j : Nat} {v : Nat} (hi : i < xs.length) : (xs.set i v).getD j 0 = if j = i then v else xs.getD j 0 := by
  rw [List.getD_eq_getElem?_getD]
  by_cases h : j = i
  · rw [if_pos h, h, List.getElem?_set_self hi]; rfl
  · rw [if_neg h, List.getElem?_set_ne (fun e => h e.symm), List.getD_eq_getElem?_getD]
section
variable {ns hs : List Int} {ss : List Nat} {pr : List Int}
/-- What rents have for a set where a rent is struck for a field. -/
theorem strike_on {i k : Nat} (his : i < ss.length) (hb : (ss.getD i 0).testBit k = true) (S j : Nat) :
    (boOf ns (ss.set i (ss.getD i 0 ^^^ 2 ^ k)) pr).on S j = if j = i then (boOf ns ss pr).on (S &&& (S ^^^ 2 ^ k)) j || (! S.testBit k && (boOf ns ss pr).on S j) else (boOf ns ss pr).on S j := by
  have e : ∀ j : Nat, (boOf ns (ss.set i (ss.getD i 0 ^^^ 2 ^ k)) pr).st j = if j = i then ss.getD i 0 ^^^ 2 ^ k else ss.getD j 0 := fun j => getD_setN his
  by_cases hj : j = i
  · subst hj
    rw [if_pos rfl, Bool.eq_iff_iff, Bool.or_eq_true, Bool.and_eq_true, Bo.on_iff, Bo.on_iff, Bo.on_iff]
    constructor
    · rintro ⟨b, h1, h2⟩
      rw [e j, if_pos rfl, bit_clear _ _ _ hb, Bool.and_eq_true, decide_eq_true_eq] at h1
      by_cases hk : S.testBit k = true
      · refine .inl ⟨b, h1.1, ?_⟩
        rw [Nat.testBit_and, bit_clear _ _ _ hk, h2, decide_eq_true h1.2]; rfl
      · exact .inr ⟨by simpa using hk, b, h1.1, h2⟩
    · rintro (⟨b, h1, h2⟩ | ⟨hk, b, h1, h2⟩)
      · rw [Nat.testBit_and, Bool.and_eq_true] at h2
        have hne : b ≠ k := by
          rintro rfl
          have := h2.2
          rw [Nat.testBit_xor, Nat.testBit_two_pow, h2.1] at this
          simp at this
        exact ⟨b, by rw [e j, if_pos rfl, bit_clear _ _ _ hb, show (ss.getD j 0).testBit b = true from h1, decide_eq_true hne]; rfl, h2.1⟩
      · have hne : b ≠ k := by
          rintro rfl
          rw [h2] at hk; simp at hk
        exact ⟨b, by rw [e j, if_pos rfl, bit_clear _ _ _ hb, show (ss.getD j 0).testBit b = true from h1, decide_eq_true hne]; rfl, h2⟩
  · rw [if_neg hj, Bool.eq_iff_iff, Bo.on_iff, Bo.on_iff]
    constructor
    · rintro ⟨b, h1, h2⟩
      rw [e j, if_neg hj] at h1
      exact ⟨b, h1, h2⟩
    · rintro ⟨b, h1, h2⟩
      exact ⟨b, by rw [e j, if_neg hj]; exact h1, h2⟩
theorem there_strike {i k : Nat} (hi : i < pr.length) (his : i < ss.length) (hb : (ss.getD i 0).testBit k = true) (x : Nat → Int) (S : Nat) :
    (boOf ns (ss.set i (ss.getD i 0 ^^^ 2 ^ k)) pr).there x S = (boOf ns ss pr).there x S - (if S.testBit k = true ∧ (boOf ns ss pr).on (S &&& (S ^^^ 2 ^ k)) i = false then x i else 0) := by
  unfold Bo.there
  have hr : i < (boOf ns ss pr).r := hi
  have e0 : (boOf ns (ss.set i (ss.getD i 0 ^^^ 2 ^ k)) pr).r = (boOf ns ss pr).r := rfl
  rw [e0, sumTo_one _ i hr, sumTo_one (fun j => if (boOf ns ss pr).on S j = true then x j else 0) i hr]
  have e : sumTo (fun j => if j = i then 0 else if (boOf ns (ss.set i (ss.getD i 0 ^^^ 2 ^ k)) pr).on S j = true then x j else 0) (boOf ns ss pr).r = sumTo (fun j => if j = i then 0 else if (boOf ns ss pr).on S j = true then x j else 0) (boOf ns ss pr).r := sumTo_congr fun j _ => by
    by_cases h : j = i
    · rw [if_pos h, if_pos h]
    · rw [if_neg h, if_neg h, strike_on his hb, if_neg h]
  rw [e, strike_on his hb, if_pos rfl]
  cases hk : S.testBit k
  · simp
    cases ho : (boOf ns ss pr).on (S &&& (S ^^^ 2 ^ k)) i
    · simp
    · rw [((boOf ns ss pr).on_and ho).1]; simp
  · have ho : (boOf ns ss pr).on S i = true := (Bo.on_iff _).2 ⟨k, hb, hk⟩
    rw [ho]
    cases ho2 : (boOf ns ss pr).on (S &&& (S ^^^ 2 ^ k)) i <;> simp
/-- What rents have is submodular, and by more where a rent is only for one of two sets alone. -/
theorem there_gain (B : Bo) {x : Nat → Int} (h0 : ∀ i, i < B.r → 0 ≤ x i) {S T i : Nat} (hi : i < B.r) (hS : B.on S i = true) (hT : B.on T i = true) (hn : B.on (S &&& T) i = false) : B.there x (S ||| T) + B.there x (S &&& T) ≤ B.there x S + B.there x T - x i := by
  unfold Bo.there
  rw [sumTo_one (fun j => if B.on (S ||| T) j = true then x j else 0) i hi, sumTo_one (fun j => if B.on (S &&& T) j = true then x j else 0) i hi, sumTo_one (fun j => if B.on S j = true then x j else 0) i hi, sumTo_one (fun j => if B.on T j = true then x j else 0) i hi]
  have key : sumTo (fun k => if k = i then 0 else if B.on (S ||| T) k = true then x k else 0) B.r + sumTo (fun k => if k = i then 0 else if B.on (S &&& T) k = true then x k else 0) B.r ≤ sumTo (fun k => if k = i then 0 else if B.on S k = true then x k else 0) B.r + sumTo (fun k => if k = i then 0 else if B.on T k = true then x k else 0) B.r := by
    rw [← sumTo_add, ← sumTo_add]
    refine sumTo_le fun j hj => ?_
    by_cases hji : j = i
    · simp [hji]
    · simp only [if_neg hji]
      have hx := h0 j hj
      have h1 := B.on_or (S := S) (T := T) (i := j)
      have h2 := B.on_and (S := S) (T := T) (i := j)
      cases ha : B.on (S &&& T) j
      · rw [h1]
        cases B.on S j <;> cases B.on T j <;> simp <;> omega
      · obtain ⟨h3, h4⟩ := h2 ha
        rw [h1, h3, h4]; simp
  rw [hn, hS, hT, B.on_or, hS]
  simp
  omega
theorem sub_clear {S k : Nat} (hk : S.testBit k = true) : S &&& (S ^^^ 2 ^ k) = S ^^^ 2 ^ k := by
  refine Nat.eq_of_testBit_eq fun j => ?_
  rw [Nat.testBit_and, bit_clear _ _ _ hk]
  cases S.testBit j <;> simp
theorem need_clear {S k : Nat} (hk : S.testBit k = true) (hkm : k < ns.length) : needS ns S = needS ns (S ^^^ 2 ^ k) + ns.getD k 0 := by
  unfold needS
  rw [sumTo_one (needF1 ns S) k hkm, sumTo_one (needF1 ns (S ^^^ 2 ^ k)) k hkm]
  have e : sumTo (fun j => if j = k then 0 else needF1 ns S j) ns.length = sumTo (fun j => if j = k then 0 else needF1 ns (S ^^^ 2 ^ k) j) ns.length := sumTo_congr fun j _ => by
    by_cases h : j = k
    · rw [if_pos h, if_pos h]
    · rw [if_neg h, if_neg h]; unfold needF1; rw [bit_clear _ _ _ hk, decide_eq_true h, Bool.and_true]
  have e1 : needF1 ns S k = ns.getD k 0 := by unfold needF1; rw [if_pos hk]
  have e2 : needF1 ns (S ^^^ 2 ^ k) k = 0 := by unfold needF1; rw [bit_clear _ _ _ hk]; simp
  rw [e, e1, e2]; omega
/-- With the most minutes that leave the cost, the rent is not needed for the field any more. -/
theorem strike_feas {i k : Nat} {y : Nat → Int} (hi : i < pr.length) (his : i < ss.length) (hk : k < ns.length) (hb : (ss.getD i 0).testBit k = true) (y0 : ∀ j, j < pr.length → 0 ≤ y j) (hf : (boOf ns ss pr).Feas y)
    (hmax : y i = 0 ∨ ns.getD k 0 = 0 ∨ ¬ (boOf (ns.set k (ns.getD k 0 - 1)) ss pr).Feas (Bo.upd y i (y i - 1))) : (boOf ns (ss.set i (ss.getD i 0 ^^^ 2 ^ k)) pr).Feas y := by
  intro S hS
  rw [there_strike hi his hb]
  have hS' : S < 2 ^ (boOf ns ss pr).m := hS
  have h0 := hf S hS'
  have e0 : (boOf ns (ss.set i (ss.getD i 0 ^^^ 2 ^ k)) pr).need S = (boOf ns ss pr).need S := rfl
  rw [e0]
  by_cases hc : S.testBit k = true ∧ (boOf ns ss pr).on (S &&& (S ^^^ 2 ^ k)) i = false
  · rw [if_pos hc]
    rcases hmax with hm | hm | hm
    · rw [hm]; omega
    · have hlt : S ^^^ 2 ^ k < 2 ^ (boOf ns ss pr).m := Nat.xor_lt_two_pow hS (Nat.pow_lt_pow_right (by omega) hk)
      have h1 := hf (S ^^^ 2 ^ k) hlt
      rw [need_is] at h1 ⊢
      rw [need_clear hc.1 hk, hm]
      have h2 : (boOf ns ss pr).there y (S ^^^ 2 ^ k) ≤ (boOf ns ss pr).there y S - y i := by
        have hr : i < (boOf ns ss pr).r := hi
        unfold Bo.there
        rw [sumTo_one (fun j => if (boOf ns ss pr).on (S ^^^ 2 ^ k) j = true then y j else 0) i hr, sumTo_one (fun j => if (boOf ns ss pr).on S j = true then y j else 0) i hr]
        have ho : (boOf ns ss pr).on S i = true := (Bo.on_iff _).2 ⟨k, hb, hc.1⟩
        have hn := hc.2
        rw [sub_clear hc.1] at hn
        rw [ho, hn]
        have : sumTo (fun j => if j = i then 0 else if (boOf ns ss pr).on (S ^^^ 2 ^ k) j = true then y j else 0) (boOf ns ss pr).r ≤ sumTo (fun j => if j = i then 0 else if (boOf ns ss pr).on S j = true then y j else 0) (boOf ns ss pr).r := sumTo_le fun j hj => by
          by_cases hji : j = i
          · rw [if_pos hji, if_pos hji]; exact Int.le_refl _
          · rw [if_neg hji, if_neg hji]
            have hy := y0 j hj
            by_cases ho : (boOf ns ss pr).on (S ^^^ 2 ^ k) j = true
            · rw [if_pos ho]
              have ho' := ho
              rw [← sub_clear hc.1] at ho'
              rw [if_pos ((boOf ns ss pr).on_and ho').1]; exact Int.le_refl _
            · rw [if_neg ho]; split <;> omega
        rw [if_pos rfl, if_neg (by decide)]
        omega
      omega
    · -- a tight set without the field
      have hex : ∃ T, T < 2 ^ (boOf ns ss pr).m ∧ T.testBit k = false ∧ (boOf ns ss pr).on T i = true ∧ (boOf ns ss pr).need T = (boOf ns ss pr).there y T := by
        apply Classical.byContradiction
        intro hne
        refine hm fun T hT => ?_
        have hT' : T < 2 ^ (boOf ns ss pr).m := by
          have : (boOf (ns.set k (ns.getD k 0 - 1)) ss pr).m = ns.length := List.length_set ..
          rw [this] at hT; exact hT
        rw [need_is, needS_set hk, show y i - 1 = y i + (-1) by omega]
        have e1 := there_more (boOf (ns.set k (ns.getD k 0 - 1)) ss pr) (x := y) (i := i) hi (-1) T
        rw [e1]
        have e2 : (boOf (ns.set k (ns.getD k 0 - 1)) ss pr).there y T = (boOf ns ss pr).there y T := rfl
        have e3 : (boOf (ns.set k (ns.getD k 0 - 1)) ss pr).on T i = (boOf ns ss pr).on T i := rfl
        rw [e2, e3]
        have h1 := hf T hT'
        rw [need_is] at h1
        by_cases hTk : T.testBit k = true
        · rw [if_pos hTk]; split <;> omega
        · rw [if_neg hTk]
          by_cases ho : (boOf ns ss pr).on T i = true
          · rw [if_pos ho]
            have : ¬ needS ns T = (boOf ns ss pr).there y T := fun he => hne ⟨T, hT', by simpa using hTk, ho, he⟩
            omega
          · rw [if_neg ho]; omega
      obtain ⟨T, hT, hTk, hTo, hTt⟩ := hex
      have ho : (boOf ns ss pr).on S i = true := (Bo.on_iff _).2 ⟨k, hb, hc.1⟩
      have hn : (boOf ns ss pr).on (S &&& T) i = false := by
        cases hh : (boOf ns ss pr).on (S &&& T) i
        · rfl
        · obtain ⟨b, h1, h2⟩ := (Bo.on_iff _).1 hh
          rw [Nat.testBit_and, Bool.and_eq_true] at h2
          have hne : b ≠ k := by rintro rfl; rw [hTk] at h2; cases h2.2
          have : (boOf ns ss pr).on (S &&& (S ^^^ 2 ^ k)) i = true := (Bo.on_iff _).2 ⟨b, h1, by rw [Nat.testBit_and, bit_clear _ _ _ hc.1, h2.1, decide_eq_true hne]; rfl⟩
          rw [hc.2] at this; cases this
      have g1 := there_gain (boOf ns ss pr) (x := y) y0 (S := S) (T := T) (i := i) hi ho hTo hn
      have g2 := (boOf ns ss pr).need_mod S T
      have g3 := hf (S ||| T) (Nat.or_lt_two_pow hS' hT)
      have g4 := hf (S &&& T) (Bo.and_lt hS')
      omega
  · rw [if_neg hc]; omega
end
end Go.Proofs.Ytmbhnjpaieimbaa
