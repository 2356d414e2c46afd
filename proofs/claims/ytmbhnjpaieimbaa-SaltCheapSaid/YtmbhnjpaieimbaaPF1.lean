/- No other plan is cheaper, nor as cheap and comes before it: where two plans of the least cost part first, the plan that is told gives more (plain). -/
import Derived.Test.YtmbhnjpaieimbaaPC3
set_option linter.unusedVariables false
set_option linter.unusedSimpArgs false
namespace Go.Proofs.Ytmbhnjpaieimbaa
open Bo
theorem sumTo_swap (f : Nat → Nat → Int) (n : Nat) : ∀ m, sumTo (fun j => sumTo (f j) m) n = sumTo (fun k => sumTo (fun j => f j k) n) m
  | 0 => sumTo_zero fun _ _ => rfl
  | m + 1 => by
    show sumTo (fun j => sumTo (f j) m + f j m) n = sumTo (fun k => sumTo (fun j => f j k) n) m + sumTo (fun j => f j m) n
    rw [sumTo_add, sumTo_swap f n m]
theorem sumTo_from (f : Nat → Int) (i : Nat) : ∀ {n : Nat}, i ≤ n → sumTo f n = sumTo f i + sumTo (fun j => if j < i then 0 else f j) n
  | 0, h => by
    obtain rfl : i = 0 := by omega
    rfl
  | n + 1, h => by
    by_cases e : i = n + 1
    · rw [e, sumTo_zero (f := fun j => if j < n + 1 then 0 else f j) fun k hk => by rw [if_pos hk]]
      omega
    · show sumTo f n + f n = sumTo f i + (sumTo _ n + (if n < i then 0 else f n))
      rw [if_neg (by omega), sumTo_from f i (n := n) (by omega)]
      omega
theorem sumTo_one_le {f : Nat → Int} {i n : Nat} (h : ∀ j, j < n → 0 ≤ f j) (hi : i < n) : f i ≤ sumTo f n := by
  rw [sumTo_one f i hi]
  have := sumTo_nonneg (f := fun k => if k = i then 0 else f k) (n := n) fun k hk => by
    by_cases e : k = i
    · rw [if_pos e]; exact Int.le_refl _
    · rw [if_neg e]; exact h k hk
  omega
/-- What is given, cell by cell, serves all needs. -/
theorem cells_feas {ns : List Int} {ss : List Nat} {pr : List Int} {z : Nat → Nat → Int} (h0 : ∀ j k, j < pr.length → k < ns.length → 0 ≤ z j k) (hs : ∀ j k, j < pr.length → k < ns.length → 0 < z j k → (ss.getD j 0).testBit k = true)
    (hn : ∀ k, k < ns.length → ns.getD k 0 = sumTo (fun j => z j k) pr.length) : (boOf ns ss pr).Feas (fun j => sumTo (z j) ns.length) := by
  intro S hS
  show sumTo (fun k => if S.testBit k = true then ns.getD k 0 else 0) ns.length ≤ sumTo (fun j => if (boOf ns ss pr).on S j = true then sumTo (z j) ns.length else 0) pr.length
  have e1 : sumTo (fun k => if S.testBit k = true then ns.getD k 0 else 0) ns.length = sumTo (fun k => sumTo (fun j => if S.testBit k = true then z j k else 0) pr.length) ns.length := sumTo_congr fun k hk => by
    by_cases h : S.testBit k = true
    · simp only [if_pos h]; exact hn k hk
    · simp only [if_neg h]; exact (sumTo_zero fun _ _ => rfl).symm
  rw [e1, ← sumTo_swap (fun j k => if S.testBit k = true then z j k else 0)]
  refine sumTo_le fun j hj => ?_
  by_cases ho : (boOf ns ss pr).on S j = true
  · rw [if_pos ho]
    refine sumTo_le fun k hk => ?_
    by_cases h : S.testBit k = true
    · rw [if_pos h]; exact Int.le_refl _
    · rw [if_neg h]; exact h0 j k hj hk
  · rw [if_neg ho]
    refine Int.le_of_eq (sumTo_zero fun k hk => ?_)
    by_cases h : S.testBit k = true
    · rw [if_pos h]
      by_cases hz : 0 < z j k
      · exact absurd ((Bo.on_iff _).2 ⟨k, hs j k hj hk hz, h⟩) ho
      · have := h0 j k hj hk; omega
    · rw [if_neg h]
/-- No plan for what is left that costs as little gives this field more. -/
theorem cell_max {pr : List Int} {m c i k : Nat} {st : PSt} (h : StOk pr m c st) (hM : (boOf st.ns st.ss pr).Min (xOf st.hs) st.left) (hp : ∀ x ∈ pr, 0 ≤ x ∧ x ≤ 100000) (hi : i < pr.length) (hp8 : pr.length ≤ 8) (hk : k < m) {z : Nat → Nat → Int}
    (h0 : ∀ j l, j < pr.length → l < m → 0 ≤ z j l) (hs : ∀ j l, j < pr.length → l < m → 0 < z j l → (st.ss.getD j 0).testBit l = true) (hn : ∀ l, l < m → st.ns.getD l 0 = sumTo (fun j => z j l) pr.length) (hh : ∀ j, j < pr.length → sumTo (z j) m ≤ st.hs.getD j 0)
    (hc : sumTo (fun j => sumTo (z j) m * pr.getD j 0) pr.length = st.left) : z i k ≤ (cellP pr i k st).1 := by
  unfold cellP
  by_cases hb : (st.ss.getD i 0).testBit k = true
  rotate_left
  · rw [if_neg hb]
    by_cases hz : 0 < z i k
    · exact absurd (hs i k hi hk hz) hb
    · show z i k ≤ 0; omega
  rw [if_pos hb]
  show z i k ≤ ((pickF (goodN pr i k st) (topP i k st) : Nat) : Int)
  apply Classical.byContradiction
  intro hlt
  obtain ⟨v, hv⟩ : ∃ v : Nat, z i k = v := ⟨(z i k).toNat, by have := h0 i k hi hk; omega⟩
  have h1 : z i k ≤ st.hs.getD i 0 := Int.le_trans (sumTo_one_le (fun l hl => h0 i l hi hl) hk) (hh i hi)
  have h2 : z i k ≤ st.ns.getD k 0 := by rw [hn k hk]; exact sumTo_one_le (f := fun j => z j k) (fun j hj => h0 j k hj hk) hi
  have hbad := pick_max (good := goodN pr i k st) (M := topP i k st) (x := v) (by omega) (by unfold topP; omega)
  have hih : i < st.hs.length := by rw [h.hl]; omega
  have hkn : k < st.ns.length := by rw [h.nl]; exact hk
  have hF : Fits st.hs pr := ⟨fun j _ => (getD_mem (p := fun x : Int => 0 ≤ x ∧ x ≤ 100000) (d := 0) hp (by decide) j).1, fun j _ => (getD_mem (p := fun x : Int => 0 ≤ x ∧ x ≤ 23040) (d := 0) h.h (by decide) j).1, by rw [h.hl]; exact hp8⟩
  have C := (hF.set (n := (v : Int)) (by omega) hih).cost (ns := st.ns.set k (st.ns.getD k 0 - v)) (ss := st.ss)
  obtain ⟨z', hz'⟩ : ∃ z' : Nat → Nat → Int, z' = fun j l => if j = i ∧ l = k then 0 else z j l := ⟨_, rfl⟩
  have zz : ∀ j l, ¬ (j = i ∧ l = k) → z' j l = z j l := fun j l hjl => by rw [hz']; exact if_neg hjl
  have zk : z' i k = 0 := by rw [hz']; exact if_pos ⟨rfl, rfl⟩
  have zo : ∀ j, j ≠ i → sumTo (z' j) m = sumTo (z j) m := fun j hj => sumTo_congr fun l _ => zz j l (fun e => hj e.1)
  have zi : sumTo (z' i) m = sumTo (z i) m - v := by
    rw [sumTo_one (z i) k hk, sumTo_one (z' i) k hk, zk, hv, sumTo_congr (f := fun l => if l = k then 0 else z' i l) (g := fun l => if l = k then 0 else z i l) (fun l _ => by
      by_cases e : l = k
      · rw [if_pos e, if_pos e]
      · rw [if_neg e, if_neg e, zz i l (fun hh => e hh.2)])]
    omega
  have fe : (boOf (st.ns.set k (st.ns.getD k 0 - v)) st.ss pr).Feas (fun j => sumTo (z' j) m) := by
    have hl : (st.ns.set k (st.ns.getD k 0 - (v : Int))).length = m := by rw [List.length_set]; exact h.nl
    have := cells_feas (ns := st.ns.set k (st.ns.getD k 0 - v)) (ss := st.ss) (pr := pr) (z := z') (fun j l hj hl' => ?_) (fun j l hj hl' hpz => ?_) (fun l hl' => ?_)
    · rw [hl] at this; exact this
    · rw [hl] at hl'
      rw [hz']
      show 0 ≤ if j = i ∧ l = k then 0 else z j l
      split
      · exact Int.le_refl _
      · exact h0 j l hj hl'
    · rw [hl] at hl'
      refine hs j l hj hl' ?_
      by_cases e : j = i ∧ l = k
      · rw [e.1, e.2, zk] at hpz; omega
      · rw [zz j l e] at hpz; exact hpz
    · rw [hl] at hl'
      rw [getD_set hkn]
      by_cases e : l = k
      · rw [if_pos e, e, hn k hk, sumTo_one (fun j => z j k) i hi, sumTo_one (fun j => z' j k) i hi, zk, hv, sumTo_congr (f := fun j => if j = i then 0 else z' j k) (g := fun j => if j = i then 0 else z j k) (fun j _ => by
          by_cases e : j = i
          · rw [if_pos e, if_pos e]
          · rw [if_neg e, if_neg e, zz j k (fun hh => e hh.1)])]
        omega
      · rw [if_neg e, hn l hl']
        exact sumTo_congr fun j _ => (zz j l (fun hh => e hh.2)).symm
  have x0 : ∀ j, j < pr.length → 0 ≤ sumTo (z' j) m := fun j hj => sumTo_nonneg fun l hl => by
    by_cases e : j = i ∧ l = k
    · rw [e.1, e.2, zk]; exact Int.le_refl _
    · rw [zz j l e]; exact h0 j l hj hl
  have xle : ∀ j, j < pr.length → sumTo (z' j) m ≤ xOf (st.hs.set i (st.hs.getD i 0 - v)) j := fun j hj => by
    show _ ≤ (st.hs.set i (st.hs.getD i 0 - v)).getD j 0
    rw [getD_set hih]
    by_cases e : j = i
    · rw [if_pos e, e, zi]; have := hh i hi; omega
    · rw [if_neg e, zo j e]; exact hh j hj
  have cx : (boOf (st.ns.set k (st.ns.getD k 0 - v)) st.ss pr).cost (fun j => sumTo (z' j) m) = st.left - v * pr.getD i 0 := by
    show sumTo (fun j => sumTo (z' j) m * pr.getD j 0) pr.length = _
    rw [← hc, sumTo_one (fun j => sumTo (z j) m * pr.getD j 0) i hi, sumTo_one (fun j => sumTo (z' j) m * pr.getD j 0) i hi, zi, Int.sub_mul, sumTo_congr (f := fun j => if j = i then 0 else sumTo (z' j) m * pr.getD j 0) (g := fun j => if j = i then 0 else sumTo (z j) m * pr.getD j 0) (fun j _ => by
      by_cases e : j = i
      · rw [if_pos e, if_pos e]
      · rw [if_neg e, if_neg e, zo j e])]
    omega
  have hfe : (boOf (st.ns.set k (st.ns.getD k 0 - v)) st.ss pr).Feas (xOf (st.hs.set i (st.hs.getD i 0 - v))) := fun S hS => Int.le_trans (fe S hS) (there_le _ (x := fun j => sumTo (z' j) m) (y := xOf (st.hs.set i (st.hs.getD i 0 - v))) xle S)
  obtain ⟨c1, c2⟩ := C.yes hfe
  have l1 := c2.le _ fe x0 xle
  rw [cx] at l1
  have l2 := shift_min hkn hi hih hb (Int.natCast_nonneg v) c2 hM
  have good : goodN pr i k st v = true := by
    unfold goodN goodF
    rw [c1, Bool.true_and, beq_iff_eq]
    omega
  rw [good] at hbad
  cases hbad
/-! ### Where a plan's cells stand -/
theorem rowP_len3 (pr : List Int) (i : Nat) (st : PSt) : ∀ k, (rowP pr i k st).1.length = k
  | 0 => rfl
  | k + 1 => by show ((rowP pr i k st).1 ++ [_]).length = _; rw [List.length_append, rowP_len3 pr i st k]; rfl
theorem rowP_pre (pr : List Int) (i : Nat) (st : PSt) {k : Nat} : ∀ {m l : Nat}, k ≤ m → l < k → (rowP pr i m st).1.getD l 0 = (rowP pr i k st).1.getD l 0
  | 0, l, h, hl => by omega
  | m + 1, l, h, hl => by
    by_cases e : k = m + 1
    · rw [e]
    · show ((rowP pr i m st).1 ++ [_]).getD l 0 = _
      rw [getD_snoc, if_neg (by rw [rowP_len3]; omega)]
      exact rowP_pre pr i st (by omega) hl
theorem rowP_at (pr : List Int) (i : Nat) (st : PSt) {k m : Nat} (h : k < m) : (rowP pr i m st).1.getD k 0 = (cellP pr i k (rowP pr i k st).2).1 := by
  rw [rowP_pre pr i st (k := k + 1) (by omega) (by omega)]
  show ((rowP pr i k st).1 ++ [_]).getD k 0 = _
  rw [getD_snoc, if_pos (rowP_len3 pr i st k).symm]
theorem planP_len2 (pr : List Int) (m : Nat) (st : PSt) : ∀ i, (planP pr m i st).1.length = i
  | 0 => rfl
  | i + 1 => by show ((planP pr m i st).1 ++ [_]).length = _; rw [List.length_append, planP_len2 pr m st i]; rfl
theorem planP_pre (pr : List Int) (m : Nat) (st : PSt) {i : Nat} : ∀ {r j : Nat}, i ≤ r → j < i → (planP pr m r st).1.getD j [] = (planP pr m i st).1.getD j []
  | 0, j, h, hj => by omega
  | r + 1, j, h, hj => by
    by_cases e : i = r + 1
    · rw [e]
    · show ((planP pr m r st).1 ++ [_]).getD j [] = _
      rw [getD_snocL, if_neg (by rw [planP_len2]; omega)]
      exact planP_pre pr m st (by omega) hj
theorem planP_at (pr : List Int) (m : Nat) (st : PSt) {i r : Nat} (h : i < r) : (planP pr m r st).1.getD i [] = (rowP pr i m (planP pr m i st).2).1 := by
  rw [planP_pre pr m st (i := i + 1) (by omega) (by omega)]
  show ((planP pr m i st).1 ++ [_]).getD i [] = _
  rw [getD_snocL, if_pos (planP_len2 pr m st i).symm]
theorem Planned.used {ns : List Int} {rs : List Rr} {q : List (List Int)} (h : Planned ns rs q) (hm : ∀ i, i < rs.length → 0 ≤ miAt rs i) {i : Nat} (hi : i < rs.length) : usedTo q i ns.length ≤ miAt rs i := by
  cases hn : ns.length with
  | zero => exact hm i hi
  | succ m =>
    have := h.ok i hi m (by omega)
    show usedTo q i m + cellAt q i m ≤ _
    omega
/-- The cells of a plan from a place on. -/
def zAt (q : List (List Int)) (i k : Nat) (j l : Nat) : Int := if j < i ∨ (j = i ∧ l < k) then 0 else cellAt q j l
theorem zAt_col (q : List (List Int)) {i k l r : Nat} (hi : i < r) : sumTo (fun j => zAt q i k j l) r = sumTo (fun j => cellAt q j l) r - sumTo (fun j => cellAt q j l) i - (if l < k then cellAt q i l else 0) := by
  have h1 := sumTo_from (fun j => cellAt q j l) i (n := r) (by omega)
  have h2 := sumTo_one (fun j => if j < i then 0 else cellAt q j l) i hi
  have h3 := sumTo_one (fun j => zAt q i k j l) i hi
  have h4 : sumTo (fun j => if j = i then 0 else if j < i then 0 else cellAt q j l) r = sumTo (fun j => if j = i then 0 else zAt q i k j l) r := sumTo_congr fun j _ => by
    by_cases e : j = i
    · rw [if_pos e, if_pos e]
    · rw [if_neg e, if_neg e]
      unfold zAt
      by_cases e2 : j < i
      · rw [if_pos e2, if_pos (.inl e2)]
      · rw [if_neg e2, if_neg (fun hh => by rcases hh with hh | hh; exact e2 hh; exact e hh.1)]
  have h5 : zAt q i k i l = if l < k then 0 else cellAt q i l := by
    unfold zAt
    by_cases e : l < k
    · rw [if_pos (.inr ⟨rfl, e⟩), if_pos e]
    · rw [if_neg (fun hh => by rcases hh with hh | hh; omega; exact e hh.2), if_neg e]
  rw [if_neg (by omega)] at h2
  rw [h5] at h3
  rw [h4] at h2
  split at h3 <;> split <;> omega
theorem zAt_row_lt (q : List (List Int)) {i k j m : Nat} (hj : j < i) : sumTo (zAt q i k j) m = 0 := sumTo_zero fun l _ => if_pos (.inl hj)
theorem zAt_row_gt (q : List (List Int)) {i k j m : Nat} (hj : i < j) : sumTo (zAt q i k j) m = usedTo q j m := sumTo_congr fun l _ => if_neg (fun hh => by rcases hh with hh | hh <;> omega)
theorem zAt_row_eq (q : List (List Int)) {i k m : Nat} (hk : k ≤ m) : sumTo (zAt q i k i) m = usedTo q i m - usedTo q i k := by
  have h1 := sumTo_from (cellAt q i) k hk
  have h2 : sumTo (zAt q i k i) m = sumTo (fun j => if j < k then 0 else cellAt q i j) m := sumTo_congr fun l _ => by
    unfold zAt
    by_cases e : l < k
    · rw [if_pos (.inr ⟨rfl, e⟩), if_pos e]
    · rw [if_neg (fun hh => by rcases hh with hh | hh; omega; exact e hh.2), if_neg e]
  rw [h2]
  show _ = sumTo (cellAt q i) m - sumTo (cellAt q i) k
  omega
/-- NO OTHER PLAN IS CHEAPER. -/
theorem plan_least {ns : List Int} {rs : List Rr} (h : RentsOk ns rs) {c : Int} (hM : (boR ns rs).Min (capsR rs) c) {q : List (List Int)} (hq : Planned ns rs q) : c ≤ planCost rs q ns.length := by
  have hl : (rs.map Rr.pr).length = rs.length := List.length_map ..
  have hm0 : ∀ i, i < rs.length → 0 ≤ miAt rs i := fun i hi => by
    have := getD_mem (p := fun x : Int => 0 ≤ x ∧ x ≤ 23040) (d := 0) (hsTo_ok h.rt) (by decide) i
    rw [hsTo_get rs hi h.rl] at this; exact this.1
  have fe := cells_feas (ns := ns) (ss := ssTo rs rs.length) (pr := rs.map Rr.pr) (z := cellAt q) (fun j k hj hk => (hq.ok j (by rw [hl] at hj; exact hj) k hk).1) (fun j k hj hk hz => by
    rw [hl] at hj
    rw [ssTo_get rs hj h.rl]; exact (hq.ok j hj k hk).2.2 hz) (fun k hk => by rw [hl]; exact (hq.got k hk).symm)
  have := hM.le (fun j => sumTo (cellAt q j) ns.length) fe (fun j hj => sumTo_nonneg fun k hk => (hq.ok j (by rw [← hl]; exact hj) k hk).1) (fun j hj => by
    have hj' : j < rs.length := by rw [← hl]; exact hj
    show _ ≤ (hsTo rs rs.length).getD j 0
    rw [hsTo_get rs hj' h.rl]
    exact hq.used hm0 hj')
  refine Int.le_trans this (Int.le_of_eq ?_)
  show sumTo (fun i => sumTo (cellAt q i) ns.length * (rs.map Rr.pr).getD i 0) (rs.map Rr.pr).length = _
  rw [hl]
  exact sumTo_congr fun i _ => by rw [pr_get]; rfl
/-- NOR AS CHEAP AND COMES BEFORE IT. -/
theorem plan_lex {ns : List Int} {rs : List Rr} (h : RentsOk ns rs) {p q : List (List Int)} {c : Int} (hpl : planF ns rs = (p, c, 0)) (hM : (boR ns rs).Min (capsR rs) c) (hq : Planned ns rs q) (hc : planCost rs q ns.length = c) {i k : Nat} (hi : i < rs.length) (hk : k < ns.length)
    (ha : ∀ j l, j < rs.length → l < ns.length → (j < i ∨ j = i ∧ l < k) → cellAt p j l = cellAt q j l) : cellAt q i k ≤ cellAt p i k := by
  have hl : (rs.map Rr.pr).length = rs.length := List.length_map ..
  have hm0 : ∀ i, i < rs.length → 0 ≤ miAt rs i := fun i hi => by
    have := getD_mem (p := fun x : Int => 0 ≤ x ∧ x ≤ 23040) (d := 0) (hsTo_ok h.rt) (by decide) i
    rw [hsTo_get rs hi h.rl] at this; exact this.1
  have hf : (boR ns rs).Feas (capsR rs) := Min.feas hM
  obtain ⟨hc1, hc2⟩ := h.cost.yes hf
  have hpp : p = (planP (rs.map Rr.pr) ns.length rs.length (st0F ns rs)).1 ∧ c = (st0F ns rs).left := by
    unfold planF at hpl
    by_cases hok : rentsOk ns rs = true
    · rw [if_pos hok, if_pos hc1] at hpl
      injection hpl with e1 e2
      injection e2 with e2 _
      exact ⟨e1.symm, e2.symm⟩
    · rw [if_neg hok] at hpl
      injection hpl with _ e2
      injection e2 with _ e3
      exact absurd e3 (by decide)
  obtain ⟨rfl, rfl⟩ := hpp
  have hir : i ≤ (rs.map Rr.pr).length := by rw [hl]; omega
  obtain ⟨a1, a2, a3⟩ := plan_is h.start hc2 h.p (by rw [hl]; exact h.rl) i hir
  obtain ⟨b1, b2, b3⟩ := row_is a1 a2 h.p (show i < (rs.map Rr.pr).length by rw [hl]; exact hi) (by rw [hl]; exact h.rl) k (Nat.le_of_lt hk)
  obtain ⟨S, hS⟩ : ∃ S, S = (planP (rs.map Rr.pr) ns.length i (st0F ns rs)).2 := ⟨_, rfl⟩
  have eu : ∀ j l, j < i → l < ns.length → cellAt (planP (rs.map Rr.pr) ns.length i (st0F ns rs)).1 j l = cellAt q j l := fun j l hj hl' => by
    rw [← ha j l (by omega) hl' (.inl hj)]
    unfold cellAt
    rw [planP_pre _ _ _ (i := i) (r := rs.length) (by omega) hj]
  have er : ∀ l, l < k → (rowP (rs.map Rr.pr) i k S).1.getD l 0 = cellAt q i l := fun l hl' => by
    rw [← ha i l hi (by omega) (.inr ⟨rfl, hl'⟩), ← rowP_pre (rs.map Rr.pr) i S (k := k) (m := ns.length) (by omega) hl']
    unfold cellAt
    rw [planP_at _ _ _ hi, hS]
  have ec : cellAt (planP (rs.map Rr.pr) ns.length rs.length (st0F ns rs)).1 i k = (cellP (rs.map Rr.pr) i k (rowP (rs.map Rr.pr) i k S).2).1 := by
    rw [← rowP_at (rs.map Rr.pr) i S hk, hS]
    unfold cellAt
    rw [planP_at _ _ _ hi]
  rw [ec]
  rw [← hS] at a1 a2 a3 b1 b2 b3
  obtain ⟨T, hT⟩ : ∃ T, T = (rowP (rs.map Rr.pr) i k S).2 := ⟨_, rfl⟩
  rw [← hT] at b1 b2 b3 ⊢
  have es : sumTo (fun j => (rowP (rs.map Rr.pr) i k S).1.getD j 0) k = usedTo q i k := sumTo_congr fun l hl' => er l hl'
  have e0h : ∀ j, j < rs.length → (st0F ns rs).hs.getD j 0 = miAt rs j := fun j hj => hsTo_get rs hj h.rl
  have e0s : ∀ j, j < rs.length → (st0F ns rs).ss.getD j 0 = bitsF (fsAt rs j) := fun j hj => ssTo_get rs hj h.rl
  have ez : zAt q i k i k = cellAt q i k := if_neg (fun hh => by rcases hh with hh | hh <;> omega)
  rw [← ez]
  refine cell_max b1 b2 h.p (by rw [hl]; exact hi) (by rw [hl]; exact h.rl) hk (z := zAt q i k) (fun j l hj hl' => ?_) (fun j l hj hl' hz => ?_) (fun l hl' => ?_) (fun j hj => ?_) ?_
  · rw [hl] at hj
    unfold zAt
    split
    · exact Int.le_refl _
    · exact (hq.ok j hj l hl').1
  · rw [hl] at hj
    unfold zAt at hz
    by_cases e : j < i ∨ (j = i ∧ l < k)
    · rw [if_pos e] at hz; omega
    · rw [if_neg e] at hz
      rw [b3.ss, a3.ss j l hl', e0s j hj, (hq.ok j hj l hl').2.2 hz]
      have e1 : ¬ j < i := fun hh => e (.inl hh)
      have e2 : (decide (j = i) && decide (l < k)) = false := by
        by_cases e3 : j = i
        · have : ¬ l < k := fun hh => e (.inr ⟨e3, hh⟩)
          simp [this]
        · simp [e3]
      rw [e2, decide_eq_false e1]
      rfl
  · rw [hl, zAt_col q hi, b3.ns, a3.ns l hl', hq.got l hl', sumTo_congr (fun j hj => eu j l hj hl')]
    show ns.getD l 0 - _ - _ = _
    by_cases e : l < k
    · rw [if_pos e, if_pos e, er l e]
    · rw [if_neg e, if_neg e]
  · rw [hl] at hj
    rcases Nat.lt_trichotomy j i with e | e | e
    · rw [zAt_row_lt q e]
      exact (getD_mem (p := fun x : Int => 0 ≤ x ∧ x ≤ 23040) (d := 0) b1.h (by decide) j).1
    · rw [e, zAt_row_eq q (Nat.le_of_lt hk), b3.hi, es, a3.hs i (Nat.le_refl _), e0h i hi]
      have := hq.used hm0 hi
      omega
    · rw [zAt_row_gt q e, b3.ho j (by omega), a3.hs j (by omega), e0h j hj]
      exact hq.used hm0 hj
  · rw [hl, b3.left, a3.left, es]
    have h1 := sumTo_from (fun j => usedTo q j ns.length * (rs.map Rr.pr).getD j 0) i (n := rs.length) (by omega)
    have h2 := sumTo_one (fun j => if j < i then 0 else usedTo q j ns.length * (rs.map Rr.pr).getD j 0) i hi
    rw [if_neg (by omega)] at h2
    have h3 := sumTo_one (fun j => sumTo (zAt q i k j) ns.length * (rs.map Rr.pr).getD j 0) i hi
    have h4 : sumTo (fun j => if j = i then 0 else if j < i then 0 else usedTo q j ns.length * (rs.map Rr.pr).getD j 0) rs.length = sumTo (fun j => if j = i then 0 else sumTo (zAt q i k j) ns.length * (rs.map Rr.pr).getD j 0) rs.length := sumTo_congr fun j _ => by
      rcases Nat.lt_trichotomy j i with e | e | e
      · have ne : ¬ j = i := by omega
        rw [if_neg ne, if_pos e, if_neg ne, zAt_row_lt q e, Int.zero_mul]
      · rw [if_pos e, if_pos e]
      · have ne : ¬ j = i := by omega
        have nl : ¬ j < i := by omega
        rw [if_neg ne, if_neg nl, if_neg ne, zAt_row_gt q e]
    have h5 : sumTo (fun j => usedTo q j ns.length * (rs.map Rr.pr).getD j 0) rs.length = (st0F ns rs).left := by
      rw [← hc]
      exact sumTo_congr fun j _ => by rw [pr_get]
    have h6 : sumTo (fun j => usedTo (planP (rs.map Rr.pr) ns.length i (st0F ns rs)).1 j ns.length * (rs.map Rr.pr).getD j 0) i = sumTo (fun j => usedTo q j ns.length * (rs.map Rr.pr).getD j 0) i := sumTo_congr fun j hj => by
      rw [show usedTo (planP (rs.map Rr.pr) ns.length i (st0F ns rs)).1 j ns.length = usedTo q j ns.length from sumTo_congr fun l hl' => eu j l hj hl']
    rw [h6]
    rw [zAt_row_eq q (Nat.le_of_lt hk), Int.sub_mul] at h3
    omega
end Go.Proofs.Ytmbhnjpaieimbaa
