/- What lacks and what the cheapest plan costs, as numbers: the plain words of the greedy, over lists. Minutes that a rent gives a field: if so many leave the cost, fewer do (plain). -/
import Derived.Test.YtmbhnjpaieimbaaPB1
set_option linter.unusedVariables false
set_option linter.unusedSimpArgs false
namespace Go.Proofs.Ytmbhnjpaieimbaa
open Bo
def boOf (ns : List Int) (ss : List Nat) (pr : List Int) : Bo := ⟨ns.length, pr.length, fun k => ns.getD k 0, fun i => ss.getD i 0, fun i => pr.getD i 0⟩
def xOf (hs : List Int) : Nat → Int := fun i => hs.getD i 0
variable {ns hs : List Int} {ss : List Nat} {pr : List Int}
theorem need_is (S : Nat) : (boOf ns ss pr).need S = needS ns S := rfl
theorem on_is (S i : Nat) : (boOf ns ss pr).on S i = onS ss S i := rfl
theorem but_is (S j : Nat) : (boOf ns ss pr).but (xOf hs) S j = thereS hs ss pr.length S (j : Int) := by
  unfold Bo.but thereS
  refine sumTo_congr fun i _ => ?_
  unfold thereF
  rw [on_is]
  by_cases h : i ≠ j ∧ onS ss S i = true
  · rw [if_pos h, if_pos ⟨by have := h.1; omega, h.2⟩]; rfl
  · rw [if_neg h, if_neg (fun h' => h ⟨fun e => h'.1 (by rw [e]), h'.2⟩)]
theorem there_is (S : Nat) : (boOf ns ss pr).there (xOf hs) S = thereS hs ss pr.length S (-1) := by
  unfold Bo.there thereS
  refine sumTo_congr fun i _ => ?_
  unfold thereF
  rw [on_is]
  by_cases h : onS ss S i = true
  · rw [if_pos h, if_pos ⟨by omega, h⟩]; rfl
  · rw [if_neg h, if_neg (fun h' => h h'.2)]
theorem lackTo_all {r : Nat} {b : Int} : ∀ {n S : Nat}, S < n → lackC ss b S = true → needS ns S - thereS hs ss r S b ≤ lackTo ns hs ss r b n
  | 0, _, h, _ => by omega
  | n + 1, S, h, hc => by
    unfold lackTo
    by_cases hn : S = n
    · subst hn; rw [hc, if_pos rfl]; omega
    · have := lackTo_all (r := r) (n := n) (S := S) (by omega) hc
      split <;> omega
theorem lackTo_hit {r : Nat} {b : Int} : ∀ (n : Nat), lackTo ns hs ss r b n = 0 ∨ ∃ S, S < n ∧ lackC ss b S = true ∧ lackTo ns hs ss r b n = needS ns S - thereS hs ss r S b
  | 0 => .inl rfl
  | n + 1 => by
    unfold lackTo
    cases hc : lackC ss b n
    · rw [if_neg (by decide)]
      rcases lackTo_hit (r := r) (b := b) n with h | ⟨S, h1, h2, h3⟩
      · exact .inl h
      · exact .inr ⟨S, by omega, h2, h3⟩
    · rw [if_pos rfl]
      by_cases hm : lackTo ns hs ss r b n ≤ needS ns n - thereS hs ss r n b
      · exact .inr ⟨n, by omega, hc, by omega⟩
      · rw [show max (lackTo ns hs ss r b n) (needS ns n - thereS hs ss r n b) = lackTo ns hs ss r b n by omega]
        rcases lackTo_hit (r := r) (b := b) n with h | ⟨S, h1, h2, h3⟩
        · exact .inl h
        · exact .inr ⟨S, by omega, h2, h3⟩
theorem lackTo_nonneg {r : Nat} {b : Int} : ∀ n, 0 ≤ lackTo ns hs ss r b n
  | 0 => Int.le_refl _
  | n + 1 => by have := lackTo_nonneg (r := r) (b := b) n; unfold lackTo; split <;> omega
theorem lackC_nat (S j : Nat) : lackC ss (j : Int) S = onS ss S j := by
  unfold lackC; rw [decide_eq_false (by omega)]; rfl
theorem lack_spec (i : Nat) : (boOf ns ss pr).Lacks (xOf hs) i (lackS ns hs ss pr.length (i : Int)) := by
  refine ⟨lackTo_nonneg _, fun S hS ho => ?_, ?_⟩
  · rw [but_is, need_is]
    exact lackTo_all hS (by rw [lackC_nat]; exact ho)
  · rcases lackTo_hit (ns := ns) (hs := hs) (ss := ss) (r := pr.length) (b := (i : Int)) (2 ^ ns.length) with h | ⟨S, h1, h2, h3⟩
    · exact .inl h
    · refine .inr ⟨S, h1, by rw [lackC_nat] at h2; exact h2, ?_⟩
      rw [but_is, need_is]
      exact h3
theorem feas_iff : (boOf ns ss pr).Feas (xOf hs) ↔ ¬ 0 < lackS ns hs ss pr.length (-1) := by
  constructor
  · intro h hl
    rcases lackTo_hit (ns := ns) (hs := hs) (ss := ss) (r := pr.length) (b := -1) (2 ^ ns.length) with h1 | ⟨S, h1, h2, h3⟩
    · unfold lackS at hl; omega
    · have := h S h1
      rw [there_is, need_is] at this
      unfold lackS at hl; omega
  · intro h S hS
    rw [there_is, need_is]
    have h1 := lackTo_all (ns := ns) (hs := hs) (ss := ss) (r := pr.length) (b := -1) (n := 2 ^ ns.length) hS rfl
    unfold lackS at h
    omega
theorem xOf_set {i : Nat} {v : Int} (hi : i < hs.length) : xOf (hs.set i v) = Bo.upd (xOf hs) i v := by
  funext j
  unfold xOf Bo.upd
  rw [List.getD_eq_getElem?_getD]
  by_cases h : j = i
  · rw [if_pos h, h, List.getElem?_set_self hi]; rfl
  · rw [if_neg h, List.getElem?_set_ne (fun e => h e.symm)]
    exact (List.getD_eq_getElem?_getD ..).symm
/-- What the cheapest plan costs. -/
structure CostIs (ns hs : List Int) (ss : List Nat) (pr : List Int) (c : Int) (b : Bool) : Prop where
  no : ¬ (boOf ns ss pr).Feas (xOf hs) → c = 0 ∧ b = false
  yes : (boOf ns ss pr).Feas (xOf hs) → b = true ∧ (boOf ns ss pr).Min (xOf hs) c
theorem CostIs.one {c d : Int} {a b : Bool} (h : CostIs ns hs ss pr c a) (g : CostIs ns hs ss pr d b) : c = d ∧ a = b := by
  by_cases hf : (boOf ns ss pr).Feas (xOf hs)
  · obtain ⟨rfl, h2⟩ := h.yes hf
    obtain ⟨rfl, g2⟩ := g.yes hf
    exact ⟨h2.one _ g2, rfl⟩
  · obtain ⟨rfl, rfl⟩ := h.no hf
    obtain ⟨rfl, rfl⟩ := g.no hf
    exact ⟨rfl, rfl⟩
/-- The sum of what is paid for the rents of a list. -/
def paid (hs pr : List Int) (o : List Nat) : Int := sumL (fun i => hs.getD i 0 * pr.getD i 0) o
theorem paid_snoc (hs pr : List Int) (o : List Nat) (i : Nat) : paid hs pr (o ++ [i]) = paid hs pr o + hs.getD i 0 * pr.getD i 0 := sumL_snoc _ _ _
theorem paid_set {hs pr : List Int} {o : List Nat} {i : Nat} {v : Int} (h : i ∉ o) : paid (hs.set i v) pr o = paid hs pr o := sumL_congr fun j hj => by
  have hne : i ≠ j := fun e => h (e ▸ hj)
  rw [List.getD_eq_getElem?_getD, List.getElem?_set_ne hne, ← List.getD_eq_getElem?_getD]
/-- All rents treated, the dearest first. -/
theorem cost_of_run {h0 : List Int} {o : List Nat} (hp : ∀ i, i < pr.length → 0 ≤ pr.getD i 0) (hh : ∀ i, i < pr.length → 0 ≤ h0.getD i 0) (hf : (boOf ns ss pr).Feas (xOf h0)) (R : (boOf ns ss pr).Run (xOf h0) o (xOf hs)) (hperm : List.Perm o (List.range pr.length)) (hs2 : o.Pairwise (fun i j => pr.getD j 0 ≤ pr.getD i 0)) :
    CostIs ns h0 ss pr (paid hs pr o) true := by
  refine ⟨fun h => absurd hf h, fun _ => ⟨rfl, ?_⟩⟩
  have hall : ∀ i, i < (boOf ns ss pr).r → i ∈ o := fun i hi => hperm.mem_iff.2 (List.mem_range.2 hi)
  have h1 := R.min _ hf hh hp hs2 hall
  have h2 := R.nodup
  rw [show paid hs pr o = (boOf ns ss pr).cost (xOf hs) from sumL_all _ (h2.1) h2.2 hall]
  exact h1
/-! ### the same, to be evaluated -/
def insI (pr : List Int) (i : Nat) : List Nat → List Nat
  | [] => [i]
  | j :: l => if pr.getD i 0 ≤ pr.getD j 0 then j :: insI pr i l else i :: j :: l
theorem insI_perm (pr : List Int) (i : Nat) : ∀ l, List.Perm (insI pr i l) (i :: l)
  | [] => List.Perm.refl _
  | j :: l => by
    unfold insI
    split
    · exact ((insI_perm pr i l).cons j).trans (List.Perm.swap i j l)
    · exact List.Perm.refl _
theorem insI_ord (pr : List Int) (i : Nat) : ∀ {l : List Nat}, l.Pairwise (fun i j => pr.getD j 0 ≤ pr.getD i 0) → (insI pr i l).Pairwise (fun i j => pr.getD j 0 ≤ pr.getD i 0)
  | [], _ => by simp [insI]
  | j :: l, h => by
    rw [List.pairwise_cons] at h
    unfold insI
    split
    · rename_i hij
      rw [List.pairwise_cons]
      refine ⟨fun k hk => ?_, insI_ord pr i h.2⟩
      rcases List.mem_cons.1 ((insI_perm pr i l).mem_iff.1 hk) with rfl | hk
      · exact hij
      · exact h.1 k hk
    · rename_i hij
      rw [List.pairwise_cons, List.pairwise_cons]
      refine ⟨fun k hk => ?_, h⟩
      rcases List.mem_cons.1 hk with rfl | hk
      · omega
      · have := h.1 k hk; omega
def sortI (pr : List Int) : Nat → List Nat
  | 0 => []
  | k + 1 => insI pr k (sortI pr k)
theorem sortI_perm (pr : List Int) : ∀ k, List.Perm (sortI pr k) (List.range k)
  | 0 => List.Perm.refl _
  | k + 1 => by
    rw [List.range_succ]
    exact (insI_perm pr k _).trans (((sortI_perm pr k).cons k).trans (List.perm_append_singleton k _).symm)
theorem sortI_ord (pr : List Int) : ∀ k, (sortI pr k).Pairwise (fun i j => pr.getD j 0 ≤ pr.getD i 0)
  | 0 => List.Pairwise.nil
  | k + 1 => insI_ord pr k (sortI_ord pr k)
def grdF (ns : List Int) (ss : List Nat) (r : Nat) : List Nat → List Int → List Int
  | [], hs => hs
  | i :: o, hs => grdF ns ss r o (hs.set i (lackS ns hs ss r (i : Int)))
theorem goF_run {h0 : List Int} : ∀ (o pre : List Nat) (hs : List Int), (boOf ns ss pr).Run (xOf h0) pre (xOf hs) → (pre ++ o).Nodup → (∀ i ∈ o, i < pr.length) → pr.length ≤ hs.length → (boOf ns ss pr).Run (xOf h0) (pre ++ o) (xOf (grdF ns ss pr.length o hs))
  | [], pre, hs, R, _, _, _ => by rw [List.append_nil]; exact R
  | i :: o, pre, hs, R, hd, hl, hlen => by
    have hi := hl i (by simp)
    have R' := Run.snoc (B := boOf ns ss pr) R hi (fun hm => (List.nodup_append.1 hd).2.2 i hm i (by simp) rfl) (lack_spec i)
    rw [← xOf_set (by omega)] at R'
    have := goF_run o (pre ++ [i]) _ R' (by rw [List.append_assoc]; exact hd) (fun j hj => hl j (by simp [hj])) (by rw [List.length_set]; exact hlen)
    rw [List.append_assoc] at this
    exact this
def costF (ns hs : List Int) (ss : List Nat) (pr : List Int) : Int × Bool :=
  if 0 < lackS ns hs ss pr.length (-1) then (0, false) else (paid (grdF ns ss pr.length (sortI pr pr.length) hs) pr (sortI pr pr.length), true)
theorem costF_is (hp : ∀ i, i < pr.length → 0 ≤ pr.getD i 0) (hh : ∀ i, i < pr.length → 0 ≤ hs.getD i 0) (hlen : pr.length ≤ hs.length) : CostIs ns hs ss pr (costF ns hs ss pr).1 (costF ns hs ss pr).2 := by
  unfold costF
  split
  · rename_i h
    exact ⟨fun _ => ⟨rfl, rfl⟩, fun hf => absurd h (feas_iff.1 hf)⟩
  · rename_i h
    have hperm := sortI_perm pr pr.length
    have R := goF_run (ns := ns) (ss := ss) (pr := pr) (h0 := hs) (sortI pr pr.length) [] hs Run.nil (by rw [List.nil_append]; exact hperm.nodup_iff.2 List.nodup_range) (fun i hi => List.mem_range.1 (hperm.mem_iff.1 hi)) hlen
    rw [List.nil_append] at R
    exact cost_of_run hp hh (feas_iff.2 h) R hperm (sortI_ord pr pr.length)
end Go.Proofs.Ytmbhnjpaieimbaa
namespace Go.Proofs.Ytmbhnjpaieimbaa
open Bo
variable {ns hs : List Int} {ss : List Nat} {pr : List Int}
theorem getD_set {xs : List Int} {i j : Nat} {v : Int} (hi : i < xs.length) : (xs.set i v).getD j 0 = if j = i then v else xs.getD j 0 := by
  rw [List.getD_eq_getElem?_getD]
  by_cases h : j = i
  · rw [if_pos h, h, List.getElem?_set_self hi]; rfl
  · rw [if_neg h, List.getElem?_set_ne (fun e => h e.symm), List.getD_eq_getElem?_getD]
theorem needS_set {k : Nat} (hk : k < ns.length) (n : Int) (S : Nat) : needS (ns.set k (ns.getD k 0 - n)) S = needS ns S - (if S.testBit k then n else 0) := by
  unfold needS
  rw [List.length_set, sumTo_one (needF1 (ns.set k _) S) k hk, sumTo_one (needF1 ns S) k hk]
  have e : sumTo (fun j => if j = k then 0 else needF1 (ns.set k (ns.getD k 0 - n)) S j) ns.length = sumTo (fun j => if j = k then 0 else needF1 ns S j) ns.length := sumTo_congr fun j _ => by
    by_cases h : j = k
    · rw [if_pos h, if_pos h]
    · rw [if_neg h, if_neg h]; unfold needF1; rw [getD_set hk, if_neg h]
  have e2 : needF1 (ns.set k (ns.getD k 0 - n)) S k = needF1 ns S k - (if S.testBit k then n else 0) := by
    unfold needF1
    rw [getD_set hk, if_pos rfl]
    split <;> omega
  rw [e, e2]; omega
/-- What a rent has besides. -/
theorem there_more (B : Bo) {x : Nat → Int} {i : Nat} (hi : i < B.r) (n : Int) (S : Nat) : B.there (Bo.upd x i (x i + n)) S = B.there x S + (if B.on S i = true then n else 0) := by
  unfold Bo.there
  rw [sumTo_one _ i hi, sumTo_one (fun j => if B.on S j = true then x j else 0) i hi]
  have e : sumTo (fun j => if j = i then 0 else if B.on S j = true then Bo.upd x i (x i + n) j else 0) B.r = sumTo (fun j => if j = i then 0 else if B.on S j = true then x j else 0) B.r := sumTo_congr fun j _ => by
    by_cases h : j = i
    · rw [if_pos h, if_pos h]
    · rw [if_neg h, if_neg h]; unfold Bo.upd; rw [if_neg h]
  rw [e]
  have e2 : Bo.upd x i (x i + n) i = x i + n := by unfold Bo.upd; rw [if_pos rfl]
  rw [e2]
  split <;> omega
theorem cost_more (B : Bo) {x : Nat → Int} {i : Nat} (hi : i < B.r) (n : Int) : B.cost (Bo.upd x i (x i + n)) = B.cost x + n * B.pr i := by
  unfold Bo.cost
  rw [sumTo_one _ i hi, sumTo_one (fun j => x j * B.pr j) i hi]
  have e : sumTo (fun j => if j = i then 0 else Bo.upd x i (x i + n) j * B.pr j) B.r = sumTo (fun j => if j = i then 0 else x j * B.pr j) B.r := sumTo_congr fun j _ => by
    by_cases h : j = i
    · rw [if_pos h, if_pos h]
    · rw [if_neg h, if_neg h]; unfold Bo.upd; rw [if_neg h]
  have e2 : Bo.upd x i (x i + n) i = x i + n := by unfold Bo.upd; rw [if_pos rfl]
  rw [e, e2, Int.add_mul]; omega
/-- What is feasible with n minutes given is so without, with n minutes more. -/
theorem shift_feas {k i : Nat} (hk : k < ns.length) (hi : i < pr.length) (hb : (ss.getD i 0).testBit k = true) {n : Int} (hn : 0 ≤ n) {x : Nat → Int} (hf : (boOf (ns.set k (ns.getD k 0 - n)) ss pr).Feas x) : (boOf ns ss pr).Feas (Bo.upd x i (x i + n)) := by
  intro S hS
  have h := hf S (by show S < 2 ^ (ns.set k _).length; rw [List.length_set]; exact hS)
  rw [need_is, needS_set hk] at h
  rw [need_is, there_more (boOf ns ss pr) hi]
  have e : (boOf (ns.set k (ns.getD k 0 - n)) ss pr).there x S = (boOf ns ss pr).there x S := rfl
  rw [e] at h
  by_cases hS2 : S.testBit k = true
  · rw [if_pos hS2] at h
    have ho : (boOf ns ss pr).on S i = true := Bo.on_iff _ |>.2 ⟨k, hb, hS2⟩
    rw [if_pos ho]
    omega
  · rw [if_neg hS2] at h
    split <;> omega
theorem shift_min {k i : Nat} (hk : k < ns.length) (hi : i < pr.length) (hih : i < hs.length) (hb : (ss.getD i 0).testBit k = true) {n c d : Int} (hn : 0 ≤ n)
    (hd : (boOf (ns.set k (ns.getD k 0 - n)) ss pr).Min (xOf (hs.set i (hs.getD i 0 - n))) d) (hc : (boOf ns ss pr).Min (xOf hs) c) : c ≤ d + n * pr.getD i 0 := by
  obtain ⟨x, h1, h2, h3, h4⟩ := hd.is
  have h5 := hc.le (Bo.upd x i (x i + n)) (shift_feas hk hi hb hn h1) (fun j hj => ?_) (fun j hj => ?_)
  · rw [cost_more (boOf ns ss pr) hi] at h5
    have e : (boOf (ns.set k (ns.getD k 0 - n)) ss pr).cost x = (boOf ns ss pr).cost x := rfl
    rw [e] at h4
    rw [h4] at h5
    exact h5
  · unfold Bo.upd
    split
    · have := h2 i hi; omega
    · exact h2 j hj
  · have h6 := h3 j hj
    unfold xOf at h6 ⊢
    rw [getD_set hih] at h6
    unfold Bo.upd
    by_cases h : j = i
    · rw [if_pos h] at h6 ⊢; rw [h] at h6 ⊢; omega
    · rw [if_neg h] at h6 ⊢; exact h6
theorem shift_is {k i : Nat} (hk : k < ns.length) (hi : i < pr.length) (hih : i < hs.length) (hb : (ss.getD i 0).testBit k = true) {n : Int} (hn : 0 ≤ n) (hf : (boOf (ns.set k (ns.getD k 0 - n)) ss pr).Feas (xOf (hs.set i (hs.getD i 0 - n)))) : (boOf ns ss pr).Feas (xOf hs) := by
  have h := shift_feas hk hi hb hn hf
  have e : Bo.upd (xOf (hs.set i (hs.getD i 0 - n))) i (xOf (hs.set i (hs.getD i 0 - n)) i + n) = xOf hs := by
    funext j
    unfold Bo.upd xOf
    by_cases hj : j = i
    · rw [if_pos hj, hj, getD_set hih, if_pos rfl]; omega
    · rw [if_neg hj, getD_set hih, if_neg hj]
  rwa [e] at h
/-- Fewer fields for a rent: nothing becomes cheaper. -/
theorem clear_feas {i : Nat} {t : Nat} (hi : i < ss.length) (ht : ∀ j, t.testBit j = true → (ss.getD i 0).testBit j = true) {x : Nat → Int} (h0 : ∀ j, j < pr.length → 0 ≤ x j) (hf : (boOf ns (ss.set i t) pr).Feas x) : (boOf ns ss pr).Feas x := by
  intro S hS
  refine Int.le_trans (hf S hS) (sumTo_le fun j hj => ?_)
  have hx := h0 j hj
  by_cases ho : (boOf ns (ss.set i t) pr).on S j = true
  · rw [if_pos ho]
    have : (boOf ns ss pr).on S j = true := by
      obtain ⟨b, h1, h2⟩ := (Bo.on_iff _).1 ho
      refine (Bo.on_iff _).2 ⟨b, ?_, h2⟩
      have h1' : ((ss.set i t).getD j 0).testBit b = true := h1
      show (ss.getD j 0).testBit b = true
      by_cases hj2 : j = i
      · subst hj2
        rw [List.getD_eq_getElem?_getD, List.getElem?_set_self hi] at h1'
        exact ht b h1'
      · rw [List.getD_eq_getElem?_getD, List.getElem?_set_ne (fun e => hj2 e.symm), ← List.getD_eq_getElem?_getD] at h1'
        exact h1'
    rw [if_pos this]; exact Int.le_refl _
  · rw [if_neg ho]
    split <;> omega
theorem clear_min {i : Nat} {t : Nat} (hi : i < ss.length) (ht : ∀ j, t.testBit j = true → (ss.getD i 0).testBit j = true) {c d : Int} (hd : (boOf ns (ss.set i t) pr).Min (xOf hs) d) (hc : (boOf ns ss pr).Min (xOf hs) c) : c ≤ d := by
  obtain ⟨x, h1, h2, h3, h4⟩ := hd.is
  have := hc.le x (clear_feas hi ht h2 h1) h2 h3
  have e : (boOf ns (ss.set i t) pr).cost x = (boOf ns ss pr).cost x := rfl
  rw [e] at h4
  omega
/-- What is left to be paid is at most what is still to be paid. -/
def Inv (ns hs : List Int) (ss : List Nat) (pr : List Int) (left : Int) : Prop := ∀ c, (boOf ns ss pr).Min (xOf hs) c → left ≤ c
/-- Whether so many minutes of a rent for a field leave the cost. -/
def goodF (ns hs : List Int) (ss : List Nat) (pr : List Int) (i k : Nat) (left n : Int) : Bool :=
  (costF (ns.set k (ns.getD k 0 - n)) (hs.set i (hs.getD i 0 - n)) ss pr).2 && (costF (ns.set k (ns.getD k 0 - n)) (hs.set i (hs.getD i 0 - n)) ss pr).1 + n * pr.getD i 0 == left
structure Fits (hs pr : List Int) : Prop where
  p : ∀ i, i < pr.length → 0 ≤ pr.getD i 0
  h : ∀ i, i < pr.length → 0 ≤ hs.getD i 0
  l : pr.length ≤ hs.length
theorem Fits.set {i : Nat} {n : Int} (h : Fits hs pr) (hn : n ≤ hs.getD i 0) (hih : i < hs.length) : Fits (hs.set i (hs.getD i 0 - n)) pr := ⟨h.p, fun j hj => by
  rw [getD_set hih]
  have := h.h j hj
  split <;> omega, by rw [List.length_set]; exact h.l⟩
theorem Fits.cost (h : Fits hs pr) : CostIs ns hs ss pr (costF ns hs ss pr).1 (costF ns hs ss pr).2 := costF_is h.p h.h h.l
theorem cost_some {c : Int} {b : Bool} (h : CostIs ns hs ss pr c b) : b = true ↔ (boOf ns ss pr).Feas (xOf hs) := by
  constructor
  · intro hb
    by_cases hf : (boOf ns ss pr).Feas (xOf hs)
    · exact hf
    · have := (h.no hf).2; rw [hb] at this; cases this
  · exact fun hf => (h.yes hf).1
theorem set_set_sub {xs : List Int} {k : Nat} {a b : Int} (hk : k < xs.length) : (xs.set k (xs.getD k 0 - a)).set k ((xs.set k (xs.getD k 0 - a)).getD k 0 - b) = xs.set k (xs.getD k 0 - (a + b)) := by
  rw [getD_set hk, if_pos rfl, List.set_set]; congr 1; omega
/-- FEWER MINUTES LEAVE THE COST, TOO. -/
theorem good_down {k i : Nat} {left x y : Int} (hF : Fits hs pr) (hk : k < ns.length) (hi : i < pr.length) (hb : (ss.getD i 0).testBit k = true) (hI : Inv ns hs ss pr left) (h0 : 0 ≤ x) (hxy : x ≤ y) (hyh : y ≤ hs.getD i 0) (hy : goodF ns hs ss pr i k left y = true) : goodF ns hs ss pr i k left x = true := by
  have hih : i < hs.length := Nat.lt_of_lt_of_le hi hF.l
  unfold goodF at hy ⊢
  rw [Bool.and_eq_true, beq_iff_eq] at hy ⊢
  have Cy := (hF.set (n := y) hyh hih).cost (ns := ns.set k (ns.getD k 0 - y)) (ss := ss)
  have Cx := (hF.set (n := x) (by omega) hih).cost (ns := ns.set k (ns.getD k 0 - x)) (ss := ss)
  have fy := (cost_some Cy).1 hy.1
  have my := (Cy.yes fy).2
  have ex : ns.set k (ns.getD k 0 - y) = (ns.set k (ns.getD k 0 - x)).set k ((ns.set k (ns.getD k 0 - x)).getD k 0 - (y - x)) := by rw [set_set_sub hk]; congr 2; omega
  have eh : hs.set i (hs.getD i 0 - y) = (hs.set i (hs.getD i 0 - x)).set i ((hs.set i (hs.getD i 0 - x)).getD i 0 - (y - x)) := by rw [set_set_sub hih]; congr 2; omega
  have fx : (boOf (ns.set k (ns.getD k 0 - x)) ss pr).Feas (xOf (hs.set i (hs.getD i 0 - x))) := by
    rw [ex, eh] at fy
    exact shift_is (by rw [List.length_set]; exact hk) hi (by rw [List.length_set]; exact hih) hb (by omega) fy
  have mx := (Cx.yes fx).2
  refine ⟨(Cx.yes fx).1, ?_⟩
  have f0 := shift_is hk hi hih hb h0 fx
  have m0 := ((hF.cost (ns := ns) (ss := ss)).yes f0).2
  have l0 := hI _ m0
  have l1 := shift_min hk hi hih hb h0 mx m0
  have my' := my
  rw [ex, eh] at my'
  have l2 := shift_min (by rw [List.length_set]; exact hk) hi (by rw [List.length_set]; exact hih) hb (show 0 ≤ y - x by omega) my' mx
  have e3 : (costF (ns.set k (ns.getD k 0 - y)) (hs.set i (hs.getD i 0 - y)) ss pr).1 = (costF ((ns.set k (ns.getD k 0 - x)).set k ((ns.set k (ns.getD k 0 - x)).getD k 0 - (y - x))) ((hs.set i (hs.getD i 0 - x)).set i ((hs.set i (hs.getD i 0 - x)).getD i 0 - (y - x))) ss pr).1 := by rw [← ex, ← eh]
  rw [← e3] at l2
  have e4 : (y - x) * pr.getD i 0 = y * pr.getD i 0 - x * pr.getD i 0 := Int.sub_mul _ _ _
  have h2 := hy.2
  generalize y * pr.getD i 0 = Y at *
  generalize x * pr.getD i 0 = X at *
  generalize (y - x) * pr.getD i 0 = D at *
  omega
/-- Behind a rent and a field. -/
theorem inv_next {k i : Nat} {left n : Int} {t : Nat} (hF : Fits hs pr) (hk : k < ns.length) (hi : i < pr.length) (his : i < ss.length) (hb : (ss.getD i 0).testBit k = true) (ht : ∀ j, t.testBit j = true → (ss.getD i 0).testBit j = true) (hI : Inv ns hs ss pr left) (h0 : 0 ≤ n) (hnh : n ≤ hs.getD i 0) :
    Inv (ns.set k (ns.getD k 0 - n)) (hs.set i (hs.getD i 0 - n)) (ss.set i t) pr (left - n * pr.getD i 0) := by
  intro c hc
  have hih : i < hs.length := Nat.lt_of_lt_of_le hi hF.l
  have fit := hF.set (n := n) hnh hih
  obtain ⟨x, h1, h2, h3, h4⟩ := hc.is
  have hfx := clear_feas his ht h2 h1
  have hf : (boOf (ns.set k (ns.getD k 0 - n)) ss pr).Feas (xOf (hs.set i (hs.getD i 0 - n))) := fun S hS => Int.le_trans (hfx S hS) ((boOf (ns.set k (ns.getD k 0 - n)) ss pr).there_le (x := x) (y := xOf (hs.set i (hs.getD i 0 - n))) h3 S)
  have m := ((fit.cost (ns := ns.set k (ns.getD k 0 - n)) (ss := ss)).yes hf).2
  have l1 := clear_min his ht hc m
  have f0 := shift_is hk hi hih hb h0 hf
  have m0 := ((hF.cost (ns := ns) (ss := ss)).yes f0).2
  have l2 := shift_min hk hi hih hb h0 m m0
  have l3 := hI _ m0
  omega
theorem min_bd {c : Int} (hh : ∀ x ∈ hs, 0 ≤ x ∧ x ≤ 200000) (hp : ∀ x ∈ pr, 0 ≤ x ∧ x ≤ 100000) (hl : pr.length ≤ 8) (h : (boOf ns ss pr).Min (xOf hs) c) : 0 ≤ c ∧ c ≤ 160000000000 := by
  obtain ⟨x, _, h2, h3, rfl⟩ := h.is
  have hb := sumTo_bd (f := fun i => x i * pr.getD i 0) (M := 20000000000) (n := pr.length) (fun i hi => by
    have h4 := h2 i hi
    have h5 := h3 i hi
    have h6 := getD_mem (p := fun x : Int => 0 ≤ x ∧ x ≤ 200000) (d := 0) hh (by decide) i
    have h7 := getD_mem (p := fun x : Int => 0 ≤ x ∧ x ≤ 100000) (d := 0) hp (by decide) i
    unfold xOf at h5
    refine ⟨Int.mul_nonneg h4 h7.1, ?_⟩
    have h8 : x i * pr.getD i 0 ≤ 200000 * pr.getD i 0 := Int.mul_le_mul_of_nonneg_right (by omega) h7.1
    have h9 := h7.2
    show x i * pr.getD i 0 ≤ 20000000000
    generalize pr.getD i 0 = q at *
    omega)
  have e : (boOf ns ss pr).cost x = sumTo (fun i => x i * pr.getD i 0) pr.length := rfl
  rw [e]
  omega
theorem costIs_bd {c : Int} {b : Bool} (hh : ∀ x ∈ hs, 0 ≤ x ∧ x ≤ 200000) (hp : ∀ x ∈ pr, 0 ≤ x ∧ x ≤ 100000) (hl : pr.length ≤ 8) (h : CostIs ns hs ss pr c b) : 0 ≤ c ∧ c ≤ 160000000000 := by
  by_cases hf : (boOf ns ss pr).Feas (xOf hs)
  · exact min_bd hh hp hl (h.yes hf).2
  · rw [(h.no hf).1]; omega
end Go.Proofs.Ytmbhnjpaieimbaa
