/- Channel: orders of turns, the plain law. No program here. -/
import Derived.Test.YtgklcilpohkpkaaW5
set_option linter.unusedVariables false
set_option linter.unusedSimpArgs false
namespace Go.Proofs.Ytgklcilpohkpkaa
open Go.RowKit Go.Shelf
theorem snoc_ind {α : Type} {p : List α → Prop} (h0 : p []) (h1 : ∀ l a, p l → p (l ++ [a])) (l : List α) : p l := by
  have h : ∀ m : List α, p m.reverse := by
    intro m
    induction m with
    | nil => exact h0
    | cons a m ih => rw [List.reverse_cons]; exact h1 _ _ ih
  have := h l.reverse
  rwa [List.reverse_reverse] at this
/-- The value of a list at a number. -/
def atI (l : List Int) (k : Nat) : Int := l[k]?.getD 0
/-- The uses of turns in an order, and when the last one ends. -/
def rowSt (fl ml : List Int) (o : List Nat) : List Us × Int := o.foldl (fun st k => (st.1 ++ [⟨atI fl k, st.2, st.2 + atI ml k⟩], st.2 + atI ml k)) ([], 0)
theorem rowSt_snoc (fl ml : List Int) (o : List Nat) (k : Nat) : rowSt fl ml (o ++ [k]) = ((rowSt fl ml o).1 ++ [⟨atI fl k, (rowSt fl ml o).2, (rowSt fl ml o).2 + atI ml k⟩], (rowSt fl ml o).2 + atI ml k) := by
  unfold rowSt
  rw [List.foldl_append]
  rfl
theorem rowSt_len (fl ml : List Int) (o : List Nat) : (rowSt fl ml o).1.length = o.length := by
  induction o using snoc_ind with
  | h0 => rfl
  | h1 o k ih => rw [rowSt_snoc]; simp [ih]
theorem rowSt_last (fl ml : List Int) (o : List Nat) : ((rowSt fl ml o).1.getLast?.map (·.to)).getD 0 = (rowSt fl ml o).2 := by
  induction o using snoc_ind with
  | h0 => rfl
  | h1 o k ih => rw [rowSt_snoc]; simp
/-- The sum of what a list says at some numbers. -/
def sumAt (ml : List Int) : List Nat → Int
  | [] => 0
  | k :: o => atI ml k + sumAt ml o
theorem sumAt_append (ml : List Int) : ∀ (o p : List Nat), sumAt ml (o ++ p) = sumAt ml o + sumAt ml p
  | [], p => by simp [sumAt]
  | k :: o, p => by simp [sumAt, sumAt_append ml o p]; omega
theorem rowSt_sum (fl ml : List Int) (o : List Nat) : (rowSt fl ml o).2 = sumAt ml o := by
  induction o using snoc_ind with
  | h0 => rfl
  | h1 o k ih => rw [rowSt_snoc, sumAt_append]; simp [sumAt, ih]
/-- What all turns take. -/
def sumM (ml : List Int) : Int := ml.foldl (· + ·) 0
theorem sumM_snoc {ml : List Int} {k : Nat} {x : Int} (h : ml[k]? = some x) : sumM (ml.take (k + 1)) = sumM (ml.take k) + x := by
  unfold sumM
  rw [List.take_add_one, h]
  simp
theorem sumM_range (ml : List Int) : ∀ k, k ≤ ml.length → sumM (ml.take k) = sumAt ml (List.range k)
  | 0, _ => rfl
  | k + 1, h => by
    have hx : ml[k]? = some ml[k] := List.getElem?_eq_getElem (by omega)
    rw [sumM_snoc hx, List.range_succ, sumAt_append, sumM_range ml k (by omega)]
    simp [sumAt, atI, hx]
theorem sumAt_nonneg {ml : List Int} (hp : ∀ x ∈ ml, 1 ≤ x) : ∀ o : List Nat, 0 ≤ sumAt ml o
  | [] => by simp [sumAt]
  | k :: o => by
    have h := sumAt_nonneg hp o
    have h2 : 0 ≤ atI ml k := by
      unfold atI
      cases hx : ml[k]? with
      | none => simp
      | some x => have := hp x (List.mem_of_getElem? hx); simp; omega
    simp only [sumAt]
    omega
theorem sumAt_filter {ml : List Int} (a : Nat) : ∀ o : List Nat, o.Nodup → sumAt ml o = sumAt ml (o.filter (fun x => decide (x ≠ a))) + if a ∈ o then atI ml a else 0
  | [], _ => by simp [sumAt]
  | k :: o, h => by
    rw [List.nodup_cons] at h
    have ih := sumAt_filter (ml := ml) a o h.2
    by_cases e : k = a
    · subst e
      rw [if_neg h.1] at ih
      simp [sumAt]
      simp at ih
      omega
    · have e2 : ¬ a = k := fun h => e h.symm
      simp [sumAt, e, e2]
      simp at ih
      omega
theorem sumAt_le {ml : List Int} (hp : ∀ x ∈ ml, 1 ≤ x) : ∀ (n : Nat) (o : List Nat), o.Nodup → (∀ k ∈ o, k < n) → sumAt ml o ≤ sumAt ml (List.range n)
  | 0, o, _, hl => by
    have : o = [] := by
      cases o with
      | nil => rfl
      | cons k o => have := hl k (by simp); omega
    subst this
    simp [sumAt]
  | n + 1, o, hn, hl => by
    have h1 := sumAt_filter (ml := ml) n o hn
    have h2 := sumAt_le hp n (o.filter (fun x => decide (x ≠ n))) (hn.sublist List.filter_sublist) (fun k hk => by
      simp only [List.mem_filter, decide_eq_true_eq] at hk
      have := hl k hk.1
      omega)
    rw [List.range_succ, sumAt_append]
    have h3 : 0 ≤ atI ml n := by
      have := sumAt_nonneg hp [n]
      simpa [sumAt] using this
    simp only [sumAt]
    split at h1 <;> omega
/-- Whether turns are valid. -/
def turnsOk (nf cyc : Int) (fl ml : List Int) : Bool := decide (fl.length = ml.length) && (fl.all (fun k => inF nf k) && (ml.all (fun m => decide (1 ≤ m)) && decide (sumM ml ≤ cyc)))
theorem turnsOk_iff {nf cyc : Int} {fl ml : List Int} : turnsOk nf cyc fl ml = true ↔ fl.length = ml.length ∧ (∀ k ∈ fl, 0 ≤ k ∧ k < nf) ∧ (∀ m ∈ ml, 1 ≤ m) ∧ sumM ml ≤ cyc := by
  simp [turnsOk, inF]
theorem usAll_snoc {nf cyc : Int} : ∀ (last : Int) (us : List Us) (u : Us), usAll nf cyc last (us ++ [u]) = (usAll nf cyc last us && usOk nf cyc ((us.getLast?.map (·.to)).getD last) u)
  | last, [], u => by simp [usAll]
  | last, x :: us, u => by
    simp only [List.cons_append, usAll, usAll_snoc x.to us u, Bool.and_assoc]
    congr 2
    cases us with
    | nil => simp
    | cons y us => simp [List.getLast?_cons]
/-- The row of an order is valid. -/
theorem row_ok {nf days : Int} {fl ml : List Int} (h : turnsOk nf (days * 1440) fl ml = true) : ∀ (o : List Nat), o.Nodup → (∀ k ∈ o, k < fl.length) → o.length ≤ 6 → usesOk nf days (rowSt fl ml o).1 = true := by
  obtain ⟨hl, hf, hm, hs⟩ := turnsOk_iff.1 h
  have key : ∀ (o : List Nat), o.Nodup → (∀ k ∈ o, k < fl.length) → usAll nf (days * 1440) 0 (rowSt fl ml o).1 = true := by
    intro o
    induction o using snoc_ind with
    | h0 => intro _ _; rfl
    | h1 o k ih =>
      intro hn hk
      have hn2 : o.Nodup := (List.nodup_append.1 hn).1
      have hk2 : k < fl.length := hk k (by simp)
      have hle := sumAt_le hm ml.length (o ++ [k]) hn (fun j hj => by have := hk j hj; omega)
      have htot : sumM ml = sumAt ml (List.range ml.length) := by
        have := sumM_range ml ml.length (Nat.le_refl _)
        rwa [List.take_length] at this
      rw [rowSt_snoc]
      simp only
      rw [usAll_snoc, ih hn2 (fun j hj => hk j (by simp [hj])), rowSt_last, Bool.true_and]
      have hfk : fl[k]? = some fl[k] := List.getElem?_eq_getElem hk2
      have hmk : ml[k]? = some ml[k] := List.getElem?_eq_getElem (by omega)
      have h1 := hf fl[k] (List.getElem_mem _)
      have h2 := hm ml[k] (List.getElem_mem _)
      have e1 : atI fl k = fl[k] := by unfold atI; rw [hfk]; rfl
      have e2 : atI ml k = ml[k] := by unfold atI; rw [hmk]; rfl
      have hsum := rowSt_sum fl ml o
      rw [sumAt_append] at hle
      simp only [sumAt] at hle
      rw [e2] at hle
      unfold usOk
      simp only [e1, e2]
      simp only [Bool.and_eq_true, decide_eq_true_eq, Bool.not_eq_true', decide_eq_false_iff_not]
      omega
  intro o hn hk h6o
  unfold usesOk
  rw [key o hn hk, rowSt_len]
  simp
  omega
/-- All orders that begin so, in ascending order. -/
def permsO (k : Nat) : Nat → List Nat → List (List Nat)
  | 0, now => [now]
  | d + 1, now => (List.range k).flatMap (fun j => if j ∈ now then [] else permsO k d (now ++ [j]))
/-- The best order so far. -/
def stO (val : List Nat → Int) (st : List Nat × Int) (o : List Nat) : List Nat × Int := if st.2 < val o then (o, val o) else st
def dfsO (val : List Nat → Int) (k d : Nat) (now : List Nat) (st : List Nat × Int) : List Nat × Int := (permsO k d now).foldl (stO val) st
/-- The same, where the first j turns have been tried. -/
def dfsTo (val : List Nat → Int) (k d : Nat) (now : List Nat) (st : List Nat × Int) (j : Nat) : List Nat × Int := ((List.range j).flatMap (fun j => if j ∈ now then [] else permsO k d (now ++ [j]))).foldl (stO val) st
theorem dfsTo_zero (val : List Nat → Int) (k d : Nat) (now : List Nat) (st : List Nat × Int) : dfsTo val k d now st 0 = st := rfl
theorem dfsTo_in {val : List Nat → Int} {k d : Nat} {now : List Nat} {st : List Nat × Int} {j : Nat} (h : j ∈ now) : dfsTo val k d now st (j + 1) = dfsTo val k d now st j := by
  unfold dfsTo
  rw [List.range_succ, List.flatMap_append, List.foldl_append]
  simp [h]
theorem dfsTo_new {val : List Nat → Int} {k d : Nat} {now : List Nat} {st : List Nat × Int} {j : Nat} (h : j ∉ now) : dfsTo val k d now st (j + 1) = dfsO val k d (now ++ [j]) (dfsTo val k d now st j) := by
  unfold dfsTo dfsO
  rw [List.range_succ, List.flatMap_append, List.foldl_append]
  simp [h]
theorem dfsTo_all (val : List Nat → Int) (k d : Nat) (now : List Nat) (st : List Nat × Int) : dfsTo val k d now st k = dfsO val k (d + 1) now st := rfl
/-- The digits of a number. -/
def digsO (k : Nat) : Nat → Nat → List Nat
  | 0, _ => []
  | t + 1, w => (w / k ^ t) % k :: digsO k t w
theorem digsO_len (k : Nat) : ∀ t w, (digsO k t w).length = t
  | 0, _ => rfl
  | t + 1, w => by simp [digsO, digsO_len k t w]
theorem digsO_add (k : Nat) (hk : 0 < k) : ∀ (d q r : Nat), digsO k d (q * k ^ d + r) = digsO k d r
  | 0, _, _ => rfl
  | d + 1, q, r => by
    have hp : 0 < k ^ d := Nat.pow_pos hk
    have e : q * k ^ (d + 1) + r = q * k * k ^ d + r := by rw [Nat.pow_succ, Nat.mul_comm (k ^ d) k, ← Nat.mul_assoc]
    simp only [digsO]
    rw [e, digsO_add k hk d (q * k) r]
    congr 1
    rw [Nat.add_comm, Nat.add_mul_div_right _ _ hp, Nat.add_mul_mod_self_right]
theorem range_mul (k m : Nat) : List.range (k * m) = (List.range k).flatMap (fun j => (List.range m).map (fun r => j * m + r)) := by
  induction k with
  | zero => simp
  | succ k ih =>
    rw [List.range_succ, List.flatMap_append, ← ih, Nat.add_mul, Nat.one_mul, List.range_add]
    simp
theorem flatMap_cong {α β : Type} {f g : α → List β} : ∀ {l : List α}, (∀ a ∈ l, f a = g a) → l.flatMap f = l.flatMap g
  | [], _ => rfl
  | a :: l, h => by rw [List.flatMap_cons, List.flatMap_cons, h a (by simp), flatMap_cong fun b hb => h b (by simp [hb])]
theorem words_perms (k : Nat) : ∀ (d : Nat) (now : List Nat), now.Nodup → (List.range (k ^ d)).flatMap (fun w => if (now ++ digsO k d w).Nodup then [now ++ digsO k d w] else []) = permsO k d now
  | 0, now, h => by simp [digsO, permsO, h]
  | d + 1, now, h => by
    rw [Nat.pow_succ, Nat.mul_comm, range_mul, List.flatMap_assoc]
    show _ = (List.range k).flatMap _
    refine flatMap_cong fun j hj => ?_
    have hjk : j < k := by simpa using hj
    have hk : 0 < k := by omega
    rw [List.flatMap_map]
    have hdig : ∀ r, r < k ^ d → digsO k (d + 1) (j * k ^ d + r) = j :: digsO k d r := fun r hr => by
      simp only [digsO]
      rw [digsO_add k hk]
      congr 1
      rw [Nat.add_comm, Nat.add_mul_div_right _ _ (Nat.pow_pos hk), Nat.div_eq_of_lt hr, Nat.zero_add, Nat.mod_eq_of_lt hjk]
    by_cases hm : j ∈ now
    · rw [if_pos hm]
      rw [List.flatMap_eq_nil_iff]
      intro r hr
      have hr2 : r < k ^ d := by simpa using hr
      show (if _ then _ else _) = _
      rw [hdig r hr2, if_neg]
      intro hn
      have := (List.nodup_append.1 hn).2.2 j hm j (by simp)
      exact this rfl
    · rw [if_neg hm, ← words_perms k d (now ++ [j]) (by
        rw [List.nodup_append]
        exact ⟨h, by simp, fun a ha b hb => by simp at hb; subst hb; exact fun e => hm (e ▸ ha)⟩)]
      refine flatMap_cong fun r hr => ?_
      have hr2 : r < k ^ d := by simpa using hr
      show (if _ then _ else _) = _
      rw [hdig r hr2]
      simp
/-- The best of the first w words. -/
def wordsTo (val : List Nat → Int) (k w : Nat) : List Nat × Int := (List.range w).foldl (fun st w => if (digsO k k w).Nodup then stO val st (digsO k k w) else st) ([], -1)
theorem wordsTo_succ (val : List Nat → Int) (k w : Nat) : wordsTo val k (w + 1) = if (digsO k k w).Nodup then stO val (wordsTo val k w) (digsO k k w) else wordsTo val k w := by
  unfold wordsTo
  rw [List.range_succ, List.foldl_append]
  rfl
theorem foldl_flat {α β γ : Type} (f : γ → β → γ) (g : α → List β) : ∀ (l : List α) (s : γ), (l.flatMap g).foldl f s = l.foldl (fun s a => (g a).foldl f s) s
  | [], s => rfl
  | a :: l, s => by rw [List.flatMap_cons, List.foldl_append, List.foldl_cons, foldl_flat f g l]
theorem words_dfs (val : List Nat → Int) (k : Nat) : wordsTo val k (k ^ k) = dfsO val k k [] ([], -1) := by
  unfold dfsO wordsTo
  rw [← words_perms k k [] List.nodup_nil, foldl_flat]
  congr 1
  funext s w
  simp only [List.nil_append]
  split <;> rfl
/-- What all fields get by an order for sure. -/
def valO (cs : List Ca) (fs : List Int) (dry cyc a b : Int) (fl ml : List Int) (o : List Nat) : Int := (sumS ⟨0, 0⟩ (watersK cs fs dry cyc a b (rowSt fl ml o).1 (rowSt fl ml o).1.length).1).lo
theorem sumS_bd2 {s : Sp} {xs : List Sp} {M N : Int} (h0 : 0 ≤ s.lo ∧ s.lo ≤ M) (h1 : 0 ≤ s.hi ∧ s.hi ≤ M) (hx : bdS N xs) (hN : 0 ≤ N) (k : Nat) (hk : k ≤ xs.length) :
    (0 ≤ (sumS s (xs.take k)).lo ∧ (sumS s (xs.take k)).lo ≤ M + k * N) ∧ (0 ≤ (sumS s (xs.take k)).hi ∧ (sumS s (xs.take k)).hi ≤ M + k * N) := by
  induction k with
  | zero => simp [sumS]; omega
  | succ k ih =>
    obtain ⟨h2, h3⟩ := ih (by omega)
    have hg : xs[k]? = some xs[k] := List.getElem?_eq_getElem (by omega)
    have hxk := hx _ (List.getElem_mem (by omega : k < xs.length))
    rw [sumS_snoc hg]
    simp only [addS]
    have e : ((k + 1 : Nat) : Int) * N = (k : Int) * N + N := by rw [Int.natCast_add, Int.add_mul]; simp
    omega
/-- The fields' rows of waters have sums that nothing overflows. -/
theorem waters_sums {cs : List Ca} {fs : List Int} {dry days a b : Int} {us : List Us} (hok : netOk cs fs dry days = true) (huo : usesOk fs.length days us = true) (hs : Sp.ok 0 13000000 ⟨a, b⟩ = true) :
    bdS 60000000000000 (watersK cs fs dry (days * 1440) a b us us.length).1 ∧ (∀ k, k ≤ (watersK cs fs dry (days * 1440) a b us us.length).1.length → (0 ≤ (sumS ⟨0, 0⟩ ((watersK cs fs dry (days * 1440) a b us us.length).1.take k)).lo ∧ (sumS ⟨0, 0⟩ ((watersK cs fs dry (days * 1440) a b us us.length).1.take k)).lo ≤ 1000000000000000) ∧ (0 ≤ (sumS ⟨0, 0⟩ ((watersK cs fs dry (days * 1440) a b us us.length).1.take k)).hi ∧ (sumS ⟨0, 0⟩ ((watersK cs fs dry (days * 1440) a b us us.length).1.take k)).hi ≤ 1000000000000000)) := by
  obtain ⟨h1, _, h3, _⟩ := watersK_bd (dry := dry) hok huo hs us.length (Nat.le_refl _)
  have hl := usesOk_len huo
  have hf := (netOk_parts hok).2.1
  have hb : bdS 60000000000000 (watersK cs fs dry (days * 1440) a b us us.length).1 := fun x hx => by
    have := h1 x hx
    omega
  refine ⟨hb, fun k hk => ?_⟩
  have := sumS_bd2 (s := ⟨0, 0⟩) (M := 0) (by simp) (by simp) hb (by omega) k hk
  rw [h3] at hk
  have hk2 : (k : Int) * 60000000000000 ≤ 12 * 60000000000000 := by omega
  omega
end Go.Proofs.Ytgklcilpohkpkaa
