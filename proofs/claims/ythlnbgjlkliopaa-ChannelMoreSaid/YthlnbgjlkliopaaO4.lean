/- Channel: the best order: the plain law; sums; Clone; what the search holds on to; the next index. -/
import Derived.Test.YthlnbgjlkliopaaW5
import Derived.Test.YthlnbgjlkliopaaW7
import Derived.Test.YthlnbgjlkliopaaR8
import Derived.WalkMore
set_option linter.unusedVariables false
set_option linter.unusedSimpArgs false
namespace Go.Proofs.Ythlnbgjlkliopaa
open Go.RowKit Go.Shelf
theorem snoc_ind {α : Type} {p : List α → Prop} (h0 : p []) (h1 : ∀ l a, p l → p (l ++ [a])) (l : List α) : p l := by
  have h : ∀ m : List α, p m.reverse := by
    intro m
    induction m with
    | nil => exact h0
    | cons a m ih => rw [List.reverse_cons]; exact h1 _ _ ih
  have := h l.reverse
  rwa [List.reverse_reverse] at this
/-- The value of a list at a number. -/
def atI (l : List Int) (k : Nat) : Int := l[k]?.getD 0
/-- The uses of turns in an order, and when the last one ends. -/
def rowSt (fl ml : List Int) (o : List Nat) : List Us × Int := o.foldl (fun st k => (st.1 ++ [⟨atI fl k, st.2, st.2 + atI ml k⟩], st.2 + atI ml k)) ([], 0)
theorem rowSt_snoc (fl ml : List Int) (o : List Nat) (k : Nat) : rowSt fl ml (o ++ [k]) = ((rowSt fl ml o).1 ++ [⟨atI fl k, (rowSt fl ml o).2, (rowSt fl ml o).2 + atI ml k⟩], (rowSt fl ml o).2 + atI ml k) := by
  unfold rowSt
  rw [List.foldl_append]
  rfl
theorem rowSt_len (fl ml : List Int) (o : List Nat) : (rowSt fl ml o).1.length = o.length := by
  induction o using snoc_ind with
  | h0 => rfl
  | h1 o k ih => rw [rowSt_snoc]; simp [ih]
theorem rowSt_last (fl ml : List Int) (o : List Nat) : ((rowSt fl ml o).1.getLast?.map (·.to)).getD 0 = (rowSt fl ml o).2 := by
  induction o using snoc_ind with
  | h0 => rfl
  | h1 o k ih => rw [rowSt_snoc]; simp
/-- The sum of what a list says at some numbers. -/
def sumAt (ml : List Int) : List Nat → Int
  | [] => 0
  | k :: o => atI ml k + sumAt ml o
theorem sumAt_append (ml : List Int) : ∀ (o p : List Nat), sumAt ml (o ++ p) = sumAt ml o + sumAt ml p
  | [], p => by simp [sumAt]
  | k :: o, p => by simp [sumAt, sumAt_append ml o p]; omega
theorem rowSt_sum (fl ml : List Int) (o : List Nat) : (rowSt fl ml o).2 = sumAt ml o := by
  induction o using snoc_ind with
  | h0 => rfl
  | h1 o k ih => rw [rowSt_snoc, sumAt_append]; simp [sumAt, ih]
/-- What all turns take. -/
def sumM (ml : List Int) : Int := ml.foldl (· + ·) 0
theorem sumM_snoc {ml : List Int} {k : Nat} {x : Int} (h : ml[k]? = some x) : sumM (ml.take (k + 1)) = sumM (ml.take k) + x := by
  unfold sumM
  rw [List.take_add_one, h]
  simp
theorem sumM_range (ml : List Int) : ∀ k, k ≤ ml.length → sumM (ml.take k) = sumAt ml (List.range k)
  | 0, _ => rfl
  | k + 1, h => by
    have hx : ml[k]? = some ml[k] := List.getElem?_eq_getElem (by omega)
    rw [sumM_snoc hx, List.range_succ, sumAt_append, sumM_range ml k (by omega)]
    simp [sumAt, atI, hx]
theorem sumAt_nonneg {ml : List Int} (hp : ∀ x ∈ ml, 1 ≤ x) : ∀ o : List Nat, 0 ≤ sumAt ml o
  | [] => by simp [sumAt]
  | k :: o => by
    have h := sumAt_nonneg hp o
    have h2 : 0 ≤ atI ml k := by
      unfold atI
      cases hx : ml[k]? with
      | none => simp
      | some x => have := hp x (List.mem_of_getElem? hx); simp; omega
    simp only [sumAt]
    omega
theorem sumAt_filter {ml : List Int} (a : Nat) : ∀ o : List Nat, o.Nodup → sumAt ml o = sumAt ml (o.filter (fun x => decide (x ≠ a))) + if a ∈ o then atI ml a else 0
  | [], _ => by simp [sumAt]
  | k :: o, h => by
    rw [List.nodup_cons] at h
    have ih := sumAt_filter (ml := ml) a o h.2
    by_cases e : k = a
    · subst e
      rw [if_neg h.1] at ih
      simp [sumAt]
      simp at ih
      omega
    · have e2 : ¬ a = k := fun h => e h.symm
      simp [sumAt, e, e2]
      simp at ih
      omega
theorem sumAt_le {ml : List Int} (hp : ∀ x ∈ ml, 1 ≤ x) : ∀ (n : Nat) (o : List Nat), o.Nodup → (∀ k ∈ o, k < n) → sumAt ml o ≤ sumAt ml (List.range n)
  | 0, o, _, hl => by
    have : o = [] := by
      cases o with
      | nil => rfl
      | cons k o => have := hl k (by simp); omega
    subst this
    simp [sumAt]
  | n + 1, o, hn, hl => by
    have h1 := sumAt_filter (ml := ml) n o hn
    have h2 := sumAt_le hp n (o.filter (fun x => decide (x ≠ n))) (hn.sublist List.filter_sublist) (fun k hk => by
      simp only [List.mem_filter, decide_eq_true_eq] at hk
      have := hl k hk.1
      omega)
    rw [List.range_succ, sumAt_append]
    have h3 : 0 ≤ atI ml n := by
      have := sumAt_nonneg hp [n]
      simpa [sumAt] using this
    simp only [sumAt]
    split at h1 <;> omega
/-- Whether turns are valid. -/
def turnsOk (nf cyc : Int) (fl ml : List Int) : Bool := decide (fl.length = ml.length) && (fl.all (fun k => inF nf k) && (ml.all (fun m => decide (1 ≤ m)) && decide (sumM ml ≤ cyc)))
theorem turnsOk_iff {nf cyc : Int} {fl ml : List Int} : turnsOk nf cyc fl ml = true ↔ fl.length = ml.length ∧ (∀ k ∈ fl, 0 ≤ k ∧ k < nf) ∧ (∀ m ∈ ml, 1 ≤ m) ∧ sumM ml ≤ cyc := by
  simp [turnsOk, inF]
theorem usAll_snoc {nf cyc : Int} : ∀ (last : Int) (us : List Us) (u : Us), usAll nf cyc last (us ++ [u]) = (usAll nf cyc last us && usOk nf cyc ((us.getLast?.map (·.to)).getD last) u)
  | last, [], u => by simp [usAll]
  | last, x :: us, u => by
    simp only [List.cons_append, usAll, usAll_snoc x.to us u, Bool.and_assoc]
    congr 2
    cases us with
    | nil => simp
    | cons y us => simp [List.getLast?_cons]
/-- The row of an order is valid. -/
theorem row_ok {nf days : Int} {fl ml : List Int} (h : turnsOk nf (days * 1440) fl ml = true) : ∀ (o : List Nat), o.Nodup → (∀ k ∈ o, k < fl.length) → o.length ≤ 6 → usesOk nf days (rowSt fl ml o).1 = true := by
  obtain ⟨hl, hf, hm, hs⟩ := turnsOk_iff.1 h
  have key : ∀ (o : List Nat), o.Nodup → (∀ k ∈ o, k < fl.length) → usAll nf (days * 1440) 0 (rowSt fl ml o).1 = true := by
    intro o
    induction o using snoc_ind with
    | h0 => intro _ _; rfl
    | h1 o k ih =>
      intro hn hk
      have hn2 : o.Nodup := (List.nodup_append.1 hn).1
      have hk2 : k < fl.length := hk k (by simp)
      have hle := sumAt_le hm ml.length (o ++ [k]) hn (fun j hj => by have := hk j hj; omega)
      have htot : sumM ml = sumAt ml (List.range ml.length) := by
        have := sumM_range ml ml.length (Nat.le_refl _)
        rwa [List.take_length] at this
      rw [rowSt_snoc]
      simp only
      rw [usAll_snoc, ih hn2 (fun j hj => hk j (by simp [hj])), rowSt_last, Bool.true_and]
      have hfk : fl[k]? = some fl[k] := List.getElem?_eq_getElem hk2
      have hmk : ml[k]? = some ml[k] := List.getElem?_eq_getElem (by omega)
      have h1 := hf fl[k] (List.getElem_mem _)
      have h2 := hm ml[k] (List.getElem_mem _)
      have e1 : atI fl k = fl[k] := by unfold atI; rw [hfk]; rfl
      have e2 : atI ml k = ml[k] := by unfold atI; rw [hmk]; rfl
      have hsum := rowSt_sum fl ml o
      rw [sumAt_append] at hle
      simp only [sumAt] at hle
      rw [e2] at hle
      unfold usOk
      simp only [e1, e2]
      simp only [Bool.and_eq_true, decide_eq_true_eq, Bool.not_eq_true', decide_eq_false_iff_not]
      omega
  intro o hn hk h6o
  unfold usesOk
  rw [key o hn hk, rowSt_len]
  simp
  omega
/-- All orders that begin so, in ascending order. -/
def permsO (k : Nat) : Nat → List Nat → List (List Nat)
  | 0, now => [now]
  | d + 1, now => (List.range k).flatMap (fun j => if j ∈ now then [] else permsO k d (now ++ [j]))
/-- The best order so far. -/
def stO (val : List Nat → Int) (st : List Nat × Int) (o : List Nat) : List Nat × Int := if st.2 < val o then (o, val o) else st
def dfsO (val : List Nat → Int) (k d : Nat) (now : List Nat) (st : List Nat × Int) : List Nat × Int := (permsO k d now).foldl (stO val) st
/-- The same, where the first j turns have been tried. -/
def dfsTo (val : List Nat → Int) (k d : Nat) (now : List Nat) (st : List Nat × Int) (j : Nat) : List Nat × Int := ((List.range j).flatMap (fun j => if j ∈ now then [] else permsO k d (now ++ [j]))).foldl (stO val) st
theorem dfsTo_zero (val : List Nat → Int) (k d : Nat) (now : List Nat) (st : List Nat × Int) : dfsTo val k d now st 0 = st := rfl
theorem dfsTo_in {val : List Nat → Int} {k d : Nat} {now : List Nat} {st : List Nat × Int} {j : Nat} (h : j ∈ now) : dfsTo val k d now st (j + 1) = dfsTo val k d now st j := by
  unfold dfsTo
  rw [List.range_succ, List.flatMap_append, List.foldl_append]
  simp [h]
theorem dfsTo_new {val : List Nat → Int} {k d : Nat} {now : List Nat} {st : List Nat × Int} {j : Nat} (h : j ∉ now) : dfsTo val k d now st (j + 1) = dfsO val k d (now ++ [j]) (dfsTo val k d now st j) := by
  unfold dfsTo dfsO
  rw [List.range_succ, List.flatMap_append, List.foldl_append]
  simp [h]
theorem dfsTo_all (val : List Nat → Int) (k d : Nat) (now : List Nat) (st : List Nat × Int) : dfsTo val k d now st k = dfsO val k (d + 1) now st := rfl
/-- The digits of a number. -/
def digsO (k : Nat) : Nat → Nat → List Nat
  | 0, _ => []
  | t + 1, w => (w / k ^ t) % k :: digsO k t w
theorem digsO_len (k : Nat) : ∀ t w, (digsO k t w).length = t
  | 0, _ => rfl
  | t + 1, w => by simp [digsO, digsO_len k t w]
theorem digsO_add (k : Nat) (hk : 0 < k) : ∀ (d q r : Nat), digsO k d (q * k ^ d + r) = digsO k d r
  | 0, _, _ => rfl
  | d + 1, q, r => by
    have hp : 0 < k ^ d := Nat.pow_pos hk
    have e : q * k ^ (d + 1) + r = q * k * k ^ d + r := by rw [Nat.pow_succ, Nat.mul_comm (k ^ d) k, ← Nat.mul_assoc]
    simp only [digsO]
    rw [e, digsO_add k hk d (q * k) r]
    congr 1
    rw [Nat.add_comm, Nat.add_mul_div_right _ _ hp, Nat.add_mul_mod_self_right]
theorem range_mul (k m : Nat) : List.range (k * m) = (List.range k).flatMap (fun j => (List.range m).map (fun r => j * m + r)) := by
  induction k with
  | zero => simp
  | succ k ih =>
    rw [List.range_succ, List.flatMap_append, ← ih, Nat.add_mul, Nat.one_mul, List.range_add]
    simp
theorem flatMap_cong {α β : Type} {f g : α → List β} : ∀ {l : List α}, (∀ a ∈ l, f a = g a) → l.flatMap f = l.flatMap g
  | [], _ => rfl
  | a :: l, h => by rw [List.flatMap_cons, List.flatMap_cons, h a (by simp), flatMap_cong fun b hb => h b (by simp [hb])]
theorem words_perms (k : Nat) : ∀ (d : Nat) (now : List Nat), now.Nodup → (List.range (k ^ d)).flatMap (fun w => if (now ++ digsO k d w).Nodup then [now ++ digsO k d w] else []) = permsO k d now
  | 0, now, h => by simp [digsO, permsO, h]
  | d + 1, now, h => by
    rw [Nat.pow_succ, Nat.mul_comm, range_mul, List.flatMap_assoc]
    show _ = (List.range k).flatMap _
    refine flatMap_cong fun j hj => ?_
    have hjk : j < k := by simpa using hj
    have hk : 0 < k := by omega
    rw [List.flatMap_map]
    have hdig : ∀ r, r < k ^ d → digsO k (d + 1) (j * k ^ d + r) = j :: digsO k d r := fun r hr => by
      simp only [digsO]
      rw [digsO_add k hk]
      congr 1
      rw [Nat.add_comm, Nat.add_mul_div_right _ _ (Nat.pow_pos hk), Nat.div_eq_of_lt hr, Nat.zero_add, Nat.mod_eq_of_lt hjk]
    by_cases hm : j ∈ now
    · rw [if_pos hm]
      rw [List.flatMap_eq_nil_iff]
      intro r hr
      have hr2 : r < k ^ d := by simpa using hr
      show (if _ then _ else _) = _
      rw [hdig r hr2, if_neg]
      intro hn
      have := (List.nodup_append.1 hn).2.2 j hm j (by simp)
      exact this rfl
    · rw [if_neg hm, ← words_perms k d (now ++ [j]) (by
        rw [List.nodup_append]
        exact ⟨h, by simp, fun a ha b hb => by simp at hb; subst hb; exact fun e => hm (e ▸ ha)⟩)]
      refine flatMap_cong fun r hr => ?_
      have hr2 : r < k ^ d := by simpa using hr
      show (if _ then _ else _) = _
      rw [hdig r hr2]
      simp
/-- The best of the first w words. -/
def wordsTo (val : List Nat → Int) (k w : Nat) : List Nat × Int := (List.range w).foldl (fun st w => if (digsO k k w).Nodup then stO val st (digsO k k w) else st) ([], -1)
theorem wordsTo_succ (val : List Nat → Int) (k w : Nat) : wordsTo val k (w + 1) = if (digsO k k w).Nodup then stO val (wordsTo val k w) (digsO k k w) else wordsTo val k w := by
  unfold wordsTo
  rw [List.range_succ, List.foldl_append]
  rfl
theorem foldl_flat {α β γ : Type} (f : γ → β → γ) (g : α → List β) : ∀ (l : List α) (s : γ), (l.flatMap g).foldl f s = l.foldl (fun s a => (g a).foldl f s) s
  | [], s => rfl
  | a :: l, s => by rw [List.flatMap_cons, List.foldl_append, List.foldl_cons, foldl_flat f g l]
theorem words_dfs (val : List Nat → Int) (k : Nat) : wordsTo val k (k ^ k) = dfsO val k k [] ([], -1) := by
  unfold dfsO wordsTo
  rw [← words_perms k k [] List.nodup_nil, foldl_flat]
  congr 1
  funext s w
  simp only [List.nil_append]
  split <;> rfl
/-- What all fields get by an order for sure. -/
def valO (cs : List Ca) (fs : List Int) (dry cyc a b : Int) (fl ml : List Int) (o : List Nat) : Int := (sumS ⟨0, 0⟩ (watersK cs fs dry cyc a b (rowSt fl ml o).1 (rowSt fl ml o).1.length).1).lo
theorem sumS_bd2 {s : Sp} {xs : List Sp} {M N : Int} (h0 : 0 ≤ s.lo ∧ s.lo ≤ M) (h1 : 0 ≤ s.hi ∧ s.hi ≤ M) (hx : bdS N xs) (hN : 0 ≤ N) (k : Nat) (hk : k ≤ xs.length) :
    (0 ≤ (sumS s (xs.take k)).lo ∧ (sumS s (xs.take k)).lo ≤ M + k * N) ∧ (0 ≤ (sumS s (xs.take k)).hi ∧ (sumS s (xs.take k)).hi ≤ M + k * N) := by
  induction k with
  | zero => simp [sumS]; omega
  | succ k ih =>
    obtain ⟨h2, h3⟩ := ih (by omega)
    have hg : xs[k]? = some xs[k] := List.getElem?_eq_getElem (by omega)
    have hxk := hx _ (List.getElem_mem (by omega : k < xs.length))
    rw [sumS_snoc hg]
    simp only [addS]
    have e : ((k + 1 : Nat) : Int) * N = (k : Int) * N + N := by rw [Int.natCast_add, Int.add_mul]; simp
    omega
/-- The fields' rows of waters have sums that nothing overflows. -/
theorem waters_sums {cs : List Ca} {fs : List Int} {dry days a b : Int} {us : List Us} (hok : netOk cs fs dry days = true) (huo : usesOk fs.length days us = true) (hs : Sp.ok 0 13000000 ⟨a, b⟩ = true) :
    bdS 60000000000000 (watersK cs fs dry (days * 1440) a b us us.length).1 ∧ (∀ k, k ≤ (watersK cs fs dry (days * 1440) a b us us.length).1.length → (0 ≤ (sumS ⟨0, 0⟩ ((watersK cs fs dry (days * 1440) a b us us.length).1.take k)).lo ∧ (sumS ⟨0, 0⟩ ((watersK cs fs dry (days * 1440) a b us us.length).1.take k)).lo ≤ 1000000000000000) ∧ (0 ≤ (sumS ⟨0, 0⟩ ((watersK cs fs dry (days * 1440) a b us us.length).1.take k)).hi ∧ (sumS ⟨0, 0⟩ ((watersK cs fs dry (days * 1440) a b us us.length).1.take k)).hi ≤ 1000000000000000)) := by
  obtain ⟨h1, _, h3, _⟩ := watersK_bd (dry := dry) hok huo hs us.length (Nat.le_refl _)
  have hl := usesOk_len huo
  have hf := (netOk_parts hok).2.1
  have hb : bdS 60000000000000 (watersK cs fs dry (days * 1440) a b us us.length).1 := fun x hx => by
    have := h1 x hx
    omega
  refine ⟨hb, fun k hk => ?_⟩
  have := sumS_bd2 (s := ⟨0, 0⟩) (M := 0) (by simp) (by simp) hb (by omega) k hk
  rw [h3] at hk
  have hk2 : (k : Int) * 60000000000000 ≤ 12 * 60000000000000 := by omega
  omega
end Go.Proofs.Ythlnbgjlkliopaa
namespace Go.Proofs.Ythlnbgjlkliopaa
open Go.RowKit Go.Shelf
attribute [local go_sem ↓] Go.wp_at_zero Go.wp_at_succ
set_option maxHeartbeats 4000000 in
set_option maxRecDepth 100000 in
theorem sum_big (A : Option Addr) (n c : Nat) (xs : List Sp) (w : World) (hr : Rd w w.heap.size Sp.cells A xs) (hn : n = xs.length) (hn2 : n ≤ 1000) (hb : bdS 60000000000000 xs)
    (hs : ∀ k, k ≤ xs.length → (0 ≤ (sumS ⟨0, 0⟩ (xs.take k)).lo ∧ (sumS ⟨0, 0⟩ (xs.take k)).lo ≤ 1000000000000000) ∧ (0 ≤ (sumS ⟨0, 0⟩ (xs.take k)).hi ∧ (sumS ⟨0, 0⟩ (xs.take k)).hi ≤ 1000000000000000)) :
    Calls Try.prog 42 #[.agg #[.int .i64 0, .int .i64 0], .slice A n c] w fun e w' => e = .returned (.agg #[.int .i64 (sumS ⟨0, 0⟩ xs).lo, .int .i64 (sumS ⟨0, 0⟩ xs).hi]) ∧ Below w.heap.size w w' := by
  have Hr := hide hr; have Hn := hide hn
  have Hbd := hide hs
  have Hx := hide hb
  clear hr hn hb hs
  have hS := sc_new w 0 0 27 27
  go_enter Try.func42, Try.ntmps42
  go_wp2_with fail
  go_loopw [9] (fun i wr => ∃ k : Nat, k ≤ n ∧ i = .int .i64 k ∧ SC w wr w.heap.size (sumS ⟨0, 0⟩ (xs.take k)) (w.heap.size + 1)) (fun i _ => n - (intOf i).toNat)
  case atStart => exact ⟨0, by omega, rfl, hS⟩
  case round =>
    clear hS
    obtain ⟨k, hk, rfl, hS⟩ := hrel
    obtain ⟨B1, B2⟩ := Hbd.out k (by have := Hn.out; omega)
    obtain ⟨s, hs⟩ : ∃ s, s = sumS ⟨0, 0⟩ (xs.take k) := ⟨_, rfl⟩
    rw [← hs] at B1 B2 hS
    obtain ⟨lo, hi⟩ := s
    dsimp only at B1 B2
    have Hs := hide hs; clear hs
    by_cases hlt : k < n
    · obtain ⟨b, off, x0, x1, rfl, hbB, hxk, c0, c1⟩ := Hr.out.sp (i := k) (by have := Hn.out; omega)
      have hxa := Hx.out _ (List.mem_of_getElem? hxk)
      obtain ⟨⟨x2, x3⟩, x4, x5⟩ := hxa
      dsimp only at x2 x3 x4 x5
      have hcb := hS.bl
      have c0 := (hcb.cell (p := ⟨b, off + k * 2, none⟩) hbB).trans c0
      have c1 := (hcb.cell (p := ⟨b, off + k * 2 + 1, none⟩) hbB).trans c1
      have hi0 : (0 : Int) ≤ (k : Int) := by omega
      have hi1 : (k : Int) < (n : Int) := by omega
      obtain ⟨q0, q1⟩ := hS.a1.c2
      have y0 := hS.f1 0
      have y1 := hS.f1 1
      have hlb := hS.a1.1
      go_wp2_with fail
      refine ⟨⟨k + 1, by omega, by go_num, ?_⟩, by simp [intOf]; omega⟩
      have hz := (hS.set (lo + x0) (hi + x1)).keep (below_new _ (.cells #[.int .i64 x0, .int .i64 x1] 27))
      rw [sumS_snoc hxk, ← Hs.out]
      exact hz
    · obtain rfl : k = n := by omega
      obtain ⟨q0, q1⟩ := hS.a1.c2
      obtain ⟨p0, p1⟩ := hS.rr.c2
      have y0 := hS.fz 0
      have y1 := hS.fz 1
      obtain ⟨k0, k1⟩ := two_set _ _ (.int .i64 lo) (.int .i64 hi) p0 p1
      go_wp2
      refine bodyPost_ret (by simp [results, Try.results42, go_sem, k0, k1]; try rfl) rfl ⟨?_, (hS.bl.setCell hS.le _).setCell hS.le _⟩
      have hz := Hs.out
      rw [Hn.out, List.take_length] at hz
      rw [← hz]
theorem eql_slice_nil (w : World) : (binOp .eql 23 (.slice none 0 0) (.slice none 0 0)).run Try.prog w = .ok (.bool true) w := by kernel_rfl
theorem eql_slice_some (g l c : Nat) (w : World) : (binOp .eql 23 (.slice (some ⟨g, 0, none⟩) l c) (.slice none 0 0)).run Try.prog w = .ok (.bool false) w := by kernel_rfl
attribute [local go_sem] eql_slice_nil eql_slice_some
set_option maxHeartbeats 4000000 in
set_option maxRecDepth 100000 in
/-- A clone is a row of its own. -/
theorem clone_int {base : Nat} (v : Value) (xs : List Int) (w : World) (hx : Own w base 3 1 icell v xs) (hl : xs.length ≤ 1000) :
    Calls Try.prog 43 #[v] w fun e w' => ∃ u, e = .returned u ∧ Own w' w.heap.size 3 1 icell u xs ∧ Below w.heap.size w w' := by
  obtain ⟨A, c, rfl, hr⟩ := hx.rd
  have hx2 := hx
  obtain ⟨_, hn | ⟨g, cap, cur, hv, _⟩⟩ := hx2
  · obtain ⟨e1, e2⟩ := hn
    have : xs = [] := List.length_eq_zero_iff.1 e2
    subst this
    injection e1 with e1 _ e3
    subst e1 e3
    clear hx hr
    go_enter Try.func43, Try.ntmps43
    go_wp2
    go_ret
    exact ⟨_, rfl, Own.nil _ _ _ _ _, Below.refl _ _⟩
  · injection hv with e1 _ e3
    subst e1 e3
    have hz3 : (w.alloc (.cells #[] 3)).heap.size = w.heap.size + 1 := by simp
    have Hl0 := hide (lit0 (cells := icell) w 3 1 w.heap.size (fun _ => rfl) (Nat.le_refl _))
    have Hr0 := hide (hr.below (below_new w (.cells #[] 3)))
    clear hx hr
    go_enter Try.func43, Try.ntmps43
    go_wp2_with (at_builtin; refine wpList_app (v := .slice (some ⟨w.heap.size, 0, none⟩) 0 0) (xs := []) (ys := xs) (n := xs.length) el_int rfl (.tmp 5) (.tmp 6) rfl rfl Hl0.out rfl rfl Hr0.out (by simp; omega) (by rw [hz3]; omega) ?_; intro vv wv hown1 hg1 hat1; have Hown1 := hide hown1; have Hkv := hide (kept_app2 (W := w.alloc (.cells #[] 3)) Hl0.out (Below.refl _ _) hg1); clear hown1 hg1 hat1)
    go_ret
    have hkv : Kept (fun b => b < w.heap.size) w wv := (Kept.all (fun _ => True) (below_new w _)).mono (fun _ _ _ => trivial) |>.trans (Hkv.out.mono fun b _ hb e => by simp [Value.ownBlock] at e; omega)
    exact ⟨_, rfl, Hown1.out, hkv.below (fun b h => h) (Nat.le_refl _)⟩
end Go.Proofs.Ythlnbgjlkliopaa
namespace Go.Proofs.Ythlnbgjlkliopaa
open Go.RowKit Go.Shelf
def ints (o : List Nat) : List Int := o.map (fun k : Nat => (k : Int))
theorem ints_snoc (o : List Nat) (k : Nat) : ints (o ++ [k]) = ints o ++ [(k : Int)] := by simp [ints]
theorem ints_len (o : List Nat) : (ints o).length = o.length := by simp [ints]
/-- Where all lies. -/
structure OrdP where
  bL : Nat
  bF : Nat
  bM : Nat
  bO : Nat
  bT : Nat
  bX : Nat
  bn : Nat
  bU : Nat
  bN : Nat
  base : Nat
  Ac : Option Addr
  Af : Option Addr
  Aff : Option Addr
  Am : Option Addr
  nc : Nat
  cc : Nat
  nf : Nat
  cf : Nat
  nk : Nat
  cff : Nat
  cm : Nat
  dry : Int
  days : Int
  a : Int
  b : Int
  cs : List Ca
  fs : List Int
  fl : List Int
  ml : List Int
def OrdP.net (p : OrdP) : List Value := [.slice p.Ac p.nc p.cc, .slice p.Af p.nf p.cf, .int .i64 p.dry, .int .i64 p.days]
def OrdP.caps (p : OrdP) : Array Value := #[.pointer (some ⟨p.bn, 0, none⟩), .pointer (some ⟨p.bF, 0, none⟩), .pointer (some ⟨p.bX, 0, none⟩), .pointer (some ⟨p.bL, 0, none⟩), .pointer (some ⟨p.bU, 0, none⟩), .pointer (some ⟨p.bT, 0, none⟩), .pointer (some ⟨p.bO, 0, none⟩), .pointer (some ⟨p.bM, 0, none⟩), .pointer (some ⟨p.bN, 0, none⟩)]
def OrdP.val (p : OrdP) (o : List Nat) : Int := valO p.cs p.fs p.dry (p.days * 1440) p.a p.b p.fl p.ml o
/-- What is given. -/
structure OrdC (w0 : World) (p : OrdP) : Prop where
  l0 : w0.heap.size ≤ p.bL
  l1 : p.bL < p.bF
  l2 : p.bF < p.bM
  l3 : p.bM < p.bO
  l4 : p.bO < p.bT
  l5 : p.bT < p.bX
  l6 : p.bX < p.bn
  l7 : p.bn < p.bU
  l8 : p.bU < p.bN
  l9 : p.bN < p.base
  net : NetAt w0 p.Ac p.Af p.nc p.nf p.cs p.fs
  rf : Rd w0 w0.heap.size icell p.Aff p.fl
  rm : Rd w0 w0.heap.size icell p.Am p.ml
  ek : p.nk = p.fl.length
  em : p.nk = p.ml.length
  ok : netOk p.cs p.fs p.dry p.days = true
  sp : Sp.ok 0 13000000 ⟨p.a, p.b⟩ = true
  tn : turnsOk p.nf (p.days * 1440) p.fl p.ml = true
  k6 : p.nk ≤ 6
/-- What stands, the rows named. -/
structure OrdQ (w0 : World) (p : OrdP) (ns : List Int) (us : List Us) (os : List Int) (t : Int) (vN vU vO : Value) (W : World) : Prop where
  net : At W p.bX p.net
  flw : At W p.bL [.int .i64 p.a, .int .i64 p.b]
  fb : At W p.bF [.slice p.Aff p.nk p.cff]
  mb : At W p.bM [.slice p.Am p.nk p.cm]
  nx : At W p.bN [.func (.func 41) #[] p.caps]
  tot : At W p.bT [.int .i64 t]
  hN : At W p.bn [vN]
  hU : At W p.bU [vU]
  hO : At W p.bO [vO]
  oN : Own W p.base 3 1 icell vN ns
  oU : Own W p.base 47 3 Us.cells vU us
  oO : Own W p.base 3 1 icell vO os
  s1 : ∀ g, vN.ownBlock = some g → ¬ vU.ownBlock = some g ∧ ¬ vO.ownBlock = some g
  s2 : ∀ g, vU.ownBlock = some g → ¬ vO.ownBlock = some g
  fn : W.frozen? ⟨p.bn, 0, none⟩ = false
  fu : W.frozen? ⟨p.bU, 0, none⟩ = false
  ft : W.frozen? ⟨p.bT, 0, none⟩ = false
  fo : W.frozen? ⟨p.bO, 0, none⟩ = false
  bl : Below w0.heap.size w0 W
  sz : p.base ≤ W.heap.size
def OrdS (w0 : World) (p : OrdP) (now : List Nat) (st : List Nat × Int) (W : World) : Prop := ∃ vN vU vO, OrdQ w0 p (ints now) (rowSt p.fl p.ml now).1 (ints st.1) st.2 vN vU vO W
section
variable {w0 W W' : World} {p : OrdP} {ns : List Int} {us : List Us} {os : List Int} {t : Int} {vN vU vO : Value}
theorem OrdQ.kept {R : Nat → Prop} (h : OrdQ w0 p ns us os t vN vU vO W) (hc : OrdC w0 p) (hk : Kept R W W') (h0 : ∀ x, x < p.base → R x) (r1 : ∀ g, vN.ownBlock = some g → R g) (r2 : ∀ g, vU.ownBlock = some g → R g) (r3 : ∀ g, vO.ownBlock = some g → R g) : OrdQ w0 p ns us os t vN vU vO W' := by
  obtain ⟨l0, l1, l2, l3, l4, l5, l6, l7, l8, l9, _, _, _, _, _, _, _, _, _⟩ := hc
  have hs := h.sz
  exact ⟨h.net.kept hk (h0 _ (by omega)), h.flw.kept hk (h0 _ (by omega)), h.fb.kept hk (h0 _ (by omega)), h.mb.kept hk (h0 _ (by omega)), h.nx.kept hk (h0 _ (by omega)), h.tot.kept hk (h0 _ (by omega)), h.hN.kept hk (h0 _ (by omega)), h.hU.kept hk (h0 _ (by omega)), h.hO.kept hk (h0 _ (by omega)),
    h.oN.keptB hk r1, h.oU.keptB hk r2, h.oO.keptB hk r3, h.s1, h.s2,
    (hk.frozen (p := ⟨p.bn, 0, none⟩) (h0 _ (by show p.bn < _; omega)) (by show p.bn < _; omega)).trans h.fn, (hk.frozen (p := ⟨p.bU, 0, none⟩) (h0 _ (by show p.bU < _; omega)) (by show p.bU < _; omega)).trans h.fu,
    (hk.frozen (p := ⟨p.bT, 0, none⟩) (h0 _ (by show p.bT < _; omega)) (by show p.bT < _; omega)).trans h.ft, (hk.frozen (p := ⟨p.bO, 0, none⟩) (h0 _ (by show p.bO < _; omega)) (by show p.bO < _; omega)).trans h.fo,
    h.bl.trans (hk.below (fun b hb => h0 b (by omega)) h.bl.size), Nat.le_trans h.sz hk.size⟩
theorem OrdQ.below (h : OrdQ w0 p ns us os t vN vU vO W) (hc : OrdC w0 p) (hb : Below W.heap.size W W') : OrdQ w0 p ns us os t vN vU vO W' := h.kept hc (Kept.all (fun _ => True) hb) (fun _ _ => trivial) (fun _ _ => trivial) (fun _ _ => trivial) (fun _ _ => trivial)
theorem OrdS.below {now : List Nat} {st : List Nat × Int} (h : OrdS w0 p now st W) (hc : OrdC w0 p) (hb : Below W.heap.size W W') : OrdS w0 p now st W' := by
  obtain ⟨vN, vU, vO, h⟩ := h
  exact ⟨vN, vU, vO, h.below hc hb⟩
theorem own_bl {α : Type} {cells : α → List Value} {e : TypeId} {k base : Nat} {v : Value} {xs : List α} (h : Own W base e k cells v xs) (g : Nat) (hg : v.ownBlock = some g) : base ≤ g ∧ g < W.heap.size := ⟨(own_block h hg).1, (own_block h hg).2⟩
/-- A number more. -/
theorem OrdQ.pushN {x : Int} {o : Obj} {wv : World} {v' : Value} (h : OrdQ w0 p ns us os t vN vU vO W) (hc : OrdC w0 p) (hown : Own wv p.base 3 1 icell v' (ns ++ [x])) (hg : (W.alloc o).grownBy wv vN.ownBlock) (hat : v'.ownBlock = vN.ownBlock ∨ v'.ownBlock = some (W.alloc o).heap.size) :
    OrdQ w0 p (ns ++ [x]) us os t v' vU vO (wv.setCell ⟨p.bn, 0, none⟩ v') := by
  have hk1 : Kept (fun b => ¬ vN.ownBlock = some b) W wv := kept_app2 h.oN (below_new W o) hg
  have hk : Kept (fun b => ¬ vN.ownBlock = some b ∧ ¬ b = p.bn) W (wv.setCell ⟨p.bn, 0, none⟩ v') := (hk1.mono fun b _ hb => hb.1).trans ((Kept.setCell wv ⟨p.bn, 0, none⟩ v').mono fun b _ hb => hb.2)
  obtain ⟨l0, l1, l2, l3, l4, l5, l6, l7, l8, l9, _, _, _, _, _, _, _, _, _⟩ := hc
  have hs := h.sz
  have hrow : ∀ b, b < p.base → ¬ vN.ownBlock = some b := fun b hb e => by have := (own_bl h.oN b e).1; omega
  have box : ∀ b, b < p.base → ¬ b = p.bn → (¬ vN.ownBlock = some b ∧ ¬ b = p.bn) := fun b hb hn => ⟨hrow b hb, hn⟩
  have hn1 := h.hN.kept hk1 (hrow _ (by omega))
  have hsz : (W.alloc o).heap.size = W.heap.size + 1 := by simp
  refine ⟨h.net.kept hk (box _ (by omega) (by omega)), h.flw.kept hk (box _ (by omega) (by omega)), h.fb.kept hk (box _ (by omega) (by omega)), h.mb.kept hk (box _ (by omega) (by omega)), h.nx.kept hk (box _ (by omega) (by omega)), h.tot.kept hk (box _ (by omega) (by omega)), by simpa using hn1.set (j := 0) v' (by simp), h.hU.kept hk (box _ (by omega) (by omega)), h.hO.kept hk (box _ (by omega) (by omega)),
    hown.setCell (fun e => by have := (own_bl hown _ e).1; simp at this; omega) _, h.oU.keptB hk (fun g hg2 => ⟨fun e => (h.s1 g e).1 hg2, by have := (own_bl h.oU g hg2).1; omega⟩), h.oO.keptB hk (fun g hg2 => ⟨fun e => (h.s1 g e).2 hg2, by have := (own_bl h.oO g hg2).1; omega⟩), fun g hg2 => ?_, h.s2,
    ?_, (hk.frozen (p := ⟨p.bU, 0, none⟩) (box _ (by show p.bU < _; omega) (by show ¬ p.bU = _; omega)) (by show p.bU < _; omega)).trans h.fu,
    (hk.frozen (p := ⟨p.bT, 0, none⟩) (box _ (by show p.bT < _; omega) (by show ¬ p.bT = _; omega)) (by show p.bT < _; omega)).trans h.ft, (hk.frozen (p := ⟨p.bO, 0, none⟩) (box _ (by show p.bO < _; omega) (by show ¬ p.bO = _; omega)) (by show p.bO < _; omega)).trans h.fo,
    h.bl.trans (hk.below (fun b hb => box b (by omega) (by omega)) h.bl.size), Nat.le_trans h.sz hk.size⟩
  · rcases hat with e | e
    · exact h.s1 g (e ▸ hg2)
    · rw [hg2] at e
      injection e with e
      exact ⟨fun e2 => by have := (own_bl h.oU g e2).2; omega, fun e2 => by have := (own_bl h.oO g e2).2; omega⟩
  · rw [World.frozen?_setCell]
    exact (hk1.frozen (p := ⟨p.bn, 0, none⟩) (hrow _ (by show p.bn < _; omega)) (by show p.bn < _; omega)).trans h.fn
/-- A use more. -/
theorem OrdQ.pushU {x : Us} {o : Obj} {wv : World} {v' : Value} (h : OrdQ w0 p ns us os t vN vU vO W) (hc : OrdC w0 p) (hown : Own wv p.base 47 3 Us.cells v' (us ++ [x])) (hg : (W.alloc o).grownBy wv vU.ownBlock) (hat : v'.ownBlock = vU.ownBlock ∨ v'.ownBlock = some (W.alloc o).heap.size) :
    OrdQ w0 p ns (us ++ [x]) os t vN v' vO (wv.setCell ⟨p.bU, 0, none⟩ v') := by
  have hk1 : Kept (fun b => ¬ vU.ownBlock = some b) W wv := kept_app2 h.oU (below_new W o) hg
  have hk : Kept (fun b => ¬ vU.ownBlock = some b ∧ ¬ b = p.bU) W (wv.setCell ⟨p.bU, 0, none⟩ v') := (hk1.mono fun b _ hb => hb.1).trans ((Kept.setCell wv ⟨p.bU, 0, none⟩ v').mono fun b _ hb => hb.2)
  obtain ⟨l0, l1, l2, l3, l4, l5, l6, l7, l8, l9, _, _, _, _, _, _, _, _, _⟩ := hc
  have hs := h.sz
  have hrow : ∀ b, b < p.base → ¬ vU.ownBlock = some b := fun b hb e => by have := (own_bl h.oU b e).1; omega
  have box : ∀ b, b < p.base → ¬ b = p.bU → (¬ vU.ownBlock = some b ∧ ¬ b = p.bU) := fun b hb hn => ⟨hrow b hb, hn⟩
  have hn1 := h.hU.kept hk1 (hrow _ (by omega))
  have hsz : (W.alloc o).heap.size = W.heap.size + 1 := by simp
  refine ⟨h.net.kept hk (box _ (by omega) (by omega)), h.flw.kept hk (box _ (by omega) (by omega)), h.fb.kept hk (box _ (by omega) (by omega)), h.mb.kept hk (box _ (by omega) (by omega)), h.nx.kept hk (box _ (by omega) (by omega)), h.tot.kept hk (box _ (by omega) (by omega)), h.hN.kept hk (box _ (by omega) (by omega)), by simpa using hn1.set (j := 0) v' (by simp), h.hO.kept hk (box _ (by omega) (by omega)),
    h.oN.keptB hk (fun g hg2 => ⟨(h.s1 g hg2).1, by have := (own_bl h.oN g hg2).1; omega⟩), hown.setCell (fun e => by have := (own_bl hown _ e).1; simp at this; omega) _, h.oO.keptB hk (fun g hg2 => ⟨fun e => h.s2 g e hg2, by have := (own_bl h.oO g hg2).1; omega⟩), fun g hg2 => ⟨fun e2 => ?_, (h.s1 g hg2).2⟩, fun g hg2 => ?_,
    (hk.frozen (p := ⟨p.bn, 0, none⟩) (box _ (by show p.bn < _; omega) (by show ¬ p.bn = _; omega)) (by show p.bn < _; omega)).trans h.fn, ?_,
    (hk.frozen (p := ⟨p.bT, 0, none⟩) (box _ (by show p.bT < _; omega) (by show ¬ p.bT = _; omega)) (by show p.bT < _; omega)).trans h.ft, (hk.frozen (p := ⟨p.bO, 0, none⟩) (box _ (by show p.bO < _; omega) (by show ¬ p.bO = _; omega)) (by show p.bO < _; omega)).trans h.fo,
    h.bl.trans (hk.below (fun b hb => box b (by omega) (by omega)) h.bl.size), Nat.le_trans h.sz hk.size⟩
  · rcases hat with e | e
    · exact (h.s1 g hg2).1 (e ▸ e2)
    · rw [e2] at e
      injection e with e
      have := (own_bl h.oN g hg2).2
      omega
  · rcases hat with e | e
    · exact h.s2 g (e ▸ hg2)
    · rw [hg2] at e
      injection e with e
      exact fun e2 => by have := (own_bl h.oO g e2).2; omega
  · rw [World.frozen?_setCell]
    exact (hk1.frozen (p := ⟨p.bU, 0, none⟩) (hrow _ (by show p.bU < _; omega)) (by show p.bU < _; omega)).trans h.fu
theorem own_pop {α : Type} {cells : α → List Value} {e : TypeId} {k base n c : Nat} {A : Option Addr} {xs : List α} {x : α} (hk : ∀ x, (cells x).length = k) (h : Own W base e k cells (.slice A (n + 1) c) (xs ++ [x])) : Own W base e k cells (.slice A n c) xs := by
  have hn : n = xs.length := by
    obtain ⟨A', c', hv, _⟩ := h.rd
    injection hv with _ h2 _
    simp at h2
    exact h2
  subst hn
  have h' := h
  obtain ⟨_, hn | ⟨g, cap, cur, hv, _⟩⟩ := h'
  · cases hn.1
  · injection hv with hA
    subst hA
    unfold Own at h ⊢
    rw [List.length_append, List.flatMap_append] at h
    exact ownsRow_pop (flat_len hk xs) h
/-- The last number and the last use go. -/
theorem OrdQ.pop {x : Int} {y : Us} {A B : Option Addr} {n m c d : Nat} (h : OrdQ w0 p (ns ++ [x]) (us ++ [y]) os t (.slice A (n + 1) c) (.slice B (m + 1) d) vO W) (hc : OrdC w0 p) :
    OrdQ w0 p ns us os t (.slice A n c) (.slice B m d) vO ((W.setCell ⟨p.bn, 0, none⟩ (.slice A n c)).setCell ⟨p.bU, 0, none⟩ (.slice B m d)) := by
  have eA : (Value.slice A n c).ownBlock = (Value.slice A (n + 1) c).ownBlock := by cases A <;> rfl
  have eB : (Value.slice B m d).ownBlock = (Value.slice B (m + 1) d).ownBlock := by cases B <;> rfl
  have hk : Kept (fun b => ¬ b = p.bn ∧ ¬ b = p.bU) W ((W.setCell ⟨p.bn, 0, none⟩ (.slice A n c)).setCell ⟨p.bU, 0, none⟩ (.slice B m d)) := ((Kept.setCell W ⟨p.bn, 0, none⟩ _).mono fun b _ hb => hb.1).trans ((Kept.setCell _ ⟨p.bU, 0, none⟩ _).mono fun b _ hb => hb.2)
  obtain ⟨l0, l1, l2, l3, l4, l5, l6, l7, l8, l9, _, _, _, _, _, _, _, _, _⟩ := hc
  have hs := h.sz
  refine ⟨h.net.kept hk (by omega), h.flw.kept hk (by omega), h.fb.kept hk (by omega), h.mb.kept hk (by omega), h.nx.kept hk (by omega), h.tot.kept hk (by omega), ?_, ?_, h.hO.kept hk (by omega),
    own_pop icell_len (h.oN.keptB hk (fun g hg2 => by have := (own_bl h.oN g hg2).1; omega)), own_pop Us.len (h.oU.keptB hk (fun g hg2 => by have := (own_bl h.oU g hg2).1; omega)), h.oO.keptB hk (fun g hg2 => by have := (own_bl h.oO g hg2).1; omega), fun g hg2 => ?_, fun g hg2 => ?_,
    by rw [World.frozen?_setCell, World.frozen?_setCell]; exact h.fn, by rw [World.frozen?_setCell, World.frozen?_setCell]; exact h.fu,
    (hk.frozen (p := ⟨p.bT, 0, none⟩) (by show ¬ p.bT = _ ∧ ¬ p.bT = _; omega) (by show p.bT < _; omega)).trans h.ft, (hk.frozen (p := ⟨p.bO, 0, none⟩) (by show ¬ p.bO = _ ∧ ¬ p.bO = _; omega) (by show p.bO < _; omega)).trans h.fo,
    h.bl.trans (hk.below (fun b hb => by omega) h.bl.size), Nat.le_trans h.sz hk.size⟩
  · simpa using (h.hN.set (j := 0) (.slice A n c) (by simp)).other (r := p.bU) 0 (.slice B m d) (by omega)
  · simpa using (h.hU.other (r := p.bn) 0 (.slice A n c) (by omega)).set (j := 0) (.slice B m d) (by simp)
  · rw [eA] at hg2; rw [eB]; exact h.s1 g hg2
  · rw [eB] at hg2; exact h.s2 g hg2
/-- A better order. -/
theorem OrdQ.best {wv : World} {u : Value} {os' : List Int} {t' : Int} (h : OrdQ w0 p ns us os t vN vU vO W) (hc : OrdC w0 p) (hb : Below W.heap.size W wv) (hown : Own wv W.heap.size 3 1 icell u os') :
    OrdQ w0 p ns us os' t' vN vU u ((wv.setCell ⟨p.bO, 0, none⟩ u).setCell ⟨p.bT, 0, none⟩ (.int .i64 t')) := by
  have hk : Kept (fun b => ¬ b = p.bO ∧ ¬ b = p.bT) W ((wv.setCell ⟨p.bO, 0, none⟩ u).setCell ⟨p.bT, 0, none⟩ (.int .i64 t')) := (Kept.all _ hb).trans (((Kept.setCell wv ⟨p.bO, 0, none⟩ _).mono fun b _ hb => hb.1).trans ((Kept.setCell _ ⟨p.bT, 0, none⟩ _).mono fun b _ hb => hb.2))
  have h2 := h.below hc hb
  obtain ⟨l0, l1, l2, l3, l4, l5, l6, l7, l8, l9, _, _, _, _, _, _, _, _, _⟩ := hc
  have hs := h.sz
  have hge := own_bl hown
  refine ⟨h.net.kept hk (by omega), h.flw.kept hk (by omega), h.fb.kept hk (by omega), h.mb.kept hk (by omega), h.nx.kept hk (by omega), ?_, h.hN.kept hk (by omega), h.hU.kept hk (by omega), ?_,
    h.oN.keptB hk (fun g hg2 => by have := (own_bl h.oN g hg2).1; omega), h.oU.keptB hk (fun g hg2 => by have := (own_bl h.oU g hg2).1; omega), ((hown.setCell (fun e => by have := (hge _ e).1; simp at this; omega) _).setCell (fun e => by have := (hge _ e).1; simp at this; omega) _).mono hs, fun g hg2 => ⟨(h.s1 g hg2).1, fun e => ?_⟩, fun g hg2 e => ?_,
    (hk.frozen (p := ⟨p.bn, 0, none⟩) (by show ¬ p.bn = _ ∧ ¬ p.bn = _; omega) (by show p.bn < _; omega)).trans h.fn, (hk.frozen (p := ⟨p.bU, 0, none⟩) (by show ¬ p.bU = _ ∧ ¬ p.bU = _; omega) (by show p.bU < _; omega)).trans h.fu,
    by rw [World.frozen?_setCell, World.frozen?_setCell]; exact h2.ft, by rw [World.frozen?_setCell, World.frozen?_setCell]; exact h2.fo,
    h.bl.trans (hk.below (fun b hb => by omega) h.bl.size), Nat.le_trans h.sz hk.size⟩
  · simpa using (h2.tot.other (r := p.bO) 0 u (by omega)).set (j := 0) (.int .i64 t') (by simp)
  · simpa using (h2.hO.set (j := 0) u (by simp)).other (r := p.bT) 0 (.int .i64 t') (by omega)
  · have := (own_bl h.oN g hg2).2; have := (hge g e).1; omega
  · have := (own_bl h.oU g hg2).2; have := (hge g e).1; omega
end
end Go.Proofs.Ythlnbgjlkliopaa
namespace Go.Proofs.Ythlnbgjlkliopaa
open Go.RowKit Go.Shelf
attribute [local go_sem ↓] Go.wp_at_zero Go.wp_at_succ
/-- One box may be turned, all else stands. -/
structure B1 (w : World) (b : Nat) (W : World) : Prop where
  k : Kept (fun x => ¬ x = b) w W
  a : ∃ v : Value, At W b [v]
  f : W.frozen? ⟨b, 0, none⟩ = false
theorem B1.refl {w : World} {b : Nat} {x : Value} (h : At w b [x]) (f : w.frozen? ⟨b, 0, none⟩ = false) : B1 w b w := ⟨Kept.refl _ _, ⟨x, h⟩, f⟩
theorem B1.keep {w W W' : World} {b : Nat} (h : B1 w b W) (hb : Below W.heap.size W W') : B1 w b W' := by
  obtain ⟨x, ha⟩ := h.a
  exact ⟨h.k.trans (Kept.all _ hb), ⟨x, ha.below hb⟩, (hb.frozen (p := ⟨b, 0, none⟩) ha.1).trans h.f⟩
theorem B1.drew {w W : World} {b : Nat} (h : B1 w b W) : B1 w b W.drew := h.keep (Below.refl _ _).drew
theorem B1.setA {w W : World} {b : Nat} (h : B1 w b W) (u : Value) : B1 w b (W.setCell ⟨b, 0, none⟩ u) := by
  obtain ⟨x, ha⟩ := h.a
  exact ⟨h.k.trans (Kept.setCell _ ⟨b, 0, none⟩ _), ⟨u, by simpa using ha.set (j := 0) u (by simp)⟩, by rw [World.frozen?_setCell]; exact h.f⟩
/-- Two boxes may be turned, all else stands. -/
structure B2 (w : World) (b c : Nat) (W : World) : Prop where
  k : Kept (fun x => ¬ x = b ∧ ¬ x = c) w W
  a : ∃ v : Value, At W b [v]
  a2 : ∃ v : Value, At W c [v]
  f : W.frozen? ⟨b, 0, none⟩ = false
  f2 : W.frozen? ⟨c, 0, none⟩ = false
  ne : b ≠ c
theorem B2.keep {w W W' : World} {b c : Nat} (h : B2 w b c W) (hb : Below W.heap.size W W') : B2 w b c W' := by
  obtain ⟨x, ha⟩ := h.a
  obtain ⟨y, hc⟩ := h.a2
  exact ⟨h.k.trans (Kept.all _ hb), ⟨x, ha.below hb⟩, ⟨y, hc.below hb⟩, (hb.frozen (p := ⟨b, 0, none⟩) ha.1).trans h.f, (hb.frozen (p := ⟨c, 0, none⟩) hc.1).trans h.f2, h.ne⟩
theorem B2.drew {w W : World} {b c : Nat} (h : B2 w b c W) : B2 w b c W.drew := h.keep (Below.refl _ _).drew
theorem B2.setA {w W : World} {b c : Nat} (h : B2 w b c W) (u : Value) : B2 w b c (W.setCell ⟨b, 0, none⟩ u) := by
  obtain ⟨x, ha⟩ := h.a
  obtain ⟨y, hc⟩ := h.a2
  exact ⟨h.k.trans ((Kept.setCell _ ⟨b, 0, none⟩ _).mono fun x _ hx => hx.1), ⟨u, by simpa using ha.set (j := 0) u (by simp)⟩, ⟨y, hc.other (r := b) 0 u (Ne.symm h.ne)⟩, by rw [World.frozen?_setCell]; exact h.f, by rw [World.frozen?_setCell]; exact h.f2, h.ne⟩
theorem B2.setC {w W : World} {b c : Nat} (h : B2 w b c W) (u : Value) : B2 w b c (W.setCell ⟨c, 0, none⟩ u) := by
  obtain ⟨x, ha⟩ := h.a
  obtain ⟨y, hc⟩ := h.a2
  exact ⟨h.k.trans ((Kept.setCell _ ⟨c, 0, none⟩ _).mono fun x _ hx => hx.2), ⟨x, ha.other (r := c) 0 u h.ne⟩, ⟨u, by simpa using hc.set (j := 0) u (by simp)⟩, by rw [World.frozen?_setCell]; exact h.f, by rw [World.frozen?_setCell]; exact h.f2, h.ne⟩
theorem OrdC.lt {w0 : World} {p : OrdP} (h : OrdC w0 p) : (w0.heap.size ≤ p.bL ∧ p.bL < p.bF ∧ p.bF < p.bM ∧ p.bM < p.bO ∧ p.bO < p.bT) ∧ (p.bT < p.bX ∧ p.bX < p.bn ∧ p.bn < p.bU ∧ p.bU < p.bN ∧ p.bN < p.base) := ⟨⟨h.l0, h.l1, h.l2, h.l3, h.l4⟩, h.l5, h.l6, h.l7, h.l8, h.l9⟩
set_option maxHeartbeats 4000000 in
set_option maxRecDepth 100000 in
theorem next_zero (w0 : World) (p : OrdP) (hc : OrdC w0 p) (now : List Nat) (st : List Nat × Int) (W : World) (h : OrdS w0 p now st W) (hl : now.length = p.nk) (hnd : now.Nodup) (hlt : ∀ k ∈ now, k < p.nk) :
    Calls Try.prog 41 p.caps W fun e w' => (∃ v, e = .returned v) ∧ OrdS w0 p now (stO p.val st now) w' := by
  obtain ⟨vN, vU, vO, hq⟩ := h
  have huo : usesOk p.nf p.days (rowSt p.fl p.ml now).1 = true := row_ok hc.tn now hnd (fun k hk => by rw [← hc.ek]; exact hlt k hk) (by rw [hl]; exact hc.k6)
  obtain ⟨AN, cN, rfl, rN⟩ := hq.oN.rd
  obtain ⟨AU, cU, rfl, rU⟩ := hq.oU.rd
  rw [ints_len, hl] at hq
  rw [rowSt_len, hl] at hq
  have Hl := hide hl
  have Hq := hide hq; have HrU := hide rU; have Huo := hide huo
  have hx := hq.net
  unfold OrdP.net at hx
  obtain ⟨q0, q1, q2, q3⟩ := hx.c4
  have q4 := hq.hN.c1
  have q5 := hq.fb.c1
  obtain ⟨q6, q7⟩ := hq.flw.c2
  have q8 := hq.hU.c1
  have hnet := hc.net.below hq.bl
  have hk6 := hc.k6
  obtain ⟨⟨l0, l1, l2, l3, l4⟩, l5, l6, l7, l8, l9⟩ := hc.lt
  have Hnet := hide hnet; have Hc := hide hc
  have hs := hq.sz
  clear hq rN rU huo hnet hx hc hl
  unfold OrdP.caps
  go_enter Try.func41, Try.ntmps41
  go_step3
  go_wp2_with fail
  refine (waters_any p.Ac p.Af AU p.nc p.cc p.nf p.cf p.nk cU p.dry p.days p.a p.b p.cs p.fs (rowSt p.fl p.ml now).1 W Hnet.out HrU.out (by rw [rowSt_len]; exact Hl.out.symm) Hc.out.ok Huo.out Hc.out.sp).mono ?_
  rintro e w1 ⟨gf, gl, rfl, hof, hol, hb1⟩
  obtain ⟨A1, c1, hv, r1⟩ := hof.rd
  injection hv with e1 e2 e3
  subst e1 e3
  have hws := waters_sums (dry := p.dry) Hc.out.ok (by rw [← Hnet.out.ef]; exact Huo.out) Hc.out.sp
  have Hof := hide hof; have R1 := hide r1; have Hws := hide hws; have E2 := hide e2
  clear hof hol r1 hws e2
  go_wp2_with fail
  refine (sum_big (some ⟨gf, 0, none⟩) p.nf p.nf (watersK p.cs p.fs p.dry (p.days * 1440) p.a p.b (rowSt p.fl p.ml now).1 (rowSt p.fl p.ml now).1.length).1 w1 R1.out E2.out Hnet.out.nf2 Hws.out.1 Hws.out.2).mono ?_
  rintro e w2 ⟨rfl, hb2⟩
  rw [show (sumS ⟨0, 0⟩ (watersK p.cs p.fs p.dry (p.days * 1440) p.a p.b (rowSt p.fl p.ml now).1 (rowSt p.fl p.ml now).1.length).1).lo = p.val now from rfl]
  generalize (sumS ⟨0, 0⟩ (watersK p.cs p.fs p.dry (p.days * 1440) p.a p.b (rowSt p.fl p.ml now).1 (rowSt p.fl p.ml now).1.length).1).hi = H2
  obtain ⟨w3, Hw3⟩ : ∃ w3, Hid (w2.alloc (.cells #[.int .i64 (p.val now), .int .i64 H2] 27) = w3) := ⟨_, hide rfl⟩
  have hb3 : Below w2.heap.size w2 w3 := by rw [← Hw3.out]; exact below_new _ _
  have h11 : At w3 w2.heap.size [.int .i64 (p.val now), .int .i64 H2] := by rw [← Hw3.out]; exact At.new _ _ _ _ rfl _ rfl
  have hb13 := hb1.trans ((hb2.trans (hb3.mono hb2.size)).mono hb1.size)
  have hq3 := Hq.out.below Hc.out hb13
  have h2s : W.heap.size ≤ w2.heap.size := Nat.le_trans hb1.size hb2.size
  have q9 := hq3.tot.c1
  rw [← Hw3.out] at q9
  obtain ⟨z0, z1⟩ := h11.c2
  rw [← Hw3.out] at z0 z1
  clear q0 q1 q2 q3 q4 q5 q6 q7 q8
  by_cases hv : st.2 < p.val now
  · have hst : stO p.val st now = (now, p.val now) := by unfold stO; rw [if_pos hv]
    have HST := hide hst
    clear hst
    go_wp2_with fail
    rw [Hw3.out]
    have HNow := hide (hq3.oN.below (Below.refl _ _).drew)
    have hq3d := hide (hq3.below Hc.out (Below.refl _ _).drew)
    have HB2 := hide (show B2 w3 p.bO p.bT w3 from ⟨Kept.refl _ _, ⟨_, hq3.hO⟩, ⟨_, hq3.tot⟩, hq3.fo, hq3.ft, by omega⟩)
    clear z0 z1 q9
    refine wp_region_held_drew (S := (fun W => B2 w3 p.bO p.bT W)) (by kernel_rfl) (by (try dsimp only); exact HB2.out.drew) (fun hHeld => ?_)
    refine tkH 0 ?_ rfl (Or.inl ⟨by rfl, ?_⟩) hHeld ?_
    rotate_left
    · (intro w hSw; (try dsimp only at hSw); have z0 := (hq3.hN.kept hSw.k (by omega)).c1; go_simp; try (with_reducible rfl))
    try simp only [Act.put, tl1, tl2, tl3]
    refine tkH 2 ?_ rfl (Or.inl ⟨by rfl, ?_⟩) hHeld ?_
    rotate_left
    · (intro w hSw; (try dsimp only at hSw); go_simp; try (with_reducible rfl))
    try simp only [Act.put, tl1, tl2, tl3]
    refine tkH 3 ?_ rfl (Or.inl ⟨by rfl, ?_⟩) hHeld ?_
    rotate_left
    · (intro w hSw; (try dsimp only at hSw); obtain ⟨z0, z1⟩ := (h11.kept hSw.k (by omega)).c2; go_simp; try (with_reducible rfl))
    try simp only [Act.put, tl1, tl2, tl3]
    refine wpAnyH_ready (rs := [1]) (by kernel_rfl) (by simp) ?_
    refine AllReadyH.cons (o := ⟨_, _, _, _, _, _⟩) rfl (fun K hK => ?_) AllReadyH.nil
    go_simp
    refine (clone_int _ _ _ HNow.out (by rw [ints_len, Hl.out]; omega)).mono ?_
    rintro e w' ⟨u, rfl, hou, hb⟩
    obtain ⟨Au_, cu_, rfl, hru_⟩ := hou.rd
    have Hou := hide hou
    have Hbb := hide hb
    clear hou hru_
    go_wp2_with fail
    refine hK.out _ _ ?_ (fun hHeld2 => ?_)
    · (try dsimp only)
      (first | exact hHeld | exact hHeld.keep hb | exact hHeld.drew | exact hHeld.setA _ | exact hHeld.setC _)
    clear hK K hHeld; have hHeld := hHeld2; clear hHeld2
    try simp only [Act.put, tl1, tl2, tl3]
    refine wpAnyH_ready (rs := [4]) (by kernel_rfl) (by simp) ?_
    refine AllReadyH.cons (o := ⟨_, _, _, _, _, _⟩) rfl (fun K hK => ?_) AllReadyH.nil
    obtain ⟨x, hx⟩ := hHeld.a
    have z0 := hx.c1
    have y0 := hHeld.f
    go_simp
    refine hK.out _ _ ?_ (fun hHeld2 => ?_)
    · (try dsimp only)
      (first | exact hHeld | exact hHeld.keep hb | exact hHeld.drew | exact hHeld.setA _ | exact hHeld.setC _)
    clear hK K hHeld; have hHeld := hHeld2; clear hHeld2
    try simp only [Act.put, tl1, tl2, tl3]
    refine wpAnyH_ready (rs := [5]) (by kernel_rfl) (by simp) ?_
    refine AllReadyH.cons (o := ⟨_, _, _, _, _, _⟩) rfl (fun K hK => ?_) AllReadyH.nil
    obtain ⟨x, hx⟩ := hHeld.a2
    have z0 := hx.c1
    have y0 := hHeld.f2
    go_simp
    refine hK.out _ _ ?_ (fun hHeld2 => ?_)
    · (try dsimp only)
      (first | exact hHeld | exact hHeld.keep hb | exact hHeld.drew | exact hHeld.setA _ | exact hHeld.setC _)
    clear hK K hHeld; have hHeld := hHeld2; clear hHeld2
    try simp only [Act.put, tl1, tl2, tl3]
    refine wpAnyH_done (by kernel_rfl) ?_ _
    have hfin := hq3d.out.best (t' := p.val now) Hc.out Hbb.out Hou.out
    go_wp2
    try rw [Exit.noGoto_ret]
    refine bodyPost_ret (results_none rfl _ _ _) rfl ?_
    exact ⟨⟨_, rfl⟩, by rw [HST.out]; exact ⟨_, _, _, hfin⟩⟩
  · have hst : stO p.val st now = st := by unfold stO; rw [if_neg hv]
    have HST := hide hst
    clear hst
    go_wp2
    rw [Hw3.out]
    try rw [Exit.noGoto_ret]
    refine bodyPost_ret (results_none rfl _ _ _) rfl ?_
    exact ⟨⟨_, rfl⟩, by rw [HST.out]; exact ⟨_, _, _, hq3⟩⟩
end Go.Proofs.Ythlnbgjlkliopaa
