/- No order gives more than the best one, and of those that give as much it is the first: the plain law. -/
import Derived.Test.YtgklcilpohkpkaaO4
set_option linter.unusedVariables false
set_option linter.unusedSimpArgs false
namespace Go.Proofs.Ytgklcilpohkpkaa
theorem digs_small (k : Nat) (hk : 0 < k) : ∀ t w, ∀ x ∈ digsO k t w, x < k
  | 0, _, x, hx => by simp [digsO] at hx
  | t + 1, w, x, hx => by
    simp only [digsO, List.mem_cons] at hx
    rcases hx with rfl | hx
    · exact Nat.mod_lt _ hk
    · exact digs_small k hk t w x hx
theorem digs_rest (k : Nat) (hk : 0 < k) (t w : Nat) : digsO k t w = digsO k t (w % k ^ t) := by
  have h := digsO_add k hk t (w / k ^ t) (w % k ^ t)
  rw [Nat.mul_comm, Nat.div_add_mod] at h
  exact h
theorem digs_lex (k : Nat) : ∀ (t u v : Nat), u < v → v < k ^ t → ∀ (i x y : Nat), (∀ j, j < i → (digsO k t u)[j]? = (digsO k t v)[j]?) → (digsO k t u)[i]? = some x → (digsO k t v)[i]? = some y → x ≠ y → x < y
  | 0, u, v, h1, h2, _, _, _, _, _, _, _ => by rw [Nat.pow_zero] at h2; omega
  | t + 1, u, v, h1, h2, i, x, y, hp, hx, hy, hne => by
    have hk : 0 < k := by
      rcases Nat.eq_zero_or_pos k with h | h
      · subst h; rw [Nat.pow_succ, Nat.mul_zero] at h2; omega
      · exact h
    have hpos : 0 < k ^ t := Nat.pow_pos hk
    have hq : ∀ n, n < k ^ (t + 1) → n / k ^ t % k = n / k ^ t := fun n hn => Nat.mod_eq_of_lt (by rw [Nat.div_lt_iff_lt_mul hpos, Nat.mul_comm, ← Nat.pow_succ]; exact hn)
    have eu := hq u (by omega)
    have ev := hq v h2
    have hle : u / k ^ t ≤ v / k ^ t := Nat.div_le_div_right (by omega)
    simp only [digsO] at hp hx hy
    rw [eu, ev] at hp
    rw [eu] at hx
    rw [ev] at hy
    cases i with
    | zero =>
      simp only [List.getElem?_cons_zero, Option.some.injEq] at hx hy
      omega
    | succ i =>
      have h0 := hp 0 (by omega)
      simp only [List.getElem?_cons_zero, Option.some.injEq] at h0
      simp only [List.getElem?_cons_succ] at hx hy
      have hu := Nat.div_add_mod u (k ^ t)
      have hv := Nat.div_add_mod v (k ^ t)
      rw [h0] at hu
      rw [digs_rest k hk t u] at hx
      rw [digs_rest k hk t v] at hy
      refine digs_lex k t (u % k ^ t) (v % k ^ t) (by omega) (Nat.mod_lt _ hpos) i x y (fun j hj => ?_) hx hy hne
      have := hp (j + 1) (by omega)
      simp only [List.getElem?_cons_succ] at this
      rw [digs_rest k hk t u, digs_rest k hk t v] at this
      exact this
theorem digs_onto (k : Nat) : ∀ (t : Nat) (o : List Nat), o.length = t → (∀ x ∈ o, x < k) → ∃ w, w < k ^ t ∧ digsO k t w = o
  | 0, o, hl, _ => ⟨0, by simp, by rw [List.length_eq_zero_iff] at hl; subst hl; rfl⟩
  | t + 1, [], hl, _ => by simp at hl
  | t + 1, x :: o, hl, hx => by
    have hxk := hx x (List.mem_cons_self ..)
    obtain ⟨w, hw, he⟩ := digs_onto k t o (by simpa using hl) (fun y hy => hx y (List.mem_cons_of_mem _ hy))
    have hk : 0 < k := by omega
    have hpos : 0 < k ^ t := Nat.pow_pos hk
    have hm : (x + 1) * k ^ t ≤ k * k ^ t := Nat.mul_le_mul_right _ hxk
    rw [Nat.add_mul, Nat.one_mul] at hm
    refine ⟨x * k ^ t + w, by rw [Nat.pow_succ, Nat.mul_comm (k ^ t)]; omega, ?_⟩
    simp only [digsO]
    rw [digsO_add k hk, he]
    have h1 : (x * k ^ t + w) / k ^ t = x := by rw [Nat.mul_comm, Nat.mul_add_div hpos, Nat.div_eq_of_lt hw, Nat.add_zero]
    rw [h1, Nat.mod_eq_of_lt hxk]
theorem best_inv {val : List Nat → Int} {k : Nat} (hv : ∀ w, (digsO k k w).Nodup → 0 ≤ val (digsO k k w)) : ∀ w, (∀ u, u < w → (digsO k k u).Nodup → val (digsO k k u) ≤ (wordsTo val k w).2) ∧
    ((wordsTo val k w = ([], -1) ∧ ∀ u, u < w → ¬ (digsO k k u).Nodup) ∨ ∃ v, v < w ∧ (digsO k k v).Nodup ∧ wordsTo val k w = (digsO k k v, val (digsO k k v)) ∧ ∀ u, u < v → (digsO k k u).Nodup → val (digsO k k u) < val (digsO k k v))
  | 0 => ⟨fun u hu => by omega, .inl ⟨rfl, fun u hu => by omega⟩⟩
  | w + 1 => by
    obtain ⟨h1, h2⟩ := best_inv hv w
    rw [wordsTo_succ]
    by_cases hd : (digsO k k w).Nodup
    · rw [if_pos hd]
      unfold stO
      by_cases hlt : (wordsTo val k w).2 < val (digsO k k w)
      · rw [if_pos hlt]
        refine ⟨fun u hu hn => ?_, .inr ⟨w, by omega, hd, rfl, fun u hu hn => ?_⟩⟩
        · by_cases e : u = w
          · subst e; exact Int.le_refl _
          · have := h1 u (by omega) hn; simp only; omega
        · have := h1 u hu hn; omega
      · rw [if_neg hlt]
        refine ⟨fun u hu hn => ?_, ?_⟩
        · by_cases e : u = w
          · subst e; omega
          · exact h1 u (by omega) hn
        · rcases h2 with ⟨h3, h4⟩ | ⟨v, h3, h4, h5, h6⟩
          · have := hv w hd
            rw [h3] at hlt
            simp only at hlt
            omega
          · exact .inr ⟨v, by omega, h4, h5, h6⟩
    · rw [if_neg hd]
      refine ⟨fun u hu hn => ?_, ?_⟩
      · by_cases e : u = w
        · subst e; exact absurd hn hd
        · exact h1 u (by omega) hn
      · rcases h2 with ⟨h3, h4⟩ | ⟨v, h3, h4, h5, h6⟩
        · refine .inl ⟨h3, fun u hu => ?_⟩
          by_cases e : u = w
          · subst e; exact hd
          · exact h4 u (by omega)
        · exact .inr ⟨v, by omega, h4, h5, h6⟩
/-- The best order, against any other one. -/
theorem best_order {val : List Nat → Int} {k : Nat} (hv : ∀ w, (digsO k k w).Nodup → 0 ≤ val (digsO k k w)) {other : List Nat} (hl : other.length = k) (hn : other.Nodup) (hlt : ∀ x ∈ other, x < k) :
    ((dfsO val k k [] ([], -1)).1.length = k ∧ (dfsO val k k [] ([], -1)).1.Nodup ∧ ∀ x ∈ (dfsO val k k [] ([], -1)).1, x < k) ∧ (dfsO val k k [] ([], -1)).2 = val (dfsO val k k [] ([], -1)).1 ∧ val other ≤ (dfsO val k k [] ([], -1)).2 ∧
    (val other = (dfsO val k k [] ([], -1)).2 → ∀ (i x y : Nat), (∀ j, j < i → (dfsO val k k [] ([], -1)).1[j]? = other[j]?) → (dfsO val k k [] ([], -1)).1[i]? = some x → other[i]? = some y → x ≠ y → x < y) := by
  rw [← words_dfs]
  obtain ⟨w, hw, he⟩ := digs_onto k k other hl hlt
  obtain ⟨h1, h2⟩ := best_inv hv (k ^ k)
  have h3 := h1 w hw (by rw [he]; exact hn)
  rw [he] at h3
  rcases h2 with ⟨_, h4⟩ | ⟨v, hv1, hv2, hv3, hv4⟩
  · exact absurd (by rw [he]; exact hn) (h4 w hw)
  · rw [hv3] at h3 ⊢
    simp only at h3 ⊢
    refine ⟨⟨digsO_len k k v, hv2, fun x hx => ?_⟩, trivial, h3, fun heq i x y hp hx hy hne => ?_⟩
    · refine digs_small k ?_ k v x hx
      rcases Nat.eq_zero_or_pos k with h | h
      · subst h; simp [digsO] at hx
      · exact h
    · have hle : v ≤ w := by
        apply Nat.le_of_not_lt
        intro hlt2
        have := hv4 w hlt2 (by rw [he]; exact hn)
        rw [he] at this
        omega
      rw [← he] at hp hy
      by_cases e : v = w
      · subst e
        rw [hx] at hy
        injection hy with hy
        exact absurd hy hne
      · exact digs_lex k k v w (by omega) hw i x y hp hx hy hne
end Go.Proofs.Ytgklcilpohkpkaa
