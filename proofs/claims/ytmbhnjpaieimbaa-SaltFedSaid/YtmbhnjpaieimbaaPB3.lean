/- The sort that the prices' order is made by: the insertion sort of up to 8 numbers, by contract. The order of the prices, by contracts. -/
import Derived.Test.YtmbhnjpaieimbaaPB1
import Derived.BigRegion
set_option linter.unusedVariables false
set_option linter.unusedSimpArgs false
namespace Go.Proofs.Ytmbhnjpaieimbaa
open Go.RowKit Go.Shelf
theorem swap_permI {l : List Int} {i j : Nat} {x y : Int} (hx : l[i]? = some x) (hy : l[j]? = some y) : List.Perm ((l.set i y).set j x) l := by
  obtain ⟨h1, rfl⟩ := List.getElem?_eq_some_iff.1 hx
  obtain ⟨h2, rfl⟩ := List.getElem?_eq_some_iff.1 hy
  exact List.set_set_perm h1 h2
/-- In order up to i. -/
def Upto (le : Int → Int → Prop) (i : Nat) (l : List Int) : Prop := ∀ p q x y, p < q → q < i → l[p]? = some x → l[q]? = some y → le x y
/-- In order up to i, but for the number at j, which comes before those behind it. -/
structure But1 (le : Int → Int → Prop) (i j : Nat) (l : List Int) : Prop where
  ord : ∀ p q x y, p < q → q ≤ i → p ≠ j → q ≠ j → l[p]? = some x → l[q]? = some y → le x y
  beh : ∀ q x y, j < q → q ≤ i → l[j]? = some x → l[q]? = some y → le x y
theorem But1.start {le : Int → Int → Prop} {i : Nat} {l : List Int} (h : Upto le i l) : But1 le i i l :=
  ⟨fun p q x y hpq hq hp hq' h1 h2 => h p q x y hpq (by omega) h1 h2, fun q x y h1 h2 => by omega⟩
theorem But1.done {le : Int → Int → Prop} (tr : ∀ a b c, le a b → le b c → le a c) {i j : Nat} {l : List Int} (h : But1 le i j l) (hj : j = 0 ∨ ∃ x y, l[j - 1]? = some x ∧ l[j]? = some y ∧ le x y) (hji : j ≤ i) : Upto le (i + 1) l := by
  intro p q x y hpq hq h1 h2
  by_cases hqj : q = j
  · subst hqj
    rcases hj with hj | ⟨a, b, ha, hb, hab⟩
    · omega
    · rw [hb] at h2; injection h2 with h2; subst h2
      by_cases hp : p = q - 1
      · subst hp; rw [ha] at h1; injection h1 with h1; subst h1; exact hab
      · exact tr _ _ _ (h.ord p (q - 1) x a (by omega) (by omega) (by omega) (by omega) h1 ha) hab
  · by_cases hpj : p = j
    · subst hpj; exact h.beh q x y hpq (by omega) h1 h2
    · exact h.ord p q x y hpq (by omega) hpj hqj h1 h2
theorem But1.swap {le : Int → Int → Prop} {i j : Nat} {l : List Int} {x y : Int} (h : But1 le i (j + 1) l) (hji : j + 1 ≤ i) (hx : l[j]? = some x) (hy : l[j + 1]? = some y) (hyx : le y x) : But1 le i j ((l.set (j + 1) x).set j y) := by
  have hl1 : j + 1 < l.length := (List.getElem?_eq_some_iff.1 hy).1
  have g : ∀ k, ((l.set (j + 1) x).set j y)[k]? = if k = j then some y else if k = j + 1 then some x else l[k]? := by
    intro k
    by_cases h1 : k = j
    · rw [if_pos h1, h1, List.getElem?_set_self (by rw [List.length_set]; omega)]
    · rw [if_neg h1, List.getElem?_set_ne (fun e => h1 e.symm)]
      by_cases h2 : k = j + 1
      · rw [if_pos h2, h2, List.getElem?_set_self hl1]
      · rw [if_neg h2, List.getElem?_set_ne (fun e => h2 e.symm)]
  refine ⟨fun p q a b hpq hq hp hq' h1 h2 => ?_, fun q a b hq1 hq2 h1 h2 => ?_⟩
  · rw [g] at h1 h2
    rw [if_neg hp] at h1
    rw [if_neg hq'] at h2
    by_cases hp1 : p = j + 1
    · rw [if_pos hp1] at h1
      rw [if_neg (by omega)] at h2
      injection h1 with h1; subst h1
      exact h.ord j q x b (by omega) hq (by omega) (by omega) hx h2
    · rw [if_neg hp1] at h1
      by_cases hq1 : q = j + 1
      · rw [if_pos hq1] at h2
        injection h2 with h2; subst h2
        exact h.ord p j a x (by omega) (by omega) (by omega) (by omega) h1 hx
      · rw [if_neg hq1] at h2
        exact h.ord p q a b hpq hq hp1 hq1 h1 h2
  · rw [g] at h1 h2
    rw [if_pos rfl] at h1
    injection h1 with h1; subst h1
    rw [if_neg (by omega)] at h2
    by_cases hq3 : q = j + 1
    · rw [if_pos hq3] at h2; injection h2 with h2; subst h2; exact hyx
    · rw [if_neg hq3] at h2
      exact h.beh q y b (by omega) hq2 hy h2
theorem own_int {w : World} {base g n c i : Nat} {e : TypeId} {xs : List Int} {x : Int} (h : Own w base e 1 icell (.slice (some ⟨g, 0, none⟩) n c) xs) (hn : n = xs.length) (hx : xs[i]? = some x) : w.cell? ⟨g, i, none⟩ = some (.int .i64 x) := by
  subst hn
  have hi := (List.getElem?_eq_some_iff.1 hx).1
  rw [World.ownsRow.cellAt h _ (by simpa using hi)]
  have := flat_get icell_len hx (j := 0) (by omega)
  simpa [icell] using this
theorem own_frzI {w : World} {base g n c : Nat} {e : TypeId} {xs : List Int} (h : Own w base e 1 icell (.slice (some ⟨g, 0, none⟩) n c) xs) (hn : n = xs.length) (j : Nat) : w.frozen? ⟨g, j, none⟩ = false := by
  subst hn; exact World.ownsRow.frozenAt h _
set_option maxHeartbeats 4000000 in
set_option maxRecDepth 100000 in
theorem isort_any (f : FuncId) (cp : Array Value) (le : Int → Int → Prop) (g n c base : Nat) (xs : List Int) (w : World) (eg : ∀ args w, (callFunc f args).run Try.prog w = .ok (.enter f args) w) (tr : ∀ a b c, le a b → le b c → le a c) (hn : n = xs.length) (hn8 : n ≤ 8)
    (ho : Own w base 3 1 icell (.slice (some ⟨g, 0, none⟩) n c) xs) (hf : ∀ x y W, x ∈ xs → y ∈ xs → Kept (fun b => b ≠ g) w W → Calls Try.prog f (#[.int .i64 x, .int .i64 y] ++ cp) W fun e w'' => ∃ d : Int, e = .returned (.int .i64 d) ∧ (d < 0 → le x y) ∧ (¬ d < 0 → le y x) ∧ Below W.heap.size W w'') :
    Calls Try.prog 144 #[.slice (some ⟨g, 0, none⟩) n c, .int .i64 0, .int .i64 n, .func (.func f) #[] cp] w fun e w' => (∃ v, e = .returned v) ∧ ∃ ys, List.Perm ys xs ∧ Upto le n ys ∧ Own w' base 3 1 icell (.slice (some ⟨g, 0, none⟩) n c) ys ∧ Kept (fun b => b ≠ g) w w' := by
  have Hn := hide hn; have Hf := hide hf; have Ho := hide ho
  clear hn hf ho
  go_enter Try.func144, Try.ntmps144
  go_wp2_with fail
  go_loopw [8] (fun iv wr => ∃ (i : Nat) (zs : List Int), 1 ≤ i ∧ iv = .int .i64 i ∧ Hid (List.Perm zs xs) ∧ Hid (Upto le i zs) ∧ Hid (Own wr base 3 1 icell (.slice (some ⟨g, 0, none⟩) n c) zs) ∧ Kept (fun b => b ≠ g) w wr) (fun iv _ => n - (intOf iv).toNat)
  case atStart => exact ⟨1, xs, by omega, rfl, hide (List.Perm.refl _), hide (fun p q x y h1 h2 => by omega), Ho, Kept.refl _ _⟩
  case round =>
    obtain ⟨i, zs0, hi, rfl, hp0, hu0, ho0, hK0⟩ := hrel
    by_cases hlt : i < n
    · obtain ⟨wo, rfl⟩ : ∃ wo, wo = wr := ⟨wr, rfl⟩
      go_wp2_with fail
      go_loopw [9] (fun jv wr => ∃ (j : Nat) (zs : List Int), j ≤ i ∧ jv = .int .i64 j ∧ Hid (List.Perm zs xs) ∧ Hid (But1 le i j zs) ∧ Hid (Own wr base 3 1 icell (.slice (some ⟨g, 0, none⟩) n c) zs) ∧ Kept (fun b => b ≠ g) w wr) (fun jv _ => (intOf jv).toNat)
      case atStart => exact ⟨i, zs0, Nat.le_refl _, rfl, hp0, hide (But1.start hu0.out), ho0, hK0⟩
      case round =>
        clear hp0 hu0 ho0 hK0
        obtain ⟨j, zs, hj, rfl, hp, hbu, hoz, hKw⟩ := hrel
        have hlz : n = zs.length := by rw [Hn.out]; exact hp.out.length_eq.symm
        obtain ⟨hgl, hgb⟩ : g < wr.heap.size ∧ base ≤ g := by
          have := hoz.out.blockG (g := g) rfl
          exact ⟨this.2, this.1⟩
        have Hlz := hide hlz
        by_cases hj0 : j = 0
        · have jz : (j : Int) = 0 := by omega
          have j0f : decide ((0 : Int) < (j : Int)) = false := decide_eq_false (by omega)
          clear hlz
          go_wp2_with fail
          refine wp_region_held_drew (S := (fun W => Below wr.heap.size wr W)) (by kernel_rfl) (by (try dsimp only); exact (Below.refl _ _).drew) (fun hHeld => ?_)
          generalize World.drew wr = Wd4 at hHeld ⊢
          have hbc := Below.refl Wd4.heap.size Wd4
          refine wpAnyH_take (i := 0) (oi := ⟨_, _, _, _, _, _⟩) (v := ?_) rfl (by kernel_rfl) (by kernel_rfl) (by kernel_rfl) (fun _ _ _ h => h) (Or.inl ⟨by rfl, ?_⟩) hHeld ?_
          rotate_left
          · (intro w hSw; (try dsimp only at hSw); go_simp; try (with_reducible rfl))
          try simp only [Act.put, List.setIfInBounds_toArray, List.set_cons_zero, List.set_cons_succ]
          refine wpAnyH_take (i := 1) (oi := ⟨_, _, _, _, _, _⟩) (v := ?_) rfl (by kernel_rfl) (by kernel_rfl) (by kernel_rfl) (fun _ _ _ h => h) (Or.inl ⟨by rfl, ?_⟩) hHeld ?_
          rotate_left
          · (intro w hSw; (try dsimp only at hSw); go_simp; try (with_reducible rfl))
          try simp only [Act.put, List.setIfInBounds_toArray, List.set_cons_zero, List.set_cons_succ]
          refine wpAnyH_take (i := 2) (oi := ⟨_, _, _, _, _, _⟩) (v := ?_) rfl (by kernel_rfl) (by kernel_rfl) (by kernel_rfl) (fun _ _ _ h => h) (Or.inl ⟨by rfl, ?_⟩) hHeld ?_
          rotate_left
          · (intro w hSw; (try dsimp only at hSw); go_simp; try (with_reducible rfl))
          try simp only [Act.put, List.setIfInBounds_toArray, List.set_cons_zero, List.set_cons_succ]
          refine wpAnyH_take (i := 3) (oi := ⟨_, _, _, _, _, _⟩) (v := ?_) rfl (by kernel_rfl) (by kernel_rfl) (by kernel_rfl) (fun _ _ _ h => h) (Or.inl ⟨by rfl, ?_⟩) hHeld ?_
          rotate_left
          · (intro w hSw; (try dsimp only at hSw); go_simp; try (with_reducible rfl))
          try simp only [Act.put, List.setIfInBounds_toArray, List.set_cons_zero, List.set_cons_succ]
          refine wpAnyH_take (i := 4) (oi := ⟨_, _, _, _, _, _⟩) (v := _) rfl (by kernel_rfl) (by kernel_rfl) (by kernel_rfl) (fun _ _ _ h => h) (Or.inr ⟨by rfl, rfl⟩) hHeld ?_
          try simp only [Act.put, List.setIfInBounds_toArray, List.set_cons_zero, List.set_cons_succ]
          refine wpAnyH_take (i := 5) (oi := ⟨_, _, _, _, _, _⟩) (v := _) rfl (by kernel_rfl) (by kernel_rfl) (by kernel_rfl) (fun _ _ _ h => h) (Or.inr ⟨by rfl, rfl⟩) hHeld ?_
          try simp only [Act.put, List.setIfInBounds_toArray, List.set_cons_zero, List.set_cons_succ]
          refine wpAnyH_take (i := 6) (oi := ⟨_, _, _, _, _, _⟩) (v := _) rfl (by kernel_rfl) (by kernel_rfl) (by kernel_rfl) (fun _ _ _ h => h) (Or.inr ⟨by rfl, rfl⟩) hHeld ?_
          try simp only [Act.put, List.setIfInBounds_toArray, List.set_cons_zero, List.set_cons_succ]
          refine wpAnyH_take (i := 7) (oi := ⟨_, _, _, _, _, _⟩) (v := _) rfl (by kernel_rfl) (by kernel_rfl) (by kernel_rfl) (fun _ _ _ h => h) (Or.inr ⟨by rfl, rfl⟩) hHeld ?_
          try simp only [Act.put, List.setIfInBounds_toArray, List.set_cons_zero, List.set_cons_succ]
          refine wpAnyH_take (i := 8) (oi := ⟨_, _, _, _, _, _⟩) (v := _) rfl (by kernel_rfl) (by kernel_rfl) (by kernel_rfl) (fun _ _ _ h => h) (Or.inr ⟨by rfl, rfl⟩) hHeld ?_
          try simp only [Act.put, List.setIfInBounds_toArray, List.set_cons_zero, List.set_cons_succ]
          refine wpAnyH_take (i := 9) (oi := ⟨_, _, _, _, _, _⟩) (v := _) rfl (by kernel_rfl) (by kernel_rfl) (by kernel_rfl) (fun _ _ _ h => h) (Or.inr ⟨by rfl, rfl⟩) hHeld ?_
          try simp only [Act.put, List.setIfInBounds_toArray, List.set_cons_zero, List.set_cons_succ]
          refine wpAnyH_take (i := 10) (oi := ⟨_, _, _, _, _, _⟩) (v := _) rfl (by kernel_rfl) (by kernel_rfl) (by kernel_rfl) (fun _ _ _ h => h) (Or.inr ⟨by rfl, rfl⟩) hHeld ?_
          try simp only [Act.put, List.setIfInBounds_toArray, List.set_cons_zero, List.set_cons_succ]
          refine wpAnyH_take (i := 11) (oi := ⟨_, _, _, _, _, _⟩) (v := _) rfl (by kernel_rfl) (by kernel_rfl) (by kernel_rfl) (fun _ _ _ h => h) (Or.inr ⟨by rfl, rfl⟩) hHeld ?_
          try simp only [Act.put, List.setIfInBounds_toArray, List.set_cons_zero, List.set_cons_succ]
          refine wpAnyH_take (i := 12) (oi := ⟨_, _, _, _, _, _⟩) (v := _) rfl (by kernel_rfl) (by kernel_rfl) (by kernel_rfl) (fun _ _ _ h => h) (Or.inr ⟨by rfl, rfl⟩) hHeld ?_
          try simp only [Act.put, List.setIfInBounds_toArray, List.set_cons_zero, List.set_cons_succ]
          refine wpAnyH_take (i := 13) (oi := ⟨_, _, _, _, _, _⟩) (v := _) rfl (by kernel_rfl) (by kernel_rfl) (by kernel_rfl) (fun _ _ _ h => h) (Or.inr ⟨by rfl, rfl⟩) hHeld ?_
          try simp only [Act.put, List.setIfInBounds_toArray, List.set_cons_zero, List.set_cons_succ]
          refine wpAnyH_take (i := 14) (oi := ⟨_, _, _, _, _, _⟩) (v := _) rfl (by kernel_rfl) (by kernel_rfl) (by kernel_rfl) (fun _ _ _ h => h) (Or.inr ⟨by rfl, rfl⟩) hHeld ?_
          try simp only [Act.put, List.setIfInBounds_toArray, List.set_cons_zero, List.set_cons_succ]
          refine wpAnyH_take (i := 15) (oi := ⟨_, _, _, _, _, _⟩) (v := _) rfl (by kernel_rfl) (by kernel_rfl) (by kernel_rfl) (fun _ _ _ h => h) (Or.inr ⟨by rfl, rfl⟩) hHeld ?_
          try simp only [Act.put, List.setIfInBounds_toArray, List.set_cons_zero, List.set_cons_succ]
          refine wpAnyH_take (i := 16) (oi := ⟨_, _, _, _, _, _⟩) (v := ?_) rfl (by kernel_rfl) (by kernel_rfl) (by kernel_rfl) (fun _ _ _ h => h) (Or.inl ⟨by rfl, ?_⟩) hHeld ?_
          rotate_left
          · (intro w hSw; (try dsimp only at hSw); go_simp; try (with_reducible rfl))
          try simp only [Act.put, List.setIfInBounds_toArray, List.set_cons_zero, List.set_cons_succ]
          refine wpAnyH_done (by kernel_rfl) ?_ _
          have HKf := hide (hKw.trans (Kept.all _ hHeld))
          have Hown := hide (hoz.out.bel hHeld)
          have Hup := hide (hbu.out.done tr (.inl hj0) hj)
          go_wp2_with fail
          exact ⟨⟨i + 1, zs, by omega, by go_num, hp, Hup, Hown, HKf.out⟩, by simp [intOf]; omega⟩
        · obtain ⟨k, hjk⟩ : ∃ k, j = k + 1 := ⟨j - 1, by omega⟩
          obtain ⟨y1, hy1⟩ : ∃ y, zs[j]? = some y := ⟨_, List.getElem?_eq_getElem (by omega)⟩
          obtain ⟨y0, hy0⟩ : ∃ y, zs[k]? = some y := ⟨_, List.getElem?_eq_getElem (by omega)⟩
          have c1 := own_int hoz.out hlz hy1
          have c0 := own_int hoz.out hlz hy0
          have hm1 : y1 ∈ xs := hp.out.mem_iff.1 (List.mem_of_getElem? hy1)
          have hm0 : y0 ∈ xs := hp.out.mem_iff.1 (List.mem_of_getElem? hy0)
          have hkn : j < n := by rw [hlz]; exact (List.getElem?_eq_some_iff.1 hy1).1
          have Hy1 := hide hy1; have Hy0 := hide hy0
          have jt : decide (0 < j) = true := decide_eq_true (by omega)
          have jm : IntKind.i64.wrap ((j : Int) - 1) = (k : Int) := by rw [wrapI (by omega)]; omega
          have ik : (k : Int) < (n : Int) := by omega
          have ik1 : (j : Int) < (n : Int) := by omega
          have Hjk := hide hjk
          clear hlz hy1 hy0 hj0 hjk
          go_wp2_with fail
          refine wp_region_held_drew (S := (fun W => Below wr.heap.size wr W)) (by kernel_rfl) (by (try dsimp only); exact (Below.refl _ _).drew) (fun hHeld => ?_)
          generalize World.drew wr = Wd4 at hHeld ⊢
          have hbc := Below.refl Wd4.heap.size Wd4
          refine wpAnyH_take (i := 0) (oi := ⟨_, _, _, _, _, _⟩) (v := ?_) rfl (by kernel_rfl) (by kernel_rfl) (by kernel_rfl) (fun _ _ _ h => h) (Or.inl ⟨by rfl, ?_⟩) hHeld ?_
          rotate_left
          · (intro w hSw; (try dsimp only at hSw); go_simp; try (with_reducible rfl))
          try simp only [Act.put, List.setIfInBounds_toArray, List.set_cons_zero, List.set_cons_succ]
          refine wpAnyH_take (i := 1) (oi := ⟨_, _, _, _, _, _⟩) (v := ?_) rfl (by kernel_rfl) (by kernel_rfl) (by kernel_rfl) (fun _ _ _ h => h) (Or.inl ⟨by rfl, ?_⟩) hHeld ?_
          rotate_left
          · (intro w hSw; (try dsimp only at hSw); go_simp; try (with_reducible rfl))
          try simp only [Act.put, List.setIfInBounds_toArray, List.set_cons_zero, List.set_cons_succ]
          refine wpAnyH_take (i := 2) (oi := ⟨_, _, _, _, _, _⟩) (v := ?_) rfl (by kernel_rfl) (by kernel_rfl) (by kernel_rfl) (fun _ _ _ h => h) (Or.inl ⟨by rfl, ?_⟩) hHeld ?_
          rotate_left
          · (intro w hSw; (try dsimp only at hSw); go_simp; try (with_reducible rfl))
          try simp only [Act.put, List.setIfInBounds_toArray, List.set_cons_zero, List.set_cons_succ]
          refine wpAnyH_take (i := 3) (oi := ⟨_, _, _, _, _, _⟩) (v := ?_) rfl (by kernel_rfl) (by kernel_rfl) (by kernel_rfl) (fun _ _ _ h => h) (Or.inl ⟨by rfl, ?_⟩) hHeld ?_
          rotate_left
          · (intro w hSw; (try dsimp only at hSw); go_simp; try (with_reducible rfl))
          try simp only [Act.put, List.setIfInBounds_toArray, List.set_cons_zero, List.set_cons_succ]
          refine wpAnyH_take (i := 4) (oi := ⟨_, _, _, _, _, _⟩) (v := ?_) rfl (by kernel_rfl) (by kernel_rfl) (by kernel_rfl) (fun _ _ _ h => h) (Or.inl ⟨by rfl, ?_⟩) hHeld ?_
          rotate_left
          · (intro w hSw; (try dsimp only at hSw); go_simp; try (with_reducible rfl))
          try simp only [Act.put, List.setIfInBounds_toArray, List.set_cons_zero, List.set_cons_succ]
          refine wpAnyH_take (i := 5) (oi := ⟨_, _, _, _, _, _⟩) (v := ?_) rfl (by kernel_rfl) (by kernel_rfl) (by kernel_rfl) (fun _ _ _ h => h) (Or.inl ⟨by rfl, ?_⟩) hHeld ?_
          rotate_left
          · (intro w hSw; (try dsimp only at hSw); go_simp; try (with_reducible rfl))
          try simp only [Act.put, List.setIfInBounds_toArray, List.set_cons_zero, List.set_cons_succ]
          refine wpAnyH_take (i := 6) (oi := ⟨_, _, _, _, _, _⟩) (v := ?_) rfl (by kernel_rfl) (by kernel_rfl) (by kernel_rfl) (fun _ _ _ h => h) (Or.inl ⟨by rfl, ?_⟩) hHeld ?_
          rotate_left
          · (intro w hSw; (try dsimp only at hSw); go_simp; try (with_reducible rfl))
          try simp only [Act.put, List.setIfInBounds_toArray, List.set_cons_zero, List.set_cons_succ]
          refine wpAnyH_take (i := 7) (oi := ⟨_, _, _, _, _, _⟩) (v := ?_) rfl (by kernel_rfl) (by kernel_rfl) (by kernel_rfl) (fun _ _ _ h => h) (Or.inl ⟨by rfl, ?_⟩) hHeld ?_
          rotate_left
          · (intro w hSw; (try dsimp only at hSw); go_simp; try (with_reducible rfl))
          try simp only [Act.put, List.setIfInBounds_toArray, List.set_cons_zero, List.set_cons_succ]
          refine wpAnyH_take (i := 8) (oi := ⟨_, _, _, _, _, _⟩) (v := ?_) rfl (by kernel_rfl) (by kernel_rfl) (by kernel_rfl) (fun _ _ _ h => h) (Or.inl ⟨by rfl, ?_⟩) hHeld ?_
          rotate_left
          · (intro w hSw; (try dsimp only at hSw); have x1 := (hSw.cell (p := ⟨g, j, none⟩) hgl).trans c1; have x0 := (hSw.cell (p := ⟨g, k, none⟩) hgl).trans c0; go_simp; try (with_reducible rfl))
          try simp only [Act.put, List.setIfInBounds_toArray, List.set_cons_zero, List.set_cons_succ]
          refine wpAnyH_take (i := 9) (oi := ⟨_, _, _, _, _, _⟩) (v := ?_) rfl (by kernel_rfl) (by kernel_rfl) (by kernel_rfl) (fun _ _ _ h => h) (Or.inl ⟨by rfl, ?_⟩) hHeld ?_
          rotate_left
          · (intro w hSw; (try dsimp only at hSw); go_simp; try (with_reducible rfl))
          try simp only [Act.put, List.setIfInBounds_toArray, List.set_cons_zero, List.set_cons_succ]
          refine wpAnyH_take (i := 10) (oi := ⟨_, _, _, _, _, _⟩) (v := ?_) rfl (by kernel_rfl) (by kernel_rfl) (by kernel_rfl) (fun _ _ _ h => h) (Or.inl ⟨by rfl, ?_⟩) hHeld ?_
          rotate_left
          · (intro w hSw; (try dsimp only at hSw); go_simp; try (with_reducible rfl))
          try simp only [Act.put, List.setIfInBounds_toArray, List.set_cons_zero, List.set_cons_succ]
          refine wpAnyH_take (i := 11) (oi := ⟨_, _, _, _, _, _⟩) (v := ?_) rfl (by kernel_rfl) (by kernel_rfl) (by kernel_rfl) (fun _ _ _ h => h) (Or.inl ⟨by rfl, ?_⟩) hHeld ?_
          rotate_left
          · (intro w hSw; (try dsimp only at hSw); go_simp; try (with_reducible rfl))
          try simp only [Act.put, List.setIfInBounds_toArray, List.set_cons_zero, List.set_cons_succ]
          refine wpAnyH_take (i := 12) (oi := ⟨_, _, _, _, _, _⟩) (v := ?_) rfl (by kernel_rfl) (by kernel_rfl) (by kernel_rfl) (fun _ _ _ h => h) (Or.inl ⟨by rfl, ?_⟩) hHeld ?_
          rotate_left
          · (intro w hSw; (try dsimp only at hSw); go_simp; try (with_reducible rfl))
          try simp only [Act.put, List.setIfInBounds_toArray, List.set_cons_zero, List.set_cons_succ]
          refine wpAnyH_take (i := 13) (oi := ⟨_, _, _, _, _, _⟩) (v := ?_) rfl (by kernel_rfl) (by kernel_rfl) (by kernel_rfl) (fun _ _ _ h => h) (Or.inl ⟨by rfl, ?_⟩) hHeld ?_
          rotate_left
          · (intro w hSw; (try dsimp only at hSw); have x1 := (hSw.cell (p := ⟨g, j, none⟩) hgl).trans c1; have x0 := (hSw.cell (p := ⟨g, k, none⟩) hgl).trans c0; go_simp; try (with_reducible rfl))
          try simp only [Act.put, List.setIfInBounds_toArray, List.set_cons_zero, List.set_cons_succ]
          refine wpAnyH_ready (rs := [14]) (by kernel_rfl) (by simp) ?_
          refine AllReadyH.cons (o := ⟨_, _, _, _, _, _⟩) rfl (fun K hK => ?_) AllReadyH.nil
          go_simp
          refine (Hf.out y1 y0 _ hm1 hm0 (hKw.trans (Kept.all _ hHeld))).mono ?_
          rintro e V32 ⟨d, rfl, hd1, hd2, hb⟩
          have hld := hb
          go_wp2_with fail
          have hHeldN := hHeld.trans (hb.mono hHeld.size)
          have hbc := hbc.trans (hb.mono hbc.size)
          refine hK.out _ _ ?_ (fun hHeld2 => ?_)
          · exact hHeldN
          clear hK K hHeld hHeldN hb; have hHeld := hHeld2; clear hHeld2
          try simp only [Act.put, List.setIfInBounds_toArray, List.set_cons_zero, List.set_cons_succ]
          refine wpAnyH_take (i := 15) (oi := ⟨_, _, _, _, _, _⟩) (v := ?_) rfl (by kernel_rfl) (by kernel_rfl) (by kernel_rfl) (fun _ _ _ h => h) (Or.inl ⟨by rfl, ?_⟩) hHeld ?_
          rotate_left
          · (intro w hSw; (try dsimp only at hSw); go_simp; try (with_reducible rfl))
          try simp only [Act.put, List.setIfInBounds_toArray, List.set_cons_zero, List.set_cons_succ]
          refine wpAnyH_take (i := 16) (oi := ⟨_, _, _, _, _, _⟩) (v := ?_) rfl (by kernel_rfl) (by kernel_rfl) (by kernel_rfl) (fun _ _ _ h => h) (Or.inl ⟨by rfl, ?_⟩) hHeld ?_
          rotate_left
          · (intro w hSw; (try dsimp only at hSw); go_simp; try (with_reducible rfl))
          try simp only [Act.put, List.setIfInBounds_toArray, List.set_cons_zero, List.set_cons_succ]
          refine wpAnyH_done (by kernel_rfl) ?_ _
          have hK4 := hKw.trans (Kept.all (fun b => b ≠ g) hHeld)
          have o4 := hoz.out.bel hHeld
          obtain ⟨w4, rfl⟩ : ∃ w4, w4 = V32 := ⟨V32, rfl⟩
          by_cases hd0 : d < 0
          · have hle := hd1 hd0
            have Hbs : Hid (But1 le i k ((zs.set j y0).set k y1)) := by have h := But1.swap (j := k) (by have := hbu.out; rwa [Hjk.out] at this) (by have := Hjk.out; omega) Hy0.out (by have := Hy1.out; rwa [Hjk.out] at this) hle; rw [← Hjk.out] at h; exact hide h
            have Hps := hide ((swap_permI Hy1.out Hy0.out).trans hp.out)
            have o4d := o4.below (Below.refl w4.heap.size w4).drew
            have hlz := Hlz.out
            have hx2 : (zs.set j y0)[k]? = some y0 := by rw [List.getElem?_set_ne (by have := Hjk.out; omega)]; exact Hy0.out
            obtain ⟨o5, ⟨u1, z1⟩, f1⟩ := o4d.put_ icell_len (i := j) (j := 0) (x' := y0) (u := .int .i64 y0) Hy1.out (by omega) (by simp [icell]) hlz
            obtain ⟨o6, ⟨u2, z2⟩, f2⟩ := o5.put_ icell_len (i := k) (j := 0) (x' := y1) (u := .int .i64 y1) hx2 (by omega) (by simp [icell]) (by rw [List.length_set]; exact hlz)
            have r1 := own_int o4d hlz Hy1.out
            have r0 := own_int o4d hlz Hy0.out
            simp only [Nat.mul_one, Nat.add_zero, Nat.zero_add] at o5 o6 z1 z2 f1 f2
            have Hfin := hide o6
            have z2a : (w4.setCell ⟨g, j, none⟩ (.int .i64 y0)).cell? ⟨g, k, none⟩ = some u2 := z2
            have z2b : (w4.setCell ⟨g, j, none⟩ (.int .i64 y0)).drew.cell? ⟨g, k, none⟩ = some u2 := z2
            have f2a : w4.frozen? ⟨g, k, none⟩ = false := own_frzI o4 Hlz.out _
            have f1a : w4.frozen? ⟨g, j, none⟩ = false := own_frzI o4 Hlz.out _
            have r1a : w4.cell? ⟨g, j, none⟩ = some (.int .i64 y1) := r1
            have r0a : w4.cell? ⟨g, k, none⟩ = some (.int .i64 y0) := r0
            have jg0 : (0 : Int) ≤ (j : Int) := by omega
            have kg0 : (0 : Int) ≤ (k : Int) := by omega
            have HK6 := hide (((hK4.trans (Kept.drew _ w4 1)).trans (Kept.setCell (w4.drewN 1) ⟨g, j, none⟩ (.int .i64 y0))).trans (Kept.setCell _ ⟨g, k, none⟩ (.int .i64 y1)))
            clear z1 hx2 o4d o5 o6 hlz hd1 hd2 hle c1 c0 hK4 o4 hHeld hbc hgl
            go_wp2_with fail
            go_region
            go_wp2_with fail
            exact ⟨⟨k, (zs.set j y0).set k y1, by have := Hjk.out; omega, by go_num, Hps, Hbs, Hfin, HK6.out⟩, by simp [intOf]; have := Hjk.out; omega⟩
          · have hle := hd2 (by omega)
            have HKf := hide hK4
            have Hown := hide o4
            have Hup := hide (hbu.out.done tr (.inr ⟨y0, y1, by rw [Hjk.out]; exact Hy0.out, Hy1.out, hle⟩) hj)
            clear hd1 hd2
            go_wp2_with fail
            exact ⟨⟨i + 1, zs, by omega, by go_num, hp, Hup, Hown, HKf.out⟩, by simp [intOf]; omega⟩
    · go_wp2_with fail
      go_end0
      exact ⟨⟨_, rfl⟩, zs0, hp0.out, fun p q x y h1 h2 => hu0.out p q x y h1 (by omega), ho0.out, hK0⟩
end Go.Proofs.Ytmbhnjpaieimbaa
namespace Go.Proofs.Ytmbhnjpaieimbaa
open Go.RowKit Go.Shelf
theorem below_of_eqW {w W : World} (h : W = w) : Below w.heap.size w W := h ▸ Below.refl _ _
theorem isort0 (v fn : Value) (w : World) : Calls Try.prog 144 #[v, .int .i64 0, .int .i64 0, fn] w fun e w' => (∃ v, e = .returned v) ∧ w' = w := by
  go_enter Try.func144, Try.ntmps144
  go_wp2_with fail
  go_loopw [8] (fun iv wr => iv = .int .i64 1 ∧ wr = w) (fun _ _ => 0)
  case atStart => exact ⟨rfl, rfl⟩
  case round =>
    obtain ⟨rfl, rfl⟩ := hrel
    go_wp2_with fail
    go_end0
    exact ⟨⟨_, rfl⟩, rfl⟩
set_option maxHeartbeats 4000000 in
set_option maxRecDepth 100000 in
theorem stable_any (v fn : Value) (n : Nat) (w : World) (R : World → Prop) (hn : n ≤ 8) (h : Calls Try.prog 144 #[v, .int .i64 0, .int .i64 n, fn] w fun e w' => (∃ v, e = .returned v) ∧ R w') :
    Calls Try.prog 143 #[v, .int .i64 n, fn] w fun e w' => (∃ v, e = .returned v) ∧ R w' := by
  have H := hide h
  clear h
  have h20 : ¬ (20 : Int) ≤ (n : Int) := by omega
  have h20b : ¬ (20 : Int) < (n : Int) := by omega
  go_enter Try.func143, Try.ntmps143
  go_wp2_with fail
  go_loopw [7, 8] (fun a b wr => a = .int .i64 0 ∧ b = .int .i64 20 ∧ wr = w) (fun _ _ _ => 0)
  case atStart => exact ⟨rfl, rfl, rfl⟩
  case round =>
    obtain ⟨rfl, rfl, rfl⟩ := hrel
    go_wp2_with fail
    refine H.out.mono ?_
    rintro e w1 ⟨⟨u, rfl⟩, hR⟩
    have HR := hide hR
    clear hR
    go_wp2_with fail
    go_loopw [6] (fun a wr => a = .int .i64 20 ∧ wr = w1) (fun _ _ => 0)
    case atStart => exact ⟨rfl, rfl⟩
    case round =>
      obtain ⟨rfl, rfl⟩ := hrel
      go_wp2_with fail
      go_end0
      exact ⟨⟨_, rfl⟩, HR.out⟩
theorem sortStable_any (A : Option Addr) (n c : Nat) (fn : Value) (w : World) (R : World → Prop) (hn : n ≤ 8) (h : Calls Try.prog 144 #[.slice A n c, .int .i64 0, .int .i64 n, fn] w fun e w' => (∃ v, e = .returned v) ∧ R w') :
    Calls Try.prog 136 #[.slice A n c, fn] w fun e w' => (∃ v, e = .returned v) ∧ R w' := by
  have H := hide (stable_any (.slice A n c) fn n w R hn h)
  clear h
  go_enter Try.func136, Try.ntmps136
  go_wp2_with fail
  refine H.out.mono ?_
  rintro e w1 ⟨⟨u, rfl⟩, hR⟩
  go_wp2_with fail
  go_end0
  exact ⟨⟨_, rfl⟩, hR⟩
theorem enters_cost1 : ∀ args w, (callFunc 116 args).run Try.prog w = .ok (.enter 116 args) w := enters_of Try.func116 (by kernel_rfl) rfl
theorem enters_cost2 : ∀ args w, (callFunc 117 args).run Try.prog w = .ok (.enter 117 args) w := enters_of Try.func117 (by kernel_rfl) rfl
theorem enters_ordered1 : ∀ args w, (callFunc 137 args).run Try.prog w = .ok (.enter 137 args) w := enters_of Try.func137 (by kernel_rfl) rfl
set_option maxHeartbeats 4000000 in
set_option maxRecDepth 100000 in
theorem cost1_any (B : Brs) (ns pr : List Int) (b x y : Nat) (w : World) (hB : BAt w B ns pr) (hX : At w b B.cells) (hx : x < B.r) (hy : y < B.r) :
    Calls Try.prog 116 #[.int .i64 (x : Nat), .int .i64 (y : Nat), .pointer (some ⟨b, 0, none⟩)] w fun e w' => e = .returned (.int .i64 (cmpI (pr.getD y 0) (pr.getD x 0))) ∧ Below w.heap.size w w' := by
  obtain ⟨q, o, p0, hA, hql, hp0, c0⟩ := hB.rp.int (i := x) (by rw [← hB.er]; exact hx)
  obtain ⟨q', o', p1, hA', _, hp1, c1⟩ := hB.rp.int (i := y) (by rw [← hB.er]; exact hy)
  rw [hA] at hA'
  injection hA' with hA'
  injection hA' with e1 e2
  subst e1 e2
  have g0 : pr.getD x 0 = p0 := by rw [List.getD_eq_getElem?_getD, hp0]; rfl
  have g1 : pr.getD y 0 = p1 := by rw [List.getD_eq_getElem?_getD, hp1]; rfl
  rw [g0, g1]
  obtain ⟨r, hr⟩ : ∃ r, r = B.r := ⟨_, rfl⟩
  have z := fun (W : World) (hb : Below w.heap.size w W) => hB.c17 (hX.bel hb)
  rw [← hr] at hx hy
  obtain ⟨cp, hcp⟩ : ∃ cp, cp = B.cp := ⟨_, rfl⟩
  rw [hA, ← hr, ← hcp] at z
  have Z := hide z
  have ix : (x : Int) < (r : Int) := by omega
  have iy : (y : Int) < (r : Int) := by omega
  clear hB hX hp0 hp1 g0 g1 hr hcp z hA
  go_enter Try.func116, Try.ntmps116
  go_wp2_with fail
  refine wp_region_held_drew (S := (fun W => Below w.heap.size w W)) (by kernel_rfl) (by (try dsimp only); exact (Below.refl _ _).drew) (fun hHeld => ?_)
  generalize World.drew w = Wd1 at hHeld ⊢
  have hbc := Below.refl Wd1.heap.size Wd1
  refine wpAnyH_take (i := 0) (oi := ⟨_, _, _, _, _, _⟩) (v := ?_) rfl (by kernel_rfl) (by kernel_rfl) (by kernel_rfl) (fun _ _ _ h => h) (Or.inl ⟨by rfl, ?_⟩) hHeld ?_
  rotate_left
  · (intro w hSw; (try dsimp only at hSw); go_simp; try (with_reducible rfl))
  try simp only [Act.put, List.setIfInBounds_toArray, List.set_cons_zero, List.set_cons_succ]
  refine wpAnyH_take (i := 1) (oi := ⟨_, _, _, _, _, _⟩) (v := ?_) rfl (by kernel_rfl) (by kernel_rfl) (by kernel_rfl) (fun _ _ _ h => h) (Or.inl ⟨by rfl, ?_⟩) hHeld ?_
  rotate_left
  · (intro w hSw; (try dsimp only at hSw); have z17 := Z.out _ hSw; have z1 := (hSw.cell (p := ⟨q, o + y, none⟩) hql).trans c1; have z0 := (hSw.cell (p := ⟨q, o + x, none⟩) hql).trans c0; go_simp; try (with_reducible rfl))
  try simp only [Act.put, List.setIfInBounds_toArray, List.set_cons_zero, List.set_cons_succ]
  refine wpAnyH_take (i := 2) (oi := ⟨_, _, _, _, _, _⟩) (v := ?_) rfl (by kernel_rfl) (by kernel_rfl) (by kernel_rfl) (fun _ _ _ h => h) (Or.inl ⟨by rfl, ?_⟩) hHeld ?_
  rotate_left
  · (intro w hSw; (try dsimp only at hSw); go_simp; try (with_reducible rfl))
  try simp only [Act.put, List.setIfInBounds_toArray, List.set_cons_zero, List.set_cons_succ]
  refine wpAnyH_take (i := 3) (oi := ⟨_, _, _, _, _, _⟩) (v := ?_) rfl (by kernel_rfl) (by kernel_rfl) (by kernel_rfl) (fun _ _ _ h => h) (Or.inl ⟨by rfl, ?_⟩) hHeld ?_
  rotate_left
  · (intro w hSw; (try dsimp only at hSw); go_simp; try (with_reducible rfl))
  try simp only [Act.put, List.setIfInBounds_toArray, List.set_cons_zero, List.set_cons_succ]
  refine wpAnyH_take (i := 4) (oi := ⟨_, _, _, _, _, _⟩) (v := ?_) rfl (by kernel_rfl) (by kernel_rfl) (by kernel_rfl) (fun _ _ _ h => h) (Or.inl ⟨by rfl, ?_⟩) hHeld ?_
  rotate_left
  · (intro w hSw; (try dsimp only at hSw); have z17 := Z.out _ hSw; have z1 := (hSw.cell (p := ⟨q, o + y, none⟩) hql).trans c1; have z0 := (hSw.cell (p := ⟨q, o + x, none⟩) hql).trans c0; go_simp; try (with_reducible rfl))
  try simp only [Act.put, List.setIfInBounds_toArray, List.set_cons_zero, List.set_cons_succ]
  refine wpAnyH_take (i := 5) (oi := ⟨_, _, _, _, _, _⟩) (v := ?_) rfl (by kernel_rfl) (by kernel_rfl) (by kernel_rfl) (fun _ _ _ h => h) (Or.inl ⟨by rfl, ?_⟩) hHeld ?_
  rotate_left
  · (intro w hSw; (try dsimp only at hSw); go_simp; try (with_reducible rfl))
  try simp only [Act.put, List.setIfInBounds_toArray, List.set_cons_zero, List.set_cons_succ]
  refine wpAnyH_take (i := 6) (oi := ⟨_, _, _, _, _, _⟩) (v := ?_) rfl (by kernel_rfl) (by kernel_rfl) (by kernel_rfl) (fun _ _ _ h => h) (Or.inl ⟨by rfl, ?_⟩) hHeld ?_
  rotate_left
  · (intro w hSw; (try dsimp only at hSw); have z17 := Z.out _ hSw; have z1 := (hSw.cell (p := ⟨q, o + y, none⟩) hql).trans c1; have z0 := (hSw.cell (p := ⟨q, o + x, none⟩) hql).trans c0; go_simp; try (with_reducible rfl))
  try simp only [Act.put, List.setIfInBounds_toArray, List.set_cons_zero, List.set_cons_succ]
  refine wpAnyH_take (i := 7) (oi := ⟨_, _, _, _, _, _⟩) (v := ?_) rfl (by kernel_rfl) (by kernel_rfl) (by kernel_rfl) (fun _ _ _ h => h) (Or.inl ⟨by rfl, ?_⟩) hHeld ?_
  rotate_left
  · (intro w hSw; (try dsimp only at hSw); go_simp; try (with_reducible rfl))
  try simp only [Act.put, List.setIfInBounds_toArray, List.set_cons_zero, List.set_cons_succ]
  refine wpAnyH_take (i := 8) (oi := ⟨_, _, _, _, _, _⟩) (v := ?_) rfl (by kernel_rfl) (by kernel_rfl) (by kernel_rfl) (fun _ _ _ h => h) (Or.inl ⟨by rfl, ?_⟩) hHeld ?_
  rotate_left
  · (intro w hSw; (try dsimp only at hSw); go_simp; try (with_reducible rfl))
  try simp only [Act.put, List.setIfInBounds_toArray, List.set_cons_zero, List.set_cons_succ]
  refine wpAnyH_take (i := 9) (oi := ⟨_, _, _, _, _, _⟩) (v := ?_) rfl (by kernel_rfl) (by kernel_rfl) (by kernel_rfl) (fun _ _ _ h => h) (Or.inl ⟨by rfl, ?_⟩) hHeld ?_
  rotate_left
  · (intro w hSw; (try dsimp only at hSw); have z17 := Z.out _ hSw; have z1 := (hSw.cell (p := ⟨q, o + y, none⟩) hql).trans c1; have z0 := (hSw.cell (p := ⟨q, o + x, none⟩) hql).trans c0; go_simp; try (with_reducible rfl))
  try simp only [Act.put, List.setIfInBounds_toArray, List.set_cons_zero, List.set_cons_succ]
  refine wpAnyH_ready (rs := [10]) (by kernel_rfl) (by simp) ?_
  refine AllReadyH.cons (o := ⟨_, _, _, _, _, _⟩) rfl (fun K hK => ?_) AllReadyH.nil
  go_simp
  refine (cmp_any p1 p0 _).mono ?_
  rintro e V16 ⟨rfl, hb⟩
  replace hb : Below _ _ _ := below_of_eqW hb
  go_wp2_with fail
  have hHeldN := hHeld.trans (hb.mono hHeld.size)
  have hbc := hbc.trans (hb.mono hbc.size)
  refine hK.out _ _ ?_ (fun hHeld2 => ?_)
  · exact hHeldN
  clear hK K hHeld hHeldN hb; have hHeld := hHeld2; clear hHeld2
  try simp only [Act.put, List.setIfInBounds_toArray, List.set_cons_zero, List.set_cons_succ]
  refine wpAnyH_take (i := 11) (oi := ⟨_, _, _, _, _, _⟩) (v := ?_) rfl (by kernel_rfl) (by kernel_rfl) (by kernel_rfl) (fun _ _ _ h => h) (Or.inl ⟨by rfl, ?_⟩) hHeld ?_
  rotate_left
  · (intro w hSw; (try dsimp only at hSw); go_simp; try (with_reducible rfl))
  try simp only [Act.put, List.setIfInBounds_toArray, List.set_cons_zero, List.set_cons_succ]
  refine wpAnyH_done (by kernel_rfl) ?_ _
  go_wp2_with fail
  go_ret
  exact ⟨rfl, hHeld⟩
theorem cost2_any (x y : Int) (w : World) : Calls Try.prog 117 #[.int .i64 x, .int .i64 y] w fun e w' => e = .returned (.int .i64 (cmpI y x)) ∧ Below w.heap.size w w' := by
  have h := cmp_any y x w
  go_enter Try.func117, Try.ntmps117
  go_wp2_with fail
  refine h.mono ?_
  rintro e w1 ⟨rfl, rfl⟩
  go_wp2_with fail
  go_ret
  exact ⟨rfl, Below.refl _ _⟩
end Go.Proofs.Ytmbhnjpaieimbaa
