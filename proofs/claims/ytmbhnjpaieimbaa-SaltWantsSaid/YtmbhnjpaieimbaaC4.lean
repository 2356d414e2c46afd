/- slices.Reverse of a row of the call's own, by contract. -/
import Derived.Test.YtmbhnjpaieimbaaProg
import Derived.Test.YtmbhnjpaieimbaaRange2
import Derived.Handy
set_option linter.unusedVariables false
set_option linter.unusedSimpArgs false
namespace Go.Proofs.Ytmbhnjpaieimbaa
open Go.RowKit Go.Shelf
/-- The first k and the last k have changed places. -/
def revTo (xs ys : List Int) (k : Nat) : Prop := ys.length = xs.length ∧ ∀ i, i < xs.length → ys[i]? = if i < k ∨ xs.length - k ≤ i then xs[xs.length - 1 - i]? else xs[i]?
theorem revTo_zero (xs : List Int) : revTo xs xs 0 := ⟨rfl, fun i hi => by rw [if_neg (by omega)]⟩
theorem revTo_end {xs ys : List Int} {k : Nat} (h : revTo xs ys k) (hk : xs.length ≤ 2 * k + 1) : ys = xs.reverse := by
  apply List.ext_getElem?
  intro i
  by_cases hi : i < xs.length
  · rw [h.2 i hi, List.getElem?_reverse hi]
    split
    · rfl
    · rename_i hn
      rw [show xs.length - 1 - i = i by omega]
  · rw [List.getElem?_eq_none (by rw [h.1]; omega), List.getElem?_eq_none (by simp; omega)]
theorem revTo_step {xs ys : List Int} {k : Nat} {x y : Int} (h : revTo xs ys k) (hk : 2 * k + 1 < xs.length) (hx : ys[k]? = some x) (hy : ys[xs.length - 1 - k]? = some y) : revTo xs ((ys.set k y).set (xs.length - 1 - k) x) (k + 1) := by
  refine ⟨by simp [h.1], fun i hi => ?_⟩
  have e1 := h.2 k (by omega)
  rw [if_neg (by omega), hx] at e1
  have e2 := h.2 (xs.length - 1 - k) (by omega)
  rw [if_neg (by omega), hy] at e2
  by_cases h1 : i = xs.length - 1 - k
  · subst h1
    rw [List.getElem?_set_self (by simp; rw [h.1]; omega), if_pos (by omega), show xs.length - 1 - (xs.length - 1 - k) = k by omega, e1]
  · rw [List.getElem?_set_ne (by omega)]
    by_cases h2 : i = k
    · subst h2
      rw [List.getElem?_set_self (by rw [h.1]; omega), if_pos (by omega), e2]
    · rw [List.getElem?_set_ne (by omega), h.2 i hi]
      by_cases h3 : i < k ∨ xs.length - k ≤ i
      · rw [if_pos h3, if_pos (by omega)]
      · rw [if_neg h3, if_neg (by omega)]

set_option maxHeartbeats 4000000 in
set_option maxRecDepth 100000 in
theorem reverse_any (base : Nat) (v : Value) (xs : List Int) (w : World) (hown : Own w base 3 1 icell v xs) (hlen : xs.length ≤ 1000) (hb : base ≤ w.heap.size) :
    Calls Try.prog 131 #[v] w fun e w' => e = .returned (.tuple #[]) ∧ Own w' base 3 1 icell v xs.reverse ∧ Below base w w' := by
  have ho := hown
  obtain ⟨hl, hnil | ⟨g, cap, cur, rfl, hbg, hg, hrest⟩⟩ := hown
  · obtain ⟨rfl, hx0⟩ := hnil
    have hxn : xs = [] := by simpa using hx0
    subst hxn
    go_enter Try.func131, Try.ntmps131
    go_wp2_with fail
    go_loopw [2, 3] (fun a b wr => a = .int .i64 0 ∧ b = .int .i64 (-1) ∧ wr = w) (fun _ _ _ => 0)
    case atStart => exact ⟨rfl, rfl, rfl⟩
    case round =>
      obtain ⟨rfl, rfl, rfl⟩ := hrel
      go_wp2_with fail
      go_end0
      exact ⟨rfl, ho, Below.refl _ _⟩
  · have Ho := hide ho
    obtain ⟨n, hn⟩ : ∃ n, n = xs.length := ⟨_, rfl⟩
    rw [← hn] at Ho hlen ⊢
    have Hn := hide hn
    clear ho hl hrest hg hn
    go_enter Try.func131, Try.ntmps131
    go_wp2_with fail
    go_loopw [2, 3] (fun a b wr => ∃ (k : Nat) (ys : List Int), a = .int .i64 k ∧ b = .int .i64 ((n : Int) - 1 - k) ∧ 2 * k ≤ n ∧ Hid (revTo xs ys k) ∧ Hid (Own wr base 3 1 icell (.slice (some ⟨g, 0, none⟩) n cap) ys) ∧ Below base w wr ∧ base ≤ wr.heap.size) (fun a _ _ => n - (intOf a).toNat)
    case atStart => exact ⟨0, xs, rfl, by go_num, by omega, hide (revTo_zero xs), Ho, Below.refl _ _, hb⟩
    case round =>
      obtain ⟨k, ys, rfl, rfl, hk, hrv, how, hB, hsz⟩ := hrel
      have hln : ys.length = n := by rw [hrv.out.1, ← Hn.out]
      by_cases hlt : 2 * k + 1 < n
      · obtain ⟨m, hm⟩ : ∃ m : Nat, m + k + 1 = n := ⟨n - 1 - k, by omega⟩
        have hkx : ys[k]? = some ys[k] := List.getElem?_eq_getElem (by omega)
        have hmx : ys[m]? = some ys[m] := List.getElem?_eq_getElem (by omega)
        obtain ⟨x, hx⟩ : ∃ x, ys[k]? = some x := ⟨_, hkx⟩
        obtain ⟨y, hy⟩ : ∃ y, ys[m]? = some y := ⟨_, hmx⟩
        clear hkx hmx
        have hjm : ((n : Int) - 1 - k) = (m : Int) := by omega
        rw [hjm]
        have hu : wr.ownsRow base 3 1 (.slice (some ⟨g, 0, none⟩) n cap) n (ys.flatMap icell) := by
          have h := how.out
          unfold Own at h
          rw [hln] at h
          exact h
        have c0 : wr.cell? ⟨g, k, none⟩ = some (.int .i64 x) := by
          have h1 := hu.cellAt k (by omega)
          have h2 := flat_get icell_len hx (j := 0) (by omega)
          simp only [Nat.mul_one, Nat.add_zero] at h2
          rw [h1, h2]; rfl
        have c1 : wr.cell? ⟨g, m, none⟩ = some (.int .i64 y) := by
          have h1 := hu.cellAt m (by omega)
          have h2 := flat_get icell_len hy (j := 0) (by omega)
          simp only [Nat.mul_one, Nat.add_zero] at h2
          rw [h1, h2]; rfl
        have f0 : ∀ j : Nat, wr.frozen? ⟨g, j, none⟩ = false := fun j => hu.frozenAt _
        have f1 := f0 k
        have f2 := f0 m
        clear hu f0
        go_wp2_with fail
        go_region
        go_wp2_with fail
        have hxl : xs.length - 1 - k = m := by rw [← Hn.out]; omega
        have p1 := (how.out.put_ icell_len (x' := y) (u := .int .i64 y) hx (j := 0) (by omega) rfl hln.symm).1
        have hy2 : (ys.set k y)[m]? = some y := by rw [List.getElem?_set_ne (by omega)]; exact hy
        have p2 := (p1.put_ icell_len (x' := x) (u := .int .i64 x) hy2 (j := 0) (by omega) rfl (by simp [hln])).1
        simp only [Nat.mul_one, Nat.add_zero] at p2
        refine ⟨⟨k + 1, (ys.set k y).set m x, by go_num, by rw [show (m : Int) - 1 = (n : Int) - 1 - ((k + 1 : Nat) : Int) by omega], by omega, hide ?_, hide (Own.kept p2 (row := none) ⟨rfl, rfl, rfl, Nat.le_refl _, fun _ _ _ => rfl⟩ (by simp [Value.ownBlock])), ((hB.setCell (by simp; omega) _).setCell (by simp; omega) _).drew, by simpa [World.setCell] using hsz⟩, by simp [intOf]; omega⟩
        have h5 := revTo_step (x := x) (y := y) hrv.out (by rw [← Hn.out]; exact hlt) hx (by rw [hxl]; exact hy)
        rw [hxl] at h5
        exact h5
      · go_wp2_with fail
        go_end0
        exact ⟨rfl, by rw [← revTo_end hrv.out (by rw [← Hn.out]; omega)]; exact how.out, hB⟩
end Go.Proofs.Ytmbhnjpaieimbaa
