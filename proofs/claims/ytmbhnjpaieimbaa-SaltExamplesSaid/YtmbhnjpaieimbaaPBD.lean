/- The cheapest plan, in plain words: rent by rent and field by field, the most minutes that leave the cost. -/
import Derived.Test.YtmbhnjpaieimbaaPBC
set_option linter.unusedVariables false
set_option linter.unusedSimpArgs false
namespace Go.Proofs.Ytmbhnjpaieimbaa
open Bo
def pickF (good : Nat → Bool) : Nat → Nat
  | 0 => 0
  | n + 1 => if good (n + 1) then n + 1 else pickF good n
theorem pick_is {good : Nat → Bool} {r : Nat} : ∀ {M : Nat}, r ≤ M → (∀ x, x < r → good (x + 1) = true) → (r < M → good (r + 1) = false) → (∀ x y, 1 ≤ x → x ≤ y → y ≤ M → good y = true → good x = true) → pickF good M = r
  | 0, h, _, _, _ => by unfold pickF; omega
  | M + 1, h, h1, h2, h3 => by
    unfold pickF
    by_cases hr : r = M + 1
    · rw [if_pos (h1' h1 hr)]; exact hr.symm
    · have hg : good (M + 1) = false := by
        cases hh : good (M + 1)
        · rfl
        · have h4 := h3 (r + 1) (M + 1) (by omega) (by omega) (Nat.le_refl _) hh
          rw [h2 (by omega)] at h4; cases h4
      rw [hg, if_neg (by decide)]
      exact pick_is (by omega) h1 (fun _ => h2 (by omega)) (fun x y a b c => h3 x y a b (by omega))
where h1' {good : Nat → Bool} {r M : Nat} (h1 : ∀ x, x < r → good (x + 1) = true) (hr : r = M + 1) : good (M + 1) = true := h1 M (by omega)
structure PSt where
  ns : List Int
  hs : List Int
  ss : List Nat
  left : Int
def goodN (pr : List Int) (i k : Nat) (st : PSt) (x : Nat) : Bool := goodF st.ns st.hs st.ss pr i k st.left (x : Int)
def topP (i k : Nat) (st : PSt) : Nat := (min (st.hs.getD i 0) (st.ns.getD k 0)).toNat
def giveP (pr : List Int) (i k : Nat) (st : PSt) (n : Int) : PSt := ⟨st.ns.set k (st.ns.getD k 0 - n), st.hs.set i (st.hs.getD i 0 - n), st.ss.set i (st.ss.getD i 0 ^^^ 2 ^ k), st.left - n * pr.getD i 0⟩
def cellP (pr : List Int) (i k : Nat) (st : PSt) : Int × PSt :=
  if (st.ss.getD i 0).testBit k then (((pickF (goodN pr i k st) (topP i k st) : Nat) : Int), giveP pr i k st (pickF (goodN pr i k st) (topP i k st) : Nat)) else (0, st)
def rowP (pr : List Int) (i : Nat) : Nat → PSt → List Int × PSt
  | 0, st => ([], st)
  | k + 1, st => ((rowP pr i k st).1 ++ [(cellP pr i k (rowP pr i k st).2).1], (cellP pr i k (rowP pr i k st).2).2)
def planP (pr : List Int) (m : Nat) : Nat → PSt → List (List Int) × PSt
  | 0, st => ([], st)
  | i + 1, st => ((planP pr m i st).1 ++ [(rowP pr i m (planP pr m i st).2).1], (rowP pr i m (planP pr m i st).2).2)
def planF (ns : List Int) (rs : List Rr) : List (List Int) × Int × Int :=
  if rentsOk ns rs then
    (if (costF ns (hsTo rs rs.length) (ssTo rs rs.length) (rs.map Rr.pr)).2 then
      ((planP (rs.map Rr.pr) ns.length rs.length ⟨ns, hsTo rs rs.length, ssTo rs rs.length, (costF ns (hsTo rs rs.length) (ssTo rs rs.length) (rs.map Rr.pr)).1⟩).1, (costF ns (hsTo rs rs.length) (ssTo rs rs.length) (rs.map Rr.pr)).1, 0)
    else ([], 0, 63))
  else ([], 0, 62)
/-- What holds between rents and fields; c counts how often minutes were given. -/
structure StOk (pr : List Int) (m c : Nat) (st : PSt) : Prop where
  nl : st.ns.length = m
  m8 : m ≤ 8
  n : ∀ x ∈ st.ns, 0 ≤ x ∧ x ≤ 23040
  hl : st.hs.length = 8
  h : ∀ x ∈ st.hs, 0 ≤ x ∧ x ≤ 23040
  sl : st.ss.length = 8
  s : ∀ x ∈ st.ss, x < 256
  inv : Inv st.ns st.hs st.ss pr st.left
  lo : -(c * 2304000000 : Int) ≤ st.left
  hi : st.left ≤ 160000000000
theorem testBit_clear {s k j : Nat} (hs : s.testBit k = true) (h : (s ^^^ 2 ^ k).testBit j = true) : s.testBit j = true := by
  rw [Nat.testBit_xor, Nat.testBit_two_pow] at h
  by_cases hj : k = j
  · subst hj; exact hs
  · rw [decide_eq_false hj] at h
    simpa using h
theorem pick_le {good : Nat → Bool} : ∀ M, pickF good M ≤ M
  | 0 => Nat.le_refl _
  | M + 1 => by unfold pickF; split; exact Nat.le_refl _; have := pick_le (good := good) M; omega
theorem StOk.give {pr : List Int} {m c i k : Nat} {st : PSt} {n : Int} (h : StOk pr m c st) (hp : ∀ x ∈ pr, 0 ≤ x ∧ x ≤ 100000) (hi : i < pr.length) (hi8 : i < 8) (hp8 : pr.length ≤ 8) (hk : k < m) (hb : (st.ss.getD i 0).testBit k = true) (h0 : 0 ≤ n) (hn : n ≤ st.ns.getD k 0) (hh : n ≤ st.hs.getD i 0) : StOk pr m (c + 1) (giveP pr i k st n) := by
  have hkb := getD_mem (p := fun x : Int => 0 ≤ x ∧ x ≤ 23040) (d := 0) h.n (by decide) k
  have hib := getD_mem (p := fun x : Int => 0 ≤ x ∧ x ≤ 23040) (d := 0) h.h (by decide) i
  have hpb := getD_mem (p := fun x : Int => 0 ≤ x ∧ x ≤ 100000) (d := 0) hp (by decide) i
  have hsb := getD_mem (p := fun x : Nat => x < 256) (d := 0) h.s (by decide) i
  have hF : Fits st.hs pr := ⟨fun j _ => (getD_mem (p := fun x : Int => 0 ≤ x ∧ x ≤ 100000) (d := 0) hp (by decide) j).1, fun j _ => (getD_mem (p := fun x : Int => 0 ≤ x ∧ x ≤ 23040) (d := 0) h.h (by decide) j).1, by rw [h.hl]; exact hp8⟩
  have hm1 : 0 ≤ n * pr.getD i 0 := Int.mul_nonneg h0 hpb.1
  have hm2 : n * pr.getD i 0 ≤ 2304000000 := by
    have h8 : n * pr.getD i 0 ≤ 23040 * pr.getD i 0 := Int.mul_le_mul_of_nonneg_right (by omega) hpb.1
    omega
  refine ⟨by show (st.ns.set k _).length = m; rw [List.length_set]; exact h.nl, h.m8, set_all h.n ⟨by omega, by omega⟩ k, by show (st.hs.set i _).length = 8; rw [List.length_set]; exact h.hl, set_all h.h ⟨by omega, by omega⟩ i, by show (st.ss.set i _).length = 8; rw [List.length_set]; exact h.sl, fun x hx => ?_, inv_next hF (by rw [h.nl]; exact hk) hi (by rw [h.sl]; exact hi8) hb (fun j hj => testBit_clear hb hj) h.inv h0 hh, ?_, ?_⟩
  · rcases List.mem_or_eq_of_mem_set (hx : x ∈ st.ss.set i _) with h1 | rfl
    · exact h.s x h1
    · exact Nat.xor_lt_two_pow (n := 8) hsb (Nat.pow_lt_pow_right (by omega) (by have := h.m8; omega))
  · show _ ≤ st.left - n * pr.getD i 0
    have := h.lo
    have e : (((c + 1 : Nat) : Int)) * 2304000000 = (c : Int) * 2304000000 + 2304000000 := by rw [show ((c + 1 : Nat) : Int) = (c : Int) + 1 from rfl, Int.add_mul, Int.one_mul]
    rw [e]; omega
  · show st.left - n * pr.getD i 0 ≤ _
    have := h.hi; omega
theorem StOk.more {pr : List Int} {m c : Nat} {st : PSt} (h : StOk pr m c st) : StOk pr m (c + 1) st := ⟨h.nl, h.m8, h.n, h.hl, h.h, h.sl, h.s, h.inv, by
  have := h.lo
  have e : (((c + 1 : Nat) : Int)) * 2304000000 = (c : Int) * 2304000000 + 2304000000 := by rw [show ((c + 1 : Nat) : Int) = (c : Int) + 1 from rfl, Int.add_mul, Int.one_mul]
  rw [e]; omega, h.hi⟩
theorem StOk.cell {pr : List Int} {m c i k : Nat} {st : PSt} (h : StOk pr m c st) (hp : ∀ x ∈ pr, 0 ≤ x ∧ x ≤ 100000) (hi : i < pr.length) (hp8 : pr.length ≤ 8) (hk : k < m) : StOk pr m (c + 1) (cellP pr i k st).2 := by
  have hkb := getD_mem (p := fun x : Int => 0 ≤ x ∧ x ≤ 23040) (d := 0) h.n (by decide) k
  have hib := getD_mem (p := fun x : Int => 0 ≤ x ∧ x ≤ 23040) (d := 0) h.h (by decide) i
  unfold cellP
  split
  · rename_i hb
    have hl := pick_le (good := goodN pr i k st) (topP i k st)
    have ht : ((topP i k st : Nat) : Int) ≤ st.hs.getD i 0 ∧ ((topP i k st : Nat) : Int) ≤ st.ns.getD k 0 := by unfold topP; omega
    exact h.give hp hi (by omega) hp8 hk hb (by omega) (by omega) (by omega)
  · exact h.more
theorem StOk.start {ns hs : List Int} {ss : List Nat} {pr : List Int} {m : Nat} (h1 : ns.length = m) (h2 : m ≤ 8) (h3 : ∀ x ∈ ns, 0 ≤ x ∧ x ≤ 23040) (h4 : hs.length = 8) (h5 : ∀ x ∈ hs, 0 ≤ x ∧ x ≤ 23040) (h6 : ss.length = 8) (h7 : ∀ x ∈ ss, x < 256) (hp : ∀ x ∈ pr, 0 ≤ x ∧ x ≤ 100000) (hp8 : pr.length ≤ 8) : StOk pr m 0 ⟨ns, hs, ss, (costF ns hs ss pr).1⟩ := by
  have hF : Fits hs pr := ⟨fun j _ => (getD_mem (p := fun x : Int => 0 ≤ x ∧ x ≤ 100000) (d := 0) hp (by decide) j).1, fun j _ => (getD_mem (p := fun x : Int => 0 ≤ x ∧ x ≤ 23040) (d := 0) h5 (by decide) j).1, by rw [h4]; exact hp8⟩
  have hc := hF.cost (ns := ns) (ss := ss)
  have hb := costIs_bd (fun x hx => by have := h5 x hx; omega) hp hp8 hc
  refine ⟨h1, h2, h3, h4, h5, h6, h7, fun c hm => ?_, by show _ ≤ (costF ns hs ss pr).1; omega, hb.2⟩
  have hf : (boOf ns ss pr).Feas (xOf hs) := by
    obtain ⟨x, a1, a2, a3, _⟩ := hm.is
    exact fun S hS => Int.le_trans (a1 S hS) ((boOf ns ss pr).there_le (x := x) (y := xOf hs) a3 S)
  exact Int.le_of_eq ((hc.yes hf).2.one _ hm)
end Go.Proofs.Ytmbhnjpaieimbaa
