/- Channel: what fields get and what is lost, the plain law. No program here. -/
import Derived.Test.YthlnbgjlkliopaaW4
import Derived.Test.YthlnbgjlkliopaaDry
set_option linter.unusedVariables false
set_option linter.unusedSimpArgs false
namespace Go.Proofs.Ythlnbgjlkliopaa
open Go.RowKit Go.Shelf
def atS (xs : List Sp) (i : Nat) : Sp := xs[i]?.getD ⟨0, 0⟩
def putS (xs : List Sp) (i : Nat) (y : Sp) : List Sp := xs.set i (addS (atS xs i) y)
def wkAt (cs : List Ca) (dr : List Int) (c : Int) : Wk := match cs[c.toNat]? with | some ca => wkF ca.seep ca.fill (decide (c ∈ dr)) | none => ⟨⟨0, 0⟩, ⟨0, 0⟩⟩
def canalW (cs : List Ca) (dr : List Int) (st : List Sp × Sp) (c : Int) : List Sp × Sp := (putS st.1 c.toNat (seF (wkAt cs dr c) st.2), goF (wkAt cs dr c) st.2)
def pathW (cs : List Ca) (dr : List Int) (p : List Int) (lost : List Sp) (v : Sp) : List Sp × Sp := p.foldl (canalW cs dr) (lost, v)
def useW (cs : List Ca) (fs : List Int) (dry cyc a b : Int) (us : List Us) (st : List Sp × List Sp) (k : Nat) : List Sp × List Sp :=
  match us[k]? with
  | some u => (putS st.1 u.field.toNat (pathW cs (dryL cs fs dry cyc us k) (pathK cs fs u.field) st.2 ⟨a * (u.to - u.frm), b * (u.to - u.frm)⟩).2, (pathW cs (dryL cs fs dry cyc us k) (pathK cs fs u.field) st.2 ⟨a * (u.to - u.frm), b * (u.to - u.frm)⟩).1)
  | none => st
def watersK (cs : List Ca) (fs : List Int) (dry cyc a b : Int) (us : List Us) (k : Nat) : List Sp × List Sp := (List.range k).foldl (useW cs fs dry cyc a b us) (List.replicate fs.length ⟨0, 0⟩, List.replicate cs.length ⟨0, 0⟩)
theorem watersK_succ (cs : List Ca) (fs : List Int) (dry cyc a b : Int) (us : List Us) (k : Nat) : watersK cs fs dry cyc a b us (k + 1) = useW cs fs dry cyc a b us (watersK cs fs dry cyc a b us k) k := by
  unfold watersK
  rw [List.range_succ, List.foldl_append]
  rfl
theorem pathW_snoc {cs : List Ca} {dr : List Int} {p : List Int} {lost : List Sp} {v : Sp} {k : Nat} {c : Int} (h : p[k]? = some c) : pathW cs dr (p.take (k + 1)) lost v = canalW cs dr (pathW cs dr (p.take k) lost v) c := by
  unfold pathW
  rw [List.take_add_one, h]
  simp
def bdS (M : Int) (xs : List Sp) : Prop := ∀ x ∈ xs, (0 ≤ x.lo ∧ x.lo ≤ M) ∧ (0 ≤ x.hi ∧ x.hi ≤ M)
theorem bdS.at {M : Int} {xs : List Sp} (h : bdS M xs) (hM : 0 ≤ M) (i : Nat) : (0 ≤ (atS xs i).lo ∧ (atS xs i).lo ≤ M) ∧ (0 ≤ (atS xs i).hi ∧ (atS xs i).hi ≤ M) := by
  unfold atS
  cases hx : xs[i]? with
  | none => simp; omega
  | some x => exact h x (List.mem_of_getElem? hx)
theorem bdS.put {M : Int} {xs : List Sp} (h : bdS M xs) (hM : 0 ≤ M) (i : Nat) {y : Sp} (hy : amts y) : bdS (M + 1000000000000) (putS xs i y) := by
  intro x hx
  unfold putS at hx
  obtain ⟨⟨y0, y1⟩, y2, y3⟩ := hy
  rcases List.mem_or_eq_of_mem_set hx with hx | rfl
  · have := h x hx; omega
  · have := h.at hM i
    simp only [addS]
    omega
theorem putS_len (xs : List Sp) (i : Nat) (y : Sp) : (putS xs i y).length = xs.length := by simp [putS]
theorem wkAt_wf {cs : List Ca} {fs : List Int} {dry days : Int} (hok : netOk cs fs dry days = true) (dr : List Int) (c : Int) : (wkAt cs dr c).wf := by
  unfold wkAt
  cases hx : cs[c.toNat]? with
  | none => simp [Wk.wf, amt]
  | some ca =>
    have h := (caAll_iff 0 cs).1 (netOk_parts hok).2.2.2.2.2.1 _ _ hx
    simp only [caOk, inB, Sp.ok, Bool.and_eq_true, decide_eq_true_eq] at h
    obtain ⟨_, ⟨⟨h1, h2⟩, h3⟩, ⟨h4, h5⟩, h6⟩ := h
    cases hd : decide (c ∈ dr) <;> (simp [wkF, Wk.wf, amt]; omega)
theorem pathW_amts {cs : List Ca} {fs : List Int} {dry days : Int} (hok : netOk cs fs dry days = true) (dr p : List Int) (lost : List Sp) {v : Sp} (hv : amts v) {M : Int} (hM : 0 ≤ M) (hl : bdS M lost) :
    ∀ k, k ≤ p.length → amts (pathW cs dr (p.take k) lost v).2 ∧ bdS (M + k * 1000000000000) (pathW cs dr (p.take k) lost v).1 ∧ (pathW cs dr (p.take k) lost v).1.length = lost.length := by
  intro k
  induction k with
  | zero => intro _; simp only [List.take_zero]; exact ⟨hv, by show bdS _ lost; simpa using hl, rfl⟩
  | succ k ih =>
    intro hk
    obtain ⟨h1, h2, h3⟩ := ih (by omega)
    rw [pathW_snoc (List.getElem?_eq_getElem (by omega : k < p.length))]
    have hw := wkAt_wf hok dr p[k]
    refine ⟨goF_amt hw h1, ?_, by show (putS _ _ _).length = _; rw [putS_len, h3]⟩
    have := h2.put (by omega) p[k].toNat (seF_amt hw h1)
    rw [show M + ((k + 1 : Nat) : Int) * 1000000000000 = M + (k : Int) * 1000000000000 + 1000000000000 by omega]
    exact this
theorem flow_amts {a b m days : Int} (h : Sp.ok 0 13000000 ⟨a, b⟩ = true) (hd : 1 ≤ days ∧ days ≤ 16) (h0 : 0 ≤ m) (h1 : m ≤ days * 1440) : amts ⟨a * m, b * m⟩ := by
  simp only [Sp.ok, Bool.and_eq_true, decide_eq_true_eq] at h
  obtain ⟨⟨a0, a1⟩, b1⟩ := h
  have key : ∀ x : Int, 0 ≤ x → x ≤ 13000000 → amt (x * m) := fun x x0 x1 => by
    have h2 := Int.mul_nonneg x0 h0
    have h3 := Int.mul_le_mul x1 (show m ≤ 23040 by omega) h0 (by omega)
    exact ⟨h2, by omega⟩
  exact ⟨key a a0 (by omega), key b (by omega) b1⟩
theorem watersK_bd {cs : List Ca} {fs : List Int} {dry days a b : Int} {us : List Us} (hok : netOk cs fs dry days = true) (huo : usesOk fs.length days us = true) (hs : Sp.ok 0 13000000 ⟨a, b⟩ = true) :
    ∀ k, k ≤ us.length → bdS (k * 1000000000000) (watersK cs fs dry (days * 1440) a b us k).1 ∧ bdS (k * 16000000000000) (watersK cs fs dry (days * 1440) a b us k).2 ∧ (watersK cs fs dry (days * 1440) a b us k).1.length = fs.length ∧ (watersK cs fs dry (days * 1440) a b us k).2.length = cs.length := by
  intro k
  induction k with
  | zero =>
    intro _
    have hr : ∀ n, bdS 0 (List.replicate n (⟨0, 0⟩ : Sp)) := fun n x hx => by have := List.eq_of_mem_replicate hx; subst this; simp
    refine ⟨by simpa [watersK] using hr _, by simpa [watersK] using hr _, by simp [watersK], by simp [watersK]⟩
  | succ k ih =>
    intro hk
    obtain ⟨h1, h2, h3, h4⟩ := ih (by omega)
    rw [watersK_succ]
    have hx : us[k]? = some us[k] := List.getElem?_eq_getElem (by omega)
    obtain ⟨⟨f0, f1⟩, t0, t1, t2⟩ := usesOk_mem huo (List.getElem_mem (by omega : k < us.length))
    unfold useW
    rw [hx]
    simp only
    have hv := flow_amts (m := us[k].to - us[k].frm) hs (netOk_parts hok).2.2.2.1 (by omega) (by omega)
    have hp := pathK_len cs fs hok f0 f1
    obtain ⟨p1, p2, p3⟩ := pathW_amts hok (dryL cs fs dry (days * 1440) us k) (pathK cs fs us[k].field) (watersK cs fs dry (days * 1440) a b us k).2 hv (M := k * 16000000000000) (by omega) h2 (pathK cs fs us[k].field).length (Nat.le_refl _)
    rw [List.take_length] at p1 p2 p3
    refine ⟨?_, ?_, by rw [putS_len]; exact h3, by rw [p3]; exact h4⟩
    · have := h1.put (by omega) us[k].field.toNat p1
      rw [show ((k + 1 : Nat) : Int) * 1000000000000 = (k : Int) * 1000000000000 + 1000000000000 by omega]
      exact this
    · intro x hx
      have := p2 x hx
      omega
/-- A statement that only ends. -/
def onNormal (R : Act → World → Prop) : Exit → Act → World → Prop
  | .normal, a, w => R a w
  | _, _, _ => False
theorem gen_new {K : Act → World → Prop} {a : Act} {W : World} {cs : Array Value} {t : TypeId} (h : ∀ w', At w' W.heap.size cs.toList → (∀ j : Nat, w'.frozen? ⟨W.heap.size, j, none⟩ = false) → Below W.heap.size W w' → W.heap.size < w'.heap.size → K a w') : K a (W.alloc (.cells cs t)) :=
  h _ (At.new W cs t _ rfl _ rfl) (fun j => At.frozen_new _ _ _ _ rfl j) (below_new _ _) (by simp)
theorem gen_newD {K : Act → World → Prop} {a : Act} {W : World} {cs : Array Value} {t : TypeId} (h : ∀ w', At w' W.heap.size cs.toList → (∀ j : Nat, w'.frozen? ⟨W.heap.size, j, none⟩ = false) → Below W.drew.heap.size W.drew w' → W.heap.size < w'.heap.size → K a w') : K a (W.alloc (.cells cs t)).drew :=
  h _ (At.new W cs t _ rfl _ rfl) (fun j => At.frozen_new _ _ _ _ rfl j) (below_new W.drew _) (by simp)
theorem frz_below {W w' : World} {b : Nat} (h : ∀ j : Nat, W.frozen? ⟨b, j, none⟩ = false) (hl : b < W.heap.size) (hb : Below W.heap.size W w') : ∀ j : Nat, w'.frozen? ⟨b, j, none⟩ = false := fun j => (hb.frozen (p := ⟨b, j, none⟩) hl).trans (h j)
end Go.Proofs.Ythlnbgjlkliopaa
