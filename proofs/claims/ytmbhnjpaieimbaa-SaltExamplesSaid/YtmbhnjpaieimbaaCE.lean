/- Channel: Dries, by contract. -/
import Derived.Test.YtmbhnjpaieimbaaProg
import Derived.Test.YtmbhnjpaieimbaaApp
set_option linter.unusedVariables false
set_option linter.unusedSimpArgs false
namespace Go.Proofs.Ytmbhnjpaieimbaa
open Go.RowKit Go.Shelf
attribute [local go_sem] Oper.semAt_some
theorem el_int : ElLaw Try.prog 41 3 1 8 icell := elLaw_of Try.underlying41 (z := .int .i64 0) (by kernel_rfl) rfl (by omega) (fun _ => rfl) icell_one (by omega)
theorem el_rows : ElLaw Try.prog 57 41 1 24 Sl.cells := elLaw_of Try.underlying57 (z := .slice none 0 0) (by kernel_rfl) rfl (by omega) (fun _ => rfl) Sl.one (by omega)
theorem own_block {α : Type} {W : World} {base : Nat} {e : TypeId} {kk : Nat} {cl : α → List Value} {v : Value} {xs : List α} (ho : Own W base e kk cl v xs) {g : Nat} (hg : v.ownBlock = some g) : base ≤ g ∧ g < W.heap.size := by
  rcases ho.block_ with h | ⟨g', h, h1, h2⟩
  · rw [h] at hg; cases hg
  · rw [h] at hg; injection hg with hg; subst hg; exact ⟨h1, h2⟩
theorem Own.rdv {w : World} {base : Nat} {e : TypeId} {a : Option Addr} {n c : Nat} {xs : List Int} (h : Own w base e 1 icell (.slice a n c) xs) : n = xs.length ∧ Rd w w.heap.size icell a xs := by
  obtain ⟨A, c', hv, hr⟩ := h.rd
  injection hv with h1 h2 h3
  subst h1
  exact ⟨h2, hr⟩

theorem Own.keptB {α : Type} {cells : α → List Value} {w w' : World} {base : Nat} {e : TypeId} {k : Nat} {v : Value} {xs : List α} {R : Nat → Prop} (h : Own w base e k cells v xs) (hk : Kept R w w') (hr : ∀ g, v.ownBlock = some g → R g) : Own w' base e k cells v xs := by
  obtain ⟨hl, hn | ⟨g, cap, cur, rfl, hb, hg, rest⟩⟩ := h
  · exact ⟨hl, .inl hn⟩
  · exact ⟨hl, .inr ⟨g, cap, cur, rfl, hb, (hk.same g (hr g rfl) (Array.getElem?_eq_some_iff.1 hg).1).trans hg, rest⟩⟩
end Go.Proofs.Ytmbhnjpaieimbaa
