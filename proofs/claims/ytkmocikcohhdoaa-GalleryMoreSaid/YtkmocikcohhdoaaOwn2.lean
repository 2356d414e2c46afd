/- Gallery: rows that are made and copied, by one word. No walk. -/
import Derived.Test.YtkmocikcohhdoaaF11
import Derived.Test.YtkmocikcohhdoaaG8
set_option linter.unusedVariables false
set_option linter.unusedSimpArgs false
namespace Go.Proofs.Ytkmocikcohhdoaa
open Go.RowKit Go.Shelf
theorem el_rc : ElLaw Try.prog 22 96 6 48 Rc.cells := elLaw_of Try.underlying22 info_Rc rfl (by omega) Rc.len Rc.one (by omega)
theorem el_ga : ElLaw Try.prog 35 64 3 24 Ga.cells := elLaw_of Try.underlying35 info_Ga rfl (by omega) Ga.len Ga.one (by omega)
theorem mk_own {α : Type} {cells : α → List Value} (W : World) (cs : Array Value) (e : TypeId) (k : Nat) (xs : List α) (hk : ∀ x, (cells x).length = k) (h : cs.toList = xs.flatMap cells) (hl : xs.length ≤ 1000000) (base : Nat) (hb : base ≤ W.heap.size) :
    ∃ (b : Nat) (V : World), Hid (W.heap.size = b) ∧ Hid (W.alloc (.cells cs e) = V) ∧ Own V base e k cells (.slice (some ⟨b, 0, none⟩) xs.length xs.length) xs ∧ Below W.heap.size W V :=
  ⟨_, _, hide rfl, hide rfl, Own.lit W e k cs xs hk h hl base hb, below_new _ _⟩
/-- What an append leaves: everything below where its rows begin. -/
theorem own_grown {α : Type} {cells : α → List Value} {w W W' : World} {base : Nat} {e : TypeId} {k : Nat} {v : Value} {xs : List α} (h : Own W base e k cells v xs) (hb : Below w.heap.size w W) (hg : W.grownBy W' v.ownBlock) (hw : w.heap.size ≤ base) : Below w.heap.size w W' :=
  hb.trans ((Kept.grown hg).below (fun b hlt e => by have := (h.blockG e.symm).1; omega) hb.size)
end Go.Proofs.Ytkmocikcohhdoaa
