/- An append of one number, as one step: the literal of one, and what the append keeps. No program is named here. -/
import Derived.Test.YtmbhnjpaieimbaaApp
import Derived.Test.YtmbhnjpaieimbaaRegIn
set_option linter.unusedVariables false
set_option linter.unusedSimpArgs false
namespace Go.Proofs.Ytmbhnjpaieimbaa
open Go.RowKit Go.Shelf
section
variable {α : Type} {cells : α → List Value} {P : Program} {T E : TypeId} {k bytes : Nat} {wr : World} {base : Nat} {v : Value} {xs : List α}
theorem wpList_app1 {ops : Array Oper} {rest : List Oper} {o : Oper} {a : Act} {Q : Exit → Act → World → Prop} {cs : Array Value} {ty : TypeId} (L : ElLaw P T E k bytes cells) (hgd : o.guard = none) (s x : Operand)
    (ho : o.op = .call { callee := .builtin .append, args := #[s, x], argTypes := #[T, T] }) (hs : a.eval s = v) (hx : a.eval x = .slice (some ⟨wr.heap.size, 0, none⟩) 1 1) (hown : Own wr base E k cells v xs) (y : α) (hcs : cs.toList = cells y)
    (hlen : xs.length + 1 ≤ 1000000) (hbase : base ≤ wr.heap.size)
    (h : ∀ v' w', Own w' base E k cells v' (xs ++ [y]) → Kept (fun b => b < base) wr w' → wpList P ops Q rest (a.put o.dst v') w') : wpList P ops Q (o :: rest) a (wr.alloc (.cells cs ty)) := by
  refine wpList_app (v := v) (xs := xs) (ys := [y]) (n := 1) L hgd s x ho hs (hown.alloc _) rfl hx (Rd.new wr cs ty [y] (by simpa using hcs)) hlen (by simp; omega) ?_
  intro v' w' h1 h2 _
  refine h v' w' h1 ((Kept.alloc _ wr _).trans ((Kept.grown h2).mono fun b hb hlt e => ?_))
  rcases hown.block_ with h3 | ⟨g, h3, h4, _⟩
  · rw [h3] at e; cases e
  · rw [h3] at e; injection e with e; omega
end
theorem below_keptB {B base : Nat} {w0 w w' : World} (h : Below B w0 w) (hk : Kept (fun b => b < base) w w') (h1 : B ≤ base) (h2 : B ≤ w.heap.size) : Below B w0 w' := h.trans (hk.below (fun b hb => by omega) h2)
theorem Rd.keptB {α : Type} {cells : α → List Value} {B base : Nat} {w w' : World} {A : Option Addr} {xs : List α} (h : Rd w B cells A xs) (hk : Kept (fun b => b < base) w w') (h1 : B ≤ base) (h2 : B ≤ w.heap.size) : Rd w' B cells A xs := h.keptR hk (fun b hb => by omega) h2
theorem At.keptB {p base : Nat} {w w' : World} {cs : List Value} (h : At w p cs) (hk : Kept (fun b => b < base) w w') (hp : p < base) : At w' p cs := h.kept hk hp
theorem Bx.keptB {p base : Nat} {w w' : World} {cs : List Value} (h : Bx w p cs) (hk : Kept (fun b => b < base) w w') (hp : p < base) : Bx w' p cs := h.kept hk hp
end Go.Proofs.Ytmbhnjpaieimbaa
