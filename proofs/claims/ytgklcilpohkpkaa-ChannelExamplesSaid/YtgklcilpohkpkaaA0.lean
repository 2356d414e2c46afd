/- Helpers of the outright laws: rows and boxes that are made, under names of their own; orders that meet again; facts that stay. -/
import Derived.Test.YtgklcilpohkpkaaA2
import Derived.Test.YtgklcilpohkpkaaR7
import Derived.Test.YtgklcilpohkpkaaR1
import Derived.Test.YtgklcilpohkpkaaApp
set_option linter.unusedVariables false
set_option linter.unusedSimpArgs false
namespace Go.Proofs.Ytgklcilpohkpkaa
open Go.RowKit Go.Shelf
attribute [local go_sem ↓] Go.wp_at_zero Go.wp_at_succ
theorem mk_row {α : Type} {cells : α → List Value} (W : World) (cs : Array Value) (t : TypeId) (xs : List α) (h : cs.toList = xs.flatMap cells) :
    ∃ (b : Nat) (V : World), Hid (W.heap.size = b) ∧ Hid (W.alloc (.cells cs t) = V) ∧ Rd V V.heap.size cells (some ⟨b, 0, none⟩) xs ∧ Below W.heap.size W V :=
  ⟨_, _, hide rfl, hide rfl, (Rd.new W cs t xs h).more (by simp), below_new _ _⟩
theorem mk_box (W : World) (cs : Array Value) (t : TypeId) :
    ∃ (b : Nat) (V : World), Hid (W.heap.size = b) ∧ Hid (W.alloc (.cells cs t) = V) ∧ At V b cs.toList ∧ (∀ j : Nat, V.frozen? ⟨b, j, none⟩ = false) ∧ Below W.heap.size W V :=
  ⟨_, _, hide rfl, hide rfl, At.new W cs t _ rfl _ rfl, fun j => At.frozen_new W cs t _ rfl j, below_new _ _⟩
theorem cut1 {α0 : Type} {C G : α0 → World → Prop} {Goal : Prop} (h1 : (∀ (x0 : α0) (W : World), C x0 W → G x0 W) → Goal) (h2 : ∀ (x0 : α0) (W : World), C x0 W → G x0 W) : Goal := h1 h2
theorem cut2 {α0 : Type} {α1 : Type} {C G : α0 → α1 → World → Prop} {Goal : Prop} (h1 : (∀ (x0 : α0) (x1 : α1) (W : World), C x0 x1 W → G x0 x1 W) → Goal) (h2 : ∀ (x0 : α0) (x1 : α1) (W : World), C x0 x1 W → G x0 x1 W) : Goal := h1 h2
theorem cut3 {α0 : Type} {α1 : Type} {α2 : Type} {C G : α0 → α1 → α2 → World → Prop} {Goal : Prop} (h1 : (∀ (x0 : α0) (x1 : α1) (x2 : α2) (W : World), C x0 x1 x2 W → G x0 x1 x2 W) → Goal) (h2 : ∀ (x0 : α0) (x1 : α1) (x2 : α2) (W : World), C x0 x1 x2 W → G x0 x1 x2 W) : Goal := h1 h2
theorem cut4 {α0 : Type} {α1 : Type} {α2 : Type} {α3 : Type} {C G : α0 → α1 → α2 → α3 → World → Prop} {Goal : Prop} (h1 : (∀ (x0 : α0) (x1 : α1) (x2 : α2) (x3 : α3) (W : World), C x0 x1 x2 x3 W → G x0 x1 x2 x3 W) → Goal) (h2 : ∀ (x0 : α0) (x1 : α1) (x2 : α2) (x3 : α3) (W : World), C x0 x1 x2 x3 W → G x0 x1 x2 x3 W) : Goal := h1 h2
theorem cut5 {α0 : Type} {α1 : Type} {α2 : Type} {α3 : Type} {α4 : Type} {C G : α0 → α1 → α2 → α3 → α4 → World → Prop} {Goal : Prop} (h1 : (∀ (x0 : α0) (x1 : α1) (x2 : α2) (x3 : α3) (x4 : α4) (W : World), C x0 x1 x2 x3 x4 W → G x0 x1 x2 x3 x4 W) → Goal) (h2 : ∀ (x0 : α0) (x1 : α1) (x2 : α2) (x3 : α3) (x4 : α4) (W : World), C x0 x1 x2 x3 x4 W → G x0 x1 x2 x3 x4 W) : Goal := h1 h2
theorem cut6 {α0 : Type} {α1 : Type} {α2 : Type} {α3 : Type} {α4 : Type} {α5 : Type} {C G : α0 → α1 → α2 → α3 → α4 → α5 → World → Prop} {Goal : Prop} (h1 : (∀ (x0 : α0) (x1 : α1) (x2 : α2) (x3 : α3) (x4 : α4) (x5 : α5) (W : World), C x0 x1 x2 x3 x4 x5 W → G x0 x1 x2 x3 x4 x5 W) → Goal) (h2 : ∀ (x0 : α0) (x1 : α1) (x2 : α2) (x3 : α3) (x4 : α4) (x5 : α5) (W : World), C x0 x1 x2 x3 x4 x5 W → G x0 x1 x2 x3 x4 x5 W) : Goal := h1 h2
theorem Rd.bel {α : Type} {w w' : World} {cells : α → List Value} {A : Option Addr} {xs : List α} (h : Rd w w.heap.size cells A xs) (hb : Below w.heap.size w w') : Rd w' w'.heap.size cells A xs := (h.below hb).more hb.size
theorem At.bel {w w' : World} {p : Nat} {cs : List Value} (h : At w p cs) (hb : Below w.heap.size w w') : At w' p cs := h.below hb
theorem NetAt.bel {w w' : World} {Ac Af : Option Addr} {nc nf : Nat} {cs : List Ca} {fs : List Int} (h : NetAt w Ac Af nc nf cs fs) (hb : Below w.heap.size w w') : NetAt w' Ac Af nc nf cs fs := h.below hb
theorem Rows.bel {α : Type} {w w' : World} {cells : α → List Value} {ss : List Sl} {xss : List (List α)} (h : Rows w w.heap.size cells ss xss) (hb : Below w.heap.size w w') : Rows w' w'.heap.size cells ss xss := (h.below hb).more hb.size
theorem Below.bel {B : Nat} {w0 w w' : World} (h : Below B w0 w) (hb : Below w.heap.size w w') (hB : B ≤ w.heap.size) : Below B w0 w' := h.trans (hb.mono hB)
theorem Own.rdn {α : Type} {cells : α → List Value} {w : World} {base : Nat} {e : TypeId} {k : Nat} {v : Value} {xs : List α} (h : Own w base e k cells v xs) (n : Nat) (hn : xs.length = n) : ∃ A c, v = .slice A n c ∧ Rd w w.heap.size cells A xs := by
  subst hn; exact h.rd
theorem Rd.newb {α : Type} {cells : α → List Value} (W : World) (cs : Array Value) (t : TypeId) (xs : List α) (h : cs.toList = xs.flatMap cells) : Rd (W.alloc (.cells cs t)) (W.alloc (.cells cs t)).heap.size cells (some ⟨W.heap.size, 0, none⟩) xs := (Rd.new W cs t xs h).more (by simp)
theorem bel2 {w w' : World} {o : Obj} (g : Below (w.alloc o).heap.size (w.alloc o) w') : Below w.heap.size w w' := (below_new w o).trans (g.mono (by simp))
theorem Rows.lit {w : World} {cells : Int → List Value} {ss : List Sl} {xss : List (List Int)} (hl : ss.length = xss.length) (h : ∀ (i : Nat) (s : Sl) (xs : List Int), ss[i]? = some s → xss[i]? = some xs → s.n = xs.length ∧ Rd w w.heap.size cells s.a xs) : Rows w w.heap.size cells ss xss := ⟨hl, h⟩

set_option maxHeartbeats 2000000 in
/-- aflaj/aflajref01.SameSpans: whether two lists are one. -/
theorem same_Sp (A B : Option Addr) (xs ys : List Sp) (n c m d : Nat) (w : World) (hn : n = xs.length) (hm : m = ys.length) (hn' : n ≤ 9223372036854775807) (hm' : m ≤ 9223372036854775807)
    (hx : Rd w w.heap.size Sp.cells A xs) (hy : Rd w w.heap.size Sp.cells B ys) :
    Calls Try.prog 33 #[.slice A n c, .slice B m d] w fun e w' => e = .returned (.bool (decide (xs = ys))) ∧ Below w.heap.size w w' := by
  have Hn := hide hn; have Hm := hide hm; have Hx := hide hx; have Hy := hide hy
  clear hn hm hx hy
  by_cases hnm : n = m
  · subst hnm
    go_enter Try.func33, Try.ntmps33
    go_wp2_with fail
    go_loopw [4, 5] (fun v i wr => ∃ k : Nat, k ≤ n ∧ i = .int .i64 k ∧ Below w.heap.size w wr ∧ Hid (xs.take k = ys.take k)) (fun _ i _ => n - (intOf i).toNat)
    case atStart => exact ⟨0, by omega, rfl, Below.refl _ _, hide (by simp)⟩
    case round =>
      obtain ⟨k, hk, rfl, hb, hpre⟩ := hrel
      by_cases hlt : k < n
      · obtain ⟨b, off, lox, hix, rfl, hB, hxk, hcx0, hcx1⟩ := (Hx.out.below hb).sp (i := k) (by have := Hn.out; omega)
        have Hxk := hide hxk; clear hxk
        obtain ⟨b', off', loy, hiy, rfl, hB', hyk, hcy0, hcy1⟩ := (Hy.out.below hb).sp (i := k) (by have := Hm.out; omega)
        have Hyk := hide hyk; clear hyk
        by_cases e0 : lox = loy
        · subst e0
          by_cases e1 : hix = hiy
          · subst e1
            go_wp2_with fail
            go_quiet (fail)
            go_wp2_with fail
            exact ⟨⟨k + 1, by omega, by go_num, below_drewN hb _, hide (eqL_snoc Hxk.out Hyk.out rfl hpre.out)⟩, by simp [intOf]; omega⟩
          · have h1 : (hix == hiy) = false := by simpa using e1
            have h2 : (hix != hiy) = true := by simpa using e1
            have H0 := hide e1; clear e1
            go_wp2_with fail
            go_quiet (fail)
            go_wp2_with fail
            go_ret
            exact ⟨ret_bool (by have := eqL_stop Hxk.out Hyk.out (by have := H0.out; simp [this]); simp [this]), below_drewN hb _⟩
        · have h1 : (lox == loy) = false := by simpa using e0
          have h2 : (lox != loy) = true := by simpa using e0
          have H0 := hide e0; clear e0
          go_wp2_with fail
          go_quiet (fail)
          go_wp2_with fail
          go_ret
          exact ⟨ret_bool (by have := eqL_stop Hxk.out Hyk.out (by have := H0.out; simp [this]); simp [this]), below_drewN hb _⟩
      · go_wp2_with fail
        go_ret
        refine ⟨ret_bool ?_, hb⟩
        have h1 := hpre.out
        rw [List.take_of_length_le (by have := Hn.out; omega), List.take_of_length_le (by have := Hm.out; omega)] at h1
        simp [h1]
  · have h1 : ((n : Int) == (m : Int)) = false := by simp; omega
    have h2 : ((n : Int) != (m : Int)) = true := by simp; omega
    have Hnm := hide hnm; clear hnm
    go_enter Try.func33, Try.ntmps33
    go_wp2_with fail
    go_ret
    refine ⟨ret_bool ?_, Below.refl _ _⟩
    have h3 : xs ≠ ys := by
      rintro rfl
      exact Hnm.out (Hn.out.trans Hm.out.symm)
    simp [h3]

theorem sSpans (A B : Option Addr) (xs : List Sp) (n c m d : Nat) (w : World) (hx : Rd w w.heap.size Sp.cells A xs) (hy : Rd w w.heap.size Sp.cells B xs) (hn : n = xs.length) (hm : m = xs.length) (hl : xs.length ≤ 1000) :
    Calls Try.prog 33 #[.slice A n c, .slice B m d] w fun e w' => e = .returned (.bool true) ∧ Below w.heap.size w w' :=
  (same_Sp A B xs xs _ c _ d w hn hm (by omega) (by omega) hx hy).mono fun e w' h => ⟨by simpa using h.1, h.2⟩
theorem sInts (A B : Option Addr) (xs : List Int) (n c m d : Nat) (w : World) (hx : Rd w w.heap.size icell A xs) (hy : Rd w w.heap.size icell B xs) (hn : n = xs.length) (hm : m = xs.length) (hl : xs.length ≤ 1000) :
    Calls Try.prog 25 #[.slice A n c, .slice B m d] w fun e w' => e = .returned (.bool true) ∧ Below w.heap.size w w' :=
  (same_int A B xs xs _ c _ d w hn hm (by omega) (by omega) hx hy).mono fun e w' h => ⟨by simpa using h.1, h.2⟩
end Go.Proofs.Ytgklcilpohkpkaa
