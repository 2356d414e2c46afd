/- Gallery: what is valid (proper, Check, enter), by contracts. -/
import Derived.Test.YtkmocikcohhdoaaG1
import Derived.Test.YtkmocikcohhdoaaG2
set_option linter.unusedVariables false
set_option linter.unusedSimpArgs false
namespace Go.Proofs.Ytkmocikcohhdoaa
open Go.RowKit Go.Shelf

def anyBad (m : Int) (xs : List Sp) : Bool := xs.any (Sp.bad m)

theorem enters_proper1 : ∀ args w, (callFunc 84 args).run Try.prog w = .ok (.enter 84 args) w := enters_of Try.func84 (by kernel_rfl) rfl

set_option maxHeartbeats 400000 in
theorem proper_any (m : Int) (A : Option Addr) (xs : List Sp) (n c : Nat) (w : World) (hn : n = xs.length) (hm : n ≤ 9223372036854775807) (hx : Rd w w.heap.size Sp.cells A xs) :
    Calls Try.prog 59 #[.int .i64 m, .slice A n c] w fun e w' => e = .returned (.bool (!(anyBad m xs))) ∧ Below w.heap.size w w' := by
  have hb0 : Below w.heap.size w (w.alloc (.cells #[.int .i64 m] 3)) := (Below.refl _ _).alloc (Nat.le_refl _) _
  have hc0 : (w.alloc (.cells #[.int .i64 m] 3)).cell? ⟨w.heap.size, 0, none⟩ = some (.int .i64 m) := cell_new _ _ _ _ _ rfl
  have H := hide (containsfunc_Sp 84 #[.pointer (some ⟨w.heap.size, 0, none⟩)] (Sp.bad m) A xs n c (w.alloc (.cells #[.int .i64 m] 3)) hn hm enters_proper1 ((hx.below hb0).more (by simp))
    (fun lo hi w' _ hb => proper1_any lo hi m w.heap.size w' ((hb.cell (p := ⟨w.heap.size, 0, none⟩) (by simp)).trans hc0) (by have := hb.size; simp at this; omega)))
  clear hx hn hc0
  go_enter Try.func59, Try.ntmps59
  go_wp2_with (go_at_call 83; refine H.out.mono ?_; rintro e w' ⟨rfl, hb⟩)
  go_ret
  exact ⟨rfl, hb0.trans (hb.mono (by simp))⟩

/-- A reach that is in order. -/
def Rc.bad (r : Rc) : Bool := anyBad 1000000 [r.cap, r.leak, r.gain]

set_option maxHeartbeats 400000 in
theorem check1_any (c0 c1 l0 l1 g0 g1 : Int) (w : World) :
    Calls Try.prog 73 #[.agg #[.int .i64 c0, .int .i64 c1, .int .i64 l0, .int .i64 l1, .int .i64 g0, .int .i64 g1]] w fun e w' => e = .returned (.bool (!(Rc.bad ⟨⟨c0, c1⟩, ⟨l0, l1⟩, ⟨g0, g1⟩⟩))) ∧ Below w.heap.size w w' := by
  go_enter Try.func73, Try.ntmps73
  go_wp2_with fail
  have hr := Rd.new (cells := Sp.cells) (w.alloc (.cells #[.int .i64 c0, .int .i64 c1, .int .i64 l0, .int .i64 l1, .int .i64 g0, .int .i64 g1] 96)) #[.int .i64 c0, .int .i64 c1, .int .i64 l0, .int .i64 l1, .int .i64 g0, .int .i64 g1] 24 [⟨c0, c1⟩, ⟨l0, l1⟩, ⟨g0, g1⟩] rfl
  refine (proper_any 1000000 _ [⟨c0, c1⟩, ⟨l0, l1⟩, ⟨g0, g1⟩] 3 3 _ rfl (by omega) (by simpa using hr)).mono ?_
  rintro e w' ⟨rfl, hb⟩
  clear hr
  go_wp2
  go_ret
  exact ⟨rfl, ((below_new w _).alloc (by simp) _).trans (hb.mono (by simp; omega))⟩

theorem enters_check1 : ∀ args w, (callFunc 73 args).run Try.prog w = .ok (.enter 73 args) w := enters_of Try.func73 (by kernel_rfl) rfl

set_option maxHeartbeats 400000 in
theorem check2_any (c0 c1 l0 l1 g0 g1 : Int) (p : Nat) (w : World) (hp : w.cell? ⟨p, 0, none⟩ = some (.func (.func 73) #[] #[])) (hs : p < w.heap.size) :
    Calls Try.prog 75 #[.agg #[.int .i64 c0, .int .i64 c1, .int .i64 l0, .int .i64 l1, .int .i64 g0, .int .i64 g1], .pointer (some ⟨p, 0, none⟩)] w fun e w' => e = .returned (.bool (Rc.bad ⟨⟨c0, c1⟩, ⟨l0, l1⟩, ⟨g0, g1⟩⟩)) ∧ Below w.heap.size w w' := by
  go_enter Try.func75, Try.ntmps75
  go_wp2_with (go_at_call 73; refine (check1_any _ _ _ _ _ _ _).mono ?_; rintro e w' ⟨rfl, hb⟩)
  go_ret
  exact ⟨by simp, (below_new w _).trans (hb.mono (by simp))⟩

theorem enters_check2 : ∀ args w, (callFunc 75 args).run Try.prog w = .ok (.enter 75 args) w := enters_of Try.func75 (by kernel_rfl) rfl

/-- A gallery that is valid. -/
def gOk (g : List Rc) : Bool := inB 1 12 g.length && !(g.any Rc.bad)
def gCheck (g : List Rc) : Int := if gOk g then 0 else 20

set_option maxHeartbeats 400000 in
theorem check_any (A : Option Addr) (g : List Rc) (n c : Nat) (w : World) (hn : n = g.length) (hm : n ≤ 9223372036854775807) (hx : Rd w w.heap.size Rc.cells A g) :
    Calls Try.prog 23 #[.slice A n c] w fun e w' => e = .returned (.int .i64 (gCheck g)) ∧ Below w.heap.size w w' := by
  have hb0 : Below w.heap.size w (w.alloc (.cells #[.func (.func 73) #[] #[]] 121)) := below_new _ _
  have hc0 : (w.alloc (.cells #[.func (.func 73) #[] #[]] 121)).cell? ⟨w.heap.size, 0, none⟩ = some (.func (.func 73) #[] #[]) := cell_new _ _ _ _ _ rfl
  have H := hide (containsfunc_Rc 75 #[.pointer (some ⟨w.heap.size, 0, none⟩)] Rc.bad A g n c (w.alloc (.cells #[.func (.func 73) #[] #[]] 121)) hn hm enters_check2 ((hx.below hb0).more (by simp))
    (fun c0 c1 l0 l1 g0 g1 w' _ hb => check2_any c0 c1 l0 l1 g0 g1 w.heap.size w' ((hb.cell (p := ⟨w.heap.size, 0, none⟩) (by simp)).trans hc0) (by have := hb.size; simp at this; omega)))
  clear hx hc0
  have Hn := hide hn; clear hn
  cases h : inB 1 12 n
  all_goals
    have Hi := hide h; clear h
    go_enter Try.func23, Try.ntmps23
    go_wp2_with (first | (go_at_call 52; refine (from_any _ _ _ _).mono ?_; rintro e w' ⟨rfl, rfl⟩; rw [Hi.out]) | (go_at_call 74; refine H.out.mono ?_; rintro e w' ⟨rfl, hb⟩))
    all_goals
      go_ret
      have h1 := Hi.out
      have h2 := Hn.out
      subst h2
      clear H Hi Hn
      exact ⟨by simp [gCheck, gOk, h1, *], by first | exact hb0 | exact hb0.trans (hb.mono (by simp))⟩
end Go.Proofs.Ytkmocikcohhdoaa
