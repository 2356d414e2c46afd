/- The reference of channel: whether a canal is dry, by contract. -/
import Derived.Test.YthlnbgjlkliopaaDry
import Derived.Test.YthlnbgjlkliopaaR4
set_option linter.unusedVariables false
set_option linter.unusedSimpArgs false
namespace Go.Proofs.Ythlnbgjlkliopaa
open Go.RowKit Go.Shelf
attribute [local go_sem ↓] Go.wp_at_zero Go.wp_at_succ
/-- How long it was dry, as the reference asks it. -/
def gapR (cyc : Int) (a i : Nat) (ua u : Us) : Int := (ua.frm - u.to) + (if a ≤ i then cyc else 0)
def oneB (cs : List Ca) (fs : List Int) (dry cyc : Int) (a i : Nat) (ua u : Us) (c : Int) : Bool := !decide (c ∈ pathK cs fs u.field) || decide (dry < gapR cyc a i ua u)
/-- The first k uses leave it dry. -/
def dryTo (cs : List Ca) (fs : List Int) (dry cyc : Int) (us : List Us) (a : Nat) (ua : Us) (c : Int) (k : Nat) : Bool := (us.take k).zipIdx.all fun p => oneB cs fs dry cyc a p.2 ua p.1 c
def dryB (cs : List Ca) (fs : List Int) (dry cyc : Int) (us : List Us) (a : Nat) (c : Int) : Bool := match us[a]? with | some ua => dryTo cs fs dry cyc us a ua c us.length | none => true
theorem dryTo_snoc {cs : List Ca} {fs : List Int} {dry cyc : Int} {us : List Us} {a : Nat} {ua u : Us} {c : Int} {k : Nat} (hx : us[k]? = some u) : dryTo cs fs dry cyc us a ua c (k + 1) = (dryTo cs fs dry cyc us a ua c k && oneB cs fs dry cyc a k ua u c) := by
  have hl : (us.take k).length = k := by have := (List.getElem?_eq_some_iff.1 hx).1; simp; omega
  unfold dryTo
  rw [take_snoc hx, List.zipIdx_append, List.all_append, hl]
  simp
theorem dryTo_stop {cs : List Ca} {fs : List Int} {dry cyc : Int} {us : List Us} {a : Nat} {ua u : Us} {c : Int} {k : Nat} (hx : us[k]? = some u) (h : oneB cs fs dry cyc a k ua u c = false) : dryTo cs fs dry cyc us a ua c us.length = false := by
  unfold dryTo
  rw [List.take_length]
  have hm : (u, k) ∈ us.zipIdx := by
    rw [List.mem_zipIdx_iff_getElem?]
    simpa using hx
  rw [Bool.eq_false_iff]
  intro hall
  have := List.all_eq_true.1 hall (u, k) hm
  rw [h] at this
  cases this
end Go.Proofs.Ythlnbgjlkliopaa
