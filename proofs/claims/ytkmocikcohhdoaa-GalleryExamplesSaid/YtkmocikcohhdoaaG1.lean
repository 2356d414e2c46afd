/- Gallery and its reference: the small functions, by contracts. -/
import Derived.Test.YtkmocikcohhdoaaProg
import Derived.Test.YtkmocikcohhdoaaBase
set_option linter.unusedVariables false
set_option linter.unusedSimpArgs false
namespace Go.Proofs.Ytkmocikcohhdoaa
open Go.RowKit Go.Shelf


/-- slices.IndexFunc at aflaj/api.Span: not below 0 just where one of them is so. -/
theorem indexfunc_Sp (f : FuncId) (cp : Array Value) (p : Sp → Bool) (A : Option Addr) (xs : List Sp) (n c : Nat) (w : World) (hn : n = xs.length) (hm : n ≤ 9223372036854775807)
    (eg : ∀ args w, (callFunc f args).run Try.prog w = .ok (.enter f args) w) (hx : Rd w w.heap.size Sp.cells A xs)
    (hf : ∀ lo hi w', (⟨lo, hi⟩ : Sp) ∈ xs → Below w.heap.size w w' → Calls Try.prog f (#[.agg #[.int .i64 lo, .int .i64 hi]] ++ cp) w' fun e w'' => e = .returned (.bool (p ⟨lo, hi⟩)) ∧ Below w'.heap.size w' w'') :
    Calls Try.prog 102 #[.slice A n c, .func (.func f) #[] cp] w fun e w' => ∃ r : Int, e = .returned (.int .i64 r) ∧ decide (0 ≤ r) = xs.any p ∧ Below w.heap.size w w' := by
  have Hn := hide hn; clear hn
  have Hx := hide hx; clear hx
  have Hf := hide hf; clear hf
  go_enter Try.func102, Try.ntmps102
  go_wp2_with fail
  go_loopw [4, 8] (fun v i wr => ∃ k : Nat, k ≤ n ∧ i = .int .i64 k ∧ Below w.heap.size w wr ∧ Hid (∀ y ∈ xs.take k, p y = false)) (fun _ i _ => n - (intOf i).toNat)
  case atStart => exact ⟨0, by omega, rfl, Below.refl _ _, hide pre_nil⟩
  case round =>
    obtain ⟨k, hk, rfl, hb, hpre⟩ := hrel
    by_cases hlt : k < n
    · obtain ⟨b, off, lo, hi, rfl, hB, hxk, hc0, hc1⟩ := (Hx.out.below hb).sp (i := k) (by have := Hn.out; omega)
      have H := hide (Hf.out lo hi wr (List.mem_of_getElem? hxk) hb)
      have Hxk := hide hxk; clear hxk
      go_wp2_with (go_at_fn f; refine H.out.mono ?_; rintro e w' ⟨rfl, hb'⟩)
      · go_ret
        have hp : p ⟨lo, hi⟩ = true := by assumption
        exact ⟨k, rfl, by rw [any_hit Hxk.out hp]; simp, hb.trans (hb'.mono hb.size)⟩
      · have hp : p ⟨lo, hi⟩ = false := by assumption
        exact ⟨⟨k + 1, by omega, by go_num, hb.trans (hb'.mono hb.size), hide (pre_snoc Hxk.out hp hpre.out)⟩, by simp [intOf]; omega⟩
    · go_wp2
      go_ret
      exact ⟨-1, rfl, by rw [any_miss (k := k) (by have := Hn.out; omega) hpre.out]; simp, hb⟩
/-- slices.ContainsFunc at aflaj/api.Span. -/
theorem containsfunc_Sp (f : FuncId) (cp : Array Value) (p : Sp → Bool) (A : Option Addr) (xs : List Sp) (n c : Nat) (w : World) (hn : n = xs.length) (hm : n ≤ 9223372036854775807)
    (eg : ∀ args w, (callFunc f args).run Try.prog w = .ok (.enter f args) w) (hx : Rd w w.heap.size Sp.cells A xs)
    (hf : ∀ lo hi w', (⟨lo, hi⟩ : Sp) ∈ xs → Below w.heap.size w w' → Calls Try.prog f (#[.agg #[.int .i64 lo, .int .i64 hi]] ++ cp) w' fun e w'' => e = .returned (.bool (p ⟨lo, hi⟩)) ∧ Below w'.heap.size w' w'') :
    Calls Try.prog 83 #[.slice A n c, .func (.func f) #[] cp] w fun e w' => e = .returned (.bool (xs.any p)) ∧ Below w.heap.size w w' := by
  have H := hide (indexfunc_Sp f cp p A xs n c w hn hm eg hx hf); clear hx hf hn eg
  go_enter Try.func83, Try.ntmps83
  go_wp2_with (go_at_call 102; refine H.out.mono ?_; rintro e w' ⟨r, rfl, hr, hb⟩; have Hr := hide hr; clear hr)
  go_ret
  exact ⟨by rw [← Hr.out]; rfl, hb⟩


/-- slices.IndexFunc at aflaj/api.Reach: not below 0 just where one of them is so. -/
theorem indexfunc_Rc (f : FuncId) (cp : Array Value) (p : Rc → Bool) (A : Option Addr) (xs : List Rc) (n c : Nat) (w : World) (hn : n = xs.length) (hm : n ≤ 9223372036854775807)
    (eg : ∀ args w, (callFunc f args).run Try.prog w = .ok (.enter f args) w) (hx : Rd w w.heap.size Rc.cells A xs)
    (hf : ∀ c0 c1 l0 l1 g0 g1 w', (⟨⟨c0, c1⟩, ⟨l0, l1⟩, ⟨g0, g1⟩⟩ : Rc) ∈ xs → Below w.heap.size w w' → Calls Try.prog f (#[.agg #[.int .i64 c0, .int .i64 c1, .int .i64 l0, .int .i64 l1, .int .i64 g0, .int .i64 g1]] ++ cp) w' fun e w'' => e = .returned (.bool (p ⟨⟨c0, c1⟩, ⟨l0, l1⟩, ⟨g0, g1⟩⟩)) ∧ Below w'.heap.size w' w'') :
    Calls Try.prog 98 #[.slice A n c, .func (.func f) #[] cp] w fun e w' => ∃ r : Int, e = .returned (.int .i64 r) ∧ decide (0 ≤ r) = xs.any p ∧ Below w.heap.size w w' := by
  have Hn := hide hn; clear hn
  have Hx := hide hx; clear hx
  have Hf := hide hf; clear hf
  go_enter Try.func98, Try.ntmps98
  go_wp2_with fail
  go_loopw [4, 8] (fun v i wr => ∃ k : Nat, k ≤ n ∧ i = .int .i64 k ∧ Below w.heap.size w wr ∧ Hid (∀ y ∈ xs.take k, p y = false)) (fun _ i _ => n - (intOf i).toNat)
  case atStart => exact ⟨0, by omega, rfl, Below.refl _ _, hide pre_nil⟩
  case round =>
    obtain ⟨k, hk, rfl, hb, hpre⟩ := hrel
    by_cases hlt : k < n
    · obtain ⟨b, off, c0, c1, l0, l1, g0, g1, rfl, hB, hxk, hc0, hc1, hc2, hc3, hc4, hc5⟩ := (Hx.out.below hb).rc (i := k) (by have := Hn.out; omega)
      have H := hide (Hf.out c0 c1 l0 l1 g0 g1 wr (List.mem_of_getElem? hxk) hb)
      have Hxk := hide hxk; clear hxk
      go_wp2_with (go_at_fn f; refine H.out.mono ?_; rintro e w' ⟨rfl, hb'⟩)
      · go_ret
        have hp : p ⟨⟨c0, c1⟩, ⟨l0, l1⟩, ⟨g0, g1⟩⟩ = true := by assumption
        exact ⟨k, rfl, by rw [any_hit Hxk.out hp]; simp, hb.trans (hb'.mono hb.size)⟩
      · have hp : p ⟨⟨c0, c1⟩, ⟨l0, l1⟩, ⟨g0, g1⟩⟩ = false := by assumption
        exact ⟨⟨k + 1, by omega, by go_num, hb.trans (hb'.mono hb.size), hide (pre_snoc Hxk.out hp hpre.out)⟩, by simp [intOf]; omega⟩
    · go_wp2
      go_ret
      exact ⟨-1, rfl, by rw [any_miss (k := k) (by have := Hn.out; omega) hpre.out]; simp, hb⟩
/-- slices.ContainsFunc at aflaj/api.Reach. -/
theorem containsfunc_Rc (f : FuncId) (cp : Array Value) (p : Rc → Bool) (A : Option Addr) (xs : List Rc) (n c : Nat) (w : World) (hn : n = xs.length) (hm : n ≤ 9223372036854775807)
    (eg : ∀ args w, (callFunc f args).run Try.prog w = .ok (.enter f args) w) (hx : Rd w w.heap.size Rc.cells A xs)
    (hf : ∀ c0 c1 l0 l1 g0 g1 w', (⟨⟨c0, c1⟩, ⟨l0, l1⟩, ⟨g0, g1⟩⟩ : Rc) ∈ xs → Below w.heap.size w w' → Calls Try.prog f (#[.agg #[.int .i64 c0, .int .i64 c1, .int .i64 l0, .int .i64 l1, .int .i64 g0, .int .i64 g1]] ++ cp) w' fun e w'' => e = .returned (.bool (p ⟨⟨c0, c1⟩, ⟨l0, l1⟩, ⟨g0, g1⟩⟩)) ∧ Below w'.heap.size w' w'') :
    Calls Try.prog 74 #[.slice A n c, .func (.func f) #[] cp] w fun e w' => e = .returned (.bool (xs.any p)) ∧ Below w.heap.size w w' := by
  have H := hide (indexfunc_Rc f cp p A xs n c w hn hm eg hx hf); clear hx hf hn eg
  go_enter Try.func74, Try.ntmps74
  go_wp2_with (go_at_call 98; refine H.out.mono ?_; rintro e w' ⟨r, rfl, hr, hb⟩; have Hr := hide hr; clear hr)
  go_ret
  exact ⟨by rw [← Hr.out]; rfl, hb⟩


/-- slices.IndexFunc at aflaj/api.Gauge: not below 0 just where one of them is so. -/
theorem indexfunc_Ga (f : FuncId) (cp : Array Value) (p : Ga → Bool) (A : Option Addr) (xs : List Ga) (n c : Nat) (w : World) (hn : n = xs.length) (hm : n ≤ 9223372036854775807)
    (eg : ∀ args w, (callFunc f args).run Try.prog w = .ok (.enter f args) w) (hx : Rd w w.heap.size Ga.cells A xs)
    (hf : ∀ s lo hi w', (⟨s, ⟨lo, hi⟩⟩ : Ga) ∈ xs → Below w.heap.size w w' → Calls Try.prog f (#[.agg #[.int .i64 s, .int .i64 lo, .int .i64 hi]] ++ cp) w' fun e w'' => e = .returned (.bool (p ⟨s, ⟨lo, hi⟩⟩)) ∧ Below w'.heap.size w' w'') :
    Calls Try.prog 100 #[.slice A n c, .func (.func f) #[] cp] w fun e w' => ∃ r : Int, e = .returned (.int .i64 r) ∧ decide (0 ≤ r) = xs.any p ∧ Below w.heap.size w w' := by
  have Hn := hide hn; clear hn
  have Hx := hide hx; clear hx
  have Hf := hide hf; clear hf
  go_enter Try.func100, Try.ntmps100
  go_wp2_with fail
  go_loopw [4, 8] (fun v i wr => ∃ k : Nat, k ≤ n ∧ i = .int .i64 k ∧ Below w.heap.size w wr ∧ Hid (∀ y ∈ xs.take k, p y = false)) (fun _ i _ => n - (intOf i).toNat)
  case atStart => exact ⟨0, by omega, rfl, Below.refl _ _, hide pre_nil⟩
  case round =>
    obtain ⟨k, hk, rfl, hb, hpre⟩ := hrel
    by_cases hlt : k < n
    · obtain ⟨b, off, s, lo, hi, rfl, hB, hxk, hc0, hc1, hc2⟩ := (Hx.out.below hb).ga (i := k) (by have := Hn.out; omega)
      have H := hide (Hf.out s lo hi wr (List.mem_of_getElem? hxk) hb)
      have Hxk := hide hxk; clear hxk
      go_wp2_with (go_at_fn f; refine H.out.mono ?_; rintro e w' ⟨rfl, hb'⟩)
      · go_ret
        have hp : p ⟨s, ⟨lo, hi⟩⟩ = true := by assumption
        exact ⟨k, rfl, by rw [any_hit Hxk.out hp]; simp, hb.trans (hb'.mono hb.size)⟩
      · have hp : p ⟨s, ⟨lo, hi⟩⟩ = false := by assumption
        exact ⟨⟨k + 1, by omega, by go_num, hb.trans (hb'.mono hb.size), hide (pre_snoc Hxk.out hp hpre.out)⟩, by simp [intOf]; omega⟩
    · go_wp2
      go_ret
      exact ⟨-1, rfl, by rw [any_miss (k := k) (by have := Hn.out; omega) hpre.out]; simp, hb⟩
/-- slices.ContainsFunc at aflaj/api.Gauge. -/
theorem containsfunc_Ga (f : FuncId) (cp : Array Value) (p : Ga → Bool) (A : Option Addr) (xs : List Ga) (n c : Nat) (w : World) (hn : n = xs.length) (hm : n ≤ 9223372036854775807)
    (eg : ∀ args w, (callFunc f args).run Try.prog w = .ok (.enter f args) w) (hx : Rd w w.heap.size Ga.cells A xs)
    (hf : ∀ s lo hi w', (⟨s, ⟨lo, hi⟩⟩ : Ga) ∈ xs → Below w.heap.size w w' → Calls Try.prog f (#[.agg #[.int .i64 s, .int .i64 lo, .int .i64 hi]] ++ cp) w' fun e w'' => e = .returned (.bool (p ⟨s, ⟨lo, hi⟩⟩)) ∧ Below w'.heap.size w' w'') :
    Calls Try.prog 81 #[.slice A n c, .func (.func f) #[] cp] w fun e w' => e = .returned (.bool (xs.any p)) ∧ Below w.heap.size w w' := by
  have H := hide (indexfunc_Ga f cp p A xs n c w hn hm eg hx hf); clear hx hf hn eg
  go_enter Try.func81, Try.ntmps81
  go_wp2_with (go_at_call 100; refine H.out.mono ?_; rintro e w' ⟨r, rfl, hr, hb⟩; have Hr := hide hr; clear hr)
  go_ret
  exact ⟨by rw [← Hr.out]; rfl, hb⟩


/-- slices.IndexFunc at aflaj/api.Year: not below 0 just where one of them is so. -/
theorem indexfunc_Yr (f : FuncId) (cp : Array Value) (p : Yr → Bool) (A : Option Addr) (xs : List Yr) (n c : Nat) (w : World) (hn : n = xs.length) (hm : n ≤ 9223372036854775807)
    (eg : ∀ args w, (callFunc f args).run Try.prog w = .ok (.enter f args) w) (hx : Rd w w.heap.size Yr.cells A xs)
    (hf : ∀ lo hi wt w', (⟨⟨lo, hi⟩, wt⟩ : Yr) ∈ xs → Below w.heap.size w w' → Calls Try.prog f (#[.agg #[.int .i64 lo, .int .i64 hi, .int .i64 wt]] ++ cp) w' fun e w'' => e = .returned (.bool (p ⟨⟨lo, hi⟩, wt⟩)) ∧ Below w'.heap.size w' w'') :
    Calls Try.prog 85 #[.slice A n c, .func (.func f) #[] cp] w fun e w' => ∃ r : Int, e = .returned (.int .i64 r) ∧ decide (0 ≤ r) = xs.any p ∧ Below w.heap.size w w' := by
  have Hn := hide hn; clear hn
  have Hx := hide hx; clear hx
  have Hf := hide hf; clear hf
  go_enter Try.func85, Try.ntmps85
  go_wp2_with fail
  go_loopw [4, 8] (fun v i wr => ∃ k : Nat, k ≤ n ∧ i = .int .i64 k ∧ Below w.heap.size w wr ∧ Hid (∀ y ∈ xs.take k, p y = false)) (fun _ i _ => n - (intOf i).toNat)
  case atStart => exact ⟨0, by omega, rfl, Below.refl _ _, hide pre_nil⟩
  case round =>
    obtain ⟨k, hk, rfl, hb, hpre⟩ := hrel
    by_cases hlt : k < n
    · obtain ⟨b, off, lo, hi, wt, rfl, hB, hxk, hc0, hc1, hc2⟩ := (Hx.out.below hb).yr (i := k) (by have := Hn.out; omega)
      have H := hide (Hf.out lo hi wt wr (List.mem_of_getElem? hxk) hb)
      have Hxk := hide hxk; clear hxk
      go_wp2_with (go_at_fn f; refine H.out.mono ?_; rintro e w' ⟨rfl, hb'⟩)
      · go_ret
        have hp : p ⟨⟨lo, hi⟩, wt⟩ = true := by assumption
        exact ⟨k, rfl, by rw [any_hit Hxk.out hp]; simp, hb.trans (hb'.mono hb.size)⟩
      · have hp : p ⟨⟨lo, hi⟩, wt⟩ = false := by assumption
        exact ⟨⟨k + 1, by omega, by go_num, hb.trans (hb'.mono hb.size), hide (pre_snoc Hxk.out hp hpre.out)⟩, by simp [intOf]; omega⟩
    · go_wp2
      go_ret
      exact ⟨-1, rfl, by rw [any_miss (k := k) (by have := Hn.out; omega) hpre.out]; simp, hb⟩
/-- slices.ContainsFunc at aflaj/api.Year. -/
theorem containsfunc_Yr (f : FuncId) (cp : Array Value) (p : Yr → Bool) (A : Option Addr) (xs : List Yr) (n c : Nat) (w : World) (hn : n = xs.length) (hm : n ≤ 9223372036854775807)
    (eg : ∀ args w, (callFunc f args).run Try.prog w = .ok (.enter f args) w) (hx : Rd w w.heap.size Yr.cells A xs)
    (hf : ∀ lo hi wt w', (⟨⟨lo, hi⟩, wt⟩ : Yr) ∈ xs → Below w.heap.size w w' → Calls Try.prog f (#[.agg #[.int .i64 lo, .int .i64 hi, .int .i64 wt]] ++ cp) w' fun e w'' => e = .returned (.bool (p ⟨⟨lo, hi⟩, wt⟩)) ∧ Below w'.heap.size w' w'') :
    Calls Try.prog 60 #[.slice A n c, .func (.func f) #[] cp] w fun e w' => e = .returned (.bool (xs.any p)) ∧ Below w.heap.size w w' := by
  have H := hide (indexfunc_Yr f cp p A xs n c w hn hm eg hx hf); clear hx hf hn eg
  go_enter Try.func60, Try.ntmps60
  go_wp2_with (go_at_call 85; refine H.out.mono ?_; rintro e w' ⟨r, rfl, hr, hb⟩; have Hr := hide hr; clear hr)
  go_ret
  exact ⟨by rw [← Hr.out]; rfl, hb⟩

end Go.Proofs.Ytkmocikcohhdoaa
