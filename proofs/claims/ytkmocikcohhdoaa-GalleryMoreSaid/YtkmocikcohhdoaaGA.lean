/- Gallery and its reference: the small functions, by contracts. Gallery and its reference: small functions without loops, by contracts. Gallery: what is valid (proper, Check, enter), by contracts. Gallery: enter, least, most, by contracts. -/
import Derived.Test.YtkmocikcohhdoaaProg
import Derived.Test.YtkmocikcohhdoaaBase
set_option linter.unusedVariables false
set_option linter.unusedSimpArgs false
namespace Go.Proofs.Ytkmocikcohhdoaa
open Go.RowKit Go.Shelf


/-- slices.IndexFunc at aflaj/api.Span: not below 0 just where one of them is so. -/
theorem indexfunc_Sp (f : FuncId) (cp : Array Value) (p : Sp → Bool) (A : Option Addr) (xs : List Sp) (n c : Nat) (w : World) (hn : n = xs.length) (hm : n ≤ 9223372036854775807)
    (eg : ∀ args w, (callFunc f args).run Try.prog w = .ok (.enter f args) w) (hx : Rd w w.heap.size Sp.cells A xs)
    (hf : ∀ lo hi w', (⟨lo, hi⟩ : Sp) ∈ xs → Below w.heap.size w w' → Calls Try.prog f (#[.agg #[.int .i64 lo, .int .i64 hi]] ++ cp) w' fun e w'' => e = .returned (.bool (p ⟨lo, hi⟩)) ∧ Below w'.heap.size w' w'') :
    Calls Try.prog 102 #[.slice A n c, .func (.func f) #[] cp] w fun e w' => ∃ r : Int, e = .returned (.int .i64 r) ∧ decide (0 ≤ r) = xs.any p ∧ Below w.heap.size w w' := by
  have Hn := hide hn; clear hn
  have Hx := hide hx; clear hx
  have Hf := hide hf; clear hf
  go_enter Try.func102, Try.ntmps102
  go_wp2_with fail
  go_loopw [4, 8] (fun v i wr => ∃ k : Nat, k ≤ n ∧ i = .int .i64 k ∧ Below w.heap.size w wr ∧ Hid (∀ y ∈ xs.take k, p y = false)) (fun _ i _ => n - (intOf i).toNat)
  case atStart => exact ⟨0, by omega, rfl, Below.refl _ _, hide pre_nil⟩
  case round =>
    obtain ⟨k, hk, rfl, hb, hpre⟩ := hrel
    by_cases hlt : k < n
    · obtain ⟨b, off, lo, hi, rfl, hB, hxk, hc0, hc1⟩ := (Hx.out.below hb).sp (i := k) (by have := Hn.out; omega)
      have H := hide (Hf.out lo hi wr (List.mem_of_getElem? hxk) hb)
      have Hxk := hide hxk; clear hxk
      go_wp2_with (go_at_fn f; refine H.out.mono ?_; rintro e w' ⟨rfl, hb'⟩)
      · go_ret
        have hp : p ⟨lo, hi⟩ = true := by assumption
        exact ⟨k, rfl, by rw [any_hit Hxk.out hp]; simp, hb.trans (hb'.mono hb.size)⟩
      · have hp : p ⟨lo, hi⟩ = false := by assumption
        exact ⟨⟨k + 1, by omega, by go_num, hb.trans (hb'.mono hb.size), hide (pre_snoc Hxk.out hp hpre.out)⟩, by simp [intOf]; omega⟩
    · go_wp2
      go_ret
      exact ⟨-1, rfl, by rw [any_miss (k := k) (by have := Hn.out; omega) hpre.out]; simp, hb⟩
/-- slices.ContainsFunc at aflaj/api.Span. -/
theorem containsfunc_Sp (f : FuncId) (cp : Array Value) (p : Sp → Bool) (A : Option Addr) (xs : List Sp) (n c : Nat) (w : World) (hn : n = xs.length) (hm : n ≤ 9223372036854775807)
    (eg : ∀ args w, (callFunc f args).run Try.prog w = .ok (.enter f args) w) (hx : Rd w w.heap.size Sp.cells A xs)
    (hf : ∀ lo hi w', (⟨lo, hi⟩ : Sp) ∈ xs → Below w.heap.size w w' → Calls Try.prog f (#[.agg #[.int .i64 lo, .int .i64 hi]] ++ cp) w' fun e w'' => e = .returned (.bool (p ⟨lo, hi⟩)) ∧ Below w'.heap.size w' w'') :
    Calls Try.prog 83 #[.slice A n c, .func (.func f) #[] cp] w fun e w' => e = .returned (.bool (xs.any p)) ∧ Below w.heap.size w w' := by
  have H := hide (indexfunc_Sp f cp p A xs n c w hn hm eg hx hf); clear hx hf hn eg
  go_enter Try.func83, Try.ntmps83
  go_wp2_with (go_at_call 102; refine H.out.mono ?_; rintro e w' ⟨r, rfl, hr, hb⟩; have Hr := hide hr; clear hr)
  go_ret
  exact ⟨by rw [← Hr.out]; rfl, hb⟩


/-- slices.IndexFunc at aflaj/api.Reach: not below 0 just where one of them is so. -/
theorem indexfunc_Rc (f : FuncId) (cp : Array Value) (p : Rc → Bool) (A : Option Addr) (xs : List Rc) (n c : Nat) (w : World) (hn : n = xs.length) (hm : n ≤ 9223372036854775807)
    (eg : ∀ args w, (callFunc f args).run Try.prog w = .ok (.enter f args) w) (hx : Rd w w.heap.size Rc.cells A xs)
    (hf : ∀ c0 c1 l0 l1 g0 g1 w', (⟨⟨c0, c1⟩, ⟨l0, l1⟩, ⟨g0, g1⟩⟩ : Rc) ∈ xs → Below w.heap.size w w' → Calls Try.prog f (#[.agg #[.int .i64 c0, .int .i64 c1, .int .i64 l0, .int .i64 l1, .int .i64 g0, .int .i64 g1]] ++ cp) w' fun e w'' => e = .returned (.bool (p ⟨⟨c0, c1⟩, ⟨l0, l1⟩, ⟨g0, g1⟩⟩)) ∧ Below w'.heap.size w' w'') :
    Calls Try.prog 98 #[.slice A n c, .func (.func f) #[] cp] w fun e w' => ∃ r : Int, e = .returned (.int .i64 r) ∧ decide (0 ≤ r) = xs.any p ∧ Below w.heap.size w w' := by
  have Hn := hide hn; clear hn
  have Hx := hide hx; clear hx
  have Hf := hide hf; clear hf
  go_enter Try.func98, Try.ntmps98
  go_wp2_with fail
  go_loopw [4, 8] (fun v i wr => ∃ k : Nat, k ≤ n ∧ i = .int .i64 k ∧ Below w.heap.size w wr ∧ Hid (∀ y ∈ xs.take k, p y = false)) (fun _ i _ => n - (intOf i).toNat)
  case atStart => exact ⟨0, by omega, rfl, Below.refl _ _, hide pre_nil⟩
  case round =>
    obtain ⟨k, hk, rfl, hb, hpre⟩ := hrel
    by_cases hlt : k < n
    · obtain ⟨b, off, c0, c1, l0, l1, g0, g1, rfl, hB, hxk, hc0, hc1, hc2, hc3, hc4, hc5⟩ := (Hx.out.below hb).rc (i := k) (by have := Hn.out; omega)
      have H := hide (Hf.out c0 c1 l0 l1 g0 g1 wr (List.mem_of_getElem? hxk) hb)
      have Hxk := hide hxk; clear hxk
      go_wp2_with (go_at_fn f; refine H.out.mono ?_; rintro e w' ⟨rfl, hb'⟩)
      · go_ret
        have hp : p ⟨⟨c0, c1⟩, ⟨l0, l1⟩, ⟨g0, g1⟩⟩ = true := by assumption
        exact ⟨k, rfl, by rw [any_hit Hxk.out hp]; simp, hb.trans (hb'.mono hb.size)⟩
      · have hp : p ⟨⟨c0, c1⟩, ⟨l0, l1⟩, ⟨g0, g1⟩⟩ = false := by assumption
        exact ⟨⟨k + 1, by omega, by go_num, hb.trans (hb'.mono hb.size), hide (pre_snoc Hxk.out hp hpre.out)⟩, by simp [intOf]; omega⟩
    · go_wp2
      go_ret
      exact ⟨-1, rfl, by rw [any_miss (k := k) (by have := Hn.out; omega) hpre.out]; simp, hb⟩
/-- slices.ContainsFunc at aflaj/api.Reach. -/
theorem containsfunc_Rc (f : FuncId) (cp : Array Value) (p : Rc → Bool) (A : Option Addr) (xs : List Rc) (n c : Nat) (w : World) (hn : n = xs.length) (hm : n ≤ 9223372036854775807)
    (eg : ∀ args w, (callFunc f args).run Try.prog w = .ok (.enter f args) w) (hx : Rd w w.heap.size Rc.cells A xs)
    (hf : ∀ c0 c1 l0 l1 g0 g1 w', (⟨⟨c0, c1⟩, ⟨l0, l1⟩, ⟨g0, g1⟩⟩ : Rc) ∈ xs → Below w.heap.size w w' → Calls Try.prog f (#[.agg #[.int .i64 c0, .int .i64 c1, .int .i64 l0, .int .i64 l1, .int .i64 g0, .int .i64 g1]] ++ cp) w' fun e w'' => e = .returned (.bool (p ⟨⟨c0, c1⟩, ⟨l0, l1⟩, ⟨g0, g1⟩⟩)) ∧ Below w'.heap.size w' w'') :
    Calls Try.prog 74 #[.slice A n c, .func (.func f) #[] cp] w fun e w' => e = .returned (.bool (xs.any p)) ∧ Below w.heap.size w w' := by
  have H := hide (indexfunc_Rc f cp p A xs n c w hn hm eg hx hf); clear hx hf hn eg
  go_enter Try.func74, Try.ntmps74
  go_wp2_with (go_at_call 98; refine H.out.mono ?_; rintro e w' ⟨r, rfl, hr, hb⟩; have Hr := hide hr; clear hr)
  go_ret
  exact ⟨by rw [← Hr.out]; rfl, hb⟩


/-- slices.IndexFunc at aflaj/api.Gauge: not below 0 just where one of them is so. -/
theorem indexfunc_Ga (f : FuncId) (cp : Array Value) (p : Ga → Bool) (A : Option Addr) (xs : List Ga) (n c : Nat) (w : World) (hn : n = xs.length) (hm : n ≤ 9223372036854775807)
    (eg : ∀ args w, (callFunc f args).run Try.prog w = .ok (.enter f args) w) (hx : Rd w w.heap.size Ga.cells A xs)
    (hf : ∀ s lo hi w', (⟨s, ⟨lo, hi⟩⟩ : Ga) ∈ xs → Below w.heap.size w w' → Calls Try.prog f (#[.agg #[.int .i64 s, .int .i64 lo, .int .i64 hi]] ++ cp) w' fun e w'' => e = .returned (.bool (p ⟨s, ⟨lo, hi⟩⟩)) ∧ Below w'.heap.size w' w'') :
    Calls Try.prog 100 #[.slice A n c, .func (.func f) #[] cp] w fun e w' => ∃ r : Int, e = .returned (.int .i64 r) ∧ decide (0 ≤ r) = xs.any p ∧ Below w.heap.size w w' := by
  have Hn := hide hn; clear hn
  have Hx := hide hx; clear hx
  have Hf := hide hf; clear hf
  go_enter Try.func100, Try.ntmps100
  go_wp2_with fail
  go_loopw [4, 8] (fun v i wr => ∃ k : Nat, k ≤ n ∧ i = .int .i64 k ∧ Below w.heap.size w wr ∧ Hid (∀ y ∈ xs.take k, p y = false)) (fun _ i _ => n - (intOf i).toNat)
  case atStart => exact ⟨0, by omega, rfl, Below.refl _ _, hide pre_nil⟩
  case round =>
    obtain ⟨k, hk, rfl, hb, hpre⟩ := hrel
    by_cases hlt : k < n
    · obtain ⟨b, off, s, lo, hi, rfl, hB, hxk, hc0, hc1, hc2⟩ := (Hx.out.below hb).ga (i := k) (by have := Hn.out; omega)
      have H := hide (Hf.out s lo hi wr (List.mem_of_getElem? hxk) hb)
      have Hxk := hide hxk; clear hxk
      go_wp2_with (go_at_fn f; refine H.out.mono ?_; rintro e w' ⟨rfl, hb'⟩)
      · go_ret
        have hp : p ⟨s, ⟨lo, hi⟩⟩ = true := by assumption
        exact ⟨k, rfl, by rw [any_hit Hxk.out hp]; simp, hb.trans (hb'.mono hb.size)⟩
      · have hp : p ⟨s, ⟨lo, hi⟩⟩ = false := by assumption
        exact ⟨⟨k + 1, by omega, by go_num, hb.trans (hb'.mono hb.size), hide (pre_snoc Hxk.out hp hpre.out)⟩, by simp [intOf]; omega⟩
    · go_wp2
      go_ret
      exact ⟨-1, rfl, by rw [any_miss (k := k) (by have := Hn.out; omega) hpre.out]; simp, hb⟩
/-- slices.ContainsFunc at aflaj/api.Gauge. -/
theorem containsfunc_Ga (f : FuncId) (cp : Array Value) (p : Ga → Bool) (A : Option Addr) (xs : List Ga) (n c : Nat) (w : World) (hn : n = xs.length) (hm : n ≤ 9223372036854775807)
    (eg : ∀ args w, (callFunc f args).run Try.prog w = .ok (.enter f args) w) (hx : Rd w w.heap.size Ga.cells A xs)
    (hf : ∀ s lo hi w', (⟨s, ⟨lo, hi⟩⟩ : Ga) ∈ xs → Below w.heap.size w w' → Calls Try.prog f (#[.agg #[.int .i64 s, .int .i64 lo, .int .i64 hi]] ++ cp) w' fun e w'' => e = .returned (.bool (p ⟨s, ⟨lo, hi⟩⟩)) ∧ Below w'.heap.size w' w'') :
    Calls Try.prog 81 #[.slice A n c, .func (.func f) #[] cp] w fun e w' => e = .returned (.bool (xs.any p)) ∧ Below w.heap.size w w' := by
  have H := hide (indexfunc_Ga f cp p A xs n c w hn hm eg hx hf); clear hx hf hn eg
  go_enter Try.func81, Try.ntmps81
  go_wp2_with (go_at_call 100; refine H.out.mono ?_; rintro e w' ⟨r, rfl, hr, hb⟩; have Hr := hide hr; clear hr)
  go_ret
  exact ⟨by rw [← Hr.out]; rfl, hb⟩


/-- slices.IndexFunc at aflaj/api.Year: not below 0 just where one of them is so. -/
theorem indexfunc_Yr (f : FuncId) (cp : Array Value) (p : Yr → Bool) (A : Option Addr) (xs : List Yr) (n c : Nat) (w : World) (hn : n = xs.length) (hm : n ≤ 9223372036854775807)
    (eg : ∀ args w, (callFunc f args).run Try.prog w = .ok (.enter f args) w) (hx : Rd w w.heap.size Yr.cells A xs)
    (hf : ∀ lo hi wt w', (⟨⟨lo, hi⟩, wt⟩ : Yr) ∈ xs → Below w.heap.size w w' → Calls Try.prog f (#[.agg #[.int .i64 lo, .int .i64 hi, .int .i64 wt]] ++ cp) w' fun e w'' => e = .returned (.bool (p ⟨⟨lo, hi⟩, wt⟩)) ∧ Below w'.heap.size w' w'') :
    Calls Try.prog 85 #[.slice A n c, .func (.func f) #[] cp] w fun e w' => ∃ r : Int, e = .returned (.int .i64 r) ∧ decide (0 ≤ r) = xs.any p ∧ Below w.heap.size w w' := by
  have Hn := hide hn; clear hn
  have Hx := hide hx; clear hx
  have Hf := hide hf; clear hf
  go_enter Try.func85, Try.ntmps85
  go_wp2_with fail
  go_loopw [4, 8] (fun v i wr => ∃ k : Nat, k ≤ n ∧ i = .int .i64 k ∧ Below w.heap.size w wr ∧ Hid (∀ y ∈ xs.take k, p y = false)) (fun _ i _ => n - (intOf i).toNat)
  case atStart => exact ⟨0, by omega, rfl, Below.refl _ _, hide pre_nil⟩
  case round =>
    obtain ⟨k, hk, rfl, hb, hpre⟩ := hrel
    by_cases hlt : k < n
    · obtain ⟨b, off, lo, hi, wt, rfl, hB, hxk, hc0, hc1, hc2⟩ := (Hx.out.below hb).yr (i := k) (by have := Hn.out; omega)
      have H := hide (Hf.out lo hi wt wr (List.mem_of_getElem? hxk) hb)
      have Hxk := hide hxk; clear hxk
      go_wp2_with (go_at_fn f; refine H.out.mono ?_; rintro e w' ⟨rfl, hb'⟩)
      · go_ret
        have hp : p ⟨⟨lo, hi⟩, wt⟩ = true := by assumption
        exact ⟨k, rfl, by rw [any_hit Hxk.out hp]; simp, hb.trans (hb'.mono hb.size)⟩
      · have hp : p ⟨⟨lo, hi⟩, wt⟩ = false := by assumption
        exact ⟨⟨k + 1, by omega, by go_num, hb.trans (hb'.mono hb.size), hide (pre_snoc Hxk.out hp hpre.out)⟩, by simp [intOf]; omega⟩
    · go_wp2
      go_ret
      exact ⟨-1, rfl, by rw [any_miss (k := k) (by have := Hn.out; omega) hpre.out]; simp, hb⟩
/-- slices.ContainsFunc at aflaj/api.Year. -/
theorem containsfunc_Yr (f : FuncId) (cp : Array Value) (p : Yr → Bool) (A : Option Addr) (xs : List Yr) (n c : Nat) (w : World) (hn : n = xs.length) (hm : n ≤ 9223372036854775807)
    (eg : ∀ args w, (callFunc f args).run Try.prog w = .ok (.enter f args) w) (hx : Rd w w.heap.size Yr.cells A xs)
    (hf : ∀ lo hi wt w', (⟨⟨lo, hi⟩, wt⟩ : Yr) ∈ xs → Below w.heap.size w w' → Calls Try.prog f (#[.agg #[.int .i64 lo, .int .i64 hi, .int .i64 wt]] ++ cp) w' fun e w'' => e = .returned (.bool (p ⟨⟨lo, hi⟩, wt⟩)) ∧ Below w'.heap.size w' w'') :
    Calls Try.prog 60 #[.slice A n c, .func (.func f) #[] cp] w fun e w' => e = .returned (.bool (xs.any p)) ∧ Below w.heap.size w w' := by
  have H := hide (indexfunc_Yr f cp p A xs n c w hn hm eg hx hf); clear hx hf hn eg
  go_enter Try.func60, Try.ntmps60
  go_wp2_with (go_at_call 85; refine H.out.mono ?_; rintro e w' ⟨r, rfl, hr, hb⟩; have Hr := hide hr; clear hr)
  go_ret
  exact ⟨by rw [← Hr.out]; rfl, hb⟩

end Go.Proofs.Ytkmocikcohhdoaa
namespace Go.Proofs.Ytkmocikcohhdoaa
open Go.RowKit Go.Shelf

/-- A span that is not in order from 0 to a number. -/
def Sp.bad (hi : Int) (s : Sp) : Bool := decide (s.lo < 0) || decide (s.hi < s.lo) || decide (hi < s.hi)
def Sp.ok (lo hi : Int) (s : Sp) : Bool := decide (lo ≤ s.lo ∧ s.lo ≤ s.hi) && decide (s.hi ≤ hi)
def inB (lo hi n : Int) : Bool := decide (lo ≤ n) && decide (n ≤ hi)

set_option maxHeartbeats 400000 in
theorem from_any (lo hi n : Int) (w : World) :
    Calls Try.prog 52 #[.int .i64 lo, .int .i64 hi, .int .i64 n] w fun e w' => e = .returned (.bool (inB lo hi n)) ∧ w = w' := by
  by_cases h : lo ≤ n
  all_goals
    go_enter Try.func52, Try.ntmps52
    go_wp2
    go_ret
    exact ⟨by first | (simp [inB, h]; done) | (simp [inB, h]; omega), rfl⟩

set_option maxHeartbeats 400000 in
theorem within_any (lo hi n : Int) (w : World) :
    Calls Try.prog 55 #[.int .i64 n, .int .i64 lo, .int .i64 hi] w fun e w' => e = .returned (.bool (inB lo hi n)) ∧ w = w' := by
  by_cases h : lo ≤ n
  all_goals
    go_enter Try.func55, Try.ntmps55
    go_wp2
    go_ret
    exact ⟨by first | (simp [inB, h]; done) | (simp [inB, h]; omega), rfl⟩

set_option maxHeartbeats 400000 in
theorem spanned_any (a b lo hi : Int) (w : World) :
    Calls Try.prog 40 #[.agg #[.int .i64 a, .int .i64 b], .int .i64 lo, .int .i64 hi] w fun e w' => e = .returned (.bool (Sp.ok lo hi ⟨a, b⟩)) ∧ Below w.heap.size w w' := by
  cases h : inB lo b a
  all_goals
    have H := hide h; clear h
    go_enter Try.func40, Try.ntmps40
    go_wp2_with (go_at_call 55; refine (within_any _ _ _ _).mono ?_; rintro e w' ⟨rfl, rfl⟩; rw [H.out])
    go_ret
    exact ⟨by have := H.out; simp [inB] at this; simp [Sp.ok]; omega, (Below.refl _ _).alloc (Nat.le_refl _) _⟩

set_option maxHeartbeats 400000 in
theorem small_any (A A' : Option Addr) (n c n' c' : Nat) (w : World) (hn : n ≤ 9223372036854775807) (hn' : n' ≤ 9223372036854775807) :
    Calls Try.prog 14 #[.slice A n c, .slice A' n' c'] w fun e w' => e = .returned (.bool (decide (n ≤ 20) && decide (n' ≤ 50))) ∧ w = w' := by
  by_cases h : n ≤ 20
  all_goals
    go_enter Try.func14, Try.ntmps14
    go_wp2
    go_ret
    exact ⟨by first | (simp [h]; done) | (simp [h]; omega), rfl⟩

set_option maxHeartbeats 400000 in
theorem proper1_any (lo hi m : Int) (p : Nat) (w : World) (hp : w.cell? ⟨p, 0, none⟩ = some (.int .i64 m)) (hs : p < w.heap.size) :
    Calls Try.prog 84 #[.agg #[.int .i64 lo, .int .i64 hi], .pointer (some ⟨p, 0, none⟩)] w fun e w' => e = .returned (.bool (Sp.bad m ⟨lo, hi⟩)) ∧ Below w.heap.size w w' := by
  by_cases h : lo < 0
  · go_enter Try.func84, Try.ntmps84
    go_wp2
    go_ret
    exact ⟨by simp [Sp.bad, h], (Below.refl _ _).alloc (Nat.le_refl _) _⟩
  · by_cases h2 : hi < lo
    all_goals
      go_enter Try.func84, Try.ntmps84
      go_wp2
      go_ret
      exact ⟨by first | (simp [Sp.bad, h2]; done) | (simp [Sp.bad, h2]; omega), (Below.refl _ _).alloc (Nat.le_refl _) _⟩

end Go.Proofs.Ytkmocikcohhdoaa
namespace Go.Proofs.Ytkmocikcohhdoaa
open Go.RowKit Go.Shelf

def anyBad (m : Int) (xs : List Sp) : Bool := xs.any (Sp.bad m)

theorem enters_proper1 : ∀ args w, (callFunc 84 args).run Try.prog w = .ok (.enter 84 args) w := enters_of Try.func84 (by kernel_rfl) rfl

set_option maxHeartbeats 400000 in
theorem proper_any (m : Int) (A : Option Addr) (xs : List Sp) (n c : Nat) (w : World) (hn : n = xs.length) (hm : n ≤ 9223372036854775807) (hx : Rd w w.heap.size Sp.cells A xs) :
    Calls Try.prog 59 #[.int .i64 m, .slice A n c] w fun e w' => e = .returned (.bool (!(anyBad m xs))) ∧ Below w.heap.size w w' := by
  have hb0 : Below w.heap.size w (w.alloc (.cells #[.int .i64 m] 3)) := (Below.refl _ _).alloc (Nat.le_refl _) _
  have hc0 : (w.alloc (.cells #[.int .i64 m] 3)).cell? ⟨w.heap.size, 0, none⟩ = some (.int .i64 m) := cell_new _ _ _ _ _ rfl
  have H := hide (containsfunc_Sp 84 #[.pointer (some ⟨w.heap.size, 0, none⟩)] (Sp.bad m) A xs n c (w.alloc (.cells #[.int .i64 m] 3)) hn hm enters_proper1 ((hx.below hb0).more (by simp))
    (fun lo hi w' _ hb => proper1_any lo hi m w.heap.size w' ((hb.cell (p := ⟨w.heap.size, 0, none⟩) (by simp)).trans hc0) (by have := hb.size; simp at this; omega)))
  clear hx hn hc0
  go_enter Try.func59, Try.ntmps59
  go_wp2_with (go_at_call 83; refine H.out.mono ?_; rintro e w' ⟨rfl, hb⟩)
  go_ret
  exact ⟨rfl, hb0.trans (hb.mono (by simp))⟩

/-- A reach that is in order. -/
def Rc.bad (r : Rc) : Bool := anyBad 1000000 [r.cap, r.leak, r.gain]

set_option maxHeartbeats 400000 in
theorem check1_any (c0 c1 l0 l1 g0 g1 : Int) (w : World) :
    Calls Try.prog 73 #[.agg #[.int .i64 c0, .int .i64 c1, .int .i64 l0, .int .i64 l1, .int .i64 g0, .int .i64 g1]] w fun e w' => e = .returned (.bool (!(Rc.bad ⟨⟨c0, c1⟩, ⟨l0, l1⟩, ⟨g0, g1⟩⟩))) ∧ Below w.heap.size w w' := by
  go_enter Try.func73, Try.ntmps73
  go_wp2_with fail
  have hr := Rd.new (cells := Sp.cells) (w.alloc (.cells #[.int .i64 c0, .int .i64 c1, .int .i64 l0, .int .i64 l1, .int .i64 g0, .int .i64 g1] 96)) #[.int .i64 c0, .int .i64 c1, .int .i64 l0, .int .i64 l1, .int .i64 g0, .int .i64 g1] 24 [⟨c0, c1⟩, ⟨l0, l1⟩, ⟨g0, g1⟩] rfl
  refine (proper_any 1000000 _ [⟨c0, c1⟩, ⟨l0, l1⟩, ⟨g0, g1⟩] 3 3 _ rfl (by omega) (by simpa using hr)).mono ?_
  rintro e w' ⟨rfl, hb⟩
  clear hr
  go_wp2
  go_ret
  exact ⟨rfl, ((below_new w _).alloc (by simp) _).trans (hb.mono (by simp; omega))⟩

theorem enters_check1 : ∀ args w, (callFunc 73 args).run Try.prog w = .ok (.enter 73 args) w := enters_of Try.func73 (by kernel_rfl) rfl

set_option maxHeartbeats 400000 in
theorem check2_any (c0 c1 l0 l1 g0 g1 : Int) (p : Nat) (w : World) (hp : w.cell? ⟨p, 0, none⟩ = some (.func (.func 73) #[] #[])) (hs : p < w.heap.size) :
    Calls Try.prog 75 #[.agg #[.int .i64 c0, .int .i64 c1, .int .i64 l0, .int .i64 l1, .int .i64 g0, .int .i64 g1], .pointer (some ⟨p, 0, none⟩)] w fun e w' => e = .returned (.bool (Rc.bad ⟨⟨c0, c1⟩, ⟨l0, l1⟩, ⟨g0, g1⟩⟩)) ∧ Below w.heap.size w w' := by
  go_enter Try.func75, Try.ntmps75
  go_wp2_with (go_at_call 73; refine (check1_any _ _ _ _ _ _ _).mono ?_; rintro e w' ⟨rfl, hb⟩)
  go_ret
  exact ⟨by simp, (below_new w _).trans (hb.mono (by simp))⟩

theorem enters_check2 : ∀ args w, (callFunc 75 args).run Try.prog w = .ok (.enter 75 args) w := enters_of Try.func75 (by kernel_rfl) rfl

/-- A gallery that is valid. -/
def gOk (g : List Rc) : Bool := inB 1 12 g.length && !(g.any Rc.bad)
def gCheck (g : List Rc) : Int := if gOk g then 0 else 20

set_option maxHeartbeats 400000 in
theorem check_any (A : Option Addr) (g : List Rc) (n c : Nat) (w : World) (hn : n = g.length) (hm : n ≤ 9223372036854775807) (hx : Rd w w.heap.size Rc.cells A g) :
    Calls Try.prog 23 #[.slice A n c] w fun e w' => e = .returned (.int .i64 (gCheck g)) ∧ Below w.heap.size w w' := by
  have hb0 : Below w.heap.size w (w.alloc (.cells #[.func (.func 73) #[] #[]] 121)) := below_new _ _
  have hc0 : (w.alloc (.cells #[.func (.func 73) #[] #[]] 121)).cell? ⟨w.heap.size, 0, none⟩ = some (.func (.func 73) #[] #[]) := cell_new _ _ _ _ _ rfl
  have H := hide (containsfunc_Rc 75 #[.pointer (some ⟨w.heap.size, 0, none⟩)] Rc.bad A g n c (w.alloc (.cells #[.func (.func 73) #[] #[]] 121)) hn hm enters_check2 ((hx.below hb0).more (by simp))
    (fun c0 c1 l0 l1 g0 g1 w' _ hb => check2_any c0 c1 l0 l1 g0 g1 w.heap.size w' ((hb.cell (p := ⟨w.heap.size, 0, none⟩) (by simp)).trans hc0) (by have := hb.size; simp at this; omega)))
  clear hx hc0
  have Hn := hide hn; clear hn
  cases h : inB 1 12 n
  all_goals
    have Hi := hide h; clear h
    go_enter Try.func23, Try.ntmps23
    go_wp2_with (first | (go_at_call 52; refine (from_any _ _ _ _).mono ?_; rintro e w' ⟨rfl, rfl⟩; rw [Hi.out]) | (go_at_call 74; refine H.out.mono ?_; rintro e w' ⟨rfl, hb⟩))
    all_goals
      go_ret
      have h1 := Hi.out
      have h2 := Hn.out
      subst h2
      clear H Hi Hn
      exact ⟨by simp [gCheck, gOk, h1, *], by first | exact hb0 | exact hb0.trans (hb.mono (by simp))⟩
end Go.Proofs.Ytkmocikcohhdoaa
namespace Go.Proofs.Ytkmocikcohhdoaa
open Go.RowKit Go.Shelf
attribute [local go_sem] ite_min ite_max

/-- A gauge that is not valid for a gallery of so many reaches. -/
def Ga.bad (n : Int) (x : Ga) : Bool := !(inB 0 n x.shaft) || anyBad 13000000 [x.flow]

set_option maxHeartbeats 400000 in
theorem enter1_any (s lo hi : Int) (p : Nat) (A : Option Addr) (n c : Nat) (w : World) (hm : n ≤ 9223372036854775807) (hp : w.cell? ⟨p, 0, none⟩ = some (.slice A n c)) (hs : p < w.heap.size) :
    Calls Try.prog 80 #[.agg #[.int .i64 s, .int .i64 lo, .int .i64 hi], .pointer (some ⟨p, 0, none⟩)] w fun e w' => e = .returned (.bool (Ga.bad n ⟨s, ⟨lo, hi⟩⟩)) ∧ Below w.heap.size w w' := by
  cases h : inB 0 n s
  · have Hi := hide h; clear h
    go_enter Try.func80, Try.ntmps80
    go_wp2_with (go_at_call 52; refine (from_any _ _ _ _).mono ?_; rintro e w' ⟨rfl, rfl⟩; rw [Hi.out])
    go_ret
    exact ⟨by simp [Ga.bad, Hi.out], below_new _ _⟩
  · have Hi := hide h; clear h
    go_enter Try.func80, Try.ntmps80
    go_wp2_with (first | (go_at_call 52; refine (from_any _ _ _ _).mono ?_; rintro e w' ⟨rfl, rfl⟩; rw [Hi.out]) | fail)
    have hr := Rd.new (cells := Sp.cells) (w.alloc (.cells #[.int .i64 s, .int .i64 lo, .int .i64 hi] 64)) #[.int .i64 lo, .int .i64 hi] 24 [⟨lo, hi⟩] rfl
    refine (proper_any 13000000 _ [⟨lo, hi⟩] 1 1 _ rfl (by omega) (by simpa using hr)).mono ?_
    rintro e w' ⟨rfl, hb⟩
    clear hr
    go_wp2
    go_ret
    exact ⟨by simp [Ga.bad, Hi.out], ((below_new w _).alloc (by simp) _).trans (hb.mono (by simp; omega))⟩

theorem enters_enter1 : ∀ args w, (callFunc 80 args).run Try.prog w = .ok (.enter 80 args) w := enters_of Try.func80 (by kernel_rfl) rfl

def gasBad (g : List Rc) (l : List Ga) : Bool := decide (30 < l.length) || l.any (Ga.bad g.length)
def gEnter (g : List Rc) (s : Sp) (l : List Ga) : Int := if gOk g then (if anyBad 1000000 [s] then 21 else if gasBad g l then 23 else 0) else 20

set_option maxHeartbeats 1000000 in
theorem enter_any (A A' : Option Addr) (g : List Rc) (lo hi : Int) (l : List Ga) (n c n' c' : Nat) (w : World) (hn : n = g.length) (hm : n ≤ 9223372036854775807) (hx : Rd w w.heap.size Rc.cells A g)
    (hn' : n' = l.length) (hm' : n' ≤ 9223372036854775807) (hx' : Rd w w.heap.size Ga.cells A' l) :
    Calls Try.prog 51 #[.slice A n c, .agg #[.int .i64 lo, .int .i64 hi], .slice A' n' c'] w fun e w' => e = .returned (.int .i64 (gEnter g ⟨lo, hi⟩ l)) ∧ Below w.heap.size w w' := by
  obtain ⟨w1, hw1⟩ : ∃ w1, w1 = (w.alloc (.cells #[.slice A n c] 22)).alloc (.cells #[.int .i64 lo, .int .i64 hi] 24) := ⟨_, rfl⟩
  have b1 : Below w.heap.size w w1 := by rw [hw1]; exact (below_new w _).alloc (by simp) _
  have s1 : w1.heap.size = w.heap.size + 2 := by rw [hw1]; simp
  have p1 : w1.cell? ⟨w.heap.size, 0, none⟩ = some (.slice A n c) := by rw [hw1]; exact (World.cell?_alloc_lt _ _ _ (by simp)).trans (cell_new _ _ _ _ _ rfl)
  have q0 : w1.cell? ⟨w.heap.size + 1, 0, none⟩ = some (.int .i64 lo) := by rw [hw1]; have := cell_new (w.alloc (.cells #[.slice A n c] 22)) #[.int .i64 lo, .int .i64 hi] 24 0 _ rfl; rwa [World.size_alloc] at this
  have q1 : w1.cell? ⟨w.heap.size + 1, 1, none⟩ = some (.int .i64 hi) := by rw [hw1]; have := cell_new (w.alloc (.cells #[.slice A n c] 22)) #[.int .i64 lo, .int .i64 hi] 24 1 _ rfl; rwa [World.size_alloc] at this
  have HC := hide (check_any A g n c w1 hn hm ((hx.below b1).more b1.size))
  have Hx' := hide (fun W (hb : Below w.heap.size w W) => (hx'.below hb).more hb.size)
  have Hn := hide hn; have Hn' := hide hn'
  clear hx hx' hn hn'
  have Hw1 := hide hw1.symm; clear hw1
  have hN : gEnter g ⟨lo, hi⟩ l = if gOk g then (if anyBad 1000000 [⟨lo, hi⟩] then 21 else if gasBad g l then 23 else 0) else 20 := rfl
  cases hg : gOk g
  · have HC' := hide (show Calls Try.prog 23 #[.slice A n c] w1 fun e w' => e = .returned (.int .i64 20) ∧ Below w1.heap.size w1 w' from by have := HC.out; simpa [gCheck, hg] using this)
    have HN := hide hN; have Hg := hide hg; clear hN hg HC p1 q0 q1
    go_enter Try.func51, Try.ntmps51
    go_wp2_with fail
    rw [Hw1.out]
    go_wp2_with (go_at_call 23; refine HC'.out.mono ?_; rintro e w2 ⟨rfl, b2⟩)
    go_ret
    exact ⟨by rw [HN.out, Hg.out]; rfl, b1.trans (b2.mono b1.size)⟩
  · have HC' := hide (show Calls Try.prog 23 #[.slice A n c] w1 fun e w' => e = .returned (.int .i64 0) ∧ Below w1.heap.size w1 w' from by have := HC.out; simpa [gCheck, hg] using this)
    have HN := hide hN; have Hg := hide hg; clear hN hg HC
    have Hp := hide p1; have Hq0 := hide q0; have Hq1 := hide q1; clear p1 q0 q1
    go_enter Try.func51, Try.ntmps51
    go_wp2_with fail
    rw [Hw1.out]
    go_wp2_with fail
    refine HC'.out.mono ?_; rintro e w2 ⟨rfl, b2⟩
    have p2 : w2.cell? ⟨w.heap.size, 0, none⟩ = some (.slice A n c) := (b2.cell (p := ⟨w.heap.size, 0, none⟩) (by simp; omega)).trans Hp.out
    have q2 : w2.cell? ⟨w.heap.size + 1, 0, none⟩ = some (.int .i64 lo) := (b2.cell (p := ⟨w.heap.size + 1, 0, none⟩) (by simp; omega)).trans Hq0.out
    have q3 : w2.cell? ⟨w.heap.size + 1, 1, none⟩ = some (.int .i64 hi) := (b2.cell (p := ⟨w.heap.size + 1, 1, none⟩) (by simp; omega)).trans Hq1.out
    have Hr := hide (Rd.new (cells := Sp.cells) w2 #[.int .i64 lo, .int .i64 hi] 24 [⟨lo, hi⟩] rfl)
    have hPr := fun h1 h2 h3 => proper_any 1000000 (some ⟨w2.heap.size, 0, none⟩) [⟨lo, hi⟩] 1 1 (w2.alloc (.cells #[.int .i64 lo, .int .i64 hi] 24)) h1 h2 h3
    have bw2 : Below w.heap.size w w2 := b1.trans (b2.mono b1.size)
    cases hs : anyBad 1000000 [⟨lo, hi⟩]
    · rw [hs] at hPr
      have HPr := hide hPr; have Hs := hide hs; clear hPr hs
      go_wp2_with fail
      refine (HPr.out rfl (by omega) (by simpa using Hr.out)).mono ?_
      rintro e w3 ⟨rfl, b3⟩
      have b23 : Below w2.heap.size w2 w3 := (below_new w2 _).trans (b3.mono (by simp))
      have bw3 : Below w.heap.size w w3 := bw2.trans (b23.mono bw2.size)
      have p3 : w3.cell? ⟨w.heap.size, 0, none⟩ = some (.slice A n c) := (b23.cell (p := ⟨w.heap.size, 0, none⟩) (by have := b2.size; simp; omega)).trans p2
      have s3 : w.heap.size < w3.heap.size := by have := b2.size; have := b23.size; omega
      have HF := hide (containsfunc_Ga 80 #[.pointer (some ⟨w.heap.size, 0, none⟩)] (Ga.bad n) A' l n' c' w3 Hn'.out hm' enters_enter1 (Hx'.out w3 bw3)
        (fun s lo hi W _ hb => enter1_any s lo hi w.heap.size A n c W hm ((hb.cell (p := ⟨w.heap.size, 0, none⟩) s3).trans p3) (by have := hb.size; omega)))
      clear p2 q2 q3 p3 Hr b2 b3 HC' Hp Hq0 Hq1
      by_cases h30 : n' ≤ 30
      · go_wp2_with (go_at_call 81; refine HF.out.mono ?_; rintro e w4 ⟨rfl, b4⟩)
        all_goals
          go_ret
          have h1 := HN.out
          rw [Hg.out, Hs.out] at h1
          have e1 := Hn.out
          have e2 := Hn'.out
          subst e1 e2
          clear HN Hg Hs HF Hx' Hn Hn' Hw1 HPr
          refine ⟨?_, bw3.trans (b4.mono bw3.size)⟩
          have h2 : gasBad g l = l.any (Ga.bad g.length) := by simp [gasBad]; omega
          rw [h1, h2]
          clear h1 h2
          cases hq : l.any (Ga.bad g.length) <;> simp_all <;> omega
      · go_wp2
        all_goals
          go_ret
          have h1 := HN.out
          rw [Hg.out, Hs.out] at h1
          have e2 := Hn'.out
          subst e2
          refine ⟨?_, bw3⟩
          rw [h1]
          have : 30 < l.length := by omega
          simp [gasBad, this]
    · rw [hs] at hPr
      have HPr := hide hPr; have Hs := hide hs; clear hPr hs
      go_wp2_with fail
      refine (HPr.out rfl (by omega) (by simpa using Hr.out)).mono ?_
      rintro e w3 ⟨rfl, b3⟩
      have bw3 : Below w.heap.size w w3 := bw2.trans (((below_new w2 _).trans (b3.mono (by simp))).mono bw2.size)
      clear p2 q2 q3 Hr b2 b3 HC' Hp Hq0 Hq1
      go_wp2
      go_ret
      exact ⟨by rw [HN.out, Hg.out, Hs.out]; rfl, bw3⟩
end Go.Proofs.Ytkmocikcohhdoaa
