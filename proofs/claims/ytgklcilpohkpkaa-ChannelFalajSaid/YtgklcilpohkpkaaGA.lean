/- Gallery and its reference: the small functions, by contracts. Gallery and its reference: small functions without loops, by contracts. Gallery: what is valid (proper, Check, enter), by contracts. Gallery: enter, least, most, by contracts. -/
import Derived.Test.YtgklcilpohkpkaaProg
import Derived.Test.YtgklcilpohkpkaaBase
import Derived.Test.YtgklcilpohkpkaaC1
set_option linter.unusedVariables false
set_option linter.unusedSimpArgs false
namespace Go.Proofs.Ytgklcilpohkpkaa
open Go.RowKit Go.Shelf


/-- slices.IndexFunc at aflaj/api.Span: not below 0 just where one of them is so. -/
theorem indexfunc_Sp (f : FuncId) (cp : Array Value) (p : Sp → Bool) (A : Option Addr) (xs : List Sp) (n c : Nat) (w : World) (hn : n = xs.length) (hm : n ≤ 9223372036854775807)
    (eg : ∀ args w, (callFunc f args).run Try.prog w = .ok (.enter f args) w) (hx : Rd w w.heap.size Sp.cells A xs)
    (hf : ∀ lo hi w', (⟨lo, hi⟩ : Sp) ∈ xs → Below w.heap.size w w' → Calls Try.prog f (#[.agg #[.int .i64 lo, .int .i64 hi]] ++ cp) w' fun e w'' => e = .returned (.bool (p ⟨lo, hi⟩)) ∧ Below w'.heap.size w' w'') :
    Calls Try.prog 133 #[.slice A n c, .func (.func f) #[] cp] w fun e w' => ∃ r : Int, e = .returned (.int .i64 r) ∧ decide (0 ≤ r) = xs.any p ∧ Below w.heap.size w w' := by
  have Hn := hide hn; clear hn
  have Hx := hide hx; clear hx
  have Hf := hide hf; clear hf
  go_enter Try.func133, Try.ntmps133
  go_wp2_with fail
  go_loopw [4, 8] (fun v i wr => ∃ k : Nat, k ≤ n ∧ i = .int .i64 k ∧ Below w.heap.size w wr ∧ Hid (∀ y ∈ xs.take k, p y = false)) (fun _ i _ => n - (intOf i).toNat)
  case atStart => exact ⟨0, by omega, rfl, Below.refl _ _, hide pre_nil⟩
  case round =>
    obtain ⟨k, hk, rfl, hb, hpre⟩ := hrel
    by_cases hlt : k < n
    · obtain ⟨b, off, lo, hi, rfl, hB, hxk, hc0, hc1⟩ := (Hx.out.below hb).sp (i := k) (by have := Hn.out; omega)
      have H := hide (Hf.out lo hi wr (List.mem_of_getElem? hxk) hb)
      have Hxk := hide hxk; clear hxk
      go_wp2_with (go_at_fn f; refine H.out.mono ?_; rintro e w' ⟨rfl, hb'⟩)
      · go_ret
        have hp : p ⟨lo, hi⟩ = true := by assumption
        exact ⟨k, rfl, by rw [any_hit Hxk.out hp]; simp, hb.trans (hb'.mono hb.size)⟩
      · have hp : p ⟨lo, hi⟩ = false := by assumption
        exact ⟨⟨k + 1, by omega, by go_num, hb.trans (hb'.mono hb.size), hide (pre_snoc Hxk.out hp hpre.out)⟩, by simp [intOf]; omega⟩
    · go_wp2
      go_ret
      exact ⟨-1, rfl, by rw [any_miss (k := k) (by have := Hn.out; omega) hpre.out]; simp, hb⟩
/-- slices.ContainsFunc at aflaj/api.Span. -/
theorem containsfunc_Sp (f : FuncId) (cp : Array Value) (p : Sp → Bool) (A : Option Addr) (xs : List Sp) (n c : Nat) (w : World) (hn : n = xs.length) (hm : n ≤ 9223372036854775807)
    (eg : ∀ args w, (callFunc f args).run Try.prog w = .ok (.enter f args) w) (hx : Rd w w.heap.size Sp.cells A xs)
    (hf : ∀ lo hi w', (⟨lo, hi⟩ : Sp) ∈ xs → Below w.heap.size w w' → Calls Try.prog f (#[.agg #[.int .i64 lo, .int .i64 hi]] ++ cp) w' fun e w'' => e = .returned (.bool (p ⟨lo, hi⟩)) ∧ Below w'.heap.size w' w'') :
    Calls Try.prog 125 #[.slice A n c, .func (.func f) #[] cp] w fun e w' => e = .returned (.bool (xs.any p)) ∧ Below w.heap.size w w' := by
  have H := hide (indexfunc_Sp f cp p A xs n c w hn hm eg hx hf); clear hx hf hn eg
  go_enter Try.func125, Try.ntmps125
  go_wp2_with (go_at_call 133; refine H.out.mono ?_; rintro e w' ⟨r, rfl, hr, hb⟩; have Hr := hide hr; clear hr)
  go_ret
  exact ⟨by rw [← Hr.out]; rfl, hb⟩


/-- slices.IndexFunc at aflaj/api.Reach: not below 0 just where one of them is so. -/
theorem indexfunc_Rc (f : FuncId) (cp : Array Value) (p : Rc → Bool) (A : Option Addr) (xs : List Rc) (n c : Nat) (w : World) (hn : n = xs.length) (hm : n ≤ 9223372036854775807)
    (eg : ∀ args w, (callFunc f args).run Try.prog w = .ok (.enter f args) w) (hx : Rd w w.heap.size Rc.cells A xs)
    (hf : ∀ c0 c1 l0 l1 g0 g1 w', (⟨⟨c0, c1⟩, ⟨l0, l1⟩, ⟨g0, g1⟩⟩ : Rc) ∈ xs → Below w.heap.size w w' → Calls Try.prog f (#[.agg #[.int .i64 c0, .int .i64 c1, .int .i64 l0, .int .i64 l1, .int .i64 g0, .int .i64 g1]] ++ cp) w' fun e w'' => e = .returned (.bool (p ⟨⟨c0, c1⟩, ⟨l0, l1⟩, ⟨g0, g1⟩⟩)) ∧ Below w'.heap.size w' w'') :
    Calls Try.prog 132 #[.slice A n c, .func (.func f) #[] cp] w fun e w' => ∃ r : Int, e = .returned (.int .i64 r) ∧ decide (0 ≤ r) = xs.any p ∧ Below w.heap.size w w' := by
  have Hn := hide hn; clear hn
  have Hx := hide hx; clear hx
  have Hf := hide hf; clear hf
  go_enter Try.func132, Try.ntmps132
  go_wp2_with fail
  go_loopw [4, 8] (fun v i wr => ∃ k : Nat, k ≤ n ∧ i = .int .i64 k ∧ Below w.heap.size w wr ∧ Hid (∀ y ∈ xs.take k, p y = false)) (fun _ i _ => n - (intOf i).toNat)
  case atStart => exact ⟨0, by omega, rfl, Below.refl _ _, hide pre_nil⟩
  case round =>
    obtain ⟨k, hk, rfl, hb, hpre⟩ := hrel
    by_cases hlt : k < n
    · obtain ⟨b, off, c0, c1, l0, l1, g0, g1, rfl, hB, hxk, hc0, hc1, hc2, hc3, hc4, hc5⟩ := (Hx.out.below hb).rc (i := k) (by have := Hn.out; omega)
      have H := hide (Hf.out c0 c1 l0 l1 g0 g1 wr (List.mem_of_getElem? hxk) hb)
      have Hxk := hide hxk; clear hxk
      go_wp2_with (go_at_fn f; refine H.out.mono ?_; rintro e w' ⟨rfl, hb'⟩)
      · go_ret
        have hp : p ⟨⟨c0, c1⟩, ⟨l0, l1⟩, ⟨g0, g1⟩⟩ = true := by assumption
        exact ⟨k, rfl, by rw [any_hit Hxk.out hp]; simp, hb.trans (hb'.mono hb.size)⟩
      · have hp : p ⟨⟨c0, c1⟩, ⟨l0, l1⟩, ⟨g0, g1⟩⟩ = false := by assumption
        exact ⟨⟨k + 1, by omega, by go_num, hb.trans (hb'.mono hb.size), hide (pre_snoc Hxk.out hp hpre.out)⟩, by simp [intOf]; omega⟩
    · go_wp2
      go_ret
      exact ⟨-1, rfl, by rw [any_miss (k := k) (by have := Hn.out; omega) hpre.out]; simp, hb⟩
/-- slices.ContainsFunc at aflaj/api.Reach. -/
theorem containsfunc_Rc (f : FuncId) (cp : Array Value) (p : Rc → Bool) (A : Option Addr) (xs : List Rc) (n c : Nat) (w : World) (hn : n = xs.length) (hm : n ≤ 9223372036854775807)
    (eg : ∀ args w, (callFunc f args).run Try.prog w = .ok (.enter f args) w) (hx : Rd w w.heap.size Rc.cells A xs)
    (hf : ∀ c0 c1 l0 l1 g0 g1 w', (⟨⟨c0, c1⟩, ⟨l0, l1⟩, ⟨g0, g1⟩⟩ : Rc) ∈ xs → Below w.heap.size w w' → Calls Try.prog f (#[.agg #[.int .i64 c0, .int .i64 c1, .int .i64 l0, .int .i64 l1, .int .i64 g0, .int .i64 g1]] ++ cp) w' fun e w'' => e = .returned (.bool (p ⟨⟨c0, c1⟩, ⟨l0, l1⟩, ⟨g0, g1⟩⟩)) ∧ Below w'.heap.size w' w'') :
    Calls Try.prog 123 #[.slice A n c, .func (.func f) #[] cp] w fun e w' => e = .returned (.bool (xs.any p)) ∧ Below w.heap.size w w' := by
  have H := hide (indexfunc_Rc f cp p A xs n c w hn hm eg hx hf); clear hx hf hn eg
  go_enter Try.func123, Try.ntmps123
  go_wp2_with (go_at_call 132; refine H.out.mono ?_; rintro e w' ⟨r, rfl, hr, hb⟩; have Hr := hide hr; clear hr)
  go_ret
  exact ⟨by rw [← Hr.out]; rfl, hb⟩


/-- slices.IndexFunc at aflaj/api.Gauge: not below 0 just where one of them is so. -/
theorem indexfunc_Ga (f : FuncId) (cp : Array Value) (p : Ga → Bool) (A : Option Addr) (xs : List Ga) (n c : Nat) (w : World) (hn : n = xs.length) (hm : n ≤ 9223372036854775807)
    (eg : ∀ args w, (callFunc f args).run Try.prog w = .ok (.enter f args) w) (hx : Rd w w.heap.size Ga.cells A xs)
    (hf : ∀ s lo hi w', (⟨s, ⟨lo, hi⟩⟩ : Ga) ∈ xs → Below w.heap.size w w' → Calls Try.prog f (#[.agg #[.int .i64 s, .int .i64 lo, .int .i64 hi]] ++ cp) w' fun e w'' => e = .returned (.bool (p ⟨s, ⟨lo, hi⟩⟩)) ∧ Below w'.heap.size w' w'') :
    Calls Try.prog 127 #[.slice A n c, .func (.func f) #[] cp] w fun e w' => ∃ r : Int, e = .returned (.int .i64 r) ∧ decide (0 ≤ r) = xs.any p ∧ Below w.heap.size w w' := by
  have Hn := hide hn; clear hn
  have Hx := hide hx; clear hx
  have Hf := hide hf; clear hf
  go_enter Try.func127, Try.ntmps127
  go_wp2_with fail
  go_loopw [4, 8] (fun v i wr => ∃ k : Nat, k ≤ n ∧ i = .int .i64 k ∧ Below w.heap.size w wr ∧ Hid (∀ y ∈ xs.take k, p y = false)) (fun _ i _ => n - (intOf i).toNat)
  case atStart => exact ⟨0, by omega, rfl, Below.refl _ _, hide pre_nil⟩
  case round =>
    obtain ⟨k, hk, rfl, hb, hpre⟩ := hrel
    by_cases hlt : k < n
    · obtain ⟨b, off, s, lo, hi, rfl, hB, hxk, hc0, hc1, hc2⟩ := (Hx.out.below hb).ga (i := k) (by have := Hn.out; omega)
      have H := hide (Hf.out s lo hi wr (List.mem_of_getElem? hxk) hb)
      have Hxk := hide hxk; clear hxk
      go_wp2_with (go_at_fn f; refine H.out.mono ?_; rintro e w' ⟨rfl, hb'⟩)
      · go_ret
        have hp : p ⟨s, ⟨lo, hi⟩⟩ = true := by assumption
        exact ⟨k, rfl, by rw [any_hit Hxk.out hp]; simp, hb.trans (hb'.mono hb.size)⟩
      · have hp : p ⟨s, ⟨lo, hi⟩⟩ = false := by assumption
        exact ⟨⟨k + 1, by omega, by go_num, hb.trans (hb'.mono hb.size), hide (pre_snoc Hxk.out hp hpre.out)⟩, by simp [intOf]; omega⟩
    · go_wp2
      go_ret
      exact ⟨-1, rfl, by rw [any_miss (k := k) (by have := Hn.out; omega) hpre.out]; simp, hb⟩
/-- slices.ContainsFunc at aflaj/api.Gauge. -/
theorem containsfunc_Ga (f : FuncId) (cp : Array Value) (p : Ga → Bool) (A : Option Addr) (xs : List Ga) (n c : Nat) (w : World) (hn : n = xs.length) (hm : n ≤ 9223372036854775807)
    (eg : ∀ args w, (callFunc f args).run Try.prog w = .ok (.enter f args) w) (hx : Rd w w.heap.size Ga.cells A xs)
    (hf : ∀ s lo hi w', (⟨s, ⟨lo, hi⟩⟩ : Ga) ∈ xs → Below w.heap.size w w' → Calls Try.prog f (#[.agg #[.int .i64 s, .int .i64 lo, .int .i64 hi]] ++ cp) w' fun e w'' => e = .returned (.bool (p ⟨s, ⟨lo, hi⟩⟩)) ∧ Below w'.heap.size w' w'') :
    Calls Try.prog 107 #[.slice A n c, .func (.func f) #[] cp] w fun e w' => e = .returned (.bool (xs.any p)) ∧ Below w.heap.size w w' := by
  have H := hide (indexfunc_Ga f cp p A xs n c w hn hm eg hx hf); clear hx hf hn eg
  go_enter Try.func107, Try.ntmps107
  go_wp2_with (go_at_call 127; refine H.out.mono ?_; rintro e w' ⟨r, rfl, hr, hb⟩; have Hr := hide hr; clear hr)
  go_ret
  exact ⟨by rw [← Hr.out]; rfl, hb⟩


end Go.Proofs.Ytgklcilpohkpkaa
namespace Go.Proofs.Ytgklcilpohkpkaa
open Go.RowKit Go.Shelf

/-- A span that is not in order from 0 to a number. -/
def Sp.bad (hi : Int) (s : Sp) : Bool := decide (s.lo < 0) || decide (s.hi < s.lo) || decide (hi < s.hi)
set_option maxHeartbeats 400000 in
theorem from_any (lo hi n : Int) (w : World) :
    Calls Try.prog 106 #[.int .i64 lo, .int .i64 hi, .int .i64 n] w fun e w' => e = .returned (.bool (inB lo hi n)) ∧ w = w' := by
  by_cases h : lo ≤ n
  all_goals
    go_enter Try.func106, Try.ntmps106
    go_wp2
    go_ret
    exact ⟨by first | (simp [inB, h]; done) | (simp [inB, h]; omega), rfl⟩

set_option maxHeartbeats 400000 in
theorem within_any (lo hi n : Int) (w : World) :
    Calls Try.prog 83 #[.int .i64 n, .int .i64 lo, .int .i64 hi] w fun e w' => e = .returned (.bool (inB lo hi n)) ∧ w = w' := by
  by_cases h : lo ≤ n
  all_goals
    go_enter Try.func83, Try.ntmps83
    go_wp2
    go_ret
    exact ⟨by first | (simp [inB, h]; done) | (simp [inB, h]; omega), rfl⟩

set_option maxHeartbeats 400000 in
theorem proper1_any (lo hi m : Int) (p : Nat) (w : World) (hp : w.cell? ⟨p, 0, none⟩ = some (.int .i64 m)) (hs : p < w.heap.size) :
    Calls Try.prog 126 #[.agg #[.int .i64 lo, .int .i64 hi], .pointer (some ⟨p, 0, none⟩)] w fun e w' => e = .returned (.bool (Sp.bad m ⟨lo, hi⟩)) ∧ Below w.heap.size w w' := by
  by_cases h : lo < 0
  · go_enter Try.func126, Try.ntmps126
    go_wp2
    go_ret
    exact ⟨by simp [Sp.bad, h], (Below.refl _ _).alloc (Nat.le_refl _) _⟩
  · by_cases h2 : hi < lo
    all_goals
      go_enter Try.func126, Try.ntmps126
      go_wp2
      go_ret
      exact ⟨by first | (simp [Sp.bad, h2]; done) | (simp [Sp.bad, h2]; omega), (Below.refl _ _).alloc (Nat.le_refl _) _⟩

end Go.Proofs.Ytgklcilpohkpkaa
namespace Go.Proofs.Ytgklcilpohkpkaa
open Go.RowKit Go.Shelf

def anyBad (m : Int) (xs : List Sp) : Bool := xs.any (Sp.bad m)

theorem enters_proper1 : ∀ args w, (callFunc 126 args).run Try.prog w = .ok (.enter 126 args) w := enters_of Try.func126 (by kernel_rfl) rfl

set_option maxHeartbeats 400000 in
theorem proper_any (m : Int) (A : Option Addr) (xs : List Sp) (n c : Nat) (w : World) (hn : n = xs.length) (hm : n ≤ 9223372036854775807) (hx : Rd w w.heap.size Sp.cells A xs) :
    Calls Try.prog 104 #[.int .i64 m, .slice A n c] w fun e w' => e = .returned (.bool (!(anyBad m xs))) ∧ Below w.heap.size w w' := by
  have hb0 : Below w.heap.size w (w.alloc (.cells #[.int .i64 m] 3)) := (Below.refl _ _).alloc (Nat.le_refl _) _
  have hc0 : (w.alloc (.cells #[.int .i64 m] 3)).cell? ⟨w.heap.size, 0, none⟩ = some (.int .i64 m) := cell_new _ _ _ _ _ rfl
  have H := hide (containsfunc_Sp 126 #[.pointer (some ⟨w.heap.size, 0, none⟩)] (Sp.bad m) A xs n c (w.alloc (.cells #[.int .i64 m] 3)) hn hm enters_proper1 ((hx.below hb0).more (by simp))
    (fun lo hi w' _ hb => proper1_any lo hi m w.heap.size w' ((hb.cell (p := ⟨w.heap.size, 0, none⟩) (by simp)).trans hc0) (by have := hb.size; simp at this; omega)))
  clear hx hn hc0
  go_enter Try.func104, Try.ntmps104
  go_wp2_with (go_at_call 125; refine H.out.mono ?_; rintro e w' ⟨rfl, hb⟩)
  go_ret
  exact ⟨rfl, hb0.trans (hb.mono (by simp))⟩

/-- A reach that is in order. -/
def Rc.bad (r : Rc) : Bool := anyBad 1000000 [r.cap, r.leak, r.gain]

set_option maxHeartbeats 400000 in
theorem check1_any (c0 c1 l0 l1 g0 g1 : Int) (w : World) :
    Calls Try.prog 122 #[.agg #[.int .i64 c0, .int .i64 c1, .int .i64 l0, .int .i64 l1, .int .i64 g0, .int .i64 g1]] w fun e w' => e = .returned (.bool (!(Rc.bad ⟨⟨c0, c1⟩, ⟨l0, l1⟩, ⟨g0, g1⟩⟩))) ∧ Below w.heap.size w w' := by
  go_enter Try.func122, Try.ntmps122
  go_wp2_with fail
  have hr := Rd.new (cells := Sp.cells) (w.alloc (.cells #[.int .i64 c0, .int .i64 c1, .int .i64 l0, .int .i64 l1, .int .i64 g0, .int .i64 g1] 103)) #[.int .i64 c0, .int .i64 c1, .int .i64 l0, .int .i64 l1, .int .i64 g0, .int .i64 g1] 51 [⟨c0, c1⟩, ⟨l0, l1⟩, ⟨g0, g1⟩] rfl
  refine (proper_any 1000000 _ [⟨c0, c1⟩, ⟨l0, l1⟩, ⟨g0, g1⟩] 3 3 _ rfl (by omega) (by simpa using hr)).mono ?_
  rintro e w' ⟨rfl, hb⟩
  clear hr
  go_wp2
  go_ret
  exact ⟨rfl, ((below_new w _).alloc (by simp) _).trans (hb.mono (by simp; omega))⟩

theorem enters_check1 : ∀ args w, (callFunc 122 args).run Try.prog w = .ok (.enter 122 args) w := enters_of Try.func122 (by kernel_rfl) rfl

set_option maxHeartbeats 400000 in
theorem check2_any (c0 c1 l0 l1 g0 g1 : Int) (p : Nat) (w : World) (hp : w.cell? ⟨p, 0, none⟩ = some (.func (.func 122) #[] #[])) (hs : p < w.heap.size) :
    Calls Try.prog 124 #[.agg #[.int .i64 c0, .int .i64 c1, .int .i64 l0, .int .i64 l1, .int .i64 g0, .int .i64 g1], .pointer (some ⟨p, 0, none⟩)] w fun e w' => e = .returned (.bool (Rc.bad ⟨⟨c0, c1⟩, ⟨l0, l1⟩, ⟨g0, g1⟩⟩)) ∧ Below w.heap.size w w' := by
  go_enter Try.func124, Try.ntmps124
  go_wp2_with (go_at_call 122; refine (check1_any _ _ _ _ _ _ _).mono ?_; rintro e w' ⟨rfl, hb⟩)
  go_ret
  exact ⟨by simp, (below_new w _).trans (hb.mono (by simp))⟩

theorem enters_check2 : ∀ args w, (callFunc 124 args).run Try.prog w = .ok (.enter 124 args) w := enters_of Try.func124 (by kernel_rfl) rfl

/-- A gallery that is valid. -/
def gOk (g : List Rc) : Bool := inB 1 12 g.length && !(g.any Rc.bad)
def gCheck (g : List Rc) : Int := if gOk g then 0 else 20

set_option maxHeartbeats 400000 in
theorem check_any (A : Option Addr) (g : List Rc) (n c : Nat) (w : World) (hn : n = g.length) (hm : n ≤ 9223372036854775807) (hx : Rd w w.heap.size Rc.cells A g) :
    Calls Try.prog 103 #[.slice A n c] w fun e w' => e = .returned (.int .i64 (gCheck g)) ∧ Below w.heap.size w w' := by
  have hb0 : Below w.heap.size w (w.alloc (.cells #[.func (.func 122) #[] #[]] 182)) := below_new _ _
  have hc0 : (w.alloc (.cells #[.func (.func 122) #[] #[]] 182)).cell? ⟨w.heap.size, 0, none⟩ = some (.func (.func 122) #[] #[]) := cell_new _ _ _ _ _ rfl
  have H := hide (containsfunc_Rc 124 #[.pointer (some ⟨w.heap.size, 0, none⟩)] Rc.bad A g n c (w.alloc (.cells #[.func (.func 122) #[] #[]] 182)) hn hm enters_check2 ((hx.below hb0).more (by simp))
    (fun c0 c1 l0 l1 g0 g1 w' _ hb => check2_any c0 c1 l0 l1 g0 g1 w.heap.size w' ((hb.cell (p := ⟨w.heap.size, 0, none⟩) (by simp)).trans hc0) (by have := hb.size; simp at this; omega)))
  clear hx hc0
  have Hn := hide hn; clear hn
  cases h : inB 1 12 n
  all_goals
    have Hi := hide h; clear h
    go_enter Try.func103, Try.ntmps103
    go_wp2_with (first | (go_at_call 106; refine (from_any _ _ _ _).mono ?_; rintro e w' ⟨rfl, rfl⟩; rw [Hi.out]) | (go_at_call 123; refine H.out.mono ?_; rintro e w' ⟨rfl, hb⟩))
    all_goals
      go_ret
      have h1 := Hi.out
      have h2 := Hn.out
      subst h2
      clear H Hi Hn
      exact ⟨by simp [gCheck, gOk, h1, *], by first | exact hb0 | exact hb0.trans (hb.mono (by simp))⟩
end Go.Proofs.Ytgklcilpohkpkaa
namespace Go.Proofs.Ytgklcilpohkpkaa
open Go.RowKit Go.Shelf
attribute [local go_sem] ite_min ite_max

/-- A gauge that is not valid for a gallery of so many reaches. -/
def Ga.bad (n : Int) (x : Ga) : Bool := !(inB 0 n x.shaft) || anyBad 13000000 [x.flow]

set_option maxHeartbeats 400000 in
theorem enter1_any (s lo hi : Int) (p : Nat) (A : Option Addr) (n c : Nat) (w : World) (hm : n ≤ 9223372036854775807) (hp : w.cell? ⟨p, 0, none⟩ = some (.slice A n c)) (hs : p < w.heap.size) :
    Calls Try.prog 105 #[.agg #[.int .i64 s, .int .i64 lo, .int .i64 hi], .pointer (some ⟨p, 0, none⟩)] w fun e w' => e = .returned (.bool (Ga.bad n ⟨s, ⟨lo, hi⟩⟩)) ∧ Below w.heap.size w w' := by
  cases h : inB 0 n s
  · have Hi := hide h; clear h
    go_enter Try.func105, Try.ntmps105
    go_wp2_with (go_at_call 106; refine (from_any _ _ _ _).mono ?_; rintro e w' ⟨rfl, rfl⟩; rw [Hi.out])
    go_ret
    exact ⟨by simp [Ga.bad, Hi.out], below_new _ _⟩
  · have Hi := hide h; clear h
    go_enter Try.func105, Try.ntmps105
    go_wp2_with (first | (go_at_call 106; refine (from_any _ _ _ _).mono ?_; rintro e w' ⟨rfl, rfl⟩; rw [Hi.out]) | fail)
    have hr := Rd.new (cells := Sp.cells) (w.alloc (.cells #[.int .i64 s, .int .i64 lo, .int .i64 hi] 163)) #[.int .i64 lo, .int .i64 hi] 51 [⟨lo, hi⟩] rfl
    refine (proper_any 13000000 _ [⟨lo, hi⟩] 1 1 _ rfl (by omega) (by simpa using hr)).mono ?_
    rintro e w' ⟨rfl, hb⟩
    clear hr
    go_wp2
    go_ret
    exact ⟨by simp [Ga.bad, Hi.out], ((below_new w _).alloc (by simp) _).trans (hb.mono (by simp; omega))⟩

theorem enters_enter1 : ∀ args w, (callFunc 105 args).run Try.prog w = .ok (.enter 105 args) w := enters_of Try.func105 (by kernel_rfl) rfl

def gasBad (g : List Rc) (l : List Ga) : Bool := decide (30 < l.length) || l.any (Ga.bad g.length)
def gEnter (g : List Rc) (s : Sp) (l : List Ga) : Int := if gOk g then (if anyBad 1000000 [s] then 21 else if gasBad g l then 23 else 0) else 20

set_option maxHeartbeats 1000000 in
theorem genter_any (A A' : Option Addr) (g : List Rc) (lo hi : Int) (l : List Ga) (n c n' c' : Nat) (w : World) (hn : n = g.length) (hm : n ≤ 9223372036854775807) (hx : Rd w w.heap.size Rc.cells A g)
    (hn' : n' = l.length) (hm' : n' ≤ 9223372036854775807) (hx' : Rd w w.heap.size Ga.cells A' l) :
    Calls Try.prog 84 #[.slice A n c, .agg #[.int .i64 lo, .int .i64 hi], .slice A' n' c'] w fun e w' => e = .returned (.int .i64 (gEnter g ⟨lo, hi⟩ l)) ∧ Below w.heap.size w w' := by
  obtain ⟨w1, hw1⟩ : ∃ w1, w1 = (w.alloc (.cells #[.slice A n c] 99)).alloc (.cells #[.int .i64 lo, .int .i64 hi] 51) := ⟨_, rfl⟩
  have b1 : Below w.heap.size w w1 := by rw [hw1]; exact (below_new w _).alloc (by simp) _
  have s1 : w1.heap.size = w.heap.size + 2 := by rw [hw1]; simp
  have p1 : w1.cell? ⟨w.heap.size, 0, none⟩ = some (.slice A n c) := by rw [hw1]; exact (World.cell?_alloc_lt _ _ _ (by simp)).trans (cell_new _ _ _ _ _ rfl)
  have q0 : w1.cell? ⟨w.heap.size + 1, 0, none⟩ = some (.int .i64 lo) := by rw [hw1]; have := cell_new (w.alloc (.cells #[.slice A n c] 99)) #[.int .i64 lo, .int .i64 hi] 51 0 _ rfl; rwa [World.size_alloc] at this
  have q1 : w1.cell? ⟨w.heap.size + 1, 1, none⟩ = some (.int .i64 hi) := by rw [hw1]; have := cell_new (w.alloc (.cells #[.slice A n c] 99)) #[.int .i64 lo, .int .i64 hi] 51 1 _ rfl; rwa [World.size_alloc] at this
  have HC := hide (check_any A g n c w1 hn hm ((hx.below b1).more b1.size))
  have Hx' := hide (fun W (hb : Below w.heap.size w W) => (hx'.below hb).more hb.size)
  have Hn := hide hn; have Hn' := hide hn'
  clear hx hx' hn hn'
  have Hw1 := hide hw1.symm; clear hw1
  have hN : gEnter g ⟨lo, hi⟩ l = if gOk g then (if anyBad 1000000 [⟨lo, hi⟩] then 21 else if gasBad g l then 23 else 0) else 20 := rfl
  cases hg : gOk g
  · have HC' := hide (show Calls Try.prog 103 #[.slice A n c] w1 fun e w' => e = .returned (.int .i64 20) ∧ Below w1.heap.size w1 w' from by have := HC.out; simpa [gCheck, hg] using this)
    have HN := hide hN; have Hg := hide hg; clear hN hg HC p1 q0 q1
    go_enter Try.func84, Try.ntmps84
    go_wp2_with fail
    rw [Hw1.out]
    go_wp2_with (go_at_call 103; refine HC'.out.mono ?_; rintro e w2 ⟨rfl, b2⟩)
    go_ret
    exact ⟨by rw [HN.out, Hg.out]; rfl, b1.trans (b2.mono b1.size)⟩
  · have HC' := hide (show Calls Try.prog 103 #[.slice A n c] w1 fun e w' => e = .returned (.int .i64 0) ∧ Below w1.heap.size w1 w' from by have := HC.out; simpa [gCheck, hg] using this)
    have HN := hide hN; have Hg := hide hg; clear hN hg HC
    have Hp := hide p1; have Hq0 := hide q0; have Hq1 := hide q1; clear p1 q0 q1
    go_enter Try.func84, Try.ntmps84
    go_wp2_with fail
    rw [Hw1.out]
    go_wp2_with fail
    refine HC'.out.mono ?_; rintro e w2 ⟨rfl, b2⟩
    have p2 : w2.cell? ⟨w.heap.size, 0, none⟩ = some (.slice A n c) := (b2.cell (p := ⟨w.heap.size, 0, none⟩) (by simp; omega)).trans Hp.out
    have q2 : w2.cell? ⟨w.heap.size + 1, 0, none⟩ = some (.int .i64 lo) := (b2.cell (p := ⟨w.heap.size + 1, 0, none⟩) (by simp; omega)).trans Hq0.out
    have q3 : w2.cell? ⟨w.heap.size + 1, 1, none⟩ = some (.int .i64 hi) := (b2.cell (p := ⟨w.heap.size + 1, 1, none⟩) (by simp; omega)).trans Hq1.out
    have Hr := hide (Rd.new (cells := Sp.cells) w2 #[.int .i64 lo, .int .i64 hi] 51 [⟨lo, hi⟩] rfl)
    have hPr := fun h1 h2 h3 => proper_any 1000000 (some ⟨w2.heap.size, 0, none⟩) [⟨lo, hi⟩] 1 1 (w2.alloc (.cells #[.int .i64 lo, .int .i64 hi] 51)) h1 h2 h3
    have bw2 : Below w.heap.size w w2 := b1.trans (b2.mono b1.size)
    cases hs : anyBad 1000000 [⟨lo, hi⟩]
    · rw [hs] at hPr
      have HPr := hide hPr; have Hs := hide hs; clear hPr hs
      go_wp2_with fail
      refine (HPr.out rfl (by omega) (by simpa using Hr.out)).mono ?_
      rintro e w3 ⟨rfl, b3⟩
      have b23 : Below w2.heap.size w2 w3 := (below_new w2 _).trans (b3.mono (by simp))
      have bw3 : Below w.heap.size w w3 := bw2.trans (b23.mono bw2.size)
      have p3 : w3.cell? ⟨w.heap.size, 0, none⟩ = some (.slice A n c) := (b23.cell (p := ⟨w.heap.size, 0, none⟩) (by have := b2.size; simp; omega)).trans p2
      have s3 : w.heap.size < w3.heap.size := by have := b2.size; have := b23.size; omega
      have HF := hide (containsfunc_Ga 105 #[.pointer (some ⟨w.heap.size, 0, none⟩)] (Ga.bad n) A' l n' c' w3 Hn'.out hm' enters_enter1 (Hx'.out w3 bw3)
        (fun s lo hi W _ hb => enter1_any s lo hi w.heap.size A n c W hm ((hb.cell (p := ⟨w.heap.size, 0, none⟩) s3).trans p3) (by have := hb.size; omega)))
      clear p2 q2 q3 p3 Hr b2 b3 HC' Hp Hq0 Hq1
      by_cases h30 : n' ≤ 30
      · go_wp2_with (go_at_call 107; refine HF.out.mono ?_; rintro e w4 ⟨rfl, b4⟩)
        all_goals
          go_ret
          have h1 := HN.out
          rw [Hg.out, Hs.out] at h1
          have e1 := Hn.out
          have e2 := Hn'.out
          subst e1 e2
          clear HN Hg Hs HF Hx' Hn Hn' Hw1 HPr
          refine ⟨?_, bw3.trans (b4.mono bw3.size)⟩
          have h2 : gasBad g l = l.any (Ga.bad g.length) := by simp [gasBad]; omega
          rw [h1, h2]
          clear h1 h2
          cases hq : l.any (Ga.bad g.length) <;> simp_all <;> omega
      · go_wp2
        all_goals
          go_ret
          have h1 := HN.out
          rw [Hg.out, Hs.out] at h1
          have e2 := Hn'.out
          subst e2
          refine ⟨?_, bw3⟩
          rw [h1]
          have : 30 < l.length := by omega
          simp [gasBad, this]
    · rw [hs] at hPr
      have HPr := hide hPr; have Hs := hide hs; clear hPr hs
      go_wp2_with fail
      refine (HPr.out rfl (by omega) (by simpa using Hr.out)).mono ?_
      rintro e w3 ⟨rfl, b3⟩
      have bw3 : Below w.heap.size w w3 := bw2.trans (((below_new w2 _).trans (b3.mono (by simp))).mono bw2.size)
      clear p2 q2 q3 Hr b2 b3 HC' Hp Hq0 Hq1
      go_wp2
      go_ret
      exact ⟨by rw [HN.out, Hg.out, Hs.out]; rfl, bw3⟩
end Go.Proofs.Ytgklcilpohkpkaa
