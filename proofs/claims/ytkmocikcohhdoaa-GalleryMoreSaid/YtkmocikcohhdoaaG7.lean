/- The reference of the gallery: Check, earlier, places, End, by contracts. -/
import Derived.Test.YtkmocikcohhdoaaGA
import Derived.Test.YtkmocikcohhdoaaG5
import Derived.Test.YtkmocikcohhdoaaG6
set_option linter.unusedVariables false
set_option linter.unusedSimpArgs false
namespace Go.Proofs.Ytkmocikcohhdoaa
open Go.RowKit Go.Shelf
attribute [local go_sem] ite_min ite_max

theorem rcBad_of (c l g : Sp) : Rc.bad ⟨c, l, g⟩ = !(Sp.ok 0 1000000 c && Sp.ok 0 1000000 l && Sp.ok 0 1000000 g) := by
  have h : ∀ s : Sp, Sp.bad 1000000 s = !(Sp.ok 0 1000000 s) := fun s => by
    rw [Bool.eq_iff_iff]; simp only [Sp.bad, Sp.ok, Bool.or_eq_true, decide_eq_true_eq, Bool.not_eq_true', Bool.and_eq_false_iff, decide_eq_false_iff_not]; omega
  simp [Rc.bad, anyBad, h]
  cases Sp.ok 0 1000000 c <;> cases Sp.ok 0 1000000 l <;> cases Sp.ok 0 1000000 g <;> rfl

set_option maxHeartbeats 1000000 in
theorem rcheck_any (A : Option Addr) (g : List Rc) (n c : Nat) (w : World) (hn : n = g.length) (hm : n ≤ 9223372036854775807) (hx : Rd w w.heap.size Rc.cells A g) :
    Calls Try.prog 24 #[.slice A n c] w fun e w' => e = .returned (.int .i64 (gCheck g)) ∧ Below w.heap.size w w' := by
  have Hn := hide hn; have Hx := hide hx; clear hn hx
  cases h : inB 1 12 n
  · have Hi := hide h; clear h
    go_enter Try.func24, Try.ntmps24
    go_wp2_with (go_at_call 55; refine (within_any _ _ _ _).mono ?_; rintro e w' ⟨rfl, rfl⟩; rw [Hi.out])
    go_ret
    exact ⟨ret_int (by have h1 := Hi.out; rw [Hn.out] at h1; simp [gCheck, gOk, h1]), Below.refl _ _⟩
  · have Hi := hide h; clear h
    go_enter Try.func24, Try.ntmps24
    go_wp2_with (go_at_call 55; refine (within_any _ _ _ _).mono ?_; rintro e w' ⟨rfl, rfl⟩; rw [Hi.out])
    go_loopw [2, 3] (fun v i wr => ∃ k : Nat, k ≤ n ∧ i = .int .i64 k ∧ Below w.heap.size w wr ∧ Hid (∀ y ∈ g.take k, Rc.bad y = false)) (fun _ i _ => n - (intOf i).toNat)
    case atStart => exact ⟨0, by omega, rfl, Below.refl _ _, hide pre_nil⟩
    case round =>
      obtain ⟨k, hk, rfl, hb, hpre⟩ := hrel
      by_cases hlt : k < n
      · obtain ⟨b, off, c0, c1, l0, l1, g0, g1, rfl, hB, hxk, d0, d1, d2, d3, d4, d5⟩ := (Hx.out.below hb).rc (i := k) (by have := Hn.out; omega)
        have Hxk := hide hxk; clear hxk
        have hbad := rcBad_of ⟨c0, c1⟩ ⟨l0, l1⟩ ⟨g0, g1⟩
        have stay : ∀ W, Below wr.heap.size wr W → W.cell? ⟨b, off + k * 6, none⟩ = some (.int .i64 c0) ∧ W.cell? ⟨b, off + k * 6 + 1, none⟩ = some (.int .i64 c1) ∧ W.cell? ⟨b, off + k * 6 + 2, none⟩ = some (.int .i64 l0) ∧ W.cell? ⟨b, off + k * 6 + 3, none⟩ = some (.int .i64 l1) ∧ W.cell? ⟨b, off + k * 6 + 4, none⟩ = some (.int .i64 g0) ∧ W.cell? ⟨b, off + k * 6 + 5, none⟩ = some (.int .i64 g1) := fun W hW => by
          have hB' : b < wr.heap.size := Nat.lt_of_lt_of_le hB hb.size
          exact ⟨(hW.cell hB').trans d0, (hW.cell hB').trans d1, (hW.cell hB').trans d2, (hW.cell hB').trans d3, (hW.cell hB').trans d4, (hW.cell hB').trans d5⟩
        have Stay := hide stay; clear stay
        cases hc : Sp.ok 0 1000000 ⟨c0, c1⟩
        · have Hc := hide hc
          rw [hc] at hbad
          have Hbad := hide hbad; clear hc hbad
          go_wp2_with (go_at_call 40; refine (spanned_any _ _ _ _ _).mono ?_; rintro e w1 ⟨rfl, b1⟩; rw [Hc.out])
          go_ret
          exact ⟨ret_int (by simp [gCheck, gOk, any_hit Hxk.out Hbad.out]), hb.trans (b1.mono hb.size)⟩
        · cases hl : Sp.ok 0 1000000 ⟨l0, l1⟩
          · have Hc := hide hc; have Hl := hide hl
            rw [hc, hl] at hbad
            have Hbad := hide hbad; clear hc hl hbad
            go_wp2_with fail
            refine (spanned_any _ _ _ _ _).mono ?_; rintro e w1 ⟨rfl, b1⟩; rw [Hc.out]
            obtain ⟨e0, e1, e2, e3, e4, e5⟩ := Stay.out w1 b1
            clear d0 d1 d2 d3 d4 d5
            go_wp2_with fail
            refine (spanned_any _ _ _ _ _).mono ?_; rintro e w2 ⟨rfl, b2⟩; rw [Hl.out]
            go_wp2_with fail
            go_ret
            exact ⟨ret_int (by simp [gCheck, gOk, any_hit Hxk.out Hbad.out]), (hb.trans (b1.mono hb.size)).trans (b2.mono (Nat.le_trans hb.size b1.size))⟩
          · cases hg : Sp.ok 0 1000000 ⟨g0, g1⟩
            all_goals
              have Hc := hide hc; have Hl := hide hl; have Hg := hide hg
              rw [hc, hl, hg] at hbad
              have Hbad := hide hbad; clear hc hl hg hbad
              go_wp2_with fail
              refine (spanned_any _ _ _ _ _).mono ?_; rintro e w1 ⟨rfl, b1⟩; rw [Hc.out]
              obtain ⟨e0, e1, e2, e3, e4, e5⟩ := Stay.out w1 b1
              clear d0 d1 d2 d3 d4 d5
              go_wp2_with fail
              refine (spanned_any _ _ _ _ _).mono ?_; rintro e w2 ⟨rfl, b2⟩; rw [Hl.out]
              have b12 := b1.trans (b2.mono b1.size)
              obtain ⟨f0, f1, f2, f3, f4, f5⟩ := Stay.out w2 b12
              clear e0 e1 e2 e3 e4 e5
              go_wp2_with fail
              refine (spanned_any _ _ _ _ _).mono ?_; rintro e w3 ⟨rfl, b3⟩; rw [Hg.out]
              have b13 := b12.trans (b3.mono b12.size)
              have bw : Below w.heap.size w w3 := hb.trans (b13.mono hb.size)
              clear f0 f1 f2 f3 f4 f5
              go_wp2_with fail
              first
                | (go_ret; exact ⟨ret_int (by simp [gCheck, gOk, any_hit Hxk.out Hbad.out]), bw⟩)
                | exact ⟨⟨k + 1, by omega, by go_num, bw, hide (pre_snoc Hxk.out Hbad.out hpre.out)⟩, by simp [intOf]; omega⟩
      · go_wp2_with fail
        go_ret
        exact ⟨ret_int (by have h1 := Hi.out; rw [Hn.out] at h1; simp [gCheck, gOk, h1, any_miss (k := k) (by have := Hn.out; omega) hpre.out]), hb⟩

/-- Whether a list of numbers comes before another one of the same length. -/
def earl : List Int → List Int → Bool
  | a :: s, b :: t => if a = b then earl s t else decide (a < b)
  | _, _ => false
theorem earl_step (a b : List Int) (k : Nat) (x y : Int) (hx : a[k]? = some x) (hy : b[k]? = some y) (h : x = y) : earl (a.drop k) (b.drop k) = earl (a.drop (k + 1)) (b.drop (k + 1)) := by
  obtain ⟨hk, rfl⟩ := List.getElem?_eq_some_iff.1 hx
  obtain ⟨hk', rfl⟩ := List.getElem?_eq_some_iff.1 hy
  rw [List.drop_eq_getElem_cons hk, List.drop_eq_getElem_cons hk', earl, if_pos h]
theorem earl_stop (a b : List Int) (k : Nat) (x y : Int) (hx : a[k]? = some x) (hy : b[k]? = some y) (h : x ≠ y) : earl (a.drop k) (b.drop k) = decide (x < y) := by
  obtain ⟨hk, rfl⟩ := List.getElem?_eq_some_iff.1 hx
  obtain ⟨hk', rfl⟩ := List.getElem?_eq_some_iff.1 hy
  rw [List.drop_eq_getElem_cons hk, List.drop_eq_getElem_cons hk', earl, if_neg h]

set_option maxHeartbeats 1000000 in
theorem earlier_any (A B : Option Addr) (xs ys : List Int) (n m c d : Nat) (w : World) (hn : n = xs.length) (hm' : m = ys.length) (hxy : xs.length = ys.length) (hn' : n ≤ 9223372036854775807)
    (hx : Rd w w.heap.size icell A xs) (hy : Rd w w.heap.size icell B ys) :
    Calls Try.prog 57 #[.slice A n c, .slice B m d] w fun e w' => e = .returned (.bool (earl xs ys)) ∧ Below w.heap.size w w' := by
  obtain rfl : m = n := by omega
  have hm : m = ys.length := hm'
  have Hn := hide hn; have Hm := hide hm; have Hx := hide hx; have Hy := hide hy
  clear hn hm hm' hxy hx hy
  go_enter Try.func57, Try.ntmps57
  go_wp2_with fail
  go_loopw [4, 5] (fun v i wr => ∃ k : Nat, k ≤ m ∧ i = .int .i64 k ∧ Below w.heap.size w wr ∧ Hid (earl xs ys = earl (xs.drop k) (ys.drop k))) (fun _ i _ => m - (intOf i).toNat)
  case atStart => exact ⟨0, by omega, rfl, Below.refl _ _, hide (by simp)⟩
  case round =>
    obtain ⟨k, hk, rfl, hb, hpre⟩ := hrel
    by_cases hlt : k < m
    · obtain ⟨b, off, x, rfl, hB, hxk, c0⟩ := (Hx.out.below hb).int (i := k) (by have := Hn.out; omega)
      have Hxk := hide hxk; clear hxk
      obtain ⟨b', off', y, rfl, hB', hyk, d0⟩ := (Hy.out.below hb).int (i := k) (by have := Hm.out; omega)
      have Hyk := hide hyk; clear hyk
      by_cases h0 : x = y
      · subst h0
        go_wp2_with fail
        go_quiet (fail)
        go_wp2_with fail
        exact ⟨⟨k + 1, by omega, by go_num, below_drewN hb _, hide (by rw [hpre.out, earl_step xs ys k x x Hxk.out Hyk.out rfl])⟩, by simp [intOf]; omega⟩
      · have h1 : (x == y) = false := by simpa using h0
        have h2 : (x != y) = true := by simpa using h0
        have H0 := hide h0; clear h0
        go_wp2_with fail
        go_quiet (fail)
        go_wp2_with fail
        go_quiet (fail)
        go_wp2_with fail
        go_ret
        exact ⟨ret_bool (by rw [hpre.out, earl_stop xs ys k x y Hxk.out Hyk.out H0.out]), below_drewN (below_drewN hb _) _⟩
    · go_wp2_with fail
      go_ret
      refine ⟨ret_bool ?_, hb⟩
      rw [hpre.out, List.drop_of_length_le (l := xs) (by have := Hn.out; omega)]
      rfl

/-- What flows out at the end of a gallery at the least. -/
def endF (g : List Rc) (n : Int) : Int := g.foldl (fun n r => leastF r n) n
theorem endF_step (g : List Rc) (k : Nat) (r : Rc) (n : Int) (h : g[k]? = some r) : endF (g.drop k) n = endF (g.drop (k + 1)) (leastF r n) := by
  obtain ⟨hk, rfl⟩ := List.getElem?_eq_some_iff.1 h
  rw [List.drop_eq_getElem_cons hk]; rfl
/-- The bounds under which nothing wraps. -/
def Rc.small (r : Rc) : Prop := (0 ≤ r.cap.lo ∧ r.cap.lo ≤ 13000000) ∧ (0 ≤ r.leak.hi ∧ r.leak.hi ≤ 13000000) ∧ (0 ≤ r.gain.lo ∧ r.gain.lo ≤ 13000000)
theorem leastF_bd (r : Rc) (n : Int) (h : r.small) (hn : 0 ≤ n) : 0 ≤ leastF r n ∧ leastF r n ≤ 26000000 := by
  obtain ⟨⟨h1, h2⟩, ⟨h3, h4⟩, ⟨h5, h6⟩⟩ := h
  simp only [leastF]; omega

set_option maxHeartbeats 1000000 in
theorem end_any (A : Option Addr) (g : List Rc) (n c : Nat) (m : Int) (w : World) (hn : n = g.length) (hm : n ≤ 9223372036854775807) (hx : Rd w w.heap.size Rc.cells A g)
    (hg : ∀ r ∈ g, r.small) (h0 : 0 ≤ m) (h1 : m ≤ 26000000) :
    Calls Try.prog 45 #[.slice A n c, .int .i64 m] w fun e w' => e = .returned (.int .i64 (endF g m)) ∧ Below w.heap.size w w' := by
  have Hn := hide hn; have Hx := hide hx; have Hg := hide hg; clear hn hx hg
  go_enter Try.func45, Try.ntmps45
  go_wp2_with fail
  go_loopw [1, 5] (fun v i wr => ∃ (k : Nat) (x : Int), k ≤ n ∧ i = .int .i64 k ∧ v = .int .i64 x ∧ 0 ≤ x ∧ x ≤ 26000000 ∧ Below w.heap.size w wr ∧ Hid (endF g m = endF (g.drop k) x)) (fun _ i _ => n - (intOf i).toNat)
  case atStart => exact ⟨0, m, by omega, rfl, rfl, h0, h1, Below.refl _ _, hide (by simp)⟩
  case round =>
    obtain ⟨k, x, hk, rfl, rfl, hx0, hx1, hb, hpre⟩ := hrel
    by_cases hlt : k < n
    · obtain ⟨b, off, c0, c1, l0, l1, g0, g1, rfl, hB, hxk, d0, d1, d2, d3, d4, d5⟩ := (Hx.out.below hb).rc (i := k) (by have := Hn.out; omega)
      have Hxk := hide hxk
      have hbd := leastF_bd _ x (Hg.out _ (List.mem_of_getElem? hxk)) hx0
      obtain ⟨⟨s1, s2⟩, ⟨s3, s4⟩, ⟨s5, s6⟩⟩ := Hg.out _ (List.mem_of_getElem? hxk)
      simp only at s1 s2 s3 s4 s5 s6
      have Hbd := hide hbd
      clear hxk hbd
      go_wp2_with fail
      go_quiet (fail)
      go_wp2_with fail
      have hz : ((if l1 < min x c0 then min x c0 - l1 else 0) + g0) = leastF ⟨⟨c0, c1⟩, ⟨l0, l1⟩, ⟨g0, g1⟩⟩ x := by simp only [leastF]; split <;> omega
      rw [hz]
      exact ⟨⟨k + 1, _, by omega, by go_num, rfl, Hbd.out.1, Hbd.out.2, below_drewN hb _, hide (by rw [hpre.out, endF_step g k _ x Hxk.out])⟩, by simp [intOf]; omega⟩
    · go_wp2_with fail
      go_ret
      exact ⟨ret_int (by rw [hpre.out, List.drop_of_length_le (by have := Hn.out; omega)]; rfl), hb⟩
end Go.Proofs.Ytkmocikcohhdoaa
