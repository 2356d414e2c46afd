/- Gallery: the reference's cut, out, Gauges, ask, by contract. -/
import Derived.Test.YtkmocikcohhdoaaF17
import Derived.Test.YtkmocikcohhdoaaFB
set_option linter.unusedVariables false
set_option linter.unusedSimpArgs false
namespace Go.Proofs.Ytkmocikcohhdoaa
open Go.RowKit Go.Shelf
attribute [local go_sem] ite_min ite_max
theorem rcut_any (a b c d : Int) (w : World) : Calls Try.prog 96 #[.agg #[.int .i64 a, .int .i64 b], .agg #[.int .i64 c, .int .i64 d]] w fun e w' => e = .returned (.agg #[.int .i64 (cutS ⟨a, b⟩ ⟨c, d⟩).lo, .int .i64 (cutS ⟨a, b⟩ ⟨c, d⟩).hi]) ∧ Below w.heap.size w w' := by
  go_enter Try.func96, Try.ntmps96
  go_wp2
  all_goals
    refine bodyPost_ret (v := .agg #[.int .i64 (cutS ⟨a, b⟩ ⟨c, d⟩).lo, .int .i64 (cutS ⟨a, b⟩ ⟨c, d⟩).hi]) (by simp [results, Try.results96, go_sem, cutS]; try omega) rfl ⟨rfl, ((below_new _ _).alloc (by simp) _).alloc (by simp; omega) _⟩
theorem rout_any (a0 a1 a2 a3 a4 a5 lo hi : Int) (w : World) (h1 : 0 ≤ lo ∧ lo ≤ 1000000000) (h2 : 0 ≤ hi ∧ hi ≤ 1000000000) (h3 : 0 ≤ a0 ∧ a0 ≤ 1000000000) (h4 : 0 ≤ a1 ∧ a1 ≤ 1000000000) (h5 : 0 ≤ a2 ∧ a2 ≤ 1000000000) (h6 : 0 ≤ a3 ∧ a3 ≤ 1000000000) (h7 : 0 ≤ a4 ∧ a4 ≤ 1000000000) (h8 : 0 ≤ a5 ∧ a5 ≤ 1000000000) :
    Calls Try.prog 97 #[.agg #[.int .i64 a0, .int .i64 a1, .int .i64 a2, .int .i64 a3, .int .i64 a4, .int .i64 a5], .agg #[.int .i64 lo, .int .i64 hi]] w fun e w' => e = .returned (.agg #[.int .i64 (leastF ⟨⟨a0, a1⟩, ⟨a2, a3⟩, ⟨a4, a5⟩⟩ lo), .int .i64 (mostF ⟨⟨a0, a1⟩, ⟨a2, a3⟩, ⟨a4, a5⟩⟩ hi)]) ∧ Below w.heap.size w w' := by
  obtain ⟨h1a, h1b⟩ := h1; obtain ⟨h2a, h2b⟩ := h2; obtain ⟨h3a, h3b⟩ := h3; obtain ⟨h4a, h4b⟩ := h4; obtain ⟨h5a, h5b⟩ := h5; obtain ⟨h6a, h6b⟩ := h6; obtain ⟨h7a, h7b⟩ := h7; obtain ⟨h8a, h8b⟩ := h8
  go_enter Try.func97, Try.ntmps97
  go_wp2
  all_goals
    refine bodyPost_ret (v := .agg #[.int .i64 (leastF ⟨⟨a0, a1⟩, ⟨a2, a3⟩, ⟨a4, a5⟩⟩ lo), .int .i64 (mostF ⟨⟨a0, a1⟩, ⟨a2, a3⟩, ⟨a4, a5⟩⟩ hi)]) (by simp [results, Try.results97, go_sem, leastF, mostF]; try omega) rfl ⟨rfl, ((below_new _ _).alloc (by simp) _).alloc (by simp; omega) _⟩
theorem rgauges_any (A A' : Option Addr) (g : Nat) (l : List Ga) (c n' c' : Nat) (w : World) (hm : g ≤ 9223372036854775807) (hn' : n' = l.length) (hm' : n' ≤ 9223372036854775807) (hx' : Rd w w.heap.size Ga.cells A' l) :
    Calls Try.prog 38 #[.slice A g c, .slice A' n' c'] w fun e w' => e = .returned (.bool (!(decide (30 < l.length) || l.any (Ga.bad g)))) ∧ Below w.heap.size w w' := by
  have Hn' := hide hn'; have Hx' := hide hx'
  clear hn' hx'
  by_cases h1 : n' ≤ 30
  · go_enter Try.func38, Try.ntmps38
    go_wp2_with fail
    go_loopw [5] (fun i wr => ∃ k : Nat, k ≤ n' ∧ i = .int .i64 k ∧ Below w.heap.size w wr ∧ Hid (∀ y ∈ l.take k, Ga.bad g y = false)) (fun i _ => n' - (intOf i).toNat)
    case atStart => exact ⟨0, by omega, rfl, Below.refl _ _, hide (by simp)⟩
    case round =>
      obtain ⟨k, hk, rfl, hb, hpre⟩ := hrel
      by_cases hlt : k < n'
      · obtain ⟨b, off, s, lo, hi, rfl, hB, hxk, c0, c1, c2⟩ := (Hx'.out.below hb).ga (i := k) (by have := Hn'.out; omega)
        have hok : Ga.bad g ⟨s, ⟨lo, hi⟩⟩ = (!(inB 0 g s) || !(Sp.ok 0 13000000 ⟨lo, hi⟩)) := by simp [Ga.bad, anyBad, spOk_bad]
        have Hxk := hide hxk; have Hok := hide hok
        clear hxk hok
        go_wp2_with fail
        refine (within_any _ _ _ _).mono ?_
        rintro e w1 ⟨rfl, rfl⟩
        cases hs : inB 0 g s
        · rw [hs] at Hok
          have Hr := hide (show (!(decide (30 < l.length) || l.any (Ga.bad g))) = false by rw [any_hit Hxk.out (by rw [Hok.out]; rfl)]; simp)
          clear hs
          go_wp2_with fail
          go_ret
          exact ⟨ret_bool Hr.out.symm, hb⟩
        · rw [hs] at Hok
          clear hs
          go_wp2_with fail
          refine (spanned_any _ _ _ _ _).mono ?_
          rintro e w2 ⟨rfl, hb2⟩
          have hB2 := hb.trans (hb2.mono hb.size)
          cases hs : Sp.ok 0 13000000 ⟨lo, hi⟩
          · rw [hs] at Hok
            have Hr := hide (show (!(decide (30 < l.length) || l.any (Ga.bad g))) = false by rw [any_hit Hxk.out (by rw [Hok.out]; rfl)]; simp)
            clear hs
            go_wp2_with fail
            go_ret
            exact ⟨ret_bool Hr.out.symm, hB2⟩
          · rw [hs] at Hok
            clear hs
            go_wp2_with fail
            exact ⟨⟨k + 1, by omega, by go_num, hB2, hide (pre_snoc Hxk.out (by rw [Hok.out]; rfl) hpre.out)⟩, by simp [intOf]; omega⟩
      · have Hr := hide (show (!(decide (30 < l.length) || l.any (Ga.bad g))) = true by rw [any_miss (k := k) (by have := Hn'.out; omega) hpre.out]; have := Hn'.out; simp; omega)
        go_wp2_with fail
        go_ret
        exact ⟨ret_bool Hr.out.symm, hb⟩
  · have Hr := hide (show (!(decide (30 < l.length) || l.any (Ga.bad g))) = false by have := Hn'.out; simp; intro h; omega)
    go_enter Try.func38, Try.ntmps38
    go_wp2_with fail
    go_ret
    exact ⟨ret_bool Hr.out.symm, Below.refl _ _⟩
theorem rask_any (A A' : Option Addr) (g : List Rc) (s : Sp) (l : List Ga) (n c n' c' : Nat) (w : World) (hn : n = g.length) (hm : n ≤ 9223372036854775807) (hx : Rd w w.heap.size Rc.cells A g)
    (hn' : n' = l.length) (hm' : n' ≤ 9223372036854775807) (hx' : Rd w w.heap.size Ga.cells A' l) :
    Calls Try.prog 71 #[.slice A n c, .agg #[.int .i64 s.lo, .int .i64 s.hi], .slice A' n' c'] w fun e w' => e = .returned (.int .i64 (gEnter g s l)) ∧ Below w.heap.size w w' := by
  obtain ⟨b4, w1, e4, ew1, hx4, hb1, hz1⟩ := mk_bx w #[.int .i64 s.lo, .int .i64 s.hi] 24
  have HC := hide (rcheck_any A g n c w1 hn hm ((hx.below hb1).more hb1.size))
  have hE : gEnter g s l = if gOk g then (if Sp.ok 0 1000000 s then (if decide (30 < l.length) || l.any (Ga.bad g.length) then 23 else 0) else 21) else 20 := by
    unfold gEnter gasBad
    have e1 : anyBad 1000000 [s] = !(Sp.ok 0 1000000 s) := by simp [anyBad, spOk_bad]
    rw [e1]
    cases Sp.ok 0 1000000 s <;> simp
  have HE := hide hE
  have Hn := hide hn; have Hn' := hide hn'; have Hx' := hide hx'
  clear hn hn' hx hx' hz1 hE
  cases hok : gOk g
  · rw [show gCheck g = 20 by simp [gCheck, hok]] at HC
    rw [hok] at HE
    clear hok
    go_enter Try.func71, Try.ntmps71
    go_wp2_with fail
    rw [ew1.out, e4.out]
    refine HC.out.mono ?_
    rintro e w2 ⟨rfl, hb2⟩
    go_wp2_with fail
    go_ret
    exact ⟨ret_int (by rw [HE.out]; rfl), hb1.trans (hb2.mono hb1.size)⟩
  · rw [show gCheck g = 0 by simp [gCheck, hok]] at HC
    rw [hok] at HE
    clear hok
    go_enter Try.func71, Try.ntmps71
    go_wp2_with fail
    rw [ew1.out, e4.out]
    refine HC.out.mono ?_
    rintro e w2 ⟨rfl, hb2⟩
    obtain ⟨q0, q1, _, _⟩ := (hx4.bel hb2).w2
    have hB2 := hb1.trans (hb2.mono hb1.size)
    go_wp2_with fail
    refine (spanned_any _ _ _ _ _).mono ?_
    rintro e w3 ⟨rfl, hb3⟩
    have hB3 := hB2.trans (hb3.mono hB2.size)
    cases hs : Sp.ok 0 1000000 s
    · rw [hs] at HE
      clear hs
      go_wp2_with fail
      go_ret
      exact ⟨ret_int (by rw [HE.out]; rfl), hB3⟩
    · rw [hs] at HE
      clear hs
      go_wp2_with fail
      refine (rgauges_any A A' n l c n' c' w3 hm Hn'.out hm' ((Hx'.out.below hB3).more hB3.size)).mono ?_
      rintro e w4 ⟨rfl, hb4⟩
      have hB4 := hB3.trans (hb4.mono hB3.size)
      rw [← Hn.out] at HE
      cases hg : (decide (30 < l.length) || l.any (Ga.bad n))
      · rw [hg] at HE
        clear hg
        go_wp2_with fail
        go_ret
        exact ⟨ret_int (by rw [HE.out]; rfl), hB4⟩
      · rw [hg] at HE
        clear hg
        go_wp2_with fail
        go_ret
        exact ⟨ret_int (by rw [HE.out]; rfl), hB4⟩
end Go.Proofs.Ytkmocikcohhdoaa
