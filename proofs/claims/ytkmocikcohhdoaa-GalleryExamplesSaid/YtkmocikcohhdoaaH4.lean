/- Gallery: search, Falls, Next, by contract. -/
import Derived.Test.YtkmocikcohhdoaaH3
set_option linter.unusedVariables false
set_option linter.unusedSimpArgs false
namespace Go.Proofs.Ytkmocikcohhdoaa
open Go.RowKit Go.Shelf Go.Maps
attribute [local go_sem] ite_min ite_max
theorem anyBad_one (m : Int) (t : Sp) : (!(anyBad m [t])) = Sp.ok 0 m t := by simp [anyBad, spOk_bad]
theorem okS_fine {m : Int} {t : Sp} (h : Sp.ok 0 m t = true) : t.fine m := by
  have := Sp.ok_bd h
  exact ⟨this.1, this.2.1, this.2.2⟩
def SearchPost (g : List Rc) (s : Sp) (l : List Ga) (t : Sp) (w : World) (e : Ending) (w' : World) : Prop :=
  (falE g s l t = 0 ∧ ∃ b V, e = .returned (.tuple #[.map (some b), .int .i64 0]) ∧ w.heap.size ≤ b ∧ MpV Try.prog 3 w' b g.length (falM g s l t V g.length) (falN g s l t g.length).length ∧ RowsV w' (b + 1) g s l t V g.length ∧ Below w.heap.size w w') ∨
  (falE g s l t ≠ 0 ∧ e = .returned (.tuple #[.map none, .int .i64 (falE g s l t)]) ∧ Below w.heap.size w w')
theorem falE_parts {g : List Rc} {s : Sp} {l : List Ga} {t : Sp} (h : falE g s l t = 0) : gEnter g s l = 0 ∧ Sp.ok 0 1000000 t = true ∧ falN g s l t g.length ≠ [] := by
  unfold falE at h
  split at h
  · rename_i h1
    split at h
    · rename_i h2
      split at h
      · omega
      · exact ⟨h1, h2, by assumption⟩
    · omega
  · rename_i h1; exact absurd h h1
set_option maxHeartbeats 4000000 in
set_option maxRecDepth 100000 in
theorem gsearch_any (A A1 : Option Addr) (g : List Rc) (s : Sp) (l : List Ga) (t : Sp) (n c n1 c1 : Nat) (w : World) (hn : n = g.length) (hm : n ≤ 9223372036854775807) (hx : Rd w w.heap.size Rc.cells A g)
    (hnl : n1 = l.length) (hm1 : n1 ≤ 9223372036854775807) (hx1 : Rd w w.heap.size Ga.cells A1 l) :
    Calls Try.prog 76 #[.slice A n c, .agg #[.int .i64 s.lo, .int .i64 s.hi], .slice A1 n1 c1, .agg #[.int .i64 t.lo, .int .i64 t.hi]] w (SearchPost g s l t w) := by
  obtain ⟨b5, w1, e5, ew1, hx5, hb1, hz1⟩ := mk_bx w #[.int .i64 s.lo, .int .i64 s.hi] 24
  obtain ⟨b7, w2, e7, ew2, hx7, hb2, hz2⟩ := mk_bx w1 #[.int .i64 t.lo, .int .i64 t.hi] 24
  have e57 : b5 + 1 = b7 := by have := e7.out; omega
  have hB2 := hb1.trans (hb2.mono hb1.size)
  replace hx5 := hx5.bel hb2
  have Hn := hide hn; have Hn1 := hide hnl; have Hx : Hid (Rd w2 w2.heap.size Rc.cells A g) := hide ((hx.below hB2).more hB2.size); have Hx1 : Hid (Rd w2 w2.heap.size Ga.cells A1 l) := hide ((hx1.below hB2).more hB2.size)
  have HE := hide (enter_any A A1 g s.lo s.hi l n c n1 c1 w2 hn hm Hx.out hnl hm1 Hx1.out)
  obtain ⟨q0, q1, _, _⟩ := hx5.w2
  clear hn hnl hx hx1 hz1 hz2
  by_cases he : gEnter g s l = 0
  · obtain ⟨hok, hg12, hl30, hfine, hs, hga, hgf⟩ := enter_parts he
    have HE0 := hide (show Calls Try.prog 51 #[.slice A n c, .agg #[.int .i64 s.lo, .int .i64 s.hi], .slice A1 n1 c1] w2 fun e w' => e = .returned (.int .i64 0) ∧ Below w2.heap.size w2 w' by have := HE.out; rw [he] at this; exact this)
    have hg1 : 1 ≤ n := by
      simp only [gOk, inB, Bool.and_eq_true, decide_eq_true_eq] at hok
      rw [Hn.out]; omega
    have He := hide he
    have hn12 : n ≤ 12 := by rw [Hn.out]; exact hg12
    have hn30 : n1 ≤ 30 := by rw [Hn1.out]; exact hl30
    clear he HE hok
    go_enter Try.func76, Try.ntmps76
    go_wp2_with fail
    rw [ew1.out, e5.out, e57, ew2.out]
    refine HE0.out.mono ?_
    rintro e w3 ⟨rfl, hb3⟩
    obtain ⟨p0, p1, _, _⟩ := (hx7.bel hb3).w2
    obtain ⟨b20, w4, e20, ew4, hr4, hb4⟩ := mk_row (cells := Sp.cells) w3 #[.int .i64 t.lo, .int .i64 t.hi] 24 [t] rfl
    have hB3 := hB2.trans (hb3.mono hB2.size)
    have hB4 := hb3.trans (hb4.mono hb3.size)
    clear q0 q1
    go_wp2_with fail
    rw [ew4.out, e20.out]
    refine (proper_any 1000000 _ [t] 1 1 w4 rfl (by omega) hr4).mono ?_
    rintro e w5 ⟨rfl, hb5⟩
    rw [anyBad_one]
    have hB5 := hB4.trans (hb5.mono hB4.size)
    obtain ⟨p0, p1, _, _⟩ := (hx7.bel hB5).w2
    obtain ⟨q0, q1, _, _⟩ := (hx5.bel hB5).w2
    cases ht : Sp.ok 0 1000000 t
    · have E1 := hide (show falE g s l t = 2 by unfold falE; rw [if_pos He.out, if_neg (by rw [ht]; decide)])
      clear ht
      go_wp2_with fail
      go_ret2
      exact .inr ⟨by rw [E1.out]; decide, by rw [E1.out]; rfl, hB2.trans (hB5.mono hB2.size)⟩
    · have Ht := hide (okS_fine ht)
      have E0 : falE g s l t = if falN g s l t g.length = [] then 6 else 0 := by unfold falE; rw [if_pos He.out, if_pos ht]
      have E1 := hide E0
      clear ht E0
      go_wp2_with fail
      refine (suspects_any A A1 g s l t n c n1 c1 w5 Hn.out (by omega) hg1 ((Hx.out.below hB5).more hB5.size) Hn1.out (by omega) ((Hx1.out.below hB5).more hB5.size) hfine hs Ht.out (by rw [Hn.out]; exact hga) hgf).mono ?_
      rintro e w6 ⟨bm, V, rfl, hbm, hM, hR, hb6⟩
      have hB6 := hB5.trans (hb6.mono hB5.size)
      have HM := hide hM
      clear hM
      have hsz : w.heap.size ≤ bm := by have := hB2.size; have := hB5.size; omega
      by_cases hz : falN g s l t g.length = []
      · have hl : (falN g s l t g.length).length = 0 := by rw [hz]; rfl
        have E2 := hide (E1.out.trans (if_pos hz))
        rw [hl] at HM
        clear hz
        go_wp2_with (at_len; refine wpList_mapLenV rfl (.tmp 28) rfl Try.underlying123 HM.out rfl ?_)
        go_ret2
        exact .inr ⟨by rw [E2.out]; decide, by rw [E2.out]; rfl, hB2.trans (hB6.mono hB2.size)⟩
      · have hl : (falN g s l t g.length).length ≠ 0 := fun h => hz (List.length_eq_zero_iff.1 h)
        have E2 := hide (E1.out.trans (if_neg hz))
        clear hz
        have hl2 : ¬ ((falN g s l t g.length).length : Int) = 0 := by omega
        go_wp2_with (at_len; refine wpList_mapLenV rfl (.tmp 28) rfl Try.underlying123 HM.out rfl ?_)
        go_ret2
        exact .inl ⟨E2.out, bm, V, rfl, hsz, HM.out, hR, hB2.trans (hB6.mono hB2.size)⟩
  · have E1 := hide (show falE g s l t = gEnter g s l by unfold falE; rw [if_neg he])
    have He := hide he
    have hne : (gEnter g s l == 0) = false := by simpa using he
    have hne2 : (gEnter g s l != 0) = true := by simpa using he
    clear he
    go_enter Try.func76, Try.ntmps76
    go_wp2_with fail
    rw [ew1.out, e5.out, e57, ew2.out]
    refine HE.out.mono ?_
    rintro e w3 ⟨rfl, hb3⟩
    go_wp2_with fail
    go_ret2
    exact .inr ⟨by rw [E1.out]; exact He.out, by rw [E1.out]; rfl, hB2.trans (hb3.mono hB2.size)⟩
end Go.Proofs.Ytkmocikcohhdoaa
