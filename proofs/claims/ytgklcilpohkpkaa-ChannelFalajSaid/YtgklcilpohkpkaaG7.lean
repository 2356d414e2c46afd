/- The reference of the gallery: Check, earlier, places, End, by contracts. -/
import Derived.Test.YtgklcilpohkpkaaGA
import Derived.Test.YtgklcilpohkpkaaG5
set_option linter.unusedVariables false
set_option linter.unusedSimpArgs false
namespace Go.Proofs.Ytgklcilpohkpkaa
open Go.RowKit Go.Shelf
attribute [local go_sem] ite_min ite_max

theorem rcBad_of (c l g : Sp) : Rc.bad ⟨c, l, g⟩ = !(Sp.ok 0 1000000 c && Sp.ok 0 1000000 l && Sp.ok 0 1000000 g) := by
  have h : ∀ s : Sp, Sp.bad 1000000 s = !(Sp.ok 0 1000000 s) := fun s => by
    rw [Bool.eq_iff_iff]; simp only [Sp.bad, Sp.ok, Bool.or_eq_true, decide_eq_true_eq, Bool.not_eq_true', Bool.and_eq_false_iff, decide_eq_false_iff_not]; omega
  simp [Rc.bad, anyBad, h]
  cases Sp.ok 0 1000000 c <;> cases Sp.ok 0 1000000 l <;> cases Sp.ok 0 1000000 g <;> rfl

set_option maxHeartbeats 1000000 in
theorem rcheck_any (A : Option Addr) (g : List Rc) (n c : Nat) (w : World) (hn : n = g.length) (hm : n ≤ 9223372036854775807) (hx : Rd w w.heap.size Rc.cells A g) :
    Calls Try.prog 50 #[.slice A n c] w fun e w' => e = .returned (.int .i64 (gCheck g)) ∧ Below w.heap.size w w' := by
  have Hn := hide hn; have Hx := hide hx; clear hn hx
  cases h : inB 1 12 n
  · have Hi := hide h; clear h
    go_enter Try.func50, Try.ntmps50
    go_wp2_with (go_at_call 83; refine (within_any _ _ _ _).mono ?_; rintro e w' ⟨rfl, rfl⟩; rw [Hi.out])
    go_ret
    exact ⟨ret_int (by have h1 := Hi.out; rw [Hn.out] at h1; simp [gCheck, gOk, h1]), Below.refl _ _⟩
  · have Hi := hide h; clear h
    go_enter Try.func50, Try.ntmps50
    go_wp2_with (go_at_call 83; refine (within_any _ _ _ _).mono ?_; rintro e w' ⟨rfl, rfl⟩; rw [Hi.out])
    go_loopw [2, 3] (fun v i wr => ∃ k : Nat, k ≤ n ∧ i = .int .i64 k ∧ Below w.heap.size w wr ∧ Hid (∀ y ∈ g.take k, Rc.bad y = false)) (fun _ i _ => n - (intOf i).toNat)
    case atStart => exact ⟨0, by omega, rfl, Below.refl _ _, hide pre_nil⟩
    case round =>
      obtain ⟨k, hk, rfl, hb, hpre⟩ := hrel
      by_cases hlt : k < n
      · obtain ⟨b, off, c0, c1, l0, l1, g0, g1, rfl, hB, hxk, d0, d1, d2, d3, d4, d5⟩ := (Hx.out.below hb).rc (i := k) (by have := Hn.out; omega)
        have Hxk := hide hxk; clear hxk
        have hbad := rcBad_of ⟨c0, c1⟩ ⟨l0, l1⟩ ⟨g0, g1⟩
        have stay : ∀ W, Below wr.heap.size wr W → W.cell? ⟨b, off + k * 6, none⟩ = some (.int .i64 c0) ∧ W.cell? ⟨b, off + k * 6 + 1, none⟩ = some (.int .i64 c1) ∧ W.cell? ⟨b, off + k * 6 + 2, none⟩ = some (.int .i64 l0) ∧ W.cell? ⟨b, off + k * 6 + 3, none⟩ = some (.int .i64 l1) ∧ W.cell? ⟨b, off + k * 6 + 4, none⟩ = some (.int .i64 g0) ∧ W.cell? ⟨b, off + k * 6 + 5, none⟩ = some (.int .i64 g1) := fun W hW => by
          have hB' : b < wr.heap.size := Nat.lt_of_lt_of_le hB hb.size
          exact ⟨(hW.cell hB').trans d0, (hW.cell hB').trans d1, (hW.cell hB').trans d2, (hW.cell hB').trans d3, (hW.cell hB').trans d4, (hW.cell hB').trans d5⟩
        have Stay := hide stay; clear stay
        cases hc : Sp.ok 0 1000000 ⟨c0, c1⟩
        · have Hc := hide hc
          rw [hc] at hbad
          have Hbad := hide hbad; clear hc hbad
          go_wp2_with (go_at_call 51; refine (spanned_any _ _ _ _ _).mono ?_; rintro e w1 ⟨rfl, b1⟩; rw [Hc.out])
          go_ret
          exact ⟨ret_int (by simp [gCheck, gOk, any_hit Hxk.out Hbad.out]), hb.trans (b1.mono hb.size)⟩
        · cases hl : Sp.ok 0 1000000 ⟨l0, l1⟩
          · have Hc := hide hc; have Hl := hide hl
            rw [hc, hl] at hbad
            have Hbad := hide hbad; clear hc hl hbad
            go_wp2_with fail
            refine (spanned_any _ _ _ _ _).mono ?_; rintro e w1 ⟨rfl, b1⟩; rw [Hc.out]
            obtain ⟨e0, e1, e2, e3, e4, e5⟩ := Stay.out w1 b1
            clear d0 d1 d2 d3 d4 d5
            go_wp2_with fail
            refine (spanned_any _ _ _ _ _).mono ?_; rintro e w2 ⟨rfl, b2⟩; rw [Hl.out]
            go_wp2_with fail
            go_ret
            exact ⟨ret_int (by simp [gCheck, gOk, any_hit Hxk.out Hbad.out]), (hb.trans (b1.mono hb.size)).trans (b2.mono (Nat.le_trans hb.size b1.size))⟩
          · cases hg : Sp.ok 0 1000000 ⟨g0, g1⟩
            all_goals
              have Hc := hide hc; have Hl := hide hl; have Hg := hide hg
              rw [hc, hl, hg] at hbad
              have Hbad := hide hbad; clear hc hl hg hbad
              go_wp2_with fail
              refine (spanned_any _ _ _ _ _).mono ?_; rintro e w1 ⟨rfl, b1⟩; rw [Hc.out]
              obtain ⟨e0, e1, e2, e3, e4, e5⟩ := Stay.out w1 b1
              clear d0 d1 d2 d3 d4 d5
              go_wp2_with fail
              refine (spanned_any _ _ _ _ _).mono ?_; rintro e w2 ⟨rfl, b2⟩; rw [Hl.out]
              have b12 := b1.trans (b2.mono b1.size)
              obtain ⟨f0, f1, f2, f3, f4, f5⟩ := Stay.out w2 b12
              clear e0 e1 e2 e3 e4 e5
              go_wp2_with fail
              refine (spanned_any _ _ _ _ _).mono ?_; rintro e w3 ⟨rfl, b3⟩; rw [Hg.out]
              have b13 := b12.trans (b3.mono b12.size)
              have bw : Below w.heap.size w w3 := hb.trans (b13.mono hb.size)
              clear f0 f1 f2 f3 f4 f5
              go_wp2_with fail
              first
                | (go_ret; exact ⟨ret_int (by simp [gCheck, gOk, any_hit Hxk.out Hbad.out]), bw⟩)
                | exact ⟨⟨k + 1, by omega, by go_num, bw, hide (pre_snoc Hxk.out Hbad.out hpre.out)⟩, by simp [intOf]; omega⟩
      · go_wp2_with fail
        go_ret
        exact ⟨ret_int (by have h1 := Hi.out; rw [Hn.out] at h1; simp [gCheck, gOk, h1, any_miss (k := k) (by have := Hn.out; omega) hpre.out]), hb⟩

/-- Whether a list of numbers comes before another one of the same length. -/
def earl : List Int → List Int → Bool
  | a :: s, b :: t => if a = b then earl s t else decide (a < b)
  | _, _ => false
theorem earl_step (a b : List Int) (k : Nat) (x y : Int) (hx : a[k]? = some x) (hy : b[k]? = some y) (h : x = y) : earl (a.drop k) (b.drop k) = earl (a.drop (k + 1)) (b.drop (k + 1)) := by
  obtain ⟨hk, rfl⟩ := List.getElem?_eq_some_iff.1 hx
  obtain ⟨hk', rfl⟩ := List.getElem?_eq_some_iff.1 hy
  rw [List.drop_eq_getElem_cons hk, List.drop_eq_getElem_cons hk', earl, if_pos h]
theorem earl_stop (a b : List Int) (k : Nat) (x y : Int) (hx : a[k]? = some x) (hy : b[k]? = some y) (h : x ≠ y) : earl (a.drop k) (b.drop k) = decide (x < y) := by
  obtain ⟨hk, rfl⟩ := List.getElem?_eq_some_iff.1 hx
  obtain ⟨hk', rfl⟩ := List.getElem?_eq_some_iff.1 hy
  rw [List.drop_eq_getElem_cons hk, List.drop_eq_getElem_cons hk', earl, if_neg h]

/-- What flows out at the end of a gallery at the least. -/
def endF (g : List Rc) (n : Int) : Int := g.foldl (fun n r => leastF r n) n
theorem endF_step (g : List Rc) (k : Nat) (r : Rc) (n : Int) (h : g[k]? = some r) : endF (g.drop k) n = endF (g.drop (k + 1)) (leastF r n) := by
  obtain ⟨hk, rfl⟩ := List.getElem?_eq_some_iff.1 h
  rw [List.drop_eq_getElem_cons hk]; rfl
/-- The bounds under which nothing wraps. -/
def Rc.small (r : Rc) : Prop := (0 ≤ r.cap.lo ∧ r.cap.lo ≤ 13000000) ∧ (0 ≤ r.leak.hi ∧ r.leak.hi ≤ 13000000) ∧ (0 ≤ r.gain.lo ∧ r.gain.lo ≤ 13000000)
theorem leastF_bd (r : Rc) (n : Int) (h : r.small) (hn : 0 ≤ n) : 0 ≤ leastF r n ∧ leastF r n ≤ 26000000 := by
  obtain ⟨⟨h1, h2⟩, ⟨h3, h4⟩, ⟨h5, h6⟩⟩ := h
  simp only [leastF]; omega

end Go.Proofs.Ytgklcilpohkpkaa
