/- The reference of salt: After, by contracts. -/
import Derived.Test.YtmbhnjpaieimbaaS8
set_option linter.unusedVariables false
set_option linter.unusedSimpArgs false
namespace Go.Proofs.Ytmbhnjpaieimbaa
open Go.RowKit Go.Shelf

set_option maxHeartbeats 8000000 in
set_option maxRecDepth 100000 in
theorem rafter_fn (a0 a1 li cr m0 m1 w0 w1 r0 r1 lo hi c : Int) (w : World) :
    Calls Try.prog 15 #[.agg #[.int .i64 a0, .int .i64 a1, .int .i64 li, .int .i64 cr, .int .i64 m0, .int .i64 m1, .int .i64 w0, .int .i64 w1, .int .i64 r0, .int .i64 r1], .agg #[.int .i64 lo, .int .i64 hi], .int .i64 c] w fun e w' => ∃ v, e = .returned (.tuple #[v, .int .i64 (afterE ⟨⟨a0, a1⟩, li, cr, ⟨m0, m1⟩, ⟨w0, w1⟩, ⟨r0, r1⟩⟩ ⟨lo, hi⟩ c)]) ∧ Own w' w.heap.size 23 2 Sp.cells v (afterV ⟨⟨a0, a1⟩, li, cr, ⟨m0, m1⟩, ⟨w0, w1⟩, ⟨r0, r1⟩⟩ ⟨lo, hi⟩ c) ∧ Below w.heap.size w w' := by
  obtain ⟨w3, Hw3⟩ : ∃ w3, Hid ((w.alloc (.cells #[.int .i64 a0, .int .i64 a1, .int .i64 li, .int .i64 cr, .int .i64 m0, .int .i64 m1, .int .i64 w0, .int .i64 w1, .int .i64 r0, .int .i64 r1] 25)).alloc (.cells #[.int .i64 lo, .int .i64 hi] 23) = w3) := ⟨_, hide rfl⟩
  have hB : Below w.heap.size w w3 := by rw [← Hw3.out]; exact (below_new _ _).alloc (by simp) _
  have hz3 : w3.heap.size = w.heap.size + 2 := by rw [← Hw3.out]; simp
  have hs : At w3 w.heap.size [.int .i64 a0, .int .i64 a1, .int .i64 li, .int .i64 cr, .int .i64 m0, .int .i64 m1, .int .i64 w0, .int .i64 w1, .int .i64 r0, .int .i64 r1] := by rw [← Hw3.out]; exact (At.new w #[.int .i64 a0, .int .i64 a1, .int .i64 li, .int .i64 cr, .int .i64 m0, .int .i64 m1, .int .i64 w0, .int .i64 w1, .int .i64 r0, .int .i64 r1] _ w.heap.size rfl _ rfl).alloc _
  have hw : At w3 (w.heap.size + 1) [.int .i64 lo, .int .i64 hi] := by rw [← Hw3.out]; exact At.new (w.alloc _) #[.int .i64 lo, .int .i64 hi] _ (w.heap.size + 1) (by simp) _ rfl
  have hfz : ∀ j : Nat, w3.frozen? ⟨w.heap.size, j, none⟩ = false := fun j => by rw [← Hw3.out]; exact ((below_new (w.alloc _) _).frozen (p := ⟨w.heap.size, j, none⟩) (by simp)).trans (At.frozen_new w #[.int .i64 a0, .int .i64 a1, .int .i64 li, .int .i64 cr, .int .i64 m0, .int .i64 m1, .int .i64 w0, .int .i64 w1, .int .i64 r0, .int .i64 r1] _ w.heap.size rfl j)
  have hck := hide (ref06_check a0 a1 li cr m0 m1 w0 w1 r0 r1 w3)
  cases h0 : soOk ⟨⟨a0, a1⟩, li, cr, ⟨m0, m1⟩, ⟨w0, w1⟩, ⟨r0, r1⟩⟩
  · have hce : soCheck ⟨⟨a0, a1⟩, li, cr, ⟨m0, m1⟩, ⟨w0, w1⟩, ⟨r0, r1⟩⟩ = 60 := by simp [soCheck, h0]
    have hae : afterE ⟨⟨a0, a1⟩, li, cr, ⟨m0, m1⟩, ⟨w0, w1⟩, ⟨r0, r1⟩⟩ ⟨lo, hi⟩ c = 60 ∧ afterV ⟨⟨a0, a1⟩, li, cr, ⟨m0, m1⟩, ⟨w0, w1⟩, ⟨r0, r1⟩⟩ ⟨lo, hi⟩ c = [] := by simp [afterE, afterV, afterOk, h0]
    have Hae := hide hae; have Hce := hide hce
    clear hae hce h0
    go_enter Try.func15, Try.ntmps15
    go_wp2_with fail
    rw [Hw3.out]
    refine hck.out.mono ?_
    rintro e w' ⟨rfl, hb⟩
    rw [Hce.out]
    go_wp2
    go_ret2
    rw [Hae.out.1, Hae.out.2]
    exact ⟨_, rfl, Own.nil _ _ _ _ _, hB.trans (hb.mono hB.size)⟩
  · have hce : soCheck ⟨⟨a0, a1⟩, li, cr, ⟨m0, m1⟩, ⟨w0, w1⟩, ⟨r0, r1⟩⟩ = 0 := by simp [soCheck, h0]
    have hfit := So.fit_of h0
    have H0 := hide h0; have Hce := hide hce; have Hfit := hide hfit; clear h0 hce hfit
    cases h1 : Sp.ok 0 1000000000 ⟨lo, hi⟩
    · have hae : afterE ⟨⟨a0, a1⟩, li, cr, ⟨m0, m1⟩, ⟨w0, w1⟩, ⟨r0, r1⟩⟩ ⟨lo, hi⟩ c = 2 ∧ afterV ⟨⟨a0, a1⟩, li, cr, ⟨m0, m1⟩, ⟨w0, w1⟩, ⟨r0, r1⟩⟩ ⟨lo, hi⟩ c = [] := by simp [afterE, afterV, afterOk, H0.out, h1]
      have Hae := hide hae; have H1 := hide h1
      clear hae h1
      go_enter Try.func15, Try.ntmps15
      go_wp2_with fail
      rw [Hw3.out]
      refine hck.out.mono ?_
      rintro e w4 ⟨rfl, hb⟩
      rw [Hce.out]
      obtain ⟨z0, z1⟩ := (hw.below hb).c2
      go_wp2_with (go_at_call 36; refine (spanned_any _ _ _ _ _).mono ?_; rintro e w5 ⟨rfl, hb5⟩; rw [H1.out])
      go_ret2
      rw [Hae.out.1, Hae.out.2]
      exact ⟨_, rfl, Own.nil _ _ _ _ _, hB.trans ((hb.mono hB.size).trans (hb5.mono (by have := hb.size; have := hB.size; omega)))⟩
    · cases h2 : inB 0 100 c
      · have hae : afterE ⟨⟨a0, a1⟩, li, cr, ⟨m0, m1⟩, ⟨w0, w1⟩, ⟨r0, r1⟩⟩ ⟨lo, hi⟩ c = 2 ∧ afterV ⟨⟨a0, a1⟩, li, cr, ⟨m0, m1⟩, ⟨w0, w1⟩, ⟨r0, r1⟩⟩ ⟨lo, hi⟩ c = [] := by simp [afterE, afterV, afterOk, H0.out, h1, h2]
        have Hae := hide hae; have H1 := hide h1; have H2 := hide h2
        clear hae h1 h2
        go_enter Try.func15, Try.ntmps15
        go_wp2_with fail
        rw [Hw3.out]
        refine hck.out.mono ?_
        rintro e w4 ⟨rfl, hb⟩
        rw [Hce.out]
        obtain ⟨z0, z1⟩ := (hw.below hb).c2
        go_wp2_with (first | (go_at_call 36; refine (spanned_any _ _ _ _ _).mono ?_; rintro e w5 ⟨rfl, hb5⟩; rw [H1.out]) | (go_at_call 52; refine (aflajref06_within _ _ _ _).mono ?_; rintro e w6 ⟨rfl, rfl⟩; rw [H2.out]))
        go_ret2
        rw [Hae.out.1, Hae.out.2]
        exact ⟨_, rfl, Own.nil _ _ _ _ _, hB.trans ((hb.mono hB.size).trans (hb5.mono (by have := hb.size; have := hB.size; omega)))⟩
      · have hc01 : 0 ≤ c ∧ c ≤ 100 := by simpa [inB] using h2
        have hlh : 0 ≤ lo ∧ lo ≤ hi ∧ hi ≤ 1000000000 := by simp [Sp.ok] at h1; omega
        obtain ⟨n, rfl⟩ : ∃ n : Nat, c = n := ⟨c.toNat, by omega⟩
        have hn : n ≤ 100 := by omega
        have hae : afterE ⟨⟨a0, a1⟩, li, cr, ⟨m0, m1⟩, ⟨w0, w1⟩, ⟨r0, r1⟩⟩ ⟨lo, hi⟩ n = 0 ∧ afterV ⟨⟨a0, a1⟩, li, cr, ⟨m0, m1⟩, ⟨w0, w1⟩, ⟨r0, r1⟩⟩ ⟨lo, hi⟩ n = afterL ⟨⟨a0, a1⟩, li, cr, ⟨m0, m1⟩, ⟨w0, w1⟩, ⟨r0, r1⟩⟩ ⟨lo, hi⟩ n := by simp [afterE, afterV, afterOk, H0.out, h1, h2]
        have Hae := hide hae; have H1 := hide h1; have H2 := hide h2
        clear hae h1 h2
        go_enter Try.func15, Try.ntmps15
        go_wp2_with fail
        rw [Hw3.out]
        refine hck.out.mono ?_
        rintro e w4 ⟨rfl, hb⟩
        rw [Hce.out]
        obtain ⟨z0, z1⟩ := (hw.below hb).c2
        go_wp2_with (first | (go_at_call 36; refine (spanned_any _ _ _ _ _).mono ?_; rintro e w5 ⟨rfl, hb5⟩; rw [H1.out]) | (go_at_call 52; refine (aflajref06_within _ _ _ _).mono ?_; rintro e w6 ⟨rfl, rfl⟩; rw [H2.out]))
        have hb35 : Below w3.heap.size w3 w5 := hb.trans (hb5.mono hb.size)
        have hs5 := hs.below hb35
        have hw5 := hw.below hb35
        have hf5 : ∀ j : Nat, w5.frozen? ⟨w.heap.size, j, none⟩ = false := fun j => (hb35.frozen (p := ⟨w.heap.size, j, none⟩) (by simp; omega)).trans (hfz j)
        have hB5 : Below w.heap.size w w5 := hB.trans (hb35.mono hB.size)
        have Hi0 := hide (And.intro hs5 (And.intro hw5 (And.intro hf5 hB5)))
        have hz5 : w.heap.size + 2 ≤ w5.heap.size := by have := hb35.size; omega
        clear hs hw hfz hck hs5 hw5 hf5 z0 z1 hb hb5 hb35 hB5
        go_loopw [8, 9] (fun v i wr => ∃ (k : Nat), k ≤ n ∧ i = .int .i64 k ∧ Hid (Below w.heap.size w wr) ∧ Hid (At wr w.heap.size (So.set ⟨⟨a0, a1⟩, li, cr, ⟨m0, m1⟩, ⟨w0, w1⟩, ⟨r0, r1⟩⟩ (saltN ⟨⟨a0, a1⟩, li, cr, ⟨m0, m1⟩, ⟨w0, w1⟩, ⟨r0, r1⟩⟩ ⟨lo, hi⟩ k)).cells) ∧ Hid (At wr (w.heap.size + 1) [.int .i64 lo, .int .i64 hi]) ∧ Hid (∀ j : Nat, wr.frozen? ⟨w.heap.size, j, none⟩ = false) ∧ w.heap.size + 2 ≤ wr.heap.size ∧ Own wr (w.heap.size + 2) 23 2 Sp.cells v (afterL ⟨⟨a0, a1⟩, li, cr, ⟨m0, m1⟩, ⟨w0, w1⟩, ⟨r0, r1⟩⟩ ⟨lo, hi⟩ k)) (fun _ i _ => n - (intOf i).toNat)
        case atStart => exact ⟨0, by omega, rfl, hide Hi0.out.2.2.2, hide Hi0.out.1, hide Hi0.out.2.1, hide Hi0.out.2.2.1, hz5, Own.nil _ _ _ _ _⟩
        case round =>
          obtain ⟨k, hk, rfl, hbl, hs, hw, hz, hsz, hown⟩ := hrel
          have Hown := hide hown; clear hown Hi0 hz5
          by_cases hlt : k < n
          · obtain ⟨x, y, hxy⟩ : ∃ x y, saltN ⟨⟨a0, a1⟩, li, cr, ⟨m0, m1⟩, ⟨w0, w1⟩, ⟨r0, r1⟩⟩ ⟨lo, hi⟩ k = ⟨x, y⟩ := ⟨_, _, rfl⟩
            have hfit := saltN_fit (w := ⟨lo, hi⟩) Hfit.out hlh.1 hlh.2.1 hlh.2.2 (k := k) (by omega)
            rw [hxy] at hfit
            have hat : At wr w.heap.size [.int .i64 x, .int .i64 y, .int .i64 li, .int .i64 cr, .int .i64 m0, .int .i64 m1, .int .i64 w0, .int .i64 w1, .int .i64 r0, .int .i64 r1] := by
              have h1 := hs.out
              rw [hxy] at h1
              exact h1
            obtain ⟨q0, q1, q2, q3, q4, q5, q6, q7, q8, q9⟩ := hat.c10
            obtain ⟨z0, z1⟩ := hw.out.c2
            have haf := rcycle_any x y li cr m0 m1 w0 w1 r0 r1 lo hi wr hfit hlh.1 hlh.2.1 hlh.2.2
            have hnx : saltN ⟨⟨a0, a1⟩, li, cr, ⟨m0, m1⟩, ⟨w0, w1⟩, ⟨r0, r1⟩⟩ ⟨lo, hi⟩ (k + 1) = cycleF (So.set ⟨⟨a0, a1⟩, li, cr, ⟨m0, m1⟩, ⟨w0, w1⟩, ⟨r0, r1⟩⟩ ⟨x, y⟩) ⟨lo, hi⟩ := by rw [← hxy]; rfl
            obtain ⟨x', y', hxy'⟩ : ∃ x' y', cycleF (So.set ⟨⟨a0, a1⟩, li, cr, ⟨m0, m1⟩, ⟨w0, w1⟩, ⟨r0, r1⟩⟩ ⟨x, y⟩) ⟨lo, hi⟩ = ⟨x', y'⟩ := ⟨_, _, rfl⟩
            have h2 : cycleF ⟨⟨x, y⟩, li, cr, ⟨m0, m1⟩, ⟨w0, w1⟩, ⟨r0, r1⟩⟩ ⟨lo, hi⟩ = ⟨x', y'⟩ := hxy'
            rw [h2] at haf
            rw [hxy'] at hnx
            have Haf := hide haf; have Hnx := hide hnx
            clear hnx hxy hxy' h2 haf hfit
            go_wp2_with fail
            refine Haf.out.mono ?_
            rintro e w' ⟨rfl, hb⟩
            have hat2 := hide (((hat.below hb).set (j := 0) (.int .i64 x') (by simp)).set (j := 1) (.int .i64 y') (by simp))
            obtain ⟨p0, p1⟩ := two_set w' w.heap.size (.int .i64 x') (.int .i64 y') (hat.below hb).c10.1 (hat.below hb).c10.2.1
            obtain ⟨c0, c1, _⟩ := (hat.below hb).c10
            have f0 : w'.frozen? ⟨w.heap.size, 0, none⟩ = false := (hb.frozen (p := ⟨w.heap.size, 0, none⟩) hat.1).trans (hz.out 0)
            have f1 : w'.frozen? ⟨w.heap.size, 1, none⟩ = false := (hb.frozen (p := ⟨w.heap.size, 1, none⟩) hat.1).trans (hz.out 1)
            obtain ⟨ws, Hws⟩ : ∃ ws, Hid ((w'.setCell ⟨w.heap.size, 0, none⟩ (.int .i64 x')).setCell ⟨w.heap.size, 1, none⟩ (.int .i64 y') = ws) := ⟨_, hide rfl⟩
            have kk : Kept (fun b => ¬ b = w.heap.size) wr ws := by
              rw [← Hws.out]
              exact ((Kept.all _ hb).trans ((Kept.setCell w' ⟨w.heap.size, 0, none⟩ (.int .i64 x')).mono fun b _ h => h)).trans ((Kept.setCell _ ⟨w.heap.size, 1, none⟩ (.int .i64 y')).mono fun b _ h => h)
            have hos := hide (Hown.out.keptR kk (fun b hb => by omega))
            have hfs : Hid (∀ j : Nat, ws.frozen? ⟨w.heap.size, j, none⟩ = false) := hide fun j => by
              rw [← Hws.out, World.frozen?_setCell, World.frozen?_setCell]
              exact (hb.frozen (p := ⟨w.heap.size, j, none⟩) hat.1).trans (hz.out j)
            have hws := hide (hw.out.kept kk (by omega))
            have hbs := hide (hbl.out.trans (kk.below (fun b hb => by omega) hbl.out.size))
            have hszs : w.heap.size + 2 ≤ ws.heap.size := Nat.le_trans hsz kk.size
            have hr := hide (Rd.new (cells := Sp.cells) ws #[.int .i64 x', .int .i64 y'] 23 [⟨x', y'⟩] rfl)
            have hszw : ws.heap.size = w'.heap.size := by rw [← Hws.out]; simp [World.setCell]
            rw [hszw] at hr
            rw [Hws.out] at hat2
            simp only [List.set_cons_zero, List.set_cons_succ] at hat2
            have Kk := hide kk
            clear kk
            go_wp2_with (at_builtin; rw [Hws.out]; refine appl_Sp rfl _ (.tmp 30) (.tmp 33) rfl (w.heap.size + 2) u8 (afterL ⟨⟨a0, a1⟩, li, cr, ⟨m0, m1⟩, ⟨w0, w1⟩, ⟨r0, r1⟩⟩ ⟨lo, hi⟩ k) rfl (hos.out.alloc _) _ _ 1 1 [⟨x', y'⟩] rfl rfl hr.out (by rw [afterL_len]; simp; omega) (by simp; omega) ?_; intro vv wv hown1 hg1)
            have kv : Kept (fun b => b < w.heap.size + 2) ws wv := kept_app hos.out hg1
            refine ⟨⟨k + 1, by omega, by go_num, hide (hbs.out.trans (kv.below (fun b hb => by omega) hbs.out.size)), hide ?_, hide (hws.out.kept kv (by omega)), hide (fun j => (kv.frozen (p := ⟨w.heap.size, j, none⟩) (by show w.heap.size < _; omega) hat2.out.1).trans (hfs.out j)), Nat.le_trans hszs kv.size, ?_⟩, by simp [intOf]; omega⟩
            · rw [Hnx.out]
              exact hat2.out.kept kv (by omega)
            · rw [afterL_succ, Hnx.out]
              exact hown1
          · obtain rfl : k = n := by omega
            go_wp2_with fail
            go_ret2
            rw [Hae.out.1, Hae.out.2]
            exact ⟨_, rfl, Hown.out.mono (by omega), hbl.out⟩
end Go.Proofs.Ytmbhnjpaieimbaa
