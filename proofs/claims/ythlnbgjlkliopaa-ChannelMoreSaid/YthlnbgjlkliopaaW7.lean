/- Channel: Waters, by contract. -/
import Derived.Test.YthlnbgjlkliopaaW6
set_option linter.unusedVariables false
set_option linter.unusedSimpArgs false
namespace Go.Proofs.Ythlnbgjlkliopaa
open Go.RowKit Go.Shelf
attribute [local go_sem ↓] Go.wp_at_zero Go.wp_at_succ
/-- What Waters answers. -/
def watersS (cs : List Ca) (fs : List Int) (dry days a b : Int) (us : List Us) : (List Sp × List Sp) × Int :=
  if netOk cs fs dry days then (if Sp.ok 0 13000000 ⟨a, b⟩ then (if usesOk fs.length days us then (watersK cs fs dry (days * 1440) a b us us.length, 0) else (([], []), 51)) else (([], []), 21)) else (([], []), 50)
set_option maxHeartbeats 4000000 in
set_option maxRecDepth 100000 in
theorem waters_fn (Ac Af Au : Option Addr) (nc cc nf cf nu cu : Nat) (dry days a b : Int) (cs : List Ca) (fs : List Int) (us : List Us) (w : World) (hnet : NetAt w Ac Af nc nf cs fs) (hus : Rd w w.heap.size Us.cells Au us) (hnu : nu = us.length) (hnu2 : nu ≤ 100000) :
    Calls Try.prog 6 #[.agg #[.slice Ac nc cc, .slice Af nf cf, .int .i64 dry, .int .i64 days], .agg #[.int .i64 a, .int .i64 b], .slice Au nu cu] w fun e w' => ∃ v1 v2, e = .returned (.tuple #[v1, v2, .int .i64 (watersS cs fs dry days a b us).2]) ∧
      Own w' w.heap.size 27 2 Sp.cells v1 (watersS cs fs dry days a b us).1.1 ∧ Own w' w.heap.size 27 2 Sp.cells v2 (watersS cs fs dry days a b us).1.2 ∧ Below w.heap.size w w' := by
  have hat0 := (At.new w #[.slice Ac nc cc, .slice Af nf cf, .int .i64 dry, .int .i64 days] 25 w.heap.size rfl _ rfl).alloc (.cells #[.int .i64 a, .int .i64 b] 27)
  have hat1 := At.new (w.alloc (.cells #[.slice Ac nc cc, .slice Af nf cf, .int .i64 dry, .int .i64 days] 25)) #[.int .i64 a, .int .i64 b] 27 (w.heap.size + 1) (by simp) _ rfl
  have hB0 := (below_new w (.cells #[.slice Ac nc cc, .slice Af nf cf, .int .i64 dry, .int .i64 days] 25)).alloc (by simp) (.cells #[.int .i64 a, .int .i64 b] 27)
  have hE := fun W h => enter_any Ac Af nc cc nf cf dry days cs fs a b W h
  have hnf2 := hnet.nf2
  have Hus := hide hus; have Hnu := hide hnu; have Hnet := hide hnet
  clear hus hnu hnet
  cases hgo : (netOk cs fs dry days && Sp.ok 0 13000000 ⟨a, b⟩)
  · obtain ⟨er, her, hne⟩ : ∃ er : Int, er = (if netOk cs fs dry days then (if Sp.ok 0 13000000 ⟨a, b⟩ then 0 else 21) else 50) ∧ (er = 21 ∨ er = 50) := by
      refine ⟨_, rfl, ?_⟩
      cases h1 : netOk cs fs dry days <;> cases h2 : Sp.ok 0 13000000 ⟨a, b⟩ <;> simp [h1, h2] at hgo ⊢
    have hs : watersS cs fs dry days a b us = (([], []), er) := by
      rw [her]; unfold watersS
      cases h1 : netOk cs fs dry days <;> cases h2 : Sp.ok 0 13000000 ⟨a, b⟩ <;> simp [h1, h2] at hgo ⊢
    rw [hs]
    rw [← her] at hE
    have HE := hide hE
    clear hE her hs hgo
    rcases hne with rfl | rfl
    all_goals
      go_enter Try.func6, Try.ntmps6
      go_wp2_with fail
      refine calls_gen fun W1 HW1 => ?_
      rw [HW1.out] at hat0 hat1 hB0
      refine (HE.out W1 (Hnet.out.below hB0)).mono ?_
      rintro e w2 ⟨rfl, hb2⟩
      go_wp2
      go_ret3
      exact ⟨_, _, rfl, Own.nil _ _ _ _ _, Own.nil _ _ _ _ _, hB0.trans (hb2.mono hB0.size)⟩
  · rw [Bool.and_eq_true] at hgo
    obtain ⟨hok, hsp⟩ := hgo
    rw [hok, hsp] at hE
    simp only [if_true] at hE
    have hs : watersS cs fs dry days a b us = if usesOk nf days us then (watersK cs fs dry (days * 1440) a b us us.length, 0) else (([], []), 51) := by simp [watersS, hok, hsp, Hnet.out.ef]
    rw [hs]
    have hdy := (netOk_parts hok).2.2.2.1
    have HE := hide hE; have Hok := hide hok; have Hsp := hide hsp
    clear hE hok hsp hs
    cases hin : usesOk nf days us
    all_goals
      have Hin := hide hin
      clear hin
      go_enter Try.func6, Try.ntmps6
      go_wp2_with fail
      refine calls_gen fun W1 HW1 => ?_
      rw [HW1.out] at hat0 hat1 hB0
      refine (HE.out W1 (Hnet.out.below hB0)).mono ?_
      rintro e w2 ⟨rfl, hb2⟩
      have hat2 := hat0.below hb2
      have hat3 := hat1.below hb2
      have hB2 := hB0.trans (hb2.mono hB0.size)
      obtain ⟨q0, q1, q2, q3⟩ := hat2.c4
      clear hat0 hB0 hb2 hat1
      go_wp2_with fail
      refine calls_gen fun W3 HW3 => ?_
      have hb3 : Below w2.heap.size w2 W3 := by rw [← HW3.out]; exact below_new _ _
      have hx3 : At W3 w2.heap.size [.slice Ac nc cc, .slice Af nf cf, .int .i64 dry, .int .i64 days] := by rw [← HW3.out]; exact At.new w2 _ _ _ rfl _ rfl
      have hB3 := hB2.trans (hb3.mono hB2.size)
      refine (right_any Ac Af nc cc nf cf dry days Au us nu cu W3 ((Hus.out.below hB3).more hB3.size) Hnu.out hnu2 hnf2 hdy.1 hdy.2).mono ?_
      rintro e w4 ⟨rfl, hb4⟩
      rw [Hin.out]
      have hB4 := hB3.trans (hb4.mono hB3.size)
    · go_wp2
      go_ret3
      exact ⟨_, _, rfl, Own.nil _ _ _ _ _, Own.nil _ _ _ _ _, hB4⟩
    · obtain ⟨q0', q1', q2', q3'⟩ := (hx3.below hb4).c4
      obtain ⟨p0, p1⟩ := ((hat3.below hb3).below hb4).c2
      go_wp2_with fail
      refine (waters_any Ac Af Au nc cc nf cf nu cu dry days a b cs fs us w4 (Hnet.out.below hB4) ((Hus.out.below hB4).more hB4.size) Hnu.out Hok.out Hin.out Hsp.out).mono ?_
      rintro e w5 ⟨gf, gl, rfl, hof, hol, hb5⟩
      have Hof := hide hof; have Hol := hide hol
      clear hof hol
      go_wp2
      go_ret3
      exact ⟨_, _, rfl, Hof.out.mono hB4.size, Hol.out.mono hB4.size, hB4.trans (hb5.mono hB4.size)⟩
end Go.Proofs.Ythlnbgjlkliopaa
