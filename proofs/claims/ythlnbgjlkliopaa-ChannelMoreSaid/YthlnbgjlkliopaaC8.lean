/- Channel: Path, and the moves of stones, by contracts. -/
import Derived.Test.YthlnbgjlkliopaaC7
set_option linter.unusedVariables false
set_option linter.unusedSimpArgs false
namespace Go.Proofs.Ythlnbgjlkliopaa
open Go.RowKit Go.Shelf
attribute [local go_sem] Oper.semAt_some
set_option maxHeartbeats 4000000 in
set_option maxRecDepth 100000 in
theorem path_fn (Ac Af : Option Addr) (nc cc nf cf : Nat) (dry days : Int) (cs : List Ca) (fs : List Int) (k : Int) (w : World) (hnet : NetAt w Ac Af nc nf cs fs) :
    Calls Try.prog 11 #[.agg #[.slice Ac nc cc, .slice Af nf cf, .int .i64 dry, .int .i64 days], .int .i64 k] w fun e w' => ∃ v, e = .returned (.tuple #[v, .int .i64 (pathS cs fs dry days k).2]) ∧ Own w' w.heap.size 3 1 icell v (pathS cs fs dry days k).1 ∧ Below w.heap.size w w' := by
  have hat0 := At.new w #[.slice Ac nc cc, .slice Af nf cf, .int .i64 dry, .int .i64 days] 25 w.heap.size rfl _ rfl
  have hB0 := below_new w (.cells #[.slice Ac nc cc, .slice Af nf cf, .int .i64 dry, .int .i64 days] 25)
  cases hok : netOk cs fs dry days
  · have he : netErr cs fs dry days = 50 := by simp [netErr, hok]
    have hs : pathS cs fs dry days k = ([], 50) := by simp [pathS, hok]
    rw [hs]
    have He := hide he
    clear he hs hok
    go_enter Try.func11, Try.ntmps11
    go_wp2_with fail
    refine calls_gen fun W1 HW1 => ?_
    rw [HW1.out] at hat0 hB0
    refine (chanCheck_any Ac Af nc cc nf cf dry days cs fs W1 (hnet.below hB0)).mono ?_
    rintro e w2 ⟨rfl, hb2⟩
    rw [He.out]
    go_wp2
    go_ret2
    exact ⟨_, rfl, Own.nil _ _ _ _ _, hB0.trans (hb2.mono hB0.size)⟩
  · have he : netErr cs fs dry days = 0 := by simp [netErr, hok]
    have hs : pathS cs fs dry days k = if inF nf k then (pathK cs fs k, 0) else ([], 2) := by simp [pathS, hok, hnet.ef]
    rw [hs]
    have He := hide he; have Hok := hide hok
    have hnf2 := hnet.nf2
    clear he hs hok
    cases hin : inF nf k
    all_goals
      have Hin := hide hin
      clear hin
      go_enter Try.func11, Try.ntmps11
      go_wp2_with fail
      refine calls_gen fun W1 HW1 => ?_
      rw [HW1.out] at hat0 hB0
      refine (chanCheck_any Ac Af nc cc nf cf dry days cs fs W1 (hnet.below hB0)).mono ?_
      rintro e w2 ⟨rfl, hb2⟩
      rw [He.out]
      have hat2 := hat0.below hb2
      have hB2 := hB0.trans (hb2.mono hB0.size)
      obtain ⟨q0, q1, q2, q3⟩ := hat2.c4
      clear hat0 hB0 hb2
      go_wp2_with fail
      refine calls_gen fun W3 HW3 => ?_
      have hb3 : Below w2.heap.size w2 W3 := by rw [← HW3.out]; exact below_new _ _
      have hlit : Rd W3 W3.heap.size icell (some ⟨w2.heap.size, 0, none⟩) [k] := by rw [← HW3.out]; exact Rd.lit1 (cell_new _ _ _ _ _ rfl) (by simp)
      refine (field_any Ac Af nc cc nf cf dry days _ [k] 1 1 W3 rfl (by omega) hlit hnf2).mono ?_
      rintro e w4 ⟨rfl, hb4⟩
      rw [field_lit1]
      have hat4 := (hat2.below hb3).below hb4
      have hB4 := hB2.trans ((hb3.trans (hb4.mono hb3.size)).mono hB2.size)
      clear hat2 hB2 hb3 hb4 hlit q0 q1 q2 q3
      obtain ⟨q0, q1, q2, q3⟩ := hat4.c4
      rw [show (decide (0 ≤ k) && decide (k < nf)) = inF nf k from rfl, Hin.out]
    · go_wp2
      go_ret2
      exact ⟨_, rfl, Own.nil _ _ _ _ _, hB4⟩
    · go_wp2_with fail
      have hk2 : 0 ≤ k ∧ k < nf := by have := Hin.out; simp [inF] at this; exact this
      refine (path_net Ac Af nc cc nf cf dry days cs fs k w4 (hnet.below hB4) Hok.out hk2.1 hk2.2).mono ?_
      rintro e w5 ⟨v, rfl, ho, hb5⟩
      have Ho := hide ho
      clear ho
      go_wp2
      go_ret2
      exact ⟨v, rfl, Ho.out.mono hB4.size, hB4.trans (hb5.mono hB4.size)⟩
end Go.Proofs.Ythlnbgjlkliopaa
