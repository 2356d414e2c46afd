/- Channel: Moves, by contract. -/
import Derived.Test.YthlnbgjlkliopaaC9
set_option linter.unusedVariables false
set_option linter.unusedSimpArgs false
namespace Go.Proofs.Ythlnbgjlkliopaa
open Go.RowKit Go.Shelf
def movesS (cs : List Ca) (fs : List Int) (dry days a b : Int) : List Int × List Int × Int :=
  if netOk cs fs dry days then (if inF fs.length a && inF fs.length b then (onlyK cs fs a b cs.length, onlyK cs fs b a cs.length, 0) else ([], [], 2)) else ([], [], 50)

set_option maxHeartbeats 4000000 in
set_option maxRecDepth 100000 in
theorem moves_fn (Ac Af : Option Addr) (nc cc nf cf : Nat) (dry days : Int) (cs : List Ca) (fs : List Int) (a b : Int) (w : World) (hnet : NetAt w Ac Af nc nf cs fs) :
    Calls Try.prog 13 #[.agg #[.slice Ac nc cc, .slice Af nf cf, .int .i64 dry, .int .i64 days], .int .i64 a, .int .i64 b] w fun e w' => ∃ v u, e = .returned (.tuple #[v, u, .int .i64 (movesS cs fs dry days a b).2.2]) ∧ Own w' w.heap.size 3 1 icell v (movesS cs fs dry days a b).1 ∧ Own w' w.heap.size 3 1 icell u (movesS cs fs dry days a b).2.1 ∧ Below w.heap.size w w' := by
  have hat0 := At.new w #[.slice Ac nc cc, .slice Af nf cf, .int .i64 dry, .int .i64 days] 25 w.heap.size rfl _ rfl
  have hB0 := below_new w (.cells #[.slice Ac nc cc, .slice Af nf cf, .int .i64 dry, .int .i64 days] 25)
  cases hok : netOk cs fs dry days
  · have he : netErr cs fs dry days = 50 := by simp [netErr, hok]
    have hs : movesS cs fs dry days a b = ([], [], 50) := by simp [movesS, hok]
    rw [hs]
    have He := hide he
    clear he hs hok
    go_enter Try.func13, Try.ntmps13
    go_wp2_with fail
    refine calls_gen fun W1 HW1 => ?_
    rw [HW1.out] at hat0 hB0
    refine (chanCheck_any Ac Af nc cc nf cf dry days cs fs W1 (hnet.below hB0)).mono ?_
    rintro e w2 ⟨rfl, hb2⟩
    rw [He.out]
    go_wp2
    go_ret3
    exact ⟨_, _, rfl, Own.nil _ _ _ _ _, Own.nil _ _ _ _ _, hB0.trans (hb2.mono hB0.size)⟩
  · have he : netErr cs fs dry days = 0 := by simp [netErr, hok]
    have hs : movesS cs fs dry days a b = if inF nf a && inF nf b then (onlyK cs fs a b cs.length, onlyK cs fs b a cs.length, 0) else ([], [], 2) := by simp [movesS, hok, hnet.ef]
    rw [hs]
    have He := hide he; have Hok := hide hok
    have hnf2 := hnet.nf2
    clear he hs hok
    cases hin : inF nf a && inF nf b
    all_goals
      have Hin := hide hin
      clear hin
      go_enter Try.func13, Try.ntmps13
      go_wp2_with fail
      refine calls_gen fun W1 HW1 => ?_
      rw [HW1.out] at hat0 hB0
      refine (chanCheck_any Ac Af nc cc nf cf dry days cs fs W1 (hnet.below hB0)).mono ?_
      rintro e w2 ⟨rfl, hb2⟩
      rw [He.out]
      have hat2 := hat0.below hb2
      have hB2 := hB0.trans (hb2.mono hB0.size)
      obtain ⟨q0, q1, q2, q3⟩ := hat2.c4
      clear hat0 hB0 hb2
      go_wp2_with fail
      refine calls_gen fun W3 HW3 => ?_
      have hb3 : Below w2.heap.size w2 W3 := by rw [← HW3.out]; exact (below_new _ _).alloc (by simp) _
      have hbx : At W3 w2.heap.size [.slice Ac nc cc, .slice Af nf cf, .int .i64 dry, .int .i64 days] := by rw [← HW3.out]; exact (At.new w2 _ _ _ rfl _ rfl).alloc _
      have hlit : Rd W3 W3.heap.size icell (some ⟨w2.heap.size + 1, 0, none⟩) [a, b] := by
        rw [← HW3.out]
        simpa using Rd.new (cells := icell) (w2.alloc _) #[.int .i64 a, .int .i64 b] 3 [a, b] rfl
      refine (field_any Ac Af nc cc nf cf dry days _ [a, b] 2 2 W3 rfl (by omega) hlit hnf2).mono ?_
      rintro e w4 ⟨rfl, hb4⟩
      rw [field_lit2]
      have hat4 := (hat2.below hb3).below hb4
      have hbx4 := hbx.below hb4
      have hB4 := hB2.trans ((hb3.trans (hb4.mono hb3.size)).mono hB2.size)
      clear hat2 hB2 hb3 hb4 hlit q0 q1 q2 q3 hbx
      rw [show ((decide (0 ≤ a) && decide (a < nf)) && (decide (0 ≤ b) && decide (b < nf))) = (inF nf a && inF nf b) from rfl, Hin.out]
    · go_wp2
      go_ret3
      exact ⟨_, _, rfl, Own.nil _ _ _ _ _, Own.nil _ _ _ _ _, hB4⟩
    · have hk2 : (0 ≤ a ∧ a < nf) ∧ (0 ≤ b ∧ b < nf) := by have := Hin.out; simp [inF] at this; exact this
      obtain ⟨⟨a0, a1⟩, b0, b1⟩ := hk2
      have H1 := hide (only_any Ac Af nc cc nf cf dry days cs fs a b w2.heap.size w.heap.size w4 (hnet.below hB4) Hok.out hbx4 hat4 a0 a1 b0 b1)
      have H2 := hide (fun w' hb => only_any Ac Af nc cc nf cf dry days cs fs b a w2.heap.size w.heap.size w' ((hnet.below hB4).below hb) Hok.out (hbx4.below hb) (hat4.below hb) b0 b1 a0 a1)
      have Hnet := hide hnet
      clear hnet hbx4 hat4
      go_wp2_with fail
      refine H1.out.mono ?_
      rintro e w5 ⟨v, rfl, ho, hb5⟩
      have Ho := hide ho
      clear ho
      go_wp2_with fail
      refine (H2.out w5 hb5).mono ?_
      rintro e w6 ⟨u, rfl, ho2, hb6⟩
      have Ho2 := hide ho2
      clear ho2
      go_wp2
      go_ret3
      exact ⟨v, u, rfl, (Ho.out.below hb6).mono hB4.size, Ho2.out.mono (Nat.le_trans hB4.size hb5.size), hB4.trans ((hb5.trans (hb6.mono hb5.size)).mono hB4.size)⟩
end Go.Proofs.Ythlnbgjlkliopaa
