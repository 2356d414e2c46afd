/- Salt: Need, by contracts. -/
import Derived.Test.YtmbhnjpaieimbaaS10
set_option linter.unusedVariables false
set_option linter.unusedSimpArgs false
namespace Go.Proofs.Ytmbhnjpaieimbaa
open Go.RowKit Go.Shelf
theorem So.limit_of {s : So} (h : soOk s = true) : 0 ≤ s.limit ∧ s.limit ≤ 100000000 := by
  simp [soOk, Sp.ok, inB] at h
  omega
theorem enters_need1 : ∀ args w, (callFunc 54 args).run Try.prog w = .ok (.enter 54 args) w := enters_of Try.func54 (by kernel_rfl) rfl

set_option maxHeartbeats 8000000 in
set_option maxRecDepth 100000 in
theorem need_fn (a0 a1 li cr m0 m1 w0 w1 r0 r1 : Int) (w : World) :
    Calls Try.prog 16 #[.agg #[.int .i64 a0, .int .i64 a1, .int .i64 li, .int .i64 cr, .int .i64 m0, .int .i64 m1, .int .i64 w0, .int .i64 w1, .int .i64 r0, .int .i64 r1]] w fun e w' => e = .returned (.tuple #[.int .i64 (needF ⟨⟨a0, a1⟩, li, cr, ⟨m0, m1⟩, ⟨w0, w1⟩, ⟨r0, r1⟩⟩).1, .int .i64 (needF ⟨⟨a0, a1⟩, li, cr, ⟨m0, m1⟩, ⟨w0, w1⟩, ⟨r0, r1⟩⟩).2]) ∧ Below w.heap.size w w' := by
  obtain ⟨w3, Hw3⟩ : ∃ w3, Hid (w.alloc (.cells #[.int .i64 a0, .int .i64 a1, .int .i64 li, .int .i64 cr, .int .i64 m0, .int .i64 m1, .int .i64 w0, .int .i64 w1, .int .i64 r0, .int .i64 r1] 25) = w3) := ⟨_, hide rfl⟩
  have hB : Below w.heap.size w w3 := by rw [← Hw3.out]; exact below_new _ _
  have hs : At w3 w.heap.size [.int .i64 a0, .int .i64 a1, .int .i64 li, .int .i64 cr, .int .i64 m0, .int .i64 m1, .int .i64 w0, .int .i64 w1, .int .i64 r0, .int .i64 r1] := by rw [← Hw3.out]; exact At.new w #[.int .i64 a0, .int .i64 a1, .int .i64 li, .int .i64 cr, .int .i64 m0, .int .i64 m1, .int .i64 w0, .int .i64 w1, .int .i64 r0, .int .i64 r1] _ w.heap.size rfl _ rfl
  have hck := hide (salt_check a0 a1 li cr m0 m1 w0 w1 r0 r1 w3)
  cases h0 : soOk ⟨⟨a0, a1⟩, li, cr, ⟨m0, m1⟩, ⟨w0, w1⟩, ⟨r0, r1⟩⟩
  · have hce : soCheck ⟨⟨a0, a1⟩, li, cr, ⟨m0, m1⟩, ⟨w0, w1⟩, ⟨r0, r1⟩⟩ = 60 := by simp [soCheck, h0]
    have hae : needF ⟨⟨a0, a1⟩, li, cr, ⟨m0, m1⟩, ⟨w0, w1⟩, ⟨r0, r1⟩⟩ = (0, 60) := by simp [needF, h0]
    have Hce := hide hce
    rw [hae]
    clear hae hce h0
    go_enter Try.func16, Try.ntmps16
    go_wp2_with fail
    rw [Hw3.out]
    refine hck.out.mono ?_
    rintro e w' ⟨rfl, hb⟩
    rw [Hce.out]
    go_wp2
    go_ret2
    exact ⟨rfl, hB.trans (hb.mono hB.size)⟩
  · have hce : soCheck ⟨⟨a0, a1⟩, li, cr, ⟨m0, m1⟩, ⟨w0, w1⟩, ⟨r0, r1⟩⟩ = 0 := by simp [soCheck, h0]
    have hfit := So.fit_of h0
    have hlim := So.limit_of h0
    have hnf : needF ⟨⟨a0, a1⟩, li, cr, ⟨m0, m1⟩, ⟨w0, w1⟩, ⟨r0, r1⟩⟩ = needR ⟨⟨a0, a1⟩, li, cr, ⟨m0, m1⟩, ⟨w0, w1⟩, ⟨r0, r1⟩⟩ := by simp [needF, h0]
    rw [hnf]
    have hcr : 0 ≤ cr ∧ cr ≤ 1000000000 := hfit.cr
    have hli : 0 ≤ li ∧ li ≤ 100000000 := hlim
    have H0 := hide h0; have Hce := hide hce; have Hfit := hide hfit; clear h0 hce hfit hlim hnf
    cases hfc : fineF ⟨⟨a0, a1⟩, li, cr, ⟨m0, m1⟩, ⟨w0, w1⟩, ⟨r0, r1⟩⟩ cr
    all_goals
      have Hfc := hide hfc; clear hfc
      go_enter Try.func16, Try.ntmps16
      go_wp2_with fail
      rw [Hw3.out]
      refine hck.out.mono ?_
      rintro e w4 ⟨rfl, hb⟩
      rw [Hce.out]
      have hs4 := hs.below hb
      obtain ⟨q0, q1, q2, q3, q4, q5, q6, q7, q8, q9⟩ := hs4.c10
      obtain ⟨w5, Hw5⟩ : ∃ w5, Hid ((w4.alloc (.cells #[.int .i64 a0, .int .i64 a1, .int .i64 li, .int .i64 cr, .int .i64 m0, .int .i64 m1, .int .i64 w0, .int .i64 w1, .int .i64 r0, .int .i64 r1] 107)).alloc (.cells #[.func (.func 54) #[] #[.pointer (some ⟨w4.heap.size, 0, none⟩), .pointer (some ⟨w.heap.size, 0, none⟩)]] 76) = w5) := ⟨_, hide rfl⟩
      have hb45 : Below w4.heap.size w4 w5 := by rw [← Hw5.out]; exact (below_new _ _).alloc (by simp) _
      have hx5 : At w5 w4.heap.size [.int .i64 a0, .int .i64 a1, .int .i64 li, .int .i64 cr, .int .i64 m0, .int .i64 m1, .int .i64 w0, .int .i64 w1, .int .i64 r0, .int .i64 r1] := by rw [← Hw5.out]; exact (At.new w4 #[.int .i64 a0, .int .i64 a1, .int .i64 li, .int .i64 cr, .int .i64 m0, .int .i64 m1, .int .i64 w0, .int .i64 w1, .int .i64 r0, .int .i64 r1] _ _ rfl _ rfl).alloc _
      have hf5 : At w5 (w4.heap.size + 1) [.func (.func 54) #[] #[.pointer (some ⟨w4.heap.size, 0, none⟩), .pointer (some ⟨w.heap.size, 0, none⟩)]] := by rw [← Hw5.out]; exact At.new (w4.alloc _) #[.func (.func 54) #[] #[.pointer (some ⟨w4.heap.size, 0, none⟩), .pointer (some ⟨w.heap.size, 0, none⟩)]] _ _ (by simp) _ rfl
      have hs5 := hs4.below hb45
      have hBw5 : Below w.heap.size w w5 := hB.trans ((hb.mono hB.size).trans (hb45.mono (by have := hB.size; have := hb.size; omega)))
      have h55 : ((w4.alloc (.cells #[.int .i64 a0, .int .i64 a1, .int .i64 li, .int .i64 cr, .int .i64 m0, .int .i64 m1, .int .i64 w0, .int .i64 w1, .int .i64 r0, .int .i64 r1] 107)).alloc (.cells #[.func (.func 54) #[] #[.pointer (some ⟨w4.heap.size, 0, none⟩), .pointer (some ⟨w.heap.size, 0, none⟩)]] 76)).cell? ⟨w.heap.size, 3, none⟩ = some (.int .i64 cr) := by rw [Hw5.out]; exact hs5.c10.2.2.2.1
      go_wp2_with fail
      rw [Hw5.out]
      refine (fine_any a0 a1 li cr m0 m1 w0 w1 r0 r1 cr w4.heap.size w.heap.size w5 hx5 hs5.c10.2.2.1 hs5.1 Hfit.out hli hcr.1 hcr.2).mono ?_
      rintro e w6 ⟨rfl, hb6⟩
      rw [Hfc.out]
      have hs6 := hs5.below hb6
      have hx6 := hx5.below hb6
      have hf6 := hf5.below hb6
      have hBw6 := hBw5.trans (hb6.mono hBw5.size)
      obtain ⟨p0, p1, p2, p3, p4, p5, p6, p7, p8, p9⟩ := hs6.c10
    · have H := hide (least_fn 59 #[.pointer (some ⟨w.heap.size, 0, none⟩), .pointer (some ⟨w4.heap.size + 1, 0, none⟩)] (soF ⟨⟨a0, a1⟩, li, cr, ⟨m0, m1⟩, ⟨w0, w1⟩, ⟨r0, r1⟩⟩) cr 1000000000 w6 enters_need2 hcr.1 (by omega) (by omega)
        (fun x w' h1 h2 hbx => need2_any a0 a1 li cr m0 m1 w0 w1 r0 r1 x w4.heap.size w.heap.size (w4.heap.size + 1) w' (hx6.below hbx) (hs6.below hbx) (hf6.below hbx) Hfit.out hli (by omega) h2)
        (soF_mono Hfc.out))
      clear hx6 hf6 hs6 hx5 hf5 hs5
      go_wp2_with fail
      refine H.out.mono ?_
      rintro e w7 ⟨r, rfl, h1, h2, h3, h4, hb7⟩
      have hnd := need_of Hfc.out h1 h2 h3 h4
      have Hnd := hide hnd
      clear hnd h3 h4
      by_cases hr : 1000000000 < r
      · go_wp2
        go_ret2
        rw [← Hnd.out, if_pos hr]
        exact ⟨rfl, hBw6.trans (hb7.mono hBw6.size)⟩
      · go_wp2
        go_ret2
        rw [← Hnd.out, if_neg (by omega)]
        exact ⟨rfl, hBw6.trans (hb7.mono hBw6.size)⟩
    · have hnr : needR ⟨⟨a0, a1⟩, li, cr, ⟨m0, m1⟩, ⟨w0, w1⟩, ⟨r0, r1⟩⟩ = (cr, 0) := by unfold needR; rw [if_pos Hfc.out]
      have Hnr := hide hnr
      clear hnr
      go_wp2
      go_ret2
      rw [Hnr.out]
      exact ⟨rfl, hBw6⟩
end Go.Proofs.Ytmbhnjpaieimbaa
