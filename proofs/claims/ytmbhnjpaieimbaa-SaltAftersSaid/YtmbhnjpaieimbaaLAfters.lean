/- SaltAfters: salt after cycles, and what a soil needs, are the specification's. The law returns true for every soil, water and number of cycles. No conditions. -/
import Derived.Test.YtmbhnjpaieimbaaS12
import Derived.Test.YtmbhnjpaieimbaaS13
import Derived.Test.YtmbhnjpaieimbaaOpenS
namespace Go.Proofs.Ytmbhnjpaieimbaa
open Go.RowKit Go.Shelf Go.WideShapes Go.ChangeShapes Go.ChangeAt
theorem afterV_len (s : So) (w : Sp) (c : Int) : (afterV s w c).length ≤ 100 := by
  unfold afterV
  split
  · rename_i h
    simp [afterOk, inB] at h
    rw [afterL_len]
    omega
  · simp

theorem keepL {p : Nat} {w W W' : World} {a0 a1 li cr m0 m1 w0 w1 r0 r1 : Int} (hb : Below W.heap.size W W') (h : W.cell? ⟨p, 0, none⟩ = some (.int .i64 a0) ∧ W.cell? ⟨p, 1, none⟩ = some (.int .i64 a1) ∧ W.cell? ⟨p, 2, none⟩ = some (.int .i64 li) ∧ W.cell? ⟨p, 3, none⟩ = some (.int .i64 cr) ∧ W.cell? ⟨p, 4, none⟩ = some (.int .i64 m0) ∧ W.cell? ⟨p, 5, none⟩ = some (.int .i64 m1) ∧ W.cell? ⟨p, 6, none⟩ = some (.int .i64 w0) ∧ W.cell? ⟨p, 7, none⟩ = some (.int .i64 w1) ∧ W.cell? ⟨p, 8, none⟩ = some (.int .i64 r0) ∧ W.cell? ⟨p, 9, none⟩ = some (.int .i64 r1) ∧ p < W.heap.size ∧ Below w.heap.size w W) : W'.cell? ⟨p, 0, none⟩ = some (.int .i64 a0) ∧ W'.cell? ⟨p, 1, none⟩ = some (.int .i64 a1) ∧ W'.cell? ⟨p, 2, none⟩ = some (.int .i64 li) ∧ W'.cell? ⟨p, 3, none⟩ = some (.int .i64 cr) ∧ W'.cell? ⟨p, 4, none⟩ = some (.int .i64 m0) ∧ W'.cell? ⟨p, 5, none⟩ = some (.int .i64 m1) ∧ W'.cell? ⟨p, 6, none⟩ = some (.int .i64 w0) ∧ W'.cell? ⟨p, 7, none⟩ = some (.int .i64 w1) ∧ W'.cell? ⟨p, 8, none⟩ = some (.int .i64 r0) ∧ W'.cell? ⟨p, 9, none⟩ = some (.int .i64 r1) ∧ p < W'.heap.size ∧ Below w.heap.size w W' := by
  obtain ⟨h0, h1, h2, h3, h4, h5, h6, h7, h8, h9, hp, hB⟩ := h
  exact ⟨(hb.cell (by simp only []; omega)).trans h0, (hb.cell (by simp only []; omega)).trans h1, (hb.cell (by simp only []; omega)).trans h2, (hb.cell (by simp only []; omega)).trans h3, (hb.cell (by simp only []; omega)).trans h4, (hb.cell (by simp only []; omega)).trans h5, (hb.cell (by simp only []; omega)).trans h6, (hb.cell (by simp only []; omega)).trans h7, (hb.cell (by simp only []; omega)).trans h8, (hb.cell (by simp only []; omega)).trans h9, Nat.lt_of_lt_of_le hp hb.size, hB.trans (hb.mono hB.size)⟩
theorem keepL_drew {p : Nat} {w W : World} {a0 a1 li cr m0 m1 w0 w1 r0 r1 : Int} (h : W.cell? ⟨p, 0, none⟩ = some (.int .i64 a0) ∧ W.cell? ⟨p, 1, none⟩ = some (.int .i64 a1) ∧ W.cell? ⟨p, 2, none⟩ = some (.int .i64 li) ∧ W.cell? ⟨p, 3, none⟩ = some (.int .i64 cr) ∧ W.cell? ⟨p, 4, none⟩ = some (.int .i64 m0) ∧ W.cell? ⟨p, 5, none⟩ = some (.int .i64 m1) ∧ W.cell? ⟨p, 6, none⟩ = some (.int .i64 w0) ∧ W.cell? ⟨p, 7, none⟩ = some (.int .i64 w1) ∧ W.cell? ⟨p, 8, none⟩ = some (.int .i64 r0) ∧ W.cell? ⟨p, 9, none⟩ = some (.int .i64 r1) ∧ p < W.heap.size ∧ Below w.heap.size w W) : W.drew.cell? ⟨p, 0, none⟩ = some (.int .i64 a0) ∧ W.drew.cell? ⟨p, 1, none⟩ = some (.int .i64 a1) ∧ W.drew.cell? ⟨p, 2, none⟩ = some (.int .i64 li) ∧ W.drew.cell? ⟨p, 3, none⟩ = some (.int .i64 cr) ∧ W.drew.cell? ⟨p, 4, none⟩ = some (.int .i64 m0) ∧ W.drew.cell? ⟨p, 5, none⟩ = some (.int .i64 m1) ∧ W.drew.cell? ⟨p, 6, none⟩ = some (.int .i64 w0) ∧ W.drew.cell? ⟨p, 7, none⟩ = some (.int .i64 w1) ∧ W.drew.cell? ⟨p, 8, none⟩ = some (.int .i64 r0) ∧ W.drew.cell? ⟨p, 9, none⟩ = some (.int .i64 r1) ∧ p < W.drew.heap.size ∧ Below w.heap.size w W.drew := by
  obtain ⟨h0, h1, h2, h3, h4, h5, h6, h7, h8, h9, hp, hB⟩ := h
  exact ⟨h0, h1, h2, h3, h4, h5, h6, h7, h8, h9, hp, hB.drew⟩
theorem lastL {p : Nat} {w W : World} {a0 a1 li cr m0 m1 w0 w1 r0 r1 : Int} (h : W.cell? ⟨p, 0, none⟩ = some (.int .i64 a0) ∧ W.cell? ⟨p, 1, none⟩ = some (.int .i64 a1) ∧ W.cell? ⟨p, 2, none⟩ = some (.int .i64 li) ∧ W.cell? ⟨p, 3, none⟩ = some (.int .i64 cr) ∧ W.cell? ⟨p, 4, none⟩ = some (.int .i64 m0) ∧ W.cell? ⟨p, 5, none⟩ = some (.int .i64 m1) ∧ W.cell? ⟨p, 6, none⟩ = some (.int .i64 w0) ∧ W.cell? ⟨p, 7, none⟩ = some (.int .i64 w1) ∧ W.cell? ⟨p, 8, none⟩ = some (.int .i64 r0) ∧ W.cell? ⟨p, 9, none⟩ = some (.int .i64 r1) ∧ p < W.heap.size ∧ Below w.heap.size w W) : Below w.heap.size w W := by
  obtain ⟨h0, h1, h2, h3, h4, h5, h6, h7, h8, h9, hp, hB⟩ := h
  exact hB
theorem rdL {p : Nat} {w W : World} {a0 a1 li cr m0 m1 w0 w1 r0 r1 : Int} {A : Option Addr} {xs : List Sp} (hr : Rd w w.heap.size Sp.cells A xs) (h : W.cell? ⟨p, 0, none⟩ = some (.int .i64 a0) ∧ W.cell? ⟨p, 1, none⟩ = some (.int .i64 a1) ∧ W.cell? ⟨p, 2, none⟩ = some (.int .i64 li) ∧ W.cell? ⟨p, 3, none⟩ = some (.int .i64 cr) ∧ W.cell? ⟨p, 4, none⟩ = some (.int .i64 m0) ∧ W.cell? ⟨p, 5, none⟩ = some (.int .i64 m1) ∧ W.cell? ⟨p, 6, none⟩ = some (.int .i64 w0) ∧ W.cell? ⟨p, 7, none⟩ = some (.int .i64 w1) ∧ W.cell? ⟨p, 8, none⟩ = some (.int .i64 r0) ∧ W.cell? ⟨p, 9, none⟩ = some (.int .i64 r1) ∧ p < W.heap.size ∧ Below w.heap.size w W) : Rd W W.heap.size Sp.cells A xs := by
  have hB := lastL h
  exact (hr.below hB).more hB.size

set_option maxRecDepth 100000 in
set_option maxHeartbeats 4000000 in
theorem afters_walk (a0 a1 li cr m0 m1 w0 w1 r0 r1 lo hi c : Int) (w : World) :
    Calls Try.prog 3 #[.agg #[.int .i64 a0, .int .i64 a1, .int .i64 li, .int .i64 cr, .int .i64 m0, .int .i64 m1, .int .i64 w0, .int .i64 w1, .int .i64 r0, .int .i64 r1], .agg #[.int .i64 lo, .int .i64 hi], .int .i64 c] w fun e w' => e = .returned (.bool true) ∧ Below w.heap.size w w' := by
  obtain ⟨w2, Hw2⟩ : ∃ w2, Hid ((w.alloc (.cells #[.int .i64 a0, .int .i64 a1, .int .i64 li, .int .i64 cr, .int .i64 m0, .int .i64 m1, .int .i64 w0, .int .i64 w1, .int .i64 r0, .int .i64 r1] 25)).alloc (.cells #[.int .i64 lo, .int .i64 hi] 23) = w2) := ⟨_, hide rfl⟩
  have hB : Below w.heap.size w w2 := by rw [← Hw2.out]; exact (below_new _ _).alloc (by simp) _
  have hs : At w2 w.heap.size [.int .i64 a0, .int .i64 a1, .int .i64 li, .int .i64 cr, .int .i64 m0, .int .i64 m1, .int .i64 w0, .int .i64 w1, .int .i64 r0, .int .i64 r1] := by rw [← Hw2.out]; exact (At.new w #[.int .i64 a0, .int .i64 a1, .int .i64 li, .int .i64 cr, .int .i64 m0, .int .i64 m1, .int .i64 w0, .int .i64 w1, .int .i64 r0, .int .i64 r1] _ w.heap.size rfl _ rfl).alloc _
  have hw : At w2 (w.heap.size + 1) [.int .i64 lo, .int .i64 hi] := by rw [← Hw2.out]; exact At.new (w.alloc _) #[.int .i64 lo, .int .i64 hi] _ (w.heap.size + 1) (by simp) _ rfl
  obtain ⟨E, hE⟩ : ∃ E, E = afterE ⟨⟨a0, a1⟩, li, cr, ⟨m0, m1⟩, ⟨w0, w1⟩, ⟨r0, r1⟩⟩ ⟨lo, hi⟩ c := ⟨_, rfl⟩
  obtain ⟨xs, hxs⟩ : ∃ xs, xs = afterV ⟨⟨a0, a1⟩, li, cr, ⟨m0, m1⟩, ⟨w0, w1⟩, ⟨r0, r1⟩⟩ ⟨lo, hi⟩ c := ⟨_, rfl⟩
  obtain ⟨nv, ne, hn⟩ : ∃ a b, needF ⟨⟨a0, a1⟩, li, cr, ⟨m0, m1⟩, ⟨w0, w1⟩, ⟨r0, r1⟩⟩ = (a, b) := ⟨_, _, rfl⟩
  have hlen : xs.length ≤ 100 := by rw [hxs]; exact afterV_len _ _ _
  have A1 := fun W => after_fn a0 a1 li cr m0 m1 w0 w1 r0 r1 lo hi c W
  have A2 := fun W => rafter_fn a0 a1 li cr m0 m1 w0 w1 r0 r1 lo hi c W
  have N1 := fun W => need_fn a0 a1 li cr m0 m1 w0 w1 r0 r1 W
  have N2 := fun W => rneed_fn a0 a1 li cr m0 m1 w0 w1 r0 r1 W
  rw [← hE, ← hxs] at A1 A2
  rw [hn] at N1 N2
  have C1 := fun W => salt_check a0 a1 li cr m0 m1 w0 w1 r0 r1 W
  have C2 := fun W => ref06_check a0 a1 li cr m0 m1 w0 w1 r0 r1 W
  obtain ⟨ce, hce⟩ : ∃ ce, ce = soCheck ⟨⟨a0, a1⟩, li, cr, ⟨m0, m1⟩, ⟨w0, w1⟩, ⟨r0, r1⟩⟩ := ⟨_, rfl⟩
  rw [← hce] at C1 C2
  have A1 := fun W => hide (A1 W); have A2 := fun W => hide (A2 W); have N1 := fun W => hide (N1 W); have N2 := fun W => hide (N2 W); have C1 := fun W => hide (C1 W); have C2 := fun W => hide (C2 W)
  clear hE hxs hn hce
  go_enter Try.func3, Try.ntmps3
  have h0 : ∀ j v, [.int .i64 a0, .int .i64 a1, .int .i64 li, .int .i64 cr, .int .i64 m0, .int .i64 m1, .int .i64 w0, .int .i64 w1, .int .i64 r0, .int .i64 r1][j]? = some v → ((w.alloc (.cells #[.int .i64 a0, .int .i64 a1, .int .i64 li, .int .i64 cr, .int .i64 m0, .int .i64 m1, .int .i64 w0, .int .i64 w1, .int .i64 r0, .int .i64 r1] 25)).alloc (.cells #[.int .i64 lo, .int .i64 hi] 23)).cell? ⟨w.heap.size, j, none⟩ = some v := fun j v hj => by rw [Hw2.out]; exact hs.2 j v hj
  clear h0
  go_wp2_with fail
  rw [Hw2.out]
  refine (A1 _).out.mono ?_
  rintro e w3 ⟨v1, rfl, hown1, hb3⟩
  obtain ⟨P1, c1, rfl, hrd1⟩ := hown1.rd
  have Hrd1 := hide hrd1
  clear hrd1 hown1
  obtain ⟨q0, q1, q2, q3, q4, q5, q6, q7, q8, q9⟩ := (hs.below hb3).c10
  obtain ⟨z0, z1⟩ := (hw.below hb3).c2
  go_wp2_with fail
  refine (A2 _).out.mono ?_
  rintro e w4 ⟨v2, rfl, hown2, hb4⟩
  obtain ⟨P2, c2, rfl, hrd2⟩ := hown2.rd
  have Hrd2 := hide hrd2
  clear hrd2 hown2
  have hs4 := (hs.below hb3).below hb4
  obtain ⟨s0, s1, s2, s3, s4, s5, s6, s7, s8, s9⟩ := hs4.c10
  go_wp2_with fail
  refine (N1 _).out.mono ?_
  rintro e w5 ⟨rfl, hb5⟩
  have hs5 := hs4.below hb5
  obtain ⟨t0, t1, t2, t3, t4, t5, t6, t7, t8, t9⟩ := hs5.c10
  go_wp2_with fail
  refine (N2 _).out.mono ?_
  rintro e w6 ⟨rfl, hb6⟩
  have hs6 := hs5.below hb6
  have HcB := hide (show w6.cell? ⟨w.heap.size, 0, none⟩ = some (.int .i64 a0) ∧ w6.cell? ⟨w.heap.size, 1, none⟩ = some (.int .i64 a1) ∧ w6.cell? ⟨w.heap.size, 2, none⟩ = some (.int .i64 li) ∧ w6.cell? ⟨w.heap.size, 3, none⟩ = some (.int .i64 cr) ∧ w6.cell? ⟨w.heap.size, 4, none⟩ = some (.int .i64 m0) ∧ w6.cell? ⟨w.heap.size, 5, none⟩ = some (.int .i64 m1) ∧ w6.cell? ⟨w.heap.size, 6, none⟩ = some (.int .i64 w0) ∧ w6.cell? ⟨w.heap.size, 7, none⟩ = some (.int .i64 w1) ∧ w6.cell? ⟨w.heap.size, 8, none⟩ = some (.int .i64 r0) ∧ w6.cell? ⟨w.heap.size, 9, none⟩ = some (.int .i64 r1) ∧ w.heap.size < w6.heap.size ∧ Below w6.heap.size w6 w6 from by
    obtain ⟨x0, x1, x2, x3, x4, x5, x6, x7, x8, x9⟩ := hs6.c10
    exact ⟨x0, x1, x2, x3, x4, x5, x6, x7, x8, x9, hs6.1, Below.refl _ _⟩)
  have hb46 : Below w4.heap.size w4 w6 := hb5.trans (hb6.mono hb5.size)
  have hb36 : Below w3.heap.size w3 w6 := hb4.trans (hb46.mono hb4.size)
  have Hr1 := hide ((Hrd1.out.below hb36).more hb36.size)
  have Hr2 := hide ((Hrd2.out.below hb46).more hb46.size)
  have hb06 : Below w.heap.size w w6 := hB.trans ((hb3.mono hB.size).trans (hb36.mono (Nat.le_trans hB.size hb3.size)))
  have hbig : xs.length ≤ 9223372036854775807 := by omega
  go_wp2_with fail
  go_region_held3 (fun W => W.cell? ⟨w.heap.size, 0, none⟩ = some (.int .i64 a0) ∧ W.cell? ⟨w.heap.size, 1, none⟩ = some (.int .i64 a1) ∧ W.cell? ⟨w.heap.size, 2, none⟩ = some (.int .i64 li) ∧ W.cell? ⟨w.heap.size, 3, none⟩ = some (.int .i64 cr) ∧ W.cell? ⟨w.heap.size, 4, none⟩ = some (.int .i64 m0) ∧ W.cell? ⟨w.heap.size, 5, none⟩ = some (.int .i64 m1) ∧ W.cell? ⟨w.heap.size, 6, none⟩ = some (.int .i64 w0) ∧ W.cell? ⟨w.heap.size, 7, none⟩ = some (.int .i64 w1) ∧ W.cell? ⟨w.heap.size, 8, none⟩ = some (.int .i64 r0) ∧ W.cell? ⟨w.heap.size, 9, none⟩ = some (.int .i64 r1) ∧ w.heap.size < W.heap.size ∧ Below w6.heap.size w6 W) (first | assumption | exact keepL_drew HcB.out | (refine keepL hb ?_; assumption)) (first | (go_at_call 18; refine (C1 _).out.mono ?_; rintro e w' ⟨rfl, hb⟩) | (go_at_call 19; refine (C2 _).out.mono ?_; rintro e w' ⟨rfl, hb⟩) | (go_at_call 20; refine (same_Sp _ _ xs xs _ _ _ _ _ rfl rfl hbig hbig (rdL Hr1.out (by assumption)) (rdL Hr2.out (by assumption))).mono ?_; rintro e w' ⟨rfl, hb⟩))
  all_goals
    have hBl := lastL (by assumption)
    go_wp2_with fail
    go_ret
    exact ⟨ret_bool (by simp), hb06.trans (hBl.mono hb06.size)⟩

set_option maxRecDepth 100000 in
theorem saltAfters_lifted (os : Os) (started : os.Started) (H : Type) (enc : TypeId × Value → H) :
    ReturnsInHanded {} Try.checked os 3 .any (Rows.saltAftersSpec.pre6 enc Try.prog Try.f3 Rows.saltAftersRow.domain false) (Rows.saltAftersSpec.post enc Try.prog Try.f3 false true false false) := by
  refine law_lifted os started H enc (s := Rows.saltAftersSpec) Try.func3 (by kernel_rfl) ?_ rfl Try.underlying4 rfl (of_decide_eq_true (by kernel_rfl))
    (ChangeSpec.witness6 (enc := enc) (C := Try.checked) false ⟨#[], #[.agg #[.int .i64 0, .int .i64 0, .int .i64 0, .int .i64 0, .int .i64 0, .int .i64 0, .int .i64 0, .int .i64 0, .int .i64 0, .int .i64 0], .agg #[.int .i64 0, .int .i64 0], .int .i64 0], []⟩ 8 (by kernel_rfl) (by kernel_rfl) (by kernel_rfl) (by kernel_rfl)) ?_
  · intro ds hds
    match ds, hds with
    | [a, b, c], _ => rfl
  · intro W base args ds ps hval hA hlt
    rw [Try.params3] at hA hval
    obtain ⟨v0, v1, v2, d0, d1, d2, p0, p1, p2, rfl, rfl, rfl, h0, h1, h2⟩ := trodAll_three hA
    obtain ⟨s, rfl, _⟩ := open_val shape_so Try.underlying25 (hval 0 _ v0 rfl rfl) h0
    obtain ⟨x, rfl, _⟩ := open_val shape_sp Try.underlying23 (hval 1 _ v1 rfl rfl) h1
    obtain ⟨n, rfl, _⟩ := open_i64 (hval 2 _ v2 rfl rfl) h2
    exact afters_walk _ _ _ _ _ _ _ _ _ _ x.lo x.hi n W

theorem saltAfters_holds : Rows.SaltAftersSaid :=
  OpenClaim.holds_of_wide 3 Try.f3 rfl rfl rfl rfl rfl rfl rfl ⟨rfl, rfl, rfl, rfl, rfl⟩ rfl rfl rfl rfl rfl (by kernel_rfl) Try.func3 (by kernel_rfl)
    (of_decide_eq_true (by kernel_rfl)) (by unfold Func.isWrapper; rw [if_neg (of_decide_eq_false (by kernel_rfl))]; exact ⟨rfl, rfl⟩)
    (fun os started H enc _ => saltAfters_lifted os started H enc)
#print axioms saltAfters_holds
end Go.Proofs.Ytmbhnjpaieimbaa
