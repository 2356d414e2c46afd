/- GalleryCleans: what is to be cleaned is the specification's. The law returns true for every gallery, flow in and wish, and leaves its arguments as they were. No conditions. -/
import Derived.Test.YtkmocikcohhdoaaG11
import Derived.Test.YtkmocikcohhdoaaOpen
namespace Go.Proofs.Ytkmocikcohhdoaa
open Go.RowKit Go.Shelf Go.WideShapes Go.ChangeShapes Go.ChangeAt

theorem cleanL_len (g : List Rc) (s : Sp) (want : Int) : (cleanL g s want).length ≤ 12 := by
  unfold cleanL
  split
  · have : ∀ k b, cleanFold g s.lo want k = some b → b.length ≤ 12 := by
      intro k
      induction k with
      | zero => intro b hb; simp [cleanFold] at hb
      | succ k ih =>
        intro b hb
        rw [cleanFold_succ, cleanStep] at hb
        split at hb
        · injection hb with hb
          rw [← hb]
          exact mem_len k 12
        · exact ih b hb
    cases h : cleanFold g s.lo want (2 ^ g.length) with
    | none => simp
    | some b => exact this _ b h
  · simp

set_option maxRecDepth 100000 in
set_option maxHeartbeats 1000000 in
theorem cleans_walk (A : Option Addr) (g : List Rc) (n c : Nat) (lo hi want : Int) (w : World) (hn : n = g.length) (hm : n ≤ 9223372036854775807) (hx : Rd w w.heap.size Rc.cells A g) :
    Calls Try.prog 3 #[.slice A n c, .agg #[.int .i64 lo, .int .i64 hi], .int .i64 want] w fun e w' => e = .returned (.bool true) ∧ Below w.heap.size w w' := by
  subst hn
  by_cases h20 : g.length ≤ 20
  · obtain ⟨w1, hw1⟩ : ∃ w1, w1 = w.alloc (.cells #[.int .i64 lo, .int .i64 hi] 24) := ⟨_, rfl⟩
    obtain ⟨w2, hw2⟩ : ∃ w2, w2 = w1.alloc (.cells #[] 96) := ⟨_, rfl⟩
    have b1 : Below w.heap.size w w1 := by rw [hw1]; exact below_new w _
    have b12 : Below w1.heap.size w1 w2 := by rw [hw2]; exact below_new w1 _
    have b2 : Below w.heap.size w w2 := b1.trans (b12.mono b1.size)
    have s1 : w1.heap.size = w.heap.size + 1 := by rw [hw1]; simp
    have s2 : w2.heap.size = w.heap.size + 2 := by rw [hw2, World.size_alloc, s1]
    have q0 : w2.cell? ⟨w.heap.size, 0, none⟩ = some (.int .i64 lo) := (b12.cell (p := ⟨w.heap.size, 0, none⟩) (by simp; omega)).trans (by rw [hw1]; exact cell_new _ _ _ 0 _ rfl)
    have q1 : w2.cell? ⟨w.heap.size, 1, none⟩ = some (.int .i64 hi) := (b12.cell (p := ⟨w.heap.size, 1, none⟩) (by simp; omega)).trans (by rw [hw1]; exact cell_new _ _ _ 1 _ rfl)
    have h0 : Own w2 w.heap.size 96 6 Rc.cells (.slice (some ⟨w.heap.size + 1, 0, none⟩) 0 0) [] := by
      have := World.ownsRow_made (base := w.heap.size) (e := 96) (size := 6) w1 #[] 0 (by rw [s1]; omega) (by simp [maxLen]) (by simp)
      rw [← hw2, s1] at this
      exact this
    have Hw2 := hide (show (w.alloc (.cells #[.int .i64 lo, .int .i64 hi] 24)).alloc (.cells #[] 96) = w2 by rw [hw2, hw1])
    have H0 := hide h0; have Hx := hide hx; have kq : ∀ W, w2.grownBy W (some (w.heap.size + 1)) → W.cell? ⟨w.heap.size, 0, none⟩ = some (.int .i64 lo) ∧ W.cell? ⟨w.heap.size, 1, none⟩ = some (.int .i64 hi) := fun W hg => ⟨hg.cell q0 (by simp), hg.cell q1 (by simp)⟩
    have Hkq := hide kq; clear kq
    clear h0 hx hw1 hw2 q0 q1 b1 b12 s1 w1
    go_enter Try.func3, Try.ntmps3
    go_wp2_with (first | (go_at_call 14; refine (small_any _ _ _ _ _ _ _ (by omega) (by omega)).mono ?_; rintro e w' ⟨rfl, rfl⟩) | (at_builtin; rw [Hw2.out]; refine appl_Rc rfl _ (.tmp 15) (.tmp 16) rfl w.heap.size _ [] rfl H0.out _ A g.length c g rfl rfl ((Hx.out.below b2).more b2.size) (by simp only [List.length_nil]; omega) (by omega) ?_; intro v3 w3 hown3 hg3; obtain ⟨q0, q1⟩ := Hkq.out w3 hg3; rw [List.nil_append] at hown3; have Hown3 := hide hown3; clear hown3; have b3 := below_own H0.out b2 hg3 (by omega); have sz3' := hg3.size; clear hg3))
    obtain ⟨A3, c3, rfl, hr3⟩ := Hown3.out.rd
    have Hr3 := hide hr3; clear hr3
    have sz3 : w.heap.size < w3.heap.size := by omega
    go_wp2_with fail
    refine (clean_any A3 g g.length c3 lo hi want _ rfl h20 Hr3.out).mono ?_; rintro e w4 ⟨A4, c4, rfl, hr4, b4⟩
    have r0 := (b4.cell (p := ⟨w.heap.size, 0, none⟩) sz3).trans q0
    have r1 := (b4.cell (p := ⟨w.heap.size, 1, none⟩) sz3).trans q1
    have b24 : Below w.heap.size w w4 := b3.trans (b4.mono b3.size)
    have Hr4 := hide hr4; clear hr4 q0 q1
    go_wp2_with fail
    refine (rclean_any A g g.length c lo hi want _ rfl h20 ((Hx.out.below b24).more b24.size)).mono ?_; rintro e w5 ⟨A5, c5, rfl, hr5, b5⟩
    have b25 : Below w.heap.size w w5 := b24.trans (b5.mono b24.size)
    have Hr5 := hide hr5; clear hr5 r0 r1
    have hml : (cleanL g ⟨lo, hi⟩ want).length ≤ 9223372036854775807 := Nat.le_trans (cleanL_len g ⟨lo, hi⟩ want) (by omega)
    go_wp2_with fail
    refine (same_int _ _ (cleanL g ⟨lo, hi⟩ want) (cleanL g ⟨lo, hi⟩ want) _ _ _ _ _ rfl rfl hml hml ((Hr4.out.below b5).more b5.size) Hr5.out).mono ?_; rintro e w6 ⟨rfl, b6⟩
    have b26 : Below w.heap.size w w6 := b25.trans (b6.mono b25.size)
    have b36 : Below w3.heap.size w3 w6 := b4.trans ((b5.mono b4.size).trans (b6.mono (Nat.le_trans b4.size b5.size)))
    go_wp2_with fail
    refine (same_Rc _ _ g g _ _ _ _ _ rfl rfl (by omega) (by omega) ((Hr3.out.below b36).more b36.size) ((Hx.out.below b26).more b26.size)).mono ?_; rintro e w7 ⟨rfl, b7⟩
    go_wp2_with fail
    go_ret
    exact ⟨ret_bool (by simp), b26.trans (b7.mono b26.size)⟩
  · go_enter Try.func3, Try.ntmps3
    go_wp2_with (go_at_call 14; refine (small_any _ _ _ _ _ _ _ (by omega) (by omega)).mono ?_; rintro e w' ⟨rfl, rfl⟩)
    go_ret
    exact ⟨rfl, below_new _ _⟩

set_option maxRecDepth 100000 in
theorem galleryCleans_lifted (os : Os) (started : os.Started) (H : Type) (enc : TypeId × Value → H) :
    ReturnsInHanded {} Try.checked os 3 .any (Rows.galleryCleansSpec.pre6 enc Try.prog Try.f3 Rows.galleryCleansRow.domain false) (Rows.galleryCleansSpec.post enc Try.prog Try.f3 false true false false) := by
  refine law_lifted os started H enc (s := Rows.galleryCleansSpec) Try.func3 (by kernel_rfl) ?_ rfl Try.underlying4 rfl (of_decide_eq_true (by kernel_rfl))
    (ChangeSpec.witness6 (enc := enc) (C := Try.checked) false ⟨#[], #[.slice none 0 0, .agg #[.int .i64 0, .int .i64 0], .int .i64 0], []⟩ 8 (by kernel_rfl) (by kernel_rfl) (by kernel_rfl) (by kernel_rfl)) ?_
  · intro ds hds
    match ds, hds with
    | [a, b, c], _ => rfl
  · intro W base args ds ps hval hA hlt
    rw [Try.params3] at hA hval
    obtain ⟨v0, v1, v2, d0, d1, d2, p0, p1, p2, rfl, rfl, rfl, h0, h1, h2⟩ := trodAll_three hA
    obtain ⟨A, n, c, g, rfl, hn, hm, hr, _⟩ := open_sl shape_rc Try.underlying22 cells_rc Rc.len (by omega) (hval 0 _ v0 rfl rfl) h0
    obtain ⟨s, rfl, _⟩ := open_val shape_sp Try.underlying24 (hval 1 _ v1 rfl rfl) h1
    obtain ⟨want, rfl, _⟩ := open_i64 (hval 2 _ v2 rfl rfl) h2
    exact cleans_walk A g n c s.lo s.hi want W hn hm hr

theorem galleryCleans_holds : Rows.GalleryCleansSaid :=
  OpenClaim.holds_of_wide 3 Try.f3 rfl rfl rfl rfl rfl rfl rfl ⟨rfl, rfl, rfl, rfl, rfl⟩ rfl rfl rfl rfl rfl (by kernel_rfl) Try.func3 (by kernel_rfl)
    (of_decide_eq_true (by kernel_rfl)) (by unfold Func.isWrapper; rw [if_neg (of_decide_eq_false (by kernel_rfl))]; exact ⟨rfl, rfl⟩)
    (fun os started H enc _ => galleryCleans_lifted os started H enc)
#print axioms galleryCleans_holds
end Go.Proofs.Ytkmocikcohhdoaa
