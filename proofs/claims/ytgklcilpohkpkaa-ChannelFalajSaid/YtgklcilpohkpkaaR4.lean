/- The reference of channel: paths and moves, by contracts. -/
import Derived.Test.YtgklcilpohkpkaaR2
import Derived.Test.YtgklcilpohkpkaaR1b
import Derived.Test.YtgklcilpohkpkaaC10
set_option linter.unusedVariables false
set_option linter.unusedSimpArgs false
namespace Go.Proofs.Ytgklcilpohkpkaa
open Go.RowKit Go.Shelf
attribute [local go_sem ↓] Go.wp_at_zero Go.wp_at_succ
theorem sorted_ext : ∀ (l m : List Int), l.Pairwise (· < ·) → m.Pairwise (· < ·) → (∀ x, x ∈ l ↔ x ∈ m) → l = m
  | [], [], _, _, _ => rfl
  | [], y :: m, _, _, h => by have := (h y).2 (by simp); simp at this
  | x :: l, [], _, _, h => by have := (h x).1 (by simp); simp at this
  | x :: l, y :: m, hl, hm, h => by
    rw [List.pairwise_cons] at hl hm
    have e : x = y := by
      rcases List.mem_cons.1 ((h x).1 (by simp)) with e | hx
      · exact e
      · rcases List.mem_cons.1 ((h y).2 (by simp)) with e | hy
        · exact e.symm
        · have h1 := hm.1 x hx
          have h2 := hl.1 y hy
          omega
    subst e
    congr 1
    refine sorted_ext l m hl.2 hm.2 fun z => ⟨fun hz => ?_, fun hz => ?_⟩
    · rcases List.mem_cons.1 ((h z).1 (by simp [hz])) with e | h'
      · have := hl.1 z hz; omega
      · exact h'
    · rcases List.mem_cons.1 ((h z).2 (by simp [hz])) with e | h'
      · have := hm.1 z hz; omega
      · exact h'
theorem upF_sorted {cs : List Ca} (h : caFrm cs) : ∀ (f node : Nat), node ≤ f → (upF cs f node).Pairwise (· > ·)
  | 0, node, _ => by simp [upF]
  | f + 1, node, hn => by
    unfold upF
    split
    · simp
    · have h1 := frmN_le h (node - 1)
      rw [List.pairwise_cons]
      refine ⟨fun x hx => ?_, upF_sorted h f (frmN cs (node - 1)) (by omega)⟩
      have := upF_range h f (frmN cs (node - 1)) (by omega) x hx
      omega
theorem pathK_sorted {cs : List Ca} {fs : List Int} (h : caFrm cs) (k : Int) : (pathK cs fs k).Pairwise (· < ·) := by
  unfold pathK pathF
  rw [List.pairwise_reverse]
  exact upF_sorted h _ _ (Nat.le_refl _)
theorem mem_pathK {cs : List Ca} {fs : List Int} {k x : Int} : x ∈ pathK cs fs k ↔ x ∈ upK cs fs k := by simp [pathK, pathF, upK]
theorem range_sorted : ∀ n, ((List.range n).map Int.ofNat).Pairwise (· < ·)
  | 0 => by simp
  | n + 1 => by
    rw [List.range_succ, List.map_append, List.pairwise_append]
    refine ⟨range_sorted n, by simp, fun a ha b hb => ?_⟩
    simp at ha hb
    obtain ⟨i, hi, rfl⟩ := ha
    omega
/-- The stones of the one and of the other. -/
theorem without_only {cs : List Ca} {fs : List Int} {dry days : Int} (hok : netOk cs fs dry days = true) {a b : Int} (a0 : 0 ≤ a) (a1 : a < fs.length) : withoutL (pathK cs fs a) (pathK cs fs b) = onlyK cs fs a b cs.length := by
  refine sorted_ext _ _ ((pathK_sorted (netOk_frm hok) a).sublist List.filter_sublist) ((range_sorted _).sublist List.filter_sublist) fun x => ?_
  unfold withoutL onlyK
  simp only [List.mem_filter, Bool.not_eq_true', decide_eq_false_iff_not, Bool.and_eq_true, decide_eq_true_eq, mem_pathK]
  constructor
  · rintro ⟨h1, h2⟩
    have := upK_okI hok a0 a1 h1
    refine ⟨List.mem_map.2 ⟨x.toNat, by simp; omega, ?_⟩, h1, h2⟩
    show ((x.toNat : Nat) : Int) = x
    omega
  · rintro ⟨_, h1, h2⟩
    exact ⟨h1, h2⟩

set_option maxHeartbeats 4000000 in
set_option maxRecDepth 100000 in
theorem rPath_fn (Ac Af : Option Addr) (nc cc nf cf : Nat) (dry days : Int) (cs : List Ca) (fs : List Int) (k : Int) (w : World) (hnet : NetAt w Ac Af nc nf cs fs) :
    Calls Try.prog 18 #[.agg #[.slice Ac nc cc, .slice Af nf cf, .int .i64 dry, .int .i64 days], .int .i64 k] w fun e w' => ∃ v, e = .returned (.tuple #[v, .int .i64 (pathS cs fs dry days k).2]) ∧ Own w' w.heap.size 3 1 icell v (pathS cs fs dry days k).1 ∧ Below w.heap.size w w' := by
  have hat0 := At.new w #[.slice Ac nc cc, .slice Af nf cf, .int .i64 dry, .int .i64 days] 25 w.heap.size rfl _ rfl
  have hB0 := below_new w (.cells #[.slice Ac nc cc, .slice Af nf cf, .int .i64 dry, .int .i64 days] 25)
  cases hok : netOk cs fs dry days
  · have he : netErr cs fs dry days = 50 := by simp [netErr, hok]
    have hs : pathS cs fs dry days k = ([], 50) := by simp [pathS, hok]
    rw [hs]
    have He := hide he
    clear he hs hok
    go_enter Try.func18, Try.ntmps18
    go_wp2_with fail
    refine calls_gen fun W1 HW1 => ?_
    rw [HW1.out] at hat0 hB0
    refine (rCheck_any Ac Af nc cc nf cf dry days cs fs W1 (hnet.below hB0)).mono ?_
    rintro e w2 ⟨rfl, hb2⟩
    rw [He.out]
    go_wp2
    go_ret2
    exact ⟨_, rfl, Own.nil _ _ _ _ _, hB0.trans (hb2.mono hB0.size)⟩
  · have he : netErr cs fs dry days = 0 := by simp [netErr, hok]
    have hs : pathS cs fs dry days k = if inF nf k then (pathK cs fs k, 0) else ([], 2) := by simp [pathS, hok, hnet.ef]
    rw [hs]
    have He := hide he; have Hok := hide hok
    have hnf2 := hnet.nf2
    clear he hs hok
    cases hin : inF nf k
    all_goals
      have Hin := hide hin
      clear hin
      go_enter Try.func18, Try.ntmps18
      go_wp2_with fail
      refine calls_gen fun W1 HW1 => ?_
      rw [HW1.out] at hat0 hB0
      refine (rCheck_any Ac Af nc cc nf cf dry days cs fs W1 (hnet.below hB0)).mono ?_
      rintro e w2 ⟨rfl, hb2⟩
      rw [He.out]
      have hat2 := hat0.below hb2
      have hB2 := hB0.trans (hb2.mono hB0.size)
      obtain ⟨q0, q1, q2, q3⟩ := hat2.c4
      clear hat0 hB0 hb2
      go_wp2_with fail
      refine (rField_any Ac Af nc cc nf cf dry days k w2 hnf2).mono ?_
      rintro e w4 ⟨rfl, hb4⟩
      rw [Hin.out]
      have hat4 := hat2.below hb4
      have hB4 := hB2.trans (hb4.mono hB2.size)
      clear hat2 hB2 hb4 q0 q1 q2 q3
      obtain ⟨q0, q1, q2, q3⟩ := hat4.c4
    · go_wp2
      go_ret2
      exact ⟨_, rfl, Own.nil _ _ _ _ _, hB4⟩
    · go_wp2_with fail
      have hk2 : 0 ≤ k ∧ k < nf := by have := Hin.out; simp [inF] at this; exact this
      refine (rPath_any Ac Af nc cc nf cf dry days cs fs k w4 (hnet.below hB4) Hok.out hk2.1 hk2.2).mono ?_
      rintro e w5 ⟨v, rfl, ho, hb5⟩
      have Ho := hide ho
      clear ho
      go_wp2
      go_ret2
      exact ⟨v, rfl, Ho.out.mono hB4.size, hB4.trans (hb5.mono hB4.size)⟩
set_option maxHeartbeats 4000000 in
set_option maxRecDepth 100000 in
theorem rMoves_fn (Ac Af : Option Addr) (nc cc nf cf : Nat) (dry days : Int) (cs : List Ca) (fs : List Int) (a b : Int) (w : World) (hnet : NetAt w Ac Af nc nf cs fs) :
    Calls Try.prog 20 #[.agg #[.slice Ac nc cc, .slice Af nf cf, .int .i64 dry, .int .i64 days], .int .i64 a, .int .i64 b] w fun e w' => ∃ v u, e = .returned (.tuple #[v, u, .int .i64 (movesS cs fs dry days a b).2.2]) ∧ Own w' w.heap.size 3 1 icell v (movesS cs fs dry days a b).1 ∧ Own w' w.heap.size 3 1 icell u (movesS cs fs dry days a b).2.1 ∧ Below w.heap.size w w' := by
  have hat0 := At.new w #[.slice Ac nc cc, .slice Af nf cf, .int .i64 dry, .int .i64 days] 25 w.heap.size rfl _ rfl
  have hB0 := below_new w (.cells #[.slice Ac nc cc, .slice Af nf cf, .int .i64 dry, .int .i64 days] 25)
  cases hok : netOk cs fs dry days
  · have he : netErr cs fs dry days = 50 := by simp [netErr, hok]
    have hs : movesS cs fs dry days a b = ([], [], 50) := by simp [movesS, hok]
    rw [hs]
    have He := hide he
    clear he hs hok
    go_enter Try.func20, Try.ntmps20
    go_wp2_with fail
    refine calls_gen fun W1 HW1 => ?_
    rw [HW1.out] at hat0 hB0
    refine (rCheck_any Ac Af nc cc nf cf dry days cs fs W1 (hnet.below hB0)).mono ?_
    rintro e w2 ⟨rfl, hb2⟩
    rw [He.out]
    go_wp2
    go_ret3
    exact ⟨_, _, rfl, Own.nil _ _ _ _ _, Own.nil _ _ _ _ _, hB0.trans (hb2.mono hB0.size)⟩
  · have he : netErr cs fs dry days = 0 := by simp [netErr, hok]
    have hs : movesS cs fs dry days a b = if inF nf a && inF nf b then (onlyK cs fs a b cs.length, onlyK cs fs b a cs.length, 0) else ([], [], 2) := by simp [movesS, hok, hnet.ef]
    rw [hs]
    have He := hide he; have Hok := hide hok
    have hnf2 := hnet.nf2
    clear he hs hok
    cases hia : inF nf a
    · have Hia := hide hia
      clear hia
      go_enter Try.func20, Try.ntmps20
      go_wp2_with fail
      refine calls_gen fun W1 HW1 => ?_
      rw [HW1.out] at hat0 hB0
      refine (rCheck_any Ac Af nc cc nf cf dry days cs fs W1 (hnet.below hB0)).mono ?_
      rintro e w2 ⟨rfl, hb2⟩
      rw [He.out]
      have hat2 := hat0.below hb2
      have hB2 := hB0.trans (hb2.mono hB0.size)
      obtain ⟨q0, q1, q2, q3⟩ := hat2.c4
      clear hat0 hB0 hb2
      go_wp2_with fail
      refine (rField_any Ac Af nc cc nf cf dry days a w2 hnf2).mono ?_
      rintro e w4 ⟨rfl, hb4⟩
      rw [Hia.out]
      go_wp2
      go_ret3
      exact ⟨_, _, rfl, Own.nil _ _ _ _ _, Own.nil _ _ _ _ _, hB2.trans (hb4.mono hB2.size)⟩
    · have Hia := hide hia
      clear hia
      cases hib : inF nf b
      all_goals
        have Hib := hide hib
        clear hib
        go_enter Try.func20, Try.ntmps20
        go_wp2_with fail
        refine calls_gen fun W1 HW1 => ?_
        rw [HW1.out] at hat0 hB0
        refine (rCheck_any Ac Af nc cc nf cf dry days cs fs W1 (hnet.below hB0)).mono ?_
        rintro e w2 ⟨rfl, hb2⟩
        rw [He.out]
        have hat2 := hat0.below hb2
        have hB2 := hB0.trans (hb2.mono hB0.size)
        obtain ⟨q0, q1, q2, q3⟩ := hat2.c4
        clear hat0 hB0 hb2
        go_wp2_with fail
        refine (rField_any Ac Af nc cc nf cf dry days a w2 hnf2).mono ?_
        rintro e w3 ⟨rfl, hb3⟩
        rw [Hia.out]
        have hat3 := hat2.below hb3
        have hB3 := hB2.trans (hb3.mono hB2.size)
        clear hat2 hB2 hb3 q0 q1 q2 q3
        obtain ⟨q0, q1, q2, q3⟩ := hat3.c4
        go_wp2_with fail
        refine (rField_any Ac Af nc cc nf cf dry days b w3 hnf2).mono ?_
        rintro e w4 ⟨rfl, hb4⟩
        rw [Hib.out]
        have hat4 := hat3.below hb4
        have hB4 := hB3.trans (hb4.mono hB3.size)
        clear hat3 hB3 hb4 q0 q1 q2 q3
      · go_wp2
        go_ret3
        exact ⟨_, _, rfl, Own.nil _ _ _ _ _, Own.nil _ _ _ _ _, hB4⟩
      · have hk2 : (0 ≤ a ∧ a < nf) ∧ (0 ≤ b ∧ b < nf) := by have h1 := Hia.out; have h2 := Hib.out; simp [inF] at h1 h2; exact ⟨h1, h2⟩
        obtain ⟨⟨a0, a1⟩, b0, b1⟩ := hk2
        have ha1 : a < fs.length := by rw [← hnet.ef]; exact a1
        have hb1 : b < fs.length := by rw [← hnet.ef]; exact b1
        have E1 := hide (without_only (b := b) Hok.out a0 ha1)
        have E2 := hide (without_only (b := a) Hok.out b0 hb1)
        have La := hide (pathK_len cs fs Hok.out a0 ha1)
        have Lb := hide (pathK_len cs fs Hok.out b0 hb1)
        go_wp2_with fail
        refine wp_region_held_drew (S := (fun W => Below w4.heap.size w4 W)) (by kernel_rfl) (by (try dsimp only); exact (Below.refl _ _).drew) (fun hHeld => ?_)
        refine tkH 0 ?_ rfl (Or.inl ⟨by rfl, ?_⟩) hHeld ?_
        rotate_left
        · (intro w hSw; (try dsimp only at hSw); obtain ⟨q0, q1, q2, q3⟩ := (hat4.below hSw).c4; go_simp; try (with_reducible rfl))
        try simp only [Act.put, tl1, tl2, tl3]
        refine tkH 1 ?_ rfl (Or.inl ⟨by rfl, ?_⟩) hHeld ?_
        rotate_left
        · (intro w hSw; (try dsimp only at hSw); go_simp; try (with_reducible rfl))
        try simp only [Act.put, tl1, tl2, tl3]
        refine tkH 3 ?_ rfl (Or.inl ⟨by rfl, ?_⟩) hHeld ?_
        rotate_left
        · (intro w hSw; (try dsimp only at hSw); obtain ⟨q0, q1, q2, q3⟩ := (hat4.below hSw).c4; go_simp; try (with_reducible rfl))
        try simp only [Act.put, tl1, tl2, tl3]
        refine tkH 4 ?_ rfl (Or.inl ⟨by rfl, ?_⟩) hHeld ?_
        rotate_left
        · (intro w hSw; (try dsimp only at hSw); go_simp; try (with_reducible rfl))
        try simp only [Act.put, tl1, tl2, tl3]
        refine wpAnyH_ready (rs := [2]) (by kernel_rfl) (by simp) ?_
        refine AllReadyH.cons (o := ⟨_, _, _, _, _, _⟩) rfl (fun K hK => ?_) AllReadyH.nil
        go_simp
        refine (rPath_any Ac Af nc cc nf cf dry days cs fs a _ (hnet.below (hB4.trans (hHeld.mono hB4.size))) Hok.out a0 a1).mono ?_
        rintro e w5 ⟨va, rfl, hoa, hb⟩
        have Hoa := hide hoa; have hba := hb; clear hoa
        go_wp2_with fail
        refine hK.out _ _ ?_ (fun hHeld2 => ?_)
        · (try dsimp only)
          (first | exact hHeld | exact hHeld.trans (hb.mono hHeld.size) | exact hHeld.trans ((below_new _ _).mono hHeld.size) | exact hHeld.drew)
        clear hK K hHeld; have hHeld := hHeld2; clear hHeld2
        try simp only [Act.put, tl1, tl2, tl3]
        refine wpAnyH_ready (rs := [5]) (by kernel_rfl) (by simp) ?_
        refine AllReadyH.cons (o := ⟨_, _, _, _, _, _⟩) rfl (fun K hK => ?_) AllReadyH.nil
        go_simp
        refine (rPath_any Ac Af nc cc nf cf dry days cs fs b _ (hnet.below (hB4.trans (hHeld.mono hB4.size))) Hok.out b0 b1).mono ?_
        rintro e w6 ⟨vb, rfl, hob, hb⟩
        have Hob := hide hob; have hbb := hb; clear hob
        go_wp2_with fail
        refine hK.out _ _ ?_ (fun hHeld2 => ?_)
        · (try dsimp only)
          (first | exact hHeld | exact hHeld.trans (hb.mono hHeld.size) | exact hHeld.trans ((below_new _ _).mono hHeld.size) | exact hHeld.drew)
        clear hK K hHeld; have hHeld := hHeld2; clear hHeld2
        try simp only [Act.put, tl1, tl2, tl3]
        refine tkH 6 ?_ rfl (Or.inl ⟨by rfl, ?_⟩) hHeld ?_
        rotate_left
        · (intro w hSw; (try dsimp only at hSw); go_simp; try (with_reducible rfl))
        try simp only [Act.put, tl1, tl2, tl3]
        refine tkH 7 ?_ rfl (Or.inl ⟨by rfl, ?_⟩) hHeld ?_
        rotate_left
        · (intro w hSw; (try dsimp only at hSw); go_simp; try (with_reducible rfl))
        try simp only [Act.put, tl1, tl2, tl3]
        refine wpAnyH_done (by kernel_rfl) ?_ _
        have hba2 : Below w5.heap.size w5 w6 := hbb
        have Hoa6 := Hoa.out.below hba2
        obtain ⟨Aa, ca, rfl, hra⟩ := Hoa6.rd
        obtain ⟨Ab, cb, rfl, hrb⟩ := Hob.out.rd
        have Hra := hide hra; have Hrb := hide hrb
        have hB6 : Below w.heap.size w w6 := hB4.trans (hHeld.mono hB4.size)
        clear hra hrb hHeld hba hbb hba2 Hoa6 Hoa Hob
        go_wp2_with fail
        refine (rWithout_any Aa Ab (pathK cs fs a) (pathK cs fs b) _ ca _ cb w6 Hra.out Hrb.out rfl (by have := La.out; omega) rfl (by have := Lb.out; omega)).mono ?_
        rintro e w7 ⟨v, rfl, ho, hb7⟩
        have Ho := hide ho
        clear ho
        go_wp2_with fail
        refine (rWithout_any Ab Aa (pathK cs fs b) (pathK cs fs a) _ cb _ ca w7 ((Hrb.out.below hb7).more hb7.size) ((Hra.out.below hb7).more hb7.size) rfl (by have := Lb.out; omega) rfl (by have := La.out; omega)).mono ?_
        rintro e w8 ⟨u, rfl, ho2, hb8⟩
        have Ho2 := hide ho2
        clear ho2
        go_wp2
        go_ret3
        refine ⟨v, u, rfl, ?_, ?_, hB6.trans ((hb7.trans (hb8.mono hb7.size)).mono hB6.size)⟩
        · rw [← E1.out]
          exact (Ho.out.below hb8).mono hB6.size
        · rw [← E2.out]
          exact Ho2.out.mono (Nat.le_trans hB6.size hb7.size)
end Go.Proofs.Ytgklcilpohkpkaa
