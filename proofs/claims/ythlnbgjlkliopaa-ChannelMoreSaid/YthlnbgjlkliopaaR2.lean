/- The reference of channel: which nets are valid, by contract. -/
import Derived.Test.YthlnbgjlkliopaaR1
set_option linter.unusedVariables false
set_option linter.unusedSimpArgs false
namespace Go.Proofs.Ythlnbgjlkliopaa
open Go.RowKit Go.Shelf
attribute [local go_sem ↓] Go.wp_at_zero Go.wp_at_succ
theorem netErr_pre {cs : List Ca} {fs : List Int} {dry days : Int} (h : netPre cs fs dry days = false) : netErr cs fs dry days = 50 := by
  have : netOk cs fs dry days = false := by simp only [netOk]; rw [h]; rfl
  simp [netErr, this]
theorem netErr_ca {cs : List Ca} {fs : List Int} {dry days : Int} (h : caAll 0 cs = false) : netErr cs fs dry days = 50 := by simp [netErr, netOk, h]
theorem netErr_out {cs : List Ca} {fs : List Int} {dry days : Int} {k : Nat} {x : Int} (hx : fs[k]? = some x) (h : inB 0 cs.length x = false) : netErr cs fs dry days = 50 := by
  have h1 : anyOut 0 cs.length fs = true := any_hit hx (by simp [inB] at h; simp [outB]; omega)
  simp [netErr, netOk, h1]
theorem netErr_dup {cs : List Ca} {fs : List Int} {dry days : Int} {i j : Nat} {x : Int} (hx : fs[i]? = some x) (hy : fs[j]? = some x) (h : i < j) : netErr cs fs dry days = 50 := by
  have h1 : ¬ fs.Nodup := fun hn => by
    have h2 := (List.getElem?_inj (List.getElem?_eq_some_iff.1 hx).1 hn).1 (hx.trans hy.symm)
    omega
  simp [netErr, netOk, h1]
theorem netErr_all {cs : List Ca} {fs : List Int} {dry days : Int} (h1 : netPre cs fs dry days = true) (h2 : caAll 0 cs = true) (h3 : ∀ x ∈ fs, inB 0 cs.length x = true) (h4 : fs.Nodup) : netErr cs fs dry days = 0 := by
  have h5 : anyOut 0 cs.length fs = false := by
    unfold anyOut
    rw [List.any_eq_false]
    intro x hx
    have := h3 x hx
    simp [inB] at this
    simp [outB]
    omega
  simp [netErr, netOk, h1, h2, h4, h5]
/-- The first k fields are nodes, each another one. -/
structure FsTo (nc : Nat) (fs : List Int) (k : Nat) : Prop where
  in_ : ∀ x ∈ fs.take k, inB 0 nc x = true
  nodup : (fs.take k).Nodup
theorem FsTo.zero (nc : Nat) (fs : List Int) : FsTo nc fs 0 := ⟨by simp, by simp⟩
theorem FsTo.snoc {nc : Nat} {fs : List Int} {k : Nat} {x : Int} (h : FsTo nc fs k) (hx : fs[k]? = some x) (hi : inB 0 nc x = true) (hn : ∀ j, j < k → fs[j]? ≠ some x) : FsTo nc fs (k + 1) := by
  refine ⟨fun y hy => ?_, ?_⟩
  · rw [take_snoc hx] at hy
    simp at hy
    rcases hy with hy | rfl
    · exact h.in_ y hy
    · exact hi
  · rw [take_snoc hx, List.nodup_append]
    refine ⟨h.nodup, by simp, fun a ha b hb e => ?_⟩
    simp at hb
    subst hb
    subst e
    obtain ⟨j, hj, hja⟩ := List.mem_iff_getElem.1 ha
    simp at hj
    exact hn j (by omega) (by rw [List.getElem?_eq_getElem (by omega)]; rw [List.getElem_take] at hja; rw [hja])
set_option maxHeartbeats 4000000 in
set_option maxRecDepth 100000 in
theorem rCheck_any (Ac Af : Option Addr) (nc cc nf cf : Nat) (dry days : Int) (cs : List Ca) (fs : List Int) (w : World) (hnet : NetAt w Ac Af nc nf cs fs) :
    Calls Try.prog 22 #[.agg #[.slice Ac nc cc, .slice Af nf cf, .int .i64 dry, .int .i64 days]] w fun e w' => e = .returned (.int .i64 (netErr cs fs dry days)) ∧ Below w.heap.size w w' := by
  have hnc := hnet.nc2
  have hnf := hnet.nf2
  have hat0 := At.new w #[.slice Ac nc cc, .slice Af nf cf, .int .i64 dry, .int .i64 days] 25 w.heap.size rfl _ rfl
  have hB0 := below_new w (.cells #[.slice Ac nc cc, .slice Af nf cf, .int .i64 dry, .int .i64 days] 25)
  cases hp : netPre cs fs dry days
  · rw [netErr_pre hp]
    have hcase : 16 < nc ∨ (¬ 16 < nc ∧ 12 < nf) ∨ (¬ 16 < nc ∧ ¬ 12 < nf ∧ inB 0 23040 dry = false) ∨ (¬ 16 < nc ∧ ¬ 12 < nf ∧ inB 0 23040 dry = true ∧ inB 1 16 days = false) := by
      by_cases a : 16 < nc
      · exact .inl a
      by_cases b : 12 < nf
      · exact .inr (.inl ⟨a, b⟩)
      cases c : inB 0 23040 dry
      · exact .inr (.inr (.inl ⟨a, b, rfl⟩))
      cases d : inB 1 16 days
      · exact .inr (.inr (.inr ⟨a, b, rfl, rfl⟩))
      unfold netPre at hp
      rw [c, d, ← hnet.ec, ← hnet.ef] at hp
      simp at hp
      omega
    clear hp hat0
    rcases hcase with a | ⟨a, b⟩ | ⟨a, b, c⟩ | ⟨a, b, c, d⟩
    · go_enter Try.func22, Try.ntmps22
      go_wp2
      go_ret
      exact ⟨rfl, hB0⟩
    · go_enter Try.func22, Try.ntmps22
      go_wp2
      go_ret
      exact ⟨rfl, hB0⟩
    · have C := hide c; clear c
      go_enter Try.func22, Try.ntmps22
      go_wp2_with (go_at_call 44; refine (aflajref05_within _ _ _ _).mono ?_; rintro e w' ⟨rfl, rfl⟩; rw [C.out])
      go_ret
      exact ⟨rfl, hB0⟩
    · have C := hide c; have D := hide d; clear c d
      go_enter Try.func22, Try.ntmps22
      go_wp2_with (go_at_call 44; refine (aflajref05_within _ _ _ _).mono ?_; rintro e w' ⟨rfl, rfl⟩; first | rw [C.out] | rw [D.out])
      go_ret
      exact ⟨rfl, hB0⟩
  · have hp2 : ¬ (16 < nc) ∧ ¬ (12 < nf) := by
      have := hnet.ec; have := hnet.ef
      simp [netPre] at hp
      omega
    obtain ⟨n1, n2⟩ := hp2
    have E1 := hide (show inB 0 23040 dry = true by simp [netPre] at hp; simp [hp])
    have E2 := hide (show inB 1 16 days = true by simp [netPre] at hp; simp [hp])
    have Hp := hide hp
    clear hp
    go_enter Try.func22, Try.ntmps22
    go_wp2_with (go_at_call 44; refine (aflajref05_within _ _ _ _).mono ?_; rintro e w' ⟨rfl, rfl⟩; first | rw [E1.out] | rw [E2.out])
    go_loopw [3] (fun i wr => ∃ k : Nat, k ≤ nc ∧ i = .int .i64 k ∧ Below w.heap.size w wr ∧ At wr w.heap.size [.slice Ac nc cc, .slice Af nf cf, .int .i64 dry, .int .i64 days] ∧ Hid (caTo cs k)) (fun i _ => nc - (intOf i).toNat)
    case atStart => exact ⟨0, by omega, rfl, hB0, hat0, hide (caTo_zero cs)⟩
    case round =>
      clear hat0 hB0
      obtain ⟨k, hk, rfl, hB, hat, hto⟩ := hrel
      obtain ⟨q0, q1, q2, q3⟩ := hat.c4
      by_cases hlt : k < nc
      · obtain ⟨b, off, f, s0, s1, l0, l1, hA, hbB, hx, c0, c1, c2, c3, c4⟩ := (hnet.below hB).rc.ca (i := k) (by have := hnet.ec; omega)
        subst hA
        have Hx := hide hx
        clear hx
        have hbx0 := At.new wr #[.int .i64 f, .int .i64 s0, .int .i64 s1, .int .i64 l0, .int .i64 l1] 38 wr.heap.size rfl _ rfl
        have hbw0 := below_new wr (.cells #[.int .i64 f, .int .i64 s0, .int .i64 s1, .int .i64 l0, .int .i64 l1] 38)
        cases e1 : inB 0 k f
        all_goals have F1 := hide e1; clear e1
        · go_wp2_with (go_at_call 44; refine (aflajref05_within _ _ _ _).mono ?_; rintro e w' ⟨rfl, rfl⟩; rw [F1.out])
          go_ret
          exact ⟨ret_int (netErr_ca (caAll_hit Hx.out (by simp [caOk, F1.out]))).symm, hB.trans (hbw0.mono hB.size)⟩
        · cases e2 : Sp.ok 0 1000 ⟨s0, s1⟩
          all_goals have F2 := hide e2; clear e2
          · go_wp2_with (first | (go_at_call 44; refine (aflajref05_within _ _ _ _).mono ?_; rintro e w' ⟨rfl, rfl⟩; rw [F1.out]) | (go_at_call 24; refine (spanned_any _ _ _ _ _).mono ?_; rintro e w' ⟨rfl, hb⟩; rw [F2.out]))
            go_ret
            exact ⟨ret_int (netErr_ca (caAll_hit Hx.out (by simp [caOk, F2.out]))).symm, hB.trans ((hbw0.trans (hb.mono hbw0.size)).mono hB.size)⟩
          · cases e3 : Sp.ok 0 10000000 ⟨l0, l1⟩
            all_goals
              have F3 := hide e3; clear e3
              go_wp2_with (go_at_call 44; refine (aflajref05_within _ _ _ _).mono ?_; rintro e w' ⟨rfl, rfl⟩; rw [F1.out])
              refine (spanned_any _ _ _ _ _).mono ?_
              rintro e w6 ⟨rfl, hb6⟩
              rw [F2.out]
              have hbx6 := hbx0.below hb6
              have hbw6 := hbw0.trans (hb6.mono hbw0.size)
              obtain ⟨z0, z1, z2, z3, z4⟩ := hbx6.c5
              go_wp2_with fail
              refine (spanned_any _ _ _ _ _).mono ?_
              rintro e w7 ⟨rfl, hb7⟩
              rw [F3.out]
              have hbw7 := hbw6.trans (hb7.mono hbw6.size)
              have hat7 := hat.below hbw7
              go_wp2
            · go_ret
              exact ⟨ret_int (netErr_ca (caAll_hit Hx.out (by simp [caOk, F3.out]))).symm, hB.trans (hbw7.mono hB.size)⟩
            · exact ⟨⟨k + 1, by omega, by go_num, hB.trans (hbw7.mono hB.size), hat7, hide (caTo_snoc hto.out Hx.out (by simp [caOk, F1.out, F2.out, F3.out]))⟩, by simp [intOf]; omega⟩
      · have Hall := hide (caTo_all hto.out (by have := hnet.ec; omega))
        clear hto
        go_wp2_with fail
        clear q0 q1 q2 q3
        go_loopw [5] (fun i wr => ∃ k : Nat, k ≤ nf ∧ i = .int .i64 k ∧ Below w.heap.size w wr ∧ At wr w.heap.size [.slice Ac nc cc, .slice Af nf cf, .int .i64 dry, .int .i64 days] ∧ Hid (FsTo nc fs k)) (fun i _ => nf - (intOf i).toNat)
        case atStart => exact ⟨0, by omega, rfl, hB, hat, hide (FsTo.zero _ _)⟩
        case round =>
          clear hat hB
          obtain ⟨wo, rfl⟩ : ∃ wo : World, wo = wr := ⟨_, rfl⟩
          obtain ⟨k2, hk2, rfl, hB, hat, hto⟩ := hrel
          obtain ⟨q0, q1, q2, q3⟩ := hat.c4
          by_cases hlt2 : k2 < nf
          · obtain ⟨b, off, x, hA, hbB, hx, c0⟩ := (hnet.below hB).rf.int (i := k2) (by have := hnet.ef; omega)
            have Hx := hide hx
            have hHa := hide hA
            clear hx
            have hAf : ∀ (j : Nat) (y : Int), fs[j]? = some y → wo.cell? ⟨b, off + j, none⟩ = some (.int .i64 y) := fun j y hj => by
              obtain ⟨b2, off2, y2, hA2, _, hx2, c2⟩ := (hnet.below hB).rf.int (i := j) (List.getElem?_eq_some_iff.1 hj).1
              rw [hA] at hA2
              injection hA2 with hA2
              injection hA2 with e1 e2
              subst e1 e2
              rw [hj] at hx2
              injection hx2 with hx2
              subst hx2
              exact c2
            have HAf := hide hAf
            subst hA
            clear hAf
            have hi0 : (0 : Int) ≤ (k2 : Int) := by omega
            have hi1 : (k2 : Int) < (nf : Int) := by omega
            have hbo := hB.size
            cases e1 : inB 0 nc x
            all_goals
              have G1 := hide e1; clear e1
              go_wp2_with fail
              refine wp_region_held_drew (S := (fun W => Below wo.heap.size wo W)) (by kernel_rfl) (by (try dsimp only); exact (Below.refl _ _).drew) (fun hHeld => ?_)
              iterate 3
                refine tkHl [0, 2, 5] ?_ rfl rfl (Or.inl ⟨by rfl, ?_⟩) hHeld ?_
                rotate_left
                · (intro w hSw; (try dsimp only at hSw); go_simp; try (with_reducible rfl))
                try simp only [Act.put, tl1, tl2, tl3]
              iterate 2
                refine tkHl [1, 6] ?_ rfl rfl (Or.inl ⟨by rfl, ?_⟩) hHeld ?_
                rotate_left
                · (intro w hSw; (try dsimp only at hSw); obtain ⟨q0, q1, q2, q3⟩ := (hat.below hSw).c4; have c0 := (hSw.cell (p := ⟨b, off + k2, none⟩) (by show b < _; omega)).trans c0; go_simp; try (with_reducible rfl))
                try simp only [Act.put, tl1, tl2, tl3]
              iterate 2
                refine tkHl [3, 7] ?_ rfl rfl (Or.inl ⟨by rfl, ?_⟩) hHeld ?_
                rotate_left
                · (intro w hSw; (try dsimp only at hSw); go_simp; try (with_reducible rfl))
                try simp only [Act.put, tl1, tl2, tl3]
              refine tkH 4 ?_ rfl (Or.inl ⟨by rfl, ?_⟩) hHeld ?_
              rotate_left
              · (intro w hSw; (try dsimp only at hSw); obtain ⟨q0, q1, q2, q3⟩ := (hat.below hSw).c4; have c0 := (hSw.cell (p := ⟨b, off + k2, none⟩) (by show b < _; omega)).trans c0; go_simp; try (with_reducible rfl))
              try simp only [Act.put, tl1, tl2, tl3]
              refine wpAnyH_ready (rs := [8]) (by kernel_rfl) (by simp) ?_
              refine AllReadyH.cons (o := ⟨_, _, _, _, _, _⟩) rfl (fun K hK => ?_) AllReadyH.nil
              go_simp
              refine (aflajref05_within _ _ _ _).mono ?_
              rintro e w' ⟨rfl, rfl⟩
              rw [G1.out]
              go_wp2_with fail
              refine hK.out _ _ ?_ (fun hHeld2 => ?_)
              · (try dsimp only)
                (first | exact hHeld | exact hHeld.trans (hb.mono hHeld.size) | exact hHeld.trans ((below_new _ _).mono hHeld.size) | exact hHeld.drew)
              clear hK K hHeld; have hHeld := hHeld2; clear hHeld2
              try simp only [Act.put, tl1, tl2, tl3]
              refine tkH 9 ?_ rfl (Or.inl ⟨by rfl, ?_⟩) hHeld ?_
              rotate_left
              · (intro w hSw; (try dsimp only at hSw); go_simp; try (with_reducible rfl))
              try simp only [Act.put, tl1, tl2, tl3]
              refine wpAnyH_done (by kernel_rfl) ?_ _
              have hat2 := hat.below hHeld
              have hB2 := hB.trans (hHeld.mono hB.size)
              have hcc : ∀ (j : Nat) (y : Int), fs[j]? = some y → ∀ W, Below wo.heap.size wo W → W.cell? ⟨b, off + j, none⟩ = some (.int .i64 y) := fun j y hj W hW => (hW.cell (p := ⟨b, off + j, none⟩) (by show b < _; omega)).trans (HAf.out j y hj)
              have Hcc := hide hcc
              clear hcc q0 q1 q2 q3 c0
            · go_wp2
              go_ret
              exact ⟨ret_int (netErr_out Hx.out (by rw [← hnet.ec]; exact G1.out)).symm, hB2⟩
            · go_wp2_with fail
              go_loopw [6] (fun i wq => ∃ j : Nat, j ≤ k2 ∧ i = .int .i64 j ∧ Below wo.heap.size wo wq ∧ Hid (∀ j', j' < j → fs[j']? ≠ some x)) (fun i _ => k2 - (intOf i).toNat)
              case atStart => exact ⟨0, by omega, rfl, hHeld, hide (fun j' h => by omega)⟩
              case round =>
                clear hHeld
                obtain ⟨j, hj, rfl, hW, hpre⟩ := hrel
                have hat3 := hat.below hW
                have hB3 := hB.trans (hW.mono hB.size)
                by_cases hlt3 : j < k2
                · obtain ⟨y, hy⟩ : ∃ y, fs[j]? = some y := ⟨_, List.getElem?_eq_getElem (by have := hnet.ef; omega)⟩
                  have d0 := Hcc.out j y hy wr hW
                  have c0 := Hcc.out k2 x Hx.out wr hW
                  have Hy := hide hy
                  have hj0 : (0 : Int) ≤ (j : Int) := by omega
                  have hj1 : (j : Int) < (nf : Int) := by omega
                  have hbw : b < wr.heap.size := by have := hW.size; omega
                  have hat := hat3
                  clear hy
                  by_cases he : y = x
                  · subst he
                    go_wp2_with fail
                    refine wp_region_held_drew (S := (fun W => Below wr.heap.size wr W)) (by kernel_rfl) (by (try dsimp only); exact (Below.refl _ _).drew) (fun hHeld => ?_)
                    iterate 4
                      refine tkHl [0, 2, 5, 7] ?_ rfl rfl (Or.inl ⟨by rfl, ?_⟩) hHeld ?_
                      rotate_left
                      · (intro w hSw; (try dsimp only at hSw); go_simp; try (with_reducible rfl))
                      try simp only [Act.put, tl1, tl2, tl3]
                    iterate 2
                      refine tkHl [1, 6] ?_ rfl rfl (Or.inl ⟨by rfl, ?_⟩) hHeld ?_
                      rotate_left
                      · (intro w hSw; (try dsimp only at hSw); obtain ⟨q0, q1, q2, q3⟩ := (hat.below hSw).c4; have c0 := (hSw.cell (p := ⟨b, off + k2, none⟩) (by show b < _; omega)).trans c0; have d0 := (hSw.cell (p := ⟨b, off + j, none⟩) (by show b < _; omega)).trans d0; go_simp; try (with_reducible rfl))
                      try simp only [Act.put, tl1, tl2, tl3]
                    iterate 2
                      refine tkHl [3, 8] ?_ rfl rfl (Or.inl ⟨by rfl, ?_⟩) hHeld ?_
                      rotate_left
                      · (intro w hSw; (try dsimp only at hSw); go_simp; try (with_reducible rfl))
                      try simp only [Act.put, tl1, tl2, tl3]
                    iterate 2
                      refine tkHl [4, 9] ?_ rfl rfl (Or.inl ⟨by rfl, ?_⟩) hHeld ?_
                      rotate_left
                      · (intro w hSw; (try dsimp only at hSw); obtain ⟨q0, q1, q2, q3⟩ := (hat.below hSw).c4; have c0 := (hSw.cell (p := ⟨b, off + k2, none⟩) (by show b < _; omega)).trans c0; have d0 := (hSw.cell (p := ⟨b, off + j, none⟩) (by show b < _; omega)).trans d0; go_simp; try (with_reducible rfl))
                      try simp only [Act.put, tl1, tl2, tl3]
                    refine tkH 10 ?_ rfl (Or.inl ⟨by rfl, ?_⟩) hHeld ?_
                    rotate_left
                    · (intro w hSw; (try dsimp only at hSw); go_simp; try (with_reducible rfl))
                    try simp only [Act.put, tl1, tl2, tl3]
                    refine wpAnyH_done (by kernel_rfl) ?_ _
                    have hB4 := hB3.trans (hHeld.mono hB3.size)
                    clear c0 d0
                    go_wp2
                    go_ret
                    exact ⟨ret_int (netErr_dup Hy.out Hx.out hlt3).symm, hB4⟩
                  · have t1 : (y == x) = false := by simpa using he
                    have He := hide he; clear he
                    go_wp2_with fail
                    refine wp_region_held_drew (S := (fun W => Below wr.heap.size wr W)) (by kernel_rfl) (by (try dsimp only); exact (Below.refl _ _).drew) (fun hHeld => ?_)
                    iterate 4
                      refine tkHl [0, 2, 5, 7] ?_ rfl rfl (Or.inl ⟨by rfl, ?_⟩) hHeld ?_
                      rotate_left
                      · (intro w hSw; (try dsimp only at hSw); go_simp; try (with_reducible rfl))
                      try simp only [Act.put, tl1, tl2, tl3]
                    iterate 2
                      refine tkHl [1, 6] ?_ rfl rfl (Or.inl ⟨by rfl, ?_⟩) hHeld ?_
                      rotate_left
                      · (intro w hSw; (try dsimp only at hSw); obtain ⟨q0, q1, q2, q3⟩ := (hat.below hSw).c4; have c0 := (hSw.cell (p := ⟨b, off + k2, none⟩) (by show b < _; omega)).trans c0; have d0 := (hSw.cell (p := ⟨b, off + j, none⟩) (by show b < _; omega)).trans d0; go_simp; try (with_reducible rfl))
                      try simp only [Act.put, tl1, tl2, tl3]
                    iterate 2
                      refine tkHl [3, 8] ?_ rfl rfl (Or.inl ⟨by rfl, ?_⟩) hHeld ?_
                      rotate_left
                      · (intro w hSw; (try dsimp only at hSw); go_simp; try (with_reducible rfl))
                      try simp only [Act.put, tl1, tl2, tl3]
                    iterate 2
                      refine tkHl [4, 9] ?_ rfl rfl (Or.inl ⟨by rfl, ?_⟩) hHeld ?_
                      rotate_left
                      · (intro w hSw; (try dsimp only at hSw); obtain ⟨q0, q1, q2, q3⟩ := (hat.below hSw).c4; have c0 := (hSw.cell (p := ⟨b, off + k2, none⟩) (by show b < _; omega)).trans c0; have d0 := (hSw.cell (p := ⟨b, off + j, none⟩) (by show b < _; omega)).trans d0; go_simp; try (with_reducible rfl))
                      try simp only [Act.put, tl1, tl2, tl3]
                    refine tkH 10 ?_ rfl (Or.inl ⟨by rfl, ?_⟩) hHeld ?_
                    rotate_left
                    · (intro w hSw; (try dsimp only at hSw); go_simp; try (with_reducible rfl))
                    try simp only [Act.put, tl1, tl2, tl3]
                    refine wpAnyH_done (by kernel_rfl) ?_ _
                    clear c0 d0
                    go_wp2
                    refine ⟨⟨j + 1, by omega, by go_num, hW.trans (hHeld.mono hW.size), hide (fun j' h => ?_)⟩, by simp [intOf]; omega⟩
                    by_cases e : j' = j
                    · subst e; rw [Hy.out]; intro h; injection h with h; exact He.out h
                    · exact hpre.out j' (by omega)
                · obtain rfl : k2 = j := by omega
                  go_wp2
                  exact ⟨⟨k2 + 1, by omega, by go_num, hB3, hat3, hide (hto.out.snoc Hx.out G1.out hpre.out)⟩, by simp [intOf]; omega⟩
          · have Hn := hide hnet.ef
            go_wp2_with fail
            go_ret
            refine ⟨ret_int (netErr_all Hp.out Hall.out (fun x hx => ?_) ?_).symm, hB⟩
            · have h := hto.out.in_ x (by rw [List.take_of_length_le (by have := Hn.out; omega)]; exact hx)
              rwa [hnet.ec] at h
            · have h := hto.out.nodup
              rwa [List.take_of_length_le (by have := Hn.out; omega)] at h
end Go.Proofs.Ythlnbgjlkliopaa
