/- The reference of channel: which uses are valid, by contract. -/
import Derived.Test.YthlnbgjlkliopaaR1b
set_option linter.unusedVariables false
set_option linter.unusedSimpArgs false
namespace Go.Proofs.Ythlnbgjlkliopaa
open Go.RowKit Go.Shelf
attribute [local go_sem ↓] Go.wp_at_zero Go.wp_at_succ
set_option maxHeartbeats 4000000 in
set_option maxRecDepth 100000 in
theorem rUses_any (Ac Af : Option Addr) (nc cc nf cf : Nat) (dry days : Int) (A : Option Addr) (us : List Us) (nu cu : Nat) (w : World) (hu : Rd w w.heap.size Us.cells A us) (hnu : nu = us.length) (hnu2 : nu ≤ 100000) (hnf : nf ≤ 1000) (hd1 : 1 ≤ days) (hd2 : days ≤ 16) :
    Calls Try.prog 23 #[.agg #[.slice Ac nc cc, .slice Af nf cf, .int .i64 dry, .int .i64 days], .slice A nu cu] w fun e w' => e = .returned (.bool (usesOk nf days us)) ∧ Below w.heap.size w w' := by
  have Hu := hide hu; have Hn := hide hnu; clear hu hnu
  have hat0 := At.new w #[.slice Ac nc cc, .slice Af nf cf, .int .i64 dry, .int .i64 days] 25 w.heap.size rfl _ rfl
  have hB0 := below_new w (.cells #[.slice Ac nc cc, .slice Af nf cf, .int .i64 dry, .int .i64 days] 25)
  by_cases h60 : 60 < nu
  · go_enter Try.func23, Try.ntmps23
    go_wp2_with fail
    go_ret
    refine ⟨ret_bool ?_, hB0⟩
    have : ¬ us.length ≤ 60 := by have := Hn.out; omega
    simp [usesOk, this]
  have hlen : decide (us.length ≤ 60) = true := by have := Hn.out; simp; omega
  have Hlen := hide hlen; clear hlen
  go_enter Try.func23, Try.ntmps23
  go_wp2_with fail
  go_loopw [5, 6] (fun l i wr => ∃ (k : Nat) (last : Int), k ≤ nu ∧ i = .int .i64 k ∧ l = .int .i64 last ∧ Below w.heap.size w wr ∧ At wr w.heap.size [.slice Ac nc cc, .slice Af nf cf, .int .i64 dry, .int .i64 days] ∧ Hid (usAll nf (days * 1440) 0 us = usAll nf (days * 1440) last (us.drop k))) (fun _ i _ => nu - (intOf i).toNat)
  case atStart => exact ⟨0, 0, by omega, rfl, rfl, hB0, hat0, hide rfl⟩
  case round =>
    clear hat0 hB0
    obtain ⟨k, last, hk, rfl, rfl, hB, hat, heq⟩ := hrel
    by_cases hlt : k < nu
    · obtain ⟨b, off, uf, us', ut, hA, hbB, hx, c0, c1, c2⟩ := (Hu.out.below hB).us (i := k) (by have := Hn.out; omega)
      subst hA
      have hst := usAll_step (nf := nf) (cyc := days * 1440) (last := last) hx
      have Hst := hide (heq.out.trans hst)
      clear hx hst heq
      obtain ⟨w2, Hw2⟩ : ∃ w2, Hid (wr.alloc (.cells #[.int .i64 us', .int .i64 ut] 45) = w2) := ⟨_, hide rfl⟩
      have hb2 : Below wr.heap.size wr w2 := by rw [← Hw2.out]; exact below_new _ _
      have htb : At w2 wr.heap.size [.int .i64 us', .int .i64 ut] := by rw [← Hw2.out]; exact At.new _ _ _ _ rfl _ rfl
      have hat2 := hat.below hb2
      have hB2 := hB.trans (hb2.mono hB.size)
      go_wp2_with fail
      rw [Hw2.out]
      have hbw : b < w2.heap.size := by have := hB2.size; omega
      have c0 := (hb2.cell (p := ⟨b, off + k * 3, none⟩) (by have := hB.size; show b < _; omega)).trans c0
      have hi0 : (0 : Int) ≤ (k : Int) := by omega
      have hi1 : (k : Int) < (nu : Int) := by omega
      obtain ⟨bo, hbo⟩ : ∃ bo, bo = usOk nf (days * 1440) last ⟨uf, us', ut⟩ := ⟨_, rfl⟩
      have hus : bo = (inF nf uf && (!decide (us' < last) && (!decide (ut ≤ us') && !decide (days * 1440 < ut)))) := hbo
      have Hbo := hide hbo
      clear hbo
      cases e1 : inF nf uf
      · rw [e1, Bool.false_and] at hus
        have Hus := hide hus; have E1 := hide e1
        clear e1 hus
        refine wp_region_held_drew (S := (fun W => Below w2.heap.size w2 W)) (by kernel_rfl) (by (try dsimp only); exact (Below.refl _ _).drew) (fun hHeld => ?_)
        refine tkH 0 ?_ rfl (Or.inl ⟨by rfl, ?_⟩) hHeld ?_
        rotate_left
        · (intro w hSw; (try dsimp only at hSw); obtain ⟨q0, q1, q2, q3⟩ := (hat2.below hSw).c4; obtain ⟨z0, z1⟩ := (htb.below hSw).c2; have c0 := (hSw.cell (p := ⟨b, off + k * 3, none⟩) (by show b < _; omega)).trans c0; go_simp; try (with_reducible rfl))
        try simp only [Act.put, tl1, tl2, tl3]
        iterate 4
          refine tkHl [1, 2, 3, 4] ?_ rfl rfl (Or.inl ⟨by rfl, ?_⟩) hHeld ?_
          rotate_left
          · (intro w hSw; (try dsimp only at hSw); go_simp; try (with_reducible rfl))
          try simp only [Act.put, tl1, tl2, tl3]
        refine tkH 5 ?_ rfl (Or.inl ⟨by rfl, ?_⟩) hHeld ?_
        rotate_left
        · (intro w hSw; (try dsimp only at hSw); obtain ⟨q0, q1, q2, q3⟩ := (hat2.below hSw).c4; obtain ⟨z0, z1⟩ := (htb.below hSw).c2; have c0 := (hSw.cell (p := ⟨b, off + k * 3, none⟩) (by show b < _; omega)).trans c0; go_simp; try (with_reducible rfl))
        try simp only [Act.put, tl1, tl2, tl3]
        refine wpAnyH_ready (rs := [6]) (by kernel_rfl) (by simp) ?_
        refine AllReadyH.cons (o := ⟨_, _, _, _, _, _⟩) rfl (fun K hK => ?_) AllReadyH.nil
        go_simp
        refine (rField_any _ _ _ _ _ _ _ _ _ _ hnf).mono ?_
        rintro e w' ⟨rfl, hb⟩
        rw [E1.out]
        go_wp2_with fail
        refine hK.out _ _ ?_ (fun hHeld2 => ?_)
        · (try dsimp only)
          (first | exact hHeld | exact hHeld.trans (hb.mono hHeld.size) | exact hHeld.trans ((below_new _ _).mono hHeld.size) | exact hHeld.drew)
        clear hK K hHeld; have hHeld := hHeld2; clear hHeld2
        try simp only [Act.put, tl1, tl2, tl3]
        iterate 2
          refine tkHl [7, 8] ?_ rfl rfl (Or.inl ⟨by rfl, ?_⟩) hHeld ?_
          rotate_left
          · (intro w hSw; (try dsimp only at hSw); go_simp; try (with_reducible rfl))
          try simp only [Act.put, tl1, tl2, tl3]
        iterate 4
          refine tkHl [9, 10, 11, 12] _ rfl rfl (Or.inr ⟨by rfl, rfl⟩) hHeld ?_
          try simp only [Act.put, tl1, tl2, tl3]
        iterate 2
          refine tkHl [13, 14] ?_ rfl rfl (Or.inl ⟨by rfl, ?_⟩) hHeld ?_
          rotate_left
          · (intro w hSw; (try dsimp only at hSw); go_simp; try (with_reducible rfl))
          try simp only [Act.put, tl1, tl2, tl3]
        iterate 5
          refine tkHl [15, 16, 17, 18, 19] _ rfl rfl (Or.inr ⟨by rfl, rfl⟩) hHeld ?_
          try simp only [Act.put, tl1, tl2, tl3]
        iterate 2
          refine tkHl [20, 21] ?_ rfl rfl (Or.inl ⟨by rfl, ?_⟩) hHeld ?_
          rotate_left
          · (intro w hSw; (try dsimp only at hSw); go_simp; try (with_reducible rfl))
          try simp only [Act.put, tl1, tl2, tl3]
        iterate 3
          refine tkHl [22, 23, 24] _ rfl rfl (Or.inr ⟨by rfl, rfl⟩) hHeld ?_
          try simp only [Act.put, tl1, tl2, tl3]
        refine wpAnyH_ready (rs := [25]) (by kernel_rfl) (by simp) ?_
        refine AllReadyH.cons (o := ⟨_, _, _, _, _, _⟩) rfl (fun K hK => ?_) AllReadyH.nil
        go_simp
        refine hK.out _ _ ?_ (fun hHeld2 => ?_)
        · (try dsimp only)
          (first | exact hHeld | exact hHeld.trans (hb.mono hHeld.size) | exact hHeld.trans ((below_new _ _).mono hHeld.size) | exact hHeld.drew)
        clear hK K hHeld; have hHeld := hHeld2; clear hHeld2
        try simp only [Act.put, tl1, tl2, tl3]
        refine tkH 26 _ rfl (Or.inr ⟨by rfl, rfl⟩) hHeld ?_
        try simp only [Act.put, tl1, tl2, tl3]
        refine tkH 27 ?_ rfl (Or.inl ⟨by rfl, ?_⟩) hHeld ?_
        rotate_left
        · (intro w hSw; (try dsimp only at hSw); go_simp; try (with_reducible rfl))
        try simp only [Act.put, tl1, tl2, tl3]
        refine wpAnyH_done (by kernel_rfl) ?_ _
        go_wp2_with fail
        go_ret
        refine ⟨ret_bool ?_, hB2.trans (hHeld.mono hB2.size)⟩
        have h1 := Hst.out
        rw [← Hbo.out, Hus.out, Bool.false_and] at h1
        simp only [usesOk]
        rw [h1]
        rfl
      · rw [e1, Bool.true_and] at hus
        have E1 := hide e1; clear e1
        by_cases d1 : us' < last
        · rw [decide_eq_true d1, Bool.not_true, Bool.false_and] at hus
          have Hus := hide hus; clear hus
          have d2 : decide (us' < last) = true := decide_eq_true d1
          refine wp_region_held_drew (S := (fun W => Below w2.heap.size w2 W)) (by kernel_rfl) (by (try dsimp only); exact (Below.refl _ _).drew) (fun hHeld => ?_)
          refine tkH 0 ?_ rfl (Or.inl ⟨by rfl, ?_⟩) hHeld ?_
          rotate_left
          · (intro w hSw; (try dsimp only at hSw); obtain ⟨q0, q1, q2, q3⟩ := (hat2.below hSw).c4; obtain ⟨z0, z1⟩ := (htb.below hSw).c2; have c0 := (hSw.cell (p := ⟨b, off + k * 3, none⟩) (by show b < _; omega)).trans c0; go_simp; try (with_reducible rfl))
          try simp only [Act.put, tl1, tl2, tl3]
          iterate 4
            refine tkHl [1, 2, 3, 4] ?_ rfl rfl (Or.inl ⟨by rfl, ?_⟩) hHeld ?_
            rotate_left
            · (intro w hSw; (try dsimp only at hSw); go_simp; try (with_reducible rfl))
            try simp only [Act.put, tl1, tl2, tl3]
          refine tkH 5 ?_ rfl (Or.inl ⟨by rfl, ?_⟩) hHeld ?_
          rotate_left
          · (intro w hSw; (try dsimp only at hSw); obtain ⟨q0, q1, q2, q3⟩ := (hat2.below hSw).c4; obtain ⟨z0, z1⟩ := (htb.below hSw).c2; have c0 := (hSw.cell (p := ⟨b, off + k * 3, none⟩) (by show b < _; omega)).trans c0; go_simp; try (with_reducible rfl))
          try simp only [Act.put, tl1, tl2, tl3]
          refine wpAnyH_ready (rs := [6]) (by kernel_rfl) (by simp) ?_
          refine AllReadyH.cons (o := ⟨_, _, _, _, _, _⟩) rfl (fun K hK => ?_) AllReadyH.nil
          go_simp
          refine (rField_any _ _ _ _ _ _ _ _ _ _ hnf).mono ?_
          rintro e w' ⟨rfl, hb⟩
          rw [E1.out]
          go_wp2_with fail
          refine hK.out _ _ ?_ (fun hHeld2 => ?_)
          · (try dsimp only)
            (first | exact hHeld | exact hHeld.trans (hb.mono hHeld.size) | exact hHeld.trans ((below_new _ _).mono hHeld.size) | exact hHeld.drew)
          clear hK K hHeld; have hHeld := hHeld2; clear hHeld2
          try simp only [Act.put, tl1, tl2, tl3]
          iterate 4
            refine tkHl [7, 8, 9, 11] ?_ rfl rfl (Or.inl ⟨by rfl, ?_⟩) hHeld ?_
            rotate_left
            · (intro w hSw; (try dsimp only at hSw); go_simp; try (with_reducible rfl))
            try simp only [Act.put, tl1, tl2, tl3]
          refine tkH 10 ?_ rfl (Or.inl ⟨by rfl, ?_⟩) hHeld ?_
          rotate_left
          · (intro w hSw; (try dsimp only at hSw); obtain ⟨q0, q1, q2, q3⟩ := (hat2.below hSw).c4; obtain ⟨z0, z1⟩ := (htb.below hSw).c2; have c0 := (hSw.cell (p := ⟨b, off + k * 3, none⟩) (by show b < _; omega)).trans c0; go_simp; try (with_reducible rfl))
          try simp only [Act.put, tl1, tl2, tl3]
          iterate 3
            refine tkHl [12, 13, 14] ?_ rfl rfl (Or.inl ⟨by rfl, ?_⟩) hHeld ?_
            rotate_left
            · (intro w hSw; (try dsimp only at hSw); go_simp; try (with_reducible rfl))
            try simp only [Act.put, tl1, tl2, tl3]
          iterate 5
            refine tkHl [15, 16, 17, 18, 19] _ rfl rfl (Or.inr ⟨by rfl, rfl⟩) hHeld ?_
            try simp only [Act.put, tl1, tl2, tl3]
          iterate 2
            refine tkHl [20, 21] ?_ rfl rfl (Or.inl ⟨by rfl, ?_⟩) hHeld ?_
            rotate_left
            · (intro w hSw; (try dsimp only at hSw); go_simp; try (with_reducible rfl))
            try simp only [Act.put, tl1, tl2, tl3]
          iterate 3
            refine tkHl [22, 23, 24] _ rfl rfl (Or.inr ⟨by rfl, rfl⟩) hHeld ?_
            try simp only [Act.put, tl1, tl2, tl3]
          refine wpAnyH_ready (rs := [25]) (by kernel_rfl) (by simp) ?_
          refine AllReadyH.cons (o := ⟨_, _, _, _, _, _⟩) rfl (fun K hK => ?_) AllReadyH.nil
          go_simp
          refine hK.out _ _ ?_ (fun hHeld2 => ?_)
          · (try dsimp only)
            (first | exact hHeld | exact hHeld.trans (hb.mono hHeld.size) | exact hHeld.trans ((below_new _ _).mono hHeld.size) | exact hHeld.drew)
          clear hK K hHeld; have hHeld := hHeld2; clear hHeld2
          try simp only [Act.put, tl1, tl2, tl3]
          refine tkH 26 _ rfl (Or.inr ⟨by rfl, rfl⟩) hHeld ?_
          try simp only [Act.put, tl1, tl2, tl3]
          refine tkH 27 ?_ rfl (Or.inl ⟨by rfl, ?_⟩) hHeld ?_
          rotate_left
          · (intro w hSw; (try dsimp only at hSw); go_simp; try (with_reducible rfl))
          try simp only [Act.put, tl1, tl2, tl3]
          refine wpAnyH_done (by kernel_rfl) ?_ _
          go_wp2_with fail
          go_ret
          refine ⟨ret_bool ?_, hB2.trans (hHeld.mono hB2.size)⟩
          have h1 := Hst.out
          rw [← Hbo.out, Hus.out, Bool.false_and] at h1
          simp only [usesOk]
          rw [h1]
          rfl
        · rw [decide_eq_false d1, Bool.not_false, Bool.true_and] at hus
          have d2 : decide (us' < last) = false := decide_eq_false d1
          by_cases d3 : ut ≤ us'
          · rw [decide_eq_true d3, Bool.not_true, Bool.false_and] at hus
            have Hus := hide hus; clear hus
            have d4 : decide (ut ≤ us') = true := decide_eq_true d3
            refine wp_region_held_drew (S := (fun W => Below w2.heap.size w2 W)) (by kernel_rfl) (by (try dsimp only); exact (Below.refl _ _).drew) (fun hHeld => ?_)
            refine tkH 0 ?_ rfl (Or.inl ⟨by rfl, ?_⟩) hHeld ?_
            rotate_left
            · (intro w hSw; (try dsimp only at hSw); obtain ⟨q0, q1, q2, q3⟩ := (hat2.below hSw).c4; obtain ⟨z0, z1⟩ := (htb.below hSw).c2; have c0 := (hSw.cell (p := ⟨b, off + k * 3, none⟩) (by show b < _; omega)).trans c0; go_simp; try (with_reducible rfl))
            try simp only [Act.put, tl1, tl2, tl3]
            iterate 4
              refine tkHl [1, 2, 3, 4] ?_ rfl rfl (Or.inl ⟨by rfl, ?_⟩) hHeld ?_
              rotate_left
              · (intro w hSw; (try dsimp only at hSw); go_simp; try (with_reducible rfl))
              try simp only [Act.put, tl1, tl2, tl3]
            refine tkH 5 ?_ rfl (Or.inl ⟨by rfl, ?_⟩) hHeld ?_
            rotate_left
            · (intro w hSw; (try dsimp only at hSw); obtain ⟨q0, q1, q2, q3⟩ := (hat2.below hSw).c4; obtain ⟨z0, z1⟩ := (htb.below hSw).c2; have c0 := (hSw.cell (p := ⟨b, off + k * 3, none⟩) (by show b < _; omega)).trans c0; go_simp; try (with_reducible rfl))
            try simp only [Act.put, tl1, tl2, tl3]
            refine wpAnyH_ready (rs := [6]) (by kernel_rfl) (by simp) ?_
            refine AllReadyH.cons (o := ⟨_, _, _, _, _, _⟩) rfl (fun K hK => ?_) AllReadyH.nil
            go_simp
            refine (rField_any _ _ _ _ _ _ _ _ _ _ hnf).mono ?_
            rintro e w' ⟨rfl, hb⟩
            rw [E1.out]
            go_wp2_with fail
            refine hK.out _ _ ?_ (fun hHeld2 => ?_)
            · (try dsimp only)
              (first | exact hHeld | exact hHeld.trans (hb.mono hHeld.size) | exact hHeld.trans ((below_new _ _).mono hHeld.size) | exact hHeld.drew)
            clear hK K hHeld; have hHeld := hHeld2; clear hHeld2
            try simp only [Act.put, tl1, tl2, tl3]
            iterate 4
              refine tkHl [7, 8, 9, 11] ?_ rfl rfl (Or.inl ⟨by rfl, ?_⟩) hHeld ?_
              rotate_left
              · (intro w hSw; (try dsimp only at hSw); go_simp; try (with_reducible rfl))
              try simp only [Act.put, tl1, tl2, tl3]
            refine tkH 10 ?_ rfl (Or.inl ⟨by rfl, ?_⟩) hHeld ?_
            rotate_left
            · (intro w hSw; (try dsimp only at hSw); obtain ⟨q0, q1, q2, q3⟩ := (hat2.below hSw).c4; obtain ⟨z0, z1⟩ := (htb.below hSw).c2; have c0 := (hSw.cell (p := ⟨b, off + k * 3, none⟩) (by show b < _; omega)).trans c0; go_simp; try (with_reducible rfl))
            try simp only [Act.put, tl1, tl2, tl3]
            iterate 5
              refine tkHl [12, 13, 14, 15, 17] ?_ rfl rfl (Or.inl ⟨by rfl, ?_⟩) hHeld ?_
              rotate_left
              · (intro w hSw; (try dsimp only at hSw); go_simp; try (with_reducible rfl))
              try simp only [Act.put, tl1, tl2, tl3]
            iterate 2
              refine tkHl [16, 18] ?_ rfl rfl (Or.inl ⟨by rfl, ?_⟩) hHeld ?_
              rotate_left
              · (intro w hSw; (try dsimp only at hSw); obtain ⟨q0, q1, q2, q3⟩ := (hat2.below hSw).c4; obtain ⟨z0, z1⟩ := (htb.below hSw).c2; have c0 := (hSw.cell (p := ⟨b, off + k * 3, none⟩) (by show b < _; omega)).trans c0; go_simp; try (with_reducible rfl))
              try simp only [Act.put, tl1, tl2, tl3]
            iterate 3
              refine tkHl [19, 20, 21] ?_ rfl rfl (Or.inl ⟨by rfl, ?_⟩) hHeld ?_
              rotate_left
              · (intro w hSw; (try dsimp only at hSw); go_simp; try (with_reducible rfl))
              try simp only [Act.put, tl1, tl2, tl3]
            iterate 3
              refine tkHl [22, 23, 24] _ rfl rfl (Or.inr ⟨by rfl, rfl⟩) hHeld ?_
              try simp only [Act.put, tl1, tl2, tl3]
            refine wpAnyH_ready (rs := [25]) (by kernel_rfl) (by simp) ?_
            refine AllReadyH.cons (o := ⟨_, _, _, _, _, _⟩) rfl (fun K hK => ?_) AllReadyH.nil
            go_simp
            refine hK.out _ _ ?_ (fun hHeld2 => ?_)
            · (try dsimp only)
              (first | exact hHeld | exact hHeld.trans (hb.mono hHeld.size) | exact hHeld.trans ((below_new _ _).mono hHeld.size) | exact hHeld.drew)
            clear hK K hHeld; have hHeld := hHeld2; clear hHeld2
            try simp only [Act.put, tl1, tl2, tl3]
            refine tkH 26 _ rfl (Or.inr ⟨by rfl, rfl⟩) hHeld ?_
            try simp only [Act.put, tl1, tl2, tl3]
            refine tkH 27 ?_ rfl (Or.inl ⟨by rfl, ?_⟩) hHeld ?_
            rotate_left
            · (intro w hSw; (try dsimp only at hSw); go_simp; try (with_reducible rfl))
            try simp only [Act.put, tl1, tl2, tl3]
            refine wpAnyH_done (by kernel_rfl) ?_ _
            go_wp2_with fail
            go_ret
            refine ⟨ret_bool ?_, hB2.trans (hHeld.mono hB2.size)⟩
            have h1 := Hst.out
            rw [← Hbo.out, Hus.out, Bool.false_and] at h1
            simp only [usesOk]
            rw [h1]
            rfl
          · rw [decide_eq_false d3, Bool.not_false, Bool.true_and] at hus
            have d4 : decide (ut ≤ us') = false := decide_eq_false d3
            by_cases d5 : days * 1440 < ut
            · rw [decide_eq_true d5, Bool.not_true] at hus
              have Hus := hide hus; clear hus
              have d6 : decide (days * 1440 < ut) = true := decide_eq_true d5
              refine wp_region_held_drew (S := (fun W => Below w2.heap.size w2 W)) (by kernel_rfl) (by (try dsimp only); exact (Below.refl _ _).drew) (fun hHeld => ?_)
              refine tkH 0 ?_ rfl (Or.inl ⟨by rfl, ?_⟩) hHeld ?_
              rotate_left
              · (intro w hSw; (try dsimp only at hSw); obtain ⟨q0, q1, q2, q3⟩ := (hat2.below hSw).c4; obtain ⟨z0, z1⟩ := (htb.below hSw).c2; have c0 := (hSw.cell (p := ⟨b, off + k * 3, none⟩) (by show b < _; omega)).trans c0; go_simp; try (with_reducible rfl))
              try simp only [Act.put, tl1, tl2, tl3]
              iterate 4
                refine tkHl [1, 2, 3, 4] ?_ rfl rfl (Or.inl ⟨by rfl, ?_⟩) hHeld ?_
                rotate_left
                · (intro w hSw; (try dsimp only at hSw); go_simp; try (with_reducible rfl))
                try simp only [Act.put, tl1, tl2, tl3]
              refine tkH 5 ?_ rfl (Or.inl ⟨by rfl, ?_⟩) hHeld ?_
              rotate_left
              · (intro w hSw; (try dsimp only at hSw); obtain ⟨q0, q1, q2, q3⟩ := (hat2.below hSw).c4; obtain ⟨z0, z1⟩ := (htb.below hSw).c2; have c0 := (hSw.cell (p := ⟨b, off + k * 3, none⟩) (by show b < _; omega)).trans c0; go_simp; try (with_reducible rfl))
              try simp only [Act.put, tl1, tl2, tl3]
              refine wpAnyH_ready (rs := [6]) (by kernel_rfl) (by simp) ?_
              refine AllReadyH.cons (o := ⟨_, _, _, _, _, _⟩) rfl (fun K hK => ?_) AllReadyH.nil
              go_simp
              refine (rField_any _ _ _ _ _ _ _ _ _ _ hnf).mono ?_
              rintro e w' ⟨rfl, hb⟩
              rw [E1.out]
              go_wp2_with fail
              refine hK.out _ _ ?_ (fun hHeld2 => ?_)
              · (try dsimp only)
                (first | exact hHeld | exact hHeld.trans (hb.mono hHeld.size) | exact hHeld.trans ((below_new _ _).mono hHeld.size) | exact hHeld.drew)
              clear hK K hHeld; have hHeld := hHeld2; clear hHeld2
              try simp only [Act.put, tl1, tl2, tl3]
              iterate 4
                refine tkHl [7, 8, 9, 11] ?_ rfl rfl (Or.inl ⟨by rfl, ?_⟩) hHeld ?_
                rotate_left
                · (intro w hSw; (try dsimp only at hSw); go_simp; try (with_reducible rfl))
                try simp only [Act.put, tl1, tl2, tl3]
              refine tkH 10 ?_ rfl (Or.inl ⟨by rfl, ?_⟩) hHeld ?_
              rotate_left
              · (intro w hSw; (try dsimp only at hSw); obtain ⟨q0, q1, q2, q3⟩ := (hat2.below hSw).c4; obtain ⟨z0, z1⟩ := (htb.below hSw).c2; have c0 := (hSw.cell (p := ⟨b, off + k * 3, none⟩) (by show b < _; omega)).trans c0; go_simp; try (with_reducible rfl))
              try simp only [Act.put, tl1, tl2, tl3]
              iterate 5
                refine tkHl [12, 13, 14, 15, 17] ?_ rfl rfl (Or.inl ⟨by rfl, ?_⟩) hHeld ?_
                rotate_left
                · (intro w hSw; (try dsimp only at hSw); go_simp; try (with_reducible rfl))
                try simp only [Act.put, tl1, tl2, tl3]
              iterate 2
                refine tkHl [16, 18] ?_ rfl rfl (Or.inl ⟨by rfl, ?_⟩) hHeld ?_
                rotate_left
                · (intro w hSw; (try dsimp only at hSw); obtain ⟨q0, q1, q2, q3⟩ := (hat2.below hSw).c4; obtain ⟨z0, z1⟩ := (htb.below hSw).c2; have c0 := (hSw.cell (p := ⟨b, off + k * 3, none⟩) (by show b < _; omega)).trans c0; go_simp; try (with_reducible rfl))
                try simp only [Act.put, tl1, tl2, tl3]
              iterate 4
                refine tkHl [19, 20, 21, 22] ?_ rfl rfl (Or.inl ⟨by rfl, ?_⟩) hHeld ?_
                rotate_left
                · (intro w hSw; (try dsimp only at hSw); go_simp; try (with_reducible rfl))
                try simp only [Act.put, tl1, tl2, tl3]
              iterate 2
                refine tkHl [23, 24] ?_ rfl rfl (Or.inl ⟨by rfl, ?_⟩) hHeld ?_
                rotate_left
                · (intro w hSw; (try dsimp only at hSw); obtain ⟨q0, q1, q2, q3⟩ := (hat2.below hSw).c4; obtain ⟨z0, z1⟩ := (htb.below hSw).c2; have c0 := (hSw.cell (p := ⟨b, off + k * 3, none⟩) (by show b < _; omega)).trans c0; go_simp; try (with_reducible rfl))
                try simp only [Act.put, tl1, tl2, tl3]
              refine wpAnyH_ready (rs := [25]) (by kernel_rfl) (by simp) ?_
              refine AllReadyH.cons (o := ⟨_, _, _, _, _, _⟩) rfl (fun K hK => ?_) AllReadyH.nil
              go_simp
              refine (rCycle_any _ _ _ _ _ _ _ _ _ (by omega) (by omega)).mono ?_
              rintro e w' ⟨rfl, hb⟩
              go_wp2_with fail
              refine hK.out _ _ ?_ (fun hHeld2 => ?_)
              · (try dsimp only)
                (first | exact hHeld | exact hHeld.trans (hb.mono hHeld.size) | exact hHeld.trans ((below_new _ _).mono hHeld.size) | exact hHeld.drew)
              clear hK K hHeld; have hHeld := hHeld2; clear hHeld2
              try simp only [Act.put, tl1, tl2, tl3]
              iterate 2
                refine tkHl [26, 27] ?_ rfl rfl (Or.inl ⟨by rfl, ?_⟩) hHeld ?_
                rotate_left
                · (intro w hSw; (try dsimp only at hSw); go_simp; try (with_reducible rfl))
                try simp only [Act.put, tl1, tl2, tl3]
              refine wpAnyH_done (by kernel_rfl) ?_ _
              go_wp2_with fail
              go_ret
              refine ⟨ret_bool ?_, hB2.trans (hHeld.mono hB2.size)⟩
              have h1 := Hst.out
              rw [← Hbo.out, Hus.out, Bool.false_and] at h1
              simp only [usesOk]
              rw [h1]
              rfl
            · rw [decide_eq_false d5, Bool.not_false] at hus
              have Hus := hide hus; clear hus
              have d6 : decide (days * 1440 < ut) = false := decide_eq_false d5
              refine wp_region_held_drew (S := (fun W => Below w2.heap.size w2 W)) (by kernel_rfl) (by (try dsimp only); exact (Below.refl _ _).drew) (fun hHeld => ?_)
              refine tkH 0 ?_ rfl (Or.inl ⟨by rfl, ?_⟩) hHeld ?_
              rotate_left
              · (intro w hSw; (try dsimp only at hSw); obtain ⟨q0, q1, q2, q3⟩ := (hat2.below hSw).c4; obtain ⟨z0, z1⟩ := (htb.below hSw).c2; have c0 := (hSw.cell (p := ⟨b, off + k * 3, none⟩) (by show b < _; omega)).trans c0; go_simp; try (with_reducible rfl))
              try simp only [Act.put, tl1, tl2, tl3]
              iterate 4
                refine tkHl [1, 2, 3, 4] ?_ rfl rfl (Or.inl ⟨by rfl, ?_⟩) hHeld ?_
                rotate_left
                · (intro w hSw; (try dsimp only at hSw); go_simp; try (with_reducible rfl))
                try simp only [Act.put, tl1, tl2, tl3]
              refine tkH 5 ?_ rfl (Or.inl ⟨by rfl, ?_⟩) hHeld ?_
              rotate_left
              · (intro w hSw; (try dsimp only at hSw); obtain ⟨q0, q1, q2, q3⟩ := (hat2.below hSw).c4; obtain ⟨z0, z1⟩ := (htb.below hSw).c2; have c0 := (hSw.cell (p := ⟨b, off + k * 3, none⟩) (by show b < _; omega)).trans c0; go_simp; try (with_reducible rfl))
              try simp only [Act.put, tl1, tl2, tl3]
              refine wpAnyH_ready (rs := [6]) (by kernel_rfl) (by simp) ?_
              refine AllReadyH.cons (o := ⟨_, _, _, _, _, _⟩) rfl (fun K hK => ?_) AllReadyH.nil
              go_simp
              refine (rField_any _ _ _ _ _ _ _ _ _ _ hnf).mono ?_
              rintro e w' ⟨rfl, hb⟩
              rw [E1.out]
              go_wp2_with fail
              refine hK.out _ _ ?_ (fun hHeld2 => ?_)
              · (try dsimp only)
                (first | exact hHeld | exact hHeld.trans (hb.mono hHeld.size) | exact hHeld.trans ((below_new _ _).mono hHeld.size) | exact hHeld.drew)
              clear hK K hHeld; have hHeld := hHeld2; clear hHeld2
              try simp only [Act.put, tl1, tl2, tl3]
              iterate 4
                refine tkHl [7, 8, 9, 11] ?_ rfl rfl (Or.inl ⟨by rfl, ?_⟩) hHeld ?_
                rotate_left
                · (intro w hSw; (try dsimp only at hSw); go_simp; try (with_reducible rfl))
                try simp only [Act.put, tl1, tl2, tl3]
              refine tkH 10 ?_ rfl (Or.inl ⟨by rfl, ?_⟩) hHeld ?_
              rotate_left
              · (intro w hSw; (try dsimp only at hSw); obtain ⟨q0, q1, q2, q3⟩ := (hat2.below hSw).c4; obtain ⟨z0, z1⟩ := (htb.below hSw).c2; have c0 := (hSw.cell (p := ⟨b, off + k * 3, none⟩) (by show b < _; omega)).trans c0; go_simp; try (with_reducible rfl))
              try simp only [Act.put, tl1, tl2, tl3]
              iterate 5
                refine tkHl [12, 13, 14, 15, 17] ?_ rfl rfl (Or.inl ⟨by rfl, ?_⟩) hHeld ?_
                rotate_left
                · (intro w hSw; (try dsimp only at hSw); go_simp; try (with_reducible rfl))
                try simp only [Act.put, tl1, tl2, tl3]
              iterate 2
                refine tkHl [16, 18] ?_ rfl rfl (Or.inl ⟨by rfl, ?_⟩) hHeld ?_
                rotate_left
                · (intro w hSw; (try dsimp only at hSw); obtain ⟨q0, q1, q2, q3⟩ := (hat2.below hSw).c4; obtain ⟨z0, z1⟩ := (htb.below hSw).c2; have c0 := (hSw.cell (p := ⟨b, off + k * 3, none⟩) (by show b < _; omega)).trans c0; go_simp; try (with_reducible rfl))
                try simp only [Act.put, tl1, tl2, tl3]
              iterate 4
                refine tkHl [19, 20, 21, 22] ?_ rfl rfl (Or.inl ⟨by rfl, ?_⟩) hHeld ?_
                rotate_left
                · (intro w hSw; (try dsimp only at hSw); go_simp; try (with_reducible rfl))
                try simp only [Act.put, tl1, tl2, tl3]
              iterate 2
                refine tkHl [23, 24] ?_ rfl rfl (Or.inl ⟨by rfl, ?_⟩) hHeld ?_
                rotate_left
                · (intro w hSw; (try dsimp only at hSw); obtain ⟨q0, q1, q2, q3⟩ := (hat2.below hSw).c4; obtain ⟨z0, z1⟩ := (htb.below hSw).c2; have c0 := (hSw.cell (p := ⟨b, off + k * 3, none⟩) (by show b < _; omega)).trans c0; go_simp; try (with_reducible rfl))
                try simp only [Act.put, tl1, tl2, tl3]
              refine wpAnyH_ready (rs := [25]) (by kernel_rfl) (by simp) ?_
              refine AllReadyH.cons (o := ⟨_, _, _, _, _, _⟩) rfl (fun K hK => ?_) AllReadyH.nil
              go_simp
              refine (rCycle_any _ _ _ _ _ _ _ _ _ (by omega) (by omega)).mono ?_
              rintro e w' ⟨rfl, hb⟩
              go_wp2_with fail
              refine hK.out _ _ ?_ (fun hHeld2 => ?_)
              · (try dsimp only)
                (first | exact hHeld | exact hHeld.trans (hb.mono hHeld.size) | exact hHeld.trans ((below_new _ _).mono hHeld.size) | exact hHeld.drew)
              clear hK K hHeld; have hHeld := hHeld2; clear hHeld2
              try simp only [Act.put, tl1, tl2, tl3]
              iterate 2
                refine tkHl [26, 27] ?_ rfl rfl (Or.inl ⟨by rfl, ?_⟩) hHeld ?_
                rotate_left
                · (intro w hSw; (try dsimp only at hSw); go_simp; try (with_reducible rfl))
                try simp only [Act.put, tl1, tl2, tl3]
              refine wpAnyH_done (by kernel_rfl) ?_ _
              obtain ⟨z0, z1⟩ := (htb.below hHeld).c2
              have hat3 := hat2.below hHeld
              go_wp2_with fail
              refine ⟨⟨k + 1, ut, by omega, by go_num, rfl, hB2.trans (hHeld.mono hB2.size), hat3, hide ?_⟩, by simp [intOf]; omega⟩
              rw [Hst.out, ← Hbo.out, Hus.out, Bool.true_and]
    · have Hfin := hide (show usesOk nf days us = true by unfold usesOk; rw [heq.out, usAll_done (by have := Hn.out; omega), Hlen.out]; rfl)
      go_wp2_with fail
      go_ret
      exact ⟨ret_bool Hfin.out.symm, hB⟩
end Go.Proofs.Ythlnbgjlkliopaa
