/- The reference of channel: turns, rows of uses, sums, by contracts. -/
import Derived.Test.YtgklcilpohkpkaaO4
import Derived.Test.YtgklcilpohkpkaaR6
set_option linter.unusedVariables false
set_option linter.unusedSimpArgs false
namespace Go.Proofs.Ytgklcilpohkpkaa
open Go.RowKit Go.Shelf
attribute [local go_sem ↓] Go.wp_at_zero Go.wp_at_succ
theorem sumM_mono {ml : List Int} (hp : ∀ x ∈ ml, 1 ≤ x) (k : Nat) (hk : k ≤ ml.length) : sumM (ml.take k) ≤ sumM ml := by
  have h1 := sumM_range ml k hk
  have h2 := sumM_range ml ml.length (Nat.le_refl _)
  rw [List.take_length] at h2
  rw [h1, h2]
  exact sumAt_le hp ml.length (List.range k) List.nodup_range (fun j hj => by have : j < k := by simpa using hj
                                                                              omega)
/-- The first k turns are valid. -/
structure TurnTo (nf cyc : Int) (fl ml : List Int) (k : Nat) : Prop where
  f : ∀ x ∈ fl.take k, inF nf x = true
  m : ∀ x ∈ ml.take k, 1 ≤ x
  s : 0 ≤ sumM (ml.take k) ∧ sumM (ml.take k) ≤ cyc
theorem TurnTo.zero {nf cyc : Int} (h : 0 ≤ cyc) (fl ml : List Int) : TurnTo nf cyc fl ml 0 := ⟨by simp, by simp, by simp [sumM]; omega⟩
theorem TurnTo.snoc {nf cyc : Int} {fl ml : List Int} {k : Nat} {x y : Int} (h : TurnTo nf cyc fl ml k) (hx : fl[k]? = some x) (hy : ml[k]? = some y) (h1 : inF nf x = true) (h2 : inB 1 (cyc - sumM (ml.take k)) y = true) : TurnTo nf cyc fl ml (k + 1) := by
  have h3 : 1 ≤ y ∧ y ≤ cyc - sumM (ml.take k) := by simpa [inB] using h2
  obtain ⟨s0, s1⟩ := h.s
  refine ⟨fun z hz => ?_, fun z hz => ?_, ?_⟩
  · rw [take_snoc hx] at hz
    simp at hz
    rcases hz with hz | rfl
    · exact h.f z hz
    · exact h1
  · rw [take_snoc hy] at hz
    simp at hz
    rcases hz with hz | rfl
    · exact h.m z hz
    · exact h3.1
  · rw [sumM_snoc hy]; omega
theorem TurnTo.all {nf cyc : Int} {fl ml : List Int} {k : Nat} (h : TurnTo nf cyc fl ml k) (hf : k = fl.length) (hm : k = ml.length) : turnsOk nf cyc fl ml = true := by
  rw [turnsOk_iff]
  have h1 := h.f; have h2 := h.m; have h3 := h.s
  rw [hf, List.take_length] at h1
  rw [hm, List.take_length] at h2 h3
  exact ⟨by omega, fun z hz => by have := h1 z hz; simpa [inF] using this, h2, h3.2⟩
theorem turns_stopF {nf cyc : Int} {fl ml : List Int} {k : Nat} {x : Int} (hx : fl[k]? = some x) (h : inF nf x = false) : turnsOk nf cyc fl ml = false := by
  rw [Bool.eq_false_iff]
  intro ht
  have := (turnsOk_iff.1 ht).2.1 x (List.mem_of_getElem? hx)
  simp [inF] at h
  omega
theorem turns_stopM {nf cyc : Int} {fl ml : List Int} {k : Nat} {y : Int} (hy : ml[k]? = some y) (h : inB 1 (cyc - sumM (ml.take k)) y = false) : turnsOk nf cyc fl ml = false := by
  rw [Bool.eq_false_iff]
  intro ht
  obtain ⟨_, _, hm, hs⟩ := turnsOk_iff.1 ht
  have h1 := hm y (List.mem_of_getElem? hy)
  have h2 := sumM_mono hm (k + 1) (List.getElem?_eq_some_iff.1 hy).1
  rw [sumM_snoc hy] at h2
  simp [inB] at h
  omega
set_option maxHeartbeats 4000000 in
set_option maxRecDepth 100000 in
theorem rTurns_any (Ac Af Aff Am : Option Addr) (nc cc nf cf n cff m cm : Nat) (dry days : Int) (fl ml : List Int) (w : World) (hf : Rd w w.heap.size icell Aff fl) (hm : Rd w w.heap.size icell Am ml) (hn : n = fl.length) (hm2 : m = ml.length) (hn6 : n ≤ 100) (hm6 : m ≤ 100) (hnf : nf ≤ 1000) (hd1 : 1 ≤ days) (hd2 : days ≤ 16) :
    Calls Try.prog 46 #[.agg #[.slice Ac nc cc, .slice Af nf cf, .int .i64 dry, .int .i64 days], .slice Aff n cff, .slice Am m cm] w fun e w' => e = .returned (.bool (turnsOk nf (days * 1440) fl ml)) ∧ Below w.heap.size w w' := by
  have hat0 := At.new w #[.slice Ac nc cc, .slice Af nf cf, .int .i64 dry, .int .i64 days] 25 w.heap.size rfl _ rfl
  have hB0 := below_new w (.cells #[.slice Ac nc cc, .slice Af nf cf, .int .i64 dry, .int .i64 days] 25)
  have Hf := hide hf; have Hm := hide hm; have Hn := hide hn; have Hm2 := hide hm2
  clear hf hm
  by_cases hnm : n = m
  · subst hnm
    clear hn hm2
    go_enter Try.func46, Try.ntmps46
    go_wp2_with fail
    go_loopw [7, 8] (fun s iv wr => ∃ i : Nat, i ≤ n ∧ iv = .int .i64 i ∧ s = .int .i64 (sumM (ml.take i)) ∧ Below w.heap.size w wr ∧ At wr w.heap.size [.slice Ac nc cc, .slice Af nf cf, .int .i64 dry, .int .i64 days] ∧ Hid (TurnTo nf (days * 1440) fl ml i)) (fun _ iv _ => n - (intOf iv).toNat)
    case atStart => exact ⟨0, by omega, rfl, rfl, hB0, hat0, hide (TurnTo.zero (by omega) fl ml)⟩
    case round =>
      clear hat0 hB0
      obtain ⟨i, hi, rfl, rfl, hB, hat, hto⟩ := hrel
      obtain ⟨s, hs⟩ : ∃ s, s = sumM (ml.take i) := ⟨_, rfl⟩
      rw [← hs]
      have hs0 := hto.out.s
      rw [← hs] at hs0
      obtain ⟨s0, s1⟩ := hs0
      have HS := hide hs
      clear hs
      by_cases hlt : i < n
      · obtain ⟨bf, offf, fk, hAf, hbf0, hxf, c0⟩ := (Hf.out.below hB).int (i := i) (by rw [← Hn.out]; exact hlt)
        obtain ⟨bm, offm, mk, hAm, hbm0, hxm, d0⟩ := (Hm.out.below hB).int (i := i) (by rw [← Hm2.out]; exact hlt)
        subst hAf hAm
        have hbf : bf < wr.heap.size := Nat.lt_of_lt_of_le hbf0 hB.size
        have hbm : bm < wr.heap.size := Nat.lt_of_lt_of_le hbm0 hB.size
        have i0 : (0 : Int) ≤ (i : Int) := by omega
        have i1 : (i : Int) < (n : Int) := by omega
        have Hxf := hide hxf; have Hxm := hide hxm
        clear hxf hxm
        cases e1 : inF nf fk
        · have E1 := hide e1
          clear e1
          go_wp2_with fail
          refine wp_region_held_drew (S := (fun W => Below wr.heap.size wr W)) (by kernel_rfl) (by (try dsimp only); exact (Below.refl _ _).drew) (fun hHeld => ?_)
          refine wpAnyH_take (i := 0) (oi := ⟨_, _, _, _, _, _⟩) (v := ?_) rfl (by kernel_rfl) (by kernel_rfl) (by kernel_rfl) (fun _ _ _ h => h) (Or.inl ⟨by rfl, ?_⟩) hHeld ?_
          rotate_left
          · (intro w hSw; (try dsimp only at hSw); obtain ⟨q0, q1, q2, q3⟩ := (hat.below hSw).c4; have c0 := (hSw.cell (p := ⟨bf, offf + i, none⟩) hbf).trans c0; have d0 := (hSw.cell (p := ⟨bm, offm + i, none⟩) hbm).trans d0; go_simp; try (with_reducible rfl))
          try simp only [Act.put, List.setIfInBounds_toArray, List.set_cons_zero, List.set_cons_succ]
          refine wpAnyH_take (i := 1) (oi := ⟨_, _, _, _, _, _⟩) (v := ?_) rfl (by kernel_rfl) (by kernel_rfl) (by kernel_rfl) (fun _ _ _ h => h) (Or.inl ⟨by rfl, ?_⟩) hHeld ?_
          rotate_left
          · (intro w hSw; (try dsimp only at hSw); go_simp; try (with_reducible rfl))
          try simp only [Act.put, List.setIfInBounds_toArray, List.set_cons_zero, List.set_cons_succ]
          refine wpAnyH_take (i := 2) (oi := ⟨_, _, _, _, _, _⟩) (v := ?_) rfl (by kernel_rfl) (by kernel_rfl) (by kernel_rfl) (fun _ _ _ h => h) (Or.inl ⟨by rfl, ?_⟩) hHeld ?_
          rotate_left
          · (intro w hSw; (try dsimp only at hSw); go_simp; try (with_reducible rfl))
          try simp only [Act.put, List.setIfInBounds_toArray, List.set_cons_zero, List.set_cons_succ]
          refine wpAnyH_take (i := 3) (oi := ⟨_, _, _, _, _, _⟩) (v := ?_) rfl (by kernel_rfl) (by kernel_rfl) (by kernel_rfl) (fun _ _ _ h => h) (Or.inl ⟨by rfl, ?_⟩) hHeld ?_
          rotate_left
          · (intro w hSw; (try dsimp only at hSw); go_simp; try (with_reducible rfl))
          try simp only [Act.put, List.setIfInBounds_toArray, List.set_cons_zero, List.set_cons_succ]
          refine wpAnyH_take (i := 4) (oi := ⟨_, _, _, _, _, _⟩) (v := ?_) rfl (by kernel_rfl) (by kernel_rfl) (by kernel_rfl) (fun _ _ _ h => h) (Or.inl ⟨by rfl, ?_⟩) hHeld ?_
          rotate_left
          · (intro w hSw; (try dsimp only at hSw); obtain ⟨q0, q1, q2, q3⟩ := (hat.below hSw).c4; have c0 := (hSw.cell (p := ⟨bf, offf + i, none⟩) hbf).trans c0; have d0 := (hSw.cell (p := ⟨bm, offm + i, none⟩) hbm).trans d0; go_simp; try (with_reducible rfl))
          try simp only [Act.put, List.setIfInBounds_toArray, List.set_cons_zero, List.set_cons_succ]
          refine wpAnyH_ready (rs := [5]) (by kernel_rfl) (by simp) ?_
          refine AllReadyH.cons (o := ⟨_, _, _, _, _, _⟩) rfl (fun K hK => ?_) AllReadyH.nil
          go_simp
          refine (rField_any Ac Af nc cc nf cf dry days fk _ hnf).mono ?_
          rintro e w' ⟨rfl, hb⟩
          rw [E1.out]
          go_wp2_with fail
          refine hK.out _ _ ?_ (fun hHeld2 => ?_)
          · (try dsimp only)
            (first | exact hHeld | exact hHeld.trans (hb.mono hHeld.size) | exact hHeld.trans ((below_new _ _).mono hHeld.size) | exact hHeld.drew)
          clear hK K hHeld; have hHeld := hHeld2; clear hHeld2
          try simp only [Act.put, List.setIfInBounds_toArray, List.set_cons_zero, List.set_cons_succ]
          refine wpAnyH_take (i := 6) (oi := ⟨_, _, _, _, _, _⟩) (v := ?_) rfl (by kernel_rfl) (by kernel_rfl) (by kernel_rfl) (fun _ _ _ h => h) (Or.inl ⟨by rfl, ?_⟩) hHeld ?_
          rotate_left
          · (intro w hSw; (try dsimp only at hSw); go_simp; try (with_reducible rfl))
          try simp only [Act.put, List.setIfInBounds_toArray, List.set_cons_zero, List.set_cons_succ]
          refine wpAnyH_take (i := 7) (oi := ⟨_, _, _, _, _, _⟩) (v := ?_) rfl (by kernel_rfl) (by kernel_rfl) (by kernel_rfl) (fun _ _ _ h => h) (Or.inl ⟨by rfl, ?_⟩) hHeld ?_
          rotate_left
          · (intro w hSw; (try dsimp only at hSw); go_simp; try (with_reducible rfl))
          try simp only [Act.put, List.setIfInBounds_toArray, List.set_cons_zero, List.set_cons_succ]
          refine wpAnyH_take (i := 8) (oi := ⟨_, _, _, _, _, _⟩) (v := _) rfl (by kernel_rfl) (by kernel_rfl) (by kernel_rfl) (fun _ _ _ h => h) (Or.inr ⟨by rfl, rfl⟩) hHeld ?_
          try simp only [Act.put, List.setIfInBounds_toArray, List.set_cons_zero, List.set_cons_succ]
          refine wpAnyH_take (i := 9) (oi := ⟨_, _, _, _, _, _⟩) (v := _) rfl (by kernel_rfl) (by kernel_rfl) (by kernel_rfl) (fun _ _ _ h => h) (Or.inr ⟨by rfl, rfl⟩) hHeld ?_
          try simp only [Act.put, List.setIfInBounds_toArray, List.set_cons_zero, List.set_cons_succ]
          refine wpAnyH_take (i := 10) (oi := ⟨_, _, _, _, _, _⟩) (v := _) rfl (by kernel_rfl) (by kernel_rfl) (by kernel_rfl) (fun _ _ _ h => h) (Or.inr ⟨by rfl, rfl⟩) hHeld ?_
          try simp only [Act.put, List.setIfInBounds_toArray, List.set_cons_zero, List.set_cons_succ]
          refine wpAnyH_take (i := 11) (oi := ⟨_, _, _, _, _, _⟩) (v := _) rfl (by kernel_rfl) (by kernel_rfl) (by kernel_rfl) (fun _ _ _ h => h) (Or.inr ⟨by rfl, rfl⟩) hHeld ?_
          try simp only [Act.put, List.setIfInBounds_toArray, List.set_cons_zero, List.set_cons_succ]
          refine wpAnyH_take (i := 12) (oi := ⟨_, _, _, _, _, _⟩) (v := _) rfl (by kernel_rfl) (by kernel_rfl) (by kernel_rfl) (fun _ _ _ h => h) (Or.inr ⟨by rfl, rfl⟩) hHeld ?_
          try simp only [Act.put, List.setIfInBounds_toArray, List.set_cons_zero, List.set_cons_succ]
          refine wpAnyH_take (i := 13) (oi := ⟨_, _, _, _, _, _⟩) (v := _) rfl (by kernel_rfl) (by kernel_rfl) (by kernel_rfl) (fun _ _ _ h => h) (Or.inr ⟨by rfl, rfl⟩) hHeld ?_
          try simp only [Act.put, List.setIfInBounds_toArray, List.set_cons_zero, List.set_cons_succ]
          refine wpAnyH_take (i := 14) (oi := ⟨_, _, _, _, _, _⟩) (v := _) rfl (by kernel_rfl) (by kernel_rfl) (by kernel_rfl) (fun _ _ _ h => h) (Or.inr ⟨by rfl, rfl⟩) hHeld ?_
          try simp only [Act.put, List.setIfInBounds_toArray, List.set_cons_zero, List.set_cons_succ]
          refine wpAnyH_take (i := 15) (oi := ⟨_, _, _, _, _, _⟩) (v := _) rfl (by kernel_rfl) (by kernel_rfl) (by kernel_rfl) (fun _ _ _ h => h) (Or.inr ⟨by rfl, rfl⟩) hHeld ?_
          try simp only [Act.put, List.setIfInBounds_toArray, List.set_cons_zero, List.set_cons_succ]
          refine wpAnyH_take (i := 16) (oi := ⟨_, _, _, _, _, _⟩) (v := _) rfl (by kernel_rfl) (by kernel_rfl) (by kernel_rfl) (fun _ _ _ h => h) (Or.inr ⟨by rfl, rfl⟩) hHeld ?_
          try simp only [Act.put, List.setIfInBounds_toArray, List.set_cons_zero, List.set_cons_succ]
          refine wpAnyH_take (i := 17) (oi := ⟨_, _, _, _, _, _⟩) (v := _) rfl (by kernel_rfl) (by kernel_rfl) (by kernel_rfl) (fun _ _ _ h => h) (Or.inr ⟨by rfl, rfl⟩) hHeld ?_
          try simp only [Act.put, List.setIfInBounds_toArray, List.set_cons_zero, List.set_cons_succ]
          refine wpAnyH_take (i := 18) (oi := ⟨_, _, _, _, _, _⟩) (v := ?_) rfl (by kernel_rfl) (by kernel_rfl) (by kernel_rfl) (fun _ _ _ h => h) (Or.inl ⟨by rfl, ?_⟩) hHeld ?_
          rotate_left
          · (intro w hSw; (try dsimp only at hSw); go_simp; try (with_reducible rfl))
          try simp only [Act.put, List.setIfInBounds_toArray, List.set_cons_zero, List.set_cons_succ]
          refine wpAnyH_done (by kernel_rfl) ?_ _
          go_wp2
          go_ret
          exact ⟨ret_bool (turns_stopF Hxf.out E1.out).symm, hB.trans (hHeld.mono hB.size)⟩
        · have E1 := hide e1
          clear e1
          cases e2 : inB 1 (days * 1440 - s) mk
          · have E2 := hide e2
            clear e2
            go_wp2_with fail
            refine wp_region_held_drew (S := (fun W => Below wr.heap.size wr W)) (by kernel_rfl) (by (try dsimp only); exact (Below.refl _ _).drew) (fun hHeld => ?_)
            refine wpAnyH_take (i := 0) (oi := ⟨_, _, _, _, _, _⟩) (v := ?_) rfl (by kernel_rfl) (by kernel_rfl) (by kernel_rfl) (fun _ _ _ h => h) (Or.inl ⟨by rfl, ?_⟩) hHeld ?_
            rotate_left
            · (intro w hSw; (try dsimp only at hSw); obtain ⟨q0, q1, q2, q3⟩ := (hat.below hSw).c4; have c0 := (hSw.cell (p := ⟨bf, offf + i, none⟩) hbf).trans c0; have d0 := (hSw.cell (p := ⟨bm, offm + i, none⟩) hbm).trans d0; go_simp; try (with_reducible rfl))
            try simp only [Act.put, List.setIfInBounds_toArray, List.set_cons_zero, List.set_cons_succ]
            refine wpAnyH_take (i := 1) (oi := ⟨_, _, _, _, _, _⟩) (v := ?_) rfl (by kernel_rfl) (by kernel_rfl) (by kernel_rfl) (fun _ _ _ h => h) (Or.inl ⟨by rfl, ?_⟩) hHeld ?_
            rotate_left
            · (intro w hSw; (try dsimp only at hSw); go_simp; try (with_reducible rfl))
            try simp only [Act.put, List.setIfInBounds_toArray, List.set_cons_zero, List.set_cons_succ]
            refine wpAnyH_take (i := 2) (oi := ⟨_, _, _, _, _, _⟩) (v := ?_) rfl (by kernel_rfl) (by kernel_rfl) (by kernel_rfl) (fun _ _ _ h => h) (Or.inl ⟨by rfl, ?_⟩) hHeld ?_
            rotate_left
            · (intro w hSw; (try dsimp only at hSw); go_simp; try (with_reducible rfl))
            try simp only [Act.put, List.setIfInBounds_toArray, List.set_cons_zero, List.set_cons_succ]
            refine wpAnyH_take (i := 3) (oi := ⟨_, _, _, _, _, _⟩) (v := ?_) rfl (by kernel_rfl) (by kernel_rfl) (by kernel_rfl) (fun _ _ _ h => h) (Or.inl ⟨by rfl, ?_⟩) hHeld ?_
            rotate_left
            · (intro w hSw; (try dsimp only at hSw); go_simp; try (with_reducible rfl))
            try simp only [Act.put, List.setIfInBounds_toArray, List.set_cons_zero, List.set_cons_succ]
            refine wpAnyH_take (i := 4) (oi := ⟨_, _, _, _, _, _⟩) (v := ?_) rfl (by kernel_rfl) (by kernel_rfl) (by kernel_rfl) (fun _ _ _ h => h) (Or.inl ⟨by rfl, ?_⟩) hHeld ?_
            rotate_left
            · (intro w hSw; (try dsimp only at hSw); obtain ⟨q0, q1, q2, q3⟩ := (hat.below hSw).c4; have c0 := (hSw.cell (p := ⟨bf, offf + i, none⟩) hbf).trans c0; have d0 := (hSw.cell (p := ⟨bm, offm + i, none⟩) hbm).trans d0; go_simp; try (with_reducible rfl))
            try simp only [Act.put, List.setIfInBounds_toArray, List.set_cons_zero, List.set_cons_succ]
            refine wpAnyH_ready (rs := [5]) (by kernel_rfl) (by simp) ?_
            refine AllReadyH.cons (o := ⟨_, _, _, _, _, _⟩) rfl (fun K hK => ?_) AllReadyH.nil
            go_simp
            refine (rField_any Ac Af nc cc nf cf dry days fk _ hnf).mono ?_
            rintro e w' ⟨rfl, hb⟩
            rw [E1.out]
            go_wp2_with fail
            refine hK.out _ _ ?_ (fun hHeld2 => ?_)
            · (try dsimp only)
              (first | exact hHeld | exact hHeld.trans (hb.mono hHeld.size) | exact hHeld.trans ((below_new _ _).mono hHeld.size) | exact hHeld.drew)
            clear hK K hHeld; have hHeld := hHeld2; clear hHeld2
            try simp only [Act.put, List.setIfInBounds_toArray, List.set_cons_zero, List.set_cons_succ]
            refine wpAnyH_take (i := 6) (oi := ⟨_, _, _, _, _, _⟩) (v := ?_) rfl (by kernel_rfl) (by kernel_rfl) (by kernel_rfl) (fun _ _ _ h => h) (Or.inl ⟨by rfl, ?_⟩) hHeld ?_
            rotate_left
            · (intro w hSw; (try dsimp only at hSw); go_simp; try (with_reducible rfl))
            try simp only [Act.put, List.setIfInBounds_toArray, List.set_cons_zero, List.set_cons_succ]
            refine wpAnyH_take (i := 7) (oi := ⟨_, _, _, _, _, _⟩) (v := ?_) rfl (by kernel_rfl) (by kernel_rfl) (by kernel_rfl) (fun _ _ _ h => h) (Or.inl ⟨by rfl, ?_⟩) hHeld ?_
            rotate_left
            · (intro w hSw; (try dsimp only at hSw); go_simp; try (with_reducible rfl))
            try simp only [Act.put, List.setIfInBounds_toArray, List.set_cons_zero, List.set_cons_succ]
            refine wpAnyH_take (i := 8) (oi := ⟨_, _, _, _, _, _⟩) (v := ?_) rfl (by kernel_rfl) (by kernel_rfl) (by kernel_rfl) (fun _ _ _ h => h) (Or.inl ⟨by rfl, ?_⟩) hHeld ?_
            rotate_left
            · (intro w hSw; (try dsimp only at hSw); go_simp; try (with_reducible rfl))
            try simp only [Act.put, List.setIfInBounds_toArray, List.set_cons_zero, List.set_cons_succ]
            refine wpAnyH_take (i := 9) (oi := ⟨_, _, _, _, _, _⟩) (v := ?_) rfl (by kernel_rfl) (by kernel_rfl) (by kernel_rfl) (fun _ _ _ h => h) (Or.inl ⟨by rfl, ?_⟩) hHeld ?_
            rotate_left
            · (intro w hSw; (try dsimp only at hSw); go_simp; try (with_reducible rfl))
            try simp only [Act.put, List.setIfInBounds_toArray, List.set_cons_zero, List.set_cons_succ]
            refine wpAnyH_take (i := 10) (oi := ⟨_, _, _, _, _, _⟩) (v := ?_) rfl (by kernel_rfl) (by kernel_rfl) (by kernel_rfl) (fun _ _ _ h => h) (Or.inl ⟨by rfl, ?_⟩) hHeld ?_
            rotate_left
            · (intro w hSw; (try dsimp only at hSw); go_simp; try (with_reducible rfl))
            try simp only [Act.put, List.setIfInBounds_toArray, List.set_cons_zero, List.set_cons_succ]
            refine wpAnyH_take (i := 11) (oi := ⟨_, _, _, _, _, _⟩) (v := ?_) rfl (by kernel_rfl) (by kernel_rfl) (by kernel_rfl) (fun _ _ _ h => h) (Or.inl ⟨by rfl, ?_⟩) hHeld ?_
            rotate_left
            · (intro w hSw; (try dsimp only at hSw); obtain ⟨q0, q1, q2, q3⟩ := (hat.below hSw).c4; have c0 := (hSw.cell (p := ⟨bf, offf + i, none⟩) hbf).trans c0; have d0 := (hSw.cell (p := ⟨bm, offm + i, none⟩) hbm).trans d0; go_simp; try (with_reducible rfl))
            try simp only [Act.put, List.setIfInBounds_toArray, List.set_cons_zero, List.set_cons_succ]
            refine wpAnyH_take (i := 12) (oi := ⟨_, _, _, _, _, _⟩) (v := ?_) rfl (by kernel_rfl) (by kernel_rfl) (by kernel_rfl) (fun _ _ _ h => h) (Or.inl ⟨by rfl, ?_⟩) hHeld ?_
            rotate_left
            · (intro w hSw; (try dsimp only at hSw); obtain ⟨q0, q1, q2, q3⟩ := (hat.below hSw).c4; have c0 := (hSw.cell (p := ⟨bf, offf + i, none⟩) hbf).trans c0; have d0 := (hSw.cell (p := ⟨bm, offm + i, none⟩) hbm).trans d0; go_simp; try (with_reducible rfl))
            try simp only [Act.put, List.setIfInBounds_toArray, List.set_cons_zero, List.set_cons_succ]
            refine wpAnyH_take (i := 14) (oi := ⟨_, _, _, _, _, _⟩) (v := ?_) rfl (by kernel_rfl) (by kernel_rfl) (by kernel_rfl) (fun _ _ _ h => h) (Or.inl ⟨by rfl, ?_⟩) hHeld ?_
            rotate_left
            · (intro w hSw; (try dsimp only at hSw); go_simp; try (with_reducible rfl))
            try simp only [Act.put, List.setIfInBounds_toArray, List.set_cons_zero, List.set_cons_succ]
            refine wpAnyH_ready (rs := [13]) (by kernel_rfl) (by simp) ?_
            refine AllReadyH.cons (o := ⟨_, _, _, _, _, _⟩) rfl (fun K hK => ?_) AllReadyH.nil
            go_simp
            refine (rCycle_any _ _ _ _ _ _ _ _ _ (by omega) (by omega)).mono ?_
            rintro e w' ⟨rfl, hb⟩
            go_wp2_with fail
            refine hK.out _ _ ?_ (fun hHeld2 => ?_)
            · (try dsimp only)
              (first | exact hHeld | exact hHeld.trans (hb.mono hHeld.size) | exact hHeld.trans ((below_new _ _).mono hHeld.size) | exact hHeld.drew)
            clear hK K hHeld; have hHeld := hHeld2; clear hHeld2
            try simp only [Act.put, List.setIfInBounds_toArray, List.set_cons_zero, List.set_cons_succ]
            refine wpAnyH_take (i := 15) (oi := ⟨_, _, _, _, _, _⟩) (v := ?_) rfl (by kernel_rfl) (by kernel_rfl) (by kernel_rfl) (fun _ _ _ h => h) (Or.inl ⟨by rfl, ?_⟩) hHeld ?_
            rotate_left
            · (intro w hSw; (try dsimp only at hSw); go_simp; try (with_reducible rfl))
            try simp only [Act.put, List.setIfInBounds_toArray, List.set_cons_zero, List.set_cons_succ]
            refine wpAnyH_ready (rs := [16]) (by kernel_rfl) (by simp) ?_
            refine AllReadyH.cons (o := ⟨_, _, _, _, _, _⟩) rfl (fun K hK => ?_) AllReadyH.nil
            go_simp
            refine (aflajref05_within _ _ _ _).mono ?_
            rintro e w' ⟨rfl, hw⟩
            have hb := below_of_eq hw
            clear hw
            rw [wrapI (x := days * 1440 - s) (by omega), E2.out]
            go_wp2_with fail
            refine hK.out _ _ ?_ (fun hHeld2 => ?_)
            · (try dsimp only)
              (first | exact hHeld | exact hHeld.trans (hb.mono hHeld.size) | exact hHeld.trans ((below_new _ _).mono hHeld.size) | exact hHeld.drew)
            clear hK K hHeld; have hHeld := hHeld2; clear hHeld2
            try simp only [Act.put, List.setIfInBounds_toArray, List.set_cons_zero, List.set_cons_succ]
            refine wpAnyH_take (i := 17) (oi := ⟨_, _, _, _, _, _⟩) (v := ?_) rfl (by kernel_rfl) (by kernel_rfl) (by kernel_rfl) (fun _ _ _ h => h) (Or.inl ⟨by rfl, ?_⟩) hHeld ?_
            rotate_left
            · (intro w hSw; (try dsimp only at hSw); go_simp; try (with_reducible rfl))
            try simp only [Act.put, List.setIfInBounds_toArray, List.set_cons_zero, List.set_cons_succ]
            refine wpAnyH_take (i := 18) (oi := ⟨_, _, _, _, _, _⟩) (v := ?_) rfl (by kernel_rfl) (by kernel_rfl) (by kernel_rfl) (fun _ _ _ h => h) (Or.inl ⟨by rfl, ?_⟩) hHeld ?_
            rotate_left
            · (intro w hSw; (try dsimp only at hSw); go_simp; try (with_reducible rfl))
            try simp only [Act.put, List.setIfInBounds_toArray, List.set_cons_zero, List.set_cons_succ]
            refine wpAnyH_done (by kernel_rfl) ?_ _
            go_wp2
            go_ret
            exact ⟨ret_bool (turns_stopM Hxm.out (by rw [← HS.out]; exact E2.out)).symm, hB.trans (hHeld.mono hB.size)⟩
          · have hmk : 1 ≤ mk ∧ mk ≤ days * 1440 - s := by simpa [inB] using e2
            obtain ⟨mk0, mk1⟩ := hmk
            have E2 := hide e2
            clear e2
            go_wp2_with fail
            refine wp_region_held_drew (S := (fun W => Below wr.heap.size wr W)) (by kernel_rfl) (by (try dsimp only); exact (Below.refl _ _).drew) (fun hHeld => ?_)
            refine wpAnyH_take (i := 0) (oi := ⟨_, _, _, _, _, _⟩) (v := ?_) rfl (by kernel_rfl) (by kernel_rfl) (by kernel_rfl) (fun _ _ _ h => h) (Or.inl ⟨by rfl, ?_⟩) hHeld ?_
            rotate_left
            · (intro w hSw; (try dsimp only at hSw); obtain ⟨q0, q1, q2, q3⟩ := (hat.below hSw).c4; have c0 := (hSw.cell (p := ⟨bf, offf + i, none⟩) hbf).trans c0; have d0 := (hSw.cell (p := ⟨bm, offm + i, none⟩) hbm).trans d0; go_simp; try (with_reducible rfl))
            try simp only [Act.put, List.setIfInBounds_toArray, List.set_cons_zero, List.set_cons_succ]
            refine wpAnyH_take (i := 1) (oi := ⟨_, _, _, _, _, _⟩) (v := ?_) rfl (by kernel_rfl) (by kernel_rfl) (by kernel_rfl) (fun _ _ _ h => h) (Or.inl ⟨by rfl, ?_⟩) hHeld ?_
            rotate_left
            · (intro w hSw; (try dsimp only at hSw); go_simp; try (with_reducible rfl))
            try simp only [Act.put, List.setIfInBounds_toArray, List.set_cons_zero, List.set_cons_succ]
            refine wpAnyH_take (i := 2) (oi := ⟨_, _, _, _, _, _⟩) (v := ?_) rfl (by kernel_rfl) (by kernel_rfl) (by kernel_rfl) (fun _ _ _ h => h) (Or.inl ⟨by rfl, ?_⟩) hHeld ?_
            rotate_left
            · (intro w hSw; (try dsimp only at hSw); go_simp; try (with_reducible rfl))
            try simp only [Act.put, List.setIfInBounds_toArray, List.set_cons_zero, List.set_cons_succ]
            refine wpAnyH_take (i := 3) (oi := ⟨_, _, _, _, _, _⟩) (v := ?_) rfl (by kernel_rfl) (by kernel_rfl) (by kernel_rfl) (fun _ _ _ h => h) (Or.inl ⟨by rfl, ?_⟩) hHeld ?_
            rotate_left
            · (intro w hSw; (try dsimp only at hSw); go_simp; try (with_reducible rfl))
            try simp only [Act.put, List.setIfInBounds_toArray, List.set_cons_zero, List.set_cons_succ]
            refine wpAnyH_take (i := 4) (oi := ⟨_, _, _, _, _, _⟩) (v := ?_) rfl (by kernel_rfl) (by kernel_rfl) (by kernel_rfl) (fun _ _ _ h => h) (Or.inl ⟨by rfl, ?_⟩) hHeld ?_
            rotate_left
            · (intro w hSw; (try dsimp only at hSw); obtain ⟨q0, q1, q2, q3⟩ := (hat.below hSw).c4; have c0 := (hSw.cell (p := ⟨bf, offf + i, none⟩) hbf).trans c0; have d0 := (hSw.cell (p := ⟨bm, offm + i, none⟩) hbm).trans d0; go_simp; try (with_reducible rfl))
            try simp only [Act.put, List.setIfInBounds_toArray, List.set_cons_zero, List.set_cons_succ]
            refine wpAnyH_ready (rs := [5]) (by kernel_rfl) (by simp) ?_
            refine AllReadyH.cons (o := ⟨_, _, _, _, _, _⟩) rfl (fun K hK => ?_) AllReadyH.nil
            go_simp
            refine (rField_any Ac Af nc cc nf cf dry days fk _ hnf).mono ?_
            rintro e w' ⟨rfl, hb⟩
            rw [E1.out]
            go_wp2_with fail
            refine hK.out _ _ ?_ (fun hHeld2 => ?_)
            · (try dsimp only)
              (first | exact hHeld | exact hHeld.trans (hb.mono hHeld.size) | exact hHeld.trans ((below_new _ _).mono hHeld.size) | exact hHeld.drew)
            clear hK K hHeld; have hHeld := hHeld2; clear hHeld2
            try simp only [Act.put, List.setIfInBounds_toArray, List.set_cons_zero, List.set_cons_succ]
            refine wpAnyH_take (i := 6) (oi := ⟨_, _, _, _, _, _⟩) (v := ?_) rfl (by kernel_rfl) (by kernel_rfl) (by kernel_rfl) (fun _ _ _ h => h) (Or.inl ⟨by rfl, ?_⟩) hHeld ?_
            rotate_left
            · (intro w hSw; (try dsimp only at hSw); go_simp; try (with_reducible rfl))
            try simp only [Act.put, List.setIfInBounds_toArray, List.set_cons_zero, List.set_cons_succ]
            refine wpAnyH_take (i := 7) (oi := ⟨_, _, _, _, _, _⟩) (v := ?_) rfl (by kernel_rfl) (by kernel_rfl) (by kernel_rfl) (fun _ _ _ h => h) (Or.inl ⟨by rfl, ?_⟩) hHeld ?_
            rotate_left
            · (intro w hSw; (try dsimp only at hSw); go_simp; try (with_reducible rfl))
            try simp only [Act.put, List.setIfInBounds_toArray, List.set_cons_zero, List.set_cons_succ]
            refine wpAnyH_take (i := 8) (oi := ⟨_, _, _, _, _, _⟩) (v := ?_) rfl (by kernel_rfl) (by kernel_rfl) (by kernel_rfl) (fun _ _ _ h => h) (Or.inl ⟨by rfl, ?_⟩) hHeld ?_
            rotate_left
            · (intro w hSw; (try dsimp only at hSw); go_simp; try (with_reducible rfl))
            try simp only [Act.put, List.setIfInBounds_toArray, List.set_cons_zero, List.set_cons_succ]
            refine wpAnyH_take (i := 9) (oi := ⟨_, _, _, _, _, _⟩) (v := ?_) rfl (by kernel_rfl) (by kernel_rfl) (by kernel_rfl) (fun _ _ _ h => h) (Or.inl ⟨by rfl, ?_⟩) hHeld ?_
            rotate_left
            · (intro w hSw; (try dsimp only at hSw); go_simp; try (with_reducible rfl))
            try simp only [Act.put, List.setIfInBounds_toArray, List.set_cons_zero, List.set_cons_succ]
            refine wpAnyH_take (i := 10) (oi := ⟨_, _, _, _, _, _⟩) (v := ?_) rfl (by kernel_rfl) (by kernel_rfl) (by kernel_rfl) (fun _ _ _ h => h) (Or.inl ⟨by rfl, ?_⟩) hHeld ?_
            rotate_left
            · (intro w hSw; (try dsimp only at hSw); go_simp; try (with_reducible rfl))
            try simp only [Act.put, List.setIfInBounds_toArray, List.set_cons_zero, List.set_cons_succ]
            refine wpAnyH_take (i := 11) (oi := ⟨_, _, _, _, _, _⟩) (v := ?_) rfl (by kernel_rfl) (by kernel_rfl) (by kernel_rfl) (fun _ _ _ h => h) (Or.inl ⟨by rfl, ?_⟩) hHeld ?_
            rotate_left
            · (intro w hSw; (try dsimp only at hSw); obtain ⟨q0, q1, q2, q3⟩ := (hat.below hSw).c4; have c0 := (hSw.cell (p := ⟨bf, offf + i, none⟩) hbf).trans c0; have d0 := (hSw.cell (p := ⟨bm, offm + i, none⟩) hbm).trans d0; go_simp; try (with_reducible rfl))
            try simp only [Act.put, List.setIfInBounds_toArray, List.set_cons_zero, List.set_cons_succ]
            refine wpAnyH_take (i := 12) (oi := ⟨_, _, _, _, _, _⟩) (v := ?_) rfl (by kernel_rfl) (by kernel_rfl) (by kernel_rfl) (fun _ _ _ h => h) (Or.inl ⟨by rfl, ?_⟩) hHeld ?_
            rotate_left
            · (intro w hSw; (try dsimp only at hSw); obtain ⟨q0, q1, q2, q3⟩ := (hat.below hSw).c4; have c0 := (hSw.cell (p := ⟨bf, offf + i, none⟩) hbf).trans c0; have d0 := (hSw.cell (p := ⟨bm, offm + i, none⟩) hbm).trans d0; go_simp; try (with_reducible rfl))
            try simp only [Act.put, List.setIfInBounds_toArray, List.set_cons_zero, List.set_cons_succ]
            refine wpAnyH_take (i := 14) (oi := ⟨_, _, _, _, _, _⟩) (v := ?_) rfl (by kernel_rfl) (by kernel_rfl) (by kernel_rfl) (fun _ _ _ h => h) (Or.inl ⟨by rfl, ?_⟩) hHeld ?_
            rotate_left
            · (intro w hSw; (try dsimp only at hSw); go_simp; try (with_reducible rfl))
            try simp only [Act.put, List.setIfInBounds_toArray, List.set_cons_zero, List.set_cons_succ]
            refine wpAnyH_ready (rs := [13]) (by kernel_rfl) (by simp) ?_
            refine AllReadyH.cons (o := ⟨_, _, _, _, _, _⟩) rfl (fun K hK => ?_) AllReadyH.nil
            go_simp
            refine (rCycle_any _ _ _ _ _ _ _ _ _ (by omega) (by omega)).mono ?_
            rintro e w' ⟨rfl, hb⟩
            go_wp2_with fail
            refine hK.out _ _ ?_ (fun hHeld2 => ?_)
            · (try dsimp only)
              (first | exact hHeld | exact hHeld.trans (hb.mono hHeld.size) | exact hHeld.trans ((below_new _ _).mono hHeld.size) | exact hHeld.drew)
            clear hK K hHeld; have hHeld := hHeld2; clear hHeld2
            try simp only [Act.put, List.setIfInBounds_toArray, List.set_cons_zero, List.set_cons_succ]
            refine wpAnyH_take (i := 15) (oi := ⟨_, _, _, _, _, _⟩) (v := ?_) rfl (by kernel_rfl) (by kernel_rfl) (by kernel_rfl) (fun _ _ _ h => h) (Or.inl ⟨by rfl, ?_⟩) hHeld ?_
            rotate_left
            · (intro w hSw; (try dsimp only at hSw); go_simp; try (with_reducible rfl))
            try simp only [Act.put, List.setIfInBounds_toArray, List.set_cons_zero, List.set_cons_succ]
            refine wpAnyH_ready (rs := [16]) (by kernel_rfl) (by simp) ?_
            refine AllReadyH.cons (o := ⟨_, _, _, _, _, _⟩) rfl (fun K hK => ?_) AllReadyH.nil
            go_simp
            refine (aflajref05_within _ _ _ _).mono ?_
            rintro e w' ⟨rfl, hw⟩
            have hb := below_of_eq hw
            clear hw
            rw [wrapI (x := days * 1440 - s) (by omega), E2.out]
            go_wp2_with fail
            refine hK.out _ _ ?_ (fun hHeld2 => ?_)
            · (try dsimp only)
              (first | exact hHeld | exact hHeld.trans (hb.mono hHeld.size) | exact hHeld.trans ((below_new _ _).mono hHeld.size) | exact hHeld.drew)
            clear hK K hHeld; have hHeld := hHeld2; clear hHeld2
            try simp only [Act.put, List.setIfInBounds_toArray, List.set_cons_zero, List.set_cons_succ]
            refine wpAnyH_take (i := 17) (oi := ⟨_, _, _, _, _, _⟩) (v := ?_) rfl (by kernel_rfl) (by kernel_rfl) (by kernel_rfl) (fun _ _ _ h => h) (Or.inl ⟨by rfl, ?_⟩) hHeld ?_
            rotate_left
            · (intro w hSw; (try dsimp only at hSw); go_simp; try (with_reducible rfl))
            try simp only [Act.put, List.setIfInBounds_toArray, List.set_cons_zero, List.set_cons_succ]
            refine wpAnyH_take (i := 18) (oi := ⟨_, _, _, _, _, _⟩) (v := ?_) rfl (by kernel_rfl) (by kernel_rfl) (by kernel_rfl) (fun _ _ _ h => h) (Or.inl ⟨by rfl, ?_⟩) hHeld ?_
            rotate_left
            · (intro w hSw; (try dsimp only at hSw); go_simp; try (with_reducible rfl))
            try simp only [Act.put, List.setIfInBounds_toArray, List.set_cons_zero, List.set_cons_succ]
            refine wpAnyH_done (by kernel_rfl) ?_ _
            have d1 := (hHeld.cell (p := ⟨bm, offm + i, none⟩) hbm).trans d0
            have hat2 := hat.below hHeld
            have hB2 := hB.trans (hHeld.mono hB.size)
            clear hHeld c0 d0
            go_wp2_with fail
            exact ⟨⟨i + 1, by omega, by go_num, by rw [sumM_snoc Hxm.out, ← HS.out], hB2, hat2, hide (hto.out.snoc Hxf.out Hxm.out E1.out (by rw [← HS.out]; exact E2.out))⟩, by simp [intOf]; omega⟩
      · obtain rfl : i = n := by omega
        have Hto := hide (hto.out.all Hn.out Hm2.out)
        go_wp2
        go_ret
        exact ⟨ret_bool Hto.out.symm, hB⟩
  · have h1 : ((n : Int) == (m : Int)) = false := by simp; omega
    have hbad : turnsOk nf (days * 1440) fl ml = false := by
      rw [Bool.eq_false_iff]
      intro ht
      have := (turnsOk_iff.1 ht).1
      omega
    have Hbad := hide hbad
    clear hn hm2 hbad
    go_enter Try.func46, Try.ntmps46
    go_wp2
    go_ret
    exact ⟨ret_bool Hbad.out.symm, hB0⟩
set_option maxHeartbeats 4000000 in
set_option maxRecDepth 100000 in
theorem rSum_any (A : Option Addr) (n c : Nat) (xs : List Sp) (w : World) (hr : Rd w w.heap.size Sp.cells A xs) (hn : n = xs.length) (hn2 : n ≤ 1000) (hb : bdS 60000000000000 xs)
    (hs : ∀ k, k ≤ xs.length → (0 ≤ (sumS ⟨0, 0⟩ (xs.take k)).lo ∧ (sumS ⟨0, 0⟩ (xs.take k)).lo ≤ 1000000000000000) ∧ (0 ≤ (sumS ⟨0, 0⟩ (xs.take k)).hi ∧ (sumS ⟨0, 0⟩ (xs.take k)).hi ≤ 1000000000000000)) :
    Calls Try.prog 49 #[.slice A n c] w fun e w' => e = .returned (.int .i64 (sumS ⟨0, 0⟩ xs).lo) ∧ w = w' := by
  have Hr := hide hr; have Hn := hide hn; have Hb := hide hb; have Hs := hide hs
  clear hr hn hb hs
  go_enter Try.func49, Try.ntmps49
  go_wp2_with fail
  go_loopw [3, 4] (fun s iv wr => ∃ i : Nat, i ≤ n ∧ iv = .int .i64 i ∧ s = .int .i64 (sumS ⟨0, 0⟩ (xs.take i)).lo ∧ w = wr) (fun _ iv _ => n - (intOf iv).toNat)
  case atStart => exact ⟨0, by omega, rfl, rfl, rfl⟩
  case round =>
    obtain ⟨i, hi, rfl, rfl, rfl⟩ := hrel
    obtain ⟨S, hS⟩ : ∃ S, S = (sumS ⟨0, 0⟩ (xs.take i)).lo := ⟨_, rfl⟩
    have hb := (Hs.out i (by have := Hn.out; omega)).1
    rw [← hS] at hb ⊢
    obtain ⟨b0, b1⟩ := hb
    have HS := hide hS
    clear hS
    by_cases hlt : i < n
    · obtain ⟨b, off, x0, x1, rfl, hbB, hxk, c0, c1⟩ := Hr.out.sp (i := i) (by have := Hn.out; omega)
      have hxa := Hb.out _ (List.mem_of_getElem? hxk)
      obtain ⟨⟨x2, x3⟩, x4, x5⟩ := hxa
      dsimp only at x2 x3 x4 x5
      have Hxk := hide hxk
      have i0 : (0 : Int) ≤ (i : Int) := by omega
      have i1 : (i : Int) < (n : Int) := by omega
      clear hxk
      go_wp2_with fail
      exact ⟨⟨i + 1, by omega, by go_num, by rw [sumS_snoc Hxk.out]; simp only [addS]; rw [← HS.out], by first | rfl | trivial⟩, by simp [intOf]; omega⟩
    · obtain rfl : i = n := by omega
      go_wp2
      go_ret
      have h := HS.out
      rw [Hn.out, List.take_length] at h
      exact ⟨ret_int h, rfl⟩
set_option maxHeartbeats 4000000 in
set_option maxRecDepth 100000 in
theorem rRow_any (Aff Am Ao : Option Addr) (nf cff nm cm n co : Nat) (fl ml : List Int) (o : List Nat) (w : World) (hf : Rd w w.heap.size icell Aff fl) (hm : Rd w w.heap.size icell Am ml) (ho : Rd w w.heap.size icell Ao (o.map (fun k : Nat => (k : Int)))) (hnf : nf = fl.length) (hnm : nm = ml.length) (hn : n = o.length) (hn6 : n ≤ 6)
    (hlt : ∀ k ∈ o, k < fl.length ∧ k < ml.length) (hml : ∀ x ∈ ml, 0 ≤ x ∧ x ≤ 23040) :
    Calls Try.prog 48 #[.slice Aff nf cff, .slice Am nm cm, .slice Ao n co] w fun e w' => ∃ v, e = .returned v ∧ Own w' w.heap.size 74 3 Us.cells v (rowSt fl ml o).1 ∧ Below w.heap.size w w' := by
  have Hf := hide hf; have Hm := hide hm; have Ho := hide ho; have Hn := hide hn; have Hnf := hide hnf; have Hnm := hide hnm; have Hlt := hide hlt; have Hml := hide hml
  clear hf hm ho hn hnf hnm hlt hml
  go_enter Try.func48, Try.ntmps48
  go_wp2_with fail
  go_loopw [7, 8, 9] (fun v sv iv wr => ∃ i : Nat, i ≤ n ∧ iv = .int .i64 i ∧ sv = .int .i64 (rowSt fl ml (o.take i)).2 ∧ (0 ≤ (rowSt fl ml (o.take i)).2 ∧ (rowSt fl ml (o.take i)).2 ≤ i * 23040) ∧ Own wr w.heap.size 74 3 Us.cells v (rowSt fl ml (o.take i)).1 ∧ Below w.heap.size w wr) (fun _ _ iv _ => n - (intOf iv).toNat)
  case atStart => exact ⟨0, by omega, rfl, rfl, by simp [rowSt], Own.nil _ _ _ _ _, Below.refl _ _⟩
  case round =>
    obtain ⟨i, hi, rfl, rfl, ⟨s0, s1⟩, hown, hB⟩ := hrel
    obtain ⟨s, hs⟩ : ∃ s, s = (rowSt fl ml (o.take i)).2 := ⟨_, rfl⟩
    obtain ⟨us, hus⟩ : ∃ us, us = (rowSt fl ml (o.take i)).1 := ⟨_, rfl⟩
    rw [← hs] at s0 s1 ⊢
    rw [← hus] at hown
    have hul : us.length ≤ 6 := by rw [hus, rowSt_len]; have := List.length_take_le i o; omega
    have HS := hide hs; have HU := hide hus; have Hown := hide hown
    clear hs hus hown
    by_cases hlt : i < n
    · obtain ⟨bo, offo, kv, hAo, hbo, hxo, a0⟩ := (Ho.out.below hB).int (i := i) (by rw [List.length_map, ← Hn.out]; exact hlt)
      obtain ⟨k, hok⟩ : ∃ k, o[i]? = some k := ⟨_, List.getElem?_eq_getElem (by rw [← Hn.out]; exact hlt)⟩
      have hkv : kv = (k : Int) := by
        rw [List.getElem?_map, hok] at hxo
        simpa using hxo.symm
      subst hkv
      obtain ⟨kf, km⟩ := Hlt.out k (List.mem_of_getElem? hok)
      obtain ⟨bf, offf, fk, hAf, hbf, hxf, c0⟩ := (Hf.out.below hB).int (i := k) kf
      obtain ⟨bm, offm, mk, hAm, hbm, hxm, d0⟩ := (Hm.out.below hB).int (i := k) km
      obtain ⟨m0, m1⟩ := Hml.out mk (List.mem_of_getElem? hxm)
      have hnf := Hnf.out
      have hnm := Hnm.out
      have i0 : (0 : Int) ≤ (i : Int) := by omega
      have i1 : (i : Int) < (n : Int) := by omega
      have k0 : (0 : Int) ≤ (k : Int) := by omega
      have k1 : (k : Int) < (nf : Int) := by omega
      have k2 : (k : Int) < (nm : Int) := by omega
      have hsz := hB.size
      have Hok := hide hok; have Hxf := hide hxf; have Hxm := hide hxm
      have rowne : ∀ b : Nat, b < w.heap.size → ¬ u7.ownBlock = some b := fun b hb e => by have := (own_block Hown.out e).1; omega
      subst hAo hAf hAm
      clear hok hxo hxf hxm hnf hnm
      have hsw : IntKind.i64.wrap (s + mk) = s + mk := wrapI (by omega)
      have Hsw := hide hsw
      clear hsw
      have hbw : bm < wr.heap.size := by omega
      go_wp2_with fail
      refine wp_region_held_drew (S := (fun W => Kept (fun b => ¬ u7.ownBlock = some b) wr W)) (by kernel_rfl) (by (try dsimp only); exact Kept.all _ (Below.refl _ _).drew) (fun hHeld => ?_)
      refine wpAnyH_take (i := 0) (oi := ⟨_, _, _, _, _, _⟩) (v := ?_) rfl (by kernel_rfl) (by kernel_rfl) (by kernel_rfl) (fun _ _ _ h => h) (Or.inl ⟨by rfl, ?_⟩) hHeld ?_
      rotate_left
      · (intro w hSw; (try dsimp only at hSw); go_simp; try (with_reducible rfl))
      try simp only [Act.put, List.setIfInBounds_toArray, List.set_cons_zero, List.set_cons_succ]
      refine wpAnyH_take (i := 1) (oi := ⟨_, _, _, _, _, _⟩) (v := ?_) rfl (by kernel_rfl) (by kernel_rfl) (by kernel_rfl) (fun _ _ _ h => h) (Or.inl ⟨by rfl, ?_⟩) hHeld ?_
      rotate_left
      · (intro w hSw; (try dsimp only at hSw); go_simp; try (with_reducible rfl))
      try simp only [Act.put, List.setIfInBounds_toArray, List.set_cons_zero, List.set_cons_succ]
      refine wpAnyH_take (i := 2) (oi := ⟨_, _, _, _, _, _⟩) (v := ?_) rfl (by kernel_rfl) (by kernel_rfl) (by kernel_rfl) (fun _ _ _ h => h) (Or.inl ⟨by rfl, ?_⟩) hHeld ?_
      rotate_left
      · (intro w hSw; (try dsimp only at hSw); go_simp; try (with_reducible rfl))
      try simp only [Act.put, List.setIfInBounds_toArray, List.set_cons_zero, List.set_cons_succ]
      refine wpAnyH_take (i := 3) (oi := ⟨_, _, _, _, _, _⟩) (v := ?_) rfl (by kernel_rfl) (by kernel_rfl) (by kernel_rfl) (fun _ _ _ h => h) (Or.inl ⟨by rfl, ?_⟩) hHeld ?_
      rotate_left
      · (intro w hSw; (try dsimp only at hSw); go_simp; try (with_reducible rfl))
      try simp only [Act.put, List.setIfInBounds_toArray, List.set_cons_zero, List.set_cons_succ]
      refine wpAnyH_take (i := 4) (oi := ⟨_, _, _, _, _, _⟩) (v := ?_) rfl (by kernel_rfl) (by kernel_rfl) (by kernel_rfl) (fun _ _ _ h => h) (Or.inl ⟨by rfl, ?_⟩) hHeld ?_
      rotate_left
      · (intro w hSw; (try dsimp only at hSw); have c0 := (hSw.cell (p := ⟨bf, offf + k, none⟩) (rowne _ (by show bf < _; omega)) (by show bf < _; omega)).trans c0; go_simp; try (with_reducible rfl))
      try simp only [Act.put, List.setIfInBounds_toArray, List.set_cons_zero, List.set_cons_succ]
      refine wpAnyH_take (i := 5) (oi := ⟨_, _, _, _, _, _⟩) (v := ?_) rfl (by kernel_rfl) (by kernel_rfl) (by kernel_rfl) (fun _ _ _ h => h) (Or.inl ⟨by rfl, ?_⟩) hHeld ?_
      rotate_left
      · (intro w hSw; (try dsimp only at hSw); go_simp; try (with_reducible rfl))
      try simp only [Act.put, List.setIfInBounds_toArray, List.set_cons_zero, List.set_cons_succ]
      refine wpAnyH_take (i := 6) (oi := ⟨_, _, _, _, _, _⟩) (v := ?_) rfl (by kernel_rfl) (by kernel_rfl) (by kernel_rfl) (fun _ _ _ h => h) (Or.inl ⟨by rfl, ?_⟩) hHeld ?_
      rotate_left
      · (intro w hSw; (try dsimp only at hSw); go_simp; try (with_reducible rfl))
      try simp only [Act.put, List.setIfInBounds_toArray, List.set_cons_zero, List.set_cons_succ]
      refine wpAnyH_take (i := 7) (oi := ⟨_, _, _, _, _, _⟩) (v := ?_) rfl (by kernel_rfl) (by kernel_rfl) (by kernel_rfl) (fun _ _ _ h => h) (Or.inl ⟨by rfl, ?_⟩) hHeld ?_
      rotate_left
      · (intro w hSw; (try dsimp only at hSw); go_simp; try (with_reducible rfl))
      try simp only [Act.put, List.setIfInBounds_toArray, List.set_cons_zero, List.set_cons_succ]
      refine wpAnyH_take (i := 8) (oi := ⟨_, _, _, _, _, _⟩) (v := ?_) rfl (by kernel_rfl) (by kernel_rfl) (by kernel_rfl) (fun _ _ _ h => h) (Or.inl ⟨by rfl, ?_⟩) hHeld ?_
      rotate_left
      · (intro w hSw; (try dsimp only at hSw); go_simp; try (with_reducible rfl))
      try simp only [Act.put, List.setIfInBounds_toArray, List.set_cons_zero, List.set_cons_succ]
      refine wpAnyH_take (i := 9) (oi := ⟨_, _, _, _, _, _⟩) (v := ?_) rfl (by kernel_rfl) (by kernel_rfl) (by kernel_rfl) (fun _ _ _ h => h) (Or.inl ⟨by rfl, ?_⟩) hHeld ?_
      rotate_left
      · (intro w hSw; (try dsimp only at hSw); go_simp; try (with_reducible rfl))
      try simp only [Act.put, List.setIfInBounds_toArray, List.set_cons_zero, List.set_cons_succ]
      refine wpAnyH_take (i := 10) (oi := ⟨_, _, _, _, _, _⟩) (v := ?_) rfl (by kernel_rfl) (by kernel_rfl) (by kernel_rfl) (fun _ _ _ h => h) (Or.inl ⟨by rfl, ?_⟩) hHeld ?_
      rotate_left
      · (intro w hSw; (try dsimp only at hSw); have d0 := (hSw.cell (p := ⟨bm, offm + k, none⟩) (rowne _ (by show bm < _; omega)) (by show bm < _; omega)).trans d0; go_simp; try (with_reducible rfl))
      try simp only [Act.put, List.setIfInBounds_toArray, List.set_cons_zero, List.set_cons_succ]
      refine wpAnyH_take (i := 11) (oi := ⟨_, _, _, _, _, _⟩) (v := ?_) rfl (by kernel_rfl) (by kernel_rfl) (by kernel_rfl) (fun _ _ _ h => h) (Or.inl ⟨by rfl, ?_⟩) hHeld ?_
      rotate_left
      · (intro w hSw; (try dsimp only at hSw); go_simp; try (with_reducible rfl))
      try simp only [Act.put, List.setIfInBounds_toArray, List.set_cons_zero, List.set_cons_succ]
      refine wpAnyH_take (i := 12) (oi := ⟨_, _, _, _, _, _⟩) (v := ?_) rfl (by kernel_rfl) (by kernel_rfl) (by kernel_rfl) (fun _ _ _ h => h) (Or.inl ⟨by rfl, ?_⟩) hHeld ?_
      rotate_left
      · (intro w hSw; (try dsimp only at hSw); go_simp; try (with_reducible rfl))
      try simp only [Act.put, List.setIfInBounds_toArray, List.set_cons_zero, List.set_cons_succ]
      refine wpAnyH_take (i := 13) (oi := ⟨_, _, _, _, _, _⟩) (v := ?_) rfl (by kernel_rfl) (by kernel_rfl) (by kernel_rfl) (fun _ _ _ h => h) (Or.inl ⟨by rfl, ?_⟩) hHeld ?_
      rotate_left
      · (intro w hSw; (try dsimp only at hSw); go_simp; try (with_reducible rfl))
      try simp only [Act.put, List.setIfInBounds_toArray, List.set_cons_zero, List.set_cons_succ]
      refine wpAnyH_ready (rs := [14]) (by kernel_rfl) (by simp) ?_
      refine AllReadyH.cons (o := ⟨_, _, _, _, _, _⟩) rfl (fun K hK => ?_) AllReadyH.nil
      go_simp
      have hlit := hide (Rd.new (cells := Us.cells) wr.drew #[.int .i64 fk, .int .i64 s, .int .i64 (IntKind.i64.wrap (s + mk))] 74 [⟨fk, s, IntKind.i64.wrap (s + mk)⟩] rfl)
      refine hK.out _ _ ?_ (fun hHeld2 => ?_)
      · (try dsimp only)
        (first | exact hHeld | exact Kept.all _ (Below.refl _ _).drew | exact hHeld.trans (Kept.all _ (below_new _ _)) | exact (Kept.all _ (Below.refl _ _).drew).trans hkV)
      clear hK K hHeld; have hHeld := hHeld2; clear hHeld2
      try simp only [Act.put, List.setIfInBounds_toArray, List.set_cons_zero, List.set_cons_succ]
      refine wpAnyH_ready (rs := [15]) (by kernel_rfl) (by simp) ?_
      refine AllReadyH.cons (o := ⟨_, _, _, _, _, _⟩) rfl (fun K hK => ?_) AllReadyH.nil
      rw [if_pos (by rfl)]
      refine op_app (v := u7) (xs := us) (ys := [⟨fk, s, IntKind.i64.wrap (s + mk)⟩]) (n := 1) el_us (.tmp 21) (.tmp 35) rfl rfl ((Hown.out.below (Below.refl _ _).drew).alloc _) rfl rfl hlit.out (by omega) (by simp; omega) ?_
      intro vV wv hownV hgV hatV
      obtain ⟨AV, cV, hvV, _⟩ := hownV.rd
      rw [show (us ++ [(⟨fk, s, IntKind.i64.wrap (s + mk)⟩ : Us)]).length = us.length + 1 from by simp] at hvV
      subst hvV
      have HownV := hide hownV
      have hkV := (Kept.all (fun b => ¬ u7.ownBlock = some b) (below_new wr.drew _)).trans ((Kept.grown hgV).mono fun b _ hb e => hb e.symm)
      clear hownV hgV hatV
      refine hK.out _ _ ?_ (fun hHeld2 => ?_)
      · (try dsimp only)
        (first | exact hHeld | exact Kept.all _ (Below.refl _ _).drew | exact hHeld.trans (Kept.all _ (below_new _ _)) | exact (Kept.all _ (Below.refl _ _).drew).trans hkV)
      clear hK K hHeld; have hHeld := hHeld2; clear hHeld2
      try simp only [Act.put, List.setIfInBounds_toArray, List.set_cons_zero, List.set_cons_succ]
      refine wpAnyH_take (i := 16) (oi := ⟨_, _, _, _, _, _⟩) (v := ?_) rfl (by kernel_rfl) (by kernel_rfl) (by kernel_rfl) (fun _ _ _ h => h) (Or.inl ⟨by rfl, ?_⟩) hHeld ?_
      rotate_left
      · (intro w hSw; (try dsimp only at hSw); go_simp; try (with_reducible rfl))
      try simp only [Act.put, List.setIfInBounds_toArray, List.set_cons_zero, List.set_cons_succ]
      refine wpAnyH_done (by kernel_rfl) ?_ _
      have hK := hHeld
      have d1 := (hK.cell (p := ⟨bm, offm + k, none⟩) (rowne _ (by show bm < _; omega)) (by show bm < _; omega)).trans d0
      have hB2 := hB.trans (hK.below (fun b hb => rowne b (by omega)) hsz)
      have hsn : rowSt fl ml (o.take (i + 1)) = (us ++ [⟨fk, s, s + mk⟩], s + mk) := by
        rw [take_snoc Hok.out, rowSt_snoc, ← HS.out, ← HU.out]
        have e1 : atI fl k = fk := by unfold atI; rw [Hxf.out]; rfl
        have e2 : atI ml k = mk := by unfold atI; rw [Hxm.out]; rfl
        rw [e1, e2]
      have Hsn := hide hsn
      clear hHeld c0 d0 a0 hsn
      go_wp2_with fail
      refine ⟨⟨i + 1, by omega, by go_num, ?_, ?_, ?_, hB2⟩, by simp [intOf]; omega⟩
      · rw [Hsn.out]
      · rw [Hsn.out]; simp only; omega
      · rw [Hsn.out, ← Hsw.out]; exact HownV.out
    · obtain rfl : i = n := by omega
      go_wp2_with fail
      go_ret
      refine ⟨_, rfl, ?_, hB⟩
      have h := HU.out
      rw [List.take_of_length_le (by have := Hn.out; omega)] at h
      rw [← h]
      exact Hown.out
end Go.Proofs.Ytgklcilpohkpkaa
