/- Channel: Order, by contract. -/
import Derived.Test.YthlnbgjlkliopaaO5
set_option linter.unusedVariables false
set_option linter.unusedSimpArgs false
namespace Go.Proofs.Ythlnbgjlkliopaa
open Go.RowKit Go.Shelf
attribute [local go_sem ↓] Go.wp_at_zero Go.wp_at_succ
/-- What Order answers. -/
def orderS (cs : List Ca) (fs : List Int) (dry days a b : Int) (fl ml : List Int) : (List Int × Int) × Int :=
  if netOk cs fs dry days then (if Sp.ok 0 13000000 ⟨a, b⟩ then (if 6 < fl.length then (([], 0), 4) else (if turnsOk fs.length (days * 1440) fl ml then ((ints (dfsO (valO cs fs dry (days * 1440) a b fl ml) fl.length fl.length [] ([], -1)).1, (dfsO (valO cs fs dry (days * 1440) a b fl ml) fl.length fl.length [] ([], -1)).2), 0) else (([], 0), 52))) else (([], 0), 21)) else (([], 0), 50)
theorem fields_all (nf : Nat) (fl : List Int) : (!(anyOut 0 ((nf : Int) - 1) fl)) = fl.all (fun k => inF nf k) := by
  induction fl with
  | nil => rfl
  | cons k fl ih =>
    simp only [anyOut, List.any_cons, List.all_cons, Bool.not_or] at ih ⊢
    rw [ih]
    congr 1
    rw [Bool.eq_iff_iff]
    simp [outB, inF]
    omega
theorem from_all (lo hi : Int) (ml : List Int) : (!(anyOut lo hi ml)) = ml.all (fun m => inB lo hi m) := by
  induction ml with
  | nil => rfl
  | cons k fl ih =>
    simp only [anyOut, List.any_cons, List.all_cons, Bool.not_or] at ih ⊢
    rw [ih]
    congr 1
    rw [Bool.eq_iff_iff]
    simp [outB, inB]
    try omega
theorem two_box1 {W : World} {b c : Nat} {x y : Value} (h1 : At W b [x]) (h2 : At W c [y]) (hne : b ≠ c) (u v : Value) :
    ((W.setCell ⟨b, 0, none⟩ u).setCell ⟨c, 0, none⟩ v).cell? ⟨b, 0, none⟩ = some u ∧ ((W.setCell ⟨b, 0, none⟩ u).setCell ⟨c, 0, none⟩ v).cell? ⟨c, 0, none⟩ = some v := by
  have e1 : At ((W.setCell ⟨b, 0, none⟩ u).setCell ⟨c, 0, none⟩ v) b [u] := by simpa using (h1.set (j := 0) u (by simp)).other (r := c) 0 v hne
  have e2 : At ((W.setCell ⟨b, 0, none⟩ u).setCell ⟨c, 0, none⟩ v) c [v] := by simpa using (h2.other (r := b) 0 u (Ne.symm hne)).set (j := 0) v (by simp)
  exact ⟨e1.c1, e2.c1⟩
set_option maxHeartbeats 4000000 in
set_option maxRecDepth 100000 in
theorem order_fn (Ac Af Aff Am : Option Addr) (nc cc nf cf nk cff nm cm : Nat) (dry days a b : Int) (cs : List Ca) (fs fl ml : List Int) (w : World) (hnet : NetAt w Ac Af nc nf cs fs) (hf : Rd w w.heap.size icell Aff fl) (hm : Rd w w.heap.size icell Am ml) (hnk : nk = fl.length) (hnm : nm = ml.length) (hk2 : nk ≤ 1000) (hm2 : nm ≤ 1000) :
    Calls Try.prog 17 #[.agg #[.slice Ac nc cc, .slice Af nf cf, .int .i64 dry, .int .i64 days], .agg #[.int .i64 a, .int .i64 b], .slice Aff nk cff, .slice Am nm cm] w fun e w' => ∃ v, e = .returned (.tuple #[v, .int .i64 (orderS cs fs dry days a b fl ml).1.2, .int .i64 (orderS cs fs dry days a b fl ml).2]) ∧
      Own w' w.heap.size 3 1 icell v (orderS cs fs dry days a b fl ml).1.1 ∧ Below w.heap.size w w' := by
  obtain ⟨W6, HW6⟩ : ∃ W6, Hid ((((((w.alloc (.cells #[.slice Ac nc cc, .slice Af nf cf, .int .i64 dry, .int .i64 days] 25)).alloc (.cells #[.int .i64 a, .int .i64 b] 27)).alloc (.cells #[.slice Aff nk cff] 23)).alloc (.cells #[.slice Am nm cm] 23)).alloc (.cells #[.slice none 0 0] 23)).alloc (.cells #[.int .i64 0] 3) = W6) := ⟨_, hide rfl⟩
  have hN : At W6 w.heap.size [.slice Ac nc cc, .slice Af nf cf, .int .i64 dry, .int .i64 days] := by rw [← HW6.out]; exact (((((At.new w #[.slice Ac nc cc, .slice Af nf cf, .int .i64 dry, .int .i64 days] _ _ rfl _ rfl).alloc _).alloc _).alloc _).alloc _).alloc _
  have hL : At W6 (w.heap.size + 1) [.int .i64 a, .int .i64 b] := by rw [← HW6.out]; exact ((((At.new _ #[.int .i64 a, .int .i64 b] _ _ (by simp) _ rfl).alloc _).alloc _).alloc _).alloc _
  have hF : At W6 (w.heap.size + 1 + 1) [.slice Aff nk cff] := by rw [← HW6.out]; exact (((At.new _ #[.slice Aff nk cff] _ _ (by simp) _ rfl).alloc _).alloc _).alloc _
  have hM : At W6 (w.heap.size + 1 + 1 + 1) [.slice Am nm cm] := by rw [← HW6.out]; exact ((At.new _ #[.slice Am nm cm] _ _ (by simp) _ rfl).alloc _).alloc _
  have hO : At W6 (w.heap.size + 1 + 1 + 1 + 1) [.slice none 0 0] := by rw [← HW6.out]; exact (At.new _ #[.slice none 0 0] _ _ (by simp) _ rfl).alloc _
  have hT : At W6 (w.heap.size + 1 + 1 + 1 + 1 + 1) [.int .i64 0] := by rw [← HW6.out]; exact At.new _ #[.int .i64 0] _ _ (by simp) _ rfl
  have hfo : W6.frozen? ⟨w.heap.size + 1 + 1 + 1 + 1, 0, none⟩ = false := by rw [← HW6.out]; exact ((below_new _ _).frozen (p := ⟨w.heap.size + 1 + 1 + 1 + 1, 0, none⟩) (by simp)).trans (At.frozen_new _ _ _ _ (by simp) 0)
  have hft : W6.frozen? ⟨w.heap.size + 1 + 1 + 1 + 1 + 1, 0, none⟩ = false := by rw [← HW6.out]; exact At.frozen_new _ _ _ _ (by simp) 0
  have hB0 : Below w.heap.size w W6 := by rw [← HW6.out]; exact (((((below_new w _).alloc (by simp) _).alloc (by simp; omega) _).alloc (by simp; omega) _).alloc (by simp; omega) _).alloc (by simp; omega) _
  rw [← HW6.out] at hN hL hF hM hO hT hfo hft hB0
  clear HW6
  have hE := fun W h => enter_any Ac Af nc cc nf cf dry days cs fs a b W h
  have hnf2 := hnet.nf2
  have Hf := hide hf; have Hm := hide hm; have Hnk := hide hnk; have Hnm := hide hnm; have Hnet := hide hnet
  clear hf hm hnk hnm hnet
  cases hgo : (netOk cs fs dry days && Sp.ok 0 13000000 ⟨a, b⟩)
  · obtain ⟨er, her, hne⟩ : ∃ er : Int, er = (if netOk cs fs dry days then (if Sp.ok 0 13000000 ⟨a, b⟩ then 0 else 21) else 50) ∧ (er = 21 ∨ er = 50) := by
      refine ⟨_, rfl, ?_⟩
      cases h1 : netOk cs fs dry days <;> cases h2 : Sp.ok 0 13000000 ⟨a, b⟩ <;> simp [h1, h2] at hgo ⊢
    have hs : orderS cs fs dry days a b fl ml = (([], 0), er) := by
      rw [her]; unfold orderS
      cases h1 : netOk cs fs dry days <;> cases h2 : Sp.ok 0 13000000 ⟨a, b⟩ <;> simp [h1, h2] at hgo ⊢
    rw [hs]
    rw [← her] at hE
    have HE := hide hE
    clear hE her hs hgo
    rcases hne with rfl | rfl
    all_goals
      go_enter Try.func17, Try.ntmps17
      go_wp2_with fail
      refine calls_gen fun W1 HW1 => ?_
      rw [HW1.out] at hN hL hF hM hO hT hB0 hfo hft
      refine (HE.out W1 (Hnet.out.below hB0)).mono ?_
      rintro e w2 ⟨rfl, hb2⟩
      have hN2 := hN.below hb2
      have hF2 := hF.below hb2
      have hM2 := hM.below hb2
      have hO2 := hO.below hb2
      have hT2 := hT.below hb2
      have hL2 := hL.below hb2
      have hB2 := hB0.trans (hb2.mono hB0.size)
      have hfo2 := (hb2.frozen (p := ⟨_, 0, none⟩) hO.1).trans hfo
      have hft2 := (hb2.frozen (p := ⟨_, 0, none⟩) hT.1).trans hft
      have hz2 := hT2.1
      clear hN hL hF hM hO hT hB0 hfo hft hb2
      have hOx := hO2
      have hTx := hT2
      have hBx := hB2
      have z0 := hOx.c1
      have z1 := hTx.c1
      have y0 := hfo2
      have y1 := hft2
      obtain ⟨k8, k9⟩ := two_box1 hOx hTx (by omega) (.slice none 0 0) (.int .i64 0)
      go_wp2
      exact bodyPost_ret (by simp [results, Try.results17, go_sem, k8, k9]; try rfl) rfl ⟨_, rfl, Own.nil _ _ _ _ _, (hBx.setCell (by simp; omega) _).setCell (by simp; omega) _⟩
  · rw [Bool.and_eq_true] at hgo
    obtain ⟨hok, hsp⟩ := hgo
    rw [hok, hsp] at hE
    simp only [if_true] at hE
    have hdy := (netOk_parts hok).2.2.2.1
    have HE := hide hE; have Hok := hide hok; have Hsp := hide hsp
    have hs : orderS cs fs dry days a b fl ml = (if 6 < fl.length then (([], 0), 4) else (if turnsOk nf (days * 1440) fl ml then ((ints (dfsO (valO cs fs dry (days * 1440) a b fl ml) fl.length fl.length [] ([], -1)).1, (dfsO (valO cs fs dry (days * 1440) a b fl ml) fl.length fl.length [] ([], -1)).2), 0) else (([], 0), 52))) := by
      unfold orderS; rw [hok, hsp, Hnet.out.ef]; rfl
    rw [hs]
    clear hE hok hsp hs
    by_cases h6 : 6 < nk
    · rw [if_pos (by rw [← Hnk.out]; exact h6)]
      go_enter Try.func17, Try.ntmps17
      go_wp2_with fail
      refine calls_gen fun W1 HW1 => ?_
      rw [HW1.out] at hN hL hF hM hO hT hB0 hfo hft
      refine (HE.out W1 (Hnet.out.below hB0)).mono ?_
      rintro e w2 ⟨rfl, hb2⟩
      have hN2 := hN.below hb2
      have hF2 := hF.below hb2
      have hM2 := hM.below hb2
      have hO2 := hO.below hb2
      have hT2 := hT.below hb2
      have hL2 := hL.below hb2
      have hB2 := hB0.trans (hb2.mono hB0.size)
      have hfo2 := (hb2.frozen (p := ⟨_, 0, none⟩) hO.1).trans hfo
      have hft2 := (hb2.frozen (p := ⟨_, 0, none⟩) hT.1).trans hft
      have hz2 := hT2.1
      clear hN hL hF hM hO hT hB0 hfo hft hb2
      obtain ⟨q0, q1, q2, q3⟩ := hN2.c4
      have q4 := (hF2.alloc (.cells #[.slice Ac nc cc, .slice Af nf cf, .int .i64 dry, .int .i64 days] 70)).c1
      have z0 := (hO2.alloc (.cells #[.slice Ac nc cc, .slice Af nf cf, .int .i64 dry, .int .i64 days] 70)).c1
      have z1 := (hT2.alloc (.cells #[.slice Ac nc cc, .slice Af nf cf, .int .i64 dry, .int .i64 days] 70)).c1
      have y0 := ((below_new w2 (.cells #[.slice Ac nc cc, .slice Af nf cf, .int .i64 dry, .int .i64 days] 70)).frozen (p := ⟨_, 0, none⟩) hO2.1).trans hfo2
      have y1 := ((below_new w2 (.cells #[.slice Ac nc cc, .slice Af nf cf, .int .i64 dry, .int .i64 days] 70)).frozen (p := ⟨_, 0, none⟩) hT2.1).trans hft2
      have hOx := hO2.alloc (.cells #[.slice Ac nc cc, .slice Af nf cf, .int .i64 dry, .int .i64 days] 70)
      have hTx := hT2.alloc (.cells #[.slice Ac nc cc, .slice Af nf cf, .int .i64 dry, .int .i64 days] 70)
      have hBx := hB2.alloc hB2.size (.cells #[.slice Ac nc cc, .slice Af nf cf, .int .i64 dry, .int .i64 days] 70)
      have z0 := hOx.c1
      have z1 := hTx.c1
      have y0 := ((below_new w2 (.cells #[.slice Ac nc cc, .slice Af nf cf, .int .i64 dry, .int .i64 days] 70)).frozen (p := ⟨_, 0, none⟩) hO2.1).trans hfo2
      have y1 := ((below_new w2 (.cells #[.slice Ac nc cc, .slice Af nf cf, .int .i64 dry, .int .i64 days] 70)).frozen (p := ⟨_, 0, none⟩) hT2.1).trans hft2
      obtain ⟨k8, k9⟩ := two_box1 hOx hTx (by omega) (.slice none 0 0) (.int .i64 0)
      go_wp2
      exact bodyPost_ret (by simp [results, Try.results17, go_sem, k8, k9]; try rfl) rfl ⟨_, rfl, Own.nil _ _ _ _ _, (hBx.setCell (by simp; omega) _).setCell (by simp; omega) _⟩
    rw [if_neg (by rw [← Hnk.out]; exact h6)]
    have hk6 : nk ≤ 6 := by omega
    clear h6
    by_cases hlen : nk = nm
    case neg =>
      have hbad : turnsOk nf (days * 1440) fl ml = false := by
        rw [Bool.eq_false_iff]
        intro ht
        have := (turnsOk_iff.1 ht).1
        have := Hnk.out; have := Hnm.out
        omega
      rw [hbad]
      simp only [Bool.false_eq_true, if_false]
      have hne : ((nk : Int) == (nm : Int)) = false := by simp; omega
      have hne2 : ((nk : Int) != (nm : Int)) = true := by simp; omega
      clear hbad
      go_enter Try.func17, Try.ntmps17
      go_wp2_with fail
      refine calls_gen fun W1 HW1 => ?_
      rw [HW1.out] at hN hL hF hM hO hT hB0 hfo hft
      refine (HE.out W1 (Hnet.out.below hB0)).mono ?_
      rintro e w2 ⟨rfl, hb2⟩
      have hN2 := hN.below hb2
      have hF2 := hF.below hb2
      have hM2 := hM.below hb2
      have hO2 := hO.below hb2
      have hT2 := hT.below hb2
      have hL2 := hL.below hb2
      have hB2 := hB0.trans (hb2.mono hB0.size)
      have hfo2 := (hb2.frozen (p := ⟨_, 0, none⟩) hO.1).trans hfo
      have hft2 := (hb2.frozen (p := ⟨_, 0, none⟩) hT.1).trans hft
      have hz2 := hT2.1
      clear hN hL hF hM hO hT hB0 hfo hft hb2
      obtain ⟨q0, q1, q2, q3⟩ := hN2.c4
      have q4 := (hF2.alloc (.cells #[.slice Ac nc cc, .slice Af nf cf, .int .i64 dry, .int .i64 days] 70)).c1
      go_wp2_with fail
      obtain ⟨w7, Hw7⟩ : ∃ w7, Hid (w2.alloc (.cells #[.slice Ac nc cc, .slice Af nf cf, .int .i64 dry, .int .i64 days] 70) = w7) := ⟨_, hide rfl⟩
      have hb7 : Below w2.heap.size w2 w7 := by rw [← Hw7.out]; exact below_new _ _
      have hX7 : At w7 w2.heap.size [.slice Ac nc cc, .slice Af nf cf, .int .i64 dry, .int .i64 days] := by rw [← Hw7.out]; exact At.new w2 #[.slice Ac nc cc, .slice Af nf cf, .int .i64 dry, .int .i64 days] _ _ rfl _ rfl
      have hF7 := hF2.below hb7
      have hM7 := hM2.below hb7
      have hO7 := hO2.below hb7
      have hT7 := hT2.below hb7
      have hL7 := hL2.below hb7
      have HB7 := hide (hB2.trans (hb7.mono hB2.size))
      have hfo7 := (hb7.frozen (p := ⟨_, 0, none⟩) hO2.1).trans hfo2
      have hft7 := (hb7.frozen (p := ⟨_, 0, none⟩) hT2.1).trans hft2
      have hX7s := hX7.1
      rw [Hw7.out]
      clear q0 q1 q2 q3 q4 hN2 hF2 hM2 hO2 hT2 hL2 hB2 hfo2 hft2 hb7 Hw7
      refine wp_region_held_drew (S := (fun W => Below w7.heap.size w7 W)) (by kernel_rfl) (by (try dsimp only); exact (Below.refl _ _).drew) (fun hHeld => ?_)
      generalize World.drew w7 = Wd at hHeld ⊢
      iterate 2
        refine tkHl [0, 2] ?_ rfl rfl (Or.inl ⟨by rfl, ?_⟩) hHeld ?_
        rotate_left
        · (intro w hSw; (try dsimp only at hSw); obtain ⟨q0, q1, q2, q3⟩ := (hX7.below hSw).c4; have q4 := (hF7.below hSw).c1; have q5 := (hM7.below hSw).c1; go_simp; try (with_reducible rfl))
        try simp only [Act.put, tl1, tl2, tl3]
      iterate 4
        refine tkHl [1, 3, 4, 5] ?_ rfl rfl (Or.inl ⟨by rfl, ?_⟩) hHeld ?_
        rotate_left
        · (intro w hSw; (try dsimp only at hSw); go_simp; try (with_reducible rfl))
        try simp only [Act.put, tl1, tl2, tl3]
      iterate 4
        refine tkHl [6, 7, 8, 9] _ rfl rfl (Or.inr ⟨by rfl, rfl⟩) hHeld ?_
        try simp only [Act.put, tl1, tl2, tl3]
      iterate 2
        refine tkHl [10, 11] ?_ rfl rfl (Or.inl ⟨by rfl, ?_⟩) hHeld ?_
        rotate_left
        · (intro w hSw; (try dsimp only at hSw); go_simp; try (with_reducible rfl))
        try simp only [Act.put, tl1, tl2, tl3]
      iterate 5
        refine tkHl [12, 13, 14, 15, 16] _ rfl rfl (Or.inr ⟨by rfl, rfl⟩) hHeld ?_
        try simp only [Act.put, tl1, tl2, tl3]
      iterate 2
        refine tkHl [17, 18] ?_ rfl rfl (Or.inl ⟨by rfl, ?_⟩) hHeld ?_
        rotate_left
        · (intro w hSw; (try dsimp only at hSw); go_simp; try (with_reducible rfl))
        try simp only [Act.put, tl1, tl2, tl3]
      refine wpAnyH_done (by kernel_rfl) ?_ _
      have hOx := hO7.below hHeld
      have hTx := hT7.below hHeld
      have hBx := HB7.out.trans (hHeld.mono HB7.out.size)
      have z0 := hOx.c1
      have z1 := hTx.c1
      have y0 := (hHeld.frozen (p := ⟨_, 0, none⟩) hO7.1).trans hfo7
      have y1 := (hHeld.frozen (p := ⟨_, 0, none⟩) hT7.1).trans hft7
      obtain ⟨k8, k9⟩ := two_box1 hOx hTx (by omega) (.slice none 0 0) (.int .i64 0)
      go_wp2
      exact bodyPost_ret (by simp [results, Try.results17, go_sem, k8, k9]; try rfl) rfl ⟨_, rfl, Own.nil _ _ _ _ _, (hBx.setCell (by simp; omega) _).setCell (by simp; omega) _⟩
    subst hlen
    cases hf1 : fl.all (fun k => inF nf k)
    · have hbad : turnsOk nf (days * 1440) fl ml = false := by simp [turnsOk, hf1]
      rw [hbad]
      simp only [Bool.false_eq_true, if_false]
      have HF1 := hide ((fields_all nf fl).trans hf1)
      clear hbad hf1
      go_enter Try.func17, Try.ntmps17
      go_wp2_with fail
      refine calls_gen fun W1 HW1 => ?_
      rw [HW1.out] at hN hL hF hM hO hT hB0 hfo hft
      refine (HE.out W1 (Hnet.out.below hB0)).mono ?_
      rintro e w2 ⟨rfl, hb2⟩
      have hN2 := hN.below hb2
      have hF2 := hF.below hb2
      have hM2 := hM.below hb2
      have hO2 := hO.below hb2
      have hT2 := hT.below hb2
      have hL2 := hL.below hb2
      have hB2 := hB0.trans (hb2.mono hB0.size)
      have hfo2 := (hb2.frozen (p := ⟨_, 0, none⟩) hO.1).trans hfo
      have hft2 := (hb2.frozen (p := ⟨_, 0, none⟩) hT.1).trans hft
      have hz2 := hT2.1
      clear hN hL hF hM hO hT hB0 hfo hft hb2
      obtain ⟨q0, q1, q2, q3⟩ := hN2.c4
      have q4 := (hF2.alloc (.cells #[.slice Ac nc cc, .slice Af nf cf, .int .i64 dry, .int .i64 days] 70)).c1
      go_wp2_with fail
      obtain ⟨w7, Hw7⟩ : ∃ w7, Hid (w2.alloc (.cells #[.slice Ac nc cc, .slice Af nf cf, .int .i64 dry, .int .i64 days] 70) = w7) := ⟨_, hide rfl⟩
      have hb7 : Below w2.heap.size w2 w7 := by rw [← Hw7.out]; exact below_new _ _
      have hX7 : At w7 w2.heap.size [.slice Ac nc cc, .slice Af nf cf, .int .i64 dry, .int .i64 days] := by rw [← Hw7.out]; exact At.new w2 #[.slice Ac nc cc, .slice Af nf cf, .int .i64 dry, .int .i64 days] _ _ rfl _ rfl
      have hF7 := hF2.below hb7
      have hM7 := hM2.below hb7
      have hO7 := hO2.below hb7
      have hT7 := hT2.below hb7
      have hL7 := hL2.below hb7
      have HB7 := hide (hB2.trans (hb7.mono hB2.size))
      have hfo7 := (hb7.frozen (p := ⟨_, 0, none⟩) hO2.1).trans hfo2
      have hft7 := (hb7.frozen (p := ⟨_, 0, none⟩) hT2.1).trans hft2
      have hX7s := hX7.1
      rw [Hw7.out]
      clear q0 q1 q2 q3 q4 hN2 hF2 hM2 hO2 hT2 hL2 hB2 hfo2 hft2 hb7 Hw7
      refine wp_region_held_drew (S := (fun W => Below w7.heap.size w7 W)) (by kernel_rfl) (by (try dsimp only); exact (Below.refl _ _).drew) (fun hHeld => ?_)
      generalize World.drew w7 = Wd at hHeld ⊢
      iterate 2
        refine tkHl [0, 2] ?_ rfl rfl (Or.inl ⟨by rfl, ?_⟩) hHeld ?_
        rotate_left
        · (intro w hSw; (try dsimp only at hSw); obtain ⟨q0, q1, q2, q3⟩ := (hX7.below hSw).c4; have q4 := (hF7.below hSw).c1; have q5 := (hM7.below hSw).c1; go_simp; try (with_reducible rfl))
        try simp only [Act.put, tl1, tl2, tl3]
      iterate 4
        refine tkHl [1, 3, 4, 5] ?_ rfl rfl (Or.inl ⟨by rfl, ?_⟩) hHeld ?_
        rotate_left
        · (intro w hSw; (try dsimp only at hSw); go_simp; try (with_reducible rfl))
        try simp only [Act.put, tl1, tl2, tl3]
      iterate 2
        refine tkHl [6, 7] ?_ rfl rfl (Or.inl ⟨by rfl, ?_⟩) hHeld ?_
        rotate_left
        · (intro w hSw; (try dsimp only at hSw); obtain ⟨q0, q1, q2, q3⟩ := (hX7.below hSw).c4; have q4 := (hF7.below hSw).c1; have q5 := (hM7.below hSw).c1; go_simp; try (with_reducible rfl))
        try simp only [Act.put, tl1, tl2, tl3]
      refine wpAnyH_ready (rs := [8]) (by kernel_rfl) (by simp) ?_
      refine AllReadyH.cons (o := ⟨_, _, _, _, _, _⟩) rfl (fun K hK => ?_) AllReadyH.nil
      go_simp
      refine (field_any Ac Af nc cc nf cf dry days Aff fl nk cff _ Hnk.out (by omega) ((Hf.out.below (HB7.out.trans (hHeld.mono HB7.out.size))).more (HB7.out.trans (hHeld.mono HB7.out.size)).size) hnf2).mono ?_
      rintro e w' ⟨rfl, hb⟩
      rw [HF1.out]
      go_wp2_with fail
      refine hK.out _ _ ?_ (fun hHeld2 => ?_)
      · (try dsimp only)
        (first | exact hHeld | exact hHeld.trans (hb.mono hHeld.size) | exact hHeld.trans ((below_new _ _).mono hHeld.size) | exact hHeld.drew)
      clear hK K hHeld; have hHeld := hHeld2; clear hHeld2
      try simp only [Act.put, tl1, tl2, tl3]
      iterate 3
        refine tkHl [9, 10, 11] ?_ rfl rfl (Or.inl ⟨by rfl, ?_⟩) hHeld ?_
        rotate_left
        · (intro w hSw; (try dsimp only at hSw); go_simp; try (with_reducible rfl))
        try simp only [Act.put, tl1, tl2, tl3]
      iterate 5
        refine tkHl [12, 13, 14, 15, 16] _ rfl rfl (Or.inr ⟨by rfl, rfl⟩) hHeld ?_
        try simp only [Act.put, tl1, tl2, tl3]
      iterate 2
        refine tkHl [17, 18] ?_ rfl rfl (Or.inl ⟨by rfl, ?_⟩) hHeld ?_
        rotate_left
        · (intro w hSw; (try dsimp only at hSw); go_simp; try (with_reducible rfl))
        try simp only [Act.put, tl1, tl2, tl3]
      refine wpAnyH_done (by kernel_rfl) ?_ _
      have hOx := hO7.below hHeld
      have hTx := hT7.below hHeld
      have hBx := HB7.out.trans (hHeld.mono HB7.out.size)
      have z0 := hOx.c1
      have z1 := hTx.c1
      have y0 := (hHeld.frozen (p := ⟨_, 0, none⟩) hO7.1).trans hfo7
      have y1 := (hHeld.frozen (p := ⟨_, 0, none⟩) hT7.1).trans hft7
      obtain ⟨k8, k9⟩ := two_box1 hOx hTx (by omega) (.slice none 0 0) (.int .i64 0)
      go_wp2
      exact bodyPost_ret (by simp [results, Try.results17, go_sem, k8, k9]; try rfl) rfl ⟨_, rfl, Own.nil _ _ _ _ _, (hBx.setCell (by simp; omega) _).setCell (by simp; omega) _⟩
    have HF1 := hide ((fields_all nf fl).trans hf1)
    have Hf1 := hide hf1
    clear hf1
    cases hf2 : ml.all (fun m => inB 1 (days * 1440) m)
    · have hbad : turnsOk nf (days * 1440) fl ml = false := by
        rw [Bool.eq_false_iff]
        intro ht
        obtain ⟨_, _, hm, hsum⟩ := turnsOk_iff.1 ht
        have : ml.all (fun m => inB 1 (days * 1440) m) = true := List.all_eq_true.2 fun m hmm => by
          have h1 := hm m hmm
          have h2 := sumM_mem hm hmm
          simp [inB]; omega
        rw [hf2] at this
        cases this
      rw [hbad]
      simp only [Bool.false_eq_true, if_false]
      have HF2 := hide ((from_all 1 (days * 1440) ml).trans hf2)
      clear hbad hf2
      go_enter Try.func17, Try.ntmps17
      go_wp2_with fail
      refine calls_gen fun W1 HW1 => ?_
      rw [HW1.out] at hN hL hF hM hO hT hB0 hfo hft
      refine (HE.out W1 (Hnet.out.below hB0)).mono ?_
      rintro e w2 ⟨rfl, hb2⟩
      have hN2 := hN.below hb2
      have hF2 := hF.below hb2
      have hM2 := hM.below hb2
      have hO2 := hO.below hb2
      have hT2 := hT.below hb2
      have hL2 := hL.below hb2
      have hB2 := hB0.trans (hb2.mono hB0.size)
      have hfo2 := (hb2.frozen (p := ⟨_, 0, none⟩) hO.1).trans hfo
      have hft2 := (hb2.frozen (p := ⟨_, 0, none⟩) hT.1).trans hft
      have hz2 := hT2.1
      clear hN hL hF hM hO hT hB0 hfo hft hb2
      obtain ⟨q0, q1, q2, q3⟩ := hN2.c4
      have q4 := (hF2.alloc (.cells #[.slice Ac nc cc, .slice Af nf cf, .int .i64 dry, .int .i64 days] 70)).c1
      go_wp2_with fail
      obtain ⟨w7, Hw7⟩ : ∃ w7, Hid (w2.alloc (.cells #[.slice Ac nc cc, .slice Af nf cf, .int .i64 dry, .int .i64 days] 70) = w7) := ⟨_, hide rfl⟩
      have hb7 : Below w2.heap.size w2 w7 := by rw [← Hw7.out]; exact below_new _ _
      have hX7 : At w7 w2.heap.size [.slice Ac nc cc, .slice Af nf cf, .int .i64 dry, .int .i64 days] := by rw [← Hw7.out]; exact At.new w2 #[.slice Ac nc cc, .slice Af nf cf, .int .i64 dry, .int .i64 days] _ _ rfl _ rfl
      have hF7 := hF2.below hb7
      have hM7 := hM2.below hb7
      have hO7 := hO2.below hb7
      have hT7 := hT2.below hb7
      have hL7 := hL2.below hb7
      have HB7 := hide (hB2.trans (hb7.mono hB2.size))
      have hfo7 := (hb7.frozen (p := ⟨_, 0, none⟩) hO2.1).trans hfo2
      have hft7 := (hb7.frozen (p := ⟨_, 0, none⟩) hT2.1).trans hft2
      have hX7s := hX7.1
      rw [Hw7.out]
      clear q0 q1 q2 q3 q4 hN2 hF2 hM2 hO2 hT2 hL2 hB2 hfo2 hft2 hb7 Hw7
      refine wp_region_held_drew (S := (fun W => Below w7.heap.size w7 W)) (by kernel_rfl) (by (try dsimp only); exact (Below.refl _ _).drew) (fun hHeld => ?_)
      generalize World.drew w7 = Wd at hHeld ⊢
      iterate 2
        refine tkHl [0, 2] ?_ rfl rfl (Or.inl ⟨by rfl, ?_⟩) hHeld ?_
        rotate_left
        · (intro w hSw; (try dsimp only at hSw); obtain ⟨q0, q1, q2, q3⟩ := (hX7.below hSw).c4; have q4 := (hF7.below hSw).c1; have q5 := (hM7.below hSw).c1; go_simp; try (with_reducible rfl))
        try simp only [Act.put, tl1, tl2, tl3]
      iterate 4
        refine tkHl [1, 3, 4, 5] ?_ rfl rfl (Or.inl ⟨by rfl, ?_⟩) hHeld ?_
        rotate_left
        · (intro w hSw; (try dsimp only at hSw); go_simp; try (with_reducible rfl))
        try simp only [Act.put, tl1, tl2, tl3]
      iterate 2
        refine tkHl [6, 7] ?_ rfl rfl (Or.inl ⟨by rfl, ?_⟩) hHeld ?_
        rotate_left
        · (intro w hSw; (try dsimp only at hSw); obtain ⟨q0, q1, q2, q3⟩ := (hX7.below hSw).c4; have q4 := (hF7.below hSw).c1; have q5 := (hM7.below hSw).c1; go_simp; try (with_reducible rfl))
        try simp only [Act.put, tl1, tl2, tl3]
      refine wpAnyH_ready (rs := [8]) (by kernel_rfl) (by simp) ?_
      refine AllReadyH.cons (o := ⟨_, _, _, _, _, _⟩) rfl (fun K hK => ?_) AllReadyH.nil
      go_simp
      refine (field_any Ac Af nc cc nf cf dry days Aff fl nk cff _ Hnk.out (by omega) ((Hf.out.below (HB7.out.trans (hHeld.mono HB7.out.size))).more (HB7.out.trans (hHeld.mono HB7.out.size)).size) hnf2).mono ?_
      rintro e w' ⟨rfl, hb⟩
      rw [HF1.out]
      go_wp2_with fail
      refine hK.out _ _ ?_ (fun hHeld2 => ?_)
      · (try dsimp only)
        (first | exact hHeld | exact hHeld.trans (hb.mono hHeld.size) | exact hHeld.trans ((below_new _ _).mono hHeld.size) | exact hHeld.drew)
      clear hK K hHeld; have hHeld := hHeld2; clear hHeld2
      try simp only [Act.put, tl1, tl2, tl3]
      iterate 3
        refine tkHl [9, 10, 11] ?_ rfl rfl (Or.inl ⟨by rfl, ?_⟩) hHeld ?_
        rotate_left
        · (intro w hSw; (try dsimp only at hSw); go_simp; try (with_reducible rfl))
        try simp only [Act.put, tl1, tl2, tl3]
      iterate 2
        refine tkHl [12, 14] ?_ rfl rfl (Or.inl ⟨by rfl, ?_⟩) hHeld ?_
        rotate_left
        · (intro w hSw; (try dsimp only at hSw); obtain ⟨q0, q1, q2, q3⟩ := (hX7.below hSw).c4; have q4 := (hF7.below hSw).c1; have q5 := (hM7.below hSw).c1; go_simp; try (with_reducible rfl))
        try simp only [Act.put, tl1, tl2, tl3]
      refine wpAnyH_ready (rs := [13]) (by kernel_rfl) (by simp) ?_
      refine AllReadyH.cons (o := ⟨_, _, _, _, _, _⟩) rfl (fun K hK => ?_) AllReadyH.nil
      go_simp
      refine (cycle_any Ac Af nc cc nf cf dry days _ (by omega) (by omega)).mono ?_
      rintro e w' ⟨rfl, hb⟩
      go_wp2_with fail
      refine hK.out _ _ ?_ (fun hHeld2 => ?_)
      · (try dsimp only)
        (first | exact hHeld | exact hHeld.trans (hb.mono hHeld.size) | exact hHeld.trans ((below_new _ _).mono hHeld.size) | exact hHeld.drew)
      clear hK K hHeld; have hHeld := hHeld2; clear hHeld2
      try simp only [Act.put, tl1, tl2, tl3]
      refine wpAnyH_ready (rs := [15]) (by kernel_rfl) (by simp) ?_
      refine AllReadyH.cons (o := ⟨_, _, _, _, _, _⟩) rfl (fun K hK => ?_) AllReadyH.nil
      go_simp
      refine (channel_from 1 (days * 1440) Am ml _ cm _ Hnm.out (by omega) ((Hm.out.below (HB7.out.trans (hHeld.mono HB7.out.size))).more (HB7.out.trans (hHeld.mono HB7.out.size)).size)).mono ?_
      rintro e w' ⟨rfl, hb⟩
      rw [HF2.out]
      go_wp2_with fail
      refine hK.out _ _ ?_ (fun hHeld2 => ?_)
      · (try dsimp only)
        (first | exact hHeld | exact hHeld.trans (hb.mono hHeld.size) | exact hHeld.trans ((below_new _ _).mono hHeld.size) | exact hHeld.drew)
      clear hK K hHeld; have hHeld := hHeld2; clear hHeld2
      try simp only [Act.put, tl1, tl2, tl3]
      iterate 3
        refine tkHl [16, 17, 18] ?_ rfl rfl (Or.inl ⟨by rfl, ?_⟩) hHeld ?_
        rotate_left
        · (intro w hSw; (try dsimp only at hSw); go_simp; try (with_reducible rfl))
        try simp only [Act.put, tl1, tl2, tl3]
      refine wpAnyH_done (by kernel_rfl) ?_ _
      have hOx := hO7.below hHeld
      have hTx := hT7.below hHeld
      have hBx := HB7.out.trans (hHeld.mono HB7.out.size)
      have z0 := hOx.c1
      have z1 := hTx.c1
      have y0 := (hHeld.frozen (p := ⟨_, 0, none⟩) hO7.1).trans hfo7
      have y1 := (hHeld.frozen (p := ⟨_, 0, none⟩) hT7.1).trans hft7
      obtain ⟨k8, k9⟩ := two_box1 hOx hTx (by omega) (.slice none 0 0) (.int .i64 0)
      go_wp2
      exact bodyPost_ret (by simp [results, Try.results17, go_sem, k8, k9]; try rfl) rfl ⟨_, rfl, Own.nil _ _ _ _ _, (hBx.setCell (by simp; omega) _).setCell (by simp; omega) _⟩
    have HF2 := hide ((from_all 1 (days * 1440) ml).trans hf2)
    have Hml := hide (fun m (hmm : m ∈ ml) => show 1 ≤ m ∧ m ≤ days * 1440 from by have := List.all_eq_true.1 hf2 m hmm; simpa [inB] using this)
    clear hf2
    obtain ⟨bad, hbad⟩ : ∃ bad : Bool, bad = decide (days * 1440 < sumM ml) := ⟨_, rfl⟩
    have htn : turnsOk nf (days * 1440) fl ml = !bad := by
      have hl : fl.length = ml.length := by rw [← Hnk.out]; exact Hnm.out
      have h2 : ml.all (fun m => decide (1 ≤ m)) = true := List.all_eq_true.2 fun m hm => by have := Hml.out m hm; simp; omega
      unfold turnsOk
      rw [Hf1.out, h2, hbad, decide_eq_true hl, Bool.true_and, Bool.true_and, Bool.true_and]
      by_cases h : days * 1440 < sumM ml
      · rw [decide_eq_true h, decide_eq_false (by omega)]; rfl
      · rw [decide_eq_false h, decide_eq_true (by omega)]; rfl
    rw [htn]
    have Htn := hide htn; have Hbad := hide hbad
    clear htn hbad
    go_enter Try.func17, Try.ntmps17
    go_wp2_with fail
    refine calls_gen fun W1 HW1 => ?_
    rw [HW1.out] at hN hL hF hM hO hT hB0 hfo hft
    refine (HE.out W1 (Hnet.out.below hB0)).mono ?_
    rintro e w2 ⟨rfl, hb2⟩
    have hN2 := hN.below hb2
    have hF2 := hF.below hb2
    have hM2 := hM.below hb2
    have hO2 := hO.below hb2
    have hT2 := hT.below hb2
    have hL2 := hL.below hb2
    have hB2 := hB0.trans (hb2.mono hB0.size)
    have hfo2 := (hb2.frozen (p := ⟨_, 0, none⟩) hO.1).trans hfo
    have hft2 := (hb2.frozen (p := ⟨_, 0, none⟩) hT.1).trans hft
    have hz2 := hT2.1
    clear hN hL hF hM hO hT hB0 hfo hft hb2
    obtain ⟨q0, q1, q2, q3⟩ := hN2.c4
    have q4 := (hF2.alloc (.cells #[.slice Ac nc cc, .slice Af nf cf, .int .i64 dry, .int .i64 days] 70)).c1
    go_wp2_with fail
    obtain ⟨w7, Hw7⟩ : ∃ w7, Hid (w2.alloc (.cells #[.slice Ac nc cc, .slice Af nf cf, .int .i64 dry, .int .i64 days] 70) = w7) := ⟨_, hide rfl⟩
    have hb7 : Below w2.heap.size w2 w7 := by rw [← Hw7.out]; exact below_new _ _
    have hX7 : At w7 w2.heap.size [.slice Ac nc cc, .slice Af nf cf, .int .i64 dry, .int .i64 days] := by rw [← Hw7.out]; exact At.new w2 #[.slice Ac nc cc, .slice Af nf cf, .int .i64 dry, .int .i64 days] _ _ rfl _ rfl
    have hF7 := hF2.below hb7
    have hM7 := hM2.below hb7
    have hO7 := hO2.below hb7
    have hT7 := hT2.below hb7
    have hL7 := hL2.below hb7
    have HB7 := hide (hB2.trans (hb7.mono hB2.size))
    have hfo7 := (hb7.frozen (p := ⟨_, 0, none⟩) hO2.1).trans hfo2
    have hft7 := (hb7.frozen (p := ⟨_, 0, none⟩) hT2.1).trans hft2
    have hX7s := hX7.1
    rw [Hw7.out]
    clear q0 q1 q2 q3 q4 hN2 hF2 hM2 hO2 hT2 hL2 hB2 hfo2 hft2 hb7 Hw7
    refine wp_region_held_drew (S := (fun W => Below w7.heap.size w7 W)) (by kernel_rfl) (by (try dsimp only); exact (Below.refl _ _).drew) (fun hHeld => ?_)
    generalize World.drew w7 = Wd at hHeld ⊢
    iterate 2
      refine tkHl [0, 2] ?_ rfl rfl (Or.inl ⟨by rfl, ?_⟩) hHeld ?_
      rotate_left
      · (intro w hSw; (try dsimp only at hSw); obtain ⟨q0, q1, q2, q3⟩ := (hX7.below hSw).c4; have q4 := (hF7.below hSw).c1; have q5 := (hM7.below hSw).c1; go_simp; try (with_reducible rfl))
      try simp only [Act.put, tl1, tl2, tl3]
    iterate 4
      refine tkHl [1, 3, 4, 5] ?_ rfl rfl (Or.inl ⟨by rfl, ?_⟩) hHeld ?_
      rotate_left
      · (intro w hSw; (try dsimp only at hSw); go_simp; try (with_reducible rfl))
      try simp only [Act.put, tl1, tl2, tl3]
    iterate 2
      refine tkHl [6, 7] ?_ rfl rfl (Or.inl ⟨by rfl, ?_⟩) hHeld ?_
      rotate_left
      · (intro w hSw; (try dsimp only at hSw); obtain ⟨q0, q1, q2, q3⟩ := (hX7.below hSw).c4; have q4 := (hF7.below hSw).c1; have q5 := (hM7.below hSw).c1; go_simp; try (with_reducible rfl))
      try simp only [Act.put, tl1, tl2, tl3]
    refine wpAnyH_ready (rs := [8]) (by kernel_rfl) (by simp) ?_
    refine AllReadyH.cons (o := ⟨_, _, _, _, _, _⟩) rfl (fun K hK => ?_) AllReadyH.nil
    go_simp
    refine (field_any Ac Af nc cc nf cf dry days Aff fl nk cff _ Hnk.out (by omega) ((Hf.out.below (HB7.out.trans (hHeld.mono HB7.out.size))).more (HB7.out.trans (hHeld.mono HB7.out.size)).size) hnf2).mono ?_
    rintro e w' ⟨rfl, hb⟩
    rw [HF1.out]
    go_wp2_with fail
    refine hK.out _ _ ?_ (fun hHeld2 => ?_)
    · (try dsimp only)
      (first | exact hHeld | exact hHeld.trans (hb.mono hHeld.size) | exact hHeld.trans ((below_new _ _).mono hHeld.size) | exact hHeld.drew)
    clear hK K hHeld; have hHeld := hHeld2; clear hHeld2
    try simp only [Act.put, tl1, tl2, tl3]
    iterate 3
      refine tkHl [9, 10, 11] ?_ rfl rfl (Or.inl ⟨by rfl, ?_⟩) hHeld ?_
      rotate_left
      · (intro w hSw; (try dsimp only at hSw); go_simp; try (with_reducible rfl))
      try simp only [Act.put, tl1, tl2, tl3]
    iterate 2
      refine tkHl [12, 14] ?_ rfl rfl (Or.inl ⟨by rfl, ?_⟩) hHeld ?_
      rotate_left
      · (intro w hSw; (try dsimp only at hSw); obtain ⟨q0, q1, q2, q3⟩ := (hX7.below hSw).c4; have q4 := (hF7.below hSw).c1; have q5 := (hM7.below hSw).c1; go_simp; try (with_reducible rfl))
      try simp only [Act.put, tl1, tl2, tl3]
    refine wpAnyH_ready (rs := [13]) (by kernel_rfl) (by simp) ?_
    refine AllReadyH.cons (o := ⟨_, _, _, _, _, _⟩) rfl (fun K hK => ?_) AllReadyH.nil
    go_simp
    refine (cycle_any Ac Af nc cc nf cf dry days _ (by omega) (by omega)).mono ?_
    rintro e w' ⟨rfl, hb⟩
    go_wp2_with fail
    refine hK.out _ _ ?_ (fun hHeld2 => ?_)
    · (try dsimp only)
      (first | exact hHeld | exact hHeld.trans (hb.mono hHeld.size) | exact hHeld.trans ((below_new _ _).mono hHeld.size) | exact hHeld.drew)
    clear hK K hHeld; have hHeld := hHeld2; clear hHeld2
    try simp only [Act.put, tl1, tl2, tl3]
    refine wpAnyH_ready (rs := [15]) (by kernel_rfl) (by simp) ?_
    refine AllReadyH.cons (o := ⟨_, _, _, _, _, _⟩) rfl (fun K hK => ?_) AllReadyH.nil
    go_simp
    refine (channel_from 1 (days * 1440) Am ml _ cm _ Hnm.out (by omega) ((Hm.out.below (HB7.out.trans (hHeld.mono HB7.out.size))).more (HB7.out.trans (hHeld.mono HB7.out.size)).size)).mono ?_
    rintro e w' ⟨rfl, hb⟩
    rw [HF2.out]
    go_wp2_with fail
    refine hK.out _ _ ?_ (fun hHeld2 => ?_)
    · (try dsimp only)
      (first | exact hHeld | exact hHeld.trans (hb.mono hHeld.size) | exact hHeld.trans ((below_new _ _).mono hHeld.size) | exact hHeld.drew)
    clear hK K hHeld; have hHeld := hHeld2; clear hHeld2
    try simp only [Act.put, tl1, tl2, tl3]
    iterate 3
      refine tkHl [16, 17, 18] ?_ rfl rfl (Or.inl ⟨by rfl, ?_⟩) hHeld ?_
      rotate_left
      · (intro w hSw; (try dsimp only at hSw); go_simp; try (with_reducible rfl))
      try simp only [Act.put, tl1, tl2, tl3]
    refine wpAnyH_done (by kernel_rfl) ?_ _
    have hF8 := hF7.below hHeld
    have hM8 := hM7.below hHeld
    have hO8 := hO7.below hHeld
    have hT8 := hT7.below hHeld
    have hL8 := hL7.below hHeld
    have hX8 := hX7.below hHeld
    have hB8 := HB7.out.trans (hHeld.mono HB7.out.size)
    have hfo8 := (hHeld.frozen (p := ⟨_, 0, none⟩) hO7.1).trans hfo7
    have hft8 := (hHeld.frozen (p := ⟨_, 0, none⟩) hT7.1).trans hft7
    have hX8s := hX8.1
    have q5 := hM8.c1
    clear hF7 hM7 hO7 hT7 hL7 hX7 hfo7 hft7 HB7 hX7s hHeld
    go_wp2_with fail
    go_loopw [13, 52] (fun al iv wr => ∃ i : Nat, i ≤ nk ∧ iv = .int .i64 i ∧ al = .int .i64 (sumM (ml.take i)) ∧ (0 ≤ sumM (ml.take i) ∧ sumM (ml.take i) ≤ i * 23040) ∧ w' = wr) (fun _ iv _ => nk - (intOf iv).toNat)
    case atStart => exact ⟨0, by omega, rfl, rfl, by simp [sumM], rfl⟩
    case round =>
      obtain ⟨i, hi, rfl, rfl, ⟨s0, s1⟩, rfl⟩ := hrel
      obtain ⟨s, hs⟩ : ∃ s, s = sumM (ml.take i) := ⟨_, rfl⟩
      rw [← hs] at s0 s1 ⊢
      have HS := hide hs
      clear hs
      by_cases hlt : i < nk
      · obtain ⟨bm, offm, mk, hAm, hbm, hxm, d0⟩ := (Hm.out.below hB8).int (i := i) (by rw [← Hnm.out]; exact hlt)
        subst hAm
        obtain ⟨m0, m1⟩ := Hml.out mk (List.mem_of_getElem? hxm)
        have i0 : (0 : Int) ≤ (i : Int) := by omega
        have i1 : (i : Int) < (nk : Int) := by omega
        have Hxm := hide hxm
        clear hxm
        go_wp2_with fail
        exact ⟨⟨i + 1, by omega, by go_num, by rw [sumM_snoc Hxm.out, ← HS.out], by rw [sumM_snoc Hxm.out, ← HS.out]; omega, by first | rfl | trivial⟩, by simp [intOf]; omega⟩
      · obtain rfl : nk = i := by omega
        have hsum : s = sumM ml := by rw [HS.out, List.take_of_length_le (by have := Hnm.out; omega)]
        obtain ⟨q0, q1, q2, q3⟩ := hX8.c4
        go_wp2_with fail
        refine (cycle_any Ac Af nc cc nf cf dry days _ (by omega) (by omega)).mono ?_
        rintro e w9 ⟨rfl, hb9⟩
        have hF9 := hF8.below hb9
        have hM9 := hM8.below hb9
        have hO9 := hO8.below hb9
        have hT9 := hT8.below hb9
        have hL9 := hL8.below hb9
        have hX9 := hX8.below hb9
        have hB9 := hB8.trans (hb9.mono hB8.size)
        have hfo9 := (hb9.frozen (p := ⟨_, 0, none⟩) hO8.1).trans hfo8
        have hft9 := (hb9.frozen (p := ⟨_, 0, none⟩) hT8.1).trans hft8
        have hz9 := hX9.1
        clear hF8 hM8 hO8 hT8 hL8 hX8 hfo8 hft8 hB8 hb9 q0 q1 q2 q3 q5
        cases bad
        · have hle : ¬ (days * 1440 < s) := by have := Hbad.out; rw [hsum]; simpa using this.symm
          have z1 := hT9.c1
          have y1 := hft9
          go_wp2_with fail
          have hcc : OrdC w ⟨w.heap.size + 1, w.heap.size + 1 + 1, w.heap.size + 1 + 1 + 1, w.heap.size + 1 + 1 + 1 + 1, w.heap.size + 1 + 1 + 1 + 1 + 1, w2.heap.size, w9.heap.size, w9.heap.size + 1, w9.heap.size + 1 + 1, w9.heap.size + 3, Ac, Af, Aff, Am, nc, cc, nf, cf, nk, cff, cm, dry, days, a, b, cs, fs, fl, ml⟩ := ⟨by simp, by simp, by simp, by simp, by simp, hz2, hz9, by simp, by simp, by simp, Hnet.out, Hf.out, Hm.out, Hnk.out, Hnm.out, Hok.out, Hsp.out, Htn.out, hk6⟩
          obtain ⟨wS, HwS⟩ : ∃ wS, Hid (((((w9.setCell ⟨w.heap.size + 1 + 1 + 1 + 1 + 1, 0, none⟩ (.int .i64 (-1))).alloc (.cells #[.slice none 0 0] 23)).alloc (.cells #[.slice none 0 0] 28)).alloc (.cells #[.func (.func 41) #[] #[.pointer (some ⟨w9.heap.size, 0, none⟩), .pointer (some ⟨w.heap.size + 1 + 1, 0, none⟩), .pointer (some ⟨w2.heap.size, 0, none⟩), .pointer (some ⟨w.heap.size + 1, 0, none⟩), .pointer (some ⟨w9.heap.size + 1, 0, none⟩), .pointer (some ⟨w.heap.size + 1 + 1 + 1 + 1 + 1, 0, none⟩), .pointer (some ⟨w.heap.size + 1 + 1 + 1 + 1, 0, none⟩), .pointer (some ⟨w.heap.size + 1 + 1 + 1, 0, none⟩), .pointer (some ⟨w9.heap.size + 1 + 1, 0, none⟩)]] 1)) = wS) := ⟨_, hide rfl⟩
          have hb3 : Below (w9.setCell ⟨w.heap.size + 1 + 1 + 1 + 1 + 1, 0, none⟩ (.int .i64 (-1))).heap.size (w9.setCell ⟨w.heap.size + 1 + 1 + 1 + 1 + 1, 0, none⟩ (.int .i64 (-1))) wS := by rw [← HwS.out]; exact ((below_new _ _).alloc (by simp) _).alloc (by simp; omega) _
          have hk : Kept (fun b => ¬ b = w.heap.size + 1 + 1 + 1 + 1 + 1) w9 wS := (Kept.setCell w9 ⟨w.heap.size + 1 + 1 + 1 + 1 + 1, 0, none⟩ _).trans (Kept.all _ hb3)
          have hsz : wS.heap.size = w9.heap.size + 3 := by rw [← HwS.out]; simp [World.setCell]
          have hSS : OrdS w ⟨w.heap.size + 1, w.heap.size + 1 + 1, w.heap.size + 1 + 1 + 1, w.heap.size + 1 + 1 + 1 + 1, w.heap.size + 1 + 1 + 1 + 1 + 1, w2.heap.size, w9.heap.size, w9.heap.size + 1, w9.heap.size + 1 + 1, w9.heap.size + 3, Ac, Af, Aff, Am, nc, cc, nf, cf, nk, cff, cm, dry, days, a, b, cs, fs, fl, ml⟩ [] ([], -1) wS := by
            refine ⟨.slice none 0 0, .slice none 0 0, .slice none 0 0, hX9.kept hk (by omega), hL9.kept hk (by omega), hF9.kept hk (by omega), hM9.kept hk (by omega), ?_, ?_, ?_, ?_, hO9.kept hk (by omega), Own.nil _ _ _ _ _, Own.nil _ _ _ _ _, Own.nil _ _ _ _ _, fun g h => by simp [Value.ownBlock] at h, fun g h => by simp [Value.ownBlock] at h, ?_, ?_, ?_, ?_, ?_, ?_⟩
            · rw [← HwS.out]; exact At.new _ #[.func (.func 41) #[] #[.pointer (some ⟨w9.heap.size, 0, none⟩), .pointer (some ⟨w.heap.size + 1 + 1, 0, none⟩), .pointer (some ⟨w2.heap.size, 0, none⟩), .pointer (some ⟨w.heap.size + 1, 0, none⟩), .pointer (some ⟨w9.heap.size + 1, 0, none⟩), .pointer (some ⟨w.heap.size + 1 + 1 + 1 + 1 + 1, 0, none⟩), .pointer (some ⟨w.heap.size + 1 + 1 + 1 + 1, 0, none⟩), .pointer (some ⟨w.heap.size + 1 + 1 + 1, 0, none⟩), .pointer (some ⟨w9.heap.size + 1 + 1, 0, none⟩)]] _ _ (by simp [World.setCell]) _ rfl
            · have := (hT9.set (j := 0) (.int .i64 (-1)) (by simp)).below hb3
              simpa using this
            · rw [← HwS.out]; exact ((At.new _ #[.slice none 0 0] _ _ (by simp [World.setCell]) _ rfl).alloc _).alloc _
            · rw [← HwS.out]; exact (At.new _ #[.slice none 0 0] _ _ (by simp [World.setCell]) _ rfl).alloc _
            · rw [← HwS.out]; exact (((below_new _ _).alloc (by simp) _).frozen (p := ⟨w9.heap.size, 0, none⟩) (by simp [World.setCell])).trans (At.frozen_new _ _ _ _ (by simp [World.setCell]) 0)
            · rw [← HwS.out]; exact ((below_new _ _).frozen (p := ⟨w9.heap.size + 1, 0, none⟩) (by simp [World.setCell])).trans (At.frozen_new _ _ _ _ (by simp [World.setCell]) 0)
            · have h1 := hb3.frozen (p := ⟨w.heap.size + 1 + 1 + 1 + 1 + 1, 0, none⟩) (by simp [World.setCell]; omega)
              exact h1.trans (by rw [World.frozen?_setCell]; exact hft9)
            · exact (hk.frozen (p := ⟨w.heap.size + 1 + 1 + 1 + 1, 0, none⟩) (by show ¬ w.heap.size + 1 + 1 + 1 + 1 = _; omega) hO9.1).trans hfo9
            · exact hB9.trans (hk.below (fun b hb => by omega) hB9.size)
            · show w9.heap.size + 3 ≤ _; omega
          have E1 := enters_next
          rw [HwS.out]
          refine (next_any w ⟨w.heap.size + 1, w.heap.size + 1 + 1, w.heap.size + 1 + 1 + 1, w.heap.size + 1 + 1 + 1 + 1, w.heap.size + 1 + 1 + 1 + 1 + 1, w2.heap.size, w9.heap.size, w9.heap.size + 1, w9.heap.size + 1 + 1, w9.heap.size + 3, Ac, Af, Aff, Am, nc, cc, nf, cf, nk, cff, cm, dry, days, a, b, cs, fs, fl, ml⟩ hcc nk [] ([], -1) wS hSS (by simp) List.nodup_nil (by simp)).mono ?_
          rintro e w10 ⟨⟨v, rfl⟩, vN, vU, vO, hq⟩
          obtain ⟨AO, cO, rfl, _⟩ := hq.oO.rd
          obtain ⟨ST, hST⟩ : ∃ ST, ST = dfsO (valO cs fs dry (days * 1440) a b fl ml) nk nk [] ([], -1) := ⟨_, rfl⟩
          have hq1 : At w10 (w.heap.size + 1 + 1 + 1 + 1) [.slice AO (ints ST.1).length cO] := by rw [hST]; exact hq.hO
          have hq2 : At w10 (w.heap.size + 1 + 1 + 1 + 1 + 1) [.int .i64 ST.2] := by rw [hST]; exact hq.tot
          have hq3 : Own w10 (w9.heap.size + 3) 3 1 icell (.slice AO (ints ST.1).length cO) (ints ST.1) := by rw [hST]; exact hq.oO
          have HO := hide hq1; have HT := hide hq2; have HOO := hide hq3; have HFO := hide hq.fo; have HFT := hide hq.ft; have HBO := hide hq.bl
          have HST := hide hST
          have hw9z : w.heap.size ≤ w9.heap.size := hB9.size
          clear hq hq1 hq2 hq3 hST hSS hcc hk hb3 hsz
          go_wp2_with fail
          refine wp_region_held_drew (S := (fun W => At W (w.heap.size + 1 + 1 + 1 + 1) [.slice AO (ints ST.1).length cO] ∧ At W (w.heap.size + 1 + 1 + 1 + 1 + 1) [.int .i64 ST.2] ∧ W.frozen? ⟨w.heap.size + 1 + 1 + 1 + 1, 0, none⟩ = false ∧ W.frozen? ⟨w.heap.size + 1 + 1 + 1 + 1 + 1, 0, none⟩ = false ∧ Own W (w9.heap.size + 3) 3 1 icell (.slice AO (ints ST.1).length cO) (ints ST.1) ∧ Below w.heap.size w W)) (by kernel_rfl) (by (try dsimp only); exact ⟨HO.out, HT.out, HFO.out, HFT.out, HOO.out, (HBO.out).drew⟩) (fun hHeld => ?_)
          generalize World.drew w10 = Wd at hHeld ⊢
          refine tkH 0 ?_ rfl (Or.inl ⟨by rfl, ?_⟩) hHeld ?_
          rotate_left
          · (intro w hSw; (try dsimp only at hSw); have q := hSw.1.c1; go_simp; try (with_reducible rfl))
          try simp only [Act.put, tl1, tl2, tl3]
          refine tkH 1 ?_ rfl (Or.inl ⟨by rfl, ?_⟩) hHeld ?_
          rotate_left
          · (intro w hSw; (try dsimp only at hSw); have q := hSw.2.1.c1; go_simp; try (with_reducible rfl))
          try simp only [Act.put, tl1, tl2, tl3]
          refine wpAnyH_ready (rs := [2]) (by kernel_rfl) (by simp) ?_
          refine AllReadyH.cons (o := ⟨_, _, _, _, _, _⟩) rfl (fun K hK => ?_) AllReadyH.nil
          have z0 := hHeld.1.c1
          have y0 := hHeld.2.2.1
          go_simp
          refine hK.out _ _ ?_ (fun hHeld2 => ?_)
          · (try dsimp only)
            (first | exact hHeld | exact ⟨by simpa using hHeld.1.set (j := 0) (.slice AO (ints ST.1).length cO) (by simp), hHeld.2.1.other _ _ (by omega), by rw [World.frozen?_setCell]; exact hHeld.2.2.1, by rw [World.frozen?_setCell]; exact hHeld.2.2.2.1, hHeld.2.2.2.2.1.setCell (fun e => by have := (own_bl hHeld.2.2.2.2.1 _ e).1; simp at this; omega) _, hHeld.2.2.2.2.2.setCell (by simp; omega) _⟩ | exact ⟨hHeld.1.other _ _ (by omega), by simpa using hHeld.2.1.set (j := 0) (.int .i64 ST.2) (by simp), by rw [World.frozen?_setCell]; exact hHeld.2.2.1, by rw [World.frozen?_setCell]; exact hHeld.2.2.2.1, hHeld.2.2.2.2.1.setCell (fun e => by have := (own_bl hHeld.2.2.2.2.1 _ e).1; simp at this; omega) _, hHeld.2.2.2.2.2.setCell (by simp; omega) _⟩)
          clear hK K hHeld; have hHeld := hHeld2; clear hHeld2
          try simp only [Act.put, tl1, tl2, tl3]
          refine wpAnyH_ready (rs := [3]) (by kernel_rfl) (by simp) ?_
          refine AllReadyH.cons (o := ⟨_, _, _, _, _, _⟩) rfl (fun K hK => ?_) AllReadyH.nil
          have z0 := hHeld.2.1.c1
          have y0 := hHeld.2.2.2.1
          go_simp
          refine hK.out _ _ ?_ (fun hHeld2 => ?_)
          · (try dsimp only)
            (first | exact hHeld | exact ⟨by simpa using hHeld.1.set (j := 0) (.slice AO (ints ST.1).length cO) (by simp), hHeld.2.1.other _ _ (by omega), by rw [World.frozen?_setCell]; exact hHeld.2.2.1, by rw [World.frozen?_setCell]; exact hHeld.2.2.2.1, hHeld.2.2.2.2.1.setCell (fun e => by have := (own_bl hHeld.2.2.2.2.1 _ e).1; simp at this; omega) _, hHeld.2.2.2.2.2.setCell (by simp; omega) _⟩ | exact ⟨hHeld.1.other _ _ (by omega), by simpa using hHeld.2.1.set (j := 0) (.int .i64 ST.2) (by simp), by rw [World.frozen?_setCell]; exact hHeld.2.2.1, by rw [World.frozen?_setCell]; exact hHeld.2.2.2.1, hHeld.2.2.2.2.1.setCell (fun e => by have := (own_bl hHeld.2.2.2.2.1 _ e).1; simp at this; omega) _, hHeld.2.2.2.2.2.setCell (by simp; omega) _⟩)
          clear hK K hHeld; have hHeld := hHeld2; clear hHeld2
          try simp only [Act.put, tl1, tl2, tl3]
          refine tkH 4 ?_ rfl (Or.inl ⟨by rfl, ?_⟩) hHeld ?_
          rotate_left
          · (intro w hSw; (try dsimp only at hSw); go_simp; try (with_reducible rfl))
          try simp only [Act.put, tl1, tl2, tl3]
          refine wpAnyH_done (by kernel_rfl) ?_ _
          all_goals
            have k8 := hHeld.1.c1
            have k9 := hHeld.2.1.c1
            go_wp2
            refine bodyPost_ret (v := .tuple #[.slice AO (ints ST.1).length cO, .int .i64 ST.2, .int .i64 0]) (by simp [results, Try.results17, go_sem, k8, k9]; try rfl) rfl ?_
            have hn := HST.out
            rw [Hnk.out] at hn
            try simp only [Bool.not_false, if_true]
            rw [← hn]
            exact ⟨_, rfl, hHeld.2.2.2.2.1.mono (by omega), hHeld.2.2.2.2.2⟩
        · have hgt : days * 1440 < s := by have := Hbad.out; rw [hsum]; simpa using this.symm
          simp only [Bool.not_true, Bool.false_eq_true, if_false]
          have hOx := hO9
          have hTx := hT9
          have hBx := hB9
          have z0 := hOx.c1
          have z1 := hTx.c1
          have y0 := hfo9
          have y1 := hft9
          obtain ⟨k8, k9⟩ := two_box1 hOx hTx (by omega) (.slice none 0 0) (.int .i64 0)
          go_wp2
          exact bodyPost_ret (by simp [results, Try.results17, go_sem, k8, k9]; try rfl) rfl ⟨_, rfl, Own.nil _ _ _ _ _, (hBx.setCell (by simp; omega) _).setCell (by simp; omega) _⟩
end Go.Proofs.Ythlnbgjlkliopaa
