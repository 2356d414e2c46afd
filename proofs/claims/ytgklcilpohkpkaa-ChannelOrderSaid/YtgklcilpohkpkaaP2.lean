/- What the law of the best order asks of Waters: its closure, by contract; Turns where the lists are not as long as each other. -/
import Derived.Test.YtgklcilpohkpkaaP1
import Derived.Test.YtgklcilpohkpkaaA4
import Derived.Test.YtgklcilpohkpkaaRO1
set_option linter.unusedVariables false
set_option linter.unusedSimpArgs false
namespace Go.Proofs.Ytgklcilpohkpkaa
open Go.RowKit Go.Shelf
attribute [local go_sem ↓] Go.wp_at_zero Go.wp_at_succ
theorem turns_ne (Ac Af Aff Am : Option Addr) (nc cc nf cf n cff m cm : Nat) (dry days : Int) (w : World) (hne : n ≠ m) :
    Calls Try.prog 46 #[.agg #[.slice Ac nc cc, .slice Af nf cf, .int .i64 dry, .int .i64 days], .slice Aff n cff, .slice Am m cm] w fun e w' => e = .returned (.bool false) ∧ Below w.heap.size w w' := by
  have hB0 := below_new w (.cells #[.slice Ac nc cc, .slice Af nf cf, .int .i64 dry, .int .i64 days] 25)
  have e1 : ((n : Int) == (m : Int)) = false := by rw [beq_eq_false_iff_ne]; omega
  have e2 : ((n : Int) != (m : Int)) = true := by simp; omega
  have e3 : (n : Int) ≠ (m : Int) := by omega
  go_enter Try.func46, Try.ntmps46
  go_wp2
  go_ret
  exact ⟨rfl, hB0⟩
set_option maxHeartbeats 4000000 in
set_option maxRecDepth 100000 in
theorem gives_any (Ac Af Aff Am Ao : Option Addr) (nc cc nf cf nk cff nm cm n co bn bf bx by_ : Nat) (dry days a b : Int) (cs : List Ca) (fs fl ml : List Int) (o : List Nat) (w : World) (n1 : NetAt w Ac Af nc nf cs fs) (hok : netOk cs fs dry days = true) (hsp : Sp.ok 0 13000000 ⟨a, b⟩ = true)
    (ht : turnsOk (fs.length : Int) (days * 1440) fl ml = true) (rF : Rd w w.heap.size icell Aff fl) (rM : Rd w w.heap.size icell Am ml) (rO : Rd w w.heap.size icell Ao (o.map (fun k : Nat => (k : Int)))) (hnf : nk = fl.length) (hnm : nm = ml.length) (hno : n = o.length) (h6 : n ≤ 6) (hnd : o.Nodup) (hlt : ∀ k ∈ o, k < fl.length)
    (hbn : At w bn [.slice Ac nc cc, .slice Af nf cf, .int .i64 dry, .int .i64 days]) (hbf : At w bf [.int .i64 a, .int .i64 b]) (hbx : At w bx [.slice Aff nk cff]) (hby : At w by_ [.slice Am nm cm]) :
    Calls Try.prog 47 #[.slice Ao n co, .pointer (some ⟨bn, 0, none⟩), .pointer (some ⟨bf, 0, none⟩), .pointer (some ⟨bx, 0, none⟩), .pointer (some ⟨by_, 0, none⟩)] w fun e w' => e = .returned (.int .i64 (valO cs fs dry (days * 1440) a b fl ml o)) ∧ Below w.heap.size w w' := by
  have htp := turnsOk_iff.1 ht
  have hd := (netOk_parts hok).2.2.2.1
  have hfs := (netOk_parts hok).2.1
  have huo := row_ok ht o hnd hlt (by omega)
  have hws : watersS cs fs dry days a b (rowSt fl ml o).1 = (watersK cs fs dry (days * 1440) a b (rowSt fl ml o).1 (rowSt fl ml o).1.length, 0) := by
    unfold watersS
    rw [if_pos hok, if_pos hsp, if_pos huo]
  have hsum := waters_sums (dry := dry) hok huo hsp
  have hwl := (watersK_bd (dry := dry) hok huo hsp _ (Nat.le_refl _)).2.2.1
  have hef := n1.ef
  have hmle : ∀ x ∈ ml, 0 ≤ x ∧ x ≤ 23040 := fun x hx => by
    obtain ⟨i, hi⟩ := List.mem_iff_getElem?.1 hx
    have h1 := htp.2.2.1 x hx
    have h2 := sumAt_le htp.2.2.1 ml.length [i] (by simp) (by intro k hk; simp at hk; subst hk; exact (List.getElem?_eq_some_iff.1 hi).1)
    rw [← sumM_range ml ml.length (Nat.le_refl _), List.take_length] at h2
    have h3 : sumAt ml [i] = x := by simp [sumAt, atI, hi]
    rw [h3] at h2
    have := htp.2.2.2
    omega
  have Hws := hide hws; have Hsum := hide hsum; have Hwl := hide (hwl.trans hef.symm); have Hml := hide hmle
  have Hnf := hide hnf; have Hnm := hide hnm; have Hno := hide hno; have Hlt := hide (show ∀ k ∈ o, k < fl.length ∧ k < ml.length from fun k hk => ⟨hlt k hk, by have := hlt k hk; have := htp.1; omega⟩)
  have Hbn := hide hbn; have Hbf := hide hbf; have Hbx := hide hbx; have Hby := hide hby
  have hnf2 := n1.nf2
  clear htp hok hsp ht hws hsum hwl hmle hnf hnm hno hlt hnd huo hbn hbf hbx hby hef
  go_enter Try.func47, Try.ntmps47
  go_wp2_with fail
  refine wp_region_held_drew (S := (fun W => Below w.heap.size w W)) (by kernel_rfl) (by (try dsimp only); exact (Below.refl _ _).drew) (fun hHeld => ?_)
  generalize World.drew w = Wd1 at hHeld ⊢
  have n1 := n1.bel hHeld
  have rF := rF.bel hHeld
  have rM := rM.bel hHeld
  have rO := rO.bel hHeld
  have hbc := Below.refl Wd1.heap.size Wd1
  refine wpAnyH_take (i := 0) (oi := ⟨_, _, _, _, _, _⟩) (v := ?_) rfl (by kernel_rfl) (by kernel_rfl) (by kernel_rfl) (fun _ _ _ h => h) (Or.inl ⟨by rfl, ?_⟩) hHeld ?_
  rotate_left
  · (intro w hSw; (try dsimp only at hSw); obtain ⟨q0, q1, q2, q3⟩ := (Hbn.out.below hSw).c4; obtain ⟨p0, p1⟩ := (Hbf.out.below hSw).c2; have k0 := (Hbx.out.below hSw).c1; have k1 := (Hby.out.below hSw).c1; go_simp; try (with_reducible rfl))
  try simp only [Act.put, List.setIfInBounds_toArray, List.set_cons_zero, List.set_cons_succ]
  refine wpAnyH_take (i := 1) (oi := ⟨_, _, _, _, _, _⟩) (v := ?_) rfl (by kernel_rfl) (by kernel_rfl) (by kernel_rfl) (fun _ _ _ h => h) (Or.inl ⟨by rfl, ?_⟩) hHeld ?_
  rotate_left
  · (intro w hSw; (try dsimp only at hSw); obtain ⟨q0, q1, q2, q3⟩ := (Hbn.out.below hSw).c4; obtain ⟨p0, p1⟩ := (Hbf.out.below hSw).c2; have k0 := (Hbx.out.below hSw).c1; have k1 := (Hby.out.below hSw).c1; go_simp; try (with_reducible rfl))
  try simp only [Act.put, List.setIfInBounds_toArray, List.set_cons_zero, List.set_cons_succ]
  refine wpAnyH_take (i := 2) (oi := ⟨_, _, _, _, _, _⟩) (v := ?_) rfl (by kernel_rfl) (by kernel_rfl) (by kernel_rfl) (fun _ _ _ h => h) (Or.inl ⟨by rfl, ?_⟩) hHeld ?_
  rotate_left
  · (intro w hSw; (try dsimp only at hSw); obtain ⟨q0, q1, q2, q3⟩ := (Hbn.out.below hSw).c4; obtain ⟨p0, p1⟩ := (Hbf.out.below hSw).c2; have k0 := (Hbx.out.below hSw).c1; have k1 := (Hby.out.below hSw).c1; go_simp; try (with_reducible rfl))
  try simp only [Act.put, List.setIfInBounds_toArray, List.set_cons_zero, List.set_cons_succ]
  refine wpAnyH_take (i := 3) (oi := ⟨_, _, _, _, _, _⟩) (v := ?_) rfl (by kernel_rfl) (by kernel_rfl) (by kernel_rfl) (fun _ _ _ h => h) (Or.inl ⟨by rfl, ?_⟩) hHeld ?_
  rotate_left
  · (intro w hSw; (try dsimp only at hSw); obtain ⟨q0, q1, q2, q3⟩ := (Hbn.out.below hSw).c4; obtain ⟨p0, p1⟩ := (Hbf.out.below hSw).c2; have k0 := (Hbx.out.below hSw).c1; have k1 := (Hby.out.below hSw).c1; go_simp; try (with_reducible rfl))
  try simp only [Act.put, List.setIfInBounds_toArray, List.set_cons_zero, List.set_cons_succ]
  refine wpAnyH_take (i := 4) (oi := ⟨_, _, _, _, _, _⟩) (v := ?_) rfl (by kernel_rfl) (by kernel_rfl) (by kernel_rfl) (fun _ _ _ h => h) (Or.inl ⟨by rfl, ?_⟩) hHeld ?_
  rotate_left
  · (intro w hSw; (try dsimp only at hSw); go_simp; try (with_reducible rfl))
  try simp only [Act.put, List.setIfInBounds_toArray, List.set_cons_zero, List.set_cons_succ]
  refine wpAnyH_ready (rs := [5]) (by kernel_rfl) (by simp) ?_
  refine AllReadyH.cons (o := ⟨_, _, _, _, _, _⟩) rfl (fun K hK => ?_) AllReadyH.nil
  go_simp
  refine (rRow_any _ _ _ _ _ _ _ _ _ fl ml o _ rF rM rO Hnf.out Hnm.out Hno.out (by have := Hno.out; omega) Hlt.out Hml.out).mono ?_
  rintro e V16 ⟨v, rfl, o1, hb⟩
  obtain ⟨A16, c16, rfl, r16⟩ := o1.rdn n (by rw [rowSt_len]; exact Hno.out.symm)
  clear o1
  go_wp2_with fail
  have hHeldN := hHeld.trans (hb.mono hHeld.size)
  have n1 := n1.bel hb
  have rF := rF.bel hb
  have rM := rM.bel hb
  have rO := rO.bel hb
  have hbc := hbc.trans (hb.mono hbc.size)
  refine hK.out _ _ ?_ (fun hHeld2 => ?_)
  · exact hHeldN
  clear hK K hHeld hHeldN hb; have hHeld := hHeld2; clear hHeld2
  try simp only [Act.put, List.setIfInBounds_toArray, List.set_cons_zero, List.set_cons_succ]
  refine wpAnyH_ready (rs := [6]) (by kernel_rfl) (by simp) ?_
  refine AllReadyH.cons (o := ⟨_, _, _, _, _, _⟩) rfl (fun K hK => ?_) AllReadyH.nil
  go_simp
  refine (waters_fn _ _ _ _ _ _ _ _ _ _ _ _ _ _ _ (rowSt fl ml o).1 _ n1 r16 (by rw [rowSt_len]; exact Hno.out) (by omega)).mono ?_
  rintro e V17 ⟨v1, v2, rfl, o1, o2, hb⟩
  simp only [Hws.out] at o1 ⊢
  clear o2
  obtain ⟨A17, c17, rfl, r17⟩ := o1.rdn nf Hwl.out
  clear o1
  go_wp2_with fail
  have hHeldN := hHeld.trans (hb.mono hHeld.size)
  have n1 := n1.bel hb
  have rF := rF.bel hb
  have rM := rM.bel hb
  have rO := rO.bel hb
  have r16 := r16.bel hb
  have hbc := hbc.trans (hb.mono hbc.size)
  refine hK.out _ _ ?_ (fun hHeld2 => ?_)
  · exact hHeldN
  clear hK K hHeld hHeldN hb; have hHeld := hHeld2; clear hHeld2
  try simp only [Act.put, List.setIfInBounds_toArray, List.set_cons_zero, List.set_cons_succ]
  refine wpAnyH_take (i := 7) (oi := ⟨_, _, _, _, _, _⟩) (v := ?_) rfl (by kernel_rfl) (by kernel_rfl) (by kernel_rfl) (fun _ _ _ h => h) (Or.inl ⟨by rfl, ?_⟩) hHeld ?_
  rotate_left
  · (intro w hSw; (try dsimp only at hSw); go_simp; try (with_reducible rfl))
  try simp only [Act.put, List.setIfInBounds_toArray, List.set_cons_zero, List.set_cons_succ]
  refine wpAnyH_take (i := 8) (oi := ⟨_, _, _, _, _, _⟩) (v := ?_) rfl (by kernel_rfl) (by kernel_rfl) (by kernel_rfl) (fun _ _ _ h => h) (Or.inl ⟨by rfl, ?_⟩) hHeld ?_
  rotate_left
  · (intro w hSw; (try dsimp only at hSw); go_simp; try (with_reducible rfl))
  try simp only [Act.put, List.setIfInBounds_toArray, List.set_cons_zero, List.set_cons_succ]
  refine wpAnyH_take (i := 9) (oi := ⟨_, _, _, _, _, _⟩) (v := ?_) rfl (by kernel_rfl) (by kernel_rfl) (by kernel_rfl) (fun _ _ _ h => h) (Or.inl ⟨by rfl, ?_⟩) hHeld ?_
  rotate_left
  · (intro w hSw; (try dsimp only at hSw); go_simp; try (with_reducible rfl))
  try simp only [Act.put, List.setIfInBounds_toArray, List.set_cons_zero, List.set_cons_succ]
  refine wpAnyH_take (i := 10) (oi := ⟨_, _, _, _, _, _⟩) (v := ?_) rfl (by kernel_rfl) (by kernel_rfl) (by kernel_rfl) (fun _ _ _ h => h) (Or.inl ⟨by rfl, ?_⟩) hHeld ?_
  rotate_left
  · (intro w hSw; (try dsimp only at hSw); go_simp; try (with_reducible rfl))
  try simp only [Act.put, List.setIfInBounds_toArray, List.set_cons_zero, List.set_cons_succ]
  refine wpAnyH_take (i := 11) (oi := ⟨_, _, _, _, _, _⟩) (v := ?_) rfl (by kernel_rfl) (by kernel_rfl) (by kernel_rfl) (fun _ _ _ h => h) (Or.inl ⟨by rfl, ?_⟩) hHeld ?_
  rotate_left
  · (intro w hSw; (try dsimp only at hSw); go_simp; try (with_reducible rfl))
  try simp only [Act.put, List.setIfInBounds_toArray, List.set_cons_zero, List.set_cons_succ]
  refine wpAnyH_take (i := 12) (oi := ⟨_, _, _, _, _, _⟩) (v := ?_) rfl (by kernel_rfl) (by kernel_rfl) (by kernel_rfl) (fun _ _ _ h => h) (Or.inl ⟨by rfl, ?_⟩) hHeld ?_
  rotate_left
  · (intro w hSw; (try dsimp only at hSw); go_simp; try (with_reducible rfl))
  try simp only [Act.put, List.setIfInBounds_toArray, List.set_cons_zero, List.set_cons_succ]
  refine wpAnyH_take (i := 13) (oi := ⟨_, _, _, _, _, _⟩) (v := ?_) rfl (by kernel_rfl) (by kernel_rfl) (by kernel_rfl) (fun _ _ _ h => h) (Or.inl ⟨by rfl, ?_⟩) hHeld ?_
  rotate_left
  · (intro w hSw; (try dsimp only at hSw); go_simp; try (with_reducible rfl))
  try simp only [Act.put, List.setIfInBounds_toArray, List.set_cons_zero, List.set_cons_succ]
  refine wpAnyH_done (by kernel_rfl) ?_ _
  have hB := hHeld
  clear hbc hHeld n1 rF rM rO
  go_wp2_with fail
  refine (rSum_any _ _ _ _ _ r17 Hwl.out.symm (by omega) Hsum.out.1 Hsum.out.2).mono ?_
  rintro e w3 ⟨rfl, rfl⟩
  obtain ⟨r, hr⟩ : ∃ r, r = (sumS ⟨0, 0⟩ (watersK cs fs dry (days * 1440) a b (rowSt fl ml o).1 (rowSt fl ml o).1.length).1).lo := ⟨_, rfl⟩
  rw [← hr]
  have Hr := hide hr
  clear hr
  go_wp2_with fail
  go_ret
  exact ⟨ret_int Hr.out, hB⟩
end Go.Proofs.Ytgklcilpohkpkaa
