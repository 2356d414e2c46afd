/- The reference of channel: whether a canal is dry, by contract. -/
import Derived.Test.YtgklcilpohkpkaaDry
import Derived.Test.YtgklcilpohkpkaaR4
set_option linter.unusedVariables false
set_option linter.unusedSimpArgs false
namespace Go.Proofs.Ytgklcilpohkpkaa
open Go.RowKit Go.Shelf
attribute [local go_sem ↓] Go.wp_at_zero Go.wp_at_succ
/-- How long it was dry, as the reference asks it. -/
def gapR (cyc : Int) (a i : Nat) (ua u : Us) : Int := (ua.frm - u.to) + (if a ≤ i then cyc else 0)
def oneB (cs : List Ca) (fs : List Int) (dry cyc : Int) (a i : Nat) (ua u : Us) (c : Int) : Bool := !decide (c ∈ pathK cs fs u.field) || decide (dry < gapR cyc a i ua u)
/-- The first k uses leave it dry. -/
def dryTo (cs : List Ca) (fs : List Int) (dry cyc : Int) (us : List Us) (a : Nat) (ua : Us) (c : Int) (k : Nat) : Bool := (us.take k).zipIdx.all fun p => oneB cs fs dry cyc a p.2 ua p.1 c
def dryB (cs : List Ca) (fs : List Int) (dry cyc : Int) (us : List Us) (a : Nat) (c : Int) : Bool := match us[a]? with | some ua => dryTo cs fs dry cyc us a ua c us.length | none => true
theorem dryTo_snoc {cs : List Ca} {fs : List Int} {dry cyc : Int} {us : List Us} {a : Nat} {ua u : Us} {c : Int} {k : Nat} (hx : us[k]? = some u) : dryTo cs fs dry cyc us a ua c (k + 1) = (dryTo cs fs dry cyc us a ua c k && oneB cs fs dry cyc a k ua u c) := by
  have hl : (us.take k).length = k := by have := (List.getElem?_eq_some_iff.1 hx).1; simp; omega
  unfold dryTo
  rw [take_snoc hx, List.zipIdx_append, List.all_append, hl]
  simp
theorem dryTo_stop {cs : List Ca} {fs : List Int} {dry cyc : Int} {us : List Us} {a : Nat} {ua u : Us} {c : Int} {k : Nat} (hx : us[k]? = some u) (h : oneB cs fs dry cyc a k ua u c = false) : dryTo cs fs dry cyc us a ua c us.length = false := by
  unfold dryTo
  rw [List.take_length]
  have hm : (u, k) ∈ us.zipIdx := by
    rw [List.mem_zipIdx_iff_getElem?]
    simpa using hx
  rw [Bool.eq_false_iff]
  intro hall
  have := List.all_eq_true.1 hall (u, k) hm
  rw [h] at this
  cases this
set_option maxHeartbeats 4000000 in
set_option maxRecDepth 100000 in
theorem rDry_any (Ac Af Au : Option Addr) (nc cc nf cf nu cu : Nat) (dry days : Int) (cs : List Ca) (fs : List Int) (us : List Us) (at_ : Nat) (c : Int) (w : World) (hnet : NetAt w Ac Af nc nf cs fs) (hus : Rd w w.heap.size Us.cells Au us) (hnu : nu = us.length) (hok : netOk cs fs dry days = true) (huo : usesOk nf days us = true) (hat_ : at_ < nu) :
    Calls Try.prog 93 #[.agg #[.slice Ac nc cc, .slice Af nf cf, .int .i64 dry, .int .i64 days], .slice Au nu cu, .int .i64 at_, .int .i64 c] w fun e w' => e = .returned (.bool (dryB cs fs dry (days * 1440) us at_ c)) ∧ Below w.heap.size w w' := by
  have hdy := (netOk_parts hok).2.2.2.1
  have hdr := (netOk_parts hok).2.2.1
  have hul := usesOk_len huo
  have hn60 : nu ≤ 60 := by omega
  have hat0 := At.new w #[.slice Ac nc cc, .slice Af nf cf, .int .i64 dry, .int .i64 days] 25 w.heap.size rfl _ rfl
  have hB0 := below_new w (.cells #[.slice Ac nc cc, .slice Af nf cf, .int .i64 dry, .int .i64 days] 25)
  obtain ⟨b, off, vf, vs, vt, hA, hbB, hxa, d0, d1, d2⟩ := hus.us (i := at_) (by omega)
  subst hA
  have hva := usesOk_mem huo (List.mem_of_getElem? hxa)
  simp only at hva
  have hdb : dryB cs fs dry (days * 1440) us at_ c = dryTo cs fs dry (days * 1440) us at_ ⟨vf, vs, vt⟩ c us.length := by unfold dryB; rw [hxa]
  rw [hdb]
  have hcell : ∀ (i : Nat) (u : Us), us[i]? = some u → w.cell? ⟨b, off + i * 3, none⟩ = some (.int .i64 u.field) ∧ w.cell? ⟨b, off + i * 3 + 1, none⟩ = some (.int .i64 u.frm) ∧ w.cell? ⟨b, off + i * 3 + 2, none⟩ = some (.int .i64 u.to) := fun i u hi => by
    obtain ⟨b2, off2, uf, us', ut, hA2, _, hx2, c0, c1, c2⟩ := hus.us (i := i) (List.getElem?_eq_some_iff.1 hi).1
    injection hA2 with hA2
    injection hA2 with e1 e2
    subst e1 e2
    rw [hi] at hx2
    injection hx2 with hx2
    subst hx2
    exact ⟨c0, c1, c2⟩
  have Hcell := hide hcell; have Hnu := hide hnu; have Hok := hide hok; have Huo := hide huo
  have hat1 : (0 : Int) ≤ (at_ : Int) := by omega
  have hat2 : (at_ : Int) < (nu : Int) := by omega
  clear hcell hnu hok huo hdb hxa d0 d2 hus
  go_enter Try.func93, Try.ntmps93
  go_wp2_with fail
  go_loopw [9] (fun i wr => ∃ k : Nat, k ≤ nu ∧ i = .int .i64 k ∧ Below w.heap.size w wr ∧ At wr w.heap.size [.slice Ac nc cc, .slice Af nf cf, .int .i64 dry, .int .i64 days] ∧ Hid (dryTo cs fs dry (days * 1440) us at_ ⟨vf, vs, vt⟩ c k = true)) (fun i _ => nu - (intOf i).toNat)
  case atStart => exact ⟨0, by omega, rfl, hB0, hat0, hide rfl⟩
  case round =>
    clear hat0 hB0
    obtain ⟨k, hk, rfl, hB, hat, hpre⟩ := hrel
    by_cases hlt : k < nu
    · obtain ⟨⟨uf, us', ut⟩, hx⟩ : ∃ u, us[k]? = some u := ⟨_, List.getElem?_eq_getElem (by have := Hnu.out; omega)⟩
      have hbr : b < wr.heap.size := by have := hB.size; omega
      have hcc := Hcell.out k _ hx
      have c0 := (hB.cell (p := ⟨b, off + k * 3, none⟩) hbB).trans hcc.1
      have c2 := (hB.cell (p := ⟨b, off + k * 3 + 2, none⟩) hbB).trans hcc.2.2
      have d1 := (hB.cell (p := ⟨b, off + at_ * 3 + 1, none⟩) hbB).trans d1
      have hum := usesOk_mem Huo.out (List.mem_of_getElem? hx)
      simp only at hum c0 c2
      obtain ⟨⟨f0, f1⟩, t0, t1, t2⟩ := hum
      have Hx := hide hx
      have hi0 : (0 : Int) ≤ (k : Int) := by omega
      have hi1 : (k : Int) < (nu : Int) := by omega
      have Lp := hide (pathK_len cs fs Hok.out f0 (by rw [← hnet.ef]; exact f1))
      clear hx hcc
      by_cases hm : c ∈ pathK cs fs uf
      · have Hm := hide (decide_eq_true hm)
        go_wp2_with fail
        refine wp_region_held_drew (S := (fun W => Below wr.heap.size wr W)) (by kernel_rfl) (by (try dsimp only); exact (Below.refl _ _).drew) (fun hHeld => ?_)
        refine tkH 0 ?_ rfl (Or.inl ⟨by rfl, ?_⟩) hHeld ?_
        rotate_left
        · (intro w hSw; (try dsimp only at hSw); obtain ⟨q0, q1, q2, q3⟩ := (hat.below hSw).c4; have c0 := (hSw.cell (p := ⟨b, off + k * 3, none⟩) (by show b < _; omega)).trans c0; go_simp; try (with_reducible rfl))
        try simp only [Act.put, tl1, tl2, tl3]
        refine tkH 1 ?_ rfl (Or.inl ⟨by rfl, ?_⟩) hHeld ?_
        rotate_left
        · (intro w hSw; (try dsimp only at hSw); go_simp; try (with_reducible rfl))
        try simp only [Act.put, tl1, tl2, tl3]
        refine tkH 2 ?_ rfl (Or.inl ⟨by rfl, ?_⟩) hHeld ?_
        rotate_left
        · (intro w hSw; (try dsimp only at hSw); go_simp; try (with_reducible rfl))
        try simp only [Act.put, tl1, tl2, tl3]
        refine tkH 3 ?_ rfl (Or.inl ⟨by rfl, ?_⟩) hHeld ?_
        rotate_left
        · (intro w hSw; (try dsimp only at hSw); go_simp; try (with_reducible rfl))
        try simp only [Act.put, tl1, tl2, tl3]
        refine tkH 4 ?_ rfl (Or.inl ⟨by rfl, ?_⟩) hHeld ?_
        rotate_left
        · (intro w hSw; (try dsimp only at hSw); go_simp; try (with_reducible rfl))
        try simp only [Act.put, tl1, tl2, tl3]
        refine tkH 5 ?_ rfl (Or.inl ⟨by rfl, ?_⟩) hHeld ?_
        rotate_left
        · (intro w hSw; (try dsimp only at hSw); obtain ⟨q0, q1, q2, q3⟩ := (hat.below hSw).c4; have c0 := (hSw.cell (p := ⟨b, off + k * 3, none⟩) (by show b < _; omega)).trans c0; go_simp; try (with_reducible rfl))
        try simp only [Act.put, tl1, tl2, tl3]
        refine tkH 7 ?_ rfl (Or.inl ⟨by rfl, ?_⟩) hHeld ?_
        rotate_left
        · (intro w hSw; (try dsimp only at hSw); go_simp; try (with_reducible rfl))
        try simp only [Act.put, tl1, tl2, tl3]
        refine wpAnyH_ready (rs := [6]) (by kernel_rfl) (by simp) ?_
        refine AllReadyH.cons (o := ⟨_, _, _, _, _, _⟩) rfl (fun K hK => ?_) AllReadyH.nil
        go_simp
        refine (rPath_any Ac Af nc cc nf cf dry days cs fs uf _ (hnet.below (hB.trans (hHeld.mono hB.size))) Hok.out f0 f1).mono ?_
        rintro e w5 ⟨va, rfl, hoa, hb⟩
        obtain ⟨Ap, cp, rfl, hra⟩ := hoa.rd
        have Hra := hide hra; clear hoa hra
        go_wp2_with fail
        refine hK.out _ _ ?_ (fun hHeld2 => ?_)
        · (try dsimp only)
          (first | exact hHeld | exact hHeld.trans (hb.mono hHeld.size) | exact hHeld.trans ((below_new _ _).mono hHeld.size) | exact hHeld.drew)
        clear hK K hHeld; have hHeld := hHeld2; clear hHeld2
        try simp only [Act.put, tl1, tl2, tl3]
        refine wpAnyH_ready (rs := [8]) (by kernel_rfl) (by simp) ?_
        refine AllReadyH.cons (o := ⟨_, _, _, _, _, _⟩) rfl (fun K hK => ?_) AllReadyH.nil
        go_simp
        refine (rHas_any Ap _ _ cp c _ Hra.out rfl (by have := Lp.out; omega)).mono ?_
        rintro e w' ⟨rfl, rfl⟩
        rw [Hm.out]
        go_wp2_with fail
        refine hK.out _ _ ?_ (fun hHeld2 => ?_)
        · (try dsimp only)
          (first | exact hHeld | exact hHeld.trans (hb.mono hHeld.size) | exact hHeld.trans ((below_new _ _).mono hHeld.size) | exact hHeld.drew)
        clear hK K hHeld; have hHeld := hHeld2; clear hHeld2
        try simp only [Act.put, tl1, tl2, tl3]
        refine tkH 9 ?_ rfl (Or.inl ⟨by rfl, ?_⟩) hHeld ?_
        rotate_left
        · (intro w hSw; (try dsimp only at hSw); go_simp; try (with_reducible rfl))
        try simp only [Act.put, tl1, tl2, tl3]
        refine wpAnyH_done (by kernel_rfl) ?_ _
        have hat5 := hat.below hHeld
        have hB5 := hB.trans (hHeld.mono hB.size)
        have hbr5 : b < w5.heap.size := by have := hHeld.size; show b < _; exact Nat.lt_of_lt_of_le hbr this
        have c2 := (hHeld.cell (p := ⟨b, off + k * 3 + 2, none⟩) hbr).trans c2
        have d1 := (hHeld.cell (p := ⟨b, off + at_ * 3 + 1, none⟩) hbr).trans d1
        clear hHeld c0
        go_wp2_with fail
        refine wp_region_held_drew (S := (fun W => Below w5.heap.size w5 W)) (by kernel_rfl) (by (try dsimp only); exact (Below.refl _ _).drew) (fun hHeld => ?_)
        refine tkH 0 ?_ rfl (Or.inl ⟨by rfl, ?_⟩) hHeld ?_
        rotate_left
        · (intro w hSw; (try dsimp only at hSw); go_simp; try (with_reducible rfl))
        try simp only [Act.put, tl1, tl2, tl3]
        refine tkH 1 ?_ rfl (Or.inl ⟨by rfl, ?_⟩) hHeld ?_
        rotate_left
        · (intro w hSw; (try dsimp only at hSw); go_simp; try (with_reducible rfl))
        try simp only [Act.put, tl1, tl2, tl3]
        refine tkH 2 ?_ rfl (Or.inl ⟨by rfl, ?_⟩) hHeld ?_
        rotate_left
        · (intro w hSw; (try dsimp only at hSw); go_simp; try (with_reducible rfl))
        try simp only [Act.put, tl1, tl2, tl3]
        refine tkH 3 ?_ rfl (Or.inl ⟨by rfl, ?_⟩) hHeld ?_
        rotate_left
        · (intro w hSw; (try dsimp only at hSw); go_simp; try (with_reducible rfl))
        try simp only [Act.put, tl1, tl2, tl3]
        refine tkH 4 ?_ rfl (Or.inl ⟨by rfl, ?_⟩) hHeld ?_
        rotate_left
        · (intro w hSw; (try dsimp only at hSw); go_simp; try (with_reducible rfl))
        try simp only [Act.put, tl1, tl2, tl3]
        refine tkH 5 ?_ rfl (Or.inl ⟨by rfl, ?_⟩) hHeld ?_
        rotate_left
        · (intro w hSw; (try dsimp only at hSw); have c2 := (hSw.cell (p := ⟨b, off + k * 3 + 2, none⟩) (by show b < _; omega)).trans c2; have d1 := (hSw.cell (p := ⟨b, off + at_ * 3 + 1, none⟩) (by show b < _; omega)).trans d1; go_simp; try (with_reducible rfl))
        try simp only [Act.put, tl1, tl2, tl3]
        refine tkH 6 ?_ rfl (Or.inl ⟨by rfl, ?_⟩) hHeld ?_
        rotate_left
        · (intro w hSw; (try dsimp only at hSw); go_simp; try (with_reducible rfl))
        try simp only [Act.put, tl1, tl2, tl3]
        refine tkH 7 ?_ rfl (Or.inl ⟨by rfl, ?_⟩) hHeld ?_
        rotate_left
        · (intro w hSw; (try dsimp only at hSw); go_simp; try (with_reducible rfl))
        try simp only [Act.put, tl1, tl2, tl3]
        refine tkH 8 ?_ rfl (Or.inl ⟨by rfl, ?_⟩) hHeld ?_
        rotate_left
        · (intro w hSw; (try dsimp only at hSw); go_simp; try (with_reducible rfl))
        try simp only [Act.put, tl1, tl2, tl3]
        refine tkH 9 ?_ rfl (Or.inl ⟨by rfl, ?_⟩) hHeld ?_
        rotate_left
        · (intro w hSw; (try dsimp only at hSw); go_simp; try (with_reducible rfl))
        try simp only [Act.put, tl1, tl2, tl3]
        refine tkH 10 ?_ rfl (Or.inl ⟨by rfl, ?_⟩) hHeld ?_
        rotate_left
        · (intro w hSw; (try dsimp only at hSw); go_simp; try (with_reducible rfl))
        try simp only [Act.put, tl1, tl2, tl3]
        refine tkH 11 ?_ rfl (Or.inl ⟨by rfl, ?_⟩) hHeld ?_
        rotate_left
        · (intro w hSw; (try dsimp only at hSw); have c2 := (hSw.cell (p := ⟨b, off + k * 3 + 2, none⟩) (by show b < _; omega)).trans c2; have d1 := (hSw.cell (p := ⟨b, off + at_ * 3 + 1, none⟩) (by show b < _; omega)).trans d1; go_simp; try (with_reducible rfl))
        try simp only [Act.put, tl1, tl2, tl3]
        refine tkH 12 ?_ rfl (Or.inl ⟨by rfl, ?_⟩) hHeld ?_
        rotate_left
        · (intro w hSw; (try dsimp only at hSw); go_simp; try (with_reducible rfl))
        try simp only [Act.put, tl1, tl2, tl3]
        refine tkH 13 ?_ rfl (Or.inl ⟨by rfl, ?_⟩) hHeld ?_
        rotate_left
        · (intro w hSw; (try dsimp only at hSw); go_simp; try (with_reducible rfl))
        try simp only [Act.put, tl1, tl2, tl3]
        refine wpAnyH_done (by kernel_rfl) ?_ _
        have hat6 := hat5.below hHeld
        have hB6 := hB5.trans (hHeld.mono hB5.size)
        clear hHeld c2 d1 hat5 hB5
        obtain ⟨q0, q1, q2, q3⟩ := hat6.c4
        rw [wrapI (x := vs - ut) (by omega)]
        by_cases hai : at_ ≤ k
        · have hai2 : (at_ : Int) ≤ (k : Int) := by omega
          go_wp2_with fail
          refine (rCycle_any Ac Af nc cc nf cf dry days _ (by omega) (by omega)).mono ?_
          rintro e w7 ⟨rfl, hb7⟩
          have hat7 := hat6.below hb7
          have hB7 := hB6.trans (hb7.mono hB6.size)
          clear q0 q1 q2 q3
          obtain ⟨q0, q1, q2, q3⟩ := hat7.c4
          have hone : oneB cs fs dry (days * 1440) at_ k ⟨vf, vs, vt⟩ ⟨uf, us', ut⟩ c = decide (dry < vs - ut + days * 1440) := by simp [oneB, gapR, hm, hai]
          by_cases hg : vs - ut + days * 1440 ≤ dry
          · have Hone := hide (hone.trans (decide_eq_false (by omega)))
            clear hone
            go_wp2_with fail
            go_ret
            exact ⟨ret_bool (dryTo_stop Hx.out Hone.out).symm, hB7⟩
          · have Hone := hide (hone.trans (decide_eq_true (by omega)))
            clear hone
            go_wp2_with fail
            refine ⟨⟨k + 1, by omega, by go_num, hB7, hat7, hide ?_⟩, by simp [intOf]; omega⟩
            rw [dryTo_snoc Hx.out, hpre.out, Hone.out]
            rfl
        · have hai2 : (k : Int) < (at_ : Int) := by omega
          have hone : oneB cs fs dry (days * 1440) at_ k ⟨vf, vs, vt⟩ ⟨uf, us', ut⟩ c = decide (dry < vs - ut) := by simp [oneB, gapR, hm, hai]
          by_cases hg : vs - ut ≤ dry
          · have Hone := hide (hone.trans (decide_eq_false (by omega)))
            clear hone
            go_wp2_with fail
            go_ret
            exact ⟨ret_bool (dryTo_stop Hx.out Hone.out).symm, hB6⟩
          · have Hone := hide (hone.trans (decide_eq_true (by omega)))
            clear hone
            go_wp2_with fail
            refine ⟨⟨k + 1, by omega, by go_num, hB6, hat6, hide ?_⟩, by simp [intOf]; omega⟩
            rw [dryTo_snoc Hx.out, hpre.out, Hone.out]
            rfl
      · have Hm := hide (decide_eq_false hm)
        go_wp2_with fail
        refine wp_region_held_drew (S := (fun W => Below wr.heap.size wr W)) (by kernel_rfl) (by (try dsimp only); exact (Below.refl _ _).drew) (fun hHeld => ?_)
        refine tkH 0 ?_ rfl (Or.inl ⟨by rfl, ?_⟩) hHeld ?_
        rotate_left
        · (intro w hSw; (try dsimp only at hSw); obtain ⟨q0, q1, q2, q3⟩ := (hat.below hSw).c4; have c0 := (hSw.cell (p := ⟨b, off + k * 3, none⟩) (by show b < _; omega)).trans c0; go_simp; try (with_reducible rfl))
        try simp only [Act.put, tl1, tl2, tl3]
        refine tkH 1 ?_ rfl (Or.inl ⟨by rfl, ?_⟩) hHeld ?_
        rotate_left
        · (intro w hSw; (try dsimp only at hSw); go_simp; try (with_reducible rfl))
        try simp only [Act.put, tl1, tl2, tl3]
        refine tkH 2 ?_ rfl (Or.inl ⟨by rfl, ?_⟩) hHeld ?_
        rotate_left
        · (intro w hSw; (try dsimp only at hSw); go_simp; try (with_reducible rfl))
        try simp only [Act.put, tl1, tl2, tl3]
        refine tkH 3 ?_ rfl (Or.inl ⟨by rfl, ?_⟩) hHeld ?_
        rotate_left
        · (intro w hSw; (try dsimp only at hSw); go_simp; try (with_reducible rfl))
        try simp only [Act.put, tl1, tl2, tl3]
        refine tkH 4 ?_ rfl (Or.inl ⟨by rfl, ?_⟩) hHeld ?_
        rotate_left
        · (intro w hSw; (try dsimp only at hSw); go_simp; try (with_reducible rfl))
        try simp only [Act.put, tl1, tl2, tl3]
        refine tkH 5 ?_ rfl (Or.inl ⟨by rfl, ?_⟩) hHeld ?_
        rotate_left
        · (intro w hSw; (try dsimp only at hSw); obtain ⟨q0, q1, q2, q3⟩ := (hat.below hSw).c4; have c0 := (hSw.cell (p := ⟨b, off + k * 3, none⟩) (by show b < _; omega)).trans c0; go_simp; try (with_reducible rfl))
        try simp only [Act.put, tl1, tl2, tl3]
        refine tkH 7 ?_ rfl (Or.inl ⟨by rfl, ?_⟩) hHeld ?_
        rotate_left
        · (intro w hSw; (try dsimp only at hSw); go_simp; try (with_reducible rfl))
        try simp only [Act.put, tl1, tl2, tl3]
        refine wpAnyH_ready (rs := [6]) (by kernel_rfl) (by simp) ?_
        refine AllReadyH.cons (o := ⟨_, _, _, _, _, _⟩) rfl (fun K hK => ?_) AllReadyH.nil
        go_simp
        refine (rPath_any Ac Af nc cc nf cf dry days cs fs uf _ (hnet.below (hB.trans (hHeld.mono hB.size))) Hok.out f0 f1).mono ?_
        rintro e w5 ⟨va, rfl, hoa, hb⟩
        obtain ⟨Ap, cp, rfl, hra⟩ := hoa.rd
        have Hra := hide hra; clear hoa hra
        go_wp2_with fail
        refine hK.out _ _ ?_ (fun hHeld2 => ?_)
        · (try dsimp only)
          (first | exact hHeld | exact hHeld.trans (hb.mono hHeld.size) | exact hHeld.trans ((below_new _ _).mono hHeld.size) | exact hHeld.drew)
        clear hK K hHeld; have hHeld := hHeld2; clear hHeld2
        try simp only [Act.put, tl1, tl2, tl3]
        refine wpAnyH_ready (rs := [8]) (by kernel_rfl) (by simp) ?_
        refine AllReadyH.cons (o := ⟨_, _, _, _, _, _⟩) rfl (fun K hK => ?_) AllReadyH.nil
        go_simp
        refine (rHas_any Ap _ _ cp c _ Hra.out rfl (by have := Lp.out; omega)).mono ?_
        rintro e w' ⟨rfl, rfl⟩
        rw [Hm.out]
        go_wp2_with fail
        refine hK.out _ _ ?_ (fun hHeld2 => ?_)
        · (try dsimp only)
          (first | exact hHeld | exact hHeld.trans (hb.mono hHeld.size) | exact hHeld.trans ((below_new _ _).mono hHeld.size) | exact hHeld.drew)
        clear hK K hHeld; have hHeld := hHeld2; clear hHeld2
        try simp only [Act.put, tl1, tl2, tl3]
        refine tkH 9 ?_ rfl (Or.inl ⟨by rfl, ?_⟩) hHeld ?_
        rotate_left
        · (intro w hSw; (try dsimp only at hSw); go_simp; try (with_reducible rfl))
        try simp only [Act.put, tl1, tl2, tl3]
        refine wpAnyH_done (by kernel_rfl) ?_ _
        have hat5 := hat.below hHeld
        have hB5 := hB.trans (hHeld.mono hB.size)
        clear hHeld c0 c2 d1
        go_wp2_with fail
        refine ⟨⟨k + 1, by omega, by go_num, hB5, hat5, hide ?_⟩, by simp [intOf]; omega⟩
        rw [dryTo_snoc Hx.out, hpre.out]
        simp [oneB, hm]
    · go_wp2_with fail
      go_ret
      refine ⟨ret_bool ?_, hB⟩
      have h := hpre.out
      rw [show k = us.length by have := Hnu.out; omega] at h
      exact h.symm
end Go.Proofs.Ytgklcilpohkpkaa
