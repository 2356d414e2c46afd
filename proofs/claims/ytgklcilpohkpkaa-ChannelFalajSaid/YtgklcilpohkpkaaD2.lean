/- Channel, outright: parched, by contract. -/
import Derived.Test.YtgklcilpohkpkaaD1
import Derived.Test.YtgklcilpohkpkaaA4
set_option linter.unusedVariables false
set_option linter.unusedSimpArgs false
namespace Go.Proofs.Ytgklcilpohkpkaa
open Go.RowKit Go.Shelf
attribute [local go_sem ↓] Go.wp_at_zero Go.wp_at_succ
set_option maxHeartbeats 4000000 in
set_option maxRecDepth 100000 in
theorem parched_any (Ac Af Au : Option Addr) (nc cc nf cf nu cu k : Nat) (dry days c fk sk tk : Int) (cs : List Ca) (fs : List Int) (us : List Us) (w : World) (hnet : NetAt w Ac Af nc nf cs fs) (hus : Rd w w.heap.size Us.cells Au us) (hnu : nu = us.length) (hok : netOk cs fs dry days = true) (huo : usesOk nf days us = true) (hk : us[k]? = some ⟨fk, sk, tk⟩) :
    Calls Try.prog 44 #[.agg #[.slice Ac nc cc, .slice Af nf cf, .int .i64 dry, .int .i64 days], .slice Au nu cu, .int .i64 (k : Int), .int .i64 c] w fun e w' => e = .returned (.bool (parTo cs fs dry (days * 1440) us k ⟨fk, sk, tk⟩ c us.length)) ∧ Below w.heap.size w w' := by
  have hul := usesOk_len huo
  have hd := (netOk_parts hok).2.2.2.1
  have hdr := (netOk_parts hok).2.2.1
  have hkn : k < us.length := (List.getElem?_eq_some_iff.1 hk).1
  have hmk := usesOk_mem huo (List.mem_of_getElem? hk)
  have hB : Below w.heap.size w (w.alloc (.cells #[.slice Ac nc cc, .slice Af nf cf, .int .i64 dry, .int .i64 days] 25)) := below_new w _
  have xn := At.new w #[.slice Ac nc cc, .slice Af nf cf, .int .i64 dry, .int .i64 days] 25 w.heap.size rfl _ rfl
  obtain ⟨W, HW⟩ : ∃ W, Hid (w.alloc (.cells #[.slice Ac nc cc, .slice Af nf cf, .int .i64 dry, .int .i64 days] 25) = W) := ⟨_, hide rfl⟩
  rw [HW.out] at hB xn
  have Hnet := hide hnet; have Hus := hide hus; have Hn := hide hnu; have Hok := hide hok; have Huo := hide huo; have Hk := hide hk
  obtain ⟨q0, q1, q2, q3⟩ := xn.c4
  obtain ⟨f0, f1⟩ := hmk.1
  dsimp only at f0 f1 hmk
  have hks : 0 ≤ sk ∧ sk < tk ∧ tk ≤ days * 1440 := hmk.2
  have hnu60 : nu ≤ 60 := by omega
  clear hnet hus hnu hok huo hk hmk f0 f1
  go_enter Try.func44, Try.ntmps44
  go_wp2_with fail
  rw [HW.out]
  go_wp2_with fail
  clear q0 q1 q2 q3
  go_loopw [22] (fun i wr => ∃ j : Nat, j ≤ nu ∧ i = .int .i64 j ∧ parTo cs fs dry (days * 1440) us k ⟨fk, sk, tk⟩ c j = true ∧ At wr w.heap.size [.slice Ac nc cc, .slice Af nf cf, .int .i64 dry, .int .i64 days] ∧ Below w.heap.size w wr) (fun i _ => nu - (intOf i).toNat)
  case atStart => exact ⟨0, by omega, rfl, parTo_zero .., xn, hB⟩
  case round =>
    clear xn hB
    obtain ⟨j, hj, rfl, hpar, hat, hb⟩ := hrel
    obtain ⟨wo, rfl⟩ : ∃ wo, wo = wr := ⟨wr, rfl⟩
    have Hpar := hide hpar
    clear hpar
    by_cases hlt : j < nu
    · obtain ⟨b, off, f, s, t, rfl, hbB, hx, c0, c1, c2⟩ := (Hus.out.below hb).us (i := j) (by have := Hn.out; omega)
      have hm := usesOk_mem Huo.out (List.mem_of_getElem? hx)
      obtain ⟨⟨f0, f1⟩, hs0, hst, htc⟩ := hm
      dsimp only at f0 f1 hs0 hst htc
      have Hx := hide hx
      have i0 : (0 : Int) ≤ (j : Int) := by omega
      have i1 : (j : Int) < (nu : Int) := by omega
      have hN : NetAt wo Ac Af nc nf cs fs := Hnet.out.below hb
      obtain ⟨q0, q1, q2, q3⟩ := hat.c4
      obtain ⟨bu, w1, ebu, ew1, xu, _, hb1⟩ := mk_box wo #[.int .i64 f, .int .i64 s, .int .i64 t] 74
      have hat1 := hat.bel hb1
      have hN1 := hN.bel hb1
      have HN1 := hide hN1
      have e1 := hat1
      rw [← ew1.out] at e1
      obtain ⟨z0, z1, z2, z3⟩ := e1.c4
      clear hx hN hN1 e1
      go_wp2_with fail
      rw [ew1.out, ebu.out]
      clear z0 z1 z2 z3 q0 q1 q2 q3 ew1 ebu c0 c1 c2
      refine (along_any Ac Af nc cc nf cf dry days cs fs f _ HN1.out Hok.out f0 f1).mono ?_
      rintro e w2 ⟨v, rfl, hown, hb2⟩
      obtain ⟨n, hn⟩ : ∃ n, n = (pathK cs fs f).length := ⟨_, rfl⟩
      obtain ⟨Ap, cp, rfl, hp⟩ := hown.rdn n hn.symm
      obtain ⟨p, hpe⟩ : ∃ p, p = pathK cs fs f := ⟨_, rfl⟩
      have hn16 : n ≤ 16 := by rw [hn]; exact pathK_len cs fs Hok.out f0 (by have := Hnet.out.ef; omega)
      rw [← hpe] at hp hn
      have Hp := hide hp; have Hnp := hide hn; have Hpe := hide hpe
      replace hat := hat1.bel hb2
      replace xu := xu.bel hb2
      replace hb := hb.trans (hb1.mono hb.size)
      replace hb := hb.trans (hb2.mono hb.size)
      clear hown hp hn hpe hat1 hb1 hb2
      go_wp2_with fail
      go_loopw [12, 32] (fun cr i W2 => ∃ t : Nat, t ≤ n ∧ i = .int .i64 t ∧ cr = .bool (decide (c ∈ p.take t)) ∧ w2 = W2) (fun _ i _ => n - (intOf i).toNat)
      case atStart => exact ⟨0, by omega, rfl, by simp, rfl⟩
      case round =>
        obtain ⟨q, hq, rfl, rfl, rfl⟩ := hrel
        by_cases hql : q < n
        · obtain ⟨bp, offp, x, rfl, hbp, hxp, d0⟩ := Hp.out.int (i := q) (by have := Hnp.out; omega)
          have j0 : (0 : Int) ≤ (q : Int) := by omega
          have j1 : (q : Int) < (n : Int) := by omega
          have hsn : decide (c ∈ p.take (q + 1)) = (decide (c ∈ p.take q) || decide (x = c)) := by
            rw [take_snoc hxp]
            rw [Bool.eq_iff_iff]
            simp only [List.mem_append, List.mem_singleton, decide_eq_true_eq, Bool.or_eq_true]
            constructor
            · rintro (h | h)
              · exact .inl h
              · exact .inr h.symm
            · rintro (h | h)
              · exact .inl h
              · exact .inr h.symm
          have Hsn := hide hsn
          have Hxp := hide hxp
          clear hsn hxp
          cases hc : decide (c ∈ p.take q)
          · go_wp2_with fail
            refine ⟨⟨q + 1, by omega, by go_num, ?_, by first | rfl | trivial⟩, by simp [intOf]; omega⟩
            rw [Hsn.out, hc]
            first
              | rfl
              | (rw [Bool.false_or]; first | rfl | (congr 1; rw [Bool.eq_iff_iff]; simp))
              | simp
          · go_wp2_with fail
            refine ⟨⟨q + 1, by omega, by go_num, ?_, by first | rfl | trivial⟩, by simp [intOf]; omega⟩
            rw [Hsn.out, hc]
            first
              | rfl
              | (rw [Bool.false_or]; first | rfl | (congr 1; rw [Bool.eq_iff_iff]; simp))
              | simp
        · obtain rfl : q = n := by omega
          have hpt : p.take q = p := List.take_of_length_le (by have := Hnp.out; omega)
          rw [hpt]
          clear hpt
          obtain ⟨cr, hcr⟩ : ∃ cr, cr = decide (c ∈ p) := ⟨_, rfl⟩
          rw [← hcr]
          have Hcr := hide hcr
          clear hcr
          obtain ⟨be, w3, ebe, ewe, re, hb3⟩ := mk_row (cells := icell) w2 #[.int .i64 t, .int .i64 (t - days * 1440)] 3 [t, t - days * 1440] rfl
          obtain ⟨z0, z1, z2⟩ := xu.c3
          go_wp2_with fail
          rw [ewe.out, ebe.out]
          have hat3 := hat.bel hb3
          have xu3 := xu.bel hb3
          replace hb := hb.trans (hb3.mono hb.size)
          obtain ⟨bk, offk, f', s', t', hA', hbk, hxk, d0, d1, d2⟩ := (Hus.out.bel hb).us (i := k) (by have := Hn.out; omega)
          injection hA' with hA'
          injection hA' with h1 h2
          subst h1 h2
          rw [Hk.out] at hxk
          injection hxk with hxk
          injection hxk with h1 h2 h3
          subst h1 h2 h3
          have Hre := hide re
          clear z0 z1 z2 ebe ewe re hb3 hat xu d0 d2
          go_loopw [53] (fun i W3 => ∃ q : Nat, q ≤ 2 ∧ i = .int .i64 q ∧ (1 ≤ q → cr = true → endB dry k j ⟨fk, sk, tk⟩ ⟨f, s, t⟩ t = false) ∧ (2 ≤ q → cr = true → endB dry k j ⟨fk, sk, tk⟩ ⟨f, s, t⟩ (t - days * 1440) = false) ∧ Below w3.heap.size w3 W3) (fun i _ => 2 - (intOf i).toNat)
          case atStart => exact ⟨0, by omega, rfl, by omega, by omega, Below.refl _ _⟩
          case round =>
            obtain ⟨q, hq, rfl, hw1, hw2, hb6⟩ := hrel
            have Hw1 := hide hw1; have Hw2 := hide hw2
            clear hw1 hw2
            by_cases hq2 : q < 2
            · obtain ⟨bp, offp, x, hA2, hbp, hxp, e0⟩ := (Hre.out.bel hb6).int (i := q) (by simpa using hq2)
              injection hA2 with hA2
              injection hA2 with h1 h2
              subst h1 h2
              have Hxp := hide hxp
              rw [Nat.zero_add] at e0
              have j0 : (0 : Int) ≤ (q : Int) := by omega
              have j1 : (q : Int) < 2 := by omega
              have k0 : (0 : Int) ≤ (k : Int) := by omega
              have k1 : (k : Int) < (nu : Int) := by have := Hn.out; omega
              have hxr : -23040 ≤ x ∧ x ≤ 23040 := by
                have : x = t ∨ x = t - days * 1440 := by
                  rcases Nat.lt_or_ge q 1 with h | h
                  · obtain rfl : q = 0 := by omega
                    left; simpa using hxp.symm
                  · obtain rfl : q = 1 := by omega
                    right; simpa using hxp.symm
                omega
              clear hxp
              have hgo : (cr = true → endB dry k j ⟨fk, sk, tk⟩ ⟨f, s, t⟩ x = false) → (1 ≤ q + 1 → cr = true → endB dry k j ⟨fk, sk, tk⟩ ⟨f, s, t⟩ t = false) ∧ (2 ≤ q + 1 → cr = true → endB dry k j ⟨fk, sk, tk⟩ ⟨f, s, t⟩ (t - days * 1440) = false) := fun h => by
                rcases Nat.lt_or_ge q 1 with h3 | h3
                · obtain rfl : q = 0 := by omega
                  have : x = t := by simpa using Hxp.out.symm
                  subst this
                  exact ⟨fun _ => h, fun h4 => by omega⟩
                · obtain rfl : q = 1 := by omega
                  have : x = t - days * 1440 := by simpa using Hxp.out.symm
                  subst this
                  exact ⟨fun _ => Hw1.out (by omega), fun _ => h⟩
              have hhit : cr = true → endB dry k j ⟨fk, sk, tk⟩ ⟨f, s, t⟩ x = true → parTo cs fs dry (days * 1440) us k ⟨fk, sk, tk⟩ c us.length = false := fun h1 h2 => by
                refine parTo_hit Hx.out ?_
                have h3 := Hcr.out
                rw [Hpe.out, h1] at h3
                rcases Nat.lt_or_ge q 1 with h4 | h4
                · obtain rfl : q = 0 := by omega
                  have : x = t := by simpa using Hxp.out.symm
                  subst this
                  simp only [wetB, ← h3, h2, Bool.true_and, Bool.true_or]
                · obtain rfl : q = 1 := by omega
                  have : x = t - days * 1440 := by simpa using Hxp.out.symm
                  subst this
                  simp only [wetB, ← h3, h2, Bool.true_and, Bool.or_true]
              have Hgo := hide hgo; have Hhit := hide hhit
              clear hgo hhit
              have fW : IntKind.i64.wrap (sk - x) = sk - x := wrapI (by omega)
              cases cr
              · have He := hide (Hgo.out (fun h => by cases h))
                go_wp2_with fail
                refine wp_region_held_drew (S := (fun W => Below wr.heap.size wr W)) (by kernel_rfl) (by (try dsimp only); exact (Below.refl _ _).drew) (fun hHeld => ?_)
                generalize World.drew wr = Wd14 at hHeld ⊢
                have hbc := Below.refl Wd14.heap.size Wd14
                refine tkH 0 ?_ rfl (Or.inl ⟨by rfl, ?_⟩) hHeld ?_
                rotate_left
                · (intro w _; go_simp; try (with_reducible rfl))
                try simp only [Act.put, tl1, tl2, tl3]
                refine tkH 1 ?_ rfl (Or.inl ⟨by rfl, ?_⟩) hHeld ?_
                rotate_left
                · (intro w _; go_simp; try (with_reducible rfl))
                try simp only [Act.put, tl1, tl2, tl3]
                refine tkH 2 _ rfl (Or.inr ⟨by rfl, rfl⟩) hHeld ?_
                try simp only [Act.put, tl1, tl2, tl3]
                refine tkH 3 _ rfl (Or.inr ⟨by rfl, rfl⟩) hHeld ?_
                try simp only [Act.put, tl1, tl2, tl3]
                refine tkH 4 _ rfl (Or.inr ⟨by rfl, rfl⟩) hHeld ?_
                try simp only [Act.put, tl1, tl2, tl3]
                refine tkH 5 _ rfl (Or.inr ⟨by rfl, rfl⟩) hHeld ?_
                try simp only [Act.put, tl1, tl2, tl3]
                refine tkH 6 _ rfl (Or.inr ⟨by rfl, rfl⟩) hHeld ?_
                try simp only [Act.put, tl1, tl2, tl3]
                refine tkH 7 _ rfl (Or.inr ⟨by rfl, rfl⟩) hHeld ?_
                try simp only [Act.put, tl1, tl2, tl3]
                refine tkH 8 _ rfl (Or.inr ⟨by rfl, rfl⟩) hHeld ?_
                try simp only [Act.put, tl1, tl2, tl3]
                refine tkH 9 _ rfl (Or.inr ⟨by rfl, rfl⟩) hHeld ?_
                try simp only [Act.put, tl1, tl2, tl3]
                refine tkH 10 ?_ rfl (Or.inl ⟨by rfl, ?_⟩) hHeld ?_
                rotate_left
                · (intro w _; go_simp; try (with_reducible rfl))
                try simp only [Act.put, tl1, tl2, tl3]
                refine tkH 11 ?_ rfl (Or.inl ⟨by rfl, ?_⟩) hHeld ?_
                rotate_left
                · (intro w _; go_simp; try (with_reducible rfl))
                try simp only [Act.put, tl1, tl2, tl3]
                refine tkH 12 _ rfl (Or.inr ⟨by rfl, rfl⟩) hHeld ?_
                try simp only [Act.put, tl1, tl2, tl3]
                refine tkH 13 _ rfl (Or.inr ⟨by rfl, rfl⟩) hHeld ?_
                try simp only [Act.put, tl1, tl2, tl3]
                refine tkH 14 _ rfl (Or.inr ⟨by rfl, rfl⟩) hHeld ?_
                try simp only [Act.put, tl1, tl2, tl3]
                refine tkH 15 _ rfl (Or.inr ⟨by rfl, rfl⟩) hHeld ?_
                try simp only [Act.put, tl1, tl2, tl3]
                refine tkH 16 _ rfl (Or.inr ⟨by rfl, rfl⟩) hHeld ?_
                try simp only [Act.put, tl1, tl2, tl3]
                refine tkH 17 _ rfl (Or.inr ⟨by rfl, rfl⟩) hHeld ?_
                try simp only [Act.put, tl1, tl2, tl3]
                refine tkH 18 _ rfl (Or.inr ⟨by rfl, rfl⟩) hHeld ?_
                try simp only [Act.put, tl1, tl2, tl3]
                refine tkH 19 _ rfl (Or.inr ⟨by rfl, rfl⟩) hHeld ?_
                try simp only [Act.put, tl1, tl2, tl3]
                refine tkH 20 _ rfl (Or.inr ⟨by rfl, rfl⟩) hHeld ?_
                try simp only [Act.put, tl1, tl2, tl3]
                refine tkH 21 _ rfl (Or.inr ⟨by rfl, rfl⟩) hHeld ?_
                try simp only [Act.put, tl1, tl2, tl3]
                refine tkH 22 ?_ rfl (Or.inl ⟨by rfl, ?_⟩) hHeld ?_
                rotate_left
                · (intro w _; go_simp; try (with_reducible rfl))
                try simp only [Act.put, tl1, tl2, tl3]
                refine tkH 23 ?_ rfl (Or.inl ⟨by rfl, ?_⟩) hHeld ?_
                rotate_left
                · (intro w _; go_simp; try (with_reducible rfl))
                try simp only [Act.put, tl1, tl2, tl3]
                refine tkH 24 _ rfl (Or.inr ⟨by rfl, rfl⟩) hHeld ?_
                try simp only [Act.put, tl1, tl2, tl3]
                refine tkH 25 _ rfl (Or.inr ⟨by rfl, rfl⟩) hHeld ?_
                try simp only [Act.put, tl1, tl2, tl3]
                refine tkH 26 _ rfl (Or.inr ⟨by rfl, rfl⟩) hHeld ?_
                try simp only [Act.put, tl1, tl2, tl3]
                refine tkH 27 _ rfl (Or.inr ⟨by rfl, rfl⟩) hHeld ?_
                try simp only [Act.put, tl1, tl2, tl3]
                refine tkH 28 _ rfl (Or.inr ⟨by rfl, rfl⟩) hHeld ?_
                try simp only [Act.put, tl1, tl2, tl3]
                refine tkH 29 _ rfl (Or.inr ⟨by rfl, rfl⟩) hHeld ?_
                try simp only [Act.put, tl1, tl2, tl3]
                refine tkH 30 _ rfl (Or.inr ⟨by rfl, rfl⟩) hHeld ?_
                try simp only [Act.put, tl1, tl2, tl3]
                refine tkH 31 _ rfl (Or.inr ⟨by rfl, rfl⟩) hHeld ?_
                try simp only [Act.put, tl1, tl2, tl3]
                refine tkH 32 _ rfl (Or.inr ⟨by rfl, rfl⟩) hHeld ?_
                try simp only [Act.put, tl1, tl2, tl3]
                refine tkH 33 _ rfl (Or.inr ⟨by rfl, rfl⟩) hHeld ?_
                try simp only [Act.put, tl1, tl2, tl3]
                refine tkH 34 _ rfl (Or.inr ⟨by rfl, rfl⟩) hHeld ?_
                try simp only [Act.put, tl1, tl2, tl3]
                refine tkH 35 ?_ rfl (Or.inl ⟨by rfl, ?_⟩) hHeld ?_
                rotate_left
                · (intro w _; go_simp; try (with_reducible rfl))
                try simp only [Act.put, tl1, tl2, tl3]
                refine wpAnyH_done (by kernel_rfl) ?_ _
                go_wp2_with fail
                exact ⟨⟨q + 1, by omega, by go_num, He.out.1, He.out.2, hb6.trans (hHeld.mono hb6.size)⟩, by simp [intOf]; omega⟩
              · by_cases h1 : x ≤ sk
                · by_cases h3 : j < k
                  · by_cases h2 : sk - x ≤ dry
                    · have He := hide (Hhit.out rfl (by simp [endB, h1, h2, h3]))
                      have fA : decide (x ≤ sk) = true := decide_eq_true h1
                      have fB : decide ((j : Int) < (k : Int)) = true := decide_eq_true (by omega)
                      have fD : decide (sk - x ≤ dry) = true := decide_eq_true h2
                      go_wp2_with fail
                      refine wp_region_held_drew (S := (fun W => Below wr.heap.size wr W)) (by kernel_rfl) (by (try dsimp only); exact (Below.refl _ _).drew) (fun hHeld => ?_)
                      generalize World.drew wr = Wd14 at hHeld ⊢
                      have hbc := Below.refl Wd14.heap.size Wd14
                      refine tkH 0 ?_ rfl (Or.inl ⟨by rfl, ?_⟩) hHeld ?_
                      rotate_left
                      · (intro w _; go_simp; try (with_reducible rfl))
                      try simp only [Act.put, tl1, tl2, tl3]
                      refine tkH 1 ?_ rfl (Or.inl ⟨by rfl, ?_⟩) hHeld ?_
                      rotate_left
                      · (intro w _; go_simp; try (with_reducible rfl))
                      try simp only [Act.put, tl1, tl2, tl3]
                      refine tkH 2 ?_ rfl (Or.inl ⟨by rfl, ?_⟩) hHeld ?_
                      rotate_left
                      · (intro w _; go_simp; try (with_reducible rfl))
                      try simp only [Act.put, tl1, tl2, tl3]
                      refine tkH 3 ?_ rfl (Or.inl ⟨by rfl, ?_⟩) hHeld ?_
                      rotate_left
                      · (intro w _; go_simp; try (with_reducible rfl))
                      try simp only [Act.put, tl1, tl2, tl3]
                      refine tkH 4 ?_ rfl (Or.inl ⟨by rfl, ?_⟩) hHeld ?_
                      rotate_left
                      · (intro w _; go_simp; try (with_reducible rfl))
                      try simp only [Act.put, tl1, tl2, tl3]
                      refine tkH 5 ?_ rfl (Or.inl ⟨by rfl, ?_⟩) hHeld ?_
                      rotate_left
                      · (intro w _; go_simp; try (with_reducible rfl))
                      try simp only [Act.put, tl1, tl2, tl3]
                      refine tkH 6 ?_ rfl (Or.inl ⟨by rfl, ?_⟩) hHeld ?_
                      rotate_left
                      · (intro w _; go_simp; try (with_reducible rfl))
                      try simp only [Act.put, tl1, tl2, tl3]
                      refine tkH 7 ?_ rfl (Or.inl ⟨by rfl, ?_⟩) hHeld ?_
                      rotate_left
                      · (intro w _; go_simp; try (with_reducible rfl))
                      try simp only [Act.put, tl1, tl2, tl3]
                      refine tkH 8 ?_ rfl (Or.inl ⟨by rfl, ?_⟩) hHeld ?_
                      rotate_left
                      · (intro w hSw; (try dsimp only at hSw); obtain ⟨q0, q1, q2, q3⟩ := (hat3.bel (hb6.trans (hSw.mono hb6.size))).c4; obtain ⟨z0, z1, z2⟩ := (xu3.bel (hb6.trans (hSw.mono hb6.size))).c3; have d1 := ((hb6.trans (hSw.mono hb6.size)).cell (p := ⟨b, off + k * 3 + 1, none⟩) hbk).trans d1; go_simp; try (with_reducible rfl))
                      try simp only [Act.put, tl1, tl2, tl3]
                      refine tkH 9 ?_ rfl (Or.inl ⟨by rfl, ?_⟩) hHeld ?_
                      rotate_left
                      · (intro w _; go_simp; try (with_reducible rfl))
                      try simp only [Act.put, tl1, tl2, tl3]
                      refine tkH 10 ?_ rfl (Or.inl ⟨by rfl, ?_⟩) hHeld ?_
                      rotate_left
                      · (intro w _; go_simp; try (with_reducible rfl))
                      try simp only [Act.put, tl1, tl2, tl3]
                      refine tkH 11 ?_ rfl (Or.inl ⟨by rfl, ?_⟩) hHeld ?_
                      rotate_left
                      · (intro w _; go_simp; try (with_reducible rfl))
                      try simp only [Act.put, tl1, tl2, tl3]
                      refine tkH 12 ?_ rfl (Or.inl ⟨by rfl, ?_⟩) hHeld ?_
                      rotate_left
                      · (intro w _; go_simp; try (with_reducible rfl))
                      try simp only [Act.put, tl1, tl2, tl3]
                      refine tkH 13 ?_ rfl (Or.inl ⟨by rfl, ?_⟩) hHeld ?_
                      rotate_left
                      · (intro w _; go_simp; try (with_reducible rfl))
                      try simp only [Act.put, tl1, tl2, tl3]
                      refine tkH 14 ?_ rfl (Or.inl ⟨by rfl, ?_⟩) hHeld ?_
                      rotate_left
                      · (intro w _; go_simp; try (with_reducible rfl))
                      try simp only [Act.put, tl1, tl2, tl3]
                      refine tkH 15 ?_ rfl (Or.inl ⟨by rfl, ?_⟩) hHeld ?_
                      rotate_left
                      · (intro w _; go_simp; try (with_reducible rfl))
                      try simp only [Act.put, tl1, tl2, tl3]
                      refine tkH 16 _ rfl (Or.inr ⟨by rfl, rfl⟩) hHeld ?_
                      try simp only [Act.put, tl1, tl2, tl3]
                      refine tkH 17 _ rfl (Or.inr ⟨by rfl, rfl⟩) hHeld ?_
                      try simp only [Act.put, tl1, tl2, tl3]
                      refine tkH 18 _ rfl (Or.inr ⟨by rfl, rfl⟩) hHeld ?_
                      try simp only [Act.put, tl1, tl2, tl3]
                      refine tkH 19 _ rfl (Or.inr ⟨by rfl, rfl⟩) hHeld ?_
                      try simp only [Act.put, tl1, tl2, tl3]
                      refine tkH 20 _ rfl (Or.inr ⟨by rfl, rfl⟩) hHeld ?_
                      try simp only [Act.put, tl1, tl2, tl3]
                      refine tkH 21 ?_ rfl (Or.inl ⟨by rfl, ?_⟩) hHeld ?_
                      rotate_left
                      · (intro w _; go_simp; try (with_reducible rfl))
                      try simp only [Act.put, tl1, tl2, tl3]
                      refine tkH 22 ?_ rfl (Or.inl ⟨by rfl, ?_⟩) hHeld ?_
                      rotate_left
                      · (intro w _; go_simp; try (with_reducible rfl))
                      try simp only [Act.put, tl1, tl2, tl3]
                      refine tkH 23 ?_ rfl (Or.inl ⟨by rfl, ?_⟩) hHeld ?_
                      rotate_left
                      · (intro w _; go_simp; try (with_reducible rfl))
                      try simp only [Act.put, tl1, tl2, tl3]
                      refine tkH 24 ?_ rfl (Or.inl ⟨by rfl, ?_⟩) hHeld ?_
                      rotate_left
                      · (intro w _; go_simp; try (with_reducible rfl))
                      try simp only [Act.put, tl1, tl2, tl3]
                      refine tkH 25 ?_ rfl (Or.inl ⟨by rfl, ?_⟩) hHeld ?_
                      rotate_left
                      · (intro w _; go_simp; try (with_reducible rfl))
                      try simp only [Act.put, tl1, tl2, tl3]
                      refine tkH 26 ?_ rfl (Or.inl ⟨by rfl, ?_⟩) hHeld ?_
                      rotate_left
                      · (intro w _; go_simp; try (with_reducible rfl))
                      try simp only [Act.put, tl1, tl2, tl3]
                      refine tkH 27 ?_ rfl (Or.inl ⟨by rfl, ?_⟩) hHeld ?_
                      rotate_left
                      · (intro w _; go_simp; try (with_reducible rfl))
                      try simp only [Act.put, tl1, tl2, tl3]
                      refine tkH 28 ?_ rfl (Or.inl ⟨by rfl, ?_⟩) hHeld ?_
                      rotate_left
                      · (intro w _; go_simp; try (with_reducible rfl))
                      try simp only [Act.put, tl1, tl2, tl3]
                      refine tkH 29 ?_ rfl (Or.inl ⟨by rfl, ?_⟩) hHeld ?_
                      rotate_left
                      · (intro w hSw; (try dsimp only at hSw); obtain ⟨q0, q1, q2, q3⟩ := (hat3.bel (hb6.trans (hSw.mono hb6.size))).c4; obtain ⟨z0, z1, z2⟩ := (xu3.bel (hb6.trans (hSw.mono hb6.size))).c3; have d1 := ((hb6.trans (hSw.mono hb6.size)).cell (p := ⟨b, off + k * 3 + 1, none⟩) hbk).trans d1; go_simp; try (with_reducible rfl))
                      try simp only [Act.put, tl1, tl2, tl3]
                      refine tkH 30 ?_ rfl (Or.inl ⟨by rfl, ?_⟩) hHeld ?_
                      rotate_left
                      · (intro w _; go_simp; try (with_reducible rfl))
                      try simp only [Act.put, tl1, tl2, tl3]
                      refine tkH 31 ?_ rfl (Or.inl ⟨by rfl, ?_⟩) hHeld ?_
                      rotate_left
                      · (intro w _; go_simp; try (with_reducible rfl))
                      try simp only [Act.put, tl1, tl2, tl3]
                      refine tkH 32 ?_ rfl (Or.inl ⟨by rfl, ?_⟩) hHeld ?_
                      rotate_left
                      · (intro w _; go_simp; try (with_reducible rfl))
                      try simp only [Act.put, tl1, tl2, tl3]
                      refine tkH 33 ?_ rfl (Or.inl ⟨by rfl, ?_⟩) hHeld ?_
                      rotate_left
                      · (intro w hSw; (try dsimp only at hSw); obtain ⟨q0, q1, q2, q3⟩ := (hat3.bel (hb6.trans (hSw.mono hb6.size))).c4; obtain ⟨z0, z1, z2⟩ := (xu3.bel (hb6.trans (hSw.mono hb6.size))).c3; have d1 := ((hb6.trans (hSw.mono hb6.size)).cell (p := ⟨b, off + k * 3 + 1, none⟩) hbk).trans d1; go_simp; try (with_reducible rfl))
                      try simp only [Act.put, tl1, tl2, tl3]
                      refine tkH 34 ?_ rfl (Or.inl ⟨by rfl, ?_⟩) hHeld ?_
                      rotate_left
                      · (intro w _; go_simp; try (with_reducible rfl))
                      try simp only [Act.put, tl1, tl2, tl3]
                      refine tkH 35 ?_ rfl (Or.inl ⟨by rfl, ?_⟩) hHeld ?_
                      rotate_left
                      · (intro w _; go_simp; try (with_reducible rfl))
                      try simp only [Act.put, tl1, tl2, tl3]
                      refine wpAnyH_done (by kernel_rfl) ?_ _
                      go_wp2_with fail
                      go_ret
                      exact ⟨ret_bool He.out.symm, hb.trans ((hb6.trans (hHeld.mono hb6.size)).mono hb.size)⟩
                    · have He := hide (Hgo.out (fun _ => by simp [endB, h2]))
                      have fA : decide (x ≤ sk) = true := decide_eq_true h1
                      have fB : decide ((j : Int) < (k : Int)) = true := decide_eq_true (by omega)
                      have fD : decide (sk - x ≤ dry) = false := decide_eq_false h2
                      go_wp2_with fail
                      refine wp_region_held_drew (S := (fun W => Below wr.heap.size wr W)) (by kernel_rfl) (by (try dsimp only); exact (Below.refl _ _).drew) (fun hHeld => ?_)
                      generalize World.drew wr = Wd14 at hHeld ⊢
                      have hbc := Below.refl Wd14.heap.size Wd14
                      refine tkH 0 ?_ rfl (Or.inl ⟨by rfl, ?_⟩) hHeld ?_
                      rotate_left
                      · (intro w _; go_simp; try (with_reducible rfl))
                      try simp only [Act.put, tl1, tl2, tl3]
                      refine tkH 1 ?_ rfl (Or.inl ⟨by rfl, ?_⟩) hHeld ?_
                      rotate_left
                      · (intro w _; go_simp; try (with_reducible rfl))
                      try simp only [Act.put, tl1, tl2, tl3]
                      refine tkH 2 ?_ rfl (Or.inl ⟨by rfl, ?_⟩) hHeld ?_
                      rotate_left
                      · (intro w _; go_simp; try (with_reducible rfl))
                      try simp only [Act.put, tl1, tl2, tl3]
                      refine tkH 3 ?_ rfl (Or.inl ⟨by rfl, ?_⟩) hHeld ?_
                      rotate_left
                      · (intro w _; go_simp; try (with_reducible rfl))
                      try simp only [Act.put, tl1, tl2, tl3]
                      refine tkH 4 ?_ rfl (Or.inl ⟨by rfl, ?_⟩) hHeld ?_
                      rotate_left
                      · (intro w _; go_simp; try (with_reducible rfl))
                      try simp only [Act.put, tl1, tl2, tl3]
                      refine tkH 5 ?_ rfl (Or.inl ⟨by rfl, ?_⟩) hHeld ?_
                      rotate_left
                      · (intro w _; go_simp; try (with_reducible rfl))
                      try simp only [Act.put, tl1, tl2, tl3]
                      refine tkH 6 ?_ rfl (Or.inl ⟨by rfl, ?_⟩) hHeld ?_
                      rotate_left
                      · (intro w _; go_simp; try (with_reducible rfl))
                      try simp only [Act.put, tl1, tl2, tl3]
                      refine tkH 7 ?_ rfl (Or.inl ⟨by rfl, ?_⟩) hHeld ?_
                      rotate_left
                      · (intro w _; go_simp; try (with_reducible rfl))
                      try simp only [Act.put, tl1, tl2, tl3]
                      refine tkH 8 ?_ rfl (Or.inl ⟨by rfl, ?_⟩) hHeld ?_
                      rotate_left
                      · (intro w hSw; (try dsimp only at hSw); obtain ⟨q0, q1, q2, q3⟩ := (hat3.bel (hb6.trans (hSw.mono hb6.size))).c4; obtain ⟨z0, z1, z2⟩ := (xu3.bel (hb6.trans (hSw.mono hb6.size))).c3; have d1 := ((hb6.trans (hSw.mono hb6.size)).cell (p := ⟨b, off + k * 3 + 1, none⟩) hbk).trans d1; go_simp; try (with_reducible rfl))
                      try simp only [Act.put, tl1, tl2, tl3]
                      refine tkH 9 ?_ rfl (Or.inl ⟨by rfl, ?_⟩) hHeld ?_
                      rotate_left
                      · (intro w _; go_simp; try (with_reducible rfl))
                      try simp only [Act.put, tl1, tl2, tl3]
                      refine tkH 10 ?_ rfl (Or.inl ⟨by rfl, ?_⟩) hHeld ?_
                      rotate_left
                      · (intro w _; go_simp; try (with_reducible rfl))
                      try simp only [Act.put, tl1, tl2, tl3]
                      refine tkH 11 ?_ rfl (Or.inl ⟨by rfl, ?_⟩) hHeld ?_
                      rotate_left
                      · (intro w _; go_simp; try (with_reducible rfl))
                      try simp only [Act.put, tl1, tl2, tl3]
                      refine tkH 12 ?_ rfl (Or.inl ⟨by rfl, ?_⟩) hHeld ?_
                      rotate_left
                      · (intro w _; go_simp; try (with_reducible rfl))
                      try simp only [Act.put, tl1, tl2, tl3]
                      refine tkH 13 ?_ rfl (Or.inl ⟨by rfl, ?_⟩) hHeld ?_
                      rotate_left
                      · (intro w _; go_simp; try (with_reducible rfl))
                      try simp only [Act.put, tl1, tl2, tl3]
                      refine tkH 14 ?_ rfl (Or.inl ⟨by rfl, ?_⟩) hHeld ?_
                      rotate_left
                      · (intro w _; go_simp; try (with_reducible rfl))
                      try simp only [Act.put, tl1, tl2, tl3]
                      refine tkH 15 ?_ rfl (Or.inl ⟨by rfl, ?_⟩) hHeld ?_
                      rotate_left
                      · (intro w _; go_simp; try (with_reducible rfl))
                      try simp only [Act.put, tl1, tl2, tl3]
                      refine tkH 16 _ rfl (Or.inr ⟨by rfl, rfl⟩) hHeld ?_
                      try simp only [Act.put, tl1, tl2, tl3]
                      refine tkH 17 _ rfl (Or.inr ⟨by rfl, rfl⟩) hHeld ?_
                      try simp only [Act.put, tl1, tl2, tl3]
                      refine tkH 18 _ rfl (Or.inr ⟨by rfl, rfl⟩) hHeld ?_
                      try simp only [Act.put, tl1, tl2, tl3]
                      refine tkH 19 _ rfl (Or.inr ⟨by rfl, rfl⟩) hHeld ?_
                      try simp only [Act.put, tl1, tl2, tl3]
                      refine tkH 20 _ rfl (Or.inr ⟨by rfl, rfl⟩) hHeld ?_
                      try simp only [Act.put, tl1, tl2, tl3]
                      refine tkH 21 ?_ rfl (Or.inl ⟨by rfl, ?_⟩) hHeld ?_
                      rotate_left
                      · (intro w _; go_simp; try (with_reducible rfl))
                      try simp only [Act.put, tl1, tl2, tl3]
                      refine tkH 22 ?_ rfl (Or.inl ⟨by rfl, ?_⟩) hHeld ?_
                      rotate_left
                      · (intro w _; go_simp; try (with_reducible rfl))
                      try simp only [Act.put, tl1, tl2, tl3]
                      refine tkH 23 ?_ rfl (Or.inl ⟨by rfl, ?_⟩) hHeld ?_
                      rotate_left
                      · (intro w _; go_simp; try (with_reducible rfl))
                      try simp only [Act.put, tl1, tl2, tl3]
                      refine tkH 24 ?_ rfl (Or.inl ⟨by rfl, ?_⟩) hHeld ?_
                      rotate_left
                      · (intro w _; go_simp; try (with_reducible rfl))
                      try simp only [Act.put, tl1, tl2, tl3]
                      refine tkH 25 ?_ rfl (Or.inl ⟨by rfl, ?_⟩) hHeld ?_
                      rotate_left
                      · (intro w _; go_simp; try (with_reducible rfl))
                      try simp only [Act.put, tl1, tl2, tl3]
                      refine tkH 26 ?_ rfl (Or.inl ⟨by rfl, ?_⟩) hHeld ?_
                      rotate_left
                      · (intro w _; go_simp; try (with_reducible rfl))
                      try simp only [Act.put, tl1, tl2, tl3]
                      refine tkH 27 ?_ rfl (Or.inl ⟨by rfl, ?_⟩) hHeld ?_
                      rotate_left
                      · (intro w _; go_simp; try (with_reducible rfl))
                      try simp only [Act.put, tl1, tl2, tl3]
                      refine tkH 28 ?_ rfl (Or.inl ⟨by rfl, ?_⟩) hHeld ?_
                      rotate_left
                      · (intro w _; go_simp; try (with_reducible rfl))
                      try simp only [Act.put, tl1, tl2, tl3]
                      refine tkH 29 ?_ rfl (Or.inl ⟨by rfl, ?_⟩) hHeld ?_
                      rotate_left
                      · (intro w hSw; (try dsimp only at hSw); obtain ⟨q0, q1, q2, q3⟩ := (hat3.bel (hb6.trans (hSw.mono hb6.size))).c4; obtain ⟨z0, z1, z2⟩ := (xu3.bel (hb6.trans (hSw.mono hb6.size))).c3; have d1 := ((hb6.trans (hSw.mono hb6.size)).cell (p := ⟨b, off + k * 3 + 1, none⟩) hbk).trans d1; go_simp; try (with_reducible rfl))
                      try simp only [Act.put, tl1, tl2, tl3]
                      refine tkH 30 ?_ rfl (Or.inl ⟨by rfl, ?_⟩) hHeld ?_
                      rotate_left
                      · (intro w _; go_simp; try (with_reducible rfl))
                      try simp only [Act.put, tl1, tl2, tl3]
                      refine tkH 31 ?_ rfl (Or.inl ⟨by rfl, ?_⟩) hHeld ?_
                      rotate_left
                      · (intro w _; go_simp; try (with_reducible rfl))
                      try simp only [Act.put, tl1, tl2, tl3]
                      refine tkH 32 ?_ rfl (Or.inl ⟨by rfl, ?_⟩) hHeld ?_
                      rotate_left
                      · (intro w _; go_simp; try (with_reducible rfl))
                      try simp only [Act.put, tl1, tl2, tl3]
                      refine tkH 33 ?_ rfl (Or.inl ⟨by rfl, ?_⟩) hHeld ?_
                      rotate_left
                      · (intro w hSw; (try dsimp only at hSw); obtain ⟨q0, q1, q2, q3⟩ := (hat3.bel (hb6.trans (hSw.mono hb6.size))).c4; obtain ⟨z0, z1, z2⟩ := (xu3.bel (hb6.trans (hSw.mono hb6.size))).c3; have d1 := ((hb6.trans (hSw.mono hb6.size)).cell (p := ⟨b, off + k * 3 + 1, none⟩) hbk).trans d1; go_simp; try (with_reducible rfl))
                      try simp only [Act.put, tl1, tl2, tl3]
                      refine tkH 34 ?_ rfl (Or.inl ⟨by rfl, ?_⟩) hHeld ?_
                      rotate_left
                      · (intro w _; go_simp; try (with_reducible rfl))
                      try simp only [Act.put, tl1, tl2, tl3]
                      refine tkH 35 ?_ rfl (Or.inl ⟨by rfl, ?_⟩) hHeld ?_
                      rotate_left
                      · (intro w _; go_simp; try (with_reducible rfl))
                      try simp only [Act.put, tl1, tl2, tl3]
                      refine wpAnyH_done (by kernel_rfl) ?_ _
                      go_wp2_with fail
                      exact ⟨⟨q + 1, by omega, by go_num, He.out.1, He.out.2, hb6.trans (hHeld.mono hb6.size)⟩, by simp [intOf]; omega⟩
                  · by_cases h4 : x = t
                    · have He := hide (Hgo.out (fun _ => by simp [endB, h3, h4]))
                      have fA : decide (x ≤ sk) = true := decide_eq_true h1
                      have fB : decide ((j : Int) < (k : Int)) = false := decide_eq_false (by omega)
                      have e4 : (x == t) = true := by simpa using h4
                      have e4' : decide (x = t) = true := decide_eq_true h4
                      have e4b : (x != t) = false := by simpa using h4
                      have e4c : decide (¬ x = t) = false := by simpa using h4
                      have Hh4 := hide h4
                      clear h4
                      go_wp2_with fail
                      refine wp_region_held_drew (S := (fun W => Below wr.heap.size wr W)) (by kernel_rfl) (by (try dsimp only); exact (Below.refl _ _).drew) (fun hHeld => ?_)
                      generalize World.drew wr = Wd14 at hHeld ⊢
                      have hbc := Below.refl Wd14.heap.size Wd14
                      refine tkH 0 ?_ rfl (Or.inl ⟨by rfl, ?_⟩) hHeld ?_
                      rotate_left
                      · (intro w _; go_simp; try (with_reducible rfl))
                      try simp only [Act.put, tl1, tl2, tl3]
                      refine tkH 1 ?_ rfl (Or.inl ⟨by rfl, ?_⟩) hHeld ?_
                      rotate_left
                      · (intro w _; go_simp; try (with_reducible rfl))
                      try simp only [Act.put, tl1, tl2, tl3]
                      refine tkH 2 ?_ rfl (Or.inl ⟨by rfl, ?_⟩) hHeld ?_
                      rotate_left
                      · (intro w _; go_simp; try (with_reducible rfl))
                      try simp only [Act.put, tl1, tl2, tl3]
                      refine tkH 3 ?_ rfl (Or.inl ⟨by rfl, ?_⟩) hHeld ?_
                      rotate_left
                      · (intro w _; go_simp; try (with_reducible rfl))
                      try simp only [Act.put, tl1, tl2, tl3]
                      refine tkH 4 ?_ rfl (Or.inl ⟨by rfl, ?_⟩) hHeld ?_
                      rotate_left
                      · (intro w _; go_simp; try (with_reducible rfl))
                      try simp only [Act.put, tl1, tl2, tl3]
                      refine tkH 5 ?_ rfl (Or.inl ⟨by rfl, ?_⟩) hHeld ?_
                      rotate_left
                      · (intro w _; go_simp; try (with_reducible rfl))
                      try simp only [Act.put, tl1, tl2, tl3]
                      refine tkH 6 ?_ rfl (Or.inl ⟨by rfl, ?_⟩) hHeld ?_
                      rotate_left
                      · (intro w _; go_simp; try (with_reducible rfl))
                      try simp only [Act.put, tl1, tl2, tl3]
                      refine tkH 7 ?_ rfl (Or.inl ⟨by rfl, ?_⟩) hHeld ?_
                      rotate_left
                      · (intro w _; go_simp; try (with_reducible rfl))
                      try simp only [Act.put, tl1, tl2, tl3]
                      refine tkH 8 ?_ rfl (Or.inl ⟨by rfl, ?_⟩) hHeld ?_
                      rotate_left
                      · (intro w hSw; (try dsimp only at hSw); obtain ⟨q0, q1, q2, q3⟩ := (hat3.bel (hb6.trans (hSw.mono hb6.size))).c4; obtain ⟨z0, z1, z2⟩ := (xu3.bel (hb6.trans (hSw.mono hb6.size))).c3; have d1 := ((hb6.trans (hSw.mono hb6.size)).cell (p := ⟨b, off + k * 3 + 1, none⟩) hbk).trans d1; go_simp; try (with_reducible rfl))
                      try simp only [Act.put, tl1, tl2, tl3]
                      refine tkH 9 ?_ rfl (Or.inl ⟨by rfl, ?_⟩) hHeld ?_
                      rotate_left
                      · (intro w _; go_simp; try (with_reducible rfl))
                      try simp only [Act.put, tl1, tl2, tl3]
                      refine tkH 10 ?_ rfl (Or.inl ⟨by rfl, ?_⟩) hHeld ?_
                      rotate_left
                      · (intro w _; go_simp; try (with_reducible rfl))
                      try simp only [Act.put, tl1, tl2, tl3]
                      refine tkH 11 ?_ rfl (Or.inl ⟨by rfl, ?_⟩) hHeld ?_
                      rotate_left
                      · (intro w _; go_simp; try (with_reducible rfl))
                      try simp only [Act.put, tl1, tl2, tl3]
                      refine tkH 12 ?_ rfl (Or.inl ⟨by rfl, ?_⟩) hHeld ?_
                      rotate_left
                      · (intro w _; go_simp; try (with_reducible rfl))
                      try simp only [Act.put, tl1, tl2, tl3]
                      refine tkH 13 ?_ rfl (Or.inl ⟨by rfl, ?_⟩) hHeld ?_
                      rotate_left
                      · (intro w _; go_simp; try (with_reducible rfl))
                      try simp only [Act.put, tl1, tl2, tl3]
                      refine tkH 14 ?_ rfl (Or.inl ⟨by rfl, ?_⟩) hHeld ?_
                      rotate_left
                      · (intro w _; go_simp; try (with_reducible rfl))
                      try simp only [Act.put, tl1, tl2, tl3]
                      refine tkH 15 ?_ rfl (Or.inl ⟨by rfl, ?_⟩) hHeld ?_
                      rotate_left
                      · (intro w _; go_simp; try (with_reducible rfl))
                      try simp only [Act.put, tl1, tl2, tl3]
                      refine tkH 16 ?_ rfl (Or.inl ⟨by rfl, ?_⟩) hHeld ?_
                      rotate_left
                      · (intro w _; go_simp; try (with_reducible rfl))
                      try simp only [Act.put, tl1, tl2, tl3]
                      refine tkH 17 ?_ rfl (Or.inl ⟨by rfl, ?_⟩) hHeld ?_
                      rotate_left
                      · (intro w _; go_simp; try (with_reducible rfl))
                      try simp only [Act.put, tl1, tl2, tl3]
                      refine tkH 18 ?_ rfl (Or.inl ⟨by rfl, ?_⟩) hHeld ?_
                      rotate_left
                      · (intro w _; go_simp; try (with_reducible rfl))
                      try simp only [Act.put, tl1, tl2, tl3]
                      refine tkH 19 ?_ rfl (Or.inl ⟨by rfl, ?_⟩) hHeld ?_
                      rotate_left
                      · (intro w hSw; (try dsimp only at hSw); obtain ⟨q0, q1, q2, q3⟩ := (hat3.bel (hb6.trans (hSw.mono hb6.size))).c4; obtain ⟨z0, z1, z2⟩ := (xu3.bel (hb6.trans (hSw.mono hb6.size))).c3; have d1 := ((hb6.trans (hSw.mono hb6.size)).cell (p := ⟨b, off + k * 3 + 1, none⟩) hbk).trans d1; go_simp; try (with_reducible rfl))
                      try simp only [Act.put, tl1, tl2, tl3]
                      refine tkH 20 ?_ rfl (Or.inl ⟨by rfl, ?_⟩) hHeld ?_
                      rotate_left
                      · (intro w _; go_simp; try (with_reducible rfl))
                      try simp only [Act.put, tl1, tl2, tl3]
                      refine tkH 21 ?_ rfl (Or.inl ⟨by rfl, ?_⟩) hHeld ?_
                      rotate_left
                      · (intro w _; go_simp; try (with_reducible rfl))
                      try simp only [Act.put, tl1, tl2, tl3]
                      refine tkH 22 ?_ rfl (Or.inl ⟨by rfl, ?_⟩) hHeld ?_
                      rotate_left
                      · (intro w _; go_simp; try (with_reducible rfl))
                      try simp only [Act.put, tl1, tl2, tl3]
                      refine tkH 23 ?_ rfl (Or.inl ⟨by rfl, ?_⟩) hHeld ?_
                      rotate_left
                      · (intro w _; go_simp; try (with_reducible rfl))
                      try simp only [Act.put, tl1, tl2, tl3]
                      refine tkH 24 _ rfl (Or.inr ⟨by rfl, rfl⟩) hHeld ?_
                      try simp only [Act.put, tl1, tl2, tl3]
                      refine tkH 25 _ rfl (Or.inr ⟨by rfl, rfl⟩) hHeld ?_
                      try simp only [Act.put, tl1, tl2, tl3]
                      refine tkH 26 _ rfl (Or.inr ⟨by rfl, rfl⟩) hHeld ?_
                      try simp only [Act.put, tl1, tl2, tl3]
                      refine tkH 27 _ rfl (Or.inr ⟨by rfl, rfl⟩) hHeld ?_
                      try simp only [Act.put, tl1, tl2, tl3]
                      refine tkH 28 _ rfl (Or.inr ⟨by rfl, rfl⟩) hHeld ?_
                      try simp only [Act.put, tl1, tl2, tl3]
                      refine tkH 29 _ rfl (Or.inr ⟨by rfl, rfl⟩) hHeld ?_
                      try simp only [Act.put, tl1, tl2, tl3]
                      refine tkH 30 _ rfl (Or.inr ⟨by rfl, rfl⟩) hHeld ?_
                      try simp only [Act.put, tl1, tl2, tl3]
                      refine tkH 31 _ rfl (Or.inr ⟨by rfl, rfl⟩) hHeld ?_
                      try simp only [Act.put, tl1, tl2, tl3]
                      refine tkH 32 _ rfl (Or.inr ⟨by rfl, rfl⟩) hHeld ?_
                      try simp only [Act.put, tl1, tl2, tl3]
                      refine tkH 33 _ rfl (Or.inr ⟨by rfl, rfl⟩) hHeld ?_
                      try simp only [Act.put, tl1, tl2, tl3]
                      refine tkH 34 _ rfl (Or.inr ⟨by rfl, rfl⟩) hHeld ?_
                      try simp only [Act.put, tl1, tl2, tl3]
                      refine tkH 35 ?_ rfl (Or.inl ⟨by rfl, ?_⟩) hHeld ?_
                      rotate_left
                      · (intro w _; go_simp; try (with_reducible rfl))
                      try simp only [Act.put, tl1, tl2, tl3]
                      refine wpAnyH_done (by kernel_rfl) ?_ _
                      go_wp2_with fail
                      exact ⟨⟨q + 1, by omega, by go_num, He.out.1, He.out.2, hb6.trans (hHeld.mono hb6.size)⟩, by simp [intOf]; omega⟩
                    · by_cases h2 : sk - x ≤ dry
                      · have He := hide (Hhit.out rfl (by simp [endB, h1, h2, h4]))
                        have fA : decide (x ≤ sk) = true := decide_eq_true h1
                        have fB : decide ((j : Int) < (k : Int)) = false := decide_eq_false (by omega)
                        have e4 : (x == t) = false := by simpa using h4
                        have e4' : decide (x = t) = false := decide_eq_false h4
                        have e4b : (x != t) = true := by simpa using h4
                        have e4c : decide (¬ x = t) = true := by simpa using h4
                        have fD : decide (sk - x ≤ dry) = true := decide_eq_true h2
                        go_wp2_with fail
                        refine wp_region_held_drew (S := (fun W => Below wr.heap.size wr W)) (by kernel_rfl) (by (try dsimp only); exact (Below.refl _ _).drew) (fun hHeld => ?_)
                        generalize World.drew wr = Wd14 at hHeld ⊢
                        have hbc := Below.refl Wd14.heap.size Wd14
                        refine tkH 0 ?_ rfl (Or.inl ⟨by rfl, ?_⟩) hHeld ?_
                        rotate_left
                        · (intro w _; go_simp; try (with_reducible rfl))
                        try simp only [Act.put, tl1, tl2, tl3]
                        refine tkH 1 ?_ rfl (Or.inl ⟨by rfl, ?_⟩) hHeld ?_
                        rotate_left
                        · (intro w _; go_simp; try (with_reducible rfl))
                        try simp only [Act.put, tl1, tl2, tl3]
                        refine tkH 2 ?_ rfl (Or.inl ⟨by rfl, ?_⟩) hHeld ?_
                        rotate_left
                        · (intro w _; go_simp; try (with_reducible rfl))
                        try simp only [Act.put, tl1, tl2, tl3]
                        refine tkH 3 ?_ rfl (Or.inl ⟨by rfl, ?_⟩) hHeld ?_
                        rotate_left
                        · (intro w _; go_simp; try (with_reducible rfl))
                        try simp only [Act.put, tl1, tl2, tl3]
                        refine tkH 4 ?_ rfl (Or.inl ⟨by rfl, ?_⟩) hHeld ?_
                        rotate_left
                        · (intro w _; go_simp; try (with_reducible rfl))
                        try simp only [Act.put, tl1, tl2, tl3]
                        refine tkH 5 ?_ rfl (Or.inl ⟨by rfl, ?_⟩) hHeld ?_
                        rotate_left
                        · (intro w _; go_simp; try (with_reducible rfl))
                        try simp only [Act.put, tl1, tl2, tl3]
                        refine tkH 6 ?_ rfl (Or.inl ⟨by rfl, ?_⟩) hHeld ?_
                        rotate_left
                        · (intro w _; go_simp; try (with_reducible rfl))
                        try simp only [Act.put, tl1, tl2, tl3]
                        refine tkH 7 ?_ rfl (Or.inl ⟨by rfl, ?_⟩) hHeld ?_
                        rotate_left
                        · (intro w _; go_simp; try (with_reducible rfl))
                        try simp only [Act.put, tl1, tl2, tl3]
                        refine tkH 8 ?_ rfl (Or.inl ⟨by rfl, ?_⟩) hHeld ?_
                        rotate_left
                        · (intro w hSw; (try dsimp only at hSw); obtain ⟨q0, q1, q2, q3⟩ := (hat3.bel (hb6.trans (hSw.mono hb6.size))).c4; obtain ⟨z0, z1, z2⟩ := (xu3.bel (hb6.trans (hSw.mono hb6.size))).c3; have d1 := ((hb6.trans (hSw.mono hb6.size)).cell (p := ⟨b, off + k * 3 + 1, none⟩) hbk).trans d1; go_simp; try (with_reducible rfl))
                        try simp only [Act.put, tl1, tl2, tl3]
                        refine tkH 9 ?_ rfl (Or.inl ⟨by rfl, ?_⟩) hHeld ?_
                        rotate_left
                        · (intro w _; go_simp; try (with_reducible rfl))
                        try simp only [Act.put, tl1, tl2, tl3]
                        refine tkH 10 ?_ rfl (Or.inl ⟨by rfl, ?_⟩) hHeld ?_
                        rotate_left
                        · (intro w _; go_simp; try (with_reducible rfl))
                        try simp only [Act.put, tl1, tl2, tl3]
                        refine tkH 11 ?_ rfl (Or.inl ⟨by rfl, ?_⟩) hHeld ?_
                        rotate_left
                        · (intro w _; go_simp; try (with_reducible rfl))
                        try simp only [Act.put, tl1, tl2, tl3]
                        refine tkH 12 ?_ rfl (Or.inl ⟨by rfl, ?_⟩) hHeld ?_
                        rotate_left
                        · (intro w _; go_simp; try (with_reducible rfl))
                        try simp only [Act.put, tl1, tl2, tl3]
                        refine tkH 13 ?_ rfl (Or.inl ⟨by rfl, ?_⟩) hHeld ?_
                        rotate_left
                        · (intro w _; go_simp; try (with_reducible rfl))
                        try simp only [Act.put, tl1, tl2, tl3]
                        refine tkH 14 ?_ rfl (Or.inl ⟨by rfl, ?_⟩) hHeld ?_
                        rotate_left
                        · (intro w _; go_simp; try (with_reducible rfl))
                        try simp only [Act.put, tl1, tl2, tl3]
                        refine tkH 15 ?_ rfl (Or.inl ⟨by rfl, ?_⟩) hHeld ?_
                        rotate_left
                        · (intro w _; go_simp; try (with_reducible rfl))
                        try simp only [Act.put, tl1, tl2, tl3]
                        refine tkH 16 ?_ rfl (Or.inl ⟨by rfl, ?_⟩) hHeld ?_
                        rotate_left
                        · (intro w _; go_simp; try (with_reducible rfl))
                        try simp only [Act.put, tl1, tl2, tl3]
                        refine tkH 17 ?_ rfl (Or.inl ⟨by rfl, ?_⟩) hHeld ?_
                        rotate_left
                        · (intro w _; go_simp; try (with_reducible rfl))
                        try simp only [Act.put, tl1, tl2, tl3]
                        refine tkH 18 ?_ rfl (Or.inl ⟨by rfl, ?_⟩) hHeld ?_
                        rotate_left
                        · (intro w _; go_simp; try (with_reducible rfl))
                        try simp only [Act.put, tl1, tl2, tl3]
                        refine tkH 19 ?_ rfl (Or.inl ⟨by rfl, ?_⟩) hHeld ?_
                        rotate_left
                        · (intro w hSw; (try dsimp only at hSw); obtain ⟨q0, q1, q2, q3⟩ := (hat3.bel (hb6.trans (hSw.mono hb6.size))).c4; obtain ⟨z0, z1, z2⟩ := (xu3.bel (hb6.trans (hSw.mono hb6.size))).c3; have d1 := ((hb6.trans (hSw.mono hb6.size)).cell (p := ⟨b, off + k * 3 + 1, none⟩) hbk).trans d1; go_simp; try (with_reducible rfl))
                        try simp only [Act.put, tl1, tl2, tl3]
                        refine tkH 20 ?_ rfl (Or.inl ⟨by rfl, ?_⟩) hHeld ?_
                        rotate_left
                        · (intro w _; go_simp; try (with_reducible rfl))
                        try simp only [Act.put, tl1, tl2, tl3]
                        refine tkH 21 ?_ rfl (Or.inl ⟨by rfl, ?_⟩) hHeld ?_
                        rotate_left
                        · (intro w _; go_simp; try (with_reducible rfl))
                        try simp only [Act.put, tl1, tl2, tl3]
                        refine tkH 22 ?_ rfl (Or.inl ⟨by rfl, ?_⟩) hHeld ?_
                        rotate_left
                        · (intro w _; go_simp; try (with_reducible rfl))
                        try simp only [Act.put, tl1, tl2, tl3]
                        refine tkH 23 ?_ rfl (Or.inl ⟨by rfl, ?_⟩) hHeld ?_
                        rotate_left
                        · (intro w _; go_simp; try (with_reducible rfl))
                        try simp only [Act.put, tl1, tl2, tl3]
                        refine tkH 24 ?_ rfl (Or.inl ⟨by rfl, ?_⟩) hHeld ?_
                        rotate_left
                        · (intro w _; go_simp; try (with_reducible rfl))
                        try simp only [Act.put, tl1, tl2, tl3]
                        refine tkH 25 ?_ rfl (Or.inl ⟨by rfl, ?_⟩) hHeld ?_
                        rotate_left
                        · (intro w _; go_simp; try (with_reducible rfl))
                        try simp only [Act.put, tl1, tl2, tl3]
                        refine tkH 26 ?_ rfl (Or.inl ⟨by rfl, ?_⟩) hHeld ?_
                        rotate_left
                        · (intro w _; go_simp; try (with_reducible rfl))
                        try simp only [Act.put, tl1, tl2, tl3]
                        refine tkH 27 ?_ rfl (Or.inl ⟨by rfl, ?_⟩) hHeld ?_
                        rotate_left
                        · (intro w _; go_simp; try (with_reducible rfl))
                        try simp only [Act.put, tl1, tl2, tl3]
                        refine tkH 28 ?_ rfl (Or.inl ⟨by rfl, ?_⟩) hHeld ?_
                        rotate_left
                        · (intro w _; go_simp; try (with_reducible rfl))
                        try simp only [Act.put, tl1, tl2, tl3]
                        refine tkH 29 ?_ rfl (Or.inl ⟨by rfl, ?_⟩) hHeld ?_
                        rotate_left
                        · (intro w hSw; (try dsimp only at hSw); obtain ⟨q0, q1, q2, q3⟩ := (hat3.bel (hb6.trans (hSw.mono hb6.size))).c4; obtain ⟨z0, z1, z2⟩ := (xu3.bel (hb6.trans (hSw.mono hb6.size))).c3; have d1 := ((hb6.trans (hSw.mono hb6.size)).cell (p := ⟨b, off + k * 3 + 1, none⟩) hbk).trans d1; go_simp; try (with_reducible rfl))
                        try simp only [Act.put, tl1, tl2, tl3]
                        refine tkH 30 ?_ rfl (Or.inl ⟨by rfl, ?_⟩) hHeld ?_
                        rotate_left
                        · (intro w _; go_simp; try (with_reducible rfl))
                        try simp only [Act.put, tl1, tl2, tl3]
                        refine tkH 31 ?_ rfl (Or.inl ⟨by rfl, ?_⟩) hHeld ?_
                        rotate_left
                        · (intro w _; go_simp; try (with_reducible rfl))
                        try simp only [Act.put, tl1, tl2, tl3]
                        refine tkH 32 ?_ rfl (Or.inl ⟨by rfl, ?_⟩) hHeld ?_
                        rotate_left
                        · (intro w _; go_simp; try (with_reducible rfl))
                        try simp only [Act.put, tl1, tl2, tl3]
                        refine tkH 33 ?_ rfl (Or.inl ⟨by rfl, ?_⟩) hHeld ?_
                        rotate_left
                        · (intro w hSw; (try dsimp only at hSw); obtain ⟨q0, q1, q2, q3⟩ := (hat3.bel (hb6.trans (hSw.mono hb6.size))).c4; obtain ⟨z0, z1, z2⟩ := (xu3.bel (hb6.trans (hSw.mono hb6.size))).c3; have d1 := ((hb6.trans (hSw.mono hb6.size)).cell (p := ⟨b, off + k * 3 + 1, none⟩) hbk).trans d1; go_simp; try (with_reducible rfl))
                        try simp only [Act.put, tl1, tl2, tl3]
                        refine tkH 34 ?_ rfl (Or.inl ⟨by rfl, ?_⟩) hHeld ?_
                        rotate_left
                        · (intro w _; go_simp; try (with_reducible rfl))
                        try simp only [Act.put, tl1, tl2, tl3]
                        refine tkH 35 ?_ rfl (Or.inl ⟨by rfl, ?_⟩) hHeld ?_
                        rotate_left
                        · (intro w _; go_simp; try (with_reducible rfl))
                        try simp only [Act.put, tl1, tl2, tl3]
                        refine wpAnyH_done (by kernel_rfl) ?_ _
                        go_wp2_with fail
                        go_ret
                        exact ⟨ret_bool He.out.symm, hb.trans ((hb6.trans (hHeld.mono hb6.size)).mono hb.size)⟩
                      · have He := hide (Hgo.out (fun _ => by simp [endB, h2]))
                        have fA : decide (x ≤ sk) = true := decide_eq_true h1
                        have fB : decide ((j : Int) < (k : Int)) = false := decide_eq_false (by omega)
                        have e4 : (x == t) = false := by simpa using h4
                        have e4' : decide (x = t) = false := decide_eq_false h4
                        have e4b : (x != t) = true := by simpa using h4
                        have e4c : decide (¬ x = t) = true := by simpa using h4
                        have fD : decide (sk - x ≤ dry) = false := decide_eq_false h2
                        go_wp2_with fail
                        refine wp_region_held_drew (S := (fun W => Below wr.heap.size wr W)) (by kernel_rfl) (by (try dsimp only); exact (Below.refl _ _).drew) (fun hHeld => ?_)
                        generalize World.drew wr = Wd14 at hHeld ⊢
                        have hbc := Below.refl Wd14.heap.size Wd14
                        refine tkH 0 ?_ rfl (Or.inl ⟨by rfl, ?_⟩) hHeld ?_
                        rotate_left
                        · (intro w _; go_simp; try (with_reducible rfl))
                        try simp only [Act.put, tl1, tl2, tl3]
                        refine tkH 1 ?_ rfl (Or.inl ⟨by rfl, ?_⟩) hHeld ?_
                        rotate_left
                        · (intro w _; go_simp; try (with_reducible rfl))
                        try simp only [Act.put, tl1, tl2, tl3]
                        refine tkH 2 ?_ rfl (Or.inl ⟨by rfl, ?_⟩) hHeld ?_
                        rotate_left
                        · (intro w _; go_simp; try (with_reducible rfl))
                        try simp only [Act.put, tl1, tl2, tl3]
                        refine tkH 3 ?_ rfl (Or.inl ⟨by rfl, ?_⟩) hHeld ?_
                        rotate_left
                        · (intro w _; go_simp; try (with_reducible rfl))
                        try simp only [Act.put, tl1, tl2, tl3]
                        refine tkH 4 ?_ rfl (Or.inl ⟨by rfl, ?_⟩) hHeld ?_
                        rotate_left
                        · (intro w _; go_simp; try (with_reducible rfl))
                        try simp only [Act.put, tl1, tl2, tl3]
                        refine tkH 5 ?_ rfl (Or.inl ⟨by rfl, ?_⟩) hHeld ?_
                        rotate_left
                        · (intro w _; go_simp; try (with_reducible rfl))
                        try simp only [Act.put, tl1, tl2, tl3]
                        refine tkH 6 ?_ rfl (Or.inl ⟨by rfl, ?_⟩) hHeld ?_
                        rotate_left
                        · (intro w _; go_simp; try (with_reducible rfl))
                        try simp only [Act.put, tl1, tl2, tl3]
                        refine tkH 7 ?_ rfl (Or.inl ⟨by rfl, ?_⟩) hHeld ?_
                        rotate_left
                        · (intro w _; go_simp; try (with_reducible rfl))
                        try simp only [Act.put, tl1, tl2, tl3]
                        refine tkH 8 ?_ rfl (Or.inl ⟨by rfl, ?_⟩) hHeld ?_
                        rotate_left
                        · (intro w hSw; (try dsimp only at hSw); obtain ⟨q0, q1, q2, q3⟩ := (hat3.bel (hb6.trans (hSw.mono hb6.size))).c4; obtain ⟨z0, z1, z2⟩ := (xu3.bel (hb6.trans (hSw.mono hb6.size))).c3; have d1 := ((hb6.trans (hSw.mono hb6.size)).cell (p := ⟨b, off + k * 3 + 1, none⟩) hbk).trans d1; go_simp; try (with_reducible rfl))
                        try simp only [Act.put, tl1, tl2, tl3]
                        refine tkH 9 ?_ rfl (Or.inl ⟨by rfl, ?_⟩) hHeld ?_
                        rotate_left
                        · (intro w _; go_simp; try (with_reducible rfl))
                        try simp only [Act.put, tl1, tl2, tl3]
                        refine tkH 10 ?_ rfl (Or.inl ⟨by rfl, ?_⟩) hHeld ?_
                        rotate_left
                        · (intro w _; go_simp; try (with_reducible rfl))
                        try simp only [Act.put, tl1, tl2, tl3]
                        refine tkH 11 ?_ rfl (Or.inl ⟨by rfl, ?_⟩) hHeld ?_
                        rotate_left
                        · (intro w _; go_simp; try (with_reducible rfl))
                        try simp only [Act.put, tl1, tl2, tl3]
                        refine tkH 12 ?_ rfl (Or.inl ⟨by rfl, ?_⟩) hHeld ?_
                        rotate_left
                        · (intro w _; go_simp; try (with_reducible rfl))
                        try simp only [Act.put, tl1, tl2, tl3]
                        refine tkH 13 ?_ rfl (Or.inl ⟨by rfl, ?_⟩) hHeld ?_
                        rotate_left
                        · (intro w _; go_simp; try (with_reducible rfl))
                        try simp only [Act.put, tl1, tl2, tl3]
                        refine tkH 14 ?_ rfl (Or.inl ⟨by rfl, ?_⟩) hHeld ?_
                        rotate_left
                        · (intro w _; go_simp; try (with_reducible rfl))
                        try simp only [Act.put, tl1, tl2, tl3]
                        refine tkH 15 ?_ rfl (Or.inl ⟨by rfl, ?_⟩) hHeld ?_
                        rotate_left
                        · (intro w _; go_simp; try (with_reducible rfl))
                        try simp only [Act.put, tl1, tl2, tl3]
                        refine tkH 16 ?_ rfl (Or.inl ⟨by rfl, ?_⟩) hHeld ?_
                        rotate_left
                        · (intro w _; go_simp; try (with_reducible rfl))
                        try simp only [Act.put, tl1, tl2, tl3]
                        refine tkH 17 ?_ rfl (Or.inl ⟨by rfl, ?_⟩) hHeld ?_
                        rotate_left
                        · (intro w _; go_simp; try (with_reducible rfl))
                        try simp only [Act.put, tl1, tl2, tl3]
                        refine tkH 18 ?_ rfl (Or.inl ⟨by rfl, ?_⟩) hHeld ?_
                        rotate_left
                        · (intro w _; go_simp; try (with_reducible rfl))
                        try simp only [Act.put, tl1, tl2, tl3]
                        refine tkH 19 ?_ rfl (Or.inl ⟨by rfl, ?_⟩) hHeld ?_
                        rotate_left
                        · (intro w hSw; (try dsimp only at hSw); obtain ⟨q0, q1, q2, q3⟩ := (hat3.bel (hb6.trans (hSw.mono hb6.size))).c4; obtain ⟨z0, z1, z2⟩ := (xu3.bel (hb6.trans (hSw.mono hb6.size))).c3; have d1 := ((hb6.trans (hSw.mono hb6.size)).cell (p := ⟨b, off + k * 3 + 1, none⟩) hbk).trans d1; go_simp; try (with_reducible rfl))
                        try simp only [Act.put, tl1, tl2, tl3]
                        refine tkH 20 ?_ rfl (Or.inl ⟨by rfl, ?_⟩) hHeld ?_
                        rotate_left
                        · (intro w _; go_simp; try (with_reducible rfl))
                        try simp only [Act.put, tl1, tl2, tl3]
                        refine tkH 21 ?_ rfl (Or.inl ⟨by rfl, ?_⟩) hHeld ?_
                        rotate_left
                        · (intro w _; go_simp; try (with_reducible rfl))
                        try simp only [Act.put, tl1, tl2, tl3]
                        refine tkH 22 ?_ rfl (Or.inl ⟨by rfl, ?_⟩) hHeld ?_
                        rotate_left
                        · (intro w _; go_simp; try (with_reducible rfl))
                        try simp only [Act.put, tl1, tl2, tl3]
                        refine tkH 23 ?_ rfl (Or.inl ⟨by rfl, ?_⟩) hHeld ?_
                        rotate_left
                        · (intro w _; go_simp; try (with_reducible rfl))
                        try simp only [Act.put, tl1, tl2, tl3]
                        refine tkH 24 ?_ rfl (Or.inl ⟨by rfl, ?_⟩) hHeld ?_
                        rotate_left
                        · (intro w _; go_simp; try (with_reducible rfl))
                        try simp only [Act.put, tl1, tl2, tl3]
                        refine tkH 25 ?_ rfl (Or.inl ⟨by rfl, ?_⟩) hHeld ?_
                        rotate_left
                        · (intro w _; go_simp; try (with_reducible rfl))
                        try simp only [Act.put, tl1, tl2, tl3]
                        refine tkH 26 ?_ rfl (Or.inl ⟨by rfl, ?_⟩) hHeld ?_
                        rotate_left
                        · (intro w _; go_simp; try (with_reducible rfl))
                        try simp only [Act.put, tl1, tl2, tl3]
                        refine tkH 27 ?_ rfl (Or.inl ⟨by rfl, ?_⟩) hHeld ?_
                        rotate_left
                        · (intro w _; go_simp; try (with_reducible rfl))
                        try simp only [Act.put, tl1, tl2, tl3]
                        refine tkH 28 ?_ rfl (Or.inl ⟨by rfl, ?_⟩) hHeld ?_
                        rotate_left
                        · (intro w _; go_simp; try (with_reducible rfl))
                        try simp only [Act.put, tl1, tl2, tl3]
                        refine tkH 29 ?_ rfl (Or.inl ⟨by rfl, ?_⟩) hHeld ?_
                        rotate_left
                        · (intro w hSw; (try dsimp only at hSw); obtain ⟨q0, q1, q2, q3⟩ := (hat3.bel (hb6.trans (hSw.mono hb6.size))).c4; obtain ⟨z0, z1, z2⟩ := (xu3.bel (hb6.trans (hSw.mono hb6.size))).c3; have d1 := ((hb6.trans (hSw.mono hb6.size)).cell (p := ⟨b, off + k * 3 + 1, none⟩) hbk).trans d1; go_simp; try (with_reducible rfl))
                        try simp only [Act.put, tl1, tl2, tl3]
                        refine tkH 30 ?_ rfl (Or.inl ⟨by rfl, ?_⟩) hHeld ?_
                        rotate_left
                        · (intro w _; go_simp; try (with_reducible rfl))
                        try simp only [Act.put, tl1, tl2, tl3]
                        refine tkH 31 ?_ rfl (Or.inl ⟨by rfl, ?_⟩) hHeld ?_
                        rotate_left
                        · (intro w _; go_simp; try (with_reducible rfl))
                        try simp only [Act.put, tl1, tl2, tl3]
                        refine tkH 32 ?_ rfl (Or.inl ⟨by rfl, ?_⟩) hHeld ?_
                        rotate_left
                        · (intro w _; go_simp; try (with_reducible rfl))
                        try simp only [Act.put, tl1, tl2, tl3]
                        refine tkH 33 ?_ rfl (Or.inl ⟨by rfl, ?_⟩) hHeld ?_
                        rotate_left
                        · (intro w hSw; (try dsimp only at hSw); obtain ⟨q0, q1, q2, q3⟩ := (hat3.bel (hb6.trans (hSw.mono hb6.size))).c4; obtain ⟨z0, z1, z2⟩ := (xu3.bel (hb6.trans (hSw.mono hb6.size))).c3; have d1 := ((hb6.trans (hSw.mono hb6.size)).cell (p := ⟨b, off + k * 3 + 1, none⟩) hbk).trans d1; go_simp; try (with_reducible rfl))
                        try simp only [Act.put, tl1, tl2, tl3]
                        refine tkH 34 ?_ rfl (Or.inl ⟨by rfl, ?_⟩) hHeld ?_
                        rotate_left
                        · (intro w _; go_simp; try (with_reducible rfl))
                        try simp only [Act.put, tl1, tl2, tl3]
                        refine tkH 35 ?_ rfl (Or.inl ⟨by rfl, ?_⟩) hHeld ?_
                        rotate_left
                        · (intro w _; go_simp; try (with_reducible rfl))
                        try simp only [Act.put, tl1, tl2, tl3]
                        refine wpAnyH_done (by kernel_rfl) ?_ _
                        go_wp2_with fail
                        exact ⟨⟨q + 1, by omega, by go_num, He.out.1, He.out.2, hb6.trans (hHeld.mono hb6.size)⟩, by simp [intOf]; omega⟩
                · have He := hide (Hgo.out (fun _ => by simp [endB, h1]))
                  have fA : decide (x ≤ sk) = false := decide_eq_false h1
                  go_wp2_with fail
                  refine wp_region_held_drew (S := (fun W => Below wr.heap.size wr W)) (by kernel_rfl) (by (try dsimp only); exact (Below.refl _ _).drew) (fun hHeld => ?_)
                  generalize World.drew wr = Wd14 at hHeld ⊢
                  have hbc := Below.refl Wd14.heap.size Wd14
                  refine tkH 0 ?_ rfl (Or.inl ⟨by rfl, ?_⟩) hHeld ?_
                  rotate_left
                  · (intro w _; go_simp; try (with_reducible rfl))
                  try simp only [Act.put, tl1, tl2, tl3]
                  refine tkH 1 ?_ rfl (Or.inl ⟨by rfl, ?_⟩) hHeld ?_
                  rotate_left
                  · (intro w _; go_simp; try (with_reducible rfl))
                  try simp only [Act.put, tl1, tl2, tl3]
                  refine tkH 2 ?_ rfl (Or.inl ⟨by rfl, ?_⟩) hHeld ?_
                  rotate_left
                  · (intro w _; go_simp; try (with_reducible rfl))
                  try simp only [Act.put, tl1, tl2, tl3]
                  refine tkH 3 ?_ rfl (Or.inl ⟨by rfl, ?_⟩) hHeld ?_
                  rotate_left
                  · (intro w _; go_simp; try (with_reducible rfl))
                  try simp only [Act.put, tl1, tl2, tl3]
                  refine tkH 4 ?_ rfl (Or.inl ⟨by rfl, ?_⟩) hHeld ?_
                  rotate_left
                  · (intro w _; go_simp; try (with_reducible rfl))
                  try simp only [Act.put, tl1, tl2, tl3]
                  refine tkH 5 ?_ rfl (Or.inl ⟨by rfl, ?_⟩) hHeld ?_
                  rotate_left
                  · (intro w _; go_simp; try (with_reducible rfl))
                  try simp only [Act.put, tl1, tl2, tl3]
                  refine tkH 6 ?_ rfl (Or.inl ⟨by rfl, ?_⟩) hHeld ?_
                  rotate_left
                  · (intro w _; go_simp; try (with_reducible rfl))
                  try simp only [Act.put, tl1, tl2, tl3]
                  refine tkH 7 ?_ rfl (Or.inl ⟨by rfl, ?_⟩) hHeld ?_
                  rotate_left
                  · (intro w _; go_simp; try (with_reducible rfl))
                  try simp only [Act.put, tl1, tl2, tl3]
                  refine tkH 8 ?_ rfl (Or.inl ⟨by rfl, ?_⟩) hHeld ?_
                  rotate_left
                  · (intro w hSw; (try dsimp only at hSw); obtain ⟨q0, q1, q2, q3⟩ := (hat3.bel (hb6.trans (hSw.mono hb6.size))).c4; obtain ⟨z0, z1, z2⟩ := (xu3.bel (hb6.trans (hSw.mono hb6.size))).c3; have d1 := ((hb6.trans (hSw.mono hb6.size)).cell (p := ⟨b, off + k * 3 + 1, none⟩) hbk).trans d1; go_simp; try (with_reducible rfl))
                  try simp only [Act.put, tl1, tl2, tl3]
                  refine tkH 9 ?_ rfl (Or.inl ⟨by rfl, ?_⟩) hHeld ?_
                  rotate_left
                  · (intro w _; go_simp; try (with_reducible rfl))
                  try simp only [Act.put, tl1, tl2, tl3]
                  refine tkH 10 ?_ rfl (Or.inl ⟨by rfl, ?_⟩) hHeld ?_
                  rotate_left
                  · (intro w _; go_simp; try (with_reducible rfl))
                  try simp only [Act.put, tl1, tl2, tl3]
                  refine tkH 11 ?_ rfl (Or.inl ⟨by rfl, ?_⟩) hHeld ?_
                  rotate_left
                  · (intro w _; go_simp; try (with_reducible rfl))
                  try simp only [Act.put, tl1, tl2, tl3]
                  refine tkH 12 _ rfl (Or.inr ⟨by rfl, rfl⟩) hHeld ?_
                  try simp only [Act.put, tl1, tl2, tl3]
                  refine tkH 13 _ rfl (Or.inr ⟨by rfl, rfl⟩) hHeld ?_
                  try simp only [Act.put, tl1, tl2, tl3]
                  refine tkH 14 _ rfl (Or.inr ⟨by rfl, rfl⟩) hHeld ?_
                  try simp only [Act.put, tl1, tl2, tl3]
                  refine tkH 15 _ rfl (Or.inr ⟨by rfl, rfl⟩) hHeld ?_
                  try simp only [Act.put, tl1, tl2, tl3]
                  refine tkH 16 _ rfl (Or.inr ⟨by rfl, rfl⟩) hHeld ?_
                  try simp only [Act.put, tl1, tl2, tl3]
                  refine tkH 17 _ rfl (Or.inr ⟨by rfl, rfl⟩) hHeld ?_
                  try simp only [Act.put, tl1, tl2, tl3]
                  refine tkH 18 _ rfl (Or.inr ⟨by rfl, rfl⟩) hHeld ?_
                  try simp only [Act.put, tl1, tl2, tl3]
                  refine tkH 19 _ rfl (Or.inr ⟨by rfl, rfl⟩) hHeld ?_
                  try simp only [Act.put, tl1, tl2, tl3]
                  refine tkH 20 _ rfl (Or.inr ⟨by rfl, rfl⟩) hHeld ?_
                  try simp only [Act.put, tl1, tl2, tl3]
                  refine tkH 21 _ rfl (Or.inr ⟨by rfl, rfl⟩) hHeld ?_
                  try simp only [Act.put, tl1, tl2, tl3]
                  refine tkH 22 ?_ rfl (Or.inl ⟨by rfl, ?_⟩) hHeld ?_
                  rotate_left
                  · (intro w _; go_simp; try (with_reducible rfl))
                  try simp only [Act.put, tl1, tl2, tl3]
                  refine tkH 23 ?_ rfl (Or.inl ⟨by rfl, ?_⟩) hHeld ?_
                  rotate_left
                  · (intro w _; go_simp; try (with_reducible rfl))
                  try simp only [Act.put, tl1, tl2, tl3]
                  refine tkH 24 _ rfl (Or.inr ⟨by rfl, rfl⟩) hHeld ?_
                  try simp only [Act.put, tl1, tl2, tl3]
                  refine tkH 25 _ rfl (Or.inr ⟨by rfl, rfl⟩) hHeld ?_
                  try simp only [Act.put, tl1, tl2, tl3]
                  refine tkH 26 _ rfl (Or.inr ⟨by rfl, rfl⟩) hHeld ?_
                  try simp only [Act.put, tl1, tl2, tl3]
                  refine tkH 27 _ rfl (Or.inr ⟨by rfl, rfl⟩) hHeld ?_
                  try simp only [Act.put, tl1, tl2, tl3]
                  refine tkH 28 _ rfl (Or.inr ⟨by rfl, rfl⟩) hHeld ?_
                  try simp only [Act.put, tl1, tl2, tl3]
                  refine tkH 29 _ rfl (Or.inr ⟨by rfl, rfl⟩) hHeld ?_
                  try simp only [Act.put, tl1, tl2, tl3]
                  refine tkH 30 _ rfl (Or.inr ⟨by rfl, rfl⟩) hHeld ?_
                  try simp only [Act.put, tl1, tl2, tl3]
                  refine tkH 31 _ rfl (Or.inr ⟨by rfl, rfl⟩) hHeld ?_
                  try simp only [Act.put, tl1, tl2, tl3]
                  refine tkH 32 _ rfl (Or.inr ⟨by rfl, rfl⟩) hHeld ?_
                  try simp only [Act.put, tl1, tl2, tl3]
                  refine tkH 33 _ rfl (Or.inr ⟨by rfl, rfl⟩) hHeld ?_
                  try simp only [Act.put, tl1, tl2, tl3]
                  refine tkH 34 _ rfl (Or.inr ⟨by rfl, rfl⟩) hHeld ?_
                  try simp only [Act.put, tl1, tl2, tl3]
                  refine tkH 35 ?_ rfl (Or.inl ⟨by rfl, ?_⟩) hHeld ?_
                  rotate_left
                  · (intro w _; go_simp; try (with_reducible rfl))
                  try simp only [Act.put, tl1, tl2, tl3]
                  refine wpAnyH_done (by kernel_rfl) ?_ _
                  go_wp2_with fail
                  exact ⟨⟨q + 1, by omega, by go_num, He.out.1, He.out.2, hb6.trans (hHeld.mono hb6.size)⟩, by simp [intOf]; omega⟩
            · obtain rfl : q = 2 := by omega
              have hnw : wetB cs fs dry (days * 1440) k j ⟨fk, sk, tk⟩ ⟨f, s, t⟩ c = false := by
                unfold wetB
                have h3 := Hcr.out
                rw [Hpe.out] at h3
                rw [← h3]
                cases cr
                · rfl
                · rw [Hw1.out (by omega) rfl, Hw2.out (by omega) rfl]; rfl
              have hps := parTo_snoc (cs := cs) (fs := fs) (dry := dry) (cyc := days * 1440) (a := k) (ua := ⟨fk, sk, tk⟩) (c := c) Hx.out
              rw [hnw, Hpar.out] at hps
              have Hps := hide hps
              clear hnw hps
              go_wp2_with fail
              exact ⟨⟨j + 1, by omega, by go_num, Hps.out, hat3.bel hb6, hb.trans (hb6.mono hb.size)⟩, by simp [intOf]; omega⟩
    · obtain rfl : j = nu := by omega
      go_wp2_with fail
      go_ret
      refine ⟨ret_bool ?_, hb⟩
      rw [← Hn.out, Hpar.out]
end Go.Proofs.Ytgklcilpohkpkaa
