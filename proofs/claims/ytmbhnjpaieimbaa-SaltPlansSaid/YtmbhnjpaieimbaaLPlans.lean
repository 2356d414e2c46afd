/- SaltPlans: the cheapest plan, and the fields that lack minutes, or the errors, are the specification's; needs and rents stay. The law returns true for all needs and rents. No conditions. -/
import Derived.Test.YtmbhnjpaieimbaaPC6
import Derived.Test.YtmbhnjpaieimbaaPC7
import Derived.Test.YtmbhnjpaieimbaaPC8
import Derived.Test.YtmbhnjpaieimbaaOpenR
set_option linter.unusedVariables false
set_option linter.unusedSimpArgs false
namespace Go.Proofs.Ytmbhnjpaieimbaa
open Go.RowKit Go.Shelf Go.WideShapes Go.ChangeShapes Go.ChangeAt
theorem Rows.belR {α : Type} {w w' : World} {cells : α → List Value} {ss : List Sl} {xss : List (List α)} (h : Rows w w.heap.size cells ss xss) (hb : Below w.heap.size w w') : Rows w' w'.heap.size cells ss xss := (h.below hb).more hb.size
theorem planF_small (ns : List Int) (rs : List Rr) : (planF ns rs).1.length ≤ 8 ∧ ∀ xs ∈ (planF ns rs).1, xs.length ≤ 8 := by
  by_cases hok : rentsOk ns rs = true
  · have h := RentsOk.of hok
    by_cases hf : (boR ns rs).Feas (capsR rs)
    · obtain ⟨p, c, e, hp, _⟩ := plan_planned h hf
      rw [e]
      refine ⟨by show p.length ≤ 8; rw [hp.len]; exact h.rl, fun xs hx => ?_⟩
      obtain ⟨j, hj, hjx⟩ := List.getElem_of_mem hx
      have h1 := hp.row j (by rw [← hp.len]; exact hj)
      rw [List.getD_eq_getElem?_getD, List.getElem?_eq_getElem hj, hjx] at h1
      have h2 : xs.length = ns.length := h1
      rw [h2]; exact h.nl
    · rw [plan_none h hf]; simp
  · unfold planF
    rw [if_neg hok]; simp
set_option maxHeartbeats 40000000 in
set_option maxRecDepth 100000 in
theorem splans_walk (A1 A2 : Option Addr) (m c1 r c2 : Nat) (ns : List Int) (rs : List Rr) (w : World) (hN : Rd w w.heap.size icell A1 ns) (hm : m = ns.length) (hm2 : m ≤ 9223372036854775807) (hR : RsAt0 w A2 r rs) (hr2 : r ≤ 9223372036854775807) :
    Calls Try.prog 5 #[.slice A1 m c1, .slice A2 r c2] w fun e w' => e = .returned (.bool true) ∧ Below w.heap.size w w' := by
  have Hm := hide hm; have HN := hide hN; have HR0 := hide hR
  have Gr := hide (great6_any A1 A2 m c1 r c2 ns rs w hm hm2 hR hr2)
  clear hm hN hR
  go_enter Try.func5, Try.ntmps5
  go_wp2_with fail
  refine Gr.out.mono ?_
  rintro e w1 ⟨rfl, hb1⟩
  cases hg : greatF ns rs
  rotate_left
  · clear hg
    go_wp2_with fail
    go_ret
    exact ⟨rfl, hb1⟩
  obtain ⟨hR, hr12, hm12, _⟩ := HR0.out.small (ns := ns) hg
  have HR := hide hR
  have hm12 : m ≤ 12 := by rw [Hm.out]; exact hm12
  have HB1 := hide hb1
  have L20 := hide (lit0 (cells := icell) w1 3 1 w1.heap.size (fun _ => rfl) (Nat.le_refl _))
  have hb20 := hide (below_new w1 (.cells #[] 3))
  have R20 := hide ((HN.out.bel hb1).bel hb20.out)
  clear hg hR hb1 Gr HR0
  go_wp2_with (at_builtin; refine wpList_fresh el_int rfl (.tmp 20) (.tmp 21) rfl rfl L20.out Hm.out.symm rfl R20.out (by omega) hb20.out.size ?_; intro v w2 o2 k2 hat; have O2 := hide o2; have K2 := hide k2; clear o2 k2 hat)
  obtain ⟨AN, cN, rfl, rN⟩ := O2.out.rdn m Hm.out.symm
  have hB2 := HB1.out.trans ((hb20.out.trans (K2.out.mono hb20.out.size)).mono HB1.out.size)
  clear L20 hb20 R20 O2 K2
  refine (rtwin_any A2 r c2 rs w2 (HR.out.bel hB2) (by omega)).mono ?_
  rintro e w3 ⟨AT, cT, rs', rfl, hT, hst, hb3⟩
  have hB3 := hB2.trans (hb3.mono hB2.size)
  have Hst := hide hst
  replace rN := rN.bel hb3
  clear hb3 hB2 hst
  go_wp2_with fail
  refine (plan_any AN AT m cN r cT ns rs' w3 rN Hm.out hm2 hT hr2).mono ?_
  rintro e w4 ⟨vA, rfl, ⟨ssA, oA, rA⟩, hb4⟩
  rw [planF_twin Hst.out] at rA ⊢
  have hB4 := hB3.trans (hb4.mono hB3.size)
  replace rN := rN.bel hb4; replace hT := hT.bel hb4
  obtain ⟨A4, c4, rfl, pA⟩ := oA.rdn _ rfl
  have ssAl : ssA.length = (planF ns rs).1.length := rA.len
  rw [ssAl]
  clear hb4 hB3 oA ssAl
  go_wp2_with fail
  refine (rplan_any A1 A2 m c1 r c2 ns rs w4 (HN.out.bel hB4) Hm.out hm2 (HR.out.bel hB4) hr2).mono ?_
  rintro e w5 ⟨vB, rfl, ⟨ssB, oB, rB⟩, hb5⟩
  have hB5 := hB4.trans (hb5.mono hB4.size)
  replace rN := rN.bel hb5; replace hT := hT.bel hb5; replace pA := pA.bel hb5; replace rA := rA.belR hb5
  obtain ⟨A5, c5, rfl, pB⟩ := oB.rdn _ rfl
  have ssBl : ssB.length = (planF ns rs).1.length := rB.len
  rw [ssBl]
  clear hb5 hB4 oB ssBl
  go_wp2_with fail
  refine (lackR_any AN AT m cN r cT ns rs' w5 rN Hm.out hm2 hT hr2).mono ?_
  rintro e w6 ⟨A6, n6, c6, rfl, hn6, hn68, r6, hb6⟩
  rw [lackF_twin Hst.out] at hn6 r6 ⊢
  replace hn6 := hide hn6
  have hB6 := hB5.trans (hb6.mono hB5.size)
  replace rN := rN.bel hb6; replace hT := hT.bel hb6; replace pA := pA.bel hb6; replace rA := rA.belR hb6; replace pB := pB.bel hb6; replace rB := rB.belR hb6
  clear hb6 hB5
  go_wp2_with fail
  refine (rlack_any A1 A2 m c1 r c2 ns rs w6 (HN.out.bel hB6) Hm.out hm2 (HR.out.bel hB6) hr2).mono ?_
  rintro e w7 ⟨A7, n7, c7, rfl, hn7, hn78, r7, hb7⟩
  have hB7 := hB6.trans (hb7.mono hB6.size)
  replace rN := rN.bel hb7; replace hT := hT.bel hb7; replace pA := pA.bel hb7; replace rA := rA.belR hb7; replace pB := pB.bel hb7; replace rB := rB.belR hb7; replace r6 := r6.bel hb7
  clear hb7 hB6
  replace hn6 := hn6.out
  obtain ⟨pl, hpl⟩ : ∃ pl, pl = (planF ns rs).1 := ⟨_, rfl⟩
  obtain ⟨pc, hpc⟩ : ∃ pc, pc = (planF ns rs).2.1 := ⟨_, rfl⟩
  obtain ⟨pe, hpe⟩ : ∃ pe, pe = (planF ns rs).2.2 := ⟨_, rfl⟩
  obtain ⟨ll, hll⟩ : ∃ ll, ll = (lackF ns rs).1 := ⟨_, rfl⟩
  obtain ⟨le, hle⟩ : ∃ le, le = (lackF ns rs).2 := ⟨_, rfl⟩
  have hsm := planF_small ns rs
  rw [← hpl] at rA rB hsm ⊢
  rw [← hll] at hn6 hn7 r6 r7
  rw [← hpc, ← hpe, ← hle]
  have hn67 : n6 = n7 := hn6.trans hn7.symm
  subst hn67
  obtain ⟨np, hnp⟩ : ∃ np, np = pl.length := ⟨_, rfl⟩
  rw [← hnp]
  have Hnp := hide hnp; have Hn6 := hide hn6; have Hsm := hide hsm
  clear hpl hpc hpe hll hle hsm hnp hn6 hn7
  go_wp2_with fail
  refine (sameLists_true _ _ _ _ pl np c4 c5 w7 Hnp.out (by have := Hsm.out.1; have := Hnp.out; omega) pA pB rA rB (fun xs hx => by have := Hsm.out.2 xs hx; omega)).mono ?_
  rintro e w8 ⟨rfl, hb8⟩
  replace hB7 := hB7.trans (hb8.mono hB7.size)
  replace rN := rN.bel hb8; replace hT := hT.bel hb8; replace r6 := r6.bel hb8; replace r7 := r7.bel hb8
  have t1 : (pc == pc) = true := by simp
  have t2 : (pe == pe) = true := by simp
  have t3 : (le == le) = true := by simp
  clear hb8 pA pB rA rB
  go_wp2_with fail
  refine (same_int A6 A7 ll ll _ c6 _ c7 w8 Hn6.out Hn6.out (by omega) (by omega) r6 r7).mono ?_
  rintro e w9 ⟨rfl, hb9⟩
  rw [decide_eq_true rfl]
  replace hB7 := hB7.trans (hb9.mono hB7.size)
  replace rN := rN.bel hb9; replace hT := hT.bel hb9
  clear hb9 r6 r7
  go_wp2_with fail
  refine (same_int AN A1 ns ns m cN m c1 w9 Hm.out Hm.out hm2 hm2 rN (HN.out.bel hB7)).mono ?_
  rintro e w10 ⟨rfl, hb10⟩
  rw [decide_eq_true rfl]
  replace hB7 := hB7.trans (hb10.mono hB7.size)
  replace hT := hT.bel hb10
  clear hb10 rN
  go_wp2_with fail
  refine (sameRents_true AT A2 r cT c2 rs' rs w10 hT (HR.out.bel hB7) Hst.out (by omega)).mono ?_
  rintro e w11 ⟨rfl, hb11⟩
  replace hB7 := hB7.trans (hb11.mono hB7.size)
  clear hb11 hT
  go_wp2_with fail
  go_ret
  exact ⟨rfl, hB7⟩
set_option maxRecDepth 100000 in
theorem saltPlans_lifted (os : Os) (started : os.Started) (H : Type) (enc : TypeId × Value → H) :
    ReturnsInHanded {} Try.checked os 5 .any (Rows.saltPlansSpec.pre6 enc Try.prog Try.f5 Rows.saltPlansRow.domain false) (Rows.saltPlansSpec.post enc Try.prog Try.f5 false true false false) := by
  refine law_lifted os started H enc (s := Rows.saltPlansSpec) Try.func5 (by kernel_rfl) ?_ rfl Try.underlying4 rfl (of_decide_eq_true (by kernel_rfl))
    (ChangeSpec.witness6 (enc := enc) (C := Try.checked) false ⟨#[], #[.slice none 0 0, .slice none 0 0], []⟩ 8 (by kernel_rfl) (by kernel_rfl) (by kernel_rfl) (by kernel_rfl)) ?_
  · intro ds hds
    match ds, hds with
    | [a, b], _ => rfl
  · intro W base args ds ps hval hA hlt
    rw [Try.params5] at hA hval
    obtain ⟨v0, v1, d0, d1, p0, p1, rfl, rfl, rfl, h0, h1⟩ := trodAll_two hA
    obtain ⟨A1, m, c1, ns, rfl, hm, hm2, hN, _⟩ := open_sl shape_int Try.underlying41 cells_int icell_len (by omega) (hval 0 _ v0 rfl rfl) h0
    obtain ⟨A2, r, c2, rs, rfl, hr2, hR, _⟩ := open_rents (hval 1 _ v1 rfl rfl) h1
    exact splans_walk A1 A2 m c1 r c2 ns rs W hN hm hm2 hR hr2

theorem saltPlans_holds : Rows.SaltPlansSaid :=
  OpenClaim.holds_of_wide 5 Try.f5 rfl rfl rfl rfl rfl rfl rfl ⟨rfl, rfl, rfl, rfl, rfl⟩ rfl rfl rfl rfl rfl (by kernel_rfl) Try.func5 (by kernel_rfl)
    (of_decide_eq_true (by kernel_rfl)) (by unfold Func.isWrapper; rw [if_neg (of_decide_eq_false (by kernel_rfl))]; exact ⟨rfl, rfl⟩)
    (fun os started H enc _ => saltPlans_lifted os started H enc)
#print axioms saltPlans_holds
end Go.Proofs.Ytmbhnjpaieimbaa
