/- ChannelEnough: with so many minutes a field gets enough for sure, with one less it does not: the law returns true for every net, flow, field and wish. No conditions. -/
import Derived.Test.YtgklcilpohkpkaaE2
import Derived.Test.YtgklcilpohkpkaaA3
import Derived.Test.YtgklcilpohkpkaaA4
import Derived.Test.YtgklcilpohkpkaaOpenU
import Derived.Carry
set_option linter.unusedVariables false
set_option linter.unusedSimpArgs false
namespace Go.Proofs.Ytgklcilpohkpkaa
open Go.RowKit Go.Shelf Go.WideShapes Go.ChangeShapes Go.ChangeAt
attribute [local go_sem ↓] Go.wp_at_zero Go.wp_at_succ
theorem ready_parts {cs : List Ca} {fs : List Int} {dry days a b : Int} {us : List Us} (h : readyB cs fs dry days a b us = true) : cs.length ≤ 24 ∧ fs.length ≤ 18 ∧ netOk cs fs dry days = true ∧ usesOk fs.length days us = true ∧ Sp.ok 0 13000000 ⟨a, b⟩ = true := by
  simp only [readyB, great, Bool.and_eq_true, Bool.not_eq_true', Bool.or_eq_false_iff, decide_eq_false_iff_not] at h
  obtain ⟨⟨⟨h1, h2⟩, h3⟩, h4, h5, h6⟩ := h
  exact ⟨by omega, by omega, h4, h5, h6⟩
/-- What so many minutes says, in plain words. -/
theorem least_parts {cs : List Ca} {fs : List Int} {dry days a b want r e : Int} {k : Int} (hok : netOk cs fs dry days = true) (hsp : Sp.ok 0 13000000 ⟨a, b⟩ = true) (h0 : 0 ≤ k) (h1 : k < fs.length) (hw0 : 0 ≤ want) (hw1 : want ≤ 1000000000000) (h : minutesP cs fs dry days a b k want r e) :
    (e = 6 ∧ r = 0 ∧ getK cs (pathK cs fs k) (a * (days * 1440 - 1)) < want) ∨
    (e = 0 ∧ 0 ≤ r ∧ r ≤ days * 1440 ∧ want ≤ getK cs (pathK cs fs k) (a * r) ∧ (r = 0 → want = 0) ∧ (want = 0 → r = 0) ∧ (r ≠ 0 → getK cs (pathK cs fs k) (a * (r - 1)) < want)) := by
  have ha : 0 ≤ a := by simp only [Sp.ok, Bool.and_eq_true, decide_eq_true_eq] at hsp; omega
  have hd := (netOk_parts hok).2.2.2.1
  have hin : (inF fs.length k && inB 0 1000000000000 want) = true := by simp only [inF, inB, Bool.and_eq_true, decide_eq_true_eq]; omega
  unfold minutesP at h
  rw [if_pos hok, if_pos hsp, if_pos hin] at h
  rcases h with ⟨he, hr, hp⟩ | ⟨he, hr0, hr1, hp, hl⟩
  · left
    refine ⟨he, hr, ?_⟩
    have hp2 : getK cs (pathK cs fs k) (a * (days * 1440)) < want := by simpa [enoughB] using hp
    have := getK_mono hok (pathK cs fs k) (Int.mul_le_mul_of_nonneg_left (show days * 1440 - 1 ≤ days * 1440 by omega) ha)
    omega
  · right
    have hp2 : want ≤ getK cs (pathK cs fs k) (a * r) := by simpa [enoughB] using hp
    have hl2 : r ≠ 0 → getK cs (pathK cs fs k) (a * (r - 1)) < want := fun hne => by
      rcases hl with hl | hl
      · exact absurd hl hne
      · simpa [enoughB] using hl
    refine ⟨he, hr0, hr1, hp2, fun hz => ?_, fun hz => ?_, hl2⟩
    · rw [hz, Int.mul_zero, getK_zero hok] at hp2; omega
    · apply Classical.byContradiction
      intro hne
      have h2 := hl2 hne
      have h3 := getK_pos hok (pathK cs fs k) (v := a * (r - 1)) (Int.mul_nonneg ha (by omega))
      omega
set_option maxHeartbeats 4000000 in
set_option maxRecDepth 100000 in
theorem enough_walk (Ac Af : Option Addr) (nc cc nf cf x : Nat) (dry days a b want : Int) (cs : List Ca) (fs : List Int) (w : World) (hnc : nc = cs.length) (hnf : nf = fs.length) (hcs : Rd w w.heap.size Ca.cells Ac cs) (hfs : Rd w w.heap.size icell Af fs) (hx : x ≤ 255) :
    Calls Try.prog 10 #[.agg #[.slice Ac nc cc, .slice Af nf cf, .int .i64 dry, .int .i64 days], .agg #[.int .i64 a, .int .i64 b], .int .u8 (x : Int), .int .i64 want] w fun e w' => e = .returned (.bool true) ∧ Below w.heap.size w w' := by
  obtain ⟨W, HW⟩ : ∃ W, Hid ((w.alloc (.cells #[.slice Ac nc cc, .slice Af nf cf, .int .i64 dry, .int .i64 days] 25)).alloc (.cells #[.int .i64 a, .int .i64 b] 51) = W) := ⟨_, hide rfl⟩
  have xn : At W w.heap.size [.slice Ac nc cc, .slice Af nf cf, .int .i64 dry, .int .i64 days] := by rw [← HW.out]; exact (At.new w #[.slice Ac nc cc, .slice Af nf cf, .int .i64 dry, .int .i64 days] _ _ rfl _ rfl).alloc _
  have xf : At W (w.heap.size + 1) [.int .i64 a, .int .i64 b] := by rw [← HW.out]; exact At.new _ #[.int .i64 a, .int .i64 b] _ _ (by simp) _ rfl
  have hB : Below w.heap.size w W := by rw [← HW.out]; exact (below_new w _).alloc (by simp) _
  have rc := hcs.bel hB
  have rf := hfs.bel hB
  clear hcs hfs
  have Hc := hide hnc; have Hf := hide hnf
  clear hnc hnf
  go_enter Try.func10, Try.ntmps10
  go_wp2_with fail
  rw [HW.out]
  clear HW
  refine (alive_any _).mono ?_
  rintro e w1 ⟨rfl, hb⟩
  replace xn := xn.bel hb
  replace xf := xf.bel hb
  replace rc := rc.bel hb
  replace rf := rf.bel hb
  replace hB := hB.trans (hb.mono hB.size)
  clear hb
  obtain ⟨q0, q1, q2, q3⟩ := xn.c4
  obtain ⟨p0, p1⟩ := xf.c2
  go_wp2_with fail
  refine (ready_any _ _ _ _ _ _ _ _ _ _ _ _ _ cs fs [] _ Hc.out Hf.out rc rf (Rd.nil _ _ _ _) rfl).mono ?_
  rintro e w2 ⟨rfl, hb⟩
  replace xn := xn.bel hb
  replace xf := xf.bel hb
  replace rc := rc.bel hb
  replace rf := rf.bel hb
  replace hB := hB.trans (hb.mono hB.size)
  clear hb q0 q1 q2 q3 p0 p1
  obtain ⟨q0, q1, q2, q3⟩ := xn.c4
  obtain ⟨p0, p1⟩ := xf.c2
  cases hr : readyB cs fs dry days a b []
  · clear hr
    go_wp2_with fail
    go_ret
    exact ⟨rfl, hB⟩
  have HR := hide hr
  clear hr
  have hnf18 : nf ≤ 18 := by have := (ready_parts HR.out).2.1; have := Hf.out; omega
  by_cases hz : nf = 0
  · subst hz
    go_wp2_with fail
    go_ret
    exact ⟨rfl, hB⟩
  by_cases hw0 : want < 0
  · go_wp2_with fail
    go_ret
    exact ⟨rfl, hB⟩
  by_cases hw1 : 1000000000000 < want
  · go_wp2_with fail
    go_ret
    exact ⟨rfl, hB⟩
  have hw2 : 0 ≤ want := by omega
  have hw3 : want ≤ 1000000000000 := by omega
  have nz : ((nf : Int) == 0) = false := by simpa using hz
  have hkp : x % nf < nf := Nat.mod_lt _ (by omega)
  obtain ⟨kk, hkk⟩ : ∃ kk, kk = x % nf := ⟨_, rfl⟩
  have hkI : ((x : Int) % (nf : Int)) = (kk : Int) := by rw [hkk]; exact (Int.natCast_emod x nf).symm
  rw [← hkk] at hkp
  have Hkk := hide hkk
  clear hkk q0 q1 q2 q3 p0 p1
  obtain ⟨bk, w3, ebk, ewk, xk, _, hb⟩ := mk_box w2 #[.int .i64 (kk : Int)] 3
  have q := xn.c4
  obtain ⟨q0, q1, q2, q3⟩ := q
  have xa := xn.bel hb
  have xb := xf.bel hb
  rw [← ewk.out] at xa xb
  obtain ⟨z0, z1, z2, z3⟩ := xa.c4
  obtain ⟨y0, y1⟩ := xb.c2
  go_wp2_with fail
  rw [ewk.out, ebk.out]
  clear ewk ebk z0 z1 z2 z3 y0 y1 q0 q1 q2 q3
  replace hB := hB.trans (hb.mono hB.size)
  replace xn := xn.bel hb
  replace xf := xf.bel hb
  have n1 : NetAt w3 Ac Af nc nf cs fs := ⟨rc.bel hb, rf.bel hb, Hc.out, Hf.out, by have := (ready_parts HR.out).1; have := Hc.out; omega, by omega⟩
  clear hb rc rf xa xb
  refine (minutes_fn _ _ _ _ _ _ _ _ _ _ _ _ _ _ _ n1).mono ?_
  rintro e w4 ⟨r, er, rfl, hmin, hb⟩
  replace hB := hB.trans (hb.mono hB.size)
  replace xn := xn.bel hb
  replace xf := xf.bel hb
  replace xk := xk.bel hb
  replace n1 := n1.bel hb
  obtain ⟨_, _, hok, _, hsp⟩ := ready_parts HR.out
  have hl := least_parts hok hsp (k := kk) (by omega) (by have := Hf.out; omega) hw2 hw3 hmin
  have hd := (netOk_parts hok).2.2.2.1
  have Hok := hide hok; have Hsp := hide hsp
  have hmz : (0 : Int) ≤ days * 1440 ∧ days * 1440 ≤ 23040 := by omega
  obtain ⟨q0, q1, q2, q3⟩ := xn.c4
  clear hb hmin hok hsp
  rcases hl with ⟨rfl, rfl, hw5⟩ | ⟨rfl, r0, r1, g0, g1, g2, g3⟩
  · go_wp2_with fail
    refine (gets_any Ac Af nc cc nf cf dry days a b _ cs fs kk _ _ _ _ n1 Hok.out Hsp.out hkp (by omega) (by omega) xn xf xk).mono ?_
    rintro e w5 ⟨rfl, hb⟩
    obtain ⟨gw5, hgw5⟩ : ∃ g, g = getK cs (pathK cs fs kk) (a * (days * 1440 - 1)) := ⟨_, rfl⟩
    rw [← hgw5]
    rw [← hgw5] at hw5
    have HGw5 := hide hgw5
    clear hgw5
    replace hB := hB.trans (hb.mono hB.size)
    replace xn := xn.bel hb
    replace xf := xf.bel hb
    replace xk := xk.bel hb
    replace n1 := n1.bel hb
    clear hb
    go_wp2_with fail
    go_ret
    exact ⟨rfl, hB⟩
  · by_cases hwz : want = 0
    · have := g2 hwz
      subst this
      subst hwz
      have e1 : ((0 : Int) == days * 1440) = false := by
        rw [beq_eq_false_iff_ne]; omega
      clear g0 g1 g2 g3
      go_wp2_with fail
      go_ret
      exact ⟨rfl, hB⟩
    · have hrz : r ≠ 0 := fun h => hwz (g1 h)
      have e1 : (want == 0) = false := by simpa using hwz
      have e2 : (r == 0) = false := by simpa using hrz
      have h1 := g3 hrz
      have Hwz := hide hwz; have Hrz := hide hrz
      by_cases hc : r = days * 1440
      · have e3 : (r == days * 1440) = true := by simpa using hc
        have hw5 : getK cs (pathK cs fs kk) (a * (days * 1440 - 1)) < want := by rw [← hc]; exact h1
        clear g0 g1 g2 g3 h1 hwz hrz hc
        go_wp2_with fail
        refine (gets_any Ac Af nc cc nf cf dry days a b _ cs fs kk _ _ _ _ n1 Hok.out Hsp.out hkp (by omega) (by omega) xn xf xk).mono ?_
        rintro e w5 ⟨rfl, hb⟩
        obtain ⟨gw5, hgw5⟩ : ∃ g, g = getK cs (pathK cs fs kk) (a * (days * 1440 - 1)) := ⟨_, rfl⟩
        rw [← hgw5]
        rw [← hgw5] at hw5
        have HGw5 := hide hgw5
        clear hgw5
        replace hB := hB.trans (hb.mono hB.size)
        replace xn := xn.bel hb
        replace xf := xf.bel hb
        replace xk := xk.bel hb
        replace n1 := n1.bel hb
        clear hb
        go_wp2_with fail
        go_ret
        exact ⟨rfl, hB⟩
      · have e3 : (r == days * 1440) = false := by simpa using hc
        have hrc : r < days * 1440 := by omega
        have hr1 : 1 ≤ r := by omega
        have hw5 := g0
        have hw6 := h1
        clear g0 g1 g2 g3 h1 hwz hrz hc
        go_wp2_with fail
        refine (gets_any Ac Af nc cc nf cf dry days a b _ cs fs kk _ _ _ _ n1 Hok.out Hsp.out hkp (by omega) (by omega) xn xf xk).mono ?_
        rintro e w5 ⟨rfl, hb⟩
        obtain ⟨gw5, hgw5⟩ : ∃ g, g = getK cs (pathK cs fs kk) (a * (r)) := ⟨_, rfl⟩
        rw [← hgw5]
        rw [← hgw5] at hw5
        have HGw5 := hide hgw5
        clear hgw5
        replace hB := hB.trans (hb.mono hB.size)
        replace xn := xn.bel hb
        replace xf := xf.bel hb
        replace xk := xk.bel hb
        replace n1 := n1.bel hb
        clear hb
        go_wp2_with fail
        refine (gets_any Ac Af nc cc nf cf dry days a b _ cs fs kk _ _ _ _ n1 Hok.out Hsp.out hkp (by omega) (by omega) xn xf xk).mono ?_
        rintro e w6 ⟨rfl, hb⟩
        obtain ⟨gw6, hgw6⟩ : ∃ g, g = getK cs (pathK cs fs kk) (a * (r - 1)) := ⟨_, rfl⟩
        rw [← hgw6]
        rw [← hgw6] at hw6
        have HGw6 := hide hgw6
        clear hgw6
        replace hB := hB.trans (hb.mono hB.size)
        replace xn := xn.bel hb
        replace xf := xf.bel hb
        replace xk := xk.bel hb
        replace n1 := n1.bel hb
        clear hb
        go_wp2_with fail
        go_ret
        exact ⟨rfl, hB⟩
set_option maxRecDepth 100000 in
theorem channelEnough_lifted (os : Os) (started : os.Started) (H : Type) (enc : TypeId × Value → H) :
    ReturnsInHanded {} Try.checked os 10 .any (Rows.channelEnoughSpec.pre6 enc Try.prog Try.f10 Rows.channelEnoughRow.domain false) (Rows.channelEnoughSpec.post enc Try.prog Try.f10 false true false false) := by
  refine law_lifted os started H enc (s := Rows.channelEnoughSpec) Try.func10 (by kernel_rfl) ?_ rfl Try.underlying4 rfl (of_decide_eq_true (by kernel_rfl))
    (ChangeSpec.witness6 (enc := enc) (C := Try.checked) false ⟨#[], #[.agg #[.slice none 0 0, .slice none 0 0, .int .i64 0, .int .i64 0], .agg #[.int .i64 0, .int .i64 0], .int .u8 0, .int .i64 0], []⟩ 8 (by kernel_rfl) (by kernel_rfl) (by kernel_rfl) (by kernel_rfl)) ?_
  · intro ds hds
    match ds, hds with
    | [a, b, c, d], _ => rfl
  · intro W base args ds ps hval hA hlt
    rw [Try.params10] at hA hval
    obtain ⟨v0, v1, v2, v3, d0, d1, d2, d3, p0, p1, p2, p3, rfl, rfl, rfl, h0, h1, h2, h3⟩ := trodAll_four hA
    obtain ⟨Ac, nc, cc, Af, nf, cf, dry, days, cs, fs, rfl, hnc, hnf, _, _, hcs, hfs, _, _, _, _⟩ := open_net (hval 0 _ v0 rfl rfl) h0
    obtain ⟨⟨a, b⟩, e1, _⟩ := open_val shape_sp Try.underlying51 (hval 1 _ v1 rfl rfl) h1
    rw [show (v1 : Value) = .agg #[.int .i64 a, .int .i64 b] from e1]
    obtain ⟨x, rfl, hx⟩ := open_u8 (hval 2 _ v2 rfl rfl) h2
    obtain ⟨want, rfl, _⟩ := open_i64 (hval 3 _ v3 rfl rfl) h3
    exact enough_walk Ac Af nc cc nf cf x dry days a b want cs fs W hnc hnf hcs hfs hx

theorem channelEnough_holds : Rows.ChannelEnoughSaid :=
  OpenClaim.holds_of_wide 10 Try.f10 rfl rfl rfl rfl rfl rfl rfl ⟨rfl, rfl, rfl, rfl, rfl⟩ rfl rfl rfl rfl rfl (by kernel_rfl) Try.func10 (by kernel_rfl)
    (of_decide_eq_true (by kernel_rfl)) (by unfold Func.isWrapper; rw [if_neg (of_decide_eq_false (by kernel_rfl))]; exact ⟨rfl, rfl⟩)
    (fun os started H enc _ => channelEnough_lifted os started H enc)
#print axioms channelEnough_holds
end Go.Proofs.Ytgklcilpohkpkaa
