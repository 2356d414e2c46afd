/- SaltWants: the minutes that fields need, or the error and its field, are the specification's; the net and the soils stay. The law returns true for every net, flow and soils. No conditions. -/
import Derived.Test.YtmbhnjpaieimbaaZ1
import Derived.Test.YtmbhnjpaieimbaaS13
import Derived.Test.YtmbhnjpaieimbaaR8
import Derived.Test.YtmbhnjpaieimbaaOpenC
import Derived.Laws.StructEq
import Derived.Deep.Cut
set_option linter.unusedVariables false
set_option linter.unusedSimpArgs false
namespace Go.Proofs.Ytmbhnjpaieimbaa
open Go.RowKit Go.Shelf Go.WideShapes Go.ChangeShapes Go.ChangeAt
theorem el_so : ElLaw Try.prog 44 25 10 80 So.cells := elLaw_of Try.underlying44 (z := .agg #[.int .i64 0, .int .i64 0, .int .i64 0, .int .i64 0, .int .i64 0, .int .i64 0, .int .i64 0, .int .i64 0, .int .i64 0, .int .i64 0]) (by kernel_rfl) rfl (by omega) (fun _ => rfl) So.one (by omega)
theorem eql_so (a0 a1 li cr m0 m1 w0 w1 r0 r1 : Int) (w : World) : (binOp .eql 25 (.agg #[.int .i64 a0, .int .i64 a1, .int .i64 li, .int .i64 cr, .int .i64 m0, .int .i64 m1, .int .i64 w0, .int .i64 w1, .int .i64 r0, .int .i64 r1]) (.agg #[.int .i64 a0, .int .i64 a1, .int .i64 li, .int .i64 cr, .int .i64 m0, .int .i64 m1, .int .i64 w0, .int .i64 w1, .int .i64 r0, .int .i64 r1])).run Try.prog w = .ok (.bool true) w := by
  go_simp
attribute [local go_sem ↓] eql_so
theorem wantsP_len {cs : List Ca} {fs : List Int} {dry days a b : Int} {ss : List So} {o : List Int} {i e : Int} (h : wantsP cs fs dry days a b ss o i e) : o.length ≤ ss.length := by
  unfold wantsP at h
  split at h
  · split at h
    · split at h
      · rcases h with ⟨h, _⟩ | ⟨k, o', rfl, _⟩
        · rw [h.len]; exact Nat.le_refl _
        · simp
      · rw [h.1]; simp
    · rw [h.1]; simp
  · rw [h.1]; simp
set_option maxHeartbeats 4000000 in
set_option maxRecDepth 100000 in
theorem wants_walk (Ac Af A : Option Addr) (nc cc nf cf n c : Nat) (dry days a b : Int) (cs : List Ca) (fs : List Int) (ss : List So) (w : World) (hnc : nc = cs.length) (hnf : nf = fs.length) (hcs : Rd w w.heap.size Ca.cells Ac cs) (hfs : Rd w w.heap.size icell Af fs) (hn : n = ss.length) (hm : n ≤ 9223372036854775807) (hx : Rd w w.heap.size So.cells A ss) :
    Calls Try.prog 4 #[.agg #[.slice Ac nc cc, .slice Af nf cf, .int .i64 dry, .int .i64 days], .agg #[.int .i64 a, .int .i64 b], .slice A n c] w fun e w' => e = .returned (.bool true) ∧ Below w.heap.size w w' := by
  obtain ⟨b3, w1, e3, ew1, hx3, hb1, hz1⟩ := mk_bx w #[.slice Ac nc cc, .slice Af nf cf, .int .i64 dry, .int .i64 days] 43
  obtain ⟨b4, w2, e4, ew2, hx4, hb2, hz2⟩ := mk_bx w1 #[.int .i64 a, .int .i64 b] 23
  have e34 : b3 + 1 = b4 := by have := e4.out; omega
  have hB2 := hb1.trans (hb2.mono hb1.size)
  have rc2 := hcs.bel hB2; have rf2 := hfs.bel hB2; have r2 := hx.bel hB2
  replace hx3 := hx3.bel hb2
  have Hn := hide hn
  have G1 := rGreat_any Ac Af none nc cc nf cf 0 0 dry days cs fs w2 hnc hnf
  have Hnc := hide hnc; have Hnf := hide hnf
  clear hn hcs hfs hx hb1 hb2 hz1 hz2 hnc hnf
  go_enter Try.func4, Try.ntmps4
  go_wp2_with fail
  rw [ew1.out, e3.out, e34, ew2.out]
  obtain ⟨q0, q1, q2, q3⟩ := hx3.at_.c4
  refine G1.mono ?_
  rintro e w3 ⟨rfl, hb3⟩
  have hB3 := hB2.trans (hb3.mono hB2.size)
  replace hx3 := hx3.bel hb3; replace hx4 := hx4.bel hb3; replace rc2 := rc2.bel hb3; replace rf2 := rf2.bel hb3; replace r2 := r2.bel hb3
  clear q0 q1 q2 q3 hb3 hB2 G1
  cases hg : great cs fs 0
  rotate_left
  · clear hg
    go_wp2_with fail
    go_ret
    exact ⟨rfl, hB3⟩
  have hl : cs.length ≤ 24 ∧ fs.length ≤ 18 := by simp [great] at hg; omega
  have hN3 : NetAt w3 Ac Af nc nf cs fs := ⟨rc2, rf2, Hnc.out, Hnf.out, by have := Hnc.out; omega, by have := Hnf.out; omega⟩
  clear hg hl rc2 rf2
  by_cases h18 : 18 < n
  · go_wp2_with fail
    go_ret
    exact ⟨rfl, hB3⟩
  have hn18 : n ≤ 18 := by omega
  have X4 := hide hx4; have X3 := hide hx3; have N3 := hide hN3; have R3 := hide r2
  obtain ⟨q0, q1, q2, q3⟩ := hx3.at_.c4
  obtain ⟨w4, rfl⟩ : ∃ w4, w4 = w3 := ⟨w3, rfl⟩
  clear hx3 hx4 r2
  go_wp2_with fail
  refine (twin_any Ac Af nc cc nf cf dry days cs fs w4 hN3).mono ?_
  rintro e w5 ⟨Bc, dc, Bf, df, rfl, hNB, hb5⟩
  have hB5 := hB3.trans (hb5.mono hB3.size)
  have L5 := hide (lit0 (cells := So.cells) w5 25 10 w5.heap.size So.len (Nat.le_refl _))
  have hb6 := hide (below_new w5 (.cells #[] 25))
  have R6 := hide ((R3.out.bel hb5).bel hb6.out)
  have NB5 := hide hNB
  clear q0 q1 q2 q3 hN3 hNB
  go_upto_region 4 with (at_builtin; refine wpList_app (v := .slice (some ⟨w5.heap.size, 0, none⟩) 0 0) (xs := []) (ys := ss) (n := n) (base := w5.heap.size) el_so rfl (.tmp 26) (.tmp 27) rfl rfl L5.out Hn.out.symm rfl R6.out (by simp; omega) (by simp) ?_; intro v8 w6 o8 g8 _; have O8 := hide o8; have G8 := hide g8; clear o8 g8)
  have hb56 : Below w5.heap.size w5 w6 := hb6.out.grown G8.out hb6.out.size (fun g hg => by simp [Value.ownBlock] at hg; omega)
  have o8 := O8.out
  rw [List.nil_append] at o8
  obtain ⟨A2, c2, rfl, r8⟩ := o8.rdn n Hn.out.symm
  obtain ⟨b7, w7, e7, ew7, hx7, hb7, hz7⟩ := mk_bx w6 #[.slice Bc nc dc, .slice Bf nf df, .int .i64 dry, .int .i64 days] 43
  have h57 := hb56.trans (hb7.mono hb56.size)
  have h47 := hb5.trans (h57.mono hb5.size)
  have R8 := hide (r8.bel hb7); have N7 := hide (NB5.out.below h57)
  have x4 := (X4.out.bel h47)
  obtain ⟨p0, p1, _, _⟩ := x4.w2
  obtain ⟨k0, k1, k2, k3⟩ := hx7.at_.c4
  have HB7 := hide (hB3.trans (h47.mono hB3.size))
  have H47 := hide h47
  rw [← ew7.out] at p0 p1 k0 k1 k2 k3
  rw [← e7.out] at k0 k1 k2 k3
  clear O8 G8 hb6 L5 R6 o8 r8 hb56 hb7 h57 h47 hB5 hb5 hz7
  go_wp2_with fail
  rw [ew7.out, e7.out]
  clear p0 p1 k0 k1 k2 k3
  refine (wants_fn Bc Bf A2 nc dc nf df n c2 dry days a b cs fs ss w7 N7.out Hn.out (by omega) R8.out).mono ?_
  rintro e w8 ⟨v9, o1, i1, er1, rfl, ho1, hP1, hb8⟩
  have h48 := H47.out.trans (hb8.mono H47.out.size)
  obtain ⟨q0, q1, q2, q3⟩ := (X3.out.bel h48).at_.c4
  obtain ⟨p0, p1, _, _⟩ := (X4.out.bel h48).w2
  go_wp2_with fail
  refine (rwants_fn Ac Af A nc cc nf cf n c dry days a b cs fs ss w8 (N3.out.below h48) Hn.out (by omega) (R3.out.bel h48)).mono ?_
  rintro e w9 ⟨v12, o2, i2, er2, rfl, ho2, hP2, hb9⟩
  have h49 := h48.trans (hb9.mono h48.size)
  obtain ⟨rfl, rfl, rfl⟩ := wantsP_one hP1 hP2
  have hlo := wantsP_len hP1
  obtain ⟨no, hno⟩ : ∃ no, no = o1.length := ⟨_, rfl⟩
  have hno2 : no ≤ 18 := by have := Hn.out; omega
  obtain ⟨A9, c9, rfl, r9⟩ := (ho1.bel hb9).rdn no hno.symm
  obtain ⟨A12, c12, rfl, r12⟩ := ho2.rdn no hno.symm
  have Hno := hide hno
  clear q0 q1 q2 q3 p0 p1 hP1 hP2 ho1 ho2 hlo hno
  have h79 := hb8.trans (hb9.mono hb8.size)
  have H49 := hide h49; have H79 := hide h79
  clear hb8 hb9 h48 h49 h79
  go_wp2_with fail
  refine (same_int A9 A12 o1 o1 no c9 no c12 w9 Hno.out Hno.out (by omega) (by omega) r9 r12).mono ?_
  rintro e w10 ⟨rfl, hb10⟩
  have h410 := H49.out.trans (hb10.mono H49.out.size)
  have h710 := H79.out.trans (hb10.mono H79.out.size)
  obtain ⟨q0, q1, q2, q3⟩ := (X3.out.bel h410).at_.c4
  obtain ⟨k0, k1, k2, k3⟩ := (hx7.bel h710).at_.c4
  rw [decide_eq_true rfl]
  clear r9 r12
  go_wp2_with fail
  refine (same_net_true Bc Bf Ac Af nc dc nf df cc cf dry days cs fs w10 (N7.out.below h710) (N3.out.below h410)).mono ?_
  rintro e w11 ⟨rfl, hb11⟩
  have h411 := h410.trans (hb11.mono h410.size)
  have h711 := h710.trans (hb11.mono h710.size)
  have R11 := hide (R3.out.bel h411); have R11' := hide (R8.out.bel h711)
  have HB11 := hide (hB3.trans (h411.mono hB3.size))
  clear q0 q1 q2 q3 k0 k1 k2 k3 h410 h710 h411 h711 hb10 hb11
  go_wp2_with fail
  go_loopw [15, 65] (fun v i wr => ∃ k : Nat, k ≤ n ∧ v = .bool true ∧ i = .int .i64 k ∧ Below w11.heap.size w11 wr) (fun _ i _ => n - (intOf i).toNat)
  case atStart => exact ⟨0, by omega, rfl, rfl, Below.refl _ _⟩
  case round =>
    obtain ⟨k, hk, rfl, rfl, hb⟩ := hrel
    by_cases hlt : k < n
    · obtain ⟨ba, oa, a0, a1, li, cr, m0, m1, w0, w1', r0, r1, hA, hBB, hxk, c0, c1, c2', c3, c4, c5, c6, c7, c8, c9'⟩ := (R11.out.bel hb).so (i := k) (by have := Hn.out; omega)
      obtain ⟨bd, od, d0, d1, dl, dc', n0, n1, y0, y1, z0, z1, hD, hDD, hyk, f0, f1, f2, f3, f4, f5, f6, f7, f8, f9⟩ := (R11'.out.bel hb).so (i := k) (by have := Hn.out; omega)
      rw [hxk] at hyk
      injection hyk with hyk
      injection hyk with y1 y2 y3 y4 y5 y6
      injection y1 with y11 y12
      injection y4 with y41 y42
      injection y5 with y51 y52
      injection y6 with y61 y62
      subst y11 y12 y2 y3 y41 y42 y51 y52 y61 y62
      subst hA hD
      have ik : (k : Int) < (n : Int) := by omega
      have Hb := hide hb
      clear hxk hb
      go_wp2_with fail
      go_quiet (fail)
      go_wp2_with fail
      exact ⟨⟨k + 1, by omega, rfl, by go_num, below_drewN Hb.out _⟩, by simp [intOf]; omega⟩
    · obtain rfl : n = k := by omega
      go_wp2_with fail
      go_ret
      exact ⟨by first | rfl | simp, HB11.out.trans (hb.mono HB11.out.size)⟩
set_option maxRecDepth 100000 in
theorem saltWants_lifted (os : Os) (started : os.Started) (H : Type) (enc : TypeId × Value → H) :
    ReturnsInHanded {} Try.checked os 4 .any (Rows.saltWantsSpec.pre6 enc Try.prog Try.f4 Rows.saltWantsRow.domain false) (Rows.saltWantsSpec.post enc Try.prog Try.f4 false true false false) := by
  refine law_lifted os started H enc (s := Rows.saltWantsSpec) Try.func4 (by kernel_rfl) ?_ rfl Try.underlying4 rfl (of_decide_eq_true (by kernel_rfl))
    (ChangeSpec.witness6 (enc := enc) (C := Try.checked) false ⟨#[], #[.agg #[.slice none 0 0, .slice none 0 0, .int .i64 0, .int .i64 0], .agg #[.int .i64 0, .int .i64 0], .slice none 0 0], []⟩ 8 (by kernel_rfl) (by kernel_rfl) (by kernel_rfl) (by kernel_rfl)) ?_
  · intro ds hds
    match ds, hds with
    | [a, b, c], _ => rfl
  · intro W base args ds ps hval hA hlt
    rw [Try.params4] at hA hval
    obtain ⟨v0, v1, v2, d0, d1, d2, p0, p1, p2, rfl, rfl, rfl, h0, h1, h2⟩ := trodAll_three hA
    obtain ⟨Ac, nc, cc, Af, nf, cf, dry, days, cs, fs, rfl, hnc, hnf, _, _, hcs, hfs, _, _, _, _⟩ := open_net (hval 0 _ v0 rfl rfl) h0
    obtain ⟨s, rfl, _⟩ := open_val shape_sp Try.underlying23 (hval 1 _ v1 rfl rfl) h1
    obtain ⟨A, n, c, ss, rfl, hn, hm, hr, _⟩ := open_sl shape_so Try.underlying44 cells_so So.len (by omega) (hval 2 _ v2 rfl rfl) h2
    exact wants_walk Ac Af A nc cc nf cf n c dry days s.lo s.hi cs fs ss W hnc hnf hcs hfs hn hm hr

theorem saltWants_holds : Rows.SaltWantsSaid :=
  OpenClaim.holds_of_wide 4 Try.f4 rfl rfl rfl rfl rfl rfl rfl ⟨rfl, rfl, rfl, rfl, rfl⟩ rfl rfl rfl rfl rfl (by kernel_rfl) Try.func4 (by kernel_rfl)
    (of_decide_eq_true (by kernel_rfl)) (by unfold Func.isWrapper; rw [if_neg (of_decide_eq_false (by kernel_rfl))]; exact ⟨rfl, rfl⟩)
    (fun os started H enc _ => saltWants_lifted os started H enc)
#print axioms saltWants_holds
end Go.Proofs.Ytmbhnjpaieimbaa
