/- The chapter's example, evaluated: the plan, and what lacks. The chapter's examples of salt are so (alive), by contract. Salt, outright: alive() is true: the chapter's examples. -/
import Derived.Test.YtmbhnjpaieimbaaPBE
import Derived.Test.YtmbhnjpaieimbaaPBG
import Derived.Test.YtmbhnjpaieimbaaS10
import Derived.Test.YtmbhnjpaieimbaaS13
set_option linter.unusedVariables false
set_option linter.unusedSimpArgs false
namespace Go.Proofs.Ytmbhnjpaieimbaa
open Go.RowKit Go.Shelf
def exR (n : Int) (A1 A2 : Option Addr) (c1 c2 : Nat) : List Rr := [⟨n, 5, A1, 2, c1, [0, 1]⟩, ⟨40, 3, A2, 2, c2, [1, 2]⟩]
set_option maxRecDepth 100000 in
theorem lack_ex (A1 A2 : Option Addr) (c1 c2 : Nat) : lackF [30, 20, 10] (exR 25 A1 A2 c1 c2) = ([0], 0) := by kernel_rfl
set_option maxRecDepth 100000 in
theorem plan_ex (A1 A2 : Option Addr) (c1 c2 : Nat) : planF [30, 20, 10] (exR 40 A1 A2 c1 c2) = ([[30, 0, 0], [0, 20, 10]], 240, 0) := by kernel_rfl
end Go.Proofs.Ytmbhnjpaieimbaa
namespace Go.Proofs.Ytmbhnjpaieimbaa
open Go.RowKit Go.Shelf
theorem sspan_any (lo hi : Int) (w : World) : Calls Try.prog 40 #[.int .i64 lo, .int .i64 hi] w fun e w' => e = .returned (.agg #[.int .i64 lo, .int .i64 hi]) ∧ Below w.heap.size w w' := by
  go_enter Try.func40, Try.ntmps40
  go_wp2
  exact bodyPost_ret (by simp [results, Try.results40, go_sem]; try rfl) rfl ⟨rfl, below_new _ _⟩
theorem needs_any (w : World) : Calls Try.prog 46 #[] w fun e w' => ∃ b, e = .returned (.slice (some ⟨b, 0, none⟩) 3 3) ∧ Rd w' w'.heap.size icell (some ⟨b, 0, none⟩) [30, 20, 10] ∧ Below w.heap.size w w' := by
  obtain ⟨b, w1, e, ew, hr, hb⟩ := mk_row (cells := icell) w #[.int .i64 30, .int .i64 20, .int .i64 10] 3 [30, 20, 10] rfl
  go_enter Try.func46, Try.ntmps46
  go_wp2_with fail
  go_ret
  rw [ew.out, e.out]
  exact ⟨b, rfl, hr, by have h := hb; rw [e.out] at h; exact h⟩
theorem rents_any (n : Int) (w : World) : Calls Try.prog 47 #[.int .i64 n] w fun e w' => ∃ b A1 A2 c1 c2, e = .returned (.slice (some ⟨b, 0, none⟩) 2 2) ∧ RsAt w' (some ⟨b, 0, none⟩) 2 (exR n A1 A2 c1 c2) ∧ Below w.heap.size w w' := by
  obtain ⟨b1, w1, e1, ew1, hr1, hb1⟩ := mk_row (cells := icell) w #[.int .i64 0, .int .i64 1] 3 [0, 1] rfl
  obtain ⟨b2, w2, e2, ew2, hr2, hb2⟩ := mk_row (cells := icell) w1 #[.int .i64 1, .int .i64 2] 3 [1, 2] rfl
  obtain ⟨b3, w3, e3, ew3, hr3, hb3⟩ := mk_row (cells := Rr.cells) w2 #[.int .i64 n, .int .i64 5, .slice (some ⟨b1, 0, none⟩) 2 2, .int .i64 40, .int .i64 3, .slice (some ⟨b2, 0, none⟩) 2 2] 89 (exR n (some ⟨b1, 0, none⟩) (some ⟨b2, 0, none⟩) 2 2) rfl
  have s1 : w1.heap.size = w.heap.size + 1 := by rw [← ew1.out]; simp
  have s2 : w2.heap.size = w.heap.size + 1 + 1 := by rw [← ew2.out, ← s1]; simp
  have f1 : w.heap.size + 1 = b2 := by rw [← s1]; exact e2.out
  have f2 : w.heap.size + 1 + 1 = b3 := by rw [← s2]; exact e3.out
  have hB := hb1.trans ((hb2.trans (hb3.mono hb2.size)).mono hb1.size)
  have H : Hid (RsAt w3 (some ⟨b3, 0, none⟩) 2 (exR n (some ⟨b1, 0, none⟩) (some ⟨b2, 0, none⟩) 2 2)) := hide ⟨hr3, rfl, fun r hr => by
    simp only [exR, List.mem_cons, List.not_mem_nil, or_false] at hr
    rcases hr with rfl | rfl
    · exact ⟨rfl, by show (2 : Nat) ≤ 1000; omega, (hr1.bel hb2).bel hb3⟩
    · exact ⟨rfl, by show (2 : Nat) ≤ 1000; omega, hr2.bel hb3⟩⟩
  clear hr1 hr2 hr3 s1 s2
  go_enter Try.func47, Try.ntmps47
  go_wp2_with fail
  go_ret
  have f3 : b2 + 1 = b3 := by rw [← f1]; exact f2
  rw [e1.out, ew1.out, ew2.out, ew3.out, f3]
  exact ⟨b3, some ⟨b1, 0, none⟩, some ⟨b2, 0, none⟩, 2, 2, rfl, H.out, by have h := hB; rw [e1.out] at h; exact h⟩
theorem results_mid {fn : Func} {p : Tmp} {t : TypeId} {d : TypeDesc} (h : fn.results = #[.cell p t]) (tmps : Array Value) (W : World) (g : Nat) (cs : List Value) (hp : tmps.getD p undef = .pointer (some ⟨g, 0, none⟩)) (ha : At W g cs) (hu : Try.prog.underlying t = some d) (hd : d.isRow = true) (hi : (Try.prog.info? t).map (·.size) = some cs.length) :
    (results fn tmps).run Try.prog W = .ok (.agg cs.toArray) W := by
  have hp' : tmps[p]?.getD undef = .pointer (some ⟨g, 0, none⟩) := by simpa using hp
  simp [results, h, hp', asAddr, run_loadVar_mid W g 0 _ _ _ ha.range hu hd hi]
set_option maxHeartbeats 4000000 in
set_option maxRecDepth 100000 in
theorem sfield_any (w : World) : Calls Try.prog 45 #[] w fun e w' => e = .returned (.agg #[.int .i64 5000, .int .i64 6000, .int .i64 6000, .int .i64 10000, .int .i64 100, .int .i64 200, .int .i64 900, .int .i64 1000, .int .i64 0, .int .i64 300]) ∧ Below w.heap.size w w' := by
  obtain ⟨b0, w0, e0, ew0, hx0, hb0, hz0⟩ := mk_bx w #[.int .i64 0, .int .i64 0, .int .i64 0, .int .i64 0, .int .i64 0, .int .i64 0, .int .i64 0, .int .i64 0, .int .i64 0, .int .i64 0] 25
  have hb0g : w.heap.size ≤ b0 := by have := e0.out; omega
  have H0 := hide hx0; have Hb0 := hide hb0
  clear hx0 hb0 hz0
  go_enter Try.func45, Try.ntmps45
  go_wp2_with fail
  rw [ew0.out, e0.out]
  refine (sspan_any _ _ _).mono ?_
  rintro e w1 ⟨rfl, hb1⟩
  go_wp2_with fail
  refine (sspan_any _ _ _).mono ?_
  rintro e w2 ⟨rfl, hb2⟩
  go_wp2_with fail
  refine (sspan_any _ _ _).mono ?_
  rintro e w3 ⟨rfl, hb3⟩
  go_wp2_with fail
  refine (sspan_any _ _ _).mono ?_
  rintro e w4 ⟨rfl, hb4⟩
  have h1 := hb1.trans (hb2.mono hb1.size)
  have h2 := h1.trans (hb3.mono h1.size)
  have h3 := h2.trans (hb4.mono h2.size)
  have X4 := H0.out.bel h3
  have hB := Hb0.out.trans (h3.mono Hb0.out.size)
  obtain ⟨q0, q1, q2, q3, q4, q5, q6, q7, q8, q9⟩ := X4.at_.c10
  have g0 := X4.fz 0; have g1 := X4.fz 1; have g2 := X4.fz 2; have g3 := X4.fz 3; have g4 := X4.fz 4; have g5 := X4.fz 5; have g6 := X4.fz 6; have g7 := X4.fz 7; have g8 := X4.fz 8; have g9 := X4.fz 9
  have hset := ((((((((((X4.set (j := 0) (.int .i64 5000) (by simp)).set (j := 1) (.int .i64 6000) (by simp)).set (j := 2) (.int .i64 6000) (by simp)).set (j := 3) (.int .i64 10000) (by simp)).set (j := 4) (.int .i64 100) (by simp)).set (j := 5) (.int .i64 200) (by simp)).set (j := 6) (.int .i64 900) (by simp)).set (j := 7) (.int .i64 1000) (by simp)).set (j := 8) (.int .i64 0) (by simp)).set (j := 9) (.int .i64 300) (by simp))
  simp only [List.set_cons_zero, List.set_cons_succ] at hset
  have HS := hide hset.at_
  have HB := hide hB
  clear hset h1 h2 h3 X4 hB hb1 hb2 hb3 hb4
  go_wp2_with fail
  refine bodyPost_ret (results_mid rfl _ _ b0 _ rfl HS.out Try.underlying25 rfl (by kernel_rfl)) rfl ?_
  exact ⟨rfl, ((((((((((HB.out.setCell (p := ⟨b0, 0, none⟩) hb0g _).setCell (p := ⟨b0, 1, none⟩) hb0g _).setCell (p := ⟨b0, 2, none⟩) hb0g _).setCell (p := ⟨b0, 3, none⟩) hb0g _).setCell (p := ⟨b0, 4, none⟩) hb0g _).setCell (p := ⟨b0, 5, none⟩) hb0g _).setCell (p := ⟨b0, 6, none⟩) hb0g _).setCell (p := ⟨b0, 7, none⟩) hb0g _).setCell (p := ⟨b0, 8, none⟩) hb0g _).setCell (p := ⟨b0, 9, none⟩) hb0g _)⟩
set_option maxRecDepth 100000 in
theorem after_ex1 : afterE ⟨⟨5000, 6000⟩, 6000, 10000, ⟨100, 200⟩, ⟨900, 1000⟩, ⟨0, 300⟩⟩ ⟨10000, 10000⟩ 2 = 0 ∧ afterV ⟨⟨5000, 6000⟩, 6000, 10000, ⟨100, 200⟩, ⟨900, 1000⟩, ⟨0, 300⟩⟩ ⟨10000, 10000⟩ 2 = [⟨6000, 8300⟩, ⟨7000, 10600⟩] := ⟨by kernel_rfl, by kernel_rfl⟩
set_option maxRecDepth 100000 in
theorem after_ex2 : afterE ⟨⟨5000, 6000⟩, 6000, 10000, ⟨100, 200⟩, ⟨900, 1000⟩, ⟨0, 300⟩⟩ ⟨12000, 13000⟩ 1 = 0 ∧ afterV ⟨⟨5000, 6000⟩, 6000, 10000, ⟨100, 200⟩, ⟨900, 1000⟩, ⟨0, 300⟩⟩ ⟨12000, 13000⟩ 1 = [⟨3300, 6900⟩] := ⟨by kernel_rfl, by kernel_rfl⟩
set_option maxRecDepth 100000 in
theorem need_ex : needF ⟨⟨5000, 6000⟩, 6000, 10000, ⟨100, 200⟩, ⟨900, 1000⟩, ⟨0, 300⟩⟩ = (13286, 0) := by kernel_rfl
end Go.Proofs.Ytmbhnjpaieimbaa
namespace Go.Proofs.Ytmbhnjpaieimbaa
open Go.RowKit Go.Shelf
theorem Rows.bel' {α : Type} {w w' : World} {cells : α → List Value} {ss : List Sl} {xss : List (List α)} (h : Rows w w.heap.size cells ss xss) (hb : Below w.heap.size w w') : Rows w' w'.heap.size cells ss xss := (h.below hb).more hb.size
theorem rows2 {w : World} {b c : Nat} {x y : List Int} {n m n' m' : Nat} (h1 : Rd w w.heap.size icell (some ⟨b, 0, none⟩) x) (h2 : Rd w w.heap.size icell (some ⟨c, 0, none⟩) y) (e1 : n = x.length := by rfl) (e2 : m = y.length := by rfl) :
    Rows w w.heap.size icell [⟨some ⟨b, 0, none⟩, n, n'⟩, ⟨some ⟨c, 0, none⟩, m, m'⟩] [x, y] :=
  ⟨rfl, fun i s xs hs hx => by
    match i, hs, hx with
    | 0, hs, hx => simp at hs hx; subst hs hx; exact ⟨e1, h1⟩
    | 1, hs, hx => simp at hs hx; subst hs hx; exact ⟨e2, h2⟩
    | n + 2, hs, hx => simp at hs⟩
set_option maxHeartbeats 40000000 in
set_option maxRecDepth 100000 in
theorem salive_any (w : World) : Calls Try.prog 35 #[] w fun e w' => e = .returned (.bool true) ∧ Below w.heap.size w w' := by
  go_enter Try.func35, Try.ntmps35
  go_wp2_with fail
  refine (sfield_any _).mono ?_
  rintro e w11 ⟨rfl, h11⟩
  go_wp2_with fail
  refine (sspan_any _ _ _).mono ?_
  rintro e w12 ⟨rfl, h12⟩
  go_wp2_with fail
  refine (after_fn _ _ _ _ _ _ _ _ _ _ _ _ _ _).mono ?_
  rintro e w1 ⟨v, rfl, ho, h13⟩
  simp only [after_ex1.1, after_ex1.2] at ho ⊢
  obtain ⟨A1, c1, rfl, ra⟩ := ho.rdn 2 rfl
  have h1 := h11.trans ((h12.trans (h13.mono h12.size)).mono h11.size)
  clear ho h11 h12 h13
  go_wp2_with fail
  refine (sfield_any _).mono ?_
  rintro e w11 ⟨rfl, h11⟩
  go_wp2_with fail
  refine (sspan_any _ _ _).mono ?_
  rintro e w12 ⟨rfl, h12⟩
  go_wp2_with fail
  refine (after_fn _ _ _ _ _ _ _ _ _ _ _ _ _ _).mono ?_
  rintro e w2 ⟨v, rfl, ho, h13⟩
  simp only [after_ex2.1, after_ex2.2] at ho ⊢
  obtain ⟨A2, c2, rfl, rb⟩ := ho.rdn 1 rfl
  have h2 := h11.trans ((h12.trans (h13.mono h12.size)).mono h11.size)
  clear ho h11 h12 h13
  replace ra := ra.bel h2
  replace h1 := h1.trans (h2.mono h1.size)
  clear h2
  go_wp2_with fail
  refine (sfield_any _).mono ?_
  rintro e w11 ⟨rfl, h11⟩
  go_wp2_with fail
  refine (need_fn _ _ _ _ _ _ _ _ _ _ _).mono ?_
  rintro e w3 ⟨rfl, h13⟩
  simp only [need_ex]
  have h3 := h11.trans (h13.mono h11.size)
  clear h11 h13
  replace ra := ra.bel h3; replace rb := rb.bel h3
  replace h1 := h1.trans (h3.mono h1.size)
  clear h3
  go_wp2_with fail
  refine (needs_any _).mono ?_
  rintro e w11 ⟨bn, rfl, rn, h11⟩
  go_wp2_with fail
  refine (rents_any _ _).mono ?_
  rintro e w12 ⟨br, R1, R2, k1, k2, rfl, rr, h12⟩
  go_wp2_with fail
  refine (plan_any _ _ _ _ _ _ _ _ _ (rn.bel h12) rfl (by decide) rr (by decide)).mono ?_
  rintro e w4 ⟨v, rfl, ⟨ss, ho, rpp⟩, h13⟩
  simp only [plan_ex] at ho rpp ⊢
  obtain ⟨A4, c4, rfl, rp⟩ := ho.rdn 2 rpp.len
  have h4 := h11.trans ((h12.trans (h13.mono h12.size)).mono h11.size)
  clear ho rn rr h11 h12 h13
  replace ra := ra.bel h4; replace rb := rb.bel h4
  replace h1 := h1.trans (h4.mono h1.size)
  clear h4
  go_wp2_with fail
  refine (needs_any _).mono ?_
  rintro e w11 ⟨bn, rfl, rn, h11⟩
  go_wp2_with fail
  refine (rents_any _ _).mono ?_
  rintro e w12 ⟨br, R1, R2, k1, k2, rfl, rr, h12⟩
  go_wp2_with fail
  refine (lackR_any _ _ _ _ _ _ _ _ _ (rn.bel h12) rfl (by decide) rr (by decide)).mono ?_
  rintro e w5 ⟨A5, n5, c5, rfl, hn5, _, rl, h13⟩
  simp only [lack_ex] at hn5 rl ⊢
  obtain rfl : n5 = 1 := hn5
  have h5 := h11.trans ((h12.trans (h13.mono h12.size)).mono h11.size)
  clear rn rr h11 h12 h13
  replace ra := ra.bel h5; replace rb := rb.bel h5; replace rp := rp.bel h5; replace rpp := rpp.bel' h5
  have hB := h1.trans (h5.mono h1.size)
  clear h1 h5
  have hc := Below.refl w5.heap.size w5
  go_wp2_with fail
  refine (sspan_any _ _ _).mono ?_
  rintro e w6 ⟨rfl, hh⟩
  replace ra := ra.bel hh; replace rb := rb.bel hh; replace rp := rp.bel hh; replace rpp := rpp.bel' hh; replace rl := rl.bel hh; replace hc := hc.trans (hh.mono hc.size); clear hh
  go_wp2_with fail
  refine (sspan_any _ _ _).mono ?_
  rintro e w7 ⟨rfl, hh⟩
  replace ra := ra.bel hh; replace rb := rb.bel hh; replace rp := rp.bel hh; replace rpp := rpp.bel' hh; replace rl := rl.bel hh; replace hc := hc.trans (hh.mono hc.size); clear hh
  obtain ⟨b48, w8, e48, ew48, r48, h48⟩ := mk_row (cells := Sp.cells) w7 #[.int .i64 6000, .int .i64 8300, .int .i64 7000, .int .i64 10600] 23 [⟨6000, 8300⟩, ⟨7000, 10600⟩] rfl
  replace ra := ra.bel h48; replace rb := rb.bel h48; replace rp := rp.bel h48; replace rpp := rpp.bel' h48; replace rl := rl.bel h48; replace hc := hc.trans (h48.mono hc.size); clear h48
  go_wp2_with fail
  rw [ew48.out, e48.out]
  refine (same_Sp _ _ [⟨6000, 8300⟩, ⟨7000, 10600⟩] [⟨6000, 8300⟩, ⟨7000, 10600⟩] _ _ _ _ _ rfl rfl (by decide) (by decide) ra r48).mono ?_
  rintro e w9 ⟨rfl, hh⟩
  simp only [decide_true]
  replace ra := ra.bel hh; replace rb := rb.bel hh; replace rp := rp.bel hh; replace rpp := rpp.bel' hh; replace rl := rl.bel hh; replace r48 := r48.bel hh; replace hc := hc.trans (hh.mono hc.size); clear hh
  go_wp2_with fail
  refine (sspan_any _ _ _).mono ?_
  rintro e w10 ⟨rfl, hh⟩
  replace rb := rb.bel hh; replace rp := rp.bel hh; replace rpp := rpp.bel' hh; replace rl := rl.bel hh; replace hc := hc.trans (hh.mono hc.size); clear hh
  obtain ⟨b58, w11, e58, ew58, r58, h58⟩ := mk_row (cells := Sp.cells) w10 #[.int .i64 3300, .int .i64 6900] 23 [⟨3300, 6900⟩] rfl
  replace rb := rb.bel h58; replace rp := rp.bel h58; replace rpp := rpp.bel' h58; replace rl := rl.bel h58; replace hc := hc.trans (h58.mono hc.size); clear h58
  go_wp2_with fail
  rw [ew58.out, e58.out]
  refine (same_Sp _ _ [⟨3300, 6900⟩] [⟨3300, 6900⟩] _ _ _ _ _ rfl rfl (by decide) (by decide) rb r58).mono ?_
  rintro e w12 ⟨rfl, hh⟩
  simp only [decide_true]
  replace rb := rb.bel hh; replace rp := rp.bel hh; replace rpp := rpp.bel' hh; replace rl := rl.bel hh; replace r58 := r58.bel hh; replace hc := hc.trans (hh.mono hc.size); clear hh
  obtain ⟨b79, w13, e79, ew79, r79, h79⟩ := mk_row (cells := icell) w12 #[.int .i64 30, .int .i64 0, .int .i64 0] 3 [30, 0, 0] rfl
  replace rp := rp.bel h79; replace rpp := rpp.bel' h79; replace rl := rl.bel h79; replace hc := hc.trans (h79.mono hc.size); clear h79
  obtain ⟨b80, w14, e80, ew80, r80, h80⟩ := mk_row (cells := icell) w13 #[.int .i64 0, .int .i64 20, .int .i64 10] 3 [0, 20, 10] rfl
  replace rp := rp.bel h80; replace rpp := rpp.bel' h80; replace rl := rl.bel h80; replace r79 := r79.bel h80; replace hc := hc.trans (h80.mono hc.size); clear h80
  obtain ⟨b81, w15, e81, ew81, r81, h81⟩ := mk_row (cells := Sl.cells) w14 #[.slice (some ⟨b79, 0, none⟩) 3 3, .slice (some ⟨b80, 0, none⟩) 3 3] 41 [⟨some ⟨b79, 0, none⟩, 3, 3⟩, ⟨some ⟨b80, 0, none⟩, 3, 3⟩] rfl
  replace rp := rp.bel h81; replace rpp := rpp.bel' h81; replace rl := rl.bel h81; replace r79 := r79.bel h81; replace r80 := r80.bel h81; replace hc := hc.trans (h81.mono hc.size); clear h81
  have sz80 : b80 = b79 + 1 := by rw [e80.out.symm, ← ew79.out, ← e79.out]; simp
  have sz81 : b81 = b80 + 1 := by rw [e81.out.symm, ← ew80.out, ← e80.out]; simp
  go_wp2_with fail
  rw [ew79.out, e79.out, ← sz80, ew80.out, ← sz81, ew81.out]
  refine (sameLists_true _ _ _ _ [[30, 0, 0], [0, 20, 10]] _ _ _ _ rfl (by decide) rp r81 rpp (rows2 r79 r80) (by decide)).mono ?_
  rintro e w16 ⟨rfl, hh⟩
  simp only [decide_true]
  replace rp := rp.bel hh; replace rpp := rpp.bel' hh; replace rl := rl.bel hh; replace r79 := r79.bel hh; replace r80 := r80.bel hh; replace r81 := r81.bel hh; replace hc := hc.trans (hh.mono hc.size); clear hh
  obtain ⟨b90, w17, e90, ew90, r90, h90⟩ := mk_row (cells := icell) w16 #[.int .i64 0] 3 [0] rfl
  replace rl := rl.bel h90; replace hc := hc.trans (h90.mono hc.size); clear h90
  go_wp2_with fail
  rw [ew90.out, e90.out]
  refine (same_int _ _ [0] [0] _ _ _ _ _ rfl rfl (by decide) (by decide) rl r90).mono ?_
  rintro e w18 ⟨rfl, hh⟩
  simp only [decide_true]
  replace rl := rl.bel hh; replace r90 := r90.bel hh; replace hc := hc.trans (hh.mono hc.size); clear hh
  replace hB := hB.trans (hc.mono hB.size)
  go_wp2_with fail
  go_ret
  exact ⟨rfl, hB⟩
end Go.Proofs.Ytmbhnjpaieimbaa
