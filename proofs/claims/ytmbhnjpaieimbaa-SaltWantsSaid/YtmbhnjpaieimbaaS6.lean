/- Salt: the years without end, by a contract of our own. -/
import Derived.Test.YtmbhnjpaieimbaaS5
import Derived.Test.YtmbhnjpaieimbaaRange
import Derived.Test.YtmbhnjpaieimbaaRange2
import Derived.Handy
set_option linter.unusedVariables false
set_option linter.unusedSimpArgs false
namespace Go.Proofs.Ytmbhnjpaieimbaa
open Go.RowKit Go.Shelf
attribute [local go_sem] Oper.semAt_some
/-! ### 1. The plain law: the salt after k cycles -/
def So.set (s : So) (a : Sp) : So := { s with salt := a }
def saltN (s : So) (w : Sp) : Nat → Sp
  | 0 => s.salt
  | k + 1 => cycleF (s.set (saltN s w k)) w
theorem roundF_bd {h : Bool} {o X : Int} (hX : 0 ≤ X) (ho : o ≤ 1000 * X) : 0 ≤ roundF h (max 0 o) ∧ roundF h (max 0 o) ≤ X := by
  cases h <;> simp only [roundF, Bool.false_eq_true, if_false, if_true] <;> omega
theorem endC_bd {h : Bool} {s : So} {w : Sp} {B : Int} (hB : 0 ≤ B) (hf : s.fit B) (h0 : 0 ≤ w.lo) (h1 : w.lo ≤ w.hi) (h2 : w.hi ≤ 1000000000) : 0 ≤ endC h s w ∧ endC h s w ≤ B + 100100000000 := by
  unfold endC
  refine roundF_bd (by omega) ?_
  refine (outF_bd (C := -100000000000000) (by simp [turnsF]) (fun y hy => ?_)).1
  obtain ⟨x, hx, rfl⟩ := List.mem_map.1 hy
  have hx' : 0 ≤ x ∧ x ≤ 1000000000 := by simp [turnsF] at hx; omega
  have := saltedF_bds (h := h) hf hx'.1 hx'.2
  omega
theorem So.fit.set {s : So} {B B' : Int} {a : Sp} (hf : s.fit B) (h0 : 0 ≤ a.lo ∧ a.lo ≤ B') (h1 : 0 ≤ a.hi ∧ a.hi ≤ B') : (s.set a).fit B' := ⟨h0, h1, hf.cr, hf.m0, hf.m1, hf.w0, hf.w1, hf.r0, hf.r1⟩
theorem saltN_bd {s : So} {w : Sp} (hf : s.fit 100000000) (h0 : 0 ≤ w.lo) (h1 : w.lo ≤ w.hi) (h2 : w.hi ≤ 1000000000) : ∀ k : Nat,
    (0 ≤ (saltN s w k).lo ∧ (saltN s w k).lo ≤ 100000000 + k * 100100000000) ∧ (0 ≤ (saltN s w k).hi ∧ (saltN s w k).hi ≤ 100000000 + k * 100100000000)
  | 0 => by have a := hf.a0; have b := hf.a1; simp only [saltN]; omega
  | k + 1 => by
    have ih := saltN_bd hf h0 h1 h2 k
    have hf' : (s.set (saltN s w k)).fit (100000000 + k * 100100000000) := hf.set ih.1 ih.2
    have a := endC_bd (h := false) (by omega) hf' h0 h1 h2
    have b := endC_bd (h := true) (by omega) hf' h0 h1 h2
    simp only [saltN, cycleF]
    push_cast
    omega
theorem saltN_fit {s : So} {w : Sp} (hf : s.fit 100000000) (h0 : 0 ≤ w.lo) (h1 : w.lo ≤ w.hi) (h2 : w.hi ≤ 1000000000) {k : Nat} (hk : k ≤ 100) : (s.set (saltN s w k)).fit 100000000000000 := by
  have ih := saltN_bd hf h0 h1 h2 k
  exact hf.set (by omega) (by omega)

set_option maxHeartbeats 8000000 in
set_option maxRecDepth 100000 in
theorem years1_seq (n : Nat) (hn : 3 ≤ n) (bs bw : Nat) (hne : bs ≠ bw) (a0 a1 li cr m0 m1 w0 w1 r0 r1 lo hi : Int) (N : Nat) (hN : N ≤ 100) (wa : World) (hf : So.fit 100000000 ⟨⟨a0, a1⟩, li, cr, ⟨m0, m1⟩, ⟨w0, w1⟩, ⟨r0, r1⟩⟩) (hlo : 0 ≤ lo) (hh : lo ≤ hi) (hhi : hi ≤ 1000000000)
    (hs : At wa bs [.int .i64 a0, .int .i64 a1, .int .i64 li, .int .i64 cr, .int .i64 m0, .int .i64 m1, .int .i64 w0, .int .i64 w1, .int .i64 r0, .int .i64 r1]) (hfz : ∀ j : Nat, wa.frozen? ⟨bs, j, none⟩ = false) (hw : At wa bw [.int .i64 lo, .int .i64 hi]) :
    SeqK n Try.prog 89 #[.pointer (some ⟨bs, 0, none⟩), .pointer (some ⟨bw, 0, none⟩)] (fun k => #[.agg #[.int .i64 (saltN ⟨⟨a0, a1⟩, li, cr, ⟨m0, m1⟩, ⟨w0, w1⟩, ⟨r0, r1⟩⟩ ⟨lo, hi⟩ (k + 1)).lo, .int .i64 (saltN ⟨⟨a0, a1⟩, li, cr, ⟨m0, m1⟩, ⟨w0, w1⟩, ⟨r0, r1⟩⟩ ⟨lo, hi⟩ (k + 1)).hi]]) N True (fun _ _ => False) (fun b => b = bs) (fun b => b = bs ∨ b = bw) wa := by
  intro l J Jx W hW hJ hJx hY h0 hinf
  have Hf := hide hf; have HJ := hide hJ; have HJx := hide hJx; have HY := hide hY; have Hinf := hide hinf; have H0 := hide h0
  have Hs := hide (hs.kept hW (.inl rfl)); have Hw := hide (hw.kept hW (.inr rfl))
  have Hz : Hid (∀ j : Nat, W.frozen? ⟨bs, j, none⟩ = false) := hide fun j => (hW.frozen (p := ⟨bs, j, none⟩) (.inl rfl) hs.1).trans (hfz j)
  clear hf hJ hJx hY hinf h0 hs hw hfz hW
  refine callsIn_of_wp Try.func89 rfl trivial ?_ rfl
  simp only [Try.ntmps89, List.size_toArray, List.length_cons, List.length_nil, Nat.reduceAdd, Nat.reduceSub, Array.replicate_succ, Array.replicate_zero, List.push_toArray, List.append_toArray, List.nil_append, List.cons_append]
  gi_wp2
  refine wpIn_loop_rounds N (rounds_of (fun r a wr => ∃ (k : Nat) (u3 u4 u5 u6 u7 u8 u9 u10 u11 u12 u13 u14 : Value), k + r = N ∧ a = { tmps := #[.func (.yield l) #[] #[], .pointer (some ⟨bs, 0, none⟩), .pointer (some ⟨bw, 0, none⟩), u3, u4, u5, u6, u7, u8, u9, u10, u11, u12, u13, u14], defers := [] } ∧ J k wr ∧
      Hid (At wr bs ((So.set ⟨⟨a0, a1⟩, li, cr, ⟨m0, m1⟩, ⟨w0, w1⟩, ⟨r0, r1⟩⟩ (saltN ⟨⟨a0, a1⟩, li, cr, ⟨m0, m1⟩, ⟨w0, w1⟩, ⟨r0, r1⟩⟩ ⟨lo, hi⟩ k)).cells)) ∧ Hid (At wr bw [.int .i64 lo, .int .i64 hi]) ∧ Hid (∀ j : Nat, wr.frozen? ⟨bs, j, none⟩ = false)) ?_ ?_ N _ _ ⟨0, undef, undef, undef, undef, undef, undef, undef, undef, undef, undef, undef, undef, by omega, rfl, H0.out, Hs, Hw, Hz⟩)
  · rintro a wr ⟨k, u3, u4, u5, u6, u7, u8, u9, u10, u11, u12, u13, u14, hk, rfl, hj, _⟩
    obtain rfl : k = N := by omega
    exact Hinf.out trivial _ hj
  · rintro r a wr ⟨k, u3, u4, u5, u6, u7, u8, u9, u10, u11, u12, u13, u14, hk, rfl, hj, hs, hw, hz⟩
    have Hj := hide hj; clear hj
    obtain ⟨x, y, hxy⟩ : ∃ x y, saltN ⟨⟨a0, a1⟩, li, cr, ⟨m0, m1⟩, ⟨w0, w1⟩, ⟨r0, r1⟩⟩ ⟨lo, hi⟩ k = ⟨x, y⟩ := ⟨_, _, rfl⟩
    have hfit := saltN_fit (w := ⟨lo, hi⟩) Hf.out hlo hh hhi (k := k) (by omega)
    rw [hxy] at hfit
    have hat : At wr bs [.int .i64 x, .int .i64 y, .int .i64 li, .int .i64 cr, .int .i64 m0, .int .i64 m1, .int .i64 w0, .int .i64 w1, .int .i64 r0, .int .i64 r1] := by
      have h1 := hs.out
      rw [hxy] at h1
      exact h1
    obtain ⟨q0, q1, q2, q3, q4, q5, q6, q7, q8, q9⟩ := hat.c10
    obtain ⟨z0, z1⟩ := hw.out.c2
    have haf := hide (after_any x y li cr m0 m1 w0 w1 r0 r1 lo hi wr hfit hlo hh hhi)
    have hnx : saltN ⟨⟨a0, a1⟩, li, cr, ⟨m0, m1⟩, ⟨w0, w1⟩, ⟨r0, r1⟩⟩ ⟨lo, hi⟩ (k + 1) = cycleF (So.set ⟨⟨a0, a1⟩, li, cr, ⟨m0, m1⟩, ⟨w0, w1⟩, ⟨r0, r1⟩⟩ ⟨x, y⟩) ⟨lo, hi⟩ := by rw [← hxy]; rfl
    obtain ⟨x', y', hxy'⟩ : ∃ x' y', cycleF (So.set ⟨⟨a0, a1⟩, li, cr, ⟨m0, m1⟩, ⟨w0, w1⟩, ⟨r0, r1⟩⟩ ⟨x, y⟩) ⟨lo, hi⟩ = ⟨x', y'⟩ := ⟨_, _, rfl⟩
    have haf' : Hid (Calls Try.prog 90 #[.agg #[.int .i64 x, .int .i64 y, .int .i64 li, .int .i64 cr, .int .i64 m0, .int .i64 m1, .int .i64 w0, .int .i64 w1, .int .i64 r0, .int .i64 r1], .agg #[.int .i64 lo, .int .i64 hi]] wr fun e w' => e = .returned (.agg #[.int .i64 x', .int .i64 y']) ∧ Below wr.heap.size wr w') := by
      have h1 := haf.out
      have h2 : cycleF ⟨⟨x, y⟩, li, cr, ⟨m0, m1⟩, ⟨w0, w1⟩, ⟨r0, r1⟩⟩ ⟨lo, hi⟩ = ⟨x', y'⟩ := hxy'
      rw [h2] at h1
      exact h1
    rw [hxy'] at hnx
    have Hnx := hide hnx; have Hxy := hide hxy
    clear hnx hxy hxy' haf hfit
    have hkN : k < N := by omega
    gi_wp2_with fail
    refine ⟨trivial, fun h => by simp [Fence.wide] at h, ?_⟩
    refine (callsIn_wide.2 haf'.out).mono ?_
    rintro e w' ⟨rfl, hb⟩
    have hat2 := ((hat.below hb).set (j := 0) (.int .i64 x') (by simp)).set (j := 1) (.int .i64 y') (by simp)
    simp only [List.set_cons_zero, List.set_cons_succ] at hat2
    obtain ⟨p0, p1⟩ := two_set w' bs (.int .i64 x') (.int .i64 y') (hat.below hb).c10.1 (hat.below hb).c10.2.1
    obtain ⟨c0, c1, _⟩ := (hat.below hb).c10
    have f0 : w'.frozen? ⟨bs, 0, none⟩ = false := (hb.frozen (p := ⟨bs, 0, none⟩) hat.1).trans (hz.out 0)
    have f1 : w'.frozen? ⟨bs, 1, none⟩ = false := (hb.frozen (p := ⟨bs, 1, none⟩) hat.1).trans (hz.out 1)
    have kk : Kept (fun b => ¬ b = bs) wr ((w'.setCell ⟨bs, 0, none⟩ (.int .i64 x')).setCell ⟨bs, 1, none⟩ (.int .i64 y')) :=
      ((Kept.all _ hb).trans ((Kept.setCell w' ⟨bs, 0, none⟩ (.int .i64 x')).mono fun b _ h => h)).trans ((Kept.setCell _ ⟨bs, 1, none⟩ (.int .i64 y')).mono fun b _ h => h)
    have hj2 := HJ.out k _ _ Hj.out kk
    have hw2 := hide (hw.out.kept kk (fun e => hne e.symm))
    obtain ⟨fn, tmps, assign, body, hy, hR⟩ := HY.out k _ hj2 hkN
    rw [Hnx.out] at hy
    have HR := hide hR; have Hat2 := hide hat2
    clear hR hat2
    gi_wp2
    refine ⟨fun h => by simp [Fence.wide] at h, HR.out.mono ?_⟩
    rintro e W' (⟨rfl, hJ', hk'⟩ | ⟨rfl, hJx'⟩)
    · gi_wp2
      refine ⟨k + 1, _, _, _, _, _, _, _, _, _, _, _, _, by omega, rfl, hJ', ?_, ?_, ?_⟩
      · exact hide (by rw [Hnx.out]; exact Hat2.out.kept hk' (.inl rfl))
      · exact hide (hw2.out.kept hk' (.inr rfl))
      · refine hide fun j => (hk'.frozen (p := ⟨bs, j, none⟩) (.inl rfl) Hat2.out.1).trans ?_
        rw [World.frozen?_setCell, World.frozen?_setCell]
        exact (hb.frozen (p := ⟨bs, j, none⟩) hat.1).trans (hz.out j)
    · gi_wp2
      refine bodyPost_ret (results_none rfl _ _ _) rfl ?_
      exact .inl ⟨_, rfl, .inr ⟨k + 1, by omega, hJx'⟩⟩
end Go.Proofs.Ytmbhnjpaieimbaa
