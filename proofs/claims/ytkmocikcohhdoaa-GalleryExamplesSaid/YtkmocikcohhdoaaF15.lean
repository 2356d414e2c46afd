/- Gallery: fit, by contract. -/
import Derived.Test.YtkmocikcohhdoaaF14
import Derived.Test.YtkmocikcohhdoaaF10
set_option linter.unusedVariables false
set_option linter.unusedSimpArgs false
namespace Go.Proofs.Ytkmocikcohhdoaa
open Go.RowKit Go.Shelf
attribute [local go_sem] Oper.semAt_some
def FitPost (g : List Rc) (rd : List Sp) (s : Sp) (w : World) (e : Ending) (w' : World) : Prop :=
  ∃ v, e = .returned (.tuple #[v, .bool (flowsF g rd s).isSome]) ∧ Own w' w.heap.size 24 2 Sp.cells v ((flowsF g rd s).getD []) ∧ Below w.heap.size w w'
theorem leavesM_cons {F : Fence} {n : Nat} {P : Program} {fn : Func} {tmps : Array Value} {R : Ending → World → Prop} {fv : Fn} {cap dargs : Array Value} {ds : List Deferred} {u : FrameMode}
    {w : World} {f : FuncId} {args : Array Value} (hu : u ≠ .run) (hn : F.depth.isSome = true → 1 ≤ n) (hi : (invoke (.fn fv cap) dargs).run P w = .ok (.enter f args) w)
    (hl : ∀ g, (Target.fn fv cap).leads P w dargs = some g → F.fn g)
    (h : CallsDIn F (n - 1) P f args u w fun
      | .returned _, u', w' => LeavesInM F n P fn tmps R ds (settle u') w'
      | .panicked chain, u', w' => LeavesInM F n P fn tmps R ds (raised u' chain) w'
      | .outgrown, _, w' => R .outgrown w') :
    LeavesInM F n P fn tmps R ({ target := .fn fv cap, args := dargs } :: ds) u w :=
  ⟨hu, .inr ⟨hn, fv, cap, f, args, rfl, hi, hl, h⟩⟩
/-- The first that is not so. -/
theorem first_bad {P : Nat → Prop} [DecidablePred P] : ∀ n, (∀ k, k ≤ n → P k) ∨ ∃ j, j ≤ n ∧ ¬ P j ∧ ∀ k, k < j → P k
  | 0 => by
    by_cases h : P 0
    · exact .inl fun k hk => by obtain rfl : k = 0 := by omega
                                exact h
    · exact .inr ⟨0, by omega, h, fun k hk => by omega⟩
  | n + 1 => by
    rcases first_bad n (P := P) with h | ⟨j, h1, h2, h3⟩
    · by_cases hp : P (n + 1)
      · exact .inl fun k hk => by
          by_cases hk2 : k = n + 1
          · rw [hk2]; exact hp
          · exact h k (by omega)
      · exact .inr ⟨n + 1, by omega, hp, fun k hk => h k (by omega)⟩
    · exact .inr ⟨j, by omega, h2, h3⟩
set_option maxHeartbeats 4000000 in
set_option maxRecDepth 100000 in
theorem fit_torn (Aa Ar : Option Addr) (n ca cr : Nat) (g : List Rc) (rd : List Sp) (s : Sp) (w : World) (hg : Rd w w.heap.size Rc.cells Aa g) (hr : Rd w w.heap.size Sp.cells Ar rd) (hn : n = g.length) (hn2 : n ≤ 20) (hrl : rd.length = n + 1) (hfine : ∀ r ∈ g, r.fine)
    (hrd : ∀ x ∈ rd, 0 ≤ x.lo ∧ x.lo ≤ 13000000 ∧ 0 ≤ x.hi ∧ x.hi ≤ 13000000) (hs : s.fine 1000000) (j : Nat) (hj : j ≤ n) (hj1 : ¬ okS (dnK g rd s j)) (hj2 : ∀ k, k < j → okS (dnK g rd s k)) :
    Calls Try.prog 69 #[.agg #[.slice Aa n ca, .slice Ar (n + 1) cr], .agg #[.int .i64 s.lo, .int .i64 s.hi]] w (FitPost g rd s w) := by
  have hnone : flowsF g rd s = none := flowsF_torn j g rd s (by omega) hj1
  have Hnone := hide hnone
  obtain ⟨b2, w1, e2, ew1, hx2, hb1, hz1⟩ := mk_bx w #[.slice Aa n ca, .slice Ar (n + 1) cr] 115
  obtain ⟨b3, w2, e3, ew2, hx3, hb2, hz2⟩ := mk_bx w1 #[.int .i64 s.lo, .int .i64 s.hi] 24
  obtain ⟨b4, w3, e4, ew3, hx4, hb3, hz3⟩ := mk_bx w2 #[.slice none 0 0] 37
  obtain ⟨b5, w4, e5, ew4, hx5, hb4, hz4⟩ := mk_bx w3 #[.bool false] 4
  have i3 : b3 = b2 + 1 := by have := e3.out; omega
  subst i3
  have i4 : b4 = b2 + 1 + 1 := by have := e4.out; omega
  subst i4
  have i5 : b5 = b2 + 1 + 1 + 1 := by have := e5.out; omega
  subst i5
  have i2 : w.heap.size = b2 := e2.out
  have hB4 := ((hb1.trans (hb2.mono hb1.size)).trans (hb3.mono (hb1.trans (hb2.mono hb1.size)).size)).trans (hb4.mono ((hb1.trans (hb2.mono hb1.size)).trans (hb3.mono (hb1.trans (hb2.mono hb1.size)).size)).size)
  obtain ⟨bc, w5, ec, ew5, hxc, hb5, hz5⟩ := mk_bx w4 #[.slice Aa n ca, .slice Ar (n + 1) cr] 115
  obtain ⟨bi, w6, ei, ew6, hxi, hb6, hz6⟩ := mk_bx w5 #[.int .i64 s.lo, .int .i64 s.hi] 24
  have j1 : bi = bc + 1 := by have := ei.out; omega
  subst j1
  have j2 : w4.heap.size = bc := ec.out
  have hb46 := hb5.trans (hb6.mono hb5.size)
  have hB6 := hB4.trans (hb46.mono hB4.size)
  have hs6 : w.heap.size ≤ w6.heap.size := hB6.size
  have HC := hide (collect_sp 105 #[.pointer (some ⟨bc + 1, 0, none⟩), .pointer (some ⟨bc, 0, none⟩)] (dnK g rd s) j False (TornAt n j) (fun b => b < w.heap.size ∨ b = bc + 1 ∨ b = bc) w6 enters_down1
    (fun n0 hn0 => down1_seq n0 hn0 (bc + 1) bc Aa Ar n ca cr g rd s w.heap.size w6 j False hs6 hxi.at_ (hxc.bel hb6).at_ (hg.below hB6) (hr.below hB6) hn hn2 hrl hfine hrd hs hj2 (.inr ⟨hj, hj1⟩)) (fun b hb => by omega) (by omega))
  have hmf : ∀ (fn : Fn) (first cap : Array Value) (w : World), (Instr.makeFunc fn first cap).run Try.prog w = .ok (.func fn first cap) w := fun _ _ _ _ => rfl
  have hx24 := ((hx2.bel hb2).bel hb3).bel hb4
  have hx34 := (hx3.bel hb3).bel hb4
  have hx44 := hx4.bel hb4
  obtain ⟨q0, q1, _, _⟩ := hx24.w2
  obtain ⟨q2, q3, _, _⟩ := hx34.w2
  have Hn := hide hn
  clear hnone hg hr hfine hrd hs hj1 hj2 hrl hx2 hx3 hx4 hz1 hz2 hz3 hz4 hz5 hz6 hn
  refine (callsIn_wide (n := 12)).1 ?_
  refine callsIn_of_wp_marks Try.func69 rfl trivial ?_ rfl
  simp only [Try.ntmps69, List.size_toArray, List.length_cons, List.length_nil, Nat.reduceAdd, Nat.reduceSub, Array.replicate_succ, Array.replicate_zero, List.push_toArray, List.append_toArray, List.nil_append, List.cons_append]
  gi_wp2_with fail
  rw [ew1.out, ew2.out, ew3.out, ew4.out]
  refine wcall ((down_fn Aa Ar n (n + 1) ca cr s.lo s.hi w4).mono ?_)
  rintro e w' ⟨rfl, hw⟩
  rw [ew5.out, ew6.out] at hw
  subst hw
  rw [j2]
  gi_wp2_with fail
  refine wcall (HC.out.mono ?_)
  rintro e w7 (⟨hF, _⟩ | ⟨chain, k, rfl, ⟨_, rfl, q, rfl⟩, hb7⟩)
  · exact hF.elim
  have h44 := (hx44.bel hb46).bel hb7
  have h54 := (hx5.bel hb46).bel hb7
  have hB7 := hB6.trans (hb7.mono hB6.size)
  have hfit1 : (invoke (.fn (.func 88) #[.pointer (some ⟨b2 + 1 + 1, 0, none⟩), .pointer (some ⟨b2 + 1 + 1 + 1, 0, none⟩)]) #[]).run Try.prog w7 = .ok (.enter 88 #[.pointer (some ⟨b2 + 1 + 1, 0, none⟩), .pointer (some ⟨b2 + 1 + 1 + 1, 0, none⟩)]) w7 := by simp [go_sem]
  refine leavesM_cons (f := 88) (args := #[.pointer (some ⟨b2 + 1 + 1, 0, none⟩), .pointer (some ⟨b2 + 1 + 1 + 1, 0, none⟩)]) (by simp) (fun h => by simp [Fence.wide] at h) hfit1 (fun _ _ => trivial) ?_
  refine (fit1_torn _ _ _ q _ _ w7 h44 h54 (by omega)).mono ?_
  rintro e u' w8 ⟨rfl, rfl, h48, h58, hk8⟩
  obtain ⟨c4, _⟩ := h48.w1
  obtain ⟨c5, _⟩ := h58.w1
  refine ⟨.tuple #[.slice none 0 0, .bool false], by simp [results, Try.results69, go_sem, c4, c5]; try rfl, ?_⟩
  refine ⟨.slice none 0 0, by rw [Hnone.out]; rfl, by rw [Hnone.out]; exact Own.nil _ _ _ _ _, ?_⟩
  exact hB7.trans (hk8.below (fun b hb => by omega) hB7.size)
end Go.Proofs.Ytkmocikcohhdoaa
