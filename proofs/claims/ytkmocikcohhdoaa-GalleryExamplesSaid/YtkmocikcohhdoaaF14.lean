/- slices.Backward over the reaches: an iterator, by contract. -/
import Derived.Test.YtkmocikcohhdoaaF13
set_option linter.unusedVariables false
set_option linter.unusedSimpArgs false
namespace Go.Proofs.Ytkmocikcohhdoaa
open Go.RowKit Go.Shelf
attribute [local go_sem] Oper.semAt_some
def rcAgg (r : Rc) : Value := .agg #[.int .i64 r.cap.lo, .int .i64 r.cap.hi, .int .i64 r.leak.lo, .int .i64 r.leak.hi, .int .i64 r.gain.lo, .int .i64 r.gain.hi]
set_option maxHeartbeats 4000000 in
set_option maxRecDepth 100000 in
theorem back1_seq (n0 : Nat) (hn0 : 3 ≤ n0) (bs : Nat) (Aa : Option Addr) (n ca : Nat) (g : List Rc) (B : Nat) (wa : World) (hB : B ≤ wa.heap.size) (hbs : At wa bs [.slice Aa n ca]) (hg : Rd wa B Rc.cells Aa g) (hn : n = g.length) (hn2 : n ≤ 20) :
    SeqK n0 Try.prog 106 #[.pointer (some ⟨bs, 0, none⟩)] (fun k => #[.int .i64 ((n - 1 - k : Nat) : Int), rcAgg (g.getD (n - 1 - k) Rc.zero)]) n False (fun _ _ => False) (fun _ => False) (fun b => b < B ∨ b = bs) wa := by
  intro l J Jx Wi hW hJ hJx hY h0 hinf
  have HY := hide hY; have H0 := hide h0
  have hbs := hbs.kept hW (.inr rfl)
  have Hg := hide (hg.keptR hW (fun _ h => .inl h) hB)
  have hBW : B ≤ Wi.heap.size := Nat.le_trans hB hW.size
  have Hn := hide hn
  have q0 := hbs.c1
  clear hY h0 hJ hJx hinf hg hn hW
  have e1 : IntKind.i64.wrap ((n : Int) - 1) = (n : Int) - 1 := wrapI (by omega)
  refine callsIn_of_wp Try.func106 rfl trivial ?_ rfl
  simp only [Try.ntmps106, List.size_toArray, List.length_cons, List.length_nil, Nat.reduceAdd, Nat.reduceSub, Array.replicate_succ, Array.replicate_zero, List.push_toArray, List.append_toArray, List.nil_append, List.cons_append]
  gi_wp2_with fail
  gi_loopw [3] (fun p wr => ∃ (k m : Nat), p = .int .i64 ((m : Int) - 1) ∧ k + m = n ∧ J k wr ∧ Kept (fun b => b < B ∨ b = bs) Wi wr) (fun p _ => (intOf p + 1).toNat)
  case atStart => exact ⟨0, n, rfl, by omega, H0.out, Kept.refl _ _⟩
  case round =>
    obtain ⟨k, m, rfl, hm, hj, hk⟩ := hrel
    have Hm := hide hm
    cases m with
    | zero =>
      clear hm
      gi_wp2_with fail
      go_end0
      exact .inl ⟨_, rfl, .inl (by rw [← Hm.out]; exact hj)⟩
    | succ m =>
      obtain ⟨b, off, r0, r1, r2, r3, r4, r5, rfl, hb, hx, c0, c1, c2, c3, c4, c5⟩ := (Hg.out.keptR hk (fun _ h => .inl h) hBW).rc (i := m) (by have := Hn.out; omega)
      have q1 := (hbs.kept hk (.inr rfl)).c1
      have em : n - 1 - k = m := by omega
      obtain ⟨fn, tmps, assign, body, hy, hR⟩ := HY.out k wr hj (by omega)
      rw [em, show g.getD m Rc.zero = ⟨⟨r0, r1⟩, ⟨r2, r3⟩, ⟨r4, r5⟩⟩ by rw [List.getD_eq_getElem?_getD, hx]; rfl] at hy
      have HR := hide hR
      have hmn : m < n := by omega
      have e2 : ((m + 1 : Nat) : Int) - 1 = (m : Int) := by omega
      rw [e2]
      have e3 : IntKind.i64.wrap ((m : Int) - 1) = (m : Int) - 1 := wrapI (by omega)
      unfold rcAgg at hy
      clear hR hx hm em e2
      gi_wp2_with fail
      refine ⟨fun h => by simp [Fence.wide] at h, HR.out.mono ?_⟩
      rintro e W3 (⟨rfl, hJ3, hk3⟩ | ⟨rfl, hJx3⟩)
      · have Hk := hide (hk.trans hk3)
        gi_wp2_with fail
        exact ⟨⟨k + 1, m, rfl, by have := Hm.out; omega, hJ3, Hk.out⟩, by simp [intOf]⟩
      · gi_wp2_with fail
        refine bodyPost_ret (results_none rfl _ _ _) rfl ?_
        exact .inl ⟨_, rfl, .inr ⟨k + 1, by have := Hm.out; omega, hJx3⟩⟩
theorem enters_back1 : ∀ args w, (callFunc 106 args).run Try.prog w = .ok (.enter 106 args) w := enters_of Try.func106 (by kernel_rfl) rfl
end Go.Proofs.Ytkmocikcohhdoaa
