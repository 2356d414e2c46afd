/- Channel: Minutes, by contract. -/
import Derived.Test.YtgklcilpohkpkaaW7
set_option linter.unusedVariables false
set_option linter.unusedSimpArgs false
namespace Go.Proofs.Ytgklcilpohkpkaa
open Go.RowKit Go.Shelf
attribute [local go_sem ↓] Go.wp_at_zero Go.wp_at_succ
def wkT (cs : List Ca) (c : Int) : Wk := match cs[c.toNat]? with | some ca => wkF ca.seep ca.fill true | none => ⟨⟨0, 0⟩, ⟨0, 0⟩⟩
def getK (cs : List Ca) (p : List Int) (v : Int) : Int := p.foldl (fun v c => (goF (wkT cs c) ⟨v, v⟩).lo) v
theorem getK_snoc {cs : List Ca} {p : List Int} {v : Int} {k : Nat} {c : Int} (h : p[k]? = some c) : getK cs (p.take (k + 1)) v = (goF (wkT cs c) ⟨getK cs (p.take k) v, getK cs (p.take k) v⟩).lo := by
  unfold getK
  rw [List.take_add_one, h]
  simp
theorem wkT_wf {cs : List Ca} {fs : List Int} {dry days : Int} (hok : netOk cs fs dry days = true) (c : Int) : (wkT cs c).wf := by
  unfold wkT
  cases hx : cs[c.toNat]? with
  | none => simp [Wk.wf, amt]
  | some ca =>
    have h := (caAll_iff 0 cs).1 (netOk_parts hok).2.2.2.2.2.1 _ _ hx
    simp only [caOk, inB, Sp.ok, Bool.and_eq_true, decide_eq_true_eq] at h
    obtain ⟨_, ⟨⟨h1, h2⟩, h3⟩, ⟨h4, h5⟩, h6⟩ := h
    simp [wkF, Wk.wf, amt]; omega
theorem getK_amt {cs : List Ca} {fs : List Int} {dry days : Int} (hok : netOk cs fs dry days = true) (p : List Int) {v : Int} (hv : amt v) : ∀ k, k ≤ p.length → amt (getK cs (p.take k) v) := by
  intro k
  induction k with
  | zero => intro _; simpa [getK] using hv
  | succ k ih =>
    intro hk
    rw [getK_snoc (List.getElem?_eq_getElem (by omega : k < p.length))]
    have h := ih (by omega)
    exact (goF_amt (wkT_wf hok _) (v := ⟨_, _⟩) ⟨h, h⟩).1
theorem run_fieldSp (x y : Value) (w : World) : (Instr.field 51 (.agg #[x, y]) 0).run Try.prog w = .ok x w := by
  have h : (Try.prog.info? 51).isSome = true := by kernel_rfl
  simp [Instr.field, go_sem, asAgg, Try.underlying51]
set_option maxHeartbeats 4000000 in
set_option maxRecDepth 100000 in
theorem minutes1_any (Ac Af Ap : Option Addr) (nc cc nf cf np cp : Nat) (dry days a b want m : Int) (cs : List Ca) (fs p : List Int) (bf bp bn bw : Nat) (w : World) (hnet : NetAt w Ac Af nc nf cs fs) (hok : netOk cs fs dry days = true) (hv : amt (a * m))
    (hp : Rd w w.heap.size icell Ap p) (hnp : np = p.length) (hp16 : np ≤ 1000) (hpr : ∀ x ∈ p, 0 ≤ x ∧ x < cs.length)
    (hf : At w bf [.int .i64 a, .int .i64 b]) (hpb : At w bp [.slice Ap np cp]) (hn : At w bn [.slice Ac nc cc, .slice Af nf cf, .int .i64 dry, .int .i64 days]) (hw : At w bw [.int .i64 want]) :
    Calls Try.prog 73 #[.int .i64 m, .pointer (some ⟨bf, 0, none⟩), .pointer (some ⟨bp, 0, none⟩), .pointer (some ⟨bn, 0, none⟩), .pointer (some ⟨bw, 0, none⟩)] w fun e w' => e = .returned (.bool (decide (want ≤ getK cs p (a * m)))) ∧ Below w.heap.size w w' := by
  have Hnet := hide hnet; have Hok := hide hok; have Hnp := hide hnp; have Hpr := hide hpr; have Hp := hide hp; have Hn := hide hn; have Hw := hide hw
  have Ham := hide (getK_amt hok p hv)
  have Em : wrap64 (a * m) = a * m := w64 (by obtain ⟨h1, h2⟩ := hv; omega)
  obtain ⟨q0, q1⟩ := hf.c2
  have q2 := hpb.c1
  obtain ⟨am, ham⟩ : ∃ am, am = a * m := ⟨_, rfl⟩
  rw [← ham] at Em Ham ⊢
  clear hnet hok hnp hpr hp hn hw hv hf hpb
  go_enter Try.func73, Try.ntmps73
  go_wp2_with fail
  rw [← ham, Em]
  clear ham
  go_loopw [7, 16] (fun v i wr => ∃ k : Nat, k ≤ np ∧ i = .int .i64 k ∧ v = .int .i64 (getK cs (p.take k) am) ∧ Below w.heap.size w wr) (fun _ i _ => np - (intOf i).toNat)
  case atStart => exact ⟨0, by omega, rfl, rfl, Below.refl _ _⟩
  case round =>
    obtain ⟨k, hk, rfl, rfl, hb⟩ := hrel
    obtain ⟨V, hV⟩ : ∃ V, V = getK cs (p.take k) am := ⟨_, rfl⟩
    have hVa := Ham.out k (by have := Hnp.out; omega)
    rw [← hV] at hVa ⊢
    have HVa := hide hVa; have HV := hide hV
    clear hV hVa q0 q1 q2
    by_cases hlt : k < np
    · obtain ⟨b0, off0, c, rfl, hB0, hxk, c0⟩ := ((Hp.out.below hb).more hb.size).int (i := k) (by have := Hnp.out; omega)
      obtain ⟨cp0, cp1⟩ := Hpr.out c (List.mem_of_getElem? hxk)
      obtain ⟨cn, rfl⟩ : ∃ cn : Nat, c = cn := ⟨c.toNat, by omega⟩
      obtain ⟨bc, offc, cf0, s0, s1, l0, l1, rfl, hbc, hca, e0, e1, e2, e3, e4⟩ := (Hnet.out.below hb).rc.ca (i := cn) (by omega)
      have hcb := (caAll_iff 0 cs).1 (netOk_parts Hok.out).2.2.2.2.2.1 _ _ hca
      simp only [caOk, inB, Sp.ok, Bool.and_eq_true, decide_eq_true_eq] at hcb
      obtain ⟨_, ⟨⟨B0, B1⟩, B2⟩, ⟨B3, B4⟩, B5⟩ := hcb
      have Hwk := hide (show wkT cs cn = wkF ⟨s0, s1⟩ ⟨l0, l1⟩ true from by unfold wkT; rw [Int.toNat_natCast, hca])
      have hn1 := Hnet.out.ec
      have i0 : (0 : Int) ≤ (k : Int) := by omega
      have i1 : (k : Int) < (np : Int) := by omega
      have i2 : (cn : Int) < (nc : Int) := by omega
      obtain ⟨q0, q1, q2, q3⟩ := (Hn.out.below hb).c4
      have Hxk := hide hxk; have Hca := hide hca; have Hn1 := hide hn1
      clear hxk hca hn1
      go_wp2_with fail
      refine (work_any cf0 s0 s1 l0 l1 true wr ⟨B0, by omega⟩ ⟨by omega, B2⟩).mono ?_
      rintro e w2 ⟨rfl, hb2⟩
      go_wp2_with fail
      refine (goes_any _ _ _ _ V V w2 (by have h := wkT_wf Hok.out cn; rw [Hwk.out] at h; exact h) ⟨HVa.out, HVa.out⟩).mono ?_
      rintro e w3 ⟨rfl, hb3⟩
      go_wp2_with fail
      rw [run_fieldSp]
      go_wp2_with fail
      refine ⟨⟨k + 1, by omega, by go_num, ?_, (hb.trans (hb2.mono hb.size)).trans (hb3.mono (Nat.le_trans hb.size hb2.size))⟩, by simp [intOf]; omega⟩
      rw [getK_snoc Hxk.out, ← HV.out, Hwk.out]
      rfl
    · obtain rfl : k = np := by omega
      have qw := (Hw.out.below hb).c1
      go_wp2
      go_ret
      have hz := HV.out
      rw [List.take_of_length_le (by have := Hnp.out; omega)] at hz
      rw [← hz]
      exact ⟨rfl, hb⟩
end Go.Proofs.Ytgklcilpohkpkaa
