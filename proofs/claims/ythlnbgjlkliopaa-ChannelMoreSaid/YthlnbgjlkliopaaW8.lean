/- Channel: Minutes, by contract. Channel: Minutes, by contract. Helpers of the outright laws: Minutes answers one number; the chapter examples as they lie in memory and what the plain functions yield there; rows and boxes that are made. -/
import Derived.Test.YthlnbgjlkliopaaW5
set_option linter.unusedVariables false
set_option linter.unusedSimpArgs false
namespace Go.Proofs.Ythlnbgjlkliopaa
open Go.RowKit Go.Shelf
attribute [local go_sem ↓] Go.wp_at_zero Go.wp_at_succ
def wkT (cs : List Ca) (c : Int) : Wk := match cs[c.toNat]? with | some ca => wkF ca.seep ca.fill true | none => ⟨⟨0, 0⟩, ⟨0, 0⟩⟩
def getK (cs : List Ca) (p : List Int) (v : Int) : Int := p.foldl (fun v c => (goF (wkT cs c) ⟨v, v⟩).lo) v
theorem getK_snoc {cs : List Ca} {p : List Int} {v : Int} {k : Nat} {c : Int} (h : p[k]? = some c) : getK cs (p.take (k + 1)) v = (goF (wkT cs c) ⟨getK cs (p.take k) v, getK cs (p.take k) v⟩).lo := by
  unfold getK
  rw [List.take_add_one, h]
  simp
theorem wkT_wf {cs : List Ca} {fs : List Int} {dry days : Int} (hok : netOk cs fs dry days = true) (c : Int) : (wkT cs c).wf := by
  unfold wkT
  cases hx : cs[c.toNat]? with
  | none => simp [Wk.wf, amt]
  | some ca =>
    have h := (caAll_iff 0 cs).1 (netOk_parts hok).2.2.2.2.2.1 _ _ hx
    simp only [caOk, inB, Sp.ok, Bool.and_eq_true, decide_eq_true_eq] at h
    obtain ⟨_, ⟨⟨h1, h2⟩, h3⟩, ⟨h4, h5⟩, h6⟩ := h
    simp [wkF, Wk.wf, amt]; omega
theorem getK_amt {cs : List Ca} {fs : List Int} {dry days : Int} (hok : netOk cs fs dry days = true) (p : List Int) {v : Int} (hv : amt v) : ∀ k, k ≤ p.length → amt (getK cs (p.take k) v) := by
  intro k
  induction k with
  | zero => intro _; simpa [getK] using hv
  | succ k ih =>
    intro hk
    rw [getK_snoc (List.getElem?_eq_getElem (by omega : k < p.length))]
    have h := ih (by omega)
    exact (goF_amt (wkT_wf hok _) (v := ⟨_, _⟩) ⟨h, h⟩).1
theorem run_fieldSp (x y : Value) (w : World) : (Instr.field 27 (.agg #[x, y]) 0).run Try.prog w = .ok x w := by
  have h : (Try.prog.info? 27).isSome = true := by kernel_rfl
  simp [Instr.field, go_sem, asAgg, Try.underlying27]
set_option maxHeartbeats 4000000 in
set_option maxRecDepth 100000 in
theorem minutes1_any (Ac Af Ap : Option Addr) (nc cc nf cf np cp : Nat) (dry days a b want m : Int) (cs : List Ca) (fs p : List Int) (bf bp bn bw : Nat) (w : World) (hnet : NetAt w Ac Af nc nf cs fs) (hok : netOk cs fs dry days = true) (hv : amt (a * m))
    (hp : Rd w w.heap.size icell Ap p) (hnp : np = p.length) (hp16 : np ≤ 1000) (hpr : ∀ x ∈ p, 0 ≤ x ∧ x < cs.length)
    (hf : At w bf [.int .i64 a, .int .i64 b]) (hpb : At w bp [.slice Ap np cp]) (hn : At w bn [.slice Ac nc cc, .slice Af nf cf, .int .i64 dry, .int .i64 days]) (hw : At w bw [.int .i64 want]) :
    Calls Try.prog 38 #[.int .i64 m, .pointer (some ⟨bf, 0, none⟩), .pointer (some ⟨bp, 0, none⟩), .pointer (some ⟨bn, 0, none⟩), .pointer (some ⟨bw, 0, none⟩)] w fun e w' => e = .returned (.bool (decide (want ≤ getK cs p (a * m)))) ∧ Below w.heap.size w w' := by
  have Hnet := hide hnet; have Hok := hide hok; have Hnp := hide hnp; have Hpr := hide hpr; have Hp := hide hp; have Hn := hide hn; have Hw := hide hw
  have Ham := hide (getK_amt hok p hv)
  have Em : wrap64 (a * m) = a * m := w64 (by obtain ⟨h1, h2⟩ := hv; omega)
  obtain ⟨q0, q1⟩ := hf.c2
  have q2 := hpb.c1
  obtain ⟨am, ham⟩ : ∃ am, am = a * m := ⟨_, rfl⟩
  rw [← ham] at Em Ham ⊢
  clear hnet hok hnp hpr hp hn hw hv hf hpb
  go_enter Try.func38, Try.ntmps38
  go_wp2_with fail
  rw [← ham, Em]
  clear ham
  go_loopw [7, 16] (fun v i wr => ∃ k : Nat, k ≤ np ∧ i = .int .i64 k ∧ v = .int .i64 (getK cs (p.take k) am) ∧ Below w.heap.size w wr) (fun _ i _ => np - (intOf i).toNat)
  case atStart => exact ⟨0, by omega, rfl, rfl, Below.refl _ _⟩
  case round =>
    obtain ⟨k, hk, rfl, rfl, hb⟩ := hrel
    obtain ⟨V, hV⟩ : ∃ V, V = getK cs (p.take k) am := ⟨_, rfl⟩
    have hVa := Ham.out k (by have := Hnp.out; omega)
    rw [← hV] at hVa ⊢
    have HVa := hide hVa; have HV := hide hV
    clear hV hVa q0 q1 q2
    by_cases hlt : k < np
    · obtain ⟨b0, off0, c, rfl, hB0, hxk, c0⟩ := ((Hp.out.below hb).more hb.size).int (i := k) (by have := Hnp.out; omega)
      obtain ⟨cp0, cp1⟩ := Hpr.out c (List.mem_of_getElem? hxk)
      obtain ⟨cn, rfl⟩ : ∃ cn : Nat, c = cn := ⟨c.toNat, by omega⟩
      obtain ⟨bc, offc, cf0, s0, s1, l0, l1, rfl, hbc, hca, e0, e1, e2, e3, e4⟩ := (Hnet.out.below hb).rc.ca (i := cn) (by omega)
      have hcb := (caAll_iff 0 cs).1 (netOk_parts Hok.out).2.2.2.2.2.1 _ _ hca
      simp only [caOk, inB, Sp.ok, Bool.and_eq_true, decide_eq_true_eq] at hcb
      obtain ⟨_, ⟨⟨B0, B1⟩, B2⟩, ⟨B3, B4⟩, B5⟩ := hcb
      have Hwk := hide (show wkT cs cn = wkF ⟨s0, s1⟩ ⟨l0, l1⟩ true from by unfold wkT; rw [Int.toNat_natCast, hca])
      have hn1 := Hnet.out.ec
      have i0 : (0 : Int) ≤ (k : Int) := by omega
      have i1 : (k : Int) < (np : Int) := by omega
      have i2 : (cn : Int) < (nc : Int) := by omega
      obtain ⟨q0, q1, q2, q3⟩ := (Hn.out.below hb).c4
      have Hxk := hide hxk; have Hca := hide hca; have Hn1 := hide hn1
      clear hxk hca hn1
      go_wp2_with fail
      refine (work_any cf0 s0 s1 l0 l1 true wr ⟨B0, by omega⟩ ⟨by omega, B2⟩).mono ?_
      rintro e w2 ⟨rfl, hb2⟩
      go_wp2_with fail
      refine (goes_any _ _ _ _ V V w2 (by have h := wkT_wf Hok.out cn; rw [Hwk.out] at h; exact h) ⟨HVa.out, HVa.out⟩).mono ?_
      rintro e w3 ⟨rfl, hb3⟩
      go_wp2_with fail
      rw [run_fieldSp]
      go_wp2_with fail
      refine ⟨⟨k + 1, by omega, by go_num, ?_, (hb.trans (hb2.mono hb.size)).trans (hb3.mono (Nat.le_trans hb.size hb2.size))⟩, by simp [intOf]; omega⟩
      rw [getK_snoc Hxk.out, ← HV.out, Hwk.out]
      rfl
    · obtain rfl : k = np := by omega
      have qw := (Hw.out.below hb).c1
      go_wp2
      go_ret
      have hz := HV.out
      rw [List.take_of_length_le (by have := Hnp.out; omega)] at hz
      rw [← hz]
      exact ⟨rfl, hb⟩
end Go.Proofs.Ythlnbgjlkliopaa
namespace Go.Proofs.Ythlnbgjlkliopaa
open Go.RowKit Go.Shelf
attribute [local go_sem ↓] Go.wp_at_zero Go.wp_at_succ
theorem enters_minutes1 : ∀ args w, (callFunc 38 args).run Try.prog w = .ok (.enter 38 args) w := enters_of Try.func38 (by kernel_rfl) rfl
/-- Whether so many minutes give what is wanted. -/
def enoughB (cs : List Ca) (fs : List Int) (a k want m : Int) : Bool := decide (want ≤ getK cs (pathK cs fs k) (a * m))
/-- The least number of minutes, or that there is none. -/
def leastB (p : Int → Bool) (cyc r e : Int) : Prop := (e = 6 ∧ r = 0 ∧ p cyc = false) ∨ (e = 0 ∧ 0 ≤ r ∧ r ≤ cyc ∧ p r = true ∧ (r = 0 ∨ p (r - 1) = false))
/-- What Minutes answers. -/
def minutesP (cs : List Ca) (fs : List Int) (dry days a b k want r e : Int) : Prop :=
  if netOk cs fs dry days then (if Sp.ok 0 13000000 ⟨a, b⟩ then (if inF fs.length k && inB 0 1000000000000 want then leastB (enoughB cs fs a k want) (days * 1440) r e else (r = 0 ∧ e = 2)) else (r = 0 ∧ e = 21)) else (r = 0 ∧ e = 50)
theorem at_rd_int {W : World} {b : Nat} {x : Int} (h : At W b [.int .i64 x]) : Rd W W.heap.size icell (some ⟨b, 0, none⟩) [x] :=
  fun _ => ⟨b, 0, rfl, h.1, fun j v hv => by rw [Nat.zero_add]; exact h.2 j v (by simpa [icell] using hv)⟩
theorem want_lit (want : Int) : (!(anyOut 0 1000000000000 [want])) = inB 0 1000000000000 want := by
  simp only [anyOut, List.any_cons, List.any_nil, Bool.or_false, outB, inB, Bool.not_or]
  congr 1 <;> (rw [Bool.eq_iff_iff]; simp)
set_option maxHeartbeats 4000000 in
set_option maxRecDepth 100000 in
theorem minutes_fn (Ac Af : Option Addr) (nc cc nf cf : Nat) (dry days a b k want : Int) (cs : List Ca) (fs : List Int) (w : World) (hnet : NetAt w Ac Af nc nf cs fs) :
    Calls Try.prog 16 #[.agg #[.slice Ac nc cc, .slice Af nf cf, .int .i64 dry, .int .i64 days], .agg #[.int .i64 a, .int .i64 b], .int .i64 k, .int .i64 want] w fun e w' => ∃ r er : Int, e = .returned (.tuple #[.int .i64 r, .int .i64 er]) ∧ minutesP cs fs dry days a b k want r er ∧ Below w.heap.size w w' := by
  have hat0 := ((At.new w #[.slice Ac nc cc, .slice Af nf cf, .int .i64 dry, .int .i64 days] 25 w.heap.size rfl _ rfl).alloc (.cells #[.int .i64 a, .int .i64 b] 27)).alloc (.cells #[.int .i64 want] 3)
  have hat1 := (At.new (w.alloc (.cells #[.slice Ac nc cc, .slice Af nf cf, .int .i64 dry, .int .i64 days] 25)) #[.int .i64 a, .int .i64 b] 27 (w.heap.size + 1) (by simp) _ rfl).alloc (.cells #[.int .i64 want] 3)
  have hat2 := At.new ((w.alloc (.cells #[.slice Ac nc cc, .slice Af nf cf, .int .i64 dry, .int .i64 days] 25)).alloc (.cells #[.int .i64 a, .int .i64 b] 27)) #[.int .i64 want] 3 (w.heap.size + 1 + 1) (by simp) _ rfl
  have hB0 := ((below_new w (.cells #[.slice Ac nc cc, .slice Af nf cf, .int .i64 dry, .int .i64 days] 25)).alloc (by simp) (.cells #[.int .i64 a, .int .i64 b] 27)).alloc (by simp; omega) (.cells #[.int .i64 want] 3)
  have hE := fun W h => enter_any Ac Af nc cc nf cf dry days cs fs a b W h
  have hnf2 := hnet.nf2
  have Hnet := hide hnet
  clear hnet
  cases hgo : (netOk cs fs dry days && Sp.ok 0 13000000 ⟨a, b⟩)
  · obtain ⟨er, her, hne⟩ : ∃ er : Int, er = (if netOk cs fs dry days then (if Sp.ok 0 13000000 ⟨a, b⟩ then 0 else 21) else 50) ∧ (er = 21 ∨ er = 50) := by
      refine ⟨_, rfl, ?_⟩
      cases h1 : netOk cs fs dry days <;> cases h2 : Sp.ok 0 13000000 ⟨a, b⟩ <;> simp [h1, h2] at hgo ⊢
    have hs : minutesP cs fs dry days a b k want 0 er := by
      rw [her]; unfold minutesP
      cases h1 : netOk cs fs dry days <;> cases h2 : Sp.ok 0 13000000 ⟨a, b⟩ <;> simp [h1, h2] at hgo ⊢
    rw [← her] at hE
    have HE := hide hE; have Hs := hide hs
    clear hE her hs hgo
    rcases hne with rfl | rfl
    all_goals
      go_enter Try.func16, Try.ntmps16
      go_wp2_with fail
      refine calls_gen fun W1 HW1 => ?_
      rw [HW1.out] at hat0 hat1 hat2 hB0
      refine (HE.out W1 (Hnet.out.below hB0)).mono ?_
      rintro e w2 ⟨rfl, hb2⟩
      go_wp2
      go_ret2
      exact ⟨_, _, rfl, Hs.out, hB0.trans (hb2.mono hB0.size)⟩
  · rw [Bool.and_eq_true] at hgo
    obtain ⟨hok, hsp⟩ := hgo
    rw [hok, hsp] at hE
    simp only [if_true] at hE
    have hs : ∀ r e, (if inF nf k && inB 0 1000000000000 want then leastB (enoughB cs fs a k want) (days * 1440) r e else (r = 0 ∧ e = 2)) → minutesP cs fs dry days a b k want r e := by
      intro r e h; simpa [minutesP, hok, hsp, Hnet.out.ef] using h
    have hdy := (netOk_parts hok).2.2.2.1
    have HE := hide hE; have Hok := hide hok; have Hsp := hide hsp; have Hs := hide hs
    clear hE hok hsp hs
    cases hin : inF nf k
    · have hs2 := Hs.out 0 2 (by simp [hin])
      have Hin := hide hin; have Hs2 := hide hs2
      clear hin hs2
      go_enter Try.func16, Try.ntmps16
      go_wp2_with fail
      refine calls_gen fun W1 HW1 => ?_
      rw [HW1.out] at hat0 hat1 hat2 hB0
      refine (HE.out W1 (Hnet.out.below hB0)).mono ?_
      rintro e w2 ⟨rfl, hb2⟩
      have hat3 := hat0.below hb2
      have hB2 := hB0.trans (hb2.mono hB0.size)
      obtain ⟨q0, q1, q2, q3⟩ := hat3.c4
      clear hat0 hB0 hb2 hat1
      go_wp2_with fail
      refine calls_gen fun W3 HW3 => ?_
      have hb3 : Below w2.heap.size w2 W3 := by rw [← HW3.out]; exact (below_new _ _).alloc (by simp) _
      have hlit : Rd W3 W3.heap.size icell (some ⟨w2.heap.size + 1, 0, none⟩) [k] := by rw [← HW3.out]; exact at_rd_int (At.new _ #[.int .i64 k] _ _ (by simp) _ rfl)
      refine (field_any Ac Af nc cc nf cf dry days _ [k] 1 1 W3 rfl (by omega) hlit hnf2).mono ?_
      rintro e w4 ⟨rfl, hb4⟩
      rw [field_lit1, show (decide (0 ≤ k) && decide (k < nf)) = inF nf k from rfl, Hin.out]
      go_wp2
      go_ret2
      exact ⟨_, _, rfl, Hs2.out, hB2.trans ((hb3.trans (hb4.mono hb3.size)).mono hB2.size)⟩
    · have Hin := hide hin
      have hk2 : 0 ≤ k ∧ k < nf := by simpa [inF] using hin
      obtain ⟨k0, k1⟩ := hk2
      rw [hin, Bool.true_and] at Hs
      clear hin
      cases hwt : inB 0 1000000000000 want
      · have hs2 := Hs.out 0 2 (by simp [hwt])
        have Hwt := hide hwt; have Hs2 := hide hs2
        clear hwt hs2
        go_enter Try.func16, Try.ntmps16
        go_wp2_with fail
        refine calls_gen fun W1 HW1 => ?_
        rw [HW1.out] at hat0 hat1 hat2 hB0
        refine (HE.out W1 (Hnet.out.below hB0)).mono ?_
        rintro e w2 ⟨rfl, hb2⟩
        have hat3 := hat0.below hb2
        have hat5 := hat2.below hb2
        have hB2 := hB0.trans (hb2.mono hB0.size)
        obtain ⟨q0, q1, q2, q3⟩ := hat3.c4
        clear hat0 hB0 hb2 hat1
        go_wp2_with fail
        refine calls_gen fun W3 HW3 => ?_
        have hb3 : Below w2.heap.size w2 W3 := by rw [← HW3.out]; exact (below_new _ _).alloc (by simp) _
        have hlit : Rd W3 W3.heap.size icell (some ⟨w2.heap.size + 1, 0, none⟩) [k] := by rw [← HW3.out]; exact at_rd_int (At.new _ #[.int .i64 k] _ _ (by simp) _ rfl)
        refine (field_any Ac Af nc cc nf cf dry days _ [k] 1 1 W3 rfl (by omega) hlit hnf2).mono ?_
        rintro e w4 ⟨rfl, hb4⟩
        rw [field_lit1, show (decide (0 ≤ k) && decide (k < nf)) = inF nf k from rfl, Hin.out]
        have hB4 := hB2.trans ((hb3.trans (hb4.mono hb3.size)).mono hB2.size)
        have qw := ((hat5.below hb3).below hb4).c1
        go_wp2_with fail
        refine calls_gen fun W5 HW5 => ?_
        have hb5 : Below w4.heap.size w4 W5 := by rw [← HW5.out]; exact below_new _ _
        have hlit5 : Rd W5 W5.heap.size icell (some ⟨w4.heap.size, 0, none⟩) [want] := by rw [← HW5.out]; exact at_rd_int (At.new _ #[.int .i64 want] _ _ rfl _ rfl)
        refine (channel_from 0 1000000000000 _ [want] 1 1 W5 rfl (by omega) hlit5).mono ?_
        rintro e w6 ⟨rfl, hb6⟩
        rw [want_lit, Hwt.out]
        go_wp2
        go_ret2
        exact ⟨_, _, rfl, Hs2.out, hB4.trans ((hb5.trans (hb6.mono hb5.size)).mono hB4.size)⟩
      · have hs2 : ∀ r e, leastB (enoughB cs fs a k want) (days * 1440) r e → minutesP cs fs dry days a b k want r e := fun r e h => Hs.out r e (by rw [hwt]; exact h)
        have Hwt := hide hwt; have Hs2 := hide hs2
        clear hwt hs2 Hs
        go_enter Try.func16, Try.ntmps16
        go_wp2_with fail
        refine calls_gen fun W1 HW1 => ?_
        rw [HW1.out] at hat0 hat1 hat2 hB0
        refine (HE.out W1 (Hnet.out.below hB0)).mono ?_
        rintro e w2 ⟨rfl, hb2⟩
        have hat3 := hat0.below hb2
        have hat4 := hat1.below hb2
        have hat5 := hat2.below hb2
        have hB2 := hB0.trans (hb2.mono hB0.size)
        obtain ⟨q0, q1, q2, q3⟩ := hat3.c4
        clear hat0 hB0 hb2 hat1
        go_wp2_with fail
        refine calls_gen fun W3 HW3 => ?_
        have hb3 : Below w2.heap.size w2 W3 := by rw [← HW3.out]; exact (below_new _ _).alloc (by simp) _
        have hlit : Rd W3 W3.heap.size icell (some ⟨w2.heap.size + 1, 0, none⟩) [k] := by rw [← HW3.out]; exact at_rd_int (At.new _ #[.int .i64 k] _ _ (by simp) _ rfl)
        have hx3 : At W3 w2.heap.size [.slice Ac nc cc, .slice Af nf cf, .int .i64 dry, .int .i64 days] := by rw [← HW3.out]; exact (At.new w2 #[.slice Ac nc cc, .slice Af nf cf, .int .i64 dry, .int .i64 days] _ _ rfl _ rfl).alloc _
        refine (field_any Ac Af nc cc nf cf dry days _ [k] 1 1 W3 rfl (by omega) hlit hnf2).mono ?_
        rintro e w4 ⟨rfl, hb4⟩
        rw [field_lit1, show (decide (0 ≤ k) && decide (k < nf)) = inF nf k from rfl, Hin.out]
        have hb24 := hb3.trans (hb4.mono hb3.size)
        have hB4 := hB2.trans (hb24.mono hB2.size)
        have hw4 := hat5.below hb24
        have hf4 := hat4.below hb24
        have hn4 := hat3.below hb24
        have hx4 := hx3.below hb4
        have qw := hw4.c1
        clear hat3 hat4 hat5 hat2 hx3 hlit q0 q1 q2 q3
        go_wp2_with fail
        refine calls_gen fun W5 HW5 => ?_
        have hb5 : Below w4.heap.size w4 W5 := by rw [← HW5.out]; exact below_new _ _
        have hlit5 : Rd W5 W5.heap.size icell (some ⟨w4.heap.size, 0, none⟩) [want] := by rw [← HW5.out]; exact at_rd_int (At.new _ #[.int .i64 want] _ _ rfl _ rfl)
        refine (channel_from 0 1000000000000 _ [want] 1 1 W5 rfl (by omega) hlit5).mono ?_
        rintro e w6 ⟨rfl, hb6⟩
        rw [want_lit, Hwt.out]
        have hb46 := hb5.trans (hb6.mono hb5.size)
        have hB6 := hB4.trans (hb46.mono hB4.size)
        have hw6 := hw4.below hb46
        have hf6 := hf4.below hb46
        have hn6 := hn4.below hb46
        have hx6 := hx4.below hb46
        obtain ⟨q0, q1, q2, q3⟩ := hx6.c4
        clear hw4 hf4 hn4 hx4 hlit5 hb5 hb6 hb46 hb3 hb4 hb24 qw
        go_wp2_with fail
        refine (path_net Ac Af nc cc nf cf dry days cs fs k w6 (Hnet.out.below hB6) Hok.out k0 k1).mono ?_
        rintro e w7 ⟨vp, rfl, hp, hb7⟩
        obtain ⟨Ap, cp, rfl, hrp⟩ := hp.rd
        obtain ⟨np, hnp⟩ : ∃ np, np = (pathK cs fs k).length := ⟨_, rfl⟩
        rw [← hnp]
        have Hnp := hide hnp
        obtain ⟨w8, Hw8⟩ : ∃ w8, Hid (w7.alloc (.cells #[.slice Ap np cp] 23) = w8) := ⟨_, hide rfl⟩
        have hb8 : Below w7.heap.size w7 w8 := by rw [← Hw8.out]; exact below_new _ _
        have hp8 : At w8 w7.heap.size [.slice Ap np cp] := by rw [← Hw8.out]; exact At.new w7 #[.slice Ap np cp] _ _ rfl _ rfl
        have hb68 := hb7.trans (hb8.mono hb7.size)
        have hB8 := hB6.trans (hb68.mono hB6.size)
        have hw8 := hw6.below hb68
        have hf8 := hf6.below hb68
        have hn8 := hn6.below hb68
        have hx8 := hx6.below hb68
        have hrp8 := (hrp.below hb8).more hb8.size
        have hnp16 : np ≤ 16 := by rw [hnp]; exact pathK_len cs fs Hok.out k0 (by rw [← Hnet.out.ef]; exact k1)
        have hpr : ∀ x ∈ pathK cs fs k, 0 ≤ x ∧ x < cs.length := fun x hx => by
          have h : x ∈ upK cs fs k := by simpa [pathK, pathF, upK] using hx
          exact upK_okI Hok.out (k := k) k0 (by rw [← Hnet.out.ef]; exact k1) h
        have hm1 := fun (m : Int) (W : World) (h0 : 0 ≤ m) (h1 : m ≤ days * 1440) (hb : Below w8.heap.size w8 W) =>
          minutes1_any Ac Af Ap nc cc nf cf np cp dry days a b want m cs fs (pathK cs fs k) (w.heap.size + 1) w7.heap.size w.heap.size (w.heap.size + 1 + 1) W (Hnet.out.below (hB8.trans (hb.mono hB8.size))) Hok.out (flow_amts Hsp.out hdy h0 h1).1
            ((hrp8.below hb).more hb.size) Hnp.out (by omega) hpr (hf8.below hb) (hp8.below hb) (hn8.below hb) (hw8.below hb)
        obtain ⟨q0', q1', q2', q3'⟩ := hx8.c4
        rw [← Hw8.out] at q0' q1' q2' q3'
        have Hm1 := hide hm1; have Hx8 := hide hx8
        clear hm1 hw8 hf8 hn8 hx8 hp8 hrp8 hpr hrp hp hnp hw6 hf6 hn6 hx6 q0 q1 q2 q3
        have E1 := hide enters_minutes1
        go_wp2_with fail
        rw [Hw8.out]
        refine (cycle_any Ac Af nc cc nf cf dry days w8 (by omega) (by omega)).mono ?_
        rintro e w9 ⟨rfl, hb9⟩
        go_wp2_with fail
        refine (first_any 38 _ (enoughB cs fs a k want) (days * 1440) w9 (by omega) (by omega) E1.out ?_).mono ?_
        · intro m W h0 h1 hb
          exact Hm1.out m W h0 h1 (hb9.trans (hb.mono hb9.size))
        rintro e w10 ⟨r, rfl, ⟨r0, r1⟩, hr2, hr3, hb10⟩
        have hx10 := (Hx8.out.below hb9).below hb10
        obtain ⟨q0, q1, q2, q3⟩ := hx10.c4
        have Hr2 := hide hr2; have Hr3 := hide hr3
        clear hr2 hr3 q0' q1' q2' q3'
        go_wp2_with fail
        refine (cycle_any Ac Af nc cc nf cf dry days w10 (by omega) (by omega)).mono ?_
        rintro e w11 ⟨rfl, hb11⟩
        have hB11 := hB8.trans ((hb9.trans ((hb10.trans (hb11.mono hb10.size)).mono hb9.size)).mono hB8.size)
        by_cases hgt : days * 1440 < r
        · go_wp2
          go_ret2
          refine ⟨_, _, rfl, Hs2.out 0 6 (.inl ⟨rfl, rfl, ?_⟩), hB11⟩
          rcases Hr2.out with h | h
          · omega
          · rw [show r - 1 = days * 1440 by omega] at h; exact h
        · go_wp2
          go_ret2
          refine ⟨_, _, rfl, Hs2.out r 0 (.inr ⟨rfl, by omega, by omega, ?_, Hr2.out⟩), hB11⟩
          rcases Hr3.out with h | h
          · omega
          · exact h
end Go.Proofs.Ythlnbgjlkliopaa
namespace Go.Proofs.Ythlnbgjlkliopaa
open Go.RowKit Go.Shelf
open Go.RowKit Go.Shelf
attribute [local go_sem ↓] Go.wp_at_zero Go.wp_at_succ
open Go.RowKit Go.Shelf
attribute [local go_sem ↓] Go.wp_at_zero Go.wp_at_succ
theorem downF_mono {v v' fill thr : Int} (h : v ≤ v') (t0 : 0 ≤ thr) : downF v fill thr ≤ downF v' fill thr := by
  unfold downF
  exact Int.ediv_le_ediv (by omega) (Int.mul_le_mul_of_nonneg_right (by omega) t0)
theorem getK_mono {cs : List Ca} {fs : List Int} {dry days : Int} (hok : netOk cs fs dry days = true) : ∀ (p : List Int) {v v' : Int}, v ≤ v' → getK cs p v ≤ getK cs p v'
  | [], _, _, h => h
  | c :: p, v, v', h => getK_mono hok p (downF_mono h (wkT_wf hok c).2.2.1.1)
theorem leastB_one {p : Int → Bool} {cyc r e r' e' : Int} (hm : ∀ x y, 0 ≤ x → x ≤ y → p x = true → p y = true) (h : leastB p cyc r e) (h' : leastB p cyc r' e') : r = r' ∧ e = e' := by
  rcases h with ⟨he, hr, hp⟩ | ⟨he, h0, h1, hp, hl⟩ <;> rcases h' with ⟨he', hr', hp'⟩ | ⟨he', h0', h1', hp', hl'⟩
  · omega
  · have := hm r' cyc h0' h1' hp'; rw [hp] at this; cases this
  · have := hm r cyc h0 h1 hp; rw [hp'] at this; cases this
  · refine ⟨?_, by omega⟩
    by_cases hlt : r < r'
    · rcases hl' with h2 | h2
      · omega
      · have := hm r (r' - 1) h0 (by omega) hp; rw [h2] at this; cases this
    · by_cases hgt : r' < r
      · rcases hl with h2 | h2
        · omega
        · have := hm r' (r - 1) h0' (by omega) hp'; rw [h2] at this; cases this
      · omega
theorem minutesP_one {cs : List Ca} {fs : List Int} {dry days a b k want r e r' e' : Int} (h : minutesP cs fs dry days a b k want r e) (h' : minutesP cs fs dry days a b k want r' e') : r = r' ∧ e = e' := by
  unfold minutesP at h h'
  split at h
  · rename_i hok
    rw [if_pos hok] at h'
    split at h
    · rename_i hsp
      rw [if_pos hsp] at h'
      split at h
      · rename_i hin
        rw [if_pos hin] at h'
        have ha : 0 ≤ a := by simp only [Sp.ok, Bool.and_eq_true, decide_eq_true_eq] at hsp; omega
        refine leastB_one (fun x y hx hxy hp => ?_) h h'
        have hp2 : want ≤ getK cs (pathK cs fs k) (a * x) := by simpa [enoughB] using hp
        have := getK_mono hok (pathK cs fs k) (Int.mul_le_mul_of_nonneg_left hxy ha)
        simp [enoughB]
        omega
      · rename_i hin
        rw [if_neg hin] at h'
        omega
    · rename_i hsp
      rw [if_neg hsp] at h'
      omega
  · rename_i hok
    rw [if_neg hok] at h'
    omega
end Go.Proofs.Ythlnbgjlkliopaa
