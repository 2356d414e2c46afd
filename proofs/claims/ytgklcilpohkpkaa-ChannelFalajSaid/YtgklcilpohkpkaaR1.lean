/- The reference of channel: small functions, by contracts. -/
import Derived.Test.YtgklcilpohkpkaaC7
import Derived.Test.YtgklcilpohkpkaaApp
set_option linter.unusedVariables false
set_option linter.unusedSimpArgs false
namespace Go.Proofs.Ytgklcilpohkpkaa
open Go.RowKit Go.Shelf
theorem rCycle_any (Ac Af : Option Addr) (nc cc nf cf : Nat) (dry days : Int) (w : World) (h1 : 0 ≤ days) (h2 : days ≤ 1000000) :
    Calls Try.prog 77 #[.agg #[.slice Ac nc cc, .slice Af nf cf, .int .i64 dry, .int .i64 days]] w fun e w' => e = .returned (.int .i64 (days * 1440)) ∧ Below w.heap.size w w' := by
  go_enter Try.func77, Try.ntmps77
  go_wp2
  go_ret
  exact ⟨rfl, below_new _ _⟩
theorem rField_any (Ac Af : Option Addr) (nc cc nf cf : Nat) (dry days k : Int) (w : World) (hnf : nf ≤ 1000) :
    Calls Try.prog 55 #[.agg #[.slice Ac nc cc, .slice Af nf cf, .int .i64 dry, .int .i64 days], .int .i64 k] w fun e w' => e = .returned (.bool (inF nf k)) ∧ Below w.heap.size w w' := by
  go_enter Try.func55, Try.ntmps55
  go_wp2_with (go_at_call 66; refine (aflajref05_within _ _ _ _).mono ?_; rintro e w' ⟨rfl, rfl⟩)
  go_ret
  exact ⟨ret_bool (by rw [Bool.eq_iff_iff]; simp [inB, inF]; omega), below_new _ _⟩
def great (cs : List Ca) (fs : List Int) (nu : Nat) : Bool := decide (24 < cs.length) || decide (18 < fs.length) || decide (80 < nu)
theorem rGreat_any (Ac Af Au : Option Addr) (nc cc nf cf nu cu : Nat) (dry days : Int) (cs : List Ca) (fs : List Int) (w : World) (hnc : nc = cs.length) (hnf : nf = fs.length) :
    Calls Try.prog 15 #[.agg #[.slice Ac nc cc, .slice Af nf cf, .int .i64 dry, .int .i64 days], .slice Au nu cu] w fun e w' => e = .returned (.bool (great cs fs nu)) ∧ Below w.heap.size w w' := by
  have Hc := hide hnc; have Hf := hide hnf
  clear hnc hnf
  by_cases h1 : 24 < nc
  · go_enter Try.func15, Try.ntmps15
    go_wp2
    go_ret
    exact ⟨ret_bool (by unfold great; rw [← Hc.out, ← Hf.out]; simp [h1]), below_new _ _⟩
  · by_cases h2 : 18 < nf
    · go_enter Try.func15, Try.ntmps15
      go_wp2
      go_ret
      exact ⟨ret_bool (by unfold great; rw [← Hc.out, ← Hf.out]; simp [h2]), below_new _ _⟩
    · by_cases h3 : 80 < nu
      all_goals
        go_enter Try.func15, Try.ntmps15
        go_wp2
        go_ret
        exact ⟨ret_bool (by unfold great; rw [← Hc.out, ← Hf.out]; simp [h1, h2, h3]; try omega), below_new _ _⟩
set_option maxHeartbeats 4000000 in
set_option maxRecDepth 100000 in
theorem rPath_any (Ac Af : Option Addr) (nc cc nf cf : Nat) (dry days : Int) (cs : List Ca) (fs : List Int) (k : Int) (w : World) (hnet : NetAt w Ac Af nc nf cs fs) (hok : netOk cs fs dry days = true) (h0 : 0 ≤ k) (h1 : k < nf) :
    Calls Try.prog 56 #[.agg #[.slice Ac nc cc, .slice Af nf cf, .int .i64 dry, .int .i64 days], .int .i64 k] w fun e w' => ∃ v, e = .returned v ∧ Own w' w.heap.size 3 1 icell v (pathK cs fs k) ∧ Below w.heap.size w w' := by
  obtain ⟨j, rfl⟩ : ∃ j : Nat, k = j := ⟨k.toNat, by omega⟩
  have hj := nodeF_of hok (k := j) (by have := hnet.ef; omega)
  obtain ⟨m0, hm0⟩ : ∃ m0, m0 = nodeF fs j := ⟨_, rfl⟩
  rw [← hm0] at hj
  have hfrm := netOk_frm hok
  have hcl := (netOk_parts hok).1
  have hpk : pathK cs fs j = (upF cs m0 m0).reverse := by rw [hm0]; rfl
  rw [hpk]
  have hat0 := At.new w #[.slice Ac nc cc, .slice Af nf cf, .int .i64 dry, .int .i64 days] 25 w.heap.size rfl _ rfl
  have hB0 := below_new w (.cells #[.slice Ac nc cc, .slice Af nf cf, .int .i64 dry, .int .i64 days] 25)
  obtain ⟨b, off, x, hA, hB, hx, c0⟩ := (hnet.rf.below hB0).int (i := j) (by have := hnet.ef; omega)
  rw [hj.1] at hx
  injection hx with hx
  subst hx
  subst hA
  have Hnet := hide hnet; have Hfrm := hide hfrm
  have hm1 := hj.2
  clear hnet hfrm hok hj hm0 hpk
  go_enter Try.func56, Try.ntmps56
  go_wp2_with fail
  obtain ⟨w1, Hw1⟩ : ∃ w1, Hid (w.alloc (.cells #[.slice Ac nc cc, .slice (some ⟨b, off, none⟩) nf cf, .int .i64 dry, .int .i64 days] 25) = w1) := ⟨_, hide rfl⟩
  rw [Hw1.out] at hat0 hB0 ⊢
  clear c0
  go_loopw [5, 6] (fun v i wr => ∃ (m : Nat) (done : List Int), m ≤ cs.length ∧ i = .int .i64 m ∧ Own wr (w.heap.size + 1) 3 1 icell v done ∧ (upF cs m m).reverse ++ done = (upF cs m0 m0).reverse ∧ done.length + m ≤ cs.length ∧ Below w.heap.size w wr ∧ At wr w.heap.size [.slice Ac nc cc, .slice (some ⟨b, off, none⟩) nf cf, .int .i64 dry, .int .i64 days]) (fun _ i _ => (intOf i).toNat)
  case atStart => exact ⟨m0, [], hm1, rfl, Own.nil _ _ _ _ _, by simp, by simpa using hm1, hB0, hat0⟩
  case round =>
    clear hat0 hB0
    obtain ⟨m, done, hm, rfl, hown, heq, hlen, hb, hat⟩ := hrel
    have Hown := hide hown; have Heq := hide heq
    clear hown heq
    cases m with
    | zero =>
      go_wp2
      go_ret
      refine ⟨_, rfl, ?_, hb⟩
      rw [← Heq.out]
      exact Hown.out.mono (by omega)
    | succ m =>
      have hsz := hat.1
      obtain ⟨A1, c1, hv, hrd⟩ := Hown.out.rd
      have Hrd := hide hrd; clear hrd
      have hat2 := hat.alloc (.cells #[.int .i64 m] 3)
      have hlit := hide (Own.lit (cells := icell) wr 3 1 #[.int .i64 m] [(m : Int)] (fun _ => rfl) rfl (by simp) (w.heap.size + 1) (by omega))
      subst hv
      obtain ⟨b2, off2, f2, s0, s1, l0, l1, hA2, hB2, hx2, g0, g1, g2, g3, g4⟩ := (Hnet.out.below hb).rc.ca (i := m) (by omega)
      subst hA2
      have hfv := Hfrm.out m _ hx2
      simp only at hfv
      obtain ⟨f3, rfl⟩ : ∃ f3 : Nat, f2 = f3 := ⟨f2.toNat, by omega⟩
      have hfr : frmN cs m = f3 := by unfold frmN; rw [hx2]; simp
      have Hfr := hide hfr
      have hnc := Hnet.out.ec
      have hmn : m < nc := by omega
      have hm16 : m ≤ 16 := by omega
      clear hx2 g1 g2 g3 g4 hfr hnc
      go_wp2_with (at_builtin; refine wpList_app (v := .slice (some ⟨wr.heap.size, 0, none⟩) 1 1) (xs := [(m : Int)]) (ys := done) (n := done.length) el_int rfl (.tmp 23) (.tmp 24) rfl rfl hlit.out rfl rfl (Hrd.out.below (below_new wr _)) (by simp; omega) (by simp; omega) ?_; intro vv wv hown1 hg1 hat1; have hk := (Kept.alloc (fun _ => True) wr (.cells #[.int .i64 m] 3)).mono (R' := fun b => ¬ b = wr.heap.size) (fun _ _ _ => trivial) |>.trans ((Kept.grown hg1).mono (R' := fun b => ¬ b = wr.heap.size) (fun b _ h e => by simp [Value.ownBlock] at e; exact h e)); have hat3 := hat.kept hk (by omega); obtain ⟨q0, q1, q2, q3⟩ := hat3.c4; have g0 := (hk.cell (p := ⟨b2, off2 + m * 5, none⟩) (by show ¬ b2 = _; omega) (by show b2 < _; omega)).trans g0; have Hown1 := hide hown1; have Hb3 := hide (hb.trans (hk.below (fun b hb' => by omega) hb.size)); have Hat3 := hide hat3; clear hown1 hg1 hat1 hk hat3)
      have hst : upF cs (m + 1) (m + 1) = (m : Int) :: upF cs f3 f3 := by rw [upF_succ Hfrm.out, Hfr.out]
      refine ⟨⟨f3, (m : Int) :: done, by omega, rfl, Hown1.out, ?_, by simp; omega, Hb3.out, Hat3.out⟩, by simp [intOf]; omega⟩
      rw [← Heq.out, hst]
      simp
end Go.Proofs.Ytgklcilpohkpkaa
