/- The reference of channel: small functions, by contracts. -/
import Derived.Test.YtgklcilpohkpkaaC12
set_option linter.unusedVariables false
set_option linter.unusedSimpArgs false
namespace Go.Proofs.Ytgklcilpohkpkaa
open Go.RowKit Go.Shelf
theorem rCycle_any (Ac Af : Option Addr) (nc cc nf cf : Nat) (dry days : Int) (w : World) (h1 : 0 ≤ days) (h2 : days ≤ 1000000) :
    Calls Try.prog 77 #[.agg #[.slice Ac nc cc, .slice Af nf cf, .int .i64 dry, .int .i64 days]] w fun e w' => e = .returned (.int .i64 (days * 1440)) ∧ Below w.heap.size w w' := by
  go_enter Try.func77, Try.ntmps77
  go_wp2
  go_ret
  exact ⟨rfl, below_new _ _⟩
theorem rField_any (Ac Af : Option Addr) (nc cc nf cf : Nat) (dry days k : Int) (w : World) (hnf : nf ≤ 1000) :
    Calls Try.prog 55 #[.agg #[.slice Ac nc cc, .slice Af nf cf, .int .i64 dry, .int .i64 days], .int .i64 k] w fun e w' => e = .returned (.bool (inF nf k)) ∧ Below w.heap.size w w' := by
  go_enter Try.func55, Try.ntmps55
  go_wp2_with (go_at_call 66; refine (aflajref05_within _ _ _ _).mono ?_; rintro e w' ⟨rfl, rfl⟩)
  go_ret
  exact ⟨ret_bool (by rw [Bool.eq_iff_iff]; simp [inB, inF]; omega), below_new _ _⟩
def great (cs : List Ca) (fs : List Int) (nu : Nat) : Bool := decide (24 < cs.length) || decide (18 < fs.length) || decide (80 < nu)
theorem rGreat_any (Ac Af Au : Option Addr) (nc cc nf cf nu cu : Nat) (dry days : Int) (cs : List Ca) (fs : List Int) (w : World) (hnc : nc = cs.length) (hnf : nf = fs.length) :
    Calls Try.prog 15 #[.agg #[.slice Ac nc cc, .slice Af nf cf, .int .i64 dry, .int .i64 days], .slice Au nu cu] w fun e w' => e = .returned (.bool (great cs fs nu)) ∧ Below w.heap.size w w' := by
  have Hc := hide hnc; have Hf := hide hnf
  clear hnc hnf
  by_cases h1 : 24 < nc
  · go_enter Try.func15, Try.ntmps15
    go_wp2
    go_ret
    exact ⟨ret_bool (by unfold great; rw [← Hc.out, ← Hf.out]; simp [h1]), below_new _ _⟩
  · by_cases h2 : 18 < nf
    · go_enter Try.func15, Try.ntmps15
      go_wp2
      go_ret
      exact ⟨ret_bool (by unfold great; rw [← Hc.out, ← Hf.out]; simp [h2]), below_new _ _⟩
    · by_cases h3 : 80 < nu
      all_goals
        go_enter Try.func15, Try.ntmps15
        go_wp2
        go_ret
        exact ⟨ret_bool (by unfold great; rw [← Hc.out, ← Hf.out]; simp [h1, h2, h3]; try omega), below_new _ _⟩
set_option maxHeartbeats 4000000 in
set_option maxRecDepth 100000 in
theorem rHas_any (A : Option Addr) (xs : List Int) (n c : Nat) (x : Int) (w : World) (hx : Rd w w.heap.size icell A xs) (hn : n = xs.length) (hn2 : n ≤ 100000) :
    Calls Try.prog 81 #[.slice A n c, .int .i64 x] w fun e w' => e = .returned (.bool (decide (x ∈ xs))) ∧ w = w' := by
  have Hx := hide hx; have Hn := hide hn
  clear hx hn
  go_enter Try.func81, Try.ntmps81
  go_wp2_with fail
  go_loop [5] (fun i => ∃ k : Nat, k ≤ n ∧ i = .int .i64 k ∧ Hid (x ∉ xs.take k)) (fun i => n - (intOf i).toNat)
  case atStart => exact ⟨0, by omega, rfl, hide (by simp)⟩
  case round =>
    obtain ⟨k, hk, rfl, hpre⟩ := hrel
    by_cases hlt : k < n
    · obtain ⟨b, off, y, hA, hB, hxk, c0⟩ := Hx.out.int (i := k) (by have := Hn.out; omega)
      subst hA
      have Hxk := hide hxk; clear hxk
      by_cases he : y = x
      · subst he
        go_wp2
        go_ret
        exact ⟨ret_bool (by simp [List.mem_of_getElem? Hxk.out]), rfl⟩
      · have h1 : (y == x) = false := by simpa using he
        have He := hide he; clear he
        go_wp2
        refine ⟨⟨k + 1, by omega, by go_num, hide ?_⟩, by simp [intOf]; omega⟩
        rw [take_snoc Hxk.out]
        have := hpre.out
        have := He.out
        simp_all
        omega
    · go_wp2
      go_ret
      refine ⟨ret_bool ?_, rfl⟩
      have := hpre.out
      rw [List.take_of_length_le (by have := Hn.out; omega)] at this
      simp [this]
/-- The numbers of a list that another one has not. -/
def withoutL (l m : List Int) : List Int := l.filter fun x => !decide (x ∈ m)
theorem withoutL_snoc (l m : List Int) (x : Int) : withoutL (l ++ [x]) m = withoutL l m ++ (if x ∈ m then [] else [x]) := by
  unfold withoutL
  rw [List.filter_append]
  congr 1
  by_cases h : x ∈ m <;> simp [h]
set_option maxHeartbeats 4000000 in
set_option maxRecDepth 100000 in
theorem rWithout_any (A B : Option Addr) (l m : List Int) (n c p d : Nat) (w : World) (hl : Rd w w.heap.size icell A l) (hm : Rd w w.heap.size icell B m) (hn : n = l.length) (hn2 : n ≤ 1000) (hp : p = m.length) (hp2 : p ≤ 1000) :
    Calls Try.prog 59 #[.slice A n c, .slice B p d] w fun e w' => ∃ v, e = .returned v ∧ Own w' w.heap.size 3 1 icell v (withoutL l m) ∧ Below w.heap.size w w' := by
  have Hl := hide hl; have Hm := hide hm; have Hn := hide hn; have Hp := hide hp
  clear hl hm hn hp
  go_enter Try.func59, Try.ntmps59
  go_wp2_with fail
  go_loopw [5, 6] (fun v i wr => ∃ k : Nat, k ≤ n ∧ i = .int .i64 k ∧ Own wr w.heap.size 3 1 icell v (withoutL (l.take k) m) ∧ Below w.heap.size w wr) (fun _ i _ => n - (intOf i).toNat)
  case atStart => exact ⟨0, by omega, rfl, Own.nil _ _ _ _ _, Below.refl _ _⟩
  case round =>
    obtain ⟨k, hk, rfl, hown, hb⟩ := hrel
    have Hown := hide hown; clear hown
    have hsz := hb.size
    by_cases hlt : k < n
    · obtain ⟨b, off, x, hA, hB, hxk, c0⟩ := (Hl.out.below hb).int (i := k) (by have := Hn.out; omega)
      subst hA
      have Hxk := hide hxk; clear hxk
      have hll : (withoutL (l.take k) m).length ≤ k := by
        unfold withoutL
        have := List.length_filter_le (fun x => !decide (x ∈ m)) (l.take k)
        have := List.length_take_le k l
        omega
      by_cases he : x ∈ m
      · have He := hide he; clear he
        go_wp2_with (go_at_call 81; refine (rHas_any B m p d x _ ((Hm.out.below hb).more hb.size) Hp.out (by omega)).mono ?_; rintro e w' ⟨rfl, rfl⟩; rw [decide_eq_true He.out])
        refine ⟨⟨k + 1, by omega, by go_num, ?_, hb⟩, by simp [intOf]; omega⟩
        rw [take_snoc Hxk.out, withoutL_snoc, if_pos He.out, List.append_nil]
        exact Hown.out
      · have He := hide he; clear he
        have hr := hide (Rd.new (cells := icell) wr #[.int .i64 x] 3 [x] rfl)
        have c0' : (wr.alloc (.cells #[.int .i64 x] 3)).cell? ⟨b, off + k, none⟩ = some (.int .i64 x) := ((below_new wr _).cell (p := ⟨b, off + k, none⟩) (by show b < _; omega)).trans c0
        go_wp2_with (first | (go_at_call 81; refine (rHas_any B m p d x _ ((Hm.out.below hb).more hb.size) Hp.out (by omega)).mono ?_; rintro e w' ⟨rfl, rfl⟩; rw [decide_eq_false He.out]) | (at_builtin; refine wpList_app (v := u5) (xs := withoutL (l.take k) m) (ys := [x]) (n := 1) el_int rfl (.tmp 20) (.tmp 25) rfl rfl (Hown.out.alloc _) rfl rfl hr.out (by omega) (by simp; omega) ?_; intro vv wv hown1 hg1 hat1; have Hw := hide (below_own (Hown.out.alloc _) (hb.alloc hb.size _) hg1 (by simp; omega)); have Hown1 := hide hown1; clear hown1 hg1 hat1))
        refine ⟨⟨k + 1, by omega, by go_num, ?_, Hw.out⟩, by simp [intOf]; omega⟩
        rw [take_snoc Hxk.out, withoutL_snoc, if_neg He.out]
        exact Hown1.out
    · go_wp2
      go_ret
      refine ⟨_, rfl, ?_, hb⟩
      have := Hown.out
      rw [List.take_of_length_le (by have := Hn.out; omega)] at this
      exact this
set_option maxHeartbeats 4000000 in
set_option maxRecDepth 100000 in
theorem rPath_any (Ac Af : Option Addr) (nc cc nf cf : Nat) (dry days : Int) (cs : List Ca) (fs : List Int) (k : Int) (w : World) (hnet : NetAt w Ac Af nc nf cs fs) (hok : netOk cs fs dry days = true) (h0 : 0 ≤ k) (h1 : k < nf) :
    Calls Try.prog 56 #[.agg #[.slice Ac nc cc, .slice Af nf cf, .int .i64 dry, .int .i64 days], .int .i64 k] w fun e w' => ∃ v, e = .returned v ∧ Own w' w.heap.size 3 1 icell v (pathK cs fs k) ∧ Below w.heap.size w w' := by
  obtain ⟨j, rfl⟩ : ∃ j : Nat, k = j := ⟨k.toNat, by omega⟩
  have hj := nodeF_of hok (k := j) (by have := hnet.ef; omega)
  obtain ⟨m0, hm0⟩ : ∃ m0, m0 = nodeF fs j := ⟨_, rfl⟩
  rw [← hm0] at hj
  have hfrm := netOk_frm hok
  have hcl := (netOk_parts hok).1
  have hpk : pathK cs fs j = (upF cs m0 m0).reverse := by rw [hm0]; rfl
  rw [hpk]
  have hat0 := At.new w #[.slice Ac nc cc, .slice Af nf cf, .int .i64 dry, .int .i64 days] 25 w.heap.size rfl _ rfl
  have hB0 := below_new w (.cells #[.slice Ac nc cc, .slice Af nf cf, .int .i64 dry, .int .i64 days] 25)
  obtain ⟨b, off, x, hA, hB, hx, c0⟩ := (hnet.rf.below hB0).int (i := j) (by have := hnet.ef; omega)
  rw [hj.1] at hx
  injection hx with hx
  subst hx
  subst hA
  have Hnet := hide hnet; have Hfrm := hide hfrm
  have hm1 := hj.2
  clear hnet hfrm hok hj hm0 hpk
  go_enter Try.func56, Try.ntmps56
  go_wp2_with fail
  obtain ⟨w1, Hw1⟩ : ∃ w1, Hid (w.alloc (.cells #[.slice Ac nc cc, .slice (some ⟨b, off, none⟩) nf cf, .int .i64 dry, .int .i64 days] 25) = w1) := ⟨_, hide rfl⟩
  rw [Hw1.out] at hat0 hB0 ⊢
  clear c0
  go_loopw [5, 6] (fun v i wr => ∃ (m : Nat) (done : List Int), m ≤ cs.length ∧ i = .int .i64 m ∧ Own wr (w.heap.size + 1) 3 1 icell v done ∧ (upF cs m m).reverse ++ done = (upF cs m0 m0).reverse ∧ done.length + m ≤ cs.length ∧ Below w.heap.size w wr ∧ At wr w.heap.size [.slice Ac nc cc, .slice (some ⟨b, off, none⟩) nf cf, .int .i64 dry, .int .i64 days]) (fun _ i _ => (intOf i).toNat)
  case atStart => exact ⟨m0, [], hm1, rfl, Own.nil _ _ _ _ _, by simp, by simpa using hm1, hB0, hat0⟩
  case round =>
    clear hat0 hB0
    obtain ⟨m, done, hm, rfl, hown, heq, hlen, hb, hat⟩ := hrel
    have Hown := hide hown; have Heq := hide heq
    clear hown heq
    cases m with
    | zero =>
      go_wp2
      go_ret
      refine ⟨_, rfl, ?_, hb⟩
      rw [← Heq.out]
      exact Hown.out.mono (by omega)
    | succ m =>
      have hsz := hat.1
      obtain ⟨A1, c1, hv, hrd⟩ := Hown.out.rd
      have Hrd := hide hrd; clear hrd
      have hat2 := hat.alloc (.cells #[.int .i64 m] 3)
      have hlit := hide (Own.lit (cells := icell) wr 3 1 #[.int .i64 m] [(m : Int)] (fun _ => rfl) rfl (by simp) (w.heap.size + 1) (by omega))
      subst hv
      obtain ⟨b2, off2, f2, s0, s1, l0, l1, hA2, hB2, hx2, g0, g1, g2, g3, g4⟩ := (Hnet.out.below hb).rc.ca (i := m) (by omega)
      subst hA2
      have hfv := Hfrm.out m _ hx2
      simp only at hfv
      obtain ⟨f3, rfl⟩ : ∃ f3 : Nat, f2 = f3 := ⟨f2.toNat, by omega⟩
      have hfr : frmN cs m = f3 := by unfold frmN; rw [hx2]; simp
      have Hfr := hide hfr
      have hnc := Hnet.out.ec
      have hmn : m < nc := by omega
      have hm16 : m ≤ 16 := by omega
      clear hx2 g1 g2 g3 g4 hfr hnc
      go_wp2_with (at_builtin; refine wpList_app (v := .slice (some ⟨wr.heap.size, 0, none⟩) 1 1) (xs := [(m : Int)]) (ys := done) (n := done.length) el_int rfl (.tmp 23) (.tmp 24) rfl rfl hlit.out rfl rfl (Hrd.out.below (below_new wr _)) (by simp; omega) (by simp; omega) ?_; intro vv wv hown1 hg1 hat1; have hk := (Kept.alloc (fun _ => True) wr (.cells #[.int .i64 m] 3)).mono (R' := fun b => ¬ b = wr.heap.size) (fun _ _ _ => trivial) |>.trans ((Kept.grown hg1).mono (R' := fun b => ¬ b = wr.heap.size) (fun b _ h e => by simp [Value.ownBlock] at e; exact h e)); have hat3 := hat.kept hk (by omega); obtain ⟨q0, q1, q2, q3⟩ := hat3.c4; have g0 := (hk.cell (p := ⟨b2, off2 + m * 5, none⟩) (by show ¬ b2 = _; omega) (by show b2 < _; omega)).trans g0; have Hown1 := hide hown1; have Hb3 := hide (hb.trans (hk.below (fun b hb' => by omega) hb.size)); have Hat3 := hide hat3; clear hown1 hg1 hat1 hk hat3)
      have hst : upF cs (m + 1) (m + 1) = (m : Int) :: upF cs f3 f3 := by rw [upF_succ Hfrm.out, Hfr.out]
      refine ⟨⟨f3, (m : Int) :: done, by omega, rfl, Hown1.out, ?_, by simp; omega, Hb3.out, Hat3.out⟩, by simp [intOf]; omega⟩
      rw [← Heq.out, hst]
      simp
end Go.Proofs.Ytgklcilpohkpkaa
