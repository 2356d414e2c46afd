/- Channel, outright: ready and along, by contract. -/
import Derived.Test.YtgklcilpohkpkaaA0
import Derived.Test.YtgklcilpohkpkaaR3
import Derived.Test.YtgklcilpohkpkaaR2
set_option linter.unusedVariables false
set_option linter.unusedSimpArgs false
namespace Go.Proofs.Ytgklcilpohkpkaa
open Go.RowKit Go.Shelf
attribute [local go_sem ↓] Go.wp_at_zero Go.wp_at_succ
def readyB (cs : List Ca) (fs : List Int) (dry days a b : Int) (us : List Us) : Bool := !great cs fs us.length && (netOk cs fs dry days && (usesOk fs.length days us && Sp.ok 0 13000000 ⟨a, b⟩))
set_option maxHeartbeats 4000000 in
set_option maxRecDepth 100000 in
theorem ready_any (Ac Af Au : Option Addr) (nc cc nf cf nu cu : Nat) (dry days a b : Int) (cs : List Ca) (fs : List Int) (us : List Us) (w : World) (hnc : nc = cs.length) (hnf : nf = fs.length) (hcs : Rd w w.heap.size Ca.cells Ac cs) (hfs : Rd w w.heap.size icell Af fs) (hus : Rd w w.heap.size Us.cells Au us) (hnu : nu = us.length) :
    Calls Try.prog 40 #[.agg #[.slice Ac nc cc, .slice Af nf cf, .int .i64 dry, .int .i64 days], .agg #[.int .i64 a, .int .i64 b], .slice Au nu cu] w fun e w' => e = .returned (.bool (readyB cs fs dry days a b us)) ∧ Below w.heap.size w w' := by
  obtain ⟨W, HW⟩ : ∃ W, Hid ((w.alloc (.cells #[.slice Ac nc cc, .slice Af nf cf, .int .i64 dry, .int .i64 days] 25)).alloc (.cells #[.int .i64 a, .int .i64 b] 51) = W) := ⟨_, hide rfl⟩
  have hN : At W w.heap.size [.slice Ac nc cc, .slice Af nf cf, .int .i64 dry, .int .i64 days] := by rw [← HW.out]; exact (At.new w #[.slice Ac nc cc, .slice Af nf cf, .int .i64 dry, .int .i64 days] _ _ rfl _ rfl).alloc _
  have hL : At W (w.heap.size + 1) [.int .i64 a, .int .i64 b] := by rw [← HW.out]; exact At.new _ #[.int .i64 a, .int .i64 b] _ _ (by simp) _ rfl
  have hB : Below w.heap.size w W := by rw [← HW.out]; exact (below_new w _).alloc (by simp) _
  have hN0 := hN.c4
  have hL0 := hL.c2
  have hW : ∀ {α : Type} (cells : α → List Value) (A : Option Addr) (xs : List α), Rd w w.heap.size cells A xs → Rd W W.heap.size cells A xs := fun cells A xs h => h.bel hB
  obtain ⟨q0, q1, q2, q3⟩ := hN0
  obtain ⟨p0, p1⟩ := hL0
  have Hc := hide hnc; have Hf := hide hnf; have Hu := hide hnu
  have Hcs := hide (hcs.bel hB); have Hfs := hide (hfs.bel hB); have Hus := hide (hus.bel hB); have HB := hide hB; have HN := hide hN; have HL := hide hL
  obtain ⟨r, hr⟩ : ∃ r, r = readyB cs fs dry days a b us := ⟨_, rfl⟩
  rw [← hr]
  have Hr := hide hr
  clear hnc hnf hnu hcs hfs hus hB hN hL hW hr
  go_enter Try.func40, Try.ntmps40
  go_wp2_with fail
  rw [HW.out]
  go_wp2_with fail
  refine (rGreat_any Ac Af Au nc cc nf cf nu cu dry days cs fs _ Hc.out Hf.out).mono ?_
  rintro e w1 ⟨rfl, h1⟩
  obtain ⟨q0', q1', q2', q3'⟩ := (HN.out.below h1).c4
  clear q0 q1 q2 q3 p0 p1
  cases hg : great cs fs nu
  · have hg' := hg
    simp only [great, Bool.or_eq_false_iff, decide_eq_false_iff_not] at hg'
    have net1 : NetAt w1 Ac Af nc nf cs fs := ⟨Hcs.out.bel h1, Hfs.out.bel h1, Hc.out, Hf.out, by have := Hc.out; omega, by have := Hf.out; omega⟩
    have Hnet := hide net1; have Hg := hide hg; have Hnu := hide (show nu ≤ 80 by omega); have Hnf := hide (show nf ≤ 18 by have := Hf.out; omega)
    clear net1 hg hg'
    go_wp2_with fail
    refine (rCheck_any Ac Af nc cc nf cf dry days cs fs _ Hnet.out).mono ?_
    rintro e w2 ⟨rfl, h2⟩
    obtain ⟨p0, p1, p2, p3⟩ := ((HN.out.below h1).below h2).c4
    clear q0' q1' q2' q3'
    cases hok : netOk cs fs dry days
    · have he : netErr cs fs dry days = 50 := by simp [netErr, hok]
      rw [he]
      have Hok := hide hok; clear hok he
      go_wp2_with fail
      go_ret
      refine ⟨ret_bool ?_, (HB.out.trans (h1.mono HB.out.size)).trans (h2.mono (HB.out.trans (h1.mono HB.out.size)).size)⟩
      rw [Hr.out]; simp [readyB, Hok.out]
    · have he : netErr cs fs dry days = 0 := by simp [netErr, hok]
      have hd := (netOk_parts hok).2.2.2.1
      rw [he]
      have Hok := hide hok; clear hok he
      go_wp2_with fail
      refine (rUses_any Ac Af nc cc nf cf dry days Au us nu cu _ ((Hus.out.bel h1).bel h2) Hu.out (by have := Hnu.out; omega) (by have := Hnf.out; omega) hd.1 hd.2).mono ?_
      rintro e w3 ⟨rfl, h3⟩
      have hb3 := (HB.out.trans (h1.mono HB.out.size)).trans (h2.mono (HB.out.trans (h1.mono HB.out.size)).size)
      replace hb3 := hb3.trans (h3.mono hb3.size)
      obtain ⟨z0, z1⟩ := (((HL.out.below h1).below h2).below h3).c2
      clear p0 p1 p2 p3
      cases huo : usesOk nf days us
      · have Huo := hide huo; clear huo
        go_wp2_with fail
        go_ret
        refine ⟨ret_bool ?_, hb3⟩
        rw [Hr.out]; simp [readyB, ← Hf.out, Huo.out]
      · have Huo := hide huo; clear huo
        go_wp2_with fail
        refine (spanned_any _ _ _ _ _).mono ?_
        rintro e w4 ⟨rfl, h4⟩
        obtain ⟨sp, hsp⟩ : ∃ sp, sp = Sp.ok 0 13000000 ⟨a, b⟩ := ⟨_, rfl⟩
        rw [← hsp]
        have Hsp := hide hsp; clear hsp
        go_wp2_with fail
        go_ret
        refine ⟨ret_bool ?_, hb3.trans (h4.mono hb3.size)⟩
        rw [Hr.out]; simp [readyB, ← Hf.out, ← Hu.out, Huo.out, Hok.out, Hg.out, Hsp.out]
  · have Hg := hide hg; clear hg
    go_wp2_with fail
    go_ret
    refine ⟨ret_bool ?_, HB.out.trans (h1.mono HB.out.size)⟩
    rw [Hr.out]; simp [readyB, ← Hu.out, Hg.out]
set_option maxHeartbeats 4000000 in
set_option maxRecDepth 100000 in
theorem along_any (Ac Af : Option Addr) (nc cc nf cf : Nat) (dry days : Int) (cs : List Ca) (fs : List Int) (k : Int) (w : World) (hnet : NetAt w Ac Af nc nf cs fs) (hok : netOk cs fs dry days = true) (h0 : 0 ≤ k) (h1 : k < nf) :
    Calls Try.prog 43 #[.agg #[.slice Ac nc cc, .slice Af nf cf, .int .i64 dry, .int .i64 days], .int .i64 k] w fun e w' => ∃ v, e = .returned v ∧ Own w' w.heap.size 3 1 icell v (pathK cs fs k) ∧ Below w.heap.size w w' := by
  obtain ⟨j, rfl⟩ : ∃ j : Nat, k = j := ⟨k.toNat, by omega⟩
  have hj := nodeF_of hok (k := j) (by have := hnet.ef; omega)
  obtain ⟨m0, hm0⟩ : ∃ m0, m0 = nodeF fs j := ⟨_, rfl⟩
  rw [← hm0] at hj
  have hfrm := netOk_frm hok
  have hcl := (netOk_parts hok).1
  have hpk : pathK cs fs j = (upF cs m0 m0).reverse := by rw [hm0]; rfl
  rw [hpk]
  have hat0 := At.new w #[.slice Ac nc cc, .slice Af nf cf, .int .i64 dry, .int .i64 days] 25 w.heap.size rfl _ rfl
  have hB0 := below_new w (.cells #[.slice Ac nc cc, .slice Af nf cf, .int .i64 dry, .int .i64 days] 25)
  obtain ⟨b, off, x, hA, hB, hx, c0⟩ := (hnet.rf.below hB0).int (i := j) (by have := hnet.ef; omega)
  rw [hj.1] at hx
  injection hx with hx
  subst hx
  subst hA
  have Hnet := hide hnet; have Hfrm := hide hfrm
  have hm1 := hj.2
  clear hnet hfrm hok hj hm0 hpk
  go_enter Try.func43, Try.ntmps43
  go_wp2_with fail
  obtain ⟨w1, Hw1⟩ : ∃ w1, Hid (w.alloc (.cells #[.slice Ac nc cc, .slice (some ⟨b, off, none⟩) nf cf, .int .i64 dry, .int .i64 days] 25) = w1) := ⟨_, hide rfl⟩
  rw [Hw1.out] at hat0 hB0 ⊢
  clear c0
  go_loopw [5, 6] (fun v i wr => ∃ (m : Nat) (done : List Int), m ≤ cs.length ∧ i = .int .i64 m ∧ Own wr (w.heap.size + 1) 3 1 icell v done ∧ done ++ upF cs m m = upF cs m0 m0 ∧ done.length + m ≤ cs.length ∧ Below w.heap.size w wr ∧ At wr w.heap.size [.slice Ac nc cc, .slice (some ⟨b, off, none⟩) nf cf, .int .i64 dry, .int .i64 days]) (fun _ i _ => (intOf i).toNat)
  case atStart => exact ⟨m0, [], hm1, rfl, Own.nil _ _ _ _ _, by simp, by simpa using hm1, hB0, hat0⟩
  case round =>
    clear hat0 hB0
    obtain ⟨m, done, hm, rfl, hown, heq, hlen, hb, hat⟩ := hrel
    have Hown := hide hown; have Heq := hide heq
    clear hown heq
    cases m with
    | zero =>
      obtain ⟨wo, rfl⟩ : ∃ wo, wo = wr := ⟨wr, rfl⟩
      obtain ⟨n, hn⟩ : ∃ n, n = done.length := ⟨_, rfl⟩
      obtain ⟨A1, c1, rfl, hrd⟩ := Hown.out.rd
      rw [← hn]
      have Hn := hide hn; have Hrd := hide hrd
      have hn16 : n ≤ 16 := by omega
      clear hrd hn
      have e0 : ((0 : Nat) : Int) = 0 := rfl
      rw [e0]
      clear e0
      go_wp2_with fail
      go_loopw [7, 30] (fun v i W2 => ∃ k : Nat, k ≤ n ∧ i = .int .i64 k ∧ Own W2 wo.heap.size 3 1 icell v (done.reverse.take k) ∧ Below wo.heap.size wo W2) (fun _ i _ => n - (intOf i).toNat)
      case atStart => exact ⟨0, by omega, rfl, Own.nil _ _ _ _ _, Below.refl _ _⟩
      case round =>
        obtain ⟨k, hk, rfl, hown2, hb2⟩ := hrel
        have Hown2 := hide hown2
        clear hown2
        by_cases hlt : k < n
        · obtain ⟨jx, hjx⟩ : ∃ jx, n = k + jx + 1 := ⟨n - k - 1, by omega⟩
          obtain ⟨b3, off3, x, hA3, hB3, hx3, c3⟩ := (Hrd.out.below hb2).int (i := jx) (by have := Hn.out; omega)
          subst hA3
          have Hx3 := hide hx3
          have Hn2 := hide (Hn.out.symm.trans hjx)
          have e1 : (n : Int) - 1 - (k : Int) = (jx : Int) := by omega
          have i1 : (jx : Int) < (n : Int) := by omega
          have Hjx := hide hjx; clear hjx
          have hr := hide (Rd.new (cells := icell) wr #[.int .i64 x] 3 [x] rfl)
          have hsz := hb2.size
          have i0 : (0 : Int) ≤ (jx : Int) := by omega
          have hlx : (done.reverse.take k).length ≤ 16 := by rw [List.length_take]; omega
          clear hx3
          go_wp2_with (at_builtin; refine wpList_app (v := u7) (xs := done.reverse.take k) (ys := [x]) (n := 1) el_int rfl (.tmp 33) (.tmp 42) rfl rfl (Hown2.out.alloc _) rfl rfl hr.out (by omega) (by simp; omega) ?_; intro vv wv hown1 hg1 hat1; have Hw := hide (below_own (Hown2.out.alloc _) (hb2.alloc hb2.size _) hg1 (by simp; omega)); have Hown1 := hide hown1; clear hown1 hg1 hat1)
          refine ⟨⟨k + 1, by omega, by go_num, ?_, Hw.out⟩, by simp [intOf]; omega⟩
          have hs : done.reverse[k]? = some x := by
            rw [List.getElem?_reverse (by have := Hn2.out; omega), show done.length - 1 - k = jx by have := Hn2.out; omega]
            exact Hx3.out
          rw [take_snoc hs]
          exact Hown1.out
        · obtain rfl : k = n := by omega
          go_wp2_with fail
          go_ret
          refine ⟨_, rfl, ?_, hb.trans (hb2.mono hb.size)⟩
          have h := Hown2.out
          rw [List.take_of_length_le (by rw [List.length_reverse]; have := Hn.out; omega)] at h
          have he := Heq.out
          rw [show upF cs 0 0 = [] from rfl, List.append_nil] at he
          rw [← he]
          exact h.mono hb.size
    | succ m =>
      have hsz := hat.1
      obtain ⟨b2, off2, f2, s0, s1, l0, l1, hA2, hB2, hx2, g0, g1, g2, g3, g4⟩ := (Hnet.out.rc.below hb).ca (i := m) (by omega)
      subst hA2
      have hfv := Hfrm.out m _ hx2
      simp only at hfv
      obtain ⟨f3, rfl⟩ : ∃ f3 : Nat, f2 = f3 := ⟨f2.toNat, by omega⟩
      have hfr : frmN cs m = f3 := by unfold frmN; rw [hx2]; simp
      have Hfr := hide hfr
      have hnc := Hnet.out.ec
      have hmn : m < nc := by omega
      have hm16 : m ≤ 16 := by omega
      have hr := hide (Rd.new (cells := icell) wr #[.int .i64 m] 3 [(m : Int)] rfl)
      have hbw : b2 < w.heap.size := by omega
      clear hx2 g1 g2 g3 g4 hfr hnc
      go_wp2_with (at_builtin; refine wpList_app (v := u5) (xs := done) (ys := [(m : Int)]) (n := 1) el_int rfl (.tmp 23) (.tmp 26) rfl rfl (Hown.out.alloc _) rfl rfl hr.out (by omega) (by simp; omega) ?_; intro vv wv hown1 hg1 hat1; have hbv : Below (w.heap.size + 1) wr wv := below_own (Hown.out.alloc _) ((below_new wr _).mono (by omega)) hg1 (by simp; omega); have hat3 : At wv w.heap.size [.slice (some ⟨b2, off2, none⟩) nc cc, .slice (some ⟨b, off, none⟩) nf cf, .int .i64 dry, .int .i64 days] := ⟨Nat.lt_of_lt_of_le hat.1 hbv.size, fun j v hv => (hbv.cell (p := ⟨w.heap.size, j, none⟩) (by show w.heap.size < _; omega)).trans (hat.2 j v hv)⟩; obtain ⟨q0, q1, q2, q3⟩ := hat3.c4; have g0 := (hbv.cell (p := ⟨b2, off2 + m * 5, none⟩) (by show b2 < _; omega)).trans g0; have Hown1 := hide hown1; have Hb3 := hide (hb.trans (hbv.mono (by omega))); have Hat3 := hide hat3; clear hown1 hg1 hat1 hbv hat3)
      have hst : upF cs (m + 1) (m + 1) = (m : Int) :: upF cs f3 f3 := by rw [upF_succ Hfrm.out, Hfr.out]
      refine ⟨⟨f3, done ++ [(m : Int)], by omega, rfl, Hown1.out, ?_, by simp; omega, Hb3.out, Hat3.out⟩, by simp [intOf]; omega⟩
      rw [← Heq.out, hst]
      simp
end Go.Proofs.Ytgklcilpohkpkaa
