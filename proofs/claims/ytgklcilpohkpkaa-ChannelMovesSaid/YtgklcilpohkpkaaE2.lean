/- What one use alone brings to its field, and the closure that asks for it, by contract. -/
import Derived.Test.YtgklcilpohkpkaaA0
import Derived.Test.YtgklcilpohkpkaaDry2
import Derived.Test.YtgklcilpohkpkaaR8
set_option linter.unusedVariables false
set_option linter.unusedSimpArgs false
namespace Go.Proofs.Ytgklcilpohkpkaa
open Go.RowKit Go.Shelf
theorem netOk_dry {cs : List Ca} {fs : List Int} {dry days : Int} (hok : netOk cs fs dry days = true) {d : Int} (h0 : 0 ≤ d) (h1 : d ≤ 23040) : netOk cs fs d days = true := by
  simp only [netOk, netPre, inB, Bool.and_eq_true, decide_eq_true_eq] at hok ⊢
  obtain ⟨⟨⟨⟨⟨⟨h, h2⟩, _⟩, h4⟩, h5⟩, h6⟩, h7⟩ := hok
  exact ⟨⟨⟨⟨⟨⟨h, h2⟩, h0, h1⟩, h4⟩, h5⟩, h6⟩, h7⟩
theorem one_use {nf days k m : Int} (h0 : 0 ≤ k) (h1 : k < nf) (h2 : 1 ≤ m) (h3 : m ≤ days * 1440) : usesOk nf days [⟨k, 0, m⟩] = true := by
  simp only [usesOk, usAll, usOk, List.length_cons, List.length_nil, Bool.and_eq_true, Bool.not_eq_true', decide_eq_true_eq, decide_eq_false_iff_not]
  refine ⟨⟨⟨⟨h0, h1⟩, ?_, ?_, ?_⟩, trivial⟩, ?_⟩ <;> omega
theorem dryL_one {cs : List Ca} {fs : List Int} {dry days k m : Int} (hok : netOk cs fs dry days = true) (h0 : 0 ≤ k) (h1 : k < fs.length) (h2 : 1 ≤ m) (h3 : m < days * 1440) :
    dryL cs fs 0 (days * 1440) [⟨k, 0, m⟩] 0 = pathK cs fs k := by
  rw [dry_eq (netOk_dry hok (by omega) (by omega)) (one_use h0 h1 h2 (by omega) : usesOk (fs.length : Int) days _ = true)]
  simp only [dryR, List.getElem?_cons_zero]
  rw [List.filter_eq_self]
  intro c hc
  simp only [dryB, List.getElem?_cons_zero, dryTo, List.length_cons, List.length_nil]
  simp [oneB, gapR, hc]
  omega
theorem wkAt_dry {cs : List Ca} {dr : List Int} {c : Int} (h : c ∈ dr) : wkAt cs dr c = wkT cs c := by
  unfold wkAt wkT
  cases cs[c.toNat]? with
  | none => rfl
  | some ca => simp only [decide_eq_true h]
theorem pathW_lo (cs : List Ca) (dr : List Int) : ∀ (p : List Int) (lost : List Sp) (v : Sp), (∀ c ∈ p, c ∈ dr) → (pathW cs dr p lost v).2.lo = getK cs p v.lo
  | [], _, _, _ => rfl
  | c :: p, lost, v, h => by
    have h1 : pathW cs dr (c :: p) lost v = pathW cs dr p (canalW cs dr (lost, v) c).1 (canalW cs dr (lost, v) c).2 := rfl
    rw [h1, pathW_lo cs dr p _ _ (fun x hx => h x (List.mem_cons_of_mem _ hx))]
    have h2 : getK cs (c :: p) v.lo = getK cs p (goF (wkT cs c) ⟨v.lo, v.lo⟩).lo := rfl
    rw [h2]
    simp only [canalW]
    rw [wkAt_dry (h c (List.mem_cons_self ..))]
    rfl
theorem getK_zero {cs : List Ca} {fs : List Int} {dry days : Int} (hok : netOk cs fs dry days = true) : ∀ p : List Int, getK cs p 0 = 0
  | [] => rfl
  | c :: p => by
    have h2 : getK cs (c :: p) 0 = getK cs p (goF (wkT cs c) ⟨0, 0⟩).lo := rfl
    have hw := wkT_wf hok c
    have h3 : (goF (wkT cs c) ⟨0, 0⟩).lo = 0 := by
      simp only [goF, downF]
      have := hw.2.1.1
      rw [show max (0 : Int) (0 - (wkT cs c).fill.hi) = 0 by omega]
      simp
    rw [h2, h3, getK_zero hok p]
theorem getK_pos {cs : List Ca} {fs : List Int} {dry days : Int} (hok : netOk cs fs dry days = true) (p : List Int) {v : Int} (h : 0 ≤ v) : 0 ≤ getK cs p v := by
  have := getK_mono hok p h
  rw [getK_zero hok] at this
  exact this
theorem waters_one {cs : List Ca} {fs : List Int} {dry days a b k m : Int} (hok : netOk cs fs dry days = true) (h0 : 0 ≤ k) (h1 : k < fs.length) (h2 : 1 ≤ m) (h3 : m < days * 1440) :
    (watersK cs fs 0 (days * 1440) a b [⟨k, 0, m⟩] 1).1.length = fs.length ∧ ∃ hi, (watersK cs fs 0 (days * 1440) a b [⟨k, 0, m⟩] 1).1[k.toNat]? = some ⟨getK cs (pathK cs fs k) (a * m), hi⟩ := by
  have hd := dryL_one hok h0 h1 h2 h3
  have hk : k.toNat < fs.length := by omega
  have hlo := pathW_lo cs (pathK cs fs k) (pathK cs fs k) (List.replicate cs.length ⟨0, 0⟩) ⟨a * (m - 0), b * (m - 0)⟩ (fun c h => h)
  simp only [watersK, List.range_succ, List.range_zero, List.nil_append, List.foldl_cons, List.foldl_nil, useW, List.getElem?_cons_zero, hd]
  refine ⟨by simp [putS], ?_⟩
  have hl : k.toNat < (List.replicate fs.length (⟨0, 0⟩ : Sp)).length := by simpa using hk
  refine ⟨0 + (pathW cs (pathK cs fs k) (pathK cs fs k) (List.replicate cs.length ⟨0, 0⟩) ⟨a * (m - 0), b * (m - 0)⟩).2.hi, ?_⟩
  · simp only [putS]
    rw [List.getElem?_set_self hl]
    congr 1
    have e1 : atS (List.replicate fs.length (⟨0, 0⟩ : Sp)) k.toNat = ⟨0, 0⟩ := by simp [atS, hk]
    rw [e1]
    simp only [Int.sub_zero] at hlo
    simp only [addS, hlo, Int.sub_zero, Int.zero_add]
end Go.Proofs.Ytgklcilpohkpkaa
namespace Go.Proofs.Ytgklcilpohkpkaa
open Go.RowKit Go.Shelf
attribute [local go_sem ↓] Go.wp_at_zero Go.wp_at_succ
set_option maxHeartbeats 4000000 in
set_option maxRecDepth 100000 in
theorem gets_any (Ac Af : Option Addr) (nc cc nf cf : Nat) (dry days a b m : Int) (cs : List Ca) (fs : List Int) (kk bn bf bk : Nat) (w : World) (hnet : NetAt w Ac Af nc nf cs fs) (hok : netOk cs fs dry days = true) (hsp : Sp.ok 0 13000000 ⟨a, b⟩ = true) (h1 : kk < nf) (hm0 : 0 ≤ m) (hm : m < days * 1440)
    (hn : At w bn [.slice Ac nc cc, .slice Af nf cf, .int .i64 dry, .int .i64 days]) (hf : At w bf [.int .i64 a, .int .i64 b]) (hk : At w bk [.int .i64 (kk : Int)]) :
    Calls Try.prog 45 #[.int .i64 m, .pointer (some ⟨bn, 0, none⟩), .pointer (some ⟨bf, 0, none⟩), .pointer (some ⟨bk, 0, none⟩)] w fun e w' => e = .returned (.int .i64 (getK cs (pathK cs fs kk) (a * m))) ∧ Below w.heap.size w w' := by
  by_cases hz : m = 0
  · subst hz
    have h0 := getK_zero hok (pathK cs fs kk)
    rw [Int.mul_zero, h0]
    clear hnet hok hsp hn hf hk h0
    go_enter Try.func45, Try.ntmps45
    go_wp2
    go_ret
    exact ⟨rfl, Below.refl _ _⟩
  · have hef := hnet.ef
    have hw := waters_one (a := a) (b := b) hok (k := kk) (m := m) (by omega) (by omega) (by omega) hm
    have hws : watersS cs fs 0 days a b [⟨(kk : Int), 0, m⟩] = (watersK cs fs 0 (days * 1440) a b [⟨(kk : Int), 0, m⟩] 1, 0) := by
      unfold watersS
      rw [if_pos (netOk_dry hok (by omega) (by omega)), if_pos hsp, if_pos (one_use (by omega) (by omega) (by omega) (by omega))]
      rfl
    have Hw1 := hide hw; have Hws := hide hws; have Hef := hide hef.symm; have Hm := hide hz; have Hnet := hide hnet
    have mz : (m == 0) = false := by simpa using hz
    clear hw hws hef hz hnet hok hsp
    go_enter Try.func45, Try.ntmps45
    obtain ⟨q0, q1, q2, q3⟩ := hn.c4
    go_wp2_with fail
    refine (twin_any _ _ _ _ _ _ _ _ _ _ _ Hnet.out).mono ?_
    rintro e w1 ⟨Bc, dc, Bf, df, rfl, n1, hb⟩
    replace hn := hn.bel hb
    replace hf := hf.bel hb
    replace hk := hk.bel hb
    have hB := hb
    clear hb q0 q1 q2 q3 Hnet
    go_wp2_with fail
    obtain ⟨b6, w2, eb6, ew6, x6, _, hb⟩ := mk_box w1 #[.slice Bc nc dc, .slice Bf nf df, .int .i64 0, .int .i64 days] 25
    rw [ew6.out, eb6.out]
    replace n1 := n1.bel hb
    replace hB := hB.trans (hb.mono hB.size)
    have xn := hn.bel hb
    have Hx := hide x6
    have Hf := hide (hf.bel hb)
    have Hk := hide (hk.bel hb)
    clear eb6 ew6 x6 hn hf hk hb
    refine wp_region_held_drew (S := (fun W => Below w2.heap.size w2 W)) (by kernel_rfl) (by (try dsimp only); exact (Below.refl _ _).drew) (fun hHeld => ?_)
    generalize World.drew w2 = Wd5 at hHeld ⊢
    have n1 := n1.bel hHeld
    have xn := xn.bel hHeld
    have hbc := Below.refl Wd5.heap.size Wd5
    refine wpAnyH_take (i := 0) (oi := ⟨_, _, _, _, _, _⟩) (v := ?_) rfl (by kernel_rfl) (by kernel_rfl) (by kernel_rfl) (fun _ _ _ h => h) (Or.inl ⟨by rfl, ?_⟩) hHeld ?_
    rotate_left
    · (intro w hSw; (try dsimp only at hSw); obtain ⟨q0, q1, q2, q3⟩ := (Hx.out.below hSw).c4; obtain ⟨p0, p1⟩ := (Hf.out.below hSw).c2; have k0 := (Hk.out.below hSw).c1; go_simp; try (with_reducible rfl))
    try simp only [Act.put, List.setIfInBounds_toArray, List.set_cons_zero, List.set_cons_succ]
    refine wpAnyH_take (i := 1) (oi := ⟨_, _, _, _, _, _⟩) (v := ?_) rfl (by kernel_rfl) (by kernel_rfl) (by kernel_rfl) (fun _ _ _ h => h) (Or.inl ⟨by rfl, ?_⟩) hHeld ?_
    rotate_left
    · (intro w hSw; (try dsimp only at hSw); obtain ⟨q0, q1, q2, q3⟩ := (Hx.out.below hSw).c4; obtain ⟨p0, p1⟩ := (Hf.out.below hSw).c2; have k0 := (Hk.out.below hSw).c1; go_simp; try (with_reducible rfl))
    try simp only [Act.put, List.setIfInBounds_toArray, List.set_cons_zero, List.set_cons_succ]
    refine wpAnyH_take (i := 2) (oi := ⟨_, _, _, _, _, _⟩) (v := ?_) rfl (by kernel_rfl) (by kernel_rfl) (by kernel_rfl) (fun _ _ _ h => h) (Or.inl ⟨by rfl, ?_⟩) hHeld ?_
    rotate_left
    · (intro w hSw; (try dsimp only at hSw); obtain ⟨q0, q1, q2, q3⟩ := (Hx.out.below hSw).c4; obtain ⟨p0, p1⟩ := (Hf.out.below hSw).c2; have k0 := (Hk.out.below hSw).c1; go_simp; try (with_reducible rfl))
    try simp only [Act.put, List.setIfInBounds_toArray, List.set_cons_zero, List.set_cons_succ]
    refine wpAnyH_take (i := 3) (oi := ⟨_, _, _, _, _, _⟩) (v := ?_) rfl (by kernel_rfl) (by kernel_rfl) (by kernel_rfl) (fun _ _ _ h => h) (Or.inl ⟨by rfl, ?_⟩) hHeld ?_
    rotate_left
    · (intro w hSw; (try dsimp only at hSw); go_simp; try (with_reducible rfl))
    try simp only [Act.put, List.setIfInBounds_toArray, List.set_cons_zero, List.set_cons_succ]
    refine wpAnyH_ready (rs := [4]) (by kernel_rfl) (by simp) ?_
    refine AllReadyH.cons (o := ⟨_, _, _, _, _, _⟩) rfl (fun K hK => ?_) AllReadyH.nil
    go_simp
    refine (use_any _ _ _ _).mono ?_
    rintro e V20 ⟨rfl, hb⟩
    go_wp2_with fail
    have hHeldN := hHeld.trans (hb.mono hHeld.size)
    have n1 := n1.bel hb
    have xn := xn.bel hb
    have hbc := hbc.trans (hb.mono hbc.size)
    refine hK.out _ _ ?_ (fun hHeld2 => ?_)
    · exact hHeldN
    clear hK K hHeld hHeldN hb; have hHeld := hHeld2; clear hHeld2
    try simp only [Act.put, List.setIfInBounds_toArray, List.set_cons_zero, List.set_cons_succ]
    refine wpAnyH_ready (rs := [5]) (by kernel_rfl) (by simp) ?_
    refine AllReadyH.cons (o := ⟨_, _, _, _, _, _⟩) rfl (fun K hK => ?_) AllReadyH.nil
    go_simp
    obtain ⟨b21, V21, eb21, ev21, r21, hb⟩ := mk_row (cells := Us.cells) V20 #[.int .i64 (kk : Int), .int .i64 0, .int .i64 m] 74 [⟨(kk : Int), 0, m⟩] rfl
    rw [ev21.out, eb21.out]
    have hHeldN := hHeld.trans (hb.mono hHeld.size)
    have n1 := n1.bel hb
    have xn := xn.bel hb
    have hbc := hbc.trans (hb.mono hbc.size)
    refine hK.out _ _ ?_ (fun hHeld2 => ?_)
    · exact hHeldN
    clear hK K hHeld hHeldN hb; have hHeld := hHeld2; clear hHeld2
    try simp only [Act.put, List.setIfInBounds_toArray, List.set_cons_zero, List.set_cons_succ]
    refine wpAnyH_ready (rs := [6]) (by kernel_rfl) (by simp) ?_
    refine AllReadyH.cons (o := ⟨_, _, _, _, _, _⟩) rfl (fun K hK => ?_) AllReadyH.nil
    go_simp
    refine (waters_fn _ _ _ _ _ _ _ _ _ _ _ _ _ _ _ [⟨(kk : Int), 0, m⟩] _ n1 r21 rfl (by simp)).mono ?_
    rintro e V22 ⟨v1, v2, rfl, o1, o2, hb⟩
    simp only [Hws.out] at o1 ⊢
    clear o2
    obtain ⟨A22, c22, rfl, r22⟩ := o1.rdn nf (Hw1.out.1.trans Hef.out)
    clear o1
    go_wp2_with fail
    have hHeldN := hHeld.trans (hb.mono hHeld.size)
    have n1 := n1.bel hb
    have xn := xn.bel hb
    have r21 := r21.bel hb
    have hbc := hbc.trans (hb.mono hbc.size)
    refine hK.out _ _ ?_ (fun hHeld2 => ?_)
    · exact hHeldN
    clear hK K hHeld hHeldN hb; have hHeld := hHeld2; clear hHeld2
    try simp only [Act.put, List.setIfInBounds_toArray, List.set_cons_zero, List.set_cons_succ]
    refine wpAnyH_take (i := 7) (oi := ⟨_, _, _, _, _, _⟩) (v := ?_) rfl (by kernel_rfl) (by kernel_rfl) (by kernel_rfl) (fun _ _ _ h => h) (Or.inl ⟨by rfl, ?_⟩) hHeld ?_
    rotate_left
    · (intro w hSw; (try dsimp only at hSw); go_simp; try (with_reducible rfl))
    try simp only [Act.put, List.setIfInBounds_toArray, List.set_cons_zero, List.set_cons_succ]
    refine wpAnyH_take (i := 8) (oi := ⟨_, _, _, _, _, _⟩) (v := ?_) rfl (by kernel_rfl) (by kernel_rfl) (by kernel_rfl) (fun _ _ _ h => h) (Or.inl ⟨by rfl, ?_⟩) hHeld ?_
    rotate_left
    · (intro w hSw; (try dsimp only at hSw); go_simp; try (with_reducible rfl))
    try simp only [Act.put, List.setIfInBounds_toArray, List.set_cons_zero, List.set_cons_succ]
    refine wpAnyH_take (i := 9) (oi := ⟨_, _, _, _, _, _⟩) (v := ?_) rfl (by kernel_rfl) (by kernel_rfl) (by kernel_rfl) (fun _ _ _ h => h) (Or.inl ⟨by rfl, ?_⟩) hHeld ?_
    rotate_left
    · (intro w hSw; (try dsimp only at hSw); go_simp; try (with_reducible rfl))
    try simp only [Act.put, List.setIfInBounds_toArray, List.set_cons_zero, List.set_cons_succ]
    refine wpAnyH_take (i := 10) (oi := ⟨_, _, _, _, _, _⟩) (v := ?_) rfl (by kernel_rfl) (by kernel_rfl) (by kernel_rfl) (fun _ _ _ h => h) (Or.inl ⟨by rfl, ?_⟩) hHeld ?_
    rotate_left
    · (intro w hSw; (try dsimp only at hSw); go_simp; try (with_reducible rfl))
    try simp only [Act.put, List.setIfInBounds_toArray, List.set_cons_zero, List.set_cons_succ]
    refine wpAnyH_take (i := 11) (oi := ⟨_, _, _, _, _, _⟩) (v := ?_) rfl (by kernel_rfl) (by kernel_rfl) (by kernel_rfl) (fun _ _ _ h => h) (Or.inl ⟨by rfl, ?_⟩) hHeld ?_
    rotate_left
    · (intro w hSw; (try dsimp only at hSw); go_simp; try (with_reducible rfl))
    try simp only [Act.put, List.setIfInBounds_toArray, List.set_cons_zero, List.set_cons_succ]
    refine wpAnyH_take (i := 12) (oi := ⟨_, _, _, _, _, _⟩) (v := ?_) rfl (by kernel_rfl) (by kernel_rfl) (by kernel_rfl) (fun _ _ _ h => h) (Or.inl ⟨by rfl, ?_⟩) hHeld ?_
    rotate_left
    · (intro w hSw; (try dsimp only at hSw); go_simp; try (with_reducible rfl))
    try simp only [Act.put, List.setIfInBounds_toArray, List.set_cons_zero, List.set_cons_succ]
    refine wpAnyH_take (i := 13) (oi := ⟨_, _, _, _, _, _⟩) (v := ?_) rfl (by kernel_rfl) (by kernel_rfl) (by kernel_rfl) (fun _ _ _ h => h) (Or.inl ⟨by rfl, ?_⟩) hHeld ?_
    rotate_left
    · (intro w hSw; (try dsimp only at hSw); go_simp; try (with_reducible rfl))
    try simp only [Act.put, List.setIfInBounds_toArray, List.set_cons_zero, List.set_cons_succ]
    refine wpAnyH_done (by kernel_rfl) ?_ _
    replace hB := hB.trans (hHeld.mono hB.size)
    have hk := (Hk.out.below hHeld).c1
    obtain ⟨q0, q1, q2, q3⟩ := xn.c4
    obtain ⟨hlen, hi, hget⟩ := Hw1.out
    obtain ⟨bw, offw, lo, hi2, rfl, hbw, hxw, c0, c1⟩ := r22.sp (i := kk) (by have := Hef.out; omega)
    have hlo : lo = getK cs (pathK cs fs kk) (a * m) := by
      rw [show (kk : Int).toNat = kk from rfl, hxw] at hget
      injection hget with hget
      injection hget
    have Hlo := hide hlo
    have i0 : (0 : Int) ≤ (kk : Int) := by omega
    have i1 : (kk : Int) < (nf : Int) := by omega
    clear hbc hHeld Hx Hk Hf n1 r22 hlen hget hxw Hws Hw1 c1 hlo
    go_wp2_with fail
    go_ret
    exact ⟨ret_int Hlo.out, hB⟩
end Go.Proofs.Ytgklcilpohkpkaa
