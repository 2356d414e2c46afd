/- Lists compared: by length, then number by number, by contracts. Fields that lack minutes (Lack), by contract. -/
import Derived.Test.YtmbhnjpaieimbaaPB1
import Derived.Test.YtmbhnjpaieimbaaPBD
set_option linter.unusedVariables false
set_option linter.unusedSimpArgs false
namespace Go.Proofs.Ytmbhnjpaieimbaa
open Go.RowKit Go.Shelf
/-- slices.Compare at int, from a place on. -/
def lexFrom (a b : List Int) : Nat → Nat → Int
  | 0, _ => if a.length < b.length then -1 else 0
  | n + 1, k => if b.length ≤ k then 1 else if cmpI (a.getD k 0) (b.getD k 0) ≠ 0 then cmpI (a.getD k 0) (b.getD k 0) else lexFrom a b n (k + 1)
def lexC (a b : List Int) : Int := lexFrom a b a.length 0
set_option maxHeartbeats 4000000 in
set_option maxRecDepth 100000 in
theorem compare_any (A B : Option Addr) (n c m d : Nat) (xs ys : List Int) (w : World) (hx : Rd w w.heap.size icell A xs) (hy : Rd w w.heap.size icell B ys) (hn : n = xs.length) (hm : m = ys.length) (hn2 : n ≤ 1000) (hm2 : m ≤ 1000) :
    Calls Try.prog 78 #[.slice A n c, .slice B m d] w fun e w' => e = .returned (.int .i64 (lexC xs ys)) ∧ Below w.heap.size w w' := by
  have Hn := hide hn; have Hm := hide hm; have Hx := hide hx; have Hy := hide hy
  obtain ⟨D, hD⟩ : ∃ D, D = lexC xs ys := ⟨_, rfl⟩
  rw [← hD]
  have HD := hide hD
  clear hn hm hx hy hD
  go_enter Try.func78, Try.ntmps78
  go_wp2_with fail
  go_loopw [11] (fun iv wr => ∃ k : Nat, k ≤ n ∧ iv = .int .i64 k ∧ Hid (D = lexFrom xs ys (n - k) k) ∧ Below w.heap.size w wr) (fun iv _ => n - (intOf iv).toNat)
  case atStart => exact ⟨0, by omega, rfl, hide (by rw [HD.out, lexC, Hn.out, Nat.sub_zero]), Below.refl _ _⟩
  case round =>
    obtain ⟨k, hk, rfl, HL, hb⟩ := hrel
    by_cases hlt : k < n
    · obtain ⟨ba, oa, x, hA, hla, hxk, cx⟩ := (Hx.out.below hb).int (i := k) (by have := Hn.out; omega)
      have hgx : xs.getD k 0 = x := by rw [List.getD_eq_getElem?_getD, hxk]; rfl
      have hL := HL.out
      rw [show n - k = (n - (k + 1)) + 1 by omega, lexFrom, ← Hm.out, hgx] at hL
      have Hgx := hide hgx
      have HL2 := hide hL
      have ik : (k : Int) < (n : Int) := by omega
      subst hA
      clear hgx hL hxk
      by_cases hmk : m ≤ k
      · have h1 : ¬ (k : Int) < (m : Int) := by omega
        have h2 : (m : Int) ≤ (k : Int) := by omega
        have hr := HL2.out
        rw [if_pos hmk] at hr
        have Hr := hide hr
        clear hmk hr
        go_wp2_with fail
        go_ret
        exact ⟨ret_int (by rw [Hr.out]), hb⟩
      · obtain ⟨bb, ob, y, hB, hlb, hyk, cy⟩ := (Hy.out.below hb).int (i := k) (by have := Hm.out; omega)
        have hgy : ys.getD k 0 = y := by rw [List.getD_eq_getElem?_getD, hyk]; rfl
        have h2 : ¬ (m : Int) ≤ (k : Int) := by omega
        have im : (k : Int) < (m : Int) := by omega
        have hr := HL2.out
        rw [if_neg hmk, hgy] at hr
        have Hr := hide hr
        subst hB
        clear hmk hr hgy hyk
        go_wp2_with fail
        refine (cmp_any x y _).mono ?_
        rintro e w1 ⟨rfl, rfl⟩
        obtain ⟨q, hq⟩ : ∃ q, q = cmpI x y := ⟨_, rfl⟩
        rw [← hq] at Hr ⊢
        clear hq
        by_cases hq0 : q = 0
        · have Hq := hide hq0
          have e1 : (q == 0) = true := by simp [hq0]
          have e2 : (q != 0) = false := by simp [hq0]
          clear hq0
          go_wp2_with fail
          exact ⟨⟨k + 1, by omega, by go_num, hide (by rw [Hr.out, if_neg (by rw [Hq.out]; decide)]), hb⟩, by simp [intOf]; omega⟩
        · have Hq := hide hq0
          have e1 : (q == 0) = false := by simp [hq0]
          have e2 : (q != 0) = true := by simp [hq0]
          clear hq0
          go_wp2_with fail
          go_ret
          exact ⟨ret_int (by rw [Hr.out, if_pos Hq.out]), hb⟩
    · obtain rfl : n = k := by omega
      have hL := HL.out
      rw [Nat.sub_self, lexFrom, ← Hn.out, ← Hm.out] at hL
      have HL2 := hide hL
      clear hL
      by_cases hnm : n < m
      · have h1 : (n : Int) < (m : Int) := by omega
        have hr := HL2.out
        rw [if_pos hnm] at hr
        have Hr := hide hr
        clear hnm hr
        go_wp2_with fail
        go_ret
        exact ⟨ret_int (by rw [Hr.out]), hb⟩
      · have h1 : ¬ (n : Int) < (m : Int) := by omega
        have hr := HL2.out
        rw [if_neg hnm] at hr
        have Hr := hide hr
        clear hnm hr
        go_wp2_with fail
        go_ret
        exact ⟨ret_int (by rw [Hr.out]), hb⟩
/-- cmp.Or of two. -/
theorem or_any (b : Nat) (x y : Int) (w : World) (h : At w b [.int .i64 x, .int .i64 y]) :
    Calls Try.prog 76 #[.slice (some ⟨b, 0, none⟩) 2 2] w fun e w' => e = .returned (.int .i64 (if x = 0 then y else x)) ∧ Below w.heap.size w w' := by
  obtain ⟨D, hD⟩ : ∃ D, D = if x = 0 then y else x := ⟨_, rfl⟩
  rw [← hD]
  have HD := hide hD
  have H := hide h
  clear hD h
  go_enter Try.func76, Try.ntmps76
  go_wp2_with fail
  go_loopw [8] (fun iv wr => ∃ i : Nat, i ≤ 2 ∧ iv = .int .i64 i ∧ (i = 0 ∨ i = 1 ∧ x = 0 ∨ i = 2 ∧ x = 0 ∧ y = 0) ∧ wr = w) (fun iv _ => 2 - (intOf iv).toNat)
  case atStart => exact ⟨0, by omega, rfl, .inl rfl, rfl⟩
  case round =>
    obtain ⟨i, hi, rfl, hc, rfl⟩ := hrel
    obtain ⟨c0, c1⟩ := H.out.c2
    rcases hc with rfl | ⟨rfl, h1⟩ | ⟨rfl, h1, h2⟩
    · by_cases hx : x = 0
      · have Hq := hide hx
        have e1 : (x == 0) = true := by simp [hx]
        have e2 : (x != 0) = false := by simp [hx]
        clear hx
        go_wp2_with fail
        exact ⟨⟨1, by omega, rfl, .inr (.inl ⟨rfl, Hq.out⟩), by first | rfl | trivial⟩, by simp [intOf]⟩
      · have Hq := hide hx
        have e1 : (x == 0) = false := by simp [hx]
        have e2 : (x != 0) = true := by simp [hx]
        clear hx
        go_wp2_with fail
        go_ret
        exact ⟨ret_int (by rw [HD.out, if_neg Hq.out]), Below.refl _ _⟩
    · have Hx := hide h1
      clear h1
      by_cases hy : y = 0
      · have Hq := hide hy
        have e1 : (y == 0) = true := by simp [hy]
        have e2 : (y != 0) = false := by simp [hy]
        clear hy
        go_wp2_with fail
        exact ⟨⟨2, by omega, rfl, .inr (.inr ⟨rfl, Hx.out, Hq.out⟩), by first | rfl | trivial⟩, by simp [intOf]⟩
      · have e1 : (y == 0) = false := by simp [hy]
        have e2 : (y != 0) = true := by simp [hy]
        clear hy
        go_wp2_with fail
        go_ret
        exact ⟨ret_int (by rw [HD.out, if_pos Hx.out]), Below.refl _ _⟩
    · have Hx := hide h1; have Hy := hide h2
      clear h1 h2
      go_wp2_with fail
      go_ret
      exact ⟨ret_int (by rw [HD.out, if_pos Hx.out, Hy.out]), Below.refl _ _⟩
end Go.Proofs.Ytmbhnjpaieimbaa
namespace Go.Proofs.Ytmbhnjpaieimbaa
open Go.RowKit Go.Shelf
def setL (S k : Nat) : List Int := ((List.range k).filter fun j => S.testBit j).map Int.ofNat
theorem setL_succ (S k : Nat) : setL S (k + 1) = setL S k ++ (if S.testBit k then [(k : Int)] else []) := by
  unfold setL
  rw [List.range_succ, List.filter_append, List.map_append]
  congr 1
  cases h : S.testBit k
  · simp [h]
  · simp [h]
theorem setL_len (S : Nat) : ∀ k, (setL S k).length ≤ k
  | 0 => by simp [setL]
  | k + 1 => by
    have := setL_len S k
    rw [setL_succ, List.length_append]
    split <;> simp <;> omega
theorem setL_none {S k : Nat} (h : setL S k = []) : ∀ j, j < k → S.testBit j = false := by
  intro j hj
  unfold setL at h
  rw [List.map_eq_nil_iff, List.filter_eq_nil_iff] at h
  have := h j (List.mem_range.2 hj)
  simpa using this
theorem setL_ne {ns hs : List Int} {ss : List Nat} {r S : Nat} (hh : ∀ x ∈ hs, 0 ≤ x ∧ x ≤ 200000) (hr : r ≤ 8) (h : ¬ needS ns S ≤ thereS hs ss r S (-1)) : setL S ns.length ≠ [] := fun he => by
  have h0 := setL_none he
  have h1 : needS ns S = 0 := sumTo_zero fun j hj => by unfold needF1; rw [h0 j hj]; rfl
  have h2 := thereS_bd hh ss hr S (-1)
  omega
/-- How lists are compared: by length, then number by number. -/
def lenC (l x : List Int) : Int := if cmpI (l.length : Int) (x.length : Int) = 0 then lexC l x else cmpI (l.length : Int) (x.length : Int)
def bestTo (ns hs : List Int) (ss : List Nat) (r : Nat) : Nat → Option (List Int)
  | 0 => none
  | S + 1 => if needS ns S ≤ thereS hs ss r S (-1) then bestTo ns hs ss r S else
      match bestTo ns hs ss r S with
      | none => some (setL S ns.length)
      | some x => if lenC (setL S ns.length) x < 0 then some (setL S ns.length) else some x
def lackF (ns : List Int) (rs : List Rr) : List Int × Int :=
  if rentsOk ns rs then
    match bestTo ns (hsTo rs rs.length) (ssTo rs rs.length) rs.length (2 ^ ns.length) with
    | none => ([], 6)
    | some l => (l, 0)
  else ([], 62)
/-- What the best so far lies as. -/
def BestAt (W : World) (v : Value) (b : Option (List Int)) : Prop :=
  (b = none ∧ v = .slice none 0 0) ∨ ∃ a n c l, b = some l ∧ v = .slice (some a) n c ∧ n = l.length ∧ n ≤ 8 ∧ Rd W W.heap.size icell (some a) l
theorem BestAt.bel {W W' : World} {v : Value} {b : Option (List Int)} (h : BestAt W v b) (hb : Below W.heap.size W W') : BestAt W' v b := by
  rcases h with h | ⟨a, n, c, l, h1, h2, h3, h4, h5⟩
  · exact .inl h
  · exact .inr ⟨a, n, c, l, h1, h2, h3, h4, h5.bel hb⟩
set_option maxHeartbeats 4000000 in
set_option maxRecDepth 100000 in
theorem lackR_any (A1 A2 : Option Addr) (m c1 r c2 : Nat) (ns : List Int) (rs : List Rr) (w : World) (hN : Rd w w.heap.size icell A1 ns) (hm : m = ns.length) (hm2 : m ≤ 9223372036854775807) (hR : RsAt w A2 r rs) (hr2 : r ≤ 9223372036854775807) :
    Calls Try.prog 31 #[.slice A1 m c1, .slice A2 r c2] w fun e w' => ∃ A n c, e = .returned (.tuple #[.slice A n c, .int .i64 (lackF ns rs).2]) ∧ n = (lackF ns rs).1.length ∧ n ≤ 8 ∧ Rd w' w'.heap.size icell A (lackF ns rs).1 ∧ Below w.heap.size w w' := by
  have Hm := hide hm; have Her := hide hR.en
  have Op := hide (open_any A1 A2 m c1 r c2 ns rs w hN hm hm2 hR hr2)
  clear hN hm hR
  go_enter Try.func31, Try.ntmps31
  go_wp2_with fail
  refine Op.out.mono ?_
  rintro e w1 ⟨B, hl, sl, rfl, hok, hb1⟩
  obtain ⟨b7, w2, e7, ew2, hx7, hb2, hz2⟩ := mk_bx w1 #[.slice none 0 0, .int .i64 0, .int .i64 0, .int .i64 0, .int .i64 0, .int .i64 0, .int .i64 0, .int .i64 0, .int .i64 0, .int .i64 0, .int .i64 0, .int .i64 0, .int .i64 0, .int .i64 0, .int .i64 0, .int .i64 0, .int .i64 0, .slice none 0 0] 130
  have L := hide (show B.hs.length = 8 ∧ B.ss.length = 8 from ⟨hl, sl⟩)
  have th := bx_range hx7 (vs := B.cells) (by rw [Brs.len18 L.out]; rfl)
  have th2 : w2.there b7 0 B.cells.toArray.size := by rw [List.size_toArray]; exact th
  have hbg : w1.heap.size ≤ b7 := by have := e7.out; omega
  have hB2 := below_setCells (p := b7) hbg B.cells 0 w2 hb2
  have hB2w := below_setCells (p := b7) (Nat.le_trans hb1.size hbg) B.cells 0 w2 (hb1.trans (hb2.mono hb1.size))
  have Th2 := hide th2; have HB2 := hide hB2; have HB2w := hide hB2w; have X7z := hide hx7; have Hok := hide hok; have Hb1 := hide hb1
  clear th th2 hB2 hB2w hx7 hok hl sl hb1 hb2
  obtain ⟨ok, hok2⟩ : ∃ ok, ok = rentsOk ns rs := ⟨_, rfl⟩
  rw [← hok2]
  have Hok2 := hide hok2
  clear hok2
  go_upto_region 2 with (rw [ew2.out, e7.out]; refine wpList_store_mid rfl 130 _ _ rfl b7 0 B.cells.toArray rfl rfl Th2.out (bo_sizeA L.out) (all_oneCell_toArray B.one) ?_)
  have X7a := bx_setCells X7z.out (vs := B.cells) (by rw [Brs.len18 L.out]; rfl)
  obtain ⟨w3, hw3⟩ : ∃ w3, Hid (w2.setCells b7 0 B.cells = w3) := ⟨_, hide rfl⟩
  have hB3 := HB2.out; have hB3w := HB2w.out
  rw [hw3.out] at X7a hB3 hB3w ⊢
  have HB3 := hide hB3; have HB3w := hide hB3w; have X7 := hide X7a
  clear hB3 hB3w X7a Th2 HB2 HB2w X7z ew2
  cases ok
  · have hp : Hid (lackF ns rs = ([], 62)) := hide (by unfold lackF; rw [← Hok2.out]; rfl)
    go_wp2_with fail
    go_ret2
    exact ⟨none, 0, 0, by rw [hp.out]; rfl, by rw [hp.out]; rfl, by omega, by rw [hp.out]; exact Rd.nil _ _ _ _, HB3w.out⟩
  obtain ⟨hBt, hhs, hss, hBm, hBr⟩ := Hok.out Hok2.out.symm
  have HBt := hide (hBt.bel HB3.out)
  have hm8 : m ≤ 8 := by have := HBt.out.m8.1; rw [hBm] at this; exact this
  obtain ⟨P, hP2⟩ : ∃ P, P = 2 ^ m := ⟨_, rfl⟩
  have hpw := two_pow8 hm8
  rw [← hP2] at hpw
  have hp64 : wrap64 (2 ^ m) = (P : Int) := by
    have e : ((2 : Int) ^ m) = (P : Int) := by rw [hP2]; simp
    rw [e]; unfold wrap64; omega
  have hLF : Hid (lackF ns rs = match bestTo ns B.hs B.ss B.r P with | none => ([], 6) | some l => (l, 0)) := hide (by unfold lackF; rw [← Hok2.out, if_pos rfl, hhs, hss, hP2, Hm.out, hBr, Her.out])
  have Hbm := hide hBm
  clear hBt hhs hss hBm hBr Hok hP2
  go_wp2_with fail
  rw [hp64]
  clear hp64
  go_loopw [8, 23] (fun v iv wr => ∃ (S : Nat) (pv : Value), pv = v ∧ S ≤ P ∧ iv = .int .i64 S ∧ Hid (BestAt wr pv (bestTo ns B.hs B.ss B.r S)) ∧ Below w3.heap.size w3 wr) (fun _ iv _ => P - (intOf iv).toNat)
  case atStart => exact ⟨0, _, rfl, by omega, rfl, hide (.inl ⟨rfl, rfl⟩), Below.refl _ _⟩
  case round =>
    obtain ⟨S, pv, rfl, hSP, rfl, HBest, hb⟩ := hrel
    have XR := hide (X7.out.bel hb); have HBr := hide (HBt.out.bel hb)
    have HB := hide hb
    by_cases hlt : S < P
    · have hS : S < 256 := by omega
      have iS : (S : Int) < (P : Int) := by omega
      clear hb
      go_wp2_with fail
      refine wp_region_held_drew (S := (fun W => Below wr.heap.size wr W)) (by kernel_rfl) (by (try dsimp only); exact (Below.refl _ _).drew) (fun hHeld => ?_)
      generalize World.drew wr = Wd8 at hHeld ⊢
      have hbc := Below.refl Wd8.heap.size Wd8
      refine wpAnyH_take (i := 0) (oi := ⟨_, _, _, _, _, _⟩) (v := ?_) rfl (by kernel_rfl) (by kernel_rfl) (by kernel_rfl) (fun _ _ _ h => h) (Or.inl ⟨by rfl, ?_⟩) hHeld ?_
      rotate_left
      · (intro w hSw; (try dsimp only at hSw); refine take_load (x := .tmp 6) HBr.out (XR.out.bel hSw).at_ ?_ ?_ <;> rfl)
      try simp only [Act.put, List.setIfInBounds_toArray, List.set_cons_zero, List.set_cons_succ]
      refine wpAnyH_take (i := 1) (oi := ⟨_, _, _, _, _, _⟩) (v := ?_) rfl (by kernel_rfl) (by kernel_rfl) (by kernel_rfl) (fun _ _ _ h => h) (Or.inl ⟨by rfl, ?_⟩) hHeld ?_
      rotate_left
      · (intro w hSw; (try dsimp only at hSw); go_simp; try (with_reducible rfl))
      try simp only [Act.put, List.setIfInBounds_toArray, List.set_cons_zero, List.set_cons_succ]
      refine wpAnyH_take (i := 3) (oi := ⟨_, _, _, _, _, _⟩) (v := ?_) rfl (by kernel_rfl) (by kernel_rfl) (by kernel_rfl) (fun _ _ _ h => h) (Or.inl ⟨by rfl, ?_⟩) hHeld ?_
      rotate_left
      · (intro w hSw; (try dsimp only at hSw); refine take_load (x := .tmp 6) HBr.out (XR.out.bel hSw).at_ ?_ ?_ <;> rfl)
      try simp only [Act.put, List.setIfInBounds_toArray, List.set_cons_zero, List.set_cons_succ]
      refine wpAnyH_take (i := 4) (oi := ⟨_, _, _, _, _, _⟩) (v := ?_) rfl (by kernel_rfl) (by kernel_rfl) (by kernel_rfl) (fun _ _ _ h => h) (Or.inl ⟨by rfl, ?_⟩) hHeld ?_
      rotate_left
      · (intro w hSw; (try dsimp only at hSw); go_simp; try (with_reducible rfl))
      try simp only [Act.put, List.setIfInBounds_toArray, List.set_cons_zero, List.set_cons_succ]
      refine wpAnyH_ready (rs := [2]) (by kernel_rfl) (by simp) ?_
      refine AllReadyH.cons (o := ⟨_, _, _, _, _, _⟩) rfl (fun K hK => ?_) AllReadyH.nil
      go_simp
      refine (needed_any B ns (rs.map Rr.pr) S _ (HBr.out.bel hHeld) hS).mono ?_
      rintro e V28 ⟨rfl, hb⟩
      go_wp2_with fail
      have hHeldN := hHeld.trans (hb.mono hHeld.size)
      have hbc := hbc.trans (hb.mono hbc.size)
      refine hK.out _ _ ?_ (fun hHeld2 => ?_)
      · exact hHeldN
      clear hK K hHeld hHeldN hb; have hHeld := hHeld2; clear hHeld2
      try simp only [Act.put, List.setIfInBounds_toArray, List.set_cons_zero, List.set_cons_succ]
      refine wpAnyH_ready (rs := [5]) (by kernel_rfl) (by simp) ?_
      refine AllReadyH.cons (o := ⟨_, _, _, _, _, _⟩) rfl (fun K hK => ?_) AllReadyH.nil
      go_simp
      refine (there_any B ns (rs.map Rr.pr) S (-1) _ (HBr.out.bel hHeld) hS).mono ?_
      rintro e V31 ⟨rfl, hb⟩
      go_wp2_with fail
      have hHeldN := hHeld.trans (hb.mono hHeld.size)
      have hbc := hbc.trans (hb.mono hbc.size)
      refine hK.out _ _ ?_ (fun hHeld2 => ?_)
      · exact hHeldN
      clear hK K hHeld hHeldN hb; have hHeld := hHeld2; clear hHeld2
      try simp only [Act.put, List.setIfInBounds_toArray, List.set_cons_zero, List.set_cons_succ]
      refine wpAnyH_take (i := 6) (oi := ⟨_, _, _, _, _, _⟩) (v := ?_) rfl (by kernel_rfl) (by kernel_rfl) (by kernel_rfl) (fun _ _ _ h => h) (Or.inl ⟨by rfl, ?_⟩) hHeld ?_
      rotate_left
      · (intro w hSw; (try dsimp only at hSw); go_simp; try (with_reducible rfl))
      try simp only [Act.put, List.setIfInBounds_toArray, List.set_cons_zero, List.set_cons_succ]
      refine wpAnyH_done (by kernel_rfl) ?_ _
      have hB31 := hide (HB.out.trans (hHeld.mono HB.out.size))
      have HBest1 := hide (HBest.out.bel hHeld)
      obtain ⟨w4, rfl⟩ : ∃ w4, w4 = V31 := ⟨V31, rfl⟩
      clear hHeld hbc
      by_cases hle : needS ns S ≤ thereS B.hs B.ss B.r S (-1)
      · have Hn : Hid (bestTo ns B.hs B.ss B.r (S + 1) = bestTo ns B.hs B.ss B.r S) := hide (by rw [bestTo, if_pos hle])
        go_wp2_with fail
        exact ⟨⟨S + 1, pv, rfl, by omega, by go_num, by rw [Hn.out]; exact HBest1, hB31.out⟩, by simp [intOf]; omega⟩
      · have Hn : Hid (bestTo ns B.hs B.ss B.r (S + 1) = match bestTo ns B.hs B.ss B.r S with | none => some (setL S ns.length) | some x => if lenC (setL S ns.length) x < 0 then some (setL S ns.length) else some x) := hide (by rw [bestTo, if_neg hle])
        have Hne := hide (setL_ne HBt.out.ok.h (show B.r ≤ 8 from HBt.out.m8.2) hle)
        go_wp2_with fail
        clear hle
        go_loopw [10, 35] (fun lv kv wr => ∃ (k : Nat) (pl : Value), pl = lv ∧ k ≤ m ∧ kv = .int .i64 k ∧ Hid (Own wr w4.heap.size 3 1 icell pl (setL S k)) ∧ Below w4.heap.size w4 wr) (fun _ kv _ => m - (intOf kv).toNat)
        case atStart => exact ⟨0, _, rfl, by omega, rfl, hide (Own.nil _ _ _ _ _), Below.refl _ _⟩
        case round =>
          obtain ⟨k, pl, rfl, hk, rfl, HO, hb⟩ := hrel
          by_cases hltk : k < m
          · have ht := shr_test S k (by omega)
            have ik : (k : Int) < (m : Int) := by omega
            cases hts : S.testBit k
            · rw [hts] at ht
              have Hs : Hid (setL S (k + 1) = setL S k) := hide (by rw [setL_succ, hts]; simp)
              clear hts
              go_wp2_with fail
              exact ⟨⟨k + 1, pl, rfl, by omega, by go_num, by rw [Hs.out]; exact HO, hb⟩, by simp [intOf]; omega⟩
            · rw [hts] at ht
              have Hs : Hid (setL S (k + 1) = setL S k ++ [(k : Int)]) := hide (by rw [setL_succ, hts]; simp)
              have Hb := hide hb
              have hsz := hb.size
              have hlen : (setL S k).length + 1 ≤ 1000000 := by have := setL_len S k; omega
              clear hts hb
              go_wp2_with (at_builtin; refine wpList_app1 (v := pl) (xs := setL S k) (base := w4.heap.size) (k := 1) (bytes := 8) (E := 3) el_int rfl (.tmp 43) (.tmp 45) rfl rfl rfl HO.out (k : Int) rfl hlen hsz ?_; intro v' w10 o10 k10; have O10 := hide o10; have K10 := hide k10; clear o10 k10)
              exact ⟨⟨k + 1, v', rfl, by omega, by go_num, by rw [Hs.out]; exact O10, below_keptB Hb.out K10.out (Nat.le_refl _) Hb.out.size⟩, by simp [intOf]; omega⟩
          · obtain rfl : m = k := by omega
            obtain ⟨w5, rfl⟩ : ∃ w5, w5 = wr := ⟨wr, rfl⟩
            obtain ⟨l, hl⟩ : ∃ l, l = setL S m := ⟨_, rfl⟩
            have HO2 := HO.out
            rw [← hl] at HO2
            have hl8 : l.length ≤ 8 := by rw [hl]; have := setL_len S m; omega
            obtain ⟨n, hn⟩ : ∃ n, n = l.length := ⟨_, rfl⟩
            rw [← hn] at hl8
            obtain ⟨Al, cl, rfl, rl⟩ := HO2.rdn n hn.symm
            have hpos : 0 < l.length := by
              have h1 := Hne.out
              rw [← Hm.out, ← hl] at h1
              exact List.length_pos_iff.2 h1
            obtain ⟨ba, oa, hAl, _, _⟩ := rl hpos
            subst hAl
            have Hln := hide hn
            rw [← Hm.out, ← hl] at Hn
            have Hrl := hide rl
            have HB5 := hide (hB31.out.trans (hb.mono hB31.out.size))
            have HBest5 := hide (HBest1.out.bel hb)
            clear hl hn rl hb HO2
            rcases HBest5.out with ⟨hbn, rfl⟩ | ⟨a, nx, cx, x, hbn, rfl, hxl, hx8, hrx⟩
            · have h1 := eql_ints_none 0 0 w5
              have G : Hid (BestAt w5 (.slice (some ⟨ba, oa, none⟩) n cl) (bestTo ns B.hs B.ss B.r (S + 1))) := by
                rw [Hn.out, hbn]
                exact hide (.inr ⟨_, n, cl, l, rfl, rfl, Hln.out, hl8, Hrl.out⟩)
              clear hbn
              go_wp2_with fail
              exact ⟨⟨S + 1, _, rfl, by omega, by go_num, G, HB5.out⟩, by simp [intOf]; omega⟩
            · have h1 := eql_ints_some a nx cx w5
              rw [hbn] at Hn
              have Hxl := hide hxl; have Hrx := hide hrx
              clear hbn hxl hrx
              go_wp2_with fail
              refine (cmp_any (n : Int) (nx : Int) _).mono ?_
              rintro e w6 ⟨rfl, rfl⟩
              obtain ⟨X, hX⟩ : ∃ X, X = cmpI (n : Int) (nx : Int) := ⟨_, rfl⟩
              obtain ⟨Y, hY⟩ : ∃ Y, Y = lexC l x := ⟨_, rfl⟩
              have HD : Hid (lenC l x = if X = 0 then Y else X) := by unfold lenC; rw [← Hln.out, ← Hxl.out, ← hX, ← hY]; exact hide rfl
              rw [← hX]
              clear hX
              go_wp2_with fail
              refine (compare_any (some ⟨ba, oa, none⟩) (some a) n cl nx cx l x w6 Hrl.out Hrx.out Hln.out Hxl.out (by omega) (by omega)).mono ?_
              rintro e w7 ⟨rfl, hb7⟩
              rw [← hY]
              clear hY
              obtain ⟨br, w8, er, ewr, hxr, hb8, hz8⟩ := mk_bx w7 #[.int .i64 X, .int .i64 Y] 3
              have hb68 := hb7.trans (hb8.mono hb7.size)
              go_wp2_with fail
              rw [ewr.out, er.out]
              refine (or_any br X Y w8 hxr.at_).mono ?_
              rintro e w9 ⟨rfl, hb9⟩
              have hb69 := hb68.trans (hb9.mono hb68.size)
              obtain ⟨D, hD⟩ : ∃ D, D = if X = 0 then Y else X := ⟨_, rfl⟩
              rw [← hD] at HD ⊢
              clear hD
              have Hb69 := hide hb69
              clear hb7 hb8 hb9 hb68 hb69 hxr hz8
              by_cases hD0 : D < 0
              · have G : Hid (BestAt w9 (.slice (some ⟨ba, oa, none⟩) n cl) (bestTo ns B.hs B.ss B.r (S + 1))) := by
                  rw [Hn.out, HD.out, if_pos hD0]
                  exact hide (.inr ⟨_, n, cl, l, rfl, rfl, Hln.out, hl8, Hrl.out.bel Hb69.out⟩)
                go_wp2_with fail
                exact ⟨⟨S + 1, _, rfl, by omega, by go_num, G, HB5.out.trans (Hb69.out.mono HB5.out.size)⟩, by simp [intOf]; omega⟩
              · have G : Hid (BestAt w9 (.slice (some a) nx cx) (bestTo ns B.hs B.ss B.r (S + 1))) := by
                  rw [Hn.out, HD.out, if_neg hD0]
                  exact hide (.inr ⟨_, nx, cx, x, rfl, rfl, Hxl.out, hx8, Hrx.out.bel Hb69.out⟩)
                go_wp2_with fail
                exact ⟨⟨S + 1, _, rfl, by omega, by go_num, G, HB5.out.trans (Hb69.out.mono HB5.out.size)⟩, by simp [intOf]; omega⟩
    · obtain rfl : P = S := by omega
      have hw := hide (HB3w.out.trans (hb.mono HB3w.out.size))
      rcases HBest.out with ⟨hn, rfl⟩ | ⟨a, n, c, l, hn, rfl, hl, hl8, hr⟩
      · have hp : Hid (lackF ns rs = ([], 6)) := hide (by rw [hLF.out, hn])
        have h1 := eql_ints_none 0 0 wr
        clear hn
        go_wp2_with fail
        go_ret2
        exact ⟨none, 0, 0, by rw [hp.out]; rfl, by rw [hp.out]; rfl, by omega, by rw [hp.out]; exact Rd.nil _ _ _ _, hw.out⟩
      · have hp : Hid (lackF ns rs = (l, 0)) := hide (by rw [hLF.out, hn])
        have h1 := eql_ints_some a n c wr
        have Hl := hide hl; have Hr := hide hr
        clear hn hl hr
        go_wp2_with fail
        go_ret2
        exact ⟨some a, n, c, by rw [hp.out]; rfl, by rw [hp.out]; exact Hl.out, hl8, by rw [hp.out]; exact Hr.out, hw.out⟩
end Go.Proofs.Ytmbhnjpaieimbaa
