/- ChannelWaters: what fields get and what is lost, and the minutes that a field needs, are the specification's; net and uses stay. The law returns true for every net, flow, uses, field and wish. No conditions. -/
import Derived.Test.YtgklcilpohkpkaaWR4
import Derived.Test.YtgklcilpohkpkaaR8
import Derived.Test.YtgklcilpohkpkaaOpenC
import Derived.Carry
namespace Go.Proofs.Ytgklcilpohkpkaa
open Go.RowKit Go.Shelf Go.WideShapes Go.ChangeShapes Go.ChangeAt
attribute [local go_sem ↓] Go.wp_at_zero Go.wp_at_succ

set_option maxHeartbeats 2000000 in
/-- aflaj/aflajref01.SameSpans: whether two lists are one. -/
theorem same_Sp (A B : Option Addr) (xs ys : List Sp) (n c m d : Nat) (w : World) (hn : n = xs.length) (hm : m = ys.length) (hn' : n ≤ 9223372036854775807) (hm' : m ≤ 9223372036854775807)
    (hx : Rd w w.heap.size Sp.cells A xs) (hy : Rd w w.heap.size Sp.cells B ys) :
    Calls Try.prog 33 #[.slice A n c, .slice B m d] w fun e w' => e = .returned (.bool (decide (xs = ys))) ∧ Below w.heap.size w w' := by
  have Hn := hide hn; have Hm := hide hm; have Hx := hide hx; have Hy := hide hy
  clear hn hm hx hy
  by_cases hnm : n = m
  · subst hnm
    go_enter Try.func33, Try.ntmps33
    go_wp2_with fail
    go_loopw [4, 5] (fun v i wr => ∃ k : Nat, k ≤ n ∧ i = .int .i64 k ∧ Below w.heap.size w wr ∧ Hid (xs.take k = ys.take k)) (fun _ i _ => n - (intOf i).toNat)
    case atStart => exact ⟨0, by omega, rfl, Below.refl _ _, hide (by simp)⟩
    case round =>
      obtain ⟨k, hk, rfl, hb, hpre⟩ := hrel
      by_cases hlt : k < n
      · obtain ⟨b, off, lox, hix, rfl, hB, hxk, hcx0, hcx1⟩ := (Hx.out.below hb).sp (i := k) (by have := Hn.out; omega)
        have Hxk := hide hxk; clear hxk
        obtain ⟨b', off', loy, hiy, rfl, hB', hyk, hcy0, hcy1⟩ := (Hy.out.below hb).sp (i := k) (by have := Hm.out; omega)
        have Hyk := hide hyk; clear hyk
        by_cases e0 : lox = loy
        · subst e0
          by_cases e1 : hix = hiy
          · subst e1
            go_wp2_with fail
            go_quiet (fail)
            go_wp2_with fail
            exact ⟨⟨k + 1, by omega, by go_num, below_drewN hb _, hide (eqL_snoc Hxk.out Hyk.out rfl hpre.out)⟩, by simp [intOf]; omega⟩
          · have h1 : (hix == hiy) = false := by simpa using e1
            have h2 : (hix != hiy) = true := by simpa using e1
            have H0 := hide e1; clear e1
            go_wp2_with fail
            go_quiet (fail)
            go_wp2_with fail
            go_ret
            exact ⟨ret_bool (by have := eqL_stop Hxk.out Hyk.out (by have := H0.out; simp [this]); simp [this]), below_drewN hb _⟩
        · have h1 : (lox == loy) = false := by simpa using e0
          have h2 : (lox != loy) = true := by simpa using e0
          have H0 := hide e0; clear e0
          go_wp2_with fail
          go_quiet (fail)
          go_wp2_with fail
          go_ret
          exact ⟨ret_bool (by have := eqL_stop Hxk.out Hyk.out (by have := H0.out; simp [this]); simp [this]), below_drewN hb _⟩
      · go_wp2_with fail
        go_ret
        refine ⟨ret_bool ?_, hb⟩
        have h1 := hpre.out
        rw [List.take_of_length_le (by have := Hn.out; omega), List.take_of_length_le (by have := Hm.out; omega)] at h1
        simp [h1]
  · have h1 : ((n : Int) == (m : Int)) = false := by simp; omega
    have h2 : ((n : Int) != (m : Int)) = true := by simp; omega
    have Hnm := hide hnm; clear hnm
    go_enter Try.func33, Try.ntmps33
    go_wp2_with fail
    go_ret
    refine ⟨ret_bool ?_, Below.refl _ _⟩
    have h3 : xs ≠ ys := by
      rintro rfl
      exact Hnm.out (Hn.out.trans Hm.out.symm)
    simp [h3]

theorem sSpans (A B : Option Addr) (xs : List Sp) (c d : Nat) (w : World) (hl : xs.length ≤ 1000) (hx : Rd w w.heap.size Sp.cells A xs) (hy : Rd w w.heap.size Sp.cells B xs) :
    Calls Try.prog 33 #[.slice A xs.length c, .slice B xs.length d] w fun e w' => e = .returned (.bool true) ∧ Below w.heap.size w w' :=
  (same_Sp A B xs xs _ c _ d w rfl rfl (by omega) (by omega) hx hy).mono fun e w' h => ⟨by simpa using h.1, h.2⟩
theorem sUses (A B : Option Addr) (us : List Us) (c d : Nat) (w : World) (hl : us.length ≤ 1000) (hx : Rd w w.heap.size Us.cells A us) (hy : Rd w w.heap.size Us.cells B us) :
    Calls Try.prog 28 #[.slice A us.length c, .slice B us.length d] w fun e w' => e = .returned (.bool true) ∧ Below w.heap.size w w' :=
  (same_Us A B us us _ c _ d w rfl rfl (by omega) (by omega) hx hy).mono fun e w' h => ⟨by simpa using h.1, h.2⟩
theorem watersS_len (cs : List Ca) (fs : List Int) (dry days a b : Int) (us : List Us) : (watersS cs fs dry days a b us).1.1.length ≤ 1000 ∧ (watersS cs fs dry days a b us).1.2.length ≤ 1000 := by
  unfold watersS
  split
  · rename_i hok
    split
    · rename_i hsp
      split
      · rename_i huo
        have h := watersK_bd hok huo hsp us.length (Nat.le_refl _)
        have h1 := netOk_parts hok
        simp only [h.2.2.1, h.2.2.2]
        omega
      · simp
    · simp
  · simp
theorem downF_mono {v v' fill thr : Int} (h : v ≤ v') (t0 : 0 ≤ thr) : downF v fill thr ≤ downF v' fill thr := by
  unfold downF
  exact Int.ediv_le_ediv (by omega) (Int.mul_le_mul_of_nonneg_right (by omega) t0)
theorem getK_mono {cs : List Ca} {fs : List Int} {dry days : Int} (hok : netOk cs fs dry days = true) : ∀ (p : List Int) {v v' : Int}, v ≤ v' → getK cs p v ≤ getK cs p v'
  | [], _, _, h => h
  | c :: p, v, v', h => getK_mono hok p (downF_mono h (wkT_wf hok c).2.2.1.1)
theorem leastB_one {p : Int → Bool} {cyc r e r' e' : Int} (hm : ∀ x y, 0 ≤ x → x ≤ y → p x = true → p y = true) (h : leastB p cyc r e) (h' : leastB p cyc r' e') : r = r' ∧ e = e' := by
  rcases h with ⟨he, hr, hp⟩ | ⟨he, h0, h1, hp, hl⟩ <;> rcases h' with ⟨he', hr', hp'⟩ | ⟨he', h0', h1', hp', hl'⟩
  · omega
  · have := hm r' cyc h0' h1' hp'; rw [hp] at this; cases this
  · have := hm r cyc h0 h1 hp; rw [hp'] at this; cases this
  · refine ⟨?_, by omega⟩
    by_cases hlt : r < r'
    · rcases hl' with h2 | h2
      · omega
      · have := hm r (r' - 1) h0 (by omega) hp; rw [h2] at this; cases this
    · by_cases hgt : r' < r
      · rcases hl with h2 | h2
        · omega
        · have := hm r' (r - 1) h0' (by omega) hp'; rw [h2] at this; cases this
      · omega
theorem minutesP_one {cs : List Ca} {fs : List Int} {dry days a b k want r e r' e' : Int} (h : minutesP cs fs dry days a b k want r e) (h' : minutesP cs fs dry days a b k want r' e') : r = r' ∧ e = e' := by
  unfold minutesP at h h'
  split at h
  · rename_i hok
    rw [if_pos hok] at h'
    split at h
    · rename_i hsp
      rw [if_pos hsp] at h'
      split at h
      · rename_i hin
        rw [if_pos hin] at h'
        have ha : 0 ≤ a := by simp only [Sp.ok, Bool.and_eq_true, decide_eq_true_eq] at hsp; omega
        refine leastB_one (fun x y hx hxy hp => ?_) h h'
        have hp2 : want ≤ getK cs (pathK cs fs k) (a * x) := by simpa [enoughB] using hp
        have := getK_mono hok (pathK cs fs k) (Int.mul_le_mul_of_nonneg_left hxy ha)
        simp [enoughB]
        omega
      · rename_i hin
        rw [if_neg hin] at h'
        omega
    · rename_i hsp
      rw [if_neg hsp] at h'
      omega
  · rename_i hok
    rw [if_neg hok] at h'
    omega
/-- What the law's walk holds on to. -/
structure WCtx (w0 : World) (p4 p9 : Nat) (Ac Af Bc Bf Au Bu : Option Addr) (nc cc nf cf dc df : Nat) (dry days a b : Int) (cs : List Ca) (fs : List Int) (us : List Us) (W : World) : Prop where
  n1 : NetAt W Ac Af nc nf cs fs
  n2 : NetAt W Bc Bf nc nf cs fs
  b4 : At W p4 [.slice Ac nc cc, .slice Af nf cf, .int .i64 dry, .int .i64 days]
  bf : At W (p4 + 1) [.int .i64 a, .int .i64 b]
  b9 : At W p9 [.slice Bc nc dc, .slice Bf nf df, .int .i64 dry, .int .i64 days]
  u1 : Rd W W.heap.size Us.cells Au us
  u2 : Rd W W.heap.size Us.cells Bu us
  bl : Below w0.heap.size w0 W
theorem WCtx.below {w0 : World} {p4 p9 : Nat} {Ac Af Bc Bf Au Bu : Option Addr} {nc cc nf cf dc df : Nat} {dry days a b : Int} {cs : List Ca} {fs : List Int} {us : List Us} {W W' : World} (h : WCtx w0 p4 p9 Ac Af Bc Bf Au Bu nc cc nf cf dc df dry days a b cs fs us W) (hb : Below W.heap.size W W') :
    WCtx w0 p4 p9 Ac Af Bc Bf Au Bu nc cc nf cf dc df dry days a b cs fs us W' :=
  ⟨h.n1.below hb, h.n2.below hb, h.b4.below hb, h.bf.below hb, h.b9.below hb, (h.u1.below hb).more hb.size, (h.u2.below hb).more hb.size, h.bl.trans (hb.mono h.bl.size)⟩
set_option maxHeartbeats 4000000 in
set_option maxRecDepth 100000 in
theorem waters_walk (Ac Af Au : Option Addr) (nc cc nf cf nu cu : Nat) (dry days a b k want : Int) (cs : List Ca) (fs : List Int) (us : List Us) (w : World) (hnc : nc = cs.length) (hnf : nf = fs.length) (hnu : nu = us.length)
    (hcs : Rd w w.heap.size Ca.cells Ac cs) (hfs : Rd w w.heap.size icell Af fs) (hus : Rd w w.heap.size Us.cells Au us) :
    Calls Try.prog 4 #[.agg #[.slice Ac nc cc, .slice Af nf cf, .int .i64 dry, .int .i64 days], .agg #[.int .i64 a, .int .i64 b], .slice Au nu cu, .int .i64 k, .int .i64 want] w fun e w' => e = .returned (.bool true) ∧ Below w.heap.size w w' := by
  obtain ⟨w1, Hw1⟩ : ∃ w1, Hid ((w.alloc (.cells #[.slice Ac nc cc, .slice Af nf cf, .int .i64 dry, .int .i64 days] 25)).alloc (.cells #[.int .i64 a, .int .i64 b] 51) = w1) := ⟨_, hide rfl⟩
  have hat1 : At w1 w.heap.size [.slice Ac nc cc, .slice Af nf cf, .int .i64 dry, .int .i64 days] := by rw [← Hw1.out]; exact (At.new w #[.slice Ac nc cc, .slice Af nf cf, .int .i64 dry, .int .i64 days] _ _ rfl _ rfl).alloc _
  have hsp1 : At w1 (w.heap.size + 1) [.int .i64 a, .int .i64 b] := by rw [← Hw1.out]; exact At.new _ #[.int .i64 a, .int .i64 b] _ _ (by simp) _ rfl
  have hB1 : Below w.heap.size w w1 := by rw [← Hw1.out]; exact (below_new _ _).alloc (by simp) _
  have G1 := hide (rGreat_any Ac Af Au nc cc nf cf nu cu dry days cs fs w1 hnc hnf)
  have q1 := hat1.c4
  rw [← Hw1.out] at q1
  obtain ⟨q0, q1, q2, q3⟩ := q1
  cases hg : great cs fs nu
  case true =>
    have Hg := hide hg
    clear hg hnc hnf hnu hcs hfs hus
    go_enter Try.func4, Try.ntmps4
    go_wp2_with fail
    rw [Hw1.out]
    refine G1.out.mono ?_
    rintro e w2 ⟨rfl, hb2⟩
    rw [Hg.out]
    go_wp2
    go_ret
    exact ⟨rfl, hB1.trans (hb2.mono hB1.size)⟩
  have hl : cs.length ≤ 24 ∧ fs.length ≤ 18 ∧ nu ≤ 80 := by simp [great] at hg; omega
  have hus80 : us.length ≤ 1000 := by omega
  have hnet : NetAt w1 Ac Af nc nf cs fs := ⟨(hcs.below hB1).more hB1.size, (hfs.below hB1).more hB1.size, hnc, hnf, by omega, by omega⟩
  have hu1 := (hus.below hB1).more hB1.size
  have Hg := hide hg; have Hnet := hide hnet; have Hu1 := hide hu1
  have hn80 : nu ≤ 80 := hl.2.2
  subst hnu
  clear hg hnc hnf hcs hfs hus hnet hu1 hl
  go_enter Try.func4, Try.ntmps4
  go_wp2_with fail
  rw [Hw1.out]
  refine G1.out.mono ?_
  rintro e w2 ⟨rfl, hb2⟩
  rw [Hg.out]
  have hat2 := hat1.below hb2
  have hsp2 := hsp1.below hb2
  have hB2 := hB1.trans (hb2.mono hB1.size)
  have Hnet2 := hide (Hnet.out.below hb2)
  have Hu2 := hide ((Hu1.out.below hb2).more hb2.size)
  clear q0 q1 q2 q3
  obtain ⟨q0, q1, q2, q3⟩ := hat2.c4
  go_wp2_with fail
  refine (twin_any Ac Af nc cc nf cf dry days cs fs w2 Hnet2.out).mono ?_
  rintro e w3 ⟨Bc, dc, Bf, df, rfl, hnet3, hb3⟩
  have hat3 := hat2.below hb3
  have hsp3 := hsp2.below hb3
  have hB3 := hB2.trans (hb3.mono hB2.size)
  have Hn3 := hide (Hnet2.out.below hb3)
  have Hm3 := hide hnet3
  have Hu3 := hide ((Hu2.out.below hb3).more hb3.size)
  have hl0 := hide (lit0 (cells := Us.cells) w3 74 3 w3.heap.size (fun _ => rfl) (Nat.le_refl _))
  have hbl := below_new w3 (.cells #[] 74)
  have Hr0 := hide (Hu3.out.below hbl)
  have hz3 : (w3.alloc (.cells #[] 74)).heap.size = w3.heap.size + 1 := by simp
  clear q0 q1 q2 q3 hnet3 hb2 hb3 hat1 hat2 hsp1 hsp2 hB1 hB2 G1 Hnet Hnet2 Hu1 Hu2
  go_upto_region 4 with (at_builtin; refine wpList_app (v := .slice (some ⟨w3.heap.size, 0, none⟩) 0 0) (xs := []) (ys := us) (n := us.length) el_us rfl (.tmp 28) (.tmp 29) rfl rfl hl0.out rfl rfl Hr0.out (by simp; omega) (by rw [hz3]; omega) ?_; intro vv wv hown1 hg1 hat1'; have Hown1 := hide hown1; have Hkv := hide (kept_app2 (W := w3.alloc (.cells #[] 74)) hl0.out (Below.refl _ _) hg1); obtain ⟨Bu, du, rfl, hrd1⟩ := hown1.rd; have Hbu := hide hrd1; clear hown1 hg1 hat1' hrd1)
  have hkv : Kept (fun b => b < w3.heap.size) w3 wv := (Kept.all (fun _ => True) hbl).mono (fun _ _ _ => trivial) |>.trans (Hkv.out.mono fun b _ hb e => by simp [Value.ownBlock] at e; omega)
  have hb3v : Below w3.heap.size w3 wv := hkv.below (fun b h => h) (Nat.le_refl _)
  obtain ⟨w4, Hw4⟩ : ∃ w4, Hid (wv.alloc (.cells #[.slice Bc nc dc, .slice Bf nf df, .int .i64 dry, .int .i64 days] 25) = w4) := ⟨_, hide rfl⟩
  have hb4 : Below wv.heap.size wv w4 := by rw [← Hw4.out]; exact below_new _ _
  have hb34 := hb3v.trans (hb4.mono hb3v.size)
  have hat9 : At w4 wv.heap.size [.slice Bc nc dc, .slice Bf nf df, .int .i64 dry, .int .i64 days] := by rw [← Hw4.out]; exact At.new _ _ _ _ rfl _ rfl
  have C4 := hide (show WCtx w w.heap.size wv.heap.size Ac Af Bc Bf Au Bu nc cc nf cf dc df dry days a b cs fs us w4 from
    ⟨Hn3.out.below hb34, Hm3.out.below hb34, hat3.below hb34, hsp3.below hb34, hat9, (Hu3.out.below hb34).more hb34.size, (Hbu.out.below hb4).more hb4.size, hB3.trans (hb34.mono hB3.size)⟩)
  rw [Hw4.out]
  obtain ⟨l1, l2, le, hws⟩ : ∃ x y z, watersS cs fs dry days a b us = ((x, y), z) := ⟨_, _, _, rfl⟩
  have L1 := hide (show l1.length ≤ 1000 by have := (watersS_len cs fs dry days a b us).1; rwa [hws] at this)
  have L2 := hide (show l2.length ≤ 1000 by have := (watersS_len cs fs dry days a b us).2; rwa [hws] at this)
  have P1 := fun W h hu => waters_fn Bc Bf Bu nc dc nf df us.length du dry days a b cs fs us W h hu rfl (by omega)
  have P2 := fun W h hu => rWaters_fn Ac Af Au nc cc nf cf us.length cu dry days a b cs fs us W h hu rfl (by omega)
  have M1 := fun W h => minutes_fn Bc Bf nc dc nf df dry days a b k want cs fs W h
  have M2 := fun W h => rMinutes_fn Ac Af nc cc nf cf dry days a b k want cs fs W h
  rw [hws] at P1 P2
  have P1 := hide P1; have P2 := hide P2; have M1 := hide M1; have M2 := hide M2
  clear hws hkv hb3v hb4 hb34 hat9 hat3 hsp3 hB3 hbl hz3 hl0 Hr0 Hn3 Hm3 Hu3 Hbu Hown1 Hkv Hg
  obtain ⟨q0, q1, q2, q3⟩ := C4.out.b9.c4
  obtain ⟨p0, p1⟩ := C4.out.bf.c2
  go_wp2_with fail
  refine (P1.out w4 C4.out.n2 C4.out.u2).mono ?_
  rintro e w5 ⟨v5, u5, rfl, ho, ho2, hb⟩
  obtain ⟨A5, c5, rfl, hr⟩ := ho.rd
  obtain ⟨B5, d5, rfl, hr2⟩ := ho2.rd
  have R5 := hide hr; have S5 := hide hr2
  have C5 := hide (C4.out.below hb)
  clear ho ho2 hr hr2 hb q0 q1 q2 q3 p0 p1
  obtain ⟨q0, q1, q2, q3⟩ := C5.out.b4.c4
  obtain ⟨p0, p1⟩ := C5.out.bf.c2
  go_wp2_with fail
  refine (P2.out w5 C5.out.n1 C5.out.u1).mono ?_
  rintro e w6 ⟨v6, u6, rfl, ho, ho2, hb⟩
  obtain ⟨A6, c6, rfl, hr⟩ := ho.rd
  obtain ⟨B6, d6, rfl, hr2⟩ := ho2.rd
  have R6 := hide hr; have S6 := hide hr2
  have R5 := hide ((R5.out.below hb).more hb.size); have S5 := hide ((S5.out.below hb).more hb.size)
  have C6 := hide (C5.out.below hb)
  clear ho ho2 hr hr2 hb q0 q1 q2 q3 p0 p1
  obtain ⟨q0, q1, q2, q3⟩ := C6.out.b9.c4
  obtain ⟨p0, p1⟩ := C6.out.bf.c2
  go_wp2_with fail
  refine (M1.out w6 C6.out.n2).mono ?_
  rintro e w7 ⟨r, er, rfl, hm, hb⟩
  have R6 := hide ((R6.out.below hb).more hb.size); have S6 := hide ((S6.out.below hb).more hb.size)
  have R5 := hide ((R5.out.below hb).more hb.size); have S5 := hide ((S5.out.below hb).more hb.size)
  have C7 := hide (C6.out.below hb)
  have Hm := hide hm
  clear hm hb q0 q1 q2 q3 p0 p1
  obtain ⟨q0, q1, q2, q3⟩ := C7.out.b4.c4
  obtain ⟨p0, p1⟩ := C7.out.bf.c2
  go_wp2_with fail
  refine (M2.out w7 C7.out.n1).mono ?_
  rintro e w8 ⟨r', er', rfl, hm, hb⟩
  obtain ⟨e1, e2⟩ := minutesP_one Hm.out hm
  subst e1 e2
  have R6 := hide ((R6.out.below hb).more hb.size); have S6 := hide ((S6.out.below hb).more hb.size)
  have R5 := hide ((R5.out.below hb).more hb.size); have S5 := hide ((S5.out.below hb).more hb.size)
  have C8 := hide (C7.out.below hb)
  clear hm hb q0 q1 q2 q3 p0 p1 C4 C5 C6 C7 P1 P2 M1 M2 Hm
  go_wp2_with fail
  refine (sSpans A5 A6 l1 c5 c6 w8 L1.out R5.out R6.out).mono ?_
  rintro e w9 ⟨rfl, hb9⟩
  go_wp2_with fail
  refine (sSpans B5 B6 l2 d5 d6 w9 L2.out ((S5.out.below hb9).more hb9.size) ((S6.out.below hb9).more hb9.size)).mono ?_
  rintro e w10 ⟨rfl, hb10⟩
  have C10 := hide ((C8.out.below hb9).below hb10)
  clear hb9 hb10 R5 S5 R6 S6 C8
  obtain ⟨q0, q1, q2, q3⟩ := C10.out.b4.c4
  obtain ⟨p0, p1, p2, p3⟩ := C10.out.b9.c4
  go_wp2_with fail
  refine (same_net_true _ _ _ _ _ _ _ _ _ _ _ _ _ _ _ C10.out.n2 C10.out.n1).mono ?_
  rintro e w11 ⟨rfl, hb11⟩
  have C11 := hide (C10.out.below hb11)
  clear q0 q1 q2 q3 p0 p1 p2 p3 hb11 C10
  go_wp2_with fail
  refine (sUses _ _ us _ _ w11 hus80 C11.out.u2 C11.out.u1).mono ?_
  rintro e w12 ⟨rfl, hb12⟩
  go_wp2_with fail
  go_ret
  exact ⟨rfl, C11.out.bl.trans (hb12.mono C11.out.bl.size)⟩
section
variable {H : Type} {enc : TypeId × Value → H} {P : Program} {w : World} {base : Nat} {spare : Nat → Bool} {held : Bool}
theorem trodAll_five {t0 t1 t2 t3 t4 : TypeId} {args : Array Value} {ds : List (DataW H)} {ps : List MemPlace} (h : DataW.TrodAll enc P w base spare held [t0, t1, t2, t3, t4] args.toList ds ps) :
    ∃ v0 v1 v2 v3 v4 d0 d1 d2 d3 d4 p0 p1 p2 p3 p4, args = #[v0, v1, v2, v3, v4] ∧ ds = [d0, d1, d2, d3, d4] ∧ ps = p0 ++ p1 ++ p2 ++ p3 ++ p4 ∧ DataW.Trod enc P w base spare held t0 v0 d0 p0 ∧ DataW.Trod enc P w base spare held t1 v1 d1 p1 ∧ DataW.Trod enc P w base spare held t2 v2 d2 p2 ∧ DataW.Trod enc P w base spare held t3 v3 d3 p3 ∧ DataW.Trod enc P w base spare held t4 v4 d4 p4 := by
  obtain ⟨v, vs, d, ds', p, q, hargs, rfl, rfl, hd, hrest⟩ := trodAll_cons h
  obtain ⟨v1, vs1, d1, ds1, p1, q1, rfl, rfl, rfl, hd1, hrest⟩ := trodAll_cons hrest
  obtain ⟨v2, vs2, d2, ds2, p2, q2, rfl, rfl, rfl, hd2, hrest⟩ := trodAll_cons hrest
  obtain ⟨v3, vs3, d3, ds3, p3, q3, rfl, rfl, rfl, hd3, hrest⟩ := trodAll_cons hrest
  obtain ⟨v4, vs4, d4, ds4, p4, q4, rfl, rfl, rfl, hd4, hrest⟩ := trodAll_cons hrest
  obtain ⟨rfl, rfl, rfl⟩ := trodAll_nil hrest
  exact ⟨v, v1, v2, v3, v4, d, d1, d2, d3, d4, p, p1, p2, p3, p4, by cases args; simp_all, rfl, by simp, hd, hd1, hd2, hd3, hd4⟩
end
set_option maxRecDepth 100000 in
theorem channelWaters_lifted (os : Os) (started : os.Started) (H : Type) (enc : TypeId × Value → H) :
    ReturnsInHanded {} Try.checked os 4 .any (Rows.channelWatersSpec.pre6 enc Try.prog Try.f4 Rows.channelWatersRow.domain false) (Rows.channelWatersSpec.post enc Try.prog Try.f4 false true false false) := by
  refine law_lifted os started H enc (s := Rows.channelWatersSpec) Try.func4 (by kernel_rfl) ?_ rfl Try.underlying4 rfl (of_decide_eq_true (by kernel_rfl))
    (ChangeSpec.witness6 (enc := enc) (C := Try.checked) false ⟨#[], #[.agg #[.slice none 0 0, .slice none 0 0, .int .i64 0, .int .i64 0], .agg #[.int .i64 0, .int .i64 0], .slice none 0 0, .int .i64 0, .int .i64 0], []⟩ 8 (by kernel_rfl) (by kernel_rfl) (by kernel_rfl) (by kernel_rfl)) ?_
  · intro ds hds
    match ds, hds with
    | [a, b, c, d, e], _ => rfl
  · intro W base args ds ps hval hA hlt
    rw [Try.params4] at hA hval
    obtain ⟨v0, v1, v2, v3, v4, d0, d1, d2, d3, d4, p0, p1, p2, p3, p4, rfl, rfl, rfl, h0, h1, h2, h3, h4⟩ := trodAll_five hA
    obtain ⟨Ac, nc, cc, Af, nf, cf, dry, days, cs, fs, rfl, hnc, hnf, _, _, hcs, hfs, _, _, _, _⟩ := open_net (hval 0 _ v0 rfl rfl) h0
    obtain ⟨⟨a, b⟩, e1, _⟩ := open_val shape_sp Try.underlying51 (hval 1 _ v1 rfl rfl) h1
    rw [show (v1 : Value) = .agg #[.int .i64 a, .int .i64 b] from e1]
    obtain ⟨Au, nu, cu, us, rfl, hnu, _, hus, _⟩ := open_sl shape_us Try.underlying26 cells_us Us.len (by omega) (hval 2 _ v2 rfl rfl) h2
    obtain ⟨k, rfl, _⟩ := open_i64 (hval 3 _ v3 rfl rfl) h3
    obtain ⟨want, rfl, _⟩ := open_i64 (hval 4 _ v4 rfl rfl) h4
    exact waters_walk Ac Af Au nc cc nf cf nu cu dry days a b k want cs fs us W hnc hnf hnu hcs hfs hus

theorem channelWaters_holds : Rows.ChannelWatersSaid :=
  OpenClaim.holds_of_wide 4 Try.f4 rfl rfl rfl rfl rfl rfl rfl ⟨rfl, rfl, rfl, rfl, rfl⟩ rfl rfl rfl rfl rfl (by kernel_rfl) Try.func4 (by kernel_rfl)
    (of_decide_eq_true (by kernel_rfl)) (by unfold Func.isWrapper; rw [if_neg (of_decide_eq_false (by kernel_rfl))]; exact ⟨rfl, rfl⟩)
    (fun os started H enc _ => channelWaters_lifted os started H enc)
#print axioms channelWaters_holds
end Go.Proofs.Ytgklcilpohkpkaa
