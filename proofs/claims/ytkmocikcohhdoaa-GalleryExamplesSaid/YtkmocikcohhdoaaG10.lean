/- The reference of the gallery: Clean, by contracts. -/
import Derived.Test.YtkmocikcohhdoaaG9
import Derived.Deep.RegionHeld3
set_option linter.unusedVariables false
set_option linter.unusedSimpArgs false
namespace Go.Proofs.Ytkmocikcohhdoaa
open Go.RowKit Go.Shelf

theorem pow_wrap (n : Nat) (h : n ≤ 12) (p : Nat) (hp : p = 2 ^ n) : wrap64 (2 ^ n) = (p : Int) := by
  subst hp
  have h1 : 2 ^ n ≤ 2 ^ 12 := Nat.pow_le_pow_right (n := 2) (by omega) h
  have h2 : ((2 ^ n : Nat) : Int) = (2 : Int) ^ n := by norm_cast
  rw [← h2]
  generalize 2 ^ n = q at h1
  have h3 : (2 : Nat) ^ 12 = 4096 := rfl
  exact IntWalk.wrap64_in _ (by omega)
theorem cleanTo_small (g : List Rc) (s : Nat) (h : ∀ r ∈ g, r.small) : ∀ r ∈ cleanTo g s g.length, r.small := by
  intro r hr
  obtain ⟨i, hi⟩ := List.getElem?_of_mem hr
  rw [cleanTo, List.getElem?_mapIdx] at hi
  obtain ⟨x, hx, rfl⟩ := Option.map_eq_some_iff.1 hi
  have := h x (List.mem_of_getElem? hx)
  split
  · obtain ⟨_, h2, h3⟩ := this
    exact ⟨by simp [Rc.clean], h2, h3⟩
  · exact this
theorem gOk_small {g : List Rc} (h : gOk g = true) : ∀ r ∈ g, r.small := by
  intro r hr
  simp only [gOk, Bool.and_eq_true, Bool.not_eq_true', List.any_eq_false] at h
  have := h.2 r hr
  obtain ⟨⟨c0, c1⟩, ⟨l0, l1⟩, ⟨g0, g1⟩⟩ := r
  rw [rcBad_of] at this
  simp [Sp.ok] at this
  simp only [Rc.small]
  omega

/-- Whether a list is to be taken. -/
def better (l : List Int) : Option (List Int) → Bool
  | none => true
  | some b => decide (l.length < b.length) || (decide (l.length = b.length) && earl l b)
def cleanStep (g : List Rc) (lo want : Int) (st : Option (List Int)) (s : Nat) : Option (List Int) :=
  if decide (want ≤ endF (cleanTo g s g.length) lo) && better (mem s 12) st then some (mem s 12) else st
def cleanFold (g : List Rc) (lo want : Int) (k : Nat) : Option (List Int) := (List.range k).foldl (cleanStep g lo want) none
theorem cleanFold_succ (g : List Rc) (lo want : Int) (k : Nat) : cleanFold g lo want (k + 1) = cleanStep g lo want (cleanFold g lo want k) k := by
  simp [cleanFold, List.range_succ]

/-- What Clean hands back: the list and the error. -/
def cleanErr (g : List Rc) (s : Sp) (want : Int) : Int :=
  if gOk g then (if Sp.ok 0 1000000 s then (if inB 0 13000000 want then (if (cleanFold g s.lo want (2 ^ g.length)).isSome then 0 else 6) else 2) else 21) else 20
def cleanL (g : List Rc) (s : Sp) (want : Int) : List Int :=
  if cleanErr g s want = 0 then (cleanFold g s.lo want (2 ^ g.length)).getD [] else []
def CleanPost (g : List Rc) (s : Sp) (want : Int) (w : World) (e : Ending) (w' : World) : Prop :=
  ∃ A c, e = .returned (.tuple #[.slice A (cleanL g s want).length c, .int .i64 (cleanErr g s want)]) ∧ Rd w' w'.heap.size icell A (cleanL g s want) ∧ Below w.heap.size w w'

set_option maxRecDepth 100000 in
set_option maxHeartbeats 2000000 in
theorem rclean_any (A : Option Addr) (g : List Rc) (n c : Nat) (lo hi want : Int) (w : World) (hn : n = g.length) (hm : n ≤ 20) (hx : Rd w w.heap.size Rc.cells A g) :
    Calls Try.prog 16 #[.slice A n c, .agg #[.int .i64 lo, .int .i64 hi], .int .i64 want] w (CleanPost g ⟨lo, hi⟩ want w) := by
  subst hn
  obtain ⟨w1, hw1⟩ : ∃ w1, w1 = w.alloc (.cells #[.int .i64 lo, .int .i64 hi] 24) := ⟨_, rfl⟩
  have b1 : Below w.heap.size w w1 := by rw [hw1]; exact below_new w _
  have s1 : w1.heap.size = w.heap.size + 1 := by rw [hw1]; simp
  have q0 : w1.cell? ⟨w.heap.size, 0, none⟩ = some (.int .i64 lo) := by rw [hw1]; exact cell_new _ _ _ 0 _ rfl
  have q1 : w1.cell? ⟨w.heap.size, 1, none⟩ = some (.int .i64 hi) := by rw [hw1]; exact cell_new _ _ _ 1 _ rfl
  have HC := hide (rcheck_any A g g.length c w1 rfl (by omega) ((hx.below b1).more b1.size))
  have Hx := hide (fun W (hb : Below w.heap.size w W) => (hx.below hb).more hb.size)
  clear hx
  have Hw1 := hide hw1.symm; clear hw1
  cases hg : gOk g
  · have Hg := hide hg
    have HC' := hide (show Calls Try.prog 24 #[.slice A g.length c] w1 fun e w' => e = .returned (.int .i64 20) ∧ Below w1.heap.size w1 w' from by have := HC.out; simpa [gCheck, hg] using this)
    clear hg HC q0 q1
    go_enter Try.func16, Try.ntmps16
    go_wp2_with fail
    rw [Hw1.out]
    go_wp2_with (go_at_call 24; refine HC'.out.mono ?_; rintro e w2 ⟨rfl, b2⟩)
    go_ret2
    refine ⟨none, 0, ?_, ?_, b1.trans (b2.mono b1.size)⟩
    · simp [cleanL, cleanErr, Hg.out]
    · simp [cleanL, cleanErr, Hg.out, Rd.nil]
  · have Hg := hide hg
    have HC' := hide (show Calls Try.prog 24 #[.slice A g.length c] w1 fun e w' => e = .returned (.int .i64 0) ∧ Below w1.heap.size w1 w' from by have := HC.out; simpa [gCheck, hg] using this)
    clear hg HC
    have Hq0 := hide q0; have Hq1 := hide q1; clear q0 q1
    go_enter Try.func16, Try.ntmps16
    go_wp2_with fail
    rw [Hw1.out]
    go_wp2_with fail
    refine HC'.out.mono ?_; rintro e w2 ⟨rfl, b2⟩
    have q2 : w2.cell? ⟨w.heap.size, 0, none⟩ = some (.int .i64 lo) := (b2.cell (p := ⟨w.heap.size, 0, none⟩) (by simp; omega)).trans Hq0.out
    have q3 : w2.cell? ⟨w.heap.size, 1, none⟩ = some (.int .i64 hi) := (b2.cell (p := ⟨w.heap.size, 1, none⟩) (by simp; omega)).trans Hq1.out
    have bw2 : Below w.heap.size w w2 := b1.trans (b2.mono b1.size)
    cases hs : Sp.ok 0 1000000 ⟨lo, hi⟩
    · have Hs := hide hs; clear hs
      go_wp2_with (go_at_call 40; refine (spanned_any _ _ _ _ _).mono ?_; rintro e w3 ⟨rfl, b3⟩; rw [Hs.out])
      go_ret2
      refine ⟨none, 0, ?_, ?_, bw2.trans (b3.mono bw2.size)⟩
      · simp [cleanL, cleanErr, Hg.out, Hs.out]
      · simp [cleanL, cleanErr, Hg.out, Hs.out, Rd.nil]
    · have Hs := hide hs; clear hs
      cases ht : inB 0 13000000 want
      · have Ht := hide ht; clear ht
        go_wp2_with (first | (go_at_call 40; refine (spanned_any _ _ _ _ _).mono ?_; rintro e w3 ⟨rfl, b3⟩; rw [Hs.out]) | (go_at_call 55; refine (within_any _ _ _ _).mono ?_; rintro e w' ⟨rfl, rfl⟩; rw [Ht.out]))
        go_ret2
        refine ⟨none, 0, ?_, ?_, bw2.trans (b3.mono bw2.size)⟩
        · simp [cleanL, cleanErr, Hg.out, Hs.out, Ht.out]
        · simp [cleanL, cleanErr, Hg.out, Hs.out, Ht.out, Rd.nil]
      · have Ht := hide ht; clear ht
        go_wp2_with fail
        refine (spanned_any _ _ _ _ _).mono ?_; rintro e w3 ⟨rfl, b3⟩; rw [Hs.out]
        have q4 : w3.cell? ⟨w.heap.size, 0, none⟩ = some (.int .i64 lo) := (b3.cell (p := ⟨w.heap.size, 0, none⟩) (by have := b2.size; simp; omega)).trans q2
        have bw3 : Below w.heap.size w w3 := bw2.trans (b3.mono bw2.size)
        have s3 : w.heap.size < w3.heap.size := by have := b2.size; have := b3.size; omega
        have Hq4 := hide q4
        clear q2 q3 q4
        go_wp2_with (go_at_call 55; refine (within_any _ _ _ _).mono ?_; rintro e w' ⟨rfl, rfl⟩; rw [Ht.out])
        have hk12 : g.length ≤ 12 := by have := Hg.out; simp [gOk, inB] at this; omega
        obtain ⟨p, hp⟩ : ∃ p, p = 2 ^ g.length := ⟨_, rfl⟩
        have hpw := pow_wrap g.length hk12 p hp
        have hp4 : p ≤ 4096 := by rw [hp]; exact Nat.pow_le_pow_right (n := 2) (by omega) hk12
        have Hp := hide hp; clear hp
        go_loopw [8, 9, 10] (fun b f i wr => ∃ (k : Nat) (st : Option (List Int)) (A' : Option Addr) (c' : Nat), k ≤ p ∧ i = .int .i64 k ∧ b = .slice A' (st.getD []).length c' ∧ f = .bool st.isSome ∧ Hid (st = cleanFold g lo want k) ∧ Hid (Rd wr wr.heap.size icell A' (st.getD [])) ∧ Below w3.heap.size w3 wr) (fun _ _ i _ => p - (intOf i).toNat)
        case atStart => exact ⟨0, none, none, 0, Nat.zero_le _, rfl, rfl, rfl, hide rfl, hide (Rd.nil _ _ _ _), Below.refl _ _⟩
        case round =>
          obtain ⟨k, st, A', c', hk, rfl, rfl, rfl, hst, hrd, hb⟩ := hrel
          have hc : wr.cell? ⟨w.heap.size, 0, none⟩ = some (.int .i64 lo) := (hb.cell (p := ⟨w.heap.size, 0, none⟩) s3).trans Hq4.out
          have sr : w.heap.size < wr.heap.size := Nat.lt_of_lt_of_le s3 hb.size
          have bwr : Below w.heap.size w wr := bw3.trans (hb.mono bw3.size)
          have bds : 0 ≤ lo ∧ lo ≤ 1000000 := by have := Hs.out; simp [Sp.ok] at this; omega
          have hgs : ∀ r ∈ cleanTo g k g.length, r.small := cleanTo_small g k (gOk_small Hg.out)
          have Hgs := hide hgs; have Hbds := hide bds; clear hgs bds
          by_cases hlt : k < p
          · have Hk := hide (show k < 65536 by omega)
            obtain ⟨x, hx⟩ : ∃ x, x = endF (cleanTo g k g.length) lo := ⟨_, rfl⟩
            have Hxe := hide hx.symm; clear hx
            have Hml := hide (mem_len k 12)
            have hml : (mem k 12).length ≤ 12 := mem_len k 12
            by_cases hw : x < want
            all_goals
              go_wp2_with fail
              have HcB := hide (show wr.drew.cell? ⟨w.heap.size, 0, none⟩ = some (.int .i64 lo) ∧ Below wr.heap.size wr wr.drew from ⟨hc, (Below.refl _ _).drew⟩)
              go_region_held3 (fun W => W.cell? ⟨w.heap.size, 0, none⟩ = some (.int .i64 lo) ∧ Below wr.heap.size wr W) (first | exact HcB.out | exact keep1 sr hb1 (by assumption) | exact keep1 sr hb2 (by assumption)) (first | (go_at_call 46; refine (cleaned_any A g g.length c k _ rfl hm (Hx.out _ (keep2 (by assumption) bwr)) Hk.out).mono ?_; rintro e w4 ⟨v1, rfl, hown1, hb1⟩; obtain ⟨A1, c1, rfl, hrd1⟩ := hown1.rd) | (go_at_call 45; refine (end_any _ (cleanTo g k g.length) _ _ lo _ rfl (by rw [cleanTo_len]; omega) (hrd1.below (Below.refl _ _)) Hgs.out Hbds.out.1 (by have := Hbds.out.2; omega)).mono ?_; rintro e w5 ⟨rfl, hb2⟩; rw [Hxe.out]))
              have b5 : Below wr.heap.size wr w5 := by have h : w5.cell? ⟨w.heap.size, 0, none⟩ = some (.int .i64 lo) ∧ Below wr.heap.size wr w5 := by assumption
                                                       exact h.2
              have b35 : Below w3.heap.size w3 w5 := hb.trans (b5.mono hb.size)
              have Hrd5 := hide ((hrd.out.below b5).more b5.size)
            · clear hc
              go_wp2_with fail
              refine ⟨⟨k + 1, st, A', c', by omega, by go_num, rfl, rfl, hide ?_, Hrd5, b35⟩, by simp [intOf]; omega⟩
              rw [cleanFold_succ, ← hst.out, cleanStep, Hxe.out]
              have : ¬ want ≤ x := by omega
              simp [this]
            · have hxw : want ≤ x := by omega
              clear hc
              rcases st with _ | bb
              · go_wp2_with (go_at_call 56; refine (places_any k _ Hk.out).mono ?_; rintro e w6 ⟨v6, rfl, hown6, hb6⟩; obtain ⟨A6, c6, rfl, hrd6⟩ := hown6.rd; have Hrd6 := hide hrd6; clear hrd6 hown6)
                refine ⟨⟨k + 1, some (mem k 12), A6, c6, by omega, by go_num, rfl, rfl, hide ?_, Hrd6, b35.trans (hb6.mono b35.size)⟩, by simp [intOf]; omega⟩
                rw [cleanFold_succ, ← hst.out, cleanStep, Hxe.out]
                simp [better, hxw]
              · have hstep : cleanFold g lo want (k + 1) = if better (mem k 12) (some bb) = true then some (mem k 12) else some bb := by
                  rw [cleanFold_succ, ← hst.out, cleanStep, Hxe.out]
                  simp [hxw]
                have Hstep := hide hstep; clear hstep
                by_cases l1 : (mem k 12).length < bb.length
                · go_wp2_with (go_at_call 56; refine (places_any k _ Hk.out).mono ?_; rintro e w6 ⟨v6, rfl, hown6, hb6⟩; obtain ⟨A6, c6, rfl, hrd6⟩ := hown6.rd; have Hrd6 := hide hrd6; clear hrd6 hown6)
                  refine ⟨⟨k + 1, some (mem k 12), A6, c6, by omega, by go_num, rfl, rfl, hide ?_, Hrd6, b35.trans (hb6.mono b35.size)⟩, by simp [intOf]; omega⟩
                  rw [Hstep.out]
                  simp [better, l1]
                · by_cases l2 : (mem k 12).length = bb.length
                  · have L2 := hide l2
                    have hbb : bb.length ≤ 12 := by omega
                    have t1 : (((mem k 12).length : Int) == (bb.length : Int)) = true := by simp [l2]
                    cases he : earl (mem k 12) bb
                    all_goals
                      have He := hide he; clear he l2
                      go_wp2_with (first | (go_at_call 56; refine (places_any k _ Hk.out).mono ?_; rintro e w6 ⟨v6, rfl, hown6, hb6⟩; obtain ⟨A6, c6, rfl, hrd6⟩ := hown6.rd; have Hrd6 := hide hrd6; clear hrd6 hown6) | (go_at_call 57; refine (earlier_any _ _ (mem k 12) bb _ _ _ _ _ rfl rfl L2.out (by omega) Hrd6.out ((Hrd5.out.below hb6).more hb6.size)).mono ?_; rintro e w7 ⟨rfl, hb7⟩; rw [He.out]))
                      first
                        | (refine ⟨⟨k + 1, some (mem k 12), A6, c6, by omega, by go_num, rfl, rfl, hide ?_, hide (Hrd6.out.below hb7 |>.more hb7.size), b35.trans ((hb6.mono b35.size).trans (hb7.mono (Nat.le_trans b35.size hb6.size)))⟩, by simp [intOf]; omega⟩
                           rw [Hstep.out]
                           have h2 := L2.out
                           simp [better, He.out, h2]; done)
                        | (refine ⟨⟨k + 1, some bb, A', c', by omega, by go_num, rfl, rfl, hide ?_, hide (((Hrd5.out.below hb6).more hb6.size).below hb7 |>.more hb7.size), b35.trans ((hb6.mono b35.size).trans (hb7.mono (Nat.le_trans b35.size hb6.size)))⟩, by simp [intOf]; omega⟩
                           rw [Hstep.out]
                           have h2 := L2.out
                           simp [better, He.out, h2]; done)
                  · have t1 : (((mem k 12).length : Int) == (bb.length : Int)) = false := by simp; omega
                    have L2 := hide l2; clear l2
                    go_wp2_with (go_at_call 56; refine (places_any k _ Hk.out).mono ?_; rintro e w6 ⟨v6, rfl, hown6, hb6⟩; obtain ⟨A6, c6, rfl, hrd6⟩ := hown6.rd; have Hrd6 := hide hrd6; clear hrd6 hown6)
                    refine ⟨⟨k + 1, some bb, A', c', by omega, by go_num, rfl, rfl, hide ?_, hide ((Hrd5.out.below hb6).more hb6.size), b35.trans (hb6.mono b35.size)⟩, by simp [intOf]; omega⟩
                    rw [Hstep.out]
                    simp [better, l1, L2.out]
          · obtain rfl : k = p := by omega
            have herr : cleanErr g ⟨lo, hi⟩ want = if st.isSome then 0 else 6 := by
              simp only [cleanErr, Hg.out, Hs.out, Ht.out, if_true, ← Hp.out, ← hst.out]
            have hL : cleanL g ⟨lo, hi⟩ want = if st.isSome then st.getD [] else [] := by
              unfold cleanL
              rw [herr]
              simp only [← Hp.out, ← hst.out]
              cases st <;> simp
            have Herr := hide herr; have HL := hide hL
            clear herr hL hc
            rcases st with _ | bb
            · go_wp2_with fail
              go_ret2
              refine ⟨none, 0, ?_, ?_, bwr⟩
              · simp [HL.out, Herr.out]
              · simp [HL.out, Rd.nil]
            · go_wp2_with fail
              go_ret2
              refine ⟨A', c', ?_, ?_, bwr⟩
              · simp [HL.out, Herr.out]
              · have := hrd.out
                simpa [HL.out] using this
end Go.Proofs.Ytkmocikcohhdoaa
