/- The reference of the gallery: Cleaned, by contracts. The reference of the gallery: Clean, by contracts. Gallery: Clean, by contracts. -/
import Derived.Test.YtkmocikcohhdoaaG8
import Derived.Test.YtkmocikcohhdoaaG7
import Derived.Test.YtkmocikcohhdoaaGA
import Derived.Deep.RegionHeld3
set_option linter.unusedVariables false
set_option linter.unusedSimpArgs false
namespace Go.Proofs.Ytkmocikcohhdoaa
open Go.RowKit Go.Shelf

/-- A reach that is cleaned. -/
def Rc.clean (r : Rc) : Rc := ⟨⟨13000000, 13000000⟩, r.leak, r.gain⟩
/-- A gallery with those of the first k reaches cleaned that a set holds. -/
def cleanTo (g : List Rc) (s k : Nat) : List Rc := g.mapIdx fun i r => if i < k ∧ s.testBit i = true then r.clean else r
theorem cleanTo_len (g : List Rc) (s k : Nat) : (cleanTo g s k).length = g.length := by simp [cleanTo]
theorem cleanTo_zero (g : List Rc) (s : Nat) : cleanTo g s 0 = g := by
  apply List.ext_getElem?
  intro i
  simp [cleanTo, List.getElem?_mapIdx]
theorem cleanTo_get (g : List Rc) (s k : Nat) {i : Nat} {r : Rc} (h : g[i]? = some r) : (cleanTo g s k)[i]? = some (if i < k ∧ s.testBit i = true then r.clean else r) := by
  simp [cleanTo, List.getElem?_mapIdx, h]
theorem cleanTo_no (g : List Rc) (s k : Nat) (h : s.testBit k = false) : cleanTo g s (k + 1) = cleanTo g s k := by
  apply List.ext_getElem?
  intro i
  simp only [cleanTo, List.getElem?_mapIdx]
  congr 1
  funext r
  by_cases hi : i = k
  · subst hi; simp [h]
  · have : (i < k + 1) = (i < k) := by apply propext; omega
    simp [this]
theorem cleanTo_yes (g : List Rc) (s k : Nat) {r : Rc} (hr : g[k]? = some r) (h : s.testBit k = true) : cleanTo g s (k + 1) = (cleanTo g s k).set k r.clean := by
  obtain ⟨hk, rfl⟩ := List.getElem?_eq_some_iff.1 hr
  apply List.ext_getElem?
  intro i
  rw [List.getElem?_set, cleanTo_len, cleanTo, List.getElem?_mapIdx]
  by_cases hi : k = i
  · subst hi; simp [h, hk]
  · rw [if_neg hi, cleanTo, List.getElem?_mapIdx]
    congr 1
    funext r
    have : (i < k + 1) = (i < k) := by apply propext; omega
    simp [this]

set_option maxRecDepth 100000 in
set_option maxHeartbeats 1000000 in
theorem cleaned_any (A : Option Addr) (g : List Rc) (n c s : Nat) (w : World) (hn : n = g.length) (hm : n ≤ 20) (hx : Rd w w.heap.size Rc.cells A g) (hs : s < 65536) :
    Calls Try.prog 46 #[.slice A n c, .int .i64 s] w fun e w' => ∃ v, e = .returned v ∧ Own w' w.heap.size 96 6 Rc.cells v (cleanTo g s g.length) ∧ Below w.heap.size w w' := by
  subst hn
  have Hs := hide hs; clear hs
  have h0 : Own (w.alloc (.cells #[] 96)) w.heap.size 96 6 Rc.cells (.slice (some ⟨w.heap.size, 0, none⟩) 0 0) [] := World.ownsRow_made w #[] 0 (Nat.le_refl _) (by simp [maxLen]) (by simp)
  have H0 := hide h0; clear h0
  have Hx := hide ((hx.below (below_new w (.cells #[] 96))).more (B' := (w.alloc (.cells #[] 96)).heap.size) (by simp)); clear hx
  go_enter Try.func46, Try.ntmps46
  go_wp2_with (at_builtin; refine appl_Rc rfl _ (.tmp 7) (.tmp 8) rfl w.heap.size _ [] rfl H0.out _ A g.length c g rfl rfl Hx.out (by simp; omega) (by simp) ?_; intro v1 w1 hown1 hg1)
  have hb1 := below_own H0.out (below_new w (.cells #[] 96)) hg1 (by simp)
  rw [List.nil_append] at hown1
  have Hown := hide hown1; clear hown1 H0
  clear hg1
  obtain ⟨A1, c1, rfl, hrd⟩ := Hown.out.rd
  clear hrd
  go_loopw [6] (fun i wr => ∃ (k : Nat), k ≤ g.length ∧ i = .int .i64 k ∧ Below w.heap.size w wr ∧ Own wr w.heap.size 96 6 Rc.cells (.slice A1 g.length c1) (cleanTo g s k)) (fun i _ => g.length - (intOf i).toNat)
  case atStart => exact ⟨0, by omega, rfl, hb1, by rw [cleanTo_zero]; exact Hown.out⟩
  case round =>
    obtain ⟨k, hk, rfl, hb, hown⟩ := hrel
    have Hown2 := hide hown
    by_cases hlt : k < g.length
    · have ht := bit_test s k Hs.out
      have hlen := hlt
      have hxk : g[k]? = some g[k] := List.getElem?_eq_getElem hlen
      generalize g[k] = r at hxk
      have hxk' := cleanTo_get g s k hxk
      rw [if_neg (by omega)] at hxk'
      obtain ⟨gb, cap, hv, _⟩ := World.ownsRow.form hown (by rw [cleanTo_len]; omega)
      obtain rfl : A1 = some ⟨gb, 0, none⟩ := by injection hv
      have hgb := (World.ownsRow.lt hown gb rfl)
      clear hv hown
      have hput1 := Own.put_ Rc.len Hown2.out (i := k) (j := 0) (x' := ⟨⟨13000000, r.cap.hi⟩, r.leak, r.gain⟩) (u := .int .i64 13000000) hxk' (by omega) rfl (by rw [cleanTo_len])
      obtain ⟨o1, ⟨v1, d1⟩, f1⟩ := hput1
      have hput2 := Own.put_ Rc.len o1 (i := k) (j := 1) (x := ⟨⟨13000000, r.cap.hi⟩, r.leak, r.gain⟩) (x' := r.clean) (u := .int .i64 13000000) (by rw [List.getElem?_set_self (by rw [cleanTo_len]; exact hlen)]) (by omega) rfl (by simp [cleanTo_len])
      obtain ⟨o2, ⟨v2, d2⟩, f2⟩ := hput2
      rw [List.set_set] at o2
      simp only [Nat.add_zero] at d1 f1 o2 d2 f2
      have Ho2 := hide o2; have Hxk := hide hxk
      clear o1 o2 hxk hxk'
      cases hq : s.testBit k
      · rw [hq] at ht
        have Hq := hide hq; clear hq
        go_wp2_with fail
        exact ⟨⟨k + 1, by omega, by go_num, hb, by rw [cleanTo_no g s k Hq.out]; exact Hown2.out⟩, by simp [intOf]; omega⟩
      · rw [hq] at ht
        have Hq := hide hq; clear hq
        go_wp2_with fail
        exact ⟨⟨k + 1, by omega, by go_num, (hb.setCell (p := ⟨gb, k * 6, none⟩) hgb.1 _).setCell (p := ⟨gb, k * 6 + 1, none⟩) hgb.1 _, by rw [cleanTo_yes g s k Hxk.out Hq.out]; exact Ho2.out⟩, by simp [intOf]; omega⟩
    · clear hown
      go_wp2_with fail
      go_ret
      exact ⟨_, rfl, by have := Hown2.out; rwa [show k = g.length by omega] at this, hb⟩
end Go.Proofs.Ytkmocikcohhdoaa
namespace Go.Proofs.Ytkmocikcohhdoaa
open Go.RowKit Go.Shelf

theorem pow_wrap (n : Nat) (h : n ≤ 12) (p : Nat) (hp : p = 2 ^ n) : wrap64 (2 ^ n) = (p : Int) := by
  subst hp
  have h1 : 2 ^ n ≤ 2 ^ 12 := Nat.pow_le_pow_right (n := 2) (by omega) h
  have h2 : ((2 ^ n : Nat) : Int) = (2 : Int) ^ n := by norm_cast
  rw [← h2]
  generalize 2 ^ n = q at h1
  have h3 : (2 : Nat) ^ 12 = 4096 := rfl
  exact IntWalk.wrap64_in _ (by omega)
theorem cleanTo_small (g : List Rc) (s : Nat) (h : ∀ r ∈ g, r.small) : ∀ r ∈ cleanTo g s g.length, r.small := by
  intro r hr
  obtain ⟨i, hi⟩ := List.getElem?_of_mem hr
  rw [cleanTo, List.getElem?_mapIdx] at hi
  obtain ⟨x, hx, rfl⟩ := Option.map_eq_some_iff.1 hi
  have := h x (List.mem_of_getElem? hx)
  split
  · obtain ⟨_, h2, h3⟩ := this
    exact ⟨by simp [Rc.clean], h2, h3⟩
  · exact this
theorem gOk_small {g : List Rc} (h : gOk g = true) : ∀ r ∈ g, r.small := by
  intro r hr
  simp only [gOk, Bool.and_eq_true, Bool.not_eq_true', List.any_eq_false] at h
  have := h.2 r hr
  obtain ⟨⟨c0, c1⟩, ⟨l0, l1⟩, ⟨g0, g1⟩⟩ := r
  rw [rcBad_of] at this
  simp [Sp.ok] at this
  simp only [Rc.small]
  omega

/-- Whether a list is to be taken. -/
def better (l : List Int) : Option (List Int) → Bool
  | none => true
  | some b => decide (l.length < b.length) || (decide (l.length = b.length) && earl l b)
def cleanStep (g : List Rc) (lo want : Int) (st : Option (List Int)) (s : Nat) : Option (List Int) :=
  if decide (want ≤ endF (cleanTo g s g.length) lo) && better (mem s 12) st then some (mem s 12) else st
def cleanFold (g : List Rc) (lo want : Int) (k : Nat) : Option (List Int) := (List.range k).foldl (cleanStep g lo want) none
theorem cleanFold_succ (g : List Rc) (lo want : Int) (k : Nat) : cleanFold g lo want (k + 1) = cleanStep g lo want (cleanFold g lo want k) k := by
  simp [cleanFold, List.range_succ]

/-- What Clean hands back: the list and the error. -/
def cleanErr (g : List Rc) (s : Sp) (want : Int) : Int :=
  if gOk g then (if Sp.ok 0 1000000 s then (if inB 0 13000000 want then (if (cleanFold g s.lo want (2 ^ g.length)).isSome then 0 else 6) else 2) else 21) else 20
def cleanL (g : List Rc) (s : Sp) (want : Int) : List Int :=
  if cleanErr g s want = 0 then (cleanFold g s.lo want (2 ^ g.length)).getD [] else []
def CleanPost (g : List Rc) (s : Sp) (want : Int) (w : World) (e : Ending) (w' : World) : Prop :=
  ∃ A c, e = .returned (.tuple #[.slice A (cleanL g s want).length c, .int .i64 (cleanErr g s want)]) ∧ Rd w' w'.heap.size icell A (cleanL g s want) ∧ Below w.heap.size w w'

set_option maxRecDepth 100000 in
set_option maxHeartbeats 2000000 in
theorem rclean_any (A : Option Addr) (g : List Rc) (n c : Nat) (lo hi want : Int) (w : World) (hn : n = g.length) (hm : n ≤ 20) (hx : Rd w w.heap.size Rc.cells A g) :
    Calls Try.prog 16 #[.slice A n c, .agg #[.int .i64 lo, .int .i64 hi], .int .i64 want] w (CleanPost g ⟨lo, hi⟩ want w) := by
  subst hn
  obtain ⟨w1, hw1⟩ : ∃ w1, w1 = w.alloc (.cells #[.int .i64 lo, .int .i64 hi] 24) := ⟨_, rfl⟩
  have b1 : Below w.heap.size w w1 := by rw [hw1]; exact below_new w _
  have s1 : w1.heap.size = w.heap.size + 1 := by rw [hw1]; simp
  have q0 : w1.cell? ⟨w.heap.size, 0, none⟩ = some (.int .i64 lo) := by rw [hw1]; exact cell_new _ _ _ 0 _ rfl
  have q1 : w1.cell? ⟨w.heap.size, 1, none⟩ = some (.int .i64 hi) := by rw [hw1]; exact cell_new _ _ _ 1 _ rfl
  have HC := hide (rcheck_any A g g.length c w1 rfl (by omega) ((hx.below b1).more b1.size))
  have Hx := hide (fun W (hb : Below w.heap.size w W) => (hx.below hb).more hb.size)
  clear hx
  have Hw1 := hide hw1.symm; clear hw1
  cases hg : gOk g
  · have Hg := hide hg
    have HC' := hide (show Calls Try.prog 24 #[.slice A g.length c] w1 fun e w' => e = .returned (.int .i64 20) ∧ Below w1.heap.size w1 w' from by have := HC.out; simpa [gCheck, hg] using this)
    clear hg HC q0 q1
    go_enter Try.func16, Try.ntmps16
    go_wp2_with fail
    rw [Hw1.out]
    go_wp2_with (go_at_call 24; refine HC'.out.mono ?_; rintro e w2 ⟨rfl, b2⟩)
    go_ret2
    refine ⟨none, 0, ?_, ?_, b1.trans (b2.mono b1.size)⟩
    · simp [cleanL, cleanErr, Hg.out]
    · simp [cleanL, cleanErr, Hg.out, Rd.nil]
  · have Hg := hide hg
    have HC' := hide (show Calls Try.prog 24 #[.slice A g.length c] w1 fun e w' => e = .returned (.int .i64 0) ∧ Below w1.heap.size w1 w' from by have := HC.out; simpa [gCheck, hg] using this)
    clear hg HC
    have Hq0 := hide q0; have Hq1 := hide q1; clear q0 q1
    go_enter Try.func16, Try.ntmps16
    go_wp2_with fail
    rw [Hw1.out]
    go_wp2_with fail
    refine HC'.out.mono ?_; rintro e w2 ⟨rfl, b2⟩
    have q2 : w2.cell? ⟨w.heap.size, 0, none⟩ = some (.int .i64 lo) := (b2.cell (p := ⟨w.heap.size, 0, none⟩) (by simp; omega)).trans Hq0.out
    have q3 : w2.cell? ⟨w.heap.size, 1, none⟩ = some (.int .i64 hi) := (b2.cell (p := ⟨w.heap.size, 1, none⟩) (by simp; omega)).trans Hq1.out
    have bw2 : Below w.heap.size w w2 := b1.trans (b2.mono b1.size)
    cases hs : Sp.ok 0 1000000 ⟨lo, hi⟩
    · have Hs := hide hs; clear hs
      go_wp2_with (go_at_call 40; refine (spanned_any _ _ _ _ _).mono ?_; rintro e w3 ⟨rfl, b3⟩; rw [Hs.out])
      go_ret2
      refine ⟨none, 0, ?_, ?_, bw2.trans (b3.mono bw2.size)⟩
      · simp [cleanL, cleanErr, Hg.out, Hs.out]
      · simp [cleanL, cleanErr, Hg.out, Hs.out, Rd.nil]
    · have Hs := hide hs; clear hs
      cases ht : inB 0 13000000 want
      · have Ht := hide ht; clear ht
        go_wp2_with (first | (go_at_call 40; refine (spanned_any _ _ _ _ _).mono ?_; rintro e w3 ⟨rfl, b3⟩; rw [Hs.out]) | (go_at_call 55; refine (within_any _ _ _ _).mono ?_; rintro e w' ⟨rfl, rfl⟩; rw [Ht.out]))
        go_ret2
        refine ⟨none, 0, ?_, ?_, bw2.trans (b3.mono bw2.size)⟩
        · simp [cleanL, cleanErr, Hg.out, Hs.out, Ht.out]
        · simp [cleanL, cleanErr, Hg.out, Hs.out, Ht.out, Rd.nil]
      · have Ht := hide ht; clear ht
        go_wp2_with fail
        refine (spanned_any _ _ _ _ _).mono ?_; rintro e w3 ⟨rfl, b3⟩; rw [Hs.out]
        have q4 : w3.cell? ⟨w.heap.size, 0, none⟩ = some (.int .i64 lo) := (b3.cell (p := ⟨w.heap.size, 0, none⟩) (by have := b2.size; simp; omega)).trans q2
        have bw3 : Below w.heap.size w w3 := bw2.trans (b3.mono bw2.size)
        have s3 : w.heap.size < w3.heap.size := by have := b2.size; have := b3.size; omega
        have Hq4 := hide q4
        clear q2 q3 q4
        go_wp2_with (go_at_call 55; refine (within_any _ _ _ _).mono ?_; rintro e w' ⟨rfl, rfl⟩; rw [Ht.out])
        have hk12 : g.length ≤ 12 := by have := Hg.out; simp [gOk, inB] at this; omega
        obtain ⟨p, hp⟩ : ∃ p, p = 2 ^ g.length := ⟨_, rfl⟩
        have hpw := pow_wrap g.length hk12 p hp
        have hp4 : p ≤ 4096 := by rw [hp]; exact Nat.pow_le_pow_right (n := 2) (by omega) hk12
        have Hp := hide hp; clear hp
        go_loopw [8, 9, 10] (fun b f i wr => ∃ (k : Nat) (st : Option (List Int)) (A' : Option Addr) (c' : Nat), k ≤ p ∧ i = .int .i64 k ∧ b = .slice A' (st.getD []).length c' ∧ f = .bool st.isSome ∧ Hid (st = cleanFold g lo want k) ∧ Hid (Rd wr wr.heap.size icell A' (st.getD [])) ∧ Below w3.heap.size w3 wr) (fun _ _ i _ => p - (intOf i).toNat)
        case atStart => exact ⟨0, none, none, 0, Nat.zero_le _, rfl, rfl, rfl, hide rfl, hide (Rd.nil _ _ _ _), Below.refl _ _⟩
        case round =>
          obtain ⟨k, st, A', c', hk, rfl, rfl, rfl, hst, hrd, hb⟩ := hrel
          have hc : wr.cell? ⟨w.heap.size, 0, none⟩ = some (.int .i64 lo) := (hb.cell (p := ⟨w.heap.size, 0, none⟩) s3).trans Hq4.out
          have sr : w.heap.size < wr.heap.size := Nat.lt_of_lt_of_le s3 hb.size
          have bwr : Below w.heap.size w wr := bw3.trans (hb.mono bw3.size)
          have bds : 0 ≤ lo ∧ lo ≤ 1000000 := by have := Hs.out; simp [Sp.ok] at this; omega
          have hgs : ∀ r ∈ cleanTo g k g.length, r.small := cleanTo_small g k (gOk_small Hg.out)
          have Hgs := hide hgs; have Hbds := hide bds; clear hgs bds
          by_cases hlt : k < p
          · have Hk := hide (show k < 65536 by omega)
            obtain ⟨x, hx⟩ : ∃ x, x = endF (cleanTo g k g.length) lo := ⟨_, rfl⟩
            have Hxe := hide hx.symm; clear hx
            have Hml := hide (mem_len k 12)
            have hml : (mem k 12).length ≤ 12 := mem_len k 12
            by_cases hw : x < want
            all_goals
              go_wp2_with fail
              have HcB := hide (show wr.drew.cell? ⟨w.heap.size, 0, none⟩ = some (.int .i64 lo) ∧ Below wr.heap.size wr wr.drew from ⟨hc, (Below.refl _ _).drew⟩)
              go_region_held3 (fun W => W.cell? ⟨w.heap.size, 0, none⟩ = some (.int .i64 lo) ∧ Below wr.heap.size wr W) (first | exact HcB.out | exact keep1 sr hb1 (by assumption) | exact keep1 sr hb2 (by assumption)) (first | (go_at_call 46; refine (cleaned_any A g g.length c k _ rfl hm (Hx.out _ (keep2 (by assumption) bwr)) Hk.out).mono ?_; rintro e w4 ⟨v1, rfl, hown1, hb1⟩; obtain ⟨A1, c1, rfl, hrd1⟩ := hown1.rd) | (go_at_call 45; refine (end_any _ (cleanTo g k g.length) _ _ lo _ rfl (by rw [cleanTo_len]; omega) (hrd1.below (Below.refl _ _)) Hgs.out Hbds.out.1 (by have := Hbds.out.2; omega)).mono ?_; rintro e w5 ⟨rfl, hb2⟩; rw [Hxe.out]))
              have b5 : Below wr.heap.size wr w5 := by have h : w5.cell? ⟨w.heap.size, 0, none⟩ = some (.int .i64 lo) ∧ Below wr.heap.size wr w5 := by assumption
                                                       exact h.2
              have b35 : Below w3.heap.size w3 w5 := hb.trans (b5.mono hb.size)
              have Hrd5 := hide ((hrd.out.below b5).more b5.size)
            · clear hc
              go_wp2_with fail
              refine ⟨⟨k + 1, st, A', c', by omega, by go_num, rfl, rfl, hide ?_, Hrd5, b35⟩, by simp [intOf]; omega⟩
              rw [cleanFold_succ, ← hst.out, cleanStep, Hxe.out]
              have : ¬ want ≤ x := by omega
              simp [this]
            · have hxw : want ≤ x := by omega
              clear hc
              rcases st with _ | bb
              · go_wp2_with (go_at_call 56; refine (places_any k _ Hk.out).mono ?_; rintro e w6 ⟨v6, rfl, hown6, hb6⟩; obtain ⟨A6, c6, rfl, hrd6⟩ := hown6.rd; have Hrd6 := hide hrd6; clear hrd6 hown6)
                refine ⟨⟨k + 1, some (mem k 12), A6, c6, by omega, by go_num, rfl, rfl, hide ?_, Hrd6, b35.trans (hb6.mono b35.size)⟩, by simp [intOf]; omega⟩
                rw [cleanFold_succ, ← hst.out, cleanStep, Hxe.out]
                simp [better, hxw]
              · have hstep : cleanFold g lo want (k + 1) = if better (mem k 12) (some bb) = true then some (mem k 12) else some bb := by
                  rw [cleanFold_succ, ← hst.out, cleanStep, Hxe.out]
                  simp [hxw]
                have Hstep := hide hstep; clear hstep
                by_cases l1 : (mem k 12).length < bb.length
                · go_wp2_with (go_at_call 56; refine (places_any k _ Hk.out).mono ?_; rintro e w6 ⟨v6, rfl, hown6, hb6⟩; obtain ⟨A6, c6, rfl, hrd6⟩ := hown6.rd; have Hrd6 := hide hrd6; clear hrd6 hown6)
                  refine ⟨⟨k + 1, some (mem k 12), A6, c6, by omega, by go_num, rfl, rfl, hide ?_, Hrd6, b35.trans (hb6.mono b35.size)⟩, by simp [intOf]; omega⟩
                  rw [Hstep.out]
                  simp [better, l1]
                · by_cases l2 : (mem k 12).length = bb.length
                  · have L2 := hide l2
                    have hbb : bb.length ≤ 12 := by omega
                    have t1 : (((mem k 12).length : Int) == (bb.length : Int)) = true := by simp [l2]
                    cases he : earl (mem k 12) bb
                    all_goals
                      have He := hide he; clear he l2
                      go_wp2_with (first | (go_at_call 56; refine (places_any k _ Hk.out).mono ?_; rintro e w6 ⟨v6, rfl, hown6, hb6⟩; obtain ⟨A6, c6, rfl, hrd6⟩ := hown6.rd; have Hrd6 := hide hrd6; clear hrd6 hown6) | (go_at_call 57; refine (earlier_any _ _ (mem k 12) bb _ _ _ _ _ rfl rfl L2.out (by omega) Hrd6.out ((Hrd5.out.below hb6).more hb6.size)).mono ?_; rintro e w7 ⟨rfl, hb7⟩; rw [He.out]))
                      first
                        | (refine ⟨⟨k + 1, some (mem k 12), A6, c6, by omega, by go_num, rfl, rfl, hide ?_, hide (Hrd6.out.below hb7 |>.more hb7.size), b35.trans ((hb6.mono b35.size).trans (hb7.mono (Nat.le_trans b35.size hb6.size)))⟩, by simp [intOf]; omega⟩
                           rw [Hstep.out]
                           have h2 := L2.out
                           simp [better, He.out, h2]; done)
                        | (refine ⟨⟨k + 1, some bb, A', c', by omega, by go_num, rfl, rfl, hide ?_, hide (((Hrd5.out.below hb6).more hb6.size).below hb7 |>.more hb7.size), b35.trans ((hb6.mono b35.size).trans (hb7.mono (Nat.le_trans b35.size hb6.size)))⟩, by simp [intOf]; omega⟩
                           rw [Hstep.out]
                           have h2 := L2.out
                           simp [better, He.out, h2]; done)
                  · have t1 : (((mem k 12).length : Int) == (bb.length : Int)) = false := by simp; omega
                    have L2 := hide l2; clear l2
                    go_wp2_with (go_at_call 56; refine (places_any k _ Hk.out).mono ?_; rintro e w6 ⟨v6, rfl, hown6, hb6⟩; obtain ⟨A6, c6, rfl, hrd6⟩ := hown6.rd; have Hrd6 := hide hrd6; clear hrd6 hown6)
                    refine ⟨⟨k + 1, some bb, A', c', by omega, by go_num, rfl, rfl, hide ?_, hide ((Hrd5.out.below hb6).more hb6.size), b35.trans (hb6.mono b35.size)⟩, by simp [intOf]; omega⟩
                    rw [Hstep.out]
                    simp [better, l1, L2.out]
          · obtain rfl : k = p := by omega
            have herr : cleanErr g ⟨lo, hi⟩ want = if st.isSome then 0 else 6 := by
              simp only [cleanErr, Hg.out, Hs.out, Ht.out, if_true, ← Hp.out, ← hst.out]
            have hL : cleanL g ⟨lo, hi⟩ want = if st.isSome then st.getD [] else [] := by
              unfold cleanL
              rw [herr]
              simp only [← Hp.out, ← hst.out]
              cases st <;> simp
            have Herr := hide herr; have HL := hide hL
            clear herr hL hc
            rcases st with _ | bb
            · go_wp2_with fail
              go_ret2
              refine ⟨none, 0, ?_, ?_, bwr⟩
              · simp [HL.out, Herr.out]
              · simp [HL.out, Rd.nil]
            · go_wp2_with fail
              go_ret2
              refine ⟨A', c', ?_, ?_, bwr⟩
              · simp [HL.out, Herr.out]
              · have := hrd.out
                simpa [HL.out] using this
end Go.Proofs.Ytkmocikcohhdoaa
namespace Go.Proofs.Ytkmocikcohhdoaa
open Go.RowKit Go.Shelf

theorem cmpL_earl : ∀ (a b : List Int), a.length = b.length → decide (cmpL a b < 0) = earl a b
  | [], [], _ => by simp [cmpL, earl]
  | x :: s, y :: t, h => by
    simp only [cmpL, earl, cmpI]
    by_cases h1 : x < y
    · have h2 : ¬ x = y := by omega
      simp [h1, h2]
    · by_cases h2 : y < x
      · have h3 : ¬ x = y := by omega
        simp [h1, h2, h3]
      · have h3 : x = y := by omega
        subst h3
        simpa using cmpL_earl s t (by simpa using h)
theorem mem_all (s n : Nat) (hs : s < 2 ^ n) (m : Nat) (h : n ≤ m) : mem s m = mem s n := by
  induction m with
  | zero => obtain rfl : n = 0 := by omega
            rfl
  | succ m ih =>
    by_cases hm : n = m + 1
    · rw [hm]
    · have hsm : s < 2 ^ m := Nat.lt_of_lt_of_le hs (Nat.pow_le_pow_right (by omega) (by omega))
      rw [mem_succ, ih (by omega), Nat.testBit_lt_two_pow hsm]
      simp
/-- The number that the fewest so far is told as. -/
def fewOf (g : List Rc) : Option (List Int) → Int
  | none => g.length + 1
  | some b => b.length
theorem endF_snoc (l : List Rc) (r : Rc) (n : Int) : endF (l ++ [r]) n = leastF r (endF l n) := by simp [endF]
theorem endF_bd (l : List Rc) (n : Int) (h : ∀ r ∈ l, r.small) (h0 : 0 ≤ n) (h1 : n ≤ 26000000) : 0 ≤ endF l n ∧ endF l n ≤ 26000000 := by
  induction l generalizing n with
  | nil => exact ⟨h0, h1⟩
  | cons r l ih =>
    have := leastF_bd r n (h r (by simp)) h0
    exact ih (leastF r n) (fun x hx => h x (by simp [hx])) this.1 this.2

set_option maxRecDepth 100000 in
set_option maxHeartbeats 4000000 in
theorem clean_any (A : Option Addr) (g : List Rc) (n c : Nat) (lo hi want : Int) (w : World) (hn : n = g.length) (hm : n ≤ 20) (hx : Rd w w.heap.size Rc.cells A g) :
    Calls Try.prog 15 #[.slice A n c, .agg #[.int .i64 lo, .int .i64 hi], .int .i64 want] w (CleanPost g ⟨lo, hi⟩ want w) := by
  subst hn
  obtain ⟨w1, hw1⟩ : ∃ w1, w1 = w.alloc (.cells #[.int .i64 lo, .int .i64 hi] 24) := ⟨_, rfl⟩
  have b1 : Below w.heap.size w w1 := by rw [hw1]; exact below_new w _
  have s1 : w1.heap.size = w.heap.size + 1 := by rw [hw1]; simp
  have q0 : w1.cell? ⟨w.heap.size, 0, none⟩ = some (.int .i64 lo) := by rw [hw1]; exact cell_new _ _ _ 0 _ rfl
  have q1 : w1.cell? ⟨w.heap.size, 1, none⟩ = some (.int .i64 hi) := by rw [hw1]; exact cell_new _ _ _ 1 _ rfl
  have HE := hide (enter_any A none g lo hi [] g.length c 0 0 w1 rfl (by omega) ((hx.below b1).more b1.size) rfl (by omega) (Rd.nil _ _ _ _))
  have Hx := hide (fun W (hb : Below w.heap.size w W) => (hx.below hb).more hb.size)
  clear hx
  have Hw1 := hide hw1.symm; clear hw1
  have okbad : anyBad 1000000 [⟨lo, hi⟩] = !(Sp.ok 0 1000000 ⟨lo, hi⟩) := by
    rw [Bool.eq_iff_iff]; simp only [anyBad, List.any_cons, List.any_nil, Bool.or_false, Sp.bad, Sp.ok, Bool.or_eq_true, decide_eq_true_eq, Bool.not_eq_true', Bool.and_eq_false_iff, decide_eq_false_iff_not]; omega
  have hee : gEnter g ⟨lo, hi⟩ [] = if gOk g then (if Sp.ok 0 1000000 ⟨lo, hi⟩ then 0 else 21) else 20 := by
    simp only [gEnter, okbad]
    cases gOk g <;> cases Sp.ok 0 1000000 ⟨lo, hi⟩ <;> simp [gasBad]
  have Hq0 := hide q0; have Hq1 := hide q1; clear okbad
  cases he : (gOk g && Sp.ok 0 1000000 ⟨lo, hi⟩)
  · have h1 : gEnter g ⟨lo, hi⟩ [] ≠ 0 := by
      rw [hee]
      cases hg : gOk g <;> cases hs : Sp.ok 0 1000000 ⟨lo, hi⟩ <;> simp [hg, hs] at he ⊢
    have h2 : cleanErr g ⟨lo, hi⟩ want = gEnter g ⟨lo, hi⟩ [] := by
      rw [hee]
      cases hg : gOk g <;> cases hs : Sp.ok 0 1000000 ⟨lo, hi⟩ <;> simp [hg, hs, cleanErr] at he ⊢
    generalize gEnter g ⟨lo, hi⟩ [] = ee at h1 h2 HE
    have h3 : (ee == 0) = false := by simpa using h1
    have h4 : (ee != 0) = true := by simpa using h1
    have H1 := hide h1; have H2 := hide h2; clear h1 h2 he hee
    go_enter Try.func15, Try.ntmps15
    go_wp2_with fail
    rw [Hw1.out]
    go_wp2_with (go_at_call 51; refine HE.out.mono ?_; rintro e w2 ⟨rfl, b2⟩)
    go_ret2
    refine ⟨none, 0, ?_, ?_, b1.trans (b2.mono b1.size)⟩
    · simp [cleanL, H2.out, H1.out]
    · simp [cleanL, H2.out, H1.out, Rd.nil]
  · obtain ⟨hg, hs⟩ : gOk g = true ∧ Sp.ok 0 1000000 ⟨lo, hi⟩ = true := by simpa using he
    rw [hg, hs] at hee
    simp only [if_true] at hee
    rw [hee] at HE
    have Hg := hide hg; have Hs := hide hs; clear hg hs hee he q1 q0
    cases ht : inB 0 13000000 want
    · have Ht := hide ht; clear ht
      go_enter Try.func15, Try.ntmps15
      go_wp2_with fail
      have q0 := Hq0.out; have q1 := Hq1.out
      rw [Hw1.out]
      go_wp2_with (first | (go_at_call 51; refine HE.out.mono ?_; rintro e w2 ⟨rfl, b2⟩) | (go_at_call 52; refine (from_any _ _ _ _).mono ?_; rintro e w' ⟨rfl, rfl⟩; rw [Ht.out]))
      go_ret2
      refine ⟨none, 0, ?_, ?_, b1.trans (b2.mono b1.size)⟩
      · simp [cleanL, cleanErr, Hg.out, Hs.out, Ht.out]
      · simp [cleanL, cleanErr, Hg.out, Hs.out, Ht.out, Rd.nil]
    · have Ht := hide ht; clear ht
      go_enter Try.func15, Try.ntmps15
      go_wp2_with fail
      have q0 := Hq0.out; have q1 := Hq1.out
      rw [Hw1.out]
      go_wp2_with fail
      refine HE.out.mono ?_; rintro e w2 ⟨rfl, b2⟩
      have q2 : w2.cell? ⟨w.heap.size, 0, none⟩ = some (.int .i64 lo) := (b2.cell (p := ⟨w.heap.size, 0, none⟩) (by simp; omega)).trans q0
      have bw2 : Below w.heap.size w w2 := b1.trans (b2.mono b1.size)
      have s2 : w.heap.size < w2.heap.size := by have := b2.size; omega
      have Hq2 := hide q2
      clear q0 q1 q2
      have hk12 : g.length ≤ 12 := by have := Hg.out; simp [gOk, inB] at this; omega
      obtain ⟨p, hp⟩ : ∃ p, p = 2 ^ g.length := ⟨_, rfl⟩
      have hpw := pow_wrap g.length hk12 p hp
      have hp4 : p ≤ 4096 := by rw [hp]; exact Nat.pow_le_pow_right (n := 2) (by omega) hk12
      have Hp := hide hp; clear hp
      go_wp2_with (go_at_call 52; refine (from_any _ _ _ _).mono ?_; rintro e w' ⟨rfl, rfl⟩; rw [Ht.out])
      rw [hpw]
      clear hpw
      go_loopw [9, 10, 31] (fun b f i wr => ∃ (k : Nat) (st : Option (List Int)) (A' : Option Addr) (c' : Nat), k ≤ p ∧ i = .int .i64 k ∧ b = .slice A' (st.getD []).length c' ∧ f = .int .i64 (fewOf g st) ∧ Hid (st = cleanFold g lo want k) ∧ Hid (∀ b, st = some b → b.length ≤ g.length) ∧ Hid (Rd wr wr.heap.size icell A' (st.getD [])) ∧ Below w2.heap.size w2 wr) (fun _ _ i _ => p - (intOf i).toNat)
      case atStart => exact ⟨0, none, none, 0, Nat.zero_le _, rfl, rfl, rfl, hide rfl, hide (by simp), hide (Rd.nil _ _ _ _), Below.refl _ _⟩
      case round =>
        obtain ⟨k, st, A', c', hk, rfl, rfl, rfl, hst, hlen, hrd, hb⟩ := hrel
        have hc : wr.cell? ⟨w.heap.size, 0, none⟩ = some (.int .i64 lo) := (hb.cell (p := ⟨w.heap.size, 0, none⟩) s2).trans Hq2.out
        have sr : w.heap.size < wr.heap.size := Nat.lt_of_lt_of_le s2 hb.size
        have bwr : Below w.heap.size w wr := bw2.trans (hb.mono bw2.size)
        have bds : 0 ≤ lo ∧ lo ≤ 1000000 := by have := Hs.out; simp [Sp.ok] at this; omega
        have hgs : ∀ r ∈ cleanTo g k g.length, r.small := cleanTo_small g k (gOk_small Hg.out)
        have Hgs := hide hgs; have Hbds := hide bds; clear hgs bds
        by_cases hlt : k < p
        · have Hk := hide (show k < 65536 by omega)
          have hkp : k < 2 ^ g.length := by rw [← Hp.out]; exact hlt
          have Hkp := hide hkp; clear hkp
          go_wp2_with fail
          obtain ⟨wo, rfl⟩ : ∃ wo : World, wo = wr := ⟨_, rfl⟩
          go_loopw [12, 13, 38] (fun l x i wr => ∃ (j : Nat) (y : Int), j ≤ g.length ∧ i = .int .i64 j ∧ x = .int .i64 y ∧ 0 ≤ y ∧ y ≤ 26000000 ∧ Hid (y = endF ((cleanTo g k g.length).take j) lo) ∧ Own wr wo.heap.size 3 1 icell l (mem k j) ∧ Below wo.heap.size wo wr) (fun _ _ i _ => g.length - (intOf i).toNat)
          case atStart => exact ⟨0, lo, Nat.zero_le _, rfl, rfl, Hbds.out.1, by have := Hbds.out.2; omega, hide (by simp [endF]), Own.nil _ _ _ _ _, Below.refl _ _⟩
          case round =>
            obtain ⟨j, y, hj, rfl, rfl, hy0, hy1, hy, hown, hbi⟩ := hrel
            have Hown := hide hown; clear hown
            by_cases hjlt : j < g.length
            · have hri := Hx.out wr (bwr.trans (hbi.mono bwr.size))
              obtain ⟨b, off, c0, c1, l0, l1, g0, g1, rfl, hB, hxk, d0, d1, d2, d3, d4, d5⟩ := hri.rc (i := j) hjlt
              have ht2 := bit_test k j Hk.out
              have hsm := gOk_small Hg.out _ (List.mem_of_getElem? hxk)
              obtain ⟨⟨m1, m2⟩, ⟨m3, m4⟩, ⟨m5, m6⟩⟩ := hsm
              simp only at m1 m2 m3 m4 m5 m6
              have hcl := cleanTo_get g k g.length hxk
              have sri : wr.heap.size < (wr.alloc (.cells #[.int .i64 c0, .int .i64 c1, .int .i64 l0, .int .i64 l1, .int .i64 g0, .int .i64 g1] 96)).heap.size := by simp
              cases hq : k.testBit j
              · rw [hq] at ht2
                rw [if_neg (by simp [hq])] at hcl
                have hbd := leastF_bd ⟨⟨c0, c1⟩, ⟨l0, l1⟩, ⟨g0, g1⟩⟩ y ⟨⟨m1, m2⟩, ⟨m3, m4⟩, ⟨m5, m6⟩⟩ hy0
                have Hq := hide hq; have Hcl := hide hcl; have Hbd := hide hbd
                clear hxk hri hq hcl hbd
                go_wp2_with (go_at_call 53; refine (least_any _ _ _ _ _ _ _ _ ⟨hy0, by omega⟩ ⟨m1, by omega⟩ ⟨m3, by omega⟩ ⟨m5, by omega⟩).mono ?_; rintro e w4 ⟨rfl, b4⟩)
                have b14 : Below wr.heap.size wr w4 := ((below_new wr _).trans (b4.mono (by simp)))
                refine ⟨⟨j + 1, _, by omega, by go_num, rfl, Hbd.out.1, Hbd.out.2, hide ?_, by rw [mem_succ, Hq.out]; simpa using Hown.out.below b14, hbi.trans (b14.mono hbi.size)⟩, by simp [intOf]; omega⟩
                rw [take_snoc Hcl.out, endF_snoc, ← hy.out]
              · rw [hq] at ht2
                rw [if_pos ⟨hjlt, hq⟩] at hcl
                have hbd := leastF_bd (Rc.clean ⟨⟨c0, c1⟩, ⟨l0, l1⟩, ⟨g0, g1⟩⟩) y ⟨⟨by simp [Rc.clean], by simp [Rc.clean]⟩, ⟨m3, m4⟩, ⟨m5, m6⟩⟩ hy0
                have Hq := hide hq; have Hcl := hide hcl; have Hbd := hide hbd
                have Hml := hide (mem_len k j)
                clear hxk hri hq hcl hbd
                obtain ⟨wb, hwb⟩ : ∃ wb, wb = (wr.alloc (.cells #[.int .i64 13000000, .int .i64 13000000, .int .i64 l0, .int .i64 l1, .int .i64 g0, .int .i64 g1] 96)).alloc (.cells #[.int .i64 j] 3) := ⟨_, rfl⟩
                have bb : Below wr.heap.size wr wb := by rw [hwb]; exact (below_new wr _).alloc (by simp) _
                have hob : Own wb wo.heap.size 3 1 icell u12 (mem k j) := Hown.out.below bb
                have hrb : Rd wb wb.heap.size icell (some ⟨wr.heap.size + 1, 0, none⟩) [(j : Int)] := by
                  rw [hwb]
                  have := Rd.new (cells := icell) (wr.alloc (.cells #[.int .i64 13000000, .int .i64 13000000, .int .i64 l0, .int .i64 l1, .int .i64 g0, .int .i64 g1] 96)) #[.int .i64 j] 3 [(j : Int)] rfl
                  rw [World.size_alloc] at this
                  exact this.more (by simp)
                have hcb : ∀ i v, (#[Value.int .i64 13000000, .int .i64 13000000, .int .i64 l0, .int .i64 l1, .int .i64 g0, .int .i64 g1] : Array Value)[i]? = some v → wb.cell? ⟨wr.heap.size, i, none⟩ = some v := fun i v hv => by
                  rw [hwb]
                  exact (World.cell?_alloc_lt _ _ _ (by simp)).trans (cell_new wr _ _ i v hv)
                have hub : ∀ g', u12.ownBlock = some g' → g' < wr.heap.size := fun g' hg' => (World.ownsRow.lt Hown.out g' hg').2
                have szb : wb.heap.size = wr.heap.size + 2 := by rw [hwb]; simp
                have Hwb := hide hwb.symm; have Hob := hide hob; have Hrb := hide hrb; have Hcb := hide hcb; have Hub := hide hub
                clear hwb hob hrb hcb hub
                go_wp2_with (at_builtin; rw [Hwb.out]; refine appl_int rfl _ (.tmp 50) (.tmp 52) rfl wo.heap.size u12 (mem k j) rfl Hob.out _ _ 1 1 [(j : Int)] rfl rfl Hrb.out (by have := Hml.out; simp; omega) (Nat.le_trans hbi.size bb.size) ?_; intro v4 w4 hown4 hg4; have kc := fun i v hv => World.grownBy.cell hg4 (Hcb.out i v hv) (fun e => Nat.lt_irrefl _ (Hub.out _ e.symm)); have k0 := kc 0 _ rfl; have k1 := kc 1 _ rfl; have k2 := kc 2 _ rfl; have k3 := kc 3 _ rfl; have k4 := kc 4 _ rfl; have k5 := kc 5 _ rfl; clear kc)
                refine (least_any _ _ _ _ _ _ _ _ ⟨hy0, by omega⟩ ⟨by omega, by omega⟩ ⟨m3, by omega⟩ ⟨m5, by omega⟩).mono ?_; rintro e w5 ⟨rfl, b5⟩
                have bi4 : Below wo.heap.size wo w4 := below_own Hob.out (hbi.trans (bb.mono hbi.size)) hg4 (Nat.le_trans hbi.size bb.size)
                have o5 := hide (Own.below hown4 b5)
                clear hown4 k0 k1 k2 k3 k4 k5
                go_wp2_with fail
                refine ⟨⟨j + 1, _, by omega, by go_num, rfl, Hbd.out.1, Hbd.out.2, hide ?_, by rw [mem_succ, Hq.out]; exact o5.out, bi4.trans (b5.mono bi4.size)⟩, by simp [intOf]; omega⟩
                rw [take_snoc Hcl.out, endF_snoc, ← hy.out]
                rfl
            · obtain rfl : j = g.length := by omega
              have hy' : y = endF (cleanTo g k g.length) lo := by rw [hy.out, List.take_of_length_le (by rw [cleanTo_len]; exact Nat.le_refl _)]
              have Hy' := hide hy'; clear hy'
              obtain ⟨Al, cl, rfl, hrl⟩ := Hown.out.rd
              have Hrl := hide hrl; clear hrl hc
              have hml : (mem k g.length).length ≤ 12 := Nat.le_trans (mem_len _ _) hk12
              have hstep : cleanFold g lo want (k + 1) = if decide (want ≤ y) && better (mem k g.length) st then some (mem k g.length) else st := by
                rw [cleanFold_succ, ← hst.out, cleanStep, ← Hy'.out, mem_all k g.length Hkp.out 12 hk12]
              have Hstep := hide hstep; clear hstep
              have hbr : Below w2.heap.size w2 wr := hb.trans (hbi.mono hb.size)
              have Hrdr := hide ((hrd.out.below hbi).more hbi.size)
              have Hlen' := hide (show ∀ b, some (mem k g.length) = some b → b.length ≤ g.length from fun b hb => by injection hb with hb; rw [← hb]; exact mem_len _ _)
              by_cases hw : want ≤ y
              · have Hw := hide (show decide (want ≤ y) = true by simpa using hw)
                rcases st with _ | bb
                · have l1 : ((mem k g.length).length : Int) < fewOf g none := by have := mem_len k g.length; simp only [fewOf]; omega
                  go_wp2_with fail
                  refine ⟨⟨k + 1, some (mem k g.length), Al, cl, by omega, by go_num, rfl, rfl, hide ?_, Hlen', Hrl, hbr⟩, by simp [intOf]; omega⟩
                  rw [Hstep.out]
                  simp [better, hw]
                · have hf : fewOf g (some bb) = (bb.length : Int) := rfl
                  have hbl : bb.length ≤ 12 := Nat.le_trans (hlen.out bb rfl) hk12
                  by_cases l1 : (mem k g.length).length < bb.length
                  · go_wp2_with fail
                    refine ⟨⟨k + 1, some (mem k g.length), Al, cl, by omega, by go_num, rfl, rfl, hide ?_, Hlen', Hrl, hbr⟩, by simp [intOf]; omega⟩
                    rw [Hstep.out]
                    simp [better, hw, l1]
                  · by_cases l2 : (mem k g.length).length = bb.length
                    · have t1 : (((mem k g.length).length : Int) == (bb.length : Int)) = true := by simp [l2]
                      have hce := cmpL_earl (mem k g.length) bb l2
                      have L2 := hide l2; clear l2
                      by_cases hcm : cmpL (mem k g.length) bb < 0
                      · have Hce := hide (show earl (mem k g.length) bb = true by rw [← hce]; simpa using hcm)
                        clear hce
                        go_wp2_with (go_at_call 54; refine (compare_any _ _ (mem k g.length) bb _ _ _ _ _ rfl rfl (by omega) (by omega) Hrl.out Hrdr.out).mono ?_; rintro e w' ⟨rfl, rfl⟩)
                        refine ⟨⟨k + 1, some (mem k g.length), Al, cl, by omega, by go_num, rfl, rfl, hide ?_, Hlen', Hrl, hbr⟩, by simp [intOf]; omega⟩
                        rw [Hstep.out]
                        have h2 := L2.out
                        simp [better, hw, Hce.out, h2]
                      · have Hce := hide (show earl (mem k g.length) bb = false by rw [← hce]; simpa using hcm)
                        clear hce
                        go_wp2_with (go_at_call 54; refine (compare_any _ _ (mem k g.length) bb _ _ _ _ _ rfl rfl (by omega) (by omega) Hrl.out Hrdr.out).mono ?_; rintro e w' ⟨rfl, rfl⟩)
                        refine ⟨⟨k + 1, some bb, A', c', by omega, by go_num, rfl, rfl, hide ?_, hlen, Hrdr, hbr⟩, by simp [intOf]; omega⟩
                        rw [Hstep.out]
                        have h2 := L2.out
                        simp [better, hw, Hce.out, h2]
                    · have t1 : (((mem k g.length).length : Int) == (bb.length : Int)) = false := by simp; omega
                      have L2 := hide l2; clear l2
                      go_wp2_with fail
                      refine ⟨⟨k + 1, some bb, A', c', by omega, by go_num, rfl, rfl, hide ?_, hlen, Hrdr, hbr⟩, by simp [intOf]; omega⟩
                      rw [Hstep.out]
                      simp [better, l1, L2.out]
              · go_wp2_with fail
                refine ⟨⟨k + 1, st, A', c', by omega, by go_num, rfl, rfl, hide ?_, hlen, Hrdr, hbr⟩, by simp [intOf]; omega⟩
                rw [Hstep.out]
                simp [hw]
        · obtain rfl : k = p := by omega
          have herr : cleanErr g ⟨lo, hi⟩ want = if st.isSome then 0 else 6 := by
            simp only [cleanErr, Hg.out, Hs.out, Ht.out, if_true, ← Hp.out, ← hst.out]
          have hL : cleanL g ⟨lo, hi⟩ want = if st.isSome then st.getD [] else [] := by
            unfold cleanL
            rw [herr]
            simp only [← Hp.out, ← hst.out]
            cases st <;> simp
          have Herr := hide herr; have HL := hide hL
          clear herr hL hc
          rcases st with _ | bb
          · have hf : fewOf g none = (g.length : Int) + 1 := rfl
            go_wp2_with fail
            go_ret2
            refine ⟨none, 0, ?_, ?_, bwr⟩
            · simp [HL.out, Herr.out]
            · simp [HL.out, Rd.nil]
          · have hf : fewOf g (some bb) = (bb.length : Int) := rfl
            have hbl := hlen.out bb rfl
            go_wp2_with fail
            go_ret2
            refine ⟨A', c', ?_, ?_, bwr⟩
            · simp [HL.out, Herr.out]
            · have := hrd.out
              simpa [HL.out] using this
end Go.Proofs.Ytkmocikcohhdoaa
