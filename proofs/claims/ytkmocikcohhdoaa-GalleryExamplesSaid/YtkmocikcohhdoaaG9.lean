/- The reference of the gallery: Cleaned, by contracts. -/
import Derived.Test.YtkmocikcohhdoaaG8
import Derived.Test.YtkmocikcohhdoaaG7
set_option linter.unusedVariables false
set_option linter.unusedSimpArgs false
namespace Go.Proofs.Ytkmocikcohhdoaa
open Go.RowKit Go.Shelf

/-- A reach that is cleaned. -/
def Rc.clean (r : Rc) : Rc := ⟨⟨13000000, 13000000⟩, r.leak, r.gain⟩
/-- A gallery with those of the first k reaches cleaned that a set holds. -/
def cleanTo (g : List Rc) (s k : Nat) : List Rc := g.mapIdx fun i r => if i < k ∧ s.testBit i = true then r.clean else r
theorem cleanTo_len (g : List Rc) (s k : Nat) : (cleanTo g s k).length = g.length := by simp [cleanTo]
theorem cleanTo_zero (g : List Rc) (s : Nat) : cleanTo g s 0 = g := by
  apply List.ext_getElem?
  intro i
  simp [cleanTo, List.getElem?_mapIdx]
theorem cleanTo_get (g : List Rc) (s k : Nat) {i : Nat} {r : Rc} (h : g[i]? = some r) : (cleanTo g s k)[i]? = some (if i < k ∧ s.testBit i = true then r.clean else r) := by
  simp [cleanTo, List.getElem?_mapIdx, h]
theorem cleanTo_no (g : List Rc) (s k : Nat) (h : s.testBit k = false) : cleanTo g s (k + 1) = cleanTo g s k := by
  apply List.ext_getElem?
  intro i
  simp only [cleanTo, List.getElem?_mapIdx]
  congr 1
  funext r
  by_cases hi : i = k
  · subst hi; simp [h]
  · have : (i < k + 1) = (i < k) := by apply propext; omega
    simp [this]
theorem cleanTo_yes (g : List Rc) (s k : Nat) {r : Rc} (hr : g[k]? = some r) (h : s.testBit k = true) : cleanTo g s (k + 1) = (cleanTo g s k).set k r.clean := by
  obtain ⟨hk, rfl⟩ := List.getElem?_eq_some_iff.1 hr
  apply List.ext_getElem?
  intro i
  rw [List.getElem?_set, cleanTo_len, cleanTo, List.getElem?_mapIdx]
  by_cases hi : k = i
  · subst hi; simp [h, hk]
  · rw [if_neg hi, cleanTo, List.getElem?_mapIdx]
    congr 1
    funext r
    have : (i < k + 1) = (i < k) := by apply propext; omega
    simp [this]

set_option maxRecDepth 100000 in
set_option maxHeartbeats 1000000 in
theorem cleaned_any (A : Option Addr) (g : List Rc) (n c s : Nat) (w : World) (hn : n = g.length) (hm : n ≤ 20) (hx : Rd w w.heap.size Rc.cells A g) (hs : s < 65536) :
    Calls Try.prog 46 #[.slice A n c, .int .i64 s] w fun e w' => ∃ v, e = .returned v ∧ Own w' w.heap.size 96 6 Rc.cells v (cleanTo g s g.length) ∧ Below w.heap.size w w' := by
  subst hn
  have Hs := hide hs; clear hs
  have h0 : Own (w.alloc (.cells #[] 96)) w.heap.size 96 6 Rc.cells (.slice (some ⟨w.heap.size, 0, none⟩) 0 0) [] := World.ownsRow_made w #[] 0 (Nat.le_refl _) (by simp [maxLen]) (by simp)
  have H0 := hide h0; clear h0
  have Hx := hide ((hx.below (below_new w (.cells #[] 96))).more (B' := (w.alloc (.cells #[] 96)).heap.size) (by simp)); clear hx
  go_enter Try.func46, Try.ntmps46
  go_wp2_with (at_builtin; refine appl_Rc rfl _ (.tmp 7) (.tmp 8) rfl w.heap.size _ [] rfl H0.out _ A g.length c g rfl rfl Hx.out (by simp; omega) (by simp) ?_; intro v1 w1 hown1 hg1)
  have hb1 := below_own H0.out (below_new w (.cells #[] 96)) hg1 (by simp)
  rw [List.nil_append] at hown1
  have Hown := hide hown1; clear hown1 H0
  clear hg1
  obtain ⟨A1, c1, rfl, hrd⟩ := Hown.out.rd
  clear hrd
  go_loopw [6] (fun i wr => ∃ (k : Nat), k ≤ g.length ∧ i = .int .i64 k ∧ Below w.heap.size w wr ∧ Own wr w.heap.size 96 6 Rc.cells (.slice A1 g.length c1) (cleanTo g s k)) (fun i _ => g.length - (intOf i).toNat)
  case atStart => exact ⟨0, by omega, rfl, hb1, by rw [cleanTo_zero]; exact Hown.out⟩
  case round =>
    obtain ⟨k, hk, rfl, hb, hown⟩ := hrel
    have Hown2 := hide hown
    by_cases hlt : k < g.length
    · have ht := bit_test s k Hs.out
      have hlen := hlt
      have hxk : g[k]? = some g[k] := List.getElem?_eq_getElem hlen
      generalize g[k] = r at hxk
      have hxk' := cleanTo_get g s k hxk
      rw [if_neg (by omega)] at hxk'
      obtain ⟨gb, cap, hv, _⟩ := World.ownsRow.form hown (by rw [cleanTo_len]; omega)
      obtain rfl : A1 = some ⟨gb, 0, none⟩ := by injection hv
      have hgb := (World.ownsRow.lt hown gb rfl)
      clear hv hown
      have hput1 := Own.put_ Rc.len Hown2.out (i := k) (j := 0) (x' := ⟨⟨13000000, r.cap.hi⟩, r.leak, r.gain⟩) (u := .int .i64 13000000) hxk' (by omega) rfl (by rw [cleanTo_len])
      obtain ⟨o1, ⟨v1, d1⟩, f1⟩ := hput1
      have hput2 := Own.put_ Rc.len o1 (i := k) (j := 1) (x := ⟨⟨13000000, r.cap.hi⟩, r.leak, r.gain⟩) (x' := r.clean) (u := .int .i64 13000000) (by rw [List.getElem?_set_self (by rw [cleanTo_len]; exact hlen)]) (by omega) rfl (by simp [cleanTo_len])
      obtain ⟨o2, ⟨v2, d2⟩, f2⟩ := hput2
      rw [List.set_set] at o2
      simp only [Nat.add_zero] at d1 f1 o2 d2 f2
      have Ho2 := hide o2; have Hxk := hide hxk
      clear o1 o2 hxk hxk'
      cases hq : s.testBit k
      · rw [hq] at ht
        have Hq := hide hq; clear hq
        go_wp2_with fail
        exact ⟨⟨k + 1, by omega, by go_num, hb, by rw [cleanTo_no g s k Hq.out]; exact Hown2.out⟩, by simp [intOf]; omega⟩
      · rw [hq] at ht
        have Hq := hide hq; clear hq
        go_wp2_with fail
        exact ⟨⟨k + 1, by omega, by go_num, (hb.setCell (p := ⟨gb, k * 6, none⟩) hgb.1 _).setCell (p := ⟨gb, k * 6 + 1, none⟩) hgb.1 _, by rw [cleanTo_yes g s k Hxk.out Hq.out]; exact Ho2.out⟩, by simp [intOf]; omega⟩
    · clear hown
      go_wp2_with fail
      go_ret
      exact ⟨_, rfl, by have := Hown2.out; rwa [show k = g.length by omega] at this, hb⟩
end Go.Proofs.Ytkmocikcohhdoaa
