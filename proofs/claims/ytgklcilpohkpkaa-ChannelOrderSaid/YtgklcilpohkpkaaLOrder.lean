/- ChannelOrder: no other order gives more for sure, and what is told is what the order gives: the law returns true for every net, flow, turns and another order. No conditions. -/
import Derived.Test.YtgklcilpohkpkaaP2
import Derived.Test.YtgklcilpohkpkaaMk
import Derived.Test.YtgklcilpohkpkaaA3
import Derived.Test.YtgklcilpohkpkaaOpenU
import Derived.Carry
import Derived.Deep.QuietTactic
import Derived.BigQuiet
import Derived.BigRegion
set_option linter.unusedVariables false
set_option linter.unusedSimpArgs false
namespace Go.Proofs.Ytgklcilpohkpkaa
open Go.RowKit Go.Shelf Go.WideShapes Go.ChangeShapes Go.ChangeAt
attribute [local go_sem ↓] Go.wp_at_zero Go.wp_at_succ
def u8cell (n : Nat) : List Value := [.int .u8 (n : Int)]
theorem u8cell_len (n : Nat) : (u8cell n).length = 1 := rfl
theorem Rd.u8 {w : World} {B : Nat} {A : Option Addr} {xs : List Nat} (h : Rd w B u8cell A xs) {i : Nat} (hi : i < xs.length) :
    ∃ b off n, A = some ⟨b, off, none⟩ ∧ b < B ∧ xs[i]? = some n ∧ w.cell? ⟨b, off + i, none⟩ = some (.int .u8 (n : Int)) := by
  obtain ⟨b, off, e, hB, hc⟩ := h (by omega)
  have hx : xs[i]? = some xs[i] := List.getElem?_eq_getElem hi
  have := flat_get u8cell_len hx (j := 0) (by omega)
  simp only [Nat.mul_one, Nat.add_zero] at this
  exact ⟨b, off, _, e, hB, hx, hc _ _ this⟩
theorem ready_parts {cs : List Ca} {fs : List Int} {dry days a b : Int} {us : List Us} (h : readyB cs fs dry days a b us = true) : cs.length ≤ 24 ∧ fs.length ≤ 18 ∧ netOk cs fs dry days = true ∧ usesOk fs.length days us = true ∧ Sp.ok 0 13000000 ⟨a, b⟩ = true := by
  simp only [readyB, great, Bool.and_eq_true, Bool.not_eq_true', Bool.or_eq_false_iff, decide_eq_false_iff_not] at h
  obtain ⟨⟨⟨h1, h2⟩, h3⟩, h4, h5, h6⟩ := h
  exact ⟨by omega, by omega, h4, h5, h6⟩
theorem valO_pos {cs : List Ca} {fs fl ml : List Int} {dry days a b : Int} (hok : netOk cs fs dry days = true) (hsp : Sp.ok 0 13000000 ⟨a, b⟩ = true) (ht : turnsOk (fs.length : Int) (days * 1440) fl ml = true) {o : List Nat} (hn : o.Nodup) (hlt : ∀ k ∈ o, k < fl.length) (h6 : o.length ≤ 6) : 0 ≤ valO cs fs dry (days * 1440) a b fl ml o ∧ valO cs fs dry (days * 1440) a b fl ml o ≤ 1000000000000000 := by
  have h := (waters_sums (dry := dry) hok (row_ok ht o hn hlt h6) hsp).2 _ (Nat.le_refl _)
  rw [List.take_length] at h
  exact h.1
theorem ints_set (o : List Nat) (i v : Nat) : ints (o.set i v) = (ints o).set i (v : Int) := by unfold ints; rw [List.map_set]
theorem swap_perm {l : List Nat} {i j x y : Nat} (hx : l[i]? = some x) (hy : l[j]? = some y) : List.Perm ((l.set i y).set j x) l := by
  obtain ⟨h1, rfl⟩ := List.getElem?_eq_some_iff.1 hx
  obtain ⟨h2, rfl⟩ := List.getElem?_eq_some_iff.1 hy
  exact List.set_set_perm h1 h2
set_option maxHeartbeats 60000000 in
set_option maxRecDepth 100000 in
theorem order_walk (Ac Af Aff Am Ab : Option Addr) (nc cc nf cf nk cff nm cm nb cb : Nat) (dry days a b : Int) (cs : List Ca) (fs fl ml : List Int) (bl : List Nat) (w : World) (hnc : nc = cs.length) (hnf : nf = fs.length) (hnk : nk = fl.length) (hnm : nm = ml.length) (hnb : nb = bl.length) (hnb2 : nb ≤ 9223372036854775807)
    (hcs : Rd w w.heap.size Ca.cells Ac cs) (hfs : Rd w w.heap.size icell Af fs) (hF : Rd w w.heap.size icell Aff fl) (hM : Rd w w.heap.size icell Am ml) (hbl : Rd w w.heap.size u8cell Ab bl) (hb8 : ∀ x ∈ bl, x ≤ 255) :
    Calls Try.prog 11 #[.agg #[.slice Ac nc cc, .slice Af nf cf, .int .i64 dry, .int .i64 days], .agg #[.int .i64 a, .int .i64 b], .slice Aff nk cff, .slice Am nm cm, .slice Ab nb cb] w fun e w' => e = .returned (.bool true) ∧ Below w.heap.size w w' := by
  obtain ⟨W, HW⟩ : ∃ W, Hid ((((w.alloc (.cells #[.slice Ac nc cc, .slice Af nf cf, .int .i64 dry, .int .i64 days] 25)).alloc (.cells #[.int .i64 a, .int .i64 b] 51)).alloc (.cells #[.slice Aff nk cff] 23)).alloc (.cells #[.slice Am nm cm] 23) = W) := ⟨_, hide rfl⟩
  have xn : At W w.heap.size [.slice Ac nc cc, .slice Af nf cf, .int .i64 dry, .int .i64 days] := by rw [← HW.out]; exact (((At.new w #[.slice Ac nc cc, .slice Af nf cf, .int .i64 dry, .int .i64 days] _ _ rfl _ rfl).alloc _).alloc _).alloc _
  have xf : At W (w.heap.size + 1) [.int .i64 a, .int .i64 b] := by rw [← HW.out]; exact ((At.new _ #[.int .i64 a, .int .i64 b] _ _ (by simp) _ rfl).alloc _).alloc _
  have xx : At W (w.heap.size + 1 + 1) [.slice Aff nk cff] := by rw [← HW.out]; exact (At.new _ #[.slice Aff nk cff] _ _ (by simp) _ rfl).alloc _
  have xy : At W (w.heap.size + 1 + 1 + 1) [.slice Am nm cm] := by rw [← HW.out]; exact At.new _ #[.slice Am nm cm] _ _ (by simp) _ rfl
  have hB : Below w.heap.size w W := by rw [← HW.out]; exact (((below_new w _).alloc (by simp) _).alloc (by simp; omega) _).alloc (by simp; omega) _
  have rc := hcs.bel hB
  have rf := hfs.bel hB
  have rF := hF.bel hB
  have rM := hM.bel hB
  have rb := hbl.bel hB
  clear hcs hfs hF hM hbl
  have Hc := hide hnc; have Hf := hide hnf; have Hk := hide hnk; have Hm := hide hnm; have Hb := hide hnb; have Hb8 := hide hb8
  clear hnc hnf hnk hnm hnb hb8
  go_enter Try.func11, Try.ntmps11
  go_wp2_with fail
  rw [HW.out]
  clear HW
  refine (alive_any _).mono ?_
  rintro e w1 ⟨rfl, hb⟩
  replace xn := xn.bel hb
  replace xf := xf.bel hb
  replace xx := xx.bel hb
  replace xy := xy.bel hb
  replace rc := rc.bel hb
  replace rf := rf.bel hb
  replace rF := rF.bel hb
  replace rM := rM.bel hb
  replace rb := rb.bel hb
  replace hB := hB.trans (hb.mono hB.size)
  clear hb
  obtain ⟨q0, q1, q2, q3⟩ := xn.c4
  obtain ⟨p0, p1⟩ := xf.c2
  have k0 := xx.c1
  have k1 := xy.c1
  go_wp2_with fail
  refine (ready_any _ _ _ _ _ _ _ _ _ _ _ _ _ cs fs [] _ Hc.out Hf.out rc rf (Rd.nil _ _ _ _) rfl).mono ?_
  rintro e w2 ⟨rfl, hb⟩
  clear q0 q1 q2 q3 p0 p1 k0 k1
  replace rc := rc.bel hb
  replace rf := rf.bel hb
  replace xn := xn.bel hb
  replace xf := xf.bel hb
  replace xx := xx.bel hb
  replace xy := xy.bel hb
  replace rF := rF.bel hb
  replace rM := rM.bel hb
  replace rb := rb.bel hb
  replace hB := hB.trans (hb.mono hB.size)
  clear hb
  obtain ⟨q0, q1, q2, q3⟩ := xn.c4
  obtain ⟨p0, p1⟩ := xf.c2
  have k0 := xx.c1
  have k1 := xy.c1
  cases hr : readyB cs fs dry days a b []
  · clear hr
    go_wp2_with fail
    go_ret
    exact ⟨rfl, hB⟩
  have HR := hide hr
  clear hr
  by_cases h6 : 6 < nk
  · go_wp2_with fail
    go_ret
    exact ⟨rfl, hB⟩
  obtain ⟨hcl, hfl, hok, _, hsp⟩ := ready_parts HR.out
  have hd := (netOk_parts hok).2.2.2.1
  have n1 : NetAt w2 Ac Af nc nf cs fs := ⟨rc, rf, Hc.out, Hf.out, by have := Hc.out; omega, by have := Hf.out; omega⟩
  clear rc rf
  by_cases hne : nk = nm
  rotate_left
  · go_wp2_with fail
    refine (turns_ne _ _ _ _ _ _ _ _ _ _ _ _ _ _ _ hne).mono ?_
    rintro e w3 ⟨rfl, hb⟩
    go_wp2_with fail
    go_ret
    exact ⟨rfl, hB.trans (hb.mono hB.size)⟩
  have hnm6 : nm ≤ 6 := by omega
  have Hne := hide hne
  clear hne
  go_wp2_with fail
  refine (rTurns_any _ _ _ _ _ _ _ _ _ _ _ _ _ _ fl ml _ rF rM Hk.out Hm.out (by omega) (by omega) (by have := n1.nf2; omega) hd.1 hd.2).mono ?_
  rintro e w3 ⟨rfl, hb⟩
  clear q0 q1 q2 q3 p0 p1 k0 k1
  replace n1 := n1.bel hb
  replace xn := xn.bel hb
  replace xf := xf.bel hb
  replace xx := xx.bel hb
  replace xy := xy.bel hb
  replace rF := rF.bel hb
  replace rM := rM.bel hb
  replace rb := rb.bel hb
  replace hB := hB.trans (hb.mono hB.size)
  clear hb
  obtain ⟨q0, q1, q2, q3⟩ := xn.c4
  obtain ⟨p0, p1⟩ := xf.c2
  have k0 := xx.c1
  have k1 := xy.c1
  cases ht : turnsOk nf (days * 1440) fl ml
  · clear ht
    go_wp2_with fail
    go_ret
    exact ⟨rfl, hB⟩
  rw [Hf.out] at ht
  obtain ⟨st, hst⟩ : ∃ st, st = dfsO (valO cs fs dry (days * 1440) a b fl ml) fl.length fl.length [] ([], -1) := ⟨_, rfl⟩
  have hos : orderS cs fs dry days a b fl ml = ((ints st.1, st.2), 0) := by
    unfold orderS
    rw [if_pos hok, if_pos hsp, if_neg (by have := Hk.out; omega), if_pos ht, hst]
  have hvp : ∀ w, (digsO fl.length fl.length w).Nodup → 0 ≤ valO cs fs dry (days * 1440) a b fl ml (digsO fl.length fl.length w) := fun w hn => by
    refine (valO_pos hok hsp ht hn (fun k hk => digs_small _ ?_ _ _ k hk) (by rw [digsO_len]; have := Hk.out; omega)).1
    rcases Nat.eq_zero_or_pos fl.length with h | h
    · rw [h] at hk; simp [digsO] at hk
    · exact h
  have hbest : ∀ other : List Nat, other.length = fl.length → other.Nodup → (∀ x ∈ other, x < fl.length) → (st.1.length = fl.length ∧ st.1.Nodup ∧ ∀ x ∈ st.1, x < fl.length) ∧ st.2 = valO cs fs dry (days * 1440) a b fl ml st.1 ∧ valO cs fs dry (days * 1440) a b fl ml other ≤ st.2 ∧
    (valO cs fs dry (days * 1440) a b fl ml other = st.2 → ∀ (i x y : Nat), (∀ j, j < i → st.1[j]? = other[j]?) → st.1[i]? = some x → other[i]? = some y → x ≠ y → x < y) := fun other h1 h2 h3 => by
    rw [hst]; exact best_order hvp h1 h2 h3
  obtain ⟨best, most⟩ := st
  dsimp only at hos hbest
  obtain ⟨⟨hl, hnd, hlt⟩, hmv, _⟩ := hbest (List.range fl.length) (by simp) List.nodup_range (fun x hx => by simpa using hx)
  have Hos := hide hos; have Hok := hide hok; have Hsp := hide hsp; have Ht := hide ht; have Hbest := hide hbest; have Hl := hide hl; have Hnd := hide hnd; have Hlt := hide hlt; have Hmv := hide hmv
  clear hst hos hvp hok hsp ht hbest hl hnd hlt hmv
  go_wp2_with fail
  refine (order_fn _ _ _ _ _ _ _ _ _ _ _ _ _ _ _ _ _ _ fl ml _ n1 rF rM Hk.out Hm.out (by omega) (by omega)).mono ?_
  rintro e w4 ⟨v, rfl, o1, hb⟩
  simp only [Hos.out] at o1 ⊢
  obtain ⟨Ao, co, rfl, rO⟩ := o1.rdn nk (by rw [ints_len, Hl.out]; exact Hk.out.symm)
  clear o1
  clear q0 q1 q2 q3 p0 p1 k0 k1
  replace n1 := n1.bel hb
  replace xn := xn.bel hb
  replace xf := xf.bel hb
  replace xx := xx.bel hb
  replace xy := xy.bel hb
  replace rF := rF.bel hb
  replace rM := rM.bel hb
  replace rb := rb.bel hb
  replace hB := hB.trans (hb.mono hB.size)
  clear hb
  have k0 := xx.c1
  have hmm := @run_makeMap Try.prog
  have HM := hide (Mp.made w4 Try.prog 3 4 ldB)
  have hbm0 := below_new w4 (.map #[] 0)
  go_wp2_with fail
  clear hmm k0
  obtain ⟨bm, hbm⟩ : ∃ bm, bm = w4.heap.size := ⟨_, rfl⟩
  rw [← hbm] at HM ⊢
  have Hbm := hide hbm
  clear hbm
  obtain ⟨wo, HW1⟩ : ∃ wo, Hid (w4.alloc (.map #[] 0) = wo) := ⟨_, hide rfl⟩
  rw [HW1.out] at HM hbm0 ⊢
  have Hn1 := hide n1; have Hxn := hide xn; have Hxf := hide xf; have Hxx := hide xx; have Hxy := hide xy; have HrF := hide rF; have HrM := hide rM; have Hrb := hide rb; have HrO := hide rO
  clear n1 xn xf xx xy rF rM rb rO HW1
  go_loopw [68] (fun i wq => ∃ k : Nat, k ≤ nk ∧ i = .int .i64 k ∧ Below w4.heap.size w4 wq ∧ Hid (∃ s, Mp Try.prog 3 4 ldB wq bm k (setF (ints (best.take k))) s)) (fun i _ => nk - (intOf i).toNat)
  case atStart => exact ⟨0, by omega, rfl, hbm0, hide ⟨_, HM.out.congr fun j => by simp [setF, ints]⟩⟩
  case round =>
    clear hbm0 HM
    obtain ⟨k, hk, rfl, hb, hmp0⟩ := hrel
    by_cases hlk : k < nk
    · obtain ⟨s, hmp⟩ := hmp0.out
      obtain ⟨x, hx⟩ : ∃ x, best[k]? = some x := ⟨_, List.getElem?_eq_getElem (by have := Hl.out; have := Hk.out; omega)⟩
      have hxk := Hlt.out x (List.mem_of_getElem? hx)
      obtain ⟨b1, off1, c, rfl, hb1, hxc, c0⟩ := (HrO.out.bel hb).int (i := k) (by rw [ints_len]; have := Hl.out; have := Hk.out; omega)
      have hcx : c = (x : Int) := by rw [ints, List.getElem?_map, hx] at hxc; simpa using hxc.symm
      subst hcx
      have hxn : (x : Int) < (nk : Int) := by have := Hk.out; omega
      have hx0 : (0 : Int) ≤ (x : Int) := by omega
      have Hok1 := hide (show okI (x : Int) by unfold okI; omega)
      have hnew : setF (ints (best.take k)) (x : Int) = none := by
        have hnt : x ∉ best.take k := fun hm => by
          obtain ⟨i, hi⟩ := List.mem_iff_getElem?.1 hm
          have hik : i < k := by have := (List.getElem?_eq_some_iff.1 hi).1; rw [List.length_take] at this; omega
          rw [List.getElem?_take_of_lt hik] at hi
          have h1 := (List.getElem?_eq_some_iff.1 hi)
          have h2 := (List.getElem?_eq_some_iff.1 hx)
          obtain ⟨h3, h4⟩ := h1
          obtain ⟨h5, h6⟩ := h2
          have := (List.getElem_inj Hnd.out).1 (h4.trans h6.symm)
          omega
        unfold setF
        rw [if_neg]
        simp only [ints, List.mem_map]
        rintro ⟨y, hy, he⟩
        have : y = x := by omega
        subst this
        exact hnt hy
      have hrd := hmp.read mapB Hok1.out
      rw [hnew] at hrd
      have k0 := (Hxx.out.bel hb).c1
      have hsnoc : ∀ w6 s, Mp Try.prog 3 4 ldB w6 bm (k + 1) (upd (setF (ints (best.take k))) (x : Int) (some true)) s → ∃ s, Mp Try.prog 3 4 ldB w6 bm (k + 1) (setF (ints (best.take (k + 1)))) s := fun w6 s h => ⟨s, h.congr fun j => by rw [take_snoc hx, ints_snoc, setF_snoc]⟩
      have Hsn := hide hsnoc
      clear hx hxc hsnoc hnew
      go_wp2_with (at_mapUpdate; refine wpList_mapWrite rfl _ _ _ rfl mapB hmp (by omega) rfl (x : Int) rfl Hok1.out true rfl trivial ?_; intro w5 hmp5 hg5)
      have hbb := Hbm.out
      exact ⟨⟨k + 1, by omega, by go_num, hb.grown hg5 hb.size (fun g hg => by injection hg with hg; omega), hide (Hsn.out _ _ hmp5)⟩, by simp [intOf]; omega⟩
    · obtain rfl : k = nk := by omega
      clear hmp0
      have k0 := (Hxx.out.bel hb).c1
      go_wp2_with fail
      rw [make_ints k (by omega)]
      obtain ⟨wa, rfl⟩ : ∃ wa, wa = wr := ⟨wr, rfl⟩
      have ho1 := own_made k (by omega) wa wa.heap.size (Nat.le_refl _)
      have hb1 := below_new wa (.cells (madeCells #[.int .i64 0] (k * 1)) 3)
      obtain ⟨g, hg⟩ : ∃ g, g = wa.heap.size := ⟨_, rfl⟩
      obtain ⟨w6, Hw6⟩ : ∃ w6, Hid (wa.alloc (.cells (madeCells #[.int .i64 0] (k * 1)) 3) = w6) := ⟨_, hide rfl⟩
      rw [Hw6.out] at ho1 hb1 ⊢
      rw [← hg] at ho1 hb1 ⊢
      have Hg := hide hg
      clear k0 hg Hw6
      go_wp2_with fail
      go_loopw [94] (fun i wq => ∃ (j : Nat) (xs : List Int), j ≤ k ∧ i = .int .i64 j ∧ Own wq g 3 1 icell (.slice (some ⟨g, 0, none⟩) k k) xs ∧ (∀ m, m < j → xs[m]? = some (m : Int)) ∧ Below g wa wq) (fun i _ => k - (intOf i).toNat)
      case atStart => exact ⟨0, _, by omega, rfl, ho1, by omega, hb1⟩
      case round =>
        clear ho1 hb1
        obtain ⟨j, xs, hj, rfl, hown, hxs, hb2⟩ := hrel
        have hxl : xs.length = k := by
          obtain ⟨A, c, hv, _⟩ := hown.rd
          injection hv with _ h2 _
          exact h2.symm
        by_cases hjk : j < k
        · obtain ⟨x0, hx0⟩ : ∃ x0, xs[j]? = some x0 := ⟨_, List.getElem?_eq_getElem (by omega)⟩
          obtain ⟨h1, ⟨v0, z0⟩, y0⟩ := hown.put_ icell_len (i := j) (j := 0) (x' := (j : Int)) (u := .int .i64 (j : Int)) hx0 (by omega) (by simp [icell]) hxl.symm
          simp only [Nat.mul_one, Nat.add_zero] at h1 z0 y0
          have Hown := hide h1
          have Hb2 := hide (hb2.setCell (p := ⟨g, j, none⟩) (Nat.le_refl _) (.int .i64 (j : Int)))
          have Hxs := hide hxs
          have i0 : (0 : Int) ≤ (j : Int) := by omega
          have i1 : (j : Int) < (k : Int) := by omega
          clear h1 hx0 hown hb2 hxs
          go_wp2_with fail
          refine ⟨⟨j + 1, _, by omega, by go_num, Hown.out, fun m hm => ?_, Hb2.out⟩, by simp [intOf]; omega⟩
          by_cases e : m = j
          · subst e; rw [List.getElem?_set_self (by omega)]
          · rw [List.getElem?_set_ne (by omega)]; exact Hxs.out m (by omega)
        · obtain rfl : j = k := by omega
          have hxi : xs = ints (List.range j) := by
            apply List.ext_getElem?
            intro m
            by_cases hm : m < j
            · rw [hxs m hm]; simp [ints, hm]
            · rw [List.getElem?_eq_none (by omega), List.getElem?_eq_none (by simp [ints]; omega)]
          subst hxi
          have Hown := hide hown
          have Hb2 := hide hb2
          clear hxs hxl hown hb2
          go_wp2_with fail
          obtain ⟨k, rfl⟩ : ∃ k, k = j := ⟨j, rfl⟩
          go_loopw [104] (fun i wq => ∃ (m : Nat) (ot : List Nat), m ≤ nb ∧ m ≤ 20 ∧ i = .int .i64 m ∧ List.Perm ot (List.range k) ∧ Own wq g 3 1 icell (.slice (some ⟨g, 0, none⟩) k k) (ints ot) ∧ Below g wa wq) (fun i _ => 20 - (intOf i).toNat)
          case atStart => exact ⟨0, _, by omega, by omega, rfl, List.Perm.refl _, Hown.out, Hb2.out⟩
          case round =>
            clear Hown Hb2
            obtain ⟨m, ot, hm, hm20, rfl, hperm, hown, hb3⟩ := hrel
            have Hown := hide hown
            by_cases hmn : m < nb
            · have hb4 : Below w4.heap.size w4 wr := by
                have h := hb3
                rw [Hg.out] at h
                exact hb.trans (h.mono hb.size)
              obtain ⟨b1, off1, x, rfl, hb1, hxb, c0⟩ := (Hrb.out.bel hb4).u8 (i := m) (by have := Hb.out; omega)
              have hx8 := Hb8.out x (List.mem_of_getElem? hxb)
              have i0 : (0 : Int) ≤ (m : Int) := by omega
              have i1 : (m : Int) < (nb : Int) := by omega
              clear hb4 hxb
              by_cases hk0 : k = 0
              · have e1 : ((k : Int) == 0) = true := by simpa using hk0
                have Hk0 := hide hk0
                clear hk0
                go_wp2_with fail
                clear e1 i0 i1 c0
                have hb5 : Below w4.heap.size w4 wr := by
                  have h := hb3
                  rw [Hg.out] at h
                  exact hb.trans (h.mono hb.size)
                have hol : ot.length = k := by have h := hperm.length_eq; rw [List.length_range] at h; exact h
                have hond : ot.Nodup := hperm.nodup_iff.2 List.nodup_range
                have holt : ∀ x ∈ ot, x < fl.length := fun x hx => by have := hperm.mem_iff.1 hx; rw [List.mem_range] at this; have := Hk.out; omega
                obtain ⟨h1_, h2_, hle, hfst⟩ := Hbest.out ot (by rw [hol]; exact Hk.out) hond holt
                clear h1_ h2_
                obtain ⟨Ax, cx, hv, rX⟩ := Hown.out.rd
                injection hv with h1 h2 h3
                subst h1 h3
                clear h2
                obtain ⟨sm, hsm⟩ : ∃ sm, sm = valO cs fs dry (days * 1440) a b fl ml ot := ⟨_, rfl⟩
                rw [← hsm] at hle hfst
                have e0 : decide (most < sm) = false := decide_eq_false (by omega)
                have Hsm := hide hsm; have Hfst := hide hfst; have HrX := hide rX
                clear hsm hfst hperm hown rX
                go_wp2_with fail
                refine (gives_any Ac Af Aff Am _ nc cc nf cf k cff nm cm k _ _ _ _ _ dry days a b cs fs fl ml ot _ (Hn1.out.bel hb5) Hok.out Hsp.out Ht.out (HrF.out.bel hb5) (HrM.out.bel hb5) HrX.out Hk.out Hm.out hol.symm (by omega) hond holt (Hxn.out.bel hb5) (Hxf.out.bel hb5) (Hxx.out.bel hb5) (Hxy.out.bel hb5)).mono ?_
                rintro e w8 ⟨rfl, hb6⟩
                rw [← Hsm.out]
                have hb7 := hb5.trans (hb6.mono hb5.size)
                go_wp2_with fail
                refine (gives_any Ac Af Aff Am _ nc cc nf cf k cff nm cm k _ _ _ _ _ dry days a b cs fs fl ml best _ (Hn1.out.bel hb7) Hok.out Hsp.out Ht.out (HrF.out.bel hb7) (HrM.out.bel hb7) (HrO.out.bel hb7) Hk.out Hm.out (Hk.out.trans Hl.out.symm) (by omega) Hnd.out Hlt.out (Hxn.out.bel hb7) (Hxf.out.bel hb7) (Hxx.out.bel hb7) (Hxy.out.bel hb7)).mono ?_
                rintro e w9 ⟨rfl, hb8⟩
                rw [← Hmv.out]
                have hb9 := hb7.trans (hb8.mono hb7.size)
                have HrX9 := hide ((HrX.out.bel hb6).bel hb8)
                clear hb5 hb6 hb7 hb8
                go_wp2_with fail
                go_loopw [155] (fun i wq => ∃ j : Nat, j ≤ k ∧ i = .int .i64 j ∧ (sm = most → ∀ m, m < j → best[m]? = ot[m]?) ∧ Below w9.heap.size w9 wq) (fun i _ => k - (intOf i).toNat)
                case atStart => exact ⟨0, by omega, rfl, fun _ m hm => by omega, Below.refl _ _⟩
                case round =>
                  obtain ⟨j, hj, rfl, hpre, hb1'⟩ := hrel
                  obtain ⟨wq, rfl⟩ : ∃ wq, wq = wr := ⟨wr, rfl⟩
                  have Hpre := hide hpre
                  clear hpre
                  by_cases hjk : j < k
                  · obtain ⟨x, hx⟩ : ∃ x, best[j]? = some x := ⟨_, List.getElem?_eq_getElem (by have := Hl.out; have := Hk.out; omega)⟩
                    obtain ⟨y, hy⟩ : ∃ y, ot[j]? = some y := ⟨_, List.getElem?_eq_getElem (by omega)⟩
                    obtain ⟨b1, off1, c, hA1, hb1, hxc, c0⟩ := (HrO.out.bel (hb9.trans (hb1'.mono hb9.size))).int (i := j) (by rw [ints_len]; have := Hl.out; have := Hk.out; omega)
                    obtain ⟨b2, off2, d, hA2, hb2, hyc, d0⟩ := (HrX9.out.bel hb1').int (i := j) (by rw [ints_len]; omega)
                    have hcx : c = (x : Int) := by rw [ints, List.getElem?_map, hx] at hxc; simpa using hxc.symm
                    have hdy : d = (y : Int) := by rw [ints, List.getElem?_map, hy] at hyc; simpa using hyc.symm
                    subst hcx hdy hA1
                    injection hA2 with hA2
                    injection hA2 with h1 h2
                    subst h1 h2
                    have Hxj := hide hx; have Hyj := hide hy
                    have i0 : (0 : Int) ≤ (j : Int) := by omega
                    have i1 : (j : Int) < (k : Int) := by omega
                    clear hx hy hxc hyc
                    rw [Nat.zero_add] at d0
                    by_cases hs : sm = most
                    · subst hs
                      by_cases he : x = y
                      · subst he
                        go_wp2_with fail
                        go_quiet (fail)
                        go_wp2_with fail
                        refine ⟨⟨j + 1, by omega, by go_num, fun hsm m hm => ?_, below_drewN hb1' _⟩, by simp [intOf]; omega⟩
                        by_cases e : m = j
                        · subst e; rw [Hxj.out, Hyj.out]
                        · exact Hpre.out hsm m (by omega)
                      · have hlt := Hfst.out rfl j x y (fun m hm => Hpre.out rfl m hm) Hxj.out Hyj.out he
                        have e2 : ((x : Int) == (y : Int)) = false := by simp; omega
                        have e3 : ((x : Int) != (y : Int)) = true := by simp; omega
                        have e4 : decide (¬ (x : Int) = (y : Int)) = true := by simp; omega
                        have e5 : (x : Int) < (y : Int) := by omega
                        have e6 : decide ((x : Int) < (y : Int)) = true := decide_eq_true e5
                        have e7 : ¬ (x : Int) = (y : Int) := by omega
                        have He := hide he
                        clear he hlt
                        go_wp2_with fail
                        go_quiet (fail)
                        go_wp2_with fail
                        go_quiet (fail)
                        go_wp2_with fail
                        go_ret
                        exact ⟨rfl, hB.trans ((hb9.trans ((below_drewN (below_drewN hb1' _) _).mono hb9.size)).mono hB.size)⟩
                    · have e1 : (sm == most) = false := by simpa using hs
                      have e2 : decide (sm = most) = false := decide_eq_false hs
                      go_wp2_with fail
                      go_quiet (fail)
                      go_wp2_with fail
                      exact ⟨⟨j + 1, by omega, by go_num, fun hsm => absurd hsm hs, below_drewN hb1' _⟩, by simp [intOf]; omega⟩
                  · obtain rfl : j = k := by omega
                    go_wp2_with fail
                    go_ret
                    exact ⟨rfl, hB.trans ((hb9.trans (hb1'.mono hb9.size)).mono hB.size)⟩
              by_cases hm2 : m = 20
              · subst hm2
                have e1 : ((k : Int) == 0) = false := by simpa using hk0
                have Hk0 := hide hk0
                clear hk0
                go_wp2_with fail
                clear e1 i0 i1 c0
                have hb5 : Below w4.heap.size w4 wr := by
                  have h := hb3
                  rw [Hg.out] at h
                  exact hb.trans (h.mono hb.size)
                have hol : ot.length = k := by have h := hperm.length_eq; rw [List.length_range] at h; exact h
                have hond : ot.Nodup := hperm.nodup_iff.2 List.nodup_range
                have holt : ∀ x ∈ ot, x < fl.length := fun x hx => by have := hperm.mem_iff.1 hx; rw [List.mem_range] at this; have := Hk.out; omega
                obtain ⟨h1_, h2_, hle, hfst⟩ := Hbest.out ot (by rw [hol]; exact Hk.out) hond holt
                clear h1_ h2_
                obtain ⟨Ax, cx, hv, rX⟩ := Hown.out.rd
                injection hv with h1 h2 h3
                subst h1 h3
                clear h2
                obtain ⟨sm, hsm⟩ : ∃ sm, sm = valO cs fs dry (days * 1440) a b fl ml ot := ⟨_, rfl⟩
                rw [← hsm] at hle hfst
                have e0 : decide (most < sm) = false := decide_eq_false (by omega)
                have Hsm := hide hsm; have Hfst := hide hfst; have HrX := hide rX
                clear hsm hfst hperm hown rX
                go_wp2_with fail
                refine (gives_any Ac Af Aff Am _ nc cc nf cf k cff nm cm k _ _ _ _ _ dry days a b cs fs fl ml ot _ (Hn1.out.bel hb5) Hok.out Hsp.out Ht.out (HrF.out.bel hb5) (HrM.out.bel hb5) HrX.out Hk.out Hm.out hol.symm (by omega) hond holt (Hxn.out.bel hb5) (Hxf.out.bel hb5) (Hxx.out.bel hb5) (Hxy.out.bel hb5)).mono ?_
                rintro e w8 ⟨rfl, hb6⟩
                rw [← Hsm.out]
                have hb7 := hb5.trans (hb6.mono hb5.size)
                go_wp2_with fail
                refine (gives_any Ac Af Aff Am _ nc cc nf cf k cff nm cm k _ _ _ _ _ dry days a b cs fs fl ml best _ (Hn1.out.bel hb7) Hok.out Hsp.out Ht.out (HrF.out.bel hb7) (HrM.out.bel hb7) (HrO.out.bel hb7) Hk.out Hm.out (Hk.out.trans Hl.out.symm) (by omega) Hnd.out Hlt.out (Hxn.out.bel hb7) (Hxf.out.bel hb7) (Hxx.out.bel hb7) (Hxy.out.bel hb7)).mono ?_
                rintro e w9 ⟨rfl, hb8⟩
                rw [← Hmv.out]
                have hb9 := hb7.trans (hb8.mono hb7.size)
                have HrX9 := hide ((HrX.out.bel hb6).bel hb8)
                clear hb5 hb6 hb7 hb8
                go_wp2_with fail
                go_loopw [155] (fun i wq => ∃ j : Nat, j ≤ k ∧ i = .int .i64 j ∧ (sm = most → ∀ m, m < j → best[m]? = ot[m]?) ∧ Below w9.heap.size w9 wq) (fun i _ => k - (intOf i).toNat)
                case atStart => exact ⟨0, by omega, rfl, fun _ m hm => by omega, Below.refl _ _⟩
                case round =>
                  obtain ⟨j, hj, rfl, hpre, hb1'⟩ := hrel
                  obtain ⟨wq, rfl⟩ : ∃ wq, wq = wr := ⟨wr, rfl⟩
                  have Hpre := hide hpre
                  clear hpre
                  by_cases hjk : j < k
                  · obtain ⟨x, hx⟩ : ∃ x, best[j]? = some x := ⟨_, List.getElem?_eq_getElem (by have := Hl.out; have := Hk.out; omega)⟩
                    obtain ⟨y, hy⟩ : ∃ y, ot[j]? = some y := ⟨_, List.getElem?_eq_getElem (by omega)⟩
                    obtain ⟨b1, off1, c, hA1, hb1, hxc, c0⟩ := (HrO.out.bel (hb9.trans (hb1'.mono hb9.size))).int (i := j) (by rw [ints_len]; have := Hl.out; have := Hk.out; omega)
                    obtain ⟨b2, off2, d, hA2, hb2, hyc, d0⟩ := (HrX9.out.bel hb1').int (i := j) (by rw [ints_len]; omega)
                    have hcx : c = (x : Int) := by rw [ints, List.getElem?_map, hx] at hxc; simpa using hxc.symm
                    have hdy : d = (y : Int) := by rw [ints, List.getElem?_map, hy] at hyc; simpa using hyc.symm
                    subst hcx hdy hA1
                    injection hA2 with hA2
                    injection hA2 with h1 h2
                    subst h1 h2
                    have Hxj := hide hx; have Hyj := hide hy
                    have i0 : (0 : Int) ≤ (j : Int) := by omega
                    have i1 : (j : Int) < (k : Int) := by omega
                    clear hx hy hxc hyc
                    rw [Nat.zero_add] at d0
                    by_cases hs : sm = most
                    · subst hs
                      by_cases he : x = y
                      · subst he
                        go_wp2_with fail
                        go_quiet (fail)
                        go_wp2_with fail
                        refine ⟨⟨j + 1, by omega, by go_num, fun hsm m hm => ?_, below_drewN hb1' _⟩, by simp [intOf]; omega⟩
                        by_cases e : m = j
                        · subst e; rw [Hxj.out, Hyj.out]
                        · exact Hpre.out hsm m (by omega)
                      · have hlt := Hfst.out rfl j x y (fun m hm => Hpre.out rfl m hm) Hxj.out Hyj.out he
                        have e2 : ((x : Int) == (y : Int)) = false := by simp; omega
                        have e3 : ((x : Int) != (y : Int)) = true := by simp; omega
                        have e4 : decide (¬ (x : Int) = (y : Int)) = true := by simp; omega
                        have e5 : (x : Int) < (y : Int) := by omega
                        have e6 : decide ((x : Int) < (y : Int)) = true := decide_eq_true e5
                        have e7 : ¬ (x : Int) = (y : Int) := by omega
                        have He := hide he
                        clear he hlt
                        go_wp2_with fail
                        go_quiet (fail)
                        go_wp2_with fail
                        go_quiet (fail)
                        go_wp2_with fail
                        go_ret
                        exact ⟨rfl, hB.trans ((hb9.trans ((below_drewN (below_drewN hb1' _) _).mono hb9.size)).mono hB.size)⟩
                    · have e1 : (sm == most) = false := by simpa using hs
                      have e2 : decide (sm = most) = false := decide_eq_false hs
                      go_wp2_with fail
                      go_quiet (fail)
                      go_wp2_with fail
                      exact ⟨⟨j + 1, by omega, by go_num, fun hsm => absurd hsm hs, below_drewN hb1' _⟩, by simp [intOf]; omega⟩
                  · obtain rfl : j = k := by omega
                    go_wp2_with fail
                    go_ret
                    exact ⟨rfl, hB.trans ((hb9.trans (hb1'.mono hb9.size)).mono hB.size)⟩
              have e1 : ((k : Int) == 0) = false := by simpa using hk0
              have e2 : ¬ (20 : Int) ≤ (m : Int) := by omega
              have e3 : decide ((20 : Int) ≤ (m : Int)) = false := decide_eq_false e2
              have ka : m % k < k := Nat.mod_lt _ (by omega)
              have kb : x % k < k := Nat.mod_lt _ (by omega)
              obtain ⟨j1, hj1⟩ : ∃ j1, j1 = m % k := ⟨_, rfl⟩
              obtain ⟨j2, hj2⟩ : ∃ j2, j2 = x % k := ⟨_, rfl⟩
              have ta : Int.tmod (m : Int) (k : Int) = (j1 : Int) := by rw [Int.tmod_eq_emod_of_nonneg (by omega), hj1]; exact (Int.natCast_emod m k).symm
              have tb : Int.tmod (x : Int) (k : Int) = (j2 : Int) := by rw [Int.tmod_eq_emod_of_nonneg (by omega), hj2]; exact (Int.natCast_emod x k).symm
              have ta' : (m : Int) % (k : Int) = (j1 : Int) := by rw [hj1]; exact (Int.natCast_emod m k).symm
              have tb' : (x : Int) % (k : Int) = (j2 : Int) := by rw [hj2]; exact (Int.natCast_emod x k).symm
              have fx : IntKind.i64.wrap (x : Int) = x := wrapI (by omega)
              have kz : ¬ (k : Int) = 0 := by omega
              rw [← hj1] at ka
              rw [← hj2] at kb
              clear hj1 hj2 hk0
              go_wp2_with fail
              clear c0
              go_quiet (fail)
              obtain ⟨v1, hv1⟩ : ∃ v1, ot[j1]? = some v1 := ⟨_, List.getElem?_eq_getElem (by have h := hperm.length_eq; rw [List.length_range] at h; omega)⟩
              obtain ⟨v2, hv2⟩ : ∃ v2, ot[j2]? = some v2 := ⟨_, List.getElem?_eq_getElem (by have h := hperm.length_eq; rw [List.length_range] at h; omega)⟩
              have hpm := (swap_perm hv1 hv2).trans hperm
              have hil : k = (ints ot).length := by rw [ints_len]; have h := hperm.length_eq; rw [List.length_range] at h; exact h.symm
              have hx1 : (ints ot)[j1]? = some (v1 : Int) := by rw [ints, List.getElem?_map, hv1]; rfl
              have hx2 : (ints ot)[j2]? = some (v2 : Int) := by rw [ints, List.getElem?_map, hv2]; rfl
              have hx2' : ((ints ot).set j1 (v2 : Int))[j2]? = some (if j1 = j2 then (v2 : Int) else (v2 : Int)) := by
                rw [List.getElem?_set]
                by_cases e : j1 = j2
                · subst e; rw [if_pos rfl, if_pos (by rw [← hil]; exact ka), if_pos rfl]
                · rw [if_neg e, if_neg e]; exact hx2
              have hownD : Own (wr.drewN nq) g 3 1 icell (.slice (some ⟨g, 0, none⟩) k k) (ints ot) := Hown.out.below (below_drewN (Below.refl _ _) nq)
              obtain ⟨wD, HwD⟩ : ∃ wD, Hid (wr.drewN nq = wD) := ⟨_, hide rfl⟩
              have hb3D : Below g wa wD := by rw [← HwD.out]; exact below_drewN hb3 nq
              rw [HwD.out] at hownD ⊢
              have hownE := hownD.below (Below.refl wD.heap.size wD).drew
              obtain ⟨o1, ⟨u1, z1⟩, y1⟩ := hownE.put_ icell_len (i := j1) (j := 0) (x' := (v2 : Int)) (u := .int .i64 (v2 : Int)) hx1 (by omega) (by simp [icell]) hil
              obtain ⟨o2, ⟨u2, z2⟩, y2⟩ := o1.put_ icell_len (i := j2) (j := 0) (x' := (v1 : Int)) (u := .int .i64 (v1 : Int)) hx2' (by omega) (by simp [icell]) (by rw [List.length_set]; exact hil)
              obtain ⟨A1, d1, hvv, rd1⟩ := hownE.rd
              injection hvv with h1 h2 h3
              subst h1 h3
              clear h2
              obtain ⟨b3, off3, c3, hA3, _, hc3, c0⟩ := rd1.int (i := j1) (by rw [← hil]; exact ka)
              injection hA3 with hA3
              injection hA3 with h1 h2
              subst h1 h2
              obtain ⟨b4, off4, c4, hA4, _, hc4, d0⟩ := rd1.int (i := j2) (by rw [← hil]; exact kb)
              injection hA4 with hA4
              injection hA4 with h1 h2
              subst h1 h2
              rw [hx1] at hc3
              rw [hx2] at hc4
              injection hc3 with hc3
              injection hc4 with hc4
              subst hc3 hc4
              simp only [Nat.mul_one, Nat.add_zero, Nat.zero_add] at o1 o2 z1 z2 y1 y2 c0 d0
              have z2a : (wD.setCell ⟨g, j1, none⟩ (.int .i64 (v2 : Int))).cell? ⟨g, j2, none⟩ = some u2 := z2
              have y2a : (wD.setCell ⟨g, j1, none⟩ (.int .i64 (v2 : Int))).frozen? ⟨g, j2, none⟩ = false := y2
              have z2b : (wD.setCell ⟨g, j1, none⟩ (.int .i64 (v2 : Int))).drew.cell? ⟨g, j2, none⟩ = some u2 := z2
              have y2b : (wD.setCell ⟨g, j1, none⟩ (.int .i64 (v2 : Int))).drew.frozen? ⟨g, j2, none⟩ = false := y2
              have Hfin := hide o2; have Hpm := hide hpm
              have j1a : (0 : Int) ≤ (j1 : Int) := by omega
              have j1b : (j1 : Int) < (k : Int) := by omega
              have j2a : (0 : Int) ≤ (j2 : Int) := by omega
              have j2b : (j2 : Int) < (k : Int) := by omega
              clear z1 hv1 hv2 hpm hil hx1 hx2 hx2' hownD hownE o1 o2 rd1 hperm hown Hown
              go_wp2_with fail
              go_region
              go_wp2_with fail
              refine ⟨⟨m + 1, (ot.set j1 v2).set j2 v1, by omega, by omega, by go_num, Hpm.out, ?_, ?_⟩, by simp [intOf]; omega⟩
              · rw [ints_set, ints_set]; exact Hfin.out
              · exact (((hb3D.drew).setCell (p := ⟨g, j1, none⟩) (Nat.le_refl _) (.int .i64 (v2 : Int))).setCell (p := ⟨g, j2, none⟩) (Nat.le_refl _) (.int .i64 (v1 : Int)))
            · obtain rfl : m = nb := by omega
              have hb5 : Below w4.heap.size w4 wr := by
                have h := hb3
                rw [Hg.out] at h
                exact hb.trans (h.mono hb.size)
              have hol : ot.length = k := by have h := hperm.length_eq; rw [List.length_range] at h; exact h
              have hond : ot.Nodup := hperm.nodup_iff.2 List.nodup_range
              have holt : ∀ x ∈ ot, x < fl.length := fun x hx => by have := hperm.mem_iff.1 hx; rw [List.mem_range] at this; have := Hk.out; omega
              obtain ⟨h1_, h2_, hle, hfst⟩ := Hbest.out ot (by rw [hol]; exact Hk.out) hond holt
              clear h1_ h2_
              obtain ⟨Ax, cx, hv, rX⟩ := Hown.out.rd
              injection hv with h1 h2 h3
              subst h1 h3
              clear h2
              obtain ⟨sm, hsm⟩ : ∃ sm, sm = valO cs fs dry (days * 1440) a b fl ml ot := ⟨_, rfl⟩
              rw [← hsm] at hle hfst
              have e0 : decide (most < sm) = false := decide_eq_false (by omega)
              have Hsm := hide hsm; have Hfst := hide hfst; have HrX := hide rX
              clear hsm hfst hperm hown rX
              go_wp2_with fail
              refine (gives_any Ac Af Aff Am _ nc cc nf cf k cff nm cm k _ _ _ _ _ dry days a b cs fs fl ml ot _ (Hn1.out.bel hb5) Hok.out Hsp.out Ht.out (HrF.out.bel hb5) (HrM.out.bel hb5) HrX.out Hk.out Hm.out hol.symm (by omega) hond holt (Hxn.out.bel hb5) (Hxf.out.bel hb5) (Hxx.out.bel hb5) (Hxy.out.bel hb5)).mono ?_
              rintro e w8 ⟨rfl, hb6⟩
              rw [← Hsm.out]
              have hb7 := hb5.trans (hb6.mono hb5.size)
              go_wp2_with fail
              refine (gives_any Ac Af Aff Am _ nc cc nf cf k cff nm cm k _ _ _ _ _ dry days a b cs fs fl ml best _ (Hn1.out.bel hb7) Hok.out Hsp.out Ht.out (HrF.out.bel hb7) (HrM.out.bel hb7) (HrO.out.bel hb7) Hk.out Hm.out (Hk.out.trans Hl.out.symm) (by omega) Hnd.out Hlt.out (Hxn.out.bel hb7) (Hxf.out.bel hb7) (Hxx.out.bel hb7) (Hxy.out.bel hb7)).mono ?_
              rintro e w9 ⟨rfl, hb8⟩
              rw [← Hmv.out]
              have hb9 := hb7.trans (hb8.mono hb7.size)
              have HrX9 := hide ((HrX.out.bel hb6).bel hb8)
              clear hb5 hb6 hb7 hb8
              go_wp2_with fail
              go_loopw [155] (fun i wq => ∃ j : Nat, j ≤ k ∧ i = .int .i64 j ∧ (sm = most → ∀ m, m < j → best[m]? = ot[m]?) ∧ Below w9.heap.size w9 wq) (fun i _ => k - (intOf i).toNat)
              case atStart => exact ⟨0, by omega, rfl, fun _ m hm => by omega, Below.refl _ _⟩
              case round =>
                obtain ⟨j, hj, rfl, hpre, hb1'⟩ := hrel
                obtain ⟨wq, rfl⟩ : ∃ wq, wq = wr := ⟨wr, rfl⟩
                have Hpre := hide hpre
                clear hpre
                by_cases hjk : j < k
                · obtain ⟨x, hx⟩ : ∃ x, best[j]? = some x := ⟨_, List.getElem?_eq_getElem (by have := Hl.out; have := Hk.out; omega)⟩
                  obtain ⟨y, hy⟩ : ∃ y, ot[j]? = some y := ⟨_, List.getElem?_eq_getElem (by omega)⟩
                  obtain ⟨b1, off1, c, hA1, hb1, hxc, c0⟩ := (HrO.out.bel (hb9.trans (hb1'.mono hb9.size))).int (i := j) (by rw [ints_len]; have := Hl.out; have := Hk.out; omega)
                  obtain ⟨b2, off2, d, hA2, hb2, hyc, d0⟩ := (HrX9.out.bel hb1').int (i := j) (by rw [ints_len]; omega)
                  have hcx : c = (x : Int) := by rw [ints, List.getElem?_map, hx] at hxc; simpa using hxc.symm
                  have hdy : d = (y : Int) := by rw [ints, List.getElem?_map, hy] at hyc; simpa using hyc.symm
                  subst hcx hdy hA1
                  injection hA2 with hA2
                  injection hA2 with h1 h2
                  subst h1 h2
                  have Hxj := hide hx; have Hyj := hide hy
                  have i0 : (0 : Int) ≤ (j : Int) := by omega
                  have i1 : (j : Int) < (k : Int) := by omega
                  clear hx hy hxc hyc
                  rw [Nat.zero_add] at d0
                  by_cases hs : sm = most
                  · subst hs
                    by_cases he : x = y
                    · subst he
                      go_wp2_with fail
                      go_quiet (fail)
                      go_wp2_with fail
                      refine ⟨⟨j + 1, by omega, by go_num, fun hsm m hm => ?_, below_drewN hb1' _⟩, by simp [intOf]; omega⟩
                      by_cases e : m = j
                      · subst e; rw [Hxj.out, Hyj.out]
                      · exact Hpre.out hsm m (by omega)
                    · have hlt := Hfst.out rfl j x y (fun m hm => Hpre.out rfl m hm) Hxj.out Hyj.out he
                      have e2 : ((x : Int) == (y : Int)) = false := by simp; omega
                      have e3 : ((x : Int) != (y : Int)) = true := by simp; omega
                      have e4 : decide (¬ (x : Int) = (y : Int)) = true := by simp; omega
                      have e5 : (x : Int) < (y : Int) := by omega
                      have e6 : decide ((x : Int) < (y : Int)) = true := decide_eq_true e5
                      have e7 : ¬ (x : Int) = (y : Int) := by omega
                      have He := hide he
                      clear he hlt
                      go_wp2_with fail
                      go_quiet (fail)
                      go_wp2_with fail
                      go_quiet (fail)
                      go_wp2_with fail
                      go_ret
                      exact ⟨rfl, hB.trans ((hb9.trans ((below_drewN (below_drewN hb1' _) _).mono hb9.size)).mono hB.size)⟩
                  · have e1 : (sm == most) = false := by simpa using hs
                    have e2 : decide (sm = most) = false := decide_eq_false hs
                    go_wp2_with fail
                    go_quiet (fail)
                    go_wp2_with fail
                    exact ⟨⟨j + 1, by omega, by go_num, fun hsm => absurd hsm hs, below_drewN hb1' _⟩, by simp [intOf]; omega⟩
                · obtain rfl : j = k := by omega
                  go_wp2_with fail
                  go_ret
                  exact ⟨rfl, hB.trans ((hb9.trans (hb1'.mono hb9.size)).mono hB.size)⟩
theorem shape_u8 : Shape 5 u8cell (fun n => n ≤ 255) := fun H enc w base spare held fuel cs x h => by
  obtain ⟨n, rfl, _, hw⟩ := DataW.trod_int Try.underlying5 h
  have hb := bounds_u8 hw
  exact ⟨n.toNat, by unfold u8cell; rw [Int.toNat_of_nonneg hb.1], by omega⟩
theorem cells_u8 : Try.prog.cellsOf 5 = 1 := by kernel_rfl
set_option maxRecDepth 100000 in
theorem channelOrder_lifted (os : Os) (started : os.Started) (H : Type) (enc : TypeId × Value → H) :
    ReturnsInHanded {} Try.checked os 11 .any (Rows.channelOrderSpec.pre6 enc Try.prog Try.f11 Rows.channelOrderRow.domain false) (Rows.channelOrderSpec.post enc Try.prog Try.f11 false true false false) := by
  refine law_lifted os started H enc (s := Rows.channelOrderSpec) Try.func11 (by kernel_rfl) ?_ rfl Try.underlying4 rfl (of_decide_eq_true (by kernel_rfl))
    (ChangeSpec.witness6 (enc := enc) (C := Try.checked) false ⟨#[], #[.agg #[.slice none 0 0, .slice none 0 0, .int .i64 0, .int .i64 0], .agg #[.int .i64 0, .int .i64 0], .slice none 0 0, .slice none 0 0, .slice none 0 0], []⟩ 8 (by kernel_rfl) (by kernel_rfl) (by kernel_rfl) (by kernel_rfl)) ?_
  · intro ds hds
    match ds, hds with
    | [a, b, c, d, e], _ => rfl
  · intro W base args ds ps hval hA hlt
    rw [Try.params11] at hA hval
    obtain ⟨v0, v1, v2, v3, v4, d0, d1, d2, d3, d4, p0, p1, p2, p3, p4, rfl, rfl, rfl, h0, h1, h2, h3, h4⟩ := trodAll_five hA
    obtain ⟨Ac, nc, cc, Af, nf, cf, dry, days, cs, fs, rfl, hnc, hnf, _, _, hcs, hfs, _, _, _, _⟩ := open_net (hval 0 _ v0 rfl rfl) h0
    obtain ⟨⟨a, b⟩, e1, _⟩ := open_val shape_sp Try.underlying51 (hval 1 _ v1 rfl rfl) h1
    rw [show (v1 : Value) = .agg #[.int .i64 a, .int .i64 b] from e1]
    obtain ⟨Aff, nk, cff, fl, rfl, hnk, _, hf, _⟩ := open_sl shape_int Try.underlying23 cells_int icell_len (by omega) (hval 2 _ v2 rfl rfl) h2
    obtain ⟨Am, nm, cm, ml, rfl, hnm, _, hm, _⟩ := open_sl shape_int Try.underlying23 cells_int icell_len (by omega) (hval 3 _ v3 rfl rfl) h3
    obtain ⟨Ab, nb, cb, bl, rfl, hnb, hnb2, hbl, hb8⟩ := open_sl shape_u8 Try.underlying90 cells_u8 u8cell_len (by omega) (hval 4 _ v4 rfl rfl) h4
    exact order_walk Ac Af Aff Am Ab nc cc nf cf nk cff nm cm nb cb dry days a b cs fs fl ml bl W hnc hnf hnk hnm hnb hnb2 hcs hfs hf hm hbl hb8

theorem channelOrder_holds : Rows.ChannelOrderSaid :=
  OpenClaim.holds_of_wide 11 Try.f11 rfl rfl rfl rfl rfl rfl rfl ⟨rfl, rfl, rfl, rfl, rfl⟩ rfl rfl rfl rfl rfl (by kernel_rfl) Try.func11 (by kernel_rfl)
    (of_decide_eq_true (by kernel_rfl)) (by unfold Func.isWrapper; rw [if_neg (of_decide_eq_false (by kernel_rfl))]; exact ⟨rfl, rfl⟩)
    (fun os started H enc _ => channelOrder_lifted os started H enc)
#print axioms channelOrder_holds
end Go.Proofs.Ytgklcilpohkpkaa
