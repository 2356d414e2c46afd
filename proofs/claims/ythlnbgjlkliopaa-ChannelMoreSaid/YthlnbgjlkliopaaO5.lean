/- Channel: the search for the best order, by contract. -/
import Derived.Test.YthlnbgjlkliopaaO4
import Derived.WalkMore
set_option linter.unusedVariables false
set_option linter.unusedSimpArgs false
namespace Go.Proofs.Ythlnbgjlkliopaa
open Go.RowKit Go.Shelf
attribute [local go_sem ↓] Go.wp_at_zero Go.wp_at_succ
attribute [local go_sem] Oper.semAt_some
theorem enters_next : ∀ args w, (callFunc 41 args).run Try.prog w = .ok (.enter 41 args) w := enters_of Try.func41 (by kernel_rfl) rfl
theorem own_cap {α : Type} {cells : α → List Value} {e : TypeId} {k base n c : Nat} {A : Option Addr} {xs : List α} {W : World} (h : Own W base e k cells (.slice A n c) xs) : n ≤ c := by
  obtain ⟨_, hn | ⟨g, cap, cur, hv, _, _, hc, _⟩⟩ := h
  · obtain ⟨e1, e2⟩ := hn
    injection e1 with _ e3 e4
    omega
  · injection hv with _ e3 e4
    omega
theorem sumM_mem {ml : List Int} (hp : ∀ x ∈ ml, 1 ≤ x) {x : Int} (hx : x ∈ ml) : x ≤ sumM ml := by
  obtain ⟨k, hk, rfl⟩ := List.mem_iff_getElem.1 hx
  have h1 := sumAt_le hp ml.length [k] (by simp) (by simpa using hk)
  have h2 := sumM_range ml ml.length (Nat.le_refl _)
  rw [List.take_length] at h2
  rw [h2]
  have e : atI ml k = ml[k] := by unfold atI; rw [List.getElem?_eq_getElem hk]; rfl
  simp only [sumAt, e] at h1
  omega
theorem turns_le {w0 : World} {p : OrdP} (hc : OrdC w0 p) : ∀ x ∈ p.ml, x ≤ 23040 := fun x hx => by
  have hm := turnsOk_iff.1 hc.tn
  have h1 := sumM_mem hm.2.2.1 hx
  have h3 := (netOk_parts hc.ok).2.2.2.1
  omega
set_option maxHeartbeats 4000000 in
set_option maxRecDepth 100000 in
theorem next_succ (w0 : World) (p : OrdP) (hc : OrdC w0 p) (d : Nat)
    (ih : ∀ (now : List Nat) (st : List Nat × Int) (W : World), OrdS w0 p now st W → now.length + d = p.nk → now.Nodup → (∀ k ∈ now, k < p.nk) → Calls Try.prog 41 p.caps W fun e w' => (∃ v, e = .returned v) ∧ OrdS w0 p now (dfsO p.val p.nk d now st) w')
    (now : List Nat) (st : List Nat × Int) (W : World) (h : OrdS w0 p now st W) (hl : now.length + (d + 1) = p.nk) (hnd : now.Nodup) (hlt : ∀ k ∈ now, k < p.nk) :
    Calls Try.prog 41 p.caps W fun e w' => (∃ v, e = .returned v) ∧ OrdS w0 p now (dfsO p.val p.nk (d + 1) now st) w' := by
  obtain ⟨vN, vU, vO, hq⟩ := h
  obtain ⟨AN, cN, rfl, rN⟩ := hq.oN.rd
  obtain ⟨AU, cU, rfl, rU⟩ := hq.oU.rd
  rw [ints_len] at hq
  rw [rowSt_len] at hq
  have Hq := hide hq; have Hnd := hide hnd; have Hlt := hide hlt; have Ih := hide ih
  have q4 := hq.hN.c1
  have q5 := hq.fb.c1
  have q8 := hq.hU.c1
  have q9 := hq.mb.c1
  have hk6 := hc.k6
  have hne : ¬ now.length = p.nk := by omega
  have hne2 : ((now.length : Int) == (p.nk : Int)) = false := by simp; omega
  obtain ⟨⟨l0, l1, l2, l3, l4⟩, l5, l6, l7, l8, l9⟩ := hc.lt
  have Hc := hide hc
  have hs := hq.sz
  have E1 := hide enters_next
  clear hq rN hc hnd hlt ih
  obtain ⟨beg, hbeg⟩ : ∃ beg, (rowSt p.fl p.ml now).2 = beg := ⟨_, rfl⟩
  have Hl := hide hl; have HBeg := hide hbeg
  have hbb : 0 ≤ beg ∧ beg ≤ 23040 := by
    rw [← hbeg, rowSt_sum]
    have hm := (turnsOk_iff.1 Hc.out.tn)
    have h1 := sumAt_le hm.2.2.1 p.ml.length now Hnd.out (fun j hj => by have := Hlt.out j hj; have := Hc.out.em; omega)
    have h2 := sumM_range p.ml p.ml.length (Nat.le_refl _)
    rw [List.take_length] at h2
    have h3 := (netOk_parts Hc.out.ok).2.2.2.1
    have h4 := sumAt_nonneg hm.2.2.1 now
    exact ⟨h4, by omega⟩
  have HBegB := hide hbb
  have HMk := hide (turns_le Hc.out)
  have HrU := hide rU
  clear hl rU hbb
  unfold OrdP.caps
  by_cases h0 : now.length = 0
  · have Hb0 : Hid (beg = 0) := by
      have : now = [] := List.length_eq_zero_iff.1 h0
      subst this; exact hide (by rw [← hbeg]; rfl)
    clear hbeg
    go_enter Try.func41, Try.ntmps41
    go_step3
    go_wp2_with fail
    go_step3
    go_wp2_with fail
    clear h0 q4 q5 q8 q9 hne hne2 HrU
    refine (wpIn_wide (n := 9)).1 ?_
    refine wpIn_loop_rounds (p.nk + 1) (rounds_of (fun r a1 wr => ∃ (k : Nat) (Am : Option Addr), k + r = p.nk + 1 ∧ k ≤ p.nk ∧ (a1.tmps.size = 99 ∧ a1.defers = [] ∧ slot a1 0 = .pointer (some ⟨p.bn, 0, none⟩) ∧ slot a1 1 = .pointer (some ⟨p.bF, 0, none⟩) ∧ slot a1 2 = .pointer (some ⟨p.bX, 0, none⟩) ∧ slot a1 3 = .pointer (some ⟨p.bL, 0, none⟩) ∧ slot a1 4 = .pointer (some ⟨p.bU, 0, none⟩) ∧ slot a1 5 = .pointer (some ⟨p.bT, 0, none⟩) ∧ slot a1 6 = .pointer (some ⟨p.bO, 0, none⟩) ∧ slot a1 7 = .pointer (some ⟨p.bM, 0, none⟩) ∧ slot a1 8 = .pointer (some ⟨p.bN, 0, none⟩) ∧ slot a1 12 = .int .i64 beg ∧ slot a1 52 = .slice Am p.nk p.cm ∧ slot a1 53 = .int .i64 p.nk ∧ slot a1 54 = .int .i64 k) ∧ Am = p.Am ∧ OrdS w0 p now (dfsTo p.val p.nk d now st k) wr) ?_ ?_ (p.nk + 1) _ _ ⟨0, p.Am, by omega, by omega, (by and_intros <;> first | rfl | trivial | (rw [Hb0.out]; rfl)), rfl, ⟨_, _, _, Hq.out⟩⟩)
    · rintro a wr ⟨k, Am, hk, hk2, _⟩
      omega
    · clear Hq
      rintro r a1 wr ⟨k, Am, hkr, hk, ⟨hs, hd, s0, s1, s2, s3, s4, s5, s6, s7, s8, s12, s52, s53, s54⟩, hAm, hS⟩
      rw [act_eq hs hd]
      obtain ⟨u, hu⟩ : ∃ u, u = slot a1 := ⟨_, rfl⟩
      rw [← hu] at s0 s1 s2 s3 s4 s5 s6 s7 s8 s12 s52 s53 s54 ⊢
      have he : ({ tmps := ((List.range 99).map u).toArray, defers := [] } : Act) = { tmps := #[(u 0), (u 1), (u 2), (u 3), (u 4), (u 5), (u 6), (u 7), (u 8), (u 9), (u 10), (u 11), (u 12), (u 13), (u 14), (u 15), (u 16), (u 17), (u 18), (u 19), (u 20), (u 21), (u 22), (u 23), (u 24), (u 25), (u 26), (u 27), (u 28), (u 29), (u 30), (u 31), (u 32), (u 33), (u 34), (u 35), (u 36), (u 37), (u 38), (u 39), (u 40), (u 41), (u 42), (u 43), (u 44), (u 45), (u 46), (u 47), (u 48), (u 49), (u 50), (u 51), (u 52), (u 53), (u 54), (u 55), (u 56), (u 57), (u 58), (u 59), (u 60), (u 61), (u 62), (u 63), (u 64), (u 65), (u 66), (u 67), (u 68), (u 69), (u 70), (u 71), (u 72), (u 73), (u 74), (u 75), (u 76), (u 77), (u 78), (u 79), (u 80), (u 81), (u 82), (u 83), (u 84), (u 85), (u 86), (u 87), (u 88), (u 89), (u 90), (u 91), (u 92), (u 93), (u 94), (u 95), (u 96), (u 97), (u 98)], defers := [] } := rfl
      rw [he, s0, s1, s2, s3, s4, s5, s6, s7, s8, s12, s52, s53, s54]
      clear he hs hd hu s0 s1 s2 s3 s4 s5 s6 s7 s8 s12 s52 s53 s54
      by_cases hlk : k < p.nk
      · obtain ⟨vN, vU, vO, hq⟩ := hS
        obtain ⟨AN, cN, rfl, rN⟩ := hq.oN.rd
        obtain ⟨AU, cU, rfl, rU⟩ := hq.oU.rd
        rw [ints_len] at hq
        rw [rowSt_len] at hq
        obtain ⟨bm, offm, mk, hAm2, hbm, hxm, d0⟩ := (Hc.out.rm.below hq.bl).int (i := k) (by rw [← Hc.out.em]; exact hlk)
        obtain rfl : Am = some ⟨bm, offm, none⟩ := hAm.trans hAm2
        have hmk := (turnsOk_iff.1 Hc.out.tn).2.2.1 mk (List.mem_of_getElem? hxm)
        have q4 := hq.hN.c1
        have i0 : (0 : Int) ≤ (k : Int) := by omega
        have i1 : (k : Int) < (p.nk : Int) := by omega
        have HrN := hide rN; have Hq := hide hq; have Hxm := hide hxm
        have hnl : now.length ≤ 6 := by have := Hl.out; omega
        clear rN rU hq hxm hAm
        gi_wp2_with fail
        refine wpIn_loop_rounds (now.length + 1) (rounds_of (fun r a2 wq => ∃ i : Nat, i + r = now.length + 1 ∧ i ≤ now.length ∧ (a2.tmps.size = 99 ∧ a2.defers = [] ∧ slot a2 0 = .pointer (some ⟨p.bn, 0, none⟩) ∧ slot a2 1 = .pointer (some ⟨p.bF, 0, none⟩) ∧ slot a2 2 = .pointer (some ⟨p.bX, 0, none⟩) ∧ slot a2 3 = .pointer (some ⟨p.bL, 0, none⟩) ∧ slot a2 4 = .pointer (some ⟨p.bU, 0, none⟩) ∧ slot a2 5 = .pointer (some ⟨p.bT, 0, none⟩) ∧ slot a2 6 = .pointer (some ⟨p.bO, 0, none⟩) ∧ slot a2 7 = .pointer (some ⟨p.bM, 0, none⟩) ∧ slot a2 8 = .pointer (some ⟨p.bN, 0, none⟩) ∧ slot a2 12 = .int .i64 beg ∧ slot a2 14 = .int .i64 k ∧ slot a2 15 = .int .i64 mk ∧ slot a2 52 = .slice (some ⟨bm, offm, none⟩) p.nk p.cm ∧ slot a2 53 = .int .i64 p.nk ∧ slot a2 54 = .int .i64 k ∧ slot a2 59 = .slice AN now.length cN ∧ slot a2 60 = .int .i64 now.length ∧ slot a2 61 = .int .i64 i) ∧ wr = wq ∧ Hid (k ∉ now.take i)) ?_ ?_ (now.length + 1) _ _ ⟨0, by omega, by omega, (by and_intros <;> first | rfl | trivial), rfl, hide (by simp)⟩)
        · rintro a wr ⟨i, hi, hi2, _⟩
          omega
        · rintro r2 a2 wq ⟨i, hir, hi, ⟨hs, hd, s0, s1, s2, s3, s4, s5, s6, s7, s8, s12, s14, s15, s52, s53, s54, s59, s60, s61⟩, rfl, hno⟩
          rw [act_eq hs hd]
          obtain ⟨u, hu⟩ : ∃ u, u = slot a2 := ⟨_, rfl⟩
          rw [← hu] at s0 s1 s2 s3 s4 s5 s6 s7 s8 s12 s14 s15 s52 s53 s54 s59 s60 s61 ⊢
          have he : ({ tmps := ((List.range 99).map u).toArray, defers := [] } : Act) = { tmps := #[(u 0), (u 1), (u 2), (u 3), (u 4), (u 5), (u 6), (u 7), (u 8), (u 9), (u 10), (u 11), (u 12), (u 13), (u 14), (u 15), (u 16), (u 17), (u 18), (u 19), (u 20), (u 21), (u 22), (u 23), (u 24), (u 25), (u 26), (u 27), (u 28), (u 29), (u 30), (u 31), (u 32), (u 33), (u 34), (u 35), (u 36), (u 37), (u 38), (u 39), (u 40), (u 41), (u 42), (u 43), (u 44), (u 45), (u 46), (u 47), (u 48), (u 49), (u 50), (u 51), (u 52), (u 53), (u 54), (u 55), (u 56), (u 57), (u 58), (u 59), (u 60), (u 61), (u 62), (u 63), (u 64), (u 65), (u 66), (u 67), (u 68), (u 69), (u 70), (u 71), (u 72), (u 73), (u 74), (u 75), (u 76), (u 77), (u 78), (u 79), (u 80), (u 81), (u 82), (u 83), (u 84), (u 85), (u 86), (u 87), (u 88), (u 89), (u 90), (u 91), (u 92), (u 93), (u 94), (u 95), (u 96), (u 97), (u 98)], defers := [] } := rfl
          rw [he, s0, s1, s2, s3, s4, s5, s6, s7, s8, s12, s14, s15, s52, s53, s54, s59, s60, s61]
          clear he hs hd hu s0 s1 s2 s3 s4 s5 s6 s7 s8 s12 s14 s15 s52 s53 s54 s59 s60 s61
          by_cases hlt : i < now.length
          · obtain ⟨bo, offo, kv, rfl, hbo, hxo, a0⟩ := HrN.out.int (i := i) (by rw [ints_len]; exact hlt)
            obtain ⟨ki, hki⟩ : ∃ ki, now[i]? = some ki := ⟨_, List.getElem?_eq_getElem hlt⟩
            obtain rfl : kv = (ki : Int) := by
              unfold ints at hxo
              rw [List.getElem?_map, hki] at hxo
              simpa using hxo.symm
            have j0 : (0 : Int) ≤ (i : Int) := by omega
            have j1 : (i : Int) < (now.length : Int) := by omega
            have Hki := hide hki
            clear hxo hki
            by_cases hkk : ki = k
            · subst hkk
              gi_wp2_with fail
              refine ⟨ki + 1, _, by omega, by omega, (by and_intros <;> first | rfl | trivial), hAm2.symm, ?_⟩
              rw [dfsTo_in (List.mem_of_getElem? Hki.out)]
              exact ⟨_, _, _, Hq.out⟩
            · have hkb : ((ki : Int) == (k : Int)) = false := by simp; omega
              have Hkk := hide hkk
              clear hkk
              gi_wp2_with fail
              refine ⟨i + 1, by omega, by omega, (by and_intros <;> first | rfl | trivial), by first | rfl | trivial, hide ?_⟩
              rw [take_snoc Hki.out]
              intro hm
              rcases List.mem_append.1 hm with h1 | h1
              · exact hno.out h1
              · simp at h1; exact Hkk.out h1.symm
          · obtain rfl : i = now.length := by omega
            have hnew : k ∉ now := by have := hno.out; rwa [List.take_length] at this
            have Hnew := hide hnew
            have hlit := hide (Rd.new (cells := icell) wr #[.int .i64 (k : Int)] 3 [(k : Int)] rfl)
            have hq := Hq.out
            have hsq := hq.sz
            clear hno hnew
            gi_wp2_with (gi_at_builtin; refine wpListIn_app (v := .slice AN now.length cN) (xs := ints now) (ys := [(k : Int)]) (n := 1) el_int rfl (.tmp 69) (.tmp 71) rfl rfl (Hq.out.oN.alloc _) rfl rfl hlit.out (by rw [ints_len]; omega) (by simp; omega) ?_; intro vV wv hown1 hg1 hat1; have hkv := kept_app2 Hq.out.oN (below_new wr _) hg1; have hrn : ∀ b, b < p.base → ¬ (Value.slice AN now.length cN).ownBlock = some b := (fun b hb e => by have := (own_bl Hq.out.oN b e).1; omega); have z0 := (Hq.out.hN.kept hkv (hrn _ (by omega))).c1; have y0 := (hkv.frozen (p := ⟨p.bn, 0, none⟩) (hrn _ (by show p.bn < _; omega)) (by show p.bn < _; omega)).trans Hq.out.fn; obtain ⟨AV, cV, hvV, _⟩ := hown1.rd; rw [show (ints now ++ [(k : Int)]).length = now.length + 1 from by rw [List.length_append, ints_len]; rfl] at hvV; subst hvV; have HA := hide (Hq.out.pushN Hc.out hown1 hg1 (by simpa using hat1)); clear hown1 hg1 hat1 hkv)
            have hbf0 := (Hc.out.rf.below HA.out.bl)
            obtain ⟨bf, offf, fk, hAff, hbf, hxf, cf0⟩ := hbf0.int (i := k) (by rw [← Hc.out.ek]; exact hlk)
            obtain ⟨wA, HwA⟩ : ∃ wA, Hid (wv.setCell ⟨p.bn, 0, none⟩ (.slice AV (now.length + 1) cV) = wA) := ⟨_, hide rfl⟩
            have hqA := HA.out
            rw [HwA.out] at hqA cf0
            have hqAd := hide (hqA.below Hc.out (Below.refl _ _).drew)
            have HoU := hide (hqA.oU.below (Below.refl _ _).drew)
            have hzA := hqA.sz
            have rowne : ∀ b : Nat, b < p.base → ¬ (Value.slice AU now.length cU).ownBlock = some b := fun b hb e => by have := (own_bl hqA.oU b e).1; omega
            have hsumb := HBegB.out
            have hmk2 : mk ≤ 23040 := HMk.out mk (List.mem_of_getElem? Hxm.out)
            have hwr : IntKind.i64.wrap (beg + mk) = beg + mk := wrapI (by omega)
            have Hwrap := hide hwr
            have Hxf := hide hxf
            rw [HwA.out]
            clear HA hwr hxf q4 hq hlit z0 y0
            refine wpIn_mono (Q := onNormal (fun a1 W1 => (a1.tmps.size = 99 ∧ a1.defers = [] ∧ slot a1 0 = .pointer (some ⟨p.bn, 0, none⟩) ∧ slot a1 1 = .pointer (some ⟨p.bF, 0, none⟩) ∧ slot a1 2 = .pointer (some ⟨p.bX, 0, none⟩) ∧ slot a1 3 = .pointer (some ⟨p.bL, 0, none⟩) ∧ slot a1 4 = .pointer (some ⟨p.bU, 0, none⟩) ∧ slot a1 5 = .pointer (some ⟨p.bT, 0, none⟩) ∧ slot a1 6 = .pointer (some ⟨p.bO, 0, none⟩) ∧ slot a1 7 = .pointer (some ⟨p.bM, 0, none⟩) ∧ slot a1 8 = .pointer (some ⟨p.bN, 0, none⟩) ∧ slot a1 12 = .int .i64 beg ∧ slot a1 14 = .int .i64 k ∧ slot a1 15 = .int .i64 mk ∧ slot a1 52 = .slice (some ⟨bm, offm, none⟩) p.nk p.cm ∧ slot a1 53 = .int .i64 p.nk ∧ slot a1 54 = .int .i64 k) ∧ ∃ AW cW, OrdQ w0 p (ints now ++ [(k : Int)]) ((rowSt p.fl p.ml now).1 ++ [⟨fk, beg, beg + mk⟩]) (ints (dfsTo p.val p.nk d now st k).1) (dfsTo p.val p.nk d now st k).2 (.slice AV (now.length + 1) cV) (.slice AW (now.length + 1) cW) vO W1)) ?_ ?_
            · refine wpIn_region_S (S := (fun W => Kept (fun b => ¬ (Value.slice AU now.length cU).ownBlock = some b) wA W)) (z := 13) (by kernel_rfl) (by (try dsimp only); exact Kept.all _ (Below.refl _ _).drew) (fun hHeld => ?_)
              refine tkS 0 ?_ rfl (Or.inl ⟨by rfl, ?_⟩) hHeld ?_
              rotate_left
              · (intro w hSw; (try dsimp only at hSw); have z0 := (hqA.hU.kept hSw (rowne _ (by omega))).c1; go_simp; try (with_reducible rfl))
              try simp only [Act.put, tl1, tl2, tl3]
              refine tkS 1 ?_ rfl (Or.inl ⟨by rfl, ?_⟩) hHeld ?_
              rotate_left
              · (intro w hSw; (try dsimp only at hSw); have z0 := (hqA.fb.kept hSw (rowne _ (by omega))).c1; rw [hAff] at z0; go_simp; try (with_reducible rfl))
              try simp only [Act.put, tl1, tl2, tl3]
              iterate 7
                refine tkSl [2, 3, 5, 6, 7, 8, 9] ?_ rfl rfl (Or.inl ⟨by rfl, ?_⟩) hHeld ?_
                rotate_left
                · (intro w hSw; (try dsimp only at hSw); go_simp; try (with_reducible rfl))
                try simp only [Act.put, tl1, tl2, tl3]
              refine tkS 4 ?_ rfl (Or.inl ⟨by rfl, ?_⟩) hHeld ?_
              rotate_left
              · (intro w hSw; (try dsimp only at hSw); have z0 := (hSw.cell (p := ⟨bf, offf + k, none⟩) (rowne _ (by show bf < _; omega)) (by show bf < _; omega)).trans cf0; go_simp; try (with_reducible rfl))
              try simp only [Act.put, tl1, tl2, tl3]
              refine tkS 10 ?_ rfl (Or.inl ⟨by rfl, ?_⟩) hHeld ?_
              rotate_left
              · (intro w hSw; (try dsimp only at hSw); go_simp; try (with_reducible rfl))
              try simp only [Act.put, tl1, tl2, tl3]
              refine wpAnyS_ready (rs := [11]) (by kernel_rfl) (by simp) ?_
              refine AllS.cons (o := ⟨_, _, _, _, _, _⟩) rfl (fun _ => trivial) (fun K hK => ?_) AllS.nil
              go_simp
              have hlit := hide (Rd.new (cells := Us.cells) wA.drew #[.int .i64 fk, .int .i64 beg, .int .i64 (IntKind.i64.wrap (beg + mk))] 47 [⟨fk, beg, IntKind.i64.wrap (beg + mk)⟩] rfl)
              refine hK.out _ _ ?_ (fun hHeld2 => ?_)
              · intro _; (try dsimp only)
                (first | exact hHeld | exact Kept.all _ (Below.refl _ _).drew | exact hHeld.trans (Kept.all _ (below_new _ _)) | exact (Kept.all _ (Below.refl _ _).drew).trans hkV)
              clear hK K hHeld; have hHeld := hHeld2 (by decide); clear hHeld2
              try simp only [Act.put, tl1, tl2, tl3]
              refine wpAnyS_ready (rs := [12]) (by kernel_rfl) (by simp) ?_
              refine AllS.cons (o := ⟨_, _, _, _, _, _⟩) rfl (fun _ => trivial) (fun K hK => ?_) AllS.nil
              rw [if_pos (by rfl)]
              refine opIn_app (v := .slice AU now.length cU) (xs := (rowSt p.fl p.ml now).1) (ys := [⟨fk, beg, IntKind.i64.wrap (beg + mk)⟩]) (n := 1) el_us (.tmp 73) (.tmp 84) rfl rfl (HoU.out.alloc _) rfl rfl hlit.out (by rw [rowSt_len]; omega) (by simp; omega) ?_
              intro vV wv hownV hgV hatV
              obtain ⟨AV, cV, hvV, _⟩ := hownV.rd
              rw [show ((rowSt p.fl p.ml now).1 ++ [(⟨fk, beg, IntKind.i64.wrap (beg + mk)⟩ : Us)]).length = now.length + 1 from by rw [List.length_append, rowSt_len]; rfl] at hvV
              subst hvV
              have HQV := hide (hqAd.out.pushU Hc.out hownV hgV (by simpa using hatV))
              have hkV := (Kept.all (fun b => ¬ (Value.slice AU now.length cU).ownBlock = some b) (below_new wA.drew _)).trans ((Kept.grown hgV).mono fun b _ hb e => hb e.symm)
              clear hownV hgV hatV
              refine hK.out _ _ ?_ (fun hHeld2 => ?_)
              · intro _; (try dsimp only)
                (first | exact hHeld | exact Kept.all _ (Below.refl _ _).drew | exact hHeld.trans (Kept.all _ (below_new _ _)) | exact (Kept.all _ (Below.refl _ _).drew).trans hkV)
              clear hK K hHeld; have hHeld := hHeld2 (by decide); clear hHeld2
              try simp only [Act.put, tl1, tl2, tl3]
              refine wpAnyS_ready (rs := [13]) (by kernel_rfl) (by simp) ?_
              refine AllS.cons (o := ⟨_, _, _, _, _, _⟩) rfl (fun _ => trivial) (fun K hK => ?_) AllS.nil
              have z0 := (hqA.hU.kept hHeld (rowne _ (by omega))).c1
              have y0 := (hHeld.frozen (p := ⟨p.bU, 0, none⟩) (rowne _ (by show p.bU < _; omega)) (by show p.bU < _; omega)).trans hqA.fu
              go_simp
              refine hK.out _ _ (fun h => absurd rfl h) (fun _ => ?_)
              clear hK K hHeld
              try simp only [Act.put, tl1, tl2, tl3]
              refine wpAnyS_done (by kernel_rfl) ?_ _
              exact ⟨(by and_intros <;> first | rfl | trivial), _, _, by rw [← Hwrap.out]; exact HQV.out⟩
            rintro e a3 w3 hqq
            cases e with
            | normal =>
              obtain ⟨⟨hs, hd, s0, s1, s2, s3, s4, s5, s6, s7, s8, s12, s14, s15, s52, s53, s54⟩, AW, cW, hq3⟩ := hqq
              rw [act_eq hs hd]
              obtain ⟨u, hu⟩ : ∃ u, u = slot a3 := ⟨_, rfl⟩
              rw [← hu] at s0 s1 s2 s3 s4 s5 s6 s7 s8 s12 s14 s15 s52 s53 s54 ⊢
              have he : ({ tmps := ((List.range 99).map u).toArray, defers := [] } : Act) = { tmps := #[(u 0), (u 1), (u 2), (u 3), (u 4), (u 5), (u 6), (u 7), (u 8), (u 9), (u 10), (u 11), (u 12), (u 13), (u 14), (u 15), (u 16), (u 17), (u 18), (u 19), (u 20), (u 21), (u 22), (u 23), (u 24), (u 25), (u 26), (u 27), (u 28), (u 29), (u 30), (u 31), (u 32), (u 33), (u 34), (u 35), (u 36), (u 37), (u 38), (u 39), (u 40), (u 41), (u 42), (u 43), (u 44), (u 45), (u 46), (u 47), (u 48), (u 49), (u 50), (u 51), (u 52), (u 53), (u 54), (u 55), (u 56), (u 57), (u 58), (u 59), (u 60), (u 61), (u 62), (u 63), (u 64), (u 65), (u 66), (u 67), (u 68), (u 69), (u 70), (u 71), (u 72), (u 73), (u 74), (u 75), (u 76), (u 77), (u 78), (u 79), (u 80), (u 81), (u 82), (u 83), (u 84), (u 85), (u 86), (u 87), (u 88), (u 89), (u 90), (u 91), (u 92), (u 93), (u 94), (u 95), (u 96), (u 97), (u 98)], defers := [] } := rfl
              rw [he, s0, s1, s2, s3, s4, s5, s6, s7, s8, s12, s14, s15, s52, s53, s54]
              clear he hs hd hu s0 s1 s2 s3 s4 s5 s6 s7 s8 s12 s14 s15 s52 s53 s54
              have hS3 : OrdS w0 p (now ++ [k]) (dfsTo p.val p.nk d now st k) w3 := by
                refine ⟨.slice AV (now.length + 1) cV, .slice AW (now.length + 1) cW, vO, ?_⟩
                rw [ints_snoc, rowSt_snoc]
                have e1 : atI p.fl k = fk := by unfold atI; rw [Hxf.out]; rfl
                have e2 : atI p.ml k = mk := by unfold atI; rw [Hxm.out]; rfl
                simp only [e1, e2, HBeg.out]
                exact hq3
              have HS3 := hide hS3
              have q8 := hq3.nx.c1
              unfold OrdP.caps at q8
              have Ih3 := Ih.out (now ++ [k]) (dfsTo p.val p.nk d now st k) w3 hS3 (by simp; have := Hl.out; omega) (by
                rw [List.nodup_append]
                exact ⟨Hnd.out, by simp, fun a ha b hb => by simp at hb; subst hb; exact fun e => Hnew.out (e ▸ ha)⟩) (fun j hj => by
                rcases List.mem_append.1 hj with h1 | h1
                · exact Hlt.out j h1
                · simp at h1; omega)
              unfold OrdP.caps at Ih3
              have Ih3 := hide Ih3
              clear hS3 hq3 hqA
              gi_wp2_with fail
              refine wcall (Ih3.out.mono ?_)
              rintro e wB ⟨⟨v, rfl⟩, hSB⟩
              obtain ⟨vNB, vUB, vOB, hqB⟩ := hSB
              obtain ⟨AB, cB, rfl, _⟩ := hqB.oN.rd
              obtain ⟨DB, eB, rfl, _⟩ := hqB.oU.rd
              rw [show (ints (now ++ [k])).length = now.length + 1 from by rw [ints_len]; simp] at hqB
              rw [show (rowSt p.fl p.ml (now ++ [k])).1.length = now.length + 1 from by rw [rowSt_len]; simp] at hqB
              have hqBd := hqB.below Hc.out (Below.refl _ _).drew
              rw [ints_snoc, rowSt_snoc] at hqBd
              have hqBd := hide hqBd
              have HB1 := hide (B1.refl hqB.hN hqB.fn)
              have hsB := hqB.sz
              have hcB := own_cap hqB.oN
              have hcD := own_cap hqB.oU
              clear Ih3 HS3 q8
              gi_wp2_with fail
              refine wpIn_mono (Q := onNormal (fun a1 W1 => (a1.tmps.size = 99 ∧ a1.defers = [] ∧ slot a1 0 = .pointer (some ⟨p.bn, 0, none⟩) ∧ slot a1 1 = .pointer (some ⟨p.bF, 0, none⟩) ∧ slot a1 2 = .pointer (some ⟨p.bX, 0, none⟩) ∧ slot a1 3 = .pointer (some ⟨p.bL, 0, none⟩) ∧ slot a1 4 = .pointer (some ⟨p.bU, 0, none⟩) ∧ slot a1 5 = .pointer (some ⟨p.bT, 0, none⟩) ∧ slot a1 6 = .pointer (some ⟨p.bO, 0, none⟩) ∧ slot a1 7 = .pointer (some ⟨p.bM, 0, none⟩) ∧ slot a1 8 = .pointer (some ⟨p.bN, 0, none⟩) ∧ slot a1 12 = .int .i64 beg ∧ slot a1 14 = .int .i64 k ∧ slot a1 15 = .int .i64 mk ∧ slot a1 52 = .slice (some ⟨bm, offm, none⟩) p.nk p.cm ∧ slot a1 53 = .int .i64 p.nk ∧ slot a1 54 = .int .i64 k) ∧ OrdQ w0 p (ints now) (rowSt p.fl p.ml now).1 (ints (dfsO p.val p.nk d (now ++ [k]) (dfsTo p.val p.nk d now st k)).1) (dfsO p.val p.nk d (now ++ [k]) (dfsTo p.val p.nk d now st k)).2 (.slice AB now.length cB) (.slice DB now.length eB) vOB W1)) ?_ ?_
              · refine wpIn_region_S (S := (fun W => B1 wB p.bn W)) (z := 11) (by kernel_rfl) (by (try dsimp only); exact HB1.out.drew) (fun hHeld => ?_)
                iterate 2
                  refine tkSl [5, 6] ?_ rfl rfl (Or.inl ⟨by rfl, ?_⟩) hHeld ?_
                  rotate_left
                  · (intro w hSw; (try dsimp only at hSw); have z0 := (hqB.hU.kept hSw.k (by omega)).c1; go_simp; try (with_reducible rfl))
                  try simp only [Act.put, tl1, tl2, tl3]
                iterate 2
                  refine tkSl [7, 8] ?_ rfl rfl (Or.inl ⟨by rfl, ?_⟩) hHeld ?_
                  rotate_left
                  · (intro w hSw; (try dsimp only at hSw); go_simp; try (with_reducible rfl))
                  try simp only [Act.put, tl1, tl2, tl3]
                refine tkS 9 ?_ rfl (Or.inl ⟨by rfl, ?_⟩) hHeld ?_
                rotate_left
                · (intro w hSw; (try dsimp only at hSw); go_simp; rw [wrapI (x := (now.length : Int)) (by omega), if_pos (by omega), Int.toNat_natCast]; try (with_reducible rfl))
                try simp only [Act.put, tl1, tl2, tl3]
                refine wpAnyS_ready (rs := [0, 1]) (by kernel_rfl) (by simp) ?_
                refine AllS.cons (o := ⟨_, _, _, _, _, _⟩) rfl (fun _ => trivial) (fun K hK => ?_) ?_
                ·
                  have z0 := hqB.hN.c1
                  go_simp
                  refine hK.out _ _ ?_ (fun hHeld2 => ?_)
                  · intro _; (try dsimp only)
                    (first | exact hHeld | exact hHeld.drew | exact hHeld.setA _)
                  clear hK K hHeld; have hHeld := hHeld2 (by decide); clear hHeld2
                  try simp only [Act.put, tl1, tl2, tl3]
                  refine wpAnyS_ready (rs := [1]) (by kernel_rfl) (by simp) ?_
                  refine AllS.cons (o := ⟨_, _, _, _, _, _⟩) rfl (fun _ => trivial) (fun K hK => ?_) AllS.nil
                  have z0 := hqB.hN.c1
                  go_simp
                  refine hK.out _ _ ?_ (fun hHeld2 => ?_)
                  · intro _; (try dsimp only)
                    (first | exact hHeld | exact hHeld.drew | exact hHeld.setA _)
                  clear hK K hHeld; have hHeld := hHeld2 (by decide); clear hHeld2
                  try simp only [Act.put, tl1, tl2, tl3]
                  iterate 2
                    refine tkSl [2, 3] ?_ rfl rfl (Or.inl ⟨by rfl, ?_⟩) hHeld ?_
                    rotate_left
                    · (intro w hSw; (try dsimp only at hSw); go_simp; try (with_reducible rfl))
                    try simp only [Act.put, tl1, tl2, tl3]
                  refine tkS 4 ?_ rfl (Or.inl ⟨by rfl, ?_⟩) hHeld ?_
                  rotate_left
                  · (intro w hSw; (try dsimp only at hSw); go_simp; rw [wrapI (x := (now.length : Int)) (by omega), if_pos (by omega), Int.toNat_natCast]; try (with_reducible rfl))
                  try simp only [Act.put, tl1, tl2, tl3]
                  refine wpAnyS_ready (rs := [10]) (by kernel_rfl) (by simp) ?_
                  refine AllS.cons (o := ⟨_, _, _, _, _, _⟩) rfl (fun _ => trivial) (fun K hK => ?_) AllS.nil
                  obtain ⟨x, hx⟩ := hHeld.a
                  have z0 := hx.c1
                  have y0 := hHeld.f
                  have hH := hHeld
                  go_simp
                  refine hK.out _ _ ?_ (fun hHeld2 => ?_)
                  · intro _; (try dsimp only)
                    (first | exact hHeld | exact hHeld.drew | exact hHeld.setA _)
                  clear hK K hHeld; have hHeld := hHeld2 (by decide); clear hHeld2
                  try simp only [Act.put, tl1, tl2, tl3]
                  refine wpAnyS_ready (rs := [11]) (by kernel_rfl) (by simp) ?_
                  refine AllS.cons (o := ⟨_, _, _, _, _, _⟩) rfl (fun _ => trivial) (fun K hK => ?_) AllS.nil
                  have z0 := (hqB.hU.kept hHeld.k (by omega)).c1
                  have y0 := (hHeld.k.frozen (p := ⟨p.bU, 0, none⟩) (by show ¬ p.bU = _; omega) (by show p.bU < _; omega)).trans hqB.fu
                  go_simp
                  refine hK.out _ _ (fun h => absurd rfl h) (fun _ => ?_)
                  clear hK K hHeld
                  try simp only [Act.put, tl1, tl2, tl3]
                  refine wpAnyS_done (by kernel_rfl) ?_ _
                  exact ⟨(by and_intros <;> first | rfl | trivial), hqBd.out.pop Hc.out⟩
                refine AllS.cons (o := ⟨_, _, _, _, _, _⟩) rfl (fun _ => trivial) (fun K hK => ?_) AllS.nil
                have z0 := hqB.hN.c1
                go_simp
                refine hK.out _ _ ?_ (fun hHeld2 => ?_)
                · intro _; (try dsimp only)
                  (first | exact hHeld | exact hHeld.drew | exact hHeld.setA _)
                clear hK K hHeld; have hHeld := hHeld2 (by decide); clear hHeld2
                try simp only [Act.put, tl1, tl2, tl3]
                iterate 2
                  refine tkSl [2, 3] ?_ rfl rfl (Or.inl ⟨by rfl, ?_⟩) hHeld ?_
                  rotate_left
                  · (intro w hSw; (try dsimp only at hSw); go_simp; try (with_reducible rfl))
                  try simp only [Act.put, tl1, tl2, tl3]
                refine wpAnyS_ready (rs := [0]) (by kernel_rfl) (by simp) ?_
                refine AllS.cons (o := ⟨_, _, _, _, _, _⟩) rfl (fun _ => trivial) (fun K hK => ?_) AllS.nil
                have z0 := hqB.hN.c1
                go_simp
                refine hK.out _ _ ?_ (fun hHeld2 => ?_)
                · intro _; (try dsimp only)
                  (first | exact hHeld | exact hHeld.drew | exact hHeld.setA _)
                clear hK K hHeld; have hHeld := hHeld2 (by decide); clear hHeld2
                try simp only [Act.put, tl1, tl2, tl3]
                refine tkS 4 ?_ rfl (Or.inl ⟨by rfl, ?_⟩) hHeld ?_
                rotate_left
                · (intro w hSw; (try dsimp only at hSw); go_simp; rw [wrapI (x := (now.length : Int)) (by omega), if_pos (by omega), Int.toNat_natCast]; try (with_reducible rfl))
                try simp only [Act.put, tl1, tl2, tl3]
                refine wpAnyS_ready (rs := [10]) (by kernel_rfl) (by simp) ?_
                refine AllS.cons (o := ⟨_, _, _, _, _, _⟩) rfl (fun _ => trivial) (fun K hK => ?_) AllS.nil
                obtain ⟨x, hx⟩ := hHeld.a
                have z0 := hx.c1
                have y0 := hHeld.f
                have hH := hHeld
                go_simp
                refine hK.out _ _ ?_ (fun hHeld2 => ?_)
                · intro _; (try dsimp only)
                  (first | exact hHeld | exact hHeld.drew | exact hHeld.setA _)
                clear hK K hHeld; have hHeld := hHeld2 (by decide); clear hHeld2
                try simp only [Act.put, tl1, tl2, tl3]
                refine wpAnyS_ready (rs := [11]) (by kernel_rfl) (by simp) ?_
                refine AllS.cons (o := ⟨_, _, _, _, _, _⟩) rfl (fun _ => trivial) (fun K hK => ?_) AllS.nil
                have z0 := (hqB.hU.kept hHeld.k (by omega)).c1
                have y0 := (hHeld.k.frozen (p := ⟨p.bU, 0, none⟩) (by show ¬ p.bU = _; omega) (by show p.bU < _; omega)).trans hqB.fu
                go_simp
                refine hK.out _ _ (fun h => absurd rfl h) (fun _ => ?_)
                clear hK K hHeld
                try simp only [Act.put, tl1, tl2, tl3]
                refine wpAnyS_done (by kernel_rfl) ?_ _
                exact ⟨(by and_intros <;> first | rfl | trivial), hqBd.out.pop Hc.out⟩
              rintro e a4 w4 hqq
              cases e with
              | normal =>
                obtain ⟨⟨hs, hd, s0, s1, s2, s3, s4, s5, s6, s7, s8, s12, s14, s15, s52, s53, s54⟩, hq4⟩ := hqq
                rw [act_eq hs hd]
                obtain ⟨u, hu⟩ : ∃ u, u = slot a4 := ⟨_, rfl⟩
                rw [← hu] at s0 s1 s2 s3 s4 s5 s6 s7 s8 s12 s14 s15 s52 s53 s54 ⊢
                have he : ({ tmps := ((List.range 99).map u).toArray, defers := [] } : Act) = { tmps := #[(u 0), (u 1), (u 2), (u 3), (u 4), (u 5), (u 6), (u 7), (u 8), (u 9), (u 10), (u 11), (u 12), (u 13), (u 14), (u 15), (u 16), (u 17), (u 18), (u 19), (u 20), (u 21), (u 22), (u 23), (u 24), (u 25), (u 26), (u 27), (u 28), (u 29), (u 30), (u 31), (u 32), (u 33), (u 34), (u 35), (u 36), (u 37), (u 38), (u 39), (u 40), (u 41), (u 42), (u 43), (u 44), (u 45), (u 46), (u 47), (u 48), (u 49), (u 50), (u 51), (u 52), (u 53), (u 54), (u 55), (u 56), (u 57), (u 58), (u 59), (u 60), (u 61), (u 62), (u 63), (u 64), (u 65), (u 66), (u 67), (u 68), (u 69), (u 70), (u 71), (u 72), (u 73), (u 74), (u 75), (u 76), (u 77), (u 78), (u 79), (u 80), (u 81), (u 82), (u 83), (u 84), (u 85), (u 86), (u 87), (u 88), (u 89), (u 90), (u 91), (u 92), (u 93), (u 94), (u 95), (u 96), (u 97), (u 98)], defers := [] } := rfl
                rw [he, s0, s1, s2, s3, s4, s5, s6, s7, s8, s12, s14, s15, s52, s53, s54]
                clear he hs hd hu s0 s1 s2 s3 s4 s5 s6 s7 s8 s12 s14 s15 s52 s53 s54
                gi_wp2_with fail
                refine ⟨k + 1, _, by omega, by omega, (by and_intros <;> first | rfl | trivial), hAm2.symm, ?_⟩
                rw [dfsTo_new Hnew.out]
                exact ⟨_, _, _, hq4⟩
              | ret => exact hqq.elim
              | exit id => exact hqq.elim
              | goto t => exact hqq.elim
              | panic ch => exact hqq.elim
              | outgrown => exact hqq.elim
            | ret => exact hqq.elim
            | exit id => exact hqq.elim
            | goto t => exact hqq.elim
            | panic ch => exact hqq.elim
            | outgrown => exact hqq.elim
      · obtain rfl : k = p.nk := by omega
        gi_wp2_with fail
        rw [dfsTo_all] at hS
        simp only [Exit.noGoto]
        refine bodyPost_end (results_none rfl _ _ _) rfl ?_
        exact ⟨⟨_, rfl⟩, hS⟩
  · obtain ⟨m, hm⟩ : ∃ m, now.length = m + 1 := ⟨now.length - 1, by omega⟩
    have hus := HrU.out
    obtain ⟨bz, offz, fz, sz, tz, rfl, hbz, hxz, z0, z1, z2⟩ := hus.us (i := m) (by rw [rowSt_len]; omega)
    have htz : tz = beg := by
      have h1 := rowSt_last p.fl p.ml now
      rw [hbeg, List.getLast?_eq_getElem?, rowSt_len, hm, Nat.add_sub_cancel, hxz] at h1
      simpa using h1
    subst htz
    have hm5 : m ≤ 5 := by have := Hl.out; omega
    have hne3 : (((m : Int) + 1) == (p.nk : Int)) = false := by simp; omega
    have m0 : (0 : Int) ≤ (m : Int) := by omega
    rw [hm] at q4 q8
    have Hm := hide hm
    clear hbeg hxz hus h0 hm hne hne2
    go_enter Try.func41, Try.ntmps41
    go_step3
    go_wp2_with fail
    go_step3
    go_wp2_with fail
    clear q4 q5 q8 q9 HrU z0 z1 z2 m0 hm5 hne3
    refine (wpIn_wide (n := 9)).1 ?_
    refine wpIn_loop_rounds (p.nk + 1) (rounds_of (fun r a1 wr => ∃ (k : Nat) (Am : Option Addr), k + r = p.nk + 1 ∧ k ≤ p.nk ∧ (a1.tmps.size = 99 ∧ a1.defers = [] ∧ slot a1 0 = .pointer (some ⟨p.bn, 0, none⟩) ∧ slot a1 1 = .pointer (some ⟨p.bF, 0, none⟩) ∧ slot a1 2 = .pointer (some ⟨p.bX, 0, none⟩) ∧ slot a1 3 = .pointer (some ⟨p.bL, 0, none⟩) ∧ slot a1 4 = .pointer (some ⟨p.bU, 0, none⟩) ∧ slot a1 5 = .pointer (some ⟨p.bT, 0, none⟩) ∧ slot a1 6 = .pointer (some ⟨p.bO, 0, none⟩) ∧ slot a1 7 = .pointer (some ⟨p.bM, 0, none⟩) ∧ slot a1 8 = .pointer (some ⟨p.bN, 0, none⟩) ∧ slot a1 12 = .int .i64 tz ∧ slot a1 52 = .slice Am p.nk p.cm ∧ slot a1 53 = .int .i64 p.nk ∧ slot a1 54 = .int .i64 k) ∧ Am = p.Am ∧ OrdS w0 p now (dfsTo p.val p.nk d now st k) wr) ?_ ?_ (p.nk + 1) _ _ ⟨0, p.Am, by omega, by omega, (by and_intros <;> first | rfl | trivial | (rw [Hb0.out]; rfl)), rfl, ⟨_, _, _, Hq.out⟩⟩)
    · rintro a wr ⟨k, Am, hk, hk2, _⟩
      omega
    · clear Hq
      rintro r a1 wr ⟨k, Am, hkr, hk, ⟨hs, hd, s0, s1, s2, s3, s4, s5, s6, s7, s8, s12, s52, s53, s54⟩, hAm, hS⟩
      rw [act_eq hs hd]
      obtain ⟨u, hu⟩ : ∃ u, u = slot a1 := ⟨_, rfl⟩
      rw [← hu] at s0 s1 s2 s3 s4 s5 s6 s7 s8 s12 s52 s53 s54 ⊢
      have he : ({ tmps := ((List.range 99).map u).toArray, defers := [] } : Act) = { tmps := #[(u 0), (u 1), (u 2), (u 3), (u 4), (u 5), (u 6), (u 7), (u 8), (u 9), (u 10), (u 11), (u 12), (u 13), (u 14), (u 15), (u 16), (u 17), (u 18), (u 19), (u 20), (u 21), (u 22), (u 23), (u 24), (u 25), (u 26), (u 27), (u 28), (u 29), (u 30), (u 31), (u 32), (u 33), (u 34), (u 35), (u 36), (u 37), (u 38), (u 39), (u 40), (u 41), (u 42), (u 43), (u 44), (u 45), (u 46), (u 47), (u 48), (u 49), (u 50), (u 51), (u 52), (u 53), (u 54), (u 55), (u 56), (u 57), (u 58), (u 59), (u 60), (u 61), (u 62), (u 63), (u 64), (u 65), (u 66), (u 67), (u 68), (u 69), (u 70), (u 71), (u 72), (u 73), (u 74), (u 75), (u 76), (u 77), (u 78), (u 79), (u 80), (u 81), (u 82), (u 83), (u 84), (u 85), (u 86), (u 87), (u 88), (u 89), (u 90), (u 91), (u 92), (u 93), (u 94), (u 95), (u 96), (u 97), (u 98)], defers := [] } := rfl
      rw [he, s0, s1, s2, s3, s4, s5, s6, s7, s8, s12, s52, s53, s54]
      clear he hs hd hu s0 s1 s2 s3 s4 s5 s6 s7 s8 s12 s52 s53 s54
      by_cases hlk : k < p.nk
      · obtain ⟨vN, vU, vO, hq⟩ := hS
        obtain ⟨AN, cN, rfl, rN⟩ := hq.oN.rd
        obtain ⟨AU, cU, rfl, rU⟩ := hq.oU.rd
        rw [ints_len] at hq
        rw [rowSt_len] at hq
        obtain ⟨bm, offm, mk, hAm2, hbm, hxm, d0⟩ := (Hc.out.rm.below hq.bl).int (i := k) (by rw [← Hc.out.em]; exact hlk)
        obtain rfl : Am = some ⟨bm, offm, none⟩ := hAm.trans hAm2
        have hmk := (turnsOk_iff.1 Hc.out.tn).2.2.1 mk (List.mem_of_getElem? hxm)
        have q4 := hq.hN.c1
        have i0 : (0 : Int) ≤ (k : Int) := by omega
        have i1 : (k : Int) < (p.nk : Int) := by omega
        have HrN := hide rN; have Hq := hide hq; have Hxm := hide hxm
        have hnl : now.length ≤ 6 := by have := Hl.out; omega
        clear rN rU hq hxm hAm
        gi_wp2_with fail
        refine wpIn_loop_rounds (now.length + 1) (rounds_of (fun r a2 wq => ∃ i : Nat, i + r = now.length + 1 ∧ i ≤ now.length ∧ (a2.tmps.size = 99 ∧ a2.defers = [] ∧ slot a2 0 = .pointer (some ⟨p.bn, 0, none⟩) ∧ slot a2 1 = .pointer (some ⟨p.bF, 0, none⟩) ∧ slot a2 2 = .pointer (some ⟨p.bX, 0, none⟩) ∧ slot a2 3 = .pointer (some ⟨p.bL, 0, none⟩) ∧ slot a2 4 = .pointer (some ⟨p.bU, 0, none⟩) ∧ slot a2 5 = .pointer (some ⟨p.bT, 0, none⟩) ∧ slot a2 6 = .pointer (some ⟨p.bO, 0, none⟩) ∧ slot a2 7 = .pointer (some ⟨p.bM, 0, none⟩) ∧ slot a2 8 = .pointer (some ⟨p.bN, 0, none⟩) ∧ slot a2 12 = .int .i64 tz ∧ slot a2 14 = .int .i64 k ∧ slot a2 15 = .int .i64 mk ∧ slot a2 52 = .slice (some ⟨bm, offm, none⟩) p.nk p.cm ∧ slot a2 53 = .int .i64 p.nk ∧ slot a2 54 = .int .i64 k ∧ slot a2 59 = .slice AN now.length cN ∧ slot a2 60 = .int .i64 now.length ∧ slot a2 61 = .int .i64 i) ∧ wr = wq ∧ Hid (k ∉ now.take i)) ?_ ?_ (now.length + 1) _ _ ⟨0, by omega, by omega, (by and_intros <;> first | rfl | trivial), rfl, hide (by simp)⟩)
        · rintro a wr ⟨i, hi, hi2, _⟩
          omega
        · rintro r2 a2 wq ⟨i, hir, hi, ⟨hs, hd, s0, s1, s2, s3, s4, s5, s6, s7, s8, s12, s14, s15, s52, s53, s54, s59, s60, s61⟩, rfl, hno⟩
          rw [act_eq hs hd]
          obtain ⟨u, hu⟩ : ∃ u, u = slot a2 := ⟨_, rfl⟩
          rw [← hu] at s0 s1 s2 s3 s4 s5 s6 s7 s8 s12 s14 s15 s52 s53 s54 s59 s60 s61 ⊢
          have he : ({ tmps := ((List.range 99).map u).toArray, defers := [] } : Act) = { tmps := #[(u 0), (u 1), (u 2), (u 3), (u 4), (u 5), (u 6), (u 7), (u 8), (u 9), (u 10), (u 11), (u 12), (u 13), (u 14), (u 15), (u 16), (u 17), (u 18), (u 19), (u 20), (u 21), (u 22), (u 23), (u 24), (u 25), (u 26), (u 27), (u 28), (u 29), (u 30), (u 31), (u 32), (u 33), (u 34), (u 35), (u 36), (u 37), (u 38), (u 39), (u 40), (u 41), (u 42), (u 43), (u 44), (u 45), (u 46), (u 47), (u 48), (u 49), (u 50), (u 51), (u 52), (u 53), (u 54), (u 55), (u 56), (u 57), (u 58), (u 59), (u 60), (u 61), (u 62), (u 63), (u 64), (u 65), (u 66), (u 67), (u 68), (u 69), (u 70), (u 71), (u 72), (u 73), (u 74), (u 75), (u 76), (u 77), (u 78), (u 79), (u 80), (u 81), (u 82), (u 83), (u 84), (u 85), (u 86), (u 87), (u 88), (u 89), (u 90), (u 91), (u 92), (u 93), (u 94), (u 95), (u 96), (u 97), (u 98)], defers := [] } := rfl
          rw [he, s0, s1, s2, s3, s4, s5, s6, s7, s8, s12, s14, s15, s52, s53, s54, s59, s60, s61]
          clear he hs hd hu s0 s1 s2 s3 s4 s5 s6 s7 s8 s12 s14 s15 s52 s53 s54 s59 s60 s61
          by_cases hlt : i < now.length
          · obtain ⟨bo, offo, kv, rfl, hbo, hxo, a0⟩ := HrN.out.int (i := i) (by rw [ints_len]; exact hlt)
            obtain ⟨ki, hki⟩ : ∃ ki, now[i]? = some ki := ⟨_, List.getElem?_eq_getElem hlt⟩
            obtain rfl : kv = (ki : Int) := by
              unfold ints at hxo
              rw [List.getElem?_map, hki] at hxo
              simpa using hxo.symm
            have j0 : (0 : Int) ≤ (i : Int) := by omega
            have j1 : (i : Int) < (now.length : Int) := by omega
            have Hki := hide hki
            clear hxo hki
            by_cases hkk : ki = k
            · subst hkk
              gi_wp2_with fail
              refine ⟨ki + 1, _, by omega, by omega, (by and_intros <;> first | rfl | trivial), hAm2.symm, ?_⟩
              rw [dfsTo_in (List.mem_of_getElem? Hki.out)]
              exact ⟨_, _, _, Hq.out⟩
            · have hkb : ((ki : Int) == (k : Int)) = false := by simp; omega
              have Hkk := hide hkk
              clear hkk
              gi_wp2_with fail
              refine ⟨i + 1, by omega, by omega, (by and_intros <;> first | rfl | trivial), by first | rfl | trivial, hide ?_⟩
              rw [take_snoc Hki.out]
              intro hm
              rcases List.mem_append.1 hm with h1 | h1
              · exact hno.out h1
              · simp at h1; exact Hkk.out h1.symm
          · obtain rfl : i = now.length := by omega
            have hnew : k ∉ now := by have := hno.out; rwa [List.take_length] at this
            have Hnew := hide hnew
            have hlit := hide (Rd.new (cells := icell) wr #[.int .i64 (k : Int)] 3 [(k : Int)] rfl)
            have hq := Hq.out
            have hsq := hq.sz
            clear hno hnew
            gi_wp2_with (gi_at_builtin; refine wpListIn_app (v := .slice AN now.length cN) (xs := ints now) (ys := [(k : Int)]) (n := 1) el_int rfl (.tmp 69) (.tmp 71) rfl rfl (Hq.out.oN.alloc _) rfl rfl hlit.out (by rw [ints_len]; omega) (by simp; omega) ?_; intro vV wv hown1 hg1 hat1; have hkv := kept_app2 Hq.out.oN (below_new wr _) hg1; have hrn : ∀ b, b < p.base → ¬ (Value.slice AN now.length cN).ownBlock = some b := (fun b hb e => by have := (own_bl Hq.out.oN b e).1; omega); have z0 := (Hq.out.hN.kept hkv (hrn _ (by omega))).c1; have y0 := (hkv.frozen (p := ⟨p.bn, 0, none⟩) (hrn _ (by show p.bn < _; omega)) (by show p.bn < _; omega)).trans Hq.out.fn; obtain ⟨AV, cV, hvV, _⟩ := hown1.rd; rw [show (ints now ++ [(k : Int)]).length = now.length + 1 from by rw [List.length_append, ints_len]; rfl] at hvV; subst hvV; have HA := hide (Hq.out.pushN Hc.out hown1 hg1 (by simpa using hat1)); clear hown1 hg1 hat1 hkv)
            have hbf0 := (Hc.out.rf.below HA.out.bl)
            obtain ⟨bf, offf, fk, hAff, hbf, hxf, cf0⟩ := hbf0.int (i := k) (by rw [← Hc.out.ek]; exact hlk)
            obtain ⟨wA, HwA⟩ : ∃ wA, Hid (wv.setCell ⟨p.bn, 0, none⟩ (.slice AV (now.length + 1) cV) = wA) := ⟨_, hide rfl⟩
            have hqA := HA.out
            rw [HwA.out] at hqA cf0
            have hqAd := hide (hqA.below Hc.out (Below.refl _ _).drew)
            have HoU := hide (hqA.oU.below (Below.refl _ _).drew)
            have hzA := hqA.sz
            have rowne : ∀ b : Nat, b < p.base → ¬ (Value.slice AU now.length cU).ownBlock = some b := fun b hb e => by have := (own_bl hqA.oU b e).1; omega
            have hsumb := HBegB.out
            have hmk2 : mk ≤ 23040 := HMk.out mk (List.mem_of_getElem? Hxm.out)
            have hwr : IntKind.i64.wrap (tz + mk) = tz + mk := wrapI (by omega)
            have Hwrap := hide hwr
            have Hxf := hide hxf
            rw [HwA.out]
            clear HA hwr hxf q4 hq hlit z0 y0
            refine wpIn_mono (Q := onNormal (fun a1 W1 => (a1.tmps.size = 99 ∧ a1.defers = [] ∧ slot a1 0 = .pointer (some ⟨p.bn, 0, none⟩) ∧ slot a1 1 = .pointer (some ⟨p.bF, 0, none⟩) ∧ slot a1 2 = .pointer (some ⟨p.bX, 0, none⟩) ∧ slot a1 3 = .pointer (some ⟨p.bL, 0, none⟩) ∧ slot a1 4 = .pointer (some ⟨p.bU, 0, none⟩) ∧ slot a1 5 = .pointer (some ⟨p.bT, 0, none⟩) ∧ slot a1 6 = .pointer (some ⟨p.bO, 0, none⟩) ∧ slot a1 7 = .pointer (some ⟨p.bM, 0, none⟩) ∧ slot a1 8 = .pointer (some ⟨p.bN, 0, none⟩) ∧ slot a1 12 = .int .i64 tz ∧ slot a1 14 = .int .i64 k ∧ slot a1 15 = .int .i64 mk ∧ slot a1 52 = .slice (some ⟨bm, offm, none⟩) p.nk p.cm ∧ slot a1 53 = .int .i64 p.nk ∧ slot a1 54 = .int .i64 k) ∧ ∃ AW cW, OrdQ w0 p (ints now ++ [(k : Int)]) ((rowSt p.fl p.ml now).1 ++ [⟨fk, tz, tz + mk⟩]) (ints (dfsTo p.val p.nk d now st k).1) (dfsTo p.val p.nk d now st k).2 (.slice AV (now.length + 1) cV) (.slice AW (now.length + 1) cW) vO W1)) ?_ ?_
            · refine wpIn_region_S (S := (fun W => Kept (fun b => ¬ (Value.slice AU now.length cU).ownBlock = some b) wA W)) (z := 13) (by kernel_rfl) (by (try dsimp only); exact Kept.all _ (Below.refl _ _).drew) (fun hHeld => ?_)
              refine tkS 0 ?_ rfl (Or.inl ⟨by rfl, ?_⟩) hHeld ?_
              rotate_left
              · (intro w hSw; (try dsimp only at hSw); have z0 := (hqA.hU.kept hSw (rowne _ (by omega))).c1; go_simp; try (with_reducible rfl))
              try simp only [Act.put, tl1, tl2, tl3]
              refine tkS 1 ?_ rfl (Or.inl ⟨by rfl, ?_⟩) hHeld ?_
              rotate_left
              · (intro w hSw; (try dsimp only at hSw); have z0 := (hqA.fb.kept hSw (rowne _ (by omega))).c1; rw [hAff] at z0; go_simp; try (with_reducible rfl))
              try simp only [Act.put, tl1, tl2, tl3]
              iterate 7
                refine tkSl [2, 3, 5, 6, 7, 8, 9] ?_ rfl rfl (Or.inl ⟨by rfl, ?_⟩) hHeld ?_
                rotate_left
                · (intro w hSw; (try dsimp only at hSw); go_simp; try (with_reducible rfl))
                try simp only [Act.put, tl1, tl2, tl3]
              refine tkS 4 ?_ rfl (Or.inl ⟨by rfl, ?_⟩) hHeld ?_
              rotate_left
              · (intro w hSw; (try dsimp only at hSw); have z0 := (hSw.cell (p := ⟨bf, offf + k, none⟩) (rowne _ (by show bf < _; omega)) (by show bf < _; omega)).trans cf0; go_simp; try (with_reducible rfl))
              try simp only [Act.put, tl1, tl2, tl3]
              refine tkS 10 ?_ rfl (Or.inl ⟨by rfl, ?_⟩) hHeld ?_
              rotate_left
              · (intro w hSw; (try dsimp only at hSw); go_simp; try (with_reducible rfl))
              try simp only [Act.put, tl1, tl2, tl3]
              refine wpAnyS_ready (rs := [11]) (by kernel_rfl) (by simp) ?_
              refine AllS.cons (o := ⟨_, _, _, _, _, _⟩) rfl (fun _ => trivial) (fun K hK => ?_) AllS.nil
              go_simp
              have hlit := hide (Rd.new (cells := Us.cells) wA.drew #[.int .i64 fk, .int .i64 tz, .int .i64 (IntKind.i64.wrap (tz + mk))] 47 [⟨fk, tz, IntKind.i64.wrap (tz + mk)⟩] rfl)
              refine hK.out _ _ ?_ (fun hHeld2 => ?_)
              · intro _; (try dsimp only)
                (first | exact hHeld | exact Kept.all _ (Below.refl _ _).drew | exact hHeld.trans (Kept.all _ (below_new _ _)) | exact (Kept.all _ (Below.refl _ _).drew).trans hkV)
              clear hK K hHeld; have hHeld := hHeld2 (by decide); clear hHeld2
              try simp only [Act.put, tl1, tl2, tl3]
              refine wpAnyS_ready (rs := [12]) (by kernel_rfl) (by simp) ?_
              refine AllS.cons (o := ⟨_, _, _, _, _, _⟩) rfl (fun _ => trivial) (fun K hK => ?_) AllS.nil
              rw [if_pos (by rfl)]
              refine opIn_app (v := .slice AU now.length cU) (xs := (rowSt p.fl p.ml now).1) (ys := [⟨fk, tz, IntKind.i64.wrap (tz + mk)⟩]) (n := 1) el_us (.tmp 73) (.tmp 84) rfl rfl (HoU.out.alloc _) rfl rfl hlit.out (by rw [rowSt_len]; omega) (by simp; omega) ?_
              intro vV wv hownV hgV hatV
              obtain ⟨AV, cV, hvV, _⟩ := hownV.rd
              rw [show ((rowSt p.fl p.ml now).1 ++ [(⟨fk, tz, IntKind.i64.wrap (tz + mk)⟩ : Us)]).length = now.length + 1 from by rw [List.length_append, rowSt_len]; rfl] at hvV
              subst hvV
              have HQV := hide (hqAd.out.pushU Hc.out hownV hgV (by simpa using hatV))
              have hkV := (Kept.all (fun b => ¬ (Value.slice AU now.length cU).ownBlock = some b) (below_new wA.drew _)).trans ((Kept.grown hgV).mono fun b _ hb e => hb e.symm)
              clear hownV hgV hatV
              refine hK.out _ _ ?_ (fun hHeld2 => ?_)
              · intro _; (try dsimp only)
                (first | exact hHeld | exact Kept.all _ (Below.refl _ _).drew | exact hHeld.trans (Kept.all _ (below_new _ _)) | exact (Kept.all _ (Below.refl _ _).drew).trans hkV)
              clear hK K hHeld; have hHeld := hHeld2 (by decide); clear hHeld2
              try simp only [Act.put, tl1, tl2, tl3]
              refine wpAnyS_ready (rs := [13]) (by kernel_rfl) (by simp) ?_
              refine AllS.cons (o := ⟨_, _, _, _, _, _⟩) rfl (fun _ => trivial) (fun K hK => ?_) AllS.nil
              have z0 := (hqA.hU.kept hHeld (rowne _ (by omega))).c1
              have y0 := (hHeld.frozen (p := ⟨p.bU, 0, none⟩) (rowne _ (by show p.bU < _; omega)) (by show p.bU < _; omega)).trans hqA.fu
              go_simp
              refine hK.out _ _ (fun h => absurd rfl h) (fun _ => ?_)
              clear hK K hHeld
              try simp only [Act.put, tl1, tl2, tl3]
              refine wpAnyS_done (by kernel_rfl) ?_ _
              exact ⟨(by and_intros <;> first | rfl | trivial), _, _, by rw [← Hwrap.out]; exact HQV.out⟩
            rintro e a3 w3 hqq
            cases e with
            | normal =>
              obtain ⟨⟨hs, hd, s0, s1, s2, s3, s4, s5, s6, s7, s8, s12, s14, s15, s52, s53, s54⟩, AW, cW, hq3⟩ := hqq
              rw [act_eq hs hd]
              obtain ⟨u, hu⟩ : ∃ u, u = slot a3 := ⟨_, rfl⟩
              rw [← hu] at s0 s1 s2 s3 s4 s5 s6 s7 s8 s12 s14 s15 s52 s53 s54 ⊢
              have he : ({ tmps := ((List.range 99).map u).toArray, defers := [] } : Act) = { tmps := #[(u 0), (u 1), (u 2), (u 3), (u 4), (u 5), (u 6), (u 7), (u 8), (u 9), (u 10), (u 11), (u 12), (u 13), (u 14), (u 15), (u 16), (u 17), (u 18), (u 19), (u 20), (u 21), (u 22), (u 23), (u 24), (u 25), (u 26), (u 27), (u 28), (u 29), (u 30), (u 31), (u 32), (u 33), (u 34), (u 35), (u 36), (u 37), (u 38), (u 39), (u 40), (u 41), (u 42), (u 43), (u 44), (u 45), (u 46), (u 47), (u 48), (u 49), (u 50), (u 51), (u 52), (u 53), (u 54), (u 55), (u 56), (u 57), (u 58), (u 59), (u 60), (u 61), (u 62), (u 63), (u 64), (u 65), (u 66), (u 67), (u 68), (u 69), (u 70), (u 71), (u 72), (u 73), (u 74), (u 75), (u 76), (u 77), (u 78), (u 79), (u 80), (u 81), (u 82), (u 83), (u 84), (u 85), (u 86), (u 87), (u 88), (u 89), (u 90), (u 91), (u 92), (u 93), (u 94), (u 95), (u 96), (u 97), (u 98)], defers := [] } := rfl
              rw [he, s0, s1, s2, s3, s4, s5, s6, s7, s8, s12, s14, s15, s52, s53, s54]
              clear he hs hd hu s0 s1 s2 s3 s4 s5 s6 s7 s8 s12 s14 s15 s52 s53 s54
              have hS3 : OrdS w0 p (now ++ [k]) (dfsTo p.val p.nk d now st k) w3 := by
                refine ⟨.slice AV (now.length + 1) cV, .slice AW (now.length + 1) cW, vO, ?_⟩
                rw [ints_snoc, rowSt_snoc]
                have e1 : atI p.fl k = fk := by unfold atI; rw [Hxf.out]; rfl
                have e2 : atI p.ml k = mk := by unfold atI; rw [Hxm.out]; rfl
                simp only [e1, e2, HBeg.out]
                exact hq3
              have HS3 := hide hS3
              have q8 := hq3.nx.c1
              unfold OrdP.caps at q8
              have Ih3 := Ih.out (now ++ [k]) (dfsTo p.val p.nk d now st k) w3 hS3 (by simp; have := Hl.out; omega) (by
                rw [List.nodup_append]
                exact ⟨Hnd.out, by simp, fun a ha b hb => by simp at hb; subst hb; exact fun e => Hnew.out (e ▸ ha)⟩) (fun j hj => by
                rcases List.mem_append.1 hj with h1 | h1
                · exact Hlt.out j h1
                · simp at h1; omega)
              unfold OrdP.caps at Ih3
              have Ih3 := hide Ih3
              clear hS3 hq3 hqA
              gi_wp2_with fail
              refine wcall (Ih3.out.mono ?_)
              rintro e wB ⟨⟨v, rfl⟩, hSB⟩
              obtain ⟨vNB, vUB, vOB, hqB⟩ := hSB
              obtain ⟨AB, cB, rfl, _⟩ := hqB.oN.rd
              obtain ⟨DB, eB, rfl, _⟩ := hqB.oU.rd
              rw [show (ints (now ++ [k])).length = now.length + 1 from by rw [ints_len]; simp] at hqB
              rw [show (rowSt p.fl p.ml (now ++ [k])).1.length = now.length + 1 from by rw [rowSt_len]; simp] at hqB
              have hqBd := hqB.below Hc.out (Below.refl _ _).drew
              rw [ints_snoc, rowSt_snoc] at hqBd
              have hqBd := hide hqBd
              have HB1 := hide (B1.refl hqB.hN hqB.fn)
              have hsB := hqB.sz
              have hcB := own_cap hqB.oN
              have hcD := own_cap hqB.oU
              clear Ih3 HS3 q8
              gi_wp2_with fail
              refine wpIn_mono (Q := onNormal (fun a1 W1 => (a1.tmps.size = 99 ∧ a1.defers = [] ∧ slot a1 0 = .pointer (some ⟨p.bn, 0, none⟩) ∧ slot a1 1 = .pointer (some ⟨p.bF, 0, none⟩) ∧ slot a1 2 = .pointer (some ⟨p.bX, 0, none⟩) ∧ slot a1 3 = .pointer (some ⟨p.bL, 0, none⟩) ∧ slot a1 4 = .pointer (some ⟨p.bU, 0, none⟩) ∧ slot a1 5 = .pointer (some ⟨p.bT, 0, none⟩) ∧ slot a1 6 = .pointer (some ⟨p.bO, 0, none⟩) ∧ slot a1 7 = .pointer (some ⟨p.bM, 0, none⟩) ∧ slot a1 8 = .pointer (some ⟨p.bN, 0, none⟩) ∧ slot a1 12 = .int .i64 tz ∧ slot a1 14 = .int .i64 k ∧ slot a1 15 = .int .i64 mk ∧ slot a1 52 = .slice (some ⟨bm, offm, none⟩) p.nk p.cm ∧ slot a1 53 = .int .i64 p.nk ∧ slot a1 54 = .int .i64 k) ∧ OrdQ w0 p (ints now) (rowSt p.fl p.ml now).1 (ints (dfsO p.val p.nk d (now ++ [k]) (dfsTo p.val p.nk d now st k)).1) (dfsO p.val p.nk d (now ++ [k]) (dfsTo p.val p.nk d now st k)).2 (.slice AB now.length cB) (.slice DB now.length eB) vOB W1)) ?_ ?_
              · refine wpIn_region_S (S := (fun W => B1 wB p.bn W)) (z := 11) (by kernel_rfl) (by (try dsimp only); exact HB1.out.drew) (fun hHeld => ?_)
                iterate 2
                  refine tkSl [5, 6] ?_ rfl rfl (Or.inl ⟨by rfl, ?_⟩) hHeld ?_
                  rotate_left
                  · (intro w hSw; (try dsimp only at hSw); have z0 := (hqB.hU.kept hSw.k (by omega)).c1; go_simp; try (with_reducible rfl))
                  try simp only [Act.put, tl1, tl2, tl3]
                iterate 2
                  refine tkSl [7, 8] ?_ rfl rfl (Or.inl ⟨by rfl, ?_⟩) hHeld ?_
                  rotate_left
                  · (intro w hSw; (try dsimp only at hSw); go_simp; try (with_reducible rfl))
                  try simp only [Act.put, tl1, tl2, tl3]
                refine tkS 9 ?_ rfl (Or.inl ⟨by rfl, ?_⟩) hHeld ?_
                rotate_left
                · (intro w hSw; (try dsimp only at hSw); go_simp; rw [wrapI (x := (now.length : Int)) (by omega), if_pos (by omega), Int.toNat_natCast]; try (with_reducible rfl))
                try simp only [Act.put, tl1, tl2, tl3]
                refine wpAnyS_ready (rs := [0, 1]) (by kernel_rfl) (by simp) ?_
                refine AllS.cons (o := ⟨_, _, _, _, _, _⟩) rfl (fun _ => trivial) (fun K hK => ?_) ?_
                ·
                  have z0 := hqB.hN.c1
                  go_simp
                  refine hK.out _ _ ?_ (fun hHeld2 => ?_)
                  · intro _; (try dsimp only)
                    (first | exact hHeld | exact hHeld.drew | exact hHeld.setA _)
                  clear hK K hHeld; have hHeld := hHeld2 (by decide); clear hHeld2
                  try simp only [Act.put, tl1, tl2, tl3]
                  refine wpAnyS_ready (rs := [1]) (by kernel_rfl) (by simp) ?_
                  refine AllS.cons (o := ⟨_, _, _, _, _, _⟩) rfl (fun _ => trivial) (fun K hK => ?_) AllS.nil
                  have z0 := hqB.hN.c1
                  go_simp
                  refine hK.out _ _ ?_ (fun hHeld2 => ?_)
                  · intro _; (try dsimp only)
                    (first | exact hHeld | exact hHeld.drew | exact hHeld.setA _)
                  clear hK K hHeld; have hHeld := hHeld2 (by decide); clear hHeld2
                  try simp only [Act.put, tl1, tl2, tl3]
                  iterate 2
                    refine tkSl [2, 3] ?_ rfl rfl (Or.inl ⟨by rfl, ?_⟩) hHeld ?_
                    rotate_left
                    · (intro w hSw; (try dsimp only at hSw); go_simp; try (with_reducible rfl))
                    try simp only [Act.put, tl1, tl2, tl3]
                  refine tkS 4 ?_ rfl (Or.inl ⟨by rfl, ?_⟩) hHeld ?_
                  rotate_left
                  · (intro w hSw; (try dsimp only at hSw); go_simp; rw [wrapI (x := (now.length : Int)) (by omega), if_pos (by omega), Int.toNat_natCast]; try (with_reducible rfl))
                  try simp only [Act.put, tl1, tl2, tl3]
                  refine wpAnyS_ready (rs := [10]) (by kernel_rfl) (by simp) ?_
                  refine AllS.cons (o := ⟨_, _, _, _, _, _⟩) rfl (fun _ => trivial) (fun K hK => ?_) AllS.nil
                  obtain ⟨x, hx⟩ := hHeld.a
                  have z0 := hx.c1
                  have y0 := hHeld.f
                  have hH := hHeld
                  go_simp
                  refine hK.out _ _ ?_ (fun hHeld2 => ?_)
                  · intro _; (try dsimp only)
                    (first | exact hHeld | exact hHeld.drew | exact hHeld.setA _)
                  clear hK K hHeld; have hHeld := hHeld2 (by decide); clear hHeld2
                  try simp only [Act.put, tl1, tl2, tl3]
                  refine wpAnyS_ready (rs := [11]) (by kernel_rfl) (by simp) ?_
                  refine AllS.cons (o := ⟨_, _, _, _, _, _⟩) rfl (fun _ => trivial) (fun K hK => ?_) AllS.nil
                  have z0 := (hqB.hU.kept hHeld.k (by omega)).c1
                  have y0 := (hHeld.k.frozen (p := ⟨p.bU, 0, none⟩) (by show ¬ p.bU = _; omega) (by show p.bU < _; omega)).trans hqB.fu
                  go_simp
                  refine hK.out _ _ (fun h => absurd rfl h) (fun _ => ?_)
                  clear hK K hHeld
                  try simp only [Act.put, tl1, tl2, tl3]
                  refine wpAnyS_done (by kernel_rfl) ?_ _
                  exact ⟨(by and_intros <;> first | rfl | trivial), hqBd.out.pop Hc.out⟩
                refine AllS.cons (o := ⟨_, _, _, _, _, _⟩) rfl (fun _ => trivial) (fun K hK => ?_) AllS.nil
                have z0 := hqB.hN.c1
                go_simp
                refine hK.out _ _ ?_ (fun hHeld2 => ?_)
                · intro _; (try dsimp only)
                  (first | exact hHeld | exact hHeld.drew | exact hHeld.setA _)
                clear hK K hHeld; have hHeld := hHeld2 (by decide); clear hHeld2
                try simp only [Act.put, tl1, tl2, tl3]
                iterate 2
                  refine tkSl [2, 3] ?_ rfl rfl (Or.inl ⟨by rfl, ?_⟩) hHeld ?_
                  rotate_left
                  · (intro w hSw; (try dsimp only at hSw); go_simp; try (with_reducible rfl))
                  try simp only [Act.put, tl1, tl2, tl3]
                refine wpAnyS_ready (rs := [0]) (by kernel_rfl) (by simp) ?_
                refine AllS.cons (o := ⟨_, _, _, _, _, _⟩) rfl (fun _ => trivial) (fun K hK => ?_) AllS.nil
                have z0 := hqB.hN.c1
                go_simp
                refine hK.out _ _ ?_ (fun hHeld2 => ?_)
                · intro _; (try dsimp only)
                  (first | exact hHeld | exact hHeld.drew | exact hHeld.setA _)
                clear hK K hHeld; have hHeld := hHeld2 (by decide); clear hHeld2
                try simp only [Act.put, tl1, tl2, tl3]
                refine tkS 4 ?_ rfl (Or.inl ⟨by rfl, ?_⟩) hHeld ?_
                rotate_left
                · (intro w hSw; (try dsimp only at hSw); go_simp; rw [wrapI (x := (now.length : Int)) (by omega), if_pos (by omega), Int.toNat_natCast]; try (with_reducible rfl))
                try simp only [Act.put, tl1, tl2, tl3]
                refine wpAnyS_ready (rs := [10]) (by kernel_rfl) (by simp) ?_
                refine AllS.cons (o := ⟨_, _, _, _, _, _⟩) rfl (fun _ => trivial) (fun K hK => ?_) AllS.nil
                obtain ⟨x, hx⟩ := hHeld.a
                have z0 := hx.c1
                have y0 := hHeld.f
                have hH := hHeld
                go_simp
                refine hK.out _ _ ?_ (fun hHeld2 => ?_)
                · intro _; (try dsimp only)
                  (first | exact hHeld | exact hHeld.drew | exact hHeld.setA _)
                clear hK K hHeld; have hHeld := hHeld2 (by decide); clear hHeld2
                try simp only [Act.put, tl1, tl2, tl3]
                refine wpAnyS_ready (rs := [11]) (by kernel_rfl) (by simp) ?_
                refine AllS.cons (o := ⟨_, _, _, _, _, _⟩) rfl (fun _ => trivial) (fun K hK => ?_) AllS.nil
                have z0 := (hqB.hU.kept hHeld.k (by omega)).c1
                have y0 := (hHeld.k.frozen (p := ⟨p.bU, 0, none⟩) (by show ¬ p.bU = _; omega) (by show p.bU < _; omega)).trans hqB.fu
                go_simp
                refine hK.out _ _ (fun h => absurd rfl h) (fun _ => ?_)
                clear hK K hHeld
                try simp only [Act.put, tl1, tl2, tl3]
                refine wpAnyS_done (by kernel_rfl) ?_ _
                exact ⟨(by and_intros <;> first | rfl | trivial), hqBd.out.pop Hc.out⟩
              rintro e a4 w4 hqq
              cases e with
              | normal =>
                obtain ⟨⟨hs, hd, s0, s1, s2, s3, s4, s5, s6, s7, s8, s12, s14, s15, s52, s53, s54⟩, hq4⟩ := hqq
                rw [act_eq hs hd]
                obtain ⟨u, hu⟩ : ∃ u, u = slot a4 := ⟨_, rfl⟩
                rw [← hu] at s0 s1 s2 s3 s4 s5 s6 s7 s8 s12 s14 s15 s52 s53 s54 ⊢
                have he : ({ tmps := ((List.range 99).map u).toArray, defers := [] } : Act) = { tmps := #[(u 0), (u 1), (u 2), (u 3), (u 4), (u 5), (u 6), (u 7), (u 8), (u 9), (u 10), (u 11), (u 12), (u 13), (u 14), (u 15), (u 16), (u 17), (u 18), (u 19), (u 20), (u 21), (u 22), (u 23), (u 24), (u 25), (u 26), (u 27), (u 28), (u 29), (u 30), (u 31), (u 32), (u 33), (u 34), (u 35), (u 36), (u 37), (u 38), (u 39), (u 40), (u 41), (u 42), (u 43), (u 44), (u 45), (u 46), (u 47), (u 48), (u 49), (u 50), (u 51), (u 52), (u 53), (u 54), (u 55), (u 56), (u 57), (u 58), (u 59), (u 60), (u 61), (u 62), (u 63), (u 64), (u 65), (u 66), (u 67), (u 68), (u 69), (u 70), (u 71), (u 72), (u 73), (u 74), (u 75), (u 76), (u 77), (u 78), (u 79), (u 80), (u 81), (u 82), (u 83), (u 84), (u 85), (u 86), (u 87), (u 88), (u 89), (u 90), (u 91), (u 92), (u 93), (u 94), (u 95), (u 96), (u 97), (u 98)], defers := [] } := rfl
                rw [he, s0, s1, s2, s3, s4, s5, s6, s7, s8, s12, s14, s15, s52, s53, s54]
                clear he hs hd hu s0 s1 s2 s3 s4 s5 s6 s7 s8 s12 s14 s15 s52 s53 s54
                gi_wp2_with fail
                refine ⟨k + 1, _, by omega, by omega, (by and_intros <;> first | rfl | trivial), hAm2.symm, ?_⟩
                rw [dfsTo_new Hnew.out]
                exact ⟨_, _, _, hq4⟩
              | ret => exact hqq.elim
              | exit id => exact hqq.elim
              | goto t => exact hqq.elim
              | panic ch => exact hqq.elim
              | outgrown => exact hqq.elim
            | ret => exact hqq.elim
            | exit id => exact hqq.elim
            | goto t => exact hqq.elim
            | panic ch => exact hqq.elim
            | outgrown => exact hqq.elim
      · obtain rfl : k = p.nk := by omega
        gi_wp2_with fail
        rw [dfsTo_all] at hS
        simp only [Exit.noGoto]
        refine bodyPost_end (results_none rfl _ _ _) rfl ?_
        exact ⟨⟨_, rfl⟩, hS⟩
theorem next_any (w0 : World) (p : OrdP) (hc : OrdC w0 p) : ∀ (d : Nat) (now : List Nat) (st : List Nat × Int) (W : World), OrdS w0 p now st W → now.length + d = p.nk → now.Nodup → (∀ k ∈ now, k < p.nk) →
    Calls Try.prog 41 p.caps W fun e w' => (∃ v, e = .returned v) ∧ OrdS w0 p now (dfsO p.val p.nk d now st) w'
  | 0, now, st, W, h, hl, hnd, hlt => next_zero w0 p hc now st W h (by omega) hnd hlt
  | d + 1, now, st, W, h, hl, hnd, hlt => next_succ w0 p hc d (next_any w0 p hc d) now st W h hl hnd hlt
end Go.Proofs.Ythlnbgjlkliopaa
