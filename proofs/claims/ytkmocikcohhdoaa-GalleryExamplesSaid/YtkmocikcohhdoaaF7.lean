/- Gallery: the reference's Years and Source, by contract. -/
import Derived.Test.YtkmocikcohhdoaaF6
set_option linter.unusedVariables false
set_option linter.unusedSimpArgs false
namespace Go.Proofs.Ytkmocikcohhdoaa
open Go.RowKit Go.Shelf
attribute [local go_sem] ite_min ite_max
theorem all_miss {α : Type} {p : α → Bool} {xs : List α} {k : Nat} {x : α} (hx : xs[k]? = some x) (h : p x = false) : xs.all p = false := by
  rw [Bool.eq_false_iff]; intro ha; have := List.all_eq_true.1 ha x (List.mem_of_getElem? hx); rw [h] at this; cases this
theorem pre_t {α : Type} {p : α → Bool} {xs : List α} {k : Nat} {x : α} (hx : xs[k]? = some x) (h : p x = true) (hp : ∀ y ∈ xs.take k, p y = true) : ∀ y ∈ xs.take (k + 1), p y = true := by
  intro y hy
  rw [take_snoc hx] at hy
  rcases List.mem_append.1 hy with hy | hy
  · exact hp y hy
  · simp at hy; subst hy; exact h
theorem all_done {α : Type} {p : α → Bool} {xs : List α} {k : Nat} (hk : xs.length ≤ k) (hp : ∀ y ∈ xs.take k, p y = true) : xs.all p = true := by
  rw [List.take_of_length_le hk] at hp
  exact List.all_eq_true.2 hp
theorem rdown_any (a : Int) (w : World) (h : -1000000000000 ≤ a ∧ a ≤ 1000000000000) : Calls Try.prog 67 #[.int .i64 a] w fun e w' => e = .returned (.int .i64 (flK a)) ∧ w = w' := by
  have e1 := flK_down a
  have b1 : -1000000000000 ≤ a.tdiv 1000 ∧ a.tdiv 1000 ≤ 1000000000000 := by
    have e2 := flK_tdiv a
    have : flK a = a / 1000 := rfl
    rw [this] at e2; split at e2 <;> omega
  by_cases hn : a < 0
  · have b2 : 0 ≤ (999 - a).tdiv 1000 ∧ (999 - a).tdiv 1000 ≤ 1000000000000 := by rw [Int.tdiv_eq_ediv_of_nonneg (by omega)]; omega
    have w1 : IntKind.i64.wrap (999 - a) = 999 - a := wrapI (by omega)
    have w2 : IntKind.i64.wrap ((999 - a).tdiv 1000) = (999 - a).tdiv 1000 := wrapI (by omega)
    have w3 : IntKind.i64.wrap (-((999 - a).tdiv 1000)) = -((999 - a).tdiv 1000) := wrapI (by omega)
    rw [if_pos hn] at e1
    have E1 := hide e1
    clear e1 b1 b2
    go_enter Try.func67, Try.ntmps67
    go_wp2
    go_ret
    exact ⟨ret_int (by rw [E1.out]; try rfl), rfl⟩
  · rw [if_neg hn] at e1
    have w1 : IntKind.i64.wrap (a.tdiv 1000) = a.tdiv 1000 := wrapI (by omega)
    have E1 := hide e1
    clear e1 b1
    go_enter Try.func67, Try.ntmps67
    go_wp2
    go_ret
    exact ⟨ret_int (by rw [E1.out]; try rfl), rfl⟩
set_option maxHeartbeats 4000000 in
theorem years_any (A A' : Option Addr) (ys : List Yr) (ps : List Sp) (n c n' c' : Nat) (w : World) (hn : n = ys.length) (hm : n ≤ 9223372036854775807) (hx : Rd w w.heap.size Yr.cells A ys)
    (hn' : n' = ps.length) (hm' : n' ≤ 9223372036854775807) (hx' : Rd w w.heap.size Sp.cells A' ps) :
    Calls Try.prog 47 #[.slice A n c, .slice A' n' c'] w fun e w' => e = .returned (.bool (yearsOk ys ps)) ∧ Below w.heap.size w w' := by
  have Hn := hide hn; have Hx := hide hx; have Hn' := hide hn'; have Hx' := hide hx'
  clear hn hx hn' hx'
  by_cases h1 : n ≤ 12
  · by_cases h2 : n' ≤ 12
    · go_enter Try.func47, Try.ntmps47
      go_wp2_with fail
      go_loopw [5] (fun i wr => ∃ k : Nat, k ≤ n ∧ i = .int .i64 k ∧ Below w.heap.size w wr ∧ Hid (∀ y ∈ ys.take k, y.ok = true)) (fun i _ => n - (intOf i).toNat)
      case atStart => exact ⟨0, by omega, rfl, Below.refl _ _, hide (by simp)⟩
      case round =>
        obtain ⟨k, hk, rfl, hb, hpre⟩ := hrel
        by_cases hlt : k < n
        · obtain ⟨b, off, lo, hi, wt, rfl, hB, hxk, c0, c1, c2⟩ := (Hx.out.below hb).yr (i := k) (by have := Hn.out; omega)
          have Hxk := hide hxk; clear hxk
          have hok : Yr.ok ⟨⟨lo, hi⟩, wt⟩ = (Sp.ok 0 10000 ⟨lo, hi⟩ && inB 0 1000000 wt) := rfl
          have Hok := hide hok; clear hok
          have c2k := fun W (hW : Below wr.heap.size wr W) => (hW.cell (p := ⟨b, off + k * 3 + 2, none⟩) (by have := hb.size; show b < _; omega)).trans c2
          go_wp2_with fail
          refine (spanned_any _ _ _ _ _).mono ?_
          rintro e w1 ⟨rfl, hb1⟩
          have c2 := c2k w1 hb1
          have hB1 := hb.trans (hb1.mono hb.size)
          clear c2k
          cases hs : Sp.ok 0 10000 ⟨lo, hi⟩
          · rw [hs] at Hok
            have Hr := hide (show yearsOk ys ps = false by simp [yearsOk, all_miss Hxk.out (show Yr.ok ⟨⟨lo, hi⟩, wt⟩ = false by rw [Hok.out]; rfl)])
            clear hs
            go_wp2_with fail
            go_ret
            exact ⟨ret_bool Hr.out.symm, hB1⟩
          · rw [hs] at Hok
            clear hs
            go_wp2_with fail
            refine (within_any _ _ _ _).mono ?_
            rintro e w2 ⟨rfl, rfl⟩
            cases hs : inB 0 1000000 wt
            · rw [hs] at Hok
              have Hr := hide (show yearsOk ys ps = false by simp [yearsOk, all_miss Hxk.out (show Yr.ok ⟨⟨lo, hi⟩, wt⟩ = false by rw [Hok.out]; rfl)])
              clear hs
              go_wp2_with fail
              go_ret
              exact ⟨ret_bool Hr.out.symm, hB1⟩
            · rw [hs] at Hok
              clear hs
              go_wp2_with fail
              exact ⟨⟨k + 1, by omega, by go_num, hB1, hide (pre_t Hxk.out (by rw [Hok.out]; rfl) hpre.out)⟩, by simp [intOf]; omega⟩
        · obtain rfl : n = k := by omega
          have hall : ys.all Yr.ok = true := all_done (by rw [Hn.out]; exact Nat.le_refl _) hpre.out
          have Hall := hide hall
          clear hall
          go_wp2_with fail
          go_loopw [6] (fun i wr => ∃ k : Nat, k ≤ n' ∧ i = .int .i64 k ∧ Below w.heap.size w wr ∧ Hid (∀ y ∈ ps.take k, Sp.ok 0 1000000 y = true)) (fun i _ => n' - (intOf i).toNat)
          case atStart => exact ⟨0, by omega, rfl, hb, hide (by simp)⟩
          case round =>
            obtain ⟨k, hk, rfl, hb, hpre⟩ := hrel
            by_cases hlt : k < n'
            · obtain ⟨b, off, lo, hi, rfl, hB, hxk, c0, c1⟩ := (Hx'.out.below hb).sp (i := k) (by have := Hn'.out; omega)
              have Hxk := hide hxk; clear hxk
              go_wp2_with fail
              refine (spanned_any _ _ _ _ _).mono ?_
              rintro e w1 ⟨rfl, hb1⟩
              have hB1 := hb.trans (hb1.mono hb.size)
              cases hs : Sp.ok 0 1000000 ⟨lo, hi⟩
              · have Hr := hide (show yearsOk ys ps = false by simp [yearsOk, all_miss Hxk.out hs])
                clear hs
                go_wp2_with fail
                go_ret
                exact ⟨ret_bool Hr.out.symm, hB1⟩
              · have Hs := hide hs
                clear hs
                go_wp2_with fail
                exact ⟨⟨k + 1, by omega, by go_num, hB1, hide (pre_t Hxk.out Hs.out hpre.out)⟩, by simp [intOf]; omega⟩
            · have hall2 : ps.all (Sp.ok 0 1000000) = true := all_done (by rw [← Hn'.out]; omega) hpre.out
              have Hr := hide (show yearsOk ys ps = true by have := Hn.out; have := Hn'.out; simp [yearsOk, Hall.out, hall2]; omega)
              clear hall2
              go_wp2_with fail
              go_ret
              exact ⟨ret_bool Hr.out.symm, hb⟩
    · have Hr := hide (show yearsOk ys ps = false by have := Hn.out; have := Hn'.out; simp [yearsOk]; omega)
      go_enter Try.func47, Try.ntmps47
      go_wp2_with fail
      go_ret
      exact ⟨ret_bool Hr.out.symm, Below.refl _ _⟩
  · have Hr := hide (show yearsOk ys ps = false by have := Hn.out; have := Hn'.out; simp [yearsOk]; omega)
    go_enter Try.func47, Try.ntmps47
    go_wp2_with fail
    go_ret
    exact ⟨ret_bool Hr.out.symm, Below.refl _ _⟩
theorem sum_take {α : Type} (f : α → Int) {xs : List α} {k : Nat} {x : α} (h : xs[k]? = some x) : ((xs.take (k + 1)).map f).sum = ((xs.take k).map f).sum + f x := by rw [take_snoc h]; simp
set_option maxHeartbeats 4000000 in
set_option maxRecDepth 100000 in
theorem rsource_any (A A' : Option Addr) (ys : List Yr) (ps : List Sp) (n c n' c' : Nat) (w : World) (hn : n = ys.length) (hm : n ≤ 9223372036854775807) (hx : Rd w w.heap.size Yr.cells A ys)
    (hn' : n' = ps.length) (hm' : n' ≤ 9223372036854775807) (hx' : Rd w w.heap.size Sp.cells A' ps) :
    Calls Try.prog 20 #[.slice A n c, .slice A' n' c'] w (SrcPost ys ps w) := by
  have hb0 := below_new w (.cells #[.int .i64 0, .int .i64 0] 24)
  obtain ⟨w0, Hw0⟩ : ∃ w0, Hid (w.alloc (.cells #[.int .i64 0, .int .i64 0] 24) = w0) := ⟨_, hide rfl⟩
  have hbx : Bx w0 w.heap.size [.int .i64 0, .int .i64 0] := by rw [← Hw0.out]; exact Bx.new w _ _ _ rfl _ rfl
  rw [Hw0.out] at hb0
  have Hn := hide hn; have Hx := hide hx; have Hn' := hide hn'; have Hx' := hide hx'
  have HY := hide (years_any A A' ys ps n c n' c' w0 hn hm ((hx.below hb0).more hb0.size) hn' hm' ((hx'.below hb0).more hb0.size))
  clear hn hx hn' hx'
  cases hok : yearsOk ys ps
  · have He := hide (srcE ys ps hok)
    rw [hok] at HY
    clear hok
    go_enter Try.func20, Try.ntmps20
    go_wp2_with fail
    rw [Hw0.out]
    refine HY.out.mono ?_
    rintro e w1 ⟨rfl, hb1⟩
    obtain ⟨p0, p1, g0, g1⟩ := (hbx.bel hb1).w2
    have hBW := hb0.trans (hb1.mono hb0.size)
    go_wp2_with fail
    obtain ⟨k0, k1⟩ := two_set w1 w.heap.size (.int .i64 0) (.int .i64 0) p0 p1
    exact bodyPost_ret (v := .tuple #[.agg #[.int .i64 0, .int .i64 0], .int .i64 22]) (by simp [results, Try.results20, go_sem, k0, k1]; try rfl) rfl ⟨by rw [He.out.1, He.out.2], ((hBW.setCell (Nat.le_refl _) _).setCell (Nat.le_refl _) _)⟩
  · have He := hide (show srcV ys ps = srcS ys ps ∧ srcErr ys ps = 0 by simp [srcV, srcErr, hok])
    obtain ⟨hl1, hl2, ho1, ho2⟩ := yearsOk_parts hok
    have Ho1 := hide ho1; have Ho2 := hide ho2
    rw [hok] at HY
    have hln : n ≤ 12 := by rw [Hn.out]; exact hl1
    have hln' : n' ≤ 12 := by rw [Hn'.out]; exact hl2
    clear hok ho1 ho2 hl1 hl2
    go_enter Try.func20, Try.ntmps20
    go_wp2_with fail
    rw [Hw0.out]
    refine HY.out.mono ?_
    rintro e w1 ⟨rfl, hb1⟩
    replace hbx := hbx.bel hb1
    have hB1 := hb0.trans (hb1.mono hb0.size)
    have Hx1 := hide ((Hx.out.below hB1).more hB1.size)
    have Hx1' := hide ((Hx'.out.below hB1).more hB1.size)
    clear hb0 hb1 HY Hx Hx'
    go_wp2_with fail
    go_loopw [6, 7, 8] (fun a b i wr => ∃ k : Nat, k ≤ n ∧ i = .int .i64 k ∧ a = .int .i64 (rainL (ys.take k)) ∧ b = .int .i64 (rainH (ys.take k)) ∧ Below w1.heap.size w1 wr) (fun _ _ i _ => n - (intOf i).toNat)
    case atStart => exact ⟨0, by omega, rfl, rfl, rfl, Below.refl _ _⟩
    case round =>
      obtain ⟨k, hk, rfl, rfl, rfl, hb⟩ := hrel
      have hr := rain_bd (ys := ys.take k) fun y hy => Ho1.out y (List.mem_of_mem_take hy)
      have htl : ((ys.take k).length : Int) ≤ 12 := by rw [List.length_take]; have := Hn.out; omega
      by_cases hlt : k < n
      · obtain ⟨b, off, lo, hi, wt, rfl, hB, hxk, c0, c1, c2⟩ := (Hx1.out.below hb).yr (i := k) (by have := Hn.out; omega)
        have t1 : rainL (ys.take (k + 1)) = rainL (ys.take k) + lo * wt := sum_take _ hxk
        have t2 : rainH (ys.take (k + 1)) = rainH (ys.take k) + hi * wt := sum_take _ hxk
        obtain ⟨h1, h2, h3, h4, h5⟩ := Yr.ok_bd (Ho1.out _ (List.mem_of_getElem? hxk))
        simp only at h1 h2 h3 h4 h5
        have m1 := mul_bd (x := 10000) (y := 1000000) h1 (by omega) h4 h5
        have m2 := mul_bd (x := 10000) (y := 1000000) (show 0 ≤ hi by omega) h3 h4 h5
        obtain ⟨u, hu⟩ : ∃ u, u = rainL (ys.take k) := ⟨_, rfl⟩
        obtain ⟨v, hv⟩ : ∃ v, v = rainH (ys.take k) := ⟨_, rfl⟩
        rw [← hu] at hr t1 ⊢
        rw [← hv] at hr t2 ⊢
        have e1 : IntKind.i64.wrap (lo * wt) = lo * wt := wrapI (by omega)
        have e2 : IntKind.i64.wrap (hi * wt) = hi * wt := wrapI (by omega)
        have e3 : IntKind.i64.wrap (u + lo * wt) = u + lo * wt := wrapI (by omega)
        have e4 : IntKind.i64.wrap (v + hi * wt) = v + hi * wt := wrapI (by omega)
        have T1 := hide t1; have T2 := hide t2
        clear t1 t2 hu hv hr htl h1 h2 h3 h4 h5 m1 m2 hxk
        go_wp2_with fail
        go_region
        go_wp2_with fail
        go_region
        go_wp2_with fail
        exact ⟨⟨k + 1, by omega, by go_num, by rw [T1.out], by rw [T2.out], hb.drew.drew⟩, by simp [intOf]; omega⟩
      · obtain rfl : n = k := by omega
        have ey : ys.take n = ys := List.take_of_length_le (by rw [← Hn.out]; exact Nat.le_refl _)
        rw [ey] at hr ⊢
        have hyl : (ys.length : Int) ≤ 12 := by rw [← Hn.out]; omega
        obtain ⟨X, hX⟩ : ∃ X, X = rainL ys := ⟨_, rfl⟩
        obtain ⟨Y, hY⟩ : ∃ Y, Y = rainH ys := ⟨_, rfl⟩
        rw [← hX, ← hY] at hr ⊢
        have HX := hide hX; have HY := hide hY
        have hrX : 0 ≤ X ∧ X ≤ 120000000000 ∧ 0 ≤ Y ∧ Y ≤ 120000000000 := by omega
        have hbw := hb
        clear hX hY ey htl hr hyl
        go_wp2_with fail
        go_loopw [6, 7, 9] (fun a b i wr => ∃ k : Nat, k ≤ n' ∧ i = .int .i64 k ∧ a = .int .i64 (X - 1000 * takH (ps.take k)) ∧ b = .int .i64 (Y - 1000 * takL (ps.take k)) ∧ Below w1.heap.size w1 wr) (fun _ _ i _ => n' - (intOf i).toNat)
        case atStart => exact ⟨0, by omega, rfl, by simp [takH], by simp [takL], hbw⟩
        case round =>
          obtain ⟨k, hk, rfl, rfl, rfl, hb⟩ := hrel
          have hr := tak_bd (ps := ps.take k) fun y hy => Ho2.out y (List.mem_of_mem_take hy)
          have htl : ((ps.take k).length : Int) ≤ 12 := by rw [List.length_take]; have := Hn'.out; omega
          by_cases hlt : k < n'
          · obtain ⟨b, off, lo, hi, rfl, hB, hxk, c0, c1⟩ := (Hx1'.out.below hb).sp (i := k) (by have := Hn'.out; omega)
            have t1 : takL (ps.take (k + 1)) = takL (ps.take k) + lo := sum_take _ hxk
            have t2 : takH (ps.take (k + 1)) = takH (ps.take k) + hi := sum_take _ hxk
            have h1 := Sp.ok_bd (Ho2.out _ (List.mem_of_getElem? hxk))
            simp only at h1
            obtain ⟨u, hu⟩ : ∃ u, u = takL (ps.take k) := ⟨_, rfl⟩
            obtain ⟨v, hv⟩ : ∃ v, v = takH (ps.take k) := ⟨_, rfl⟩
            rw [← hu] at hr t1 ⊢
            rw [← hv] at hr t2 ⊢
            have e1 : IntKind.i64.wrap (1000 * lo) = 1000 * lo := wrapI (by omega)
            have e2 : IntKind.i64.wrap (1000 * hi) = 1000 * hi := wrapI (by omega)
            have e3 : IntKind.i64.wrap (X - 1000 * v - 1000 * hi) = X - 1000 * v - 1000 * hi := wrapI (by omega)
            have e4 : IntKind.i64.wrap (Y - 1000 * u - 1000 * lo) = Y - 1000 * u - 1000 * lo := wrapI (by omega)
            have e5 : X - 1000 * v - 1000 * hi = X - 1000 * (v + hi) := by omega
            have e6 : Y - 1000 * u - 1000 * lo = Y - 1000 * (u + lo) := by omega
            have T1 := hide t1; have T2 := hide t2; have E5 := hide e5; have E6 := hide e6
            clear t1 t2 hu hv hr htl h1 hxk e5 e6
            go_wp2_with fail
            exact ⟨⟨k + 1, by omega, by go_num, by rw [T2.out, E5.out], by rw [T1.out, E6.out], hb⟩, by simp [intOf]; omega⟩
          · obtain rfl : n' = k := by omega
            have ey : ps.take n' = ps := List.take_of_length_le (by rw [← Hn'.out]; exact Nat.le_refl _)
            rw [ey] at hr ⊢
            have hyl : (ps.length : Int) ≤ 12 := by rw [← Hn'.out]; omega
            obtain ⟨x, hx⟩ : ∃ x, x = X - 1000 * takH ps := ⟨_, rfl⟩
            obtain ⟨y, hy⟩ : ∃ y, y = Y - 1000 * takL ps := ⟨_, rfl⟩
            rw [← hx, ← hy]
            have b1 : -1000000000000 ≤ x ∧ x ≤ 1000000000000 := by omega
            have b2 : -1000000000000 ≤ -y ∧ -y ≤ 1000000000000 := by omega
            have b3 : IntKind.i64.wrap (-y) = -y := wrapI (by omega)
            obtain ⟨z, hz⟩ : ∃ z, z = -flK (-y) := ⟨_, rfl⟩
            have b4 : IntKind.i64.wrap (-flK (-y)) = z := by rw [hz]; exact wrapI (by have : flK (-y) = -y / 1000 := rfl; omega)
            have Hz := hide hz
            have Hx3 := hide hx; have Hy3 := hide hy
            obtain ⟨p0, p1, g0, g1⟩ := (hbx.bel hb).w2
            have hBW := hB1.trans (hb.mono hB1.size)
            clear hx hy hz ey hr htl hyl
            go_wp2_with fail
            refine (rdown_any x _ b1).mono ?_
            rintro e w3 ⟨rfl, rfl⟩
            go_wp2_with fail
            refine (rdown_any (-y) _ b2).mono ?_
            rintro e w3 ⟨rfl, rfl⟩
            go_wp2_with fail
            obtain ⟨k0, k1⟩ := two_set wr w.heap.size (.int .i64 (min 1000000 (max 0 (flK x)))) (.int .i64 (min 1000000 (max 0 z))) p0 p1
            refine bodyPost_ret (v := .tuple #[.agg #[.int .i64 (min 1000000 (max 0 (flK x))), .int .i64 (min 1000000 (max 0 z))], .int .i64 0]) (by simp [results, Try.results20, go_sem, k0, k1]; try rfl) rfl ⟨?_, (hBW.setCell (Nat.le_refl _) _).setCell (Nat.le_refl _) _⟩
            have c1 : clip (flK x) = min 1000000 (max 0 (flK x)) := by simp only [clip]; omega
            have c2 : clip z = min 1000000 (max 0 z) := by simp only [clip]; omega
            rw [He.out.1, He.out.2, ← c1, ← c2, Hz.out, Hx3.out, Hy3.out, HX.out, HY.out]
            rfl
end Go.Proofs.Ytkmocikcohhdoaa
