/- Salt: rents in new memory, and rents compared, by contracts. -/
import Derived.Test.YtmbhnjpaieimbaaPC4
import Derived.Test.YtmbhnjpaieimbaaPC3
import Derived.Test.YtmbhnjpaieimbaaPBG
import Derived.Test.YtmbhnjpaieimbaaAppB
import Derived.Test.YtmbhnjpaieimbaaPC2
set_option linter.unusedVariables false
set_option linter.unusedSimpArgs false
namespace Go.Proofs.Ytmbhnjpaieimbaa
open Go.RowKit Go.Shelf
/-- A rent without where its fields lie. -/
def Rr.strip (r : Rr) : Rr := { r with A := none, c := 0 }
def strips (rs : List Rr) : List Rr := rs.map Rr.strip
section
variable (rs : List Rr)
theorem miAt_strip (k : Nat) : miAt (strips rs) k = miAt rs k := by unfold miAt strips; rw [List.getElem?_map]; cases rs[k]? <;> rfl
theorem prAt_strip (k : Nat) : prAt (strips rs) k = prAt rs k := by unfold prAt strips; rw [List.getElem?_map]; cases rs[k]? <;> rfl
theorem fsAt_strip (k : Nat) : fsAt (strips rs) k = fsAt rs k := by unfold fsAt strips; rw [List.getElem?_map]; cases rs[k]? <;> rfl
theorem len_strip : (strips rs).length = rs.length := List.length_map ..
theorem pr_strip : (strips rs).map Rr.pr = rs.map Rr.pr := by unfold strips; rw [List.map_map]; rfl
theorem leftTo_strip : ∀ k, leftTo (strips rs) k = leftTo rs k
  | 0 => rfl
  | k + 1 => by unfold leftTo; rw [leftTo_strip k, miAt_strip]
theorem rentTo_strip (m : Nat) : ∀ k, rentTo m (strips rs) k = rentTo m rs k
  | 0 => rfl
  | k + 1 => by unfold rentTo; rw [rentTo_strip m k, leftTo_strip, miAt_strip, prAt_strip, fsAt_strip]
theorem hsTo_strip : ∀ k, hsTo (strips rs) k = hsTo rs k
  | 0 => rfl
  | k + 1 => by unfold hsTo; rw [hsTo_strip k, miAt_strip]
theorem ssTo_strip : ∀ k, ssTo (strips rs) k = ssTo rs k
  | 0 => rfl
  | k + 1 => by unfold ssTo; rw [ssTo_strip k, fsAt_strip]
theorem rentsOk_strip (ns : List Int) : rentsOk ns (strips rs) = rentsOk ns rs := by unfold rentsOk; rw [len_strip, rentTo_strip]
theorem planF_strip (ns : List Int) : planF ns (strips rs) = planF ns rs := by
  unfold planF
  rw [rentsOk_strip, len_strip, hsTo_strip, ssTo_strip, pr_strip]
theorem lackF_strip (ns : List Int) : lackF ns (strips rs) = lackF ns rs := by
  unfold lackF
  rw [rentsOk_strip, len_strip, hsTo_strip, ssTo_strip]
end
theorem planF_twin {rs rs' : List Rr} (h : strips rs' = strips rs) (ns : List Int) : planF ns rs' = planF ns rs := by rw [← planF_strip rs', h, planF_strip]
theorem lackF_twin {rs rs' : List Rr} (h : strips rs' = strips rs) (ns : List Int) : lackF ns rs' = lackF ns rs := by rw [← lackF_strip rs', h, lackF_strip]
theorem rentsOk_twin {rs rs' : List Rr} (h : strips rs' = strips rs) (ns : List Int) : rentsOk ns rs' = rentsOk ns rs := by rw [← rentsOk_strip rs', h, rentsOk_strip]
theorem strips_at {rs rs' : List Rr} (h : strips rs' = strips rs) {i : Nat} {r' : Rr} (hr : rs'[i]? = some r') : ∃ r, rs[i]? = some r ∧ r'.mi = r.mi ∧ r'.pr = r.pr ∧ r'.n = r.n ∧ r'.fs = r.fs := by
  have h1 : (strips rs')[i]? = some r'.strip := by unfold strips; rw [List.getElem?_map, hr]; rfl
  rw [h] at h1
  unfold strips at h1
  rw [List.getElem?_map] at h1
  cases h2 : rs[i]? with
  | none => rw [h2] at h1; cases h1
  | some r =>
    rw [h2] at h1
    have h3 : r.strip = r'.strip := Option.some.inj h1
    exact ⟨r, rfl, (congrArg Rr.mi h3).symm, (congrArg Rr.pr h3).symm, (congrArg Rr.n h3).symm, (congrArg Rr.fs h3).symm⟩
theorem el_rent : ElLaw Try.prog 54 89 3 40 Rr.cells := elLaw_of Try.underlying54 (z := .agg #[.int .i64 0, .int .i64 0, .slice none 0 0]) (by kernel_rfl) rfl (by omega) Rr.len Rr.one (by omega)
theorem Rr.set_A {r : Rr} {A : Option Addr} {c : Nat} : ({ r with A := A, c := c } : Rr).cells = r.cells.set 2 (.slice A r.n c) := rfl
theorem strips_set {rs : List Rr} {i : Nat} {r : Rr} {A : Option Addr} {c : Nat} (h : rs[i]? = some r) : strips (rs.set i { r with A := A, c := c }) = strips rs := by
  unfold strips
  rw [List.map_set]
  apply List.ext_getElem?
  intro j
  by_cases hj : j = i
  · subst hj
    have hl : j < (rs.map Rr.strip).length := by rw [List.length_map]; exact (List.getElem?_eq_some_iff.1 h).1
    rw [List.getElem?_set_self hl, List.getElem?_map, h]; rfl
  · rw [List.getElem?_set_ne (fun e => hj e.symm)]
/-- Rents of one's own, with fields of one's own. -/
structure RsOwn (w : World) (base : Nat) (A : Option Addr) (n c : Nat) (rs : List Rr) : Prop where
  at_ : RsAt0 w A n rs
  own : Own w base 89 3 Rr.cells (.slice A n c) rs
  row : ∀ r ∈ rs, ∃ z, base ≤ z ∧ (∀ g, A.map Addr.block = some g → g < z) ∧ Own w z 3 1 icell (.slice r.A r.n r.c) r.fs
set_option maxHeartbeats 4000000 in
set_option maxRecDepth 100000 in
theorem rtwin_own (A : Option Addr) (n c : Nat) (rs : List Rr) (w : World) (hR : RsAt0 w A n rs) (hn : n * 40 ≤ 140737488355328) (hrz : ∀ r ∈ rs, r.n * 8 ≤ 140737488355328) :
    Calls Try.prog 28 #[.slice A n c] w fun e w' => ∃ A' c' rs', e = .returned (.slice A' n c') ∧ RsOwn w' w.heap.size A' n c' rs' ∧ strips rs' = strips rs ∧ Below w.heap.size w w' := by
  have Her := hide hR.en; have HR := hide hR; have HRZ := hide hrz
  clear hrz
  have L5 := hide (lit0 (cells := Rr.cells) w 89 3 w.heap.size Rr.len (Nat.le_refl _))
  have hb5 := hide (below_new w (.cells #[] 89))
  have R5 := hide (hR.rd.bel hb5.out)
  clear hR
  go_enter Try.func28, Try.ntmps28
  go_upto_region 2 with (at_builtin; refine wpList_freshB el_rent rfl (.tmp 5) (.tmp 6) rfl rfl L5.out Her.out.symm rfl R5.out (by omega) hn hb5.out.size ?_; intro v w1 o1 k1 hat; have O1 := hide o1; have K1 := hide k1; clear o1 k1 hat)
  obtain ⟨A1, c1, rfl, _⟩ := O1.out.rdn n Her.out.symm
  have hB1 := hide (hb5.out.trans (K1.out.mono hb5.out.size))
  have Hg1 : Hid (∀ g, A1.map Addr.block = some g → g < w1.heap.size) := hide fun g h => (O1.out.blockG (by cases A1 <;> exact h)).2
  clear L5 hb5 R5 K1
  go_wp2_with fail
  go_loopw [4] (fun iv wr => ∃ (k : Nat) (rs1 : List Rr), k ≤ n ∧ iv = .int .i64 k ∧ Hid (Own wr w.heap.size 89 3 Rr.cells (.slice A1 n c1) rs1) ∧ Hid (strips rs1 = strips rs) ∧ Hid (∀ j r, rs1[j]? = some r → (j < k → ∃ z, w1.heap.size ≤ z ∧ Own wr z 3 1 icell (.slice r.A r.n r.c) r.fs) ∧ (k ≤ j → rs[j]? = some r)) ∧ Below w.heap.size w wr ∧ w1.heap.size ≤ wr.heap.size) (fun iv _ => n - (intOf iv).toNat)
  case atStart => exact ⟨0, rs, by omega, rfl, O1, hide rfl, hide (fun j r h => ⟨fun h2 => by omega, fun _ => h⟩), hB1.out, Nat.le_refl _⟩
  case round =>
    obtain ⟨k, rs1, hk, rfl, HO, Hst, Hrow, hb, hz⟩ := hrel
    have hl1 : rs1.length = n := by
      have := congrArg List.length Hst.out
      rw [len_strip, len_strip] at this
      rw [this]; exact Her.out.symm
    by_cases hlt : k < n
    · obtain ⟨g, rfl⟩ := own_at' HO.out (by omega)
      have hgb := HO.out.blockG (g := g) rfl
      obtain ⟨r, hr⟩ : ∃ r, rs1[k]? = some r := ⟨_, List.getElem?_eq_getElem (by rw [hl1]; exact hlt)⟩
      obtain ⟨q, hq, e1, e2, e3, e4⟩ := strips_at Hst.out hr
      have hrow := HR.out.row q (List.mem_of_getElem? hq)
      have hrk := (Hrow.out k r hr).2 (Nat.le_refl _)
      have hrr : r = q := by rw [hq] at hrk; exact (Option.some.inj hrk).symm
      subst hrr
      obtain ⟨A', c', ea, rr⟩ := HO.out.rdn n hl1
      injection ea with ea1 _ ea2
      subst ea1 ea2
      obtain ⟨b7, off, q7, hA7, _, hqx, _, _, c2'⟩ := rr.rr (i := k) (by rw [hl1]; exact hlt)
      injection hA7 with hA7
      injection hA7 with hA71 hA72 _
      subst hA71 hA72
      obtain rfl : r = q7 := by rw [hr] at hqx; exact Option.some.inj hqx
      rw [Nat.zero_add] at c2'
      have ik : (k : Int) < (n : Int) := by omega
      have hg1 : w1.heap.size ≤ wr.heap.size := hz
      have L16 := hide (lit0 (cells := icell) wr 3 1 wr.heap.size (fun _ => rfl) (Nat.le_refl _))
      have hb16 := hide (below_new wr (.cells #[] 3))
      have hrd := (hrow.2.2.bel hb).bel hb16.out
      have R16 := hide hrd
      have hcell := hide ((hb16.out.cell (p := ⟨g, k * 3 + 2, none⟩) hgb.2).trans c2')
      obtain ⟨m, hm⟩ : ∃ m, m = r.n := ⟨_, rfl⟩
      have hm1 : m * 8 ≤ 140737488355328 := by rw [hm]; exact HRZ.out r (List.mem_of_getElem? hq)
      have Hmf := hide (show r.fs.length = m by rw [hm]; exact hrow.1.symm)
      have Hmn := hide hm
      rw [← hm] at c2' hcell
      have Hr := hide hr
      have Hb := hide hb
      clear hr hq e1 e2 e3 e4 hrow hrk rr hqx hrd hm hb
      go_upto_region 4 with (at_builtin; refine wpList_freshB el_int rfl (.tmp 16) (.tmp 21) rfl rfl L16.out Hmf.out rfl R16.out (by omega) hm1 hb16.out.size ?_; intro v w2 o2 k2 hat; have O2 := hide o2; have K2 := hide k2; clear o2 k2 hat; obtain ⟨A2, c2, rfl, _⟩ := O2.out.rdn m Hmf.out; have oo := (HO.out.bel hb16.out).bel K2.out; obtain ⟨pp, ⟨vv, zz⟩, ff⟩ := oo.put_ Rr.len Hr.out (j := 2) (x' := { r with A := A2, c := c2 }) (u := .slice A2 m c2) (by omega) (by rw [Hmn.out]; rfl) hl1.symm; have PP := hide pp; clear oo pp)
      have hb2 := hb16.out.trans (K2.out.mono hb16.out.size)
      obtain ⟨w3, hw3⟩ : ∃ w3, Hid (w2.setCell ⟨g, k * 3 + 2, none⟩ (.slice A2 m c2) = w3) := ⟨_, hide rfl⟩
      have PP' := PP.out
      rw [hw3.out] at PP' ⊢
      have kst : Kept (fun b => b ≠ g) w2 w3 := by rw [← hw3.out]; exact Kept.setCell w2 ⟨g, k * 3 + 2, none⟩ _
      have kall := (Kept.all (fun b => b ≠ g) hb2).trans kst
      have hgw1 := Hg1.out g rfl
      have G1 : Hid (∀ j r', (rs1.set k { r with A := A2, c := c2 })[j]? = some r' → (j < k + 1 → ∃ z, w1.heap.size ≤ z ∧ Own w3 z 3 1 icell (.slice r'.A r'.n r'.c) r'.fs) ∧ (k + 1 ≤ j → rs[j]? = some r')) := hide fun j r' hj => by
        by_cases hjk : j = k
        · subst hjk
          rw [List.getElem?_set_self (by rw [hl1]; exact hlt)] at hj
          obtain rfl := Option.some.inj hj
          refine ⟨fun _ => ⟨wr.heap.size, hg1, ?_⟩, fun h => by omega⟩
          have h1 := O2.out.keptG kst (fun gg e => by have := (O2.out.blockG e).1; show gg ≠ g; omega)
          rw [Hmn.out] at h1
          exact h1
        · rw [List.getElem?_set_ne (fun e => hjk e.symm)] at hj
          obtain ⟨h1, h2⟩ := Hrow.out j r' hj
          refine ⟨fun h => ?_, fun h => h2 (by omega)⟩
          obtain ⟨z, hz1, hz2⟩ := h1 (by omega)
          exact ⟨z, hz1, hz2.keptG kall (fun gg e => by have := (hz2.blockG e).1; show gg ≠ g; omega)⟩
      have G2 := hide ((strips_set (A := A2) (c := c2) Hr.out).trans Hst.out)
      have G3 := hide (Hb.out.trans (kall.below (B := w.heap.size) (fun b hb => by omega) (by omega)))
      have hsz3 : w1.heap.size ≤ w3.heap.size := Nat.le_trans hg1 kall.size
      have HP3 := hide PP'
      clear kst kall hb2 PP'
      go_wp2_with fail
      exact ⟨⟨k + 1, _, by omega, by go_num, HP3, G2, G1, G3.out, hsz3⟩, by simp [intOf]; omega⟩
    · obtain rfl : n = k := by omega
      have Hb := hide hb
      obtain ⟨A', c', ea, rr⟩ := HO.out.rdn n hl1
      injection ea with ea1 _ ea2
      subst ea1 ea2
      have G : Hid (RsAt0 wr A1 n rs1) := hide ⟨rr, hl1.symm, fun r hr => by
        obtain ⟨j, hj, hjr⟩ := List.getElem_of_mem hr
        have hj2 : rs1[j]? = some r := by rw [List.getElem?_eq_getElem hj, hjr]
        obtain ⟨z, _, ho⟩ := (Hrow.out j r hj2).1 (by omega)
        obtain ⟨q, hq, _, _, e3, e4⟩ := strips_at Hst.out hj2
        have hrow := HR.out.row q (List.mem_of_getElem? hq)
        have hn1 : r.n = r.fs.length := by rw [e3, e4]; exact hrow.1
        obtain ⟨A'', c'', eb, rb⟩ := ho.rdn r.n hn1.symm
        injection eb with eb1 _ eb2
        subst eb1
        exact ⟨hn1, by rw [e3]; exact hrow.2.1, rb⟩⟩
      have G2 : Hid (∀ r ∈ rs1, ∃ z, w.heap.size ≤ z ∧ (∀ g, A1.map Addr.block = some g → g < z) ∧ Own wr z 3 1 icell (.slice r.A r.n r.c) r.fs) := hide fun r hr => by
        obtain ⟨j, hj, hjr⟩ := List.getElem_of_mem hr
        have hj2 : rs1[j]? = some r := by rw [List.getElem?_eq_getElem hj, hjr]
        obtain ⟨z, hz1, ho⟩ := (Hrow.out j r hj2).1 (by omega)
        exact ⟨z, Nat.le_trans hB1.out.size hz1, fun g hg => Nat.lt_of_lt_of_le (Hg1.out g hg) hz1, ho⟩
      clear rr
      go_wp2_with fail
      go_ret
      exact ⟨A1, c1, rfl, rs1, ⟨G.out, HO.out, G2.out⟩, Hst.out, Hb.out⟩
theorem rtwin_any (A : Option Addr) (n c : Nat) (rs : List Rr) (w : World) (hR : RsAt w A n rs) (hn : n ≤ 1000) :
    Calls Try.prog 28 #[.slice A n c] w fun e w' => ∃ A' c' rs', e = .returned (.slice A' n c') ∧ RsAt w' A' n rs' ∧ strips rs' = strips rs ∧ Below w.heap.size w w' :=
  (rtwin_own A n c rs w ⟨hR.rd, hR.en, fun r hr => ⟨(hR.row r hr).1, by have := (hR.row r hr).2.1; omega, (hR.row r hr).2.2⟩⟩ (by omega) (fun r hr => by have := (hR.row r hr).2.1; omega)).mono fun _ _ ⟨A', c', rs', h1, h2, h3, h4⟩ => ⟨A', c', rs', h1, ⟨h2.at_.rd, h2.at_.en, fun r hr => by
    obtain ⟨j, hj, hjr⟩ := List.getElem_of_mem hr
    obtain ⟨q, hq, _, _, e3, e4⟩ := strips_at h3 (show rs'[j]? = some r by rw [List.getElem?_eq_getElem hj, hjr])
    have hrow := hR.row q (List.mem_of_getElem? hq)
    exact ⟨(h2.at_.row r hr).1, by rw [e3]; exact hrow.2.1, (h2.at_.row r hr).2.2⟩⟩, h3, h4⟩
/-! ### Rents compared -/
set_option maxHeartbeats 4000000 in
set_option maxRecDepth 100000 in
theorem sameRents_true (A B : Option Addr) (n c d : Nat) (xs ys : List Rr) (w : World) (hX : RsAt w A n xs) (hY : RsAt w B n ys) (he : strips xs = strips ys) (hn : n ≤ 1000) :
    Calls Try.prog 34 #[.slice A n c, .slice B n d] w fun e w' => e = .returned (.bool true) ∧ Below w.heap.size w w' := by
  have HX := hide hX; have HY := hide hY; have He := hide he
  clear hX hY he
  have e0 : ((n : Int) != (n : Int)) = false := by simp
  go_enter Try.func34, Try.ntmps34
  go_wp2_with fail
  go_loopw [5] (fun iv wr => ∃ k : Nat, k ≤ n ∧ iv = .int .i64 k ∧ Below w.heap.size w wr) (fun iv _ => n - (intOf iv).toNat)
  case atStart => exact ⟨0, by omega, rfl, Below.refl _ _⟩
  case round =>
    obtain ⟨k, hk, rfl, hb⟩ := hrel
    by_cases hlt : k < n
    · obtain ⟨b1, o1, x, hA, hl1, hx, x0, x1, x2⟩ := (HX.out.bel hb).rd.rr (i := k) (by rw [← HX.out.en]; exact hlt)
      obtain ⟨b2, o2, y, hB, hl2, hy, y0, y1, y2⟩ := (HY.out.bel hb).rd.rr (i := k) (by rw [← HY.out.en]; exact hlt)
      obtain ⟨y', hy', e1, e2, e3, e4⟩ := strips_at He.out hx
      obtain rfl : y' = y := by rw [hy] at hy'; exact (Option.some.inj hy').symm
      rw [← e1] at y0
      rw [← e2] at y1
      have rx := HX.out.row x (List.mem_of_getElem? hx)
      have ry := HY.out.row y' (List.mem_of_getElem? hy)
      obtain ⟨m, hm⟩ : ∃ m, m = x.n := ⟨_, rfl⟩
      rw [← hm] at x2
      rw [← e3, ← hm] at y2
      have hm1 : m ≤ 1000 := by rw [hm]; exact rx.2.1
      have Fx := hide rx.2.2; have Fy := hide (show Rd w w.heap.size icell y'.A x.fs by rw [e4]; exact ry.2.2)
      have Hml := hide (show m = x.fs.length by rw [hm]; exact rx.1)
      have t0 : (x.mi != x.mi) = false := by simp
      have t1 : (x.pr != x.pr) = false := by simp
      have t2 : ((m : Int) != (m : Int)) = false := by simp
      have ik : (k : Int) < (n : Int) := by omega
      have Hb := hide hb
      obtain ⟨wo, rfl⟩ : ∃ wo, wo = wr := ⟨wr, rfl⟩
      have X2 := hide x2; have Y2 := hide y2
      rw [hA, hB]
      clear e1 e2 e3 e4 hx hy hy' rx ry hA hB hm hb
      go_upto_region 6 with fail
      go_quiet (fail)
      have hD := below_drewN (Below.refl wo.heap.size wo) nq
      obtain ⟨wq, hwq⟩ : ∃ wq, Hid (wo.drewN nq = wq) := ⟨_, hide rfl⟩
      rw [hwq.out] at hD ⊢
      have HD := hide hD
      clear x0 x1 x2 y0 y1 y2 hD hwq
      go_wp2_with fail
      go_loopw [6] (fun jv wr => ∃ j : Nat, j ≤ m ∧ jv = .int .i64 j ∧ Below wq.heap.size wq wr) (fun jv _ => m - (intOf jv).toNat)
      case atStart => exact ⟨0, by omega, rfl, Below.refl _ _⟩
      case round =>
        obtain ⟨j, hj, rfl, hb2⟩ := hrel
        have h02 := HD.out.trans (hb2.mono HD.out.size)
        have x2 := (h02.cell (p := ⟨b1, o1 + k * 3 + 2, none⟩) hl1).trans X2.out
        have y2 := (h02.cell (p := ⟨b2, o2 + k * 3 + 2, none⟩) hl2).trans Y2.out
        have HB := hide (Hb.out.trans (h02.mono Hb.out.size))
        have Hb2 := hide hb2
        by_cases hjm : j < m
        · obtain ⟨b3, o3, u, hA3, _, hu, cu⟩ := (Fx.out.bel HB.out).int (i := j) (by rw [← Hml.out]; exact hjm)
          obtain ⟨b4, o4, v, hA4, _, hv, cv⟩ := (Fy.out.bel HB.out).int (i := j) (by rw [← Hml.out]; exact hjm)
          obtain rfl : u = v := by rw [hu] at hv; exact Option.some.inj hv
          have ij : (j : Int) < (m : Int) := by omega
          have t3 : (u != u) = false := by simp
          rw [hA3] at x2
          rw [hA4] at y2
          clear hu hv hb2 h02 hA3 hA4
          go_upto_region 11 with fail
          go_quiet (fail)
          go_wp2_with fail
          exact ⟨⟨j + 1, by omega, by go_num, below_drewN Hb2.out _⟩, by simp [intOf]; omega⟩
        · obtain rfl : m = j := by omega
          clear hb2 h02
          go_wp2_with fail
          exact ⟨⟨k + 1, by omega, by go_num, HB.out⟩, by simp [intOf]; omega⟩
    · obtain rfl : n = k := by omega
      go_wp2_with fail
      go_ret
      exact ⟨rfl, hb⟩
end Go.Proofs.Ytmbhnjpaieimbaa
