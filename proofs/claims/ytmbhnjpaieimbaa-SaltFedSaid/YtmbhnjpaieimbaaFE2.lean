/- Soils and what fields want: what the laws of the minutes and the salt need (plain), and After and Need for a soil, by contracts. -/
import Derived.Test.YtmbhnjpaieimbaaFE1
import Derived.Test.YtmbhnjpaieimbaaZA
import Derived.Test.YtmbhnjpaieimbaaSA1
set_option linter.unusedVariables false
set_option linter.unusedSimpArgs false
namespace Go.Proofs.Ytmbhnjpaieimbaa
open Go.RowKit Go.Shelf
theorem NetAt.bel {w w' : World} {Ac Af : Option Addr} {nc nf : Nat} {cs : List Ca} {fs : List Int} (h : NetAt w Ac Af nc nf cs fs) (hb : Below w.heap.size w w') : NetAt w' Ac Af nc nf cs fs := h.below hb
theorem after_soil (s : So) (wa : Sp) (c : Nat) (w : World) (hso : soOk s = true) (hwa : Sp.ok 0 1000000000 wa = true) (hc : c ≤ 100) :
    Calls Try.prog 14 #[.agg #[.int .i64 s.salt.lo, .int .i64 s.salt.hi, .int .i64 s.limit, .int .i64 s.crop, .int .i64 s.mineral.lo, .int .i64 s.mineral.hi, .int .i64 s.wash.lo, .int .i64 s.wash.hi, .int .i64 s.rise.lo, .int .i64 s.rise.hi], .agg #[.int .i64 wa.lo, .int .i64 wa.hi], .int .i64 (c : Int)] w fun e w' => ∃ A cl, e = .returned (.tuple #[.slice A c cl, .int .i64 0]) ∧ Rd w' w'.heap.size Sp.cells A (afterL s wa c) ∧ Below w.heap.size w w' := by
  refine (show Calls Try.prog 14 _ _ (fun e w' => ∃ v, e = .returned (.tuple #[v, .int .i64 (afterE s wa c)]) ∧ Own w' w.heap.size 23 2 Sp.cells v (afterV s wa c) ∧ Below w.heap.size w w') from after_fn _ _ _ _ _ _ _ _ _ _ _ _ _ _).mono ?_
  rintro e w6 ⟨v, rfl, ho, hb6⟩
  have hAE : afterE s wa c = 0 := by
    unfold afterE; rw [if_pos hso, if_pos]; simp [inB]; exact ⟨hwa, by omega⟩
  have hAV : afterV s wa c = afterL s wa c := by
    unfold afterV; rw [if_pos]
    · simp
    · simp [afterOk, inB]; exact ⟨hso, hwa, by omega⟩
  rw [hAV] at ho
  rw [hAE]
  obtain ⟨Al, cl, rfl, rl⟩ := ho.rdn c (afterL_len _ _ _)
  exact ⟨Al, cl, rfl, rl, hb6⟩
theorem need_soil (s : So) (w : World) :
    Calls Try.prog 16 #[.agg #[.int .i64 s.salt.lo, .int .i64 s.salt.hi, .int .i64 s.limit, .int .i64 s.crop, .int .i64 s.mineral.lo, .int .i64 s.mineral.hi, .int .i64 s.wash.lo, .int .i64 s.wash.hi, .int .i64 s.rise.lo, .int .i64 s.rise.hi]] w fun e w' => e = .returned (.tuple #[.int .i64 (needF s).1, .int .i64 (needF s).2]) ∧ Below w.heap.size w w' := need_fn _ _ _ _ _ _ _ _ _ _ _
/-- Where fields want minutes at all. -/
theorem wants_zero {cs : List Ca} {fs : List Int} {dry days a b : Int} {ss : List So} {o : List Int} {i : Int} (h : wantsP cs fs dry days a b ss o i 0) :
    netOk cs fs dry days = true ∧ Sp.ok 0 13000000 ⟨a, b⟩ = true ∧ ss.length = fs.length ∧ (∀ s ∈ ss, soOk s = true) ∧ i = 0 ∧ WOk cs fs dry days a b ss ss.length o := by
  unfold wantsP at h
  split at h
  · split at h
    · split at h
      · rename_i h1 h2 h3
        rcases h with ⟨h4, h5, _⟩ | ⟨_, _, _, _, h5, _⟩
        · exact ⟨h1, h2, h3.1, by simpa using h3.2, h5, h4⟩
        · cases h5
      · cases h.2.2
    · cases h.2.2
  · cases h.2.2
theorem wants_nz {cs : List Ca} {fs : List Int} {dry days a b : Int} {ss : List So} {o : List Int} {i e : Int} (h : wantsP cs fs dry days a b ss o i e) (he : e ≠ 0) : o = [] := by
  unfold wantsP at h
  split at h
  · split at h
    · split at h
      · rcases h with ⟨_, _, h5⟩ | ⟨_, _, h5, _⟩
        · exact absurd h5 he
        · exact h5
      · exact h.1
    · exact h.1
  · exact h.1
/-- What the minutes that a field wants bring to it. -/
theorem want_gets {cs : List Ca} {fs : List Int} {dry days a b : Int} {ss : List So} {o : List Int} (hok : netOk cs fs dry days = true) (hsp : Sp.ok 0 13000000 ⟨a, b⟩ = true) (hl : ss.length = fs.length) (hso : ∀ s ∈ ss, soOk s = true) (h : WOk cs fs dry days a b ss ss.length o) {k : Nat} {s : So} (hs : ss[k]? = some s) :
    ∃ n r, needF s = (n, 0) ∧ s.crop ≤ n ∧ n ≤ 1000000000 ∧ fineF s n = true ∧ o[k]? = some r ∧ 0 ≤ r ∧ r ≤ days * 1440 ∧ n ≤ getK cs (pathK cs fs (k : Int)) (a * r) := by
  have hk := (List.getElem?_eq_some_iff.1 hs).1
  obtain ⟨s', n, r, h1, h2, h3, h4⟩ := h.all k hk
  rw [hs] at h1; injection h1 with h1; subst h1
  have hsk := hso s (List.mem_of_getElem? hs)
  have hcr := (So.fit_of hsk).cr
  rcases need_spec hsk with ⟨n', e1, e2, e3, e4, _⟩ | ⟨e1, _⟩
  rotate_left
  · rw [h2] at e1; injection e1 with _ e1; cases e1
  rw [h2] at e1
  injection e1 with e1 _
  subst e1
  refine ⟨n, r, h2, e2, e3, e4, h4, ?_⟩
  unfold minutesP at h3
  rw [if_pos hok, if_pos hsp] at h3
  split at h3
  · rcases h3 with ⟨h5, _⟩ | ⟨_, h5, h6, h7, _⟩
    · cases h5
    · exact ⟨h5, h6, by simpa [enoughB] using h7⟩
  · cases h3.2
/-- A field whose turns are used one after the other gets its need. -/
theorem fed_gets {cs : List Ca} {fs : List Int} {dry days a b : Int} {ss : List So} {o : List Int} (hok : netOk cs fs dry days = true) (hsp : Sp.ok 0 13000000 ⟨a, b⟩ = true) (hl : ss.length = fs.length) (hso : ∀ s ∈ ss, soOk s = true) (h : WOk cs fs dry days a b ss ss.length o)
    (huo : usesOk (fs.length : Int) days (fedU o ss.length).1 = true) {k : Nat} {s : So} {n r : Int} (hs : ss[k]? = some s) (hr : o[k]? = some r) (hn : n ≤ getK cs (pathK cs fs (k : Int)) (a * r)) :
    n ≤ (atS (watersK cs fs dry (days * 1440) a b (fedU o ss.length).1 (fedU o ss.length).1.length).1 k).lo := by
  have hk := (List.getElem?_eq_some_iff.1 hs).1
  have hd : o.getD k 0 = r := by rw [List.getD_eq_getElem?_getD, hr]; rfl
  by_cases hz : r = 0
  · rw [hz, Int.mul_zero, getK_nul hok] at hn
    exact Int.le_trans hn (waters_pos hok huo hsp k).1
  · obtain ⟨i, u, h1, h2, h3⟩ := fedU_mem (ns := o) hk (by rw [hd]; exact hz)
    have := waters_ge (dry := dry) hok huo hsp _ (Nat.le_refl _) i u (List.getElem?_eq_some_iff.1 h1).1 h1
    rw [h2, h3, hd] at this
    exact Int.le_trans hn this
theorem fed_bd {cs : List Ca} {fs : List Int} {dry days a b : Int} {ss : List So} {o : List Int} (hok : netOk cs fs dry days = true) (h : ∀ (k : Nat) (s : So), ss[k]? = some s → ∃ r : Int, o[k]? = some r ∧ 0 ≤ r ∧ r ≤ days * 1440) (hl : o.length = ss.length) : ∀ k, 0 ≤ o.getD k 0 ∧ o.getD k 0 ≤ 23040 := fun k => by
  have hd := (netOk_parts hok).2.2.2.1
  by_cases hk : k < ss.length
  · obtain ⟨r, h1, h2, h3⟩ := h k ss[k] (List.getElem?_eq_getElem hk)
    rw [List.getD_eq_getElem?_getD, h1]
    show 0 ≤ r ∧ r ≤ 23040
    omega
  · rw [List.getD_eq_getElem?_getD, List.getElem?_eq_none (by omega)]
    show (0 : Int) ≤ 0 ∧ (0 : Int) ≤ 23040
    omega
/-! ### spans stay spans -/
theorem goF_le {cs : List Ca} {fs : List Int} {dry days : Int} (hok : netOk cs fs dry days = true) (dr : List Int) (c : Int) {v : Sp} (hv : v.lo ≤ v.hi) : (goF (wkAt cs dr c) v).lo ≤ (goF (wkAt cs dr c) v).hi := by
  have hw := wkAt_wf hok dr c
  have key : (wkAt cs dr c).thr.lo ≤ (wkAt cs dr c).thr.hi ∧ (wkAt cs dr c).fill.lo ≤ (wkAt cs dr c).fill.hi := by
    unfold wkAt
    cases hx : cs[c.toNat]? with
    | none => exact ⟨Int.le_refl _, Int.le_refl _⟩
    | some ca =>
      have h := (caAll_iff 0 cs).1 (netOk_parts hok).2.2.2.2.2.1 _ _ hx
      simp only [caOk, inB, Sp.ok, Bool.and_eq_true, decide_eq_true_eq] at h
      obtain ⟨_, ⟨⟨h1, h2⟩, h3⟩, ⟨h4, h5⟩, h6⟩ := h
      cases hd : decide (c ∈ dr) <;> (simp [wkF]; omega)
  obtain ⟨f0, f1, t0, t1⟩ := hw
  show downF v.lo _ _ ≤ upG v.hi _ _
  unfold downF upG
  refine Int.ediv_le_ediv (by omega) ?_
  have h1 : max 0 (v.lo - (wkAt cs dr c).fill.hi) * (wkAt cs dr c).thr.lo ≤ max 0 (v.hi - (wkAt cs dr c).fill.lo) * (wkAt cs dr c).thr.hi := Int.mul_le_mul (by omega) key.1 t0.1 (by omega)
  omega
theorem pathW_le {cs : List Ca} {fs : List Int} {dry days : Int} (hok : netOk cs fs dry days = true) (dr : List Int) : ∀ (p : List Int) (lost : List Sp) (v : Sp), v.lo ≤ v.hi → (pathW cs dr p lost v).2.lo ≤ (pathW cs dr p lost v).2.hi
  | [], _, _, h => h
  | c :: p, lost, v, h => pathW_le hok dr p (canalW cs dr (lost, v) c).1 (canalW cs dr (lost, v) c).2 (goF_le hok dr c h)
theorem waters_le {cs : List Ca} {fs : List Int} {dry days a b : Int} {us : List Us} (hok : netOk cs fs dry days = true) (huo : usesOk fs.length days us = true) (hs : Sp.ok 0 13000000 ⟨a, b⟩ = true) :
    ∀ k, k ≤ us.length → ∀ j, (atS (watersK cs fs dry (days * 1440) a b us k).1 j).lo ≤ (atS (watersK cs fs dry (days * 1440) a b us k).1 j).hi
  | 0, _, j => by
    show (atS (List.replicate fs.length ⟨0, 0⟩) j).lo ≤ (atS (List.replicate fs.length ⟨0, 0⟩) j).hi
    unfold atS
    rw [List.getElem?_replicate]
    split <;> exact Int.le_refl _
  | k + 1, hk, j => by
    have hx : us[k]? = some us[k] := List.getElem?_eq_getElem (by omega)
    have ih := waters_le (dry := dry) hok huo hs k (by omega)
    have hu := (usesOk_mem huo (List.getElem_mem (by omega : k < us.length))).2
    have hab : a ≤ b := by simp only [Sp.ok, Bool.and_eq_true, decide_eq_true_eq] at hs; omega
    rw [watersK_succ]
    unfold useW
    rw [hx]
    have hp := pathW_le hok (dryL cs fs dry (days * 1440) us k) (pathK cs fs us[k].field) (watersK cs fs dry (days * 1440) a b us k).2 ⟨a * (us[k].to - us[k].frm), b * (us[k].to - us[k].frm)⟩ (Int.mul_le_mul_of_nonneg_right hab (by omega))
    obtain ⟨y, hy⟩ : ∃ y, y = (pathW cs (dryL cs fs dry (days * 1440) us k) (pathK cs fs us[k].field) (watersK cs fs dry (days * 1440) a b us k).2 ⟨a * (us[k].to - us[k].frm), b * (us[k].to - us[k].frm)⟩).2 := ⟨_, rfl⟩
    rw [← hy] at hp
    show (atS (putS _ _ _) j).lo ≤ (atS (putS _ _ _) j).hi
    rw [← hy]
    obtain ⟨L, hL⟩ : ∃ L, L = (watersK cs fs dry (days * 1440) a b us k).1 := ⟨_, rfl⟩
    rw [← hL] at ih ⊢
    have hq := ih us[k].field.toNat
    have hj := ih j
    unfold putS
    by_cases e : j = us[k].field.toNat
    · by_cases hl : j < L.length
      · rw [← e]; unfold atS; rw [List.getElem?_set_self hl]
        show (atS L j).lo + y.lo ≤ (atS L j).hi + y.hi
        omega
      · unfold atS; rw [List.getElem?_eq_none (by rw [List.length_set]; omega)]; exact Int.le_refl _
    · have e2 : atS (L.set us[k].field.toNat (addS (atS L us[k].field.toNat) y)) j = atS L j := by unfold atS; rw [List.getElem?_set_ne (fun h => e h.symm)]
      rw [e2]; exact hj
theorem Rd.so2 {w : World} {B : Nat} {A : Option Addr} {xs : List So} (h : Rd w B So.cells A xs) {i : Nat} (hi : i < xs.length) :
    ∃ b off s, A = some ⟨b, off, none⟩ ∧ b < B ∧ xs[i]? = some s ∧ w.cell? ⟨b, off + i * 10, none⟩ = some (.int .i64 s.salt.lo) ∧ w.cell? ⟨b, off + i * 10 + 1, none⟩ = some (.int .i64 s.salt.hi) ∧ w.cell? ⟨b, off + i * 10 + 2, none⟩ = some (.int .i64 s.limit) ∧ w.cell? ⟨b, off + i * 10 + 3, none⟩ = some (.int .i64 s.crop) ∧ w.cell? ⟨b, off + i * 10 + 4, none⟩ = some (.int .i64 s.mineral.lo) ∧
      w.cell? ⟨b, off + i * 10 + 5, none⟩ = some (.int .i64 s.mineral.hi) ∧ w.cell? ⟨b, off + i * 10 + 6, none⟩ = some (.int .i64 s.wash.lo) ∧ w.cell? ⟨b, off + i * 10 + 7, none⟩ = some (.int .i64 s.wash.hi) ∧ w.cell? ⟨b, off + i * 10 + 8, none⟩ = some (.int .i64 s.rise.lo) ∧ w.cell? ⟨b, off + i * 10 + 9, none⟩ = some (.int .i64 s.rise.hi) := by
  obtain ⟨b, off, e, hB, hc⟩ := h (by omega)
  have hx : xs[i]? = some xs[i] := List.getElem?_eq_getElem hi
  have g := fun j (hj : j < 10) v hv => hc (i * 10 + j) v (by rw [flat_get So.len hx hj]; exact hv)
  exact ⟨b, off, _, e, hB, hx, g 0 (by omega) _ rfl, g 1 (by omega) _ rfl, g 2 (by omega) _ rfl, g 3 (by omega) _ rfl, g 4 (by omega) _ rfl, g 5 (by omega) _ rfl, g 6 (by omega) _ rfl, g 7 (by omega) _ rfl, g 8 (by omega) _ rfl, g 9 (by omega) _ rfl⟩
theorem after_one {s : So} {wa : Sp} {lo hi : Int} (h : (afterL s wa 1)[0]? = some ⟨lo, hi⟩) : cycleF s wa = ⟨lo, hi⟩ := by
  rw [show (afterL s wa 1)[0]? = some (saltN s wa 1) by simp [afterL]] at h
  exact Option.some.inj h
end Go.Proofs.Ytmbhnjpaieimbaa
