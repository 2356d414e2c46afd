/- Two turns of a field, one right after the other, bring what one turn brings that is as long, but for a litre for each canal: the plain law. -/
import Derived.Test.YtgklcilpohkpkaaE2
set_option linter.unusedVariables false
set_option linter.unusedSimpArgs false
namespace Go.Proofs.Ytgklcilpohkpkaa
open Go.RowKit Go.Shelf
def outW (cs : List Ca) (dr : List Int) (p : List Int) (v : Sp) : Sp := p.foldl (fun v c => goF (wkAt cs dr c) v) v
theorem pathW_out (cs : List Ca) (dr : List Int) : ∀ (p : List Int) (lost : List Sp) (v : Sp), (pathW cs dr p lost v).2 = outW cs dr p v
  | [], _, _ => rfl
  | c :: p, lost, v => by
    have h1 : pathW cs dr (c :: p) lost v = pathW cs dr p (canalW cs dr (lost, v) c).1 (canalW cs dr (lost, v) c).2 := rfl
    rw [h1, pathW_out cs dr p]
    rfl
theorem down_two {x y z F t e : Int} (t0 : 0 ≤ t) (t1 : t ≤ 1000) (e0 : 0 ≤ e) (h : z - e ≤ x + y) : downF z F t - (e + 1) ≤ downF x F t + downF y 0 t := by
  unfold downF
  have h1 : max 0 (z - F) - e ≤ max 0 (x - F) + max 0 (y - 0) := by omega
  obtain ⟨X, hX⟩ : ∃ X, X = max 0 (x - F) := ⟨_, rfl⟩
  obtain ⟨Y, hY⟩ : ∃ Y, Y = max 0 (y - 0) := ⟨_, rfl⟩
  obtain ⟨Z, hZ⟩ : ∃ Z, Z = max 0 (z - F) := ⟨_, rfl⟩
  rw [← hX, ← hY, ← hZ] at h1 ⊢
  have h2 : (Z - e) * t ≤ (X + Y) * t := Int.mul_le_mul_of_nonneg_right h1 t0
  have h3 : e * t ≤ e * 1000 := Int.mul_le_mul_of_nonneg_left t1 e0
  rw [Int.sub_mul, Int.add_mul] at h2
  omega
theorem up_two {x y z F t e : Int} (t0 : 0 ≤ t) (t1 : t ≤ 1000) (e0 : 0 ≤ e) (h : z - e ≤ x + y) : upG z F t - (e + 1) ≤ upG x F t + upG y 0 t := by
  unfold upG
  have h1 : max 0 (z - F) - e ≤ max 0 (x - F) + max 0 (y - 0) := by omega
  obtain ⟨X, hX⟩ : ∃ X, X = max 0 (x - F) := ⟨_, rfl⟩
  obtain ⟨Y, hY⟩ : ∃ Y, Y = max 0 (y - 0) := ⟨_, rfl⟩
  obtain ⟨Z, hZ⟩ : ∃ Z, Z = max 0 (z - F) := ⟨_, rfl⟩
  rw [← hX, ← hY, ← hZ] at h1 ⊢
  have h2 : (Z - e) * t ≤ (X + Y) * t := Int.mul_le_mul_of_nonneg_right h1 t0
  have h3 : e * t ≤ e * 1000 := Int.mul_le_mul_of_nonneg_left t1 e0
  rw [Int.sub_mul, Int.add_mul] at h2
  omega
theorem wkAt_thr {cs : List Ca} {fs : List Int} {dry days : Int} (hok : netOk cs fs dry days = true) (dr dr' : List Int) (c : Int) : (wkAt cs dr c).thr = (wkAt cs dr' c).thr ∧ (0 ≤ (wkAt cs dr c).thr.lo ∧ (wkAt cs dr c).thr.lo ≤ 1000) ∧ (0 ≤ (wkAt cs dr c).thr.hi ∧ (wkAt cs dr c).thr.hi ≤ 1000) := by
  have h := wkT_wf hok c
  unfold wkT at h
  unfold wkAt
  cases hx : cs[c.toNat]? with
  | none => simp
  | some ca =>
    rw [hx] at h
    exact ⟨rfl, h.2.2.1, h.2.2.2⟩
theorem wkAt_nil (cs : List Ca) (c : Int) : (wkAt cs [] c).fill = ⟨0, 0⟩ := by
  unfold wkAt
  cases cs[c.toNat]? with
  | none => rfl
  | some ca => simp [wkF]
theorem out_two {cs : List Ca} {fs : List Int} {dry days : Int} (hok : netOk cs fs dry days = true) (dr : List Int) : ∀ (p : List Int) (x y z : Sp) (e : Int), 0 ≤ e → z.lo - e ≤ x.lo + y.lo → z.hi - e ≤ x.hi + y.hi →
    (outW cs dr p z).lo - (e + p.length) ≤ (outW cs dr p x).lo + (outW cs [] p y).lo ∧ (outW cs dr p z).hi - (e + p.length) ≤ (outW cs dr p x).hi + (outW cs [] p y).hi
  | [], x, y, z, e, h0, h1, h2 => by
    show z.lo - (e + 0) ≤ x.lo + y.lo ∧ z.hi - (e + 0) ≤ x.hi + y.hi
    omega
  | c :: p, x, y, z, e, h0, h1, h2 => by
    obtain ⟨ht, hl, hh⟩ := wkAt_thr hok dr [] c
    have hn := wkAt_nil cs c
    have e1 : goF (wkAt cs [] c) y = ⟨downF y.lo 0 (wkAt cs dr c).thr.lo, upG y.hi 0 (wkAt cs dr c).thr.hi⟩ := by
      unfold goF
      rw [← ht, hn]
    have k1 := down_two (F := (wkAt cs dr c).fill.hi) hl.1 hl.2 h0 h1
    have k2 := up_two (F := (wkAt cs dr c).fill.lo) hh.1 hh.2 h0 h2
    have h := out_two hok dr p (goF (wkAt cs dr c) x) (goF (wkAt cs [] c) y) (goF (wkAt cs dr c) z) (e + 1) (by omega) (by rw [e1]; exact k1) (by rw [e1]; exact k2)
    have f1 : ∀ d v, outW cs d (c :: p) v = outW cs d p (goF (wkAt cs d c) v) := fun _ _ => rfl
    rw [f1, f1, f1, List.length_cons]
    have : ((p.length + 1 : Nat) : Int) = (p.length : Int) + 1 := by omega
    omega
theorem pathK_short {cs : List Ca} {fs : List Int} {dry days : Int} (hok : netOk cs fs dry days = true) {k : Int} (h0 : 0 ≤ k) (h1 : k < fs.length) : (pathK cs fs k).length ≤ cs.length := by
  unfold pathK pathF
  rw [List.length_reverse]
  have h2 := upF_len cs (nodeF fs k.toNat) (nodeF fs k.toNat)
  have h3 := (nodeF_of hok (k := k.toNat) (by omega)).2
  omega
theorem two_uses {nf days k cut to : Int} (h0 : 0 ≤ k) (h1 : k < nf) (h2 : 1 ≤ cut) (h3 : cut < to) (h4 : to ≤ days * 1440) : usesOk nf days [⟨k, 0, cut⟩, ⟨k, cut, to⟩] = true := by
  simp only [usesOk, usAll, usOk, List.length_cons, List.length_nil, Bool.and_eq_true, Bool.not_eq_true', decide_eq_true_eq, decide_eq_false_iff_not]
  refine ⟨⟨⟨⟨h0, h1⟩, ?_, ?_, ?_⟩, ⟨⟨h0, h1⟩, ?_, ?_, ?_⟩, trivial⟩, ?_⟩ <;> omega
theorem dry_second {cs : List Ca} {fs : List Int} {dry days k cut to : Int} (hok : netOk cs fs dry days = true) (h0 : 0 ≤ k) (h1 : k < fs.length) (h2 : 1 ≤ cut) (h3 : cut < to) (h4 : to ≤ days * 1440) :
    dryL cs fs dry (days * 1440) [⟨k, 0, cut⟩, ⟨k, cut, to⟩] 1 = [] := by
  have hd := (netOk_parts hok).2.2.1
  rw [dry_eq hok (two_uses h0 h1 h2 h3 h4 : usesOk (fs.length : Int) days _ = true)]
  simp only [dryR, List.getElem?_cons_succ, List.getElem?_cons_zero]
  rw [List.filter_eq_nil_iff]
  intro c hc
  simp only [dryB, List.getElem?_cons_succ, List.getElem?_cons_zero, dryTo, List.length_cons, List.length_nil]
  simp [oneB, gapR, hc]
  omega
theorem dry_first {cs : List Ca} {fs : List Int} {dry days k cut to : Int} (hok : netOk cs fs dry days = true) (h0 : 0 ≤ k) (h1 : k < fs.length) (h2 : 1 ≤ cut) (h3 : cut < to) (h4 : to ≤ days * 1440) :
    dryL cs fs dry (days * 1440) [⟨k, 0, cut⟩, ⟨k, cut, to⟩] 0 = dryL cs fs dry (days * 1440) [⟨k, 0, to⟩] 0 := by
  rw [dry_eq hok (two_uses h0 h1 h2 h3 h4 : usesOk (fs.length : Int) days _ = true), dry_eq hok (one_use h0 h1 (by omega) h4 : usesOk (fs.length : Int) days _ = true)]
  simp only [dryR, List.getElem?_cons_zero]
  refine List.filter_congr fun c hc => ?_
  simp only [dryB, List.getElem?_cons_zero, dryTo, List.length_cons, List.length_nil]
  rw [Bool.eq_iff_iff]
  simp [oneB, gapR, hc]
  omega
theorem together {cs : List Ca} {fs : List Int} {dry days a b k cut to : Int} (hok : netOk cs fs dry days = true) (h0 : 0 ≤ k) (h1 : k < fs.length) (h2 : 1 ≤ cut) (h3 : cut < to) (h4 : to ≤ days * 1440) :
    ∃ one two : Sp, (watersK cs fs dry (days * 1440) a b [⟨k, 0, to⟩] 1).1[k.toNat]? = some one ∧ (watersK cs fs dry (days * 1440) a b [⟨k, 0, cut⟩, ⟨k, cut, to⟩] 2).1[k.toNat]? = some two ∧
      one.lo - 2 * cs.length ≤ two.lo ∧ one.hi - 2 * cs.length ≤ two.hi := by
  have hk : k.toNat < fs.length := by omega
  have hl : k.toNat < (List.replicate fs.length (⟨0, 0⟩ : Sp)).length := by simpa using hk
  have e1 : atS (List.replicate fs.length (⟨0, 0⟩ : Sp)) k.toNat = ⟨0, 0⟩ := by simp [atS, hk]
  have hp := pathK_short hok h0 h1
  obtain ⟨D, hD⟩ : ∃ D, D = dryL cs fs dry (days * 1440) [⟨k, 0, to⟩] 0 := ⟨_, rfl⟩
  have hw := out_two hok D (pathK cs fs k) ⟨a * (cut - 0), b * (cut - 0)⟩ ⟨a * (to - cut), b * (to - cut)⟩ ⟨a * (to - 0), b * (to - 0)⟩ 0 (by omega)
    (by show a * (to - 0) - 0 ≤ a * (cut - 0) + a * (to - cut); rw [← Int.mul_add]; simp; rw [show cut + (to - cut) = to by omega]; omega)
    (by show b * (to - 0) - 0 ≤ b * (cut - 0) + b * (to - cut); rw [← Int.mul_add]; simp; rw [show cut + (to - cut) = to by omega]; omega)
  refine ⟨addS ⟨0, 0⟩ (outW cs D (pathK cs fs k) ⟨a * (to - 0), b * (to - 0)⟩), addS (addS ⟨0, 0⟩ (outW cs D (pathK cs fs k) ⟨a * (cut - 0), b * (cut - 0)⟩)) (outW cs [] (pathK cs fs k) ⟨a * (to - cut), b * (to - cut)⟩), ?_, ?_, ?_, ?_⟩
  · simp only [watersK, List.range_succ, List.range_zero, List.nil_append, List.foldl_cons, List.foldl_nil, useW, List.getElem?_cons_zero, ← hD, pathW_out, putS]
    rw [List.getElem?_set_self hl, e1]
  · simp only [watersK, List.range_succ, List.range_zero, List.nil_append, List.foldl_cons, List.foldl_nil, List.foldl_append, useW, List.getElem?_cons_zero, List.getElem?_cons_succ, dry_first hok h0 h1 h2 h3 h4, dry_second hok h0 h1 h2 h3 h4, ← hD, pathW_out, putS]
    rw [List.getElem?_set_self (by rw [List.length_set]; exact hl)]
    congr 1
    have e2 : atS ((List.replicate fs.length (⟨0, 0⟩ : Sp)).set k.toNat (addS (atS (List.replicate fs.length ⟨0, 0⟩) k.toNat) (outW cs D (pathK cs fs k) ⟨a * (cut - 0), b * (cut - 0)⟩))) k.toNat = addS ⟨0, 0⟩ (outW cs D (pathK cs fs k) ⟨a * (cut - 0), b * (cut - 0)⟩) := by
      rw [e1]
      unfold atS
      rw [List.getElem?_set_self hl]
      rfl
    rw [e2]
  · simp only [addS]
    omega
  · simp only [addS]
    omega
end Go.Proofs.Ytgklcilpohkpkaa
