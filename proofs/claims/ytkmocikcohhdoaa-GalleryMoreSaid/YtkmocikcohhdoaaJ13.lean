/- GalleryMore, plain: a gallery and gauges that are known better: what Flows and Falls answer. No program is named here. -/
import Derived.Test.YtkmocikcohhdoaaJ12
set_option linter.unusedVariables false
set_option linter.unusedSimpArgs false
namespace Go.Proofs.Ytkmocikcohhdoaa
open Go.RowKit Go.Shelf
structure Known (g gx : List Rc) (l ly : List Ga) : Prop where
  b : Better g gx
  rd : ∀ k, subS ((rdS g.length ly).getD k allS) ((rdS g.length l).getD k allS)
  len : ly.length ≤ 30
  ok : ∀ y ∈ ly, (0 ≤ y.shaft ∧ y.shaft ≤ g.length) ∧ y.flow.fine 13000000
section
variable {g gx : List Rc} {l ly : List Ga} {s t : Sp} {x : Ga}
theorem Known.more (hf : ∀ r ∈ g, r.fine) (h30 : (l ++ [x]).length ≤ 30) (hv : ∀ y ∈ l ++ [x], (0 ≤ y.shaft ∧ y.shaft ≤ g.length) ∧ y.flow.fine 13000000) : Known g g l (l ++ [x]) :=
  ⟨Better.refl hf, rd_more g.length l x, h30, hv⟩
theorem Known.part (hb : Better g gx) (h30 : l.length ≤ 30) (hv : ∀ y ∈ l, (0 ≤ y.shaft ∧ y.shaft ≤ g.length) ∧ y.flow.fine 13000000) : Known g gx l l :=
  ⟨hb, fun _ => subS_refl _, h30, hv⟩
theorem Known.gok (h : Known g gx l ly) (hg : gOk g = true) : gOk gx = true := by
  obtain ⟨h1, h2⟩ := gOk_len hg
  exact gOk_of (by rw [h.b.len]; exact h1) (by rw [h.b.len]; exact h2) h.b.fine
theorem Known.ok2 (h : Known g gx l ly) : ∀ y ∈ ly, (0 ≤ y.shaft ∧ y.shaft ≤ gx.length) ∧ y.flow.fine 13000000 := by rw [h.b.len]; exact h.ok
theorem Known.fl (h : Known g gx l ly) (hg : gOk g = true) (hs : Sp.ok 0 1000000 s = true) : flErr gx s ly = if (fitS gx ly s).isSome then 0 else 24 := fl_err (h.gok hg) hs h.len h.ok2
theorem Known.fit (h : Known g gx l ly) (hg : gOk g = true) (hs : Sp.ok 0 1000000 s = true) (h30 : l.length ≤ 30) (hv : ∀ y ∈ l, (0 ≤ y.shaft ∧ y.shaft ≤ g.length) ∧ y.flow.fine 13000000) {Fx : List Sp} (hF : fitS gx ly s = some Fx) :
    flErr g s l = 0 ∧ flL gx s ly = Fx ∧ Fx.length = g.length + 1 ∧ (flL g s l).length = g.length + 1 ∧ ∀ k, k ≤ g.length → subS (Fx.getD k allS) ((flL g s l).getD k allS) := by
  obtain ⟨F, h1, h2, h3, h4⟩ := more_flows (l := l) h.b.len h.b.fine (gOk_fine hg) h.b.sub h.rd hF
  have h5 : flErr g s l = 0 := by rw [fl_err hg hs h30 hv, h1]; rfl
  have h6 : flL g s l = F := by unfold flL; rw [if_pos h5, h1]; rfl
  have h7 : flErr gx s ly = 0 := by rw [h.fl hg hs, hF]; rfl
  refine ⟨h5, by unfold flL; rw [if_pos h7, hF]; rfl, h2, by rw [h6]; exact h3, fun k hk => by rw [h6]; exact h4 k hk⟩
theorem Known.falls (h : Known g gx l ly) (hg : gOk g = true) (hs : Sp.ok 0 1000000 s = true) (ht : Sp.ok 0 1000000 t = true) (h30 : l.length ≤ 30) (hv : ∀ y ∈ l, (0 ≤ y.shaft ∧ y.shaft ≤ g.length) ∧ y.flow.fine 13000000) :
    (falE gx s ly t = 0 ∧ falE g s l t = 0 ∨ falE gx s ly t = 6) ∧ ∀ y ∈ falL gx s ly t, y ∈ falL g s l t := by
  have he := enter_ok (h.gok hg) hs h.len h.ok2
  have he0 := enter_ok hg hs h30 hv
  have hsub : ∀ i, i ∈ falN gx s ly t gx.length → i ∈ falN g s l t g.length := fun i hi => by
    obtain ⟨h1, h2⟩ := mem_falN.1 hi
    exact mem_falN.2 ⟨by rw [← h.b.len]; exact h1, more_falls h.b.len h.b.fine (gOk_fine hg) (okS_fine ht) h.b.sub h.rd h2⟩
  by_cases hn : falN gx s ly t gx.length = []
  · have hE : falE gx s ly t = 6 := by unfold falE; rw [if_pos he, if_pos ht, if_pos hn]
    refine ⟨.inr hE, fun y hy => ?_⟩
    unfold falL at hy
    rw [if_neg (by rw [hE]; decide)] at hy
    cases hy
  · have hE : falE gx s ly t = 0 := by unfold falE; rw [if_pos he, if_pos ht, if_neg hn]
    have hn2 : falN g s l t g.length ≠ [] := fun e => by
      cases hx : falN gx s ly t gx.length with
      | nil => exact hn hx
      | cons a r =>
        have := hsub a (by rw [hx]; exact List.mem_cons_self ..)
        rw [e] at this; cases this
    have hE2 : falE g s l t = 0 := by unfold falE; rw [if_pos he0, if_pos ht, if_neg hn2]
    refine ⟨.inl ⟨hE, hE2⟩, fun y hy => ?_⟩
    unfold falL at hy ⊢
    rw [if_pos hE] at hy
    rw [if_pos hE2]
    obtain ⟨i, hi, rfl⟩ := List.mem_map.1 hy
    exact List.mem_map.2 ⟨i, hsub i hi, rfl⟩
theorem falL_len : (falL g s l t).length ≤ g.length := by
  unfold falL
  split
  · rw [List.length_map]; exact falN_len _
  · simp
theorem falL_get {j : Nat} {y : Int} (h : (falL g s l t)[j]? = some y) : 0 ≤ y ∧ y < g.length := by
  have hm := List.mem_of_getElem? h
  unfold falL at hm
  split at hm
  · obtain ⟨i, hi, rfl⟩ := List.mem_map.1 hm
    have := (mem_falN.1 hi).1
    exact ⟨Int.natCast_nonneg _, Int.ofNat_lt.2 this⟩
  · cases hm
theorem flL_len (h : gOk g = true) : (flL g s l).length ≤ g.length + 1 := by
  unfold flL
  split
  · cases hF : fitS g l s with
    | none => simp
    | some F => simp only [Option.getD_some]; rw [flowsF_len _ _ _ _ hF]; omega
  · simp
end
end Go.Proofs.Ytkmocikcohhdoaa
