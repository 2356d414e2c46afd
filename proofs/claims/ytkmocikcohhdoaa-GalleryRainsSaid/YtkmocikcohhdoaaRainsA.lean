/- Helpers of GalleryRains: rows of years of one's own. -/
import Derived.Test.YtkmocikcohhdoaaJ1
import Derived.Test.YtkmocikcohhdoaaJ7
import Derived.Test.YtkmocikcohhdoaaApp3
import Derived.Test.YtkmocikcohhdoaaSized
import Derived.Deep.Cut
set_option linter.unusedVariables false
set_option linter.unusedSimpArgs false
namespace Go.Proofs.Ytkmocikcohhdoaa
open Go.RowKit Go.Shelf Go.WideShapes Go.ChangeShapes Go.ChangeAt
theorem el_yr : ElLaw Try.prog 36 88 3 24 Yr.cells := elLaw_of Try.underlying36 (z := .agg #[.int .i64 0, .int .i64 0, .int .i64 0]) (by kernel_rfl) rfl (by omega) Yr.len Yr.one (by omega)
theorem own_yr_c {W : World} {base : Nat} {e : TypeId} {g n c j : Nat} {ys : List Yr} {lo hi wt : Int} (h : Own W base e 3 Yr.cells (.slice (some ⟨g, 0, none⟩) n c) ys) (hn : n = ys.length) (hy : ys[j]? = some ⟨⟨lo, hi⟩, wt⟩) :
    W.cell? ⟨g, j * 3, none⟩ = some (.int .i64 lo) ∧ W.frozen? ⟨g, j * 3, none⟩ = false := by
  have hj := (List.getElem?_eq_some_iff.1 hy).1
  obtain ⟨A, c', e1, r⟩ := h.rdn n hn.symm
  injection e1 with e1 e2 e3
  subst e1
  obtain ⟨b2, o2, l2, h2, t2, e2, _, hyj, k0, _, _⟩ := r.yr (i := j) hj
  injection e2 with e2
  injection e2 with e2 e3
  subst e2; subst e3
  rw [hy] at hyj
  injection hyj with hyj
  injection hyj with h3 h4
  injection h3 with h5 h6
  subst h5
  have hf := (h.put_ Yr.len (i := j) (j := 0) (x' := ⟨⟨lo, hi⟩, wt⟩) (u := .int .i64 lo) hy (by omega) rfl hn).2.2
  exact ⟨by simpa using k0, by simpa using hf⟩
end Go.Proofs.Ytkmocikcohhdoaa
