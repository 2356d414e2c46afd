/- GalleryRains: a pump more takes no water in; more rain gives no less. The law returns true for all years, pumps, and a pump more. No conditions. -/
import Derived.Test.YtkmocikcohhdoaaLRains1
import Derived.Test.YtkmocikcohhdoaaLRains2
import Derived.Test.YtkmocikcohhdoaaLRains3
import Derived.Test.YtkmocikcohhdoaaOpenW
set_option linter.unusedVariables false
set_option linter.unusedSimpArgs false
namespace Go.Proofs.Ytkmocikcohhdoaa
open Go.RowKit Go.Shelf Go.WideShapes Go.ChangeShapes Go.ChangeAt
theorem rains_walk (A A1 : Option Addr) (ys : List Yr) (ps : List Sp) (p : Sp) (n c np c1 x e : Nat) (w : World) (hny : n = ys.length) (hny2 : n ≤ 9223372036854775807) (hx : Rd w w.heap.size Yr.cells A ys)
    (hnp : np = ps.length) (hbp : np * 16 ≤ 140737488351232) (hx1 : Rd w w.heap.size Sp.cells A1 ps) (hx255 : x ≤ 255) (he : e ≤ 65535) :
    Calls Try.prog 12 #[.slice A n c, .slice A1 np c1, .int .u8 (x : Int), .int .u16 (e : Int), .agg #[.int .i64 p.lo, .int .i64 p.hi]] w fun e w' => e = .returned (.bool true) ∧ Below w.heap.size w w' := by
  by_cases v1 : 0 < (srcS ys (ps ++ [p])).lo
  · by_cases v2 : (srcS ys ps).lo < 1000000
    · exact rains_walk1 A A1 ys ps p n c np c1 x e w hny hny2 hx hnp hbp hx1 hx255 he ⟨v1, v2⟩
    · exact rains_walk2 A A1 ys ps p n c np c1 x e w hny hny2 hx hnp hbp hx1 hx255 he ⟨v1, v2⟩
  · exact rains_walk3 A A1 ys ps p n c np c1 x e w hny hny2 hx hnp hbp hx1 hx255 he v1
set_option maxRecDepth 100000 in
theorem galleryRains_lifted (os : Os) (started : os.Started) (H : Type) (enc : TypeId × Value → H) :
    ReturnsInHanded {} Try.checked os 12 .any (Rows.galleryRainsSpec.pre6 enc Try.prog Try.f12 Rows.galleryRainsRow.domain false) (Rows.galleryRainsSpec.post enc Try.prog Try.f12 false true false false) := by
  refine law_lifted_sized os started H enc (s := Rows.galleryRainsSpec) Try.func12 (by kernel_rfl) ?_ rfl Try.underlying4 rfl (of_decide_eq_true (by kernel_rfl))
    (ChangeSpec.witness6 (enc := enc) (C := Try.checked) false ⟨#[], #[.slice none 0 0, .slice none 0 0, .int .u8 0, .int .u16 0, .agg #[.int .i64 0, .int .i64 0]], []⟩ 8 (by kernel_rfl) (by kernel_rfl) (by kernel_rfl) (by kernel_rfl)) ?_
  · intro ds hds
    match ds, hds with
    | [a, b, c, d, e], _ => rfl
  · intro W base args ds ps hval hA hlt hsz
    rw [Try.params12] at hA hval hsz
    obtain ⟨v0, v1, v2, v3, v4, d0, d1, d2, d3, d4, p0, p1, p2, p3, p4, rfl, rfl, rfl, h0, h1, h2, h3, h4⟩ := trodAll_five hA
    obtain ⟨A, n, c, ys, rfl, hn, hm, hr, _⟩ := open_sl shape_yr Try.underlying36 cells_yr Yr.len (by omega) (hval 0 _ v0 rfl rfl) h0
    obtain ⟨A1, n1, c1, ps, rfl, hnl, hm1, hx1, _⟩ := open_sl shape_sp Try.underlying37 cells_sp Sp.len (by omega) (hval 1 _ v1 rfl rfl) h1
    obtain ⟨x, rfl, hx255⟩ := open_u8 (hval 2 _ v2 rfl rfl) h2
    obtain ⟨e, rfl, he⟩ := open_u16 (hval 3 _ v3 rfl rfl) h3
    obtain ⟨p, rfl, _⟩ := open_val shape_sp Try.underlying24 (hval 4 _ v4 rfl rfl) h4
    exact rains_walk A A1 ys ps p n c n1 c1 x e W hn hm hr hnl (slice_sized (t := 37) Try.underlying37 (by kernel_rfl) hsz (j := 1) rfl rfl h1) hx1 hx255 he

theorem galleryRains_holds : Rows.GalleryRainsSaid :=
  OpenClaim.holds_of_wide 12 Try.f12 rfl rfl rfl rfl rfl rfl rfl ⟨rfl, rfl, rfl, rfl, rfl⟩ rfl rfl rfl rfl rfl (by kernel_rfl) Try.func12 (by kernel_rfl)
    (of_decide_eq_true (by kernel_rfl)) (by unfold Func.isWrapper; rw [if_neg (of_decide_eq_false (by kernel_rfl))]; exact ⟨rfl, rfl⟩)
    (fun os started H enc _ => galleryRains_lifted os started H enc)
#print axioms galleryRains_holds
end Go.Proofs.Ytkmocikcohhdoaa
