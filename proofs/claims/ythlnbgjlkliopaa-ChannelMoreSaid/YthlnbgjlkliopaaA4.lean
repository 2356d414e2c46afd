/- Channel, outright: ready and along, by contract. -/
import Derived.Test.YthlnbgjlkliopaaA0
import Derived.Test.YthlnbgjlkliopaaR3
import Derived.Test.YthlnbgjlkliopaaR2
set_option linter.unusedVariables false
set_option linter.unusedSimpArgs false
namespace Go.Proofs.Ythlnbgjlkliopaa
open Go.RowKit Go.Shelf
attribute [local go_sem ↓] Go.wp_at_zero Go.wp_at_succ
def readyB (cs : List Ca) (fs : List Int) (dry days a b : Int) (us : List Us) : Bool := !great cs fs us.length && (netOk cs fs dry days && (usesOk fs.length days us && Sp.ok 0 13000000 ⟨a, b⟩))
set_option maxHeartbeats 4000000 in
set_option maxRecDepth 100000 in
theorem ready_any (Ac Af Au : Option Addr) (nc cc nf cf nu cu : Nat) (dry days a b : Int) (cs : List Ca) (fs : List Int) (us : List Us) (w : World) (hnc : nc = cs.length) (hnf : nf = fs.length) (hcs : Rd w w.heap.size Ca.cells Ac cs) (hfs : Rd w w.heap.size icell Af fs) (hus : Rd w w.heap.size Us.cells Au us) (hnu : nu = us.length) :
    Calls Try.prog 5 #[.agg #[.slice Ac nc cc, .slice Af nf cf, .int .i64 dry, .int .i64 days], .agg #[.int .i64 a, .int .i64 b], .slice Au nu cu] w fun e w' => e = .returned (.bool (readyB cs fs dry days a b us)) ∧ Below w.heap.size w w' := by
  obtain ⟨W, HW⟩ : ∃ W, Hid ((w.alloc (.cells #[.slice Ac nc cc, .slice Af nf cf, .int .i64 dry, .int .i64 days] 25)).alloc (.cells #[.int .i64 a, .int .i64 b] 27) = W) := ⟨_, hide rfl⟩
  have hN : At W w.heap.size [.slice Ac nc cc, .slice Af nf cf, .int .i64 dry, .int .i64 days] := by rw [← HW.out]; exact (At.new w #[.slice Ac nc cc, .slice Af nf cf, .int .i64 dry, .int .i64 days] _ _ rfl _ rfl).alloc _
  have hL : At W (w.heap.size + 1) [.int .i64 a, .int .i64 b] := by rw [← HW.out]; exact At.new _ #[.int .i64 a, .int .i64 b] _ _ (by simp) _ rfl
  have hB : Below w.heap.size w W := by rw [← HW.out]; exact (below_new w _).alloc (by simp) _
  have hN0 := hN.c4
  have hL0 := hL.c2
  have hW : ∀ {α : Type} (cells : α → List Value) (A : Option Addr) (xs : List α), Rd w w.heap.size cells A xs → Rd W W.heap.size cells A xs := fun cells A xs h => h.bel hB
  obtain ⟨q0, q1, q2, q3⟩ := hN0
  obtain ⟨p0, p1⟩ := hL0
  have Hc := hide hnc; have Hf := hide hnf; have Hu := hide hnu
  have Hcs := hide (hcs.bel hB); have Hfs := hide (hfs.bel hB); have Hus := hide (hus.bel hB); have HB := hide hB; have HN := hide hN; have HL := hide hL
  obtain ⟨r, hr⟩ : ∃ r, r = readyB cs fs dry days a b us := ⟨_, rfl⟩
  rw [← hr]
  have Hr := hide hr
  clear hnc hnf hnu hcs hfs hus hB hN hL hW hr
  go_enter Try.func5, Try.ntmps5
  go_wp2_with fail
  rw [HW.out]
  go_wp2_with fail
  refine (rGreat_any Ac Af Au nc cc nf cf nu cu dry days cs fs _ Hc.out Hf.out).mono ?_
  rintro e w1 ⟨rfl, h1⟩
  obtain ⟨q0', q1', q2', q3'⟩ := (HN.out.below h1).c4
  clear q0 q1 q2 q3 p0 p1
  cases hg : great cs fs nu
  · have hg' := hg
    simp only [great, Bool.or_eq_false_iff, decide_eq_false_iff_not] at hg'
    have net1 : NetAt w1 Ac Af nc nf cs fs := ⟨Hcs.out.bel h1, Hfs.out.bel h1, Hc.out, Hf.out, by have := Hc.out; omega, by have := Hf.out; omega⟩
    have Hnet := hide net1; have Hg := hide hg; have Hnu := hide (show nu ≤ 80 by omega); have Hnf := hide (show nf ≤ 18 by have := Hf.out; omega)
    clear net1 hg hg'
    go_wp2_with fail
    refine (rCheck_any Ac Af nc cc nf cf dry days cs fs _ Hnet.out).mono ?_
    rintro e w2 ⟨rfl, h2⟩
    obtain ⟨p0, p1, p2, p3⟩ := ((HN.out.below h1).below h2).c4
    clear q0' q1' q2' q3'
    cases hok : netOk cs fs dry days
    · have he : netErr cs fs dry days = 50 := by simp [netErr, hok]
      rw [he]
      have Hok := hide hok; clear hok he
      go_wp2_with fail
      go_ret
      refine ⟨ret_bool ?_, (HB.out.trans (h1.mono HB.out.size)).trans (h2.mono (HB.out.trans (h1.mono HB.out.size)).size)⟩
      rw [Hr.out]; simp [readyB, Hok.out]
    · have he : netErr cs fs dry days = 0 := by simp [netErr, hok]
      have hd := (netOk_parts hok).2.2.2.1
      rw [he]
      have Hok := hide hok; clear hok he
      go_wp2_with fail
      refine (rUses_any Ac Af nc cc nf cf dry days Au us nu cu _ ((Hus.out.bel h1).bel h2) Hu.out (by have := Hnu.out; omega) (by have := Hnf.out; omega) hd.1 hd.2).mono ?_
      rintro e w3 ⟨rfl, h3⟩
      have hb3 := (HB.out.trans (h1.mono HB.out.size)).trans (h2.mono (HB.out.trans (h1.mono HB.out.size)).size)
      replace hb3 := hb3.trans (h3.mono hb3.size)
      obtain ⟨z0, z1⟩ := (((HL.out.below h1).below h2).below h3).c2
      clear p0 p1 p2 p3
      cases huo : usesOk nf days us
      · have Huo := hide huo; clear huo
        go_wp2_with fail
        go_ret
        refine ⟨ret_bool ?_, hb3⟩
        rw [Hr.out]; simp [readyB, ← Hf.out, Huo.out]
      · have Huo := hide huo; clear huo
        go_wp2_with fail
        refine (spanned_any _ _ _ _ _).mono ?_
        rintro e w4 ⟨rfl, h4⟩
        obtain ⟨sp, hsp⟩ : ∃ sp, sp = Sp.ok 0 13000000 ⟨a, b⟩ := ⟨_, rfl⟩
        rw [← hsp]
        have Hsp := hide hsp; clear hsp
        go_wp2_with fail
        go_ret
        refine ⟨ret_bool ?_, hb3.trans (h4.mono hb3.size)⟩
        rw [Hr.out]; simp [readyB, ← Hf.out, ← Hu.out, Huo.out, Hok.out, Hg.out, Hsp.out]
  · have Hg := hide hg; clear hg
    go_wp2_with fail
    go_ret
    refine ⟨ret_bool ?_, HB.out.trans (h1.mono HB.out.size)⟩
    rw [Hr.out]; simp [readyB, ← Hu.out, Hg.out]
end Go.Proofs.Ythlnbgjlkliopaa
