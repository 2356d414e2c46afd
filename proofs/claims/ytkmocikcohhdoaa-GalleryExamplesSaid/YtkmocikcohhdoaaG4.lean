/- Gallery: enter, least, most, by contracts. -/
import Derived.Test.YtkmocikcohhdoaaG3
set_option linter.unusedVariables false
set_option linter.unusedSimpArgs false
namespace Go.Proofs.Ytkmocikcohhdoaa
open Go.RowKit Go.Shelf
attribute [local go_sem] ite_min ite_max

/-- A gauge that is not valid for a gallery of so many reaches. -/
def Ga.bad (n : Int) (x : Ga) : Bool := !(inB 0 n x.shaft) || anyBad 13000000 [x.flow]

set_option maxHeartbeats 400000 in
theorem enter1_any (s lo hi : Int) (p : Nat) (A : Option Addr) (n c : Nat) (w : World) (hm : n ≤ 9223372036854775807) (hp : w.cell? ⟨p, 0, none⟩ = some (.slice A n c)) (hs : p < w.heap.size) :
    Calls Try.prog 80 #[.agg #[.int .i64 s, .int .i64 lo, .int .i64 hi], .pointer (some ⟨p, 0, none⟩)] w fun e w' => e = .returned (.bool (Ga.bad n ⟨s, ⟨lo, hi⟩⟩)) ∧ Below w.heap.size w w' := by
  cases h : inB 0 n s
  · have Hi := hide h; clear h
    go_enter Try.func80, Try.ntmps80
    go_wp2_with (go_at_call 52; refine (from_any _ _ _ _).mono ?_; rintro e w' ⟨rfl, rfl⟩; rw [Hi.out])
    go_ret
    exact ⟨by simp [Ga.bad, Hi.out], below_new _ _⟩
  · have Hi := hide h; clear h
    go_enter Try.func80, Try.ntmps80
    go_wp2_with (first | (go_at_call 52; refine (from_any _ _ _ _).mono ?_; rintro e w' ⟨rfl, rfl⟩; rw [Hi.out]) | fail)
    have hr := Rd.new (cells := Sp.cells) (w.alloc (.cells #[.int .i64 s, .int .i64 lo, .int .i64 hi] 64)) #[.int .i64 lo, .int .i64 hi] 24 [⟨lo, hi⟩] rfl
    refine (proper_any 13000000 _ [⟨lo, hi⟩] 1 1 _ rfl (by omega) (by simpa using hr)).mono ?_
    rintro e w' ⟨rfl, hb⟩
    clear hr
    go_wp2
    go_ret
    exact ⟨by simp [Ga.bad, Hi.out], ((below_new w _).alloc (by simp) _).trans (hb.mono (by simp; omega))⟩

theorem enters_enter1 : ∀ args w, (callFunc 80 args).run Try.prog w = .ok (.enter 80 args) w := enters_of Try.func80 (by kernel_rfl) rfl

def gasBad (g : List Rc) (l : List Ga) : Bool := decide (30 < l.length) || l.any (Ga.bad g.length)
def gEnter (g : List Rc) (s : Sp) (l : List Ga) : Int := if gOk g then (if anyBad 1000000 [s] then 21 else if gasBad g l then 23 else 0) else 20

set_option maxHeartbeats 1000000 in
theorem enter_any (A A' : Option Addr) (g : List Rc) (lo hi : Int) (l : List Ga) (n c n' c' : Nat) (w : World) (hn : n = g.length) (hm : n ≤ 9223372036854775807) (hx : Rd w w.heap.size Rc.cells A g)
    (hn' : n' = l.length) (hm' : n' ≤ 9223372036854775807) (hx' : Rd w w.heap.size Ga.cells A' l) :
    Calls Try.prog 51 #[.slice A n c, .agg #[.int .i64 lo, .int .i64 hi], .slice A' n' c'] w fun e w' => e = .returned (.int .i64 (gEnter g ⟨lo, hi⟩ l)) ∧ Below w.heap.size w w' := by
  obtain ⟨w1, hw1⟩ : ∃ w1, w1 = (w.alloc (.cells #[.slice A n c] 22)).alloc (.cells #[.int .i64 lo, .int .i64 hi] 24) := ⟨_, rfl⟩
  have b1 : Below w.heap.size w w1 := by rw [hw1]; exact (below_new w _).alloc (by simp) _
  have s1 : w1.heap.size = w.heap.size + 2 := by rw [hw1]; simp
  have p1 : w1.cell? ⟨w.heap.size, 0, none⟩ = some (.slice A n c) := by rw [hw1]; exact (World.cell?_alloc_lt _ _ _ (by simp)).trans (cell_new _ _ _ _ _ rfl)
  have q0 : w1.cell? ⟨w.heap.size + 1, 0, none⟩ = some (.int .i64 lo) := by rw [hw1]; have := cell_new (w.alloc (.cells #[.slice A n c] 22)) #[.int .i64 lo, .int .i64 hi] 24 0 _ rfl; rwa [World.size_alloc] at this
  have q1 : w1.cell? ⟨w.heap.size + 1, 1, none⟩ = some (.int .i64 hi) := by rw [hw1]; have := cell_new (w.alloc (.cells #[.slice A n c] 22)) #[.int .i64 lo, .int .i64 hi] 24 1 _ rfl; rwa [World.size_alloc] at this
  have HC := hide (check_any A g n c w1 hn hm ((hx.below b1).more b1.size))
  have Hx' := hide (fun W (hb : Below w.heap.size w W) => (hx'.below hb).more hb.size)
  have Hn := hide hn; have Hn' := hide hn'
  clear hx hx' hn hn'
  have Hw1 := hide hw1.symm; clear hw1
  have hN : gEnter g ⟨lo, hi⟩ l = if gOk g then (if anyBad 1000000 [⟨lo, hi⟩] then 21 else if gasBad g l then 23 else 0) else 20 := rfl
  cases hg : gOk g
  · have HC' := hide (show Calls Try.prog 23 #[.slice A n c] w1 fun e w' => e = .returned (.int .i64 20) ∧ Below w1.heap.size w1 w' from by have := HC.out; simpa [gCheck, hg] using this)
    have HN := hide hN; have Hg := hide hg; clear hN hg HC p1 q0 q1
    go_enter Try.func51, Try.ntmps51
    go_wp2_with fail
    rw [Hw1.out]
    go_wp2_with (go_at_call 23; refine HC'.out.mono ?_; rintro e w2 ⟨rfl, b2⟩)
    go_ret
    exact ⟨by rw [HN.out, Hg.out]; rfl, b1.trans (b2.mono b1.size)⟩
  · have HC' := hide (show Calls Try.prog 23 #[.slice A n c] w1 fun e w' => e = .returned (.int .i64 0) ∧ Below w1.heap.size w1 w' from by have := HC.out; simpa [gCheck, hg] using this)
    have HN := hide hN; have Hg := hide hg; clear hN hg HC
    have Hp := hide p1; have Hq0 := hide q0; have Hq1 := hide q1; clear p1 q0 q1
    go_enter Try.func51, Try.ntmps51
    go_wp2_with fail
    rw [Hw1.out]
    go_wp2_with fail
    refine HC'.out.mono ?_; rintro e w2 ⟨rfl, b2⟩
    have p2 : w2.cell? ⟨w.heap.size, 0, none⟩ = some (.slice A n c) := (b2.cell (p := ⟨w.heap.size, 0, none⟩) (by simp; omega)).trans Hp.out
    have q2 : w2.cell? ⟨w.heap.size + 1, 0, none⟩ = some (.int .i64 lo) := (b2.cell (p := ⟨w.heap.size + 1, 0, none⟩) (by simp; omega)).trans Hq0.out
    have q3 : w2.cell? ⟨w.heap.size + 1, 1, none⟩ = some (.int .i64 hi) := (b2.cell (p := ⟨w.heap.size + 1, 1, none⟩) (by simp; omega)).trans Hq1.out
    have Hr := hide (Rd.new (cells := Sp.cells) w2 #[.int .i64 lo, .int .i64 hi] 24 [⟨lo, hi⟩] rfl)
    have hPr := fun h1 h2 h3 => proper_any 1000000 (some ⟨w2.heap.size, 0, none⟩) [⟨lo, hi⟩] 1 1 (w2.alloc (.cells #[.int .i64 lo, .int .i64 hi] 24)) h1 h2 h3
    have bw2 : Below w.heap.size w w2 := b1.trans (b2.mono b1.size)
    cases hs : anyBad 1000000 [⟨lo, hi⟩]
    · rw [hs] at hPr
      have HPr := hide hPr; have Hs := hide hs; clear hPr hs
      go_wp2_with fail
      refine (HPr.out rfl (by omega) (by simpa using Hr.out)).mono ?_
      rintro e w3 ⟨rfl, b3⟩
      have b23 : Below w2.heap.size w2 w3 := (below_new w2 _).trans (b3.mono (by simp))
      have bw3 : Below w.heap.size w w3 := bw2.trans (b23.mono bw2.size)
      have p3 : w3.cell? ⟨w.heap.size, 0, none⟩ = some (.slice A n c) := (b23.cell (p := ⟨w.heap.size, 0, none⟩) (by have := b2.size; simp; omega)).trans p2
      have s3 : w.heap.size < w3.heap.size := by have := b2.size; have := b23.size; omega
      have HF := hide (containsfunc_Ga 80 #[.pointer (some ⟨w.heap.size, 0, none⟩)] (Ga.bad n) A' l n' c' w3 Hn'.out hm' enters_enter1 (Hx'.out w3 bw3)
        (fun s lo hi W _ hb => enter1_any s lo hi w.heap.size A n c W hm ((hb.cell (p := ⟨w.heap.size, 0, none⟩) s3).trans p3) (by have := hb.size; omega)))
      clear p2 q2 q3 p3 Hr b2 b3 HC' Hp Hq0 Hq1
      by_cases h30 : n' ≤ 30
      · go_wp2_with (go_at_call 81; refine HF.out.mono ?_; rintro e w4 ⟨rfl, b4⟩)
        all_goals
          go_ret
          have h1 := HN.out
          rw [Hg.out, Hs.out] at h1
          have e1 := Hn.out
          have e2 := Hn'.out
          subst e1 e2
          clear HN Hg Hs HF Hx' Hn Hn' Hw1 HPr
          refine ⟨?_, bw3.trans (b4.mono bw3.size)⟩
          have h2 : gasBad g l = l.any (Ga.bad g.length) := by simp [gasBad]; omega
          rw [h1, h2]
          clear h1 h2
          cases hq : l.any (Ga.bad g.length) <;> simp_all <;> omega
      · go_wp2
        all_goals
          go_ret
          have h1 := HN.out
          rw [Hg.out, Hs.out] at h1
          have e2 := Hn'.out
          subst e2
          refine ⟨?_, bw3⟩
          rw [h1]
          have : 30 < l.length := by omega
          simp [gasBad, this]
    · rw [hs] at hPr
      have HPr := hide hPr; have Hs := hide hs; clear hPr hs
      go_wp2_with fail
      refine (HPr.out rfl (by omega) (by simpa using Hr.out)).mono ?_
      rintro e w3 ⟨rfl, b3⟩
      have bw3 : Below w.heap.size w w3 := bw2.trans (((below_new w2 _).trans (b3.mono (by simp))).mono bw2.size)
      clear p2 q2 q3 Hr b2 b3 HC' Hp Hq0 Hq1
      go_wp2
      go_ret
      exact ⟨by rw [HN.out, Hg.out, Hs.out]; rfl, bw3⟩
end Go.Proofs.Ytkmocikcohhdoaa
