/- Salt: the salt after a cycle, by contracts. -/
import Derived.Test.YtmbhnjpaieimbaaS3H
import Derived.Test.YtmbhnjpaieimbaaS3L
import Derived.Test.YtmbhnjpaieimbaaC2
import Derived.Handy
import Derived.Deep.RegionHeld3
set_option linter.unusedVariables false
set_option linter.unusedSimpArgs false
namespace Go.Proofs.Ytmbhnjpaieimbaa
open Go.RowKit Go.Shelf
attribute [local go_sem] ite_min ite_max
def outF (h : Bool) (xs : List Int) : Int := if h then maxF xs else minF xs
theorem foldl_bd {f : Int → Int → Int} {B C : Int} (hf : ∀ a b, a ≤ B → b ≤ B → C ≤ a → C ≤ b → f a b ≤ B ∧ C ≤ f a b) : ∀ (xs : List Int) (a : Int), a ≤ B → C ≤ a → (∀ x ∈ xs, x ≤ B ∧ C ≤ x) → xs.foldl f a ≤ B ∧ C ≤ xs.foldl f a
  | [], a, h, h2, _ => ⟨h, h2⟩
  | x :: xs, a, h, h2, h3 => by
    have hx := h3 x (by simp)
    have := hf a x h hx.1 h2 hx.2
    exact foldl_bd hf xs (f a x) this.1 this.2 (fun y hy => h3 y (by simp [hy]))
theorem outF_bd {h : Bool} {B C : Int} {xs : List Int} (h0 : 0 < xs.length) (hx : ∀ x ∈ xs, x ≤ B ∧ C ≤ x) : outF h xs ≤ B ∧ C ≤ outF h xs := by
  rcases xs with _ | ⟨x, xs⟩
  · simp at h0
  · have hx0 := hx x (by simp)
    cases h
    · exact foldl_bd (f := min) (fun a b _ _ _ _ => by omega) xs x hx0.1 hx0.2 (fun y hy => hx y (by simp [hy]))
    · exact foldl_bd (f := max) (fun a b _ _ _ _ => by omega) xs x hx0.1 hx0.2 (fun y hy => hx y (by simp [hy]))


theorem keepRs {wr W W' : World} {p : Nat} {u v : Value} (hp : p < wr.heap.size) (hb : Below W.heap.size W W') (h : W.cell? ⟨p, 1, none⟩ = some u ∧ W.cell? ⟨p, 2, none⟩ = some v ∧ Below wr.heap.size wr W) : W'.cell? ⟨p, 1, none⟩ = some u ∧ W'.cell? ⟨p, 2, none⟩ = some v ∧ Below wr.heap.size wr W' :=
  ⟨(hb.cell (Nat.lt_of_lt_of_le hp h.2.2.size)).trans h.1, (hb.cell (Nat.lt_of_lt_of_le hp h.2.2.size)).trans h.2.1, h.2.2.trans (hb.mono h.2.2.size)⟩
theorem keepR_last {wr W : World} {p : Nat} {u v : Value} (h : W.cell? ⟨p, 1, none⟩ = some u ∧ W.cell? ⟨p, 2, none⟩ = some v ∧ Below wr.heap.size wr W) : Below wr.heap.size wr W := h.2.2

set_option maxHeartbeats 8000000 in
set_option maxRecDepth 100000 in
theorem after1_high (a0 a1 li cr m0 m1 w0 w1 r0 r1 : Int) (p q : Nat) (A : Option Addr) (c n : Nat) (xs : List Int) (w : World) (hp : w.cell? ⟨p, 0, none⟩ = some (.slice A n c)) (hpl : p < w.heap.size) (hq : At w q [.int .i64 a0, .int .i64 a1, .int .i64 li, .int .i64 cr, .int .i64 m0, .int .i64 m1, .int .i64 w0, .int .i64 w1, .int .i64 r0, .int .i64 r1])
    (hn : n = xs.length) (h0 : 0 < n) (hm : n ≤ 100) (hx : Rd w w.heap.size icell A xs) (hf : So.fit 100000000000000 ⟨⟨a0, a1⟩, li, cr, ⟨m0, m1⟩, ⟨w0, w1⟩, ⟨r0, r1⟩⟩) (hxs : ∀ x ∈ xs, 0 ≤ x ∧ x ≤ 1000000000) :
    Calls Try.prog 126 #[highV, lowV, .pointer (some ⟨p, 0, none⟩), .pointer (some ⟨q, 0, none⟩)] w fun e w' => e = .returned (.int .i64 (roundF true (max 0 (outF true (xs.map (saltedF true ⟨⟨a0, a1⟩, li, cr, ⟨m0, m1⟩, ⟨w0, w1⟩, ⟨r0, r1⟩⟩)))))) ∧ Below w.heap.size w w' := by
  have Hf := hide hf; have Hxs := hide hxs; have Hx := hide hx; have Hn := hide hn; have Hq := hide hq; have Hp := hide hp
  clear hf hxs hx hn hq hp
  obtain ⟨w2, Hw2⟩ : ∃ w2, Hid ((w.alloc (.cells #[.func (.func 93) #[] #[], .func (.func 94) #[] #[], .func (.func 95) #[] #[]] 116)).alloc (.cells #[.func (.func 96) #[] #[], .func (.func 97) #[] #[], .func (.func 98) #[] #[]] 116) = w2) := ⟨_, hide rfl⟩
  have hb2 : Below w.heap.size w w2 := by rw [← Hw2.out]; exact (below_new _ _).alloc (by simp) _
  have hs2 : w2.heap.size = w.heap.size + 2 := by rw [← Hw2.out]; simp
  have Ha : Hid (At w2 w.heap.size [.func (.func 93) #[] #[], .func (.func 94) #[] #[], .func (.func 95) #[] #[]]) := by rw [← Hw2.out]; exact (At.new w #[.func (.func 93) #[] #[], .func (.func 94) #[] #[], .func (.func 95) #[] #[]] _ w.heap.size rfl _ rfl).alloc _
  have Ho : Hid (At w2 (w.heap.size + 1) [.func (.func 96) #[] #[], .func (.func 97) #[] #[], .func (.func 98) #[] #[]]) := by rw [← Hw2.out]; exact At.new (w.alloc (.cells #[.func (.func 93) #[] #[], .func (.func 94) #[] #[], .func (.func 95) #[] #[]] _)) #[.func (.func 96) #[] #[], .func (.func 97) #[] #[], .func (.func 98) #[] #[]] _ (w.heap.size + 1) (by simp) _ rfl
  unfold lowV highV
  go_enter Try.func126, Try.ntmps126
  have hp2 : ((w.alloc (.cells #[.func (.func 93) #[] #[], .func (.func 94) #[] #[], .func (.func 95) #[] #[]] 116)).alloc (.cells #[.func (.func 96) #[] #[], .func (.func 97) #[] #[], .func (.func 98) #[] #[]] 116)).cell? ⟨p, 0, none⟩ = some (.slice A n c) := by rw [Hw2.out]; exact (hb2.cell (p := ⟨p, 0, none⟩) hpl).trans Hp.out
  go_wp2_with fail
  rw [Hw2.out]
  clear hp2
  go_loopw [7, 12] (fun all i wr => ∃ (k : Nat), k ≤ n ∧ i = .int .i64 k ∧ Below w2.heap.size w2 wr ∧ Own wr w2.heap.size 3 1 icell all ((xs.take k).map (saltedF true ⟨⟨a0, a1⟩, li, cr, ⟨m0, m1⟩, ⟨w0, w1⟩, ⟨r0, r1⟩⟩))) (fun _ i _ => n - (intOf i).toNat)
  case atStart => exact ⟨0, by omega, rfl, Below.refl _ _, Own.nil _ _ _ _ _⟩
  case round =>
    obtain ⟨k, hk, rfl, hb, hown⟩ := hrel
    have Hown := hide hown; clear hown
    have hat := (Hq.out.below hb2).below hb
    have haa := Ha.out.below hb
    have hoo := Ho.out.below hb
    by_cases hlt : k < n
    · obtain ⟨bb, off, x, rfl, hB, hxk, hck⟩ := ((Hx.out.below hb2).below (hb.mono hb2.size)).int (i := k) (by have := Hn.out; omega)
      have hx01 := Hxs.out x (List.mem_of_getElem? hxk)
      have Hxk := hide hxk; clear hxk
      obtain ⟨q0, q1, q2, q3, q4, q5, q6, q7, q8, q9⟩ := hat.c10
      obtain ⟨f0, f1, f2⟩ := haa.c3
      obtain ⟨g0, g1, g2⟩ := hoo.c3
      have hsal := hide (salted_high a0 a1 li cr m0 m1 w0 w1 r0 r1 x wr Hf.out hx01.1 hx01.2)
      unfold lowV highV at hsal
      have hlen : ((xs.take k).map (saltedF true ⟨⟨a0, a1⟩, li, cr, ⟨m0, m1⟩, ⟨w0, w1⟩, ⟨r0, r1⟩⟩)).length = k := by rw [List.length_map, List.length_take]; have := Hn.out; omega
      have Hlen := hide hlen; clear hlen
      go_wp2_with (first | (go_at_call 55; refine hsal.out.mono ?_; rintro e w' ⟨rfl, hb'⟩; have Hr := hide (Rd.new (cells := icell) w' #[.int .i64 (saltedF true ⟨⟨a0, a1⟩, li, cr, ⟨m0, m1⟩, ⟨w0, w1⟩, ⟨r0, r1⟩⟩ x)] 3 [saltedF true ⟨⟨a0, a1⟩, li, cr, ⟨m0, m1⟩, ⟨w0, w1⟩, ⟨r0, r1⟩⟩ x] rfl)) | (at_builtin; refine appl_int rfl _ (.tmp 16) (.tmp 22) rfl w2.heap.size u7 ((xs.take k).map (saltedF true ⟨⟨a0, a1⟩, li, cr, ⟨m0, m1⟩, ⟨w0, w1⟩, ⟨r0, r1⟩⟩)) rfl ((Hown.out.below hb').alloc _) _ _ 1 1 [saltedF true ⟨⟨a0, a1⟩, li, cr, ⟨m0, m1⟩, ⟨w0, w1⟩, ⟨r0, r1⟩⟩ x] rfl rfl Hr.out (by rw [Hlen.out]; simp; omega) (by have := hb.size; have := hb'.size; simp; omega) ?_; intro vv wv hown1 hg1))
      have hb1 := below_own ((Hown.out.below hb').alloc _) ((hb.trans (hb'.mono hb.size)).alloc (by have := hb.size; have := hb'.size; omega) (.cells #[.int .i64 (saltedF true ⟨⟨a0, a1⟩, li, cr, ⟨m0, m1⟩, ⟨w0, w1⟩, ⟨r0, r1⟩⟩ x)] 3)) hg1 (by have := hb.size; have := hb'.size; simp; omega)
      exact ⟨⟨k + 1, by omega, by go_num, hb1, by rw [take_snoc Hxk.out, List.map_append]; exact hown1⟩, by simp [intOf]; omega⟩
    · obtain rfl : k = n := by omega
      have hall : xs.take k = xs := List.take_of_length_le (by have := Hn.out; omega)
      rw [hall] at Hown
      clear hall
      obtain ⟨f0, f1, f2⟩ := haa.c3
      obtain ⟨A1, c1, rfl, hrd1⟩ := Hown.out.rd
      have Hrd1 := hide hrd1; clear hrd1
      have hbd : outF true (xs.map (saltedF true ⟨⟨a0, a1⟩, li, cr, ⟨m0, m1⟩, ⟨w0, w1⟩, ⟨r0, r1⟩⟩)) ≤ 1000000000000000000 := (outF_bd (C := -1000000000000000000) (by simp; have := Hn.out; omega) (fun y hy => by
        obtain ⟨x, hx, rfl⟩ := List.mem_map.1 hy
        have := saltedF_bds (h := true) Hf.out (Hxs.out x hx).1 (Hxs.out x hx).2
        omega)).1
      obtain ⟨o, ho⟩ : ∃ o, o = outF true (xs.map (saltedF true ⟨⟨a0, a1⟩, li, cr, ⟨m0, m1⟩, ⟨w0, w1⟩, ⟨r0, r1⟩⟩)) := ⟨_, rfl⟩
      rw [← ho] at hbd
      have Hoe := hide ho; clear ho
      have hln : (xs.map (saltedF true ⟨⟨a0, a1⟩, li, cr, ⟨m0, m1⟩, ⟨w0, w1⟩, ⟨r0, r1⟩⟩)).length = k := by have := Hn.out; simp; omega
      have hout := hide (out_high A1 (xs.map (saltedF true ⟨⟨a0, a1⟩, li, cr, ⟨m0, m1⟩, ⟨w0, w1⟩, ⟨r0, r1⟩⟩)) k c1 wr.drew hln.symm h0 (by omega) Hrd1.out)
      rw [hln]
      clear hln
      have hlow : o = maxF (xs.map (saltedF true ⟨⟨a0, a1⟩, li, cr, ⟨m0, m1⟩, ⟨w0, w1⟩, ⟨r0, r1⟩⟩)) := Hoe.out
      have Hlow := hide hlow; clear hlow
      go_wp2_with fail
      have HcB := hide (show wr.drew.cell? ⟨w.heap.size, 1, none⟩ = some (.func (.func 94) #[] #[]) ∧ wr.drew.cell? ⟨w.heap.size, 2, none⟩ = some (.func (.func 95) #[] #[]) ∧ Below wr.heap.size wr wr.drew from ⟨f1, f2, (Below.refl _ _).drew⟩)
      have hwl : w.heap.size < wr.heap.size := by have := hb.size; omega
      go_region_held3 (fun W => W.cell? ⟨w.heap.size, 1, none⟩ = some (.func (.func 94) #[] #[]) ∧ W.cell? ⟨w.heap.size, 2, none⟩ = some (.func (.func 95) #[] #[]) ∧ Below wr.heap.size wr W) (first | assumption | exact HcB.out | exact keepRs hwl hb' (by assumption)) (first | (go_at_call 95; refine hout.out.mono ?_; rintro e w' ⟨rfl, rfl⟩; rw [← Hlow.out]) | (go_at_call 94; refine (round_high (max 0 o) _ (by omega) (by omega)).mono ?_; rintro e w' ⟨rfl, hb'⟩))
      all_goals
        go_wp2_with fail
        go_ret
        exact ⟨ret_int (by rw [← Hoe.out]), hb2.trans ((hb.mono (by omega)).trans ((keepR_last (by assumption)).mono (by omega)))⟩
theorem enters_after1_high : ∀ args w, (callFunc 126 args).run Try.prog w = .ok (.enter 126 args) w := enters_of Try.func126 (by kernel_rfl) rfl

set_option maxHeartbeats 8000000 in
set_option maxRecDepth 100000 in
theorem after1_low (a0 a1 li cr m0 m1 w0 w1 r0 r1 : Int) (p q : Nat) (A : Option Addr) (c n : Nat) (xs : List Int) (w : World) (hp : w.cell? ⟨p, 0, none⟩ = some (.slice A n c)) (hpl : p < w.heap.size) (hq : At w q [.int .i64 a0, .int .i64 a1, .int .i64 li, .int .i64 cr, .int .i64 m0, .int .i64 m1, .int .i64 w0, .int .i64 w1, .int .i64 r0, .int .i64 r1])
    (hn : n = xs.length) (h0 : 0 < n) (hm : n ≤ 100) (hx : Rd w w.heap.size icell A xs) (hf : So.fit 100000000000000 ⟨⟨a0, a1⟩, li, cr, ⟨m0, m1⟩, ⟨w0, w1⟩, ⟨r0, r1⟩⟩) (hxs : ∀ x ∈ xs, 0 ≤ x ∧ x ≤ 1000000000) :
    Calls Try.prog 126 #[lowV, highV, .pointer (some ⟨p, 0, none⟩), .pointer (some ⟨q, 0, none⟩)] w fun e w' => e = .returned (.int .i64 (roundF false (max 0 (outF false (xs.map (saltedF false ⟨⟨a0, a1⟩, li, cr, ⟨m0, m1⟩, ⟨w0, w1⟩, ⟨r0, r1⟩⟩)))))) ∧ Below w.heap.size w w' := by
  have Hf := hide hf; have Hxs := hide hxs; have Hx := hide hx; have Hn := hide hn; have Hq := hide hq; have Hp := hide hp
  clear hf hxs hx hn hq hp
  obtain ⟨w2, Hw2⟩ : ∃ w2, Hid ((w.alloc (.cells #[.func (.func 96) #[] #[], .func (.func 97) #[] #[], .func (.func 98) #[] #[]] 116)).alloc (.cells #[.func (.func 93) #[] #[], .func (.func 94) #[] #[], .func (.func 95) #[] #[]] 116) = w2) := ⟨_, hide rfl⟩
  have hb2 : Below w.heap.size w w2 := by rw [← Hw2.out]; exact (below_new _ _).alloc (by simp) _
  have hs2 : w2.heap.size = w.heap.size + 2 := by rw [← Hw2.out]; simp
  have Ha : Hid (At w2 w.heap.size [.func (.func 96) #[] #[], .func (.func 97) #[] #[], .func (.func 98) #[] #[]]) := by rw [← Hw2.out]; exact (At.new w #[.func (.func 96) #[] #[], .func (.func 97) #[] #[], .func (.func 98) #[] #[]] _ w.heap.size rfl _ rfl).alloc _
  have Ho : Hid (At w2 (w.heap.size + 1) [.func (.func 93) #[] #[], .func (.func 94) #[] #[], .func (.func 95) #[] #[]]) := by rw [← Hw2.out]; exact At.new (w.alloc (.cells #[.func (.func 96) #[] #[], .func (.func 97) #[] #[], .func (.func 98) #[] #[]] _)) #[.func (.func 93) #[] #[], .func (.func 94) #[] #[], .func (.func 95) #[] #[]] _ (w.heap.size + 1) (by simp) _ rfl
  unfold lowV highV
  go_enter Try.func126, Try.ntmps126
  have hp2 : ((w.alloc (.cells #[.func (.func 96) #[] #[], .func (.func 97) #[] #[], .func (.func 98) #[] #[]] 116)).alloc (.cells #[.func (.func 93) #[] #[], .func (.func 94) #[] #[], .func (.func 95) #[] #[]] 116)).cell? ⟨p, 0, none⟩ = some (.slice A n c) := by rw [Hw2.out]; exact (hb2.cell (p := ⟨p, 0, none⟩) hpl).trans Hp.out
  go_wp2_with fail
  rw [Hw2.out]
  clear hp2
  go_loopw [7, 12] (fun all i wr => ∃ (k : Nat), k ≤ n ∧ i = .int .i64 k ∧ Below w2.heap.size w2 wr ∧ Own wr w2.heap.size 3 1 icell all ((xs.take k).map (saltedF false ⟨⟨a0, a1⟩, li, cr, ⟨m0, m1⟩, ⟨w0, w1⟩, ⟨r0, r1⟩⟩))) (fun _ i _ => n - (intOf i).toNat)
  case atStart => exact ⟨0, by omega, rfl, Below.refl _ _, Own.nil _ _ _ _ _⟩
  case round =>
    obtain ⟨k, hk, rfl, hb, hown⟩ := hrel
    have Hown := hide hown; clear hown
    have hat := (Hq.out.below hb2).below hb
    have haa := Ha.out.below hb
    have hoo := Ho.out.below hb
    by_cases hlt : k < n
    · obtain ⟨bb, off, x, rfl, hB, hxk, hck⟩ := ((Hx.out.below hb2).below (hb.mono hb2.size)).int (i := k) (by have := Hn.out; omega)
      have hx01 := Hxs.out x (List.mem_of_getElem? hxk)
      have Hxk := hide hxk; clear hxk
      obtain ⟨q0, q1, q2, q3, q4, q5, q6, q7, q8, q9⟩ := hat.c10
      obtain ⟨f0, f1, f2⟩ := haa.c3
      obtain ⟨g0, g1, g2⟩ := hoo.c3
      have hsal := hide (salted_low a0 a1 li cr m0 m1 w0 w1 r0 r1 x wr Hf.out hx01.1 hx01.2)
      unfold lowV highV at hsal
      have hlen : ((xs.take k).map (saltedF false ⟨⟨a0, a1⟩, li, cr, ⟨m0, m1⟩, ⟨w0, w1⟩, ⟨r0, r1⟩⟩)).length = k := by rw [List.length_map, List.length_take]; have := Hn.out; omega
      have Hlen := hide hlen; clear hlen
      go_wp2_with (first | (go_at_call 55; refine hsal.out.mono ?_; rintro e w' ⟨rfl, hb'⟩; have Hr := hide (Rd.new (cells := icell) w' #[.int .i64 (saltedF false ⟨⟨a0, a1⟩, li, cr, ⟨m0, m1⟩, ⟨w0, w1⟩, ⟨r0, r1⟩⟩ x)] 3 [saltedF false ⟨⟨a0, a1⟩, li, cr, ⟨m0, m1⟩, ⟨w0, w1⟩, ⟨r0, r1⟩⟩ x] rfl)) | (at_builtin; refine appl_int rfl _ (.tmp 16) (.tmp 22) rfl w2.heap.size u7 ((xs.take k).map (saltedF false ⟨⟨a0, a1⟩, li, cr, ⟨m0, m1⟩, ⟨w0, w1⟩, ⟨r0, r1⟩⟩)) rfl ((Hown.out.below hb').alloc _) _ _ 1 1 [saltedF false ⟨⟨a0, a1⟩, li, cr, ⟨m0, m1⟩, ⟨w0, w1⟩, ⟨r0, r1⟩⟩ x] rfl rfl Hr.out (by rw [Hlen.out]; simp; omega) (by have := hb.size; have := hb'.size; simp; omega) ?_; intro vv wv hown1 hg1))
      have hb1 := below_own ((Hown.out.below hb').alloc _) ((hb.trans (hb'.mono hb.size)).alloc (by have := hb.size; have := hb'.size; omega) (.cells #[.int .i64 (saltedF false ⟨⟨a0, a1⟩, li, cr, ⟨m0, m1⟩, ⟨w0, w1⟩, ⟨r0, r1⟩⟩ x)] 3)) hg1 (by have := hb.size; have := hb'.size; simp; omega)
      exact ⟨⟨k + 1, by omega, by go_num, hb1, by rw [take_snoc Hxk.out, List.map_append]; exact hown1⟩, by simp [intOf]; omega⟩
    · obtain rfl : k = n := by omega
      have hall : xs.take k = xs := List.take_of_length_le (by have := Hn.out; omega)
      rw [hall] at Hown
      clear hall
      obtain ⟨f0, f1, f2⟩ := haa.c3
      obtain ⟨A1, c1, rfl, hrd1⟩ := Hown.out.rd
      have Hrd1 := hide hrd1; clear hrd1
      have hbd : outF false (xs.map (saltedF false ⟨⟨a0, a1⟩, li, cr, ⟨m0, m1⟩, ⟨w0, w1⟩, ⟨r0, r1⟩⟩)) ≤ 1000000000000000000 := (outF_bd (C := -1000000000000000000) (by simp; have := Hn.out; omega) (fun y hy => by
        obtain ⟨x, hx, rfl⟩ := List.mem_map.1 hy
        have := saltedF_bds (h := false) Hf.out (Hxs.out x hx).1 (Hxs.out x hx).2
        omega)).1
      obtain ⟨o, ho⟩ : ∃ o, o = outF false (xs.map (saltedF false ⟨⟨a0, a1⟩, li, cr, ⟨m0, m1⟩, ⟨w0, w1⟩, ⟨r0, r1⟩⟩)) := ⟨_, rfl⟩
      rw [← ho] at hbd
      have Hoe := hide ho; clear ho
      have hln : (xs.map (saltedF false ⟨⟨a0, a1⟩, li, cr, ⟨m0, m1⟩, ⟨w0, w1⟩, ⟨r0, r1⟩⟩)).length = k := by have := Hn.out; simp; omega
      have hout := hide (out_low A1 (xs.map (saltedF false ⟨⟨a0, a1⟩, li, cr, ⟨m0, m1⟩, ⟨w0, w1⟩, ⟨r0, r1⟩⟩)) k c1 wr.drew hln.symm h0 (by omega) Hrd1.out)
      rw [hln]
      clear hln
      have hlow : o = minF (xs.map (saltedF false ⟨⟨a0, a1⟩, li, cr, ⟨m0, m1⟩, ⟨w0, w1⟩, ⟨r0, r1⟩⟩)) := Hoe.out
      have Hlow := hide hlow; clear hlow
      go_wp2_with fail
      have HcB := hide (show wr.drew.cell? ⟨w.heap.size, 1, none⟩ = some (.func (.func 97) #[] #[]) ∧ wr.drew.cell? ⟨w.heap.size, 2, none⟩ = some (.func (.func 98) #[] #[]) ∧ Below wr.heap.size wr wr.drew from ⟨f1, f2, (Below.refl _ _).drew⟩)
      have hwl : w.heap.size < wr.heap.size := by have := hb.size; omega
      go_region_held3 (fun W => W.cell? ⟨w.heap.size, 1, none⟩ = some (.func (.func 97) #[] #[]) ∧ W.cell? ⟨w.heap.size, 2, none⟩ = some (.func (.func 98) #[] #[]) ∧ Below wr.heap.size wr W) (first | assumption | exact HcB.out | exact keepRs hwl hb' (by assumption)) (first | (go_at_call 98; refine hout.out.mono ?_; rintro e w' ⟨rfl, rfl⟩; rw [← Hlow.out]) | (go_at_call 97; refine (round_low (max 0 o) _ (by omega) (by omega)).mono ?_; rintro e w' ⟨rfl, hb'⟩))
      all_goals
        go_wp2_with fail
        go_ret
        exact ⟨ret_int (by rw [← Hoe.out]), hb2.trans ((hb.mono (by omega)).trans ((keepR_last (by assumption)).mono (by omega)))⟩
theorem enters_after1_low : ∀ args w, (callFunc 126 args).run Try.prog w = .ok (.enter 126 args) w := enters_of Try.func126 (by kernel_rfl) rfl
end Go.Proofs.Ytmbhnjpaieimbaa
