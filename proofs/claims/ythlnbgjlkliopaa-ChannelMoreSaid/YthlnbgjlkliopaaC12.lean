/- Channel: Dries, by contract. -/
import Derived.Test.YthlnbgjlkliopaaC11
import Derived.Test.YthlnbgjlkliopaaApp
set_option linter.unusedVariables false
set_option linter.unusedSimpArgs false
namespace Go.Proofs.Ythlnbgjlkliopaa
open Go.RowKit Go.Shelf
attribute [local go_sem] Oper.semAt_some
def driesS (cs : List Ca) (fs : List Int) (dry days : Int) (us : List Us) : List (List Int) × Int :=
  if netOk cs fs dry days then (if usesOk fs.length days us then ((List.range us.length).map (dryL cs fs dry (days * 1440) us), 0) else ([], 51)) else ([], 50)
/-- What Dries has collected: in the box L a row of slices, the rows of the call's own. -/
structure DL (w : World) (L Z B0 : Nat) (cells : Nat → List Int) (k : Nat) (X : Nat → Prop) (W : World) : Prop where
  own : ∃ v ss, W.cell? ⟨L, 0, none⟩ = some v ∧ W.frozen? ⟨L, 0, none⟩ = false ∧ Own W Z 23 1 Sl.cells v ss ∧ (∀ g, v.ownBlock = some g → ¬ X g) ∧ ss.length = k ∧
    ∀ (i : Nat) (s : Sl), ss[i]? = some s → Own W B0 3 1 icell s.val (cells i) ∧ ∀ g, s.val.ownBlock = some g → ¬ X g ∧ ¬ v.ownBlock = some g
  lt : L < W.heap.size
  bl : Below w.heap.size w W
  xge : ∀ b, X b → Z ≤ b
  zle : Z ≤ W.heap.size
/-- What the frame of a round holds. -/
structure AxD (L D : Nat) (cells : Nat → List Int) (k : Nat) (X G : Nat → Prop) (a : Act) (W : World) : Prop where
  ex : ∃ s : Sl, a.tmps.size = 32 ∧ a.defers = [] ∧ slot a 8 = .pointer (some ⟨L, 0, none⟩) ∧ slot a 10 = s.val ∧ Own W (D + 2) 3 1 icell s.val (cells k) ∧ ∀ g, s.val.ownBlock = some g → G g ∧ ¬ X g
theorem DL.kept {w : World} {L Z B0 : Nat} {cells : Nat → List Int} {k : Nat} {X X' : Nat → Prop} {W W' : World} {R : Nat → Prop} (h : DL w L Z B0 cells k X W) (hk : Kept R W W') (hL : R L) (hR : ∀ b, (Z ≤ b ∨ B0 ≤ b) → ¬ X b → R b) (hw : ∀ b, b < w.heap.size → R b)
    (hX : ∀ b, X' b → X b ∨ W.heap.size ≤ b) : DL w L Z B0 cells k X' W' := by
  obtain ⟨v, ss, h1, h2, h3, h4, h5, h6⟩ := h.own
  have hlt : ∀ {α : Type} {base : Nat} {e : TypeId} {kk : Nat} {cl : α → List Value} {v : Value} {xs : List α}, Own W base e kk cl v xs → ∀ g, v.ownBlock = some g → base ≤ g ∧ g < W.heap.size := fun ho g hg => by
    rcases ho.block_ with h | ⟨g', h, h1, h2⟩
    · rw [h] at hg; cases hg
    · rw [h] at hg; injection hg with hg; subst hg; exact ⟨h1, h2⟩
  refine ⟨⟨v, ss, (hk.cell (p := ⟨L, 0, none⟩) hL h.lt).trans h1, (hk.frozen (p := ⟨L, 0, none⟩) hL h.lt).trans h2, h3.keptB hk (fun g hg => hR g (.inl (hlt h3 g hg).1) (h4 g hg)), fun g hg hx => ?_, h5, fun i s hs => ?_⟩, Nat.lt_of_lt_of_le h.lt hk.size, h.bl.trans (hk.below hw h.bl.size), fun b hb => by (rcases hX b hb with h' | h'); exact h.xge b h'; have := h.zle; omega, Nat.le_trans h.zle hk.size⟩
  · rcases hX g hx with hx | hx
    · exact h4 g hg hx
    · have := (hlt h3 g hg).2; omega
  · obtain ⟨o1, o2⟩ := h6 i s hs
    refine ⟨o1.keptB hk (fun g hg => hR g (.inr (hlt o1 g hg).1) (o2 g hg).1), fun g hg => ⟨fun hx => ?_, (o2 g hg).2⟩⟩
    rcases hX g hx with hx | hx
    · exact (o2 g hg).1 hx
    · have := (hlt o1 g hg).2; omega
/-- One round: what came is appended. -/
theorem DL.step {w : World} {L Z B0 : Nat} {cells : Nat → List Int} {k : Nat} {X G : Nat → Prop} {W wv : World} {v vv : Value} {ss : List Sl} {s : Sl} {o : Obj} (hw : w.heap.size ≤ L) (hLZ : L < Z) (hLB : L < B0) (hZB : w.heap.size ≤ B0) (lt : L < W.heap.size) (bl : Below w.heap.size w W)
    (h1 : W.cell? ⟨L, 0, none⟩ = some v) (h2 : W.frozen? ⟨L, 0, none⟩ = false) (h3 : Own W Z 23 1 Sl.cells v ss) (h4 : ∀ g, v.ownBlock = some g → ¬ (X g ∨ G g)) (h5 : ss.length = k)
    (h6 : ∀ (i : Nat) (s : Sl), ss[i]? = some s → Own W B0 3 1 icell s.val (cells i) ∧ ∀ g, s.val.ownBlock = some g → ¬ (X g ∨ G g) ∧ ¬ v.ownBlock = some g)
    (hs : Own W B0 3 1 icell s.val (cells k)) (hsX : ∀ g, s.val.ownBlock = some g → G g ∧ ¬ X g) (hX : ∀ b, X b ∨ G b → b < W.heap.size) (hXZ : ∀ b, X b ∨ G b → Z ≤ b) (hZ : Z ≤ W.heap.size)
    (ho : Own wv Z 23 1 Sl.cells vv (ss ++ [s])) (hg : (W.alloc o).grownBy wv v.ownBlock) (hat : vv.ownBlock = v.ownBlock ∨ vv.ownBlock = some (W.heap.size + 1)) :
    DL w L Z B0 cells (k + 1) X (wv.setCell ⟨L, 0, none⟩ vv) ∧ Kept (fun b => ¬ v.ownBlock = some b ∧ ¬ b = L) W (wv.setCell ⟨L, 0, none⟩ vv) := by
  have hk1 : Kept (fun b => ¬ v.ownBlock = some b) W wv := kept_app2 h3 (below_new W o) hg
  have hk2 : Kept (fun b => ¬ v.ownBlock = some b ∧ ¬ b = L) W (wv.setCell ⟨L, 0, none⟩ vv) := (hk1.mono fun b _ hb => hb.1).trans ((Kept.setCell wv ⟨L, 0, none⟩ vv).mono fun b _ hb => hb.2)
  have hLv : ¬ v.ownBlock = some L := fun e => by have := (own_block h3 e).1; omega
  have hc1 : wv.cell? ⟨L, 0, none⟩ = some v := (hk1.cell (p := ⟨L, 0, none⟩) hLv lt).trans h1
  have hf1 : wv.frozen? ⟨L, 0, none⟩ = false := (hk1.frozen (p := ⟨L, 0, none⟩) hLv lt).trans h2
  have hLvv : ¬ vv.ownBlock = some L := fun e => by have := (own_block ho e).1; omega
  have hvv : ∀ g, vv.ownBlock = some g → v.ownBlock = some g ∨ W.heap.size < g := fun g hg => by
    rcases hat with h | h
    · exact .inl (h.symm.trans hg)
    · rw [h] at hg; injection hg with hg; exact .inr (by omega)
  refine ⟨⟨⟨vv, ss ++ [s], World.cell?_setCell_same' _ _ _ (by rw [hc1]; rfl), by rw [World.frozen?_setCell]; exact hf1, ho.setCell hLvv _, fun g hg hx => ?_, by simp [h5], fun i s' hs' => ?_⟩, Nat.lt_of_lt_of_le lt hk2.size, bl.trans (hk2.below (fun b hb => ⟨fun e => by have := (own_block h3 e).1; omega, by omega⟩) bl.size), fun b hb => hXZ b (.inl hb), Nat.le_trans hZ hk2.size⟩, hk2⟩
  · rcases hvv g hg with h | h
    · exact h4 g h (.inl hx)
    · have := hX g (.inl hx); omega
  · have key : Own W B0 3 1 icell s'.val (cells i) ∧ ∀ g, s'.val.ownBlock = some g → ¬ X g ∧ ¬ v.ownBlock = some g := by
      by_cases hi : i < ss.length
      · rw [List.getElem?_append_left hi] at hs'
        exact ⟨(h6 i s' hs').1, fun g hg => ⟨fun h => ((h6 i s' hs').2 g hg).1 (.inl h), ((h6 i s' hs').2 g hg).2⟩⟩
      · rw [List.getElem?_append_right (by omega)] at hs'
        have hi2 : i = k := by
          by_cases e : i - ss.length = 0
          · omega
          · rw [List.getElem?_eq_none (by simp; omega)] at hs'; cases hs'
        subst hi2
        rw [h5, Nat.sub_self] at hs'
        simp at hs'
        subst hs'
        exact ⟨hs, fun g hg => ⟨(hsX g hg).2, fun e => h4 g e (.inr (hsX g hg).1)⟩⟩
    refine ⟨key.1.keptB hk2 (fun g hg => ⟨(key.2 g hg).2, by have := (own_block key.1 hg).1; omega⟩), fun g hg => ⟨(key.2 g hg).1, fun e => ?_⟩⟩
    rcases hvv g e with h | h
    · exact (key.2 g hg).2 h
    · have := (own_block key.1 hg).2; omega
set_option maxHeartbeats 4000000 in
set_option maxRecDepth 100000 in
theorem dries_fn (Ac Af Au : Option Addr) (nc cc nf cf nu cu : Nat) (dry days : Int) (cs : List Ca) (fs : List Int) (us : List Us) (w : World) (hnet : NetAt w Ac Af nc nf cs fs) (hus : Rd w w.heap.size Us.cells Au us) (hnu : nu = us.length) (hnu2 : nu ≤ 100000) :
    Calls Try.prog 14 #[.agg #[.slice Ac nc cc, .slice Af nf cf, .int .i64 dry, .int .i64 days], .slice Au nu cu] w fun e w' => ∃ v, e = .returned (.tuple #[v, .int .i64 (driesS cs fs dry days us).2]) ∧ ∃ ss, Own w' w.heap.size 23 1 Sl.cells v ss ∧ Rows w' w'.heap.size icell ss (driesS cs fs dry days us).1 ∧ Below w.heap.size w w' := by
  have hat0 := At.new w #[.slice Ac nc cc, .slice Af nf cf, .int .i64 dry, .int .i64 days] 25 w.heap.size rfl _ rfl
  have hB0 := below_new w (.cells #[.slice Ac nc cc, .slice Af nf cf, .int .i64 dry, .int .i64 days] 25)
  have hnil : ∀ w', Rows w' w'.heap.size icell ([] : List Sl) ([] : List (List Int)) := fun w' => ⟨rfl, fun i s xs h => by simp at h⟩
  cases hok : netOk cs fs dry days
  · have he : netErr cs fs dry days = 50 := by simp [netErr, hok]
    have hs : driesS cs fs dry days us = ([], 50) := by simp [driesS, hok]
    rw [hs]
    have He := hide he
    clear he hs hok
    go_enter Try.func14, Try.ntmps14
    go_wp2_with fail
    refine calls_gen fun W1 HW1 => ?_
    rw [HW1.out] at hat0 hB0
    refine (chanCheck_any Ac Af nc cc nf cf dry days cs fs W1 (hnet.below hB0)).mono ?_
    rintro e w2 ⟨rfl, hb2⟩
    rw [He.out]
    go_wp2
    go_ret2
    exact ⟨_, rfl, [], Own.nil _ _ _ _ _, hnil _, hB0.trans (hb2.mono hB0.size)⟩
  · have he : netErr cs fs dry days = 0 := by simp [netErr, hok]
    have hs : driesS cs fs dry days us = if usesOk nf days us then ((List.range us.length).map (dryL cs fs dry (days * 1440) us), 0) else ([], 51) := by simp [driesS, hok, hnet.ef]
    rw [hs]
    have hdy := (netOk_parts hok).2.2.2.1
    have He := hide he; have Hok := hide hok; have Hnu := hide hnu; have Hus := hide hus
    have hnf2 := hnet.nf2
    clear he hs hok hnu hus
    cases hin : usesOk nf days us
    · have Hin := hide hin
      clear hin
      go_enter Try.func14, Try.ntmps14
      go_wp2_with fail
      refine calls_gen fun W1 HW1 => ?_
      rw [HW1.out] at hat0 hB0
      refine (chanCheck_any Ac Af nc cc nf cf dry days cs fs W1 (hnet.below hB0)).mono ?_
      rintro e w2 ⟨rfl, hb2⟩
      rw [He.out]
      have hat2 := hat0.below hb2
      have hB2 := hB0.trans (hb2.mono hB0.size)
      obtain ⟨q0, q1, q2, q3⟩ := hat2.c4
      clear hat0 hB0 hb2
      go_wp2_with fail
      refine calls_gen fun W3 HW3 => ?_
      have hb3 : Below w2.heap.size w2 W3 := by rw [← HW3.out]; exact below_new _ _
      have hB3 := hB2.trans (hb3.mono hB2.size)
      refine (right_any Ac Af nc cc nf cf dry days Au us nu cu W3 ((Hus.out.below hB3).more hB3.size) Hnu.out hnu2 hnf2 hdy.1 hdy.2).mono ?_
      rintro e w4 ⟨rfl, hb4⟩
      rw [Hin.out]
      go_wp2
      go_ret2
      exact ⟨_, rfl, [], Own.nil _ _ _ _ _, hnil _, hB3.trans (hb4.mono hB3.size)⟩
    · have Hin := hide hin
      clear hin
      refine (callsIn_wide (n := 9)).1 ?_
      refine callsIn_of_wp_marks Try.func14 rfl trivial ?_ rfl
      simp only [Try.ntmps14, List.size_toArray, List.length_cons, List.length_nil, Nat.reduceAdd, Nat.reduceSub, Array.replicate_succ, Array.replicate_zero, List.push_toArray, List.append_toArray, List.nil_append, List.cons_append]
      gi_wp2_with fail
      refine wcall (calls_gen fun W1 HW1 => ?_)
      rw [HW1.out] at hat0 hB0
      refine (chanCheck_any Ac Af nc cc nf cf dry days cs fs W1 (hnet.below hB0)).mono ?_
      rintro e w2 ⟨rfl, hb2⟩
      rw [He.out]
      have hat2 := hat0.below hb2
      have hB2 := hB0.trans (hb2.mono hB0.size)
      obtain ⟨q0, q1, q2, q3⟩ := hat2.c4
      clear hat0 hB0 hb2
      gi_wp2_with fail
      refine wcall (calls_gen fun W3 HW3 => ?_)
      have hb3 : Below w2.heap.size w2 W3 := by rw [← HW3.out]; exact below_new _ _
      have hx3 : At W3 w2.heap.size [.slice Ac nc cc, .slice Af nf cf, .int .i64 dry, .int .i64 days] := by rw [← HW3.out]; exact At.new w2 _ _ _ rfl _ rfl
      have hB3 := hB2.trans (hb3.mono hB2.size)
      refine (right_any Ac Af nc cc nf cf dry days Au us nu cu W3 ((Hus.out.below hB3).more hB3.size) Hnu.out hnu2 hnf2 hdy.1 hdy.2).mono ?_
      rintro e w4 ⟨rfl, hb4⟩
      rw [Hin.out]
      have hB4 := hB3.trans (hb4.mono hB3.size)
      have hx4 := hx3.below hb4
      obtain ⟨w5, Hw5⟩ : ∃ w5, Hid (w4.alloc (.cells #[.slice none 0 0] 54) = w5) := ⟨_, hide rfl⟩
      have hb5 : Below w4.heap.size w4 w5 := by rw [← Hw5.out]; exact below_new _ _
      have i5 : w4.heap.size < w5.heap.size := by rw [← Hw5.out]; simp
      have hx5 := hx4.below hb5
      have hL5 : At w5 w4.heap.size [.slice none 0 0] := by rw [← Hw5.out]; exact At.new w4 #[.slice none 0 0] _ _ rfl _ rfl
      have hf5 : w5.frozen? ⟨w4.heap.size, 0, none⟩ = false := by rw [← Hw5.out]; exact At.frozen_new _ _ _ _ rfl 0
      have hB5 := hB4.trans (hb5.mono hB4.size)
      obtain ⟨w6, Hw6⟩ : ∃ w6, Hid ((w5.alloc (.cells #[.slice Ac nc cc, .slice Af nf cf, .int .i64 dry, .int .i64 days] 70)).alloc (.cells #[.slice Au nu cu] 28) = w6) := ⟨_, hide rfl⟩
      have hb6 : Below w5.heap.size w5 w6 := by rw [← Hw6.out]; exact (below_new _ _).alloc (by simp) _
      have i6 : w5.heap.size + 1 < w6.heap.size := by rw [← Hw6.out]; simp
      have hnet6 : At w6 w5.heap.size [.slice Ac nc cc, .slice Af nf cf, .int .i64 dry, .int .i64 days] := by rw [← Hw6.out]; exact (At.new w5 #[.slice Ac nc cc, .slice Af nf cf, .int .i64 dry, .int .i64 days] _ _ rfl _ rfl).alloc _
      have hu6 : At w6 (w5.heap.size + 1) [.slice Au nu cu] := by rw [← Hw6.out]; exact At.new (w5.alloc _) #[.slice Au nu cu] _ _ (by simp) _ rfl
      have hB6 := hB5.trans (hb6.mono hB5.size)
      have hs6 := hB6.size
      have hseq := fun n hn => dries1_seq n hn (w5.heap.size + 1) w5.heap.size Ac Af Au nc cc nf cf nu cu dry days cs fs us w.heap.size w6 hs6 (by omega) (by omega) hnet6 hu6 (hnet.rc.below hB6) (hnet.rf.below hB6) (Hus.out.below hB6) hnet.ec hnet.ef Hnu.out Hok.out Hin.out
      obtain ⟨q0', q1', q2', q3'⟩ := hx4.c4
      obtain ⟨p0, p1, p2, p3⟩ := hx5.c4
      rw [← Hw5.out] at p0 p1 p2 p3
      have hs4 : w.heap.size < w4.heap.size := by have := hat2.1; have := hb3.size; have := hb4.size; omega
      clear hx3 hx4 hx5 hat2 hB2 hb3 hB3 hb4 q0 q1 q2 q3
      gi_wp2_with fail
      rw [Hw5.out]
      refine wcall ((dries_any Ac Af Au nc cc nf cf nu cu dry days w5).mono ?_)
      rintro e w7 ⟨rfl, hw7⟩
      rw [Hw6.out] at hw7
      subst hw7
      clear p0 p1 p2 p3 q0' q1' q2' q3'
      gi_wp2_with fail
      have E1 := hide enters_dries1
      obtain ⟨D, hD⟩ : ∃ D, D = w7.heap.size := ⟨_, rfl⟩
      have HD := hide hD
      have hLD : w4.heap.size < D := by omega
      have Hb56 := hide (hb5.trans (hb6.mono hb5.size))
      have hL7 := hide ((hb6.cell (p := ⟨w4.heap.size, 0, none⟩) i5).trans hL5.c1)
      have hf7 := hide ((hb6.frozen (p := ⟨w4.heap.size, 0, none⟩) i5).trans hf5)
      clear hL5 hf5 hb5 hb6 hB5 hnet6 hu6
      refine wp_rangeX (gf := 55) rfl E1.out (hseq _ (by omega)) (Kept.all _ (Below.refl _ _)) (fun b k X G args W h => by obtain ⟨_, _, _, _, _, rfl, _⟩ := h; rfl) (fun b => b = w4.heap.size)
        (fun b h => h.elim) (by intro b hb; omega) (by intro b hb; omega)
        (fun k X W => DL w w4.heap.size (w7.heap.size + 2) (w7.heap.size + 2) (dryL cs fs dry (days * 1440) us) k X W)
        (fun c k X W => False)
        (fun k X G a' W => AxD w4.heap.size w7.heap.size (dryL cs fs dry (days * 1440) us) k X G a' W)
        (fun k X X' A B h hk hX => h.kept hk ⟨fun h' => by have := h.xge _ h'; omega, by omega, by omega⟩ (fun b hb hx => ⟨hx, by omega, by omega⟩) (fun b hb => ⟨fun h' => by have := h.xge _ h'; omega, by omega, by omega⟩) hX)
        (fun c k X X' A B h hk hX => h.elim) (fun k X G a' A B h hk => by
          obtain ⟨s, hs, hd, s8, s10, ho, hX⟩ := h.ex
          exact ⟨s, hs, hd, s8, s10, ho.keptB hk (fun g hg => by have := (own_block ho hg).1; omega), hX⟩)
        (fun W hk hs => ⟨⟨.slice none 0 0, [], (hk.cell (p := ⟨w4.heap.size, 0, none⟩) trivial (by show w4.heap.size < _; omega)).trans hL7.out, (hk.frozen (p := ⟨w4.heap.size, 0, none⟩) trivial (by show w4.heap.size < _; omega)).trans hf7.out, Own.nil _ _ _ _ _, by simp [Value.ownBlock], rfl, by simp⟩, by omega, hB6.trans (hk.below (fun _ _ => trivial) hB6.size), fun b h => h.elim, by omega⟩)
        (fun h => h.elim) ?assign ?body ?done ?stop ?panic
      case panic => intro k chain X W h; exact h.elim
      case stop => intro c k X W hk h; exact h.elim
      case assign =>
        rintro l k X G args W hi hz hk hXlt hXge ⟨uf, uf0, ut, v, hx, rfl, hown, hv⟩
        obtain ⟨Av, cv, rfl, hrd⟩ := hown.rd
        have Hi := hide hi; have Hown := hide hown; have Hv := hide hv
        clear hi hown hv hrd
        gi_wp2_with fail
        exact ⟨Kept.refl _ _, Hi.out, ⟨⟨Av, _, cv⟩, by first | rfl | trivial, by first | rfl | trivial, by first | rfl | trivial, by first | rfl | trivial, Hown.out, Hv.out⟩⟩
      case body =>
        rintro l k X G a W hinv ⟨s, hs, hd, s8, s10, hown, hsX⟩ hz hk hXlt hXge
        rw [act_eq hs hd]
        obtain ⟨u, hu⟩ : ∃ u, u = slot a := ⟨_, rfl⟩
        rw [← hu] at s8 s10 ⊢
        have he : ({ tmps := ((List.range 32).map u).toArray, defers := [] } : Act) = { tmps := #[(u 0), (u 1), (u 2), (u 3), (u 4), (u 5), (u 6), (u 7), (u 8), (u 9), (u 10), (u 11), (u 12), (u 13), (u 14), (u 15), (u 16), (u 17), (u 18), (u 19), (u 20), (u 21), (u 22), (u 23), (u 24), (u 25), (u 26), (u 27), (u 28), (u 29), (u 30), (u 31)], defers := [] } := rfl
        rw [he, s8, s10]
        clear he hs hd hu s8 s10
        obtain ⟨v, ss, h1, h2, h3, h4, h5, h6⟩ := hinv.own
        have Hinv := hide hinv; have Hown := hide hown; have HsX := hide hsX; have H3 := hide h3; have H4 := hide h4; have H5 := hide h5; have H6 := hide h6; have HXlt := hide hXlt; have H1 := hide h1; have H2 := hide h2; have HXD := hide hinv.xge; have HXge := hide hXge
        have hr := hide (Rd.new (cells := Sl.cells) W #[.slice s.a s.n s.c] 23 [s] rfl)
        have hlt := hinv.lt
        have hn60 : us.length ≤ 60 := usesOk_len Hin.out
        clear hinv hown hsX h3 h4 h5 h6 h2 hXlt hXge
        unfold Sl.val
        gi_wp2_with (gi_at_builtin; go_loud (refine wpListIn_app (v := v) (xs := ss) (ys := [s]) (n := 1) el_rows rfl (.tmp 27) (.tmp 29) rfl rfl (H3.out.alloc _) rfl rfl hr.out (by have := H5.out; omega) (by simp; omega) ?_; intro vv wv hown1 hg1 hat1; have Hs := hide (DL.step (L := w4.heap.size) (Z := w7.heap.size + 2) (B0 := w7.heap.size + 2) (by omega) (by omega) (by omega) (by omega) hlt Hinv.out.bl H1.out H2.out H3.out H4.out H5.out H6.out Hown.out HsX.out HXlt.out HXD.out (by omega) hown1 hg1 (by simpa using hat1)); have hkk := kept_app2 H3.out (below_new W _) hg1; have hnv : ¬ v.ownBlock = some w4.heap.size := (fun e => by have := (own_block H3.out e).1; omega); obtain ⟨A1, c1, rfl, hrd1⟩ := hown1.rd; have h1 := (hkk.cell (p := ⟨w4.heap.size, 0, none⟩) hnv hlt).trans H1.out; have h2 := (hkk.frozen (p := ⟨w4.heap.size, 0, none⟩) hnv hlt).trans H2.out; clear hkk hown1 hg1 hat1 hrd1))
        rw [show (ss ++ [s]).length = ss.length + 1 from by simp] at Hs
        have hkp := Hs.out.2
        refine ⟨hkp.mono fun b hb hr => ?_, Hs.out.1⟩
        rcases hr with ⟨hr1, hr2⟩ | hr
        · exact ⟨fun e => by have := (own_block H3.out e).1; omega, hr2⟩
        · exact ⟨fun e => H4.out b e (.inl hr), fun e => by have := HXD.out b (.inl hr); omega⟩
      case done =>
        intro X W hinv hDf
        have Hinv := hide hinv; have HDf := hide hDf
        obtain ⟨v, ss, h1, h2, h3, h4, h5, h6⟩ := hinv.own
        have H3 := hide h3; have H5 := hide h5; have H6 := hide h6
        clear h2 h3 h4 h5 h6 hinv hDf
        gi_wp2_with fail
        refine ⟨by simp, .inl ⟨_, _, rfl, run_takeDeferred HDf.out, ?_⟩⟩
        refine ⟨_, results_tmp2 rfl _ _ _, ?_⟩
        have hk := Kept.putObj W w7.heap.size (.deferred none)
        refine ⟨v, rfl, ss, (H3.out.keptB hk (fun g hg => by have := (own_block H3.out hg).1; omega)).mono (by omega), ⟨by simp [H5.out], fun i s xs h8 h9 => ?_⟩, Hinv.out.bl.trans (hk.below (fun b hb => by omega) Hinv.out.bl.size)⟩
        have h10 := (H6.out i s h8).1
        have h11 := (h10.keptB hk (fun g hg => by have := (own_block h10 hg).1; omega)).rdv
        have h12 : xs = dryL cs fs dry (days * 1440) us i := by
          rw [List.getElem?_map] at h9
          have : i < us.length := by have := (List.getElem?_eq_some_iff.1 h8).1; rw [H5.out] at this; exact this
          rw [List.getElem?_range this] at h9
          simp at h9
          exact h9.symm
        subst h12
        exact h11
end Go.Proofs.Ythlnbgjlkliopaa
