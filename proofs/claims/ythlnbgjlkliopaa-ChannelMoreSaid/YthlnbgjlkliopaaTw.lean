/- A net in new memory: its canals are a row of one's own. -/
import Derived.Test.YthlnbgjlkliopaaR8
set_option linter.unusedVariables false
set_option linter.unusedSimpArgs false
namespace Go.Proofs.Ythlnbgjlkliopaa
open Go.RowKit Go.Shelf
attribute [local go_sem ↓] Go.wp_at_zero Go.wp_at_succ
set_option maxHeartbeats 4000000 in
set_option maxRecDepth 100000 in
theorem twin_own (Ac Af : Option Addr) (nc cc nf cf : Nat) (dry days : Int) (cs : List Ca) (fs : List Int) (w : World) (hnet : NetAt w Ac Af nc nf cs fs) :
    Calls Try.prog 7 #[.agg #[.slice Ac nc cc, .slice Af nf cf, .int .i64 dry, .int .i64 days]] w fun e w' => ∃ Bc dc Bf df, e = .returned (.agg #[.slice Bc nc dc, .slice Bf nf df, .int .i64 dry, .int .i64 days]) ∧ NetAt w' Bc Bf nc nf cs fs ∧ Own w' w.heap.size 38 5 Ca.cells (.slice Bc nc dc) cs ∧ Own w' w.heap.size 3 1 icell (.slice Bf nf df) fs ∧ (∀ g, (Value.slice Bc nc dc).ownBlock = some g → ¬ (Value.slice Bf nf df).ownBlock = some g) ∧ Below w.heap.size w w' := by
  obtain ⟨w2, Hw2⟩ : ∃ w2, Hid ((w.alloc (.cells #[.slice Ac nc cc, .slice Af nf cf, .int .i64 dry, .int .i64 days] 25)).alloc (.cells #[.slice none 0 0, .slice none 0 0, .int .i64 0, .int .i64 0] 25) = w2) := ⟨_, hide rfl⟩
  have hB : Below w.heap.size w w2 := by rw [← Hw2.out]; exact (below_new _ _).alloc (by simp) _
  have hat1 : At w2 w.heap.size [.slice Ac nc cc, .slice Af nf cf, .int .i64 dry, .int .i64 days] := by rw [← Hw2.out]; exact (At.new w #[.slice Ac nc cc, .slice Af nf cf, .int .i64 dry, .int .i64 days] _ _ rfl _ rfl).alloc _
  have hat2 : At w2 (w.heap.size + 1) [.slice none 0 0, .slice none 0 0, .int .i64 0, .int .i64 0] := by rw [← Hw2.out]; exact At.new (w.alloc _) #[.slice none 0 0, .slice none 0 0, .int .i64 0, .int .i64 0] _ _ (by simp) _ rfl
  have hz2 : w.heap.size + 1 < w2.heap.size := hat2.1
  have hnc := hnet.nc2
  have hnf := hnet.nf2
  have hec := hnet.ec
  have hef := hnet.ef
  have Hec := hide hec; have Hef := hide hef
  clear hec hef
  go_enter Try.func7, Try.ntmps7
  have hq2 : w.heap.size + 1 + 1 = w2.heap.size := by rw [← Hw2.out]; simp
  have Hl0 := hide (lit0' (cells := Ca.cells) w2 38 5 w2.heap.size (w.heap.size + 1 + 1) (fun _ => rfl) hq2 (Nat.le_refl _))
  have hb3 := below_new w2 (.cells #[] 38)
  have Hr0 := hide ((hnet.rc.below hB).below (hb3.mono hB.size))
  have hat3 := hat1.below hb3
  have hat3' := hat2.below hb3
  have hB3 := hB.trans (hb3.mono hB.size)
  have hs3 : (w2.alloc (.cells #[] 38)).heap.size = w2.heap.size + 1 := by simp
  have Hq2 := hide hq2
  have hfz : ∀ j : Nat, (w2.alloc (.cells #[] 38)).frozen? ⟨w.heap.size, j, none⟩ = false := fun j => by
    refine (hb3.frozen (p := ⟨w.heap.size, j, none⟩) (by show w.heap.size < _; omega)).trans ?_
    rw [← Hw2.out]
    exact ((below_new (w.alloc _) _).frozen (p := ⟨w.heap.size, j, none⟩) (by simp)).trans (At.frozen_new w #[.slice Ac nc cc, .slice Af nf cf, .int .i64 dry, .int .i64 days] _ _ rfl j)
  have Hfz := hide hfz
  clear hq2 hfz
  go_upto_region 2 with (at_builtin; rw [Hw2.out]; refine wpList_app (v := .slice (some ⟨w.heap.size + 1 + 1, 0, none⟩) 0 0) (xs := []) (ys := cs) (n := nc) el_ca rfl (.tmp 3) (.tmp 5) rfl rfl Hl0.out Hec.out.symm rfl Hr0.out (by simp; omega) (by rw [hs3]; omega) ?_; intro vv wv hown1 hg1 hat1'; have hk1 := kept_app2 (W := w2.alloc (.cells #[] 38)) Hl0.out (Below.refl _ _) hg1; have Hown1 := hide hown1; have Hk1 := hide hk1; have Hat1 := hide hat1'; obtain ⟨Bc, dc, rfl, hrd1⟩ := hown1.rd; have hatv := hat3.kept hk1 (by have := Hq2.out; simp [Value.ownBlock]; omega); obtain ⟨q0, q1, q2, q3⟩ := hatv.c4; have f0 := (hk1.frozen (p := ⟨w.heap.size, 0, none⟩) (by have := Hq2.out; simp [Value.ownBlock]; omega) (by show w.heap.size < _; omega)).trans (Hfz.out 0); clear hown1 hg1 hat1' hk1 hrd1)
  have hk1 := Hk1.out
  have hq := Hq2.out
  obtain ⟨w4, Hw4⟩ : ∃ w4, Hid (wv.setCell ⟨w.heap.size, 0, none⟩ (.slice Bc cs.length dc) = w4) := ⟨_, hide rfl⟩
  have hk4 : Kept (fun b => b ≠ w.heap.size) wv w4 := by rw [← Hw4.out]; exact Kept.setCell wv ⟨w.heap.size, 0, none⟩ _
  have hat4 : At w4 w.heap.size [.slice Bc cs.length dc, .slice Af nf cf, .int .i64 dry, .int .i64 days] := by rw [← Hw4.out]; exact hatv.set (j := 0) _ (by simp)
  have hz3 : (w2.alloc (.cells #[] 38)).heap.size = w2.heap.size + 1 := by simp
  have hk14 : Kept (fun b => ¬ b = w.heap.size ∧ ¬ b = w2.heap.size) (w2.alloc (.cells #[] 38)) w4 := (hk1.mono fun b _ hb e => by simp [Value.ownBlock] at e; omega).trans (hk4.mono fun b _ hb => hb.1)
  have hB4 : Below w.heap.size w w4 := hB3.trans (hk14.below (fun b hb => by omega) hB3.size)
  have hbox4 := hat3'.kept hk14 (by omega)
  have hown4 : Own w4 w2.heap.size 38 5 Ca.cells (.slice Bc cs.length dc) cs := Hown1.out.keptB hk4 (fun g hg => by have := (own_block Hown1.out hg).1; omega)
  have hfz4 : ∀ j : Nat, w4.frozen? ⟨w.heap.size, j, none⟩ = false := fun j => by
    rw [← Hw4.out, World.frozen?_setCell]
    exact (hk1.frozen (p := ⟨w.heap.size, j, none⟩) (by simp [Value.ownBlock]; omega) (by show w.heap.size < _; omega)).trans (Hfz.out j)
  have hfb : ∀ j : Nat, (w2.alloc (.cells #[] 38)).frozen? ⟨w.heap.size + 1, j, none⟩ = false := fun j => by
    refine (hb3.frozen (p := ⟨w.heap.size + 1, j, none⟩) (by show w.heap.size + 1 < _; omega)).trans ?_
    rw [← Hw2.out]
    exact At.frozen_new (w.alloc _) #[.slice none 0 0, .slice none 0 0, .int .i64 0, .int .i64 0] _ _ (by simp) j
  have hfb4 : ∀ j : Nat, w4.frozen? ⟨w.heap.size + 1, j, none⟩ = false := fun j => (hk14.frozen (p := ⟨w.heap.size + 1, j, none⟩) ⟨by show ¬ w.heap.size + 1 = _; omega, by show ¬ w.heap.size + 1 = _; omega⟩ (by show w.heap.size + 1 < _; omega)).trans (hfb j)
  have hsz4 : w2.heap.size + 1 ≤ w4.heap.size := by have := hk14.size; omega
  have hb5 := below_new w4 (.cells #[] 3)
  have hq4 : (w4.alloc (.cells #[] 3)).heap.size = w4.heap.size + 1 := by simp
  have Hl5 := hide (lit0' (cells := icell) w4 3 1 w4.heap.size w4.heap.size (fun _ => rfl) rfl (Nat.le_refl _))
  have Hr5 := hide ((hnet.rf.below hB4).below (hb5.mono hB4.size))
  have hat5 := hat4.below hb5
  have hbox5 := hbox4.below hb5
  have Hown5 := hide (hown4.below hb5)
  have Hlt4 := hide (fun (g : Nat) (hg : (Value.slice Bc cs.length dc).ownBlock = some g) => own_block hown4 hg)
  have hB5 := hB4.trans (hb5.mono hB4.size)
  have Hf5 := hide (fun j : Nat => (hb5.frozen (p := ⟨w.heap.size, j, none⟩) (by show w.heap.size < _; omega)).trans (hfz4 j))
  have Hg5 := hide (fun j : Nat => (hb5.frozen (p := ⟨w.heap.size + 1, j, none⟩) (by show w.heap.size + 1 < _; omega)).trans (hfb4 j))
  have i5 : w.heap.size + 1 < w4.heap.size := by omega
  clear hk1 hk4 hatv hk14 hbox4 hown4 hfz4 hfb hfb4 hB3 hat3 hat3' hq Hown1 Hk1 Hat1 Hl0 Hr0 Hfz Hq2 hs3 hz3 hb3 q0 q1 q2 q3 f0 hat1 hat2
  rw [Hw4.out]
  obtain ⟨q0, q1, q2, q3⟩ := hat5.c4
  go_upto_region 3 with (at_builtin; refine wpList_app (v := .slice (some ⟨w4.heap.size, 0, none⟩) 0 0) (xs := []) (ys := fs) (n := nf) el_int rfl (.tmp 8) (.tmp 10) rfl rfl Hl5.out Hef.out.symm rfl Hr5.out (by simp; omega) (by rw [hq4]; omega) ?_; intro vv wx hown1 hg1 hat1'; have hk1 := kept_app2 (W := w4.alloc (.cells #[] 3)) Hl5.out (Below.refl _ _) hg1; have Hown1 := hide hown1; have Hk1 := hide hk1; obtain ⟨Bf, df, rfl, hrd1⟩ := hown1.rd; have hatv := hat5.kept hk1 (by simp [Value.ownBlock]; omega); clear q0 q1 q2 q3; obtain ⟨q0, q1, q2, q3⟩ := hatv.c4; have f1 := (hk1.frozen (p := ⟨w.heap.size, 1, none⟩) (by simp [Value.ownBlock]; omega) (by show w.heap.size < _; omega)).trans (Hf5.out 1); clear hown1 hg1 hat1' hk1 hrd1)
  have hk1 := Hk1.out
  obtain ⟨w6, Hw6⟩ : ∃ w6, Hid (wx.setCell ⟨w.heap.size, 1, none⟩ (.slice Bf fs.length df) = w6) := ⟨_, hide rfl⟩
  have hk6 : Kept (fun b => b ≠ w.heap.size) wx w6 := by rw [← Hw6.out]; exact Kept.setCell wx ⟨w.heap.size, 1, none⟩ _
  have hat6 : At w6 w.heap.size [.slice Bc cs.length dc, .slice Bf fs.length df, .int .i64 dry, .int .i64 days] := by rw [← Hw6.out]; exact hatv.set (j := 1) _ (by simp)
  have hk16 : Kept (fun b => ¬ b = w.heap.size ∧ ¬ b = w4.heap.size) (w4.alloc (.cells #[] 3)) w6 := (hk1.mono fun b _ hb e => by simp [Value.ownBlock] at e; omega).trans (hk6.mono fun b _ hb => hb.1)
  have hB6 : Below w.heap.size w w6 := hB5.trans (hk16.below (fun b hb => by omega) hB5.size)
  have hbox6 := hbox5.kept hk16 (by omega)
  have hownc : Own w6 w2.heap.size 38 5 Ca.cells (.slice Bc cs.length dc) cs := Hown5.out.keptB hk16 (fun g hg => by
    have h1 := Hlt4.out g hg
    omega)
  have hownf : Own w6 w4.heap.size 3 1 icell (.slice Bf fs.length df) fs := Hown1.out.keptB hk6 (fun g hg => by have := (own_block Hown1.out hg).1; omega)
  have hf6 : ∀ j : Nat, w6.frozen? ⟨w.heap.size + 1, j, none⟩ = false := fun j => (hk16.frozen (p := ⟨w.heap.size + 1, j, none⟩) ⟨by show ¬ w.heap.size + 1 = _; omega, by show ¬ w.heap.size + 1 = _; omega⟩ (by show w.heap.size + 1 < _; omega)).trans (Hg5.out j)
  have Hoc := hide hownc; have Hof := hide hownf
  have g0 := hf6 0
  have g1 := hf6 1
  have g2 := hf6 2
  have g3 := hf6 3
  clear hk1 hk6 hatv hk16 hownc hownf Hown5 Hown1 Hk1 Hl5 Hr5 hat5 hbox5 Hf5 Hg5 hb5 hf6 q0 q1 q2 q3 f1 hat4
  obtain ⟨q0, q1, q2, q3⟩ := hat6.c4
  obtain ⟨z0, z1, z2, z3⟩ := hbox6.c4
  have hset := (((hbox6.set (j := 0) (.slice Bc cs.length dc) (by simp)).set (j := 1) (.slice Bf fs.length df) (by simp)).set (j := 2) (.int .i64 dry) (by simp)).set (j := 3) (.int .i64 days) (by simp)
  simp only [List.set_cons_zero, List.set_cons_succ] at hset
  obtain ⟨k0, k1, k2, k3⟩ := hset.c4
  rw [Hw6.out]
  go_wp2_with fail
  have hkf : Kept (fun b => b ≠ w.heap.size + 1) w6 ((((w6.setCell ⟨w.heap.size + 1, 0, none⟩ (.slice Bc cs.length dc)).setCell ⟨w.heap.size + 1, 1, none⟩ (.slice Bf fs.length df)).setCell ⟨w.heap.size + 1, 2, none⟩ (.int .i64 dry)).setCell ⟨w.heap.size + 1, 3, none⟩ (.int .i64 days)) :=
    (((Kept.setCell _ ⟨w.heap.size + 1, 0, none⟩ _).trans (Kept.setCell _ ⟨w.heap.size + 1, 1, none⟩ _)).trans (Kept.setCell _ ⟨w.heap.size + 1, 2, none⟩ _)).trans (Kept.setCell _ ⟨w.heap.size + 1, 3, none⟩ _)
  refine bodyPost_ret (v := .agg #[.slice Bc cs.length dc, .slice Bf fs.length df, .int .i64 dry, .int .i64 days]) (by simp [results, Try.results7, go_sem, k0, k1, k2, k3]; try rfl) rfl ?_
  rw [← Hec.out, ← Hef.out]
  have hoc := Hoc.out.keptB hkf (fun g hg => by have := (own_block Hoc.out hg).1; omega)
  have hof := Hof.out.keptB hkf (fun g hg => by have := (own_block Hof.out hg).1; omega)
  rw [← Hec.out] at hoc
  rw [← Hef.out] at hof
  rw [← Hec.out, ← Hef.out] at hkf
  simp only [← Hec.out, ← Hef.out] at hoc hof
  obtain ⟨A1, c1, hv1, hr1⟩ := hoc.rd
  obtain ⟨A2, c2, hv2, hr2⟩ := hof.rd
  injection hv1 with e1 e2 e3
  injection hv2 with e4 e5 e6
  subst e1 e4
  exact ⟨_, _, _, _, rfl, ⟨hr1, hr2, Hec.out, Hef.out, hnc, hnf⟩, hoc.mono (by omega), hof.mono (by omega), fun g hg hg2 => by (have h1 := Hlt4.out g (by rw [← Hec.out]; exact hg)); (have h2 := own_block hof hg2); omega, hB6.trans (hkf.below (fun b hb => by omega) hB6.size)⟩

end Go.Proofs.Ythlnbgjlkliopaa
