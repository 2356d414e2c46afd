/- Gallery: suspects, by contract. -/
import Derived.Test.YtkmocikcohhdoaaH2
import Derived.Test.YtkmocikcohhdoaaMapV
import Derived.Test.YtkmocikcohhdoaaF17
set_option linter.unusedVariables false
set_option linter.unusedSimpArgs false
namespace Go.Proofs.Ytkmocikcohhdoaa
open Go.RowKit Go.Shelf Go.Maps
attribute [local go_sem] ite_min ite_max
/-- What the map of the suspects reads as, behind so many reaches; V: the flows of each. -/
def falM (g : List Rc) (s : Sp) (l : List Ga) (t : Sp) (V : Nat → Value) (k : Nat) : Int → Option Value := fun j => if 0 ≤ j ∧ j.toNat < k ∧ (fitF g s l t j.toNat).isSome = true then some (V j.toNat) else none
def RowsV (w : World) (base : Nat) (g : List Rc) (s : Sp) (l : List Ga) (t : Sp) (V : Nat → Value) (k : Nat) : Prop :=
  ∀ i, i < k → (fitF g s l t i).isSome = true → Own w base 24 2 Sp.cells (V i) ((fitF g s l t i).getD [])
section
variable {g : List Rc} {s : Sp} {l : List Ga} {t : Sp} {V : Nat → Value} {k : Nat} {w w' : World} {base : Nat}
theorem falM_miss (h : (fitF g s l t k).isSome = false) (j : Int) : falM g s l t V (k + 1) j = falM g s l t V k j := by
  unfold falM
  by_cases e : j.toNat = k
  · rw [if_neg (by rw [e, h]; simp), if_neg (by rw [e, h]; simp)]
  · congr 1
    simp only [eq_iff_iff]
    constructor
    · rintro ⟨h1, h2, h3⟩; exact ⟨h1, by omega, h3⟩
    · rintro ⟨h1, h2, h3⟩; exact ⟨h1, by omega, h3⟩
theorem falM_hit (h : (fitF g s l t k).isSome = true) (v : Value) (j : Int) : falM g s l t (fun i => if i = k then v else V i) (k + 1) j = upd (falM g s l t V k) (k : Int) (some v) j := by
  unfold upd falM
  by_cases e : j = (k : Int)
  · subst e
    rw [if_pos rfl, if_pos ⟨by omega, by simp, by simpa using h⟩]
    simp
  · rw [if_neg e]
    by_cases hj : 0 ≤ j
    · have e2 : ¬ j.toNat = k := by omega
      simp only [if_neg e2]
      congr 1
      simp only [eq_iff_iff]
      constructor
      · rintro ⟨h1, h2, h3⟩; exact ⟨h1, by omega, h3⟩
      · rintro ⟨h1, h2, h3⟩; exact ⟨h1, by omega, h3⟩
    · rw [if_neg (fun h => hj h.1), if_neg (fun h => hj h.1)]
theorem falM_new : falM g s l t V k (k : Int) = none := by
  unfold falM; rw [if_neg (fun h => by have := h.2.1; simp at this)]
theorem RowsV.kept {R : Nat → Prop} (h : RowsV w base g s l t V k) (hk : Kept R w w') (hR : ∀ b, base ≤ b → R b) : RowsV w' base g s l t V k :=
  fun i hi hs => (h i hi hs).keptG hk fun q hq => hR q ((h i hi hs).blockG hq).1
theorem RowsV.bel (h : RowsV w base g s l t V k) (hb : Below w.heap.size w w') : RowsV w' base g s l t V k := h.kept (Kept.all (fun _ => True) hb) fun _ _ => trivial
theorem RowsV.miss (h : RowsV w base g s l t V k) (hm : (fitF g s l t k).isSome = false) : RowsV w base g s l t V (k + 1) := fun i hi hs => by
  by_cases e : i = k
  · rw [e, hm] at hs; cases hs
  · exact h i (by omega) hs
theorem RowsV.hit (h : RowsV w base g s l t V k) {v : Value} (hv : Own w base 24 2 Sp.cells v ((fitF g s l t k).getD [])) : RowsV w base g s l t (fun i => if i = k then v else V i) (k + 1) := fun i hi hs => by
  by_cases e : i = k
  · subst e; simp only [if_true]; exact hv
  · simp only [if_neg e]; exact h i (by omega) hs
end
def SuspPost (g : List Rc) (s : Sp) (l : List Ga) (t : Sp) (w : World) (e : Ending) (w' : World) : Prop :=
  ∃ b V, e = .returned (.map (some b)) ∧ w.heap.size ≤ b ∧ MpV Try.prog 3 w' b g.length (falM g s l t V g.length) (falN g s l t g.length).length ∧ RowsV w' (b + 1) g s l t V g.length ∧ Below w.heap.size w w'
section
variable {wv : World} {base : Nat} {e : TypeId} {q n c i : Nat} {D : List Rc} {x : Rc}
theorem own_cap (h : Own wv base e 6 Rc.cells (.slice (some ⟨q, 0, none⟩) n c) D) (hx : D[i]? = some x) (y : Sp) (hn : n = D.length) :
    Own ((wv.setCell ⟨q, i * 6, none⟩ (.int .i64 y.lo)).setCell ⟨q, i * 6 + 1, none⟩ (.int .i64 y.hi)) base e 6 Rc.cells (.slice (some ⟨q, 0, none⟩) n c) (D.set i ⟨y, x.leak, x.gain⟩) ∧ Kept (fun b => b ≠ q) wv ((wv.setCell ⟨q, i * 6, none⟩ (.int .i64 y.lo)).setCell ⟨q, i * 6 + 1, none⟩ (.int .i64 y.hi)) := by
  have hi : i < D.length := (List.getElem?_eq_some_iff.1 hx).1
  obtain ⟨o1, _, _⟩ := h.put_ Rc.len (i := i) (j := 0) (x' := ⟨⟨y.lo, x.cap.hi⟩, x.leak, x.gain⟩) (u := .int .i64 y.lo) hx (by omega) rfl hn
  have hx1 : (D.set i ⟨⟨y.lo, x.cap.hi⟩, x.leak, x.gain⟩)[i]? = some ⟨⟨y.lo, x.cap.hi⟩, x.leak, x.gain⟩ := List.getElem?_set_self hi
  obtain ⟨o2, _, _⟩ := o1.put_ Rc.len (i := i) (j := 1) (x' := ⟨y, x.leak, x.gain⟩) (u := .int .i64 y.hi) hx1 (by omega) rfl (by rw [List.length_set]; exact hn)
  rw [List.set_set] at o2
  exact ⟨o2, (Kept.setCell wv ⟨q, i * 6, none⟩ _).trans (Kept.setCell _ ⟨q, i * 6 + 1, none⟩ _)⟩
theorem own_rc2 (h : Own wv base e 6 Rc.cells (.slice (some ⟨q, 0, none⟩) n c) D) (hx : D[i]? = some x) (hn : n = D.length) :
    wv.cell? ⟨q, i * 6, none⟩ = some (.int .i64 x.cap.lo) ∧ wv.cell? ⟨q, i * 6 + 1, none⟩ = some (.int .i64 x.cap.hi) ∧ wv.frozen? ⟨q, i * 6, none⟩ = false ∧ wv.frozen? ⟨q, i * 6 + 1, none⟩ = false := by
  subst hn
  have hi : i < D.length := (List.getElem?_eq_some_iff.1 hx).1
  refine ⟨?_, ?_, World.ownsRow.frozenAt h _, World.ownsRow.frozenAt h _⟩
  · rw [World.ownsRow.cellAt h (i * 6) (by omega)]
    exact flat_get Rc.len hx (j := 0) (by omega)
  · rw [World.ownsRow.cellAt h (i * 6 + 1) (by omega)]
    exact flat_get Rc.len hx (j := 1) (by omega)
theorem Own.blkn {α : Type} {cells : α → List Value} {w : World} {base : Nat} {e : TypeId} {k : Nat} {v : Value} {xs : List α} {n : Nat} (h : Own w base e k cells v xs) (hn : xs.length = n) (hpos : 0 < n) : ∃ g c, v = .slice (some ⟨g, 0, none⟩) n c ∧ base ≤ g ∧ g < w.heap.size := by
  obtain ⟨_, h | ⟨q, cap, cur, hv, hq, hq2, _⟩⟩ := h
  · have := h.2; omega
  · exact ⟨q, cap, by rw [← hn]; exact hv, hq, (Array.getElem?_eq_some_iff.1 hq2).1⟩
end
set_option maxHeartbeats 4000000 in
set_option maxRecDepth 100000 in
theorem suspects_any (A A1 : Option Addr) (g : List Rc) (s : Sp) (l : List Ga) (t : Sp) (n c n1 c1 : Nat) (w : World) (hn : n = g.length) (hn20 : n ≤ 20) (hpos : 1 ≤ n) (hx : Rd w w.heap.size Rc.cells A g)
    (hnl : n1 = l.length) (hn1 : n1 ≤ 100) (hx1 : Rd w w.heap.size Ga.cells A1 l) (hfine : ∀ r ∈ g, r.fine) (hs : s.fine 1000000) (ht : t.fine 1000000) (hga : gaIn n l) (hgf : ∀ x ∈ l, x.flow.fine 13000000) :
    Calls Try.prog 99 #[.slice A n c, .agg #[.int .i64 s.lo, .int .i64 s.hi], .slice A1 n1 c1, .agg #[.int .i64 t.lo, .int .i64 t.hi]] w (SuspPost g s l t w) := by
  obtain ⟨b5, w1, e5, ew1, hx5, hb1, hz1⟩ := mk_bx w #[.int .i64 s.lo, .int .i64 s.hi] 24
  obtain ⟨b7, w2, e7, ew2, hx7, hb2, hz2⟩ := mk_bx w1 #[.int .i64 t.lo, .int .i64 t.hi] 24
  have e57 : b5 + 1 = b7 := by have := e7.out; omega
  have hB2 := hb1.trans (hb2.mono hb1.size)
  replace hx5 := hx5.bel hb2
  have Hn := hide hn; have Hn1 := hide hnl; have Hx : Hid (Rd w2 w2.heap.size Rc.cells A g) := hide ((hx.below hB2).more hB2.size); have Hx1 : Hid (Rd w2 w2.heap.size Ga.cells A1 l) := hide ((hx1.below hB2).more hB2.size)
  have Hs := hide hs; have Hga := hide hga; have Hbd := hide (rdS_bd n l hgf); have Hfine := hide hfine; have Ht := hide ht
  have Hz2 := hide hz2
  clear hn hnl hx hx1 hs hga hgf hfine ht hz1 hz2
  have hmm := @run_makeMap Try.prog
  have HM := hide (MpV.made w2 Try.prog 3)
  have hbm0 := below_new w2 (.map #[] 0)
  go_enter Try.func99, Try.ntmps99
  go_wp2_with fail
  rw [ew1.out, e5.out, e57, ew2.out]
  clear hmm
  obtain ⟨bm, hbm1⟩ : ∃ bm, bm = b7 + 1 := ⟨_, rfl⟩
  rw [Hz2.out, ← hbm1] at HM
  rw [← hbm1]
  have hbm : bm = w2.heap.size := by rw [Hz2.out]; exact hbm1
  clear hbm1
  obtain ⟨wo, HW1⟩ : ∃ wo, Hid (w2.alloc (.map #[] 0) = wo) := ⟨_, hide rfl⟩
  rw [HW1.out] at HM hbm0 ⊢
  have Hbm := hide hbm
  have lbm : bm < wo.heap.size := HM.out.lt
  have l7 : b7 < w2.heap.size := hx7.lt
  clear HW1 hbm
  go_loopw [18] (fun i wr => ∃ (k : Nat) (V : Nat → Value), k ≤ n ∧ i = .int .i64 k ∧ Below w2.heap.size w2 wr ∧ Hid (MpV Try.prog 3 wr bm k (falM g s l t V k) (falN g s l t k).length) ∧ Hid (RowsV wr (bm + 1) g s l t V k)) (fun i _ => n - (intOf i).toNat)
  case atStart => exact ⟨0, fun _ => undef, by omega, rfl, hbm0, hide (HM.out.congr fun j => by simp [falM]), hide fun i hi => by omega⟩
  case round =>
    clear hbm0 HM
    obtain ⟨k, V, hk, rfl, hb, HM, HR⟩ := hrel
    by_cases hlt : k < n
    · obtain ⟨ba, offa, a0, a1, a2, a3, a4, a5, rfl, hba, hxk, d0, d1, d2, d3, d4, d5⟩ := (Hx.out.below hb).rc (i := k) (by have := Hn.out; omega)
      obtain ⟨b11, w11, e11, ew11, hx11, hb11, hz11⟩ := mk_bx wr #[.int .i64 a0, .int .i64 a1, .int .i64 a2, .int .i64 a3, .int .i64 a4, .int .i64 a5] 96
      have Hxk := hide hxk; have Hb := hide hb
      have hB11 := hb.trans (hb11.mono hb.size)
      clear hxk hb hz11
      go_wp2_with fail
      rw [ew11.out, e11.out]
      refine (clone_rc _ g n c w11 Hn.out hpos (by omega) ((Hx.out.below hB11).more hB11.size)).mono ?_
      rintro e w12 ⟨u, rfl, hou, hb12⟩
      obtain ⟨gc, cc, rfl, hgc1, hgc2⟩ := hou.blkn Hn.out.symm (by omega)
      have hB12 := hB11.trans (hb12.mono hB11.size)
      have hb012 := hb11.trans (hb12.mono hb11.size)
      obtain ⟨p0, p1, _⟩ := (hx11.bel hb12).at_.c6
      obtain ⟨p2, p3, _, _⟩ := (hx7.below hB12).w2
      obtain ⟨z0, z1, z2, z3⟩ := own_rc2 hou Hxk.out Hn.out
      have ib1 : (k : Int) < (n : Int) := by omega
      have Hou := hide hou
      clear hou d0 d1 d2 d3 d4 d5
      go_wp2_with fail
      obtain ⟨hoc, hkc⟩ := own_cap Hou.out Hxk.out ⟨min a0 t.lo, min a1 t.hi⟩ Hn.out
      simp only at hoc hkc
      have efall : g.set k ⟨⟨min a0 t.lo, min a1 t.hi⟩, ⟨a2, a3⟩, ⟨a4, a5⟩⟩ = fallS g k t := by
        unfold fallS fallR; rw [List.getD_eq_getElem?_getD, Hxk.out]; rfl
      rw [efall] at hoc
      clear efall p0 p1 p2 p3 z0 z1 z2 z3
      generalize (w12.setCell ⟨gc, k * 6, none⟩ (.int .i64 (min a0 t.lo))).setCell ⟨gc, k * 6 + 1, none⟩ (.int .i64 (min a1 t.hi)) = wc at hoc hkc ⊢
      have hb0c : Below wr.heap.size wr wc := hb012.trans (hkc.below (fun b hb => by have := hb11.size; omega) hb012.size)
      have hBc := Hb.out.trans (hb0c.mono Hb.out.size)
      have hx5c := hx5.below hBc
      have hMl : bm < wr.heap.size := HM.out.lt
      have hlbm : bm + 1 ≤ wc.heap.size := by have := hb0c.size; omega
      have Hfl : Hid (n = (fallS g k t).length) := hide (by rw [fallS_len]; exact Hn.out)
      have HFit := hide (fun Aa ca gb cb (wq : World) h1 h2 => fit_any Aa (some ⟨gb, 0, none⟩) n ca cb (fallS g k t) (rdS n l) s wq h1 h2 Hfl.out hn20 (rdS_len _ _) (fallS_fine Hfine.out Ht.out) Hbd.out Hs.out)
      have eF : flowsF (fallS g k t) (rdS n l) s = fitF g s l t k := by unfold fitF fitS; rw [← Hfl.out]
      cases hF : fitF g s l t k with
      | none =>
        have hp : FitPost (fallS g k t) (rdS n l) s = fun w e w' => ∃ v, e = .returned (.tuple #[v, .bool false]) ∧ Own w' w.heap.size 24 2 Sp.cells v [] ∧ Below w.heap.size w w' := by funext w e w'; simp [FitPost, eF, hF]
        simp only [hp] at HFit
        have HF := hide (show (fitF g s l t k).isSome = false by rw [hF]; rfl)
        clear hF eF hp hkc
        refine wp_region_held_drew (S := (fun W => Below wc.heap.size wc W)) (by kernel_rfl) (by (try dsimp only); exact (Below.refl _ _).drew) (fun hHeld => ?_)
        generalize World.drew wc = Wd7 at hHeld ⊢
        have hoc := hoc.bel hHeld
        have hbc := Below.refl Wd7.heap.size Wd7
        refine wpAnyH_take (i := 0) (oi := ⟨_, _, _, _, _, _⟩) (v := ?_) rfl (by kernel_rfl) (by kernel_rfl) (by kernel_rfl) (fun _ _ _ h => h) (Or.inl ⟨by rfl, ?_⟩) hHeld ?_
        rotate_left
        · (intro w hSw; (try dsimp only at hSw); go_simp; try (with_reducible rfl))
        try simp only [Act.put, List.setIfInBounds_toArray, List.set_cons_zero, List.set_cons_succ]
        refine wpAnyH_take (i := 1) (oi := ⟨_, _, _, _, _, _⟩) (v := ?_) rfl (by kernel_rfl) (by kernel_rfl) (by kernel_rfl) (fun _ _ _ h => h) (Or.inl ⟨by rfl, ?_⟩) hHeld ?_
        rotate_left
        · (intro w hSw; (try dsimp only at hSw); go_simp; try (with_reducible rfl))
        try simp only [Act.put, List.setIfInBounds_toArray, List.set_cons_zero, List.set_cons_succ]
        refine wpAnyH_take (i := 3) (oi := ⟨_, _, _, _, _, _⟩) (v := ?_) rfl (by kernel_rfl) (by kernel_rfl) (by kernel_rfl) (fun _ _ _ h => h) (Or.inl ⟨by rfl, ?_⟩) hHeld ?_
        rotate_left
        · (intro w hSw; (try dsimp only at hSw); obtain ⟨q0, q1, _, _⟩ := (hx5c.bel hSw).w2; go_simp; try (with_reducible rfl))
        try simp only [Act.put, List.setIfInBounds_toArray, List.set_cons_zero, List.set_cons_succ]
        refine wpAnyH_ready (rs := [2]) (by kernel_rfl) (by simp) ?_
        refine AllReadyH.cons (o := ⟨_, _, _, _, _, _⟩) rfl (fun K hK => ?_) AllReadyH.nil
        go_simp
        refine (open_any _ A1 (fallS g k t) l n _ n1 c1 _ Hfl.out hn20 (hoc.rdw) Hn1.out hn1 ((Hx1.out.below (hBc.trans (hHeld.mono hBc.size))).more (hBc.trans (hHeld.mono hBc.size)).size) Hga.out).mono ?_
        rintro e V45 ⟨Aa, ca, gb, cb, rfl, hoa, hob, hb⟩
        go_wp2_with fail
        have hHeldN := hHeld.trans (hb.mono hHeld.size)
        have hoc := hoc.bel hb
        have hbc := hbc.trans (hb.mono hbc.size)
        refine hK.out _ _ ?_ (fun hHeld2 => ?_)
        · exact hHeldN
        clear hK K hHeld hHeldN hb; have hHeld := hHeld2; clear hHeld2
        try simp only [Act.put, List.setIfInBounds_toArray, List.set_cons_zero, List.set_cons_succ]
        refine wpAnyH_ready (rs := [4]) (by kernel_rfl) (by simp) ?_
        refine AllReadyH.cons (o := ⟨_, _, _, _, _, _⟩) rfl (fun K hK => ?_) AllReadyH.nil
        go_simp
        refine (HFit.out Aa ca gb cb _ hoa.rdw hob.rdw).mono ?_
        rintro e V47 ⟨vf, rfl, hov, hb⟩
        replace hov := hov.mono (Nat.le_trans hlbm hHeld.size)
        go_wp2_with fail
        have hHeldN := hHeld.trans (hb.mono hHeld.size)
        have hoc := hoc.bel hb
        have hoa := hoa.bel hb
        have hob := hob.bel hb
        have hbc := hbc.trans (hb.mono hbc.size)
        refine hK.out _ _ ?_ (fun hHeld2 => ?_)
        · exact hHeldN
        clear hK K hHeld hHeldN hb; have hHeld := hHeld2; clear hHeld2
        try simp only [Act.put, List.setIfInBounds_toArray, List.set_cons_zero, List.set_cons_succ]
        refine wpAnyH_take (i := 5) (oi := ⟨_, _, _, _, _, _⟩) (v := ?_) rfl (by kernel_rfl) (by kernel_rfl) (by kernel_rfl) (fun _ _ _ h => h) (Or.inl ⟨by rfl, ?_⟩) hHeld ?_
        rotate_left
        · (intro w hSw; (try dsimp only at hSw); go_simp; try (with_reducible rfl))
        try simp only [Act.put, List.setIfInBounds_toArray, List.set_cons_zero, List.set_cons_succ]
        refine wpAnyH_take (i := 6) (oi := ⟨_, _, _, _, _, _⟩) (v := ?_) rfl (by kernel_rfl) (by kernel_rfl) (by kernel_rfl) (fun _ _ _ h => h) (Or.inl ⟨by rfl, ?_⟩) hHeld ?_
        rotate_left
        · (intro w hSw; (try dsimp only at hSw); go_simp; try (with_reducible rfl))
        try simp only [Act.put, List.setIfInBounds_toArray, List.set_cons_zero, List.set_cons_succ]
        refine wpAnyH_take (i := 7) (oi := ⟨_, _, _, _, _, _⟩) (v := ?_) rfl (by kernel_rfl) (by kernel_rfl) (by kernel_rfl) (fun _ _ _ h => h) (Or.inl ⟨by rfl, ?_⟩) hHeld ?_
        rotate_left
        · (intro w hSw; (try dsimp only at hSw); go_simp; try (with_reducible rfl))
        try simp only [Act.put, List.setIfInBounds_toArray, List.set_cons_zero, List.set_cons_succ]
        refine wpAnyH_take (i := 8) (oi := ⟨_, _, _, _, _, _⟩) (v := ?_) rfl (by kernel_rfl) (by kernel_rfl) (by kernel_rfl) (fun _ _ _ h => h) (Or.inl ⟨by rfl, ?_⟩) hHeld ?_
        rotate_left
        · (intro w hSw; (try dsimp only at hSw); go_simp; try (with_reducible rfl))
        try simp only [Act.put, List.setIfInBounds_toArray, List.set_cons_zero, List.set_cons_succ]
        refine wpAnyH_take (i := 9) (oi := ⟨_, _, _, _, _, _⟩) (v := ?_) rfl (by kernel_rfl) (by kernel_rfl) (by kernel_rfl) (fun _ _ _ h => h) (Or.inl ⟨by rfl, ?_⟩) hHeld ?_
        rotate_left
        · (intro w hSw; (try dsimp only at hSw); go_simp; try (with_reducible rfl))
        try simp only [Act.put, List.setIfInBounds_toArray, List.set_cons_zero, List.set_cons_succ]
        refine wpAnyH_done (by kernel_rfl) ?_ _
        go_wp2_with fail
        have hb0V := hb0c.trans (hHeld.mono hb0c.size)
        refine ⟨⟨k + 1, V, by omega, by go_num, Hb.out.trans (hb0V.mono Hb.out.size), hide ?_, hide ((HR.out.bel hb0V).miss HF.out)⟩, by simp [intOf]; omega⟩
        rw [falN_succ, if_neg (by rw [HF.out]; decide)]
        exact ((HM.out.bel hb0V).mono (by omega)).congr (falM_miss HF.out)
      | some F =>
        have hp : FitPost (fallS g k t) (rdS n l) s = fun w e w' => ∃ v, e = .returned (.tuple #[v, .bool true]) ∧ Own w' w.heap.size 24 2 Sp.cells v F ∧ Below w.heap.size w w' := by funext w e w'; simp [FitPost, eF, hF]
        simp only [hp] at HFit
        have HF := hide (show (fitF g s l t k).isSome = true by rw [hF]; rfl)
        have HF2 := hide (show (fitF g s l t k).getD [] = F by rw [hF]; rfl)
        clear hF eF hp hkc
        refine wp_region_held_drew (S := (fun W => Below wc.heap.size wc W)) (by kernel_rfl) (by (try dsimp only); exact (Below.refl _ _).drew) (fun hHeld => ?_)
        generalize World.drew wc = Wd7 at hHeld ⊢
        have hoc := hoc.bel hHeld
        have hbc := Below.refl Wd7.heap.size Wd7
        refine wpAnyH_take (i := 0) (oi := ⟨_, _, _, _, _, _⟩) (v := ?_) rfl (by kernel_rfl) (by kernel_rfl) (by kernel_rfl) (fun _ _ _ h => h) (Or.inl ⟨by rfl, ?_⟩) hHeld ?_
        rotate_left
        · (intro w hSw; (try dsimp only at hSw); go_simp; try (with_reducible rfl))
        try simp only [Act.put, List.setIfInBounds_toArray, List.set_cons_zero, List.set_cons_succ]
        refine wpAnyH_take (i := 1) (oi := ⟨_, _, _, _, _, _⟩) (v := ?_) rfl (by kernel_rfl) (by kernel_rfl) (by kernel_rfl) (fun _ _ _ h => h) (Or.inl ⟨by rfl, ?_⟩) hHeld ?_
        rotate_left
        · (intro w hSw; (try dsimp only at hSw); go_simp; try (with_reducible rfl))
        try simp only [Act.put, List.setIfInBounds_toArray, List.set_cons_zero, List.set_cons_succ]
        refine wpAnyH_take (i := 3) (oi := ⟨_, _, _, _, _, _⟩) (v := ?_) rfl (by kernel_rfl) (by kernel_rfl) (by kernel_rfl) (fun _ _ _ h => h) (Or.inl ⟨by rfl, ?_⟩) hHeld ?_
        rotate_left
        · (intro w hSw; (try dsimp only at hSw); obtain ⟨q0, q1, _, _⟩ := (hx5c.bel hSw).w2; go_simp; try (with_reducible rfl))
        try simp only [Act.put, List.setIfInBounds_toArray, List.set_cons_zero, List.set_cons_succ]
        refine wpAnyH_ready (rs := [2]) (by kernel_rfl) (by simp) ?_
        refine AllReadyH.cons (o := ⟨_, _, _, _, _, _⟩) rfl (fun K hK => ?_) AllReadyH.nil
        go_simp
        refine (open_any _ A1 (fallS g k t) l n _ n1 c1 _ Hfl.out hn20 (hoc.rdw) Hn1.out hn1 ((Hx1.out.below (hBc.trans (hHeld.mono hBc.size))).more (hBc.trans (hHeld.mono hBc.size)).size) Hga.out).mono ?_
        rintro e V45 ⟨Aa, ca, gb, cb, rfl, hoa, hob, hb⟩
        go_wp2_with fail
        have hHeldN := hHeld.trans (hb.mono hHeld.size)
        have hoc := hoc.bel hb
        have hbc := hbc.trans (hb.mono hbc.size)
        refine hK.out _ _ ?_ (fun hHeld2 => ?_)
        · exact hHeldN
        clear hK K hHeld hHeldN hb; have hHeld := hHeld2; clear hHeld2
        try simp only [Act.put, List.setIfInBounds_toArray, List.set_cons_zero, List.set_cons_succ]
        refine wpAnyH_ready (rs := [4]) (by kernel_rfl) (by simp) ?_
        refine AllReadyH.cons (o := ⟨_, _, _, _, _, _⟩) rfl (fun K hK => ?_) AllReadyH.nil
        go_simp
        refine (HFit.out Aa ca gb cb _ hoa.rdw hob.rdw).mono ?_
        rintro e V47 ⟨vf, rfl, hov, hb⟩
        replace hov := hov.mono (Nat.le_trans hlbm hHeld.size)
        go_wp2_with fail
        have hHeldN := hHeld.trans (hb.mono hHeld.size)
        have hoc := hoc.bel hb
        have hoa := hoa.bel hb
        have hob := hob.bel hb
        have hbc := hbc.trans (hb.mono hbc.size)
        refine hK.out _ _ ?_ (fun hHeld2 => ?_)
        · exact hHeldN
        clear hK K hHeld hHeldN hb; have hHeld := hHeld2; clear hHeld2
        try simp only [Act.put, List.setIfInBounds_toArray, List.set_cons_zero, List.set_cons_succ]
        refine wpAnyH_take (i := 5) (oi := ⟨_, _, _, _, _, _⟩) (v := ?_) rfl (by kernel_rfl) (by kernel_rfl) (by kernel_rfl) (fun _ _ _ h => h) (Or.inl ⟨by rfl, ?_⟩) hHeld ?_
        rotate_left
        · (intro w hSw; (try dsimp only at hSw); go_simp; try (with_reducible rfl))
        try simp only [Act.put, List.setIfInBounds_toArray, List.set_cons_zero, List.set_cons_succ]
        refine wpAnyH_take (i := 6) (oi := ⟨_, _, _, _, _, _⟩) (v := ?_) rfl (by kernel_rfl) (by kernel_rfl) (by kernel_rfl) (fun _ _ _ h => h) (Or.inl ⟨by rfl, ?_⟩) hHeld ?_
        rotate_left
        · (intro w hSw; (try dsimp only at hSw); go_simp; try (with_reducible rfl))
        try simp only [Act.put, List.setIfInBounds_toArray, List.set_cons_zero, List.set_cons_succ]
        refine wpAnyH_take (i := 7) (oi := ⟨_, _, _, _, _, _⟩) (v := ?_) rfl (by kernel_rfl) (by kernel_rfl) (by kernel_rfl) (fun _ _ _ h => h) (Or.inl ⟨by rfl, ?_⟩) hHeld ?_
        rotate_left
        · (intro w hSw; (try dsimp only at hSw); go_simp; try (with_reducible rfl))
        try simp only [Act.put, List.setIfInBounds_toArray, List.set_cons_zero, List.set_cons_succ]
        refine wpAnyH_take (i := 8) (oi := ⟨_, _, _, _, _, _⟩) (v := ?_) rfl (by kernel_rfl) (by kernel_rfl) (by kernel_rfl) (fun _ _ _ h => h) (Or.inl ⟨by rfl, ?_⟩) hHeld ?_
        rotate_left
        · (intro w hSw; (try dsimp only at hSw); go_simp; try (with_reducible rfl))
        try simp only [Act.put, List.setIfInBounds_toArray, List.set_cons_zero, List.set_cons_succ]
        refine wpAnyH_take (i := 9) (oi := ⟨_, _, _, _, _, _⟩) (v := ?_) rfl (by kernel_rfl) (by kernel_rfl) (by kernel_rfl) (fun _ _ _ h => h) (Or.inl ⟨by rfl, ?_⟩) hHeld ?_
        rotate_left
        · (intro w hSw; (try dsimp only at hSw); go_simp; try (with_reducible rfl))
        try simp only [Act.put, List.setIfInBounds_toArray, List.set_cons_zero, List.set_cons_succ]
        refine wpAnyH_done (by kernel_rfl) ?_ _
        have hb0V := hb0c.trans (hHeld.mono hb0c.size)
        have HM2 := hide (HM.out.bel hb0V); have HR2 := hide (HR.out.bel hb0V); have Hov := hide hov
        have hok : okI (k : Int) := by unfold okI; omega
        have Hok := hide hok
        clear hov hoa hob hoc hok
        go_wp2_with (at_mapUpdate; refine wpList_mapWriteV rfl (.tmp 51) (.tmp 52) (.tmp 53) rfl Try.underlying3 Try.underlying123 HM2.out (by omega) rfl k rfl Hok.out vf rfl ?_; intro w9 hM9 hg9; have HM9 := hide hM9; have HG9 := hide hg9; clear hM9 hg9)
        have hk9 := Kept.grown HG9.out
        have hb09 := Hb.out.trans (hb0V.mono Hb.out.size)
        refine ⟨⟨k + 1, fun i => if i = k then vf else V i, by omega, by go_num, hb09.trans (hk9.below (fun b hb e => by have := Hbm.out; simp at e; omega) hb09.size), hide ?_, hide ?_⟩, by simp [intOf]; omega⟩
        · rw [falN_succ, if_pos HF.out, List.length_append]
          have h1 := HM9.out
          rw [falM_new] at h1
          exact h1.congr (falM_hit HF.out vf)
        · exact (HR2.out.kept hk9 (fun b hb e => by simp at e; omega)).hit (by rw [HF2.out]; exact Hov.out.keptG hk9 (fun q hq e => by have := (Hov.out.blockG hq).1; simp at e; omega))
    · obtain rfl : n = k := by omega
      go_wp2_with fail
      go_ret
      refine ⟨bm, V, rfl, by have := Hbm.out; have := hB2.size; omega, ?_, ?_, hB2.trans (hb.mono hB2.size)⟩
      · rw [← Hn.out]; exact HM.out
      · rw [← Hn.out]; exact HR.out
end Go.Proofs.Ytkmocikcohhdoaa
