/- Gallery: fit, where nothing tears, by contract. -/
import Derived.Test.YtgklcilpohkpkaaFD
set_option linter.unusedVariables false
set_option linter.unusedSimpArgs false
namespace Go.Proofs.Ytgklcilpohkpkaa
open Go.RowKit Go.Shelf
attribute [local go_sem] Oper.semAt_some
theorem set_same {α : Type} {l : List α} {i : Nat} {x : α} (h : l[i]? = some x) : l.set i x = l := by
  apply List.ext_getElem?
  intro j
  by_cases e : i = j
  · subst e
    rw [List.getElem?_set_self (List.getElem?_eq_some_iff.1 h).1, h]
  · rw [List.getElem?_set_ne e]
theorem sp_eq {a b : Sp} (h1 : a.lo = b.lo) (h2 : a.hi = b.hi) : a = b := by cases a; cases b; simp_all
theorem ne_ite {y f : Sp} {α : Type} {a b : α} (h : ¬ y = f) : (if y.lo = f.lo then (if y.hi = f.hi then a else b) else b) = b := by
  split
  · rename_i h1; split
    · rename_i h2; exact absurd (sp_eq h1 h2) h
    · rfl
  · rfl
theorem rcall {l n : Nat} {P : Program} {f : FuncId} {args : Array Value} {w : World} {R : Ending → World → Prop} (h : Calls P f args w R) : (Fence.wide.inRound l).fn f ∧ CallsIn (Fence.wide.inRound l) n P f args w R :=
  ⟨trivial, CallsIn.inRound l (callsIn_wide.2 h)⟩
/-- What the way up has found behind so many shafts. -/
def UpInv (g : List Rc) (rd : List Sp) (s : Sp) (m : Nat) (F : List Sp) : Prop :=
  F.length = g.length + 1 ∧ F.take m = ((List.range (g.length + 1)).map (dnK g rd s)).take m ∧ flowsF (g.drop m) (rd.drop m) (inK g rd s m) = some (F.drop m)
theorem UpInv.start {g : List Rc} {rd : List Sp} {s : Sp} (h : okS (dnK g rd s g.length)) : UpInv g rd s g.length ((List.range (g.length + 1)).map (dnK g rd s)) := by
  refine ⟨by simp, rfl, ?_⟩
  rw [flowsF_last g rd s h, List.range_succ, List.map_append, List.drop_left' (by simp)]
  rfl
theorem UpInv.step {g : List Rc} {rd : List Sp} {s : Sp} {m : Nat} {F : List Sp} {r : Rc} (h : UpInv g rd s (m + 1) F) (hr : g[m]? = some r) (hok : okS (dnK g rd s m)) : ∃ t, F[m]? = some (dnK g rd s m) ∧ F[m + 1]? = some t ∧ UpInv g rd s m (F.set m (upS r (dnK g rd s m) t)) ∧
    ((∀ r ∈ g, r.fine) → (leastF r (dnK g rd s m).lo ≤ t.lo ∧ t.lo ≤ t.hi ∧ t.hi ≤ mostF r (dnK g rd s m).hi)) := by
  obtain ⟨hl, ht, hf⟩ := h
  have hm : m < g.length := (List.getElem?_eq_some_iff.1 hr).1
  have h1 : F[m + 1]? = some F[m + 1] := List.getElem?_eq_getElem (by omega)
  have h0 : F[m]? = some (dnK g rd s m) := by
    have e1 : (F.take (m + 1))[m]? = F[m]? := by rw [List.getElem?_take, if_pos (by omega)]
    rw [← e1, ht, List.getElem?_take, if_pos (by omega), List.getElem?_map, List.getElem?_range (by omega)]
    rfl
  have hd : F.drop (m + 1) = F[m + 1] :: F.drop (m + 1 + 1) := List.drop_eq_getElem_cons (by omega)
  refine ⟨F[m + 1], h0, h1, ⟨by simp [hl], ?_, ?_⟩, fun hfine => ?_⟩
  · rw [List.take_set_of_le (by omega)]
    have e2 : F.take m = (F.take (m + 1)).take m := by rw [List.take_take, Nat.min_eq_left (by omega)]
    rw [e2, ht, List.take_take, Nat.min_eq_left (by omega)]
  · rw [hd] at hf
    have h5 := flowsF_up g rd s m r hr _ _ hok hf
    rw [h5, List.drop_set, if_neg (by omega), Nat.sub_self]
    have h6 : F.drop m = dnK g rd s m :: F[m + 1] :: F.drop (m + 1 + 1) := by
      rw [List.drop_eq_getElem_cons (by omega), hd]
      congr 1
      rw [List.getElem?_eq_getElem (by omega)] at h0
      injection h0
    rw [h6]; rfl
  · obtain ⟨t', l', e, a1, a2, a3⟩ := flowsF_head _ _ _ _ (fun r hr => hfine r (List.mem_of_mem_drop hr)) hf
    rw [hd] at e
    injection e with e _
    rw [← e] at a1 a2 a3
    rw [inK_succ, show g.getD m Rc.zero = r by rw [List.getD_eq_getElem?_getD, hr]; rfl] at a1 a3
    obtain ⟨b1, b2⟩ := cutS_sub (a := outS r (dnK g rd s m)) (b := (rd.drop (m + 1)).headD allS)
    exact ⟨Int.le_trans b1 a1, a2, Int.le_trans a3 b2⟩
theorem UpInv.done {g : List Rc} {rd : List Sp} {s : Sp} {F : List Sp} (h : UpInv g rd s 0 F) : flowsF g rd s = some F := by
  have := h.2.2
  simpa [inK] using this
set_option maxHeartbeats 4000000 in
set_option maxRecDepth 100000 in
theorem fit_ok (Aa Ar : Option Addr) (n ca cr : Nat) (g : List Rc) (rd : List Sp) (s : Sp) (w : World) (hg : Rd w w.heap.size Rc.cells Aa g) (hr : Rd w w.heap.size Sp.cells Ar rd) (hn : n = g.length) (hn2 : n ≤ 20) (hrl : rd.length = n + 1) (hfine : ∀ r ∈ g, r.fine)
    (hrd : ∀ x ∈ rd, 0 ≤ x.lo ∧ x.lo ≤ 13000000 ∧ 0 ≤ x.hi ∧ x.hi ≤ 13000000) (hs : s.fine 1000000) (hok : ∀ k, k ≤ n → okS (dnK g rd s k)) :
    Calls Try.prog 86 #[.agg #[.slice Aa n ca, .slice Ar (n + 1) cr], .agg #[.int .i64 s.lo, .int .i64 s.hi]] w (FitPost g rd s w) := by
  obtain ⟨b2, w1, e2, ew1, hx2, hb1, hz1⟩ := mk_bx w #[.slice Aa n ca, .slice Ar (n + 1) cr] 145
  obtain ⟨b3, w2, e3, ew2, hx3, hb2, hz2⟩ := mk_bx w1 #[.int .i64 s.lo, .int .i64 s.hi] 51
  obtain ⟨b4, w3, e4, ew3, hx4, hb3, hz3⟩ := mk_bx w2 #[.slice none 0 0] 52
  obtain ⟨b5, w4, e5, ew4, hx5, hb4, hz4⟩ := mk_bx w3 #[.bool false] 4
  have i3 : b3 = b2 + 1 := by have := e3.out; omega
  subst i3
  have i4 : b4 = b2 + 1 + 1 := by have := e4.out; omega
  subst i4
  have i5 : b5 = b2 + 1 + 1 + 1 := by have := e5.out; omega
  subst i5
  have i2 : w.heap.size = b2 := e2.out
  have hB4 := ((hb1.trans (hb2.mono hb1.size)).trans (hb3.mono (hb1.trans (hb2.mono hb1.size)).size)).trans (hb4.mono ((hb1.trans (hb2.mono hb1.size)).trans (hb3.mono (hb1.trans (hb2.mono hb1.size)).size)).size)
  obtain ⟨bc, w5, ec, ew5, hxc, hb5, hz5⟩ := mk_bx w4 #[.slice Aa n ca, .slice Ar (n + 1) cr] 145
  obtain ⟨bi, w6, ei, ew6, hxi, hb6, hz6⟩ := mk_bx w5 #[.int .i64 s.lo, .int .i64 s.hi] 51
  have j1 : bi = bc + 1 := by have := ei.out; omega
  subst j1
  have j2 : w4.heap.size = bc := ec.out
  have hb46 := hb5.trans (hb6.mono hb5.size)
  have hB6 := hB4.trans (hb46.mono hB4.size)
  have hs6 : w.heap.size ≤ w6.heap.size := hB6.size
  have HC := hide (collect_sp 130 #[.pointer (some ⟨bc + 1, 0, none⟩), .pointer (some ⟨bc, 0, none⟩)] (dnK g rd s) (n + 1) True (TornAt n (n + 1)) (fun b => b < w.heap.size ∨ b = bc + 1 ∨ b = bc) w6 enters_down1
    (fun n0 hn0 => down1_seq n0 hn0 (bc + 1) bc Aa Ar n ca cr g rd s w.heap.size w6 (n + 1) True hs6 hxi.at_ (hxc.bel hb6).at_ (hg.below hB6) (hr.below hB6) hn hn2 hrl hfine hrd hs (fun k hk => hok k (by omega)) (.inl ⟨rfl, trivial⟩)) (fun b hb => by omega) (by omega))
  have hmf : ∀ (fn : Fn) (first cap : Array Value) (w : World), (Instr.makeFunc fn first cap).run Try.prog w = .ok (.func fn first cap) w := fun _ _ _ _ => rfl
  have hx24 := ((hx2.bel hb2).bel hb3).bel hb4
  have hx34 := (hx3.bel hb3).bel hb4
  have hx44 := hx4.bel hb4
  obtain ⟨q0, q1, _, _⟩ := hx24.w2
  obtain ⟨q2, q3, _, _⟩ := hx34.w2
  have Hn := hide hn; have Hg := hide hg; have Hfine := hide hfine; have Hok := hide hok
  have Hbd := hide (dnK_bd hfine hrd hs)
  clear hg hr hfine hrd hs hok hrl hx2 hx3 hx4 hz1 hz2 hz3 hz4 hz5 hz6 hn
  refine (callsIn_wide (n := 12)).1 ?_
  refine callsIn_of_wp_marks Try.func86 rfl trivial ?_ rfl
  simp only [Try.ntmps86, List.size_toArray, List.length_cons, List.length_nil, Nat.reduceAdd, Nat.reduceSub, Array.replicate_succ, Array.replicate_zero, List.push_toArray, List.append_toArray, List.nil_append, List.cons_append]
  gi_wp2_with fail
  rw [ew1.out, ew2.out, ew3.out, ew4.out]
  refine wcall ((down_fn Aa Ar n (n + 1) ca cr s.lo s.hi w4).mono ?_)
  rintro e wd ⟨rfl, hw⟩
  rw [ew5.out, ew6.out] at hw
  subst hw
  rw [j2]
  gi_wp2_with fail
  refine wcall (HC.out.mono ?_)
  rintro e w7 (⟨_, v, rfl, ho7, hb7⟩ | ⟨chain, k, rfl, ⟨hbad, _⟩, _⟩)
  rotate_left
  · omega
  obtain ⟨A7, c7, rfl, hrd7⟩ := ho7.rdn (n + 1) (by simp)
  have hA7 : ∃ gf, A7 = some ⟨gf, 0, none⟩ ∧ wd.heap.size ≤ gf ∧ gf < w7.heap.size := by
    obtain ⟨_, h | ⟨q, cap, cur, hv, hq, hq2, _⟩⟩ := ho7
    · have := h.2; simp at this
    · injection hv with h1 h2 h3
      exact ⟨q, h1, hq, (Array.getElem?_eq_some_iff.1 hq2).1⟩
  obtain ⟨gf, rfl, hgf1, hgf2⟩ := hA7
  have hx47 := (hx44.bel hb46).bel hb7
  have hx57 := (hx5.bel hb46).bel hb7
  have hx27 := (hx24.bel hb46).bel hb7
  have hB7 := hB6.trans (hb7.mono hB6.size)
  obtain ⟨p0, y0⟩ := hx47.w1
  obtain ⟨v0, v1, _, _⟩ := hx27.w2
  have l47 := hx47.lt
  have l27 := hx27.lt
  have i6 : bc + 1 < wd.heap.size := hxi.lt
  have i7 : b2 + 1 + 1 + 1 < bc := by have := hx5.lt; omega
  clear hrd7
  gi_wp2_with fail
  refine wcall (calls_gen fun w8 Hw8 => ?_)
  have hk8 : Kept (fun b => b ≠ b2 + 1 + 1) w7 w8 := by rw [← Hw8.out]; exact Kept.setCell w7 ⟨b2 + 1 + 1, 0, none⟩ _
  have hx48 : Bx w8 (b2 + 1 + 1) [.slice (some ⟨gf, 0, none⟩) (n + 1) c7] := by rw [← Hw8.out]; simpa using hx47.set (j := 0) (.slice (some ⟨gf, 0, none⟩) (n + 1) c7) (by simp)
  have hx58 := hx57.kept hk8 (by omega)
  have ho8 := ho7.keptG hk8 (fun g hg => by have := (ho7.blockG hg).1; omega)
  have hB8 := hB7.trans (hk8.below (fun b hb => by omega) hB7.size)
  have hs8 := hk8.size
  obtain ⟨bs, w9, es, ew9, hxs, hb9, hz9⟩ := mk_bx w8 #[.slice Aa n ca] 143
  refine (back_fn Aa n ca w8).mono ?_
  rintro e w10 ⟨rfl, hw⟩
  rw [ew9.out] at hw
  subst hw
  rw [es.out]
  have ebs : w8.heap.size = bs := es.out
  have hx49 := hx48.bel hb9
  have hx59 := hx58.bel hb9
  have ho9 := ho8.bel hb9
  have hB9 := hB8.trans (hb9.mono hB8.size)
  have hlt9 : w.heap.size < w10.heap.size := by have := hB8.size; omega
  have hseq := fun n0 hn0 => back1_seq n0 hn0 bs Aa n ca g w.heap.size w10 (by omega) hxs.at_ (Hg.out.below hB9) Hn.out hn2
  clear hx48 hx58 ho8 hk8 hx47 hx57 ho7 hb7 p0 y0 v0 v1 hx27 HC
  gi_wp2_with fail
  have E1 := hide enters_back1
  refine wp_range (gf := 131) rfl E1.out (hseq _ (by omega)) (Kept.all _ (Below.refl _ _)) (fun _ => rfl) (fun b => b = gf)
    (fun b h => h.elim) (by intro b hb; omega) (by intro b hb; omega)
    (fun k Wz => ∃ F, Own Wz w.heap.size 51 2 Sp.cells (.slice (some ⟨gf, 0, none⟩) (n + 1) c7) F ∧ UpInv g rd s (n - k) F ∧ Kept (fun b => b < w10.heap.size ∧ b ≠ gf) w10 Wz)
    (fun c k Wz => False)
    (fun k a Wz => ∃ b7, a.tmps.size = 56 ∧ a.defers = [] ∧ slot a 4 = .pointer (some ⟨b2 + 1 + 1, 0, none⟩) ∧ slot a 6 = .int .i64 ((n - 1 - k : Nat) : Int) ∧ slot a 7 = .pointer (some ⟨b7, 0, none⟩) ∧ At Wz b7 [.int .i64 (g.getD (n - 1 - k) Rc.zero).cap.lo, .int .i64 (g.getD (n - 1 - k) Rc.zero).cap.hi, .int .i64 (g.getD (n - 1 - k) Rc.zero).leak.lo, .int .i64 (g.getD (n - 1 - k) Rc.zero).leak.hi, .int .i64 (g.getD (n - 1 - k) Rc.zero).gain.lo, .int .i64 (g.getD (n - 1 - k) Rc.zero).gain.hi] ∧ w10.heap.size + 2 ≤ b7)
    (fun k A B h hk => by
      obtain ⟨F, h1, h2, h3⟩ := h
      exact ⟨F, h1.keptG hk (fun q hq => by simp [Value.ownBlock] at hq; exact ⟨fun h => h, by omega, by omega⟩), h2, h3.trans (hk.mono fun b _ hb => ⟨fun h => h, by omega, by omega⟩)⟩)
    (fun c k A B h hk => h)
    (fun k a A B h hk => by
      obtain ⟨b7, h1, h2, h3, h4, h5, h6, h7⟩ := h
      exact ⟨b7, h1, h2, h3, h4, h5, h6.kept hk (by omega), h7⟩)
    (fun Wz hk hs => ⟨_, (ho9.keptG hk (fun _ _ => trivial)).mono (by omega), by rw [Nat.sub_zero, Hn.out]; exact UpInv.start (Hok.out _ (by rw [Hn.out]; exact Nat.le_refl _)), hk.mono fun _ _ _ => trivial⟩)
    (fun h => h.elim) ?assign ?body ?done ?stop ?panic
  case panic => intro k chain Wz h; exact h.elim
  case stop => intro c k Wz hk h; exact h.elim
  case assign =>
    intro l k Wz hi hz hk
    simp only [rcAgg]
    have Hi := hide hi
    clear hi
    generalize g.getD (n - 1 - k) Rc.zero = rk
    generalize n - 1 - k = m
    gi_wp2_with fail
    obtain ⟨F, h1, h2, h3⟩ := Hi.out
    have hka := Kept.alloc (fun _ => True) Wz (.cells #[.int .i64 rk.cap.lo, .int .i64 rk.cap.hi, .int .i64 rk.leak.lo, .int .i64 rk.leak.hi, .int .i64 rk.gain.lo, .int .i64 rk.gain.hi] 150)
    exact ⟨Kept.alloc _ _ _, ⟨F, h1.keptG hka (fun _ _ => trivial), h2, h3.trans (hka.mono fun _ _ _ => trivial)⟩, _, by first | rfl | trivial, by first | rfl | trivial, by first | rfl | trivial, by first | rfl | trivial, by first | rfl | trivial, At.new Wz _ _ _ rfl _ rfl, hz⟩
  case body =>
    rintro l k a Wz ⟨F, hF, hU, hkz⟩ ⟨b7, hs, hd, s4, s6, s7, h7, hb7⟩ hz hk
    rw [act_eq hs hd]
    obtain ⟨u, hu⟩ : ∃ u, u = slot a := ⟨_, rfl⟩
    rw [← hu] at s4 s6 s7 ⊢
    have he : ({ tmps := ((List.range 56).map u).toArray, defers := [] } : Act) = { tmps := #[(u 0), (u 1), (u 2), (u 3), (u 4), (u 5), (u 6), (u 7), (u 8), (u 9), (u 10), (u 11), (u 12), (u 13), (u 14), (u 15), (u 16), (u 17), (u 18), (u 19), (u 20), (u 21), (u 22), (u 23), (u 24), (u 25), (u 26), (u 27), (u 28), (u 29), (u 30), (u 31), (u 32), (u 33), (u 34), (u 35), (u 36), (u 37), (u 38), (u 39), (u 40), (u 41), (u 42), (u 43), (u 44), (u 45), (u 46), (u 47), (u 48), (u 49), (u 50), (u 51), (u 52), (u 53), (u 54), (u 55)], defers := [] } := rfl
    rw [he, s4, s6, s7]
    clear he hs hd hu s4 s6 s7
    obtain ⟨m, hm⟩ : ∃ m, n - k = m + 1 := ⟨n - k - 1, by omega⟩
    have em : n - 1 - k = m := by omega
    have hmn : m < n := by omega
    rw [em] at h7 ⊢
    rw [hm] at hU
    obtain ⟨r, hrg⟩ : ∃ r, g[m]? = some r := ⟨_, List.getElem?_eq_getElem (by rw [← Hn.out]; exact hmn)⟩
    have er : g.getD m Rc.zero = r := by rw [List.getD_eq_getElem?_getD, hrg]; rfl
    rw [er] at h7
    have hokm := Hok.out m (by omega)
    obtain ⟨t, hf0, hf1, hU2, hb⟩ := hU.step hrg hokm
    have hrf := Hfine.out r (List.mem_of_getElem? hrg)
    obtain ⟨hb1', hb2', hb3'⟩ := hb Hfine.out
    have hbd := (Hbd.out m (by rw [← Hn.out]; omega) (fun j hj => Hok.out j (by omega))).2
    obtain ⟨f, hfe⟩ : ∃ f, f = dnK g rd s m := ⟨_, rfl⟩
    rw [← hfe] at hf0 hU2 hb1' hb3' hbd hokm
    unfold okS at hokm
    have hFl : n + 1 = F.length := by rw [hU.1, Hn.out]
    have HFl := hide hFl; have HU2 := hide hU2; have Hrf := hide hrf; have Hf0 := hide hf0; have Hf1 := hide hf1; have Hm := hide hm; have Hkz := hide hkz; have HF := hide hF
    have hx4z := hx49.kept hkz ⟨by omega, by omega⟩
    obtain ⟨p0, y0⟩ := hx4z.w1
    obtain ⟨c0, c1, _, _⟩ := gown_sp hF hf1 hFl
    obtain ⟨d0, d1, _, _⟩ := gown_sp hF hf0 hFl
    have ib1 : (m : Int) + 1 < (n : Int) + 1 := by omega
    have ib2 : IntKind.i64.wrap ((m : Int) + 1) = (m : Int) + 1 := wrapI (by omega)
    have ib3 : 0 ≤ (m : Int) + 1 := by omega
    have ib4 : (m : Int) < (n : Int) + 1 := by omega
    have lz := hx4z.lt
    have lgf : gf < Wz.heap.size := by have := hkz.size; omega
    clear hF hU hkz hm em hrg er hf0 hf1 hU2 hb hrf hfe hFl i2 j2 ebs hz9
    gi_wp2_with fail
    obtain ⟨b8, V1, e8, ev1, hx8, hV1, hzV1⟩ := mk_bx Wz #[.int .i64 t.lo, .int .i64 t.hi] 51
    rw [ev1.out, e8.out]
    have h71 := h7.bel hV1
    refine rcall ((search_any 115 #[.pointer (some ⟨b7, 0, none⟩), .pointer (some ⟨b8, 0, none⟩)] (fun n => decide (t.lo ≤ mostF r n)) f.lo f.hi V1 hbd.1 hokm hbd.2.2.2 enters_fit2
      (fun n W h1 h2 hW => fit2_any n b7 b8 r t W (h71.below hW) (hx8.at_.below hW) (by omega) Hrf.out)).mono ?_)
    rintro e V2 ⟨q1, rfl, hq1, hq2, hq3, hV2⟩
    have eq1 : q1 = (upS r f t).lo := up_lo hokm hq1 (fun h => by simpa using hq2 h) (fun h => by simpa using hq3 h) (Int.le_trans hb2' hb3')
    rw [eq1]
    have hV02 := hV1.trans (hV2.mono hV1.size)
    have hx82 := hx8.bel hV2
    have h72 := h71.bel hV2
    have hF2 := HF.out.bel hV02
    obtain ⟨p0, y0⟩ := (hx4z.bel hV02).w1
    obtain ⟨d0, d1, _, _⟩ := gown_sp hF2 Hf0.out HFl.out
    clear hq1 hq2 hq3 eq1 c0 c1
    gi_wp2_with fail
    refine rcall ((search_any 116 #[.pointer (some ⟨b7, 0, none⟩), .pointer (some ⟨b8, 0, none⟩)] (fun n => decide (t.hi < leastF r n)) f.lo f.hi V2 hbd.1 hokm hbd.2.2.2 enters_fit3
      (fun n W h1 h2 hW => fit3_any n b7 b8 r t W (h72.below hW) (hx82.at_.below hW) (by omega) Hrf.out)).mono ?_)
    rintro e V3 ⟨q2, rfl, hq1, hq2, hq3, hV3⟩
    have eq2 : q2 - 1 = (upS r f t).hi := up_hi hokm hq1 (fun h => by simpa using hq2 h) (fun h => by simpa using hq3 h) (Int.le_trans hb1' hb2')
    have wq : IntKind.i64.wrap (q2 - 1) = (upS r f t).hi := by rw [← eq2]; exact wrapI (by omega)
    have hV03 := hV02.trans (hV3.mono hV02.size)
    have hF3 := HF.out.bel hV03
    have hx43 := hx4z.bel hV03
    obtain ⟨u1, u2, u3⟩ := up_ok Hrf.out hokm hb2' hb1' hb3'
    obtain ⟨y, hy⟩ : ∃ y, y = upS r f t := ⟨_, rfl⟩
    rw [← hy] at wq u1 u2 u3 HU2 ⊢
    clear hq1 hq2 hq3 eq2 p0 y0 d0 d1 hF2 hx82 h72 h71 hx8 hy
    gi_wp2_with fail
    obtain ⟨b11, V4, e11, ev4, hx11, hV4, hzV4⟩ := mk_bx V3 #[.int .i64 y.lo, .int .i64 y.hi] 51
    rw [ev4.out, e11.out]
    have hV04 := hV03.trans (hV4.mono hV03.size)
    have hF4 := HF.out.bel hV04
    have hx44z := hx4z.bel hV04
    obtain ⟨d0, d1, _, _⟩ := gown_sp hF4 Hf0.out HFl.out
    have lgf4 : gf < V4.heap.size := by have := hV04.size; omega
    by_cases hyf : y = f
    · have hyf1 : y.lo = f.lo := by rw [hyf]
      have hyf2 : y.hi = f.hi := by rw [hyf]
      have Hyf := hide hyf
      rw [hyf1, hyf2] at hx11 ⊢
      clear hyf hyf1 hyf2
      refine wpIn_region_S (S := (fun W => Below V4.heap.size V4 W)) (z := 6) (by kernel_rfl) (by (try dsimp only); exact (Below.refl _ _).drew) (fun hHeld => ?_)
      generalize World.drew V4 = Wd10 at hHeld ⊢
      have hbc := Below.refl Wd10.heap.size Wd10
      refine tkS 0 ?_ rfl (Or.inl ⟨by rfl, ?_⟩) hHeld ?_
      rotate_left
      · (intro w hSw; (try dsimp only at hSw); obtain ⟨x0, x1, _, _⟩ := (hx11.below hSw).w2; obtain ⟨p0, _⟩ := (hx44z.below hSw).w1; have d0 := (hSw.cell (p := ⟨gf, m * 2, none⟩) lgf4).trans d0; have d1 := (hSw.cell (p := ⟨gf, m * 2 + 1, none⟩) lgf4).trans d1; go_simp; try (with_reducible rfl))
      try simp only [Act.put, tl1, tl2, tl3]
      refine tkS 1 ?_ rfl (Or.inl ⟨by rfl, ?_⟩) hHeld ?_
      rotate_left
      · (intro w hSw; (try dsimp only at hSw); obtain ⟨x0, x1, _, _⟩ := (hx11.below hSw).w2; obtain ⟨p0, _⟩ := (hx44z.below hSw).w1; have d0 := (hSw.cell (p := ⟨gf, m * 2, none⟩) lgf4).trans d0; have d1 := (hSw.cell (p := ⟨gf, m * 2 + 1, none⟩) lgf4).trans d1; go_simp; try (with_reducible rfl))
      try simp only [Act.put, tl1, tl2, tl3]
      refine tkS 2 ?_ rfl (Or.inl ⟨by rfl, ?_⟩) hHeld ?_
      rotate_left
      · (intro w _; go_simp; try (with_reducible rfl))
      try simp only [Act.put, tl1, tl2, tl3]
      refine tkS 3 ?_ rfl (Or.inl ⟨by rfl, ?_⟩) hHeld ?_
      rotate_left
      · (intro w _; go_simp; try (with_reducible rfl))
      try simp only [Act.put, tl1, tl2, tl3]
      refine tkS 4 ?_ rfl (Or.inl ⟨by rfl, ?_⟩) hHeld ?_
      rotate_left
      · (intro w hSw; (try dsimp only at hSw); obtain ⟨x0, x1, _, _⟩ := (hx11.below hSw).w2; obtain ⟨p0, _⟩ := (hx44z.below hSw).w1; have d0 := (hSw.cell (p := ⟨gf, m * 2, none⟩) lgf4).trans d0; have d1 := (hSw.cell (p := ⟨gf, m * 2 + 1, none⟩) lgf4).trans d1; go_simp; try (with_reducible rfl))
      try simp only [Act.put, tl1, tl2, tl3]
      refine tkS 5 ?_ rfl (Or.inl ⟨by rfl, ?_⟩) hHeld ?_
      rotate_left
      · (intro w _; go_simp; try (with_reducible rfl))
      try simp only [Act.put, tl1, tl2, tl3]
      refine wpAnyS_done (by kernel_rfl) ?_ _
      gi_wp2_with fail
      have hK4 := Kept.all (fun b => b < w10.heap.size + 2 ∧ ¬ b = gf) (hV04.trans (hHeld.mono hV04.size))
      refine ⟨hK4, F, HF.out.bel (hV04.trans (hHeld.mono hV04.size)), ?_, Hkz.out.trans (Kept.all _ (hV04.trans (hHeld.mono hV04.size)))⟩
      have hU3 := HU2.out
      rw [Hyf.out, set_same Hf0.out] at hU3
      rw [show n - (k + 1) = m by have := Hm.out; omega]
      exact hU3
    · refine wpIn_region_S (S := (fun W => Below V4.heap.size V4 W)) (z := 6) (by kernel_rfl) (by (try dsimp only); exact (Below.refl _ _).drew) (fun hHeld => ?_)
      generalize World.drew V4 = Wd10 at hHeld ⊢
      have hbc := Below.refl Wd10.heap.size Wd10
      refine tkS 0 ?_ rfl (Or.inl ⟨by rfl, ?_⟩) hHeld ?_
      rotate_left
      · (intro w hSw; (try dsimp only at hSw); obtain ⟨x0, x1, _, _⟩ := (hx11.below hSw).w2; obtain ⟨p0, _⟩ := (hx44z.below hSw).w1; have d0 := (hSw.cell (p := ⟨gf, m * 2, none⟩) lgf4).trans d0; have d1 := (hSw.cell (p := ⟨gf, m * 2 + 1, none⟩) lgf4).trans d1; go_simp; try (with_reducible rfl))
      try simp only [Act.put, tl1, tl2, tl3]
      refine tkS 1 ?_ rfl (Or.inl ⟨by rfl, ?_⟩) hHeld ?_
      rotate_left
      · (intro w hSw; (try dsimp only at hSw); obtain ⟨x0, x1, _, _⟩ := (hx11.below hSw).w2; obtain ⟨p0, _⟩ := (hx44z.below hSw).w1; have d0 := (hSw.cell (p := ⟨gf, m * 2, none⟩) lgf4).trans d0; have d1 := (hSw.cell (p := ⟨gf, m * 2 + 1, none⟩) lgf4).trans d1; go_simp; try (with_reducible rfl))
      try simp only [Act.put, tl1, tl2, tl3]
      refine tkS 2 ?_ rfl (Or.inl ⟨by rfl, ?_⟩) hHeld ?_
      rotate_left
      · (intro w _; go_simp; try (with_reducible rfl))
      try simp only [Act.put, tl1, tl2, tl3]
      refine tkS 3 ?_ rfl (Or.inl ⟨by rfl, ?_⟩) hHeld ?_
      rotate_left
      · (intro w _; go_simp; try (with_reducible rfl))
      try simp only [Act.put, tl1, tl2, tl3]
      refine tkS 4 ?_ rfl (Or.inl ⟨by rfl, ?_⟩) hHeld ?_
      rotate_left
      · (intro w hSw; (try dsimp only at hSw); obtain ⟨x0, x1, _, _⟩ := (hx11.below hSw).w2; obtain ⟨p0, _⟩ := (hx44z.below hSw).w1; have d0 := (hSw.cell (p := ⟨gf, m * 2, none⟩) lgf4).trans d0; have d1 := (hSw.cell (p := ⟨gf, m * 2 + 1, none⟩) lgf4).trans d1; go_simp; try (with_reducible rfl))
      try simp only [Act.put, tl1, tl2, tl3]
      refine tkS 5 ?_ rfl (Or.inl ⟨by rfl, ?_⟩) hHeld ?_
      rotate_left
      · (intro w hSw; (try dsimp only at hSw); go_simp; exact ne_ite hyf)
      try simp only [Act.put, tl1, tl2, tl3]
      refine wpAnyS_done (by kernel_rfl) ?_ _
      generalize Wd10 = V5 at hHeld hbc ⊢
      have hV05 := hV04.trans (hHeld.mono hV04.size)
      have hF5 := HF.out.bel hV05
      have hx45 := hx4z.bel hV05
      have hx115 := hx11.bel hHeld
      have hB5 := hHeld
      clear hHeld hbc d0 d1 hx44z hx11 hF4
      gi_wp2_with fail
      refine wpIn_region_S (S := (fun W => Below V5.heap.size V5 W)) (z := 6) (by kernel_rfl) (by (try dsimp only); exact (Below.refl _ _).drew) (fun hHeld => ?_)
      generalize World.drew V5 = Wd11 at hHeld ⊢
      have hF5 := hF5.bel hHeld
      have hbc := Below.refl Wd11.heap.size Wd11
      refine tkS 0 ?_ rfl (Or.inl ⟨by rfl, ?_⟩) hHeld ?_
      rotate_left
      · (intro w hSw; (try dsimp only at hSw); obtain ⟨x0, x1, _, _⟩ := (hx115.below hSw).w2; obtain ⟨p0, _⟩ := (hx45.below hSw).w1; go_simp; try (with_reducible rfl))
      try simp only [Act.put, tl1, tl2, tl3]
      refine tkS 1 ?_ rfl (Or.inl ⟨by rfl, ?_⟩) hHeld ?_
      rotate_left
      · (intro w _; go_simp; try (with_reducible rfl))
      try simp only [Act.put, tl1, tl2, tl3]
      refine tkS 2 ?_ rfl (Or.inl ⟨by rfl, ?_⟩) hHeld ?_
      rotate_left
      · (intro w _; go_simp; try (with_reducible rfl))
      try simp only [Act.put, tl1, tl2, tl3]
      refine tkS 3 ?_ rfl (Or.inl ⟨by rfl, ?_⟩) hHeld ?_
      rotate_left
      · (intro w hSw; (try dsimp only at hSw); obtain ⟨x0, x1, _, _⟩ := (hx115.below hSw).w2; obtain ⟨p0, _⟩ := (hx45.below hSw).w1; go_simp; try (with_reducible rfl))
      try simp only [Act.put, tl1, tl2, tl3]
      refine wpAnyS_ready (rs := [4]) (by kernel_rfl) (by simp) ?_
      refine AllS.cons (o := ⟨_, _, _, _, _, _⟩) rfl (fun _ => trivial) (fun K hK => ?_) AllS.nil
      go_simp
      refine rcall ((some_ok _ _ _ _ u2).mono ?_)
      rintro e V53 ⟨rfl, hb⟩
      gi_wp2_with fail
      have hHeldN := hHeld.trans (hb.mono hHeld.size)
      have hF5 := hF5.bel hb
      have hbc := hbc.trans (hb.mono hbc.size)
      refine hK.out _ _ ?_ (fun hHeld2 => ?_)
      · intro _; exact hHeldN
      clear hK K hHeld hHeldN hb; have hHeld := hHeld2 (by decide); clear hHeld2
      try simp only [Act.put, tl1, tl2, tl3]
      refine tkS 5 ?_ rfl (Or.inl ⟨by rfl, ?_⟩) hHeld ?_
      rotate_left
      · (intro w _; go_simp; try (with_reducible rfl))
      try simp only [Act.put, tl1, tl2, tl3]
      refine wpAnyS_ready (rs := [6]) (by kernel_rfl) (by simp) ?_
      refine AllS.cons (o := ⟨_, _, _, _, _, _⟩) rfl (fun _ => trivial) (fun K hK => ?_) AllS.nil
      obtain ⟨z0, z1, y0, y1⟩ := gown_sp hF5 Hf0.out HFl.out
      obtain ⟨hset, hkS⟩ := gown_sp_set hF5 Hf0.out y HFl.out
      have Hset := hide hset; have HkS := hide hkS; have hHeldF := hHeld
      clear hset hkS
      go_simp
      refine hK.out _ _ (fun h => absurd rfl h) (fun _ => ?_)
      clear hK K hHeld
      try simp only [Act.put, tl1, tl2, tl3]
      refine wpAnyS_done (by kernel_rfl) ?_ _
      gi_wp2_with fail
      have hK5 := ((Kept.all (fun _ => True) (hV05.trans (hHeldF.mono hV05.size))).mono (fun _ _ _ => trivial)).trans HkS.out
      refine ⟨hK5.mono fun b _ hb => hb.2, F.set m y, Hset.out, ?_, Hkz.out.trans (hK5.mono fun b _ hb => hb.2)⟩
      rw [show n - (k + 1) = m by have := Hm.out; omega]
      exact HU2.out
  case done =>
    rintro Wz ⟨F, hF, hU, hkz⟩ hD
    rw [Nat.sub_self] at hU
    have HUF := hide hU.done
    have hx4z := hx49.kept hkz ⟨by omega, by omega⟩
    have hx5z := hx59.kept hkz ⟨by omega, by omega⟩
    obtain ⟨p0, y0⟩ := hx4z.w1
    obtain ⟨p1, y1⟩ := hx5z.w1
    have hBz := hB9.trans (hkz.below (fun b hb => ⟨by omega, by omega⟩) hB9.size)
    have hlz := hx5z.lt
    have hls := hkz.size
    have HF := hide hF; have HD := hide hD
    obtain ⟨D, hDe⟩ : ∃ D, D = w10.heap.size := ⟨_, rfl⟩
    rw [← hDe] at HD ⊢
    have hDz : D < Wz.heap.size := (Array.getElem?_eq_some_iff.1 HD.out).1
    have hD1 : b2 + 1 + 1 + 1 < D := by omega
    have hD2 : gf < D := by omega
    have hD3 : w.heap.size ≤ b2 := by omega
    have hD4 : b2 + 1 + 1 + 1 < gf := by omega
    clear hF hU hD hDe i2 j2 ebs hz9
    gi_wp2_with fail
    have hk1 := (Kept.setCell Wz ⟨b2 + 1 + 1, 0, none⟩ (.slice (some ⟨gf, 0, none⟩) (n + 1) c7)).mono (R' := fun b => b ≠ b2 + 1 + 1 ∧ b ≠ b2 + 1 + 1 + 1) (fun b _ h => h.1)
    have hk2 := (Kept.setCell (Wz.setCell ⟨b2 + 1 + 1, 0, none⟩ (.slice (some ⟨gf, 0, none⟩) (n + 1) c7)) ⟨b2 + 1 + 1 + 1, 0, none⟩ (.bool true)).mono (R' := fun b => b ≠ b2 + 1 + 1 ∧ b ≠ b2 + 1 + 1 + 1) (fun b _ h => h.2)
    have hk := hk1.trans hk2
    have hxA := (hx4z.set (j := 0) (.slice (some ⟨gf, 0, none⟩) (n + 1) c7) (by simp)).other (q := ⟨b2 + 1 + 1 + 1, 0, none⟩) (.bool true) (by simp)
    have hxB := (hx5z.other (q := ⟨b2 + 1 + 1, 0, none⟩) (.slice (some ⟨gf, 0, none⟩) (n + 1) c7) (by simp)).set (j := 0) (.bool true) (by simp)
    simp only [List.set_cons_zero] at hxA hxB
    obtain ⟨V, Hv⟩ : ∃ V, Hid ((Wz.setCell ⟨b2 + 1 + 1, 0, none⟩ (.slice (some ⟨gf, 0, none⟩) (n + 1) c7)).setCell ⟨b2 + 1 + 1 + 1, 0, none⟩ (.bool true) = V) := ⟨_, hide rfl⟩
    rw [Hv.out] at hk hxA hxB ⊢
    have hDv := (hk.same D ⟨by omega, by omega⟩ hDz).trans HD.out
    refine ⟨by simp, .inl ⟨_, _, rfl, run_takeDeferred hDv, ?_⟩⟩
    have hkp := Kept.putObj V D (.deferred none)
    obtain ⟨V', Hv'⟩ : ∃ V', Hid (V.putObj D (.deferred none) = V') := ⟨_, hide rfl⟩
    rw [Hv'.out] at hkp ⊢
    have hxA' := hxA.kept hkp (by omega)
    have hxB' := hxB.kept hkp (by omega)
    have hfit1 : (invoke (.fn (.func 110) #[.pointer (some ⟨b2 + 1 + 1, 0, none⟩), .pointer (some ⟨b2 + 1 + 1 + 1, 0, none⟩)]) #[]).run Try.prog V' = .ok (.enter 110 #[.pointer (some ⟨b2 + 1 + 1, 0, none⟩), .pointer (some ⟨b2 + 1 + 1 + 1, 0, none⟩)]) V' := by simp [go_sem]
    refine leavesM_cons (f := 110) (args := #[.pointer (some ⟨b2 + 1 + 1, 0, none⟩), .pointer (some ⟨b2 + 1 + 1 + 1, 0, none⟩)]) (by simp) (fun h => by simp [Fence.wide] at h) hfit1 (fun _ _ => trivial) ?_
    refine (fit1_idle _ _ _ V').mono ?_
    rintro e u' w'' ⟨rfl, rfl, rfl⟩
    obtain ⟨c4, _⟩ := hxA'.w1
    obtain ⟨c5, _⟩ := hxB'.w1
    have ho := (HF.out.keptG hk (fun q hq => by simp [Value.ownBlock] at hq; exact ⟨by omega, by omega⟩)).keptG hkp (fun q hq => by simp [Value.ownBlock] at hq; omega)
    refine ⟨.tuple #[.slice (some ⟨gf, 0, none⟩) (n + 1) c7, .bool true], by simp [results, Try.results86, go_sem, c4, c5]; try rfl, ?_⟩
    refine ⟨.slice (some ⟨gf, 0, none⟩) (n + 1) c7, by rw [HUF.out]; rfl, by rw [HUF.out]; exact ho, ?_⟩
    exact (hBz.trans (hk.below (fun b hb => ⟨by omega, by omega⟩) hBz.size)).trans (hkp.below (fun b hb => by omega) (hBz.trans (hk.below (fun b hb => ⟨by omega, by omega⟩) hBz.size)).size)
theorem fit_any (Aa Ar : Option Addr) (n ca cr : Nat) (g : List Rc) (rd : List Sp) (s : Sp) (w : World) (hg : Rd w w.heap.size Rc.cells Aa g) (hr : Rd w w.heap.size Sp.cells Ar rd) (hn : n = g.length) (hn2 : n ≤ 20) (hrl : rd.length = n + 1) (hfine : ∀ r ∈ g, r.fine)
    (hrd : ∀ x ∈ rd, 0 ≤ x.lo ∧ x.lo ≤ 13000000 ∧ 0 ≤ x.hi ∧ x.hi ≤ 13000000) (hs : s.fine 1000000) :
    Calls Try.prog 86 #[.agg #[.slice Aa n ca, .slice Ar (n + 1) cr], .agg #[.int .i64 s.lo, .int .i64 s.hi]] w (FitPost g rd s w) := by
  rcases first_bad (P := fun k => okS (dnK g rd s k)) n with h | ⟨j, h1, h2, h3⟩
  · exact fit_ok Aa Ar n ca cr g rd s w hg hr hn hn2 hrl hfine hrd hs h
  · exact fit_torn Aa Ar n ca cr g rd s w hg hr hn hn2 hrl hfine hrd hs j h1 h2 h3
end Go.Proofs.Ytgklcilpohkpkaa
