/- Salt: what the cheapest plan costs, in the reference, by contract. -/
import Derived.Test.YtmbhnjpaieimbaaPC2
import Derived.Test.YtmbhnjpaieimbaaApp
import Derived.Test.YtmbhnjpaieimbaaApp2
import Derived.Test.YtmbhnjpaieimbaaR8
import Derived.Deep.Cut
set_option linter.unusedVariables false
set_option linter.unusedSimpArgs false
namespace Go.Proofs.Ytmbhnjpaieimbaa
open Go.RowKit Go.Shelf
attribute [local go_sem] ite_max
def bcell (b : Bool) : List Value := [.bool b]
theorem bcell_len (b : Bool) : (bcell b).length = 1 := rfl
theorem Rd.bool {w : World} {B : Nat} {A : Option Addr} {xs : List Bool} (h : Rd w B bcell A xs) {i : Nat} (hi : i < xs.length) :
    ∃ b off x, A = some ⟨b, off, none⟩ ∧ b < B ∧ xs[i]? = some x ∧ w.cell? ⟨b, off + i, none⟩ = some (.bool x) := by
  obtain ⟨b, off, e, hB, hc⟩ := h (by omega)
  have hx : xs[i]? = some xs[i] := List.getElem?_eq_getElem hi
  have h0 := hc _ _ (flat_get bcell_len hx (j := 0) (by omega))
  rw [Nat.mul_one, Nat.add_zero] at h0
  exact ⟨b, off, _, e, hB, hx, h0⟩
theorem made_bools (n : Nat) : (madeCells #[.bool false] (n * 1)).toList = (List.replicate n false).flatMap bcell := by
  apply List.ext_getElem?
  intro j
  by_cases hj : j < n
  · have hx : (List.replicate n false)[j]? = some false := by rw [List.getElem?_replicate, if_pos hj]
    have h := flat_get bcell_len hx (j := 0) (by omega)
    simp only [Nat.mul_one, Nat.add_zero] at h
    rw [h]
    simp [madeCells, hj, bcell, Nat.mod_one]
  · rw [List.getElem?_eq_none (by simp [madeCells]; omega), List.getElem?_eq_none (by rw [flat_len bcell_len]; simp; omega)]
theorem make_bools (n : Nat) (hn : n ≤ 1000) (w : World) : (Instr.makeSlice 165 (.int .i64 (n : Int)) (.int .i64 (n : Int))).run Try.prog w = .ok (.slice (some ⟨w.heap.size, 0, none⟩) n n) (w.alloc (.cells (madeCells #[.bool false] (n * 1)) 4)) := by
  obtain ⟨i, hi, hz, hs, hbt⟩ : ∃ i, Try.prog.info? 4 = some i ∧ i.zero = some (.bool false) ∧ i.size = 1 ∧ i.bytes = 1 := by
    have h : (Try.prog.info? 4).map (fun i => (i.zero, i.size, i.bytes)) = some (some (.bool false), 1, 1) := by kernel_rfl
    obtain ⟨i, hi, hzz⟩ := Option.map_eq_some_iff.1 h
    simp only [Prod.mk.injEq] at hzz
    exact ⟨i, hi, hzz.1, hzz.2.1, hzz.2.2⟩
  have hrun := run_make (P := Try.prog) w 165 4 i (.bool false) Try.underlying165 hi hz .i64 .i64 n n (by omega) (Int.le_refl _) (by rw [hbt]; omega) (by omega)
  simp only [Int.toNat_natCast, hs] at hrun
  exact hrun
theorem own_madeB (n : Nat) (hn : n ≤ 1000) (w : World) (base : Nat) (hb : base ≤ w.heap.size) : Own (w.alloc (.cells (madeCells #[.bool false] (n * 1)) 4)) base 4 1 bcell (.slice (some ⟨w.heap.size, 0, none⟩) n n) (List.replicate n false) := by
  have h := Own.lit (cells := bcell) w 4 1 (madeCells #[.bool false] (n * 1)) (List.replicate n false) bcell_len (made_bools n) (by simp; omega) base hb
  rw [List.length_replicate] at h
  exact h
/-! ### what is treated -/
/-- Rents that are treated, the dearest first: which, and that all others are no dearer. -/
structure Trt (pr : List Int) (r : Nat) (o : List Nat) (us : List Bool) : Prop where
  ul : us.length = r
  u : ∀ i, i < r → (us.getD i false = true ↔ i ∈ o)
  nd : o.Nodup
  lt : ∀ i ∈ o, i < r
  pw : o.Pairwise (fun i j => pr.getD j 0 ≤ pr.getD i 0)
  rest : ∀ i ∈ o, ∀ j, j < r → j ∉ o → pr.getD j 0 ≤ pr.getD i 0
theorem getD_setB {xs : List Bool} {i j : Nat} {v : Bool} (hi : i < xs.length) : (xs.set i v).getD j false = if j = i then v else xs.getD j false := by
  rw [List.getD_eq_getElem?_getD]
  by_cases h : j = i
  · rw [if_pos h, h, List.getElem?_set_self hi]; rfl
  · rw [if_neg h, List.getElem?_set_ne (fun e => h e.symm), List.getD_eq_getElem?_getD]
theorem Trt.snoc {pr : List Int} {r a : Nat} {o : List Nat} {us : List Bool} (h : Trt pr r o us) (ha : a < r) (hn : a ∉ o) (hm : ∀ j, j < r → j ∉ o → pr.getD j 0 ≤ pr.getD a 0) : Trt pr r (o ++ [a]) (us.set a true) := by
  refine ⟨by rw [List.length_set]; exact h.ul, fun i hi => ?_, ?_, fun i hi => ?_, ?_, fun i hi j hj hnj => ?_⟩
  · rw [getD_setB (by rw [h.ul]; exact ha), List.mem_append, List.mem_singleton]
    by_cases e : i = a
    · rw [if_pos e]; simp [e]
    · rw [if_neg e, h.u i hi]; simp [e]
  · exact List.nodup_append.2 ⟨h.nd, by simp, fun x hx y hy => by rw [List.mem_singleton] at hy; rw [hy]; exact fun e => hn (e ▸ hx)⟩
  · rw [List.mem_append, List.mem_singleton] at hi
    rcases hi with hi | rfl
    · exact h.lt i hi
    · exact ha
  · rw [List.pairwise_append]
    exact ⟨h.pw, by simp, fun x hx y hy => by rw [List.mem_singleton] at hy; rw [hy]; exact h.rest x hx a ha hn⟩
  · rw [List.mem_append, List.mem_singleton] at hi hnj
    rw [not_or] at hnj
    rcases hi with hi | rfl
    · exact h.rest i hi j hj hnj.1
    · exact hm j hj hnj.1
/-- Which of the first k rents that are not treated is the dearest, the first of those. -/
def AtIs (pr : List Int) (o : List Nat) (k : Nat) (a : Int) : Prop :=
  (a = -1 ∧ ∀ j, j < k → j ∈ o) ∨ ∃ m : Nat, a = m ∧ m < k ∧ m ∉ o ∧ ∀ j, j < k → j ∉ o → pr.getD j 0 ≤ pr.getD m 0
theorem AtIs.full {pr : List Int} {r n : Nat} {o : List Nat} {us : List Bool} {a : Int} (h : Trt pr r o us) (hl : o.length = n) (hn : n < r) (ha : AtIs pr o r a) : ∃ m : Nat, a = m ∧ m < r ∧ m ∉ o ∧ ∀ j, j < r → j ∉ o → pr.getD j 0 ≤ pr.getD m 0 := by
  rcases ha with ⟨_, hall⟩ | h1
  · exfalso
    have h1 := List.Nodup.length_le_of_subset (l₁ := List.range r) (l₂ := o) List.nodup_range (fun i hi => hall i (List.mem_range.1 hi))
    rw [List.length_range] at h1
    omega
  · exact h1
theorem Trt.perm {pr : List Int} {r : Nat} {o : List Nat} {us : List Bool} (h : Trt pr r o us) (hl : o.length = r) : List.Perm o (List.range r) := by
  refine (List.perm_ext_iff_of_nodup h.nd List.nodup_range).2 fun i => ?_
  rw [List.mem_range]
  refine ⟨h.lt i, fun hi => ?_⟩
  apply Classical.byContradiction
  intro hn
  have h1 := List.Nodup.length_le_of_subset (l₁ := i :: o) (l₂ := List.range r) (List.nodup_cons.2 ⟨hn, h.nd⟩) (fun j hj => by
    rw [List.mem_range]
    rcases List.mem_cons.1 hj with rfl | hj
    · exact hi
    · exact h.lt j hj)
  rw [List.length_range, List.length_cons] at h1
  omega
theorem Own.put1 {w : World} {base : Nat} {e : TypeId} {g n cap : Nat} {xs : List Int} (h : Own w base e 1 icell (.slice (some ⟨g, 0, none⟩) n cap) xs) {i : Nat} (hi : i < xs.length) (hn : n = xs.length) (y : Int) :
    Own (w.setCell ⟨g, i, none⟩ (.int .i64 y)) base e 1 icell (.slice (some ⟨g, 0, none⟩) n cap) (xs.set i y) ∧ w.cell? ⟨g, i, none⟩ = some (.int .i64 (xs.getD i 0)) ∧ w.frozen? ⟨g, i, none⟩ = false := by
  have hx : xs[i]? = some xs[i] := List.getElem?_eq_getElem hi
  obtain ⟨h1, _, h3⟩ := h.put_ icell_len hx (j := 0) (x' := y) (u := .int .i64 y) (by omega) rfl hn
  rw [Nat.mul_one, Nat.add_zero] at h1 h3
  refine ⟨h1, ?_, h3⟩
  subst hn
  have h4 := World.ownsRow.cellAt h i (by rw [Nat.mul_one]; exact hi)
  rw [h4]
  have h5 := flat_get icell_len hx (j := 0) (by omega)
  rw [Nat.mul_one, Nat.add_zero] at h5
  rw [h5, List.getD_eq_getElem?_getD, hx]; rfl
theorem Own.putB {w : World} {base : Nat} {e : TypeId} {g n cap : Nat} {xs : List Bool} (h : Own w base e 1 bcell (.slice (some ⟨g, 0, none⟩) n cap) xs) {i : Nat} (hi : i < xs.length) (hn : n = xs.length) (y : Bool) :
    Own (w.setCell ⟨g, i, none⟩ (.bool y)) base e 1 bcell (.slice (some ⟨g, 0, none⟩) n cap) (xs.set i y) ∧ (∃ v, w.cell? ⟨g, i, none⟩ = some v) ∧ w.frozen? ⟨g, i, none⟩ = false := by
  have hx : xs[i]? = some xs[i] := List.getElem?_eq_getElem hi
  have h1 := h.put_ bcell_len hx (j := 0) (x' := y) (u := .bool y) (by omega) rfl hn
  rw [Nat.mul_one, Nat.add_zero] at h1
  exact h1
theorem AtIs.used {pr : List Int} {o : List Nat} {k : Nat} {a : Int} (h : AtIs pr o k a) (hk : k ∈ o) : AtIs pr o (k + 1) a := by
  rcases h with ⟨h1, h2⟩ | ⟨m, h1, h2, h3, h4⟩
  · exact .inl ⟨h1, fun j hj => by
      by_cases e : j = k
      · rw [e]; exact hk
      · exact h2 j (by omega)⟩
  · exact .inr ⟨m, h1, by omega, h3, fun j hj hn => by
      by_cases e : j = k
      · rw [e] at hn; exact absurd hk hn
      · exact h4 j (by omega) hn⟩
theorem AtIs.first {pr : List Int} {o : List Nat} {k : Nat} {a : Int} (h : AtIs pr o k a) (hk : k ∉ o) (ha : a < 0) : AtIs pr o (k + 1) (k : Int) := by
  rcases h with ⟨h1, h2⟩ | ⟨m, h1, h2, h3, h4⟩
  · exact .inr ⟨k, rfl, by omega, hk, fun j hj hn => by
      by_cases e : j = k
      · rw [e]; exact Int.le_refl _
      · exact absurd (h2 j (by omega)) hn⟩
  · omega
theorem AtIs.dearer {pr : List Int} {o : List Nat} {k m : Nat} (h : AtIs pr o k (m : Int)) (hk : k ∉ o) (hp : pr.getD m 0 < pr.getD k 0) : AtIs pr o (k + 1) (k : Int) := by
  rcases h with ⟨h1, h2⟩ | ⟨m', h1, h2, h3, h4⟩
  · omega
  · obtain rfl : m = m' := by omega
    exact .inr ⟨k, rfl, by omega, hk, fun j hj hn => by
      by_cases e : j = k
      · rw [e]; exact Int.le_refl _
      · have := h4 j (by omega) hn; omega⟩
theorem AtIs.stay {pr : List Int} {o : List Nat} {k m : Nat} (h : AtIs pr o k (m : Int)) (hp : ¬ pr.getD m 0 < pr.getD k 0) : AtIs pr o (k + 1) (m : Int) := by
  rcases h with ⟨h1, h2⟩ | ⟨m', h1, h2, h3, h4⟩
  · omega
  · obtain rfl : m = m' := by omega
    exact .inr ⟨m, rfl, by omega, h3, fun j hj hn => by
      by_cases e : j = k
      · rw [e]; omega
      · exact h4 j (by omega) hn⟩
theorem own_at' {α : Type} {cells : α → List Value} {W : World} {base : Nat} {e : TypeId} {k n c : Nat} {A : Option Addr} {xs : List α} (h : Own W base e k cells (.slice A n c) xs) (hn : 0 < n) : ∃ g, A = some ⟨g, 0, none⟩ := by
  rcases h.2 with ⟨hv, _⟩ | ⟨g, cap, cur, hv, _⟩
  · injection hv with h1 h2 h3; omega
  · injection hv with h1 h2 h3; exact ⟨g, h1⟩
theorem RsAt.at' {w : World} {b o n : Nat} {rs : List Rr} (h : RsAt w (some ⟨b, o, none⟩) n rs) {i : Nat} (hi : i < n) :
    ∃ q, rs[i]? = some q ∧ b < w.heap.size ∧ w.cell? ⟨b, o + i * 3, none⟩ = some (.int .i64 q.mi) ∧ w.cell? ⟨b, o + i * 3 + 1, none⟩ = some (.int .i64 q.pr) ∧ w.cell? ⟨b, o + i * 3 + 2, none⟩ = some (.slice q.A q.n q.c) := by
  obtain ⟨b7, off, q, hA, hql, hqx, c0, c1, c2⟩ := h.rd.rr (i := i) (by rw [← h.en]; exact hi)
  injection hA with hA
  injection hA with hA1 hA2 _
  subst hA1 hA2
  exact ⟨q, hqx, hql, c0, c1, c2⟩
theorem Rd.nat' {w : World} {B b o : Nat} {xs : List Nat} (h : Rd w B icell (some ⟨b, o, none⟩) (xs.map Int.ofNat)) {i : Nat} (hi : i < xs.length) : ∃ x, xs[i]? = some x ∧ b < B ∧ w.cell? ⟨b, o + i, none⟩ = some (.int .i64 (x : Int)) := by
  obtain ⟨b7, off, y, hA, hql, hyk, c0⟩ := h.int (i := i) (by rw [List.length_map]; exact hi)
  injection hA with hA
  injection hA with hA1 hA2 _
  subst hA1 hA2
  rw [List.getElem?_map] at hyk
  cases hh : xs[i]? with
  | none => rw [hh] at hyk; cases hyk
  | some s => rw [hh] at hyk; cases hyk; exact ⟨s, rfl, hql, c0⟩
theorem xOf_congr {hs hs' : List Int} (h : ∀ i, hs.getD i 0 = hs'.getD i 0) : xOf hs = xOf hs' := funext h
set_option maxHeartbeats 4000000 in
set_option maxRecDepth 100000 in
theorem rcheap_any (A0 A1 A2 A3 : Option Addr) (m c0 r c1 c2 c3 : Nat) (ns hs : List Int) (ss : List Nat) (rs : List Rr) (w : World) (hm : m = ns.length) (hm8 : m ≤ 8) (hn : ∀ x ∈ ns, 0 ≤ x ∧ x ≤ 23040) (hN : Rd w w.heap.size icell A0 ns)
    (hr8 : r ≤ 8) (hr1 : r = hs.length) (hr2 : r = ss.length) (h0 : ∀ x ∈ hs, 0 ≤ x ∧ x ≤ 200000) (h256 : ∀ x ∈ ss, x < 256) (hH : Rd w w.heap.size icell A1 hs) (hSS : Rd w w.heap.size icell A2 (ss.map Int.ofNat)) (hR : RsAt w A3 r rs) (hp : ∀ x ∈ rs.map Rr.pr, 0 ≤ x ∧ x ≤ 100000) :
    Calls Try.prog 73 #[.slice A0 m c0, .slice A1 r c1, .slice A2 r c2, .slice A3 r c3] w fun e w' => ∃ c b, e = .returned (.tuple #[.int .i64 c, .bool b]) ∧ CostIs ns hs ss (rs.map Rr.pr) c b ∧ Below w.heap.size w w' := by
  have Hm := hide hm; have Hn := hide hn; have HN := hide hN; have Hr1 := hide hr1; have Hr2 := hide hr2; have H0 := hide h0; have H256 := hide h256; have HH := hide hH; have HS := hide hSS; have HR := hide hR; have Hp := hide hp
  have Hpr := hide (show (rs.map Rr.pr).length = r by rw [List.length_map]; exact hR.en.symm)
  obtain ⟨P, hP2⟩ : ∃ P, P = 2 ^ m := ⟨_, rfl⟩
  have hpw := two_pow8 hm8
  rw [← hP2] at hpw
  have hp64 : wrap64 (2 ^ m) = (P : Int) := by
    have e : ((2 : Int) ^ m) = (P : Int) := by rw [hP2]; simp
    rw [e]; unfold wrap64; omega
  have HP2 := hide (show P = 2 ^ ns.length by rw [hP2, hm])
  clear hm hn hN hr1 hr2 h0 h256 hH hSS hR hp hP2
  go_enter Try.func73, Try.ntmps73
  go_wp2_with fail
  rw [hp64]
  clear hp64
  go_wp2_with fail
  go_loopw [11] (fun i wr => ∃ S : Nat, S ≤ P ∧ i = .int .i64 S ∧ Hid (∀ T, T < S → needS ns T ≤ thereS hs ss r T (-1)) ∧ Below w.heap.size w wr) (fun i _ => P - (intOf i).toNat)
  case atStart => exact ⟨0, by omega, rfl, hide (fun T h => by omega), Below.refl _ _⟩
  case round =>
    obtain ⟨S, hS, rfl, hpre, hb⟩ := hrel
    by_cases hlt : S < P
    · have iS : (S : Int) < (P : Int) := by omega
      have HB := hide hb
      go_wp2_with fail
      refine (wanted_any A0 m c0 ns S wr Hm.out hm8 Hn.out (HN.out.bel HB.out) (by omega)).mono ?_
      rintro e w1 ⟨rfl, hb1⟩
      have hB1 := hide (HB.out.trans (hb1.mono HB.out.size))
      go_wp2_with fail
      refine (had_any A1 A2 r c1 c2 hs ss S (-1) w1 hr8 Hr1.out Hr2.out H0.out H256.out (HH.out.bel hB1.out) (HS.out.bel hB1.out) (by omega)).mono ?_
      rintro e w2 ⟨rfl, hb2⟩
      have hB2 := hide (hB1.out.trans (hb2.mono hB1.out.size))
      obtain ⟨x, hx⟩ : ∃ x, x = needS ns S := ⟨_, rfl⟩
      obtain ⟨y, hy⟩ : ∃ y, y = thereS hs ss r S (-1) := ⟨_, rfl⟩
      rw [← hx, ← hy]
      have Hx := hide hx; have Hy := hide hy
      clear hx hy hb hb1 hb2
      by_cases hxy : y < x
      · have Hxy := hide hxy
        go_wp2_with fail
        go_ret2
        refine ⟨_, _, rfl, ⟨fun _ => ⟨rfl, rfl⟩, fun hf => ?_⟩, hB2.out⟩
        exfalso
        have h1 := hf S (by show S < 2 ^ ns.length; rw [← HP2.out]; exact hlt)
        rw [need_is, there_is, Hpr.out, ← Hx.out, ← Hy.out] at h1
        have := Hxy.out
        omega
      · have Hxy := hide (show x ≤ y by omega)
        go_wp2_with fail
        exact ⟨⟨S + 1, by omega, by go_num, hide (fun T hT => by
          by_cases e : T = S
          · rw [e, ← Hx.out, ← Hy.out]; exact Hxy.out
          · exact hpre.out T (by omega)), hB2.out⟩, by simp [intOf]; omega⟩
    · have Hfeas : Hid ((boOf ns ss (rs.map Rr.pr)).Feas (xOf hs)) := hide fun S hS' => by
        rw [need_is, there_is, Hpr.out]
        have hS2 : S < 2 ^ ns.length := hS'
        exact hpre.out S (by have := HP2.out; omega)
      have HB := hide hb
      have L7 := hide (lit0 (cells := icell) wr 3 1 wr.heap.size (fun _ => rfl) (Nat.le_refl _))
      have hb7 := hide (below_new wr (.cells #[] 3))
      have R7 := hide ((HH.out.bel hb).bel hb7.out)
      clear hb hpre
      go_upto_region 8 with (at_builtin; refine wpList_fresh el_int rfl (.tmp 36) (.tmp 37) rfl rfl L7.out Hr1.out.symm rfl R7.out (by omega) hb7.out.size ?_; intro v12 w7 o7 k7 hat7; have O7 := hide o7; have K7 := hide k7; have Hat7 := hide hat7; clear o7 k7 hat7)
      obtain ⟨A12, c12, rfl, _⟩ := O7.out.rdn r Hr1.out.symm
      obtain ⟨z0, hz0⟩ : ∃ z0, z0 = wr.heap.size := ⟨_, rfl⟩
      have HB7 := hide (HB.out.trans ((below_new wr (.cells #[] 3)).trans (K7.out.mono (by simp)) |>.mono HB.out.size))
      have hz7 : z0 ≤ w7.heap.size := by have h1 := hb7.out.size; have h2 := K7.out.size; omega
      have O7' : Hid (Own w7 z0 3 1 icell (.slice A12 r c12) hs) := by rw [hz0]; exact O7
      have hwz : w.heap.size ≤ z0 := by rw [hz0]; exact HB.out.size
      have G12 : Hid (∀ g, (Value.slice A12 r c12).ownBlock = some g → g < w7.heap.size) := hide fun g hg => (O7.out.blockG hg).2
      clear hz0 L7 hb7 R7 O7 K7 Hat7 HB
      go_wp2_with fail
      rw [make_bools r (by omega)]
      obtain ⟨w7', rfl⟩ : ∃ w7', w7' = w7 := ⟨w7, rfl⟩
      have ho1 := own_madeB r (by omega) w7' w7'.heap.size (Nat.le_refl _)
      have hb1 := below_new w7' (.cells (madeCells #[.bool false] (r * 1)) 4)
      obtain ⟨gU, hgU⟩ : ∃ g, g = w7'.heap.size := ⟨_, rfl⟩
      obtain ⟨w8, Hw8⟩ : ∃ w8, Hid (w7'.alloc (.cells (madeCells #[.bool false] (r * 1)) 4) = w8) := ⟨_, hide rfl⟩
      rw [Hw8.out] at ho1 hb1 ⊢
      have O8 := hide (O7'.out.bel hb1)
      have HB8 := hide (HB7.out.trans (hb1.mono HB7.out.size))
      have hz8 : z0 ≤ w8.heap.size := Nat.le_trans hz7 hb1.size
      have hzU : z0 ≤ gU := by omega
      have ho1' : Own w8 gU 4 1 bcell (.slice (some ⟨gU, 0, none⟩) r r) (List.replicate r false) := by rw [← hgU] at ho1; exact ho1
      rw [← hgU] at G12 ⊢
      have HU := hide ho1'
      clear ho1 ho1' hb1 hgU Hw8 HB7 O7' hz7
      go_wp2_with fail
      have T0 : Hid (Trt (rs.map Rr.pr) r [] (List.replicate r false)) := hide ⟨by simp, fun i hi => by simp [List.getD_eq_getElem?_getD, List.getElem?_replicate, hi], by simp, by simp, by simp, by simp⟩
      go_loopw [14, 15] (fun cv nv wr => ∃ (n : Nat) (o : List Nat) (us : List Bool) (hs' : List Int) (z : Int), n ≤ r ∧ cv = .int .i64 z ∧ nv = .int .i64 n ∧ Hid (o.length = n) ∧ Hid (Trt (rs.map Rr.pr) r o us) ∧ Hid (hs'.length = r ∧ ∀ x ∈ hs', 0 ≤ x ∧ x ≤ 200000) ∧ Hid (z = paid hs' (rs.map Rr.pr) o) ∧ (0 ≤ z ∧ z ≤ n * 20000000000) ∧ Hid ((boOf ns ss (rs.map Rr.pr)).Run (xOf hs) o (xOf hs')) ∧ Hid (Own wr z0 3 1 icell (.slice A12 r c12) hs') ∧ Hid (Own wr gU 4 1 bcell (.slice (some ⟨gU, 0, none⟩) r r) us) ∧ Kept (fun b => b < z0) w8 wr) (fun _ nv _ => r - (intOf nv).toNat)
      case atStart => exact ⟨0, [], _, hs, 0, by omega, rfl, rfl, hide rfl, T0, hide ⟨Hr1.out.symm, H0.out⟩, hide rfl, ⟨by omega, by omega⟩, hide Bo.Run.nil, O8, HU, Kept.refl _ _⟩
      case round =>
        obtain ⟨n, o, us, hs', z, hn, rfl, rfl, Hol, HT, Hh, Hz, hzb, HRun, HO, HUr, hKw⟩ := hrel
        obtain ⟨wo, rfl⟩ : ∃ wo, wo = wr := ⟨wr, rfl⟩
        have HBo := hide (HB8.out.trans (hKw.below (fun b hb => by omega) (by omega)))
        by_cases hlt : n < r
        · have inr : (n : Int) < (r : Int) := by omega
          obtain ⟨b3, o3, hA3⟩ : ∃ b o, A3 = some ⟨b, o, none⟩ := by
            obtain ⟨b, o, q, h, _⟩ := HR.out.rd.rr (i := 0) (by have := HR.out.en; omega)
            exact ⟨b, o, h⟩
          subst hA3
          obtain ⟨b2, o2, hA2⟩ : ∃ b o, A2 = some ⟨b, o, none⟩ := by
            obtain ⟨b, o, q, h, _⟩ := HS.out.int (i := 0) (by have := Hr2.out; simp; omega)
            exact ⟨b, o, h⟩
          subst hA2
          have hsz : z0 ≤ wo.heap.size := Nat.le_trans hz8 hKw.size
          obtain ⟨g, rfl⟩ := own_at' HO.out (by omega)
          have hgg := G12.out g rfl
          have hgb := HO.out.blockG (g := g) rfl
          have hne : g ≠ gU := by omega
          obtain ⟨AU, cU, eU, rU⟩ := HUr.out.rdn r HT.out.ul
          injection eU with eU1 _ eU2
          subst eU1 eU2
          have RU := hide rU
          clear rU
          go_wp2_with fail
          go_loopw [16, 17] (fun av iv wr => ∃ (k : Nat) (a : Int), k ≤ r ∧ av = .int .i64 a ∧ iv = .int .i64 k ∧ AtIs (rs.map Rr.pr) o k a ∧ Below wo.heap.size wo wr) (fun _ iv _ => r - (intOf iv).toNat)
          case atStart => exact ⟨0, -1, by omega, rfl, rfl, .inl ⟨rfl, fun j hj => by omega⟩, Below.refl _ _⟩
          case round =>
            obtain ⟨k, a, hk, rfl, rfl, hat, hb⟩ := hrel
            by_cases hlk : k < r
            · have ikr : (k : Int) < (r : Int) := by omega
              obtain ⟨bu, ou, u, hAu, hul, huk, cu⟩ := (RU.out.bel hb).bool (i := k) (by rw [HT.out.ul]; exact hlk)
              injection hAu with hAu
              injection hAu with hAu1 hAu2 _
              subst hAu1 hAu2
              rw [Nat.zero_add] at cu
              have hBr := HBo.out.trans (hb.mono HBo.out.size)
              obtain ⟨q, hqx, hql, _, c1', _⟩ := (HR.out.bel hBr).at' (i := k) hlk
              have hqp : (rs.map Rr.pr).getD k 0 = q.pr := by rw [List.getD_eq_getElem?_getD, List.getElem?_map, hqx]; rfl
              have hug : us.getD k false = u := by rw [List.getD_eq_getElem?_getD, huk]; rfl
              have hu := HT.out.u k hlk
              rw [hug] at hu
              have Hat := hide hat; have Hb := hide hb; have Hqp := hide hqp
              clear hug huk hqx hat hqp hul hb
              cases u
              · have hko : k ∉ o := fun h => by have := hu.2 h; cases this
                by_cases ha : a < 0
                · have Hf := hide (Hat.out.first hko ha)
                  have d1 : decide (a < 0) = true := decide_eq_true ha
                  have Hko := hide hko; have Hu := hide hu
                  clear hko hu hql hBr
                  go_upto_region 17 with fail
                  go_quiet (fail)
                  go_wp2_with fail
                  first | exact ⟨⟨k + 1, by omega, by go_num, Hf.out, below_drewN Hb.out _⟩, by (try simp [intOf]); omega⟩ | exact ⟨⟨k + 1, _, by omega, rfl, by go_num, Hf.out, below_drewN Hb.out _⟩, by simp [intOf]; omega⟩
                · obtain ⟨mm, rfl⟩ : ∃ mm : Nat, a = mm := ⟨a.toNat, by omega⟩
                  have hmr : mm < r := by
                    rcases Hat.out with ⟨h, _⟩ | ⟨x, h, h2, _⟩
                    · omega
                    · omega
                  obtain ⟨q2, hqx2, _, _, c12', _⟩ := (HR.out.bel hBr).at' (i := mm) hmr
                  have hqp2 : (rs.map Rr.pr).getD mm 0 = q2.pr := by rw [List.getD_eq_getElem?_getD, List.getElem?_map, hqx2]; rfl
                  have Hqp2 := hide hqp2
                  have d1 : decide ((mm : Int) < 0) = false := decide_eq_false ha
                  have imr : (mm : Int) < (r : Int) := by omega
                  have Hko := hide hko; have Hu := hide hu
                  clear hko hu hql hBr hqx2 hqp2
                  by_cases hpp : q2.pr < q.pr
                  · have Hf := hide (Hat.out.dearer Hko.out (by rw [Hqp2.out, Hqp.out]; exact hpp))
                    have d2 : decide (q2.pr < q.pr) = true := decide_eq_true hpp
                    go_upto_region 17 with fail
                    go_quiet (fail)
                    go_wp2_with fail
                    first | exact ⟨⟨k + 1, by omega, by go_num, Hf.out, below_drewN Hb.out _⟩, by (try simp [intOf]); omega⟩ | exact ⟨⟨k + 1, _, by omega, rfl, by go_num, Hf.out, below_drewN Hb.out _⟩, by simp [intOf]; omega⟩
                  · have Hf := hide (Hat.out.stay (by rw [Hqp2.out, Hqp.out]; exact hpp))
                    have d2 : decide (q2.pr < q.pr) = false := decide_eq_false hpp
                    go_upto_region 17 with fail
                    go_quiet (fail)
                    go_wp2_with fail
                    first | exact ⟨⟨k + 1, by omega, by go_num, Hf.out, below_drewN Hb.out _⟩, by (try simp [intOf]); omega⟩ | exact ⟨⟨k + 1, _, by omega, rfl, by go_num, Hf.out, below_drewN Hb.out _⟩, by simp [intOf]; omega⟩
              · have Hf := hide (Hat.out.used (hu.1 rfl))
                have Hu := hide hu
                clear hu hql hBr
                go_upto_region 17 with fail
                go_quiet (fail)
                go_wp2_with fail
                first | exact ⟨⟨k + 1, by omega, by go_num, Hf.out, below_drewN Hb.out _⟩, by (try simp [intOf]); omega⟩ | exact ⟨⟨k + 1, _, by omega, rfl, by go_num, Hf.out, below_drewN Hb.out _⟩, by simp [intOf]; omega⟩
            · obtain rfl : k = r := by omega
              obtain ⟨mm, rfl, hmr, hmo, hmx⟩ := hat.full HT.out Hol.out hlt
              have Hmo := hide hmo; have Hmx := hide hmx
              have imr : (mm : Int) < (k : Int) := by omega
              obtain ⟨oU, ⟨vU, zU⟩, fU⟩ := (HUr.out.bel hb).putB (i := mm) (by rw [HT.out.ul]; exact hmr) HT.out.ul.symm true
              have oG := (HO.out.bel hb).setCell (p := ⟨gU, mm, none⟩) (by simp [Value.ownBlock]; exact hne) (.bool true)
              have kst : Kept (fun b => b < z0) w8 (wr.setCell ⟨gU, mm, none⟩ (.bool true)) := (hKw.trans (Kept.all _ hb)).trans ((Kept.setCell wr ⟨gU, mm, none⟩ (.bool true)).mono fun b _ h => by show b ≠ gU; omega)
              clear hat hmo hmx
              go_upto_region 20 with fail
              obtain ⟨w19, hw19⟩ : ∃ w19, Hid (wr.setCell ⟨gU, mm, none⟩ (.bool true) = w19) := ⟨_, hide rfl⟩
              rw [hw19.out] at oU oG kst ⊢
              have OU := hide oU; have OG := hide oG
              have HB19 := hide (HB8.out.trans (kst.below (fun b hb => by omega) (by omega)))
              have hs19 : z0 ≤ w19.heap.size := Nat.le_trans hz8 kst.size
              clear oU oG zU fU hb
              go_wp2_with fail
              go_loopw [18, 19] (fun mv iv wr => ∃ S : Nat, S ≤ P ∧ mv = .int .i64 (lackTo ns hs' ss k mm S) ∧ iv = .int .i64 S ∧ Below w19.heap.size w19 wr) (fun _ iv _ => P - (intOf iv).toNat)
              case atStart => exact ⟨0, by omega, rfl, rfl, Below.refl _ _⟩
              case round =>
                obtain ⟨S, hS, rfl, rfl, hb⟩ := hrel
                have hBr := HB19.out.trans (hb.mono HB19.out.size)
                by_cases hSP : S < P
                · have iS : (S : Int) < (P : Int) := by omega
                  obtain ⟨s, hsk, _, cs⟩ := (HS.out.bel hBr).nat' (i := mm) (by have := Hr2.out; omega)
                  have hs256 := H256.out s (List.mem_of_getElem? hsk)
                  have hgs : ss.getD mm 0 = s := by rw [List.getD_eq_getElem?_getD, hsk]; rfl
                  have ht := and_test s S hs256 (by omega)
                  obtain ⟨x, hx⟩ : ∃ x, x = lackTo ns hs' ss k mm S := ⟨_, rfl⟩
                  have hxb := lackTo_bd Hn.out (by have := Hm.out; omega : ns.length ≤ 8) Hh.out.2 ss hr8 (mm : Int) S
                  have hnb := needS_bd Hn.out (by have := Hm.out; omega : ns.length ≤ 8) S
                  have htb := thereS_bd Hh.out.2 ss hr8 S (mm : Int)
                  have hsu : lackTo ns hs' ss k mm (S + 1) = if (s &&& S != 0) = true then max x (needS ns S - thereS hs' ss k S mm) else x := by
                    rw [hx, lackTo, lackC_nat]; unfold onS; rw [hgs]
                  have hww : IntKind.i64.wrap (needS ns S - thereS hs' ss k S mm) = needS ns S - thereS hs' ss k S mm := wrapI (by omega)
                  rw [← hx] at hxb ⊢
                  have Hs := hide hsu; have Hww := hide hww; have HBr := hide hBr; have Hb := hide hb
                  clear hx hsu hww hnb htb hgs hsk hBr hb
                  cases hts : (s &&& S != 0)
                  · rw [hts] at ht Hs
                    have Hts := hide hts
                    clear hts
                    go_upto_region 24 with fail
                    go_wp2_with fail
                    exact ⟨⟨S + 1, by omega, by rw [Hs.out]; simp, by go_num, Hb.out⟩, by simp [intOf]; omega⟩
                  · rw [hts] at ht Hs
                    have Hts := hide hts
                    clear hts
                    go_upto_region 24 with fail
                    go_wp2_with fail
                    refine (wanted_any A0 m c0 ns S wr Hm.out hm8 Hn.out (HN.out.bel HBr.out) (by omega)).mono ?_
                    rintro e w1 ⟨rfl, hb1⟩
                    have hB1 := hide (HBr.out.trans (hb1.mono HBr.out.size))
                    have Hb1 := hide (Hb.out.trans (hb1.mono Hb.out.size))
                    clear cs ht hb1
                    go_wp2_with fail
                    obtain ⟨An, cn, en, rn⟩ := (OG.out.bel Hb1.out).rdn k Hh.out.1
                    injection en with en1 _ en2
                    subst en1 en2
                    refine (had_any _ _ k c12 c2 hs' ss S (mm : Int) w1 hr8 Hh.out.1.symm Hr2.out Hh.out.2 H256.out rn (HS.out.bel hB1.out) (by omega)).mono ?_
                    rintro e w2 ⟨rfl, hb2⟩
                    have Hb2 := hide (Hb1.out.trans (hb2.mono Hb1.out.size))
                    have hww := Hww.out
                    clear hb2
                    go_wp2_with fail
                    exact ⟨⟨S + 1, by omega, by rw [Hs.out]; simp, by go_num, Hb2.out⟩, by simp [intOf]; omega⟩
                · obtain rfl : P = S := by omega
                  have hxb := lackTo_bd Hn.out (by have := Hm.out; omega : ns.length ≤ 8) Hh.out.2 ss hr8 (mm : Int) P
                  obtain ⟨x, hx⟩ : ∃ x, x = lackTo ns hs' ss k mm P := ⟨_, rfl⟩
                  have hL : (boOf ns ss (rs.map Rr.pr)).Lacks (xOf hs') mm x := by
                    have h := lack_spec (ns := ns) (hs := hs') (ss := ss) (pr := rs.map Rr.pr) mm
                    rw [Hpr.out] at h
                    rw [hx, HP2.out]; exact h
                  rw [← hx] at hxb ⊢
                  have HLk := hide hL
                  obtain ⟨oG, zG, fG⟩ := (OG.out.bel hb).put1 (i := mm) (by rw [Hh.out.1]; exact hmr) Hh.out.1.symm x
                  have oU := (OU.out.bel hb).setCell (p := ⟨g, mm, none⟩) (by simp [Value.ownBlock]; exact fun e => hne e.symm) (.int .i64 x)
                  have kst2 : Kept (fun b => b < z0) w8 (wr.setCell ⟨g, mm, none⟩ (.int .i64 x)) := (kst.trans (Kept.all _ hb)).trans ((Kept.setCell wr ⟨g, mm, none⟩ (.int .i64 x)).mono fun b _ h => by show b ≠ g; omega)
                  clear hx hL
                  go_upto_region 27 with fail
                  obtain ⟨w26, hw26⟩ : ∃ w26, Hid (wr.setCell ⟨g, mm, none⟩ (.int .i64 x) = w26) := ⟨_, hide rfl⟩
                  rw [hw26.out] at oG oU kst2 ⊢
                  have hB26 := HB8.out.trans (kst2.below (fun b hb => by omega) (by omega))
                  obtain ⟨q, hqx, hql, _, c1', _⟩ := (HR.out.bel hB26).at' (i := mm) hmr
                  have hqp : (rs.map Rr.pr).getD mm 0 = q.pr := by rw [List.getD_eq_getElem?_getD, List.getElem?_map, hqx]; rfl
                  have hpb : 0 ≤ q.pr ∧ q.pr ≤ 100000 := Hp.out q.pr (List.mem_map.2 ⟨q, List.mem_of_getElem? hqx, rfl⟩)
                  obtain ⟨mm0, mm1⟩ := mul_bd2 (x := x) (p := q.pr) hxb.1 (by omega) hpb.1 hpb.2
                  obtain ⟨pv, hpv⟩ : ∃ pv, pv = x * q.pr := ⟨_, rfl⟩
                  have hw1 : IntKind.i64.wrap (x * q.pr) = pv := by rw [← hpv]; exact wrapI (by omega)
                  rw [← hpv] at mm0 mm1
                  have hn8 : (n : Int) * 20000000000 ≤ 160000000000 := by omega
                  have hw2 : IntKind.i64.wrap (z + pv) = z + pv := wrapI (by omega)
                  have hR' := Bo.Run.snoc (B := boOf ns ss (rs.map Rr.pr)) HRun.out (show mm < (rs.map Rr.pr).length by rw [Hpr.out]; exact hmr) Hmo.out HLk.out
                  rw [← xOf_set (by rw [Hh.out.1]; exact hmr)] at hR'
                  have Hpaid : Hid (z + pv = paid (hs'.set mm x) (rs.map Rr.pr) (o ++ [mm])) := hide (by
                    rw [paid_snoc, paid_set Hmo.out, ← Hz.out, hqp, getD_set (by rw [Hh.out.1]; exact hmr), if_pos rfl, hpv])
                  have HR' := hide hR'; have Hg := hide oG; have HU' := hide oU; have Hk2 := hide kst2
                  have Hh' : Hid ((hs'.set mm x).length = k ∧ ∀ y ∈ hs'.set mm x, 0 ≤ y ∧ y ≤ 200000) := hide ⟨by rw [List.length_set]; exact Hh.out.1, set_all Hh.out.2 ⟨by omega, by omega⟩ mm⟩
                  have HT' := hide (HT.out.snoc hmr Hmo.out Hmx.out)
                  clear hqp hqx hpv hR' oG oU kst2 zG fG hB26 hb
                  go_wp2_with fail
                  exact ⟨⟨n + 1, _, _, _, z + pv, by omega, rfl, by go_num, hide (by rw [List.length_append, Hol.out]; rfl), HT', Hh', Hpaid, ⟨by omega, by omega⟩, HR', Hg, HU', Hk2.out⟩, by simp [intOf]; omega⟩
        · obtain rfl : n = r := by omega
          have hc := cost_of_run (ns := ns) (ss := ss) (pr := rs.map Rr.pr) (hs := hs') (h0 := hs) (o := o) (fun i _ => (getD_mem (p := fun x : Int => 0 ≤ x ∧ x ≤ 100000) (d := 0) Hp.out (by decide) i).1) (fun i _ => (getD_mem (p := fun x : Int => 0 ≤ x ∧ x ≤ 200000) (d := 0) H0.out (by decide) i).1) Hfeas.out HRun.out (by rw [Hpr.out]; exact HT.out.perm Hol.out) HT.out.pw
          rw [← Hz.out] at hc
          have Hc := hide hc
          clear hc hzb
          go_wp2_with fail
          go_ret2
          exact ⟨_, _, rfl, Hc.out, HBo.out⟩
end Go.Proofs.Ytmbhnjpaieimbaa
