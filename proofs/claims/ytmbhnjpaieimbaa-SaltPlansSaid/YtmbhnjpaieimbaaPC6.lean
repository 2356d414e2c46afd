/- Salt: the cheapest plan, in the reference, by contract. -/
import Derived.Test.YtmbhnjpaieimbaaPC4
import Derived.Test.YtmbhnjpaieimbaaPC5
import Derived.Test.YtmbhnjpaieimbaaPBE
import Derived.Test.YtmbhnjpaieimbaaPC3
set_option linter.unusedVariables false
set_option linter.unusedSimpArgs false
namespace Go.Proofs.Ytmbhnjpaieimbaa
open Go.RowKit Go.Shelf
attribute [local go_sem] ite_min
theorem CostIs.congr {ns hs hs' : List Int} {ss ss' : List Nat} {pr : List Int} {c : Int} {b : Bool} (h : CostIs ns hs ss pr c b) (e1 : ∀ j, hs.getD j 0 = hs'.getD j 0) (e2 : ∀ j, ss.getD j 0 = ss'.getD j 0) : CostIs ns hs' ss' pr c b := by
  have x : xOf hs = xOf hs' := funext e1
  have y : boOf ns ss pr = boOf ns ss' pr := by
    unfold boOf
    congr 1
    exact funext e2
  exact ⟨by rw [← x, ← y]; exact h.no, by rw [← x, ← y]; exact h.yes⟩
/-- Lists of the reference, and the state of the plan. -/
structure Sim (r : Nat) (hs : List Int) (ss : List Nat) (st : PSt) : Prop where
  hl : hs.length = r
  sl : ss.length = r
  h : ∀ j, hs.getD j 0 = st.hs.getD j 0
  s : ∀ j, ss.getD j 0 = st.ss.getD j 0
theorem Sim.hb {r m c : Nat} {hs : List Int} {ss : List Nat} {st : PSt} {pr : List Int} (h : Sim r hs ss st) (ok : StOk pr m c st) : ∀ x ∈ hs, 0 ≤ x ∧ x ≤ 23040 := fun x hx => by
  obtain ⟨j, hj, hjx⟩ := List.getElem_of_mem hx
  have e := h.h j
  rw [List.getD_eq_getElem?_getD, List.getElem?_eq_getElem hj, hjx] at e
  have h2 := getD_mem (p := fun x : Int => 0 ≤ x ∧ x ≤ 23040) (d := 0) ok.h (by decide) j
  rw [← e] at h2
  exact h2
theorem Sim.sb {r m c : Nat} {hs : List Int} {ss : List Nat} {st : PSt} {pr : List Int} (h : Sim r hs ss st) (ok : StOk pr m c st) : ∀ x ∈ ss, x < 256 := fun x hx => by
  obtain ⟨j, hj, hjx⟩ := List.getElem_of_mem hx
  have e := h.s j
  rw [List.getD_eq_getElem?_getD, List.getElem?_eq_getElem hj, hjx] at e
  have h2 := getD_mem (p := fun x : Nat => x < 256) (d := 0) ok.s (by decide) j
  rw [← e] at h2
  exact h2
theorem Sim.give {r i k : Nat} {hs : List Int} {ss : List Nat} {st : PSt} {pr : List Int} {n : Int} (h : Sim r hs ss st) (hi : i < r) (h8 : st.hs.length = 8) (s8 : st.ss.length = 8) (r8 : r ≤ 8) : Sim r (hs.set i (hs.getD i 0 - n)) (ss.set i (ss.getD i 0 ^^^ 2 ^ k)) (giveP pr i k st n) := by
  refine ⟨by rw [List.length_set]; exact h.hl, by rw [List.length_set]; exact h.sl, fun j => ?_, fun j => ?_⟩
  · show _ = (st.hs.set i (st.hs.getD i 0 - n)).getD j 0
    rw [getD_set (by rw [h.hl]; exact hi), getD_set (by rw [h8]; omega), h.h, h.h]
  · show _ = (st.ss.set i (st.ss.getD i 0 ^^^ 2 ^ k)).getD j 0
    rw [getD_setN (by rw [h.sl]; exact hi), getD_setN (by rw [s8]; omega), h.s, h.s]
theorem StOk.fits' {pr : List Int} {m c : Nat} {st : PSt} (h : StOk pr m c st) (hp : ∀ x ∈ pr, 0 ≤ x ∧ x ≤ 100000) (hp8 : pr.length ≤ 8) : Fits st.hs pr :=
  ⟨fun j _ => (getD_mem (p := fun x : Int => 0 ≤ x ∧ x ≤ 100000) (d := 0) hp (by decide) j).1, fun j _ => (getD_mem (p := fun x : Int => 0 ≤ x ∧ x ≤ 23040) (d := 0) h.h (by decide) j).1, by rw [h.hl]; exact hp8⟩
/-- What the search asks. -/
theorem good_of {r m c0 i k : Nat} {hs : List Int} {ss : List Nat} {st : PSt} {pr : List Int} {c x : Int} {b : Bool} (h : Sim r hs ss st) (ok : StOk pr m c0 st) (hp : ∀ x ∈ pr, 0 ≤ x ∧ x ≤ 100000) (hr : pr.length = r) (r8 : r ≤ 8) (hi : i < r) (hx : x ≤ hs.getD i 0)
    (hc : CostIs (st.ns.set k (st.ns.getD k 0 - x)) (hs.set i (hs.getD i 0 - x)) ss pr c b) : goodF st.ns st.hs st.ss pr i k st.left x = (b && (c + x * pr.getD i 0 == st.left)) := by
  have hF : Fits st.hs pr := ⟨fun j _ => (getD_mem (p := fun x : Int => 0 ≤ x ∧ x ≤ 100000) (d := 0) hp (by decide) j).1, fun j _ => (getD_mem (p := fun x : Int => 0 ≤ x ∧ x ≤ 23040) (d := 0) ok.h (by decide) j).1, by rw [ok.hl, hr]; exact r8⟩
  have hih : i < st.hs.length := by rw [ok.hl]; omega
  rw [h.h] at hx
  have C := (hF.set (n := x) hx hih).cost (ns := st.ns.set k (st.ns.getD k 0 - x)) (ss := st.ss)
  have C2 := hc.congr (hs' := st.hs.set i (st.hs.getD i 0 - x)) (ss' := st.ss) (fun j => by rw [getD_set (by rw [h.hl]; exact hi), getD_set hih, h.h, h.h]) h.s
  obtain ⟨e1, e2⟩ := C.one C2
  unfold goodF
  rw [e1, e2]
/-- What stands where the plan is made. -/
structure RPl (w : World) (z0 : Nat) (AC AL AS : Option Addr) (r m cC cL cS : Nat) (hs ns : List Int) (ss : List Nat) : Prop where
  oc : Own w z0 3 1 icell (.slice AC r cC) hs
  ol : Own w z0 3 1 icell (.slice AL m cL) ns
  os : Own w z0 3 1 icell (.slice AS r cS) (ss.map Int.ofNat)
theorem RPl.bel {w w' : World} {z0 : Nat} {AC AL AS : Option Addr} {r m cC cL cS : Nat} {hs ns : List Int} {ss : List Nat} (h : RPl w z0 AC AL AS r m cC cL cS hs ns ss) (hb : Below w.heap.size w w') : RPl w' z0 AC AL AS r m cC cL cS hs ns ss := ⟨h.oc.bel hb, h.ol.bel hb, h.os.bel hb⟩
/-- Three blocks apart. -/
def Apart3 (AC AL AS : Option Addr) : Prop := ∀ g, (AC.map Addr.block = some g → AL.map Addr.block ≠ some g ∧ AS.map Addr.block ≠ some g) ∧ (AL.map Addr.block = some g → AS.map Addr.block ≠ some g)
theorem own_blk {A : Option Addr} {n c : Nat} : (Value.slice A n c).ownBlock = A.map Addr.block := by cases A <;> rfl
theorem rdn' {w : World} {base : Nat} {A : Option Addr} {n c : Nat} {xs : List Int} (h : Own w base 3 1 icell (.slice A n c) xs) : n = xs.length ∧ Rd w w.heap.size icell A xs := by
  obtain ⟨A', c', hv, hr⟩ := h.rd
  injection hv with h1 h2 h3
  subst h1
  exact ⟨h2, hr⟩
section
variable {w : World} {z0 : Nat} {AC AL AS : Option Addr} {r m cC cL cS g i : Nat} {hs ns : List Int} {ss : List Nat}
theorem RPl.putC (h : RPl w z0 (some ⟨g, 0, none⟩) AL AS r m cC cL cS hs ns ss) (D : Apart3 (some ⟨g, 0, none⟩) AL AS) (hi : i < hs.length) (hr : r = hs.length) (y : Int) :
    RPl (w.setCell ⟨g, i, none⟩ (.int .i64 y)) z0 (some ⟨g, 0, none⟩) AL AS r m cC cL cS (hs.set i y) ns ss ∧ w.cell? ⟨g, i, none⟩ = some (.int .i64 (hs.getD i 0)) ∧ w.frozen? ⟨g, i, none⟩ = false := by
  obtain ⟨h1, h2, h3⟩ := h.oc.put1 hi hr y
  exact ⟨⟨h1, h.ol.setCell (p := ⟨g, i, none⟩) (by rw [own_blk]; exact ((D g).1 rfl).1) _, h.os.setCell (p := ⟨g, i, none⟩) (by rw [own_blk]; exact ((D g).1 rfl).2) _⟩, h2, h3⟩
theorem RPl.putL (h : RPl w z0 AC (some ⟨g, 0, none⟩) AS r m cC cL cS hs ns ss) (D : Apart3 AC (some ⟨g, 0, none⟩) AS) (hi : i < ns.length) (hr : m = ns.length) (y : Int) :
    RPl (w.setCell ⟨g, i, none⟩ (.int .i64 y)) z0 AC (some ⟨g, 0, none⟩) AS r m cC cL cS hs (ns.set i y) ss ∧ w.cell? ⟨g, i, none⟩ = some (.int .i64 (ns.getD i 0)) ∧ w.frozen? ⟨g, i, none⟩ = false := by
  obtain ⟨h1, h2, h3⟩ := h.ol.put1 hi hr y
  exact ⟨⟨h.oc.setCell (p := ⟨g, i, none⟩) (by rw [own_blk]; exact fun e => ((D g).1 e).1 rfl) _, h1, h.os.setCell (p := ⟨g, i, none⟩) (by rw [own_blk]; exact (D g).2 rfl) _⟩, h2, h3⟩
theorem RPl.putS (h : RPl w z0 AC AL (some ⟨g, 0, none⟩) r m cC cL cS hs ns ss) (D : Apart3 AC AL (some ⟨g, 0, none⟩)) (hi : i < ss.length) (hr : r = ss.length) (y : Nat) :
    RPl (w.setCell ⟨g, i, none⟩ (.int .i64 (y : Int))) z0 AC AL (some ⟨g, 0, none⟩) r m cC cL cS hs ns (ss.set i y) ∧ w.cell? ⟨g, i, none⟩ = some (.int .i64 ((ss.getD i 0 : Nat) : Int)) ∧ w.frozen? ⟨g, i, none⟩ = false := by
  obtain ⟨h1, h2, h3⟩ := h.os.put1 (i := i) (by rw [List.length_map]; exact hi) (by rw [List.length_map]; exact hr) (y : Int)
  refine ⟨⟨h.oc.setCell (p := ⟨g, i, none⟩) (by rw [own_blk]; exact fun e => ((D g).1 e).2 rfl) _, h.ol.setCell (p := ⟨g, i, none⟩) (by rw [own_blk]; exact fun e => (D g).2 e rfl) _, ?_⟩, ?_, h3⟩
  · rw [List.map_set]; exact h1
  · rw [h2]
    congr 1
    rw [List.getD_eq_getElem?_getD, List.getD_eq_getElem?_getD, List.getElem?_map]
    cases ss[i]? <;> rfl
theorem RPl.kept {w' : World} {R : Nat → Prop} (h : RPl w z0 AC AL AS r m cC cL cS hs ns ss) (hk : Kept R w w') (hr : ∀ g, (AC.map Addr.block = some g ∨ AL.map Addr.block = some g ∨ AS.map Addr.block = some g) → R g) : RPl w' z0 AC AL AS r m cC cL cS hs ns ss :=
  ⟨h.oc.keptG hk (fun g e => hr g (.inl (by rw [own_blk] at e; exact e))), h.ol.keptG hk (fun g e => hr g (.inr (.inl (by rw [own_blk] at e; exact e)))), h.os.keptG hk (fun g e => hr g (.inr (.inr (by rw [own_blk] at e; exact e))))⟩
end
theorem set_back {xs : List Int} {i : Nat} (hi : i < xs.length) (x : Int) : (xs.set i (xs.getD i 0 - x)).set i (xs.getD i 0) = xs := by
  rw [List.set_set]
  have h := set_sub_zero (xs := xs) (k := i)
  rw [Int.sub_zero] at h
  exact h
theorem hsTo_out (rs : List Rr) : ∀ k j, k ≤ j → (hsTo rs k).getD j 0 = 0
  | 0, j, _ => by
    simp only [hsTo, List.getD_eq_getElem?_getD, List.getElem?_replicate]
    split <;> rfl
  | k + 1, j, h => by
    simp only [hsTo, List.getD_eq_getElem?_getD]
    rw [List.getElem?_set_ne (by omega), ← List.getD_eq_getElem?_getD]
    exact hsTo_out rs k j (by omega)
theorem sim_start {ns : List Int} {rs : List Rr} (h8 : rs.length ≤ 8) : Sim rs.length (rs.map Rr.mi) (rs.map fun q => bitsF q.fs) (st0F ns rs) := by
  refine ⟨by simp, by simp, fun j => ?_, fun j => ?_⟩
  · show _ = (hsTo rs rs.length).getD j 0
    by_cases hj : j < rs.length
    · rw [hsTo_get rs hj h8]
      unfold miAt
      rw [List.getD_eq_getElem?_getD, List.getElem?_map]
    · rw [hsTo_out rs _ _ (by omega), List.getD_eq_getElem?_getD, List.getElem?_eq_none (by simp; omega)]; rfl
  · show _ = (ssTo rs rs.length).getD j 0
    by_cases hj : j < rs.length
    · rw [ssTo_get rs hj h8]
      unfold fsAt
      rw [List.getD_eq_getElem?_getD, List.getElem?_map, List.getElem?_eq_getElem hj]; rfl
    · rw [ssTo_out rs _ _ (by omega), List.getD_eq_getElem?_getD, List.getElem?_eq_none (by simp; omega)]; rfl
set_option maxHeartbeats 4000000 in
set_option maxRecDepth 100000 in
theorem rplan_any (A1 A2 : Option Addr) (m c1 r c2 : Nat) (ns : List Int) (rs : List Rr) (w : World) (hN : Rd w w.heap.size icell A1 ns) (hm : m = ns.length) (hm2 : m ≤ 9223372036854775807) (hR : RsAt w A2 r rs) (hr2 : r ≤ 9223372036854775807) :
    Calls Try.prog 30 #[.slice A1 m c1, .slice A2 r c2] w fun e w' => ∃ v, e = .returned (.tuple #[v, .int .i64 (planF ns rs).2.1, .int .i64 (planF ns rs).2.2]) ∧ (∃ ss, Own w' w.heap.size 41 1 Sl.cells v ss ∧ Rows w' w'.heap.size icell ss (planF ns rs).1) ∧ Below w.heap.size w w' := by
  have Hm := hide hm; have Her := hide hR.en; have HR := hide hR; have HN := hide hN
  have Hrr := hide (rrents_any A1 A2 m c1 r c2 ns rs w hN hm hm2 hR hr2)
  clear hm hR hN
  go_enter Try.func30, Try.ntmps30
  go_wp2_with fail
  refine Hrr.out.mono ?_
  rintro e w1 ⟨rfl, hb1⟩
  have hB1 := hide hb1
  clear Hrr hb1
  cases hok : rentsOk ns rs
  · have hp : Hid (planF ns rs = ([], 0, 62)) := hide (by unfold planF; rw [if_neg (by rw [hok]; decide)])
    clear hok
    go_wp2_with fail
    go_ret3
    exact ⟨_, by rw [hp.out]; rfl, ⟨[], Own.nil _ _ _ _ _, by rw [hp.out]; exact ⟨rfl, fun i s xs h _ => by simp at h⟩⟩, hB1.out⟩
  have Hok := hide hok
  have hro := RentsOk.of hok
  have hm8 : m ≤ 8 := by rw [Hm.out]; exact hro.nl
  have hr8 : r ≤ 8 := by rw [Her.out]; exact hro.rl
  have Hro := hide hro
  have Hprl := hide (show (rs.map Rr.pr).length = r by rw [List.length_map]; exact Her.out.symm)
  clear hok hro
  go_wp2_with fail
  refine (ropen_any A2 r c2 rs ns.length w1 Hro.out.nl (HR.out.bel hB1.out) hr8 Hro.out.rt).mono ?_
  rintro e w2 ⟨vS, rfl, oS, hb2⟩
  obtain ⟨AS, cS, rfl, _⟩ := oS.rdn r (by rw [List.length_map, List.length_map]; exact Her.out.symm)
  have HS2 := hide oS
  have hB2 := hide (hB1.out.trans (hb2.mono hB1.out.size))
  have hz1 : w.heap.size ≤ w1.heap.size := hB1.out.size
  have hz12 : w1.heap.size ≤ w2.heap.size := hb2.size
  clear oS hb2
  go_wp2_with fail
  go_loopw [8, 9] (fun v i wr => ∃ (k : Nat) (A : Option Addr) (c : Nat), k ≤ r ∧ v = .slice A k c ∧ i = .int .i64 k ∧ Hid (Own wr w2.heap.size 3 1 icell (.slice A k c) ((rs.take k).map Rr.mi)) ∧ Below w2.heap.size w2 wr) (fun _ i _ => r - (intOf i).toNat)
  case atStart => exact ⟨0, none, 0, by omega, rfl, rfl, hide (Own.nil _ _ _ _ _), Below.refl _ _⟩
  case round =>
    obtain ⟨k, A, c, hk, rfl, rfl, HO, hb⟩ := hrel
    by_cases hlt : k < r
    · obtain ⟨b7, off, q, hA, hql, hqx, c0, _, _⟩ := (HR.out.bel (hB2.out.trans (hb.mono hB2.out.size))).rd.rr (i := k) (by rw [← Her.out]; exact hlt)
      have ik : (k : Int) < (r : Int) := by omega
      have hlen : ((rs.take k).map Rr.mi).length + 1 ≤ 1000000 := by rw [List.length_map, List.length_take]; omega
      have hsz := hb.size
      have HB := hide hb; have Hqx := hide hqx
      rw [hA]
      clear hA hqx hb
      go_wp2_with (at_builtin; refine wpList_app1 (v := .slice A k c) (xs := (rs.take k).map Rr.mi) (base := w2.heap.size) (k := 1) (bytes := 8) (E := 3) el_int rfl (.tmp 35) (.tmp 41) rfl rfl rfl HO.out q.mi rfl hlen hsz ?_; intro v' w10 o10 k10; obtain ⟨A', c', rfl, _⟩ := o10.rdn (k + 1) (by rw [List.length_append, List.length_map, List.length_take]; have := Her.out; simp; omega); have O10 := hide o10; have K10 := hide k10; clear o10 k10)
      exact ⟨⟨k + 1, A', c', by omega, rfl, by go_num, hide (by rw [take_snoc Hqx.out, List.map_append]; exact O10.out), below_keptB HB.out K10.out (Nat.le_refl _) HB.out.size⟩, by simp [intOf]; omega⟩
    · obtain rfl : r = k := by omega
      have hO := HO.out
      rw [List.take_of_length_le (by rw [← Her.out]; exact Nat.le_refl _)] at hO
      have HC3 := hide hO
      have HS3 := hide (HS2.out.bel hb)
      have hB3 := hide (hB2.out.trans (hb.mono hB2.out.size))
      have hz23 : w2.heap.size ≤ wr.heap.size := hb.size
      obtain ⟨w3, rfl⟩ : ∃ w3, w3 = wr := ⟨wr, rfl⟩
      have L9 := hide (lit0 (cells := icell) w3 3 1 w3.heap.size (fun _ => rfl) (Nat.le_refl _))
      have hb9 := hide (below_new w3 (.cells #[] 3))
      have R9 := hide ((HN.out.bel hB3.out).bel hb9.out)
      clear hO hb HO
      go_upto_region 10 with (at_builtin; refine wpList_fresh el_int rfl (.tmp 43) (.tmp 44) rfl rfl L9.out Hm.out.symm rfl R9.out (by omega) hb9.out.size ?_; intro v10 w4 o4 k4 hat4; have O4 := hide o4; have K4 := hide k4; clear o4 k4 hat4)
      obtain ⟨AL, cL, rfl, _⟩ := O4.out.rdn m Hm.out.symm
      have hb34 := hb9.out.trans (K4.out.mono hb9.out.size)
      have hB4 := hide (hB3.out.trans (hb34.mono hB3.out.size))
      have P4 : Hid (RPl w4 w1.heap.size A AL AS r m c cL cS (rs.map Rr.mi) ns (rs.map fun q => bitsF q.fs)) := hide ⟨(HC3.out.bel hb34).mono (by omega), O4.out.mono (by omega), HS3.out.bel hb34⟩
      have D3 : Hid (Apart3 A AL AS) := hide fun g => by
        have a1 : ∀ g, A.map Addr.block = some g → w2.heap.size ≤ g ∧ g < w3.heap.size := fun g h => HC3.out.blockG (by rw [own_blk]; exact h)
        have a2 : ∀ g, AL.map Addr.block = some g → w3.heap.size ≤ g := fun g h => (O4.out.blockG (by rw [own_blk]; exact h)).1
        have a3 : ∀ g, AS.map Addr.block = some g → g < w2.heap.size := fun g h => (HS2.out.blockG (by rw [own_blk]; exact h)).2
        exact ⟨fun h => ⟨fun h2 => by have := a1 g h; have := a2 g h2; omega, fun h2 => by have := a1 g h; have := a3 g h2; omega⟩, fun h h2 => by have := a2 g h; have := a3 g h2; omega⟩
      have hz34 : w3.heap.size ≤ w4.heap.size := hb34.size
      clear L9 hb9 R9 O4 K4 HC3 HS3 HS2 hb34 hB3
      have nb := Hro.out.n
      have S0 := sim_start (ns := ns) (rs := rs) Hro.out.rl
      have k0 := Hro.out.start
      have mb : ∀ x ∈ rs.map Rr.mi, 0 ≤ x ∧ x ≤ 200000 := fun x hx => by have := S0.hb k0 x hx; omega
      have sb := S0.sb k0
      go_wp2_with fail
      refine (rcheap_any AL A AS A2 m cL r c cS c2 ns (rs.map Rr.mi) (rs.map fun q => bitsF q.fs) rs w4 Hm.out hm8 nb (rdn' P4.out.ol).2 hr8 (by rw [List.length_map]; exact Her.out) (by rw [List.length_map]; exact Her.out) mb sb (rdn' P4.out.oc).2 (rdn' P4.out.os).2 (HR.out.bel hB4.out) Hro.out.p).mono ?_
      rintro e w5 ⟨cc, b, rfl, hc, hb5⟩
      have P5 := hide (P4.out.bel hb5)
      have hB5 := hide (hB4.out.trans (hb5.mono hB4.out.size))
      obtain ⟨e1, e2⟩ := Hro.out.cost.one (hc.congr S0.h S0.s)
      have hz5 : w1.heap.size ≤ w5.heap.size := by have := hb5.size; omega
      have HS0 := hide S0; have K0 := hide k0
      clear S0 k0 mb sb nb hb5 P4 hB4 hc
      cases b
      · have hp : Hid (planF ns rs = ([], 0, 63)) := hide (by unfold planF; rw [if_pos Hok.out, e2, if_neg (by decide)])
        clear e1 e2
        go_wp2_with fail
        go_ret3
        exact ⟨_, by rw [hp.out]; rfl, ⟨[], Own.nil _ _ _ _ _, by rw [hp.out]; exact ⟨rfl, fun i s xs h _ => by simp at h⟩⟩, hB5.out⟩
      have Hp : Hid (planF ns rs = ((planP (rs.map Rr.pr) m r (st0F ns rs)).1, cc, 0)) := hide (by
        unfold planF
        rw [if_pos Hok.out, e2, if_pos rfl, Hm.out, Her.out, ← e1]
        rfl)
      obtain ⟨st0, hst0⟩ : ∃ st0, st0 = st0F ns rs := ⟨_, rfl⟩
      rw [← hst0] at Hp HS0 K0 e1
      have En : Hid (st0.ns = ns) := hide (by rw [hst0]; rfl)
      rw [← Hm.out] at K0
      rw [← Her.out] at HS0
      have El : Hid (st0.left = cc) := hide e1
      clear e1 e2 hst0
      go_wp2_with fail
      go_loopw [13, 14, 15] (fun v rv iv wr => ∃ (i : Nat) (pv : Value) (sl : List Sl) (hs' : List Int) (ss' : List Nat), pv = v ∧ i ≤ r ∧ rv = .int .i64 (planP (rs.map Rr.pr) m i st0).2.left ∧ iv = .int .i64 i ∧ Hid (RPl wr w1.heap.size A AL AS r m c cL cS hs' (planP (rs.map Rr.pr) m i st0).2.ns ss') ∧ Hid (Sim r hs' ss' (planP (rs.map Rr.pr) m i st0).2) ∧ Hid (StOk (rs.map Rr.pr) m (m * i) (planP (rs.map Rr.pr) m i st0).2) ∧ Hid (Own wr w5.heap.size 41 1 Sl.cells pv sl) ∧ Hid (RowsN wr w5.heap.size sl (planP (rs.map Rr.pr) m i st0).1) ∧ Hid (Apart pv sl) ∧ Kept (fun b => b < w5.heap.size ∧ A.map Addr.block ≠ some b ∧ AL.map Addr.block ≠ some b ∧ AS.map Addr.block ≠ some b) w5 wr) (fun _ _ iv _ => r - (intOf iv).toNat)
      case atStart => exact ⟨0, _, [], _, _, rfl, by omega, by show _ = Value.int .i64 st0.left; rw [El.out], rfl, hide (by show RPl _ _ _ _ _ _ _ _ _ _ _ st0.ns _; rw [En.out]; exact P5.out), HS0, hide (by rw [Nat.mul_zero]; exact K0.out), hide (Own.nil _ _ _ _ _), hide ⟨⟨rfl, fun i s xs h _ => by simp at h⟩, fun s hs => by cases hs⟩, hide (fun gv h => by simp [Value.ownBlock] at h), Kept.refl _ _⟩
      case round =>
        obtain ⟨i, pv, sl, hs1, ss1, rfl, hi, rfl, rfl, HP, HSm, HSt, HOv, HRw, HAp, hKo⟩ := hrel
        have hzA : ∀ g, (A.map Addr.block = some g ∨ AL.map Addr.block = some g ∨ AS.map Addr.block = some g) → w1.heap.size ≤ g := fun g h => by
          rcases h with h | h | h
          · exact (P5.out.oc.blockG (by rw [own_blk]; exact h)).1
          · exact (P5.out.ol.blockG (by rw [own_blk]; exact h)).1
          · exact (P5.out.os.blockG (by rw [own_blk]; exact h)).1
        have hBo := hB5.out.trans (hKo.below (fun b hb => ⟨by have := hB5.out.size; omega, fun e => by have := hzA b (.inl e); omega, fun e => by have := hzA b (.inr (.inl e)); omega, fun e => by have := hzA b (.inr (.inr e)); omega⟩) hB5.out.size)
        have HzA := hide hzA; have HBo := hide hBo
        have hbA : ∀ g, (A.map Addr.block = some g ∨ AL.map Addr.block = some g ∨ AS.map Addr.block = some g) → g < w5.heap.size := fun g h => by
          rcases h with h | h | h
          · exact (P5.out.oc.blockG (by rw [own_blk]; exact h)).2
          · exact (P5.out.ol.blockG (by rw [own_blk]; exact h)).2
          · exact (P5.out.os.blockG (by rw [own_blk]; exact h)).2
        have HbA := hide hbA
        clear hzA hBo hbA
        by_cases hlt : i < r
        · obtain ⟨wo, rfl⟩ : ∃ wo, wo = wr := ⟨wr, rfl⟩
          obtain ⟨gS, rfl⟩ := own_at' HP.out.os (by omega)
          obtain ⟨gC, rfl⟩ := own_at' HP.out.oc (by omega)
          obtain ⟨b2, o2, hA2⟩ : ∃ b o, A2 = some ⟨b, o, none⟩ := by
            obtain ⟨b, o, q, h, _⟩ := HR.out.rd.rr (i := 0) (by have := HR.out.en; omega)
            exact ⟨b, o, h⟩
          subst hA2
          obtain ⟨S, hS⟩ : ∃ S, S = (planP (rs.map Rr.pr) m i st0).2 := ⟨_, rfl⟩
          rw [← hS] at HP HSm HSt ⊢
          have HS := hide hS
          have ii : (i : Int) < (r : Int) := by omega
          clear hS
          go_wp2_with fail
          rw [make_ints m (by omega)]
          have ho1 := own_made m (by omega) wo wo.heap.size (Nat.le_refl _)
          have hb1 := below_new wo (.cells (madeCells #[.int .i64 0] (m * 1)) 3)
          obtain ⟨gR, hgR⟩ : ∃ g, g = wo.heap.size := ⟨_, rfl⟩
          obtain ⟨wB, HwB⟩ : ∃ wB, Hid (wo.alloc (.cells (madeCells #[.int .i64 0] (m * 1)) 3) = wB) := ⟨_, hide rfl⟩
          rw [HwB.out] at ho1 hb1 ⊢
          have PB := hide (HP.out.bel hb1)
          have ho1' : Own wB gR 3 1 icell (.slice (some ⟨gR, 0, none⟩) m m) (List.replicate m 0) := by rw [← hgR] at ho1; exact ho1
          have HR0 := hide ho1'
          have hRo : wo.heap.size ≤ gR := by omega
          have hRB : gR < wB.heap.size := (ho1'.blockG (g := gR) rfl).2
          have hko5 := hKo.size
          have HB1 := hide hb1
          have HgC : gC < w5.heap.size := HbA.out gC (.inl rfl)
          have HgS : gS < w5.heap.size := HbA.out gS (.inr (.inr rfl))
          rw [← hgR]
          clear ho1 ho1' hb1 hgR HwB
          go_wp2_with fail
          go_loopw [14, 17] (fun rv kv wr => ∃ (k : Nat) (hs2 : List Int) (ss2 : List Nat), k ≤ m ∧ rv = .int .i64 (rowP (rs.map Rr.pr) i k S).2.left ∧ kv = .int .i64 k ∧ Hid (RPl wr w1.heap.size (some ⟨gC, 0, none⟩) AL (some ⟨gS, 0, none⟩) r m c cL cS hs2 (rowP (rs.map Rr.pr) i k S).2.ns ss2) ∧ Hid (Sim r hs2 ss2 (rowP (rs.map Rr.pr) i k S).2) ∧ Hid (StOk (rs.map Rr.pr) m (m * i + k) (rowP (rs.map Rr.pr) i k S).2) ∧ Hid (Own wr gR 3 1 icell (.slice (some ⟨gR, 0, none⟩) m m) ((rowP (rs.map Rr.pr) i k S).1 ++ List.replicate (m - k) 0)) ∧ Kept (fun b => b ≠ gR ∧ b ≠ gC ∧ AL.map Addr.block ≠ some b ∧ b ≠ gS) wB wr) (fun _ kv _ => m - (intOf kv).toNat)
          case atStart => exact ⟨0, hs1, ss1, by omega, rfl, rfl, PB, HSm, hide (by rw [Nat.add_zero]; exact HSt.out), hide (by show Own wB gR _ _ _ _ ([] ++ List.replicate (m - 0) 0); rw [List.nil_append, Nat.sub_zero]; exact HR0.out), Kept.refl _ _⟩
          case round =>
            obtain ⟨k, hs2, ss2, hk, rfl, rfl, HPk, HSk, HOk, HRk, hKw⟩ := hrel
            obtain ⟨T, hT⟩ : ∃ T, T = (rowP (rs.map Rr.pr) i k S).2 := ⟨_, rfl⟩
            rw [← hT] at HPk HSk HOk ⊢
            have HT := hide hT
            clear hT
            have hBk := HBo.out.trans (HB1.out.mono HBo.out.size)
            have hzw := HB1.out.size
            have hBr := hBk.trans (hKw.below (B := w.heap.size) (fun b hb => ⟨by have := hB5.out.size; omega, fun e => by subst e; have := HzA.out b (.inl rfl); omega, fun e => by have := HzA.out b (.inr (.inl e)); omega, fun e => by subst e; have := HzA.out b (.inr (.inr rfl)); omega⟩) hBk.size)
            have HBr := hide hBr
            clear hBr hBk
            by_cases hltk : k < m
            · obtain ⟨gL, rfl⟩ := own_at' HPk.out.ol (by omega)
              have hi8 : i < 8 := by omega
              obtain ⟨s, hsx, _, cs⟩ := (rdn' HPk.out.os).2.nat' (i := i) (by rw [HSk.out.sl]; exact hlt)
              rw [Nat.zero_add] at cs
              have hsg : ss2.getD i 0 = s := by rw [List.getD_eq_getElem?_getD, hsx]; rfl
              have hs256 := HSk.out.sb HOk.out s (List.mem_of_getElem? hsx)
              have ht := shr_zero s k hs256
              have ik : (k : Int) < (m : Int) := by omega
              have Hsg := hide (show T.ss.getD i 0 = s by rw [← HSk.out.s, hsg])
              have Hsg2 := hide hsg
              clear hsx hsg
              cases hb : s.testBit k
              · rw [hb] at ht
                have hcell : cellP (rs.map Rr.pr) i k T = (0, T) := by unfold cellP; rw [Hsg.out, hb]; rfl
                have e1 : (rowP (rs.map Rr.pr) i (k + 1) S).1 = (rowP (rs.map Rr.pr) i k S).1 ++ [0] := by simp only [rowP]; rw [← HT.out, hcell]
                have e2 : (rowP (rs.map Rr.pr) i (k + 1) S).2 = T := by simp only [rowP]; rw [← HT.out, hcell]
                have G1 : Hid (Own wr gR 3 1 icell (.slice (some ⟨gR, 0, none⟩) m m) ((rowP (rs.map Rr.pr) i (k + 1) S).1 ++ List.replicate (m - (k + 1)) 0)) := by
                  rw [e1, ← row_pad hltk]; exact HRk
                have E2 := hide e2
                have HK := hide hKw
                clear hb hcell e1 e2 hKw
                go_wp2_with fail
                exact ⟨⟨k + 1, hs2, ss2, by omega, by rw [E2.out], by go_num, by rw [E2.out]; exact HPk, by rw [E2.out]; exact HSk, by rw [E2.out]; exact hide HOk.out.more, G1, HK.out⟩, by simp [intOf]; omega⟩
              · rw [hb] at ht
                have Hb := hide hb
                have HK := hide hKw
                have D3 := D3.out
                have hir : i < hs2.length := by rw [HSk.out.hl]; exact hlt
                have hkn : k < T.ns.length := by rw [HOk.out.nl]; exact hltk
                obtain ⟨h0, hh0⟩ : ∃ h0, h0 = hs2.getD i 0 := ⟨_, rfl⟩
                obtain ⟨n0, hn0⟩ : ∃ n0, n0 = T.ns.getD k 0 := ⟨_, rfl⟩
                have kC := (HPk.out.putC D3 hir HSk.out.hl.symm 0).2.1
                have kL := (HPk.out.putL D3 hkn HOk.out.nl.symm 0).2.1
                rw [← hh0] at kC
                rw [← hn0] at kL
                have hhb : 0 ≤ h0 ∧ h0 ≤ 23040 := by rw [hh0]; exact getD_mem (p := fun x : Int => 0 ≤ x ∧ x ≤ 23040) (d := 0) (HSk.out.hb HOk.out) (by decide) i
                have hnb : 0 ≤ n0 ∧ n0 ≤ 23040 := by rw [hn0]; exact getD_mem (p := fun x : Int => 0 ≤ x ∧ x ≤ 23040) (d := 0) HOk.out.n (by decide) k
                obtain ⟨M, hM⟩ : ∃ M : Nat, min h0 n0 = (M : Int) := ⟨(min h0 n0).toNat, by omega⟩
                have hMh : (M : Int) ≤ h0 ∧ (M : Int) ≤ n0 := by omega
                have Htop : Hid (topP i k T = M) := hide (by unfold topP; rw [← HSk.out.h, ← hh0, ← hn0]; omega)
                have Hh0 := hide hh0; have Hn0 := hide hn0
                have hgR1 : gC < gR := by omega
                have hgL5 : gL < w5.heap.size := HbA.out gL (.inr (.inl rfl))
                have hgz : w1.heap.size ≤ gC ∧ w1.heap.size ≤ gL ∧ w1.heap.size ≤ gS := ⟨HzA.out gC (.inl rfl), HzA.out gL (.inr (.inl rfl)), HzA.out gS (.inr (.inr rfl))⟩
                have hDcl : gC ≠ gL ∧ gC ≠ gS ∧ gL ≠ gS := ⟨fun e => ((D3 gC).1 rfl).1 (by rw [e]; rfl), fun e => ((D3 gC).1 rfl).2 (by rw [e]; rfl), fun e => (D3 gL).2 rfl (by rw [e]; rfl)⟩
                clear hb hKw hh0 hn0
                go_upto_region 23 with fail
                go_quiet (fail)
                have hD := below_drewN (Below.refl wr.heap.size wr) nq
                obtain ⟨wq, hwq⟩ : ∃ wq, Hid (wr.drewN nq = wq) := ⟨_, hide rfl⟩
                rw [hwq.out] at hD ⊢
                have PQ := hide (HPk.out.bel hD)
                have RQ := hide (HRk.out.bel hD)
                have KQ := hide (HK.out.trans (Kept.all _ hD))
                have BQ := hide (HBr.out.trans (hD.mono HBr.out.size))
                have hgRq : gR < wq.heap.size := (RQ.out.blockG (g := gR) rfl).2
                clear hD kC kL cs ht hwq
                go_wp2_with fail
                go_loopw [18, 19] (fun lv hv wr => ∃ lo hi : Nat, lo ≤ hi ∧ hi ≤ M ∧ lv = .int .i64 lo ∧ hv = .int .i64 hi ∧ Hid (lo = 0 ∨ goodN (rs.map Rr.pr) i k T lo = true) ∧ Hid (∀ y, hi < y → y ≤ M → goodN (rs.map Rr.pr) i k T y = false) ∧ Hid (RPl wr w1.heap.size (some ⟨gC, 0, none⟩) (some ⟨gL, 0, none⟩) (some ⟨gS, 0, none⟩) r m c cL cS hs2 T.ns ss2) ∧ Kept (fun b => b ≠ gC ∧ b ≠ gL) wq wr) (fun lv hv _ => (intOf hv).toNat - (intOf lv).toNat)
                case atStart => exact ⟨0, M, by omega, Nat.le_refl _, rfl, rfl, hide (.inl rfl), hide (fun y h1 h2 => by omega), PQ, Kept.refl _ _⟩
                case round =>
                  obtain ⟨lo, hi2, hlh, hhM, rfl, rfl, Hlo, Hhi, HPx, hKx⟩ := hrel
                  have hBx := BQ.out.trans (hKx.below (fun b hb => ⟨by omega, by omega⟩) BQ.out.size)
                  by_cases hlt2 : lo < hi2
                  · obtain ⟨x, hx⟩ : ∃ x, x = (lo + hi2 + 1) / 2 := ⟨_, rfl⟩
                    have hxl : lo < x ∧ x ≤ hi2 := by omega
                    have hq0 : ((lo : Int) + hi2 + 1) / 2 = x := by omega
                    have hq1 : Int.tdiv ((lo : Int) + hi2 + 1) 2 = x := by rw [Int.tdiv_eq_ediv_of_nonneg (by omega)]; exact hq0
                    have ilh : (lo : Int) < (hi2 : Int) := by omega
                    have iw1 : IntKind.i64.wrap ((lo : Int) + hi2) = (lo : Int) + hi2 := wrapI (by omega)
                    have iw2 : IntKind.i64.wrap ((lo : Int) + hi2 + 1) = (lo : Int) + hi2 + 1 := wrapI (by omega)
                    have iw3 : IntKind.i64.wrap (x : Int) = x := wrapI (by omega)
                    have iw4 : IntKind.i64.wrap (h0 - x) = h0 - x := wrapI (by omega)
                    have iw5 : IntKind.i64.wrap (n0 - x) = n0 - x := wrapI (by omega)
                    have iw6 : IntKind.i64.wrap h0 = h0 := wrapI (by omega)
                    have iw7 : IntKind.i64.wrap n0 = n0 := wrapI (by omega)
                    have iw8 : IntKind.i64.wrap ((x : Int) - 1) = (x : Int) - 1 := wrapI (by omega)
                    obtain ⟨P1, z1, f1⟩ := HPx.out.putC D3 hir HSk.out.hl.symm (h0 - x)
                    rw [← Hh0.out] at z1
                    have K1 := hKx.trans ((Kept.setCell wr ⟨gC, i, none⟩ (.int .i64 (h0 - x))).mono fun b _ h => h.1)
                    have HBx := hide hBx
                    clear hx hBx
                    go_upto_region 27 with fail
                    obtain ⟨wx1, hw1⟩ : ∃ wx, Hid (wr.setCell ⟨gC, i, none⟩ (.int .i64 (h0 - x)) = wx) := ⟨_, hide rfl⟩
                    rw [hw1.out] at P1 K1 ⊢
                    obtain ⟨P2, z2, f2⟩ := P1.putL D3 hkn HOk.out.nl.symm (n0 - x)
                    rw [← Hn0.out] at z2
                    have K2 := K1.trans ((Kept.setCell wx1 ⟨gL, k, none⟩ (.int .i64 (n0 - x))).mono fun b _ h => h.2)
                    clear z1 f1 P1 K1 hw1
                    go_upto_region 28 with fail
                    obtain ⟨wx2, hw2⟩ : ∃ wx, Hid (wx1.setCell ⟨gL, k, none⟩ (.int .i64 (n0 - x)) = wx) := ⟨_, hide rfl⟩
                    rw [hw2.out] at P2 K2 ⊢
                    have hB2x := BQ.out.trans (K2.below (fun b hb => ⟨by omega, by omega⟩) BQ.out.size)
                    have HP2 := hide P2; have HK2 := hide K2; have HB2 := hide hB2x
                    clear z2 f2 P2 K2 hw2 hB2x
                    go_wp2_with fail
                    refine (rcheap_any (some ⟨gL, 0, none⟩) (some ⟨gC, 0, none⟩) (some ⟨gS, 0, none⟩) (some ⟨b2, o2, none⟩) m cL r c cS c2 (T.ns.set k (n0 - x)) (hs2.set i (h0 - x)) ss2 rs wx2 (by rw [List.length_set]; exact HOk.out.nl.symm) hm8 (set_all HOk.out.n ⟨by omega, by omega⟩ k) (rdn' HP2.out.ol).2 hr8 (by rw [List.length_set]; exact HSk.out.hl.symm) HSk.out.sl.symm (set_all (fun y hy => by have := HSk.out.hb HOk.out y hy; omega) ⟨by omega, by omega⟩ i) (HSk.out.sb HOk.out) (rdn' HP2.out.oc).2 (rdn' HP2.out.os).2 (HR.out.bel HB2.out) Hro.out.p).mono ?_
                    rintro e wx3 ⟨cv, cb, rfl, hc, hb3⟩
                    have hg := good_of (x := (x : Int)) HSk.out HOk.out Hro.out.p Hprl.out hr8 hlt (by rw [← Hh0.out]; omega) (by rw [← Hh0.out, ← Hn0.out]; exact hc)
                    have hcb := costIs_bd (set_all (fun y hy => by have := HSk.out.hb HOk.out y hy; omega) ⟨by omega, by omega⟩ i) Hro.out.p (by rw [Hprl.out]; exact hr8) hc
                    obtain ⟨P4, z4, f4⟩ := (HP2.out.bel hb3).putC D3 (i := i) (by rw [List.length_set]; exact hir) (by rw [List.length_set]; exact HSk.out.hl.symm) h0
                    rw [getD_set hir, if_pos rfl] at z4
                    have e4 : (hs2.set i (h0 - x)).set i h0 = hs2 := by rw [Hh0.out]; exact set_back hir x
                    rw [e4] at P4
                    have K4 := (HK2.out.trans (Kept.all _ hb3)).trans ((Kept.setCell wx3 ⟨gC, i, none⟩ (.int .i64 h0)).mono fun b _ h => h.1)
                    have Hg := hide hg
                    clear hc hb3 e4 hg
                    go_upto_region 30 with fail
                    obtain ⟨wx4, hw4⟩ : ∃ wx, Hid (wx3.setCell ⟨gC, i, none⟩ (.int .i64 h0) = wx) := ⟨_, hide rfl⟩
                    rw [hw4.out] at P4 K4 ⊢
                    obtain ⟨P5', z5, f5⟩ := P4.putL D3 (i := k) (by rw [List.length_set]; exact hkn) (by rw [List.length_set]; exact HOk.out.nl.symm) n0
                    rw [getD_set hkn, if_pos rfl] at z5
                    have e5 : (T.ns.set k (n0 - x)).set k n0 = T.ns := by rw [Hn0.out]; exact set_back hkn x
                    rw [e5] at P5'
                    have K5 := K4.trans ((Kept.setCell wx4 ⟨gL, k, none⟩ (.int .i64 n0)).mono fun b _ h => h.2)
                    clear z4 f4 P4 K4 hw4 e5
                    go_upto_region 31 with fail
                    obtain ⟨wx5, hw5⟩ : ∃ wx, Hid (wx4.setCell ⟨gL, k, none⟩ (.int .i64 n0) = wx) := ⟨_, hide rfl⟩
                    rw [hw5.out] at P5' K5 ⊢
                    have hB5x := BQ.out.trans (K5.below (fun b hb => ⟨by omega, by omega⟩) BQ.out.size)
                    obtain ⟨q, hqx, _, _, c1', _⟩ := (HR.out.bel hB5x).at' hlt
                    have hqp : (rs.map Rr.pr).getD i 0 = q.pr := by rw [List.getD_eq_getElem?_getD, List.getElem?_map, hqx]; rfl
                    have hpb := Hro.out.p q.pr (List.mem_map.2 ⟨q, List.mem_of_getElem? hqx, rfl⟩)
                    obtain ⟨mm0, mm1⟩ := mul_bd2 (x := (x : Int)) (p := q.pr) (by omega) (by omega) hpb.1 hpb.2
                    obtain ⟨pv2, hpv⟩ : ∃ pv2, pv2 = (x : Int) * q.pr := ⟨_, rfl⟩
                    have hgg := Hg.out
                    rw [hqp, ← hpv] at hgg
                    have iw9 : IntKind.i64.wrap ((x : Int) * q.pr) = pv2 := by rw [← hpv]; exact wrapI (by omega)
                    rw [← hpv] at mm0 mm1
                    have iwa : IntKind.i64.wrap (cv + pv2) = cv + pv2 := wrapI (by omega)
                    have HP5 := hide P5'; have HK5 := hide K5
                    have hfals : goodN (rs.map Rr.pr) i k T x = false → ∀ y, (x - 1 : Nat) < y → y ≤ M → goodN (rs.map Rr.pr) i k T y = false := fun hf y hy1 hy2 => by
                      cases hgy : goodN (rs.map Rr.pr) i k T y
                      · rfl
                      · exfalso
                        have h2 : (y : Int) ≤ T.hs.getD i 0 := by rw [← HSk.out.h, ← Hh0.out]; omega
                        have := good_down (x := (x : Int)) (y := (y : Int)) (HOk.out.fits' Hro.out.p (by rw [Hprl.out]; exact hr8)) hkn (by rw [Hprl.out]; exact hlt) (by rw [Hsg.out]; exact Hb.out) HOk.out.inv (by omega) (by omega) h2 hgy
                        have h3 : goodN (rs.map Rr.pr) i k T x = true := this
                        rw [hf] at h3; cases h3
                    have Hfals := hide hfals
                    clear hqp hqx hpv z5 f5 P5' K5 hw5 hB5x Hg hfals
                    cases cb
                    · have Hf := hide (Hfals.out (by rw [show goodN (rs.map Rr.pr) i k T x = goodF T.ns T.hs T.ss (rs.map Rr.pr) i k T.left x from rfl, hgg]; rfl))
                      have ex : ((x : Int) - 1) = ((x - 1 : Nat) : Int) := by omega
                      rw [ex] at iw8
                      clear hgg
                      go_wp2_with fail
                      exact ⟨⟨lo, x - 1, by omega, by omega, rfl, by first | rfl | rw [ex], Hlo, Hf, HP5, HK5.out⟩, by simp [intOf]; omega⟩
                    · by_cases heq : cv + pv2 = T.left
                      · have Hgd : Hid (goodN (rs.map Rr.pr) i k T x = true) := hide (by rw [show goodN (rs.map Rr.pr) i k T x = goodF T.ns T.hs T.ss (rs.map Rr.pr) i k T.left x from rfl, hgg, heq]; simp)
                        have hbe : (cv + pv2 == T.left) = true := by simp [heq]
                        have Heq := hide heq
                        clear hgg heq
                        go_wp2_with fail
                        exact ⟨⟨x, hi2, by omega, by omega, rfl, rfl, hide (.inr Hgd.out), Hhi, HP5, HK5.out⟩, by simp [intOf]; omega⟩
                      · have Hf := hide (Hfals.out (by rw [show goodN (rs.map Rr.pr) i k T x = goodF T.ns T.hs T.ss (rs.map Rr.pr) i k T.left x from rfl, hgg]; simp [heq]))
                        have hbe : (cv + pv2 == T.left) = false := by simp [heq]
                        have ex : ((x : Int) - 1) = ((x - 1 : Nat) : Int) := by omega
                        rw [ex] at iw8
                        have Heq := hide heq
                        clear hgg heq
                        go_wp2_with fail
                        exact ⟨⟨lo, x - 1, by omega, by omega, rfl, by first | rfl | rw [ex], Hlo, Hf, HP5, HK5.out⟩, by simp [intOf]; omega⟩
                  · obtain rfl : lo = hi2 := by omega
                    have hmono : ∀ x y : Nat, 1 ≤ x → x ≤ y → y ≤ M → goodN (rs.map Rr.pr) i k T y = true → goodN (rs.map Rr.pr) i k T x = true := fun x y _ hxy hy hg => by
                      have h2 : (y : Int) ≤ T.hs.getD i 0 := by rw [← HSk.out.h, ← Hh0.out]; omega
                      exact good_down (x := (x : Int)) (y := (y : Int)) (HOk.out.fits' Hro.out.p (by rw [Hprl.out]; exact hr8)) hkn (by rw [Hprl.out]; exact hlt) (by rw [Hsg.out]; exact Hb.out) HOk.out.inv (by omega) (by omega) h2 hg
                    have hpick : pickF (goodN (rs.map Rr.pr) i k T) (topP i k T) = lo := by
                      rw [Htop.out]
                      refine pick_is hhM (fun x hx => ?_) (fun hx => Hhi.out (lo + 1) (by omega) (by omega)) hmono
                      rcases Hlo.out with h | h
                      · omega
                      · exact hmono (x + 1) lo (by omega) (by omega) hhM h
                    have Hcell : Hid (cellP (rs.map Rr.pr) i k T = ((lo : Int), giveP (rs.map Rr.pr) i k T lo)) := by unfold cellP; rw [Hsg.out, Hb.out, if_pos rfl, hpick]; exact hide rfl
                    have iw4 : IntKind.i64.wrap (h0 - lo) = h0 - lo := wrapI (by omega)
                    have iw5 : IntKind.i64.wrap (n0 - lo) = n0 - lo := wrapI (by omega)
                    have hrl := rowP_len (rs.map Rr.pr) i S k
                    have RX := RQ.out.keptG hKx (fun g e => ⟨fun h => absurd (show gR = g from Option.some.inj e) (by omega), fun h => absurd (show gR = g from Option.some.inj e) (by omega)⟩)
                    have hrow := RX.put1 (i := k) (by rw [List.length_append, hrl, List.length_replicate]; omega) (by rw [List.length_append, hrl, List.length_replicate]; omega) (lo : Int)
                    obtain ⟨R1, z1, f1⟩ := hrow
                    rw [set_pad hrl hltk] at R1
                    have P1 := HPx.out.kept (Kept.setCell wr ⟨gR, k, none⟩ (.int .i64 lo)) (fun g e => by
                      rcases e with e | e | e
                      · have e' : gC = g := Option.some.inj e
                        show g ≠ gR; omega
                      · have e' : gL = g := Option.some.inj e
                        show g ≠ gR; omega
                      · have e' : gS = g := Option.some.inj e
                        show g ≠ gR; omega)
                    have KX := KQ.out.trans (hKx.mono fun b _ h => ⟨h.2.1, fun e => h.2.2.1 (by rw [e]; rfl)⟩)
                    have K1 := KX.trans ((Kept.setCell wr ⟨gR, k, none⟩ (.int .i64 lo)).mono fun b _ h => h.1)
                    clear hpick hmono hrl hBx
                    go_upto_region 35 with fail
                    obtain ⟨wy1, hw1⟩ : ∃ wx, Hid (wr.setCell ⟨gR, k, none⟩ (.int .i64 lo) = wx) := ⟨_, hide rfl⟩
                    rw [hw1.out] at R1 P1 K1 ⊢
                    obtain ⟨P2, z2, f2⟩ := P1.putC D3 hir HSk.out.hl.symm (h0 - lo)
                    rw [← Hh0.out] at z2
                    have R2 := R1.setCell (p := ⟨gC, i, none⟩) (by simp [Value.ownBlock]; omega) (.int .i64 (h0 - lo))
                    have K2 := K1.trans ((Kept.setCell wy1 ⟨gC, i, none⟩ (.int .i64 (h0 - lo))).mono fun b _ h => h.2.1)
                    clear z1 f1 R1 P1 K1 hw1
                    go_upto_region 36 with fail
                    obtain ⟨wy2, hw2⟩ : ∃ wx, Hid (wy1.setCell ⟨gC, i, none⟩ (.int .i64 (h0 - lo)) = wx) := ⟨_, hide rfl⟩
                    rw [hw2.out] at R2 P2 K2 ⊢
                    obtain ⟨P3, z3, f3⟩ := P2.putL D3 hkn HOk.out.nl.symm (n0 - lo)
                    rw [← Hn0.out] at z3
                    have R3 := R2.setCell (p := ⟨gL, k, none⟩) (by simp [Value.ownBlock]; omega) (.int .i64 (n0 - lo))
                    have K3 := K2.trans ((Kept.setCell wy2 ⟨gL, k, none⟩ (.int .i64 (n0 - lo))).mono fun b _ h => fun e => h.2.2.1 (by rw [e]; rfl))
                    clear z2 f2 R2 P2 K2 hw2
                    go_upto_region 37 with fail
                    obtain ⟨wy3, hw3⟩ : ∃ wx, Hid (wy2.setCell ⟨gL, k, none⟩ (.int .i64 (n0 - lo)) = wx) := ⟨_, hide rfl⟩
                    rw [hw3.out] at R3 P3 K3 ⊢
                    have hB3x := (HBo.out.trans (HB1.out.mono HBo.out.size)).trans (K3.below (B := w.heap.size) (fun b hb => ⟨by omega, by omega, fun e => absurd (show gL = b from Option.some.inj e) (by omega), by omega⟩) (by omega))
                    obtain ⟨q, hqx, _, _, c1', _⟩ := (HR.out.bel hB3x).at' hlt
                    have hqp : (rs.map Rr.pr).getD i 0 = q.pr := by rw [List.getD_eq_getElem?_getD, List.getElem?_map, hqx]; rfl
                    have hpb := Hro.out.p q.pr (List.mem_map.2 ⟨q, List.mem_of_getElem? hqx, rfl⟩)
                    obtain ⟨mm0, mm1⟩ := mul_bd2 (x := (lo : Int)) (p := q.pr) (by omega) (by omega) hpb.1 hpb.2
                    obtain ⟨pv2, hpv⟩ : ∃ pv2, pv2 = (lo : Int) * q.pr := ⟨_, rfl⟩
                    have iw9 : IntKind.i64.wrap ((lo : Int) * q.pr) = pv2 := by rw [← hpv]; exact wrapI (by omega)
                    rw [← hpv] at mm0 mm1
                    have hlo1 := HOk.out.lo
                    have hhi1 := HOk.out.hi
                    have hmi : ((m * i + k : Nat) : Int) * 2304000000 ≤ 170000000000 := by
                      have h1 : m * i ≤ 8 * 7 := Nat.mul_le_mul hm8 (by omega)
                      have h2 : m * i + k ≤ 63 := by omega
                      omega
                    obtain ⟨lf, hlf⟩ : ∃ lf, lf = T.left := ⟨_, rfl⟩
                    rw [← hlf] at hlo1 hhi1 ⊢
                    have iwa : IntKind.i64.wrap (lf - pv2) = lf - pv2 := wrapI (by omega)
                    obtain ⟨s2, hs2⟩ : ∃ s2, s2 = s ^^^ 2 ^ k := ⟨_, rfl⟩
                    obtain ⟨P4, z4, f4⟩ := P3.putS D3 (i := i) (by rw [HSk.out.sl]; exact hlt) HSk.out.sl.symm s2
                    rw [Hsg2.out] at z4
                    have R4 := (R3.setCell (p := ⟨gS, i, none⟩) (by simp [Value.ownBlock]; omega) (.int .i64 (s2 : Nat))).bel (Below.refl _ _).drew
                    have K4 := (K3.trans ((Kept.setCell wy3 ⟨gS, i, none⟩ (.int .i64 (s2 : Nat))).mono fun b _ h => h.2.2.2)).trans (Kept.drew _ _ 1)
                    have P4' := P4.bel (Below.refl _ _).drew
                    have Hlf := hide hlf; have Hs2 := hide hs2; have Hqp := hide hqp; have Hpv := hide hpv
                    have HR4 := hide R4; have HK4 := hide K4; have HP4 := hide P4'
                    clear z3 f3 R3 P3 K3 hw3 hqx hqp hpv hlf hs2 hlo1 hhi1 hmi hB3x R4 K4 P4 P4' KX RX
                    have z4h := hide z4; have f4h := hide f4
                    clear z4 f4
                    go_upto_region 38 with fail
                    have z4 := z4h.out; have f4 := f4h.out
                    clear c1'
                    go_region
                    all_goals
                      first | rw [andnot_step hs256 (by omega) Hb.out] | rw [andnot_step64 hs256 (by omega) Hb.out]
                      rw [← Hs2.out]
                      have e1 : (rowP (rs.map Rr.pr) i (k + 1) S).1 = (rowP (rs.map Rr.pr) i k S).1 ++ [(lo : Int)] := by simp only [rowP]; rw [← HT.out, Hcell.out]
                      have e2 : (rowP (rs.map Rr.pr) i (k + 1) S).2 = giveP (rs.map Rr.pr) i k T lo := by simp only [rowP]; rw [← HT.out, Hcell.out]
                      have G1 : Hid (Own ((wy3.setCell ⟨gS, i, none⟩ (.int .i64 (s2 : Nat))).drew) gR 3 1 icell (.slice (some ⟨gR, 0, none⟩) m m) ((rowP (rs.map Rr.pr) i (k + 1) S).1 ++ List.replicate (m - (k + 1)) 0)) := by
                        rw [e1]; exact HR4
                      have G2 : Hid (RPl ((wy3.setCell ⟨gS, i, none⟩ (.int .i64 (s2 : Nat))).drew) w1.heap.size (some ⟨gC, 0, none⟩) (some ⟨gL, 0, none⟩) (some ⟨gS, 0, none⟩) r m c cL cS (hs2.set i (h0 - lo)) (rowP (rs.map Rr.pr) i (k + 1) S).2.ns (ss2.set i s2)) := by
                        rw [e2]
                        show Hid (RPl _ _ _ _ _ _ _ _ _ _ _ (T.ns.set k (T.ns.getD k 0 - lo)) _)
                        rw [← Hn0.out]; exact HP4
                      have G3 : Hid (Sim r (hs2.set i (h0 - lo)) (ss2.set i s2) (rowP (rs.map Rr.pr) i (k + 1) S).2) := by
                        rw [e2, Hh0.out, Hs2.out, ← Hsg2.out]
                        exact hide (HSk.out.give hlt HOk.out.hl HOk.out.sl hr8)
                      have G4 : Hid (StOk (rs.map Rr.pr) m (m * i + (k + 1)) (rowP (rs.map Rr.pr) i (k + 1) S).2) := by
                        rw [e2]
                        exact hide (HOk.out.give Hro.out.p (by rw [Hprl.out]; exact hlt) hi8 (by rw [Hprl.out]; exact hr8) hltk (by rw [Hsg.out]; exact Hb.out) (by omega) (by rw [← Hn0.out]; omega) (by rw [← HSk.out.h, ← Hh0.out]; omega))
                      have G5 : Hid ((rowP (rs.map Rr.pr) i (k + 1) S).2.left = lf - pv2) := by
                        rw [e2]
                        show Hid (T.left - (lo : Int) * (rs.map Rr.pr).getD i 0 = lf - pv2)
                        rw [Hqp.out, ← Hpv.out, ← Hlf.out]; exact hide rfl
                      clear e1 e2 z4 f4
                      go_wp2_with fail
                      exact ⟨⟨k + 1, _, _, by omega, by rw [G5.out], by go_num, G2, G3, G4, G1, HK4.out⟩, by simp [intOf]; omega⟩
            · obtain rfl : m = k := by omega
              have hro := HRk.out
              rw [Nat.sub_self, List.replicate_zero, List.append_nil] at hro
              have HRo := hide hro
              have kwo : Kept (fun b => b ≠ gR ∧ b ≠ gC ∧ AL.map Addr.block ≠ some b ∧ b ≠ gS) wo wr := (Kept.all _ HB1.out).trans hKw
              have hvb : ∀ gv, pv.ownBlock = some gv → w5.heap.size ≤ gv ∧ gv < wo.heap.size := fun gv h => HOv.out.blockG h
              have hAL : ∀ b, AL.map Addr.block = some b → b < w5.heap.size := fun b h => HbA.out b (.inr (.inl h))
              have Ov := hide (HOv.out.keptG kwo (fun gv h => by
                have := hvb gv h
                exact ⟨by omega, by omega, fun e => by have := hAL gv e; omega, by omega⟩))
              have Rv := hide (HRw.out.keptK kwo (fun s _ _ b o t _ h1 h2 => ⟨by omega, by omega, fun e => by have := hAL b e; omega, by omega⟩))
              have hsz : w5.heap.size ≤ wr.heap.size := Nat.le_trans hko5 kwo.size
              have hss : sl.length + 1 ≤ 1000000 := by
                have h1 := HRw.out.rows.len
                rw [planP_len] at h1
                omega
              have hgRw := (HRo.out.blockG (g := gR) rfl).2
              clear hro
              go_wp2_with (at_builtin; refine wpList_app1l (v := pv) (xs := sl) (base := w5.heap.size) (k := 1) (bytes := 24) (E := 41) el_rows2 rfl (.tmp 185) (.tmp 187) rfl rfl rfl Ov.out ⟨some ⟨gR, 0, none⟩, m, m⟩ rfl hss hsz ?_; intro v' w10 o10 k10 hat; have Hat := hide hat; have O10 := hide o10; have K10 := hide k10; clear hat o10 k10)
              have hvb9 : ∀ b, b < w5.heap.size → ¬ pv.ownBlock = some b := fun b hb e => by have := hvb b e; omega
              have hgv : ¬ pv.ownBlock = some gR := fun e => by have := hvb gR e; omega
              have e1 : (planP (rs.map Rr.pr) m (i + 1) st0).1 = (planP (rs.map Rr.pr) m i st0).1 ++ [(rowP (rs.map Rr.pr) i m S).1] := by simp only [planP]; rw [← HS.out]
              have e2 : (planP (rs.map Rr.pr) m (i + 1) st0).2 = T := by simp only [planP]; rw [← HS.out, ← HT.out]
              have rg : Rd w10 w10.heap.size icell (some ⟨gR, 0, none⟩) (rowP (rs.map Rr.pr) i m S).1 := by
                exact (rdn' (HRo.out.keptG K10.out (fun gg h => by simp [Value.ownBlock] at h; subst h; exact hgv))).2
              have G1 : Hid (RowsN w10 w5.heap.size (sl ++ [⟨some ⟨gR, 0, none⟩, m, m⟩]) (planP (rs.map Rr.pr) m (i + 1) st0).1) := by
                rw [e1]
                exact hide ((Rv.out.keptK K10.out (fun s hs hn b o t e h1 h2 e4 => HAp.out b e4 s hs hn b o t e rfl)).snoc (rowP_len _ _ _ _).symm rg (fun b o t e => by injection e with e; injection e with e _ _; omega))
              have G2 : Hid (RPl w10 w1.heap.size (some ⟨gC, 0, none⟩) AL (some ⟨gS, 0, none⟩) r m c cL cS hs2 (planP (rs.map Rr.pr) m (i + 1) st0).2.ns ss2) := by
                rw [e2]
                exact hide (HPk.out.kept K10.out (fun g e => hvb9 g (HbA.out g e)))
              have G3 : Hid (Sim r hs2 ss2 (planP (rs.map Rr.pr) m (i + 1) st0).2) := by rw [e2]; exact HSk
              have G4 : Hid (StOk (rs.map Rr.pr) m (m * (i + 1)) (planP (rs.map Rr.pr) m (i + 1) st0).2) := by rw [e2, Nat.mul_succ]; exact HOk
              have G5 : Hid ((planP (rs.map Rr.pr) m (i + 1) st0).2.left = T.left) := by rw [e2]; exact hide rfl
              have G6 : Hid (Apart v' (sl ++ [⟨some ⟨gR, 0, none⟩, m, m⟩])) := hide fun gv h s hs hn b o t e => by
                rcases List.mem_append.1 hs with hs | hs
                · rcases Hat.out with h1 | ⟨q, h1, h2⟩
                  · rw [h1] at h; exact HAp.out gv h s hs hn b o t e
                  · rw [h1] at h; injection h with h; subst h
                    obtain ⟨j, hj, hjs⟩ := List.getElem_of_mem hs
                    have hl := Rv.out.rows.len
                    have hrow := Rv.out.rows.row j s _ (by rw [List.getElem?_eq_getElem hj, hjs]) (List.getElem?_eq_getElem (by omega))
                    obtain ⟨b', o', e', hb', _⟩ := hrow.2 (by rw [← hrow.1]; exact hn)
                    rw [e] at e'; injection e' with e'; injection e' with e' _ _
                    omega
                · rw [List.mem_singleton] at hs; subst hs
                  injection e with e; injection e with e _ _
                  rcases Hat.out with h1 | ⟨q, h1, h2⟩
                  · rw [h1] at h; have := hvb gv h; omega
                  · rw [h1] at h; injection h with h; subst h; omega
              have G7 : Hid (Kept (fun b => b < w5.heap.size ∧ (some (⟨gC, 0, none⟩ : Addr)).map Addr.block ≠ some b ∧ AL.map Addr.block ≠ some b ∧ (some (⟨gS, 0, none⟩ : Addr)).map Addr.block ≠ some b) w5 w10) := hide ((hKo.trans (kwo.mono fun b _ h => ⟨by omega, fun e => h.2.1 (by rw [e]; rfl), h.2.2.1, fun e => h.2.2.2 (by rw [e]; rfl)⟩)).trans (K10.out.mono fun b _ h => hvb9 b h.1))
              clear rg e1 e2 kwo hvb hAL
              go_wp2_with fail
              exact ⟨⟨i + 1, _, _, hs2, ss2, rfl, by omega, by rw [G5.out], by go_num, G2, G3, G4, O10, G1, G6, G7.out⟩, by simp [intOf]; omega⟩
        · obtain rfl : r = i := by omega
          have HBe := hide HBo.out
          have Hrw := HRw
          clear HzA HbA
          go_wp2_with fail
          go_ret3
          exact ⟨_, by rw [Hp.out]; first | rfl | simp, ⟨sl, HOv.out.mono (by have := HBe.out.size; omega), by rw [Hp.out]; exact HRw.out.rows⟩, HBe.out⟩
end Go.Proofs.Ytmbhnjpaieimbaa
