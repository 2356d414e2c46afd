/- ChannelFalaj: whatever flows in a gallery in truth, what a field gets of it lies in what is told by the flows that are told of the last shaft. The law returns true for every gallery, flow in, net, uses and numbers that say what is so. No conditions. -/
import Derived.Test.YtgklcilpohkpkaaF17
import Derived.Test.YtgklcilpohkpkaaW8
import Derived.Test.YtgklcilpohkpkaaN1
import Derived.Test.YtgklcilpohkpkaaA4
import Derived.Test.YtgklcilpohkpkaaA3
import Derived.Test.YtgklcilpohkpkaaG7
import Derived.Test.YtgklcilpohkpkaaOpenG
import Derived.Test.YtgklcilpohkpkaaNet
import Derived.Deep.Cut
import Derived.BigQuiet
set_option linter.unusedVariables false
set_option linter.unusedSimpArgs false
namespace Go.Proofs.Ytgklcilpohkpkaa
open Go.RowKit Go.Shelf Go.WideShapes Go.ChangeShapes Go.ChangeAt
def Rc.wf (r : Rc) : Prop := r.cap.wf ∧ r.leak.wf ∧ r.gain.wf
theorem cells_rc : Try.prog.cellsOf 103 = 6 := by kernel_rfl
theorem shape_rc : Shape 103 Rc.cells Rc.wf := fun H enc w base spare held fuel cs x h => by
  have hl := (trod_field Try.underlying103 h).1
  rw [cells_rc] at hl
  obtain ⟨a, e0, o0⟩ := trod_sub Try.underlying103 h 0 rfl rfl rfl cells_sp shape_sp
  obtain ⟨b, e1, o1⟩ := trod_sub Try.underlying103 h 1 rfl rfl rfl cells_sp shape_sp
  obtain ⟨c, e2, o2⟩ := trod_sub Try.underlying103 h 2 rfl rfl rfl cells_sp shape_sp
  match cs, hl with
  | [c0, c1, c2, c3, c4, c5], _ =>
    refine ⟨⟨a, b, c⟩, ?_, o0, o1, o2⟩
    simp [Sp.cells] at e0 e1 e2
    rw [e0.1, e0.2, e1.1, e1.2, e2.1, e2.2]; rfl
/-! ### the channel -/
theorem upG_mono {v v' fill thr : Int} (h : v ≤ v') (t0 : 0 ≤ thr) : upG v fill thr ≤ upG v' fill thr := by
  unfold upG
  have := Int.mul_le_mul_of_nonneg_right (show max 0 (v - fill) ≤ max 0 (v' - fill) by omega) t0
  exact Int.ediv_le_ediv (by omega) (by omega)
theorem goF_in {x : Wk} (hx : x.wf) {u v : Sp} (h1 : v.lo ≤ u.lo) (h2 : u.hi ≤ v.hi) : (goF x v).lo ≤ (goF x u).lo ∧ (goF x u).hi ≤ (goF x v).hi :=
  ⟨downF_mono h1 hx.2.2.1.1, upG_mono h2 hx.2.2.2.1⟩
theorem pathW_in {cs : List Ca} {fs : List Int} {dry days : Int} (hok : netOk cs fs dry days = true) (dr : List Int) : ∀ (p : List Int) (lost lost' : List Sp) (u v : Sp), v.lo ≤ u.lo → u.hi ≤ v.hi → (pathW cs dr p lost v).2.lo ≤ (pathW cs dr p lost' u).2.lo ∧ (pathW cs dr p lost' u).2.hi ≤ (pathW cs dr p lost v).2.hi
  | [], _, _, _, _, h1, h2 => ⟨h1, h2⟩
  | c :: p, lost, lost', u, v, h1, h2 => by
    obtain ⟨g1, g2⟩ := goF_in (wkAt_wf hok dr c) h1 h2
    exact pathW_in hok dr p (canalW cs dr (lost, v) c).1 (canalW cs dr (lost', u) c).1 (canalW cs dr (lost', u) c).2 (canalW cs dr (lost, v) c).2 g1 g2
theorem waters_in {cs : List Ca} {fs : List Int} {dry days a b f : Int} {us : List Us} (hok : netOk cs fs dry days = true) (huo : usesOk fs.length days us = true) (h1 : a ≤ f) (h2 : f ≤ b) :
    ∀ k, k ≤ us.length → (watersK cs fs dry (days * 1440) a b us k).1.length = (watersK cs fs dry (days * 1440) f f us k).1.length ∧ ∀ j, (atS (watersK cs fs dry (days * 1440) a b us k).1 j).lo ≤ (atS (watersK cs fs dry (days * 1440) f f us k).1 j).lo ∧ (atS (watersK cs fs dry (days * 1440) f f us k).1 j).hi ≤ (atS (watersK cs fs dry (days * 1440) a b us k).1 j).hi
  | 0, _ => ⟨rfl, fun j => ⟨Int.le_refl _, Int.le_refl _⟩⟩
  | k + 1, hk => by
    have hx : us[k]? = some us[k] := List.getElem?_eq_getElem (by omega)
    obtain ⟨il, ih⟩ := waters_in (a := a) (b := b) (f := f) (dry := dry) hok huo h1 h2 k (by omega)
    have hu := (usesOk_mem huo (List.getElem_mem (by omega : k < us.length))).2
    rw [watersK_succ, watersK_succ]
    unfold useW
    rw [hx]
    obtain ⟨p1, p2⟩ := pathW_in hok (dryL cs fs dry (days * 1440) us k) (pathK cs fs us[k].field) (watersK cs fs dry (days * 1440) a b us k).2 (watersK cs fs dry (days * 1440) f f us k).2 ⟨f * (us[k].to - us[k].frm), f * (us[k].to - us[k].frm)⟩ ⟨a * (us[k].to - us[k].frm), b * (us[k].to - us[k].frm)⟩ (Int.mul_le_mul_of_nonneg_right h1 (by omega)) (Int.mul_le_mul_of_nonneg_right h2 (by omega))
    obtain ⟨y, hy⟩ : ∃ y, y = (pathW cs (dryL cs fs dry (days * 1440) us k) (pathK cs fs us[k].field) (watersK cs fs dry (days * 1440) a b us k).2 ⟨a * (us[k].to - us[k].frm), b * (us[k].to - us[k].frm)⟩).2 := ⟨_, rfl⟩
    obtain ⟨z, hz⟩ : ∃ z, z = (pathW cs (dryL cs fs dry (days * 1440) us k) (pathK cs fs us[k].field) (watersK cs fs dry (days * 1440) f f us k).2 ⟨f * (us[k].to - us[k].frm), f * (us[k].to - us[k].frm)⟩).2 := ⟨_, rfl⟩
    rw [← hy, ← hz] at p1 p2
    show (putS _ _ _).length = (putS _ _ _).length ∧ ∀ j, (atS (putS _ _ _) j).lo ≤ (atS (putS _ _ _) j).lo ∧ (atS (putS _ _ _) j).hi ≤ (atS (putS _ _ _) j).hi
    rw [← hy, ← hz]
    obtain ⟨L, hL⟩ : ∃ L, L = (watersK cs fs dry (days * 1440) a b us k).1 := ⟨_, rfl⟩
    obtain ⟨M, hM⟩ : ∃ M, M = (watersK cs fs dry (days * 1440) f f us k).1 := ⟨_, rfl⟩
    rw [← hL, ← hM] at il ih ⊢
    refine ⟨by rw [putS_len, putS_len, il], fun j => ?_⟩
    have hj := ih j
    unfold putS
    by_cases e : j = us[k].field.toNat
    · by_cases hl : j < L.length
      · rw [← e]; unfold atS; rw [List.getElem?_set_self hl, List.getElem?_set_self (by rw [← il]; exact hl)]
        show (atS L j).lo + y.lo ≤ (atS M j).lo + z.lo ∧ (atS M j).hi + z.hi ≤ (atS L j).hi + y.hi
        omega
      · unfold atS
        rw [List.getElem?_eq_none (by rw [List.length_set]; omega), List.getElem?_eq_none (by rw [List.length_set]; omega)]
        exact ⟨Int.le_refl _, Int.le_refl _⟩
    · have e2 : ∀ (N : List Sp) (q : Sp), atS (N.set us[k].field.toNat q) j = atS N j := fun N q => by unfold atS; rw [List.getElem?_set_ne (fun h => e h.symm)]
      rw [e2, e2]; exact hj
/-! ### the gallery -/
/-- What flows at a shaft in truth. -/
def RunG (g : List Rc) (s : Sp) (k : Nat) (v : Int) : Prop :=
  ∃ ns : Nat → Int, inS (ns 0) s ∧ (∀ j r, j < k → g[j]? = some r → leastF r (ns j) ≤ ns (j + 1) ∧ ns (j + 1) ≤ mostF r (ns j)) ∧ (∀ j, j ≤ k → 0 ≤ ns j ∧ ns j ≤ 2000000) ∧ ns k = v
theorem RunG.start {g : List Rc} {s : Sp} {v : Int} (hs : s.fine 1000000) (h : inS v s) : RunG g s 0 v := ⟨fun _ => v, h, fun j r hj => absurd hj (by omega), fun j _ => by
  obtain ⟨a, b, c⟩ := hs
  unfold inS at h
  show 0 ≤ v ∧ v ≤ 2000000
  omega, rfl⟩
theorem RunG.next {g : List Rc} {s : Sp} {k : Nat} {v c l m : Int} {r : Rc} (h : RunG g s k v) (hr : g[k]? = some r) (hf : r.fine) (hc : inS c r.cap) (hl : inS l r.leak) (hm : inS m r.gain) : RunG g s (k + 1) (nextF v c l m) := by
  obtain ⟨ns, h0, h1, h2, h3⟩ := h
  have hn := next_step (n := v) hc hl hm
  have hb : 0 ≤ nextF v c l m ∧ nextF v c l m ≤ 2000000 := by
    obtain ⟨⟨a1, a2, a3⟩, ⟨b1, b2, b3⟩, ⟨c1, c2, c3⟩⟩ := hf
    unfold inS at hc hl hm
    unfold nextF
    have := (h2 k (Nat.le_refl _)).1
    omega
  have e : ∀ j, j ≤ k → (fun j => if j = k + 1 then nextF v c l m else ns j) j = ns j := fun j hj => if_neg (by omega)
  have e2 : (fun j => if j = k + 1 then nextF v c l m else ns j) (k + 1) = nextF v c l m := if_pos rfl
  refine ⟨fun j => if j = k + 1 then nextF v c l m else ns j, by rw [e 0 (by omega)]; exact h0, fun j r' hj hr' => ?_, fun j hj => ?_, e2⟩
  · rw [e j (by omega)]
    by_cases hjk : j = k
    · subst hjk
      rw [e2, h3]
      obtain rfl : r = r' := Option.some.inj (hr.symm.trans hr')
      exact hn
    · rw [e (j + 1) (by omega)]
      exact h1 j r' (by omega) hr'
  · by_cases hjk : j = k + 1
    · rw [hjk, e2]; exact hb
    · rw [e j (by omega)]
      exact h2 j (by omega)
theorem rdS_nil (n k : Nat) : (rdS n []).getD k allS = allS := by
  show (List.replicate (n + 1) allS).getD k allS = allS
  rw [List.getD_eq_getElem?_getD, List.getElem?_replicate]
  split <;> rfl
/-- What flows in truth lies in what is told of the last shaft. -/
theorem gal_told {g : List Rc} {s : Sp} {v : Int} (hg : gOk g = true) (hs : Sp.ok 0 1000000 s = true) (h : RunG g s g.length v) :
    ∃ l a b, flErr g s [] = 0 ∧ flL g s [] = l ∧ l.length = g.length + 1 ∧ l[g.length]? = some ⟨a, b⟩ ∧ a ≤ v ∧ v ≤ b ∧ Sp.ok 0 13000000 ⟨a, b⟩ = true := by
  have hs1 : s.fine 1000000 := by
    simp only [Sp.ok, Bool.and_eq_true, decide_eq_true_eq] at hs
    exact ⟨hs.1.1, hs.1.2, hs.2⟩
  have hfine := gOk_fine hg
  obtain ⟨ns, h0, h1, h2, h3⟩ := h
  have F : Feas g (rdS g.length []) s ns := ⟨h0, fun k hk => by
    rw [rdS_nil]
    have := h2 k hk
    show (0 : Int) ≤ ns k ∧ ns k ≤ 13000000
    omega, fun k r hr => h1 k r (List.getElem?_eq_some_iff.1 hr).1 hr⟩
  obtain ⟨l, hl, hin⟩ := feas_in g _ s ns hfine F
  have hlen := flowsF_len g _ s l hl
  have he : gEnter g s [] = 0 := by
    unfold gEnter
    rw [if_pos hg]
    have hb : anyBad 1000000 [s] = false := by
      obtain ⟨a1, a2, a3⟩ := hs1
      simp [anyBad, Sp.bad]
      omega
    rw [hb]
    simp [gasBad]
  have hfit : fitS g [] s = some l := hl
  have hE : flErr g s [] = 0 := by
    unfold flErr; rw [if_pos he, hfit]; rfl
  have hL : flL g s [] = l := by
    unfold flL; rw [if_pos hE, hfit]; rfl
  have hk : g.length < l.length := by omega
  have hx : l[g.length]? = some l[g.length] := List.getElem?_eq_getElem hk
  have hf := flowsF_fine g _ s l hfine (fun x hx => rdS_bd g.length [] (by simp) x hx) ⟨hs1.1, hs1.2.1, by have := hs1.2.2; omega⟩ hl l[g.length] (List.getElem_mem hk)
  have hi := hin g.length (Nat.le_refl _)
  rw [List.getD_eq_getElem?_getD, hx, h3] at hi
  refine ⟨l, l[g.length].lo, l[g.length].hi, hE, hL, hlen, hx, hi.1, hi.2, ?_⟩
  obtain ⟨a1, a2, a3⟩ := hf
  simp only [Sp.ok, Bool.and_eq_true, decide_eq_true_eq]
  exact ⟨⟨a1, a2⟩, a3⟩

open Go.RowKit Go.Shelf Go.WideShapes Go.ChangeShapes Go.ChangeAt Go.Deep
def Ca.wf (c : Ca) : Prop := i64ok c.frm ∧ c.seep.wf ∧ c.fill.wf
def Us.wf (u : Us) : Prop := i64ok u.field ∧ i64ok u.frm ∧ i64ok u.to
theorem cells_ca : Try.prog.cellsOf 83 = 5 := by kernel_rfl
theorem cells_turn : Try.prog.cellsOf 72 = 2 := by kernel_rfl
theorem cells_us : Try.prog.cellsOf 74 = 3 := by kernel_rfl
theorem shape_ca : Shape 83 Ca.cells Ca.wf := fun H enc w base spare held fuel cs x h => by
  have hl := (trod_field Try.underlying83 h).1
  rw [cells_ca] at hl
  obtain ⟨a, e0, o0⟩ := trod_sub Try.underlying83 h 0 rfl rfl rfl cells_int shape_int
  obtain ⟨b, e1, o1⟩ := trod_sub Try.underlying83 h 1 rfl rfl rfl cells_sp shape_sp
  obtain ⟨c, e2, o2⟩ := trod_sub Try.underlying83 h 2 rfl rfl rfl cells_sp shape_sp
  match cs, hl with
  | [c0, c1, c2, c3, c4], _ =>
    refine ⟨⟨a, b, c⟩, ?_, o0, o1, o2⟩
    simp [Sp.cells, icell] at e0 e1 e2
    rw [e0, e1.1, e1.2, e2.1, e2.2]; rfl
theorem shape_turn : Shape 72 Sp.cells Sp.wf := fun H enc w base spare held fuel cs x h => by
  have hl := (trod_field Try.underlying72 h).1
  rw [cells_turn] at hl
  obtain ⟨a, e0, o0⟩ := trod_sub Try.underlying72 h 0 rfl rfl rfl cells_int shape_int
  obtain ⟨b, e1, o1⟩ := trod_sub Try.underlying72 h 1 rfl rfl rfl cells_int shape_int
  match cs, hl with
  | [c0, c1], _ =>
    refine ⟨⟨a, b⟩, ?_, o0, o1⟩
    simp [icell] at e0 e1
    rw [e0, e1]; rfl
theorem shape_us : Shape 74 Us.cells Us.wf := fun H enc w base spare held fuel cs x h => by
  have hl := (trod_field Try.underlying74 h).1
  rw [cells_us] at hl
  obtain ⟨a, e0, o0⟩ := trod_sub Try.underlying74 h 0 rfl rfl rfl cells_int shape_int
  obtain ⟨b, e1, o1⟩ := trod_sub Try.underlying74 h 1 rfl rfl rfl cells_turn shape_turn
  match cs, hl with
  | [c0, c1, c2], _ =>
    refine ⟨⟨a, b.lo, b.hi⟩, ?_, o0, o1.1, o1.2⟩
    simp [Sp.cells, icell] at e0 e1
    rw [e0, e1.1, e1.2]; rfl
theorem cells_cas : Try.prog.cellsOf 22 = 1 := by kernel_rfl
theorem cells_ints : Try.prog.cellsOf 23 = 1 := by kernel_rfl
theorem cells_net : Try.prog.cellsOf 25 = 4 := by kernel_rfl
theorem trod_at {t ft : TypeId} {off k : Nat} {H : Type} {enc : TypeId × Value → H} {w : World} {base : Nat} {spare : Nat → Bool} {held : Bool} {fuel : Nat} {cs : List Value} {x : DataW H × List MemPlace} {fs : Array Field}
    (ht : Try.prog.underlying t = some (.struct fs)) (h : DataW.trod enc Try.prog w base spare held fuel t cs = some x) (i : Nat) {f : Field} (hi : fs[i]? = some f) (hft : f.type = ft) (hoff : f.offset = off) (hk : Try.prog.cellsOf ft = k) :
    ∃ n y, DataW.trod enc Try.prog w base spare held n ft ((cs.drop off).take k) = some y := by
  obtain ⟨n, y, h0⟩ := (trod_field ht h).2 i f hi
  rw [hft, hoff, hk] at h0
  exact ⟨n, y, h0⟩
set_option maxRecDepth 100000 in
/-- A net by value. -/
theorem open_net {H : Type} {enc : TypeId × Value → H} {W : World} {base b' : Nat} {spare : Nat → Bool} {held : Bool} {v : Value} {d : DataW H} {p : List MemPlace}
    (hv : Value.okWide Try.prog W .any b' 25 v) (h : DataW.Trod enc Try.prog W base spare held 25 v d p) :
    ∃ Ac nc cc Af nf cf dry days, ∃ (cs : List Ca) (fs : List Int), v = .agg #[.slice Ac nc cc, .slice Af nf cf, .int .i64 dry, .int .i64 days] ∧ nc = cs.length ∧ nf = fs.length ∧ nc ≤ 9223372036854775807 ∧ nf ≤ 9223372036854775807 ∧ Rd W W.heap.size Ca.cells Ac cs ∧ Rd W W.heap.size icell Af fs ∧ i64ok dry ∧ i64ok days ∧ (∀ c ∈ cs, c.wf) ∧ (∀ n ∈ fs, i64ok n) := by
  obtain ⟨vs, rfl, _⟩ := okWide_struct Try.underlying25 hv
  obtain ⟨fuel, hf⟩ := h
  obtain ⟨hl, hfd⟩ := trod_field Try.underlying25 hf
  rw [cells_net] at hl
  obtain ⟨n0, y0, h0⟩ := trod_at Try.underlying25 hf 0 rfl rfl rfl cells_cas
  obtain ⟨n1, y1, h1⟩ := trod_at Try.underlying25 hf 1 rfl rfl rfl cells_ints
  obtain ⟨dry, e2, o2⟩ := trod_sub Try.underlying25 hf 2 rfl rfl rfl cells_int shape_int
  obtain ⟨days, e3, o3⟩ := trod_sub Try.underlying25 hf 3 rfl rfl rfl cells_int shape_int
  obtain ⟨Ac, nc, cc, cs, ec, hc1, hc2, hc3, hc4⟩ := open_sl_cs shape_ca Try.underlying22 cells_ca Ca.len (by omega) h0
  obtain ⟨Af, nf, cf, fs, ef, hf1, hf2, hf3, hf4⟩ := open_sl_cs shape_int Try.underlying23 cells_int icell_len (by omega) h1
  have hvs : (Value.agg vs).cells.toList = vs.toList := rfl
  refine ⟨Ac, nc, cc, Af, nf, cf, dry, days, cs, fs, ?_, hc1, hf1, hc2, hf2, hc3, hf3, o2, o3, hc4, hf4⟩
  rw [hvs] at hl ec ef e2 e3
  obtain ⟨l⟩ := vs
  simp only at hl ec ef e2 e3
  match l, hl with
  | [c0, c1, c2, c3], _ =>
    simp [icell] at ec ef e2 e3
    rw [ec, ef, e2, e3]

attribute [local go_sem] ite_min ite_max
set_option maxHeartbeats 40000000 in
set_option maxRecDepth 100000 in
theorem falaj_walk (A Ac Af Au B : Option Addr) (n c nc cc nf cf nu cu nb cb : Nat) (sl sh dry days : Int) (g : List Rc) (cs : List Ca) (fs : List Int) (us : List Us) (bys : List Nat) (w : World) (hn : n = g.length) (hm : n ≤ 9223372036854775807) (hx : Rd w w.heap.size Rc.cells A g)
    (hnc : nc = cs.length) (hnf : nf = fs.length) (hcs : Rd w w.heap.size Ca.cells Ac cs) (hfs : Rd w w.heap.size icell Af fs) (hnu : nu = us.length) (hus : Rd w w.heap.size Us.cells Au us) (hnb : nb = bys.length) (hnb2 : nb ≤ 9223372036854775807) (hby : Rd w w.heap.size u32cell B bys) (h32 : ∀ x ∈ bys, x ≤ 4294967295) :
    Calls Try.prog 14 #[.slice A n c, .agg #[.int .i64 sl, .int .i64 sh], .agg #[.slice Ac nc cc, .slice Af nf cf, .int .i64 dry, .int .i64 days], .slice Au nu cu, .slice B nb cb] w fun e w' => e = .returned (.bool true) ∧ Below w.heap.size w w' := by
  obtain ⟨b6, v1, e6, ev1, hx6, hb1, hz1⟩ := mk_bx w #[.int .i64 sl, .int .i64 sh] 51
  obtain ⟨b7, w1, e7, ev2, hx7, hb2, hz2⟩ := mk_bx v1 #[.slice Ac nc cc, .slice Af nf cf, .int .i64 dry, .int .i64 days] 25
  have e67 : b6 + 1 = b7 := by have := e7.out; omega
  have hB1 := hb1.trans (hb2.mono hb1.size)
  have X6 := hide (hx6.bel hb2); have X7 := hide hx7
  have Hx := hide (hx.bel hB1); have Hcs := hide (hcs.bel hB1); have Hfs := hide (hfs.bel hB1); have Hus := hide (hus.bel hB1); have Hby := hide (hby.bel hB1)
  have Hn := hide hn; have Hnc := hide hnc; have Hnf := hide hnf; have Hnu := hide hnu; have Hnb := hide hnb; have H32 := hide h32; have HB1 := hide hB1
  clear hn hx hnc hnf hcs hfs hnu hus hnb hby h32 hx6 hx7 hb1 hb2 hz1 hz2 hB1
  go_enter Try.func14, Try.ntmps14
  go_wp2_with fail
  rw [ev1.out, e6.out, e67, ev2.out]
  refine (alive_any _).mono ?_
  rintro e w2 ⟨rfl, hb2⟩
  have H2 := hide hb2
  clear hb2
  by_cases h20 : 20 < n
  · have d0 : decide (20 < (n : Int)) = true := decide_eq_true (by omega)
    have d0' : decide (20 < n) = true := decide_eq_true h20
    go_upto_region 4 with fail
    refine wp_region_held_drew (S := (fun W => Below w2.heap.size w2 W)) (by kernel_rfl) (by (try dsimp only); exact (Below.refl _ _).drew) (fun hHeld => ?_)
    generalize World.drew w2 = Wd4 at hHeld ⊢
    have hbc := Below.refl Wd4.heap.size Wd4
    refine tkH 0 ?_ rfl (Or.inl ⟨by rfl, ?_⟩) hHeld ?_
    rotate_left
    · (intro w _; go_simp; try (with_reducible rfl))
    try simp only [Act.put, tl1, tl2, tl3]
    refine tkH 1 ?_ rfl (Or.inl ⟨by rfl, ?_⟩) hHeld ?_
    rotate_left
    · (intro w _; go_simp; try (with_reducible rfl))
    try simp only [Act.put, tl1, tl2, tl3]
    refine tkH 2 ?_ rfl (Or.inl ⟨by rfl, ?_⟩) hHeld ?_
    rotate_left
    · (intro w _; go_simp; try (with_reducible rfl))
    try simp only [Act.put, tl1, tl2, tl3]
    refine tkH 3 ?_ rfl (Or.inl ⟨by rfl, ?_⟩) hHeld ?_
    rotate_left
    · (intro w _; go_simp; try (with_reducible rfl))
    try simp only [Act.put, tl1, tl2, tl3]
    refine tkH 4 _ rfl (Or.inr ⟨by rfl, rfl⟩) hHeld ?_
    try simp only [Act.put, tl1, tl2, tl3]
    refine tkH 5 _ rfl (Or.inr ⟨by rfl, rfl⟩) hHeld ?_
    try simp only [Act.put, tl1, tl2, tl3]
    refine tkH 6 _ rfl (Or.inr ⟨by rfl, rfl⟩) hHeld ?_
    try simp only [Act.put, tl1, tl2, tl3]
    refine tkH 7 ?_ rfl (Or.inl ⟨by rfl, ?_⟩) hHeld ?_
    rotate_left
    · (intro w _; go_simp; try (with_reducible rfl))
    try simp only [Act.put, tl1, tl2, tl3]
    refine tkH 8 ?_ rfl (Or.inl ⟨by rfl, ?_⟩) hHeld ?_
    rotate_left
    · (intro w _; go_simp; try (with_reducible rfl))
    try simp only [Act.put, tl1, tl2, tl3]
    refine tkH 9 _ rfl (Or.inr ⟨by rfl, rfl⟩) hHeld ?_
    try simp only [Act.put, tl1, tl2, tl3]
    refine tkH 10 _ rfl (Or.inr ⟨by rfl, rfl⟩) hHeld ?_
    try simp only [Act.put, tl1, tl2, tl3]
    refine tkH 11 _ rfl (Or.inr ⟨by rfl, rfl⟩) hHeld ?_
    try simp only [Act.put, tl1, tl2, tl3]
    refine tkH 12 ?_ rfl (Or.inl ⟨by rfl, ?_⟩) hHeld ?_
    rotate_left
    · (intro w _; go_simp; try (with_reducible rfl))
    try simp only [Act.put, tl1, tl2, tl3]
    refine tkH 13 ?_ rfl (Or.inl ⟨by rfl, ?_⟩) hHeld ?_
    rotate_left
    · (intro w _; go_simp; try (with_reducible rfl))
    try simp only [Act.put, tl1, tl2, tl3]
    refine tkH 14 _ rfl (Or.inr ⟨by rfl, rfl⟩) hHeld ?_
    try simp only [Act.put, tl1, tl2, tl3]
    refine tkH 15 _ rfl (Or.inr ⟨by rfl, rfl⟩) hHeld ?_
    try simp only [Act.put, tl1, tl2, tl3]
    refine tkH 16 _ rfl (Or.inr ⟨by rfl, rfl⟩) hHeld ?_
    try simp only [Act.put, tl1, tl2, tl3]
    refine tkH 17 _ rfl (Or.inr ⟨by rfl, rfl⟩) hHeld ?_
    try simp only [Act.put, tl1, tl2, tl3]
    refine tkH 18 _ rfl (Or.inr ⟨by rfl, rfl⟩) hHeld ?_
    try simp only [Act.put, tl1, tl2, tl3]
    refine tkH 19 ?_ rfl (Or.inl ⟨by rfl, ?_⟩) hHeld ?_
    rotate_left
    · (intro w _; go_simp; try (with_reducible rfl))
    try simp only [Act.put, tl1, tl2, tl3]
    refine wpAnyH_done (by kernel_rfl) ?_ _
    go_wp2_with fail
    go_ret
    exact ⟨rfl, HB1.out.trans ((H2.out.trans (hHeld.mono H2.out.size)).mono HB1.out.size)⟩
  have d0 : decide (20 < (n : Int)) = false := decide_eq_false (by omega)
  have d0' : decide (20 < n) = false := decide_eq_false h20
  have hn20 : n ≤ 20 := by omega
  cases hg : gOk g
  · have Hgc : Hid (gCheck g = 20) := hide (by unfold gCheck; rw [hg]; rfl)
    clear hg
    go_upto_region 4 with fail
    refine wp_region_held_drew (S := (fun W => Below w2.heap.size w2 W)) (by kernel_rfl) (by (try dsimp only); exact (Below.refl _ _).drew) (fun hHeld => ?_)
    generalize World.drew w2 = Wd4 at hHeld ⊢
    have hbc := Below.refl Wd4.heap.size Wd4
    refine tkH 0 ?_ rfl (Or.inl ⟨by rfl, ?_⟩) hHeld ?_
    rotate_left
    · (intro w _; go_simp; try (with_reducible rfl))
    try simp only [Act.put, tl1, tl2, tl3]
    refine tkH 1 ?_ rfl (Or.inl ⟨by rfl, ?_⟩) hHeld ?_
    rotate_left
    · (intro w _; go_simp; try (with_reducible rfl))
    try simp only [Act.put, tl1, tl2, tl3]
    refine tkH 2 ?_ rfl (Or.inl ⟨by rfl, ?_⟩) hHeld ?_
    rotate_left
    · (intro w _; go_simp; try (with_reducible rfl))
    try simp only [Act.put, tl1, tl2, tl3]
    refine tkH 3 ?_ rfl (Or.inl ⟨by rfl, ?_⟩) hHeld ?_
    rotate_left
    · (intro w _; go_simp; try (with_reducible rfl))
    try simp only [Act.put, tl1, tl2, tl3]
    refine tkH 4 ?_ rfl (Or.inl ⟨by rfl, ?_⟩) hHeld ?_
    rotate_left
    · (intro w _; go_simp; try (with_reducible rfl))
    try simp only [Act.put, tl1, tl2, tl3]
    refine wpAnyH_ready (rs := [5]) (by kernel_rfl) (by simp) ?_
    refine AllReadyH.cons (o := ⟨_, _, _, _, _, _⟩) rfl (fun K hK => ?_) AllReadyH.nil
    go_simp
    refine (rcheck_any A g n c _ Hn.out hm ((Hx.out.bel H2.out).bel hHeld)).mono ?_
    rintro e V33 ⟨rfl, hb⟩
    rw [Hgc.out]
    go_wp2_with fail
    have hHeldN := hHeld.trans (hb.mono hHeld.size)
    have hbc := hbc.trans (hb.mono hbc.size)
    refine hK.out _ _ ?_ (fun hHeld2 => ?_)
    · exact hHeldN
    clear hK K hHeld hHeldN hb; have hHeld := hHeld2; clear hHeld2
    try simp only [Act.put, tl1, tl2, tl3]
    refine tkH 6 ?_ rfl (Or.inl ⟨by rfl, ?_⟩) hHeld ?_
    rotate_left
    · (intro w _; go_simp; try (with_reducible rfl))
    try simp only [Act.put, tl1, tl2, tl3]
    refine tkH 7 ?_ rfl (Or.inl ⟨by rfl, ?_⟩) hHeld ?_
    rotate_left
    · (intro w _; go_simp; try (with_reducible rfl))
    try simp only [Act.put, tl1, tl2, tl3]
    refine tkH 8 ?_ rfl (Or.inl ⟨by rfl, ?_⟩) hHeld ?_
    rotate_left
    · (intro w _; go_simp; try (with_reducible rfl))
    try simp only [Act.put, tl1, tl2, tl3]
    refine tkH 9 _ rfl (Or.inr ⟨by rfl, rfl⟩) hHeld ?_
    try simp only [Act.put, tl1, tl2, tl3]
    refine tkH 10 _ rfl (Or.inr ⟨by rfl, rfl⟩) hHeld ?_
    try simp only [Act.put, tl1, tl2, tl3]
    refine tkH 11 _ rfl (Or.inr ⟨by rfl, rfl⟩) hHeld ?_
    try simp only [Act.put, tl1, tl2, tl3]
    refine tkH 12 ?_ rfl (Or.inl ⟨by rfl, ?_⟩) hHeld ?_
    rotate_left
    · (intro w _; go_simp; try (with_reducible rfl))
    try simp only [Act.put, tl1, tl2, tl3]
    refine tkH 13 ?_ rfl (Or.inl ⟨by rfl, ?_⟩) hHeld ?_
    rotate_left
    · (intro w _; go_simp; try (with_reducible rfl))
    try simp only [Act.put, tl1, tl2, tl3]
    refine tkH 14 _ rfl (Or.inr ⟨by rfl, rfl⟩) hHeld ?_
    try simp only [Act.put, tl1, tl2, tl3]
    refine tkH 15 _ rfl (Or.inr ⟨by rfl, rfl⟩) hHeld ?_
    try simp only [Act.put, tl1, tl2, tl3]
    refine tkH 16 _ rfl (Or.inr ⟨by rfl, rfl⟩) hHeld ?_
    try simp only [Act.put, tl1, tl2, tl3]
    refine tkH 17 _ rfl (Or.inr ⟨by rfl, rfl⟩) hHeld ?_
    try simp only [Act.put, tl1, tl2, tl3]
    refine tkH 18 _ rfl (Or.inr ⟨by rfl, rfl⟩) hHeld ?_
    try simp only [Act.put, tl1, tl2, tl3]
    refine tkH 19 ?_ rfl (Or.inl ⟨by rfl, ?_⟩) hHeld ?_
    rotate_left
    · (intro w _; go_simp; try (with_reducible rfl))
    try simp only [Act.put, tl1, tl2, tl3]
    refine wpAnyH_done (by kernel_rfl) ?_ _
    go_wp2_with fail
    go_ret
    exact ⟨rfl, HB1.out.trans ((H2.out.trans (hHeld.mono H2.out.size)).mono HB1.out.size)⟩
  have Hgc : Hid (gCheck g = 0) := hide (by unfold gCheck; rw [hg]; rfl)
  have Hg := hide hg
  clear hg
  cases hso : Sp.ok 0 1000000 ⟨sl, sh⟩
  · have Hso := hide hso
    clear hso
    go_upto_region 4 with fail
    refine wp_region_held_drew (S := (fun W => Below w2.heap.size w2 W)) (by kernel_rfl) (by (try dsimp only); exact (Below.refl _ _).drew) (fun hHeld => ?_)
    generalize World.drew w2 = Wd4 at hHeld ⊢
    have hbc := Below.refl Wd4.heap.size Wd4
    refine tkH 0 ?_ rfl (Or.inl ⟨by rfl, ?_⟩) hHeld ?_
    rotate_left
    · (intro w _; go_simp; try (with_reducible rfl))
    try simp only [Act.put, tl1, tl2, tl3]
    refine tkH 1 ?_ rfl (Or.inl ⟨by rfl, ?_⟩) hHeld ?_
    rotate_left
    · (intro w _; go_simp; try (with_reducible rfl))
    try simp only [Act.put, tl1, tl2, tl3]
    refine tkH 2 ?_ rfl (Or.inl ⟨by rfl, ?_⟩) hHeld ?_
    rotate_left
    · (intro w _; go_simp; try (with_reducible rfl))
    try simp only [Act.put, tl1, tl2, tl3]
    refine tkH 3 ?_ rfl (Or.inl ⟨by rfl, ?_⟩) hHeld ?_
    rotate_left
    · (intro w _; go_simp; try (with_reducible rfl))
    try simp only [Act.put, tl1, tl2, tl3]
    refine tkH 4 ?_ rfl (Or.inl ⟨by rfl, ?_⟩) hHeld ?_
    rotate_left
    · (intro w _; go_simp; try (with_reducible rfl))
    try simp only [Act.put, tl1, tl2, tl3]
    refine wpAnyH_ready (rs := [5]) (by kernel_rfl) (by simp) ?_
    refine AllReadyH.cons (o := ⟨_, _, _, _, _, _⟩) rfl (fun K hK => ?_) AllReadyH.nil
    go_simp
    refine (rcheck_any A g n c _ Hn.out hm ((Hx.out.bel H2.out).bel hHeld)).mono ?_
    rintro e V33 ⟨rfl, hb⟩
    rw [Hgc.out]
    go_wp2_with fail
    have hHeldN := hHeld.trans (hb.mono hHeld.size)
    have hbc := hbc.trans (hb.mono hbc.size)
    refine hK.out _ _ ?_ (fun hHeld2 => ?_)
    · exact hHeldN
    clear hK K hHeld hHeldN hb; have hHeld := hHeld2; clear hHeld2
    try simp only [Act.put, tl1, tl2, tl3]
    refine tkH 6 ?_ rfl (Or.inl ⟨by rfl, ?_⟩) hHeld ?_
    rotate_left
    · (intro w _; go_simp; try (with_reducible rfl))
    try simp only [Act.put, tl1, tl2, tl3]
    refine tkH 7 ?_ rfl (Or.inl ⟨by rfl, ?_⟩) hHeld ?_
    rotate_left
    · (intro w _; go_simp; try (with_reducible rfl))
    try simp only [Act.put, tl1, tl2, tl3]
    refine tkH 8 ?_ rfl (Or.inl ⟨by rfl, ?_⟩) hHeld ?_
    rotate_left
    · (intro w _; go_simp; try (with_reducible rfl))
    try simp only [Act.put, tl1, tl2, tl3]
    refine tkH 9 ?_ rfl (Or.inl ⟨by rfl, ?_⟩) hHeld ?_
    rotate_left
    · (intro w hSw; (try dsimp only at hSw); obtain ⟨q0, q1, _, _⟩ := (X6.out.bel (H2.out.trans (hSw.mono H2.out.size))).w2; obtain ⟨p0, p1, p2, p3⟩ := (X7.out.bel (H2.out.trans (hSw.mono H2.out.size))).at_.c4; go_simp; try (with_reducible rfl))
    try simp only [Act.put, tl1, tl2, tl3]
    refine wpAnyH_ready (rs := [10]) (by kernel_rfl) (by simp) ?_
    refine AllReadyH.cons (o := ⟨_, _, _, _, _, _⟩) rfl (fun K hK => ?_) AllReadyH.nil
    go_simp
    refine (spanned_any _ _ _ _ _).mono ?_
    rintro e V38 ⟨rfl, hb⟩
    rw [Hso.out]
    go_wp2_with fail
    have hHeldN := hHeld.trans (hb.mono hHeld.size)
    have hbc := hbc.trans (hb.mono hbc.size)
    refine hK.out _ _ ?_ (fun hHeld2 => ?_)
    · exact hHeldN
    clear hK K hHeld hHeldN hb; have hHeld := hHeld2; clear hHeld2
    try simp only [Act.put, tl1, tl2, tl3]
    refine tkH 11 ?_ rfl (Or.inl ⟨by rfl, ?_⟩) hHeld ?_
    rotate_left
    · (intro w _; go_simp; try (with_reducible rfl))
    try simp only [Act.put, tl1, tl2, tl3]
    refine tkH 12 ?_ rfl (Or.inl ⟨by rfl, ?_⟩) hHeld ?_
    rotate_left
    · (intro w _; go_simp; try (with_reducible rfl))
    try simp only [Act.put, tl1, tl2, tl3]
    refine tkH 13 ?_ rfl (Or.inl ⟨by rfl, ?_⟩) hHeld ?_
    rotate_left
    · (intro w _; go_simp; try (with_reducible rfl))
    try simp only [Act.put, tl1, tl2, tl3]
    refine tkH 14 _ rfl (Or.inr ⟨by rfl, rfl⟩) hHeld ?_
    try simp only [Act.put, tl1, tl2, tl3]
    refine tkH 15 _ rfl (Or.inr ⟨by rfl, rfl⟩) hHeld ?_
    try simp only [Act.put, tl1, tl2, tl3]
    refine tkH 16 _ rfl (Or.inr ⟨by rfl, rfl⟩) hHeld ?_
    try simp only [Act.put, tl1, tl2, tl3]
    refine tkH 17 _ rfl (Or.inr ⟨by rfl, rfl⟩) hHeld ?_
    try simp only [Act.put, tl1, tl2, tl3]
    refine tkH 18 _ rfl (Or.inr ⟨by rfl, rfl⟩) hHeld ?_
    try simp only [Act.put, tl1, tl2, tl3]
    refine tkH 19 ?_ rfl (Or.inl ⟨by rfl, ?_⟩) hHeld ?_
    rotate_left
    · (intro w _; go_simp; try (with_reducible rfl))
    try simp only [Act.put, tl1, tl2, tl3]
    refine wpAnyH_done (by kernel_rfl) ?_ _
    go_wp2_with fail
    go_ret
    exact ⟨rfl, HB1.out.trans ((H2.out.trans (hHeld.mono H2.out.size)).mono HB1.out.size)⟩
  have Hso := hide hso
  clear hso
  cases hrd : readyB cs fs dry days 0 0 us
  · have Hrd := hide hrd
    clear hrd
    go_upto_region 4 with fail
    refine wp_region_held_drew (S := (fun W => Below w2.heap.size w2 W)) (by kernel_rfl) (by (try dsimp only); exact (Below.refl _ _).drew) (fun hHeld => ?_)
    generalize World.drew w2 = Wd4 at hHeld ⊢
    have hbc := Below.refl Wd4.heap.size Wd4
    refine tkH 0 ?_ rfl (Or.inl ⟨by rfl, ?_⟩) hHeld ?_
    rotate_left
    · (intro w _; go_simp; try (with_reducible rfl))
    try simp only [Act.put, tl1, tl2, tl3]
    refine tkH 1 ?_ rfl (Or.inl ⟨by rfl, ?_⟩) hHeld ?_
    rotate_left
    · (intro w _; go_simp; try (with_reducible rfl))
    try simp only [Act.put, tl1, tl2, tl3]
    refine tkH 2 ?_ rfl (Or.inl ⟨by rfl, ?_⟩) hHeld ?_
    rotate_left
    · (intro w _; go_simp; try (with_reducible rfl))
    try simp only [Act.put, tl1, tl2, tl3]
    refine tkH 3 ?_ rfl (Or.inl ⟨by rfl, ?_⟩) hHeld ?_
    rotate_left
    · (intro w _; go_simp; try (with_reducible rfl))
    try simp only [Act.put, tl1, tl2, tl3]
    refine tkH 4 ?_ rfl (Or.inl ⟨by rfl, ?_⟩) hHeld ?_
    rotate_left
    · (intro w _; go_simp; try (with_reducible rfl))
    try simp only [Act.put, tl1, tl2, tl3]
    refine wpAnyH_ready (rs := [5]) (by kernel_rfl) (by simp) ?_
    refine AllReadyH.cons (o := ⟨_, _, _, _, _, _⟩) rfl (fun K hK => ?_) AllReadyH.nil
    go_simp
    refine (rcheck_any A g n c _ Hn.out hm ((Hx.out.bel H2.out).bel hHeld)).mono ?_
    rintro e V33 ⟨rfl, hb⟩
    rw [Hgc.out]
    go_wp2_with fail
    have hHeldN := hHeld.trans (hb.mono hHeld.size)
    have hbc := hbc.trans (hb.mono hbc.size)
    refine hK.out _ _ ?_ (fun hHeld2 => ?_)
    · exact hHeldN
    clear hK K hHeld hHeldN hb; have hHeld := hHeld2; clear hHeld2
    try simp only [Act.put, tl1, tl2, tl3]
    refine tkH 6 ?_ rfl (Or.inl ⟨by rfl, ?_⟩) hHeld ?_
    rotate_left
    · (intro w _; go_simp; try (with_reducible rfl))
    try simp only [Act.put, tl1, tl2, tl3]
    refine tkH 7 ?_ rfl (Or.inl ⟨by rfl, ?_⟩) hHeld ?_
    rotate_left
    · (intro w _; go_simp; try (with_reducible rfl))
    try simp only [Act.put, tl1, tl2, tl3]
    refine tkH 8 ?_ rfl (Or.inl ⟨by rfl, ?_⟩) hHeld ?_
    rotate_left
    · (intro w _; go_simp; try (with_reducible rfl))
    try simp only [Act.put, tl1, tl2, tl3]
    refine tkH 9 ?_ rfl (Or.inl ⟨by rfl, ?_⟩) hHeld ?_
    rotate_left
    · (intro w hSw; (try dsimp only at hSw); obtain ⟨q0, q1, _, _⟩ := (X6.out.bel (H2.out.trans (hSw.mono H2.out.size))).w2; obtain ⟨p0, p1, p2, p3⟩ := (X7.out.bel (H2.out.trans (hSw.mono H2.out.size))).at_.c4; go_simp; try (with_reducible rfl))
    try simp only [Act.put, tl1, tl2, tl3]
    refine wpAnyH_ready (rs := [10]) (by kernel_rfl) (by simp) ?_
    refine AllReadyH.cons (o := ⟨_, _, _, _, _, _⟩) rfl (fun K hK => ?_) AllReadyH.nil
    go_simp
    refine (spanned_any _ _ _ _ _).mono ?_
    rintro e V38 ⟨rfl, hb⟩
    rw [Hso.out]
    go_wp2_with fail
    have hHeldN := hHeld.trans (hb.mono hHeld.size)
    have hbc := hbc.trans (hb.mono hbc.size)
    refine hK.out _ _ ?_ (fun hHeld2 => ?_)
    · exact hHeldN
    clear hK K hHeld hHeldN hb; have hHeld := hHeld2; clear hHeld2
    try simp only [Act.put, tl1, tl2, tl3]
    refine tkH 11 ?_ rfl (Or.inl ⟨by rfl, ?_⟩) hHeld ?_
    rotate_left
    · (intro w _; go_simp; try (with_reducible rfl))
    try simp only [Act.put, tl1, tl2, tl3]
    refine tkH 12 ?_ rfl (Or.inl ⟨by rfl, ?_⟩) hHeld ?_
    rotate_left
    · (intro w _; go_simp; try (with_reducible rfl))
    try simp only [Act.put, tl1, tl2, tl3]
    refine tkH 13 ?_ rfl (Or.inl ⟨by rfl, ?_⟩) hHeld ?_
    rotate_left
    · (intro w _; go_simp; try (with_reducible rfl))
    try simp only [Act.put, tl1, tl2, tl3]
    refine tkH 14 ?_ rfl (Or.inl ⟨by rfl, ?_⟩) hHeld ?_
    rotate_left
    · (intro w hSw; (try dsimp only at hSw); obtain ⟨q0, q1, _, _⟩ := (X6.out.bel (H2.out.trans (hSw.mono H2.out.size))).w2; obtain ⟨p0, p1, p2, p3⟩ := (X7.out.bel (H2.out.trans (hSw.mono H2.out.size))).at_.c4; go_simp; try (with_reducible rfl))
    try simp only [Act.put, tl1, tl2, tl3]
    refine tkH 16 ?_ rfl (Or.inl ⟨by rfl, ?_⟩) hHeld ?_
    rotate_left
    · (intro w _; go_simp; try (with_reducible rfl))
    try simp only [Act.put, tl1, tl2, tl3]
    refine wpAnyH_ready (rs := [15]) (by kernel_rfl) (by simp) ?_
    refine AllReadyH.cons (o := ⟨_, _, _, _, _, _⟩) rfl (fun K hK => ?_) AllReadyH.nil
    go_simp
    refine (span_any _ _ _).mono ?_
    rintro e V43 ⟨rfl, hb⟩
    go_wp2_with fail
    have hHeldN := hHeld.trans (hb.mono hHeld.size)
    have hbc := hbc.trans (hb.mono hbc.size)
    refine hK.out _ _ ?_ (fun hHeld2 => ?_)
    · exact hHeldN
    clear hK K hHeld hHeldN hb; have hHeld := hHeld2; clear hHeld2
    try simp only [Act.put, tl1, tl2, tl3]
    refine wpAnyH_ready (rs := [17]) (by kernel_rfl) (by simp) ?_
    refine AllReadyH.cons (o := ⟨_, _, _, _, _, _⟩) rfl (fun K hK => ?_) AllReadyH.nil
    go_simp
    refine (ready_any _ _ _ _ _ _ _ _ _ _ _ _ _ cs fs us _ Hnc.out Hnf.out ((Hcs.out.bel H2.out).bel hHeld) ((Hfs.out.bel H2.out).bel hHeld) ((Hus.out.bel H2.out).bel hHeld) Hnu.out).mono ?_
    rintro e V45 ⟨rfl, hb⟩
    rw [Hrd.out]
    go_wp2_with fail
    have hHeldN := hHeld.trans (hb.mono hHeld.size)
    have hbc := hbc.trans (hb.mono hbc.size)
    refine hK.out _ _ ?_ (fun hHeld2 => ?_)
    · exact hHeldN
    clear hK K hHeld hHeldN hb; have hHeld := hHeld2; clear hHeld2
    try simp only [Act.put, tl1, tl2, tl3]
    refine tkH 18 ?_ rfl (Or.inl ⟨by rfl, ?_⟩) hHeld ?_
    rotate_left
    · (intro w _; go_simp; try (with_reducible rfl))
    try simp only [Act.put, tl1, tl2, tl3]
    refine tkH 19 ?_ rfl (Or.inl ⟨by rfl, ?_⟩) hHeld ?_
    rotate_left
    · (intro w _; go_simp; try (with_reducible rfl))
    try simp only [Act.put, tl1, tl2, tl3]
    refine wpAnyH_done (by kernel_rfl) ?_ _
    go_wp2_with fail
    go_ret
    exact ⟨rfl, HB1.out.trans ((H2.out.trans (hHeld.mono H2.out.size)).mono HB1.out.size)⟩
  have Hrd := hide hrd
  clear hrd
  go_upto_region 4 with fail
  refine wp_region_held_drew (S := (fun W => Below w2.heap.size w2 W)) (by kernel_rfl) (by (try dsimp only); exact (Below.refl _ _).drew) (fun hHeld => ?_)
  generalize World.drew w2 = Wd4 at hHeld ⊢
  have hbc := Below.refl Wd4.heap.size Wd4
  refine tkH 0 ?_ rfl (Or.inl ⟨by rfl, ?_⟩) hHeld ?_
  rotate_left
  · (intro w _; go_simp; try (with_reducible rfl))
  try simp only [Act.put, tl1, tl2, tl3]
  refine tkH 1 ?_ rfl (Or.inl ⟨by rfl, ?_⟩) hHeld ?_
  rotate_left
  · (intro w _; go_simp; try (with_reducible rfl))
  try simp only [Act.put, tl1, tl2, tl3]
  refine tkH 2 ?_ rfl (Or.inl ⟨by rfl, ?_⟩) hHeld ?_
  rotate_left
  · (intro w _; go_simp; try (with_reducible rfl))
  try simp only [Act.put, tl1, tl2, tl3]
  refine tkH 3 ?_ rfl (Or.inl ⟨by rfl, ?_⟩) hHeld ?_
  rotate_left
  · (intro w _; go_simp; try (with_reducible rfl))
  try simp only [Act.put, tl1, tl2, tl3]
  refine tkH 4 ?_ rfl (Or.inl ⟨by rfl, ?_⟩) hHeld ?_
  rotate_left
  · (intro w _; go_simp; try (with_reducible rfl))
  try simp only [Act.put, tl1, tl2, tl3]
  refine wpAnyH_ready (rs := [5]) (by kernel_rfl) (by simp) ?_
  refine AllReadyH.cons (o := ⟨_, _, _, _, _, _⟩) rfl (fun K hK => ?_) AllReadyH.nil
  go_simp
  refine (rcheck_any A g n c _ Hn.out hm ((Hx.out.bel H2.out).bel hHeld)).mono ?_
  rintro e V33 ⟨rfl, hb⟩
  rw [Hgc.out]
  go_wp2_with fail
  have hHeldN := hHeld.trans (hb.mono hHeld.size)
  have hbc := hbc.trans (hb.mono hbc.size)
  refine hK.out _ _ ?_ (fun hHeld2 => ?_)
  · exact hHeldN
  clear hK K hHeld hHeldN hb; have hHeld := hHeld2; clear hHeld2
  try simp only [Act.put, tl1, tl2, tl3]
  refine tkH 6 ?_ rfl (Or.inl ⟨by rfl, ?_⟩) hHeld ?_
  rotate_left
  · (intro w _; go_simp; try (with_reducible rfl))
  try simp only [Act.put, tl1, tl2, tl3]
  refine tkH 7 ?_ rfl (Or.inl ⟨by rfl, ?_⟩) hHeld ?_
  rotate_left
  · (intro w _; go_simp; try (with_reducible rfl))
  try simp only [Act.put, tl1, tl2, tl3]
  refine tkH 8 ?_ rfl (Or.inl ⟨by rfl, ?_⟩) hHeld ?_
  rotate_left
  · (intro w _; go_simp; try (with_reducible rfl))
  try simp only [Act.put, tl1, tl2, tl3]
  refine tkH 9 ?_ rfl (Or.inl ⟨by rfl, ?_⟩) hHeld ?_
  rotate_left
  · (intro w hSw; (try dsimp only at hSw); obtain ⟨q0, q1, _, _⟩ := (X6.out.bel (H2.out.trans (hSw.mono H2.out.size))).w2; obtain ⟨p0, p1, p2, p3⟩ := (X7.out.bel (H2.out.trans (hSw.mono H2.out.size))).at_.c4; go_simp; try (with_reducible rfl))
  try simp only [Act.put, tl1, tl2, tl3]
  refine wpAnyH_ready (rs := [10]) (by kernel_rfl) (by simp) ?_
  refine AllReadyH.cons (o := ⟨_, _, _, _, _, _⟩) rfl (fun K hK => ?_) AllReadyH.nil
  go_simp
  refine (spanned_any _ _ _ _ _).mono ?_
  rintro e V38 ⟨rfl, hb⟩
  rw [Hso.out]
  go_wp2_with fail
  have hHeldN := hHeld.trans (hb.mono hHeld.size)
  have hbc := hbc.trans (hb.mono hbc.size)
  refine hK.out _ _ ?_ (fun hHeld2 => ?_)
  · exact hHeldN
  clear hK K hHeld hHeldN hb; have hHeld := hHeld2; clear hHeld2
  try simp only [Act.put, tl1, tl2, tl3]
  refine tkH 11 ?_ rfl (Or.inl ⟨by rfl, ?_⟩) hHeld ?_
  rotate_left
  · (intro w _; go_simp; try (with_reducible rfl))
  try simp only [Act.put, tl1, tl2, tl3]
  refine tkH 12 ?_ rfl (Or.inl ⟨by rfl, ?_⟩) hHeld ?_
  rotate_left
  · (intro w _; go_simp; try (with_reducible rfl))
  try simp only [Act.put, tl1, tl2, tl3]
  refine tkH 13 ?_ rfl (Or.inl ⟨by rfl, ?_⟩) hHeld ?_
  rotate_left
  · (intro w _; go_simp; try (with_reducible rfl))
  try simp only [Act.put, tl1, tl2, tl3]
  refine tkH 14 ?_ rfl (Or.inl ⟨by rfl, ?_⟩) hHeld ?_
  rotate_left
  · (intro w hSw; (try dsimp only at hSw); obtain ⟨q0, q1, _, _⟩ := (X6.out.bel (H2.out.trans (hSw.mono H2.out.size))).w2; obtain ⟨p0, p1, p2, p3⟩ := (X7.out.bel (H2.out.trans (hSw.mono H2.out.size))).at_.c4; go_simp; try (with_reducible rfl))
  try simp only [Act.put, tl1, tl2, tl3]
  refine tkH 16 ?_ rfl (Or.inl ⟨by rfl, ?_⟩) hHeld ?_
  rotate_left
  · (intro w _; go_simp; try (with_reducible rfl))
  try simp only [Act.put, tl1, tl2, tl3]
  refine wpAnyH_ready (rs := [15]) (by kernel_rfl) (by simp) ?_
  refine AllReadyH.cons (o := ⟨_, _, _, _, _, _⟩) rfl (fun K hK => ?_) AllReadyH.nil
  go_simp
  refine (span_any _ _ _).mono ?_
  rintro e V43 ⟨rfl, hb⟩
  go_wp2_with fail
  have hHeldN := hHeld.trans (hb.mono hHeld.size)
  have hbc := hbc.trans (hb.mono hbc.size)
  refine hK.out _ _ ?_ (fun hHeld2 => ?_)
  · exact hHeldN
  clear hK K hHeld hHeldN hb; have hHeld := hHeld2; clear hHeld2
  try simp only [Act.put, tl1, tl2, tl3]
  refine wpAnyH_ready (rs := [17]) (by kernel_rfl) (by simp) ?_
  refine AllReadyH.cons (o := ⟨_, _, _, _, _, _⟩) rfl (fun K hK => ?_) AllReadyH.nil
  go_simp
  refine (ready_any _ _ _ _ _ _ _ _ _ _ _ _ _ cs fs us _ Hnc.out Hnf.out ((Hcs.out.bel H2.out).bel hHeld) ((Hfs.out.bel H2.out).bel hHeld) ((Hus.out.bel H2.out).bel hHeld) Hnu.out).mono ?_
  rintro e V45 ⟨rfl, hb⟩
  rw [Hrd.out]
  go_wp2_with fail
  have hHeldN := hHeld.trans (hb.mono hHeld.size)
  have hbc := hbc.trans (hb.mono hbc.size)
  refine hK.out _ _ ?_ (fun hHeld2 => ?_)
  · exact hHeldN
  clear hK K hHeld hHeldN hb; have hHeld := hHeld2; clear hHeld2
  try simp only [Act.put, tl1, tl2, tl3]
  refine tkH 18 ?_ rfl (Or.inl ⟨by rfl, ?_⟩) hHeld ?_
  rotate_left
  · (intro w _; go_simp; try (with_reducible rfl))
  try simp only [Act.put, tl1, tl2, tl3]
  refine tkH 19 ?_ rfl (Or.inl ⟨by rfl, ?_⟩) hHeld ?_
  rotate_left
  · (intro w _; go_simp; try (with_reducible rfl))
  try simp only [Act.put, tl1, tl2, tl3]
  refine wpAnyH_done (by kernel_rfl) ?_ _
  have H3 := hide (H2.out.trans (hHeld.mono H2.out.size))
  obtain ⟨w3, rfl⟩ : ∃ w3, w3 = V45 := ⟨V45, rfl⟩
  have hrp := Hrd.out
  unfold readyB at hrp
  simp only [Bool.and_eq_true, Bool.not_eq_true'] at hrp
  obtain ⟨hgr, hok, huo, _⟩ := hrp
  have hl : cs.length ≤ 24 ∧ fs.length ≤ 18 ∧ us.length ≤ 60 := by have := usesOk_len huo; simp [great] at hgr; omega
  have N1 : Hid (NetAt w1 Ac Af nc nf cs fs) := hide ⟨Hcs.out, Hfs.out, Hnc.out, Hnf.out, by have := Hnc.out; omega, by have := Hnf.out; omega⟩
  have hnu60 : nu ≤ 60 := by have := Hnu.out; omega
  have hnf18 : nf ≤ 18 := by have := Hnf.out; omega
  have Hok := hide hok; have Huo := hide huo
  have hs1 : Sp.fine 1000000 ⟨sl, sh⟩ := by
    have h := Hso.out
    simp only [Sp.ok, Bool.and_eq_true, decide_eq_true_eq] at h
    exact ⟨h.1.1, h.1.2, h.2⟩
  have rby := Hby.out.bel H3.out
  have hs2 : 0 ≤ sl ∧ sl ≤ sh ∧ sh ≤ 1000000 := hs1
  clear hgr hok huo hl hHeld hbc
  go_wp2_with fail
  refine wp_region_held_drew (S := (fun W => Below w3.heap.size w3 W)) (by kernel_rfl) (by (try dsimp only); exact (Below.refl _ _).drew) (fun hHeld => ?_)
  generalize World.drew w3 = Wd6 at hHeld ⊢
  have rby := rby.bel hHeld
  have hbc := Below.refl Wd6.heap.size Wd6
  refine tkH 0 ?_ rfl (Or.inl ⟨by rfl, ?_⟩) hHeld ?_
  rotate_left
  · (intro w hSw; (try dsimp only at hSw); obtain ⟨q0, q1, _, _⟩ := (X6.out.bel (H3.out.trans (hSw.mono H3.out.size))).w2; go_simp; try (with_reducible rfl))
  try simp only [Act.put, tl1, tl2, tl3]
  refine tkH 1 ?_ rfl (Or.inl ⟨by rfl, ?_⟩) hHeld ?_
  rotate_left
  · (intro w _; go_simp; try (with_reducible rfl))
  try simp only [Act.put, tl1, tl2, tl3]
  refine wpAnyH_ready (rs := [2]) (by kernel_rfl) (by simp) ?_
  refine AllReadyH.cons (o := ⟨_, _, _, _, _, _⟩) rfl (fun K hK => ?_) AllReadyH.nil
  go_simp
  refine (at_any _ _ _ bys _ _ Hnb.out H32.out rby hnb2 (by omega) (by omega)).mono ?_
  rintro e V51 ⟨m51, rfl, hm51, hb⟩
  go_wp2_with fail
  have hHeldN := hHeld.trans (hb.mono hHeld.size)
  have rby := rby.bel hb
  have hbc := hbc.trans (hb.mono hbc.size)
  refine hK.out _ _ ?_ (fun hHeld2 => ?_)
  · exact hHeldN
  clear hK K hHeld hHeldN hb; have hHeld := hHeld2; clear hHeld2
  try simp only [Act.put, tl1, tl2, tl3]
  refine wpAnyH_ready (rs := [3]) (by kernel_rfl) (by simp) ?_
  refine AllReadyH.cons (o := ⟨_, _, _, _, _, _⟩) rfl (fun K hK => ?_) AllReadyH.nil
  go_simp
  refine (pick_any _ _ _ _ hs2.1 hs2.2.1 (by omega) hm51).mono ?_
  rintro e V52 ⟨r52, rfl, hr52, hb⟩
  have hq52 := hr52
  unfold inC at hq52
  dsimp only at hq52
  obtain ⟨hl52, hu52⟩ := hq52
  go_wp2_with fail
  have hHeldN := hHeld.trans (hb.mono hHeld.size)
  have rby := rby.bel hb
  have hbc := hbc.trans (hb.mono hbc.size)
  refine hK.out _ _ ?_ (fun hHeld2 => ?_)
  · exact hHeldN
  clear hK K hHeld hHeldN hb; have hHeld := hHeld2; clear hHeld2
  try simp only [Act.put, tl1, tl2, tl3]
  refine tkH 4 ?_ rfl (Or.inl ⟨by rfl, ?_⟩) hHeld ?_
  rotate_left
  · (intro w _; go_simp; try (with_reducible rfl))
  try simp only [Act.put, tl1, tl2, tl3]
  refine wpAnyH_done (by kernel_rfl) ?_ _
  have H4 := hide (H3.out.trans (hHeld.mono H3.out.size))
  have HR0 := hide (RunG.start (g := g) hs1 (show inS r52 ⟨sl, sh⟩ from hr52))
  obtain ⟨w4, rfl⟩ : ∃ w4, w4 = V52 := ⟨V52, rfl⟩
  have hcb0 : 0 ≤ r52 ∧ r52 ≤ 2000000 := by obtain ⟨h1, h2, h3⟩ := hs1; dsimp only at h1 h2 h3; omega
  clear rby hHeld hbc hr52 hl52 hu52 hm51 hs1
  go_wp2_with fail
  go_loopw [12, 55] (fun a i wr => ∃ (k : Nat) (cur : Int), a = .int .i64 cur ∧ i = .int .i64 k ∧ k ≤ n ∧ (0 ≤ cur ∧ cur ≤ 2000000) ∧ Hid (RunG g ⟨sl, sh⟩ k cur) ∧ Below w4.heap.size w4 wr) (fun _ i _ => n - (intOf i).toNat)
  case atStart => exact ⟨0, r52, rfl, rfl, by omega, hcb0, HR0, Below.refl _ _⟩
  case round => as_aux_lemma =>
    obtain ⟨k, cur, rfl, rfl, hk, ⟨hc0, hc1⟩, HRn, hb⟩ := hrel
    by_cases hlt : k < n
    · have ik : (k : Int) < (n : Int) := by omega
      have H5 := hide (H4.out.trans (hb.mono H4.out.size))
      obtain ⟨ba, offa, a0, a1, a2, a3, a4, a5, hAa, hba, hxk, d0, d1, d2, d3, d4, d5⟩ := (Hx.out.bel H5.out).rc (i := k) (by have := Hn.out; omega)
      have hrf := gOk_fine Hg.out _ (List.mem_of_getElem? hxk)
      obtain ⟨⟨g1, g2, g3⟩, ⟨g4, g5, g6⟩, ⟨g7, g8, g9⟩⟩ := hrf
      simp only at g1 g2 g3 g4 g5 g6 g7 g8 g9
      obtain ⟨b14, w14, e14, ew14, hx14, hb14, hz14⟩ := mk_bx wr #[.int .i64 a0, .int .i64 a1, .int .i64 a2, .int .i64 a3, .int .i64 a4, .int .i64 a5] 103
      have Hxk := hide hxk; have Hb := hide (hb.trans (hb14.mono hb.size)); have X14 := hide hx14
      have rby := (Hby.out.bel H5.out).bel hb14
      have k0 : IntKind.i64.wrap (3 * (k : Int)) = 3 * (k : Int) := wrapI (by omega)
      have k01 : IntKind.i64.wrap (3 * (k : Int) + 1) = 3 * (k : Int) + 1 := wrapI (by omega)
      have k02 : IntKind.i64.wrap (3 * (k : Int) + 2) = 3 * (k : Int) + 2 := wrapI (by omega)
      have k03 : IntKind.i64.wrap (3 * (k : Int) + 3) = 3 * (k : Int) + 3 := wrapI (by omega)
      subst hAa
      clear hxk hb hz14 hx14 hb14 hba
      go_upto_region 10 with fail
      rw [ew14.out, e14.out]
      clear d0 d1 d2 d3 d4 d5
      refine wp_region_held_drew (S := (fun W => Below w14.heap.size w14 W)) (by kernel_rfl) (by (try dsimp only); exact (Below.refl _ _).drew) (fun hHeld => ?_)
      generalize World.drew w14 = Wd10 at hHeld ⊢
      have rby := rby.bel hHeld
      have hbc := Below.refl Wd10.heap.size Wd10
      refine tkH 0 ?_ rfl (Or.inl ⟨by rfl, ?_⟩) hHeld ?_
      rotate_left
      · (intro w _; go_simp; try (with_reducible rfl))
      try simp only [Act.put, tl1, tl2, tl3]
      refine tkH 1 ?_ rfl (Or.inl ⟨by rfl, ?_⟩) hHeld ?_
      rotate_left
      · (intro w _; go_simp; try (with_reducible rfl))
      try simp only [Act.put, tl1, tl2, tl3]
      refine tkH 2 ?_ rfl (Or.inl ⟨by rfl, ?_⟩) hHeld ?_
      rotate_left
      · (intro w hSw; (try dsimp only at hSw); obtain ⟨z0, z1, z2, z3, z4, z5⟩ := (X14.out.bel hSw).at_.c6; go_simp; try (with_reducible rfl))
      try simp only [Act.put, tl1, tl2, tl3]
      refine tkH 3 ?_ rfl (Or.inl ⟨by rfl, ?_⟩) hHeld ?_
      rotate_left
      · (intro w _; go_simp; try (with_reducible rfl))
      try simp only [Act.put, tl1, tl2, tl3]
      refine tkH 4 ?_ rfl (Or.inl ⟨by rfl, ?_⟩) hHeld ?_
      rotate_left
      · (intro w _; go_simp; try (with_reducible rfl))
      try simp only [Act.put, tl1, tl2, tl3]
      refine tkH 5 ?_ rfl (Or.inl ⟨by rfl, ?_⟩) hHeld ?_
      rotate_left
      · (intro w _; go_simp; try (with_reducible rfl))
      try simp only [Act.put, tl1, tl2, tl3]
      refine tkH 6 ?_ rfl (Or.inl ⟨by rfl, ?_⟩) hHeld ?_
      rotate_left
      · (intro w _; go_simp; try (with_reducible rfl))
      try simp only [Act.put, tl1, tl2, tl3]
      refine tkH 10 ?_ rfl (Or.inl ⟨by rfl, ?_⟩) hHeld ?_
      rotate_left
      · (intro w _; go_simp; try (with_reducible rfl))
      try simp only [Act.put, tl1, tl2, tl3]
      refine tkH 11 ?_ rfl (Or.inl ⟨by rfl, ?_⟩) hHeld ?_
      rotate_left
      · (intro w hSw; (try dsimp only at hSw); obtain ⟨z0, z1, z2, z3, z4, z5⟩ := (X14.out.bel hSw).at_.c6; go_simp; try (with_reducible rfl))
      try simp only [Act.put, tl1, tl2, tl3]
      refine tkH 12 ?_ rfl (Or.inl ⟨by rfl, ?_⟩) hHeld ?_
      rotate_left
      · (intro w _; go_simp; try (with_reducible rfl))
      try simp only [Act.put, tl1, tl2, tl3]
      refine tkH 13 ?_ rfl (Or.inl ⟨by rfl, ?_⟩) hHeld ?_
      rotate_left
      · (intro w _; go_simp; try (with_reducible rfl))
      try simp only [Act.put, tl1, tl2, tl3]
      refine tkH 14 ?_ rfl (Or.inl ⟨by rfl, ?_⟩) hHeld ?_
      rotate_left
      · (intro w _; go_simp; try (with_reducible rfl))
      try simp only [Act.put, tl1, tl2, tl3]
      refine tkH 15 ?_ rfl (Or.inl ⟨by rfl, ?_⟩) hHeld ?_
      rotate_left
      · (intro w _; go_simp; try (with_reducible rfl))
      try simp only [Act.put, tl1, tl2, tl3]
      refine tkH 20 ?_ rfl (Or.inl ⟨by rfl, ?_⟩) hHeld ?_
      rotate_left
      · (intro w _; go_simp; try (with_reducible rfl))
      try simp only [Act.put, tl1, tl2, tl3]
      refine tkH 21 ?_ rfl (Or.inl ⟨by rfl, ?_⟩) hHeld ?_
      rotate_left
      · (intro w hSw; (try dsimp only at hSw); obtain ⟨z0, z1, z2, z3, z4, z5⟩ := (X14.out.bel hSw).at_.c6; go_simp; try (with_reducible rfl))
      try simp only [Act.put, tl1, tl2, tl3]
      refine tkH 22 ?_ rfl (Or.inl ⟨by rfl, ?_⟩) hHeld ?_
      rotate_left
      · (intro w _; go_simp; try (with_reducible rfl))
      try simp only [Act.put, tl1, tl2, tl3]
      refine tkH 23 ?_ rfl (Or.inl ⟨by rfl, ?_⟩) hHeld ?_
      rotate_left
      · (intro w _; go_simp; try (with_reducible rfl))
      try simp only [Act.put, tl1, tl2, tl3]
      refine tkH 24 ?_ rfl (Or.inl ⟨by rfl, ?_⟩) hHeld ?_
      rotate_left
      · (intro w _; go_simp; try (with_reducible rfl))
      try simp only [Act.put, tl1, tl2, tl3]
      refine tkH 25 ?_ rfl (Or.inl ⟨by rfl, ?_⟩) hHeld ?_
      rotate_left
      · (intro w _; go_simp; try (with_reducible rfl))
      try simp only [Act.put, tl1, tl2, tl3]
      refine wpAnyH_ready (rs := [7]) (by kernel_rfl) (by simp) ?_
      refine AllReadyH.cons (o := ⟨_, _, _, _, _, _⟩) rfl (fun K hK => ?_) AllReadyH.nil
      go_simp
      refine (at_any _ _ _ bys _ _ Hnb.out H32.out rby hnb2 (by omega) (by omega)).mono ?_
      rintro e V67 ⟨m67, rfl, hm67, hb⟩
      go_wp2_with fail
      have hHeldN := hHeld.trans (hb.mono hHeld.size)
      have rby := rby.bel hb
      have hbc := hbc.trans (hb.mono hbc.size)
      refine hK.out _ _ ?_ (fun hHeld2 => ?_)
      · exact hHeldN
      clear hK K hHeld hHeldN hb; have hHeld := hHeld2; clear hHeld2
      try simp only [Act.put, tl1, tl2, tl3]
      refine wpAnyH_ready (rs := [8]) (by kernel_rfl) (by simp) ?_
      refine AllReadyH.cons (o := ⟨_, _, _, _, _, _⟩) rfl (fun K hK => ?_) AllReadyH.nil
      go_simp
      refine (pick_any _ _ _ _ g1 g2 (by omega) hm67).mono ?_
      rintro e V68 ⟨r68, rfl, hr68, hb⟩
      have hq68 := hr68
      unfold inC at hq68
      dsimp only at hq68
      obtain ⟨hl68, hu68⟩ := hq68
      go_wp2_with fail
      have hHeldN := hHeld.trans (hb.mono hHeld.size)
      have rby := rby.bel hb
      have hbc := hbc.trans (hb.mono hbc.size)
      refine hK.out _ _ ?_ (fun hHeld2 => ?_)
      · exact hHeldN
      clear hK K hHeld hHeldN hb; have hHeld := hHeld2; clear hHeld2
      try simp only [Act.put, tl1, tl2, tl3]
      refine tkH 9 ?_ rfl (Or.inl ⟨by rfl, ?_⟩) hHeld ?_
      rotate_left
      · (intro w _; go_simp; try (with_reducible rfl))
      try simp only [Act.put, tl1, tl2, tl3]
      refine wpAnyH_ready (rs := [16]) (by kernel_rfl) (by simp) ?_
      refine AllReadyH.cons (o := ⟨_, _, _, _, _, _⟩) rfl (fun K hK => ?_) AllReadyH.nil
      go_simp
      refine (at_any _ _ _ bys _ _ Hnb.out H32.out rby hnb2 (by omega) (by omega)).mono ?_
      rintro e V76 ⟨m76, rfl, hm76, hb⟩
      go_wp2_with fail
      have hHeldN := hHeld.trans (hb.mono hHeld.size)
      have rby := rby.bel hb
      have hbc := hbc.trans (hb.mono hbc.size)
      refine hK.out _ _ ?_ (fun hHeld2 => ?_)
      · exact hHeldN
      clear hK K hHeld hHeldN hb; have hHeld := hHeld2; clear hHeld2
      try simp only [Act.put, tl1, tl2, tl3]
      refine wpAnyH_ready (rs := [17]) (by kernel_rfl) (by simp) ?_
      refine AllReadyH.cons (o := ⟨_, _, _, _, _, _⟩) rfl (fun K hK => ?_) AllReadyH.nil
      go_simp
      refine (pick_any _ _ _ _ g4 g5 (by omega) hm76).mono ?_
      rintro e V77 ⟨r77, rfl, hr77, hb⟩
      have hq77 := hr77
      unfold inC at hq77
      dsimp only at hq77
      obtain ⟨hl77, hu77⟩ := hq77
      go_wp2_with fail
      have hHeldN := hHeld.trans (hb.mono hHeld.size)
      have rby := rby.bel hb
      have hbc := hbc.trans (hb.mono hbc.size)
      refine hK.out _ _ ?_ (fun hHeld2 => ?_)
      · exact hHeldN
      clear hK K hHeld hHeldN hb; have hHeld := hHeld2; clear hHeld2
      try simp only [Act.put, tl1, tl2, tl3]
      refine tkH 18 ?_ rfl (Or.inl ⟨by rfl, ?_⟩) hHeld ?_
      rotate_left
      · (intro w _; go_simp; try (with_reducible rfl))
      try simp only [Act.put, tl1, tl2, tl3]
      refine tkH 19 ?_ rfl (Or.inl ⟨by rfl, ?_⟩) hHeld ?_
      rotate_left
      · (intro w _; go_simp; try (with_reducible rfl))
      try simp only [Act.put, tl1, tl2, tl3]
      refine wpAnyH_ready (rs := [26]) (by kernel_rfl) (by simp) ?_
      refine AllReadyH.cons (o := ⟨_, _, _, _, _, _⟩) rfl (fun K hK => ?_) AllReadyH.nil
      go_simp
      refine (at_any _ _ _ bys _ _ Hnb.out H32.out rby hnb2 (by omega) (by omega)).mono ?_
      rintro e V86 ⟨m86, rfl, hm86, hb⟩
      go_wp2_with fail
      have hHeldN := hHeld.trans (hb.mono hHeld.size)
      have rby := rby.bel hb
      have hbc := hbc.trans (hb.mono hbc.size)
      refine hK.out _ _ ?_ (fun hHeld2 => ?_)
      · exact hHeldN
      clear hK K hHeld hHeldN hb; have hHeld := hHeld2; clear hHeld2
      try simp only [Act.put, tl1, tl2, tl3]
      refine wpAnyH_ready (rs := [27]) (by kernel_rfl) (by simp) ?_
      refine AllReadyH.cons (o := ⟨_, _, _, _, _, _⟩) rfl (fun K hK => ?_) AllReadyH.nil
      go_simp
      refine (pick_any _ _ _ _ g7 g8 (by omega) hm86).mono ?_
      rintro e V87 ⟨r87, rfl, hr87, hb⟩
      have hq87 := hr87
      unfold inC at hq87
      dsimp only at hq87
      obtain ⟨hl87, hu87⟩ := hq87
      have k1 : IntKind.i64.wrap (min cur r68 - r77) = min cur r68 - r77 := wrapI (by omega)
      have k2 : IntKind.i64.wrap (max 0 (min cur r68 - r77) + r87) = max 0 (min cur r68 - r77) + r87 := wrapI (by omega)
      go_wp2_with fail
      have hHeldN := hHeld.trans (hb.mono hHeld.size)
      have rby := rby.bel hb
      have hbc := hbc.trans (hb.mono hbc.size)
      refine hK.out _ _ ?_ (fun hHeld2 => ?_)
      · exact hHeldN
      clear hK K hHeld hHeldN hb; have hHeld := hHeld2; clear hHeld2
      try simp only [Act.put, tl1, tl2, tl3]
      refine tkH 28 ?_ rfl (Or.inl ⟨by rfl, ?_⟩) hHeld ?_
      rotate_left
      · (intro w _; go_simp; try (with_reducible rfl))
      try simp only [Act.put, tl1, tl2, tl3]
      refine tkH 29 ?_ rfl (Or.inl ⟨by rfl, ?_⟩) hHeld ?_
      rotate_left
      · (intro w _; go_simp; try (with_reducible rfl))
      try simp only [Act.put, tl1, tl2, tl3]
      refine wpAnyH_done (by kernel_rfl) ?_ _
      obtain ⟨nx, hnx⟩ : ∃ nx, nx = max 0 (min cur r68 - r77) + r87 := ⟨_, rfl⟩
      rw [← hnx]
      have hnxb : 0 ≤ nx ∧ nx ≤ 2000000 := by omega
      have hnf : nx = nextF cur r68 r77 r87 := hnx
      have Hrn := HRn.out.next Hxk.out (gOk_fine Hg.out _ (List.mem_of_getElem? Hxk.out)) (show inS r68 _ from hr68) (show inS r77 _ from hr77) (show inS r87 _ from hr87)
      rw [← hnf] at Hrn
      have HRn' := hide Hrn
      have Hbb := hide (Hb.out.trans (hHeld.mono Hb.out.size))
      clear Hrn hnf hnx hHeld hbc rby
      go_wp2_with fail
      exact ⟨⟨k + 1, nx, rfl, by go_num, by omega, hnxb, HRn', Hbb.out⟩, by simp [intOf]; omega⟩
    · obtain rfl : n = k := by omega
      have H5 := hide (H4.out.trans (hb.mono H4.out.size))
      obtain ⟨w5, rfl⟩ : ∃ w5, w5 = wr := ⟨wr, rfl⟩
      obtain ⟨l, a, b, t1, t2, t3, t4, t5, t6, t7⟩ := gal_told Hg.out Hso.out (by rw [← Hn.out]; exact HRn.out)
      rw [← Hn.out] at t3 t4
      have T1 := hide t1; have T2 := hide t2; have T3 := hide t3; have T4 := hide t4; have T5 := hide t5; have T6 := hide t6; have T7 := hide t7
      clear t1 t2 t3 t4 t5 t6 t7 hb
      obtain ⟨q0, q1, _, _⟩ := (X6.out.bel H5.out).w2
      go_wp2_with fail
      refine (gflows_any A none g ⟨sl, sh⟩ [] n c 0 0 w5 Hn.out hm (Hx.out.bel H5.out) rfl (by omega) (Rd.nil _ _ _ _)).mono ?_
      rintro e w7 ⟨vf, vl, rfl, o1, _, hb7⟩
      rw [T2.out] at o1
      rw [T1.out]
      have H7 := hide (H5.out.trans (hb7.mono H5.out.size))
      obtain ⟨Ax, cx, rfl, rfl_⟩ := o1.rdn (n + 1) T3.out
      obtain ⟨bf, of, y0, y1, hAf, hbf, hxf, f0, f1⟩ := rfl_.sp (i := n) (by rw [T3.out]; omega)
      rw [T4.out] at hxf
      injection hxf with hxf
      injection hxf with hy0 hy1
      subst hy0 hy1
      have Hf0 := hide (show w7.cell? ⟨bf, of + n * 2, none⟩ = some (.int .i64 a) ∧ w7.cell? ⟨bf, of + n * 2 + 1, none⟩ = some (.int .i64 b) ∧ bf < w7.heap.size from ⟨f0, f1, hbf⟩)
      subst hAf
      have kn : IntKind.i64.wrap ((n : Int) + 1) = (n : Int) + 1 := wrapI (by omega)
      have kq : (((n : Int) + 1 != (n : Int) + 1)) = false := by simp
      have kq2 : ((((n + 1 : Nat) : Int)) != (n : Int) + 1) = false := by simp
      have hn1 : (n : Int) < (n : Int) + 1 := by omega
      have n7 : NetAt w7 Ac Af nc nf cs fs := N1.out.bel H7.out
      have ru := Hus.out.bel H7.out
      have Hws1 : Hid (watersS cs fs dry days a b us = (watersK cs fs dry (days * 1440) a b us us.length, 0)) := hide (by unfold watersS; rw [if_pos Hok.out, if_pos T7.out, if_pos Huo.out])
      have HL1 : Hid ((watersK cs fs dry (days * 1440) a b us us.length).1.length = nf) := hide (by rw [(watersK_bd (dry := dry) Hok.out Huo.out T7.out _ (Nat.le_refl _)).2.2.1, Hnf.out])
      have hcc : Sp.ok 0 13000000 ⟨cur, cur⟩ = true := by simp [Sp.ok]; omega
      have Hws2 : Hid (watersS cs fs dry days cur cur us = (watersK cs fs dry (days * 1440) cur cur us us.length, 0)) := hide (by unfold watersS; rw [if_pos Hok.out, if_pos hcc, if_pos Huo.out])
      have HL2 : Hid ((watersK cs fs dry (days * 1440) cur cur us us.length).1.length = nf) := hide (by rw [(watersK_bd (dry := dry) Hok.out Huo.out hcc _ (Nat.le_refl _)).2.2.1, Hnf.out])
      have Hin := hide (waters_in (dry := dry) Hok.out Huo.out T5.out T6.out us.length (Nat.le_refl _)).2
      clear o1 rfl_ f0 f1 hbf hb7 q0 q1 hcc
      go_upto_region 15 with fail
      refine wp_region_held_drew (S := (fun W => Below w7.heap.size w7 W)) (by kernel_rfl) (by (try dsimp only); exact (Below.refl _ _).drew) (fun hHeld => ?_)
      generalize World.drew w7 = Wd15 at hHeld ⊢
      have n7 := n7.bel hHeld
      have ru := ru.bel hHeld
      have hbc := Below.refl Wd15.heap.size Wd15
      refine tkH 0 ?_ rfl (Or.inl ⟨by rfl, ?_⟩) hHeld ?_
      rotate_left
      · (intro w hSw; (try dsimp only at hSw); obtain ⟨p0, p1, p2, p3⟩ := (X7.out.bel (H7.out.trans (hSw.mono H7.out.size))).at_.c4; have f0 := (hSw.cell (p := ⟨bf, of + n * 2, none⟩) Hf0.out.2.2).trans Hf0.out.1; have f1 := (hSw.cell (p := ⟨bf, of + n * 2 + 1, none⟩) Hf0.out.2.2).trans Hf0.out.2.1; go_simp; try (with_reducible rfl))
      try simp only [Act.put, tl1, tl2, tl3]
      refine tkH 1 ?_ rfl (Or.inl ⟨by rfl, ?_⟩) hHeld ?_
      rotate_left
      · (intro w _; go_simp; try (with_reducible rfl))
      try simp only [Act.put, tl1, tl2, tl3]
      refine tkH 2 ?_ rfl (Or.inl ⟨by rfl, ?_⟩) hHeld ?_
      rotate_left
      · (intro w _; go_simp; try (with_reducible rfl))
      try simp only [Act.put, tl1, tl2, tl3]
      refine tkH 3 ?_ rfl (Or.inl ⟨by rfl, ?_⟩) hHeld ?_
      rotate_left
      · (intro w _; go_simp; try (with_reducible rfl))
      try simp only [Act.put, tl1, tl2, tl3]
      refine tkH 4 ?_ rfl (Or.inl ⟨by rfl, ?_⟩) hHeld ?_
      rotate_left
      · (intro w _; go_simp; try (with_reducible rfl))
      try simp only [Act.put, tl1, tl2, tl3]
      refine tkH 5 ?_ rfl (Or.inl ⟨by rfl, ?_⟩) hHeld ?_
      rotate_left
      · (intro w hSw; (try dsimp only at hSw); obtain ⟨p0, p1, p2, p3⟩ := (X7.out.bel (H7.out.trans (hSw.mono H7.out.size))).at_.c4; have f0 := (hSw.cell (p := ⟨bf, of + n * 2, none⟩) Hf0.out.2.2).trans Hf0.out.1; have f1 := (hSw.cell (p := ⟨bf, of + n * 2 + 1, none⟩) Hf0.out.2.2).trans Hf0.out.2.1; go_simp; try (with_reducible rfl))
      try simp only [Act.put, tl1, tl2, tl3]
      refine tkH 6 ?_ rfl (Or.inl ⟨by rfl, ?_⟩) hHeld ?_
      rotate_left
      · (intro w _; go_simp; try (with_reducible rfl))
      try simp only [Act.put, tl1, tl2, tl3]
      refine wpAnyH_ready (rs := [7]) (by kernel_rfl) (by simp) ?_
      refine AllReadyH.cons (o := ⟨_, _, _, _, _, _⟩) rfl (fun K hK => ?_) AllReadyH.nil
      go_simp
      refine (waters_fn _ _ _ _ _ _ _ _ _ _ _ _ _ _ _ us _ n7 ru Hnu.out (by omega)).mono ?_
      rintro e V115 ⟨v1, v2, rfl, o1, o2, hb⟩
      simp only [Hws1.out] at o1 o2 ⊢
      obtain ⟨A18, c18, rfl, r18⟩ := o1.rdn nf HL1.out
      clear o1 o2
      go_wp2_with fail
      have hHeldN := hHeld.trans (hb.mono hHeld.size)
      have n7 := n7.bel hb
      have ru := ru.bel hb
      have hbc := hbc.trans (hb.mono hbc.size)
      refine hK.out _ _ ?_ (fun hHeld2 => ?_)
      · exact hHeldN
      clear hK K hHeld hHeldN hb; have hHeld := hHeld2; clear hHeld2
      try simp only [Act.put, tl1, tl2, tl3]
      refine tkH 8 ?_ rfl (Or.inl ⟨by rfl, ?_⟩) hHeld ?_
      rotate_left
      · (intro w _; go_simp; try (with_reducible rfl))
      try simp only [Act.put, tl1, tl2, tl3]
      refine tkH 9 ?_ rfl (Or.inl ⟨by rfl, ?_⟩) hHeld ?_
      rotate_left
      · (intro w _; go_simp; try (with_reducible rfl))
      try simp only [Act.put, tl1, tl2, tl3]
      refine tkH 10 ?_ rfl (Or.inl ⟨by rfl, ?_⟩) hHeld ?_
      rotate_left
      · (intro w _; go_simp; try (with_reducible rfl))
      try simp only [Act.put, tl1, tl2, tl3]
      refine tkH 11 ?_ rfl (Or.inl ⟨by rfl, ?_⟩) hHeld ?_
      rotate_left
      · (intro w _; go_simp; try (with_reducible rfl))
      try simp only [Act.put, tl1, tl2, tl3]
      refine tkH 12 ?_ rfl (Or.inl ⟨by rfl, ?_⟩) hHeld ?_
      rotate_left
      · (intro w _; go_simp; try (with_reducible rfl))
      try simp only [Act.put, tl1, tl2, tl3]
      refine tkH 13 ?_ rfl (Or.inl ⟨by rfl, ?_⟩) hHeld ?_
      rotate_left
      · (intro w _; go_simp; try (with_reducible rfl))
      try simp only [Act.put, tl1, tl2, tl3]
      refine tkH 14 ?_ rfl (Or.inl ⟨by rfl, ?_⟩) hHeld ?_
      rotate_left
      · (intro w _; go_simp; try (with_reducible rfl))
      try simp only [Act.put, tl1, tl2, tl3]
      refine wpAnyH_done (by kernel_rfl) ?_ _
      have H8 := hide (H7.out.trans (hHeld.mono H7.out.size))
      obtain ⟨w8, rfl⟩ : ∃ w8, w8 = V115 := ⟨V115, rfl⟩
      clear hHeld hbc
      go_upto_region 16 with fail
      refine wp_region_held_drew (S := (fun W => Below w8.heap.size w8 W)) (by kernel_rfl) (by (try dsimp only); exact (Below.refl _ _).drew) (fun hHeld => ?_)
      generalize World.drew w8 = Wd16 at hHeld ⊢
      have n7 := n7.bel hHeld
      have ru := ru.bel hHeld
      have r18 := r18.bel hHeld
      have hbc := Below.refl Wd16.heap.size Wd16
      refine tkH 0 ?_ rfl (Or.inl ⟨by rfl, ?_⟩) hHeld ?_
      rotate_left
      · (intro w hSw; (try dsimp only at hSw); obtain ⟨p0, p1, p2, p3⟩ := (X7.out.bel (H8.out.trans (hSw.mono H8.out.size))).at_.c4; go_simp; try (with_reducible rfl))
      try simp only [Act.put, tl1, tl2, tl3]
      refine tkH 1 ?_ rfl (Or.inl ⟨by rfl, ?_⟩) hHeld ?_
      rotate_left
      · (intro w _; go_simp; try (with_reducible rfl))
      try simp only [Act.put, tl1, tl2, tl3]
      refine tkH 2 ?_ rfl (Or.inl ⟨by rfl, ?_⟩) hHeld ?_
      rotate_left
      · (intro w _; go_simp; try (with_reducible rfl))
      try simp only [Act.put, tl1, tl2, tl3]
      refine tkH 4 ?_ rfl (Or.inl ⟨by rfl, ?_⟩) hHeld ?_
      rotate_left
      · (intro w _; go_simp; try (with_reducible rfl))
      try simp only [Act.put, tl1, tl2, tl3]
      refine wpAnyH_ready (rs := [3]) (by kernel_rfl) (by simp) ?_
      refine AllReadyH.cons (o := ⟨_, _, _, _, _, _⟩) rfl (fun K hK => ?_) AllReadyH.nil
      go_simp
      refine (span_any _ _ _).mono ?_
      rintro e V123 ⟨rfl, hb⟩
      go_wp2_with fail
      have hHeldN := hHeld.trans (hb.mono hHeld.size)
      have n7 := n7.bel hb
      have ru := ru.bel hb
      have r18 := r18.bel hb
      have hbc := hbc.trans (hb.mono hbc.size)
      refine hK.out _ _ ?_ (fun hHeld2 => ?_)
      · exact hHeldN
      clear hK K hHeld hHeldN hb; have hHeld := hHeld2; clear hHeld2
      try simp only [Act.put, tl1, tl2, tl3]
      refine wpAnyH_ready (rs := [5]) (by kernel_rfl) (by simp) ?_
      refine AllReadyH.cons (o := ⟨_, _, _, _, _, _⟩) rfl (fun K hK => ?_) AllReadyH.nil
      go_simp
      refine (waters_fn _ _ _ _ _ _ _ _ _ _ _ _ _ _ _ us _ n7 ru Hnu.out (by omega)).mono ?_
      rintro e V125 ⟨v1, v2, rfl, o1, o2, hb⟩
      simp only [Hws2.out] at o1 o2 ⊢
      obtain ⟨A21, c21, rfl, r21⟩ := o1.rdn nf HL2.out
      clear o1 o2
      go_wp2_with fail
      have hHeldN := hHeld.trans (hb.mono hHeld.size)
      have n7 := n7.bel hb
      have ru := ru.bel hb
      have r18 := r18.bel hb
      have hbc := hbc.trans (hb.mono hbc.size)
      refine hK.out _ _ ?_ (fun hHeld2 => ?_)
      · exact hHeldN
      clear hK K hHeld hHeldN hb; have hHeld := hHeld2; clear hHeld2
      try simp only [Act.put, tl1, tl2, tl3]
      refine tkH 6 ?_ rfl (Or.inl ⟨by rfl, ?_⟩) hHeld ?_
      rotate_left
      · (intro w _; go_simp; try (with_reducible rfl))
      try simp only [Act.put, tl1, tl2, tl3]
      refine tkH 7 ?_ rfl (Or.inl ⟨by rfl, ?_⟩) hHeld ?_
      rotate_left
      · (intro w _; go_simp; try (with_reducible rfl))
      try simp only [Act.put, tl1, tl2, tl3]
      refine tkH 8 ?_ rfl (Or.inl ⟨by rfl, ?_⟩) hHeld ?_
      rotate_left
      · (intro w _; go_simp; try (with_reducible rfl))
      try simp only [Act.put, tl1, tl2, tl3]
      refine tkH 9 ?_ rfl (Or.inl ⟨by rfl, ?_⟩) hHeld ?_
      rotate_left
      · (intro w _; go_simp; try (with_reducible rfl))
      try simp only [Act.put, tl1, tl2, tl3]
      refine tkH 10 ?_ rfl (Or.inl ⟨by rfl, ?_⟩) hHeld ?_
      rotate_left
      · (intro w _; go_simp; try (with_reducible rfl))
      try simp only [Act.put, tl1, tl2, tl3]
      refine tkH 11 ?_ rfl (Or.inl ⟨by rfl, ?_⟩) hHeld ?_
      rotate_left
      · (intro w _; go_simp; try (with_reducible rfl))
      try simp only [Act.put, tl1, tl2, tl3]
      refine tkH 12 ?_ rfl (Or.inl ⟨by rfl, ?_⟩) hHeld ?_
      rotate_left
      · (intro w _; go_simp; try (with_reducible rfl))
      try simp only [Act.put, tl1, tl2, tl3]
      refine wpAnyH_done (by kernel_rfl) ?_ _
      have H9 := hide (H8.out.trans (hHeld.mono H8.out.size))
      obtain ⟨w9, rfl⟩ : ∃ w9, w9 = V125 := ⟨V125, rfl⟩
      obtain ⟨p0, p1, p2, p3⟩ := (X7.out.bel H9.out).at_.c4
      have tn : ((nf : Int) != (nf : Int)) = false := by simp
      obtain ⟨L, hL⟩ : ∃ L, L = (watersK cs fs dry (days * 1440) a b us us.length).1 := ⟨_, rfl⟩
      obtain ⟨M, hM⟩ : ∃ M, M = (watersK cs fs dry (days * 1440) cur cur us us.length).1 := ⟨_, rfl⟩
      have hLl := HL1.out; have hMl := HL2.out; have hin := Hin.out
      rw [← hL] at r18 hLl hin
      rw [← hM] at r21 hMl hin
      have R18 := hide r18; have R21 := hide r21; have HLl := hide hLl; have HMl := hide hMl; have Hin' := hide hin
      clear hL hM r18 r21 hLl hMl hin Hin HL1 HL2 Hws1 Hws2 hHeld hbc n7 ru
      go_wp2_with fail
      go_loopw [152] (fun iv wr => ∃ k : Nat, k ≤ nf ∧ iv = .int .i64 k ∧ Below w9.heap.size w9 wr) (fun iv _ => nf - (intOf iv).toNat)
      case atStart => exact ⟨0, by omega, rfl, Below.refl _ _⟩
      case round => as_aux_lemma =>
        obtain ⟨k, hk, rfl, hb⟩ := hrel
        have Hb := hide hb
        by_cases hkn : k < nf
        · have ik : (k : Int) < (nf : Int) := by omega
          obtain ⟨b1, o1, lo, hi, hA1, _, hx1, c0, c1⟩ := (R18.out.bel hb).sp (i := k) (by rw [HLl.out]; exact hkn)
          obtain ⟨b2, o2, lo2, hi2, hA2, _, hx2, e0, e1⟩ := (R21.out.bel hb).sp (i := k) (by rw [HMl.out]; exact hkn)
          have h1 := Hin'.out k
          rw [show atS L k = ⟨lo, hi⟩ by unfold atS; rw [hx1]; rfl, show atS M k = ⟨lo2, hi2⟩ by unfold atS; rw [hx2]; rfl] at h1
          have h2 : lo ≤ lo2 ∧ hi2 ≤ hi := h1
          have d1 : decide (lo2 < lo) = false := decide_eq_false (by omega)
          have d2 : decide (hi < hi2) = false := decide_eq_false (by omega)
          subst hA1 hA2
          clear hx1 hx2 h1 h2 hb
          go_upto_region 22 with fail
          go_quiet (fail)
          go_wp2_with fail
          exact ⟨⟨k + 1, by omega, by go_num, below_drewN Hb.out _⟩, by simp [intOf]; omega⟩
        · clear hb
          go_wp2_with fail
          go_ret
          exact ⟨rfl, HB1.out.trans ((H9.out.trans (Hb.out.mono H9.out.size)).mono HB1.out.size)⟩
set_option maxRecDepth 100000 in
theorem channelFalaj_lifted (os : Os) (started : os.Started) (H : Type) (enc : TypeId × Value → H) :
    ReturnsInHanded {} Try.checked os 14 .any (Rows.channelFalajSpec.pre6 enc Try.prog Try.f14 Rows.channelFalajRow.domain false) (Rows.channelFalajSpec.post enc Try.prog Try.f14 false true false false) := by
  refine law_lifted os started H enc (s := Rows.channelFalajSpec) Try.func14 (by kernel_rfl) ?_ rfl Try.underlying4 rfl (of_decide_eq_true (by kernel_rfl))
    (ChangeSpec.witness6 (enc := enc) (C := Try.checked) false ⟨#[], #[.slice none 0 0, .agg #[.int .i64 0, .int .i64 0], .agg #[.slice none 0 0, .slice none 0 0, .int .i64 0, .int .i64 0], .slice none 0 0, .slice none 0 0], []⟩ 8 (by kernel_rfl) (by kernel_rfl) (by kernel_rfl) (by kernel_rfl)) ?_
  · intro ds hds
    match ds, hds with
    | [a, b, c, d, e], _ => rfl
  · intro W base args ds ps hval hA hlt
    rw [Try.params14] at hA hval
    obtain ⟨v0, v1, v2, v3, v4, d0, d1, d2, d3, d4, p0, p1, p2, p3, p4, rfl, rfl, rfl, h0, h1, h2, h3, h4⟩ := trodAll_five hA
    obtain ⟨A, n, c, g, rfl, hn, hm, hx, _⟩ := open_sl shape_rc Try.underlying99 cells_rc Rc.len (by omega) (hval 0 _ v0 rfl rfl) h0
    obtain ⟨⟨sl, sh⟩, e1, _⟩ := open_val shape_sp Try.underlying51 (hval 1 _ v1 rfl rfl) h1
    rw [show (v1 : Value) = .agg #[.int .i64 sl, .int .i64 sh] from e1]
    obtain ⟨Ac, nc, cc, Af, nf, cf, dry, days, cs, fs, rfl, hnc, hnf, _, _, hcs, hfs, _, _, _, _⟩ := open_net (hval 2 _ v2 rfl rfl) h2
    obtain ⟨Au, nu, cu, us, rfl, hnu, _, hus, _⟩ := open_sl shape_us Try.underlying26 cells_us Us.len (by omega) (hval 3 _ v3 rfl rfl) h3
    obtain ⟨B, nb, cb, bys, rfl, hnb, hnb2, hby, h32⟩ := open_sl shape_u32 Try.underlying76 cells_u32 u32cell_len (by omega) (hval 4 _ v4 rfl rfl) h4
    exact falaj_walk A Ac Af Au B n c nc cc nf cf nu cu nb cb sl sh dry days g cs fs us bys W hn hm hx hnc hnf hcs hfs hnu hus hnb hnb2 hby h32

theorem channelFalaj_holds : Rows.ChannelFalajSaid :=
  OpenClaim.holds_of_wide 14 Try.f14 rfl rfl rfl rfl rfl rfl rfl ⟨rfl, rfl, rfl, rfl, rfl⟩ rfl rfl rfl rfl rfl (by kernel_rfl) Try.func14 (by kernel_rfl)
    (of_decide_eq_true (by kernel_rfl)) (by unfold Func.isWrapper; rw [if_neg (of_decide_eq_false (by kernel_rfl))]; exact ⟨rfl, rfl⟩)
    (fun os started H enc _ => channelFalaj_lifted os started H enc)
#print axioms channelFalaj_holds
end Go.Proofs.Ytgklcilpohkpkaa
