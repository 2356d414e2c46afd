/- Whatever flows within bounds, canal by canal, lies in what is told (the plain law); numbers that choose; rows of ints that are made and filled. -/
import Derived.Test.YthlnbgjlkliopaaOpenG
import Derived.Test.YthlnbgjlkliopaaD1
import Derived.Test.YthlnbgjlkliopaaO4
import Derived.Test.YthlnbgjlkliopaaA0
import Derived.Test.YthlnbgjlkliopaaApp
import Derived.Deep.QuietTactic
import Derived.BigQuiet
import Derived.Test.YthlnbgjlkliopaaO6
import Derived.Test.YthlnbgjlkliopaaD2
set_option linter.unusedVariables false
set_option linter.unusedSimpArgs false
namespace Go.Proofs.Ythlnbgjlkliopaa
open Go.RowKit Go.Shelf
/-! ### Of one canal -/
theorem max0_mono {x y : Int} (h : x ≤ y) : max 0 x ≤ max 0 y := by omega
theorem max0_nn (x : Int) : 0 ≤ max 0 x := by omega
theorem mul_mono {x y s t : Int} (h : x ≤ y) (g : s ≤ t) (x0 : 0 ≤ x) (t0 : 0 ≤ t) : x * s ≤ y * t := by
  have h1 := Int.mul_le_mul_of_nonneg_left g x0
  have h2 := Int.mul_le_mul_of_nonneg_right h t0
  omega
theorem downF_le {v v' f f' t t' : Int} (hv : v ≤ v') (hf : f' ≤ f) (ht : t ≤ t') (t0 : 0 ≤ t) : downF v f t ≤ downF v' f' t' := by
  unfold downF
  have := mul_mono (x := max 0 (v - f)) (y := max 0 (v' - f')) (s := t) (t := t') (max0_mono (by omega)) ht (max0_nn _) (by omega)
  omega
theorem upG_le {v v' f f' t t' : Int} (hv : v ≤ v') (hf : f' ≤ f) (ht : t ≤ t') (t0 : 0 ≤ t) : upG v f t ≤ upG v' f' t' := by
  unfold upG
  have := mul_mono (x := max 0 (v - f)) (y := max 0 (v' - f')) (s := t) (t := t') (max0_mono (by omega)) ht (max0_nn _) (by omega)
  omega
theorem down_up (v f t : Int) : downF v f t ≤ upG v f t := by unfold downF upG; omega
/-- Of more that comes in, no more goes out than that. -/
theorem mul_lip {v v' f t : Int} (hv : v ≤ v') (t0 : 0 ≤ t) (t1 : t ≤ 1000) : max 0 (v' - f) * t ≤ max 0 (v - f) * t + (v' - v) * 1000 := by
  have h1 : max 0 (v' - f) ≤ max 0 (v - f) + (v' - v) := by omega
  have h2 := Int.mul_le_mul_of_nonneg_right h1 t0
  have h3 := Int.mul_le_mul_of_nonneg_left t1 (show 0 ≤ v' - v by omega)
  rw [Int.add_mul] at h2
  omega
theorem downF_lip {v v' f t : Int} (hv : v ≤ v') (t0 : 0 ≤ t) (t1 : t ≤ 1000) : downF v' f t - downF v f t ≤ v' - v := by
  have := mul_lip (f := f) hv t0 t1
  unfold downF
  omega
theorem upG_lip {v v' f t : Int} (hv : v ≤ v') (t0 : 0 ≤ t) (t1 : t ≤ 1000) : upG v' f t - upG v f t ≤ v' - v := by
  have := mul_lip (f := f) hv t0 t1
  unfold upG
  omega
def inC (s : Sp) (v : Int) : Prop := s.lo ≤ v ∧ v ≤ s.hi
/-- What goes out of a canal, and what is lost, whatever is so of it. -/
theorem canal_in {V s l : Sp} {d : Bool} {v f e : Int} (hV : inC V v) (v0 : 0 ≤ v) (hs : 0 ≤ s.lo ∧ s.hi ≤ 1000) (hl : 0 ≤ l.lo) (he : inC s e) (hf : if d then inC l f else f = 0) :
    inC (goF (wkF s l d) V) (downF v f (1000 - e)) ∧ inC (seF (wkF s l d) V) (v - downF v f (1000 - e)) ∧ 0 ≤ downF v f (1000 - e) ∧ downF v f (1000 - e) ≤ v := by
  obtain ⟨h1, h2⟩ := hV
  obtain ⟨e1, e2⟩ := he
  have hf' : (wkF s l d).fill.lo ≤ f ∧ f ≤ (wkF s l d).fill.hi ∧ 0 ≤ f := by
    cases d
    · simp only [Bool.false_eq_true, if_false] at hf; subst hf; simp [wkF]
    · simp only [if_true] at hf; obtain ⟨f1, f2⟩ := hf; simp only [wkF, if_true]; omega
  obtain ⟨f1, f2, f3⟩ := hf'
  have a1 : downF V.lo (wkF s l d).fill.hi (1000 - s.hi) ≤ downF v f (1000 - e) := downF_le h1 f2 (by omega) (by omega)
  have a2 : upG v f (1000 - e) ≤ upG V.hi (wkF s l d).fill.lo (1000 - s.lo) := upG_le h2 f1 (by omega) (by omega)
  have a3 := down_up v f (1000 - e)
  have b1 : upG v f (1000 - e) ≤ upG v (wkF s l d).fill.lo (1000 - s.lo) := upG_le (Int.le_refl _) f1 (by omega) (by omega)
  have b2 := upG_lip (f := (wkF s l d).fill.lo) (t := 1000 - s.lo) h1 (by omega) (by omega)
  have c1 : downF v (wkF s l d).fill.hi (1000 - s.hi) ≤ downF v f (1000 - e) := downF_le (Int.le_refl _) f2 (by omega) (by omega)
  have c2 := downF_lip (f := (wkF s l d).fill.hi) (t := 1000 - s.hi) h2 (by omega) (by omega)
  have d1 : 0 ≤ downF v f (1000 - e) := by
    unfold downF
    have := Int.mul_nonneg (max0_nn (v - f)) (show 0 ≤ 1000 - e by omega)
    omega
  have d2 : downF v f (1000 - e) ≤ v := by
    unfold downF
    have h3 := Int.mul_le_mul_of_nonneg_left (show 1000 - e ≤ 1000 by omega) (max0_nn (v - f))
    have h4 : max 0 (v - f) ≤ v := by omega
    omega
  refine ⟨⟨?_, ?_⟩, ⟨?_, ?_⟩, d1, d2⟩
  · exact a1
  · show _ ≤ upG V.hi (wkF s l d).fill.lo (1000 - s.lo); omega
  · show V.lo - upG V.lo (wkF s l d).fill.lo (1000 - s.lo) ≤ _; omega
  · show _ ≤ V.hi - downF V.hi (wkF s l d).fill.hi (1000 - s.hi); omega
/-! ### Of many -/
def ptIn (xs : List Int) (ss : List Sp) : Prop := xs.length = ss.length ∧ ∀ i, inC (atS ss i) (atI xs i)
theorem atI_set (xs : List Int) (i j : Nat) (x : Int) (hi : i < xs.length) : atI (xs.set i x) j = if i = j then x else atI xs j := by
  unfold atI
  rw [List.getElem?_set]
  by_cases h : i = j
  · subst h; simp [hi]
  · simp [h]
theorem atS_set (xs : List Sp) (i j : Nat) (x : Sp) (hi : i < xs.length) : atS (xs.set i x) j = if i = j then x else atS xs j := by
  unfold atS
  rw [List.getElem?_set]
  by_cases h : i = j
  · subst h; simp [hi]
  · simp [h]
theorem ptIn.put {xs : List Int} {ss : List Sp} (h : ptIn xs ss) {i : Nat} (hi : i < xs.length) {d : Int} {s : Sp} (hd : inC s d) : ptIn (xs.set i (atI xs i + d)) (putS ss i s) := by
  refine ⟨by rw [List.length_set, putS_len, h.1], fun j => ?_⟩
  unfold putS
  rw [atI_set _ _ _ _ hi, atS_set _ _ _ _ (by rw [← h.1]; exact hi)]
  by_cases e : i = j
  · subst e
    simp only [if_true]
    have := h.2 i
    unfold inC addS at *
    simp only
    omega
  · simp only [if_neg e]
    exact h.2 j
theorem ptIn.zero (n : Nat) : ptIn (List.replicate n 0) (List.replicate n ⟨0, 0⟩) := by
  refine ⟨by simp, fun i => ?_⟩
  unfold inC atS atI
  by_cases h : i < n
  · simp [List.getElem?_replicate, h]
  · simp [List.getElem?_replicate, h]
def sumI (xs : List Int) : Int := xs.foldl (· + ·) 0
theorem sumI_acc (xs : List Int) : ∀ a : Int, xs.foldl (· + ·) a = a + sumI xs := by
  unfold sumI
  induction xs with
  | nil => intro a; simp
  | cons x xs ih => intro a; simp only [List.foldl_cons]; rw [ih, ih (0 + x)]; omega
theorem sumI_cons (x : Int) (xs : List Int) : sumI (x :: xs) = x + sumI xs := by
  unfold sumI
  rw [List.foldl_cons, sumI_acc]
  simp
  rfl
theorem sumI_set : ∀ (xs : List Int) (i : Nat) (d : Int), i < xs.length → sumI (xs.set i (atI xs i + d)) = sumI xs + d
  | [], _, _, h => by simp at h
  | x :: xs, 0, d, _ => by simp [atI, sumI_cons]; omega
  | x :: xs, i + 1, d, h => by
    simp only [List.length_cons] at h
    have := sumI_set xs i d (by omega)
    simp only [List.set_cons_succ, sumI_cons]
    rw [show atI (x :: xs) (i + 1) = atI xs i by simp [atI], this]
    omega
theorem sumI_zero (n : Nat) : sumI (List.replicate n 0) = 0 := by
  induction n with
  | zero => rfl
  | succ n ih => rw [List.replicate_succ, sumI_cons, ih]; rfl
theorem sumI_take {xs : List Int} {k : Nat} {x : Int} (h : xs[k]? = some x) : sumI (xs.take (k + 1)) = sumI (xs.take k) + x := by
  rw [take_snoc h]
  unfold sumI
  rw [List.foldl_append]
  rfl
/-- What is so of one use as far as a number of its canals: what has come through, and what has been lost in each. -/
theorem path_step {cs : List Ca} {fs : List Int} {dry days : Int} (hok : netOk cs fs dry days = true) {dr p : List Int} {l0 : List Sp} {V : Sp} {k : Nat} {c : Int} {ca : Ca} {L : List Int} {v f e : Int} (hc : p[k]? = some c) (hca : cs[c.toNat]? = some ca) (hcl : c.toNat < L.length)
    (hL : ptIn L (pathW cs dr (p.take k) l0 V).1) (hv : inC (pathW cs dr (p.take k) l0 V).2 v) (v0 : 0 ≤ v) (he : inC ca.seep e) (hf : if decide (c ∈ dr) then inC ca.fill f else f = 0) :
    ptIn (L.set c.toNat (atI L c.toNat + (v - downF v f (1000 - e)))) (pathW cs dr (p.take (k + 1)) l0 V).1 ∧ inC (pathW cs dr (p.take (k + 1)) l0 V).2 (downF v f (1000 - e)) ∧ 0 ≤ downF v f (1000 - e) ∧ downF v f (1000 - e) ≤ v := by
  have h := (caAll_iff 0 cs).1 (netOk_parts hok).2.2.2.2.2.1 _ _ hca
  simp only [caOk, inB, Sp.ok, Bool.and_eq_true, decide_eq_true_eq] at h
  obtain ⟨_, ⟨⟨h1, h2⟩, h3⟩, ⟨h4, h5⟩, h6⟩ := h
  obtain ⟨a1, a2, a3, a4⟩ := canal_in (s := ca.seep) (l := ca.fill) (d := decide (c ∈ dr)) hv v0 ⟨h1, h3⟩ h4 he hf
  have hw : wkAt cs dr c = wkF ca.seep ca.fill (decide (c ∈ dr)) := by unfold wkAt; rw [hca]
  rw [pathW_snoc hc]
  unfold canalW
  rw [hw]
  exact ⟨hL.put hcl a2, a1, a3, a4⟩
end Go.Proofs.Ythlnbgjlkliopaa
namespace Go.Proofs.Ythlnbgjlkliopaa
open Go.RowKit Go.Shelf Go.WideShapes Go.ChangeShapes Go.ChangeAt Go.Deep
attribute [local go_sem ↓] Go.wp_at_zero Go.wp_at_succ
set_option maxHeartbeats 4000000 in
set_option maxRecDepth 100000 in
theorem at_any (A : Option Addr) (n c : Nat) (xs : List Nat) (i : Int) (w : World) (hn : n = xs.length) (h32 : ∀ x ∈ xs, x ≤ 4294967295) (hx : Rd w w.heap.size u32cell A xs) (hn2 : n ≤ 9223372036854775807) (i0 : 0 ≤ i) (i1 : i ≤ 1000) :
    Calls Try.prog 8 #[.slice A n c, .int .i64 i] w fun e w' => ∃ m : Nat, e = .returned (.int .u32 (m : Int)) ∧ m ≤ 4294967295 ∧ Below w.heap.size w w' := by
  obtain ⟨j, rfl⟩ : ∃ j : Nat, i = j := ⟨i.toNat, by omega⟩
  by_cases hz : n = 0
  · subst hz
    go_enter Try.func8, Try.ntmps8
    go_wp2_with fail
    go_ret
    exact ⟨0, rfl, by omega, Below.refl _ _⟩
  have hm : j % n < n := Nat.mod_lt _ (by omega)
  obtain ⟨k, hk⟩ : ∃ k, k = j % n := ⟨_, rfl⟩
  rw [← hk] at hm
  obtain ⟨b, off, x, rfl, hb, hxk, c0⟩ := hx.u32 (i := k) (by omega)
  have hxm := h32 x (List.mem_of_getElem? hxk)
  have t1 : Int.tmod (j : Int) (n : Int) = (k : Int) := by rw [Int.tmod_eq_emod_of_nonneg (by omega), hk]; exact (Int.natCast_emod j n).symm
  have t2 : (j : Int) % (n : Int) = (k : Int) := by rw [hk]; exact (Int.natCast_emod j n).symm
  have nz : ((n : Int) == 0) = false := by simpa using hz
  have nz2 : ¬ (n : Int) = 0 := by omega
  clear hk hxk hx hn
  go_enter Try.func8, Try.ntmps8
  go_wp2_with fail
  go_ret
  exact ⟨x, rfl, hxm, Below.refl _ _⟩
set_option maxHeartbeats 4000000 in
set_option maxRecDepth 100000 in
theorem pick_any (lo hi : Int) (m : Nat) (w : World) (h0 : 0 ≤ lo) (h1 : lo ≤ hi) (h2 : hi ≤ 1000000000000) (hm : m ≤ 4294967295) :
    Calls Try.prog 10 #[.agg #[.int .i64 lo, .int .i64 hi], .int .u32 (m : Int)] w fun e w' => ∃ r, e = .returned (.int .i64 r) ∧ inC ⟨lo, hi⟩ r ∧ Below w.heap.size w w' := by
  obtain ⟨W, HW⟩ : ∃ W, Hid (w.alloc (.cells #[.int .i64 lo, .int .i64 hi] 27) = W) := ⟨_, hide rfl⟩
  have hx : At W w.heap.size [.int .i64 lo, .int .i64 hi] := by rw [← HW.out]; exact At.new w #[.int .i64 lo, .int .i64 hi] _ _ rfl _ rfl
  have hB : Below w.heap.size w W := by rw [← HW.out]; exact below_new w _
  obtain ⟨q0, q1⟩ := hx.c2
  have fm : IntKind.i64.wrap (m : Int) = m := wrapI (by omega)
  have e1 : (0 : Int) ≤ (m : Int) % (hi - lo + 1) ∧ (m : Int) % (hi - lo + 1) < hi - lo + 1 := ⟨Int.emod_nonneg _ (by omega), Int.emod_lt_of_pos _ (by omega)⟩
  obtain ⟨r, hr⟩ : ∃ r, r = (m : Int) % (hi - lo + 1) := ⟨_, rfl⟩
  rw [← hr] at e1
  have t1 : Int.tmod (m : Int) (hi - lo + 1) = r := by rw [Int.tmod_eq_emod_of_nonneg (by omega), hr]
  have nz : ¬ hi - lo + 1 = 0 := by omega
  have Hr := hide hr
  clear hr hx
  go_enter Try.func10, Try.ntmps10
  go_wp2_with fail
  rw [HW.out]
  go_quiet (fail)
  go_wp2_with fail
  go_ret
  exact ⟨lo + r, by first | rfl | simp, ⟨by show lo ≤ _; omega, by show _ ≤ hi; omega⟩, below_drewN hB _⟩
end Go.Proofs.Ythlnbgjlkliopaa
namespace Go.Proofs.Ythlnbgjlkliopaa
open Go.RowKit Go.Shelf
attribute [local go_sem] Oper.semAt_some
theorem op_makeI {o : Oper} {a : Act} {w : World} {K : Act → World → Prop} {Q : Exit → Act → World → Prop} {l c : Operand} {n base : Nat} (hop : o.op = Op.makeSlice 23 l c) (hbase : base ≤ w.heap.size)
    (hl : a.eval l = .int .i64 (n : Int)) (hc : a.eval c = .int .i64 (n : Int)) (hn : n ≤ 1000)
    (hK : ∀ w', Own w' base 3 1 icell (.slice (some ⟨w.heap.size, 0, none⟩) n n) (List.replicate n 0) → Below w.heap.size w w' → K (a.put o.dst (.slice (some ⟨w.heap.size, 0, none⟩) n n)) w') :
    o.wp Try.prog a w K Q := by
  have hrun := make_ints n hn w
  unfold Oper.wp
  simp [execOp, hop, hl, hc, hrun, Result.andThen]
  have h := own_made n hn w base hbase
  rw [Nat.mul_one] at h
  exact hK _ h (below_new w _)
/-- Two rows of the walk's own, in blocks behind all that stood in V. -/
structure TQ (V : World) (g1 g2 n m : Nat) (G L : List Int) (W : World) : Prop where
  bl : Below V.heap.size V W
  og : Own W V.heap.size 3 1 icell (.slice (some ⟨g1, 0, none⟩) n n) G
  ol : Own W V.heap.size 3 1 icell (.slice (some ⟨g2, 0, none⟩) m m) L
  ne : g1 ≠ g2
  gl : G.length = n
  ll : L.length = m
section
variable {V W W' : World} {g1 g2 n m : Nat} {G L : List Int}
theorem TQ.bel (h : TQ V g1 g2 n m G L W) (hb : Below W.heap.size W W') : TQ V g1 g2 n m G L W' := ⟨h.bl.trans (hb.mono h.bl.size), h.og.below hb, h.ol.below hb, h.ne, h.gl, h.ll⟩
theorem TQ.g1b (h : TQ V g1 g2 n m G L W) : V.heap.size ≤ g1 ∧ g1 < W.heap.size := own_bl h.og g1 rfl
theorem TQ.g2b (h : TQ V g1 g2 n m G L W) : V.heap.size ≤ g2 ∧ g2 < W.heap.size := own_bl h.ol g2 rfl
theorem TQ.set2 (h : TQ V g1 g2 n m G L W) {i : Nat} (hi : i < m) (x : Int) :
    TQ V g1 g2 n m G (L.set i x) (W.setCell ⟨g2, i, none⟩ (.int .i64 x)) ∧ W.cell? ⟨g2, i, none⟩ = some (.int .i64 (atI L i)) ∧ W.frozen? ⟨g2, i, none⟩ = false := by
  have hx : L[i]? = some (atI L i) := by unfold atI; rw [List.getElem?_eq_getElem (by rw [h.ll]; exact hi)]; rfl
  obtain ⟨h1, _, y⟩ := h.ol.put_ icell_len (i := i) (j := 0) (x' := x) (u := .int .i64 x) hx (by omega) (by simp [icell]) h.ll.symm
  obtain ⟨A, d, hv, hr⟩ := h.ol.rdn m h.ll
  obtain ⟨b, off, c, hA, _, hc, c0⟩ := hr.int (i := i) (by rw [h.ll]; exact hi)
  subst hA
  injection hv with hv
  injection hv with hv
  injection hv with e1 e2
  rw [hx] at hc
  injection hc with hc
  subst hc e1 e2
  simp only [Nat.mul_one, Nat.add_zero, Nat.zero_add] at h1 y c0
  exact ⟨⟨h.bl.setCell h.g2b.1 _, h.og.setCell (fun e => h.ne (by injection e)) _, h1, h.ne, h.gl, by rw [List.length_set]; exact h.ll⟩, c0, y⟩
theorem TQ.swap (h : TQ V g1 g2 n m G L W) : TQ V g2 g1 m n L G W := ⟨h.bl, h.ol, h.og, h.ne.symm, h.ll, h.gl⟩
theorem TQ.set1 (h : TQ V g1 g2 n m G L W) {i : Nat} (hi : i < n) (x : Int) :
    TQ V g1 g2 n m (G.set i x) L (W.setCell ⟨g1, i, none⟩ (.int .i64 x)) ∧ W.cell? ⟨g1, i, none⟩ = some (.int .i64 (atI G i)) ∧ W.frozen? ⟨g1, i, none⟩ = false := by
  obtain ⟨h1, h2, h3⟩ := h.swap.set2 hi x
  exact ⟨h1.swap, h2, h3⟩
theorem TQ.at1 (h : TQ V g1 g2 n m G L W) {i : Nat} (hi : i < n) : W.cell? ⟨g1, i, none⟩ = some (.int .i64 (atI G i)) := (h.set1 hi 0).2.1
theorem TQ.at2 (h : TQ V g1 g2 n m G L W) {i : Nat} (hi : i < m) : W.cell? ⟨g2, i, none⟩ = some (.int .i64 (atI L i)) := (h.set2 hi 0).2.1
end
theorem atS_lo (xs : List Sp) (i : Nat) (s : Sp) (h : xs[i]? = some s) : atS xs i = s := by unfold atS; rw [h]; rfl
theorem useW_at {cs : List Ca} {fs : List Int} {dry cyc a b : Int} {us : List Us} {st : List Sp × List Sp} {k : Nat} {u : Us} (h : us[k]? = some u) : useW cs fs dry cyc a b us st k = (putS st.1 u.field.toNat (pathW cs (dryL cs fs dry cyc us k) (pathK cs fs u.field) st.2 ⟨a * (u.to - u.frm), b * (u.to - u.frm)⟩).2, (pathW cs (dryL cs fs dry cyc us k) (pathK cs fs u.field) st.2 ⟨a * (u.to - u.frm), b * (u.to - u.frm)⟩).1) := by
  unfold useW
  rw [h]
theorem parched_dry {cs : List Ca} {fs : List Int} {dry days nf : Int} {us : List Us} (hok : netOk cs fs dry days = true) (huo : usesOk nf days us = true) {a : Nat} {ua : Us} (ha : us[a]? = some ua) {c : Int} (hc : c ∈ pathK cs fs ua.field) :
    parTo cs fs dry (days * 1440) us a ua c us.length = decide (c ∈ dryL cs fs dry (days * 1440) us a) := by
  rw [← par_list hok huo ha, Bool.eq_iff_iff, decide_eq_true_eq, List.mem_filter]
  exact ⟨fun h => ⟨hc, h⟩, fun h => h.2⟩
/-- What goes through, as Go reckons it. -/
theorem next_raw {x f e : Int} (hx : amt x) (hf : amt f) (h0 : 0 ≤ e) (h1 : e ≤ 1000) : amt (x - min x f) ∧ 0 ≤ (x - min x f) * (1000 - e) ∧ (x - min x f) * (1000 - e) ≤ 1000000000000000 ∧ (x - min x f) * (1000 - e) / 1000 = downF x f (1000 - e) := by
  obtain ⟨x0, x1⟩ := hx
  obtain ⟨f0, f1⟩ := hf
  have h : x - min x f = max 0 (x - f) := by omega
  rw [h]
  have hb := mul_bd (x := max 0 (x - f)) (t := 1000 - e) (by omega) (by omega) (by omega) (by omega)
  exact ⟨⟨by omega, by omega⟩, hb.1, hb.2, rfl⟩
theorem next_raw0 {x e : Int} (hx : amt x) (h0 : 0 ≤ e) (h1 : e ≤ 1000) : amt x ∧ 0 ≤ x * (1000 - e) ∧ x * (1000 - e) ≤ 1000000000000000 ∧ x * (1000 - e) / 1000 = downF x 0 (1000 - e) := by
  have h := next_raw (f := 0) hx ⟨by omega, by omega⟩ h0 h1
  rw [show x - min x 0 = x by have := hx.1; omega] at h
  exact h
theorem flow_in {a b m v : Int} (hm : 0 ≤ m) (hv : inC ⟨a, b⟩ v) : inC ⟨a * m, b * m⟩ (v * m) := ⟨Int.mul_le_mul_of_nonneg_right hv.1 hm, Int.mul_le_mul_of_nonneg_right hv.2 hm⟩
end Go.Proofs.Ythlnbgjlkliopaa
