/- A table of one's own: rows that lie apart from one another; lists of 16-bit numbers. No walk. -/
import Derived.Test.YtmbhnjpaieimbaaOpenG
import Derived.Test.YtmbhnjpaieimbaaPBE
import Derived.Test.YtmbhnjpaieimbaaPC4
set_option linter.unusedVariables false
set_option linter.unusedSimpArgs false
namespace Go.Proofs.Ytmbhnjpaieimbaa
open Go.RowKit Go.Shelf Go.WideShapes Go.ChangeShapes Go.ChangeAt
def u16cell (n : Nat) : List Value := [.int .u16 (n : Int)]
theorem u16cell_len (n : Nat) : (u16cell n).length = 1 := rfl
theorem Rd.u16 {w : World} {B : Nat} {A : Option Addr} {xs : List Nat} (h : Rd w B u16cell A xs) {i : Nat} (hi : i < xs.length) :
    ∃ b off n, A = some ⟨b, off, none⟩ ∧ b < B ∧ xs[i]? = some n ∧ w.cell? ⟨b, off + i, none⟩ = some (.int .u16 (n : Int)) := by
  obtain ⟨b, off, e, hB, hc⟩ := h (by omega)
  have hx : xs[i]? = some xs[i] := List.getElem?_eq_getElem hi
  have := flat_get u16cell_len hx (j := 0) (by omega)
  simp only [Nat.mul_one, Nat.add_zero] at this
  exact ⟨b, off, _, e, hB, hx, hc _ _ this⟩
theorem cells_u16 : Try.prog.cellsOf 85 = 1 := by kernel_rfl
theorem shape_u16 : Shape 85 u16cell (fun n => n ≤ 65535) := fun H enc w base spare held fuel cs x h => by
  obtain ⟨n, rfl, _, hw⟩ := DataW.trod_int Try.underlying85 h
  have hb := bounds_u16 hw
  exact ⟨n.toNat, by unfold u16cell; rw [Int.toNat_of_nonneg hb.1], by omega⟩
theorem ofInt_u16 (a : Nat) (ha : a < 65536) : (BitVec.ofInt 16 (a : Int)).toNat = a := by
  rw [BitVec.ofInt_natCast, BitVec.toNat_ofNat]; exact Nat.mod_eq_of_lt (by omega)
theorem u16_and15 (a : Nat) (ha : a < 65536) : bits .and .u16 (a : Int) 15 = ((a % 16 : Nat) : Int) := by
  show IntKind.u16.wrap ((BitVec.ofInt 16 (a : Int) &&& BitVec.ofInt 16 ((15 : Nat) : Int)).toNat : Int) = _
  rw [BitVec.toNat_and, ofInt_u16 a ha, ofInt_u16 15 (by omega), show (15 : Nat) = 2 ^ 4 - 1 from rfl, Nat.and_two_pow_sub_one_eq_mod]
  have : a % 2 ^ 4 < 16 := Nat.mod_lt _ (by omega)
  show IntKind.u16.wrap ((a % 16 : Nat) : Int) = _
  simp [IntKind.wrap, IntKind.signed, IntKind.bits]
  omega
theorem u16_idx (x r : Nat) (hx : x ≤ 65535) (hr : 0 < r) : ∃ i : Nat, (wrap64 (bits .and .u16 (x : Int) 15)).tmod (r : Int) = (i : Int) ∧ i < r := by
  refine ⟨x % 16 % r, ?_, Nat.mod_lt _ hr⟩
  have h1 : x % 16 < 16 := Nat.mod_lt _ (by decide)
  rw [u16_and15 x (by omega), Go.IntWalk.wrap64_in _ (by omega), Int.tmod_eq_emod_of_nonneg (Int.natCast_nonneg _)]
  exact (Int.natCast_emod _ _).symm
theorem u16_idxd (x d r : Nat) (hx : x ≤ 65535) (hr : 0 < r) : ∃ i : Nat, (wrap64 (bits .and .u16 ((x : Int) / (d : Int)) 15)).tmod (r : Int) = (i : Int) ∧ i < r := by
  rw [← Int.natCast_ediv]
  exact u16_idx _ _ (Nat.le_trans (Nat.div_le_self _ _) hx) hr
theorem u16_top (x : Nat) (hx : x ≤ 65535) : ∃ n : Int, 1 + (x : Int) / 4096 = n ∧ 1 ≤ n ∧ n ≤ 16 := ⟨_, rfl, by omega, by omega⟩
/-- A table of one's own. -/
structure Grid (W : World) (lo : Nat) (ss : List Sl) (xss : List (List Int)) : Prop where
  len : ss.length = xss.length
  row : ∀ (i : Nat) (s : Sl) (xs : List Int), ss[i]? = some s → xss[i]? = some xs → s.n = xs.length ∧ Own W lo 3 1 icell (.slice s.a s.n s.c) xs
  far : ∀ (i j : Nat) (s t : Sl) (g : Nat), i ≠ j → ss[i]? = some s → ss[j]? = some t → s.a.map Addr.block = some g → ¬ t.a.map Addr.block = some g
theorem sl_block {A : Option Addr} {n c g : Nat} : (Value.slice A n c).ownBlock = some g ↔ A.map Addr.block = some g := by cases A <;> exact Iff.rfl
theorem Grid.nil (W : World) (lo : Nat) : Grid W lo [] [] := ⟨rfl, by simp, by simp⟩
theorem Grid.blk {W : World} {lo : Nat} {ss : List Sl} {xss : List (List Int)} (h : Grid W lo ss xss) {i : Nat} {s : Sl} {g : Nat} (hs : ss[i]? = some s) (hg : s.a.map Addr.block = some g) : lo ≤ g ∧ g < W.heap.size := by
  have hi : i < xss.length := by rw [← h.len]; exact (List.getElem?_eq_some_iff.1 hs).1
  exact (h.row i s _ hs (List.getElem?_eq_getElem hi)).2.blockG (sl_block.2 hg)
theorem Grid.keptK {W W' : World} {lo : Nat} {R : Nat → Prop} {ss : List Sl} {xss : List (List Int)} (h : Grid W lo ss xss) (hk : Kept R W W') (hR : ∀ s ∈ ss, ∀ g, s.a.map Addr.block = some g → lo ≤ g → g < W.heap.size → R g) : Grid W' lo ss xss :=
  ⟨h.len, fun i s xs h1 h2 => ⟨(h.row i s xs h1 h2).1, (h.row i s xs h1 h2).2.keptG hk fun g hg => by
    have hb := (h.row i s xs h1 h2).2.blockG hg
    exact hR s (List.mem_of_getElem? h1) g (sl_block.1 hg) hb.1 hb.2⟩, h.far⟩
theorem Grid.bel {W W' : World} {lo : Nat} {ss : List Sl} {xss : List (List Int)} (h : Grid W lo ss xss) (hb : Below W.heap.size W W') : Grid W' lo ss xss := h.keptK (Kept.all (fun _ => True) hb) (fun _ _ _ _ _ _ => trivial)
theorem Grid.snoc {W : World} {lo : Nat} {ss : List Sl} {xss : List (List Int)} {s : Sl} {xs : List Int} (h : Grid W lo ss xss) (hn : s.n = xs.length) (ho : Own W lo 3 1 icell (.slice s.a s.n s.c) xs) (hf : ∀ t ∈ ss, ∀ g, t.a.map Addr.block = some g → ¬ s.a.map Addr.block = some g) : Grid W lo (ss ++ [s]) (xss ++ [xs]) := by
  have hl := h.len
  have key : ∀ (i : Nat) (t : Sl), (ss ++ [s])[i]? = some t → (i < ss.length ∧ ss[i]? = some t) ∨ (i = ss.length ∧ t = s) := fun i t hi => by
    by_cases e : i < ss.length
    · rw [List.getElem?_append_left e] at hi; exact .inl ⟨e, hi⟩
    · rw [List.getElem?_append_right (by omega)] at hi
      have : i - ss.length = 0 := by
        have := (List.getElem?_eq_some_iff.1 hi).1
        simp at this; omega
      rw [this] at hi
      simp at hi
      exact .inr ⟨by omega, hi.symm⟩
  refine ⟨by simp [hl], fun i t ys h1 h2 => ?_, fun i j t u g hij h1 h2 hg hg' => ?_⟩
  · rcases key i t h1 with ⟨e, h3⟩ | ⟨e, rfl⟩
    · rw [List.getElem?_append_left (by omega)] at h2
      exact h.row i t ys h3 h2
    · rw [e, hl, List.getElem?_append_right (Nat.le_refl _), Nat.sub_self] at h2
      simp at h2
      subst h2
      exact ⟨hn, ho⟩
  · rcases key i t h1 with ⟨e, h3⟩ | ⟨e, rfl⟩ <;> rcases key j u h2 with ⟨e', h4⟩ | ⟨e', rfl⟩
    · exact h.far i j t u g hij h3 h4 hg hg'
    · exact hf t (List.mem_of_getElem? h3) g hg hg'
    · exact hf u (List.mem_of_getElem? h4) g hg' hg
    · omega
theorem Grid.rows {W : World} {lo : Nat} {ss : List Sl} {xss : List (List Int)} (h : Grid W lo ss xss) : Rows W W.heap.size icell ss xss :=
  ⟨h.len, fun i s xs h1 h2 => ⟨(h.row i s xs h1 h2).1, by
    obtain ⟨A, c, e, r⟩ := (h.row i s xs h1 h2).2.rdn s.n (h.row i s xs h1 h2).1.symm
    injection e with e1 _ _
    rw [e1]; exact r⟩⟩
/-- A number of a row is written. -/
theorem Grid.put {W : World} {lo : Nat} {ss : List Sl} {xss : List (List Int)} {i k g n c : Nat} {xs : List Int} (h : Grid W lo ss xss) (hs : ss[i]? = some ⟨some ⟨g, 0, none⟩, n, c⟩) (hx : xss[i]? = some xs) (hk : k < xs.length) (y : Int) :
    Grid (W.setCell ⟨g, k, none⟩ (.int .i64 y)) lo ss (xss.set i (xs.set k y)) ∧ W.cell? ⟨g, k, none⟩ = some (.int .i64 (xs.getD k 0)) ∧ W.frozen? ⟨g, k, none⟩ = false ∧ lo ≤ g ∧ g < W.heap.size := by
  have h0 := h.row i _ xs hs hx
  obtain ⟨p1, p2, p3⟩ := h0.2.put1 hk h0.1 y
  have hb := h.blk hs (g := g) rfl
  refine ⟨⟨by rw [List.length_set]; exact h.len, fun j t ys h1 h2 => ?_, h.far⟩, p2, p3, hb.1, hb.2⟩
  by_cases e : j = i
  · subst e
    rw [List.getElem?_set_self (by rw [← h.len]; exact (List.getElem?_eq_some_iff.1 hs).1)] at h2
    obtain rfl := Option.some.inj h2
    obtain rfl : _ = t := Option.some.inj (hs.symm.trans h1)
    exact ⟨by rw [List.length_set]; exact h0.1, p1⟩
  · rw [List.getElem?_set_ne (fun h => e h.symm)] at h2
    refine ⟨(h.row j t ys h1 h2).1, (h.row j t ys h1 h2).2.keptG (Kept.setCell W ⟨g, k, none⟩ _) fun g' hg' => ?_⟩
    intro e2
    exact h.far j i t _ g' e h1 hs (sl_block.1 hg') (by rw [show g' = g from e2]; rfl)
/-- The rows do not lie where their table lies. -/
def ApartG (pv : Value) (ss : List Sl) : Prop := ∀ gv, pv.ownBlock = some gv → ∀ s ∈ ss, ¬ s.a.map Addr.block = some gv
/-- A table of r rows of m numbers within bounds. -/
structure Tbl (qs : List (List Int)) (r m : Nat) (d : Int) : Prop where
  len : qs.length = r
  row : ∀ (j : Nat) (xs : List Int), qs[j]? = some xs → xs.length = m ∧ ∀ x ∈ xs, -d ≤ x ∧ x ≤ 23040 + d
theorem Tbl.at_ {qs : List (List Int)} {r m : Nat} {d : Int} (h : Tbl qs r m d) {j k : Nat} (hj : j < r) (hk : k < m) : ∃ xs, qs[j]? = some xs ∧ xs.length = m ∧ -d ≤ xs.getD k 0 ∧ xs.getD k 0 ≤ 23040 + d := by
  have hj2 : j < qs.length := by rw [h.len]; exact hj
  have h1 : qs[j]? = some qs[j] := List.getElem?_eq_getElem hj2
  obtain ⟨h2, h3⟩ := h.row j _ h1
  have hk2 : k < qs[j].length := by rw [h2]; exact hk
  refine ⟨_, h1, h2, ?_⟩
  rw [List.getD_eq_getElem?_getD, List.getElem?_eq_getElem hk2]
  exact h3 _ (List.getElem_mem hk2)
theorem Tbl.put {qs : List (List Int)} {r m : Nat} {d d' : Int} (h : Tbl qs r m d) {j : Nat} {xs : List Int} (hj : qs[j]? = some xs) (k : Nat) {y : Int} (hd : d ≤ d') (h1 : -d' ≤ y) (h2 : y ≤ 23040 + d') : Tbl (qs.set j (xs.set k y)) r m d' := by
  refine ⟨by rw [List.length_set]; exact h.len, fun i zs hi => ?_⟩
  have key : (zs = xs.set k y) ∨ qs[i]? = some zs := by
    by_cases e : i = j
    · subst e
      rw [List.getElem?_set_self (List.getElem?_eq_some_iff.1 hj).1] at hi
      exact .inl (Option.some.inj hi).symm
    · rw [List.getElem?_set_ne (fun h => e h.symm)] at hi
      exact .inr hi
  rcases key with rfl | hi
  · obtain ⟨a1, a2⟩ := h.row j xs hj
    refine ⟨by rw [List.length_set]; exact a1, fun x hx => ?_⟩
    rcases List.mem_or_eq_of_mem_set hx with hx | rfl
    · have := a2 x hx; omega
    · exact ⟨h1, h2⟩
  · obtain ⟨a1, a2⟩ := h.row i zs hi
    exact ⟨a1, fun x hx => by have := a2 x hx; omega⟩
/-- Any number of a table is written. -/
theorem grid_put {W : World} {lo gq r c m : Nat} {d : Int} {ss : List Sl} {qs : List (List Int)} (HO : Own W lo 41 1 Sl.cells (.slice (some ⟨gq, 0, none⟩) r c) ss) (hsl : ss.length = r) (HG : Grid W lo ss qs) (HA : ApartG (.slice (some ⟨gq, 0, none⟩) r c) ss) (HT : Tbl qs r m d) (hlo : lo ≤ W.heap.size) {j k : Nat} (hj : j < r) (hk : k < m) :
    ∃ (g cc : Nat) (xs : List Int), qs[j]? = some xs ∧ W.cell? ⟨gq, j, none⟩ = some (.slice (some ⟨g, 0, none⟩) m cc) ∧ W.cell? ⟨g, k, none⟩ = some (.int .i64 (xs.getD k 0)) ∧ W.frozen? ⟨g, k, none⟩ = false ∧ -d ≤ xs.getD k 0 ∧ xs.getD k 0 ≤ 23040 + d ∧
      ∀ (y d' : Int), d ≤ d' → -d' ≤ y → y ≤ 23040 + d' → Own (W.setCell ⟨g, k, none⟩ (.int .i64 y)) lo 41 1 Sl.cells (.slice (some ⟨gq, 0, none⟩) r c) ss ∧ Grid (W.setCell ⟨g, k, none⟩ (.int .i64 y)) lo ss (qs.set j (xs.set k y)) ∧ Tbl (qs.set j (xs.set k y)) r m d' ∧ Below lo W (W.setCell ⟨g, k, none⟩ (.int .i64 y)) := by
  obtain ⟨xs, hx, hxl, h1, h2⟩ := HT.at_ hj hk
  obtain ⟨A', c', e, rd⟩ := HO.rdn r hsl
  injection e with e _ _
  subst e
  obtain ⟨b, off, a, n, cc, hA, _, hs, hc⟩ := rd.sl (i := j) (by rw [hsl]; exact hj)
  injection hA with hA
  injection hA with hA1 hA2 _
  subst hA1 hA2
  rw [Nat.zero_add] at hc
  have h0 := HG.row j _ xs hs hx
  obtain rfl : n = m := by rw [← hxl]; exact h0.1
  obtain ⟨g, hg⟩ := own_at' h0.2 (by show 0 < n; omega)
  have hg' : a = some ⟨g, 0, none⟩ := hg
  subst hg'
  obtain ⟨_, p2, p3, p4, p5⟩ := HG.put hs hx (by rw [hxl]; exact hk) 0
  refine ⟨g, cc, xs, hx, hc, p2, p3, h1, h2, fun y d' hd hy1 hy2 => ⟨HO.keptG (Kept.setCell W ⟨g, k, none⟩ _) fun g' hg' e2 => ?_, (HG.put hs hx (by rw [hxl]; exact hk) y).1, HT.put hx k hd hy1 hy2, (Kept.setCell W ⟨g, k, none⟩ (.int .i64 y)).below (fun b hb e2 => by have e3 : b = g := e2; omega) hlo⟩⟩
  have e3 : g' = g := e2
  exact HA g' hg' _ (List.mem_of_getElem? hs) (by rw [e3]; rfl)
/-- A copied row is appended. -/
theorem grid_app {wr wa w10 : World} {lo i m c : Nat} {qq v' : Value} {A : Option Addr} {ss : List Sl} {p : List (List Int)} {pi : List Int} (HO : Own wr lo 41 1 Sl.cells qq ss) (HG : Grid wr lo ss (p.take i)) (HA : ApartG qq ss) (hlo : lo ≤ wr.heap.size) (hpi : p[i]? = some pi) (hml : pi.length = m)
    (hb : Below wr.heap.size wr wa) (O1 : Own wa wr.heap.size 3 1 icell (.slice A m c) pi) (k10 : Kept (fun b => ¬ qq.ownBlock = some b) wa w10) (hat : v'.ownBlock = qq.ownBlock ∨ ∃ n, v'.ownBlock = some n ∧ wa.heap.size ≤ n) :
    Grid w10 lo (ss ++ [⟨A, m, c⟩]) (p.take (i + 1)) ∧ ApartG v' (ss ++ [⟨A, m, c⟩]) ∧ Below lo wa w10 := by
  have hblk : ∀ t ∈ ss, ∀ g, t.a.map Addr.block = some g → lo ≤ g ∧ g < wr.heap.size := fun t ht g hg => by
    obtain ⟨j, hj, hjt⟩ := List.getElem_of_mem ht
    exact HG.blk (i := j) (by rw [List.getElem?_eq_getElem hj, hjt]) hg
  have hq : ∀ g, qq.ownBlock = some g → lo ≤ g ∧ g < wr.heap.size := fun g hg => HO.blockG hg
  have hr : ∀ g, A.map Addr.block = some g → wr.heap.size ≤ g ∧ g < wa.heap.size := fun g hg => O1.blockG (sl_block.2 hg)
  have hsz := hb.size
  refine ⟨?_, fun gv hgv s hs hsg => ?_, k10.below (fun b hb e => by have := (hq b e).1; omega) (by omega)⟩
  · have e : p.take (i + 1) = p.take i ++ [pi] := by rw [List.take_add_one, hpi]; rfl
    rw [e]
    refine ((HG.bel hb).keptK k10 fun s hs g hg _ _ e => HA g e s hs hg).snoc hml.symm ((O1.mono hlo).keptG k10 fun g hg e => ?_) fun t ht g hg hg' => ?_
    · have := (hq g e).2; have := (hr g (sl_block.1 hg)).1; omega
    · have := (hblk t ht g hg).2; have := (hr g hg').1; omega
  · rcases List.mem_append.1 hs with hs | hs
    · rcases hat with h1 | ⟨n, h1, h2⟩
      · rw [h1] at hgv; exact HA gv hgv s hs hsg
      · rw [h1] at hgv; injection hgv with hgv; have := (hblk s hs gv hsg).2; omega
    · rw [List.mem_singleton] at hs; subst hs
      rcases hat with h1 | ⟨n, h1, h2⟩
      · rw [h1] at hgv; have := (hq gv hgv).2; have := (hr gv hsg).1; omega
      · rw [h1] at hgv; injection hgv with hgv; have := (hr gv hsg).2; omega
end Go.Proofs.Ytmbhnjpaieimbaa
