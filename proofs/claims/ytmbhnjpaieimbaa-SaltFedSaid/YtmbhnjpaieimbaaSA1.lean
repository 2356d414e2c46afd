/- Salt, plain laws: what is so lies in what is told; what a field needs is the least that is fine; more salt, more that is washed. No program in sight. -/
import Derived.Test.YtmbhnjpaieimbaaS10
import Derived.Test.YtmbhnjpaieimbaaS7
set_option linter.unusedVariables false
set_option linter.unusedSimpArgs false
namespace Go.Proofs.Ytmbhnjpaieimbaa
/-! ### The stage's theorem: a cycle -/
/-- A line with a bend: it is greatest, and least, at an end or at the bend. -/
theorem bend {m w c lo v hi : Int} (hm : 0 ≤ m) (h1 : lo ≤ v) (h2 : v ≤ hi) :
    (∃ t ∈ [lo, hi, min (max c lo) hi], v * m - max 0 (v - c) * w ≤ t * m - max 0 (t - c) * w) ∧ (∃ t ∈ [lo, hi, min (max c lo) hi], t * m - max 0 (t - c) * w ≤ v * m - max 0 (v - c) * w) := by
  have below : ∀ a b : Int, a ≤ b → b ≤ c → a * m - max 0 (a - c) * w ≤ b * m - max 0 (b - c) * w := fun a b hab hb => by
    rw [show max 0 (a - c) = 0 by omega, show max 0 (b - c) = 0 by omega]
    have := Int.mul_le_mul_of_nonneg_right hab hm
    omega
  have past : ∀ a : Int, c ≤ a → a * m - max 0 (a - c) * w = a * (m - w) + c * w := fun a ha => by
    rw [show max 0 (a - c) = a - c by omega, Int.sub_mul, Int.mul_sub]; omega
  have up : ∀ a b : Int, w ≤ m → a ≤ b → c ≤ a → a * m - max 0 (a - c) * w ≤ b * m - max 0 (b - c) * w := fun a b hw hab ha => by
    rw [past a ha, past b (by omega)]
    have := Int.mul_le_mul_of_nonneg_right hab (show 0 ≤ m - w by omega)
    omega
  have down : ∀ a b : Int, m ≤ w → a ≤ b → c ≤ a → b * m - max 0 (b - c) * w ≤ a * m - max 0 (a - c) * w := fun a b hw hab ha => by
    rw [past a ha, past b (by omega)]
    have := Int.mul_le_mul_of_nonneg_right hab (show 0 ≤ w - m by omega)
    rw [Int.mul_sub, Int.mul_sub] at this
    rw [Int.mul_sub, Int.mul_sub]
    omega
  by_cases hv : v ≤ c
  · refine ⟨⟨min (max c lo) hi, by simp, below _ _ (by omega) (by omega)⟩, ⟨lo, by simp, below _ _ h1 hv⟩⟩
  · by_cases hw : w ≤ m
    · exact ⟨⟨hi, by simp, up _ _ hw h2 (by omega)⟩, ⟨min (max c lo) hi, by simp, up _ _ hw (by omega) (by omega)⟩⟩
    · exact ⟨⟨min (max c lo) hi, by simp, down _ _ (by omega) (by omega) (by omega)⟩, ⟨hi, by simp, down _ _ (by omega) h2 (by omega)⟩⟩
theorem foldl_max_ge : ∀ (xs : List Int) (a : Int), a ≤ xs.foldl max a ∧ ∀ x ∈ xs, x ≤ xs.foldl max a
  | [], a => ⟨Int.le_refl _, by simp⟩
  | y :: xs, a => by
    have ih := foldl_max_ge xs (max a y)
    refine ⟨?_, fun x hx => ?_⟩
    · show a ≤ xs.foldl max (max a y); omega
    · show x ≤ xs.foldl max (max a y)
      rcases List.mem_cons.1 hx with rfl | h
      · omega
      · exact ih.2 x h
theorem foldl_min_le : ∀ (xs : List Int) (a : Int), xs.foldl min a ≤ a ∧ ∀ x ∈ xs, xs.foldl min a ≤ x
  | [], a => ⟨Int.le_refl _, by simp⟩
  | y :: xs, a => by
    have ih := foldl_min_le xs (min a y)
    refine ⟨?_, fun x hx => ?_⟩
    · show xs.foldl min (min a y) ≤ a; omega
    · show xs.foldl min (min a y) ≤ x
      rcases List.mem_cons.1 hx with rfl | h
      · omega
      · exact ih.2 x h
theorem maxF_ge {xs : List Int} {x : Int} (h : x ∈ xs) : x ≤ maxF xs := by
  cases xs with
  | nil => simp at h
  | cons y ys =>
    rcases List.mem_cons.1 h with rfl | h
    · exact (foldl_max_ge ys x).1
    · exact (foldl_max_ge ys y).2 x h
theorem minF_le {xs : List Int} {x : Int} (h : x ∈ xs) : minF xs ≤ x := by
  cases xs with
  | nil => simp at h
  | cons y ys =>
    rcases List.mem_cons.1 h with rfl | h
    · exact (foldl_min_le ys x).1
    · exact (foldl_min_le ys y).2 x h
/-- THE CYCLE: what is so lies in what is told. -/
theorem cycle_true {s : So} {wa : Sp} {now v m r x : Int} (hm : 0 ≤ s.mineral.lo) (hn : 1000 * s.salt.lo ≤ now ∧ now ≤ 1000 * s.salt.hi) (hv0 : 0 ≤ wa.lo) (hv : wa.lo ≤ v ∧ v ≤ wa.hi)
    (hmi : s.mineral.lo ≤ m ∧ m ≤ s.mineral.hi) (hr : s.rise.lo ≤ r ∧ r ≤ s.rise.hi) (hx : s.wash.lo ≤ x ∧ x ≤ s.wash.hi) :
    1000 * (cycleF s wa).lo ≤ max 0 (now + v * m + 1000 * r - x * max 0 (v - s.crop)) ∧ max 0 (now + v * m + 1000 * r - x * max 0 (v - s.crop)) ≤ 1000 * (cycleF s wa).hi := by
  have hd : 0 ≤ max 0 (v - s.crop) := by omega
  have m1 := Int.mul_le_mul_of_nonneg_left hmi.1 (show 0 ≤ v by omega)
  have m2 := Int.mul_le_mul_of_nonneg_left hmi.2 (show 0 ≤ v by omega)
  have x1 := Int.mul_le_mul_of_nonneg_right hx.1 hd
  have x2 := Int.mul_le_mul_of_nonneg_right hx.2 hd
  obtain ⟨_, t, ht, hb⟩ := bend (w := s.wash.hi) (c := s.crop) hm hv.1 hv.2
  obtain ⟨⟨u, hu, hg⟩, _⟩ := bend (w := s.wash.lo) (c := s.crop) (show 0 ≤ s.mineral.hi by omega) hv.1 hv.2
  have lo1 : minF ((turnsF s wa).map (saltedF false s)) ≤ saltedF false s t := minF_le (List.mem_map_of_mem ht)
  have hi1 : saltedF true s u ≤ maxF ((turnsF s wa).map (saltedF true s)) := maxF_ge (List.mem_map_of_mem hu)
  have c1 := Int.mul_comm s.wash.hi (max 0 (v - s.crop))
  have c2 := Int.mul_comm s.wash.lo (max 0 (v - s.crop))
  simp only [saltedF, Sp.at, Bool.not_true, Bool.not_false, Bool.false_eq_true, if_false, if_true] at lo1 hi1
  simp only [cycleF, endC, outF, roundF, Bool.false_eq_true, if_false, if_true]
  generalize minF ((turnsF s wa).map (saltedF false s)) = L at lo1 ⊢
  generalize maxF ((turnsF s wa).map (saltedF true s)) = H at hi1 ⊢
  generalize x * max 0 (v - s.crop) = p1 at *
  generalize s.wash.hi * max 0 (v - s.crop) = p2 at *
  generalize max 0 (v - s.crop) * s.wash.hi = p3 at *
  generalize s.wash.lo * max 0 (v - s.crop) = p4 at *
  generalize max 0 (v - s.crop) * s.wash.lo = p5 at *
  generalize max 0 (t - s.crop) * s.wash.hi = p6 at *
  generalize max 0 (u - s.crop) * s.wash.lo = p7 at *
  generalize v * m = p8 at *
  generalize v * s.mineral.lo = p9 at *
  generalize v * s.mineral.hi = p10 at *
  generalize t * s.mineral.lo = p11 at *
  generalize u * s.mineral.hi = p12 at *
  omega
/-! ### What a field needs -/
theorem need_spec {s : So} (h : soOk s = true) : (∃ n, needF s = (n, 0) ∧ s.crop ≤ n ∧ n ≤ 1000000000 ∧ fineF s n = true ∧ ∀ x, s.crop ≤ x → x < n → fineF s x = false) ∨ (needF s = (0, 6) ∧ ∀ x, s.crop ≤ x → x ≤ 1000000000 → fineF s x = false) := by
  have hf := So.fit_of h
  unfold needF
  rw [if_pos h]
  unfold needR
  by_cases h1 : fineF s s.crop = true
  · rw [if_pos h1]
    exact .inl ⟨s.crop, rfl, Int.le_refl _, hf.cr.2, h1, fun x a b => by omega⟩
  · rw [if_neg h1]
    have h1' : fineF s s.crop = false := by simpa using h1
    by_cases h2 : s.wash.lo ≤ s.mineral.hi
    · rw [if_pos h2]
      refine .inr ⟨rfl, fun x a _ => ?_⟩
      have e := salted_past a
      simp only [fineF, decide_eq_false_iff_not] at h1' ⊢
      have := Int.mul_nonneg (show 0 ≤ x - s.crop by omega) (show 0 ≤ s.mineral.hi - s.wash.lo by omega)
      rw [Int.mul_sub] at this
      rw [Int.mul_sub] at e
      omega
    · rw [if_neg h2]
      obtain ⟨n, hn⟩ : ∃ n, n = s.crop + (saltedF true s s.crop - 1000 * s.limit + (s.wash.lo - s.mineral.hi) - 1) / (s.wash.lo - s.mineral.hi) := ⟨_, rfl⟩
      have key := fun x (hx : s.crop ≤ x) => fine_iff hx (show s.mineral.hi < s.wash.lo by omega) h1'
      have hcn : s.crop ≤ n := by
        by_cases hc : s.crop ≤ n
        · exact hc
        · have := (key s.crop (Int.le_refl _)).2 (by rw [← hn]; omega)
          rw [h1'] at this; simp at this
      rw [← hn] at key
      dsimp only
      rw [← hn]
      by_cases h3 : n ≤ 1000000000
      · rw [if_pos h3]
        refine .inl ⟨n, rfl, hcn, h3, (key n hcn).2 (Int.le_refl _), fun x a b => ?_⟩
        cases hx : fineF s x with
        | false => rfl
        | true => have := (key x a).1 hx; omega
      · rw [if_neg h3]
        refine .inr ⟨rfl, fun x a b => ?_⟩
        cases hx : fineF s x with
        | false => rfl
        | true => have := (key x a).1 hx; omega
/-- With one number of litres the salt's greater end is what fine asks. -/
theorem cycle_one {s : So} {v : Int} (hl : 0 ≤ s.limit) : (cycleF s ⟨v, v⟩).hi ≤ s.limit ↔ fineF s v = true := by
  have e : min (max s.crop v) v = v := by omega
  simp only [cycleF, endC, turnsF, e, outF, maxF, List.map_cons, List.map_nil, List.foldl_cons, List.foldl_nil, roundF, if_true, fineF, decide_eq_true_eq, Int.max_self]
  omega
/-! ### More salt -/
theorem foldl_mono {f : Int → Int → Int} (hf : ∀ a b c d, a ≤ c → b ≤ d → f a b ≤ f c d) {p q : Int → Int} : ∀ (xs : List Int) (a c : Int), a ≤ c → (∀ x ∈ xs, p x ≤ q x) → (xs.map p).foldl f a ≤ (xs.map q).foldl f c
  | [], a, c, h, _ => h
  | x :: xs, a, c, h, hx => foldl_mono hf xs _ _ (hf _ _ _ _ h (hx x (by simp))) (fun y hy => hx y (by simp [hy]))
theorem outF_mono {h : Bool} {p q : Int → Int} {xs : List Int} (hx : ∀ x ∈ xs, p x ≤ q x) : outF h (xs.map p) ≤ outF h (xs.map q) := by
  cases xs with
  | nil => exact Int.le_refl _
  | cons y ys =>
    have h1 := hx y (by simp)
    have h2 : ∀ x ∈ ys, p x ≤ q x := fun x hxx => hx x (by simp [hxx])
    cases h
    · exact foldl_mono (f := min) (fun a b c d _ _ => by omega) ys _ _ h1 h2
    · exact foldl_mono (f := max) (fun a b c d _ _ => by omega) ys _ _ h1 h2
theorem endC_mono {h : Bool} {s t : So} {w : Sp} (hc : s.crop = t.crop) (h0 : 0 ≤ w.lo) (h1 : w.lo ≤ w.hi) (hs : ∀ v, 0 ≤ v → saltedF h s v ≤ saltedF h t v) : endC h s w ≤ endC h t w := by
  have e : turnsF s w = turnsF t w := by unfold turnsF; rw [hc]
  unfold endC
  rw [e]
  have := outF_mono (h := h) (xs := turnsF t w) (p := saltedF h s) (q := saltedF h t) (fun x hx => hs x (by simp [turnsF] at hx; omega))
  cases h <;> simp only [roundF, Bool.false_eq_true, if_false, if_true] <;> omega
/-- what one soil is less than another one: at this end. -/
structure Less (h : Bool) (s t : So) : Prop where
  cr : s.crop = t.crop
  ri : s.rise.at h ≤ t.rise.at h
  mi : s.mineral.at h ≤ t.mineral.at h
  wa : t.wash.at (!h) ≤ s.wash.at (!h)
theorem Less.salted {h : Bool} {s t : So} (l : Less h s t) (hs : s.salt.at h ≤ t.salt.at h) {v : Int} (hv : 0 ≤ v) : saltedF h s v ≤ saltedF h t v := by
  have p1 := Int.mul_le_mul_of_nonneg_left l.mi hv
  have p2 := Int.mul_le_mul_of_nonneg_left l.wa (show 0 ≤ max 0 (v - t.crop) by omega)
  have p3 := l.ri
  unfold saltedF
  rw [l.cr]
  omega
theorem salt_mono {h : Bool} {s t : So} {w : Sp} (l : Less h s t) (hs : s.salt.at h ≤ t.salt.at h) (h0 : 0 ≤ w.lo) (h1 : w.lo ≤ w.hi) : ∀ k, (saltN s w k).at h ≤ (saltN t w k).at h
  | 0 => hs
  | k + 1 => by
    have ih := salt_mono l hs h0 h1 k
    have l' : Less h (s.set (saltN s w k)) (t.set (saltN t w k)) := ⟨l.cr, l.ri, l.mi, l.wa⟩
    have := endC_mono (h := h) (w := w) l'.cr h0 h1 (fun v hv => l'.salted ih hv)
    cases h <;> exact this
theorem fine_mono {s t : So} (l : Less true s t) (hs : s.salt.hi ≤ t.salt.hi) (hl : s.limit = t.limit) {v : Int} (hv : 0 ≤ v) (hf : fineF t v = true) : fineF s v = true := by
  have := l.salted hs hv
  simp only [fineF, decide_eq_true_eq] at hf ⊢
  omega
theorem need_mono {s t : So} (l : Less true s t) (hs : s.salt.hi ≤ t.salt.hi) (hl : s.limit = t.limit) (h1 : soOk s = true) (h2 : soOk t = true) (h : (needF t).2 = 0) : (needF s).2 = 0 ∧ (needF s).1 ≤ (needF t).1 := by
  have hc := l.cr
  have c0 := (So.fit_of h1).cr
  rcases need_spec h2 with ⟨n, e, a, b, f, g⟩ | ⟨e, g⟩
  · have hf := fine_mono l hs hl (show 0 ≤ n by omega) f
    rcases need_spec h1 with ⟨m, e', a', b', f', g'⟩ | ⟨e', g'⟩
    · rw [e, e']
      refine ⟨rfl, ?_⟩
      show m ≤ n
      by_cases hmn : m ≤ n
      · exact hmn
      · have := g' n (by omega) (by omega)
        rw [hf] at this; simp at this
    · have := g' n (by omega) b
      rw [hf] at this; simp at this
  · rw [e] at h; simp at h
end Go.Proofs.Ytmbhnjpaieimbaa
