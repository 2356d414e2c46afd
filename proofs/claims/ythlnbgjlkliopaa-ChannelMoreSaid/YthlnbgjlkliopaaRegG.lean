/- Several operations of a statement that draws its order, each of which brings a value and a world of its own (calls, boxes that are made): what each brings is proved once, whatever order is drawn. No program is named here. -/
import Derived.Test.YthlnbgjlkliopaaRegIn
import Derived.Deep.RegionHeld
set_option linter.unusedVariables false
set_option linter.unusedSimpArgs false
namespace Go.Proofs.Ythlnbgjlkliopaa
open Go.RowKit Go.Shelf
def updN (u : Nat → Value) (d : Nat) (v : Value) : Nat → Value := fun k => if k = d then v else u k
def updB (b : Nat → Nat × Nat) (d : Nat) (x : Nat × Nat) : Nat → Nat × Nat := fun k => if k = d then x else b k
section
variable {P : Program} {md : Region.Mode} {ops : Array Oper} {Q : Exit → Act → World → Prop} {S : World → Prop} {R : Nat → Value → Nat × Nat → World → Prop} {G : List Nat} {L0 : Array Bool} {Fr : (Nat → Value) → Act}
/-- The statement's own edges let it be so: what G's operations wait for is done, or is of G and stands ahead; all others wait for all of G. -/
def bringOk (md : Region.Mode) (ops : Array Oper) (L0 : Array Bool) (G : List Nat) : Bool :=
  (G.all fun i => match ops[i]? with
    | none => false
    | some o => !L0.getD i true && o.after.all fun e => !Region.binds md e || L0.getD e.on false || (G.contains e.on && decide (e.on < i))) &&
  ((List.range ops.size).all fun j => G.contains j || L0.getD j true || match ops[j]? with
    | none => true
    | some o => (o.after.any fun e => Region.binds md e && (!G.contains e.on && !L0.getD e.on true)) || G.all fun g => (o.after.any fun e => Region.binds md e && e.on == g) || (G.any fun g' => decide (g < g') && match ops[g']? with
        | none => false
        | some o' => o'.after.any fun e => Region.binds md e && e.on == g))
structure Brought (S : World → Prop) (R : Nat → Value → Nat × Nat → World → Prop) (G rem : List Nat) (u : Nat → Value) (b : Nat → Nat × Nat) (w : World) : Prop where
  s : S w
  r : ∀ i ∈ G, i ∉ rem → R i (u i) (b i) w
  lt : ∀ i ∈ G, i ∉ rem → (b i).2 ≤ w.heap.size
  ne : ∀ i ∈ G, ∀ j ∈ G, i ∉ rem → j ∉ rem → i ≠ j → (b i).2 ≤ (b j).1 ∨ (b j).2 ≤ (b i).1
def ListedAs (L0 L : Array Bool) (G rem : List Nat) : Prop := L.size = L0.size ∧ ∀ k d, k < L0.size → L.getD k d = (L0.getD k true || (G.contains k && !rem.contains k))
theorem ListedAs.set {L : Array Bool} {rem : List Nat} {i : Nat} (h : ListedAs L0 L G rem) (hi : i ∈ G) (hn : rem.Nodup) : ListedAs L0 (L.setIfInBounds i true) G (rem.erase i) := by
  refine ⟨by simp [h.1], fun k d hk => ?_⟩
  by_cases e : k = i
  · subst e
    have h1 : (L.setIfInBounds k true).getD k d = true := by simp [Array.getD, h.1, hk]
    rw [h1]
    have h2 : ¬ k ∈ rem.erase k := fun hm => by simp [List.Nodup.mem_erase_iff hn] at hm
    simp [hi, h2]
  · have h1 : (L.setIfInBounds i true).getD k d = L.getD k d := by
      simp only [Array.getD_eq_getD_getElem?, Array.getElem?_setIfInBounds]
      rw [if_neg (fun e' => e e'.symm)]
    rw [h1, h.2 k d hk]
    have h2 : (rem.erase i).contains k = rem.contains k := by
      rw [Bool.eq_iff_iff]
      simp [List.Nodup.mem_erase_iff hn, e]
    rw [h2]
theorem wpAnyH_bring {fuel : Nat} (hok : bringOk md ops L0 G = true)
    (hFr : ∀ i ∈ G, ∀ o, ops[i]? = some o → ∀ u v, (Fr u).put o.dst v = Fr (updN u i v))
    (hst : ∀ i v b w w', R i v b w → Below w.heap.size w w' → R i v b w')
    (hop : ∀ i ∈ G, ∀ o, ops[i]? = some o → ∀ (u : Nat → Value) (w : World) (K : Act → World → Prop), S w →
      (∀ v w', R i v (w.heap.size, w'.heap.size) w' → Below w.heap.size w w' → S w' → K ((Fr u).put o.dst v) w') →
      if Region.wanted o (yielded ops (Fr u).tmps) = true then o.wp P (Fr u) w K Q else K ((Fr u).put o.dst undef) w)
    (hend : ∀ u b w L, ListedAs L0 L G [] → Brought S R G [] u b w → wpAnyH P md ops Q S fuel L (Fr u) w) :
    ∀ (n : Nat) (rem : List Nat) (L : Array Bool) (u : Nat → Value) (b : Nat → Nat × Nat) (w : World), rem.length = n → rem.Nodup → (∀ i ∈ rem, i ∈ G) → (∀ i ∈ G, i ∉ rem → ∀ o, ops[i]? = some o → ∀ e ∈ o.after, Region.binds md e = true → e.on ∈ G → e.on ∉ rem) → ListedAs L0 L G rem → Brought S R G rem u b w → wpAnyH P md ops Q S (fuel + n) L (Fr u) w := by
  simp only [bringOk, Bool.and_eq_true, List.all_eq_true, List.mem_range] at hok
  obtain ⟨hok1, hok2⟩ := hok
  intro n
  induction n with
  | zero =>
    intro rem L u b w hl _ _ _ hL hB
    obtain rfl : rem = [] := List.length_eq_zero_iff.1 hl
    exact hend u b w L hL hB
  | succ n ih =>
    intro rem L u b w hl hnd hsub hcl hL hB
    have hsz : ∀ i ∈ G, i < L0.size := fun i hi => by
      have h := hok1 i hi
      split at h
      · cases h
      · simp only [Bool.and_eq_true] at h
        have h1 := h.1
        refine Decidable.byContradiction fun hc => ?_
        simp [Array.getD, hc] at h1
    have hun : ∀ i ∈ G, L0.getD i true = false := fun i hi => by
      have h := hok1 i hi
      split at h
      · cases h
      · simp only [Bool.and_eq_true] at h
        simpa using h.1
    -- the least of what is left may come up
    have hready : Region.ready md ops L ≠ [] := by
      intro h0
      have hne : rem ≠ [] := fun e => by rw [e] at hl; simp at hl
      obtain ⟨m, hm, hmin⟩ : ∃ m ∈ rem, ∀ k ∈ rem, m ≤ k := by
        obtain ⟨m, hm⟩ : ∃ m, rem.min? = some m := by
          cases hr : rem.min? with
          | none => exact absurd (List.min?_eq_none_iff.1 hr) hne
          | some m => exact ⟨m, rfl⟩
        exact ⟨m, (List.min?_eq_some_iff.1 hm).1, (List.min?_eq_some_iff.1 hm).2⟩
      have hmG := hsub m hm
      have h := hok1 m hmG
      cases ho : ops[m]? with
      | none => rw [ho] at h; cases h
      | some o =>
        rw [ho] at h
        simp only [Bool.and_eq_true, Array.all_eq_true_iff_forall_mem] at h
        have hmem : m ∈ Region.ready md ops L := mem_ready.2 ⟨by
          rw [hL.2 m true (hsz m hmG), hun m hmG]; simp [hm], o, ho, fun e he hb => by
          have h2 := h.2 e he
          simp only [hb, Bool.not_true, Bool.false_or, Bool.or_eq_true, Bool.and_eq_true, decide_eq_true_eq] at h2
          rcases h2 with h2 | ⟨h2, h3⟩
          · have hlt : e.on < L0.size := by
              refine Decidable.byContradiction fun hc => ?_
              simp [Array.getD, hc] at h2
            rw [hL.2 e.on false hlt]
            have : L0.getD e.on true = true := by
              simp only [Array.getD, hlt, dite_true] at h2 ⊢
              exact h2
            rw [this]; rfl
          · have h4 : e.on ∈ G := by simpa using h2
            have h5 : e.on ∉ rem := fun hc => by have := hmin _ hc; omega
            rw [hL.2 e.on false (hsz _ h4)]
            simp [h4, h5]⟩
        rw [h0] at hmem
        cases hmem
    rw [← Nat.add_assoc]
    refine ⟨fun h0 => absurd h0 hready, fun i hi => ?_⟩
    obtain ⟨hiL, o, ho, hafter⟩ := mem_ready.1 hi
    have hilt : i < L0.size := by
      rw [← hL.1]
      refine Decidable.byContradiction fun hc => ?_
      simp [Array.getD, hc] at hiL
    rw [hL.2 i true hilt] at hiL
    simp only [Bool.or_eq_false_iff] at hiL
    have hirem : i ∈ rem := by
      by_cases hiG : i ∈ G
      · have := hiL.2
        simpa [hiG] using this
      · exfalso
        have hio : i < ops.size := (Array.getElem?_eq_some_iff.1 ho).1
        have h := hok2 i hio
        rw [ho] at h
        simp only [Bool.or_eq_true, hiL.1, Bool.false_eq_true, or_false] at h
        rcases h with h | h | h
        · exact hiG (by simpa using h)
        · rw [Array.any_eq_true] at h
          obtain ⟨y, hy, hbe⟩ := h
          obtain ⟨e, hee⟩ : ∃ e, e = o.after[y] := ⟨_, rfl⟩
          rw [← hee] at hbe
          have he : e ∈ o.after := by rw [hee]; exact Array.getElem_mem _
          simp only [Bool.and_eq_true, Bool.not_eq_true'] at hbe
          have hlt : e.on < L0.size := by
            refine Decidable.byContradiction fun hc => ?_
            have := hbe.2.2
            simp [Array.getD, hc] at this
          have h3 := hafter e he hbe.1
          rw [hL.2 e.on false hlt, hbe.2.2, hbe.2.1] at h3
          cases h3
        · obtain ⟨g, hg, hmax⟩ : ∃ m ∈ rem, ∀ k ∈ rem, k ≤ m := by
            have hne : rem ≠ [] := fun e => by rw [e] at hl; simp at hl
            cases hr : rem.max? with
            | none => exact absurd (List.max?_eq_none_iff.1 hr) hne
            | some m => exact ⟨m, (List.max?_eq_some_iff.1 hr).1, (List.max?_eq_some_iff.1 hr).2⟩
          have h2 := List.all_eq_true.1 h g (hsub g hg)
          rw [Bool.or_eq_true] at h2
          rcases h2 with h2 | h2
          · rw [Array.any_eq_true] at h2
            obtain ⟨y, hy, hbe⟩ := h2
            obtain ⟨e, hee⟩ : ∃ e, e = o.after[y] := ⟨_, rfl⟩
            rw [← hee] at hbe
            have he : e ∈ o.after := by rw [hee]; exact Array.getElem_mem _
            simp only [Bool.and_eq_true, beq_iff_eq] at hbe
            have h3 := hafter e he hbe.1
            rw [hbe.2, hL.2 g false (hsz g (hsub g hg)), hun g (hsub g hg)] at h3
            simp [hg] at h3
          · obtain ⟨g', hg', h2⟩ := List.any_eq_true.1 h2
            simp only [Bool.and_eq_true, decide_eq_true_eq] at h2
            obtain ⟨hlt, h2⟩ := h2
            cases ho' : ops[g']? with
            | none => rw [ho'] at h2; cases h2
            | some o' =>
              rw [ho'] at h2
              simp only at h2
              rw [Array.any_eq_true] at h2
              obtain ⟨y, hy, hbe⟩ := h2
              obtain ⟨e, hee⟩ : ∃ e, e = o'.after[y] := ⟨_, rfl⟩
              rw [← hee] at hbe
              have he : e ∈ o'.after := by rw [hee]; exact Array.getElem_mem _
              simp only [Bool.and_eq_true, beq_iff_eq] at hbe
              exact hcl g' hg' (fun hc => by have := hmax _ hc; omega) o' ho' e he hbe.1 (by rw [hbe.2]; exact hsub g hg) (by rw [hbe.2]; exact hg)
    have hiG := hsub i hirem
    refine wpOp_step ho (fun K' hK => hop i hiG o ho u w K' hB.s fun v w' hR hb hS => hK _ _ ⟨hS, ?_⟩)
    rw [hFr i hiG o ho]
    refine ih (rem.erase i) _ _ (updB b i (w.heap.size, w'.heap.size)) w' ?_ (hnd.erase i) (fun j hj => hsub j (List.mem_of_mem_erase hj)) ?_ (hL.set hiG hnd) ?_
    · rw [List.length_erase_of_mem hirem, hl]; rfl
    · intro j hj hjr o' ho' e he hbe heG hc
      have hc' := List.mem_of_mem_erase hc
      by_cases e1 : j = i
      · subst e1
        rw [ho] at ho'
        injection ho' with ho'
        subst ho'
        have h3 := hafter e he hbe
        rw [hL.2 e.on false (hsz _ heG), hun _ heG] at h3
        simp [hc'] at h3
      · exact hcl j hj (fun h => hjr ((List.Nodup.mem_erase_iff hnd).2 ⟨e1, h⟩)) o' ho' e he hbe heG hc'
    · have hmem : ∀ j, j ∉ rem.erase i → j ≠ i → j ∉ rem := fun j hj hne hc => hj ((List.Nodup.mem_erase_iff hnd).2 ⟨hne, hc⟩)
      refine ⟨hS, fun j hj hjr => ?_, fun j hj hjr => ?_, fun j hj k hk hjr hkr hjk => ?_⟩
      · by_cases e : j = i
        · subst e; simpa [updN, updB] using hR
        · simp only [updN, updB, if_neg e]
          exact hst _ _ _ _ _ (hB.r j hj (hmem j hjr e)) hb
      · by_cases e : j = i
        · subst e; simp [updB]
        · simp only [updB, if_neg e]
          exact Nat.le_trans (hB.lt j hj (hmem j hjr e)) hb.size
      · by_cases e : j = i
        · subst e
          simp only [updB, if_true, if_neg (Ne.symm hjk)]
          exact .inr (hB.lt k hk (hmem k hkr (Ne.symm hjk)))
        · by_cases e2 : k = i
          · subst e2
            simp only [updB, if_true, if_neg e]
            exact .inl (hB.lt j hj (hmem j hjr e))
          · simp only [updB, if_neg e, if_neg e2]
            exact hB.ne j hj k hk (hmem j hjr e) (hmem k hkr e2) hjk
end
/-- A frame of which some slots (number of the operation, slot) are filled. -/
def frOf (a0 : Act) (T : List (Nat × Nat)) (u : Nat → Value) : Act := T.foldl (fun a p => a.put (some p.2) (u p.1)) a0
theorem put_same (a : Act) (d : Nat) (v v' : Value) : (a.put (some d) v).put (some d) v' = a.put (some d) v' := by
  simp [Act.put]
theorem put_comm' (a : Act) {d e : Nat} (v v' : Value) (h : d ≠ e) : (a.put (some d) v).put (some e) v' = (a.put (some e) v').put (some d) v := by
  simp only [Act.put]
  rw [Array.setIfInBounds_comm _ _ h]
theorem frOf_out {d : Nat} {v : Value} {u : Nat → Value} : ∀ (T : List (Nat × Nat)) (a : Act), d ∉ T.map (·.2) → (frOf a T u).put (some d) v = frOf (a.put (some d) v) T u
  | [], _, _ => rfl
  | p :: T, a, h => by
    simp only [List.map_cons, List.mem_cons, not_or] at h
    show (frOf (a.put (some p.2) (u p.1)) T u).put (some d) v = frOf ((a.put (some d) v).put (some p.2) (u p.1)) T u
    rw [frOf_out T _ h.2, put_comm' a _ _ (fun e => h.1 e.symm)]
theorem frOf_upd {i : Nat} {v : Value} {u : Nat → Value} : ∀ (T : List (Nat × Nat)) (a : Act), i ∉ T.map (·.1) → frOf a T (updN u i v) = frOf a T u
  | [], _, _ => rfl
  | p :: T, a, h => by
    simp only [List.map_cons, List.mem_cons, not_or] at h
    show frOf (a.put (some p.2) (updN u i v p.1)) T (updN u i v) = frOf (a.put (some p.2) (u p.1)) T u
    rw [frOf_upd T _ h.2]
    simp [updN, Ne.symm h.1]
theorem frOf_put {i d : Nat} {v : Value} {u : Nat → Value} : ∀ (T : List (Nat × Nat)) (a : Act), (T.map (·.1)).Nodup → (T.map (·.2)).Nodup → (i, d) ∈ T → (frOf a T u).put (some d) v = frOf a T (updN u i v)
  | [], _, _, _, h => by cases h
  | p :: T, a, h1, h2, h => by
    simp only [List.map_cons, List.nodup_cons] at h1 h2
    show (frOf (a.put (some p.2) (u p.1)) T u).put (some d) v = frOf (a.put (some p.2) (updN u i v p.1)) T (updN u i v)
    rcases List.mem_cons.1 h with rfl | h
    · rw [frOf_out T _ h2.1, put_same, frOf_upd T _ h1.1]
      simp [updN]
    · have hne : p.1 ≠ i := fun e => h1.1 (by rw [e]; exact List.mem_map_of_mem (f := (·.1)) h)
      rw [frOf_put T _ h1.2 h2.2 h]
      simp [updN, hne]
theorem listed_eq {L0 L : Array Bool} {G : List Nat} (h : ListedAs L0 L G []) : L = G.foldl (fun L i => L.setIfInBounds i true) L0 := by
  have key : ∀ (G : List Nat) (L0 : Array Bool), (G.foldl (fun L i => L.setIfInBounds i true) L0).size = L0.size ∧ ∀ k, k < L0.size → (G.foldl (fun L i => L.setIfInBounds i true) L0).getD k true = (L0.getD k true || G.contains k) := by
    intro G
    induction G with
    | nil => intro L0; simp
    | cons g G ih =>
      intro L0
      obtain ⟨h1, h2⟩ := ih (L0.setIfInBounds g true)
      refine ⟨by rw [List.foldl_cons, h1]; simp, fun k hk => ?_⟩
      rw [List.foldl_cons, h2 k (by simpa using hk)]
      by_cases e : g = k
      · subst e; simp [Array.getD, hk]
      · have h3 : (L0.setIfInBounds g true).getD k true = L0.getD k true := by
          simp only [Array.getD_eq_getD_getElem?, Array.getElem?_setIfInBounds]
          rw [if_neg e]
        rw [h3]
        have : (g :: G).contains k = G.contains k := by
          rw [Bool.eq_iff_iff]; simp [Ne.symm e]
        rw [this]
  obtain ⟨k1, k2⟩ := key G L0
  apply Array.ext
  · rw [h.1, k1]
  · intro k hk hk'
    have e1 := h.2 k true (by rw [← h.1]; exact hk)
    have e2 := k2 k (by rw [← h.1]; exact hk)
    simp only [Array.getD, hk, hk', dite_true] at e1 e2
    simp only [List.contains_nil, Bool.not_false, Bool.and_true] at e1
    exact e1.trans e2.symm
/-- Which slots the operations fill. -/
def slotsOk (ops : Array Oper) (G : List Nat) (T : List (Nat × Nat)) : Bool := decide (G.Nodup) && decide (T.map (·.1) = G) && decide ((T.map (·.2)).Nodup) && T.all fun p => match ops[p.1]? with | none => false | some o => decide (o.dst = some p.2)
theorem wpAnyH_bring0 {P : Program} {md : Region.Mode} {ops : Array Oper} {Q : Exit → Act → World → Prop} {S : World → Prop} (R : Nat → Value → Nat × Nat → World → Prop) (G : List Nat) (T : List (Nat × Nat)) (fuel : Nat) {L0 : Array Bool} {a0 : Act} {w : World}
    (hok : bringOk md ops L0 G = true) (hT : slotsOk ops G T = true) (hu0 : frOf a0 T (fun _ => undef) = a0) (hS : S w)
    (hst : ∀ i v b w w', R i v b w → Below w.heap.size w w' → R i v b w')
    (hop : ∀ i ∈ G, ∀ o, ops[i]? = some o → ∀ (u : Nat → Value) (w : World) (K : Act → World → Prop), S w →
      Hid (∀ v w', R i v (w.heap.size, w'.heap.size) w' → Below w.heap.size w w' → S w' → K ((frOf a0 T u).put o.dst v) w') →
      if Region.wanted o (yielded ops (frOf a0 T u).tmps) = true then o.wp P (frOf a0 T u) w K Q else K ((frOf a0 T u).put o.dst undef) w)
    (hend : ∀ u b w, Brought S R G [] u b w → wpAnyH P md ops Q S fuel (G.foldl (fun L i => L.setIfInBounds i true) L0) (frOf a0 T u) w) :
    wpAnyH P md ops Q S (fuel + G.length) L0 a0 w := by
  simp only [slotsOk, Bool.and_eq_true, decide_eq_true_eq, List.all_eq_true] at hT
  obtain ⟨⟨⟨h1, h2⟩, h3⟩, h4⟩ := hT
  have h := wpAnyH_bring (fuel := fuel) (L0 := L0) (Fr := frOf a0 T) (R := R) (G := G) (S := S) (P := P) (md := md) (ops := ops) (Q := Q) hok (fun i hi o ho u v => by
      rw [← h2] at hi
      obtain ⟨p, hp, rfl⟩ := List.mem_map.1 hi
      have h5 := h4 p hp
      rw [ho] at h5
      simp only [decide_eq_true_eq] at h5
      rw [h5]
      exact frOf_put T a0 (by rw [h2]; exact h1) h3 hp) hst
    (fun i hi o ho u w K hS hK => hop i hi o ho u w K hS (hide hK)) (fun u b w L hL hB => by rw [listed_eq hL]; exact hend u b w hB) G.length G L0 (fun _ => undef) (fun _ => (0, 0)) w rfl h1 (fun _ h => h) (fun i hi hn => absurd hi hn)
    ⟨rfl, fun k d hk => by
      have : (G.contains k && !G.contains k) = false := by cases G.contains k <;> rfl
      rw [this, Bool.or_false]
      simp [Array.getD, hk]⟩ ⟨hS, fun i hi hn => absurd hi hn, fun i hi hn => absurd hi hn, fun i hi j hj hn => absurd hi hn⟩
  rw [hu0] at h
  exact h
theorem name_frame {P : Program} {md : Region.Mode} {ops : Array Oper} {Q : Exit → Act → World → Prop} {S : World → Prop} {fuel : Nat} {L : Array Bool} {a : Act} {w : World} (h : ∀ a0, a0 = a → wpAnyH P md ops Q S fuel L a0 w) : wpAnyH P md ops Q S fuel L a w := h a rfl
end Go.Proofs.Ythlnbgjlkliopaa
