/- Nets and uses: plain words, and how they lie in memory. -/
import Derived.Test.YthlnbgjlkliopaaC2
import Derived.Test.YthlnbgjlkliopaaMap
import Derived.Test.YthlnbgjlkliopaaRegIn
set_option linter.unusedVariables false
set_option linter.unusedSimpArgs false
namespace Go.Proofs.Ythlnbgjlkliopaa
open Go.RowKit Go.Shelf
theorem callsIn_gen {F : Fence} {n : Nat} {P : Program} {f : FuncId} {args : Array Value} {W0 : World} {R : Ending → World → Prop} (h : ∀ W, Hid (W0 = W) → CallsIn F n P f args W R) : CallsIn F n P f args W0 R := h W0 (hide rfl)
theorem At.c5 {w : World} {p : Nat} {v0 v1 v2 v3 v4 : Value} (h : At w p [v0, v1, v2, v3, v4]) : w.cell? ⟨p, 0, none⟩ = some v0 ∧ w.cell? ⟨p, 1, none⟩ = some v1 ∧ w.cell? ⟨p, 2, none⟩ = some v2 ∧ w.cell? ⟨p, 3, none⟩ = some v3 ∧ w.cell? ⟨p, 4, none⟩ = some v4 := ⟨h.2 0 _ rfl, h.2 1 _ rfl, h.2 2 _ rfl, h.2 3 _ rfl, h.2 4 _ rfl⟩
/-- A use. -/
structure Us where
  field : Int
  frm : Int
  to : Int
  deriving DecidableEq
def Us.cells (u : Us) : List Value := [.int .i64 u.field, .int .i64 u.frm, .int .i64 u.to]
theorem Us.len (u : Us) : u.cells.length = 3 := rfl
theorem Us.one (s : Us) : ∀ u ∈ s.cells, u.oneCell' = true := by simp [Us.cells, Value.oneCell']
theorem Rd.us {w : World} {B : Nat} {A : Option Addr} {xs : List Us} (h : Rd w B Us.cells A xs) {i : Nat} (hi : i < xs.length) :
    ∃ b off f s t, A = some ⟨b, off, none⟩ ∧ b < B ∧ xs[i]? = some ⟨f, s, t⟩ ∧ w.cell? ⟨b, off + i * 3, none⟩ = some (.int .i64 f) ∧ w.cell? ⟨b, off + i * 3 + 1, none⟩ = some (.int .i64 s) ∧ w.cell? ⟨b, off + i * 3 + 2, none⟩ = some (.int .i64 t) := by
  obtain ⟨b, off, e, hB, hc⟩ := h (by omega)
  have hx : xs[i]? = some xs[i] := List.getElem?_eq_getElem hi
  exact ⟨b, off, _, _, _, e, hB, hx, hc _ _ (flat_get Us.len hx (j := 0) (by omega)), hc _ _ (flat_get Us.len hx (j := 1) (by omega)), hc _ _ (flat_get Us.len hx (j := 2) (by omega))⟩

/-- Where a net's lists lie. -/
structure NetAt (w : World) (Ac Af : Option Addr) (nc nf : Nat) (cs : List Ca) (fs : List Int) : Prop where
  rc : Rd w w.heap.size Ca.cells Ac cs
  rf : Rd w w.heap.size icell Af fs
  ec : nc = cs.length
  ef : nf = fs.length
  nc2 : nc ≤ 1000
  nf2 : nf ≤ 1000
theorem NetAt.below {w w' : World} {Ac Af : Option Addr} {nc nf : Nat} {cs : List Ca} {fs : List Int} (h : NetAt w Ac Af nc nf cs fs) (hb : Below w.heap.size w w') : NetAt w' Ac Af nc nf cs fs :=
  ⟨(h.rc.below hb).more hb.size, (h.rf.below hb).more hb.size, h.ec, h.ef, h.nc2, h.nf2⟩

/-! ### what is valid -/
def netPre (cs : List Ca) (fs : List Int) (dry days : Int) : Bool := decide (cs.length ≤ 16) && decide (fs.length ≤ 12) && inB 0 23040 dry && inB 1 16 days
def caAll : Nat → List Ca → Bool
  | _, [] => true
  | i, c :: cs => caOk i c && caAll (i + 1) cs
def netOk (cs : List Ca) (fs : List Int) (dry days : Int) : Bool := netPre cs fs dry days && !(anyOut 0 cs.length fs) && caAll 0 cs && decide fs.Nodup
def netErr (cs : List Ca) (fs : List Int) (dry days : Int) : Int := if netOk cs fs dry days then 0 else 50
theorem caAll_iff : ∀ (i : Nat) (cs : List Ca), caAll i cs = true ↔ ∀ (k : Nat) (c : Ca), cs[k]? = some c → caOk (i + k) c = true
  | i, [] => by simp [caAll]
  | i, c :: cs => by
    unfold caAll
    rw [Bool.and_eq_true, caAll_iff (i + 1) cs]
    constructor
    · rintro ⟨h1, h2⟩ k d hk
      cases k with
      | zero => simp at hk; subst hk; exact h1
      | succ k => have := h2 k d (by simpa using hk); rwa [show i + 1 + k = i + (k + 1) by omega] at this
    · intro h
      exact ⟨h 0 c rfl, fun k d hk => by have := h (k + 1) d (by simpa using hk); rwa [show i + (k + 1) = i + 1 + k by omega] at this⟩
/-- The first k canals are right. -/
def caTo (cs : List Ca) (k : Nat) : Prop := ∀ (j : Nat) (c : Ca), j < k → cs[j]? = some c → caOk j c = true
theorem caTo_zero (cs : List Ca) : caTo cs 0 := fun j c h => by omega
theorem caTo_snoc {cs : List Ca} {k : Nat} {c : Ca} (h : caTo cs k) (hx : cs[k]? = some c) (hc : caOk k c = true) : caTo cs (k + 1) := fun j d hj hd => by
  by_cases e : j = k
  · subst e; rw [hx] at hd; injection hd with hd; subst hd; exact hc
  · exact h j d (by omega) hd
theorem caTo_all {cs : List Ca} {k : Nat} (h : caTo cs k) (hk : cs.length ≤ k) : caAll 0 cs = true :=
  (caAll_iff 0 cs).2 fun j c hj => by
    have := (List.getElem?_eq_some_iff.1 hj).1
    rw [Nat.zero_add]; exact h j c (by omega) hj
theorem caAll_hit {cs : List Ca} {k : Nat} {c : Ca} (hx : cs[k]? = some c) (hc : caOk k c = false) : caAll 0 cs = false := by
  rw [Bool.eq_false_iff]; intro h
  have := (caAll_iff 0 cs).1 h k c hx
  rw [Nat.zero_add, hc] at this
  cases this
theorem caFrm_of {cs : List Ca} (h : caAll 0 cs = true) : caFrm cs := fun k c hk => by
  have := (caAll_iff 0 cs).1 h k c hk
  simp [caOk, inB] at this
  omega
theorem netOk_parts {cs : List Ca} {fs : List Int} {dry days : Int} (h : netOk cs fs dry days = true) : cs.length ≤ 16 ∧ fs.length ≤ 12 ∧ (0 ≤ dry ∧ dry ≤ 23040) ∧ (1 ≤ days ∧ days ≤ 16) ∧ (∀ n ∈ fs, 0 ≤ n ∧ n ≤ cs.length) ∧ caAll 0 cs = true ∧ fs.Nodup := by
  simp only [netOk, netPre, Bool.and_eq_true, decide_eq_true_eq, inB, Bool.not_eq_true', anyOut, List.any_eq_false] at h
  obtain ⟨⟨⟨⟨⟨⟨h1, h2⟩, h3⟩, h4⟩, h5⟩, h6⟩, h7⟩ := h
  refine ⟨h1, h2, h3, h4, fun n hn => ?_, h6, h7⟩
  have := h5 n hn
  simp [outB] at this
  omega
theorem netOk_frm {cs : List Ca} {fs : List Int} {dry days : Int} (h : netOk cs fs dry days = true) : caFrm cs := caFrm_of (netOk_parts h).2.2.2.2.2.1
/-- The node of a field. -/
def nodeF (fs : List Int) (k : Nat) : Nat := match fs[k]? with | some n => n.toNat | none => 0
theorem nodeF_of {cs : List Ca} {fs : List Int} {dry days : Int} (h : netOk cs fs dry days = true) {k : Nat} (hk : k < fs.length) : fs[k]? = some ((nodeF fs k : Nat) : Int) ∧ nodeF fs k ≤ cs.length := by
  have hx : fs[k]? = some fs[k] := List.getElem?_eq_getElem hk
  have := (netOk_parts h).2.2.2.2.1 fs[k] (List.getElem_mem hk)
  unfold nodeF
  rw [hx]
  simp only
  exact ⟨by rw [show ((fs[k].toNat : Nat) : Int) = fs[k] by omega], by omega⟩
/-! ### a set that is filled round by round -/
structure SetTo (fs : List Int) (k : Nat) (f : Int → Option Bool) (s : Nat) : Prop where
  mem : ∀ j, f j = if j ∈ fs.take k then some true else none
  le : s ≤ k
  eq : s = k ↔ (fs.take k).Nodup
theorem SetTo.zero (fs : List Int) : SetTo fs 0 (fun _ => none) 0 := ⟨fun j => by simp, Nat.le_refl _, by simp⟩
theorem SetTo.snoc {fs : List Int} {k : Nat} {f : Int → Option Bool} {s : Nat} {x : Int} (h : SetTo fs k f s) (hx : fs[k]? = some x) : SetTo fs (k + 1) (upd f x (some true)) (if (f x).isSome then s else s + 1) := by
  have h1 := h.le
  have h2 := h.eq
  have h3 := h.mem x
  refine ⟨fun j => ?_, by split <;> omega, ?_⟩
  · unfold upd
    rw [take_snoc hx, h.mem j]
    by_cases e : j = x
    · subst e; simp
    · simp [e]
  · rw [take_snoc hx, List.nodup_append]
    by_cases hm : x ∈ fs.take k
    · rw [h3, if_pos hm]
      simp only [Option.isSome_some, if_true]
      constructor
      · omega
      · rintro ⟨_, _, h5⟩; exact absurd rfl (h5 x hm x (by simp))
    · rw [h3, if_neg hm]
      simp only [Option.isSome_none, Bool.false_eq_true, if_false]
      constructor
      · intro e
        refine ⟨h2.1 (by omega), by simp, fun a ha b hb => ?_⟩
        simp at hb
        subst hb
        intro e2
        subst e2
        exact hm ha
      · rintro ⟨h5, _⟩
        have := h2.2 h5
        omega
end Go.Proofs.Ythlnbgjlkliopaa
