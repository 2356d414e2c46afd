/- Channel: nets, and the way up from a node, by contracts. -/
import Derived.Test.YtmbhnjpaieimbaaC1
import Derived.Test.YtmbhnjpaieimbaaRange2
import Derived.Handy
set_option linter.unusedVariables false
set_option linter.unusedSimpArgs false
namespace Go.Proofs.Ytmbhnjpaieimbaa
open Go.RowKit Go.Shelf
attribute [local go_sem] Oper.semAt_some
/-- A canal. -/
structure Ca where
  frm : Int
  seep : Sp
  fill : Sp
  deriving DecidableEq
def Ca.cells (c : Ca) : List Value := [.int .i64 c.frm, .int .i64 c.seep.lo, .int .i64 c.seep.hi, .int .i64 c.fill.lo, .int .i64 c.fill.hi]
theorem Ca.len (c : Ca) : c.cells.length = 5 := rfl
theorem Ca.one (c : Ca) : ∀ u ∈ c.cells, u.oneCell' = true := by simp [Ca.cells, Value.oneCell']
theorem Rd.ca {w : World} {B : Nat} {A : Option Addr} {xs : List Ca} (h : Rd w B Ca.cells A xs) {i : Nat} (hi : i < xs.length) :
    ∃ b off f s0 s1 l0 l1, A = some ⟨b, off, none⟩ ∧ b < B ∧ xs[i]? = some ⟨f, ⟨s0, s1⟩, ⟨l0, l1⟩⟩ ∧ w.cell? ⟨b, off + i * 5, none⟩ = some (.int .i64 f) ∧ w.cell? ⟨b, off + i * 5 + 1, none⟩ = some (.int .i64 s0) ∧ w.cell? ⟨b, off + i * 5 + 2, none⟩ = some (.int .i64 s1) ∧ w.cell? ⟨b, off + i * 5 + 3, none⟩ = some (.int .i64 l0) ∧ w.cell? ⟨b, off + i * 5 + 4, none⟩ = some (.int .i64 l1) := by
  obtain ⟨b, off, e, hB, hc⟩ := h (by omega)
  have hx : xs[i]? = some xs[i] := List.getElem?_eq_getElem hi
  exact ⟨b, off, _, _, _, _, _, e, hB, hx, hc _ _ (flat_get Ca.len hx (j := 0) (by omega)), hc _ _ (flat_get Ca.len hx (j := 1) (by omega)), hc _ _ (flat_get Ca.len hx (j := 2) (by omega)), hc _ _ (flat_get Ca.len hx (j := 3) (by omega)), hc _ _ (flat_get Ca.len hx (j := 4) (by omega))⟩
/-- A net. -/
structure Ne where
  canals : List Ca
  fields : List Int
  dry : Int
  days : Int
  deriving DecidableEq
/-- Valid canals: each one comes from a node ahead of it. -/
def caOk (i : Nat) (c : Ca) : Bool := inB 0 i c.frm && (Sp.ok 0 1000 c.seep && Sp.ok 0 10000000 c.fill)
/-- Where canal k comes from. -/
def frmN (cs : List Ca) (k : Nat) : Nat := match cs[k]? with | some c => c.frm.toNat | none => 0
/-- The canals from a node up to the node 0. -/
def upF (cs : List Ca) : Nat → Nat → List Int
  | 0, _ => []
  | f + 1, node => if node = 0 then [] else ((node - 1 : Nat) : Int) :: upF cs f (frmN cs (node - 1))
/-- Canals that come from nodes ahead of them. -/
def caFrm (cs : List Ca) : Prop := ∀ (k : Nat) (c : Ca), cs[k]? = some c → 0 ≤ c.frm ∧ c.frm ≤ k
theorem frmN_le {cs : List Ca} (h : caFrm cs) (k : Nat) : frmN cs k ≤ k := by
  unfold frmN
  split
  · rename_i c hc
    have := h k c hc
    omega
  · omega
theorem upF_fuel {cs : List Ca} (h : caFrm cs) : ∀ (f node : Nat), node ≤ f → upF cs f node = upF cs node node
  | 0, node, hn => by obtain rfl : node = 0 := by omega
                      rfl
  | f + 1, 0, _ => rfl
  | f + 1, node + 1, hn => by
    have h1 := frmN_le h node
    have e1 := upF_fuel h f (frmN cs node) (by omega)
    have e2 := upF_fuel h node (frmN cs node) h1
    simp only [upF, Nat.add_sub_cancel, Nat.add_eq_zero_iff, Nat.succ_ne_zero, and_false, if_false]
    rw [e1, e2]
termination_by f node => (f, node)
theorem upF_succ {cs : List Ca} (h : caFrm cs) (m : Nat) : upF cs (m + 1) (m + 1) = (m : Int) :: upF cs (frmN cs m) (frmN cs m) := by
  have e := upF_fuel h m (frmN cs m) (frmN_le h m)
  simp only [upF, Nat.add_sub_cancel, Nat.add_eq_zero_iff, Nat.succ_ne_zero, and_false, if_false]
  rw [e]
theorem Rd.kept {α : Type} {cells : α → List Value} {w w' : World} {B : Nat} {A : Option Addr} {xs : List α} {R : Nat → Prop} (h : Rd w B cells A xs) (hk : Kept R w w') (hB : ∀ b, b < B → R b) (hl : B ≤ w.heap.size) : Rd w' B cells A xs :=
  h.keep fun p hp => hk.cell (p := p) (hB _ hp) (by omega)

set_option maxHeartbeats 4000000 in
set_option maxRecDepth 100000 in
theorem up1_seq (n : Nat) (hn : 3 ≤ n) (n₀ bn bf : Nat) (Ac Af : Option Addr) (nc cc nf cf : Nat) (dry days : Int) (cs : List Ca) (fs : List Int) (field nd : Nat) (wa : World) (hn0 : n₀ ≤ wa.heap.size) (hbn : bn < wa.heap.size) (hbf : bf < wa.heap.size)
    (hnet : At wa bn [.slice Ac nc cc, .slice Af nf cf, .int .i64 dry, .int .i64 days]) (hfd : At wa bf [.int .i64 field]) (hcs : Rd wa n₀ Ca.cells Ac cs) (hfs : Rd wa n₀ icell Af fs) (hnc : nc = cs.length) (hnf : nf = fs.length)
    (hnc2 : nc ≤ 1000) (hnf2 : nf ≤ 1000) (hval : caFrm cs) (hnode : fs[field]? = some (nd : Int)) (hnd : nd ≤ cs.length) :
    SeqK n Try.prog 141 #[.pointer (some ⟨bn, 0, none⟩), .pointer (some ⟨bf, 0, none⟩)] (fun k => #[.int .i64 ((upF cs nd nd).getD k 0)]) (upF cs nd nd).length False (fun _ _ => False) (fun _ => False) (fun b => b < n₀ ∨ b = bn ∨ b = bf) wa := by
  intro l J Jx W hW hJ hJx hY h0 hinf
  have HY := hide hY; have H0 := hide h0
  have hnetW := hnet.kept hW (.inr (.inl rfl))
  have hfdW := hfd.kept hW (.inr (.inr rfl))
  have HnetW := hide hnetW
  have hcsW := hide (hcs.kept hW (fun _ h => .inl h) hn0); have hfsW := hide (hfs.kept hW (fun _ h => .inl h) hn0)
  have hszW : n₀ ≤ W.heap.size := Nat.le_trans hn0 hW.size
  have Hval := hide hval; have Hnode := hide hnode; have Hnc := hide hnc; have Hnf := hide hnf
  have hfl : field < nf := by rw [hnf]; exact (List.getElem?_eq_some_iff.1 hnode).1
  obtain ⟨b, off, x, hA, hB, hx, hc⟩ := hfsW.out.int (i := field) (by omega)
  rw [hnode] at hx
  injection hx with hx
  subst hx hA
  obtain ⟨q0, q1, q2, q3⟩ := At.c4 hnetW
  have z0 := hfdW.c1
  clear hY h0 hJ hJx hinf hnet hfd hcs hfs hval hnode hnc hnf hnetW hfdW hW
  refine callsIn_of_wp Try.func141 rfl trivial ?_ rfl
  simp only [Try.ntmps141, List.size_toArray, List.length_cons, List.length_nil, Nat.reduceAdd, Nat.reduceSub, Array.replicate_succ, Array.replicate_zero, List.push_toArray, List.append_toArray, List.nil_append, List.cons_append]
  gi_wp2
  gi_loopw [4] (fun p wr => ∃ (k m : Nat), p = .int .i64 m ∧ m ≤ cs.length ∧ Hid ((upF cs nd nd).drop k = upF cs m m) ∧ k + (upF cs m m).length = (upF cs nd nd).length ∧ J k wr ∧ Kept (fun b => b < n₀ ∨ b = bn ∨ b = bf) W wr) (fun p _ => (intOf p).toNat)
  case atStart => exact ⟨0, nd, rfl, hnd, hide rfl, by omega, H0.out, Kept.refl _ _⟩
  case round =>
    obtain ⟨k, m, rfl, hm, hdr, hlen, hj, hk⟩ := hrel
    cases m with
    | zero =>
      gi_wp2
      go_end0
      exact .inl ⟨_, rfl, .inl (by rw [show (upF cs nd nd).length = k from by rw [← hlen]; rfl]; exact hj)⟩
    | succ m =>
      have hs := hdr.out
      rw [upF_succ Hval.out] at hs hlen
      have hlt : k < (upF cs nd nd).length := by rw [← hlen]; simp
      have hg : (upF cs nd nd).getD k 0 = (m : Int) := by
        have h1 : ((upF cs nd nd).drop k)[0]? = some (m : Int) := by rw [hs]; rfl
        rw [List.getElem?_drop] at h1
        rw [List.getD_eq_getElem?_getD, show k = k + 0 from rfl, h1]
        rfl
      obtain ⟨fn, tmps, assign, body, hy, hR⟩ := HY.out k wr hj hlt
      rw [hg] at hy
      have HR := hide hR; have Hs := hide hs; have Hlen := hide hlen
      clear hR hs hg hlen hdr
      have hm2 : m < 1000 := by have := Hnc.out; omega
      gi_wp2
      refine ⟨fun h => by simp [Fence.wide] at h, HR.out.mono ?_⟩
      rintro e W3 (⟨rfl, hJ3, hk3⟩ | ⟨rfl, hJx3⟩)
      · have hkk := hk.trans hk3
        obtain ⟨p0, p1, p2, p3⟩ := (HnetW.out.kept hkk (.inr (.inl rfl))).c4
        obtain ⟨b2, off2, f2, s0, s1, l0, l1, rfl, hB2, hx2, g0, g1, g2, g3, g4⟩ := (hcsW.out.kept hkk (fun _ h => .inl h) hszW).ca (i := m) (by omega)
        have hfv := Hval.out m _ hx2
        simp only at hfv
        have hfr : frmN cs m = f2.toNat := by unfold frmN; rw [hx2]
        obtain ⟨f3, rfl⟩ : ∃ f3 : Nat, f2 = f3 := ⟨f2.toNat, by omega⟩
        have hfr' : frmN cs m = f3 := by rw [hfr]; simp
        have hml : m < nc := by have := Hnc.out; omega
        have Hfr := hide hfr'
        have Hkk := hide hkk
        clear hfr hfr' hx2 g1 g2 g3 g4 hkk
        gi_wp2
        refine ⟨⟨k + 1, f3, rfl, by omega, hide ?_, ?_, hJ3, Hkk.out⟩, by simp [intOf]; omega⟩
        · rw [← List.tail_drop, Hs.out, Hfr.out]
          rfl
        · have h2 := Hlen.out
          rw [Hfr.out] at h2
          simp at h2
          omega
      · gi_wp2
        refine bodyPost_ret (results_none rfl _ _ _) rfl ?_
        exact .inl ⟨_, rfl, .inr ⟨k + 1, by omega, hJx3⟩⟩
end Go.Proofs.Ytmbhnjpaieimbaa
