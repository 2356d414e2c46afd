/- The bytes of a rent's fields, from the bound on the arguments. -/
import Derived.Test.YtmbhnjpaieimbaaOpenR
import Derived.Test.YtmbhnjpaieimbaaSized
set_option linter.unusedVariables false
set_option linter.unusedSimpArgs false
namespace Go.Proofs.Ytmbhnjpaieimbaa
open Go.RowKit Go.Shelf Go.WideShapes Go.ChangeShapes Go.ChangeAt Go.Deep
theorem weights_mem_all {H : Type} {P : Program} {e : TypeId} {x : DataW H} : ∀ {l : List (DataW H)}, x ∈ l → ∀ n ∈ x.weights P e, n ∈ DataW.weightsAll P e l
  | d :: l, h, n, hn => by
    simp only [DataW.weightsAll, List.mem_append]
    rcases List.mem_cons.1 h with rfl | h
    · exact .inl hn
    · exact .inr (weights_mem_all h n hn)
theorem all_weights {H : Type} {P : Program} {ts : List TypeId} {ds : List (DataW H)} (h : (DataW.weightsEach P ts ds).all (· ≤ reachBytes) = true) {j : Nat} {t : TypeId} {d : DataW H} (ht : ts[j]? = some t) (hd : ds[j]? = some d) : ∀ n ∈ d.weights P t, n ≤ reachBytes := fun n hn => by
  have := List.all_eq_true.1 h n (DataW.weights_mem_each ht hd n hn)
  simpa using this
set_option maxRecDepth 100000 in
theorem rent_sized {H : Type} {enc : TypeId × Value → H} {W : World} {base : Nat} {spare : Nat → Bool} {held : Bool} {fuel : Nat} {r : Rr} {x : DataW H × List MemPlace} (h : DataW.trod enc Try.prog W base spare held fuel 89 r.cells = some x)
    (hw : ∀ n ∈ x.1.weights Try.prog 89, n ≤ reachBytes) : r.n * 8 ≤ 140737488351232 := by
  have hu := Try.underlying89
  obtain ⟨xs, n, _, rfl, hl, hlen, hf⟩ := DataW.trod_struct hu h
  have h2 := hf 2 _ rfl
  obtain ⟨y, hy⟩ : ∃ y, xs[2]? = some y := ⟨_, List.getElem?_eq_getElem (by rw [hlen]; decide)⟩
  rw [hy] at h2
  have h3 : DataW.trod enc Try.prog W base spare held n 41 [.slice r.A r.n r.c] = some y := h2
  rcases open_slice Try.underlying41 h3 with ⟨hcs, _⟩ | ⟨a, len, cap, m, n', D, Pl, hcs, _, hl2, hm, hmm, hx, _⟩
  · injection hcs with hcs _
    injection hcs with _ h0 _
    rw [h0]; omega
  · injection hcs with hcs _
    injection hcs with _ h0 _
    have hd : (xs.map (·.1))[2]? = some y.1 := by rw [List.getElem?_map, hy]; rfl
    have h4 : (len + (m - len)) * 8 ≤ reachBytes := by
      refine hw _ ?_
      rw [DataW.weights, hu]
      refine DataW.weights_mem_each (j := 2) (t := 41) rfl hd _ ?_
      rw [hx]
      simp only [DataW.weights, Try.underlying41, List.length_map, List.length_range, show Try.prog.bytesOf 3 = 8 by kernel_rfl]
      exact List.mem_cons_self
    have h5 : reachBytes = 140737488351232 := rfl
    rw [h0]; omega
set_option maxRecDepth 100000 in
theorem rents_sized {H : Type} {enc : TypeId × Value → H} {W : World} {base : Nat} {spare : Nat → Bool} {held : Bool} {A : Option Addr} {n c : Nat} {rs : List Rr} {d : DataW H} {p : List MemPlace} (h : DataW.Trod enc Try.prog W base spare held 54 (.slice A n c) d p) (hR : RsAt0 W A n rs)
    (hw : ∀ n ∈ d.weights Try.prog 54, n ≤ reachBytes) : ∀ r ∈ rs, r.n * 8 ≤ 140737488351232 := fun r hr => by
  obtain ⟨i, hi, hir⟩ := List.getElem_of_mem hr
  have hir2 : rs[i]? = some r := by rw [List.getElem?_eq_getElem hi, hir]
  have hni := hR.en
  have hu := Try.underlying54
  obtain ⟨fuel, hf⟩ := h
  rcases open_slice hu hf with ⟨hcs, _⟩ | ⟨a, len, cap, m, n', D, Pl, hcs, _, hl, hm, hmm, hx, hD⟩
  · simp [Value.cells] at hcs
    omega
  · simp [Value.cells] at hcs
    obtain ⟨rfl, rfl, rfl⟩ := hcs
    have hle : n ≤ m := by rw [hmm]; split <;> omega
    obtain ⟨cs', hc, ht'⟩ := hD i (by omega)
    rw [cells_rent] at hc
    obtain ⟨b, off, r', hA, _, hxr, c0, c1, c2⟩ := hR.rd.rr (i := i) hi
    obtain rfl : r' = r := by rw [hir2] at hxr; exact (Option.some.inj hxr).symm
    injection hA with hA
    subst hA
    obtain ⟨_, hcl, hat⟩ := World.cells?_some hc
    have hadd : ∀ j, ((⟨b, off, none⟩ : Addr).add (i * 3)).add j = ⟨b, off + i * 3 + j, none⟩ := fun j => by
      rw [add_add]
      unfold Addr.add
      split
      · rename_i hz; have e : off + i * 3 + j = off := by omega
        rw [e]
      · show (⟨b, off + (i * 3 + j), none⟩ : Addr) = _
        rw [Nat.add_assoc]
    have e0 := hat 0 (by omega)
    have e1 := hat 1 (by omega)
    have e2 := hat 2 (by omega)
    rw [hadd] at e0 e1 e2
    rw [Nat.add_zero, c0] at e0
    rw [c1] at e1
    rw [c2] at e2
    have ecs : cs' = r'.cells := by
      match cs', hcl with
      | [x0, x1, x2], _ =>
        simp at e0 e1 e2
        rw [← e0, ← e1, ← e2]; rfl
    rw [ecs] at ht'
    refine rent_sized ht' fun q hq => hw q ?_
    injection hx with hx1 _
    rw [hx1]
    simp only [DataW.weights, hu, List.mem_cons, List.mem_append]
    exact .inr (.inl (weights_mem_all (List.mem_map.2 ⟨i, List.mem_range.2 (by omega), rfl⟩) q hq))
end Go.Proofs.Ytmbhnjpaieimbaa
