/- The frame of a law's proof with the bound on each argument's bytes; a slice's length by that bound. -/
import Derived.Test.YtgfghffihjfbpaaGreatDoorLaw
import Derived.SizedLaws
set_option linter.unusedVariables false
set_option linter.unusedSimpArgs false
namespace Go.Proofs.YtgfghffihjfbpaaGreatDoor
open Go.RowKit Go.Shelf Go.WideShapes Go.ChangeShapes Go.ChangeAt Go.Deep
set_option maxRecDepth 100000 in
theorem law_lifted_sized (os : Os) (started : os.Started) (H : Type) (enc : TypeId × Value → H) {F : FuncId} {fn : Func} {s : ChangeSpec}
    (hfn : Tryz.prog.funcs[F]? = some fn) (noInit : Tryz.prog.inits.idxOf? F = none)
    (hspec : ∀ ds : List (DataW H), ds.length = fn.params.size → s.fn H ds = { results := [.lit (.bool true)], args := ds }) (hvars : s.vars = [])
    (hbool : Tryz.prog.underlying 4 = some .bool) (hres : fn.resultTypes = #[4])
    (hread : ∀ t ∈ fn.params.toList, Tryz.prog.readableRec t = true ∧ t < Tryz.prog.types.size)
    (witness : ∃ (w : World) (tape : Tape) (i : Input), w.os = os ∧ (w.forCall tape i).Shaped Tryz.checked.prog ∧ i.vars = [] ∧ Input.okWide Tryz.checked.prog (w.forCall tape i) .any w.heap.size F i ∧
      s.pre6 enc Tryz.checked.prog fn [] false (w.forCall tape i).memory i.args ∧ ({} : Assume).holds Tryz.checked.prog (lone (Frame.enter Tryz.checked.prog F i.args .normal) [] (w.forCall tape i)))
    (walk : ∀ (W : World) (base : Nat) (args : Array Value) (ds : List (DataW H)) (ps : List MemPlace), (∀ (j : Nat) t v, fn.params[j]? = some t → args[j]? = some v → Value.okWide Tryz.prog W .any base t v) →
      DataW.TrodAll enc Tryz.prog W 0 (fun _ => true) true fn.params.toList args.toList ds ps → (∀ p ∈ ps, p.block < W.heap.size) → (DataW.weightsEach Tryz.prog fn.params.toList ds).all (· ≤ reachBytes) = true → Calls Tryz.prog F args W fun e W' => e = .returned (.bool true) ∧ Below W.heap.size W W') :
    ReturnsInHanded {} Tryz.checked os F .any (s.pre6 enc Tryz.prog fn [] false) (s.post enc Tryz.prog fn false true false false) := by
  refine returnsInHanded_of_change_sized (C := Tryz.checked) Tryz.own started noInit hfn witness ?_
  intro W base args ds gs before hval hW _ hsz0 _
  have hvt : s.plain.varTypes Tryz.prog = [] := by
    show s.vars.filterMap _ = []
    rw [hvars]
    rfl
  have hW' := hW
  obtain ⟨p, q, hA0, hV, hbefore, hfz, hnd⟩ := hW
  have hA : DataW.TrodAll enc Tryz.prog W 0 (fun _ => true) true fn.params.toList args.toList ds p := hA0
  rw [hvars] at hV
  obtain ⟨rfl, rfl⟩ := trodVars_none hV
  have hsz : (DataW.weightsEach Tryz.prog fn.params.toList ds).all (· ≤ reachBytes) = true := by
    have h1 : (DataW.weightsEach Tryz.prog (fn.params.toList ++ s.plain.varTypes Tryz.prog) (ds ++ [])).all (· ≤ reachBytes) = true := hsz0
    rw [hvt, List.append_nil, List.append_nil] at h1
    exact h1
  have hlen : ds.length = fn.params.size := by
    have : ∀ (ts : List TypeId) (vs : List Value) (ds : List (DataW H)) (ps : List MemPlace), DataW.TrodAll enc Tryz.prog W 0 (fun _ => true) true ts vs ds ps → ds.length = ts.length := by
      intro ts
      induction ts with
      | nil => intro vs ds ps h; obtain ⟨_, rfl, _⟩ := trodAll_nil h; rfl
      | cons t ts ih =>
        intro vs ds ps h
        obtain ⟨v, vs', d, ds', p, q, rfl, rfl, rfl, hd, hr⟩ := trodAll_cons h
        simp [ih _ _ _ hr]
    simpa using this _ _ _ _ hA
  have hlt : ∀ x ∈ p, x.block < W.heap.size := fun x hx => hW'.lt x (by rw [hbefore]; simp [hx])
  refine (walk W base args ds p hval hA hlt hsz).mono fun e W' ⟨he, hb⟩ => ?_
  subst he
  have e1 : s.fn H (ds ++ []) = { results := [.lit (.bool true)], args := ds } := by rw [List.append_nil]; exact hspec ds hlen
  have hbef : before = p := by rw [hbefore]; simp
  refine ⟨_, rfl, post_of_below (pa := p) (pv := []) (gs := []) hW' ?_ ?_ ?_ (by simp [hbef]) hb ?_⟩
  · intro b sp hd
    rw [e1, hres]
    exact trodAll_mk1 (shut_bool hbool _)
  · intro sp hsp
    rw [e1]
    exact trodAll_stays Tryz.laidOut hb hread hA hlt (fun x hx => hsp x (by rw [hbef]; exact hx))
  · intro sp hsp
    rw [e1, hvars]
    rfl
  · exact ok_one hres rfl (okWide_bool_mk hbool _)
theorem slice_weight {t e : TypeId} (ht : Tryz.prog.underlying t = some (.slice e)) {H : Type} {enc : TypeId × Value → H} {W : World} {base : Nat} {spare : Nat → Bool} {held : Bool} {A : Option Addr} {n c : Nat} {d : DataW H} {p : List MemPlace}
    (h : DataW.Trod enc Tryz.prog W base spare held t (.slice A n c) d p) : n = 0 ∨ ∃ el sp : List (DataW H), d = .slice el sp ∧ el.length = n := by
  obtain ⟨fuel, hf⟩ := h
  rcases open_slice ht hf with ⟨hcs, _⟩ | ⟨a, len', cap', m, n', D, Pl, hcs, _, hl, hm, hmm, hx, hi⟩
  · simp [Value.cells] at hcs
    exact .inl hcs.2.1
  · simp [Value.cells] at hcs
    obtain ⟨rfl, rfl, rfl⟩ := hcs
    injection hx with h1 h2
    exact .inr ⟨(List.range n).map D, _, h1, by rw [List.length_map, List.length_range]⟩
theorem slice_sized {t e : TypeId} (ht : Tryz.prog.underlying t = some (.slice e)) {bytes : Nat} (hb : Tryz.prog.bytesOf e = bytes) {H : Type} {enc : TypeId × Value → H} {W : World} {base : Nat} {spare : Nat → Bool} {held : Bool} {A : Option Addr} {n c : Nat} {d : DataW H} {p : List MemPlace}
    {ts : List TypeId} {ds : List (DataW H)} (hsz : (DataW.weightsEach Tryz.prog ts ds).all (· ≤ reachBytes) = true) {j : Nat} (hj : ts[j]? = some t) (hd : ds[j]? = some d) (h : DataW.Trod enc Tryz.prog W base spare held t (.slice A n c) d p) :
    n * bytes ≤ 140737488351232 := by
  rcases slice_weight ht h with rfl | ⟨el, sp, rfl, hl⟩
  · simp
  · have h1 := sized_slice hsz hj hd ht
    rw [hb] at h1
    have h2 : n * bytes ≤ (el.length + sp.length) * bytes := Nat.mul_le_mul_right _ (by omega)
    have h3 : reachBytes = 140737488351232 := rfl
    omega
end Go.Proofs.YtgfghffihjfbpaaGreatDoor
