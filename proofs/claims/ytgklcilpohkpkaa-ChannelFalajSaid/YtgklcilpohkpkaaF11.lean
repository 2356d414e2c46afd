/- slices.Collect, slices.AppendSeq over whatever gives spans, or panics. -/
import Derived.Test.YtgklcilpohkpkaaRangeG
import Derived.Test.YtgklcilpohkpkaaG8
set_option linter.unusedVariables false
set_option linter.unusedSimpArgs false
namespace Go.Proofs.Ytgklcilpohkpkaa
open Go.RowKit Go.Shelf
attribute [local go_sem] Oper.semAt_some
theorem el_sp : ElLaw Try.prog 52 51 2 16 Sp.cells := elLaw_of Try.underlying52 info_Sp rfl (by omega) Sp.len Sp.one (by omega)
/-- What an iterator over spans yields in round k. -/
def GivesS (L : Nat → Sp) : Nat → Nat → (Nat → Prop) → (Nat → Prop) → Array Value → World → Prop := fun _ k _ _ args _ => args = #[.agg #[.int .i64 (L k).lo, .int .i64 (L k).hi]]
def CollPost (fin : Prop) (Pn : Nat → List PanicEntry → Prop) (L : List Sp) (w : World) (e : Ending) (w' : World) : Prop :=
  (fin ∧ ∃ v, e = .returned v ∧ Own w' w.heap.size 51 2 Sp.cells v L ∧ Below w.heap.size w w') ∨ (∃ chain k, e = .panicked chain ∧ Pn k chain ∧ Below w.heap.size w w')
set_option maxHeartbeats 4000000 in
set_option maxRecDepth 100000 in
theorem appendSeq_sp (gf : Nat) (lb : Array Value) (L : Nat → Sp) (N : Nat) (fin : Prop) (Pn : Nat → List PanicEntry → Prop) (R : Nat → Prop) (w : World) (eg : ∀ args w, (callFunc gf args).run Try.prog w = .ok (.enter gf args) w)
    (hseq : ∀ n, 6 ≤ n → SeqXF n Try.prog gf lb (GivesS L) N fin Pn (fun _ => False) R w) (hR : ∀ b, R b → b < w.heap.size) (hlen : N ≤ 1000) :
    Calls Try.prog 129 #[.slice none 0 0, .func (.func gf) #[] lb] w (CollPost fin Pn ((List.range N).map L) w) := by
  obtain ⟨w1, Hw1⟩ : ∃ w1, Hid (w.alloc (.cells #[.slice none 0 0] 52) = w1) := ⟨_, hide rfl⟩
  have hb1 : Below w.heap.size w w1 := by rw [← Hw1.out]; exact below_new _ _
  have hz1 : w1.heap.size = w.heap.size + 1 := by rw [← Hw1.out]; simp
  have hbx : Bx w1 w.heap.size [.slice none 0 0] := by rw [← Hw1.out]; exact Bx.new w _ _ _ rfl _ rfl
  have htake : ∀ k, k < N → (List.range (k + 1)).map L = (List.range k).map L ++ [L k] := fun k _ => by rw [List.range_succ, List.map_append]; rfl
  refine (callsIn_wide (n := 9)).1 ?_
  refine callsIn_of_wp_marks Try.func129 rfl trivial ?_ rfl
  simp only [Try.ntmps129, List.size_toArray, List.length_cons, List.length_nil, Nat.reduceAdd, Nat.reduceSub, Array.replicate_succ, Array.replicate_zero, List.push_toArray, List.append_toArray, List.nil_append, List.cons_append]
  gi_wp2_with fail
  rw [Hw1.out]
  refine wp_rangeXF (gf := gf) (lb := lb) rfl eg (hseq _ (by omega)) (Kept.all _ hb1) (fun b k X G args W h => by rw [show args = _ from h]; rfl) (fun b => b = w.heap.size)
    (fun b h => h.elim) (by intro b hb; omega) (by intro b hb; have := hR b hb; omega)
    (fun k X W => BoxX 51 2 Sp.cells w w.heap.size (w1.heap.size + 2) ((List.range k).map L) X W)
    (fun c k X W => False)
    (fun k X G a W => ∃ b5, a.tmps.size = 13 ∧ a.defers = [] ∧ slot a 2 = .pointer (some ⟨w.heap.size, 0, none⟩) ∧ slot a 5 = .pointer (some ⟨b5, 0, none⟩) ∧ At W b5 [.int .i64 (L k).lo, .int .i64 (L k).hi] ∧ w1.heap.size + 2 ≤ b5 ∧ (∀ b, X b ∨ G b → b < b5))
    (fun k X X' A B h hk hX => h.kept hk (fun b hb hx => ⟨hx, by omega, by omega⟩) ⟨fun h' => by have := h.xge _ h'; omega, by omega, by omega⟩ (fun b hb => ⟨fun h' => by have := h.xge _ h'; omega, by omega, by omega⟩) hX)
    (fun c k X X' A B h hk hX => h.elim)
    (fun k X G a A B h hk => by
      obtain ⟨b5, h1, h2, h3, h4, h5, h6, h7⟩ := h
      exact ⟨b5, h1, h2, h3, h4, h5.kept hk (by omega), h6, h7⟩)
    (fun W hk hs => ⟨⟨_, (hk.cell (p := ⟨w.heap.size, 0, none⟩) trivial hbx.lt).trans hbx.w1.1, (hk.frozen (p := ⟨w.heap.size, 0, none⟩) trivial hbx.lt).trans hbx.w1.2, Own.nil _ _ _ _ _, by simp [Value.ownBlock]⟩, by omega, hb1.trans (hk.below (fun _ _ => trivial) hb1.size), fun b h => h.elim, by omega⟩)
    ?assign ?body ?done ?stop ?panic
  case stop => intro c k X W hk h; exact h.elim
  case assign =>
    rintro l k X G args W hi hz hk hXlt hXge hE
    rw [show args = _ from hE]
    have Hi := hide hi
    clear hi hE
    gi_wp2_with fail
    exact ⟨Kept.alloc _ _ _, Hi.out.kept (Kept.alloc (fun _ => True) _ _) (fun _ _ _ => trivial) trivial (fun _ _ => trivial) (fun _ h => .inl h), ⟨_, by first | rfl | trivial, by first | rfl | trivial, by first | rfl | trivial, by first | rfl | trivial, At.new W _ _ _ rfl _ rfl, hz, hXlt⟩⟩
  case body =>
    rintro l k X G a W hinv ⟨b5, hs, hd, s2, s5, hat, hb5, hXb⟩ hz hk hXlt hXge
    rw [act_eq hs hd]
    obtain ⟨u, hu⟩ : ∃ u, u = slot a := ⟨_, rfl⟩
    rw [← hu] at s2 s5 ⊢
    have he : ({ tmps := ((List.range 13).map u).toArray, defers := [] } : Act) = { tmps := #[(u 0), (u 1), (u 2), (u 3), (u 4), (u 5), (u 6), (u 7), (u 8), (u 9), (u 10), (u 11), (u 12)], defers := [] } := rfl
    rw [he, s2, s5]
    clear he hs hd hu s2 s5
    obtain ⟨v, hc, hf, ho, hn⟩ := hinv.own
    obtain ⟨c0, c1⟩ := hat.c2
    have Hinv := hide hinv; have Ho := hide ho; have Hn := hide hn; have Hc := hide hc; have Hf := hide hf; have HXlt := hide hXlt
    have hr := hide (Rd.new (cells := Sp.cells) W #[.int .i64 (L k).lo, .int .i64 (L k).hi] 51 [L k] rfl)
    have hlt := hinv.lt
    clear hinv ho hn hXlt hat
    gi_wp2_with (gi_at_builtin; go_loud (refine wpListIn_app (v := v) (xs := (List.range k).map L) (ys := [L k]) (n := 1) el_sp rfl (.tmp 8) (.tmp 10) rfl rfl (Ho.out.alloc _) rfl rfl hr.out (by simp; omega) (by simp; omega) ?_; intro vv wv hown1 hg1 hat1; have Hst := hide (BoxX.step (X' := X) Hinv.out Hc.out Hf.out Ho.out Hn.out (fun b h => .inl h) HXlt.out (below_new W _) hg1 hown1 hat1 (by omega) (Nat.le_refl _)); have hkk := ((Kept.all (fun _ => True) (below_new W _)).mono (fun _ _ _ => trivial)).trans ((Kept.grown hg1).mono (R' := fun b => ¬ v.ownBlock = some b) fun b _ hb e => hb e.symm); have hnv : ¬ v.ownBlock = some w.heap.size := (fun e => by have := (Ho.out.blockG e).1; omega); have hc1 := (hkk.cell (p := ⟨w.heap.size, 0, none⟩) hnv hlt).trans hc; have hf1 := (hkk.frozen (p := ⟨w.heap.size, 0, none⟩) hnv hlt).trans hf; obtain ⟨A1, c1', rfl, hrd1⟩ := hown1.rdn (k + 1) (by simp); clear hkk hown1 hg1 hat1 hrd1 c0 c1))
    refine ⟨Hst.out.2.mono fun b hb hr => ?_, by show BoxX _ _ _ _ _ _ ((List.range (k + 1)).map L) _ _; rw [htake k hk]; exact Hst.out.1⟩
    rcases hr with ⟨h1, h2⟩ | h1
    · exact ⟨fun e => by have := (Ho.out.blockG e).1; omega, h2⟩
    · exact ⟨fun e => Hn.out b e (.inl h1), fun e => by (rcases hXge b (.inl h1) with h2 | h2); exact h2.elim; (have e2 : b = w.heap.size := e); omega⟩
  case done =>
    intro hfin X W hinv hD
    obtain ⟨v, hc, hf, ho, hn⟩ := hinv.own
    have Hinv := hide hinv; have Ho := hide ho; have HD := hide hD
    clear hinv ho hn hD
    gi_wp2_with fail
    refine ⟨by simp, .inl ⟨_, _, rfl, run_takeDeferred HD.out, ?_⟩⟩
    refine ⟨_, results_tmp rfl _ _ _, ?_⟩
    have hk := Kept.putObj W w1.heap.size (.deferred none)
    exact .inl ⟨hfin, v, rfl, (Ho.out.keptG hk (fun g hg => by have := (Ho.out.blockG hg).1; omega)).mono (by omega), Hinv.out.bl.trans (hk.below (fun b hb => by omega) Hinv.out.bl.size)⟩
  case panic =>
    intro k chain X W hp hinv hD
    refine ⟨by simp, .inl ⟨_, _, rfl, run_takeDeferred hD, ?_⟩⟩
    exact .inr ⟨chain, k, rfl, hp, hinv.bl.trans ((Kept.putObj W w1.heap.size (.deferred none)).below (fun b hb => by omega) hinv.bl.size)⟩
theorem collect_sp (gf : Nat) (lb : Array Value) (L : Nat → Sp) (N : Nat) (fin : Prop) (Pn : Nat → List PanicEntry → Prop) (R : Nat → Prop) (w : World) (eg : ∀ args w, (callFunc gf args).run Try.prog w = .ok (.enter gf args) w)
    (hseq : ∀ n, 6 ≤ n → SeqXF n Try.prog gf lb (GivesS L) N fin Pn (fun _ => False) R w) (hR : ∀ b, R b → b < w.heap.size) (hlen : N ≤ 1000) :
    Calls Try.prog 111 #[.func (.func gf) #[] lb] w (CollPost fin Pn ((List.range N).map L) w) := by
  have H := hide (appendSeq_sp gf lb L N fin Pn R w eg hseq hR hlen)
  clear hseq eg
  go_enter Try.func111, Try.ntmps111
  go_wp2_with fail
  refine H.out.mono ?_
  rintro e w' (⟨hfin, v, rfl, ho, hb⟩ | ⟨chain, k, rfl, hp, hb⟩)
  · have Ho := hide ho
    clear ho
    go_wp2
    go_ret
    exact .inl ⟨hfin, v, rfl, Ho.out, hb⟩
  · exact ⟨rfl, .inr ⟨chain, k, rfl, hp, hb⟩⟩
end Go.Proofs.Ytgklcilpohkpkaa
