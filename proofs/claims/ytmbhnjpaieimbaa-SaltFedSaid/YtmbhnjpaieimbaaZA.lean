/- Salt: lists of soils, and how many minutes fields want: the plain word, and Wants by contract. -/
import Derived.Test.YtmbhnjpaieimbaaS10
import Derived.Test.YtmbhnjpaieimbaaW8
import Derived.Test.YtmbhnjpaieimbaaOpenS
import Derived.Test.YtmbhnjpaieimbaaApp
set_option linter.unusedVariables false
set_option linter.unusedSimpArgs false
namespace Go.Proofs.Ytmbhnjpaieimbaa
open Go.RowKit Go.Shelf
theorem So.one (s : So) : ∀ u ∈ s.cells, u.oneCell' = true := by simp [So.cells, Value.oneCell']
theorem Rd.so {w : World} {B : Nat} {A : Option Addr} {xs : List So} (h : Rd w B So.cells A xs) {i : Nat} (hi : i < xs.length) :
    ∃ b off a0 a1 li cr m0 m1 w0 w1 r0 r1, A = some ⟨b, off, none⟩ ∧ b < B ∧ xs[i]? = some ⟨⟨a0, a1⟩, li, cr, ⟨m0, m1⟩, ⟨w0, w1⟩, ⟨r0, r1⟩⟩ ∧ w.cell? ⟨b, off + i * 10, none⟩ = some (.int .i64 a0) ∧ w.cell? ⟨b, off + i * 10 + 1, none⟩ = some (.int .i64 a1) ∧ w.cell? ⟨b, off + i * 10 + 2, none⟩ = some (.int .i64 li) ∧ w.cell? ⟨b, off + i * 10 + 3, none⟩ = some (.int .i64 cr) ∧ w.cell? ⟨b, off + i * 10 + 4, none⟩ = some (.int .i64 m0) ∧ w.cell? ⟨b, off + i * 10 + 5, none⟩ = some (.int .i64 m1) ∧ w.cell? ⟨b, off + i * 10 + 6, none⟩ = some (.int .i64 w0) ∧ w.cell? ⟨b, off + i * 10 + 7, none⟩ = some (.int .i64 w1) ∧ w.cell? ⟨b, off + i * 10 + 8, none⟩ = some (.int .i64 r0) ∧ w.cell? ⟨b, off + i * 10 + 9, none⟩ = some (.int .i64 r1) := by
  obtain ⟨b, off, e, hB, hc⟩ := h (by omega)
  have hx : xs[i]? = some xs[i] := List.getElem?_eq_getElem hi
  have g := fun j (hj : j < 10) v hv => hc (i * 10 + j) v (by rw [flat_get So.len hx hj]; exact hv)
  exact ⟨b, off, _, _, _, _, _, _, _, _, _, _, e, hB, hx, g 0 (by omega) _ rfl, g 1 (by omega) _ rfl, g 2 (by omega) _ rfl, g 3 (by omega) _ rfl, g 4 (by omega) _ rfl, g 5 (by omega) _ rfl, g 6 (by omega) _ rfl, g 7 (by omega) _ rfl, g 8 (by omega) _ rfl, g 9 (by omega) _ rfl⟩
/-- slices.IndexFunc at soils: not below 0 just where one of them is so. -/
theorem indexfunc_So (f : FuncId) (cp : Array Value) (p : So → Bool) (A : Option Addr) (xs : List So) (n c : Nat) (w : World) (hn : n = xs.length) (hm : n ≤ 9223372036854775807)
    (eg : ∀ args w, (callFunc f args).run Try.prog w = .ok (.enter f args) w) (hx : Rd w w.heap.size So.cells A xs)
    (hf : ∀ a0 a1 li cr m0 m1 w0 w1 r0 r1 w', Below w.heap.size w w' → Calls Try.prog f (#[.agg #[.int .i64 a0, .int .i64 a1, .int .i64 li, .int .i64 cr, .int .i64 m0, .int .i64 m1, .int .i64 w0, .int .i64 w1, .int .i64 r0, .int .i64 r1]] ++ cp) w' fun e w'' => e = .returned (.bool (p ⟨⟨a0, a1⟩, li, cr, ⟨m0, m1⟩, ⟨w0, w1⟩, ⟨r0, r1⟩⟩)) ∧ Below w'.heap.size w' w'') :
    Calls Try.prog 101 #[.slice A n c, .func (.func f) #[] cp] w fun e w' => ∃ r : Int, e = .returned (.int .i64 r) ∧ decide (0 ≤ r) = xs.any p ∧ Below w.heap.size w w' := by
  have Hn := hide hn; clear hn
  have Hx := hide hx; clear hx
  have Hf := hide hf; clear hf
  go_enter Try.func101, Try.ntmps101
  go_wp2_with fail
  go_loopw [4, 8] (fun v i wr => ∃ k : Nat, k ≤ n ∧ i = .int .i64 k ∧ Below w.heap.size w wr ∧ Hid (∀ y ∈ xs.take k, p y = false)) (fun _ i _ => n - (intOf i).toNat)
  case atStart => exact ⟨0, by omega, rfl, Below.refl _ _, hide pre_nil⟩
  case round =>
    obtain ⟨k, hk, rfl, hb, hpre⟩ := hrel
    by_cases hlt : k < n
    · obtain ⟨b, off, a0, a1, li, cr, m0, m1, w0, w1, r0, r1, rfl, hB, hxk, c0, c1, c2, c3, c4, c5, c6, c7, c8, c9⟩ := (Hx.out.below hb).so (i := k) (by have := Hn.out; omega)
      have H := hide (Hf.out a0 a1 li cr m0 m1 w0 w1 r0 r1 wr hb)
      have Hxk := hide hxk; clear hxk
      go_wp2_with (go_at_fn f; refine H.out.mono ?_; rintro e w' ⟨rfl, hb'⟩)
      · go_ret
        have hp : p ⟨⟨a0, a1⟩, li, cr, ⟨m0, m1⟩, ⟨w0, w1⟩, ⟨r0, r1⟩⟩ = true := by assumption
        exact ⟨k, rfl, by rw [any_hit Hxk.out hp]; simp, hb.trans (hb'.mono hb.size)⟩
      · have hp : p ⟨⟨a0, a1⟩, li, cr, ⟨m0, m1⟩, ⟨w0, w1⟩, ⟨r0, r1⟩⟩ = false := by assumption
        exact ⟨⟨k + 1, by omega, by go_num, hb.trans (hb'.mono hb.size), hide (pre_snoc Hxk.out hp hpre.out)⟩, by simp [intOf]; omega⟩
    · go_wp2
      go_ret
      exact ⟨-1, rfl, by rw [any_miss (k := k) (by have := Hn.out; omega) hpre.out]; simp, hb⟩
theorem containsfunc_So (f : FuncId) (cp : Array Value) (p : So → Bool) (A : Option Addr) (xs : List So) (n c : Nat) (w : World) (hn : n = xs.length) (hm : n ≤ 9223372036854775807)
    (eg : ∀ args w, (callFunc f args).run Try.prog w = .ok (.enter f args) w) (hx : Rd w w.heap.size So.cells A xs)
    (hf : ∀ a0 a1 li cr m0 m1 w0 w1 r0 r1 w', Below w.heap.size w w' → Calls Try.prog f (#[.agg #[.int .i64 a0, .int .i64 a1, .int .i64 li, .int .i64 cr, .int .i64 m0, .int .i64 m1, .int .i64 w0, .int .i64 w1, .int .i64 r0, .int .i64 r1]] ++ cp) w' fun e w'' => e = .returned (.bool (p ⟨⟨a0, a1⟩, li, cr, ⟨m0, m1⟩, ⟨w0, w1⟩, ⟨r0, r1⟩⟩)) ∧ Below w'.heap.size w' w'') :
    Calls Try.prog 62 #[.slice A n c, .func (.func f) #[] cp] w fun e w' => e = .returned (.bool (xs.any p)) ∧ Below w.heap.size w w' := by
  have H := hide (indexfunc_So f cp p A xs n c w hn hm eg hx hf); clear hx hf hn eg
  go_enter Try.func62, Try.ntmps62
  go_wp2_with (go_at_call 101; refine H.out.mono ?_; rintro e w' ⟨r, rfl, hr, hb⟩; have Hr := hide hr; clear hr)
  go_ret
  exact ⟨by rw [← Hr.out]; rfl, hb⟩
theorem enters_wants1 : ∀ args w, (callFunc 63 args).run Try.prog w = .ok (.enter 63 args) w := enters_of Try.func63 (by kernel_rfl) rfl
theorem wants1_any (a0 a1 li cr m0 m1 w0 w1 r0 r1 : Int) (w : World) : Calls Try.prog 63 #[.agg #[.int .i64 a0, .int .i64 a1, .int .i64 li, .int .i64 cr, .int .i64 m0, .int .i64 m1, .int .i64 w0, .int .i64 w1, .int .i64 r0, .int .i64 r1]] w fun e w' => e = .returned (.bool (!(soOk ⟨⟨a0, a1⟩, li, cr, ⟨m0, m1⟩, ⟨w0, w1⟩, ⟨r0, r1⟩⟩))) ∧ Below w.heap.size w w' := by
  obtain ⟨b1, w1', e1, ew1, hx1, hb1, hz1⟩ := mk_bx w #[.int .i64 a0, .int .i64 a1, .int .i64 li, .int .i64 cr, .int .i64 m0, .int .i64 m1, .int .i64 w0, .int .i64 w1, .int .i64 r0, .int .i64 r1] 25
  have hck := salt_check a0 a1 li cr m0 m1 w0 w1 r0 r1 w1'
  go_enter Try.func63, Try.ntmps63
  go_wp2_with fail
  rw [ew1.out]
  refine hck.mono ?_
  rintro e w' ⟨rfl, hb⟩
  have hs : soOk ⟨⟨a0, a1⟩, li, cr, ⟨m0, m1⟩, ⟨w0, w1⟩, ⟨r0, r1⟩⟩ = true ∨ soOk ⟨⟨a0, a1⟩, li, cr, ⟨m0, m1⟩, ⟨w0, w1⟩, ⟨r0, r1⟩⟩ = false := by cases soOk ⟨⟨a0, a1⟩, li, cr, ⟨m0, m1⟩, ⟨w0, w1⟩, ⟨r0, r1⟩⟩ <;> simp
  rcases hs with hs | hs
  · have hc : soCheck ⟨⟨a0, a1⟩, li, cr, ⟨m0, m1⟩, ⟨w0, w1⟩, ⟨r0, r1⟩⟩ = 0 := by unfold soCheck; rw [hs]; rfl
    have Hs := hide hs
    rw [hc]
    clear hs hc
    go_wp2_with fail
    go_ret
    exact ⟨by rw [Hs.out]; rfl, hb1.trans (hb.mono hb1.size)⟩
  · have hc : soCheck ⟨⟨a0, a1⟩, li, cr, ⟨m0, m1⟩, ⟨w0, w1⟩, ⟨r0, r1⟩⟩ = 60 := by unfold soCheck; rw [hs]; rfl
    have Hs := hide hs
    rw [hc]
    clear hs hc
    go_wp2_with fail
    go_ret
    exact ⟨by rw [Hs.out]; rfl, hb1.trans (hb.mono hb1.size)⟩
/-! ### the plain word -/
/-- The first soils want these minutes. -/
structure WOk (cs : List Ca) (fs : List Int) (dry days a b : Int) (ss : List So) (k : Nat) (out : List Int) : Prop where
  len : out.length = k
  all : ∀ j, j < k → ∃ s n r, ss[j]? = some s ∧ needF s = (n, 0) ∧ minutesP cs fs dry days a b (j : Int) n r 0 ∧ out[j]? = some r
theorem WOk.nil {cs : List Ca} {fs : List Int} {dry days a b : Int} {ss : List So} : WOk cs fs dry days a b ss 0 [] := ⟨rfl, fun j hj => by omega⟩
theorem WOk.snoc {cs : List Ca} {fs : List Int} {dry days a b : Int} {ss : List So} {k : Nat} {out : List Int} {s : So} {n r : Int} (h : WOk cs fs dry days a b ss k out) (hs : ss[k]? = some s) (hn : needF s = (n, 0)) (hm : minutesP cs fs dry days a b (k : Int) n r 0) : WOk cs fs dry days a b ss (k + 1) (out ++ [r]) := by
  refine ⟨by rw [List.length_append, h.len]; rfl, fun j hj => ?_⟩
  by_cases hjk : j < k
  · obtain ⟨s', n', r', h1, h2, h3, h4⟩ := h.all j hjk
    exact ⟨s', n', r', h1, h2, h3, by rw [List.getElem?_append_left (by rw [h.len]; exact hjk)]; exact h4⟩
  · obtain rfl : j = k := by omega
    exact ⟨s, n, r, hs, hn, hm, by rw [List.getElem?_append_right (by rw [h.len]; exact Nat.le_refl _), h.len, Nat.sub_self]; rfl⟩
theorem WOk.one {cs : List Ca} {fs : List Int} {dry days a b : Int} {ss : List So} {k : Nat} {o p : List Int} (h : WOk cs fs dry days a b ss k o) (g : WOk cs fs dry days a b ss k p) : o = p := by
  refine List.ext_getElem? fun j => ?_
  by_cases hj : j < k
  · obtain ⟨s, n, r, h1, h2, h3, h4⟩ := h.all j hj
    obtain ⟨s', n', r', g1, g2, g3, g4⟩ := g.all j hj
    rw [h1] at g1; injection g1 with g1; subst g1
    rw [h2] at g2; injection g2 with g2 _; subst g2
    rw [h4, g4, (minutesP_one h3 g3).1]
  · rw [List.getElem?_eq_none (by rw [h.len]; omega), List.getElem?_eq_none (by rw [g.len]; omega)]
/-- Where it ends: at a soil that wants what is not to be had. -/
def WStop (cs : List Ca) (fs : List Int) (dry days a b : Int) (ss : List So) (k : Nat) : Prop := ∃ s, ss[k]? = some s ∧ ((needF s).2 = 6 ∨ ∃ n r e, needF s = (n, 0) ∧ minutesP cs fs dry days a b (k : Int) n r e ∧ e ≠ 0)
theorem WOk.stop {cs : List Ca} {fs : List Int} {dry days a b : Int} {ss : List So} {k j : Nat} {o : List Int} (h : WOk cs fs dry days a b ss k o) (g : WStop cs fs dry days a b ss j) : k ≤ j := by
  by_cases hj : j < k
  · exfalso
    obtain ⟨s, n, r, h1, h2, h3, _⟩ := h.all j hj
    obtain ⟨s', g1, g2⟩ := g
    rw [h1] at g1; injection g1 with g1; subst g1
    rcases g2 with g2 | ⟨n', r', e', g2, g3, g4⟩
    · rw [h2] at g2; cases g2
    · rw [h2] at g2; injection g2 with g2 _; subst g2
      exact g4 (minutesP_one h3 g3).2.symm
  · omega
/-- What Wants answers. -/
def wantsP (cs : List Ca) (fs : List Int) (dry days a b : Int) (ss : List So) (out : List Int) (i e : Int) : Prop :=
  if netOk cs fs dry days then (if Sp.ok 0 13000000 ⟨a, b⟩ then (if ss.length = fs.length ∧ ss.all soOk = true then
      (WOk cs fs dry days a b ss ss.length out ∧ i = 0 ∧ e = 0) ∨ (∃ (k : Nat) (o : List Int), out = [] ∧ i = k ∧ e = 6 ∧ WOk cs fs dry days a b ss k o ∧ WStop cs fs dry days a b ss k)
    else (out = [] ∧ i = 0 ∧ e = 61)) else (out = [] ∧ i = 0 ∧ e = 21)) else (out = [] ∧ i = 0 ∧ e = 50)
theorem wantsP_one {cs : List Ca} {fs : List Int} {dry days a b : Int} {ss : List So} {o p : List Int} {i e j f : Int} (h : wantsP cs fs dry days a b ss o i e) (g : wantsP cs fs dry days a b ss p j f) : o = p ∧ i = j ∧ e = f := by
  unfold wantsP at h g
  split at h
  · rename_i h1
    rw [if_pos h1] at g
    split at h
    · rename_i h2
      rw [if_pos h2] at g
      split at h
      · rename_i h3
        rw [if_pos h3] at g
        rcases h with ⟨a1, rfl, rfl⟩ | ⟨k, o1, rfl, rfl, rfl, a1, a2⟩ <;> rcases g with ⟨b1, rfl, rfl⟩ | ⟨l, p1, rfl, rfl, rfl, b1, b2⟩
        · exact ⟨a1.one b1, rfl, rfl⟩
        · have := a1.stop b2
          obtain ⟨s, hs, _⟩ := b2
          have := (List.getElem?_eq_some_iff.1 hs).1
          omega
        · have := b1.stop a2
          obtain ⟨s, hs, _⟩ := a2
          have := (List.getElem?_eq_some_iff.1 hs).1
          omega
        · have h5 := a1.stop b2
          have h6 := b1.stop a2
          exact ⟨rfl, by omega, rfl⟩
      · rename_i h3
        rw [if_neg h3] at g
        exact ⟨by rw [h.1, g.1], by rw [h.2.1, g.2.1], by rw [h.2.2, g.2.2]⟩
    · rename_i h2
      rw [if_neg h2] at g
      exact ⟨by rw [h.1, g.1], by rw [h.2.1, g.2.1], by rw [h.2.2, g.2.2]⟩
  · rename_i h1
    rw [if_neg h1] at g
    exact ⟨by rw [h.1, g.1], by rw [h.2.1, g.2.1], by rw [h.2.2, g.2.2]⟩
theorem needF_ok {s : So} (h : soOk s = true) : needF s = needR s ∧ ((needF s).2 = 0 ∨ (needF s).2 = 6) := by
  have e : needF s = needR s := by unfold needF; rw [if_pos h]
  refine ⟨e, ?_⟩
  rw [e]; unfold needR
  dsimp only
  split
  · exact .inl rfl
  · split
    · exact .inr rfl
    · split
      · exact .inl rfl
      · exact .inr rfl
theorem minutes_err {cs : List Ca} {fs : List Int} {dry days a b k want r e : Int} (h : minutesP cs fs dry days a b k want r e) (hok : netOk cs fs dry days = true) (hs : Sp.ok 0 13000000 ⟨a, b⟩ = true) : e = 0 ∨ e = 6 ∨ e = 2 := by
  unfold minutesP at h
  rw [if_pos hok, if_pos hs] at h
  split at h
  · rcases h with ⟨rfl, _⟩ | ⟨rfl, _⟩
    · exact .inr (.inl rfl)
    · exact .inl rfl
  · exact .inr (.inr h.2)
end Go.Proofs.Ytmbhnjpaieimbaa
namespace Go.Proofs.Ytmbhnjpaieimbaa
open Go.RowKit Go.Shelf
set_option maxHeartbeats 4000000 in
set_option maxRecDepth 100000 in
theorem wants_fn (Ac Af A : Option Addr) (nc cc nf cf n c : Nat) (dry days a b : Int) (cs : List Ca) (fs : List Int) (ss : List So) (w : World) (hnet : NetAt w Ac Af nc nf cs fs) (hn : n = ss.length) (hm : n ≤ 1000) (hx : Rd w w.heap.size So.cells A ss) :
    Calls Try.prog 23 #[.agg #[.slice Ac nc cc, .slice Af nf cf, .int .i64 dry, .int .i64 days], .agg #[.int .i64 a, .int .i64 b], .slice A n c] w fun e w' => ∃ v out i er, e = .returned (.tuple #[v, .int .i64 i, .int .i64 er]) ∧ Own w' w.heap.size 3 1 icell v out ∧ wantsP cs fs dry days a b ss out i er ∧ Below w.heap.size w w' := by
  obtain ⟨b3, w1, e3, ew1, hx3, hb1, hz1⟩ := mk_bx w #[.slice Ac nc cc, .slice Af nf cf, .int .i64 dry, .int .i64 days] 43
  obtain ⟨b4, w2, e4, ew2, hx4, hb2, hz2⟩ := mk_bx w1 #[.int .i64 a, .int .i64 b] 23
  have e34 : b3 + 1 = b4 := by have := e4.out; omega
  have hB2 := hb1.trans (hb2.mono hb1.size)
  have N2 := hnet.below hB2; have r2 := hx.bel hB2
  replace hx3 := hx3.bel hb2
  have Hn := hide hn
  clear hn hnet hx hb1 hb2 hz1 hz2
  go_enter Try.func23, Try.ntmps23
  go_wp2_with fail
  rw [ew1.out, e3.out, e34, ew2.out]
  obtain ⟨q0, q1, q2, q3⟩ := hx3.at_.c4
  refine (chanCheck_any Ac Af nc cc nf cf dry days cs fs w2 N2).mono ?_
  rintro e w3 ⟨rfl, hb3⟩
  have hB3 := hB2.trans (hb3.mono hB2.size)
  replace hx3 := hx3.bel hb3; replace hx4 := hx4.bel hb3; replace N2 := N2.below hb3; replace r2 := r2.bel hb3
  clear q0 q1 q2 q3 hb3 hB2
  unfold netErr
  cases hok : netOk cs fs dry days
  · have Hok := hide hok
    clear hok
    rw [if_neg (by decide)]
    go_wp2_with fail
    go_ret3
    exact ⟨_, [], 0, 50, rfl, Own.nil _ _ _ _ _, by unfold wantsP; rw [Hok.out]; exact ⟨rfl, rfl, rfl⟩, hB3⟩
  have Hok := hide hok
  clear hok
  rw [if_pos rfl]
  obtain ⟨p0, p1, _, _⟩ := hx4.w2
  go_wp2_with fail
  refine (salt_proper _ _ _ _).mono ?_
  rintro e w4 ⟨rfl, hb4⟩
  have hB4 := hB3.trans (hb4.mono hB3.size)
  replace hx3 := hx3.bel hb4; replace hx4 := hx4.bel hb4; replace N2 := N2.below hb4; replace r2 := r2.bel hb4
  clear p0 p1 hb4 hB3
  cases hsp : Sp.ok 0 13000000 ⟨a, b⟩
  · have Hsp := hide hsp
    clear hsp
    go_wp2_with fail
    go_ret3
    exact ⟨_, [], 0, 21, rfl, Own.nil _ _ _ _ _, by unfold wantsP; rw [Hok.out, Hsp.out]; exact ⟨rfl, rfl, rfl⟩, hB4⟩
  have Hsp := hide hsp
  clear hsp
  obtain ⟨q0, q1, q2, q3⟩ := hx3.at_.c4
  have hnf := N2.nf2
  by_cases hnn : n = nf
  rotate_left
  · have h1 : ((n : Int) == (nf : Int)) = false := by simp; omega
    have h2 : ((n : Int) != (nf : Int)) = true := by simp; omega
    have Hq := hide (show ¬ (ss.length = fs.length ∧ ss.all soOk = true) by rintro ⟨h, _⟩; have := N2.ef; have := Hn.out; omega)
    clear hnn
    go_wp2_with fail
    go_ret3
    exact ⟨_, [], 0, 61, rfl, Own.nil _ _ _ _ _, by unfold wantsP; rw [if_pos Hok.out, if_pos Hsp.out, if_neg Hq.out]; exact ⟨rfl, rfl, rfl⟩, hB4⟩
  have h1 : ((n : Int) == (nf : Int)) = true := by simp; omega
  have h2 : ((n : Int) != (nf : Int)) = false := by simp; omega
  have hlen := hide (show ss.length = fs.length by have := N2.ef; have := Hn.out; omega)
  clear hnn
  go_wp2_with fail
  refine (containsfunc_So 63 #[] (fun s => !(soOk s)) A ss n c w4 Hn.out (by omega) enters_wants1 r2 (fun a0 a1 li cr m0 m1 w0 w1 r0 r1 w' _ => wants1_any a0 a1 li cr m0 m1 w0 w1 r0 r1 w')).mono ?_
  rintro e w5 ⟨rfl, hb5⟩
  have hB5 := hB4.trans (hb5.mono hB4.size)
  replace hx3 := hx3.bel hb5; replace hx4 := hx4.bel hb5; replace N2 := N2.below hb5; replace r2 := r2.bel hb5
  clear q0 q1 q2 q3 hb5 hB4 h1 h2
  cases hany : ss.any (fun s => !(soOk s))
  rotate_left
  · have Hq := hide (show ¬ (ss.length = fs.length ∧ ss.all soOk = true) by
      rintro ⟨_, h⟩
      obtain ⟨s, hs, h1⟩ := List.any_eq_true.1 hany
      rw [List.all_eq_true.1 h s hs] at h1
      cases h1)
    clear hany
    go_wp2_with fail
    go_ret3
    exact ⟨_, [], 0, 61, rfl, Own.nil _ _ _ _ _, by unfold wantsP; rw [if_pos Hok.out, if_pos Hsp.out, if_neg Hq.out]; exact ⟨rfl, rfl, rfl⟩, hB5⟩
  have Hso := hide (show ∀ s ∈ ss, soOk s = true by
    intro s hs
    have h := List.any_eq_false.1 hany s hs
    cases hh : soOk s
    · rw [hh] at h; exact absurd rfl h
    · rfl)
  have Hall := hide (show ss.length = fs.length ∧ ss.all soOk = true from ⟨hlen.out, List.all_eq_true.2 Hso.out⟩)
  have X3 := hide hx3; have X4 := hide hx4; have N5 := hide N2; have R5 := hide r2
  obtain ⟨w6, rfl⟩ : ∃ w6, w6 = w5 := ⟨w5, rfl⟩
  have hbs := hx4.lt
  clear hany hx3 hx4 N2 r2
  go_wp2_with fail
  go_loopw [6, 35] (fun v i wr => ∃ (k : Nat) (out : List Int), k ≤ n ∧ i = .int .i64 k ∧ Hid (WOk cs fs dry days a b ss k out) ∧ Hid (Own wr w6.heap.size 3 1 icell v out) ∧ Below w6.heap.size w6 wr) (fun _ i _ => n - (intOf i).toNat)
  case atStart => exact ⟨0, [], by omega, rfl, hide WOk.nil, hide (Own.nil _ _ _ _ _), Below.refl _ _⟩
  case round =>
    obtain ⟨k, out, hk, rfl, HW, HO, hb⟩ := hrel
    have HB := hide (hB5.trans (hb.mono hB5.size))
    by_cases hlt : k < n
    · obtain ⟨b7, off, a0, a1, li, cr, m0, m1, w0, w1', r0, r1, hA, hBB, hxk, c0, c1, c2, c3, c4, c5, c6, c7, c8, c9⟩ := (R5.out.bel hb).so (i := k) (by have := Hn.out; omega)
      subst hA
      obtain ⟨b11, w7, e11, ew11, hx11, hb7, hz7⟩ := mk_bx wr #[.int .i64 a0, .int .i64 a1, .int .i64 li, .int .i64 cr, .int .i64 m0, .int .i64 m1, .int .i64 w0, .int .i64 w1', .int .i64 r0, .int .i64 r1] 25
      have Hxk := hide hxk
      obtain ⟨hnr, hne⟩ := needF_ok (Hso.out _ (List.mem_of_getElem? hxk))
      obtain ⟨nv, ne, hnv⟩ : ∃ nv ne, needF ⟨⟨a0, a1⟩, li, cr, ⟨m0, m1⟩, ⟨w0, w1'⟩, ⟨r0, r1⟩⟩ = (nv, ne) := ⟨_, _, rfl⟩
      rw [hnv] at hne
      have Hnv := hide hnv
      have Hb := hide hb
      have ik : (k : Int) < (n : Int) := by omega
      clear hxk hnr hnv hb
      go_wp2_with fail
      rw [ew11.out]
      refine (need_fn a0 a1 li cr m0 m1 w0 w1' r0 r1 w7).mono ?_
      rintro e w8 ⟨rfl, hb8⟩
      rw [Hnv.out]
      have h58 := (Hb.out.trans (hb7.mono Hb.out.size)).trans (hb8.mono (Hb.out.trans (hb7.mono Hb.out.size)).size)
      have HB8 := hide (hB5.trans (h58.mono hB5.size))
      clear c0 c1 c2 c3 c4 c5 c6 c7 c8 c9 hz7
      rcases hne with hne | hne
      rotate_left
      · subst hne
        go_wp2_with fail
        go_ret3
        exact ⟨_, [], k, 6, rfl, Own.nil _ _ _ _ _, by
          unfold wantsP
          rw [if_pos Hok.out, if_pos Hsp.out, if_pos Hall.out]
          exact .inr ⟨k, out, rfl, rfl, rfl, HW.out, _, Hxk.out, .inl (by rw [Hnv.out])⟩, HB8.out⟩
      subst hne
      obtain ⟨q0, q1, q2, q3⟩ := (X3.out.bel h58).at_.c4
      obtain ⟨p0, p1, _, _⟩ := (X4.out.bel h58).w2
      go_wp2_with fail
      refine (minutes_fn Ac Af nc cc nf cf dry days a b k nv cs fs w8 (N5.out.below h58)).mono ?_
      rintro e w9 ⟨r, er, rfl, hmin, hb9⟩
      have h59 := h58.trans (hb9.mono h58.size)
      have hre := minutes_err hmin Hok.out Hsp.out
      have Hmin := hide hmin
      have HB9 := hide (hB5.trans (h59.mono hB5.size))
      clear q0 q1 q2 q3 p0 p1 hmin
      by_cases he0 : er = 0
      · subst he0
        clear hre
        obtain ⟨Ao, co, rfl, ro⟩ := HO.out.rdn k HW.out.len
        have h79 := hb7.trans ((hb8.trans (hb9.mono hb8.size)).mono hb7.size)
        have O9 := hide (HO.out.bel h79)
        have hsz := h59.size
        clear ro
        go_wp2_with (at_builtin; refine wpList_app1 (v := .slice Ao k co) (xs := out) (base := w6.heap.size) (k := 1) (bytes := 8) (E := 3) el_int rfl (.tmp 60) (.tmp 62) rfl rfl rfl O9.out r rfl (by have := HW.out.len; omega) hsz ?_; intro v' w10 o10 k10; have O10 := hide o10; have K10 := hide k10; clear o10 k10)
        refine ⟨⟨k + 1, out ++ [r], by omega, by go_num, hide (HW.out.snoc Hxk.out Hnv.out Hmin.out), O10, below_keptB h59 K10.out (Nat.le_refl _) h59.size⟩, by simp [intOf]; omega⟩
      · have he1 : (er == 0) = false := by simp [he0]
        have he2 : (er != 0) = true := by simp [he0]
        have He0 := hide he0
        clear he0
        go_wp2_with fail
        go_ret3
        exact ⟨_, [], k, 6, rfl, Own.nil _ _ _ _ _, by
          unfold wantsP
          rw [if_pos Hok.out, if_pos Hsp.out, if_pos Hall.out]
          exact .inr ⟨k, out, rfl, rfl, rfl, HW.out, _, Hxk.out, .inr ⟨nv, r, er, Hnv.out, Hmin.out, He0.out⟩⟩, HB9.out⟩
    · obtain rfl : n = k := by omega
      go_wp2_with fail
      go_ret3
      exact ⟨_, out, 0, 0, rfl, HO.out.mono hB5.size, by
        unfold wantsP
        rw [if_pos Hok.out, if_pos Hsp.out, if_pos Hall.out]
        exact .inl ⟨by rw [← Hn.out]; exact HW.out, rfl, rfl⟩, HB.out⟩
end Go.Proofs.Ytmbhnjpaieimbaa
