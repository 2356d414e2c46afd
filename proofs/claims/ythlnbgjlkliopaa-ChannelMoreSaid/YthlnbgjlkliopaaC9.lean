/- Channel: what one path has and the other has not, by contract. -/
import Derived.Test.YthlnbgjlkliopaaC8
import Derived.Test.YthlnbgjlkliopaaC7
import Derived.Handy
set_option linter.unusedVariables false
set_option linter.unusedSimpArgs false
namespace Go.Proofs.Ythlnbgjlkliopaa
open Go.RowKit Go.Shelf
attribute [local go_sem] Oper.semAt_some
set_option maxHeartbeats 4000000 in
set_option maxRecDepth 100000 in
theorem only_any (Ac Af : Option Addr) (nc cc nf cf : Nat) (dry days : Int) (cs : List Ca) (fs : List Int) (one other : Int) (bx bn : Nat) (w : World) (hnet : NetAt w Ac Af nc nf cs fs) (hok : netOk cs fs dry days = true)
    (hx : At w bx [.slice Ac nc cc, .slice Af nf cf, .int .i64 dry, .int .i64 days]) (hn : At w bn [.slice Ac nc cc, .slice Af nf cf, .int .i64 dry, .int .i64 days]) (h0 : 0 ≤ one) (h1 : one < nf) (k0 : 0 ≤ other) (k1 : other < nf) :
    Calls Try.prog 31 #[.int .i64 one, .int .i64 other, .pointer (some ⟨bx, 0, none⟩), .pointer (some ⟨bn, 0, none⟩)] w fun e w' => ∃ v, e = .returned v ∧ Own w' w.heap.size 3 1 icell v (onlyK cs fs one other cs.length) ∧ Below w.heap.size w w' := by
  obtain ⟨w1, Hw1⟩ : ∃ w1, Hid ((w.alloc (.map #[] 0)).alloc (.cells #[.map (some w.heap.size)] 77) = w1) := ⟨_, hide rfl⟩
  have hb1 : Below w.heap.size w w1 := by rw [← Hw1.out]; exact (below_new _ _).alloc (by simp) _
  have hz1 : w1.heap.size = w.heap.size + 2 := by rw [← Hw1.out]; simp
  have hinv1 : MapBox w (w.heap.size + 1) w.heap.size 0 (fun _ => none) w1 := by
    rw [← Hw1.out]
    refine ⟨At.new (w.alloc _) #[.map (some w.heap.size)] _ _ (by simp) _ rfl, ⟨0, (Mp.made w Try.prog 3 4 ldB).alloc _⟩, (below_new _ _).alloc (by simp) _⟩
  have hx1 := hx.below hb1
  obtain ⟨q0, q1, q2, q3⟩ := hx1.c4
  rw [← Hw1.out] at q0 q1 q2 q3
  have hmm := @run_makeMap Try.prog
  obtain ⟨w2, Hw2⟩ : ∃ w2, Hid ((w1.alloc (.cells #[.slice Ac nc cc, .slice Af nf cf, .int .i64 dry, .int .i64 days] 70)).alloc (.cells #[.int .i64 one] 3) = w2) := ⟨_, hide rfl⟩
  have hb2 : Below w1.heap.size w1 w2 := by rw [← Hw2.out]; exact (below_new _ _).alloc (by simp) _
  have hz2 : w2.heap.size = w1.heap.size + 2 := by rw [← Hw2.out]; simp
  have hb02 := hb1.trans (hb2.mono hb1.size)
  have hnet2 : At w2 w1.heap.size [.slice Ac nc cc, .slice Af nf cf, .int .i64 dry, .int .i64 days] := by rw [← Hw2.out]; exact (At.new w1 #[.slice Ac nc cc, .slice Af nf cf, .int .i64 dry, .int .i64 days] _ _ rfl _ rfl).alloc _
  have hfd2 : At w2 (w1.heap.size + 1) [.int .i64 one] := by rw [← Hw2.out]; exact At.new (w1.alloc _) #[.int .i64 one] _ _ (by simp) _ rfl
  obtain ⟨j1, rfl⟩ : ∃ j : Nat, one = j := ⟨one.toNat, by omega⟩
  have hj := nodeF_of hok (k := j1) (by have := hnet.ef; omega)
  have hseq := fun n hn => up1_seq n hn w.heap.size w1.heap.size (w1.heap.size + 1) Ac Af nc cc nf cf dry days cs fs j1 (nodeF fs j1) w2 (by omega) (by omega) (by omega) hnet2 hfd2 (hnet.rc.below hb02) (hnet.rf.below hb02) hnet.ec hnet.ef hnet.nc2 hnet.nf2 (netOk_frm hok) hj.1 hj.2
  have i1 : w.heap.size + 1 < w1.heap.size := by omega
  have i2 : w1.heap.size + 1 < w2.heap.size := by omega
  have hR : ∀ b, (b < w.heap.size ∨ b = w1.heap.size ∨ b = w1.heap.size + 1) → b < w2.heap.size ∧ ¬ b = w.heap.size := by intro b hb; omega
  have hul : (upF cs (nodeF fs j1) (nodeF fs j1)).length ≤ 16 := upK_len cs fs hok (k := (j1 : Int)) h0 (by rw [← hnet.ef]; exact h1)
  have hur : ∀ x ∈ upF cs (nodeF fs j1) (nodeF fs j1), okI x := fun x hx => by
    have h2 := upK_okI hok (k := (j1 : Int)) h0 (by rw [← hnet.ef]; exact h1) hx
    have := hnet.ec; have := hnet.nc2
    unfold okI; omega
  have Hul := hide hul; have Hur := hide hur
  clear hz1 hz2 hul hur
  have hinv2 := hinv1.kept (Kept.all (fun _ => True) hb2) trivial trivial (fun _ _ => trivial)
  refine (callsIn_wide (n := 9)).1 ?_
  refine callsIn_of_wp_marks Try.func31 rfl trivial ?_ rfl
  simp only [Try.ntmps31, List.size_toArray, List.length_cons, List.length_nil, Nat.reduceAdd, Nat.reduceSub, Array.replicate_succ, Array.replicate_zero, List.push_toArray, List.append_toArray, List.nil_append, List.cons_append]
  gi_wp2_with fail
  rw [Hw1.out]
  refine ⟨trivial, (callsIn_wide.2 (up_any Ac Af nc cc nf cf dry days j1 w1)).mono ?_⟩
  rintro e w3 ⟨rfl, hw3⟩
  rw [Hw2.out] at hw3
  subst hw3
  clear hmm q0 q1 q2 q3
  gi_wp2_with fail
  obtain ⟨L, hL⟩ : ∃ L, L = upF cs (nodeF fs j1) (nodeF fs j1) := ⟨_, rfl⟩
  rw [← hL] at hseq Hul Hur
  have HL := hide hL
  clear hL hj hfd2 hnet2 hinv1 hx1
  have E1 := hide enters_up1
  refine wp_range (gf := 54) rfl E1.out (hseq _ (by omega)) (Kept.all _ (Below.refl _ _)) (fun _ => rfl) (fun b => b = w.heap.size)
    (fun b h => h.elim) (by intro b hb; omega) hR
    (fun k W => MapBox w (w.heap.size + 1) w.heap.size k (setF (L.take k)) W)
    (fun c k W => False)
    (fun k a' W => a' = { tmps := #[.int .i64 j1, .int .i64 other, .pointer (some ⟨bx, 0, none⟩), .pointer (some ⟨bn, 0, none⟩), undef, undef, .slice none 0 0, .pointer (some ⟨w.heap.size + 1, 0, none⟩), .int .i64 (L.getD k 0), undef, undef, .map (some w.heap.size), .agg #[.slice Ac nc cc, .slice Af nf cf, .int .i64 dry, .int .i64 days], .int .i64 j1, .func (.func 54) #[] #[.pointer (some ⟨w1.heap.size, 0, none⟩), .pointer (some ⟨w1.heap.size + 1, 0, none⟩)], .int .i64 (L.getD k 0), undef, undef, undef, undef, undef, undef, undef, undef, undef, undef, undef, undef, undef, undef, undef, undef, undef, undef, undef, undef, undef, undef, undef], defers := [] })
    (fun k A B h hk => h.kept hk ⟨fun h => h, by omega, by omega⟩ ⟨fun h => h, by omega, by omega⟩ (by intro b hb; exact ⟨fun h => h, by omega, by omega⟩))
    (fun c k A B h hk => h) (fun k a' A B h hk => h)
    (fun W hk hs => by
      have h := hinv2.kept hk trivial trivial (fun _ _ => trivial)
      exact ⟨h.box, let ⟨s, hs⟩ := h.mp; ⟨s, hs.congr (fun k => by simp [setF])⟩, h.bl⟩)
    (fun h => h.elim) ?assign ?body ?done ?stop ?panic
  case panic => intro k chain W h; exact h.elim
  case stop => intro c k W hk h; exact h.elim
  case assign =>
    intro l k W hi hlen' hk
    gi_wp2
    exact ⟨Kept.refl _ _, hi, by rw [show L.getD k 0 = L[k] from by simp [List.getD_eq_getElem?_getD, hk]]⟩
  case body =>
    rintro l k a' W hinv rfl hlen' hkn
    have hx : L[k]? = some (L.getD k 0) := by rw [List.getD_eq_getElem?_getD, List.getElem?_eq_getElem hkn]; rfl
    obtain ⟨x, hxe⟩ : ∃ x, x = L.getD k 0 := ⟨_, rfl⟩
    rw [← hxe] at hx ⊢
    have Hx := hide hx
    obtain ⟨s, hmp⟩ := hinv.mp
    have Hmp := hide hmp; have Hinv := hide hinv
    have c0 := hinv.box.c1
    have hk17 : k < 1000000 := by have := Hul.out; omega
    have Hok := hide (Hur.out x (List.mem_of_getElem? hx))
    clear hx hxe hmp hinv
    gi_wp2_with (gi_at_mapUpdate; refine wpListIn_mapWrite rfl _ _ _ rfl mapB Hmp.out hk17 rfl x rfl Hok.out true rfl trivial ?_; intro w5 hmp5 hg5)
    have hp := Hinv.out.put (f' := setF (L.take (k + 1))) hmp5 hg5 (by omega) (Nat.le_refl _) (fun j => by rw [take_snoc Hx.out]; exact setF_snoc _ _ _)
    exact ⟨hp.2.mono fun b _ hb => hb.2, hp.1⟩
  case done =>
    intro W hinv hD
    rw [List.take_length] at hinv
    obtain ⟨D1, hD1⟩ : ∃ D1, D1 = w3.heap.size := ⟨_, rfl⟩
    rw [← hD1] at hD ⊢
    have hD1b : w1.heap.size + 1 < D1 := by omega
    have hDlt : D1 < W.heap.size := (Array.getElem?_eq_some_iff.1 hD).1
    have HD := hide hD
    have Hinv := hide hinv
    have hbW := hinv.bl
    obtain ⟨q0, q1, q2, q3⟩ := (hx.below hbW).c4
    obtain ⟨j2, rfl⟩ : ∃ j : Nat, other = j := ⟨other.toNat, by omega⟩
    obtain ⟨w4, Hw4⟩ : ∃ w4, Hid ((W.alloc (.cells #[.slice Ac nc cc, .slice Af nf cf, .int .i64 dry, .int .i64 days] 70)).alloc (.cells #[.int .i64 j2] 3) = w4) := ⟨_, hide rfl⟩
    have hb4 : Below W.heap.size W w4 := by rw [← Hw4.out]; exact (below_new _ _).alloc (by simp) _
    have hz4 : w4.heap.size = W.heap.size + 2 := by rw [← Hw4.out]; simp
    have hb04 := hbW.trans (hb4.mono hbW.size)
    have hnet4 : At w4 W.heap.size [.slice Ac nc cc, .slice Af nf cf, .int .i64 dry, .int .i64 days] := by rw [← Hw4.out]; exact (At.new W #[.slice Ac nc cc, .slice Af nf cf, .int .i64 dry, .int .i64 days] _ _ rfl _ rfl).alloc _
    have hfd4 : At w4 (W.heap.size + 1) [.int .i64 j2] := by rw [← Hw4.out]; exact At.new (W.alloc _) #[.int .i64 j2] _ _ (by simp) _ rfl
    have hj2 := nodeF_of hok (k := j2) (by have := hnet.ef; omega)
    have hseq2 := fun n hn => up1_seq n hn w.heap.size W.heap.size (W.heap.size + 1) Ac Af nc cc nf cf dry days cs fs j2 (nodeF fs j2) w4 (by have := hbW.size; omega) (by omega) (by omega) hnet4 hfd4 (hnet.rc.below hb04) (hnet.rf.below hb04) hnet.ec hnet.ef hnet.nc2 hnet.nf2 (netOk_frm hok) hj2.1 hj2.2
    have i3 : W.heap.size + 1 < w4.heap.size := by omega
    have i4 : w.heap.size + 1 < W.heap.size := by omega
    have hR2 : ∀ b, (b < w.heap.size ∨ b = W.heap.size ∨ b = W.heap.size + 1) → b < w4.heap.size ∧ ¬ b = w.heap.size := by intro b hb; omega
    have Hul2 := hide (upK_len cs fs hok (k := (j2 : Int)) k0 (by rw [← hnet.ef]; exact k1))
    have Hur2 := hide (fun (x : Int) (hx : x ∈ upF cs (nodeF fs j2) (nodeF fs j2)) => show okI x by
      have h2 := upK_okI hok (k := (j2 : Int)) k0 (by rw [← hnet.ef]; exact k1) hx
      have := hnet.ec; have := hnet.nc2
      unfold okI; omega)
    have HD4 := hide ((hb4.block _ hDlt).trans hD)
    have hinv4 := hinv.kept (Kept.all (fun _ => True) hb4) trivial trivial (fun _ _ => trivial)
    clear hz4 hinv hD hj2 hfd4 hnet4 hD1
    gi_wp2_with fail
    refine ⟨trivial, (callsIn_wide.2 (up_any Ac Af nc cc nf cf dry days j2 W)).mono ?_⟩
    rintro e w5 ⟨rfl, hw5⟩
    rw [Hw4.out] at hw5
    subst hw5
    clear q0 q1 q2 q3
    gi_wp2_with fail
    obtain ⟨M, hM⟩ : ∃ M, M = upF cs (nodeF fs j2) (nodeF fs j2) := ⟨_, rfl⟩
    rw [← hM] at hseq2 Hur2
    have HM := hide hM
    clear hM
    refine wp_range (gf := 54) rfl E1.out (hseq2 _ (by omega)) (Kept.all _ (Below.refl _ _)) (fun _ => rfl) (fun b => b = w.heap.size)
      (fun b h => h.elim) (by intro b hb; omega) hR2
      (fun k W => MapBox w (w.heap.size + 1) w.heap.size L.length (setLess L (M.take k)) W ∧ W.heap[D1]? = some (.deferred (some [])))
      (fun c k W => False)
      (fun k a' _ => a' = { tmps := #[.int .i64 j1, .int .i64 j2, .pointer (some ⟨bx, 0, none⟩), .pointer (some ⟨bn, 0, none⟩), undef, undef, .slice none 0 0, .pointer (some ⟨w.heap.size + 1, 0, none⟩), undef, .int .i64 (M.getD k 0), undef, .map (some w.heap.size), .agg #[.slice Ac nc cc, .slice Af nf cf, .int .i64 dry, .int .i64 days], .int .i64 j1, .func (.func 54) #[] #[.pointer (some ⟨w1.heap.size, 0, none⟩), .pointer (some ⟨w1.heap.size + 1, 0, none⟩)], undef, undef, undef, .agg #[.slice Ac nc cc, .slice Af nf cf, .int .i64 dry, .int .i64 days], .int .i64 j2, .func (.func 54) #[] #[.pointer (some ⟨W.heap.size, 0, none⟩), .pointer (some ⟨W.heap.size + 1, 0, none⟩)], .int .i64 (M.getD k 0), undef, undef, undef, undef, undef, undef, undef, undef, undef, undef, undef, undef, undef, undef, undef, undef, undef], defers := [] })
      (fun k A B h hk => ⟨h.1.kept hk ⟨fun h => h, by omega, by omega⟩ ⟨fun h => h, by omega, by omega⟩ (by intro b hb; exact ⟨fun h => h, by omega, by omega⟩), (hk.same D1 ⟨fun h => h, by omega, by omega⟩ (Array.getElem?_eq_some_iff.1 h.2).1).trans h.2⟩)
      (fun c k A B h hk => h) (fun k a' A B h hk => h)
      (fun W hk hs => by
        have h := hinv4.kept hk trivial trivial (fun _ _ => trivial)
        exact ⟨⟨h.box, let ⟨s, hs⟩ := h.mp; ⟨s, hs.congr (fun k => setLess_nil _ _)⟩, h.bl⟩, (hk.same D1 trivial (Array.getElem?_eq_some_iff.1 HD4.out).1).trans HD4.out⟩)
      (fun h => h.elim) ?assign2 ?body2 ?done2 ?stop2 ?panic2
    case panic2 => intro k chain W h; exact h.elim
    case stop2 => intro c k W hk h; exact h.elim
    case assign2 =>
      intro l k W hi hlen' hk
      gi_wp2
      exact ⟨Kept.refl _ _, hi, by rw [show M.getD k 0 = M[k] from by simp [List.getD_eq_getElem?_getD, hk]]⟩
    case body2 =>
      rintro l k a' W' ⟨hinv, hD'⟩ rfl hlen' hkn
      have hx : M[k]? = some (M.getD k 0) := by rw [List.getD_eq_getElem?_getD, List.getElem?_eq_getElem hkn]; rfl
      obtain ⟨x, hxe⟩ : ∃ x, x = M.getD k 0 := ⟨_, rfl⟩
      rw [← hxe] at hx ⊢
      have Hx := hide hx
      obtain ⟨s, hmp⟩ := hinv.mp
      have Hmp := hide hmp; have Hinv := hide hinv; have HD' := hide hD'
      have c0 := hinv.box.c1
      have Hok := hide (Hur2.out x (List.mem_of_getElem? hx))
      clear hx hxe hmp hinv hD'
      gi_wp2_with (gi_at_delete; refine wpListIn_mapDrop rfl _ _ rfl mapB Hmp.out rfl x rfl Hok.out ?_; intro w6 hmp6 hg6)
      have hp := Hinv.out.put (f' := setLess L (M.take (k + 1))) hmp6 hg6 (by omega) (Nat.le_refl _) (fun j => by rw [take_snoc Hx.out]; exact setLess_snoc _ _ _ _)
      exact ⟨hp.2.mono fun b _ hb => hb.2, hp.1, (hp.2.same D1 (by omega) (Array.getElem?_eq_some_iff.1 HD'.out).1).trans HD'.out⟩
    case done2 =>
      rintro W3 ⟨hinv, hDa⟩ hDb
      rw [List.take_length] at hinv
      obtain ⟨D2, hD2⟩ : ∃ D2, D2 = w5.heap.size := ⟨_, rfl⟩
      rw [← hD2] at hDb ⊢
      have hd12 : W.heap.size < D2 := by omega
      have HDa := hide hDa; have HDb := hide hDb; have Hinv3 := hide hinv
      have hb3 := hinv.bl
      have hnb := hn.below hb3
      obtain ⟨q0, q1, q2, q3⟩ := hnb.c4
      have l1 : D1 < W3.heap.size := (Array.getElem?_eq_some_iff.1 hDa).1
      have l2 : D2 < W3.heap.size := (Array.getElem?_eq_some_iff.1 hDb).1
      have hnc := hnet.nc2
      clear hDa hDb hinv hD2
      gi_wp2_with fail
      gi_loopw [6, 27] (fun v i wr => ∃ k : Nat, i = .int .i64 k ∧ k ≤ nc ∧ Own wr W3.heap.size 3 1 icell v (onlyK cs fs j1 j2 k) ∧ Kept (fun b => b < W3.heap.size) W3 wr) (fun _ i _ => nc - (intOf i).toNat)
      case atStart => exact ⟨0, rfl, by omega, Own.nil _ _ _ _ _, Kept.refl _ _⟩
      case round =>
        obtain ⟨k, rfl, hk, hown, hkp⟩ := hrel
        have hinv := Hinv3.out.kept hkp (by omega) (by omega) (fun b hb => by have := hb3.size; omega)
        obtain ⟨s, hmp⟩ := hinv.mp
        have Hmp := hide hmp; have Hinv := hide hinv; have Hown := hide hown; have Hkp := hide hkp
        have c0 := hinv.box.c1
        have hsz := hkp.size
        clear hmp hinv hown hkp
        by_cases hlt : k < nc
        · have Hk := hide (show okI (k : Int) by unfold okI; omega)
          have hst := onlyK_succ cs fs j1 j2 k
          have hLM : setLess (upK cs fs j1) (upK cs fs j2) k = setLess L M k := by rw [HL.out, HM.out]; rfl
          rw [hLM] at hst
          have Hst := hide hst
          have Hlen := hide (onlyK_len cs fs j1 j2 k)
          clear hst hLM
          cases hb : (setLess L M k).getD false
          · have Hb := hide hb; clear hb
            gi_wp2_with (gi_at_lookup; refine wpListIn_mapRead rfl _ _ rfl mapB Hmp.out rfl k rfl Hk.out ?_; rw [Hb.out])
            refine ⟨⟨k + 1, by go_num, by omega, ?_, Hkp.out⟩, by simp [intOf]; omega⟩
            rw [Hst.out, Hb.out]
            simpa using Hown.out
          · have Hb := hide hb; clear hb
            have hr := hide (Rd.new (cells := icell) wr #[.int .i64 (k : Int)] 3 [(k : Int)] rfl)
            gi_wp2_with (first | (gi_at_lookup; refine wpListIn_mapRead rfl _ _ rfl mapB Hmp.out rfl k rfl Hk.out ?_; rw [Hb.out]) | (gi_at_builtin; (refine appi_int rfl _ (.tmp 33) (.tmp 35) rfl W3.heap.size u6 (onlyK cs fs j1 j2 k) rfl (Hown.out.alloc _) _ _ 1 1 [(k : Int)] rfl rfl hr.out (by have := Hlen.out; simp; omega) (by simp; omega) ?_; intro vv wv hown1 hg1; have Kv := hide (kept_app Hown.out hg1); have Hown1 := hide hown1; clear hown1 hg1)))
            refine ⟨⟨k + 1, by go_num, by omega, ?_, Hkp.out.trans (Kv.out.mono (fun b _ h => h))⟩, by simp [intOf]; omega⟩
            rw [Hst.out, Hb.out]
            exact Hown1.out
        · have hkc : k = cs.length := by have := hnet.ec; omega
          have Hkc := hide hkc
          clear hkc
          gi_wp2
          have DA := hide ((Hkp.out.same D1 l1 l1).trans HDa.out)
          have DB := hide ((Hkp.out.same D2 l2 l2).trans HDb.out)
          refine ⟨by simp, .inl ⟨_, _, rfl, run_takeDeferred DB.out, ?_⟩⟩
          refine ⟨by simp, .inl ⟨_, _, rfl, run_takeDeferred ((World.putObj_heap_other (by omega)).trans DA.out), ?_⟩⟩
          refine ⟨_, results_tmp rfl _ _ _, ?_⟩
          have hk5 : Kept (fun b => ¬ b = D2 ∧ ¬ b = D1) wr ((wr.putObj D2 (.deferred none)).putObj D1 (.deferred none)) := ((Kept.putObj wr D2 _).mono fun b _ hb => hb.1).trans ((Kept.putObj _ D1 _).mono fun b _ hb => hb.2)
          have hfin : Below w.heap.size w ((wr.putObj D2 (.deferred none)).putObj D1 (.deferred none)) := (hb3.trans (Hkp.out.below (fun b hb => by have := hb3.size; omega) hb3.size)).trans (hk5.below (fun b hb => by omega) (by have := hb3.size; omega))
          rw [← Hkc.out]
          exact ⟨_, rfl, (Hown.out.keptR hk5 (fun b hb => by omega)).mono hb3.size, hfin⟩
end Go.Proofs.Ythlnbgjlkliopaa
