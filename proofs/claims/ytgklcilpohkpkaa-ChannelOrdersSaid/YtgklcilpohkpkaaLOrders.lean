/- ChannelOrders: the order of turns that gives most for sure, and how much, or the error, are the specification's; the lists stay. The law returns true for every net, flow and turns. No conditions. -/
import Derived.Test.YtgklcilpohkpkaaRO2
import Derived.Test.YtgklcilpohkpkaaR7
import Derived.Test.YtgklcilpohkpkaaR8
import Derived.Test.YtgklcilpohkpkaaOpenC
import Derived.Carry
set_option linter.unusedVariables false
set_option linter.unusedSimpArgs false
namespace Go.Proofs.Ytgklcilpohkpkaa
open Go.RowKit Go.Shelf Go.WideShapes Go.ChangeShapes Go.ChangeAt
attribute [local go_sem ↓] Go.wp_at_zero Go.wp_at_succ
theorem sInts (A B : Option Addr) (xs : List Int) (c d : Nat) (w : World) (hl : xs.length ≤ 1000) (hx : Rd w w.heap.size icell A xs) (hy : Rd w w.heap.size icell B xs) :
    Calls Try.prog 25 #[.slice A xs.length c, .slice B xs.length d] w fun e w' => e = .returned (.bool true) ∧ Below w.heap.size w w' :=
  (same_int A B xs xs _ c _ d w rfl rfl (by omega) (by omega) hx hy).mono fun e w' h => ⟨by simpa using h.1, h.2⟩
theorem perms_len (k : Nat) : ∀ (d : Nat) (now : List Nat), ∀ o ∈ permsO k d now, o.length = now.length + d
  | 0, now, o, h => by simp [permsO] at h; subst h; rfl
  | d + 1, now, o, h => by
    simp only [permsO, List.mem_flatMap] at h
    obtain ⟨j, _, h⟩ := h
    split at h
    · simp at h
    · have := perms_len k d (now ++ [j]) o h
      simp at this
      omega
theorem fold_len (val : List Nat → Int) (n : Nat) : ∀ (l : List (List Nat)) (st : List Nat × Int), (∀ o ∈ l, o.length ≤ n) → st.1.length ≤ n → (l.foldl (stO val) st).1.length ≤ n
  | [], st, _, h => h
  | o :: l, st, hl, h => fold_len val n l _ (fun x hx => hl x (by simp [hx])) (by
    unfold stO
    split
    · exact hl o (by simp)
    · exact h)
theorem orderS_len (cs : List Ca) (fs : List Int) (dry days a b : Int) (fl ml : List Int) : (orderS cs fs dry days a b fl ml).1.1.length ≤ 1000 := by
  unfold orderS
  split
  · split
    · split
      · simp
      · rename_i h6
        split
        · simp only [ints_len]
          have := fold_len (valO cs fs dry (days * 1440) a b fl ml) 6 (permsO fl.length fl.length []) ([], -1) (fun o ho => by have := perms_len fl.length fl.length [] o ho; simp at this; omega) (by simp)
          unfold dfsO
          omega
        · simp
    · simp
  · simp
/-- What the law's walk holds on to. -/
structure OCtx (w0 : World) (p4 : Nat) (Ac Af Aff Am Bu Bm : Option Addr) (nc cc nf cf : Nat) (dry days a b : Int) (cs : List Ca) (fs fl ml : List Int) (W : World) : Prop where
  n1 : NetAt W Ac Af nc nf cs fs
  b4 : At W p4 [.slice Ac nc cc, .slice Af nf cf, .int .i64 dry, .int .i64 days]
  bf : At W (p4 + 1) [.int .i64 a, .int .i64 b]
  u1 : Rd W W.heap.size icell Aff fl
  v1 : Rd W W.heap.size icell Am ml
  u2 : Rd W W.heap.size icell Bu fl
  v2 : Rd W W.heap.size icell Bm ml
  bl : Below w0.heap.size w0 W
theorem OCtx.below {w0 : World} {p4 : Nat} {Ac Af Aff Am Bu Bm : Option Addr} {nc cc nf cf : Nat} {dry days a b : Int} {cs : List Ca} {fs fl ml : List Int} {W W' : World} (h : OCtx w0 p4 Ac Af Aff Am Bu Bm nc cc nf cf dry days a b cs fs fl ml W) (hb : Below W.heap.size W W') :
    OCtx w0 p4 Ac Af Aff Am Bu Bm nc cc nf cf dry days a b cs fs fl ml W' :=
  ⟨h.n1.below hb, h.b4.below hb, h.bf.below hb, (h.u1.below hb).more hb.size, (h.v1.below hb).more hb.size, (h.u2.below hb).more hb.size, (h.v2.below hb).more hb.size, h.bl.trans (hb.mono h.bl.size)⟩
set_option maxHeartbeats 4000000 in
set_option maxRecDepth 100000 in
theorem orders_walk (Ac Af Aff Am : Option Addr) (nc cc nf cf nk cff nm cm : Nat) (dry days a b : Int) (cs : List Ca) (fs fl ml : List Int) (w : World) (hnc : nc = cs.length) (hnf : nf = fs.length) (hnk : nk = fl.length) (hnm : nm = ml.length)
    (hcs : Rd w w.heap.size Ca.cells Ac cs) (hfs : Rd w w.heap.size icell Af fs) (hf : Rd w w.heap.size icell Aff fl) (hm : Rd w w.heap.size icell Am ml) :
    Calls Try.prog 5 #[.agg #[.slice Ac nc cc, .slice Af nf cf, .int .i64 dry, .int .i64 days], .agg #[.int .i64 a, .int .i64 b], .slice Aff nk cff, .slice Am nm cm] w fun e w' => e = .returned (.bool true) ∧ Below w.heap.size w w' := by
  obtain ⟨w1, Hw1⟩ : ∃ w1, Hid ((w.alloc (.cells #[.slice Ac nc cc, .slice Af nf cf, .int .i64 dry, .int .i64 days] 25)).alloc (.cells #[.int .i64 a, .int .i64 b] 51) = w1) := ⟨_, hide rfl⟩
  have hat1 : At w1 w.heap.size [.slice Ac nc cc, .slice Af nf cf, .int .i64 dry, .int .i64 days] := by rw [← Hw1.out]; exact (At.new w #[.slice Ac nc cc, .slice Af nf cf, .int .i64 dry, .int .i64 days] _ _ rfl _ rfl).alloc _
  have hsp1 : At w1 (w.heap.size + 1) [.int .i64 a, .int .i64 b] := by rw [← Hw1.out]; exact At.new _ #[.int .i64 a, .int .i64 b] _ _ (by simp) _ rfl
  have hB1 : Below w.heap.size w w1 := by rw [← Hw1.out]; exact (below_new _ _).alloc (by simp) _
  have G1 := hide (rGreat_any Ac Af none nc cc nf cf 0 0 dry days cs fs w1 hnc hnf)
  have q1 := hat1.c4
  rw [← Hw1.out] at q1
  obtain ⟨q0, q1, q2, q3⟩ := q1
  cases hg : great cs fs 0
  case true =>
    have Hg := hide hg
    clear hg hnc hnf hnk hnm hcs hfs hf hm
    go_enter Try.func5, Try.ntmps5
    go_wp2_with fail
    rw [Hw1.out]
    refine G1.out.mono ?_
    rintro e w2 ⟨rfl, hb2⟩
    rw [Hg.out]
    go_wp2
    go_ret
    exact ⟨rfl, hB1.trans (hb2.mono hB1.size)⟩
  have hl : cs.length ≤ 24 ∧ fs.length ≤ 18 := by simp [great] at hg; omega
  have Hg := hide hg
  clear hg
  by_cases h10 : 10 < nk
  · clear hnc hnf hnk hnm hcs hfs hf hm
    go_enter Try.func5, Try.ntmps5
    go_wp2_with fail
    rw [Hw1.out]
    refine G1.out.mono ?_
    rintro e w2 ⟨rfl, hb2⟩
    rw [Hg.out]
    go_wp2
    go_ret
    exact ⟨rfl, hB1.trans (hb2.mono hB1.size)⟩
  by_cases h11 : 10 < nm
  · clear hnc hnf hnk hnm hcs hfs hf hm
    go_enter Try.func5, Try.ntmps5
    go_wp2_with fail
    rw [Hw1.out]
    refine G1.out.mono ?_
    rintro e w2 ⟨rfl, hb2⟩
    rw [Hg.out]
    go_wp2
    go_ret
    exact ⟨rfl, hB1.trans (hb2.mono hB1.size)⟩
  have hnet : NetAt w1 Ac Af nc nf cs fs := ⟨(hcs.below hB1).more hB1.size, (hfs.below hB1).more hB1.size, hnc, hnf, by omega, by omega⟩
  have Hnet := hide hnet; have Hf := hide hf; have Hm := hide hm
  have hfl10 : fl.length ≤ 10 := by omega
  have hml10 : ml.length ≤ 10 := by omega
  subst hnk hnm
  clear hnc hnf hcs hfs hf hm hnet hl h10 h11
  go_enter Try.func5, Try.ntmps5
  go_wp2_with fail
  rw [Hw1.out]
  refine G1.out.mono ?_
  rintro e w3 ⟨rfl, hb2⟩
  rw [Hg.out]
  have hat3 := hat1.below hb2
  have hsp3 := hsp1.below hb2
  have hB3 := hB1.trans (hb2.mono hB1.size)
  have Hn3 := hide (Hnet.out.below hb2)
  have Hf3 := hide ((Hf.out.below hB3).more hB3.size)
  have Hm3 := hide ((Hm.out.below hB3).more hB3.size)
  have hl0 := hide (lit0 (cells := icell) w3 3 1 w3.heap.size (fun _ => rfl) (Nat.le_refl _))
  have hbl := below_new w3 (.cells #[] 3)
  have Hr0 := hide (Hf3.out.below hbl)
  have hz3 : (w3.alloc (.cells #[] 3)).heap.size = w3.heap.size + 1 := by simp
  clear q0 q1 q2 q3 hb2 hat1 hsp1 hB1 G1 Hnet
  go_wp2_with (first | (at_builtin; refine wpList_app (v := .slice (some ⟨w3.heap.size, 0, none⟩) 0 0) (xs := []) (ys := fl) (n := fl.length) el_int rfl (.tmp 29) (.tmp 30) rfl rfl hl0.out rfl rfl Hr0.out (by simp; omega) (by rw [hz3]; omega) ?_; intro vv wv hown1 hg1 hat1'; have Hown1 := hide hown1; have hkv0 := kept_app2 (W := w3.alloc (.cells #[] 3)) hl0.out (Below.refl _ _) hg1; have hkv : Kept (fun b => b < w3.heap.size) w3 wv := ((Kept.all (fun _ => True) hbl).mono (fun _ _ _ => trivial)).trans (hkv0.mono fun b _ hb e => by simp [Value.ownBlock] at e; omega); have hb3v : Below w3.heap.size w3 wv := hkv.below (fun b h => h) (Nat.le_refl _); obtain ⟨Bu, du, rfl, hrd1⟩ := hown1.rd; have Hbu := hide hrd1; have hm4 := (Hm3.out.below hb3v).more hb3v.size; have hl2 := hide (lit0 (cells := icell) wv 3 1 wv.heap.size (fun _ => rfl) (Nat.le_refl _)); have hbl2 := below_new wv (.cells #[] 3); have Hr2 := hide (hm4.below hbl2); have hz4 : (wv.alloc (.cells #[] 3)).heap.size = wv.heap.size + 1 := (by simp); clear hown1 hg1 hat1' hrd1 hkv0 hkv hm4) | (at_builtin; refine wpList_app (v := .slice (some ⟨wv.heap.size, 0, none⟩) 0 0) (xs := []) (ys := ml) (n := ml.length) el_int rfl (.tmp 32) (.tmp 33) rfl rfl hl2.out rfl rfl Hr2.out (by simp; omega) (by rw [hz4]; omega) ?_; intro v4 w4 hown2 hg2 hat2'; have hkv0 := kept_app2 (W := wv.alloc (.cells #[] 3)) hl2.out (Below.refl _ _) hg2; have hkv : Kept (fun b => b < wv.heap.size) wv w4 := ((Kept.all (fun _ => True) hbl2).mono (fun _ _ _ => trivial)).trans (hkv0.mono fun b _ hb e => by simp [Value.ownBlock] at e; omega); have hb4v : Below wv.heap.size wv w4 := hkv.below (fun b h => h) (Nat.le_refl _); obtain ⟨Bm, dm, rfl, hrd2⟩ := hown2.rd; have Hbm := hide hrd2; have C4 := hide (show OCtx w w.heap.size Ac Af Aff Am Bu Bm nc cc nf cf dry days a b cs fs fl ml w4 from ⟨(Hn3.out.below hb3v).below hb4v, (hat3.below hb3v).below hb4v, (hsp3.below hb3v).below hb4v, (((Hf3.out.below hb3v).more hb3v.size).below hb4v).more hb4v.size, (((Hm3.out.below hb3v).more hb3v.size).below hb4v).more hb4v.size, (Hbu.out.below hb4v).more hb4v.size, Hbm.out, (hB3.trans (hb3v.mono hB3.size)).trans (hb4v.mono (Nat.le_trans hB3.size hb3v.size))⟩); obtain ⟨q0, q1, q2, q3⟩ := C4.out.b4.c4; obtain ⟨p0, p1⟩ := C4.out.bf.c2; clear hown2 hg2 hat2' hrd2 hkv0 hkv))
  obtain ⟨ol, ot, oe, hos⟩ : ∃ x y z, orderS cs fs dry days a b fl ml = ((x, y), z) := ⟨_, _, _, rfl⟩
  have L1 := hide (show ol.length ≤ 1000 by have := orderS_len cs fs dry days a b fl ml; rwa [hos] at this)
  have O1 := order_fn Ac Af Bu Bm nc cc nf cf fl.length du ml.length dm dry days a b cs fs fl ml w4 C4.out.n1 C4.out.u2 C4.out.v2 rfl rfl (by omega) (by omega)
  have O2 := fun W h hu hv => rOrder_fn Ac Af Aff Am nc cc nf cf fl.length cff ml.length cm dry days a b cs fs fl ml W h hu hv rfl rfl (by omega) (by omega)
  rw [hos] at O1 O2
  have O1 := hide O1; have O2 := hide O2
  clear hos q0 q1 q2 q3 p0 p1
  refine O1.out.mono ?_
  rintro e w5 ⟨v5, rfl, ho, hb⟩
  obtain ⟨A5, c5, rfl, hr⟩ := ho.rd
  have R5 := hide hr
  have C5 := hide (C4.out.below hb)
  clear ho hr hb
  obtain ⟨q0, q1, q2, q3⟩ := C5.out.b4.c4
  obtain ⟨p0, p1⟩ := C5.out.bf.c2
  go_wp2_with fail
  refine (O2.out w5 C5.out.n1 C5.out.u1 C5.out.v1).mono ?_
  rintro e w6 ⟨v6, rfl, ho, hb⟩
  obtain ⟨A6, c6, rfl, hr⟩ := ho.rd
  have R6 := hide hr
  have R5 := hide ((R5.out.below hb).more hb.size)
  have C6 := hide (C5.out.below hb)
  clear ho hr hb q0 q1 q2 q3 p0 p1 O1 O2 C4 C5
  go_wp2_with fail
  refine (sInts A5 A6 ol c5 c6 w6 L1.out R5.out R6.out).mono ?_
  rintro e w7 ⟨rfl, hb⟩
  have C7 := hide (C6.out.below hb)
  clear hb
  go_wp2_with fail
  refine (sInts Bu Aff fl du cff w7 (by omega) C7.out.u2 C7.out.u1).mono ?_
  rintro e w8 ⟨rfl, hb⟩
  have C8 := hide (C7.out.below hb)
  clear hb
  go_wp2_with fail
  refine (sInts Bm Am ml dm cm w8 (by omega) C8.out.v2 C8.out.v1).mono ?_
  rintro e w9 ⟨rfl, hb⟩
  go_wp2_with fail
  go_ret
  exact ⟨rfl, C8.out.bl.trans (hb.mono C8.out.bl.size)⟩
set_option maxRecDepth 100000 in
theorem channelOrders_lifted (os : Os) (started : os.Started) (H : Type) (enc : TypeId × Value → H) :
    ReturnsInHanded {} Try.checked os 5 .any (Rows.channelOrdersSpec.pre6 enc Try.prog Try.f5 Rows.channelOrdersRow.domain false) (Rows.channelOrdersSpec.post enc Try.prog Try.f5 false true false false) := by
  refine law_lifted os started H enc (s := Rows.channelOrdersSpec) Try.func5 (by kernel_rfl) ?_ rfl Try.underlying4 rfl (of_decide_eq_true (by kernel_rfl))
    (ChangeSpec.witness6 (enc := enc) (C := Try.checked) false ⟨#[], #[.agg #[.slice none 0 0, .slice none 0 0, .int .i64 0, .int .i64 0], .agg #[.int .i64 0, .int .i64 0], .slice none 0 0, .slice none 0 0], []⟩ 8 (by kernel_rfl) (by kernel_rfl) (by kernel_rfl) (by kernel_rfl)) ?_
  · intro ds hds
    match ds, hds with
    | [a, b, c, d], _ => rfl
  · intro W base args ds ps hval hA hlt
    rw [Try.params5] at hA hval
    obtain ⟨v0, v1, v2, v3, d0, d1, d2, d3, p0, p1, p2, p3, rfl, rfl, rfl, h0, h1, h2, h3⟩ := trodAll_four hA
    obtain ⟨Ac, nc, cc, Af, nf, cf, dry, days, cs, fs, rfl, hnc, hnf, _, _, hcs, hfs, _, _, _, _⟩ := open_net (hval 0 _ v0 rfl rfl) h0
    obtain ⟨⟨a, b⟩, e1, _⟩ := open_val shape_sp Try.underlying51 (hval 1 _ v1 rfl rfl) h1
    rw [show (v1 : Value) = .agg #[.int .i64 a, .int .i64 b] from e1]
    obtain ⟨Aff, nk, cff, fl, rfl, hnk, _, hf, _⟩ := open_sl shape_int Try.underlying23 cells_int icell_len (by omega) (hval 2 _ v2 rfl rfl) h2
    obtain ⟨Am, nm, cm, ml, rfl, hnm, _, hm, _⟩ := open_sl shape_int Try.underlying23 cells_int icell_len (by omega) (hval 3 _ v3 rfl rfl) h3
    exact orders_walk Ac Af Aff Am nc cc nf cf nk cff nm cm dry days a b cs fs fl ml W hnc hnf hnk hnm hcs hfs hf hm

theorem channelOrders_holds : Rows.ChannelOrdersSaid :=
  OpenClaim.holds_of_wide 5 Try.f5 rfl rfl rfl rfl rfl rfl rfl ⟨rfl, rfl, rfl, rfl, rfl⟩ rfl rfl rfl rfl rfl (by kernel_rfl) Try.func5 (by kernel_rfl)
    (of_decide_eq_true (by kernel_rfl)) (by unfold Func.isWrapper; rw [if_neg (of_decide_eq_false (by kernel_rfl))]; exact ⟨rfl, rfl⟩)
    (fun os started H enc _ => channelOrders_lifted os started H enc)
#print axioms channelOrders_holds
end Go.Proofs.Ytgklcilpohkpkaa
