/- ChannelPaths: whether a net is valid, paths, stones, and dry canals, are the specification's; net and uses stay. The law returns true for every net, fields and uses. No conditions. -/
import Derived.Test.YtgklcilpohkpkaaDry2
import Derived.Test.YtgklcilpohkpkaaR8
import Derived.Test.YtgklcilpohkpkaaOpenC
import Derived.Carry
namespace Go.Proofs.Ytgklcilpohkpkaa
open Go.RowKit Go.Shelf Go.WideShapes Go.ChangeShapes Go.ChangeAt
attribute [local go_sem ↓] Go.wp_at_zero Go.wp_at_succ
theorem sInts (A B : Option Addr) (xs : List Int) (c d : Nat) (w : World) (hl : xs.length ≤ 1000) (hx : Rd w w.heap.size icell A xs) (hy : Rd w w.heap.size icell B xs) :
    Calls Try.prog 25 #[.slice A xs.length c, .slice B xs.length d] w fun e w' => e = .returned (.bool true) ∧ Below w.heap.size w w' :=
  (same_int A B xs xs _ c _ d w rfl rfl (by omega) (by omega) hx hy).mono fun e w' h => ⟨by simpa using h.1, h.2⟩
theorem sUses (A B : Option Addr) (us : List Us) (c d : Nat) (w : World) (hl : us.length ≤ 1000) (hx : Rd w w.heap.size Us.cells A us) (hy : Rd w w.heap.size Us.cells B us) :
    Calls Try.prog 28 #[.slice A us.length c, .slice B us.length d] w fun e w' => e = .returned (.bool true) ∧ Below w.heap.size w w' :=
  (same_Us A B us us _ c _ d w rfl rfl (by omega) (by omega) hx hy).mono fun e w' h => ⟨by simpa using h.1, h.2⟩
theorem pathS_len (cs : List Ca) (fs : List Int) (dry days k : Int) : (pathS cs fs dry days k).1.length ≤ 1000 := by
  unfold pathS
  split
  · rename_i hok
    split
    · rename_i hin
      simp [inF] at hin
      have := pathK_len cs fs hok hin.1 hin.2
      simp only
      omega
    · simp
  · simp
theorem movesS_len (cs : List Ca) (fs : List Int) (dry days a b : Int) : (movesS cs fs dry days a b).1.length ≤ 1000 ∧ (movesS cs fs dry days a b).2.1.length ≤ 1000 := by
  unfold movesS
  split
  · rename_i hok
    have h1 := (netOk_parts hok).1
    split
    · have h2 := onlyK_len cs fs a b cs.length
      have h3 := onlyK_len cs fs b a cs.length
      exact ⟨by simp only; omega, by simp only; omega⟩
    · simp
  · simp
theorem rDriesS_len (cs : List Ca) (fs : List Int) (dry days : Int) (us : List Us) : (rDriesS cs fs dry days us).1.length ≤ 1000 ∧ ∀ xs ∈ (rDriesS cs fs dry days us).1, xs.length ≤ 1000 := by
  unfold rDriesS
  split
  · rename_i hok
    split
    · rename_i huo
      refine ⟨by have := usesOk_len huo; simp; omega, fun xs hx => ?_⟩
      simp only [List.mem_map] at hx
      obtain ⟨a, _, rfl⟩ := hx
      unfold dryR
      split
      · rename_i u hu
        have h1 := usesOk_mem huo (List.mem_of_getElem? hu)
        have h2 := pathK_len cs fs hok h1.1.1 h1.1.2
        have h3 := List.length_filter_le (dryB cs fs dry (days * 1440) us a) (pathK cs fs u.field)
        omega
      · simp
    · simp
  · simp
/-- What the law has at hand, in whatever world comes. -/
structure PCtx (w0 : World) (p4 p9 : Nat) (Ac Af Bc Bf Au Bu : Option Addr) (nc cc nf cf dc df : Nat) (dry days : Int) (cs : List Ca) (fs : List Int) (us : List Us) (W : World) : Prop where
  n1 : NetAt W Ac Af nc nf cs fs
  n2 : NetAt W Bc Bf nc nf cs fs
  b4 : At W p4 [.slice Ac nc cc, .slice Af nf cf, .int .i64 dry, .int .i64 days]
  b9 : At W p9 [.slice Bc nc dc, .slice Bf nf df, .int .i64 dry, .int .i64 days]
  u1 : Rd W W.heap.size Us.cells Au us
  u2 : Rd W W.heap.size Us.cells Bu us
  bl : Below w0.heap.size w0 W
theorem PCtx.below {w0 : World} {p4 p9 : Nat} {Ac Af Bc Bf Au Bu : Option Addr} {nc cc nf cf dc df : Nat} {dry days : Int} {cs : List Ca} {fs : List Int} {us : List Us} {W W' : World} (h : PCtx w0 p4 p9 Ac Af Bc Bf Au Bu nc cc nf cf dc df dry days cs fs us W) (hb : Below W.heap.size W W') :
    PCtx w0 p4 p9 Ac Af Bc Bf Au Bu nc cc nf cf dc df dry days cs fs us W' :=
  ⟨h.n1.below hb, h.n2.below hb, h.b4.below hb, h.b9.below hb, (h.u1.below hb).more hb.size, (h.u2.below hb).more hb.size, h.bl.trans (hb.mono h.bl.size)⟩
set_option maxHeartbeats 4000000 in
set_option maxRecDepth 100000 in
theorem paths_walk (Ac Af Au : Option Addr) (nc cc nf cf nu cu : Nat) (dry days a b : Int) (cs : List Ca) (fs : List Int) (us : List Us) (w : World) (hnc : nc = cs.length) (hnf : nf = fs.length) (hnu : nu = us.length)
    (hcs : Rd w w.heap.size Ca.cells Ac cs) (hfs : Rd w w.heap.size icell Af fs) (hus : Rd w w.heap.size Us.cells Au us) :
    Calls Try.prog 3 #[.agg #[.slice Ac nc cc, .slice Af nf cf, .int .i64 dry, .int .i64 days], .int .i64 a, .int .i64 b, .slice Au nu cu] w fun e w' => e = .returned (.bool true) ∧ Below w.heap.size w w' := by
  obtain ⟨w1, Hw1⟩ : ∃ w1, Hid (w.alloc (.cells #[.slice Ac nc cc, .slice Af nf cf, .int .i64 dry, .int .i64 days] 25) = w1) := ⟨_, hide rfl⟩
  have hat1 : At w1 w.heap.size [.slice Ac nc cc, .slice Af nf cf, .int .i64 dry, .int .i64 days] := by rw [← Hw1.out]; exact At.new w _ _ _ rfl _ rfl
  have hB1 : Below w.heap.size w w1 := by rw [← Hw1.out]; exact below_new _ _
  have G1 := hide (rGreat_any Ac Af Au nc cc nf cf nu cu dry days cs fs w1 hnc hnf)
  cases hg : great cs fs nu
  case true =>
    have Hg := hide hg
    clear hg hnc hnf hnu hcs hfs hus
    go_enter Try.func3, Try.ntmps3
    go_wp2_with fail
    rw [Hw1.out]
    refine G1.out.mono ?_
    rintro e w2 ⟨rfl, hb2⟩
    rw [Hg.out]
    go_wp2
    go_ret
    exact ⟨rfl, hB1.trans (hb2.mono hB1.size)⟩
  have hl : cs.length ≤ 24 ∧ fs.length ≤ 18 ∧ nu ≤ 80 := by simp [great] at hg; omega
  have hus80 : us.length ≤ 1000 := by omega
  have hnet : NetAt w1 Ac Af nc nf cs fs := ⟨(hcs.below hB1).more hB1.size, (hfs.below hB1).more hB1.size, hnc, hnf, by omega, by omega⟩
  have hu1 := (hus.below hB1).more hB1.size
  have Hg := hide hg; have Hnet := hide hnet; have Hu1 := hide hu1
  have hn80 : nu ≤ 80 := hl.2.2
  subst hnu
  clear hg hnc hnf hcs hfs hus hnet hu1 hl
  go_enter Try.func3, Try.ntmps3
  go_wp2_with fail
  rw [Hw1.out]
  refine G1.out.mono ?_
  rintro e w2 ⟨rfl, hb2⟩
  rw [Hg.out]
  have hat2 := hat1.below hb2
  have hB2 := hB1.trans (hb2.mono hB1.size)
  have Hnet2 := hide (Hnet.out.below hb2)
  have Hu2 := hide ((Hu1.out.below hb2).more hb2.size)
  obtain ⟨q0, q1, q2, q3⟩ := hat2.c4
  go_wp2_with fail
  refine (twin_any Ac Af nc cc nf cf dry days cs fs w2 Hnet2.out).mono ?_
  rintro e w3 ⟨Bc, dc, Bf, df, rfl, hnet3, hb3⟩
  have hat3 := hat2.below hb3
  have hB3 := hB2.trans (hb3.mono hB2.size)
  have Hn3 := hide (Hnet2.out.below hb3)
  have Hm3 := hide hnet3
  have Hu3 := hide ((Hu2.out.below hb3).more hb3.size)
  have hl0 := hide (lit0 (cells := Us.cells) w3 74 3 w3.heap.size (fun _ => rfl) (Nat.le_refl _))
  have hbl := below_new w3 (.cells #[] 74)
  have Hr0 := hide (Hu3.out.below hbl)
  have hz3 : (w3.alloc (.cells #[] 74)).heap.size = w3.heap.size + 1 := by simp
  clear q0 q1 q2 q3 hnet3 hb2 hb3 hat1 hat2 hB1 hB2 G1 Hnet Hnet2 Hu1 Hu2
  go_upto_region 4 with (at_builtin; refine wpList_app (v := .slice (some ⟨w3.heap.size, 0, none⟩) 0 0) (xs := []) (ys := us) (n := us.length) el_us rfl (.tmp 30) (.tmp 31) rfl rfl hl0.out rfl rfl Hr0.out (by simp; omega) (by rw [hz3]; omega) ?_; intro vv wv hown1 hg1 hat1'; have Hown1 := hide hown1; have Hkv := hide (kept_app2 (W := w3.alloc (.cells #[] 74)) hl0.out (Below.refl _ _) hg1); obtain ⟨Bu, du, rfl, hrd1⟩ := hown1.rd; have Hbu := hide hrd1; clear hown1 hg1 hat1' hrd1)
  have hkv : Kept (fun b => b < w3.heap.size) w3 wv := (Kept.all (fun _ => True) hbl).mono (fun _ _ _ => trivial) |>.trans (Hkv.out.mono fun b _ hb e => by simp [Value.ownBlock] at e; omega)
  have hb3v : Below w3.heap.size w3 wv := hkv.below (fun b h => h) (Nat.le_refl _)
  obtain ⟨w4, Hw4⟩ : ∃ w4, Hid (wv.alloc (.cells #[.slice Bc nc dc, .slice Bf nf df, .int .i64 dry, .int .i64 days] 25) = w4) := ⟨_, hide rfl⟩
  have hb4 : Below wv.heap.size wv w4 := by rw [← Hw4.out]; exact below_new _ _
  have hb34 := hb3v.trans (hb4.mono hb3v.size)
  have hat9 : At w4 wv.heap.size [.slice Bc nc dc, .slice Bf nf df, .int .i64 dry, .int .i64 days] := by rw [← Hw4.out]; exact At.new _ _ _ _ rfl _ rfl
  have C4 := hide (show PCtx w w.heap.size wv.heap.size Ac Af Bc Bf Au Bu nc cc nf cf dc df dry days cs fs us w4 from
    ⟨Hn3.out.below hb34, Hm3.out.below hb34, hat3.below hb34, hat9, (Hu3.out.below hb34).more hb34.size, (Hbu.out.below hb4).more hb4.size, hB3.trans (hb34.mono hB3.size)⟩)
  rw [Hw4.out]
  obtain ⟨pl, pe, hp⟩ : ∃ x y, pathS cs fs dry days a = (x, y) := ⟨_, _, rfl⟩
  obtain ⟨ml, mo, me, hm⟩ : ∃ x y z, movesS cs fs dry days a b = (x, y, z) := ⟨_, _, _, rfl⟩
  obtain ⟨dl, de, hd⟩ : ∃ x y, rDriesS cs fs dry days us = (x, y) := ⟨_, _, rfl⟩
  obtain ⟨ce, hce⟩ : ∃ x, x = netErr cs fs dry days := ⟨_, rfl⟩
  have La := hide (show pl.length ≤ 1000 by have := pathS_len cs fs dry days a; rwa [hp] at this)
  have Lc := hide (show ml.length ≤ 1000 by have := (movesS_len cs fs dry days a b).1; rwa [hm] at this)
  have Ld := hide (show mo.length ≤ 1000 by have := (movesS_len cs fs dry days a b).2; rwa [hm] at this)
  have Ln := hide (show dl.length ≤ 1000 by have := (rDriesS_len cs fs dry days us).1; rwa [hd] at this)
  have Lx := hide (show ∀ xs ∈ dl, xs.length ≤ 1000 by have := (rDriesS_len cs fs dry days us).2; rwa [hd] at this)
  have P1 := fun W h => path_fn Bc Bf nc dc nf df dry days cs fs a W h
  have P2 := fun W h => rPath_fn Ac Af nc cc nf cf dry days cs fs a W h
  have M1 := fun W h => moves_fn Bc Bf nc dc nf df dry days cs fs a b W h
  have M2 := fun W h => rMoves_fn Ac Af nc cc nf cf dry days cs fs a b W h
  have D1 := fun W h hu => dries_fn Bc Bf Bu nc dc nf df us.length du dry days cs fs us W h hu rfl (by omega)
  have D2 := fun W h hu => rDries_fn Ac Af Au nc cc nf cf us.length cu dry days cs fs us W h hu rfl (by omega)
  rw [dries_eq] at D1
  have CK1 := fun W h => chanCheck_any Bc Bf nc dc nf df dry days cs fs W h
  have CK2 := fun W h => rCheck_any Ac Af nc cc nf cf dry days cs fs W h
  rw [hp] at P1 P2
  rw [hm] at M1 M2
  rw [hd] at D1 D2
  rw [← hce] at CK1 CK2
  have P1 := hide P1; have P2 := hide P2; have M1 := hide M1; have M2 := hide M2; have D1 := hide D1; have D2 := hide D2; have CK1 := hide CK1; have CK2 := hide CK2
  clear hp hm hd hce hkv hb3v hb4 hb34 hat9 hat3 hB3 hbl hz3 hl0 Hr0 Hn3 Hm3 Hu3 Hbu Hown1 Hkv Hg
  obtain ⟨q0, q1, q2, q3⟩ := C4.out.b9.c4
  go_wp2_with fail
  refine (P1.out w4 C4.out.n2).mono ?_
  rintro e w5 ⟨v5, rfl, ho, hb⟩
  obtain ⟨A5, c5, rfl, hr⟩ := ho.rd
  have R5 := hide hr
  have C5 := hide (C4.out.below hb)
  have hb5 := hb
  clear ho hr hb q0 q1 q2 q3
  obtain ⟨q0, q1, q2, q3⟩ := C5.out.b4.c4
  go_wp2_with fail
  refine (P2.out w5 C5.out.n1).mono ?_
  rintro e w6 ⟨v6, rfl, ho, hb⟩
  obtain ⟨A6, c6, rfl, hr⟩ := ho.rd
  have R6 := hide hr
  have C6 := hide (C5.out.below hb)
  have hb6 := hb
  clear ho hr hb q0 q1 q2 q3
  obtain ⟨q0, q1, q2, q3⟩ := C6.out.b9.c4
  go_wp2_with fail
  refine (M1.out w6 C6.out.n2).mono ?_
  rintro e w7 ⟨v7, u7, rfl, ho, ho2, hb⟩
  obtain ⟨A7, c7, rfl, hr⟩ := ho.rd
  obtain ⟨B7, d7, rfl, hr2⟩ := ho2.rd
  have R7 := hide hr; have S7 := hide hr2
  have C7 := hide (C6.out.below hb)
  have hb7 := hb
  clear ho ho2 hr hr2 hb q0 q1 q2 q3
  obtain ⟨q0, q1, q2, q3⟩ := C7.out.b4.c4
  go_wp2_with fail
  refine (M2.out w7 C7.out.n1).mono ?_
  rintro e w8 ⟨v8, u8, rfl, ho, ho2, hb⟩
  obtain ⟨A8, c8, rfl, hr⟩ := ho.rd
  obtain ⟨B8, d8, rfl, hr2⟩ := ho2.rd
  have R8 := hide hr; have S8 := hide hr2
  have C8 := hide (C7.out.below hb)
  have hb8 := hb
  clear ho ho2 hr hr2 hb q0 q1 q2 q3
  obtain ⟨q0, q1, q2, q3⟩ := C8.out.b9.c4
  go_wp2_with fail
  refine (D1.out w8 C8.out.n2 C8.out.u2).mono ?_
  rintro e w9 ⟨v9, rfl, ss9, ho, hrw, hb⟩
  obtain ⟨A9, c9, rfl, hr⟩ := ho.rd
  rw [hrw.len]
  have R9 := hide hr; have W9 := hide hrw
  have C9 := hide (C8.out.below hb)
  have hb9 := hb
  clear ho hr hrw hb q0 q1 q2 q3
  obtain ⟨q0, q1, q2, q3⟩ := C9.out.b4.c4
  go_wp2_with fail
  refine (D2.out w9 C9.out.n1 C9.out.u1).mono ?_
  rintro e w10 ⟨v10, rfl, ss10, ho, hrw, hb⟩
  obtain ⟨A10, c10, rfl, hr⟩ := ho.rd
  rw [hrw.len]
  have R10 := hide hr; have W10 := hide hrw
  have C10 := hide (C9.out.below hb)
  have hb10 := hb
  clear ho hr hrw hb q0 q1 q2 q3
  have h910 : Below w9.heap.size w9 w10 := hb10
  have h810 := hb9.trans (h910.mono hb9.size)
  have h710 := hb8.trans (h810.mono hb8.size)
  have h610 := hb7.trans (h710.mono hb7.size)
  have h510 := hb6.trans (h610.mono hb6.size)
  have Ra := hide ((R5.out.below h510).more h510.size)
  have Rb := hide ((R6.out.below h610).more h610.size)
  have Rc := hide ((R7.out.below h710).more h710.size)
  have Rd_ := hide ((S7.out.below h710).more h710.size)
  have Rx := hide ((R8.out.below h810).more h810.size)
  have Ry := hide ((S8.out.below h810).more h810.size)
  have Rl := hide ((R9.out.below h910).more h910.size)
  have Wl := hide ((W9.out.below h910).more h910.size)
  have Rm := R10
  have Wm := W10
  clear h910 h810 h710 h610 h510 hb5 hb6 hb7 hb8 hb9 hb10 R5 R6 R7 S7 R8 S8 R9 W9 C4 C5 C6 C7 C8 C9 P1 P2 M1 M2 D1 D2
  obtain ⟨q0, q1, q2, q3⟩ := C10.out.b4.c4
  obtain ⟨p0, p1, p2, p3⟩ := C10.out.b9.c4
  have CK1 := CK1.out; have CK2 := CK2.out
  have CK1 := hide CK1; have CK2 := hide CK2
  go_wp2_with fail
  refine wp_region_held_drew (S := (fun W => Below w10.heap.size w10 W)) (by kernel_rfl) (by (try dsimp only); exact (Below.refl _ _).drew) (fun hHeld => ?_)
  refine wpAnyH_take (i := 0) (oi := { dst := some 73, op := Go.Op.load 25 (Go.Operand.tmp 9), type := 25, pos := "law.go:23", after := #[], guard := none }) (v := ?_) rfl (by kernel_rfl) (by kernel_rfl) (by kernel_rfl) (fun _ _ _ h => h) (Or.inl ⟨by rfl, ?_⟩) hHeld ?_
  rotate_left
  · (intro w hSw; (try dsimp only at hSw); obtain ⟨q0, q1, q2, q3⟩ := (C10.out.below hSw).b4.c4; obtain ⟨p0, p1, p2, p3⟩ := (C10.out.below hSw).b9.c4; go_simp; try (with_reducible rfl))
  try simp only [Act.put, List.setIfInBounds_toArray, List.set_cons_zero, List.set_cons_succ]
  refine wpAnyH_take (i := 2) (oi := { dst := some 75, op := Go.Op.load 25 (Go.Operand.tmp 4), type := 25, pos := "law.go:23", after := #[], guard := none }) (v := ?_) rfl (by kernel_rfl) (by kernel_rfl) (by kernel_rfl) (fun _ _ _ h => h) (Or.inl ⟨by rfl, ?_⟩) hHeld ?_
  rotate_left
  · (intro w hSw; (try dsimp only at hSw); obtain ⟨q0, q1, q2, q3⟩ := (C10.out.below hSw).b4.c4; obtain ⟨p0, p1, p2, p3⟩ := (C10.out.below hSw).b9.c4; go_simp; try (with_reducible rfl))
  try simp only [Act.put, List.setIfInBounds_toArray, List.set_cons_zero, List.set_cons_succ]
  refine wpAnyH_ready (rs := [1]) (by kernel_rfl) (by simp) ?_
  refine AllReadyH.cons (o := { dst := some 74, op := Go.Op.call { callee := Go.Callee.value (Go.Operand.func 23), args := #[Go.Operand.tmp 73], argTypes := #[25] }, type := 29, pos := "law.go:23", after := #[{ on := 0, ground := Go.Ground.data }], guard := none }) rfl (fun K hK => ?_) AllReadyH.nil
  go_simp
  refine (CK1.out _ ((C10.out.below (hHeld)).n2)).mono ?_
  rintro e w' ⟨rfl, hb⟩
  go_wp2_with fail
  refine hK.out _ _ ?_ (fun hHeld2 => ?_)
  · (try dsimp only)
    (first | exact hHeld | exact hHeld.trans (hb.mono hHeld.size) | exact hHeld.trans ((below_new _ _).mono hHeld.size) | exact hHeld.drew)
  clear hK K hHeld; have hHeld := hHeld2; clear hHeld2
  try simp only [Act.put, List.setIfInBounds_toArray, List.set_cons_zero, List.set_cons_succ]
  refine wpAnyH_ready (rs := [3]) (by kernel_rfl) (by simp) ?_
  refine AllReadyH.cons (o := { dst := some 76, op := Go.Op.call { callee := Go.Callee.value (Go.Operand.func 24), args := #[Go.Operand.tmp 75], argTypes := #[25] }, type := 3, pos := "law.go:23", after := #[{ on := 2, ground := Go.Ground.data }, { on := 1, ground := Go.Ground.chain }], guard := none }) rfl (fun K hK => ?_) AllReadyH.nil
  go_simp
  refine (CK2.out _ ((C10.out.below (hHeld)).n1)).mono ?_
  rintro e w' ⟨rfl, hb⟩
  go_wp2_with fail
  refine hK.out _ _ ?_ (fun hHeld2 => ?_)
  · (try dsimp only)
    (first | exact hHeld | exact hHeld.trans (hb.mono hHeld.size) | exact hHeld.trans ((below_new _ _).mono hHeld.size) | exact hHeld.drew)
  clear hK K hHeld; have hHeld := hHeld2; clear hHeld2
  try simp only [Act.put, List.setIfInBounds_toArray, List.set_cons_zero, List.set_cons_succ]
  refine wpAnyH_take (i := 4) (oi := { dst := some 77, op := Go.Op.binOp Go.BinOp.eql 3 (Go.Operand.tmp 74) (Go.Operand.tmp 76) 3, type := 4, pos := "law.go:23", after := #[{ on := 1, ground := Go.Ground.data }, { on := 3, ground := Go.Ground.data }], guard := none }) (v := ?_) rfl (by kernel_rfl) (by kernel_rfl) (by kernel_rfl) (fun _ _ _ h => h) (Or.inl ⟨by rfl, ?_⟩) hHeld ?_
  rotate_left
  · (intro w hSw; (try dsimp only at hSw); go_simp; try (with_reducible rfl))
  try simp only [Act.put, List.setIfInBounds_toArray, List.set_cons_zero, List.set_cons_succ]
  refine wpAnyH_take (i := 5) (oi := { dst := some 78, op := Go.Op.move (Go.Operand.tmp 77), type := 4, pos := "law.go:23", after := #[{ on := 4, ground := Go.Ground.data }, { on := 3, ground := Go.Ground.chain }], guard := none }) (v := ?_) rfl (by kernel_rfl) (by kernel_rfl) (by kernel_rfl) (fun _ _ _ h => h) (Or.inl ⟨by rfl, ?_⟩) hHeld ?_
  rotate_left
  · (intro w hSw; (try dsimp only at hSw); go_simp; try (with_reducible rfl))
  try simp only [Act.put, List.setIfInBounds_toArray, List.set_cons_zero, List.set_cons_succ]
  refine wpAnyH_take (i := 6) (oi := { dst := some 79, op := Go.Op.move (Go.Operand.tmp 11), type := 23, pos := "law.go:23", after := #[{ on := 5, ground := Go.Ground.guard }], guard := some (5, true) }) (v := ?_) rfl (by kernel_rfl) (by kernel_rfl) (by kernel_rfl) (fun _ _ _ h => h) (Or.inl ⟨by rfl, ?_⟩) hHeld ?_
  rotate_left
  · (intro w hSw; (try dsimp only at hSw); go_simp; try (with_reducible rfl))
  try simp only [Act.put, List.setIfInBounds_toArray, List.set_cons_zero, List.set_cons_succ]
  refine wpAnyH_take (i := 7) (oi := { dst := some 80, op := Go.Op.move (Go.Operand.tmp 13), type := 23, pos := "law.go:23", after := #[{ on := 5, ground := Go.Ground.guard }], guard := some (5, true) }) (v := ?_) rfl (by kernel_rfl) (by kernel_rfl) (by kernel_rfl) (fun _ _ _ h => h) (Or.inl ⟨by rfl, ?_⟩) hHeld ?_
  rotate_left
  · (intro w hSw; (try dsimp only at hSw); go_simp; try (with_reducible rfl))
  try simp only [Act.put, List.setIfInBounds_toArray, List.set_cons_zero, List.set_cons_succ]
  refine wpAnyH_ready (rs := [8]) (by kernel_rfl) (by simp) ?_
  refine AllReadyH.cons (o := { dst := some 81, op := Go.Op.call { callee := Go.Callee.value (Go.Operand.func 25), args := #[Go.Operand.tmp 79, Go.Operand.tmp 80], argTypes := #[23, 23] }, type := 4, pos := "law.go:23", after := #[{ on := 6, ground := Go.Ground.data }, { on := 7, ground := Go.Ground.data }, { on := 5, ground := Go.Ground.chain }, { on := 5, ground := Go.Ground.guard }], guard := some (5, true) }) rfl (fun K hK => ?_) AllReadyH.nil
  go_simp
  refine (sInts _ _ _ _ _ _ La.out ((Ra.out.below hHeld).more hHeld.size) ((Rb.out.below hHeld).more hHeld.size)).mono ?_
  rintro e w' ⟨rfl, hb⟩
  go_wp2_with fail
  refine hK.out _ _ ?_ (fun hHeld2 => ?_)
  · (try dsimp only)
    (first | exact hHeld | exact hHeld.trans (hb.mono hHeld.size) | exact hHeld.trans ((below_new _ _).mono hHeld.size) | exact hHeld.drew)
  clear hK K hHeld; have hHeld := hHeld2; clear hHeld2
  try simp only [Act.put, List.setIfInBounds_toArray, List.set_cons_zero, List.set_cons_succ]
  refine wpAnyH_take (i := 9) (oi := { dst := some 82, op := Go.Op.pick (Go.Operand.tmp 78) (Go.Operand.tmp 81) (Go.Operand.const (Go.Value.bool false)), type := 4, pos := "law.go:23", after := #[{ on := 5, ground := Go.Ground.data }, { on := 8, ground := Go.Ground.data }], guard := none }) (v := ?_) rfl (by kernel_rfl) (by kernel_rfl) (by kernel_rfl) (fun _ _ _ h => h) (Or.inl ⟨by rfl, ?_⟩) hHeld ?_
  rotate_left
  · (intro w hSw; (try dsimp only at hSw); go_simp; try (with_reducible rfl))
  try simp only [Act.put, List.setIfInBounds_toArray, List.set_cons_zero, List.set_cons_succ]
  refine wpAnyH_take (i := 10) (oi := { dst := some 83, op := Go.Op.move (Go.Operand.tmp 82), type := 4, pos := "law.go:23", after := #[{ on := 9, ground := Go.Ground.data }, { on := 8, ground := Go.Ground.chain }], guard := none }) (v := ?_) rfl (by kernel_rfl) (by kernel_rfl) (by kernel_rfl) (fun _ _ _ h => h) (Or.inl ⟨by rfl, ?_⟩) hHeld ?_
  rotate_left
  · (intro w hSw; (try dsimp only at hSw); go_simp; try (with_reducible rfl))
  try simp only [Act.put, List.setIfInBounds_toArray, List.set_cons_zero, List.set_cons_succ]
  refine wpAnyH_take (i := 11) (oi := { dst := some 84, op := Go.Op.move (Go.Operand.tmp 12), type := 29, pos := "law.go:23", after := #[{ on := 10, ground := Go.Ground.guard }], guard := some (10, true) }) (v := ?_) rfl (by kernel_rfl) (by kernel_rfl) (by kernel_rfl) (fun _ _ _ h => h) (Or.inl ⟨by rfl, ?_⟩) hHeld ?_
  rotate_left
  · (intro w hSw; (try dsimp only at hSw); go_simp; try (with_reducible rfl))
  try simp only [Act.put, List.setIfInBounds_toArray, List.set_cons_zero, List.set_cons_succ]
  refine wpAnyH_take (i := 12) (oi := { dst := some 85, op := Go.Op.move (Go.Operand.tmp 14), type := 3, pos := "law.go:23", after := #[{ on := 10, ground := Go.Ground.guard }], guard := some (10, true) }) (v := ?_) rfl (by kernel_rfl) (by kernel_rfl) (by kernel_rfl) (fun _ _ _ h => h) (Or.inl ⟨by rfl, ?_⟩) hHeld ?_
  rotate_left
  · (intro w hSw; (try dsimp only at hSw); go_simp; try (with_reducible rfl))
  try simp only [Act.put, List.setIfInBounds_toArray, List.set_cons_zero, List.set_cons_succ]
  refine wpAnyH_take (i := 13) (oi := { dst := some 86, op := Go.Op.binOp Go.BinOp.eql 3 (Go.Operand.tmp 84) (Go.Operand.tmp 85) 3, type := 4, pos := "law.go:23", after := #[{ on := 11, ground := Go.Ground.data }, { on := 12, ground := Go.Ground.data }, { on := 10, ground := Go.Ground.guard }], guard := some (10, true) }) (v := ?_) rfl (by kernel_rfl) (by kernel_rfl) (by kernel_rfl) (fun _ _ _ h => h) (Or.inl ⟨by rfl, ?_⟩) hHeld ?_
  rotate_left
  · (intro w hSw; (try dsimp only at hSw); go_simp; try (with_reducible rfl))
  try simp only [Act.put, List.setIfInBounds_toArray, List.set_cons_zero, List.set_cons_succ]
  refine wpAnyH_take (i := 14) (oi := { dst := some 87, op := Go.Op.pick (Go.Operand.tmp 83) (Go.Operand.tmp 86) (Go.Operand.const (Go.Value.bool false)), type := 4, pos := "law.go:23", after := #[{ on := 10, ground := Go.Ground.data }, { on := 13, ground := Go.Ground.data }], guard := none }) (v := ?_) rfl (by kernel_rfl) (by kernel_rfl) (by kernel_rfl) (fun _ _ _ h => h) (Or.inl ⟨by rfl, ?_⟩) hHeld ?_
  rotate_left
  · (intro w hSw; (try dsimp only at hSw); go_simp; try (with_reducible rfl))
  try simp only [Act.put, List.setIfInBounds_toArray, List.set_cons_zero, List.set_cons_succ]
  refine wpAnyH_take (i := 15) (oi := { dst := some 88, op := Go.Op.move (Go.Operand.tmp 87), type := 4, pos := "law.go:23", after := #[{ on := 14, ground := Go.Ground.data }, { on := 10, ground := Go.Ground.chain }], guard := none }) (v := ?_) rfl (by kernel_rfl) (by kernel_rfl) (by kernel_rfl) (fun _ _ _ h => h) (Or.inl ⟨by rfl, ?_⟩) hHeld ?_
  rotate_left
  · (intro w hSw; (try dsimp only at hSw); go_simp; try (with_reducible rfl))
  try simp only [Act.put, List.setIfInBounds_toArray, List.set_cons_zero, List.set_cons_succ]
  refine wpAnyH_take (i := 16) (oi := { dst := some 89, op := Go.Op.move (Go.Operand.tmp 15), type := 23, pos := "law.go:23", after := #[{ on := 15, ground := Go.Ground.guard }], guard := some (15, true) }) (v := ?_) rfl (by kernel_rfl) (by kernel_rfl) (by kernel_rfl) (fun _ _ _ h => h) (Or.inl ⟨by rfl, ?_⟩) hHeld ?_
  rotate_left
  · (intro w hSw; (try dsimp only at hSw); go_simp; try (with_reducible rfl))
  try simp only [Act.put, List.setIfInBounds_toArray, List.set_cons_zero, List.set_cons_succ]
  refine wpAnyH_take (i := 17) (oi := { dst := some 90, op := Go.Op.move (Go.Operand.tmp 18), type := 23, pos := "law.go:23", after := #[{ on := 15, ground := Go.Ground.guard }], guard := some (15, true) }) (v := ?_) rfl (by kernel_rfl) (by kernel_rfl) (by kernel_rfl) (fun _ _ _ h => h) (Or.inl ⟨by rfl, ?_⟩) hHeld ?_
  rotate_left
  · (intro w hSw; (try dsimp only at hSw); go_simp; try (with_reducible rfl))
  try simp only [Act.put, List.setIfInBounds_toArray, List.set_cons_zero, List.set_cons_succ]
  refine wpAnyH_ready (rs := [18]) (by kernel_rfl) (by simp) ?_
  refine AllReadyH.cons (o := { dst := some 91, op := Go.Op.call { callee := Go.Callee.value (Go.Operand.func 25), args := #[Go.Operand.tmp 89, Go.Operand.tmp 90], argTypes := #[23, 23] }, type := 4, pos := "law.go:23", after := #[{ on := 16, ground := Go.Ground.data }, { on := 17, ground := Go.Ground.data }, { on := 15, ground := Go.Ground.chain }, { on := 15, ground := Go.Ground.guard }], guard := some (15, true) }) rfl (fun K hK => ?_) AllReadyH.nil
  go_simp
  refine (sInts _ _ _ _ _ _ Lc.out ((Rc.out.below hHeld).more hHeld.size) ((Rx.out.below hHeld).more hHeld.size)).mono ?_
  rintro e w' ⟨rfl, hb⟩
  go_wp2_with fail
  refine hK.out _ _ ?_ (fun hHeld2 => ?_)
  · (try dsimp only)
    (first | exact hHeld | exact hHeld.trans (hb.mono hHeld.size) | exact hHeld.trans ((below_new _ _).mono hHeld.size) | exact hHeld.drew)
  clear hK K hHeld; have hHeld := hHeld2; clear hHeld2
  try simp only [Act.put, List.setIfInBounds_toArray, List.set_cons_zero, List.set_cons_succ]
  refine wpAnyH_take (i := 19) (oi := { dst := some 92, op := Go.Op.pick (Go.Operand.tmp 88) (Go.Operand.tmp 91) (Go.Operand.const (Go.Value.bool false)), type := 4, pos := "law.go:23", after := #[{ on := 15, ground := Go.Ground.data }, { on := 18, ground := Go.Ground.data }], guard := none }) (v := ?_) rfl (by kernel_rfl) (by kernel_rfl) (by kernel_rfl) (fun _ _ _ h => h) (Or.inl ⟨by rfl, ?_⟩) hHeld ?_
  rotate_left
  · (intro w hSw; (try dsimp only at hSw); go_simp; try (with_reducible rfl))
  try simp only [Act.put, List.setIfInBounds_toArray, List.set_cons_zero, List.set_cons_succ]
  refine wpAnyH_take (i := 20) (oi := { dst := some 93, op := Go.Op.move (Go.Operand.tmp 92), type := 4, pos := "law.go:23", after := #[{ on := 19, ground := Go.Ground.data }, { on := 18, ground := Go.Ground.chain }], guard := none }) (v := ?_) rfl (by kernel_rfl) (by kernel_rfl) (by kernel_rfl) (fun _ _ _ h => h) (Or.inl ⟨by rfl, ?_⟩) hHeld ?_
  rotate_left
  · (intro w hSw; (try dsimp only at hSw); go_simp; try (with_reducible rfl))
  try simp only [Act.put, List.setIfInBounds_toArray, List.set_cons_zero, List.set_cons_succ]
  refine wpAnyH_take (i := 21) (oi := { dst := some 94, op := Go.Op.move (Go.Operand.tmp 16), type := 23, pos := "law.go:23", after := #[{ on := 20, ground := Go.Ground.guard }], guard := some (20, true) }) (v := ?_) rfl (by kernel_rfl) (by kernel_rfl) (by kernel_rfl) (fun _ _ _ h => h) (Or.inl ⟨by rfl, ?_⟩) hHeld ?_
  rotate_left
  · (intro w hSw; (try dsimp only at hSw); go_simp; try (with_reducible rfl))
  try simp only [Act.put, List.setIfInBounds_toArray, List.set_cons_zero, List.set_cons_succ]
  refine wpAnyH_take (i := 22) (oi := { dst := some 95, op := Go.Op.move (Go.Operand.tmp 19), type := 23, pos := "law.go:23", after := #[{ on := 20, ground := Go.Ground.guard }], guard := some (20, true) }) (v := ?_) rfl (by kernel_rfl) (by kernel_rfl) (by kernel_rfl) (fun _ _ _ h => h) (Or.inl ⟨by rfl, ?_⟩) hHeld ?_
  rotate_left
  · (intro w hSw; (try dsimp only at hSw); go_simp; try (with_reducible rfl))
  try simp only [Act.put, List.setIfInBounds_toArray, List.set_cons_zero, List.set_cons_succ]
  refine wpAnyH_ready (rs := [23]) (by kernel_rfl) (by simp) ?_
  refine AllReadyH.cons (o := { dst := some 96, op := Go.Op.call { callee := Go.Callee.value (Go.Operand.func 25), args := #[Go.Operand.tmp 94, Go.Operand.tmp 95], argTypes := #[23, 23] }, type := 4, pos := "law.go:23", after := #[{ on := 21, ground := Go.Ground.data }, { on := 22, ground := Go.Ground.data }, { on := 20, ground := Go.Ground.chain }, { on := 20, ground := Go.Ground.guard }], guard := some (20, true) }) rfl (fun K hK => ?_) AllReadyH.nil
  go_simp
  refine (sInts _ _ _ _ _ _ Ld.out ((Rd_.out.below hHeld).more hHeld.size) ((Ry.out.below hHeld).more hHeld.size)).mono ?_
  rintro e w' ⟨rfl, hb⟩
  go_wp2_with fail
  refine hK.out _ _ ?_ (fun hHeld2 => ?_)
  · (try dsimp only)
    (first | exact hHeld | exact hHeld.trans (hb.mono hHeld.size) | exact hHeld.trans ((below_new _ _).mono hHeld.size) | exact hHeld.drew)
  clear hK K hHeld; have hHeld := hHeld2; clear hHeld2
  try simp only [Act.put, List.setIfInBounds_toArray, List.set_cons_zero, List.set_cons_succ]
  refine wpAnyH_take (i := 24) (oi := { dst := some 97, op := Go.Op.pick (Go.Operand.tmp 93) (Go.Operand.tmp 96) (Go.Operand.const (Go.Value.bool false)), type := 4, pos := "law.go:23", after := #[{ on := 20, ground := Go.Ground.data }, { on := 23, ground := Go.Ground.data }], guard := none }) (v := ?_) rfl (by kernel_rfl) (by kernel_rfl) (by kernel_rfl) (fun _ _ _ h => h) (Or.inl ⟨by rfl, ?_⟩) hHeld ?_
  rotate_left
  · (intro w hSw; (try dsimp only at hSw); go_simp; try (with_reducible rfl))
  try simp only [Act.put, List.setIfInBounds_toArray, List.set_cons_zero, List.set_cons_succ]
  refine wpAnyH_take (i := 25) (oi := { dst := some 98, op := Go.Op.move (Go.Operand.tmp 97), type := 4, pos := "law.go:23", after := #[{ on := 24, ground := Go.Ground.data }, { on := 23, ground := Go.Ground.chain }], guard := none }) (v := ?_) rfl (by kernel_rfl) (by kernel_rfl) (by kernel_rfl) (fun _ _ _ h => h) (Or.inl ⟨by rfl, ?_⟩) hHeld ?_
  rotate_left
  · (intro w hSw; (try dsimp only at hSw); go_simp; try (with_reducible rfl))
  try simp only [Act.put, List.setIfInBounds_toArray, List.set_cons_zero, List.set_cons_succ]
  refine wpAnyH_take (i := 26) (oi := { dst := some 99, op := Go.Op.move (Go.Operand.tmp 17), type := 29, pos := "law.go:23", after := #[{ on := 25, ground := Go.Ground.guard }], guard := some (25, true) }) (v := ?_) rfl (by kernel_rfl) (by kernel_rfl) (by kernel_rfl) (fun _ _ _ h => h) (Or.inl ⟨by rfl, ?_⟩) hHeld ?_
  rotate_left
  · (intro w hSw; (try dsimp only at hSw); go_simp; try (with_reducible rfl))
  try simp only [Act.put, List.setIfInBounds_toArray, List.set_cons_zero, List.set_cons_succ]
  refine wpAnyH_take (i := 27) (oi := { dst := some 100, op := Go.Op.move (Go.Operand.tmp 20), type := 3, pos := "law.go:23", after := #[{ on := 25, ground := Go.Ground.guard }], guard := some (25, true) }) (v := ?_) rfl (by kernel_rfl) (by kernel_rfl) (by kernel_rfl) (fun _ _ _ h => h) (Or.inl ⟨by rfl, ?_⟩) hHeld ?_
  rotate_left
  · (intro w hSw; (try dsimp only at hSw); go_simp; try (with_reducible rfl))
  try simp only [Act.put, List.setIfInBounds_toArray, List.set_cons_zero, List.set_cons_succ]
  refine wpAnyH_take (i := 28) (oi := { dst := some 101, op := Go.Op.binOp Go.BinOp.eql 3 (Go.Operand.tmp 99) (Go.Operand.tmp 100) 3, type := 4, pos := "law.go:23", after := #[{ on := 26, ground := Go.Ground.data }, { on := 27, ground := Go.Ground.data }, { on := 25, ground := Go.Ground.guard }], guard := some (25, true) }) (v := ?_) rfl (by kernel_rfl) (by kernel_rfl) (by kernel_rfl) (fun _ _ _ h => h) (Or.inl ⟨by rfl, ?_⟩) hHeld ?_
  rotate_left
  · (intro w hSw; (try dsimp only at hSw); go_simp; try (with_reducible rfl))
  try simp only [Act.put, List.setIfInBounds_toArray, List.set_cons_zero, List.set_cons_succ]
  refine wpAnyH_take (i := 29) (oi := { dst := some 102, op := Go.Op.pick (Go.Operand.tmp 98) (Go.Operand.tmp 101) (Go.Operand.const (Go.Value.bool false)), type := 4, pos := "law.go:23", after := #[{ on := 25, ground := Go.Ground.data }, { on := 28, ground := Go.Ground.data }], guard := none }) (v := ?_) rfl (by kernel_rfl) (by kernel_rfl) (by kernel_rfl) (fun _ _ _ h => h) (Or.inl ⟨by rfl, ?_⟩) hHeld ?_
  rotate_left
  · (intro w hSw; (try dsimp only at hSw); go_simp; try (with_reducible rfl))
  try simp only [Act.put, List.setIfInBounds_toArray, List.set_cons_zero, List.set_cons_succ]
  refine wpAnyH_take (i := 30) (oi := { dst := some 103, op := Go.Op.move (Go.Operand.tmp 102), type := 4, pos := "law.go:23", after := #[{ on := 29, ground := Go.Ground.data }, { on := 25, ground := Go.Ground.chain }], guard := none }) (v := ?_) rfl (by kernel_rfl) (by kernel_rfl) (by kernel_rfl) (fun _ _ _ h => h) (Or.inl ⟨by rfl, ?_⟩) hHeld ?_
  rotate_left
  · (intro w hSw; (try dsimp only at hSw); go_simp; try (with_reducible rfl))
  try simp only [Act.put, List.setIfInBounds_toArray, List.set_cons_zero, List.set_cons_succ]
  refine wpAnyH_take (i := 31) (oi := { dst := some 104, op := Go.Op.move (Go.Operand.tmp 21), type := 38, pos := "law.go:23", after := #[{ on := 30, ground := Go.Ground.guard }], guard := some (30, true) }) (v := ?_) rfl (by kernel_rfl) (by kernel_rfl) (by kernel_rfl) (fun _ _ _ h => h) (Or.inl ⟨by rfl, ?_⟩) hHeld ?_
  rotate_left
  · (intro w hSw; (try dsimp only at hSw); go_simp; try (with_reducible rfl))
  try simp only [Act.put, List.setIfInBounds_toArray, List.set_cons_zero, List.set_cons_succ]
  refine wpAnyH_take (i := 32) (oi := { dst := some 105, op := Go.Op.move (Go.Operand.tmp 23), type := 38, pos := "law.go:23", after := #[{ on := 30, ground := Go.Ground.guard }], guard := some (30, true) }) (v := ?_) rfl (by kernel_rfl) (by kernel_rfl) (by kernel_rfl) (fun _ _ _ h => h) (Or.inl ⟨by rfl, ?_⟩) hHeld ?_
  rotate_left
  · (intro w hSw; (try dsimp only at hSw); go_simp; try (with_reducible rfl))
  try simp only [Act.put, List.setIfInBounds_toArray, List.set_cons_zero, List.set_cons_succ]
  refine wpAnyH_ready (rs := [33]) (by kernel_rfl) (by simp) ?_
  refine AllReadyH.cons (o := { dst := some 106, op := Go.Op.call { callee := Go.Callee.value (Go.Operand.func 26), args := #[Go.Operand.tmp 104, Go.Operand.tmp 105], argTypes := #[38, 38] }, type := 4, pos := "law.go:23", after := #[{ on := 31, ground := Go.Ground.data }, { on := 32, ground := Go.Ground.data }, { on := 30, ground := Go.Ground.chain }, { on := 30, ground := Go.Ground.guard }], guard := some (30, true) }) rfl (fun K hK => ?_) AllReadyH.nil
  go_simp
  refine (sameLists_true _ _ _ _ _ _ _ _ _ rfl Ln.out ((Rl.out.below hHeld).more hHeld.size) ((Rm.out.below hHeld).more hHeld.size) ((Wl.out.below hHeld).more hHeld.size) ((Wm.out.below hHeld).more hHeld.size) Lx.out).mono ?_
  rintro e w' ⟨rfl, hb⟩
  go_wp2_with fail
  refine hK.out _ _ ?_ (fun hHeld2 => ?_)
  · (try dsimp only)
    (first | exact hHeld | exact hHeld.trans (hb.mono hHeld.size) | exact hHeld.trans ((below_new _ _).mono hHeld.size) | exact hHeld.drew)
  clear hK K hHeld; have hHeld := hHeld2; clear hHeld2
  try simp only [Act.put, List.setIfInBounds_toArray, List.set_cons_zero, List.set_cons_succ]
  refine wpAnyH_take (i := 34) (oi := { dst := some 107, op := Go.Op.pick (Go.Operand.tmp 103) (Go.Operand.tmp 106) (Go.Operand.const (Go.Value.bool false)), type := 4, pos := "law.go:23", after := #[{ on := 30, ground := Go.Ground.data }, { on := 33, ground := Go.Ground.data }], guard := none }) (v := ?_) rfl (by kernel_rfl) (by kernel_rfl) (by kernel_rfl) (fun _ _ _ h => h) (Or.inl ⟨by rfl, ?_⟩) hHeld ?_
  rotate_left
  · (intro w hSw; (try dsimp only at hSw); go_simp; try (with_reducible rfl))
  try simp only [Act.put, List.setIfInBounds_toArray, List.set_cons_zero, List.set_cons_succ]
  refine wpAnyH_take (i := 35) (oi := { dst := some 108, op := Go.Op.move (Go.Operand.tmp 107), type := 4, pos := "law.go:23", after := #[{ on := 34, ground := Go.Ground.data }, { on := 33, ground := Go.Ground.chain }], guard := none }) (v := ?_) rfl (by kernel_rfl) (by kernel_rfl) (by kernel_rfl) (fun _ _ _ h => h) (Or.inl ⟨by rfl, ?_⟩) hHeld ?_
  rotate_left
  · (intro w hSw; (try dsimp only at hSw); go_simp; try (with_reducible rfl))
  try simp only [Act.put, List.setIfInBounds_toArray, List.set_cons_zero, List.set_cons_succ]
  refine wpAnyH_take (i := 36) (oi := { dst := some 109, op := Go.Op.move (Go.Operand.tmp 22), type := 29, pos := "law.go:23", after := #[{ on := 35, ground := Go.Ground.guard }], guard := some (35, true) }) (v := ?_) rfl (by kernel_rfl) (by kernel_rfl) (by kernel_rfl) (fun _ _ _ h => h) (Or.inl ⟨by rfl, ?_⟩) hHeld ?_
  rotate_left
  · (intro w hSw; (try dsimp only at hSw); go_simp; try (with_reducible rfl))
  try simp only [Act.put, List.setIfInBounds_toArray, List.set_cons_zero, List.set_cons_succ]
  refine wpAnyH_take (i := 37) (oi := { dst := some 110, op := Go.Op.move (Go.Operand.tmp 24), type := 3, pos := "law.go:23", after := #[{ on := 35, ground := Go.Ground.guard }], guard := some (35, true) }) (v := ?_) rfl (by kernel_rfl) (by kernel_rfl) (by kernel_rfl) (fun _ _ _ h => h) (Or.inl ⟨by rfl, ?_⟩) hHeld ?_
  rotate_left
  · (intro w hSw; (try dsimp only at hSw); go_simp; try (with_reducible rfl))
  try simp only [Act.put, List.setIfInBounds_toArray, List.set_cons_zero, List.set_cons_succ]
  refine wpAnyH_take (i := 38) (oi := { dst := some 111, op := Go.Op.binOp Go.BinOp.eql 3 (Go.Operand.tmp 109) (Go.Operand.tmp 110) 3, type := 4, pos := "law.go:23", after := #[{ on := 36, ground := Go.Ground.data }, { on := 37, ground := Go.Ground.data }, { on := 35, ground := Go.Ground.guard }], guard := some (35, true) }) (v := ?_) rfl (by kernel_rfl) (by kernel_rfl) (by kernel_rfl) (fun _ _ _ h => h) (Or.inl ⟨by rfl, ?_⟩) hHeld ?_
  rotate_left
  · (intro w hSw; (try dsimp only at hSw); go_simp; try (with_reducible rfl))
  try simp only [Act.put, List.setIfInBounds_toArray, List.set_cons_zero, List.set_cons_succ]
  refine wpAnyH_take (i := 39) (oi := { dst := some 112, op := Go.Op.pick (Go.Operand.tmp 108) (Go.Operand.tmp 111) (Go.Operand.const (Go.Value.bool false)), type := 4, pos := "law.go:23", after := #[{ on := 35, ground := Go.Ground.data }, { on := 38, ground := Go.Ground.data }], guard := none }) (v := ?_) rfl (by kernel_rfl) (by kernel_rfl) (by kernel_rfl) (fun _ _ _ h => h) (Or.inl ⟨by rfl, ?_⟩) hHeld ?_
  rotate_left
  · (intro w hSw; (try dsimp only at hSw); go_simp; try (with_reducible rfl))
  try simp only [Act.put, List.setIfInBounds_toArray, List.set_cons_zero, List.set_cons_succ]
  refine wpAnyH_take (i := 40) (oi := { dst := some 113, op := Go.Op.move (Go.Operand.tmp 112), type := 4, pos := "law.go:23", after := #[{ on := 39, ground := Go.Ground.data }, { on := 35, ground := Go.Ground.chain }], guard := none }) (v := ?_) rfl (by kernel_rfl) (by kernel_rfl) (by kernel_rfl) (fun _ _ _ h => h) (Or.inl ⟨by rfl, ?_⟩) hHeld ?_
  rotate_left
  · (intro w hSw; (try dsimp only at hSw); go_simp; try (with_reducible rfl))
  try simp only [Act.put, List.setIfInBounds_toArray, List.set_cons_zero, List.set_cons_succ]
  refine wpAnyH_take (i := 41) (oi := { dst := some 114, op := Go.Op.load 25 (Go.Operand.tmp 9), type := 25, pos := "law.go:23", after := #[{ on := 40, ground := Go.Ground.guard }], guard := some (40, true) }) (v := ?_) rfl (by kernel_rfl) (by kernel_rfl) (by kernel_rfl) (fun _ _ _ h => h) (Or.inl ⟨by rfl, ?_⟩) hHeld ?_
  rotate_left
  · (intro w hSw; (try dsimp only at hSw); obtain ⟨q0, q1, q2, q3⟩ := (C10.out.below hSw).b4.c4; obtain ⟨p0, p1, p2, p3⟩ := (C10.out.below hSw).b9.c4; go_simp; try (with_reducible rfl))
  try simp only [Act.put, List.setIfInBounds_toArray, List.set_cons_zero, List.set_cons_succ]
  refine wpAnyH_take (i := 42) (oi := { dst := some 115, op := Go.Op.load 25 (Go.Operand.tmp 4), type := 25, pos := "law.go:23", after := #[{ on := 40, ground := Go.Ground.guard }], guard := some (40, true) }) (v := ?_) rfl (by kernel_rfl) (by kernel_rfl) (by kernel_rfl) (fun _ _ _ h => h) (Or.inl ⟨by rfl, ?_⟩) hHeld ?_
  rotate_left
  · (intro w hSw; (try dsimp only at hSw); obtain ⟨q0, q1, q2, q3⟩ := (C10.out.below hSw).b4.c4; obtain ⟨p0, p1, p2, p3⟩ := (C10.out.below hSw).b9.c4; go_simp; try (with_reducible rfl))
  try simp only [Act.put, List.setIfInBounds_toArray, List.set_cons_zero, List.set_cons_succ]
  refine wpAnyH_ready (rs := [43]) (by kernel_rfl) (by simp) ?_
  refine AllReadyH.cons (o := { dst := some 116, op := Go.Op.call { callee := Go.Callee.value (Go.Operand.func 27), args := #[Go.Operand.tmp 114, Go.Operand.tmp 115], argTypes := #[25, 25] }, type := 4, pos := "law.go:23", after := #[{ on := 41, ground := Go.Ground.data }, { on := 42, ground := Go.Ground.data }, { on := 40, ground := Go.Ground.chain }, { on := 40, ground := Go.Ground.guard }], guard := some (40, true) }) rfl (fun K hK => ?_) AllReadyH.nil
  go_simp
  refine (same_net_true _ _ _ _ _ _ _ _ _ _ _ _ _ _ _ (C10.out.below (hHeld)).n2 (C10.out.below (hHeld)).n1).mono ?_
  rintro e w' ⟨rfl, hb⟩
  go_wp2_with fail
  refine hK.out _ _ ?_ (fun hHeld2 => ?_)
  · (try dsimp only)
    (first | exact hHeld | exact hHeld.trans (hb.mono hHeld.size) | exact hHeld.trans ((below_new _ _).mono hHeld.size) | exact hHeld.drew)
  clear hK K hHeld; have hHeld := hHeld2; clear hHeld2
  try simp only [Act.put, List.setIfInBounds_toArray, List.set_cons_zero, List.set_cons_succ]
  refine wpAnyH_take (i := 44) (oi := { dst := some 117, op := Go.Op.pick (Go.Operand.tmp 113) (Go.Operand.tmp 116) (Go.Operand.const (Go.Value.bool false)), type := 4, pos := "law.go:23", after := #[{ on := 40, ground := Go.Ground.data }, { on := 43, ground := Go.Ground.data }], guard := none }) (v := ?_) rfl (by kernel_rfl) (by kernel_rfl) (by kernel_rfl) (fun _ _ _ h => h) (Or.inl ⟨by rfl, ?_⟩) hHeld ?_
  rotate_left
  · (intro w hSw; (try dsimp only at hSw); go_simp; try (with_reducible rfl))
  try simp only [Act.put, List.setIfInBounds_toArray, List.set_cons_zero, List.set_cons_succ]
  refine wpAnyH_take (i := 45) (oi := { dst := some 118, op := Go.Op.move (Go.Operand.tmp 117), type := 4, pos := "law.go:23", after := #[{ on := 44, ground := Go.Ground.data }, { on := 43, ground := Go.Ground.chain }], guard := none }) (v := ?_) rfl (by kernel_rfl) (by kernel_rfl) (by kernel_rfl) (fun _ _ _ h => h) (Or.inl ⟨by rfl, ?_⟩) hHeld ?_
  rotate_left
  · (intro w hSw; (try dsimp only at hSw); go_simp; try (with_reducible rfl))
  try simp only [Act.put, List.setIfInBounds_toArray, List.set_cons_zero, List.set_cons_succ]
  refine wpAnyH_take (i := 46) (oi := { dst := some 119, op := Go.Op.move (Go.Operand.tmp 10), type := 26, pos := "law.go:23", after := #[{ on := 45, ground := Go.Ground.guard }], guard := some (45, true) }) (v := ?_) rfl (by kernel_rfl) (by kernel_rfl) (by kernel_rfl) (fun _ _ _ h => h) (Or.inl ⟨by rfl, ?_⟩) hHeld ?_
  rotate_left
  · (intro w hSw; (try dsimp only at hSw); go_simp; try (with_reducible rfl))
  try simp only [Act.put, List.setIfInBounds_toArray, List.set_cons_zero, List.set_cons_succ]
  refine wpAnyH_take (i := 47) (oi := { dst := some 120, op := Go.Op.move (Go.Operand.tmp 3), type := 26, pos := "law.go:23", after := #[{ on := 45, ground := Go.Ground.guard }], guard := some (45, true) }) (v := ?_) rfl (by kernel_rfl) (by kernel_rfl) (by kernel_rfl) (fun _ _ _ h => h) (Or.inl ⟨by rfl, ?_⟩) hHeld ?_
  rotate_left
  · (intro w hSw; (try dsimp only at hSw); go_simp; try (with_reducible rfl))
  try simp only [Act.put, List.setIfInBounds_toArray, List.set_cons_zero, List.set_cons_succ]
  refine wpAnyH_ready (rs := [48]) (by kernel_rfl) (by simp) ?_
  refine AllReadyH.cons (o := { dst := some 121, op := Go.Op.call { callee := Go.Callee.value (Go.Operand.func 28), args := #[Go.Operand.tmp 119, Go.Operand.tmp 120], argTypes := #[26, 26] }, type := 4, pos := "law.go:23", after := #[{ on := 46, ground := Go.Ground.data }, { on := 47, ground := Go.Ground.data }, { on := 45, ground := Go.Ground.chain }, { on := 45, ground := Go.Ground.guard }], guard := some (45, true) }) rfl (fun K hK => ?_) AllReadyH.nil
  go_simp
  refine (sUses _ _ _ _ _ _ hus80 (C10.out.below (hHeld)).u2 (C10.out.below (hHeld)).u1).mono ?_
  rintro e w' ⟨rfl, hb⟩
  go_wp2_with fail
  refine hK.out _ _ ?_ (fun hHeld2 => ?_)
  · (try dsimp only)
    (first | exact hHeld | exact hHeld.trans (hb.mono hHeld.size) | exact hHeld.trans ((below_new _ _).mono hHeld.size) | exact hHeld.drew)
  clear hK K hHeld; have hHeld := hHeld2; clear hHeld2
  try simp only [Act.put, List.setIfInBounds_toArray, List.set_cons_zero, List.set_cons_succ]
  refine wpAnyH_take (i := 49) (oi := { dst := some 122, op := Go.Op.pick (Go.Operand.tmp 118) (Go.Operand.tmp 121) (Go.Operand.const (Go.Value.bool false)), type := 4, pos := "law.go:23", after := #[{ on := 45, ground := Go.Ground.data }, { on := 48, ground := Go.Ground.data }], guard := none }) (v := ?_) rfl (by kernel_rfl) (by kernel_rfl) (by kernel_rfl) (fun _ _ _ h => h) (Or.inl ⟨by rfl, ?_⟩) hHeld ?_
  rotate_left
  · (intro w hSw; (try dsimp only at hSw); go_simp; try (with_reducible rfl))
  try simp only [Act.put, List.setIfInBounds_toArray, List.set_cons_zero, List.set_cons_succ]
  refine wpAnyH_take (i := 50) (oi := { dst := some 8, op := Go.Op.assign (Go.Operand.tmp 122), type := 4, pos := "law.go:23", after := #[{ on := 49, ground := Go.Ground.data }, { on := 48, ground := Go.Ground.chain }, { on := 0, ground := Go.Ground.phase }, { on := 1, ground := Go.Ground.phase }, { on := 2, ground := Go.Ground.phase }, { on := 3, ground := Go.Ground.phase }, { on := 4, ground := Go.Ground.phase }, { on := 5, ground := Go.Ground.phase }, { on := 6, ground := Go.Ground.phase }, { on := 7, ground := Go.Ground.phase }, { on := 8, ground := Go.Ground.phase }, { on := 9, ground := Go.Ground.phase }, { on := 10, ground := Go.Ground.phase }, { on := 11, ground := Go.Ground.phase }, { on := 12, ground := Go.Ground.phase }, { on := 13, ground := Go.Ground.phase }, { on := 14, ground := Go.Ground.phase }, { on := 15, ground := Go.Ground.phase }, { on := 16, ground := Go.Ground.phase }, { on := 17, ground := Go.Ground.phase }, { on := 18, ground := Go.Ground.phase }, { on := 19, ground := Go.Ground.phase }, { on := 20, ground := Go.Ground.phase }, { on := 21, ground := Go.Ground.phase }, { on := 22, ground := Go.Ground.phase }, { on := 23, ground := Go.Ground.phase }, { on := 24, ground := Go.Ground.phase }, { on := 25, ground := Go.Ground.phase }, { on := 26, ground := Go.Ground.phase }, { on := 27, ground := Go.Ground.phase }, { on := 28, ground := Go.Ground.phase }, { on := 29, ground := Go.Ground.phase }, { on := 30, ground := Go.Ground.phase }, { on := 31, ground := Go.Ground.phase }, { on := 32, ground := Go.Ground.phase }, { on := 33, ground := Go.Ground.phase }, { on := 34, ground := Go.Ground.phase }, { on := 35, ground := Go.Ground.phase }, { on := 36, ground := Go.Ground.phase }, { on := 37, ground := Go.Ground.phase }, { on := 38, ground := Go.Ground.phase }, { on := 39, ground := Go.Ground.phase }, { on := 40, ground := Go.Ground.phase }, { on := 41, ground := Go.Ground.phase }, { on := 42, ground := Go.Ground.phase }, { on := 43, ground := Go.Ground.phase }, { on := 44, ground := Go.Ground.phase }, { on := 45, ground := Go.Ground.phase }, { on := 46, ground := Go.Ground.phase }, { on := 47, ground := Go.Ground.phase }, { on := 48, ground := Go.Ground.phase }, { on := 49, ground := Go.Ground.phase }], guard := none }) (v := ?_) rfl (by kernel_rfl) (by kernel_rfl) (by kernel_rfl) (fun _ _ _ h => h) (Or.inl ⟨by rfl, ?_⟩) hHeld ?_
  rotate_left
  · (intro w hSw; (try dsimp only at hSw); go_simp; try (with_reducible rfl))
  try simp only [Act.put, List.setIfInBounds_toArray, List.set_cons_zero, List.set_cons_succ]
  refine wpAnyH_done (by kernel_rfl) ?_ _
  have hfin := C10.out.bl.trans (hHeld.mono C10.out.bl.size)
  clear hHeld
  go_wp2_with fail
  go_ret
  exact ⟨rfl, hfin⟩

set_option maxRecDepth 100000 in
theorem channelPaths_lifted (os : Os) (started : os.Started) (H : Type) (enc : TypeId × Value → H) :
    ReturnsInHanded {} Try.checked os 3 .any (Rows.channelPathsSpec.pre6 enc Try.prog Try.f3 Rows.channelPathsRow.domain false) (Rows.channelPathsSpec.post enc Try.prog Try.f3 false true false false) := by
  refine law_lifted os started H enc (s := Rows.channelPathsSpec) Try.func3 (by kernel_rfl) ?_ rfl Try.underlying4 rfl (of_decide_eq_true (by kernel_rfl))
    (ChangeSpec.witness6 (enc := enc) (C := Try.checked) false ⟨#[], #[.agg #[.slice none 0 0, .slice none 0 0, .int .i64 0, .int .i64 0], .int .i64 0, .int .i64 0, .slice none 0 0], []⟩ 8 (by kernel_rfl) (by kernel_rfl) (by kernel_rfl) (by kernel_rfl)) ?_
  · intro ds hds
    match ds, hds with
    | [a, b, c, d], _ => rfl
  · intro W base args ds ps hval hA hlt
    rw [Try.params3] at hA hval
    obtain ⟨v0, v1, v2, v3, d0, d1, d2, d3, p0, p1, p2, p3, rfl, rfl, rfl, h0, h1, h2, h3⟩ := trodAll_four hA
    obtain ⟨Ac, nc, cc, Af, nf, cf, dry, days, cs, fs, rfl, hnc, hnf, _, _, hcs, hfs, _, _, _, _⟩ := open_net (hval 0 _ v0 rfl rfl) h0
    obtain ⟨a, rfl, _⟩ := open_i64 (hval 1 _ v1 rfl rfl) h1
    obtain ⟨b, rfl, _⟩ := open_i64 (hval 2 _ v2 rfl rfl) h2
    obtain ⟨Au, nu, cu, us, rfl, hnu, _, hus, _⟩ := open_sl shape_us Try.underlying26 cells_us Us.len (by omega) (hval 3 _ v3 rfl rfl) h3
    exact paths_walk Ac Af Au nc cc nf cf nu cu dry days a b cs fs us W hnc hnf hnu hcs hfs hus

theorem channelPaths_holds : Rows.ChannelPathsSaid :=
  OpenClaim.holds_of_wide 3 Try.f3 rfl rfl rfl rfl rfl rfl rfl ⟨rfl, rfl, rfl, rfl, rfl⟩ rfl rfl rfl rfl rfl (by kernel_rfl) Try.func3 (by kernel_rfl)
    (of_decide_eq_true (by kernel_rfl)) (by unfold Func.isWrapper; rw [if_neg (of_decide_eq_false (by kernel_rfl))]; exact ⟨rfl, rfl⟩)
    (fun os started H enc _ => channelPaths_lifted os started H enc)
#print axioms channelPaths_holds
end Go.Proofs.Ytgklcilpohkpkaa
