/- Channel: the path of a field, by contract. -/
import Derived.Test.YtmbhnjpaieimbaaC2
import Derived.Test.YtmbhnjpaieimbaaC3
import Derived.Test.YtmbhnjpaieimbaaC4
set_option linter.unusedVariables false
set_option linter.unusedSimpArgs false
namespace Go.Proofs.Ytmbhnjpaieimbaa
open Go.RowKit Go.Shelf
theorem upF_len (cs : List Ca) : ∀ (f node : Nat), (upF cs f node).length ≤ f
  | 0, _ => by simp [upF]
  | f + 1, node => by
    unfold upF
    split
    · simp
    · have := upF_len cs f (frmN cs (node - 1))
      simp
      omega
/-- The path of a node: down. -/
def pathF (cs : List Ca) (nd : Nat) : List Int := (upF cs nd nd).reverse
theorem up_any (Ac Af : Option Addr) (nc cc nf cf : Nat) (dry days field : Int) (w : World) :
    Calls Try.prog 130 #[.agg #[.slice Ac nc cc, .slice Af nf cf, .int .i64 dry, .int .i64 days], .int .i64 field] w fun e w' => e = .returned (.func (.func 141) #[] #[.pointer (some ⟨w.heap.size, 0, none⟩), .pointer (some ⟨w.heap.size + 1, 0, none⟩)]) ∧ w' = (w.alloc (.cells #[.slice Ac nc cc, .slice Af nf cf, .int .i64 dry, .int .i64 days] 146)).alloc (.cells #[.int .i64 field] 3) := by
  go_enter Try.func130, Try.ntmps130
  go_wp2
  go_ret
  exact ⟨rfl, rfl⟩
theorem enters_up1 : ∀ args w, (callFunc 141 args).run Try.prog w = .ok (.enter 141 args) w := enters_of Try.func141 (by kernel_rfl) rfl

set_option maxHeartbeats 4000000 in
theorem path_any (Ac Af : Option Addr) (nc cc nf cf : Nat) (dry days : Int) (cs : List Ca) (fs : List Int) (field nd : Nat) (w : World) (hcs : Rd w w.heap.size Ca.cells Ac cs) (hfs : Rd w w.heap.size icell Af fs) (hnc : nc = cs.length) (hnf : nf = fs.length)
    (hnc2 : nc ≤ 1000) (hnf2 : nf ≤ 1000) (hval : caFrm cs) (hnode : fs[field]? = some (nd : Int)) (hnd : nd ≤ cs.length) :
    Calls Try.prog 103 #[.agg #[.slice Ac nc cc, .slice Af nf cf, .int .i64 dry, .int .i64 days], .int .i64 field] w fun e w' => ∃ v, e = .returned v ∧ Own w' w.heap.size 3 1 icell v (pathF cs nd) ∧ Below w.heap.size w w' := by
  obtain ⟨w1, Hw1⟩ : ∃ w1, Hid (w.alloc (.cells #[.slice Ac nc cc, .slice Af nf cf, .int .i64 dry, .int .i64 days] 146) = w1) := ⟨_, hide rfl⟩
  have hb1 : Below w.heap.size w w1 := by rw [← Hw1.out]; exact below_new _ _
  have hz1 : w1.heap.size = w.heap.size + 1 := by rw [← Hw1.out]; simp
  obtain ⟨w2, Hw2⟩ : ∃ w2, Hid ((w1.alloc (.cells #[.slice Ac nc cc, .slice Af nf cf, .int .i64 dry, .int .i64 days] 146)).alloc (.cells #[.int .i64 field] 3) = w2) := ⟨_, hide rfl⟩
  have hb2 : Below w1.heap.size w1 w2 := by rw [← Hw2.out]; exact (below_new _ _).alloc (by simp) _
  have hz2 : w2.heap.size = w1.heap.size + 2 := by rw [← Hw2.out]; simp
  have hb02 : Below w.heap.size w w2 := hb1.trans (hb2.mono hb1.size)
  have hnet : At w2 w1.heap.size [.slice Ac nc cc, .slice Af nf cf, .int .i64 dry, .int .i64 days] := by rw [← Hw2.out]; exact (At.new w1 #[.slice Ac nc cc, .slice Af nf cf, .int .i64 dry, .int .i64 days] _ _ rfl _ rfl).alloc _
  have hfd : At w2 (w1.heap.size + 1) [.int .i64 field] := by rw [← Hw2.out]; exact At.new (w1.alloc _) #[.int .i64 field] _ _ (by simp) _ rfl
  have hseq := fun n hn => up1_seq n hn w.heap.size w1.heap.size (w1.heap.size + 1) Ac Af nc cc nf cf dry days cs fs field nd w2 (by omega) (by omega) (by omega) hnet hfd (hcs.below hb02) (hfs.below hb02) hnc hnf hnc2 hnf2 hval hnode hnd
  have H := hide (collect_any 141 _ (upF cs nd nd) _ w2 enters_up1 hseq (fun b h => by omega) (by have := upF_len cs nd nd; omega))
  have hul : (upF cs nd nd).length ≤ 1000 := by have := upF_len cs nd nd; omega
  clear hseq hcs hfs hnet hfd hval hnode hnc hnf hz1 hz2
  go_enter Try.func103, Try.ntmps103
  go_wp2_with fail
  rw [Hw1.out]
  refine (up_any Ac Af nc cc nf cf dry days field w1).mono ?_
  rintro e w3 ⟨rfl, hw3⟩
  rw [Hw2.out] at hw3
  subst hw3
  go_wp2_with fail
  refine H.out.mono ?_
  rintro e w4 ⟨v, rfl, ho4, hb4⟩
  have Ho4 := hide ho4
  clear ho4
  go_wp2_with fail
  refine (reverse_any w3.heap.size v _ w4 Ho4.out hul hb4.size).mono ?_
  rintro e w5 ⟨rfl, ho5, hb5⟩
  have Ho5 := hide ho5
  clear ho5
  go_wp2
  go_ret
  exact ⟨v, rfl, Ho5.out.mono hb02.size, hb02.trans ((hb4.trans hb5).mono hb02.size)⟩
end Go.Proofs.Ytmbhnjpaieimbaa
