/- Channel, outright: what the plain functions yield at the chapter's examples. -/
import Derived.Test.YtgklcilpohkpkaaA1
import Derived.Test.YtgklcilpohkpkaaC10
import Derived.Test.YtgklcilpohkpkaaC12
import Derived.Test.YtgklcilpohkpkaaMn
import Derived.Test.YtgklcilpohkpkaaO6
set_option linter.unusedVariables false
set_option linter.unusedSimpArgs false
namespace Go.Proofs.Ytgklcilpohkpkaa
theorem gar_ok : netOk gcs gfs 30 1 = true := by decide
theorem gar_path : pathS gcs gfs 30 1 1 = ([0, 2], 0) := by decide
theorem gar_path2 : pathS gcs gfs 30 1 2 = ([], 2) := by decide
theorem gar_moves : movesS gcs gfs 30 1 0 1 = ([1], [2], 0) := by decide
theorem gar_moves2 : movesS gcs gfs 30 1 0 (-1) = ([], [], 2) := by decide
theorem gar_dries : driesS gcs gfs 30 1 dayL = ([[0, 1], [2], [0, 1]], 0) := by decide
theorem gar_dries2 : driesS gcs gfs 30 1 [⟨0, 5, 5⟩] = ([], 51) := by decide
theorem gar_waters : watersS gcs gfs 30 1 10 12 dayL = (([⟨604, 862⟩, ⟨120, 162⟩], [⟨210, 384⟩, ⟨20, 20⟩, ⟨120, 162⟩]), 0) := by decide
theorem gar_waters2 : watersS gcs gfs 30 1 2 1 [] = (([], []), 21) := by decide
theorem gar_waters3 : watersS gcs gfs 30 1 10 12 [⟨2, 0, 1⟩] = (([], []), 51) := by decide
set_option maxRecDepth 10000 in
theorem gar_order : orderS gcs gfs 30 1 10 12 [0, 1, 0] [30, 60, 30] = (([1, 0, 2], 686), 0) := by decide
theorem gar_order2 : (orderS gcs gfs 30 1 10 12 (List.replicate 7 0) []).2 = 4 := by decide
theorem gar_order3 : (orderS gcs gfs 30 1 10 12 [0] []).2 = 52 := by decide
theorem gar_min1 {r e : Int} (h : minutesP gcs gfs 30 1 10 12 0 423 r e) : r = 61 ∧ e = 0 := minutesP_one h (by unfold minutesP leastB; decide)
theorem gar_min2 {r e : Int} (h : minutesP gcs gfs 30 1 10 12 0 422 r e) : r = 60 ∧ e = 0 := minutesP_one h (by unfold minutesP leastB; decide)
theorem gar_min3 {r e : Int} (h : minutesP gcs gfs 30 1 10 12 0 (-1) r e) : e = 2 := (minutesP_one h (r' := 0) (e' := 2) (by unfold minutesP leastB; decide)).2
theorem gar_min4 {r e : Int} (h : minutesP gcs gfs 30 1 10 12 0 1000000000000 r e) : e = 6 := (minutesP_one h (r' := 0) (e' := 6) (by unfold minutesP leastB; decide)).2
end Go.Proofs.Ytgklcilpohkpkaa
