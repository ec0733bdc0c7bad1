/- FibLongest: what is told is told by a route that takes it, and none with more bits does. No condition. -/
import Derived.Test.YtidikopjfpioaaaFibLongest
set_option linter.unusedVariables false
set_option linter.unusedSimpArgs false
namespace Go.Proofs.Ytidikopjfpioaaa
open Go.ChangeShapes Go.WideShapes Go.ChangeAt Go.RowKit

/-- A block that holds just the cells of a list of routes. -/
theorem routes_lit {w : World} (l : List RouteV) {cs : Array Value} (hcs : cs.toList = l.flatMap RouteV.cells) : SlAt RouteV.cells 3 (w.alloc (.cells cs 120)) (w.heap.size + 1) (some ⟨w.heap.size, 0, none⟩) l.length l := by
  refine ⟨rfl, fun _ => ⟨w.heap.size, 0, rfl, by omega, fun k x hk j v hv => ?_⟩⟩
  rw [cell_of_row _ _ _ cs 120 (0, 0) (heap_alloc_new w _)]
  have := flat_get RouteV.len l k x j v hk hv
  rw [← hcs] at this
  simpa using this

theorem i64ok_0 : i64ok 0 := by unfold i64ok; omega
theorem i64ok_4 : i64ok 4 := by unfold i64ok; omega
theorem outF_first : outF 13 [⟨8, 1, 2⟩, ⟨12, 2, 3⟩] = (3, 2) := by decide +kernel

end Go.Proofs.Ytidikopjfpioaaa
