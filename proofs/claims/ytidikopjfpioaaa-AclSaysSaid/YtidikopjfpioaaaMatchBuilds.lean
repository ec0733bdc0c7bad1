/- MatchBuilds: the walk of the statement. -/
import Derived.Test.YtidikopjfpioaaaBuildBad
import Derived.Test.YtidikopjfpioaaaFibLongestLaw
import Derived.WalkLawsBesides
set_option linter.unusedVariables false
set_option linter.unusedSimpArgs false
namespace Go.Proofs.Ytidikopjfpioaaa
open Go.RowKit Go.Maps Bdd

theorem ArenaAt.frmBelow {w w' : World} {B g nb kb ib cap : Nat} {A : St} {K T : Tri → Option Value} (h : ArenaAt w B g nb kb ib cap A K T) (hf : Frm (Fp g nb kb ib) w w') : RowKit.Below B w w' := by
  obtain ⟨l1, l2, l3, l4, l5⟩ := h.lts
  obtain ⟨m1, m2, m3⟩ := h.lo
  exact hf.below (by omega) (fun i hi => by rcases hi with e | e | e | e <;> omega)

end Go.Proofs.Ytidikopjfpioaaa
