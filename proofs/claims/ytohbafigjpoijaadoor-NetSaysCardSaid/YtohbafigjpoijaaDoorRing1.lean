/- ring.Check, wireref.Plain. -/
import Derived.Test.YtohbafigjpoijaaDoorRefNet
import Derived.Test.YtohbafigjpoijaaDoorPeer
set_option linter.unusedVariables false
set_option linter.unusedSimpArgs false
namespace Go.Proofs.YtohbafigjpoijaaDoor
open Go.RowKit

def oddKind (k : Int) : Bool := (k != 1) && (k != 2)
def plainE (ds : List Dev) (ls : List LinkV) : Int := if netE ds ls = 0 then (if ds.any (fun d => oddKind d.kind) then 1 else 0) else netE ds ls

/-- A net in a box: what stays. -/
def NetBox (W W0 : World) (N : Nat) (n : NetV) : Prop := ∀ w', RowKit.Below W0.heap.size W0 w' → (w'.cell? ⟨N, 0, none⟩ = some (.slice n.dA n.dn n.dc) ∧ w'.cell? ⟨N, 1, none⟩ = some (.slice n.lA n.ln n.lc)) ∧ NetAt w' w'.heap.size n ∧ RowKit.Below W.heap.size W w'
theorem netBox_new {W : World} {n : NetV} (hn : NetAt W W.heap.size n) (t : TypeId) : NetBox W (W.alloc (.cells #[.slice n.dA n.dn n.dc, .slice n.lA n.ln n.lc] t)) W.heap.size n := fun w' hb => by
  have hz : (W.alloc (.cells #[.slice n.dA n.dn n.dc, .slice n.lA n.ln n.lc] t)).heap.size = W.heap.size + 1 := by simp
  have h1 : RowKit.Below W.heap.size W w' := ((RowKit.Below.refl _ _).alloc (Nat.le_refl _) _).trans (hb.mono (by omega))
  rw [hz] at hb
  exact ⟨⟨cell_new W _ _ rfl hb 0 _ rfl, cell_new W _ _ rfl hb 1 _ rfl⟩, hn.below h1 h1.size, h1⟩

theorem any_dev (ds : List DevV) : (ds.map DevV.dev).any (fun d => oddKind d.kind) = ds.any (fun d => oddKind d.kind) := by
  rw [List.any_map]; rfl

end Go.Proofs.YtohbafigjpoijaaDoor
