/- wirekeep.place; the small parts of the step laws. -/
import Derived.Test.YtidikopjfpioaaaHandP
set_option linter.unusedVariables false
set_option linter.unusedSimpArgs false
namespace Go.Proofs.Ytidikopjfpioaaa
open Go.RowKit

set_option maxRecDepth 100000 in
theorem placeOf_walk (a b : Int) (W : World) : Calls Try.prog 48 #[.int .i64 a, .int .i64 b] W fun e W' => e = .returned (.agg #[.int .i64 a, .int .i64 b]) ∧ RowKit.Below W.heap.size W W' := by
  have hb := (RowKit.Below.refl W.heap.size W).alloc (Nat.le_refl _) (.cells #[.int .i64 a, .int .i64 b] 34)
  have hx := Box2.new W a b 34
  go_enter Try.func48, Try.ntmps48
  go_wp2
  obtain ⟨z0, z1, _, _⟩ := hx
  refine bodyPost_ret (v := .agg #[.int .i64 a, .int .i64 b]) (by simp [results, Try.f48, go_sem, z0, z1]) rfl ⟨rfl, ?_⟩
  first | exact hb | exact (((RowKit.Below.refl W.heap.size W).alloc (Nat.le_refl _) _).setCell (Nat.le_refl _) _).setCell (Nat.le_refl _) _

/-- A box of a packet. -/
def Box4 (w : World) (N : Nat) (a b c d : Int) : Prop := (w.cell? ⟨N, 0, none⟩ = some (.int .i64 a) ∧ w.cell? ⟨N, 1, none⟩ = some (.int .i64 b) ∧ w.cell? ⟨N, 2, none⟩ = some (.int .i64 c) ∧ w.cell? ⟨N, 3, none⟩ = some (.int .i64 d)) ∧ ∀ o, w.frozen? ⟨N, o, none⟩ = false
theorem Box4.new (w : World) (a b c d : Int) (t : TypeId) : Box4 (w.alloc (.cells #[.int .i64 a, .int .i64 b, .int .i64 c, .int .i64 d] t)) w.heap.size a b c d := by
  have hbx := heap_alloc_new w (.cells #[.int .i64 a, .int .i64 b, .int .i64 c, .int .i64 d] t)
  refine ⟨⟨?_, ?_, ?_, ?_⟩, fun o => by unfold World.frozen?; rw [hbx]; simp⟩ <;> (rw [cell_of_row _ _ _ _ _ _ hbx]; rfl)
theorem Box4.below {w w' : World} {B N : Nat} {a b c d : Int} (h : Box4 w N a b c d) (hB : Below B w w') (hN : N < B) : Box4 w' N a b c d := by
  have ee : ∀ o, w'.cell? ⟨N, o, none⟩ = w.cell? ⟨N, o, none⟩ := fun o => hB.cell (p := ⟨N, o, none⟩) hN
  have ff : ∀ o, w'.frozen? ⟨N, o, none⟩ = w.frozen? ⟨N, o, none⟩ := fun o => hB.frozen (p := ⟨N, o, none⟩) hN
  unfold Box4
  rw [ee, ee, ee, ee]
  exact ⟨h.1, fun o => (ff o).trans (h.2 o)⟩

def flipP (p : P4) : P4 := ⟨p.dst, p.src, p.dport, p.sport⟩
set_option maxRecDepth 100000 in
set_option maxHeartbeats 4000000 in
theorem flip_walk (p : P4) (W : World) : Calls Try.prog 49 #[.agg #[.int .i64 p.src, .int .i64 p.dst, .int .i64 p.sport, .int .i64 p.dport]] W fun e W' => e = .returned (.agg #[.int .i64 p.dst, .int .i64 p.src, .int .i64 p.dport, .int .i64 p.sport]) ∧ RowKit.Below W.heap.size W W' := by
  obtain ⟨a, b, c, d⟩ := p
  simp only
  have HB := hide (show ∀ o o', RowKit.Below W.heap.size W ((W.alloc o).alloc o') from fun o o' => ((RowKit.Below.refl W.heap.size W).alloc (Nat.le_refl _) o).alloc (by simp) o')
  have hx := Box4.new W a b c d 42
  have hy := Box4.new (W.alloc (.cells #[.int .i64 a, .int .i64 b, .int .i64 c, .int .i64 d] 42)) 0 0 0 0 42
  have hx2 := hx.below ((RowKit.Below.refl _ _).alloc (Nat.le_refl _) (.cells #[.int .i64 0, .int .i64 0, .int .i64 0, .int .i64 0] 42)) (by simp)
  rw [show (W.alloc (.cells #[.int .i64 a, .int .i64 b, .int .i64 c, .int .i64 d] 42)).heap.size = W.heap.size + 1 from by simp] at hy
  obtain ⟨⟨x0, x1, x2, x3⟩, _⟩ := hx2
  obtain ⟨⟨y0, y1, y2, y3⟩, yf⟩ := hy
  clear hx
  have hb0 := HB.out (.cells #[.int .i64 a, .int .i64 b, .int .i64 c, .int .i64 d] 42) (.cells #[.int .i64 0, .int .i64 0, .int .i64 0, .int .i64 0] 42)
  go_enter Try.func49, Try.ntmps49
  go_wp2
  refine bodyPost_ret (v := .agg #[.int .i64 b, .int .i64 a, .int .i64 d, .int .i64 c]) (by simp [results, Try.f49, go_sem, y0, y1, y2, y3]) rfl ⟨rfl, ?_⟩
  first | exact HB.out _ _ | exact (((hb0.setCell (by show _ ≤ W.heap.size + 1; omega) _).setCell (by show _ ≤ W.heap.size + 1; omega) _).setCell (by show _ ≤ W.heap.size + 1; omega) _).setCell (by show _ ≤ W.heap.size + 1; omega) _
end Go.Proofs.Ytidikopjfpioaaa
