/- ring.next. -/
import Derived.Test.YtohbafigjpoijaaDoorRing1
set_option linter.unusedVariables false
set_option linter.unusedSimpArgs false
namespace Go.Proofs.YtohbafigjpoijaaDoor
open Go.RowKit

/-- Boxes, one behind the other. -/
theorem boxesL : ∀ (l : List (Array Value × TypeId)) (W : World) {W' : World}, RowKit.Below (W.heap.size + l.length) (l.foldl (fun w x => w.alloc (.cells x.1 x.2)) W) W' →
    (∀ (i : Nat) c t, l[i]? = some (c, t) → ∀ (o : Nat) (v : Value), c[o]? = some v → W'.cell? ⟨W.heap.size + i, o, none⟩ = some v) ∧ RowKit.Below W.heap.size W W' ∧ W.heap.size + l.length ≤ W'.heap.size := by
  intro l
  induction l with
  | nil =>
    intro W W' hb
    exact ⟨fun i c t h => by simp at h, by simpa using hb, by have := hb.size; simpa using this⟩
  | cons x l ih =>
    intro W W' hb
    have hz : (W.alloc (.cells x.1 x.2)).heap.size = W.heap.size + 1 := by simp
    obtain ⟨h1, h2, h3⟩ := ih (W.alloc (.cells x.1 x.2)) (W' := W') (by
      rw [hz]
      simp only [List.foldl_cons, List.length_cons] at hb
      rw [show W.heap.size + 1 + l.length = W.heap.size + (l.length + 1) by omega]
      exact hb)
    refine ⟨fun i c t hi o v hv => ?_, ((RowKit.Below.refl _ _).alloc (Nat.le_refl _) _).trans (h2.mono (by omega)), by rw [hz] at h3; simp only [List.length_cons]; omega⟩
    cases i with
    | zero =>
      cases hi
      rw [hz] at h2
      exact cell_new W _ _ rfl h2 o v hv
    | succ i =>
      have := h1 i c t (by simpa using hi) o v hv
      rw [hz] at this
      rw [show W.heap.size + (i + 1) = W.heap.size + 1 + i by omega]
      exact this
theorem boxesL_size : ∀ (l : List (Array Value × TypeId)) (W : World), (l.foldl (fun w x => w.alloc (.cells x.1 x.2)) W).heap.size = W.heap.size + l.length := by
  intro l
  induction l with
  | nil => intro W; rfl
  | cons x l ih => intro W; rw [List.foldl_cons, ih]; simp; omega

theorem le3 (n : Nat) : n ≤ n + 1 + 1 + 1 := by omega
def nextF (ls : List LinkV) (d : Dev) (i : Int) (p : P4) : Option Pl :=
  if (d.kind == 2) && decide (0 ≤ (outF p.dst d.routes).2) && letsB d.rules p then peerF ls (i, (outF p.dst d.routes).1) else none

end Go.Proofs.YtohbafigjpoijaaDoor
