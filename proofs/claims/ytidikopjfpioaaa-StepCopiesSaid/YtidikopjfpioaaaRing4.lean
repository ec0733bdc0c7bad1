/- ring.Walk. -/
import Derived.Test.YtidikopjfpioaaaRing3
set_option linter.unusedVariables false
set_option linter.unusedSimpArgs false
namespace Go.Proofs.Ytidikopjfpioaaa
open Go.RowKit

def lenOf : Value → Nat
  | .slice _ n _ => n
  | _ => 0

/-- Behind boxes of a net, a place, a packet: what stands. -/
structure RW (W : World) (n : NetV) (p : P4) (w : World) (a b : Int) : Prop where
  bl : RowKit.Below W.heap.size W w
  n0 : w.cell? ⟨W.heap.size, 0, none⟩ = some (.slice n.dA n.dn n.dc)
  n1 : w.cell? ⟨W.heap.size, 1, none⟩ = some (.slice n.lA n.ln n.lc)
  at_ : Box2 w (W.heap.size + 1) a b
  pk : PackAt w (W.heap.size + 1 + 1) p
  sz : W.heap.size + 3 ≤ w.heap.size

section
variable {W w w' : World} {n : NetV} {p : P4} {a b : Int}
theorem RW.below (h : RW W n p w a b) (hb : RowKit.Below w.heap.size w w') : RW W n p w' a b := by
  have hs := h.sz
  have hs2 := hb.size
  exact ⟨h.bl.trans (hb.mono (by omega)), (hb.cell (p := ⟨W.heap.size, 0, none⟩) (by show W.heap.size < _; omega)).trans h.n0, (hb.cell (p := ⟨W.heap.size, 1, none⟩) (by show W.heap.size < _; omega)).trans h.n1,
    h.at_.below hb (by omega), h.pk.below hb (by omega), by omega⟩
theorem RW.alloc (h : RW W n p w a b) (o : Obj) : RW W n p (w.alloc o) a b := h.below ((RowKit.Below.refl _ _).alloc (Nat.le_refl _) o)
theorem RW.grown (h : RW W n p w a b) {row : Option Nat} (hg : w.grownBy w' row) (hr : ∀ q, row = some q → W.heap.size + 3 ≤ q) : RW W n p w' a b := by
  have hs := h.sz
  have hs2 := hg.size
  have hb : RowKit.Below (W.heap.size + 3) w w' := (RowKit.Below.refl _ _).grown hg hs hr
  exact ⟨h.bl.trans (hb.mono (by omega)), (hb.cell (p := ⟨W.heap.size, 0, none⟩) (by show W.heap.size < _; omega)).trans h.n0, (hb.cell (p := ⟨W.heap.size, 1, none⟩) (by show W.heap.size < _; omega)).trans h.n1,
    h.at_.below hb (by omega), h.pk.below hb (by omega), by omega⟩
theorem RW.set (h : RW W n p w a b) (c d : Int) : RW W n p ((w.setCell ⟨W.heap.size + 1, 0, none⟩ (.int .i64 c)).setCell ⟨W.heap.size + 1, 1, none⟩ (.int .i64 d)) c d := by
  have e : ∀ (w : World) (q : Addr) (o : Nat) (v : Value), q.block ≠ W.heap.size + 1 → (w.setCell ⟨W.heap.size + 1, o, none⟩ v).cell? q = w.cell? q := fun w q o v hq =>
    World.cell?_of_block (Below.heap_setCell w ⟨W.heap.size + 1, o, none⟩ v q.block hq)
  obtain ⟨z0, z1, z2, z3⟩ := h.at_
  have hsz : ((w.setCell ⟨W.heap.size + 1, 0, none⟩ (.int .i64 c)).setCell ⟨W.heap.size + 1, 1, none⟩ (.int .i64 d)).heap.size = w.heap.size := by simp [World.setCell]
  obtain ⟨y0, y1, y2, y3⟩ := h.pk
  refine ⟨(h.bl.setCell (by show _ ≤ W.heap.size + 1; omega) _).setCell (by show _ ≤ W.heap.size + 1; omega) _, ?_, ?_, ?_, ⟨?_, ?_, ?_, ?_⟩, by rw [hsz]; exact h.sz⟩
  · rw [e _ _ _ _ (by show W.heap.size ≠ _; omega), e _ _ _ _ (by show W.heap.size ≠ _; omega)]; exact h.n0
  · rw [e _ _ _ _ (by show W.heap.size ≠ _; omega), e _ _ _ _ (by show W.heap.size ≠ _; omega)]; exact h.n1
  · have c0 : (w.setCell ⟨W.heap.size + 1, 0, none⟩ (.int .i64 c)).cell? ⟨W.heap.size + 1, 1, none⟩ = some (.int .i64 b) := by
      rw [World.cell?_setCell_other _ _ _ _ (by simp)]; exact z1
    refine ⟨?_, ?_, ?_, ?_⟩
    · rw [World.cell?_setCell_other _ _ _ _ (by simp), World.cell?_setCell_same _ _ _ z0]
    · rw [World.cell?_setCell_same _ _ _ c0]
    · rw [World.frozen?_setCell, World.frozen?_setCell]; exact z2
    · rw [World.frozen?_setCell, World.frozen?_setCell]; exact z3
  · rw [e _ _ _ _ (by show W.heap.size + 1 + 1 ≠ _; omega), e _ _ _ _ (by show W.heap.size + 1 + 1 ≠ _; omega)]; exact y0
  · rw [e _ _ _ _ (by show W.heap.size + 1 + 1 ≠ _; omega), e _ _ _ _ (by show W.heap.size + 1 + 1 ≠ _; omega)]; exact y1
  · rw [e _ _ _ _ (by show W.heap.size + 1 + 1 ≠ _; omega), e _ _ _ _ (by show W.heap.size + 1 + 1 ≠ _; omega)]; exact y2
  · rw [e _ _ _ _ (by show W.heap.size + 1 + 1 ≠ _; omega), e _ _ _ _ (by show W.heap.size + 1 + 1 ≠ _; omega)]; exact y3
theorem own_set {base e s m : Nat} {v : Value} {xs : List Value} (h : w.ownsRow base e s v m xs) {q : Addr} (hq : q.block < base) (u : Value) : (w.setCell q u).ownsRow base e s v m xs :=
  own_same h (fun k hk => Below.heap_setCell w q u k (by have := (h.lt k hk).1; omega))
theorem own_mono {base base' e s m : Nat} {v : Value} {xs : List Value} (h : w.ownsRow base e s v m xs) (hb : base' ≤ base) : w.ownsRow base' e s v m xs := by
  obtain ⟨h1, h2⟩ := h
  refine ⟨h1, ?_⟩
  rcases h2 with h2 | ⟨g', cap', cur, hv, hb', hh, r⟩
  · exact .inl h2
  · exact .inr ⟨g', cap', cur, hv, by omega, hh, r⟩
end
end Go.Proofs.Ytidikopjfpioaaa
