/- A device's box with three slices new; a device that is copied. -/
import Derived.Test.YtidikopjfpioaaaStepNext
set_option linter.unusedVariables false
set_option linter.unusedSimpArgs false
namespace Go.Proofs.Ytidikopjfpioaaa
open Go.ChangeShapes Go.WideShapes Go.ChangeAt Go.RowKit

def set3 (w : World) (N : Nat) (u v t : Value) : World := ((w.setCell ⟨N, 4, none⟩ u).setCell ⟨N, 5, none⟩ v).setCell ⟨N, 6, none⟩ t
theorem set3_size (w : World) (N : Nat) (u v t : Value) : (set3 w N u v t).heap.size = w.heap.size := by simp [set3, World.setCell]
theorem DBoxF.set3 {w : World} {N : Nat} {d : DevV} (h : DBoxF w N d) (B1 B2 B3 : Option Addr) (n1 n2 n3 e1 e2 e3 : Nat) (b : List Int) (r : List RuleV) (t : List RouteV) :
    DBoxF (set3 w N (.slice B1 n1 e1) (.slice B2 n2 e2) (.slice B3 n3 e3)) N ⟨d.name, d.kind, d.addr, d.pool, B1, n1, e1, b, B2, n2, e2, r, B3, n3, e3, t⟩ := by
  obtain ⟨⟨x0, x1, x2, x3, x4, x5, x6⟩, xf⟩ := h
  have o : ∀ (w : World) (a b : Nat) (u v : Value), b ≠ a → w.cell? ⟨N, b, none⟩ = some u → (w.setCell ⟨N, a, none⟩ v).cell? ⟨N, b, none⟩ = some u := fun w a b u v hne hu => by
    rw [World.cell?_setCell_other _ _ _ _ (by simp [hne])]; exact hu
  have s : ∀ (w : World) (a : Nat) (u v : Value), w.cell? ⟨N, a, none⟩ = some u → (w.setCell ⟨N, a, none⟩ v).cell? ⟨N, a, none⟩ = some v := fun w a u v hu => World.cell?_setCell_same _ _ _ hu
  unfold Go.Proofs.Ytidikopjfpioaaa.set3
  refine ⟨⟨?_, ?_, ?_, ?_, ?_, ?_, ?_⟩, fun q => by rw [World.frozen?_setCell, World.frozen?_setCell, World.frozen?_setCell]; exact xf q⟩
  · exact o _ _ _ _ _ (by omega) (o _ _ _ _ _ (by omega) (o _ _ _ _ _ (by omega) x0))
  · exact o _ _ _ _ _ (by omega) (o _ _ _ _ _ (by omega) (o _ _ _ _ _ (by omega) x1))
  · exact o _ _ _ _ _ (by omega) (o _ _ _ _ _ (by omega) (o _ _ _ _ _ (by omega) x2))
  · exact o _ _ _ _ _ (by omega) (o _ _ _ _ _ (by omega) (o _ _ _ _ _ (by omega) x3))
  · exact o _ _ _ _ _ (by omega) (o _ _ _ _ _ (by omega) (s _ _ _ _ x4))
  · exact o _ _ _ _ _ (by omega) (s _ _ _ _ (o _ _ _ _ _ (by omega) x5))
  · exact s _ _ _ _ (o _ _ _ _ _ (by omega) (o _ _ _ _ _ (by omega) x6))
theorem set3_stay (w : World) (N : Nat) (u v t : Value) : StayOn (fun q => q ≠ N) w (set3 w N u v t) :=
  ((StayOn.of_set ⟨N, 4, none⟩ u).trans (StayOn.of_set ⟨N, 5, none⟩ v)).trans (StayOn.of_set ⟨N, 6, none⟩ t)
theorem set3_below {w w' : World} {B N : Nat} (h : Below B w w') (hN : B ≤ N) (u v t : Value) : Below B w (set3 w' N u v t) :=
  ((h.setCell (by exact hN) _).setCell (by exact hN) _).setCell (by exact hN) _

theorem dev_copied {w4 w5 w6 w7 : World} {N B : Nat} {r : DevV} {B1 B2 B3 : Option Addr} {e1 e2 e3 : Nat} (hz : w4.heap.size = N + 1) (h5 : Below w4.heap.size w4 w5) (h6 : Below w5.heap.size w5 w6) (h7 : Below w6.heap.size w6 w7) (hr : DevAt w4 B r)
    (o1 : w5.ownsRow w4.heap.size 3 1 (.slice B1 r.bn e1) r.bn (r.bs.flatMap i64Cells)) (o2 : w6.ownsRow w5.heap.size 105 5 (.slice B2 r.rn e2) r.rn (r.rs.flatMap RuleV.cells)) (o3 : w7.ownsRow w6.heap.size 120 3 (.slice B3 r.tn e3) r.tn (r.ts.flatMap RouteV.cells))
    (u v t : Value) :
    DevAt (set3 w7 N u v t) w7.heap.size ⟨r.name, r.kind, r.addr, r.pool, B1, r.bn, e1, r.bs, B2, r.rn, e2, r.rs, B3, r.tn, e3, r.ts⟩ ∧
    DevOn (fun q => N < q ∧ q < w7.heap.size) ⟨r.name, r.kind, r.addr, r.pool, B1, r.bn, e1, r.bs, B2, r.rn, e2, r.rs, B3, r.tn, e3, r.ts⟩ := by
  have s5 := h5.size
  have s6 := h6.size
  have s7 := h7.size
  obtain ⟨A1, k1, f1, c1, sl1, g1⟩ := SlAt.of_own i64Cells_len o1 hr.bs.1
  obtain ⟨A2, k2, f2, c2, sl2, g2⟩ := SlAt.of_own RuleV.len o2 hr.rs.1
  obtain ⟨A3, k3, f3, c3, sl3, g3⟩ := SlAt.of_own RouteV.len o3 hr.ts.1
  cases f1
  cases f2
  cases f3
  have l1 : ∀ a, B1 = some a → w4.heap.size ≤ a.block ∧ a.block < w5.heap.size := fun a ha => o1.lt a.block (by rw [ha]; rfl)
  have l2 : ∀ a, B2 = some a → w5.heap.size ≤ a.block ∧ a.block < w6.heap.size := fun a ha => o2.lt a.block (by rw [ha]; rfl)
  have l3 : ∀ a, B3 = some a → w6.heap.size ≤ a.block ∧ a.block < w7.heap.size := fun a ha => o3.lt a.block (by rw [ha]; rfl)
  have st7 : StayOn (fun q => q ≠ N) w7 (set3 w7 N u v t) := set3_stay w7 N u v t
  have st6 : StayOn (fun q => q ≠ N ∧ q < w6.heap.size) w6 (set3 w7 N u v t) := ((StayOn.of_below h7).weak (fun q hq => hq.2)).trans (st7.weak (fun q hq => hq.1))
  have st5 : StayOn (fun q => q ≠ N ∧ q < w5.heap.size) w5 (set3 w7 N u v t) := ((StayOn.of_below h6).weak (fun q hq => hq.2)).trans (st6.weak (fun q hq => ⟨hq.1, by omega⟩))
  refine ⟨⟨hr.nm, hr.kd, hr.ad, hr.pl, ?_, ?_, ?_, hr.tok, ⟨c1, own_cap o1⟩, ⟨c2, own_cap o2⟩, ⟨c3, own_cap o3⟩⟩, ⟨fun a ha => ?_, fun a ha => ?_, fun a ha => ?_⟩⟩
  · exact sl_ints (sl1.stay st5 (fun a ha => by have := l1 a ha; omega) (by omega)) hr.bs.2.1
  · exact (sl2.stay st6 (fun a ha => by have := l2 a ha; omega) (by omega)).rules hr.rs.2.1
  · exact sl3.stay st7 (fun a ha => by have := l3 a ha; omega) (by omega)
  · have := l1 a ha; omega
  · have := l2 a ha; omega
  · have := l3 a ha; omega
end Go.Proofs.Ytidikopjfpioaaa
