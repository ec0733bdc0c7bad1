/- Small walks round packets: Of at a wrong code, wireref.Code, Flip, Back; boxes beside a world. -/
import Derived.Test.YtohbafigjpoijaaDoorPkOf
import Derived.Test.YtohbafigjpoijaaDoorPkCode
import Derived.Test.YtohbafigjpoijaaDoorSt5
set_option linter.unusedVariables false
set_option linter.unusedSimpArgs false
set_option maxRecDepth 100000
set_option maxHeartbeats 4000000
namespace Go.Proofs.YtohbafigjpoijaaDoor
open Go.RowKit

theorem of_bad (w : World) (c : Int) (hc : ¬ (0 ≤ c ∧ c < 16384)) :
    Calls Tryd.prog 15 #[.int .i64 c] w fun e W' => e = .returned (.tuple #[.agg #[.int .i64 0, .int .i64 0, .int .i64 0, .int .i64 0], .int .i64 1]) ∧ Below w.heap.size w W' := by
  have hW := hide (show (decide (0 ≤ c) && decide (c < 16384)) = false by simp only [Bool.and_eq_false_iff, decide_eq_false_iff_not]; omega)
  clear hc
  have hx := heap_alloc_new w (.cells #[.int .i64 0, .int .i64 0, .int .i64 0, .int .i64 0] 23)
  have HB := hide ((Below.refl w.heap.size w).alloc (Nat.le_refl _) (.cells #[.int .i64 0, .int .i64 0, .int .i64 0, .int .i64 0] 23))
  obtain ⟨z0, z1, z2, z3, z4, z5, z6, z7⟩ := cells4f hx
  go_enter Tryd.func15, Tryd.ntmps15
  go_wp2_with fail
  refine (within_walk _ _ _ false hW.out).mono ?_
  rintro e w1 ⟨rfl, rfl⟩
  clear hx hW
  go_wp2
  refine bodyPost_ret (v := .tuple #[.agg #[.int .i64 0, .int .i64 0, .int .i64 0, .int .i64 0], .int .i64 1]) (by simp [results, Tryd.results15, go_sem, z0, z1, z2, z3]) rfl ⟨rfl, ?_⟩
  exact HB.out

theorem refCode_walk (a b c d : Nat) (h1 : a < 16) (h2 : b < 16) (h3 : c < 8) (h4 : d < 8) (W : World) :
    Calls Tryd.prog 11 #[.agg #[.int .i64 (a : Int), .int .i64 (b : Int), .int .i64 (c : Int), .int .i64 (d : Int)]] W fun e W' => e = .returned (.int .i64 ((a * 1024 + b * 64 + c * 8 + d : Nat) : Int)) ∧ Below W.heap.size W W' := by
  have hx := heap_alloc_new W (.cells #[.int .i64 (a : Int), .int .i64 (b : Int), .int .i64 (c : Int), .int .i64 (d : Int)] 23)
  have HB := hide ((Below.refl W.heap.size W).alloc (Nat.le_refl _) (.cells #[.int .i64 (a : Int), .int .i64 (b : Int), .int .i64 (c : Int), .int .i64 (d : Int)] 23))
  obtain ⟨z0, z1, z2, z3, _⟩ := cells4f hx
  go_enter Tryd.func11, Tryd.ntmps11
  go_wp2_with fail
  generalize W.alloc (.cells #[.int .i64 (a : Int), .int .i64 (b : Int), .int .i64 (c : Int), .int .i64 (d : Int)] 23) = w1 at *
  clear hx
  go_wp2
  go_ret
  exact ⟨retI (by omega), HB.out⟩

theorem flipS_walk (a b c d : Int) (W : World) : Calls Tryd.prog 20 #[.agg #[.int .i64 a, .int .i64 b, .int .i64 c, .int .i64 d]] W fun e W' => e = .returned (.agg #[.int .i64 b, .int .i64 a, .int .i64 d, .int .i64 c]) ∧ Below W.heap.size W W' := by
  have hx := heap_alloc_new W (.cells #[.int .i64 a, .int .i64 b, .int .i64 c, .int .i64 d] 23)
  have hy := fun v => heap_alloc_new (W.alloc (.cells #[.int .i64 a, .int .i64 b, .int .i64 c, .int .i64 d] 23)) (.cells v 23)
  have hs : (W.alloc (.cells #[.int .i64 a, .int .i64 b, .int .i64 c, .int .i64 d] 23)).heap.size = W.heap.size + 1 := by simp
  have hb0 := (Below.refl W.heap.size W).alloc (Nat.le_refl _) (.cells #[.int .i64 a, .int .i64 b, .int .i64 c, .int .i64 d] 23)
  have HB := hide (fun v => hb0.alloc (by simp) (.cells v 23))
  have hx2 := fun v => (((Below.refl _ (W.alloc (.cells #[.int .i64 a, .int .i64 b, .int .i64 c, .int .i64 d] 23))).alloc (Nat.le_refl _) (.cells v 23)).block W.heap.size (by simp)).trans hx
  rw [hs] at hy
  obtain ⟨x0, x1, x2, x3, _⟩ := cells4f (hx2 #[.int .i64 0, .int .i64 0, .int .i64 0, .int .i64 0])
  obtain ⟨y0, y1, y2, y3, y4, y5, y6, y7⟩ := cells4f (hy #[.int .i64 0, .int .i64 0, .int .i64 0, .int .i64 0])
  have HY := hide (hy #[.int .i64 b, .int .i64 a, .int .i64 d, .int .i64 c])
  obtain ⟨z0, z1, z2, z3, z4⟩ := cells4f hx
  clear hx hx2 hs hb0 hy
  go_enter Tryd.func20, Tryd.ntmps20
  go_wp2
  obtain ⟨u0, u1, u2, u3, _⟩ := cells4f HY.out
  refine bodyPost_ret (v := .agg #[.int .i64 b, .int .i64 a, .int .i64 d, .int .i64 c]) (by simp [results, Tryd.f20, go_sem, u0, u1, u2, u3]) rfl ⟨rfl, HB.out _⟩
theorem backS_walk (a b c d : Int) (W : World) : Calls Tryd.prog 21 #[.agg #[.int .i64 a, .int .i64 b, .int .i64 c, .int .i64 d]] W fun e W' => e = .returned (.agg #[.int .i64 b, .int .i64 a, .int .i64 d, .int .i64 c]) ∧ Below W.heap.size W W' := by
  have hx := heap_alloc_new W (.cells #[.int .i64 a, .int .i64 b, .int .i64 c, .int .i64 d] 23)
  have hy := fun v => heap_alloc_new (W.alloc (.cells #[.int .i64 a, .int .i64 b, .int .i64 c, .int .i64 d] 23)) (.cells v 23)
  have hs : (W.alloc (.cells #[.int .i64 a, .int .i64 b, .int .i64 c, .int .i64 d] 23)).heap.size = W.heap.size + 1 := by simp
  have hb0 := (Below.refl W.heap.size W).alloc (Nat.le_refl _) (.cells #[.int .i64 a, .int .i64 b, .int .i64 c, .int .i64 d] 23)
  have HB := hide (fun v => hb0.alloc (by simp) (.cells v 23))
  have hx2 := fun v => (((Below.refl _ (W.alloc (.cells #[.int .i64 a, .int .i64 b, .int .i64 c, .int .i64 d] 23))).alloc (Nat.le_refl _) (.cells v 23)).block W.heap.size (by simp)).trans hx
  rw [hs] at hy
  obtain ⟨x0, x1, x2, x3, _⟩ := cells4f (hx2 #[.int .i64 0, .int .i64 0, .int .i64 0, .int .i64 0])
  obtain ⟨y0, y1, y2, y3, y4, y5, y6, y7⟩ := cells4f (hy #[.int .i64 0, .int .i64 0, .int .i64 0, .int .i64 0])
  have HY := hide (hy #[.int .i64 b, .int .i64 a, .int .i64 d, .int .i64 c])
  obtain ⟨z0, z1, z2, z3, z4⟩ := cells4f hx
  clear hx hx2 hs hb0 hy
  go_enter Tryd.func21, Tryd.ntmps21
  go_wp2
  obtain ⟨u0, u1, u2, u3, _⟩ := cells4f HY.out
  refine bodyPost_ret (v := .agg #[.int .i64 b, .int .i64 a, .int .i64 d, .int .i64 c]) (by simp [results, Tryd.f21, go_sem, u0, u1, u2, u3]) rfl ⟨rfl, HB.out _⟩
end Go.Proofs.YtohbafigjpoijaaDoor
