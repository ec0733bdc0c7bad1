/- packet.Check. -/
import Derived.Test.YtohbafigjpoijaaDoorG6
set_option linter.unusedVariables false
set_option linter.unusedSimpArgs false
namespace Go.Proofs.YtohbafigjpoijaaDoor
open Go.RowKit Go.Maps

theorem wi16 (a : Int) : inR a 0 15 = (decide (0 ≤ a) && decide (a < 16)) := by
  unfold inR
  rw [Bool.eq_iff_iff]; simp; omega
theorem wi8 (a : Int) : inR a 0 7 = (decide (0 ≤ a) && decide (a < 8)) := by
  unfold inR
  rw [Bool.eq_iff_iff]; simp; omega
set_option maxRecDepth 100000 in
set_option maxHeartbeats 4000000 in
theorem packetCheck_walk (p : P4) (W : World) : Calls Tryd.prog 19 #[.agg #[.int .i64 p.src, .int .i64 p.dst, .int .i64 p.sport, .int .i64 p.dport]] W fun e W' => e = .returned (.int .i64 (if rightB p then 0 else 1)) ∧ RowKit.Below W.heap.size W W' := by
  obtain ⟨a, b, c, d⟩ := p
  have HB := hide (fun o => show RowKit.Below W.heap.size W (W.alloc o) from (RowKit.Below.refl _ _).alloc (Nat.le_refl _) o)
  have HR := hide (show rightB ⟨a, b, c, d⟩ = (inR a 0 15 && inR b 0 15 && inR c 0 7 && inR d 0 7) from rfl)
  generalize rightB _ = R at *
  cases e1 : inR a 0 15
  · have f1 := hide ((wi16 a).symm.trans e1)
    have HF := hide (show R = false from by rw [HR.out, e1]; rfl)
    rw [HF.out]
    go_enter Tryd.func19, Tryd.ntmps19
    go_wp2_with (first | (go_at_call_of 42 (Value.int .i64 a); refine (within_walk _ _ _ _ f1.out).mono ?_; rintro e w1 ⟨rfl, rfl⟩))
    go_ret
    exact ⟨rfl, HB.out _⟩
  have f1 := hide ((wi16 a).symm.trans e1)
  cases e2 : inR b 0 15
  · have f2 := hide ((wi16 b).symm.trans e2)
    have HF := hide (show R = false from by rw [HR.out, e1, e2]; rfl)
    rw [HF.out]
    go_enter Tryd.func19, Tryd.ntmps19
    go_wp2_with (first | (go_at_call_of 42 (Value.int .i64 a); refine (within_walk _ _ _ _ f1.out).mono ?_; rintro e w1 ⟨rfl, rfl⟩) | (go_at_call_of 42 (Value.int .i64 b); refine (within_walk _ _ _ _ f2.out).mono ?_; rintro e w1 ⟨rfl, rfl⟩))
    go_ret
    exact ⟨rfl, HB.out _⟩
  have f2 := hide ((wi16 b).symm.trans e2)
  cases e3 : inR c 0 7
  · have f3 := hide ((wi8 c).symm.trans e3)
    have HF := hide (show R = false from by rw [HR.out, e1, e2, e3]; rfl)
    rw [HF.out]
    go_enter Tryd.func19, Tryd.ntmps19
    go_wp2_with (first | (go_at_call_of 42 (Value.int .i64 a); refine (within_walk _ _ _ _ f1.out).mono ?_; rintro e w1 ⟨rfl, rfl⟩) | (go_at_call_of 42 (Value.int .i64 b); refine (within_walk _ _ _ _ f2.out).mono ?_; rintro e w1 ⟨rfl, rfl⟩) | (go_at_call_of 42 (Value.int .i64 c); refine (within_walk _ _ _ _ f3.out).mono ?_; rintro e w1 ⟨rfl, rfl⟩))
    go_ret
    exact ⟨rfl, HB.out _⟩
  have f3 := hide ((wi8 c).symm.trans e3)
  cases e4 : inR d 0 7
  · have f4 := hide ((wi8 d).symm.trans e4)
    have HF := hide (show R = false from by rw [HR.out, e1, e2, e3, e4]; rfl)
    rw [HF.out]
    go_enter Tryd.func19, Tryd.ntmps19
    go_wp2_with (first | (go_at_call_of 42 (Value.int .i64 a); refine (within_walk _ _ _ _ f1.out).mono ?_; rintro e w1 ⟨rfl, rfl⟩) | (go_at_call_of 42 (Value.int .i64 b); refine (within_walk _ _ _ _ f2.out).mono ?_; rintro e w1 ⟨rfl, rfl⟩) | (go_at_call_of 42 (Value.int .i64 c); refine (within_walk _ _ _ _ f3.out).mono ?_; rintro e w1 ⟨rfl, rfl⟩) | (go_at_call_of 42 (Value.int .i64 d); refine (within_walk _ _ _ _ f4.out).mono ?_; rintro e w1 ⟨rfl, rfl⟩))
    go_ret
    exact ⟨rfl, HB.out _⟩
  · have f4 := hide ((wi8 d).symm.trans e4)
    have HF := hide (show R = true from by rw [HR.out, e1, e2, e3, e4]; rfl)
    rw [HF.out]
    go_enter Tryd.func19, Tryd.ntmps19
    go_wp2_with (first | (go_at_call_of 42 (Value.int .i64 a); refine (within_walk _ _ _ _ f1.out).mono ?_; rintro e w1 ⟨rfl, rfl⟩) | (go_at_call_of 42 (Value.int .i64 b); refine (within_walk _ _ _ _ f2.out).mono ?_; rintro e w1 ⟨rfl, rfl⟩) | (go_at_call_of 42 (Value.int .i64 c); refine (within_walk _ _ _ _ f3.out).mono ?_; rintro e w1 ⟨rfl, rfl⟩) | (go_at_call_of 42 (Value.int .i64 d); refine (within_walk _ _ _ _ f4.out).mono ?_; rintro e w1 ⟨rfl, rfl⟩))
    go_ret
    exact ⟨rfl, HB.out _⟩
end Go.Proofs.YtohbafigjpoijaaDoor
