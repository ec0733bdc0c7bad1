/- wireref.In, wireref.Right; wirekeep.all. -/
import Derived.Test.YtidikopjfpioaaaMatchMeets
set_option linter.unusedVariables false
namespace Go.Proofs.Ytidikopjfpioaaa
open Go.ChangeShapes Go.WideShapes Go.ChangeAt Go.RowKit

def inR (n lo hi : Int) : Bool := decide (lo ≤ n) && decide (n ≤ hi)

theorem inR_walk (n lo hi : Int) (W : World) : Calls Try.prog 19 #[.int .i64 n, .int .i64 lo, .int .i64 hi] W fun e W' => e = .returned (.bool (inR n lo hi)) ∧ W = W' := by
  cases h1 : decide (lo ≤ n)
  · have e1 : ¬ lo ≤ n := by simpa using h1
    go_enter Try.func19, Try.ntmps19
    go_wp2
    go_ret
    exact ⟨by simp [inR, h1], rfl⟩
  · go_enter Try.func19, Try.ntmps19
    go_wp2
    go_ret
    exact ⟨by simp [inR, h1], rfl⟩

def rightB (p : P4) : Bool := inR p.src 0 15 && inR p.dst 0 15 && inR p.sport 0 7 && inR p.dport 0 7

set_option maxRecDepth 100000 in
set_option maxHeartbeats 4000000 in
theorem right_walk (p : P4) (W : World) : Calls Try.prog 21 #[.agg #[.int .i64 p.src, .int .i64 p.dst, .int .i64 p.sport, .int .i64 p.dport]] W fun e W' => e = .returned (.bool (rightB p)) ∧ Below W.heap.size W W' := by
  cases e1 : inR p.src 0 15
  · go_enter Try.func21, Try.ntmps21
    go_wp2_with (go_at_call 19; refine (inR_walk _ _ _ _).mono ?_; rintro e w' ⟨rfl, rfl⟩)
    go_ret
    exact ⟨by simp [rightB, *], ((Below.refl _ _).alloc (Nat.le_refl _) _)⟩
  cases e2 : inR p.dst 0 15
  · go_enter Try.func21, Try.ntmps21
    go_wp2_with (go_at_call 19; refine (inR_walk _ _ _ _).mono ?_; rintro e w' ⟨rfl, rfl⟩)
    go_ret
    exact ⟨by simp [rightB, *], ((Below.refl _ _).alloc (Nat.le_refl _) _)⟩
  cases e3 : inR p.sport 0 7
  · go_enter Try.func21, Try.ntmps21
    go_wp2_with (go_at_call 19; refine (inR_walk _ _ _ _).mono ?_; rintro e w' ⟨rfl, rfl⟩)
    go_ret
    exact ⟨by simp [rightB, *], ((Below.refl _ _).alloc (Nat.le_refl _) _)⟩
  cases e4 : inR p.dport 0 7
  · go_enter Try.func21, Try.ntmps21
    go_wp2_with (go_at_call 19; refine (inR_walk _ _ _ _).mono ?_; rintro e w' ⟨rfl, rfl⟩)
    go_ret
    exact ⟨by simp [rightB, *], ((Below.refl _ _).alloc (Nat.le_refl _) _)⟩
  · go_enter Try.func21, Try.ntmps21
    go_wp2_with (go_at_call 19; refine (inR_walk _ _ _ _).mono ?_; rintro e w' ⟨rfl, rfl⟩)
    go_ret
    exact ⟨by simp [rightB, *], ((Below.refl _ _).alloc (Nat.le_refl _) _)⟩

set_option maxRecDepth 100000 in
theorem allRule_walk (b : Bool) (W : World) : Calls Try.prog 52 #[.bool b] W fun e W' =>
      e = .returned (.agg #[.bool b, .int .u16 65535, .int .u16 65535, .int .u8 255, .int .u8 255]) ∧ Below W.heap.size W W' := by
  go_enter Try.func52, Try.ntmps52
  go_wp2_with fail
  refine (all_walk _).mono ?_
  rintro e w1 ⟨rfl, hb1⟩
  obtain ⟨hc, hf⟩ := bcell hb1
  have hs := hb1.size
  simp only [World.size_alloc] at hs hc hf
  have HB := hide (((Below.refl _ W).alloc (Nat.le_refl _) _).trans (hb1.mono (by simp)))
  clear hb1
  go_wp2
  refine bodyPost_ret (v := .agg #[.bool b, .int .u16 65535, .int .u16 65535, .int .u8 255, .int .u8 255]) (by simp [results, Try.results52, go_sem, hc]) rfl ⟨rfl, ?_⟩
  exact ((((HB.out.setCell (Nat.le_refl _) _).setCell (Nat.le_refl _) _).setCell (Nat.le_refl _) _).setCell (Nat.le_refl _) _).setCell (Nat.le_refl _) _
end Go.Proofs.Ytidikopjfpioaaa
