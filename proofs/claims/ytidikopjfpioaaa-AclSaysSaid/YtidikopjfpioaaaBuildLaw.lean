/- What is built of a match holds of just its packets; how many nodes that takes. No program in sight. -/
import Derived.Test.YtidikopjfpioaaaBuild
import Derived.Test.YtidikopjfpioaaaHeld
set_option linter.unusedVariables false
namespace Go.Proofs.Ytidikopjfpioaaa
open Go.RowKit Bdd

def asgOf (c : Nat) : Asg := fun u => c.testBit (13 - u)

theorem tb (c i : Nat) : c.testBit i = decide (c / 2 ^ i % 2 = 1) := Nat.testBit_eq_decide_div_mod_eq

theorem fn_s (s c : Nat) (hc : c < 16384) : bitF s 4 0 0 (asgOf c) = s.testBit (c / 1024) := by
  have key : c / 1024 = 8 * (c / 8192 % 2) + 4 * (c / 4096 % 2) + 2 * (c / 2048 % 2) + c / 1024 % 2 := by omega
  rw [key]
  simp only [bitF, iteF, asgOf, tb]
  rcases Nat.mod_two_eq_zero_or_one (c / 8192) with h1 | h1 <;> rcases Nat.mod_two_eq_zero_or_one (c / 4096) with h2 | h2 <;> rcases Nat.mod_two_eq_zero_or_one (c / 2048) with h3 | h3 <;> rcases Nat.mod_two_eq_zero_or_one (c / 1024) with h4 | h4 <;> simp [h1, h2, h3, h4]

theorem fn_d (s c : Nat) (hc : c < 16384) : bitF s 4 4 0 (asgOf c) = s.testBit (c / 64 % 16) := by
  have key : c / 64 % 16 = 8 * (c / 512 % 2) + 4 * (c / 256 % 2) + 2 * (c / 128 % 2) + c / 64 % 2 := by omega
  rw [key]
  simp only [bitF, iteF, asgOf, tb]
  rcases Nat.mod_two_eq_zero_or_one (c / 512) with h1 | h1 <;> rcases Nat.mod_two_eq_zero_or_one (c / 256) with h2 | h2 <;> rcases Nat.mod_two_eq_zero_or_one (c / 128) with h3 | h3 <;> rcases Nat.mod_two_eq_zero_or_one (c / 64) with h4 | h4 <;> simp [h1, h2, h3, h4]

theorem fn_p (s c : Nat) (hc : c < 16384) : bitF s 3 8 0 (asgOf c) = s.testBit (c / 8 % 8) := by
  have key : c / 8 % 8 = 4 * (c / 32 % 2) + 2 * (c / 16 % 2) + c / 8 % 2 := by omega
  rw [key]
  simp only [bitF, iteF, asgOf, tb]
  rcases Nat.mod_two_eq_zero_or_one (c / 32) with h2 | h2 <;> rcases Nat.mod_two_eq_zero_or_one (c / 16) with h3 | h3 <;> rcases Nat.mod_two_eq_zero_or_one (c / 8) with h4 | h4 <;> simp [h2, h3, h4]

theorem fn_q (s c : Nat) (hc : c < 16384) : bitF s 3 11 0 (asgOf c) = s.testBit (c % 8) := by
  have key : c % 8 = 4 * (c / 4 % 2) + 2 * (c / 2 % 2) + c / 1 % 2 := by omega
  rw [key]
  simp only [bitF, iteF, asgOf, tb]
  rcases Nat.mod_two_eq_zero_or_one (c / 4) with h2 | h2 <;> rcases Nat.mod_two_eq_zero_or_one (c / 2) with h3 | h3 <;> rcases Nat.mod_two_eq_zero_or_one (c / 1) with h4 | h4 <;> simp_all

theorem outs_has (s d p q c : Nat) (hc : c < 16384) : outs (partL s d p q) (asgOf c) = hasAllB s d p q (c / 1024) (c / 64 % 16) (c / 8 % 8) (c % 8) := by
  have e1 := fn_s s c hc
  have e2 := fn_d d c hc
  have e3 := fn_p p c hc
  have e4 := fn_q q c hc
  simp only [outs, partL, List.foldl_cons, List.foldl_nil, iteF, PartV.fn, e1, e2, e3, e4, hasAllB]
  cases s.testBit (c / 1024) <;> cases d.testBit (c / 64 % 16) <;> cases p.testBit (c / 8 % 8) <;> cases q.testBit (c % 8) <;> rfl
end Go.Proofs.Ytidikopjfpioaaa
