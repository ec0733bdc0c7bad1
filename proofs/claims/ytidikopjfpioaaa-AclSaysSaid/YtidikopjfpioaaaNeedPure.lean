/- Two lists of rules let the same codes through just if their functions are the same. Plain. -/
import Derived.Test.YtidikopjfpioaaaDeadLaw
set_option linter.unusedVariables false
set_option linter.unusedSimpArgs false
namespace Go.Proofs.Ytidikopjfpioaaa
open Go.RowKit Go.Maps Bdd

/-- The code of the first n bits. -/
def codeN (x : Asg) : Nat → Nat
  | 0 => 0
  | n + 1 => codeN x n * 2 + (x n).toNat
theorem codeN_lt (x : Asg) : ∀ n, codeN x n < 2 ^ n := by
  intro n
  induction n with
  | zero => simp [codeN]
  | succ n ih =>
    have : (x n).toNat ≤ 1 := by cases x n <;> simp
    simp only [codeN, Nat.pow_succ]
    omega
theorem codeN_bit (x : Asg) : ∀ (n u : Nat), u < n → (codeN x n).testBit (n - 1 - u) = x u := by
  intro n
  induction n with
  | zero => intro u hu; omega
  | succ n ih =>
    intro u hu
    have hb : (x n).toNat ≤ 1 := by cases x n <;> simp
    rcases Nat.lt_or_ge u n with h | h
    · have e : n + 1 - 1 - u = (n - 1 - u) + 1 := by omega
      rw [e, Nat.testBit_succ]
      have : codeN x (n + 1) / 2 = codeN x n := by simp only [codeN]; omega
      rw [this]
      exact ih u h
    · obtain rfl : u = n := by omega
      have e : u + 1 - 1 - u = 0 := by omega
      rw [e, Nat.testBit_zero, Bool.eq_iff_iff, decide_eq_true_eq]
      simp only [codeN]
      cases x u <;> simp <;> omega

theorem bitF_congr (set : Nat) : ∀ (d v n : Nat) (x y : Asg), (∀ u, v ≤ u → u < v + d → x u = y u) → bitF set d v n x = bitF set d v n y := by
  intro d
  induction d with
  | zero => intro v n x y _; rfl
  | succ d ih =>
    intro v n x y h
    simp only [bitF, iteF, h v (Nat.le_refl _) (by omega), ih (v + 1) _ x y (fun u hu hu2 => h u (by omega) (by omega))]

theorem ruleL_congr (r : RuleV) (x y : Asg) (h : ∀ u, u < 14 → x u = y u) : outs (ruleL r) x = outs (ruleL r) y := by
  simp only [outs, ruleL, partL, List.foldl_cons, List.foldl_nil, iteF, PartV.fn]
  rw [bitF_congr _ _ _ _ x y (fun u _ hu => h u (by omega)), bitF_congr _ _ _ _ x y (fun u _ hu => h u (by omega)), bitF_congr _ _ _ _ x y (fun u _ hu => h u (by omega)), bitF_congr _ _ _ _ x y (fun u _ hu => h u (by omega))]
theorem aclF_congr (l : List RuleV) (x y : Asg) (h : ∀ u, u < 14 → x u = y u) : aclF l x = aclF l y := by
  induction l with
  | nil => rfl
  | cons r l ih => simp only [aclF, iteF, ruleL_congr r x y h, ih]

theorem aclF_code (l : List RuleV) (x : Asg) : aclF l x = aclF l (asgOf (codeN x 14)) :=
  aclF_congr l _ _ fun u hu => (codeN_bit x 14 u hu).symm

theorem aclF_eq_iff {l m : List RuleV} (hl : ∀ r ∈ l, r.ok) (hm : ∀ r ∈ m, r.ok) : aclF l = aclF m ↔ ∀ c, c < 16384 → letsB l (pk c) = letsB m (pk c) := by
  constructor
  · intro h c hc
    rw [← aclF_lets l hl c hc, ← aclF_lets m hm c hc, h]
  · intro h
    funext x
    have hc := codeN_lt x 14
    rw [aclF_code l x, aclF_code m x, aclF_lets l hl _ hc, aclF_lets m hm _ hc, h _ hc]

/-- Do two lists let the same codes below q through? -/
def sameTo (l m : List RuleV) (q : Nat) : Bool := (List.range q).all fun c => letsB m (pk c) == letsB l (pk c)
theorem sameTo_zero (l m : List RuleV) : sameTo l m 0 = true := rfl
theorem sameTo_succ {l m : List RuleV} {q : Nat} (h : sameTo l m q = true) : sameTo l m (q + 1) = (letsB m (pk q) == letsB l (pk q)) := by
  unfold sameTo at *
  rw [List.range_succ, List.all_append, h]
  simp
theorem sameTo_end {l m : List RuleV} (hl : ∀ r ∈ l, r.ok) (hm : ∀ r ∈ m, r.ok) (h : sameTo l m 16384 = true) : aclF m = aclF l :=
  (aclF_eq_iff hm hl).2 fun c hc => by
    unfold sameTo at h
    rw [List.all_eq_true] at h
    simpa using h c (by simpa using hc)
theorem sameTo_not {l m : List RuleV} {q : Nat} (hq : q ≤ 16384) (hl : ∀ r ∈ l, r.ok) (hm : ∀ r ∈ m, r.ok) (h : sameTo l m q = false) : aclF m ≠ aclF l := fun e => by
  have := (aclF_eq_iff hm hl).1 e
  have h2 : sameTo l m q = true := by
    unfold sameTo
    rw [List.all_eq_true]
    intro c hc
    simpa using this c (by have : c < q := by simpa using hc
                           omega)
  rw [h] at h2
  cases h2
end Go.Proofs.Ytidikopjfpioaaa
