/- Lists of rules as functions; packet.within; bdd.New with a bad bound. -/
import Derived.Test.YtidikopjfpioaaaAclBuild
import Derived.Test.YtidikopjfpioaaaRefLets
set_option linter.unusedVariables false
set_option linter.unusedSimpArgs false
namespace Go.Proofs.Ytidikopjfpioaaa
open Go.RowKit Go.Maps Bdd

theorem inB_pk (m : M4) (c : Nat) (hm : m.ok) (hc : c < 16384) : inB m (pk c) = hasAllB m.src m.dst m.sport m.dport (c / 1024) (c / 64 % 16) (c / 8 % 8) (c % 8) := by
  have e : ∀ (s k : Nat), k < 16 → hasB s (k : Int) = s.testBit k := fun s k hk => by
    have h : (k : Int) < 16 := by omega
    simp [hasB, h]
  simp only [inB, pk, hasAllB]
  rw [e _ _ (by omega), e _ _ (by omega), e _ _ (by omega), e _ _ (by omega)]

theorem aclF_lets (l : List RuleV) (hl : ∀ r ∈ l, r.ok) (c : Nat) (hc : c < 16384) : aclF l (asgOf c) = letsB l (pk c) := by
  induction l with
  | nil => rfl
  | cons r l ih =>
    have h1 := ih (fun x hx => hl x (by simp [hx]))
    have h2 : outs (ruleL r) (asgOf c) = inB r.m (pk c) := by rw [ruleL, outs_has _ _ _ _ c hc, inB_pk r.m c (hl r (by simp)) hc]
    simp only [aclF, iteF, h2, h1, letsB, List.find?_cons]
    cases inB r.m (pk c) <;> rfl

theorem within_walk (n m : Int) (W : World) (B : Bool) (h : (decide (0 ≤ n) && decide (n < m)) = B) : Calls Try.prog 93 #[.int .i64 n, .int .i64 m] W fun e W' => e = .returned (.bool B) ∧ W = W' := by
  cases h1 : decide (0 ≤ n)
  · have e1 : ¬ 0 ≤ n := by simpa using h1
    have HF := hide (show false = B by rw [← h, h1]; rfl)
    clear h
    go_enter Try.func93, Try.ntmps93
    go_wp2
    go_ret
    exact ⟨ret_bool HF.out, rfl⟩
  · have HF := hide (show decide (n < m) = B by rw [← h, h1]; rfl)
    clear h
    go_enter Try.func93, Try.ntmps93
    go_wp2
    go_ret
    exact ⟨ret_bool HF.out, rfl⟩

def xorF (F G : Bdd.Fn) : Bdd.Fn := iteF F (iteF G (fun _ => false) (fun _ => true)) G
theorem xorF_at (F G : Bdd.Fn) (x : Asg) : xorF F G x = (F x != G x) := by
  simp only [xorF, iteF]; cases F x <;> cases G x <;> rfl

set_option maxRecDepth 100000 in
set_option maxHeartbeats 4000000 in
theorem new_most_bad (w : World) (vars most : Int) (hb : most < 2 ∨ 40000 < most) :
    Calls Try.prog 24 #[.int .i64 14, .int .i64 most] w fun e W' => e = .returned (.tuple #[.pointer none, .int .i64 1]) ∧ RowKit.Below w.heap.size w W' := by
  have hmm := @run_makeMap Try.prog
  rcases hb with h | h
  all_goals
    go_enter Try.func24, Try.ntmps24
    go_wp2
    go_ret2
    exact ⟨rfl, RowKit.Below.refl _ _⟩
end Go.Proofs.Ytidikopjfpioaaa
