/- differ.Rules: what it answers. -/
import Derived.Test.YtoanimmlpfchjaaAclBuild
import Derived.Test.YtoanimmlpfchjaaOne
import Derived.Test.YtoanimmlpfchjaaLeast
set_option linter.unusedVariables false
set_option linter.unusedSimpArgs false
namespace Go.Proofs.Ytoanimmlpfchjaa
open Go.RowKit Go.Maps Bdd

theorem inB_pk (m : M4) (c : Nat) (hm : m.ok) (hc : c < 16384) : inB m (pk c) = hasAllB m.src m.dst m.sport m.dport (c / 1024) (c / 64 % 16) (c / 8 % 8) (c % 8) := by
  have e : ∀ (s k : Nat), k < 16 → hasB s (k : Int) = s.testBit k := fun s k hk => by
    have h : (k : Int) < 16 := by omega
    simp [hasB, h]
  simp only [inB, pk, hasAllB]
  rw [e _ _ (by omega), e _ _ (by omega), e _ _ (by omega), e _ _ (by omega)]

theorem aclF_lets (l : List RuleV) (hl : ∀ r ∈ l, r.ok) (c : Nat) (hc : c < 16384) : aclF l (asgOf c) = letsB l (pk c) := by
  induction l with
  | nil => rfl
  | cons r l ih =>
    have h1 := ih (fun x hx => hl x (by simp [hx]))
    have h2 : outs (ruleL r) (asgOf c) = inB r.m (pk c) := by rw [ruleL, outs_has _ _ _ _ c hc, inB_pk r.m c (hl r (by simp)) hc]
    simp only [aclF, iteF, h2, h1, letsB, List.find?_cons]
    cases inB r.m (pk c) <;> rfl

theorem within_walk (n m : Int) (W : World) (B : Bool) (h : (decide (0 ≤ n) && decide (n < m)) = B) : Calls Try.prog 121 #[.int .i64 n, .int .i64 m] W fun e W' => e = .returned (.bool B) ∧ W = W' := by
  cases h1 : decide (0 ≤ n)
  · have e1 : ¬ 0 ≤ n := by simpa using h1
    have HF := hide (show false = B by rw [← h, h1]; rfl)
    clear h
    go_enter Try.func121, Try.ntmps121
    go_wp2
    go_ret
    exact ⟨ret_bool HF.out, rfl⟩
  · have HF := hide (show decide (n < m) = B by rw [← h, h1]; rfl)
    clear h
    go_enter Try.func121, Try.ntmps121
    go_wp2
    go_ret
    exact ⟨ret_bool HF.out, rfl⟩

set_option maxRecDepth 100000 in
set_option maxHeartbeats 4000000 in
theorem of_walk (w : World) (c : Nat) (hc : c < 16384) :
    Calls Try.prog 112 #[.int .i64 c] w fun e W' => e = .returned (.tuple #[packVal c, .int .i64 0]) ∧ Below w.heap.size w W' := by
  have b1 : ∀ m : Nat, m < 9223372036854775808 → Go.bits .and .i64 (m : Int) 15 = ((m % 16 : Nat) : Int) := fun m hm => by
    have := i64_and m 15 hm (by omega)
    rw [show (15 : Nat) = 2 ^ 4 - 1 from rfl, Nat.and_two_pow_sub_one_eq_mod] at this
    exact this
  have b2 : ∀ m : Nat, m < 9223372036854775808 → Go.bits .and .i64 (m : Int) 7 = ((m % 8 : Nat) : Int) := fun m hm => by
    have := i64_and m 7 hm (by omega)
    rw [show (7 : Nat) = 2 ^ 3 - 1 from rfl, Nat.and_two_pow_sub_one_eq_mod] at this
    exact this
  have HV : Hid (packVal c = .agg #[.int .i64 ((c : Int) / 1024), .int .i64 (Go.bits .and .i64 ((c : Int) / 64) 15), .int .i64 (Go.bits .and .i64 ((c : Int) / 8) 7), .int .i64 (Go.bits .and .i64 (c : Int) 7)]) := hide (by
    have e1 : ((c / 1024 : Nat) : Int) = (c : Int) / 1024 := by omega
    have e2 : ((c : Int) / 64) = ((c / 64 : Nat) : Int) := by omega
    have e3 : ((c : Int) / 8) = ((c / 8 : Nat) : Int) := by omega
    rw [e2, e3, b1 _ (by omega), b2 _ (by omega), b2 _ (by omega), ← e1]; rfl)
  clear b1 b2
  go_enter Try.func112, Try.ntmps112
  go_wp2_with fail
  refine (within_walk _ _ _ true (by simp; omega)).mono ?_
  rintro e w1 ⟨rfl, rfl⟩
  go_wp2
  refine bodyPost_ret (v := .tuple #[.agg #[.int .i64 ((c : Int) / 1024), .int .i64 (Go.bits .and .i64 ((c : Int) / 64) 15), .int .i64 (Go.bits .and .i64 ((c : Int) / 8) 7), .int .i64 (Go.bits .and .i64 (c : Int) 7)], .int .i64 0]) (by simp [results, Try.results112, go_sem]) rfl ⟨by rw [HV.out], ?_⟩
  exact (Below.refl _ _).alloc (Nat.le_refl _) _

set_option maxRecDepth 100000 in
set_option maxHeartbeats 4000000 in
theorem new_most_bad (w : World) (vars most : Int) (hb : most < 2 ∨ 40000 < most) :
    Calls Try.prog 28 #[.int .i64 14, .int .i64 most] w fun e W' => e = .returned (.tuple #[.pointer none, .int .i64 1]) ∧ RowKit.Below w.heap.size w W' := by
  have hmm := @run_makeMap Try.prog
  rcases hb with h | h
  all_goals
    go_enter Try.func28, Try.ntmps28
    go_wp2
    go_ret2
    exact ⟨rfl, RowKit.Below.refl _ _⟩

def drErr (e : Int) : Value := .tuple #[.agg #[.int .i64 0, .int .i64 0, .int .i64 0, .int .i64 0], .int .i64 0, .int .i64 e]
def drV (r : Option (Nat × Nat)) : Value := match r with
  | some (c, k) => .tuple #[packVal c, .int .i64 (k : Int), .int .i64 0]
  | none => drErr 0
def DRP (l1 l2 : List RuleV) (W : World) (e : Ending) (W' : World) : Prop := RowKit.Below W.heap.size W W' ∧ (e = .returned (drErr 6) ∨ e = .returned (drV (leastF (fun c => letsB l1 (pk c)) (fun c => letsB l2 (pk c)) 16384)))

def xorF (F G : Bdd.Fn) : Bdd.Fn := iteF F (iteF G (fun _ => false) (fun _ => true)) G
theorem xorF_at (F G : Bdd.Fn) (x : Asg) : xorF F G x = (F x != G x) := by
  simp only [xorF, iteF]; cases F x <;> cases G x <;> rfl

set_option maxRecDepth 100000 in
set_option maxHeartbeats 4000000 in
theorem differRules_large (W : World) (A1 A2 : Option Addr) (n1 n2 c1 c2 : Nat) (most : Int) (h : 8 < n1 ∨ 8 < n2) :
    Calls Try.prog 62 #[.slice A1 n1 c1, .slice A2 n2 c2, .int .i64 most] W fun e W' => e = .returned (drErr 2) ∧ RowKit.Below W.heap.size W W' := by
  have HB0 := hide (fun o0 o1 => show RowKit.Below W.heap.size W ((W.alloc o0).alloc o1) from ((RowKit.Below.refl _ _).alloc (Nat.le_refl _) _).alloc (by simp) _)
  by_cases h1 : 8 < n1
  · go_enter Try.func62, Try.ntmps62
    go_wp2
    refine wp_loop_rounds 1 ?_
    rw [rounds_succ]
    go_wp2_with (go_at_call 110; refine (aclCheck_walk _ _ _ _).mono ?_; rintro e w' ⟨rfl, rfl⟩; rw [if_pos h1])
    refine bodyPost_ret (v := drErr 2) (by simp [results, Try.results62, go_sem, drErr]) rfl ⟨rfl, HB0.out _ _⟩
  · have h2 : 8 < n2 := by omega
    go_enter Try.func62, Try.ntmps62
    go_wp2
    refine wp_loop_rounds 2 ?_
    rw [rounds_succ]
    go_wp2_with (go_at_call 110; refine (aclCheck_walk _ _ _ _).mono ?_; rintro e w' ⟨rfl, rfl⟩; rw [if_neg h1])
    rw [rounds_succ]
    go_wp2_with (go_at_call 110; refine (aclCheck_walk _ _ _ _).mono ?_; rintro e w' ⟨rfl, rfl⟩; rw [if_pos h2])
    refine bodyPost_ret (v := drErr 2) (by simp [results, Try.results62, go_sem, drErr]) rfl ⟨rfl, HB0.out _ _⟩
end Go.Proofs.Ytoanimmlpfchjaa
