/- Laws of functions. No program in sight. -/
import Derived.Test.YtoanimmlpfchjaaOps
set_option linter.unusedVariables false
namespace Go.Proofs.Ytoanimmlpfchjaa
open Bdd

theorem id_not (F : Bdd.Fn) : notF (notF F) = F := by funext x; simp only [notF, iteF]; cases F x <;> rfl
theorem id_demorgan (F G : Bdd.Fn) : notF (andF F G) = orF (notF F) (notF G) := by funext x; simp only [notF, andF, orF, iteF]; cases F x <;> cases G x <;> rfl
theorem id_and_not (F : Bdd.Fn) : andF F (notF F) = fun _ => false := by funext x; simp only [notF, andF, iteF]; cases F x <;> rfl
theorem id_or_or (F G : Bdd.Fn) : orF F (orF F G) = orF F G := by funext x; simp only [orF, iteF]; cases F x <;> rfl
theorem id_and_and (F G : Bdd.Fn) : andF (andF F G) G = andF F G := by funext x; simp only [andF, iteF]; cases F x <;> cases G x <;> rfl
theorem id_ite (F G : Bdd.Fn) : iteF G F F = F := by funext x; simp only [iteF]; cases G x <;> rfl

theorem upd_self (x : Asg) (i : Nat) (b : Bool) (h : x i = b) : upd x i b = x := by
  funext u; simp only [upd]; split
  · rename_i e; rw [e, h]
  · rfl
theorem upd_upd (x : Asg) (i : Nat) (a b : Bool) : upd (upd x i a) i b = upd x i b := by
  funext u; simp only [upd]; split <;> rfl
theorem upd_at (x : Asg) (i : Nat) (b : Bool) : upd x i b i = b := by simp [upd]
theorem upd_ne (x : Asg) {i j : Nat} (b : Bool) (h : j ≠ i) : upd x i b j = x j := by simp [upd, h]

theorem existsF_at (F : Bdd.Fn) (i : Nat) (x : Asg) : existsF F i x = (F (upd x i false) || F (upd x i true)) := by
  simp only [existsF, iteF, restr]; rcases Bool.eq_false_or_eq_true (F (upd x i false)) with h | h <;> simp [h]
theorem id_or_ex (F : Bdd.Fn) (i : Nat) : orF F (existsF F i) = existsF F i := by
  funext x
  simp only [orF, iteF, existsF_at]
  cases h : x i
  · have := upd_self x i false h
    rw [this]; cases F x <;> rfl
  · have := upd_self x i true h
    rw [this]; cases F x <;> cases F (upd x i false) <;> rfl
theorem id_ex_ex (F : Bdd.Fn) (i : Nat) : existsF (existsF F i) i = existsF F i := by
  funext x
  simp only [existsF_at, upd_upd]
  cases F (upd x i false) <;> cases F (upd x i true) <;> rfl
theorem id_swap_swap (F : Bdd.Fn) (i j : Nat) : swapF (swapF F i j) i j = F := by
  funext x
  simp only [swapF]
  congr 1
  funext u
  by_cases hij : i = j
  · subst hij; simp only [upd]; split
    · rename_i e; simp [e]
    · rfl
  · have hji : j ≠ i := fun e => hij e.symm
    simp only [upd]
    by_cases e1 : u = i
    · subst e1; simp; intro e; rw [e]
    · by_cases e2 : u = j
      · subst e2; simp [hji]
      · simp [e1, e2]
theorem id_ex_swap (F : Bdd.Fn) (i j : Nat) : existsF (swapF F i j) j = swapF (existsF F i) i j := by
  funext x
  simp only [existsF_at, swapF]
  by_cases hij : i = j
  · subst hij
    simp only [upd_at, upd_upd]
  · have hji : j ≠ i := fun e => hij e.symm
    have e1 : ∀ b, upd x j b i = x i := fun b => upd_ne x b hij
    simp only [e1, upd_at, upd_upd]

theorem id_cnt_not (F : Bdd.Fn) : cntF 6 6 F + cntF 6 6 (notF F) = 64 := by
  unfold cntF
  have h := List.length_eq_countP_add_countP (fun r => F (asgV 6 r)) (l := List.range (2 ^ 6))
  have e : (List.range (2 ^ 6)).countP (fun r => notF F (asgV 6 r)) = (List.range (2 ^ 6)).countP (fun a => ¬(F (asgV 6 a)) = true) := by
    refine List.countP_congr (fun r hr => ?_)
    simp only [notF, iteF]
    cases F (asgV 6 r) <;> simp
  rw [e]
  simp only [List.length_range] at h
  omega

/-- A number of six bits with two of them exchanged. -/
def swapB (i j c : Nat) : Nat := (List.range 6).foldl (fun s u => s + if c.testBit (5 - (if u = i then j else if u = j then i else u)) then 2 ^ (5 - u) else 0) 0

theorem swapB_bit : ∀ (i j : Fin 6) (c : Fin 64) (u : Fin 6), (swapB i.val j.val c.val).testBit (5 - u.val) = c.val.testBit (5 - (if u.val = i.val then j.val else if u.val = j.val then i.val else u.val)) := by decide +kernel
theorem swapB_perm : ∀ (i j : Fin 6), ((List.range 64).map (swapB i.val j.val)).isPerm (List.range 64) = true := by decide +kernel

theorem id_cnt_swap (F : Bdd.Fn) (hF : Bdd.Below 6 F) (i j : Nat) (hi : i < 6) (hj : j < 6) : cntF 6 6 (swapF F i j) = cntF 6 6 F := by
  unfold cntF
  have hp := List.isPerm_iff.1 (swapB_perm ⟨i, hi⟩ ⟨j, hj⟩)
  have e64 : (2 : Nat) ^ 6 = 64 := rfl
  rw [e64]
  refine Eq.trans ?_ (hp.countP_eq (fun r => F (asgV 6 r)))
  rw [List.countP_map]
  refine List.countP_congr (fun c hc => ?_)
  have hc := List.mem_range.1 hc
  simp only [Function.comp, swapF]
  rw [hF _ (asgV 6 (swapB i j c)) (fun u hu => ?_)]
  have := swapB_bit ⟨i, hi⟩ ⟨j, hj⟩ ⟨c, hc⟩ ⟨u, hu⟩
  simp only at this
  simp only [upd, asgV]
  show _ = (swapB i j c).testBit (5 - u)
  rw [this]
  by_cases e1 : u = i
  · simp [e1]
  · by_cases e2 : u = j
    · subst e2; simp [e1]
    · simp [e1, e2]
end Go.Proofs.Ytoanimmlpfchjaa
