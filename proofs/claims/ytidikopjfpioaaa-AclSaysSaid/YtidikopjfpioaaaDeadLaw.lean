/- What is dead: plain; the closure of AclDead. -/
import Derived.Test.YtidikopjfpioaaaIntSl
import Derived.Test.YtidikopjfpioaaaAclEq
import Derived.Test.YtidikopjfpioaaaAclFirst
set_option linter.unusedVariables false
set_option linter.unusedSimpArgs false
namespace Go.Proofs.Ytidikopjfpioaaa
open Go.RowKit Go.Maps Bdd

def allM : M4 := ⟨65535, 65535, 255, 255⟩
theorem allM_ok : allM.ok := ⟨by show 65535 < _; omega, by show 65535 < _; omega, by show 255 < _; omega, by show 255 < _; omega⟩

theorem bitF_true (set : Nat) : ∀ (d v n : Nat), (∀ m, n * 2 ^ d ≤ m → m < (n + 1) * 2 ^ d → set.testBit m = true) → bitF set d v n = fun _ => true := by
  intro d
  induction d with
  | zero => intro v n h; funext x; simp only [bitF]; exact h n (by simp) (by simp)
  | succ d ih =>
    intro v n h
    have e : 2 ^ (d + 1) = 2 * 2 ^ d := by rw [Nat.pow_succ, Nat.mul_comm]
    have h1 := ih (v + 1) (n * 2) (fun m a b => h m (by rw [e, ← Nat.mul_assoc]; exact a) (by
      have : (n * 2 + 1) * 2 ^ d ≤ (n + 1) * 2 ^ (d + 1) := by rw [e, ← Nat.mul_assoc]; exact Nat.mul_le_mul_right _ (by omega)
      omega))
    have h2 := ih (v + 1) (n * 2 + 1) (fun m a b => h m (by
      have : n * 2 ^ (d + 1) ≤ (n * 2 + 1) * 2 ^ d := by rw [e, ← Nat.mul_assoc]; exact Nat.mul_le_mul_right _ (by omega)
      omega) (by
      have : (n * 2 + 1 + 1) * 2 ^ d = (n + 1) * 2 ^ (d + 1) := by rw [e, ← Nat.mul_assoc]; congr 1; omega
      omega))
    simp only [bitF, h1, h2]
    funext x; simp [iteF]

theorem bits16 : ∀ m, 0 * 2 ^ 4 ≤ m → m < (0 + 1) * 2 ^ 4 → Nat.testBit 65535 m = true := fun m _ h => by
  have : ∀ i : Fin 16, Nat.testBit 65535 i.val = true := by decide +kernel
  exact this ⟨m, by simpa using h⟩
theorem bits8 : ∀ m, 0 * 2 ^ 3 ≤ m → m < (0 + 1) * 2 ^ 3 → Nat.testBit 255 m = true := fun m _ h => by
  have : ∀ i : Fin 8, Nat.testBit 255 i.val = true := by decide +kernel
  exact this ⟨m, by simpa using h⟩

theorem all_fn : ∀ x ∈ partL 65535 65535 255 255, x.fn = fun _ => true := by
  intro x hx
  simp only [partL, List.mem_cons, List.not_mem_nil, or_false] at hx
  rcases hx with rfl | rfl | rfl | rfl
  · exact bitF_true _ _ _ _ bits16
  · exact bitF_true _ _ _ _ bits8
  · exact bitF_true _ _ _ _ bits16
  · exact bitF_true _ _ _ _ bits8
theorem outs_true : ∀ (l : List PartV), (∀ x ∈ l, x.fn = fun _ => true) → outs l = fun _ => true := by
  intro l h
  have : ∀ (l : List PartV) (F : Bdd.Fn), (∀ x ∈ l, x.fn = fun _ => true) → F = (fun _ => true) → l.foldl (fun F x => iteF F x.fn (fun _ => false)) F = fun _ => true := by
    intro l
    induction l with
    | nil => intro F _ hF; exact hF
    | cons a l ih =>
      intro F h hF
      rw [List.foldl_cons]
      refine ih _ (fun x hx => h x (by simp [hx])) ?_
      rw [hF, h a (by simp)]; funext x; rfl
  exact this l _ h rfl
theorem all_outs (b : Bool) : outs (ruleL ⟨b, allM⟩) = fun _ => true := outs_true _ all_fn

/-- What is new where all rules are for all. -/
def NewA (G : Bdd.Fn) : Prop := (∃ u, Cof (fun x : Asg => x u) G) ∨ ∀ x y, G x = G y
theorem cof_const {b : Bool} {G : Bdd.Fn} (h : Cof (fun _ => b) G) : ∀ x y, G x = G y := by
  obtain ⟨k, s, rfl⟩ := h
  intro x y; rfl
theorem newA_of {b : Bool} {G : Bdd.Fn} (h : NewB (ruleL ⟨b, allM⟩) G) : NewA G := by
  rcases h with ⟨u, h⟩ | ⟨x, hx, h⟩ | ⟨k, hk, h⟩
  · exact .inl ⟨u, h⟩
  · rw [all_fn x hx] at h; exact .inr (cof_const h)
  · have e : outs ((ruleL ⟨b, allM⟩).take (k + 1)) = fun _ => true := outs_true _ (fun x hx => all_fn x (List.mem_of_mem_take hx))
    rw [e] at h; exact .inr (cof_const h)

theorem newA_room {A : St} (he : Ext (newSt 14 40000) A) (hn : ∀ j, 2 ≤ j → j < A.len → NewA (den A.ns j)) : A.len ≤ 16 := by
  have hi := newSt_inv 14 40000 (by omega) (by omega)
  have hv : A.vars = 14 := he.vars
  have ok : Ok 14 A.ns := hv ▸ he.inv.ok
  obtain ⟨more, e⟩ := he.ns
  have ok' : Ok 14 ((newSt 14 40000).ns ++ more) := e ▸ ok
  have := count_new hi.ok ok' ((List.range 14).map (fun u => fun x : Asg => x u)) (fun j h1 h2 => by
    rw [← e] at h2 ⊢
    have hnc := nonconst ok h2 h1
    rcases hn j h1 h2 with ⟨u, hu⟩ | hc
    · have e1 := cof_var hu hnc
      have hu14 : u < 14 := by
        refine Classical.byContradiction fun hn => ?_
        have := den_below ok j h2 (fun _ => true) (fun v => decide (v < 14)) (fun v hv => by simp [hv])
        rw [e1] at this
        simp at this
        omega
      exact List.mem_map.2 ⟨u, List.mem_range.2 hu14, e1.symm⟩
    · obtain ⟨x, y, h⟩ := hnc
      exact absurd (hc x y) h)
  simp only [List.length_map, List.length_range] at this
  show A.ns.length ≤ _
  rw [e, List.length_append]
  have : (newSt 14 40000).ns.length = 2 := rfl
  omega

def twoL : List RuleV := [⟨true, allM⟩, ⟨false, allM⟩]
theorem aclF_all (b : Bool) (l : List RuleV) : aclF (⟨b, allM⟩ :: l) = fun _ => b := by
  simp only [aclF, all_outs]; funext x; simp [iteF]
theorem two_dead {dl : List Nat} (h : DeadTo twoL 2 dl) : dl = [1] := by
  have := h (fun i => i == 1) (fun i hi => by
    have hi : i < 2 := hi
    rcases (by omega : i = 0 ∨ i = 1) with rfl | rfl
    · constructor
      · intro h; cases h
      · intro h
        have : aclF [⟨false, allM⟩] = aclF twoL := h
        rw [aclF_all, twoL, aclF_all] at this
        have := congrFun this (fun _ => true)
        cases this
    · constructor
      · intro _
        show aclF [⟨true, allM⟩] = aclF twoL
        rw [aclF_all, twoL, aclF_all]
      · intro _; rfl)
  rw [this]; rfl

theorem DeadTo.mem {l : List RuleV} {k : Nat} {dl : List Nat} (h : DeadTo l k dl) (hk : k ≤ l.length) (i : Nat) : i ∈ dl ↔ i < k ∧ aclF (l.eraseIdx i) = aclF l := by
  have hd := h (fun i => @decide (aclF (l.eraseIdx i) = aclF l) (Classical.propDecidable _)) (fun i _ => by simp)
  rw [hd]
  simp

theorem right_code (p : P4) (h : rightB p = true) : ∃ c, c < 16384 ∧ p = pk c := by
  obtain ⟨a, b, c, d⟩ := p
  simp only [rightB, inR, Bool.and_eq_true, decide_eq_true_eq] at h
  obtain ⟨⟨⟨⟨a1, a2⟩, b1, b2⟩, c1, c2⟩, d1, d2⟩ := h
  refine ⟨a.toNat * 1024 + b.toNat * 64 + c.toNat * 8 + d.toNat, by omega, ?_⟩
  simp only [pk, P4.mk.injEq]
  omega

theorem dead_lets {l : List RuleV} {k : Nat} (hok : ∀ r ∈ l, r.ok) (h : aclF (l.eraseIdx k) = aclF l) (p : P4) (hp : rightB p = true) : letsB (l.eraseIdx k) p = letsB l p := by
  obtain ⟨c, hc, rfl⟩ := right_code p hp
  rw [← aclF_lets l hok c hc, ← aclF_lets _ (fun r hr => hok r (List.mem_of_mem_eraseIdx hr)) c hc, h]

theorem behind_all : ∀ (l : List RuleV) (i k : Nat) (r : RuleV), l[i]? = some r → r.m = allM → i < k → aclF (l.eraseIdx k) = aclF l := by
  intro l
  induction l with
  | nil => intro i k r h; simp at h
  | cons a l ih =>
    intro i k r h hr hik
    obtain ⟨k, rfl⟩ : ∃ j, k = j + 1 := ⟨k - 1, by omega⟩
    rw [List.eraseIdx_cons_succ]
    match i, h with
    | 0, h =>
      have e : a = r := by simpa using h
      subst e
      obtain ⟨b, m⟩ := a
      obtain rfl : m = allM := hr
      rw [aclF_all, aclF_all]
    | i + 1, h =>
      have := ih i k r (by simpa using h) hr (by omega)
      simp only [aclF, this]

def isAll (r : RuleV) : Bool := ((r.m.src : Int) == 65535) && ((r.m.dst : Int) == 65535) && ((r.m.sport : Int) == 255) && ((r.m.dport : Int) == 255)
theorem isAll_eq {r : RuleV} (h : isAll r = true) : r.m = allM := by
  obtain ⟨b, s, d, p, q⟩ := r
  simp only [isAll, Bool.and_eq_true, beq_iff_eq] at h
  simp only [allM, M4.mk.injEq]
  omega

end Go.Proofs.Ytidikopjfpioaaa
