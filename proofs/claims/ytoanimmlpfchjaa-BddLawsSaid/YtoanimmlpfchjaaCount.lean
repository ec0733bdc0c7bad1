/- The arena's count: how many numbers of bits a function holds of. -/
import Derived.Test.YtoanimmlpfchjaaSwap
import Derived.Test.YtoanimmlpfchjaaOne
set_option linter.unusedVariables false
set_option linter.unusedSimpArgs false
namespace Go.Proofs.Ytoanimmlpfchjaa
open Go.RowKit Go.Maps Bdd

/-! ### plain -/
def cntF (vars m : Nat) (F : Bdd.Fn) : Nat := (List.range (2 ^ m)).countP (fun r => F (asgV vars r))

theorem cntF_le (vars m : Nat) (F : Bdd.Fn) : cntF vars m F ≤ 2 ^ m := by
  have := List.countP_le_length (p := fun r => F (asgV vars r)) (l := List.range (2 ^ m))
  simpa [cntF] using this
theorem cntF_false (vars m : Nat) : cntF vars m (fun _ => false) = 0 := by simp [cntF]
theorem cntF_true (vars m : Nat) : cntF vars m (fun _ => true) = 2 ^ m := by simp [cntF]

theorem cntF_succ (vars m : Nat) (F : Bdd.Fn) : cntF vars (m + 1) F = cntF vars m F + (List.range (2 ^ m)).countP (fun r => F (asgV vars (2 ^ m + r))) := by
  have : 2 ^ (m + 1) = 2 ^ m + 2 ^ m := by rw [Nat.pow_succ]; omega
  rw [cntF, this, List.range_add, List.countP_append, List.countP_map]
  rfl

theorem asgV_hi {vars m r u : Nat} (hm : m + 1 ≤ vars) (hr : r < 2 ^ m) (hu : vars - m ≤ u) (hu2 : u < vars) : asgV vars (2 ^ m + r) u = asgV vars r u := by
  unfold asgV
  rw [Nat.testBit_two_pow_add_gt (by omega)]

theorem cnt_congr {l : List Nat} {p q : Nat → Bool} (h : ∀ r ∈ l, p r = q r) : l.countP p = l.countP q := List.countP_congr (fun r hr => by rw [h r hr])

/-- A variable that the function does not ask for. -/
theorem cntF_widen {vars m : Nat} {F : Bdd.Fn} (hm : m + 1 ≤ vars) (hB : Bdd.Below vars F) (hF : ∀ x y : Asg, (∀ u, vars - m ≤ u → x u = y u) → F x = F y) : cntF vars (m + 1) F = 2 * cntF vars m F := by
  rw [cntF_succ, Nat.two_mul]
  congr 1
  refine cnt_congr (fun r hr => ?_)
  have hr := List.mem_range.1 hr
  have e1 := hB (asgV vars (2 ^ m + r)) (fun u => if u < vars then asgV vars (2 ^ m + r) u else asgV vars r u) (fun u hu => by simp [hu])
  rw [e1]
  refine hF _ _ (fun u hu => ?_)
  by_cases h : u < vars
  · simp only [h, if_true]; exact asgV_hi hm hr hu h
  · simp [h]

theorem cntF_widen' {vars k : Nat} {F : Bdd.Fn} (hB : Bdd.Below vars F) (hF : ∀ x y : Asg, (∀ u, k ≤ u → x u = y u) → F x = F y) (hk : k ≤ vars) : ∀ d, d ≤ k → cntF vars (vars - k + d) F = cntF vars (vars - k) F * 2 ^ d := by
  intro d
  induction d with
  | zero => intro _; simp
  | succ d ih =>
    intro hd
    rw [← Nat.add_assoc, cntF_widen (by omega) hB (fun x y h => hF x y (fun u hu => h u (by omega))), ih (by omega), Nat.pow_succ, Nat.mul_left_comm, Nat.mul_comm 2]

theorem cntF_node {vars : Nat} {ns : List Bdd.Node} (ok : Ok vars ns) {f : Nat} {n : Bdd.Node} (hf : f < ns.length) (hn : ns[f]? = some n) (h2 : 2 ≤ f) :
    cntF vars (vars - n.v) (den ns f) = cntF vars (vars - (n.v + 1)) (den ns n.lo) + cntF vars (vars - (n.v + 1)) (den ns n.hi) := by
  obtain ⟨hv, hl, hh, hne, g1, g2⟩ := ok.node f n hn h2
  obtain ⟨m, hm⟩ : ∃ m, vars - n.v = m + 1 := ⟨vars - n.v - 1, by omega⟩
  have hm' : vars - (n.v + 1) = m := by omega
  rw [hm, hm', cntF_succ]
  have hlt : n.lo < ns.length := by omega
  have hht : n.hi < ns.length := by omega
  congr 1
  · refine cnt_congr (fun r hr => ?_)
    have hr := List.mem_range.1 hr
    rw [den_node ok hn h2]
    have : asgV vars r n.v = false := by
      show r.testBit (vars - 1 - n.v) = false
      rw [show vars - 1 - n.v = m by omega]
      exact Nat.testBit_lt_two_pow hr
    rw [this]; rfl
  · refine cnt_congr (fun r hr => ?_)
    have hr := List.mem_range.1 hr
    rw [den_node ok hn h2]
    have : asgV vars (2 ^ m + r) n.v = true := by
      show (2 ^ m + r).testBit (vars - 1 - n.v) = true
      rw [show vars - 1 - n.v = m by omega, Nat.testBit_two_pow_add_eq, Nat.testBit_lt_two_pow hr]; rfl
    rw [this]
    show den ns n.hi (asgV vars (2 ^ m + r)) = den ns n.hi (asgV vars r)
    have hB := den_below ok _ hht
    have e1 := hB (asgV vars (2 ^ m + r)) (fun u => if u < vars then asgV vars (2 ^ m + r) u else asgV vars r u) (fun u hu => by simp [hu])
    rw [e1]
    refine indep ok n.hi hht _ _ (fun u hu => ?_)
    by_cases h : u < vars
    · simp only [h, if_true]; exact asgV_hi (by omega) hr (by omega) h
    · simp [h]

/-! ### the walk -/
def SeenC (A : St) (S : Nat → Option Value) : Prop := ∀ f x, S f = some x → 2 ≤ f ∧ f < A.ns.length ∧ x = .int .i64 ((cntF A.vars (A.vars - var A.ns f) (den A.ns f) : Nat) : Int)

structure CS (w : World) (sb : Nat) (A : St) (w1 : World) (S1 : Nat → Option Value) : Prop where
  sm : MapIs Try.prog 3 numVal numDom w1 sb S1
  sk : SeenC A S1
  fm : Frm (fun k => k = sb) w w1

def CntP (w : World) (sb : Nat) (A : St) (c : Nat) (e : Ending) (W' : World) : Prop := e = .returned (.int .i64 (c : Int)) ∧ ∃ S', CS w sb A W' S'

theorem CS.trans {w w1 w2 : World} {sb : Nat} {A : St} {S1 S2 : Nat → Option Value} (h : CS w sb A w1 S1) (h2 : CS w1 sb A w2 S2) : CS w sb A w2 S2 := ⟨h2.sm, h2.sk, h.fm.trans h2.fm (fun _ _ h => h)⟩
theorem CS.below {w w1 w2 : World} {sb : Nat} {A : St} {S1 : Nat → Option Value} (h : CS w sb A w1 S1) (hb : RowKit.Below w1.heap.size w1 w2) : CS w sb A w2 S1 :=
  ⟨h.sm.same (hb.block _ h.sm.lt), h.sk, h.fm.trans (Frm.of_below hb) (fun _ _ h => h)⟩
theorem CS.base {w w0 w1 : World} {sb : Nat} {A : St} {S1 : Nat → Option Value} (hb : RowKit.Below w.heap.size w w0) (h : CS w0 sb A w1 S1) : CS w sb A w1 S1 := ⟨h.sm, h.sk, (Frm.of_below hb).trans h.fm (fun _ _ h => h)⟩
theorem CS.arena {w w1 : World} {B g nb kb ib sb cap : Nat} {A : St} {K T : Tri → Option Value} {S1 : Nat → Option Value} (h : CS w sb A w1 S1) (ha : ArenaAt w B g nb kb ib cap A K T) (hsb : ¬ Fp g nb kb ib sb) : ArenaAt w1 B g nb kb ib cap A K T :=
  ha.frm h.fm (fun k hk hF => by subst hk; exact hsb hF)
theorem CS.store {w u w7 : World} {sb f : Nat} {A : St} {S1 : Nat → Option Value} (h : CS w sb A u S1) (hf2 : 2 ≤ f) (hf : f < A.ns.length) (hk7 : MapIs Try.prog 3 numVal numDom w7 sb (putM S1 f (.int .i64 ((cntF A.vars (A.vars - var A.ns f) (den A.ns f) : Nat) : Int)))) (hg : u.grownBy w7 (some sb)) :
    CS w sb A w7 (putM S1 f (.int .i64 ((cntF A.vars (A.vars - var A.ns f) (den A.ns f) : Nat) : Int))) := by
  refine ⟨hk7, fun f' x hx => ?_, h.fm.trans (Frm.of_grown (S := fun k => k = sb) hg (fun k hk _ => by cases hk; rfl)) (fun _ _ h => h)⟩
  by_cases e : f' = f
  · subst e
    rw [putM_same] at hx
    cases hx
    exact ⟨hf2, hf, rfl⟩
  · rw [putM_other _ _ e] at hx
    exact h.sk f' x hx

theorem shl_nat (c d : Nat) (h : c * 2 ^ d ≤ 65536) : wrap64 ((c : Int) * 2 ^ d) = ((c * 2 ^ d : Nat) : Int) := by
  have e : (c : Int) * 2 ^ d = ((c * 2 ^ d : Nat) : Int) := by simp
  rw [e]
  generalize c * 2 ^ d = x at *
  unfold wrap64; omega
end Go.Proofs.Ytoanimmlpfchjaa
