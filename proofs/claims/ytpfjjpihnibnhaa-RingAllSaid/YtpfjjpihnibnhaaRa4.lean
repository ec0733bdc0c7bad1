/- A part of the proof: G7, OpsQ, FibBuild. -/
import Derived.Test.YtpfjjpihnibnhaaRa3
import Derived.WalkLawsBesides
import Derived.Deep.RegionHeld3
import Derived.IntWalk
import Derived.RegionTactic
import Derived.Outline

set_option linter.unusedVariables false
set_option linter.unusedSimpArgs false
namespace Go.Proofs.Ytpfjjpihnibnhaa
open Go.RowKit Go.Maps Bdd

def asgV (vars c : Nat) : Asg := fun u => c.testBit (vars - 1 - u)

end Go.Proofs.Ytpfjjpihnibnhaa

set_option linter.unusedVariables false
set_option linter.unusedSimpArgs false
namespace Go.Proofs.Ytpfjjpihnibnhaa
open Go.RowKit Go.Maps Bdd

def numVal (a : Nat) : Value := .int .i64 (a : Int)
def numDom (a : Nat) : Prop := a < 65536
theorem num_few : ∃ L : List Nat, L.length < 9223372036854775807 ∧ ∀ a, numDom a → a ∈ L := ⟨List.range 65536, by simp, fun a ha => List.mem_range.2 ha⟩
theorem numKeys : KeysOk Try.prog 3 numVal numDom :=
  ⟨int_keyed Try.underlying3, fun a ha => ⟨_, keyOf_int_mk Try.underlying3 (i64_wf a ha)⟩, fun a b h => by simp [numVal] at h; omega, num_few⟩

end Go.Proofs.Ytpfjjpihnibnhaa

set_option linter.unusedVariables false
set_option linter.unusedSimpArgs false
namespace Go.Proofs.Ytpfjjpihnibnhaa
open Go.RowKit Go.Maps Bdd

theorem zeroI2 (w : World) : (zeroValue 3).run Try.prog w = .ok (.int .i64 0) w := by kernel_rfl

end Go.Proofs.Ytpfjjpihnibnhaa

set_option linter.unusedVariables false
set_option linter.unusedSimpArgs false
namespace Go.Proofs.Ytpfjjpihnibnhaa
open Go.RowKit Go.Maps Bdd

def WF (A : St) (r : Nat) (F : Bdd.Fn) : Prop := r < A.ns.length ∧ (A.full = false → den A.ns r = F)
structure MS (w : World) (B g nb kb ib : Nat) (A : St) (c : Nat) (w1 : World) (nb1 cap1 : Nat) (A1 : St) (K1 T1 : Tri → Option Value) : Prop where
  ext : Ext A A1
  cnt : A1.len ≤ A.len + c
  ar : ArenaAt w1 B g nb1 kb ib cap1 A1 K1 T1
  nbc : nb1 = nb ∨ w.heap.size ≤ nb1
  fm : Frm (Fp g nb kb ib) w w1

section
variable {w : World} {B g nb kb ib : Nat} {A : St} {c : Nat} {w1 w2 : World} {nb1 cap1 : Nat} {A1 : St} {K1 T1 : Tri → Option Value}

end

section
variable {w : World} {B g nb kb ib : Nat} {A : St} {c : Nat} {w1 w2 : World} {nb1 cap1 : Nat} {A1 : St} {K1 T1 : Tri → Option Value}

end

def OpQ (w : World) (B g nb kb ib : Nat) (A : St) (F : Bdd.Fn) (c : Nat) (e : Ending) (W' : World) : Prop :=
  ∃ (r nb2 cap2 : Nat) (A2 : St) (K2 T2 : Tri → Option Value), MS w B g nb kb ib A c W' nb2 cap2 (doneSt A2) K2 T2 ∧ Inv A2 ∧ WF A2 r F ∧ (A2.full = true → e = .returned (.tuple #[.int .i64 0, .int .i64 6])) ∧ (A2.full = false → e = .returned (.tuple #[.int .i64 (r : Int), .int .i64 0]))

theorem doneSt_id {A : St} (h : A.full = false) : doneSt A = A := by cases A; simp_all [doneSt]

theorem OpP.opQ {w : World} {B g nb kb ib : Nat} {A : St} {F : Bdd.Fn} {k : Nat} {e : Ending} {W' : World} (h : OpP w B g nb kb ib A F k e W') (hi : Inv A) (hA : A.full = false) (hF : Bdd.Below A.vars F) : OpQ w B g nb kb ib A F (2 ^ A.vars) e W' := by
  obtain ⟨r, nb2, cap2, A2, K2, T2, hr, h1, h2, ha, hn, hf⟩ := h
  have hg := hr.grows hi hF
  exact ⟨r, nb2, cap2, A2, K2, T2, ⟨⟨hr.ext.vars, hr.ext.most, hr.ext.ns, fun h => (by rw [hA] at h; cases h), ha.inv⟩, (by show A2.len ≤ _; omega), ha, hn, hf⟩, hr.ext.inv, ⟨hr.lt, hr.eq⟩, h1, h2⟩

theorem OpQ.cases {w : World} {B g nb kb ib : Nat} {A : St} {F : Bdd.Fn} {c : Nat} {e : Ending} {W' : World} (h : OpQ w B g nb kb ib A F c e W') :
    ∃ (nb2 cap2 : Nat) (A2 : St) (K2 T2 : Tri → Option Value), MS w B g nb kb ib A c W' nb2 cap2 A2 K2 T2 ∧ A2.full = false ∧ ((∃ r : Nat, e = .returned (.tuple #[.int .i64 (r : Int), .int .i64 0]) ∧ IsF A2 r F) ∨ (e = .returned (.tuple #[.int .i64 0, .int .i64 6]) ∧ A2.len = A2.most)) := by
  obtain ⟨r, nb2, cap2, A2, K2, T2, hm, hi, hw, h1, h2⟩ := h
  cases hf : A2.full
  · rw [doneSt_id hf] at hm
    exact ⟨nb2, cap2, A2, K2, T2, hm, hf, .inl ⟨r, h2 hf, hw.1, hw.2 hf⟩⟩
  · exact ⟨nb2, cap2, doneSt A2, K2, T2, hm, rfl, .inr ⟨h1 hf, hi.full hf⟩⟩
end Go.Proofs.Ytpfjjpihnibnhaa

set_option linter.unusedVariables false
set_option linter.unusedSimpArgs false
namespace Go.Proofs.Ytpfjjpihnibnhaa
open Go.RowKit Go.Maps Bdd

end Go.Proofs.Ytpfjjpihnibnhaa

set_option linter.unusedVariables false
set_option linter.unusedSimpArgs false
namespace Go.Proofs.Ytpfjjpihnibnhaa
open Go.RowKit Go.Maps Bdd

def cntF (vars m : Nat) (F : Bdd.Fn) : Nat := (List.range (2 ^ m)).countP (fun r => F (asgV vars r))

theorem cntF_le (vars m : Nat) (F : Bdd.Fn) : cntF vars m F ≤ 2 ^ m := by
  have := List.countP_le_length (p := fun r => F (asgV vars r)) (l := List.range (2 ^ m))
  simpa [cntF] using this
theorem cntF_false (vars m : Nat) : cntF vars m (fun _ => false) = 0 := by simp [cntF]
theorem cntF_true (vars m : Nat) : cntF vars m (fun _ => true) = 2 ^ m := by simp [cntF]

theorem cntF_succ (vars m : Nat) (F : Bdd.Fn) : cntF vars (m + 1) F = cntF vars m F + (List.range (2 ^ m)).countP (fun r => F (asgV vars (2 ^ m + r))) := by
  have : 2 ^ (m + 1) = 2 ^ m + 2 ^ m := by rw [Nat.pow_succ]; omega
  rw [cntF, this, List.range_add, List.countP_append, List.countP_map]
  rfl

theorem asgV_hi {vars m r u : Nat} (hm : m + 1 ≤ vars) (hr : r < 2 ^ m) (hu : vars - m ≤ u) (hu2 : u < vars) : asgV vars (2 ^ m + r) u = asgV vars r u := by
  unfold asgV
  rw [Nat.testBit_two_pow_add_gt (by omega)]

theorem cnt_congr {l : List Nat} {p q : Nat → Bool} (h : ∀ r ∈ l, p r = q r) : l.countP p = l.countP q := List.countP_congr (fun r hr => by rw [h r hr])

theorem cntF_widen {vars m : Nat} {F : Bdd.Fn} (hm : m + 1 ≤ vars) (hB : Bdd.Below vars F) (hF : ∀ x y : Asg, (∀ u, vars - m ≤ u → x u = y u) → F x = F y) : cntF vars (m + 1) F = 2 * cntF vars m F := by
  rw [cntF_succ, Nat.two_mul]
  congr 1
  refine cnt_congr (fun r hr => ?_)
  have hr := List.mem_range.1 hr
  have e1 := hB (asgV vars (2 ^ m + r)) (fun u => if u < vars then asgV vars (2 ^ m + r) u else asgV vars r u) (fun u hu => by simp [hu])
  rw [e1]
  refine hF _ _ (fun u hu => ?_)
  by_cases h : u < vars
  · simp only [h, if_true]; exact asgV_hi hm hr hu h
  · simp [h]

theorem cntF_widen' {vars k : Nat} {F : Bdd.Fn} (hB : Bdd.Below vars F) (hF : ∀ x y : Asg, (∀ u, k ≤ u → x u = y u) → F x = F y) (hk : k ≤ vars) : ∀ d, d ≤ k → cntF vars (vars - k + d) F = cntF vars (vars - k) F * 2 ^ d := by
  intro d
  induction d with
  | zero => intro _; simp
  | succ d ih =>
    intro hd
    rw [← Nat.add_assoc, cntF_widen (by omega) hB (fun x y h => hF x y (fun u hu => h u (by omega))), ih (by omega), Nat.pow_succ, Nat.mul_left_comm, Nat.mul_comm 2]

theorem cntF_node {vars : Nat} {ns : List Bdd.Node} (ok : Ok vars ns) {f : Nat} {n : Bdd.Node} (hf : f < ns.length) (hn : ns[f]? = some n) (h2 : 2 ≤ f) :
    cntF vars (vars - n.v) (den ns f) = cntF vars (vars - (n.v + 1)) (den ns n.lo) + cntF vars (vars - (n.v + 1)) (den ns n.hi) := by
  obtain ⟨hv, hl, hh, hne, g1, g2⟩ := ok.node f n hn h2
  obtain ⟨m, hm⟩ : ∃ m, vars - n.v = m + 1 := ⟨vars - n.v - 1, by omega⟩
  have hm' : vars - (n.v + 1) = m := by omega
  rw [hm, hm', cntF_succ]
  have hlt : n.lo < ns.length := by omega
  have hht : n.hi < ns.length := by omega
  congr 1
  · refine cnt_congr (fun r hr => ?_)
    have hr := List.mem_range.1 hr
    rw [den_node ok hn h2]
    have : asgV vars r n.v = false := by
      show r.testBit (vars - 1 - n.v) = false
      rw [show vars - 1 - n.v = m by omega]
      exact Nat.testBit_lt_two_pow hr
    rw [this]; rfl
  · refine cnt_congr (fun r hr => ?_)
    have hr := List.mem_range.1 hr
    rw [den_node ok hn h2]
    have : asgV vars (2 ^ m + r) n.v = true := by
      show (2 ^ m + r).testBit (vars - 1 - n.v) = true
      rw [show vars - 1 - n.v = m by omega, Nat.testBit_two_pow_add_eq, Nat.testBit_lt_two_pow hr]; rfl
    rw [this]
    show den ns n.hi (asgV vars (2 ^ m + r)) = den ns n.hi (asgV vars r)
    have hB := den_below ok _ hht
    have e1 := hB (asgV vars (2 ^ m + r)) (fun u => if u < vars then asgV vars (2 ^ m + r) u else asgV vars r u) (fun u hu => by simp [hu])
    rw [e1]
    refine indep ok n.hi hht _ _ (fun u hu => ?_)
    by_cases h : u < vars
    · simp only [h, if_true]; exact asgV_hi (by omega) hr (by omega) h
    · simp [h]

def SeenC (A : St) (S : Nat → Option Value) : Prop := ∀ f x, S f = some x → 2 ≤ f ∧ f < A.ns.length ∧ x = .int .i64 ((cntF A.vars (A.vars - var A.ns f) (den A.ns f) : Nat) : Int)

structure CS (w : World) (sb : Nat) (A : St) (w1 : World) (S1 : Nat → Option Value) : Prop where
  sm : MapIs Try.prog 3 numVal numDom w1 sb S1
  sk : SeenC A S1
  fm : Frm (fun k => k = sb) w w1

def CntP (w : World) (sb : Nat) (A : St) (c : Nat) (e : Ending) (W' : World) : Prop := e = .returned (.int .i64 (c : Int)) ∧ ∃ S', CS w sb A W' S'

theorem CS.trans {w w1 w2 : World} {sb : Nat} {A : St} {S1 S2 : Nat → Option Value} (h : CS w sb A w1 S1) (h2 : CS w1 sb A w2 S2) : CS w sb A w2 S2 := ⟨h2.sm, h2.sk, h.fm.trans h2.fm (fun _ _ h => h)⟩
theorem CS.below {w w1 w2 : World} {sb : Nat} {A : St} {S1 : Nat → Option Value} (h : CS w sb A w1 S1) (hb : RowKit.Below w1.heap.size w1 w2) : CS w sb A w2 S1 :=
  ⟨h.sm.same (hb.block _ h.sm.lt), h.sk, h.fm.trans (Frm.of_below hb) (fun _ _ h => h)⟩
theorem CS.base {w w0 w1 : World} {sb : Nat} {A : St} {S1 : Nat → Option Value} (hb : RowKit.Below w.heap.size w w0) (h : CS w0 sb A w1 S1) : CS w sb A w1 S1 := ⟨h.sm, h.sk, (Frm.of_below hb).trans h.fm (fun _ _ h => h)⟩
theorem CS.arena {w w1 : World} {B g nb kb ib sb cap : Nat} {A : St} {K T : Tri → Option Value} {S1 : Nat → Option Value} (h : CS w sb A w1 S1) (ha : ArenaAt w B g nb kb ib cap A K T) (hsb : ¬ Fp g nb kb ib sb) : ArenaAt w1 B g nb kb ib cap A K T :=
  ha.frm h.fm (fun k hk hF => by subst hk; exact hsb hF)
theorem CS.store {w u w7 : World} {sb f : Nat} {A : St} {S1 : Nat → Option Value} (h : CS w sb A u S1) (hf2 : 2 ≤ f) (hf : f < A.ns.length) (hk7 : MapIs Try.prog 3 numVal numDom w7 sb (putM S1 f (.int .i64 ((cntF A.vars (A.vars - var A.ns f) (den A.ns f) : Nat) : Int)))) (hg : u.grownBy w7 (some sb)) :
    CS w sb A w7 (putM S1 f (.int .i64 ((cntF A.vars (A.vars - var A.ns f) (den A.ns f) : Nat) : Int))) := by
  refine ⟨hk7, fun f' x hx => ?_, h.fm.trans (Frm.of_grown (S := fun k => k = sb) hg (fun k hk _ => by cases hk; rfl)) (fun _ _ h => h)⟩
  by_cases e : f' = f
  · subst e
    rw [putM_same] at hx
    cases hx
    exact ⟨hf2, hf, rfl⟩
  · rw [putM_other _ _ e] at hx
    exact h.sk f' x hx

theorem shl_nat (c d : Nat) (h : c * 2 ^ d ≤ 65536) : wrap64 ((c : Int) * 2 ^ d) = ((c * 2 ^ d : Nat) : Int) := by
  have e : (c : Int) * 2 ^ d = ((c * 2 ^ d : Nat) : Int) := by simp
  rw [e]
  generalize c * 2 ^ d = x at *
  unfold wrap64; omega
end Go.Proofs.Ytpfjjpihnibnhaa

set_option linter.unusedVariables false
set_option linter.unusedSimpArgs false
namespace Go.Proofs.Ytpfjjpihnibnhaa
open Go.RowKit Go.Maps Bdd

theorem pow_le16 {m : Nat} (h : m ≤ 16) : 2 ^ m ≤ 65536 := (Nat.pow_le_pow_right (by omega) h : 2 ^ m ≤ 2 ^ 16)

set_option maxRecDepth 100000 in
set_option maxHeartbeats 8000000 in
theorem count_walk (m : Nat) : ∀ (w : World) (B g nb kb ib sb cap : Nat) (A : St) (K T : Tri → Option Value) (S : Nat → Option Value) (h : ArenaAt w B g nb kb ib cap A K T) (hs : MapIs Try.prog 3 numVal numDom w sb S) (hk : SeenC A S) (hsb : ¬ Fp g nb kb ib sb) (f v : Nat) (hf : f < A.ns.length) (hv : v ≤ var A.ns f) (hm : f < m),
    Calls Try.prog 58 #[.pointer (some ⟨g, 0, none⟩), .int .i64 f, .int .i64 v, .map (some sb)] w (CntP w sb A (cntF A.vars (A.vars - v) (den A.ns f))) := by
  induction m with
  | zero => intro w B g nb kb ib sb cap A K T S h hs hk hsb f v hf hv hm; omega
  | succ m ih =>
    intro w B g nb kb ib sb cap A K T S h hs hk hsb f v hf hv hm
    have IH := hide ih
    clear ih
    have ok := h.inv.ok
    have hlen := h.lenle
    have hvs := h.vs
    obtain ⟨l1, l2, l3, l4, l5⟩ := h.lts
    have ls := hs.lt
    obtain ⟨n, hn⟩ := get_of_lt hf
    have hvf : var A.ns f = n.v := var_some hn
    have hvle := var_le ok hf
    have c2 := h.c2
    have c0 := h.c0
    obtain ⟨d0, d1, d2⟩ := h.node hn
    have hb0 : RowKit.Below w.heap.size w (w.alloc (.cells #[.int .i64 n.v, .int .i64 n.lo, .int .i64 n.hi] 127)) := (RowKit.Below.refl _ _).alloc (Nat.le_refl _) _
    have HW1 := hide (CS.below (CS.mk hs hk (Frm.refl _ _)) hb0)
    have HB0 := hide hb0
    by_cases e0 : f = 0
    · subst e0
      have HF := hide (show CntP w sb A (cntF A.vars (A.vars - v) (den A.ns 0)) (.returned (.int .i64 0)) (w.alloc (.cells #[.int .i64 n.v, .int .i64 n.lo, .int .i64 n.hi] 127)) from
        ⟨by rw [den_zero, cntF_false]; rfl, S, HW1.out⟩)
      clear h hs hk hsb ok hvf
      go_enter Try.func58, Try.ntmps58
      go_wp2
      go_ret
      exact HF.out
    have e0' : ((f : Int) == 0) = false := by simp; omega
    by_cases e1 : f = 1
    · subst e1
      have c0' : ∀ ob, (w.alloc ob).cell? ⟨g, 0, none⟩ = some (.int .i64 A.vars) := fun ob => (World.cell?_alloc_lt _ _ _ (by show g < _; omega)).trans c0
      have hvv : v ≤ A.vars := by rw [var_one ok] at hv; exact hv
      have htn : ((A.vars : Int) - (v : Int)).toNat = A.vars - v := by omega
      have HF := hide (show CntP w sb A (cntF A.vars (A.vars - v) (den A.ns 1)) (.returned (.int .i64 (wrap64 (2 ^ (A.vars - v))))) (w.alloc (.cells #[.int .i64 n.v, .int .i64 n.lo, .int .i64 n.hi] 127)) from
        ⟨by rw [den_one, cntF_true, wrap_pow _ (by omega)]; simp, S, HW1.out⟩)
      clear h hs hk hsb ok hvf
      go_enter Try.func58, Try.ntmps58
      go_wp2
      go_ret
      exact HF.out
    have e1' : ((f : Int) == 1) = false := by simp; omega
    have hf2 : 2 ≤ f := by omega
    obtain ⟨hnv, hl, hh, hne, g1, g2⟩ := ok.node f n hn hf2
    have HC := hide (cntF_node ok hf hn hf2)
    have hcle := cntF_le A.vars (A.vars - n.v) (den A.ns f)
    have hpw := pow_le16 (m := A.vars - n.v) (by omega)
    have hpw2 := pow_le16 (m := A.vars - v) (by omega)
    have hcv := cntF_le A.vars (A.vars - v) (den A.ns f)
    have HWD := hide (show cntF A.vars (A.vars - v) (den A.ns f) = cntF A.vars (A.vars - n.v) (den A.ns f) * 2 ^ (n.v - v) from by
      have := cntF_widen' (vars := A.vars) (k := n.v) (F := den A.ns f) (den_below ok f hf) (fun x y hxy => indep ok f hf x y (fun u hu => hxy u (by omega))) (by omega) (n.v - v) (by omega)
      rw [show A.vars - n.v + (n.v - v) = A.vars - v by omega] at this
      exact this)
    have HSH := hide (shl_nat (cntF A.vars (A.vars - n.v) (den A.ns f)) (n.v - v) (by rw [← HWD.out]; omega))
    have htn : ((n.v : Int) - (v : Int)).toNat = n.v - v := by omega
    have hnvv : v ≤ n.v := by omega
    have hdom : numDom f := by show f < _; omega
    have him := fun (ob : Obj) => ((hs.same (w' := w.alloc ob) (RowKit.Below.heap_alloc _ _ _ ls)).look numKeys Try.underlying139 (zeroI2 _) hdom).1
    cases ek : S f with
    | some x =>
      obtain ⟨_, _, rfl⟩ := hk f x ek
      rw [hvf] at ek
      have hlk : ∀ ob, (Instr.lookup 139 (.map (some sb)) (.int .i64 f) true).run Try.prog (w.alloc ob) = .ok (.tuple #[.int .i64 (cntF A.vars (A.vars - n.v) (den A.ns f) : Nat), .bool true]) (w.alloc ob) := fun ob => by
        have := him ob
        rw [ek] at this
        exact this
      have HF := hide (show CntP w sb A (cntF A.vars (A.vars - v) (den A.ns f)) (.returned (.int .i64 (wrap64 ((cntF A.vars (A.vars - n.v) (den A.ns f) : Nat) * 2 ^ (n.v - v))))) (w.alloc (.cells #[.int .i64 n.v, .int .i64 n.lo, .int .i64 n.hi] 127)) from
        ⟨by rw [HSH.out, HWD.out], S, HW1.out⟩)
      clear h hs hk hsb ok hvf him ek
      generalize cntF A.vars (A.vars - n.v) (den A.ns f) = cc at *
      go_enter Try.func58, Try.ntmps58
      go_wp2
      go_ret
      exact HF.out
    | none =>
      have hlk : ∀ ob, (Instr.lookup 139 (.map (some sb)) (.int .i64 f) true).run Try.prog (w.alloc ob) = .ok (.tuple #[.int .i64 0, .bool false]) (w.alloc ob) := fun ob => by
        have := him ob
        rw [ek] at this
        exact this
      obtain ⟨nv, nlo, nhi⟩ := n
      simp only at *
      generalize ha : cntF A.vars (A.vars - (nv + 1)) (den A.ns nlo) = ca at *
      generalize hb : cntF A.vars (A.vars - (nv + 1)) (den A.ns nhi) = cb at *
      have hab : ca + cb ≤ 65536 := by rw [← HC.out]; omega
      have hbx := heap_alloc_new w (.cells #[.int .i64 nv, .int .i64 nlo, .int .i64 nhi] 127)
      have hszN : w.heap.size < (w.alloc (.cells #[.int .i64 nv, .int .i64 nlo, .int .i64 nhi] 127)).heap.size := by simp
      have HBX := hide (And.intro hbx (And.intro (show w.heap.size ≠ sb by omega) hszN))
      have HAR := hide (h.below hb0)
      have HFM := hide (And.intro hf (And.intro hf2 (And.intro hm (And.intro hdom hsb))))
      have HCAB := hide (And.intro ha hb)
      have HVF := hide hvf
      have HNV := hide (And.intro g1 g2)
      have hl' : nlo < f := hl
      have hh' : nhi < f := hh
      clear h hs hk hsb ok hvf him ek hbx hm hdom hn ha hb hb0 hcle hpw hpw2 hcv g1 g2 hl hh
      go_enter Try.func58, Try.ntmps58
      go_wp2
      clear c2 c0 d0 d1 d2 hlk e0 e1 e0' e1'
      generalize hw0 : w.alloc _ = w0 at *
      obtain ⟨N, hN⟩ : ∃ N, w.heap.size = N := ⟨_, rfl⟩
      rw [hN] at HBX hszN ⊢
      clear hN hw0
      have x0 : w0.cell? ⟨N, 0, none⟩ = some (.int .i64 nv) := by rw [cell_of_row _ _ _ _ _ _ HBX.out.1]; rfl
      have x1 : w0.cell? ⟨N, 1, none⟩ = some (.int .i64 nlo) := by rw [cell_of_row _ _ _ _ _ _ HBX.out.1]; rfl
      have x2 : w0.cell? ⟨N, 2, none⟩ = some (.int .i64 nhi) := by rw [cell_of_row _ _ _ _ _ _ HBX.out.1]; rfl
      have HWA : Hid (CS w0 sb A w0 S) := hide ⟨HW1.out.sm, HW1.out.sk, Frm.refl _ _⟩
      have hc1 : ((nv + 1 : Nat) : Int) = (nv : Int) + 1 := by omega
      have HIN := hide (fun (x : Nat) (c : Nat) (hx : x < f) (hxv : nv + 1 ≤ var A.ns x) (hcc : cntF A.vars (A.vars - (nv + 1)) (den A.ns x) = c) (wa : World) (S1 : Nat → Option Value) (hcs : CS w0 sb A wa S1) =>
        show Calls Try.prog 58 #[.pointer (some ⟨g, 0, none⟩), .int .i64 x, .int .i64 ((nv : Int) + 1), .map (some sb)] wa (fun e w2 => e = .returned (.int .i64 (c : Int)) ∧ ∃ S', CS w0 sb A w2 S') from
        hcc ▸ hc1 ▸ (IH.out wa B g nb kb ib sb cap A K T S1 (hcs.arena HAR.out HFM.out.2.2.2.2) hcs.sm hcs.sk HFM.out.2.2.2.2 x (nv + 1) (by have := HFM.out.1; omega) hxv (by have := HFM.out.2.2.1; omega)).mono (fun e w2 ⟨he, S', hS⟩ => ⟨he, S', hcs.trans hS⟩))
      have HKEEP := hide (fun (w1 : World) S1 (hws : CS w0 sb A w1 S1) => show w1.cell? ⟨N, 0, none⟩ = some (.int .i64 nv) ∧ w1.cell? ⟨N, 1, none⟩ = some (.int .i64 nlo) ∧ w1.cell? ⟨N, 2, none⟩ = some (.int .i64 nhi) from by
        have e := (hws.fm.block N HBX.out.2.2 HBX.out.2.1).trans HBX.out.1
        exact ⟨by rw [cell_of_row _ _ _ _ _ _ e]; rfl, by rw [cell_of_row _ _ _ _ _ _ e]; rfl, by rw [cell_of_row _ _ _ _ _ _ e]; rfl⟩)
      have HLO := hide (HIN.out nlo ca hl' HNV.out.1 HCAB.out.1)
      have HHI := hide (HIN.out nhi cb hh' HNV.out.2 HCAB.out.2)
      clear hc1
      have s1 : IntKind.i64.wrap ((nv : Int) + 1) = (nv : Int) + 1 := IntWalk.i64_in _ (by omega)
      have s2 : IntKind.i64.wrap ((ca : Int) + (cb : Int)) = (ca : Int) + (cb : Int) := IntWalk.i64_in _ (by omega)
      go_region_held3 (fun w' => w'.cell? ⟨N, 0, none⟩ = some (.int .i64 nv) ∧ w'.cell? ⟨N, 1, none⟩ = some (.int .i64 nlo) ∧ w'.cell? ⟨N, 2, none⟩ = some (.int .i64 nhi)) (go_keep)
        (first
          | (go_at_call_of 58 (Value.int IntKind.i64 (nlo : Int)); refine (HLO.out _ S (by exact HWA.out.below ⟨rfl, rfl, rfl, Nat.le_refl _, fun _ _ => rfl⟩)).mono ?_; rintro e wa ⟨rfl, S1, hcs1⟩; have HS1 := hide hcs1; clear hcs1 x0 x1 x2; obtain ⟨x0, x1, x2⟩ := HKEEP.out _ _ HS1.out)
          | (go_at_call_of 58 (Value.int IntKind.i64 (nhi : Int)); refine (HHI.out _ S1 (by exact HS1.out.below ⟨rfl, rfl, rfl, Nat.le_refl _, fun _ _ => rfl⟩)).mono ?_; rintro e wb ⟨rfl, S2, hcs2⟩; have HS2 := hide hcs2; clear hcs2 x0 x1 x2; obtain ⟨x0, x1, x2⟩ := HKEEP.out _ _ HS2.out))
      all_goals
        clear x0 x1 x2 s1 s2
        have HVV := hide (show Value.int .i64 ((cntF A.vars (A.vars - var A.ns f) (den A.ns f) : Nat) : Int) = .int .i64 ((ca : Int) + (cb : Int)) from by rw [HVF.out, HC.out]; simp)
        go_wp2_with (at_mapUpdate; refine wpList_storeM _ rfl (.tmp 55) (.tmp 56) (.tmp 57) 139 rfl 3 numKeys Try.underlying139 rfl (HS2.out.sm.same (w' := _) rfl) f HFM.out.2.2.2.1 rfl (.int .i64 ((ca : Int) + (cb : Int))) rfl ?_; intro w7 hk7 hg7; have HS7 := hide (HS2.out.store HFM.out.2.1 HFM.out.1 (HVV.out.symm ▸ hk7) ⟨hg7.os, hg7.tape, hg7.output, hg7.size, hg7.block⟩); clear hk7 hg7; obtain ⟨x0, x1, x2⟩ := HKEEP.out _ _ HS7.out)
        have HE := hide (show CntP w sb A (cntF A.vars (A.vars - v) (den A.ns f)) (.returned (.int .i64 (wrap64 (((ca : Int) + (cb : Int)) * 2 ^ (nv - v))))) w7 from
          ⟨by rw [HWD.out, ← HSH.out, HC.out]; simp, _, HS7.out.base HB0.out⟩)
        go_ret
        exact HE.out

set_option maxRecDepth 100000 in
set_option maxHeartbeats 4000000 in
theorem opCount_walk {w : World} {B g nb kb ib cap : Nat} {A : St} {K T : Tri → Option Value} (h : ArenaAt w B g nb kb ib cap A K T) (f : Nat) (hf : f < A.ns.length) :
    Calls Try.prog 28 #[.pointer (some ⟨g, 0, none⟩), .int .i64 f] w fun e W' => e = .returned (.tuple #[.int .i64 (cntF A.vars A.vars (den A.ns f) : Nat), .int .i64 0]) ∧ RowKit.Below w.heap.size w W' := by
  have hlen := h.lenle
  obtain ⟨l1, l2, l3, l4, l5⟩ := h.lts
  have hb0 : RowKit.Below w.heap.size w (w.alloc (.cells #[.int .i64 f] 3)) := (RowKit.Below.refl _ _).alloc (Nat.le_refl _) _
  have HA0 := hide (h.below hb0)
  have HI := hide (ints1 w (w.alloc (.cells #[.int .i64 f] 3)).heap.size (by simp) f (by omega) 3 (heap_alloc_new w _))
  have HOK := hide (show AskOk A [(f : Int)] [] from ⟨fun x hx => by
    simp only [List.mem_cons, List.mem_nil_iff, or_false] at hx
    rw [hx]; omega, fun x hx => (by cases hx)⟩)
  have HB0 := hide hb0
  have HC := hide (fun (w1 : World) (hb : RowKit.Below w.heap.size w w1) => by
    have hs := hb.size
    have hb1 : RowKit.Below w1.heap.size w1 (w1.alloc (.map #[] 0)) := (RowKit.Below.refl _ _).alloc (Nat.le_refl _) _
    have hsb : ¬ Fp g nb kb ib w1.heap.size := fun hS => by rcases hS with e | e | e | e <;> omega
    exact (count_walk (f + 1) (w1.alloc (.map #[] 0)) B g nb kb ib w1.heap.size cap A K T (fun _ => none) ((h.below hb).below hb1) (MapIs.made w1) (fun f x hx => by cases hx) hsb f 0 hf (Nat.zero_le _) (Nat.lt_succ_self _)))
  have hmm := @run_makeMap Try.prog
  clear h hf hb0
  go_enter Try.func28, Try.ntmps28
  go_wp2_with fail
  refine (ask_walk HA0.out [(f : Int)] [] _ none 1 0 1 0 (by omega) (by omega) HI.out (IntsAt.nil _ _ _)).mono ?_
  rintro e wa ⟨he, _, hb⟩
  obtain rfl := he HOK.out
  have HB := hide (HB0.out.trans (hb.mono HB0.out.size))
  have hsa := HB.out.size
  clear he hb HI HA0
  go_wp2_with fail
  refine (HC.out _ HB.out).mono ?_
  rintro e wb ⟨rfl, S', hS⟩
  have HF := hide (HB.out.trans (((RowKit.Below.refl _ wa).alloc (Nat.le_refl _) (.map #[] 0)).trans (hS.fm.below (B := wa.heap.size) (by simp) (fun i hi => by omega)) |>.mono hsa))
  clear hS
  go_wp2
  go_ret2
  exact ⟨rfl, HF.out⟩

end Go.Proofs.Ytpfjjpihnibnhaa

set_option linter.unusedVariables false
set_option linter.unusedSimpArgs false
namespace Go.Proofs.Ytpfjjpihnibnhaa
open Go.RowKit Go.Maps Bdd

def andF (F G : Bdd.Fn) : Bdd.Fn := iteF F G (fun _ => false)
def orF (F G : Bdd.Fn) : Bdd.Fn := iteF F (fun _ => true) G

theorem opIte_q {w : World} {B g nb kb ib cap : Nat} {A : St} {K T : Tri → Option Value} (h : ArenaAt w B g nb kb ib cap A K T) (hA : A.full = false) {f a b : Nat} {F G H : Bdd.Fn} (hf : IsF A f F) (ha : IsF A a G) (hb : IsF A b H) :
    Calls Try.prog 44 #[.pointer (some ⟨g, 0, none⟩), .int .i64 f, .int .i64 a, .int .i64 b] w (OpQ w B g nb kb ib A (iteF F G H) (2 ^ A.vars)) := by
  refine (opIte_walk h f a b hf.1 ha.1 hb.1).mono fun e w' ho => ?_
  have ok := h.inv.ok
  have hB := iteF_below (den_below ok _ hf.1) (den_below ok _ ha.1) (den_below ok _ hb.1)
  rw [hf.2, ha.2, hb.2] at ho hB
  exact ho.opQ h.inv hA hB
set_option maxRecDepth 100000 in
set_option maxHeartbeats 4000000 in
theorem opAnd_q {w : World} {B g nb kb ib cap : Nat} {A : St} {K T : Tri → Option Value} (h : ArenaAt w B g nb kb ib cap A K T) (hA : A.full = false) {f a : Nat} {F G : Bdd.Fn} (hf : IsF A f F) (ha : IsF A a G) :
    Calls Try.prog 55 #[.pointer (some ⟨g, 0, none⟩), .int .i64 f, .int .i64 a] w (OpQ w B g nb kb ib A (andF F G) (2 ^ A.vars)) := by
  have HC : Hid (Calls Try.prog 44 #[.pointer (some ⟨g, 0, none⟩), .int .i64 f, .int .i64 a, .int .i64 0] w (OpQ w B g nb kb ib A (andF F G) (2 ^ A.vars))) := hide (opIte_q h hA hf ha (IsF.zero h.inv))
  clear h hf hA
  go_enter Try.func55, Try.ntmps55
  go_wp2_with fail
  refine HC.out.mono ?_
  rintro e wc hop
  have HF := hide hop
  obtain ⟨r, nb2, cap2, A2, K2, T2, _, _, _, h1, h2⟩ := hop
  cases hfull : A2.full
  · obtain rfl := h2 hfull
    go_wp2
    go_ret2
    exact HF.out
  · obtain rfl := h1 hfull
    go_wp2
    go_ret2
    exact HF.out
set_option maxRecDepth 100000 in
set_option maxHeartbeats 4000000 in
theorem opOr_q {w : World} {B g nb kb ib cap : Nat} {A : St} {K T : Tri → Option Value} (h : ArenaAt w B g nb kb ib cap A K T) (hA : A.full = false) {f a : Nat} {F G : Bdd.Fn} (hf : IsF A f F) (ha : IsF A a G) :
    Calls Try.prog 56 #[.pointer (some ⟨g, 0, none⟩), .int .i64 f, .int .i64 a] w (OpQ w B g nb kb ib A (orF F G) (2 ^ A.vars)) := by
  have HC : Hid (Calls Try.prog 44 #[.pointer (some ⟨g, 0, none⟩), .int .i64 f, .int .i64 1, .int .i64 a] w (OpQ w B g nb kb ib A (orF F G) (2 ^ A.vars))) := hide (opIte_q h hA hf (IsF.one h.inv) ha)
  clear h hf hA
  go_enter Try.func56, Try.ntmps56
  go_wp2_with fail
  refine HC.out.mono ?_
  rintro e wc hop
  have HF := hide hop
  obtain ⟨r, nb2, cap2, A2, K2, T2, _, _, _, h1, h2⟩ := hop
  cases hfull : A2.full
  · obtain rfl := h2 hfull
    go_wp2
    go_ret2
    exact HF.out
  · obtain rfl := h1 hfull
    go_wp2
    go_ret2
    exact HF.out

end Go.Proofs.Ytpfjjpihnibnhaa

set_option linter.unusedVariables false
set_option linter.unusedSimpArgs false
namespace Go.Proofs.Ytpfjjpihnibnhaa
open Go.RowKit Go.Maps Bdd

def setTo (P : Nat → Bool) : Nat → Nat
  | 0 => 0
  | k + 1 => if P k then setTo P k ||| 2 ^ k else setTo P k

theorem setTo_lt (P : Nat → Bool) : ∀ k, setTo P k < 2 ^ k := by
  intro k
  induction k with
  | zero => simp [setTo]
  | succ k ih =>
    have : setTo P k < 2 ^ (k + 1) := Nat.lt_of_lt_of_le ih (Nat.pow_le_pow_right (by omega) (by omega))
    unfold setTo
    split
    · exact Nat.or_lt_two_pow this (Nat.pow_lt_pow_right (by omega) (by omega))
    · exact this
theorem setTo_bit (P : Nat → Bool) : ∀ k j, (setTo P k).testBit j = (decide (j < k) && P j) := by
  intro k
  induction k with
  | zero => intro j; simp [setTo]
  | succ k ih =>
    intro j
    unfold setTo
    by_cases hj : j = k
    · subst hj
      cases hP : P j
      · simp [ih]
      · simp [Nat.testBit_or, ih, Nat.testBit_two_pow]
    · have e1 : decide (j < k + 1) = decide (j < k) := by
        by_cases h : j < k
        · simp [h]; omega
        · simp [h]; omega
      split
      · rw [Nat.testBit_or, ih, e1, Nat.testBit_two_pow]
        have : decide (k = j) = false := by simp; omega
        rw [this]; simp
      · rw [ih, e1]

theorem setTo_lt16 (P : Nat → Bool) {k : Nat} (hk : k ≤ 16) : setTo P k < 65536 := Nat.lt_of_lt_of_le (setTo_lt P k) (Nat.pow_le_pow_right (by omega) hk : 2 ^ k ≤ 2 ^ 16)

def dstB (l : List RouteV) (port : Int) (k : Nat) : Bool := decide (0 ≤ (outF (k : Int) l).2) && ((outF (k : Int) l).1 == port)

def MBox (w : World) (N d : Nat) : Prop := w.cell? ⟨N, 0, none⟩ = some (.int .u16 65535) ∧ w.cell? ⟨N, 1, none⟩ = some (.int .u16 d) ∧ w.cell? ⟨N, 2, none⟩ = some (.int .u8 255) ∧ w.cell? ⟨N, 3, none⟩ = some (.int .u8 255) ∧ w.frozen? ⟨N, 1, none⟩ = false
theorem MBox.below {w w' : World} {B N d : Nat} (h : MBox w N d) (hB : RowKit.Below B w w') (hN : N < B) : MBox w' N d := by
  have e : ∀ o, w'.cell? ⟨N, o, none⟩ = w.cell? ⟨N, o, none⟩ := fun o => hB.cell (p := ⟨N, o, none⟩) hN
  unfold MBox
  rw [e, e, e, e, hB.frozen (p := ⟨N, 1, none⟩) hN]
  exact h
theorem MBox.drew {w : World} {N d : Nat} (h : MBox w N d) : MBox w.drew N d := h
theorem MBox.set {w : World} {N d d' : Nat} (h : MBox w N d) : MBox (w.setCell ⟨N, 1, none⟩ (.int .u16 d')) N d' := by
  have ho : ∀ o, o ≠ 1 → (w.setCell ⟨N, 1, none⟩ (.int .u16 (d' : Int))).cell? ⟨N, o, none⟩ = w.cell? ⟨N, o, none⟩ := fun o ho => World.cell?_setCell_other w _ _ _ (fun e => by simp only [Addr.mk.injEq] at e; omega)
  obtain ⟨h0, h1, h2, h3, h4⟩ := h
  exact ⟨by rw [ho 0 (by omega)]; exact h0, World.cell?_setCell_same w ⟨N, 1, none⟩ _ h1, by rw [ho 2 (by omega)]; exact h2, by rw [ho 3 (by omega)]; exact h3, by rw [World.frozen?_setCell]; exact h4⟩
theorem MBox.set' {w : World} {N d d' : Nat} {x : Int} (h : MBox w N d) (hx : x = (d' : Int)) : MBox (w.setCell ⟨N, 1, none⟩ (.int .u16 x)) N d' := hx ▸ h.set

theorem BP.base {w w1 : World} {B g nb kb ib : Nat} {A : St} {F : Bdd.Fn} {P : Bdd.Fn → Prop} {e : Ending} {W' : World} (hb : RowKit.Below w.heap.size w w1) (h : BP w1 B g nb kb ib A F P e W') : BP w B g nb kb ib A F P e W' := by
  obtain ⟨nb2, cap2, A2, K2, T2, h1, h2, h3, h4, h5, h6, h7⟩ := h
  exact ⟨nb2, cap2, A2, K2, T2, h1, h2, h3, h4, h5.imp id (fun h => by have := hb.size; omega), (Frm.of_below hb).trans h6 (fun _ _ h => h), h7⟩

theorem or_shl (s k : Nat) (hs : s < 65536) (hk : k < 16) : Go.bits .or .u16 (s : Int) (IntKind.u16.wrap (2 ^ k)) = ((s ||| 2 ^ k : Nat) : Int) := by
  have h2 : (2 : Nat) ^ k < 65536 := Nat.pow_lt_pow_right (by omega) hk
  have e : IntKind.u16.wrap ((2 : Int) ^ k) = ((2 ^ k : Nat) : Int) := by
    have : ∀ i : Fin 16, IntKind.u16.wrap ((2 : Int) ^ i.val) = ((2 ^ i.val : Nat) : Int) := by decide +kernel
    exact this ⟨k, hk⟩
  rw [e]; exact u16_or s (2 ^ k) hs h2

set_option maxRecDepth 100000 in
set_option maxHeartbeats 8000000 in
theorem fibBuild_walk {w : World} {B g nb kb ib cap : Nat} {A : St} {K T : Tri → Option Value} (h : ArenaAt w B g nb kb ib cap A K T) (hA : A.full = false) (hv : 14 ≤ A.vars) (l : List RouteV) (a : Option Addr) (n c : Nat) (port : Int)
    (hn : n ≤ 9223372036854775807) (hnc : n ≤ c) (hl : SlAt RouteV.cells 3 w w.heap.size a n l) (hok : ∀ r ∈ l, r.ok) (hc : checkF l = 0) :
    Calls Try.prog 54 #[.pointer (some ⟨g, 0, none⟩), .slice a n c, .int .i64 port] w (BP w B g nb kb ib A (outs (partL 65535 (setTo (dstB l port) 16) 255 255)) (NewB (partL 65535 (setTo (dstB l port) 16) 255 255))) := by
  have HC := hide (fun w1 (hb : RowKit.Below w.heap.size w w1) => check22_any l a n c w1 hnc (hl.below hb hb.size) hok)
  have HO := hide (fun w1 (k : Nat) (hk : k < 16) (hb : RowKit.Below w.heap.size w w1) => out_any l a n c (k : Int) w1 hn ⟨by omega, by omega⟩ (hl.below hb hb.size) hok)
  have HE := hide hc
  have H := hide h
  have HAV := hide (And.intro hA hv)
  clear hl hok hc h hA hv
  go_enter Try.func54, Try.ntmps54
  go_wp2_with fail
  refine (HC.out _ (RowKit.Below.refl _ _)).mono ?_
  rintro e w1 ⟨rfl, hb1⟩
  rw [HE.out]
  have HB := hide hb1
  clear hb1
  go_wp2_with fail
  refine (all_walk _).mono ?_
  rintro e w2 ⟨rfl, hb2⟩
  have HB2 := hide (HB.out.trans (hb2.mono HB.out.size))
  clear hb2
  have hsz2 := HB2.out.size
  go_wp2
  have hbx := heap_alloc_new w2 (.cells #[.int .u16 65535, .int .u16 0, .int .u8 255, .int .u8 255] 62)
  have HM0 : Hid (MBox (w2.alloc (.cells #[.int .u16 65535, .int .u16 0, .int .u8 255, .int .u8 255] 62)) w2.heap.size (setTo (dstB l port) 0)) := hide
    ⟨by rw [cell_of_row _ _ _ _ _ _ hbx]; rfl, by rw [cell_of_row _ _ _ _ _ _ hbx]; rfl, by rw [cell_of_row _ _ _ _ _ _ hbx]; rfl, by rw [cell_of_row _ _ _ _ _ _ hbx]; rfl, by unfold World.frozen?; rw [hbx]; simp⟩
  clear hbx
  obtain ⟨N, hN⟩ : ∃ N, w2.heap.size = N := ⟨_, rfl⟩
  have HB3 := hide (HB2.out.alloc hsz2 (.cells #[.int .u16 65535, .int .u16 0, .int .u8 255, .int .u8 255] 62))
  have hN3 : N < (w2.alloc (.cells #[.int .u16 65535, .int .u16 0, .int .u8 255, .int .u8 255] 62)).heap.size := by simp; omega
  rw [hN] at HM0 hsz2 ⊢
  generalize w2.alloc _ = w3 at *
  clear hN HB2 HB
  go_loopw [20] (fun i wr => ∃ k : Nat, k ≤ 16 ∧ i = .int .i64 k ∧ Hid (MBox wr N (setTo (dstB l port) k)) ∧ RowKit.Below w.heap.size w wr ∧ N < wr.heap.size) (fun i _ => 16 - (intOf i).toNat)
  case atStart => exact ⟨0, Nat.zero_le _, rfl, HM0, HB3.out, hN3⟩
  case round =>
    clear HM0 HB3 hN3
    obtain ⟨k, hk, rfl, HM, hb, hNr⟩ := hrel
    have HBR := hide hb
    clear hb
    by_cases hlt : k < 16
    · go_wp2_with fail
      refine (HO.out _ k hlt HBR.out).mono ?_
      rintro e w4 ⟨rfl, hb4⟩
      have HM4 := hide (HM.out.below hb4 hNr)
      have HB4 := hide (HBR.out.trans (hb4.mono HBR.out.size))
      have hN4 : N < w4.heap.size := Nat.lt_of_lt_of_le hNr hb4.size
      clear hb4 HBR HM hNr
      cases hp1 : decide (0 ≤ (outF (k : Int) l).2)
      · have HS := hide (show setTo (dstB l port) (k + 1) = setTo (dstB l port) k from by simp only [setTo, dstB, hp1]; simp)
        go_wp2
        go_roundw
        case rel => exact ⟨k + 1, by omega, by go_num, HS.out.symm ▸ HM4, HB4.out, hN4⟩
        case measure => simp [intOf]; omega
      cases hp2 : ((outF (k : Int) l).1 == port)
      · have HS := hide (show setTo (dstB l port) (k + 1) = setTo (dstB l port) k from by simp only [setTo, dstB, hp1, hp2]; simp)
        go_wp2
        go_roundw
        case rel => exact ⟨k + 1, by omega, by go_num, HS.out.symm ▸ HM4, HB4.out, hN4⟩
        case measure => simp [intOf]; omega
      have HS := hide (show setTo (dstB l port) (k + 1) = setTo (dstB l port) k ||| 2 ^ k from by simp only [setTo, dstB, hp1, hp2]; simp)
      have HX := hide (or_shl (setTo (dstB l port) k) k (setTo_lt16 _ hk) hlt)
      obtain ⟨y0, y1, y2, y3, y4⟩ := HM4.out
      go_wp2
      go_region
      all_goals
        go_wp2
        go_roundw
        case rel => exact ⟨k + 1, by omega, by go_num, hide (by rw [HS.out]; exact (HM4.out.set' HX.out).drew), (HB4.out.setCell hsz2 _).drew, by simp [World.setCell]; exact hN4⟩
        case measure => simp [intOf]; omega
    · have hk16 : k = 16 := by omega
      subst hk16
      obtain ⟨y0, y1, y2, y3, y4⟩ := HM.out
      have HBW : Hid (Calls Try.prog 89 #[.pointer (some ⟨g, 0, none⟩), .agg #[.int .u16 65535, .int .u16 (setTo (dstB l port) 16 : Nat), .int .u8 255, .int .u8 255]] wr (BP wr B g nb kb ib A (outs (partL 65535 (setTo (dstB l port) 16) 255 255)) (NewB (partL 65535 (setTo (dstB l port) 16) 255 255)))) :=
        hide (build_walk (H.out.below HBR.out) HAV.out.1 HAV.out.2 65535 (setTo (dstB l port) 16) 255 255 (by omega) (setTo_lt16 _ (Nat.le_refl _)) (by omega) (by omega))
      go_wp2_with fail
      refine HBW.out.mono ?_
      rintro e w5 hbp
      have HF := hide (hbp.base HBR.out)
      obtain ⟨_, _, _, _, _, _, _, _, _, _, _, hres⟩ := hbp
      clear HBW
      rcases hres with ⟨r, rfl, _, _⟩ | ⟨rfl, _⟩
      all_goals
        go_wp2
        go_ret2
        exact HF.out
end Go.Proofs.Ytpfjjpihnibnhaa
