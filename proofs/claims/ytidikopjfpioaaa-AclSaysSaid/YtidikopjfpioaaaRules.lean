/- Lists of rules in memory; slices.IndexFunc over them. -/
import Derived.Test.YtidikopjfpioaaaMatchIn
import Derived.Test.YtidikopjfpioaaaFam
set_option linter.unusedVariables false
namespace Go.Proofs.Ytidikopjfpioaaa
open Go.ChangeShapes Go.WideShapes Go.ChangeAt Go.RowKit

structure RuleV where
  permit : Bool
  m : M4
def RuleV.ok (r : RuleV) : Prop := r.m.ok
def RuleV.cells (r : RuleV) : List Value := [.bool r.permit, .int .u16 r.m.src, .int .u16 r.m.dst, .int .u8 r.m.sport, .int .u8 r.m.dport]
def RuleV.val (r : RuleV) : Value := .agg #[.bool r.permit, .int .u16 r.m.src, .int .u16 r.m.dst, .int .u8 r.m.sport, .int .u8 r.m.dport]

/-- A rule's cells. -/
def RuleAt (w : World) (b o : Nat) (r : RuleV) : Prop :=
  w.cell? ⟨b, o, none⟩ = some (.bool r.permit) ∧ w.cell? ⟨b, o + 1, none⟩ = some (.int .u16 r.m.src) ∧ w.cell? ⟨b, o + 2, none⟩ = some (.int .u16 r.m.dst) ∧
    w.cell? ⟨b, o + 3, none⟩ = some (.int .u8 r.m.sport) ∧ w.cell? ⟨b, o + 4, none⟩ = some (.int .u8 r.m.dport)
theorem RuleAt.below {w w' : World} {B b o : Nat} {r : RuleV} (h : RuleAt w b o r) (hB : Below B w w') (hb : b < B) : RuleAt w' b o r := by
  unfold RuleAt at *
  have e : ∀ o, w'.cell? ⟨b, o, none⟩ = w.cell? ⟨b, o, none⟩ := fun o => hB.cell (p := ⟨b, o, none⟩) hb
  rw [e, e, e, e, e]
  exact h
/-- A slice of rules: what its cells hold; below block B. -/
def RulesAt (w : World) (B : Nat) (A : Option Addr) (n : Nat) (l : List RuleV) : Prop :=
  l.length = n ∧ (∀ r ∈ l, r.ok) ∧ (0 < n → ∃ b o, A = some ⟨b, o, none⟩ ∧ b < B ∧ ∀ (k : Nat) (r : RuleV), l[k]? = some r → RuleAt w b (o + k * 5) r)
theorem RulesAt.get {w : World} {B b o n : Nat} {l : List RuleV} (h : RulesAt w B (some ⟨b, o, none⟩) n l) {k : Nat} {r : RuleV} (hr : l[k]? = some r) : b < B ∧ RuleAt w b (o + k * 5) r := by
  have hk : k < n := by
    have := (List.getElem?_eq_some_iff.1 hr).1
    have := h.1
    omega
  obtain ⟨b', o', e, hb, hg⟩ := h.2.2 (by omega)
  cases e
  exact ⟨hb, hg k r hr⟩
theorem RulesAt.below {w w' : World} {B B' n : Nat} {A : Option Addr} {l : List RuleV} (h : RulesAt w B A n l) (hB : Below B w w') (hB' : B ≤ B') : RulesAt w' B' A n l :=
  ⟨h.1, h.2.1, fun h0 => by
    obtain ⟨b, o, e, hb, hg⟩ := h.2.2 h0
    exact ⟨b, o, e, by omega, fun k r hr => (hg k r hr).below hB hb⟩⟩
theorem RulesAt.okAt {w : World} {B n : Nat} {A : Option Addr} {l : List RuleV} (h : RulesAt w B A n l) {k : Nat} {r : RuleV} (hr : l[k]? = some r) : r.ok := h.2.1 r (List.mem_of_getElem? hr)

set_option maxHeartbeats 4000000 in
/-- Where the first one stands of which something holds; -1: none. -/
def idxF {α : Type} (p : α → Bool) (l : List α) : Int := match l.findIdx? p with | some k => (k : Int) | none => -1
theorem idxF_found {α : Type} {p : α → Bool} {l : List α} {k : Nat} {r : α} (hr : l[k]? = some r) (hp : p r = true) (hno : ∀ j r, j < k → l[j]? = some r → p r = false) : idxF p l = k := by
  have hk := (List.getElem?_eq_some_iff.1 hr).1
  have : l.findIdx? p = some k := by
    rw [List.findIdx?_eq_some_iff_getElem]
    refine ⟨hk, ?_, fun j hj => ?_⟩
    · have := (List.getElem?_eq_some_iff.1 hr).2; rw [this]; exact hp
    · have := hno j _ hj (List.getElem?_eq_getElem (by omega)); simp [this]
  simp [idxF, this]
theorem idxF_none {α : Type} {p : α → Bool} {l : List α} (hno : ∀ j r, j < l.length → l[j]? = some r → p r = false) : idxF p l = -1 := by
  have : l.findIdx? p = none := by
    rw [List.findIdx?_eq_none_iff]
    intro x hx
    obtain ⟨j, hj⟩ := List.getElem?_of_mem hx
    exact hno j x (List.getElem?_eq_some_iff.1 hj).1 hj
  simp [idxF, this]
theorem ret_i64 {a b : Int} (h : a = b) : Ending.returned (.int .i64 a) = .returned (.int .i64 b) := by rw [h]

set_option maxRecDepth 100000 in
theorem indexFuncRule_walk (l : List RuleV) (b o n c f : Nat) (cap : Array Value) (p : RuleV → Bool) (W : World) (hn : n ≤ 9223372036854775807) (hl : RulesAt W W.heap.size (some ⟨b, o, none⟩) n l) (h0 : 0 < n)
    (hcall : ∀ (args : Array Value) (w : World), (callFunc f args).run Try.prog w = .ok (.enter f args) w)
    (hf : Hid (∀ (r : RuleV) (w : World), r ∈ l → Below W.heap.size W w → Calls Try.prog f (#[r.val] ++ cap) w fun e w' => e = .returned (.bool (p r)) ∧ Below w.heap.size w w')) :
    Calls Try.prog 84 #[.slice (some ⟨b, o, none⟩) n c, .func (.func f) #[] cap] W fun e W' =>
      e = .returned (.int .i64 (idxF p l)) ∧ Below W.heap.size W W' := by
  have HL := hide hl
  clear hl
  go_enter Try.func84, Try.ntmps84
  go_wp2
  go_loopw [5, 8] (fun u i wr => ∃ k : Nat, k ≤ n ∧ i = .int .i64 k ∧ Below W.heap.size W wr ∧ ∀ j r, j < k → l[j]? = some r → p r = false) (fun _ i _ => n - (intOf i).toNat)
  case atStart => exact ⟨0, Nat.zero_le _, rfl, Below.refl _ _, fun j r h => by omega⟩
  case round =>
    obtain ⟨k, hk, rfl, hb, hno⟩ := hrel
    by_cases hlt : k < n
    · obtain ⟨r, hr⟩ : ∃ r, l[k]? = some r := ⟨_, List.getElem?_eq_getElem (by have := HL.out.1; omega)⟩
      obtain ⟨hbB, hra⟩ := HL.out.get hr
      obtain ⟨q0, q1, q2, q3, q4⟩ := hra.below hb hbB
      have HR := hide hr
      have HB := hide hb
      have HN := hide hno
      clear hr hb hno
      go_wp2_with fail
      refine (hf.out r _ (List.mem_of_getElem? HR.out) HB.out).mono ?_
      rintro e w1 ⟨rfl, hb1⟩
      have HB1 := hide (HB.out.trans (hb1.mono HB.out.size))
      clear hb1
      cases hp : p r
      · go_wp2
        go_roundw
        case rel =>
          refine ⟨k + 1, by omega, by go_num, HB1.out, fun j r' hj hr' => ?_⟩
          rcases (by omega : j < k ∨ j = k) with h | rfl
          · exact HN.out j r' h hr'
          · rw [HR.out] at hr'; cases hr'; exact hp
        case measure => simp [intOf]; omega
      · go_wp2
        go_ret
        exact ⟨ret_i64 (idxF_found HR.out hp HN.out).symm, HB1.out⟩
    · go_wp2
      go_ret
      exact ⟨ret_i64 (idxF_none (fun j r hj => hno j r (by have := HL.out.1; omega))).symm, hb⟩

set_option maxRecDepth 100000 in
theorem indexFuncRule_nil (A : Option Addr) (c : Nat) (F : Value) (W : World) :
    Calls Try.prog 84 #[.slice A 0 c, F] W fun e W' => e = .returned (.int .i64 (-1)) ∧ W = W' := by
  go_enter Try.func84, Try.ntmps84
  go_wp2
  refine wp_loop_rounds 1 ?_
  rw [rounds_succ]
  go_wp2
  go_ret
  exact ⟨rfl, rfl⟩

theorem indexFuncRule_any (l : List RuleV) (A : Option Addr) (n c f : Nat) (cap : Array Value) (p : RuleV → Bool) (W : World) (hn : n ≤ 9223372036854775807) (hl : RulesAt W W.heap.size A n l)
    (hcall : ∀ (args : Array Value) (w : World), (callFunc f args).run Try.prog w = .ok (.enter f args) w)
    (hf : ∀ (r : RuleV) (w : World), r ∈ l → Below W.heap.size W w → Calls Try.prog f (#[r.val] ++ cap) w fun e w' => e = .returned (.bool (p r)) ∧ Below w.heap.size w w') :
    Calls Try.prog 84 #[.slice A n c, .func (.func f) #[] cap] W fun e W' =>
      e = .returned (.int .i64 (idxF p l)) ∧ Below W.heap.size W W' := by
  rcases Nat.eq_zero_or_pos n with rfl | h0
  · have : l = [] := List.eq_nil_of_length_eq_zero hl.1
    subst this
    exact (indexFuncRule_nil A c _ W).mono fun e w' ⟨he, hw⟩ => ⟨he, hw ▸ Below.refl _ _⟩
  · obtain ⟨b, o, rfl, hb, _⟩ := hl.2.2 h0
    exact indexFuncRule_walk l b o n c f cap p W hn hl h0 hcall hf
end Go.Proofs.Ytidikopjfpioaaa
