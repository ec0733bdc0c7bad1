/- acl.Lets: what it answers. -/
import Derived.Test.YtidikopjfpioaaaRules
set_option linter.unusedVariables false
namespace Go.Proofs.Ytidikopjfpioaaa
open Go.ChangeShapes Go.WideShapes Go.ChangeAt Go.RowKit

def PackAt (w : World) (b : Nat) (p : P4) : Prop :=
  w.cell? ⟨b, 0, none⟩ = some (.int .i64 p.src) ∧ w.cell? ⟨b, 1, none⟩ = some (.int .i64 p.dst) ∧ w.cell? ⟨b, 2, none⟩ = some (.int .i64 p.sport) ∧ w.cell? ⟨b, 3, none⟩ = some (.int .i64 p.dport)

theorem PackAt.below {w w' : World} {B b : Nat} {p : P4} (h : PackAt w b p) (hB : Below B w w') (hb : b < B) : PackAt w' b p := by
  unfold PackAt at *
  have e : ∀ o, w'.cell? ⟨b, o, none⟩ = w.cell? ⟨b, o, none⟩ := fun o => hB.cell (p := ⟨b, o, none⟩) hb
  rw [e, e, e, e]
  exact h

theorem in_ofNat (m : M4) (p : P4) (w : World) (hm : m.ok) (hp : p.ok) :
    Calls Try.prog 86 #[.agg #[.int .u16 m.src, .int .u16 m.dst, .int .u8 m.sport, .int .u8 m.dport], .agg #[.int .i64 p.src, .int .i64 p.dst, .int .i64 p.sport, .int .i64 p.dport]] w fun e W' =>
      e = .returned (.bool (inB m p)) ∧ Below w.heap.size w W' := in_walk m.src m.dst m.sport m.dport p.src p.dst p.sport p.dport w hm.1 hm.2.1 hm.2.2.1 hm.2.2.2 hp.1 hp.2.1 hp.2.2.1 hp.2.2.2

set_option maxRecDepth 100000 in
theorem lets1_walk (r : RuleV) (p : P4) (b : Nat) (w : World) (hr : r.ok) (hp : p.ok) (hpa : PackAt w b p) (hlt : b < w.heap.size) :
    Calls Try.prog 85 (#[r.val] ++ #[.pointer (some ⟨b, 0, none⟩)]) w fun e W' => e = .returned (.bool (inB r.m p)) ∧ Below w.heap.size w W' := by
  obtain ⟨q0, q1, q2, q3⟩ := hpa
  have hne : b ≠ w.heap.size := by omega
  show Calls Try.prog 85 #[.agg #[.bool r.permit, .int .u16 r.m.src, .int .u16 r.m.dst, .int .u8 r.m.sport, .int .u8 r.m.dport], .pointer (some ⟨b, 0, none⟩)] w _
  go_enter Try.func85, Try.ntmps85
  go_wp2_with fail
  refine (in_ofNat r.m p _ hr hp).mono ?_
  rintro e w1 ⟨rfl, hb1⟩
  go_wp2
  go_ret
  exact ⟨rfl, ((Below.refl _ _).alloc (Nat.le_refl _) _).trans (hb1.mono (by simp))⟩

def letsB (l : List RuleV) (p : P4) : Bool := ((l.find? fun r => inB r.m p).map (·.permit)).getD false

theorem lets_found {l : List RuleV} {p : P4} {k : Nat} {r : RuleV} (hr : l[k]? = some r) (hp : inB r.m p = true) (hno : ∀ j r, j < k → l[j]? = some r → inB r.m p = false) : letsB l p = r.permit := by
  have : l.find? (fun r => inB r.m p) = some r := by
    rw [List.find?_eq_some_iff_getElem]
    have hk := (List.getElem?_eq_some_iff.1 hr)
    obtain ⟨hk1, hk2⟩ := hk
    refine ⟨hp, k, hk1, hk2, fun j hj => ?_⟩
    have hjl : j < l.length := by omega
    have := hno j _ hj (List.getElem?_eq_getElem hjl)
    simp [this]
  simp [letsB, this]
theorem lets_none {l : List RuleV} {p : P4} (hno : ∀ r ∈ l, inB r.m p = false) : letsB l p = false := by
  have : l.find? (fun r => inB r.m p) = none := by
    rw [List.find?_eq_none]
    intro r hr
    simp [hno r hr]
  simp [letsB, this]

theorem idxF_cases {α : Type} (p : α → Bool) (l : List α) : (∃ (k : Nat) (r : α), idxF p l = k ∧ k < l.length ∧ l[k]? = some r ∧ p r = true ∧ ∀ j r, j < k → l[j]? = some r → p r = false) ∨ (idxF p l = -1 ∧ ∀ r ∈ l, p r = false) := by
  cases h : l.findIdx? p with
  | none => exact .inr ⟨by simp [idxF, h], fun r hr => by simpa using (List.findIdx?_eq_none_iff.1 h) r hr⟩
  | some k =>
    obtain ⟨hk, h1, h2⟩ := List.findIdx?_eq_some_iff_getElem.1 h
    refine .inl ⟨k, l[k], by simp [idxF, h], hk, List.getElem?_eq_getElem hk, h1, fun j r hj hr => ?_⟩
    have := h2 j hj
    rw [List.getElem?_eq_getElem (by omega)] at hr
    cases hr
    simpa using this

set_option maxRecDepth 100000 in
theorem lets_walk (l : List RuleV) (A : Option Addr) (n c : Nat) (p : P4) (W : World) (hn : n ≤ 9223372036854775807) (hp : p.ok) (hl : RulesAt W W.heap.size A n l) :
    Calls Try.prog 35 #[.slice A n c, .agg #[.int .i64 p.src, .int .i64 p.dst, .int .i64 p.sport, .int .i64 p.dport]] W fun e W' =>
      e = .returned (.bool (letsB l p)) ∧ Below W.heap.size W W' := by
  have hb0 : Below W.heap.size W (W.alloc (.cells #[.int .i64 p.src, .int .i64 p.dst, .int .i64 p.sport, .int .i64 p.dport] 42)) := (Below.refl _ _).alloc (Nat.le_refl _) _
  have hpa : PackAt (W.alloc (.cells #[.int .i64 p.src, .int .i64 p.dst, .int .i64 p.sport, .int .i64 p.dport] 42)) W.heap.size p := ⟨by simp, by simp, by simp, by simp⟩
  have hl1 := hl.below hb0 (B' := W.heap.size + 1) (by omega)
  have HP := hide hpa
  have HL := hide hl1
  have HL0 := hide hl
  clear hpa hl1 hl
  go_enter Try.func35, Try.ntmps35
  go_wp2_with fail
  refine (indexFuncRule_any l A n c 85 _ (fun r => inB r.m p) _ hn (by simpa using HL.out) ?_ ?_).mono ?_
  · intro args w
    go_simp
  · intro r w hr hw
    exact lets1_walk r p W.heap.size w (HL0.out.2.1 r hr) hp (HP.out.below hw (by simp)) (by have := hw.size; simp at this; omega)
  rintro e w1 ⟨rfl, hb1⟩
  have HB := hide (hb0.trans (hb1.mono (by simp)))
  clear hb1 hb0
  rcases idxF_cases (fun r => inB r.m p) l with ⟨k, r, hk, hkl, hr, hpr, hno⟩ | ⟨hk, hno⟩
  · rw [hk]
    have hlen := HL0.out.1
    have h0 : 0 < n := by omega
    obtain ⟨b, o, rfl, hbB, _⟩ := HL0.out.2.2 h0
    obtain ⟨q0, _, _, _, _⟩ := (HL0.out.get hr).2.below HB.out hbB
    have HF := hide (lets_found hr hpr hno)
    have hkn : k < n := by omega
    clear hk hr hpr hno hlen
    go_wp2
    go_ret
    exact ⟨by rw [HF.out]; rfl, HB.out⟩
  · rw [hk]
    have HF := hide (lets_none hno)
    clear hk hno
    go_wp2
    go_ret
    exact ⟨by rw [HF.out]; rfl, HB.out⟩
end Go.Proofs.Ytidikopjfpioaaa
