/- AclFirst: behind a rule for all nothing is looked at; with a rule ahead what it matches is as it says, and nothing else turns. For arguments that hold at most 1048576 values. -/
import Derived.Test.YtidikopjfpioaaaRight
import Derived.Test.YtidikopjfpioaaaLets
import Derived.Test.YtidikopjfpioaaaClone
import Derived.Deep.RegionWith
set_option linter.unusedVariables false
set_option linter.unusedSimpArgs false
namespace Go.Proofs.Ytidikopjfpioaaa
open Go.ChangeShapes Go.WideShapes Go.ChangeAt Go.RowKit

def RuleBox (w : World) (b : Nat) (r : RuleV) : Prop :=
  w.cell? ⟨b, 0, none⟩ = some (.bool r.permit) ∧ w.cell? ⟨b, 1, none⟩ = some (.int .u16 r.m.src) ∧ w.cell? ⟨b, 2, none⟩ = some (.int .u16 r.m.dst) ∧
    w.cell? ⟨b, 3, none⟩ = some (.int .u8 r.m.sport) ∧ w.cell? ⟨b, 4, none⟩ = some (.int .u8 r.m.dport)
theorem RuleBox.below {w w' : World} {B b : Nat} {r : RuleV} (h : RuleBox w b r) (hB : Below B w w') (hb : b < B) : RuleBox w' b r := by
  unfold RuleBox at *
  have e : ∀ o, w'.cell? ⟨b, o, none⟩ = w.cell? ⟨b, o, none⟩ := fun o => hB.cell (p := ⟨b, o, none⟩) hb
  rw [e, e, e, e, e]
  exact h

theorem ownsRow_below {w w' : World} {base e s n : Nat} {v : Value} {xs : List Value} (h : w.ownsRow base e s v n xs) (hb : Below w.heap.size w w') : w'.ownsRow base e s v n xs :=
  h.kept (row := none) ⟨hb.os, hb.tape, hb.output, hb.size, fun k hk _ => hb.block k hk⟩ (by cases hv : v.ownBlock <;> simp)

theorem rules_lit {w : World} {r : RuleV} (hr : r.ok) {cs : Array Value} (hcs : cs.toList = r.cells) : RulesAt (w.alloc (.cells cs 105)) (w.heap.size + 1) (some ⟨w.heap.size, 0, none⟩) 1 [r] := by
  refine ⟨rfl, fun x hx => by simp at hx; subst hx; exact hr, fun _ => ⟨w.heap.size, 0, rfl, by omega, fun k x hk => ?_⟩⟩
  have hk0 : k = 0 := by have := (List.getElem?_eq_some_iff.1 hk).1; simp at this; exact this
  subst hk0
  have : r = x := by simpa using hk
  subst this
  have e : ∀ j : Nat, (w.alloc (.cells cs 105)).cell? ⟨w.heap.size, j, none⟩ = r.cells[j]? := fun j => by
    rw [cell_of_row _ _ j cs 105 (0, 0) (heap_alloc_new w _), ← hcs]; simp
  exact ⟨e 0, e 1, e 2, e 3, e 4⟩

/-- What stands at each point of AclFirst's walk. -/
structure AF (W : World) (r : RuleV) (p : P4) (w : World) : Prop where
  hb : Below W.heap.size W w
  hs : W.heap.size + 2 ≤ w.heap.size
  rb : RuleBox w W.heap.size r
  pb : PackAt w (W.heap.size + 1) p
theorem AF.step {W w w' : World} {r : RuleV} {p : P4} {B : Nat} (h : AF W r p w) (hb : Below B w w') (hB : W.heap.size + 2 ≤ B) : AF W r p w' :=
  ⟨h.hb.trans (hb.mono (by omega)), Nat.le_trans h.hs hb.size, h.rb.below hb (by omega), h.pb.below hb (by omega)⟩
theorem AF.alloc {W w : World} {r : RuleV} {p : P4} (h : AF W r p w) (o : Obj) : AF W r p (w.alloc o) := h.step ((Below.refl _ _).alloc (Nat.le_refl _) _) h.hs

def allR (b : Bool) : RuleV := ⟨b, ⟨65535, 65535, 255, 255⟩⟩
theorem allR_ok (b : Bool) : (allR b).ok := ⟨Nat.lt_succ_self 65535, Nat.lt_succ_self 65535, Nat.lt_succ_self 255, Nat.lt_succ_self 255⟩
theorem zeroP_ok : P4.ok ⟨0, 0, 0, 0⟩ := by simp [P4.ok, i64ok]

theorem inB_right (p : P4) (h : rightB p = true) : inB ⟨65535, 65535, 255, 255⟩ p = true := by
  simp only [rightB, inR, Bool.and_eq_true, decide_eq_true_eq] at h
  have t : ∀ (n : Int) (k : Nat), 0 ≤ n → n < k → k ≤ 16 → hasB (2 ^ k - 1) n = true := fun n k h0 hk hk16 => by
    simp only [hasB, Bool.and_eq_true, decide_eq_true_eq, Nat.testBit_two_pow_sub_one]
    omega
  simp only [inB, Bool.and_eq_true]
  exact ⟨⟨⟨t _ 16 (by omega) (by omega) (by omega), t _ 16 (by omega) (by omega) (by omega)⟩, t _ 8 (by omega) (by omega) (by omega)⟩, t _ 8 (by omega) (by omega) (by omega)⟩

theorem lets_append (l m : List RuleV) (p : P4) : letsB (l ++ m) p = if (l.any fun r => inB r.m p) then letsB l p else letsB m p := by
  induction l with
  | nil => simp
  | cons a l ih =>
    by_cases h : inB a.m p = true
    · simp [letsB, h]
    · simp only [letsB] at ih
      simpa [letsB, h] using ih
theorem lets_ended (l more : List RuleV) (p : P4) (h : rightB p = true) : letsB (l ++ [allR false] ++ more) p = letsB l p := by
  rw [List.append_assoc, lets_append]
  cases ha : l.any fun r => inB r.m p
  · have e1 : letsB l p = false := lets_none (fun r hr => by simpa using (List.any_eq_false.1 ha) r hr)
    rw [e1]
    have := inB_right p h
    simp [letsB, allR, this]
  · simp
theorem lets_ahead (r : RuleV) (l : List RuleV) (p : P4) : letsB (r :: l) p = if inB r.m p then r.permit else letsB l p := by
  cases h : inB r.m p <;> simp [letsB, h]

theorem lets_is (l : List RuleV) (A : Option Addr) (n c : Nat) (p : P4) (W : World) (B : Bool) (hn : n ≤ 9223372036854775807) (hp : p.ok) (hl : RulesAt W W.heap.size A n l) (h : letsB l p = B) :
    Calls Try.prog 35 #[.slice A n c, .agg #[.int .i64 p.src, .int .i64 p.dst, .int .i64 p.sport, .int .i64 p.dport]] W fun e W' =>
      e = .returned (.bool B) ∧ Below W.heap.size W W' := h ▸ lets_walk l A n c p W hn hp hl
theorem right_is (p : P4) (W : World) (B : Bool) (h : rightB p = B) : Calls Try.prog 21 #[.agg #[.int .i64 p.src, .int .i64 p.dst, .int .i64 p.sport, .int .i64 p.dport]] W fun e W' => e = .returned (.bool B) ∧ Below W.heap.size W W' := h ▸ right_walk p W

end Go.Proofs.Ytidikopjfpioaaa
