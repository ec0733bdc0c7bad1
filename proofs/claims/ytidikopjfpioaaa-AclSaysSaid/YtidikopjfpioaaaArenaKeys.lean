/- Keys of three numbers. -/
import Derived.Test.YtidikopjfpioaaaBddStep
import Derived.Test.YtidikopjfpioaaaMapIs
import Derived.Test.YtidikopjfpioaaaSl
import Derived.Test.YtidikopjfpioaaaLaw
import Derived.Test.YtidikopjfpioaaaFam
set_option linter.unusedVariables false
set_option linter.unusedSimpArgs false
namespace Go.Proofs.Ytidikopjfpioaaa
open Go.RowKit Go.Maps Bdd

/-! ### keys of three numbers -/
abbrev Tri := Nat × Nat × Nat
def triVal (t : Tri) : Value := .agg #[.int .i64 t.1, .int .i64 t.2.1, .int .i64 t.2.2]
def triDom (t : Tri) : Prop := t.1 < 65536 ∧ t.2.1 < 65536 ∧ t.2.2 < 65536

theorem triVal_inj (a b : Tri) (h : triVal a = triVal b) : a = b := by
  obtain ⟨a1, a2, a3⟩ := a
  obtain ⟨b1, b2, b3⟩ := b
  simp only [triVal, Value.agg.injEq, Array.mk.injEq, List.cons.injEq, Value.int.injEq, true_and, and_true, Int.natCast_inj] at h
  simp [h]

theorem tri_few : ∃ L : List Tri, L.length < 9223372036854775807 ∧ ∀ a, triDom a → a ∈ L := by
  have gen : ∀ N : Nat, ∃ L : List Tri, L.length = N * (N * N) ∧ ∀ a b c : Nat, a < N → b < N → c < N → (a, b, c) ∈ L := fun N => by
    refine ⟨(List.range N).flatMap fun a => (List.range N).flatMap fun b => (List.range N).map fun c => (a, b, c), ?_, ?_⟩
    · have h1 : ∀ (β : Type) (f : Nat → List β) (m : Nat), (∀ a, (f a).length = m) → ∀ n, ((List.range n).flatMap f).length = n * m := fun β f m hf n => by
        induction n with
        | zero => simp
        | succ n ih => rw [List.range_succ, List.flatMap_append, List.length_append, ih, Nat.succ_mul]; simp [hf]
      exact h1 _ _ _ (fun a => h1 _ _ _ (fun b => by simp) N) N
    · intro a b c ha hb hc
      simp only [List.mem_flatMap, List.mem_range, List.mem_map]
      exact ⟨a, ha, b, hb, c, hc, rfl⟩
  obtain ⟨L, h1, h2⟩ := gen 65536
  refine ⟨L, by rw [h1]; decide, fun a ha => ?_⟩
  obtain ⟨a1, a2, a3⟩ := a
  exact h2 a1 a2 a3 ha.1 ha.2.1 ha.2.2

theorem i64_wf (n : Nat) (h : n < 65536) : (Lit.int .i64 (n : Int)).wf = true := WalkArith.wf_i64 (by omega)

theorem row_lt_of {P : Program} {k : TypeId} {d : TypeDesc} (h : P.underlying k = some d) (hs : decide (k < P.types.size) = true) : k < P.types.size := of_decide_eq_true hs

theorem rowNode : decide (129 < Try.prog.types.size) = true := by kernel_rfl
theorem rowTrip : decide (214 < Try.prog.types.size) = true := by kernel_rfl
theorem atNode : Try.prog.keyTypeAt 2 129 = true := by kernel_rfl
theorem atTrip : Try.prog.keyTypeAt 2 214 = true := by kernel_rfl
theorem keyNode : Try.prog.keyType 129 = true := by kernel_rfl
theorem keyTrip : Try.prog.keyType 214 = true := by kernel_rfl
theorem cellsNode : Try.prog.cellsOf 129 = 3 := by kernel_rfl
theorem cellsTrip : Try.prog.cellsOf 214 = 3 := by kernel_rfl
theorem cellsI : Try.prog.cellsOf 3 = 1 := by kernel_rfl
theorem types_succ : ∃ m, Try.prog.types.size = m + 1 := by
  cases h : Try.prog.types.size with
  | zero => have := of_decide_eq_true rowNode; rw [h] at this; omega
  | succ m => exact ⟨m, rfl⟩
theorem lawNode : Keyed Try.prog 129 := Keyed.of_law (deep_law_laid Try.laidOut (m := 2) (by omega) (of_decide_eq_true rowNode) atNode (by rw [Try.underlying129]))
theorem lawTrip : Keyed Try.prog 214 := Keyed.of_law (deep_law_laid Try.laidOut (m := 2) (by omega) (of_decide_eq_true rowTrip) atTrip (by rw [Try.underlying214]))

theorem tri_key {P : Program} {k i : TypeId} {f1 f2 f3 : Field} (hu : P.underlying k = some (.struct #[f1, f2, f3])) (h1 : f1.type = i ∧ f1.offset = 0 ∧ f1.name ≠ "_") (h2 : f2.type = i ∧ f2.offset = 1 ∧ f2.name ≠ "_") (h3 : f3.type = i ∧ f3.offset = 2 ∧ f3.name ≠ "_")
    (hi : P.underlying i = some (.int .i64)) (hk : P.keyType k = true) (hc : P.cellsOf k = 3) (hci : P.cellsOf i = 1) (hm : ∃ m, P.types.size = m + 1) (t : Tri) (ht : triDom t) : ∃ kl, keyOf P k (triVal t) = some kl := by
  obtain ⟨a, b, c⟩ := t
  have w1 := i64_wf a ht.1
  have w2 := i64_wf b ht.2.1
  have w3 := i64_wf c ht.2.2
  obtain ⟨m, hm⟩ := hm
  unfold keyOf
  rw [hu]
  simp [hk, Value.formed, hu, triVal, hc, Value.cells, hm, Program.keyLits, hci, hi, w1, w2, w3, h1, h2, h3]

theorem nodeKeys : KeysOk Try.prog 129 triVal triDom :=
  ⟨lawNode, tri_key Try.underlying129 ⟨rfl, rfl, by decide⟩ ⟨rfl, rfl, by decide⟩ ⟨rfl, rfl, by decide⟩ Try.underlying3 keyNode cellsNode cellsI types_succ, triVal_inj, tri_few⟩
theorem tripKeys : KeysOk Try.prog 214 triVal triDom :=
  ⟨lawTrip, tri_key Try.underlying214 ⟨rfl, rfl, by decide⟩ ⟨rfl, rfl, by decide⟩ ⟨rfl, rfl, by decide⟩ Try.underlying3 keyTrip cellsTrip cellsI types_succ, triVal_inj, tri_few⟩
end Go.Proofs.Ytidikopjfpioaaa
