/- The keys of the memory's maps: a device and a packet; a device and a port. -/
import Derived.Test.YtidikopjfpioaaaKMap
set_option linter.unusedVariables false
set_option linter.unusedSimpArgs false
namespace Go.Proofs.Ytidikopjfpioaaa
open Go.RowKit Go.Maps Go.WideElems

abbrev OfK := Int × P4
def ofVal (k : OfK) : Value := .agg #[.int .i64 k.1, .int .i64 k.2.src, .int .i64 k.2.dst, .int .i64 k.2.sport, .int .i64 k.2.dport]
def ofDom (k : OfK) : Prop := i64ok k.1 ∧ k.2.ok
abbrev PoK := Int × Int
def poVal (k : PoK) : Value := .agg #[.int .i64 k.1, .int .i64 k.2]
def poDom (k : PoK) : Prop := i64ok k.1 ∧ i64ok k.2

theorem ofVal_inj (a b : OfK) (h : ofVal a = ofVal b) : a = b := by
  obtain ⟨a0, a1, a2, a3, a4⟩ := a
  obtain ⟨b0, b1, b2, b3, b4⟩ := b
  simp only [ofVal, Value.agg.injEq, Array.mk.injEq, List.cons.injEq, Value.int.injEq, true_and, and_true] at h
  obtain ⟨rfl, rfl, rfl, rfl, rfl⟩ := h
  rfl
theorem poVal_inj (a b : PoK) (h : poVal a = poVal b) : a = b := by
  obtain ⟨a0, a1⟩ := a
  obtain ⟨b0, b1⟩ := b
  simp only [poVal, Value.agg.injEq, Array.mk.injEq, List.cons.injEq, Value.int.injEq, true_and, and_true] at h
  obtain ⟨rfl, rfl⟩ := h
  rfl

theorem i64ok_wf {x : Int} (h : i64ok x) : (Lit.int .i64 x).wf = true := by
  have hx : -9223372036854775808 ≤ x ∧ x ≤ 9223372036854775807 := h
  simpa [Lit.wf, IntKind.min, IntKind.max, IntKind.signed, IntKind.bits] using hx

theorem rowOf : decide (162 < Try.prog.types.size) = true := by kernel_rfl
theorem rowPo : decide (165 < Try.prog.types.size) = true := by kernel_rfl
theorem atOf : Try.prog.keyTypeAt 3 162 = true := by kernel_rfl
theorem atPo : Try.prog.keyTypeAt 2 165 = true := by kernel_rfl
theorem keyOfT : Try.prog.keyType 162 = true := by kernel_rfl
theorem keyPoT : Try.prog.keyType 165 = true := by kernel_rfl
theorem cellsOf5 : Try.prog.cellsOf 162 = 5 := by kernel_rfl
theorem cellsPo2 : Try.prog.cellsOf 165 = 2 := by kernel_rfl
theorem lawOf : Keyed Try.prog 162 := Keyed.of_law (deep_law_laid Try.laidOut (m := 3) (by omega) (of_decide_eq_true rowOf) atOf (by rw [Try.underlying162]))
theorem lawPo : Keyed Try.prog 165 := Keyed.of_law (deep_law_laid Try.laidOut (m := 2) (by omega) (of_decide_eq_true rowPo) atPo (by rw [Try.underlying165]))

theorem pair_key {P : Program} {k i : TypeId} {f1 f2 : Field} (hu : P.underlying k = some (.struct #[f1, f2])) (h1 : f1.type = i ∧ f1.offset = 0 ∧ f1.name ≠ "_") (h2 : f2.type = i ∧ f2.offset = 1 ∧ f2.name ≠ "_")
    (hi : P.underlying i = some (.int .i64)) (hk : P.keyType k = true) (hc : P.cellsOf k = 2) (hci : P.cellsOf i = 1) (hm : ∃ m, P.types.size = m + 1) (t : PoK) (ht : poDom t) : ∃ kl, keyOf P k (poVal t) = some kl := by
  obtain ⟨a, b⟩ := t
  have w1 := i64ok_wf ht.1
  have w2 := i64ok_wf ht.2
  obtain ⟨m, hm⟩ := hm
  unfold keyOf
  rw [hu]
  simp [hk, Value.formed, hu, poVal, hc, Value.cells, hm, Program.keyLits, hci, hi, w1, w2, h1, h2]

theorem of_key {P : Program} {k i q : TypeId} {f1 f2 g1 g2 g3 g4 : Field} (hu : P.underlying k = some (.struct #[f1, f2])) (hq : P.underlying q = some (.struct #[g1, g2, g3, g4])) (h1 : f1.type = i ∧ f1.offset = 0 ∧ f1.name ≠ "_") (h2 : f2.type = q ∧ f2.offset = 1 ∧ f2.name ≠ "_")
    (j1 : g1.type = i ∧ g1.offset = 0 ∧ g1.name ≠ "_") (j2 : g2.type = i ∧ g2.offset = 1 ∧ g2.name ≠ "_") (j3 : g3.type = i ∧ g3.offset = 2 ∧ g3.name ≠ "_") (j4 : g4.type = i ∧ g4.offset = 3 ∧ g4.name ≠ "_")
    (hi : P.underlying i = some (.int .i64)) (hk : P.keyType k = true) (hc : P.cellsOf k = 5) (hcq : P.cellsOf q = 4) (hci : P.cellsOf i = 1) (hm : ∃ m, P.types.size = m + 2) (t : OfK) (ht : ofDom t) : ∃ kl, keyOf P k (ofVal t) = some kl := by
  obtain ⟨a, b, c, d, e⟩ := t
  have w1 := i64ok_wf ht.1
  have w2 := i64ok_wf ht.2.1
  have w3 := i64ok_wf ht.2.2.1
  have w4 := i64ok_wf ht.2.2.2.1
  have w5 := i64ok_wf ht.2.2.2.2
  simp only at w1 w2 w3 w4 w5
  obtain ⟨m, hm⟩ := hm
  unfold keyOf
  rw [hu]
  have hall : ∀ (i : Nat) (x : i < 4), ¬([g1, g2, g3, g4][i]'x).name = "_" := fun i x => match i, x with
    | 0, _ => j1.2.2
    | 1, _ => j2.2.2
    | 2, _ => j3.2.2
    | 3, _ => j4.2.2
  simp [hall, hk, Value.formed, hu, hq, ofVal, hc, hcq, Value.cells, hm, Program.keyLits, hci, hi, w1, w2, w3, w4, w5, h1, h2, j1, j2, j3, j4]

theorem types_succ2 : ∃ m, Try.prog.types.size = m + 2 := by
  have h : decide (162 < Try.prog.types.size) = true := rowOf
  have h2 := of_decide_eq_true h
  exact ⟨Try.prog.types.size - 2, by omega⟩

theorem poKeys : KeysAny Try.prog 165 poVal poDom :=
  ⟨lawPo, pair_key Try.underlying165 ⟨rfl, rfl, by decide⟩ ⟨rfl, rfl, by decide⟩ Try.underlying3 keyPoT cellsPo2 cellsI types_succ, poVal_inj⟩
theorem ofKeys : KeysAny Try.prog 162 ofVal ofDom :=
  ⟨lawOf, of_key Try.underlying162 Try.underlying42 ⟨rfl, rfl, by decide⟩ ⟨rfl, rfl, by decide⟩ ⟨rfl, rfl, by decide⟩ ⟨rfl, rfl, by decide⟩ ⟨rfl, rfl, by decide⟩ ⟨rfl, rfl, by decide⟩ Try.underlying3 keyOfT cellsOf5 Try.cellsPacket cellsI types_succ2, ofVal_inj⟩
end Go.Proofs.Ytidikopjfpioaaa
