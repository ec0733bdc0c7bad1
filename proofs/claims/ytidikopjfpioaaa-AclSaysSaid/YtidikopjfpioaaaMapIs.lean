/- Maps in memory by what they hold, whatever their elements are. -/
import Derived.Maps.OwnOps
import Derived.Maps.OwnSet
import Derived.Maps.Ext
import Derived.Below
import Derived.DeepKeys5
import Derived.WalkKit
set_option linter.unusedVariables false
namespace Go.Proofs.Ytidikopjfpioaaa
open Go.RowKit Go.Maps Go.WideElems

theorem length_le_of_subset' {α : Type} : ∀ (l L : List α), l.Nodup → (∀ a ∈ l, a ∈ L) → l.length ≤ L.length := by
  intro l
  induction l with
  | nil => intro L _ _; simp
  | cons a l ih =>
    intro L hn hs
    have ha : a ∈ L := hs a (by simp)
    obtain ⟨s, t, rfl⟩ := List.append_of_mem ha
    have hn' := List.nodup_cons.1 hn
    have := ih (s ++ t) hn'.2 (fun b hb => by
      have hb' := hs b (by simp [hb])
      have hne : b ≠ a := fun e => hn'.1 (e ▸ hb)
      simp only [List.mem_append, List.mem_cons] at hb' ⊢
      rcases hb' with h | h | h
      · exact .inl h
      · exact absurd h hne
      · exact .inr h)
    simp only [List.length_append, List.length_cons] at this ⊢
    omega

/-- An element reads as itself. -/
def heldR (v : Value) : Option (DataW Value × List MemPlace) := some (.held v, [])

def MapIs {α : Type} (P : Program) (kt : TypeId) (key : α → Value) (dom : α → Prop) (w : World) (b : Nat) (M : α → Option Value) : Prop :=
  ∃ D, w.ownsMap P kt heldR b (Maps.size D) D ∧
    (∀ a, dom a → ∀ kl, keyOf P kt (key a) = some kl → Maps.has D kl = (M a).isSome ∧ ∀ z, D.atKey kl (.held z) = .held ((M a).getD z)) ∧
    (∀ kl, Maps.has D kl = true → ∃ a, dom a ∧ keyOf P kt (key a) = some kl)

/-- What is asked of keys: they can be keys, and tell what they are of; there are only so many. -/
structure KeysOk {α : Type} (P : Program) (kt : TypeId) (key : α → Value) (dom : α → Prop) : Prop where
  law : Keyed P kt
  total : ∀ a, dom a → ∃ kl, keyOf P kt (key a) = some kl
  inj : ∀ a a', key a = key a' → a = a'
  few : ∃ L : List α, L.length < 9223372036854775807 ∧ ∀ a, dom a → a ∈ L

section
variable {α : Type} {P : Program} {kt : TypeId} {key : α → Value} {dom : α → Prop} {w w' : World} {b : Nat} {M : α → Option Value}

theorem ownsMap_tight {n : Nat} {D : DataW Value} (h : w.ownsMap P kt heldR b n D) : w.ownsMap P kt heldR b (Maps.size D) D := by
  obtain ⟨es, clock, hb, F, hs, hD⟩ := h
  refine ⟨es, clock, hb, F, ?_, hD⟩
  rw [hD]
  simp [Maps.size, length_sorted]

theorem MapIs.made (w : World) : MapIs P kt key dom (w.alloc (.map #[] 0)) w.heap.size (fun _ => none) :=
  ⟨.map [], World.ownsMap_made w P kt heldR, fun a _ kl _ => ⟨rfl, fun z => rfl⟩, fun kl h => by simp [Maps.has] at h⟩

theorem MapIs.lt (h : MapIs P kt key dom w b M) : b < w.heap.size := by
  obtain ⟨D, h1, _⟩ := h
  exact h1.lt
theorem MapIs.kept {row : Option Nat} (h : MapIs P kt key dom w b M) (hg : w.grownBy w' row) (hne : some b ≠ row) : MapIs P kt key dom w' b M := by
  obtain ⟨D, h1, h2, h3⟩ := h
  exact ⟨D, h1.kept hg hne, h2, h3⟩
theorem MapIs.same (h : MapIs P kt key dom w b M) (hb : w'.heap[b]? = w.heap[b]?) : MapIs P kt key dom w' b M := by
  obtain ⟨D, ⟨es, clock, hh, F, hs, hD⟩, h2, h3⟩ := h
  exact ⟨D, ⟨es, clock, hb.trans hh, F, hs, hD⟩, h2, h3⟩

theorem MapIs.size (h : MapIs P kt key dom w b M) (K : KeysOk P kt key dom) : ∃ D, w.ownsMap P kt heldR b (Maps.size D) D ∧ Maps.size D < maxLen ∧
    (∀ a, dom a → ∀ kl, keyOf P kt (key a) = some kl → Maps.has D kl = (M a).isSome ∧ ∀ z, D.atKey kl (.held z) = .held ((M a).getD z)) ∧
    (∀ kl, Maps.has D kl = true → ∃ a, dom a ∧ keyOf P kt (key a) = some kl) := by
  obtain ⟨D, h1, h2, h3⟩ := h
  refine ⟨D, h1, ?_, h2, h3⟩
  obtain ⟨L, hL, hall⟩ := K.few
  have ht := h1.tidy K.law
  obtain ⟨es, rfl, hp⟩ := ht
  have hk : ∀ p ∈ es, WideAt.IsKeyLit p.1 := by
    obtain ⟨es', clock, _, F, _, hD⟩ := h1
    simp only [DataW.map.injEq] at hD
    intro p hpm
    rw [hD] at hpm
    have hm := (Go.WideShapes.sorted_perm _).mem_iff.1 hpm
    obtain ⟨v, hv⟩ := fit_keys F p hm
    exact K.law.key hv
  have hsz : es.length ≤ (L.filterMap fun a => keyOf P kt (key a)).length := by
    have := length_le_of_subset' (es.map (·.1)) (L.filterMap fun a => keyOf P kt (key a)) (by
      rw [List.nodup_iff_pairwise_ne, List.pairwise_map]; exact hp) (fun kl hkl => by
      obtain ⟨p, hpm, rfl⟩ := List.mem_map.1 hkl
      obtain ⟨a, ha, hka⟩ := h3 p.1 (by
        rw [Maps.has_eq, List.any_eq_true]
        exact ⟨p, hpm, WideAt.sameKey_self (hk p hpm)⟩)
      exact List.mem_filterMap.2 ⟨a, hall a ha, hka⟩)
    simpa using this
  have := List.length_filterMap_le (fun a => keyOf P kt (key a)) L
  show es.length < maxLen
  unfold maxLen
  omega

/-- M with one entry more. -/
def putM [DecidableEq α] (M : α → Option Value) (a : α) (v : Value) : α → Option Value := fun x => if x = a then some v else M x
theorem putM_same [DecidableEq α] (M : α → Option Value) (a : α) (v : Value) : putM M a v a = some v := by simp [putM]
theorem putM_other [DecidableEq α] (M : α → Option Value) {a x : α} (v : Value) (h : x ≠ a) : putM M a v x = M x := by simp [putM, h]

theorem MapIs.look {t et : TypeId} (h : MapIs P kt key dom w b M) (K : KeysOk P kt key dom) (ht : P.underlying t = some (.map kt et)) {z : Value} (hz : (zeroValue et).run P w = .ok z w) {a : α} (ha : dom a) :
    (Instr.lookup t (.map (some b)) (key a) true).run P w = .ok (.tuple #[(M a).getD z, .bool (M a).isSome]) w ∧ (Instr.lookup t (.map (some b)) (key a) false).run P w = .ok ((M a).getD z) w := by
  obtain ⟨D, h1, h2, h3⟩ := h
  obtain ⟨kl, hkl⟩ := K.total a ha
  obtain ⟨e1, e2⟩ := h2 a ha kl hkl
  obtain ⟨v, ps, hrun, hv⟩ := h1.look_ok K.law ht hz (zd := .held z) (zp := []) rfl hkl
  obtain ⟨v', ps', hrun', hv'⟩ := h1.lookup K.law ht hz (zd := .held z) (zp := []) rfl hkl
  rw [e2 z] at hv hv'
  simp only [heldR, Option.some.injEq, Prod.mk.injEq, DataW.held.injEq] at hv hv'
  rw [hrun, hrun', e1, hv.1, hv'.1]
  exact ⟨rfl, rfl⟩

theorem MapIs.store [DecidableEq α] {t et : TypeId} (h : MapIs P kt key dom w b M) (K : KeysOk P kt key dom) (ht : P.underlying t = some (.map kt et)) {a : α} (ha : dom a) (v : Value) :
    ∃ w', (Instr.mapUpdate t (.map (some b)) (key a) v).run P w = .ok () w' ∧ MapIs P kt key dom w' b (putM M a v) ∧ w.grownBy w' (some b) := by
  obtain ⟨D, h1, hn, h2, h3⟩ := h.size K
  obtain ⟨kl, hkl⟩ := K.total a ha
  obtain ⟨w', hrun, r1, r2⟩ := h1.update K.law ht hn hkl (val := v) (d := .held v) (ps := []) rfl
  have hD : IsMap D := (h1.tidy K.law).isMap
  refine ⟨w', hrun, ⟨D.put kl (.held v), ownsMap_tight r1, ?_, ?_⟩, r2⟩
  · intro a' ha' kl' hkl'
    by_cases e : a' = a
    · subst e
      have : kl' = kl := Option.some.inj (hkl'.symm.trans hkl)
      subst this
      rw [putM_same]
      exact ⟨Maps.has_put_same hD (K.law.key hkl) _, fun z => Maps.atKey_put_same hD (K.law.key hkl) _ _⟩
    · rw [putM_other M v e]
      have hne : kl' ≠ kl := fun ek => by subst ek; exact e (K.inj _ _ (K.law.inj hkl' hkl))
      rw [Maps.has_put_other hne]
      obtain ⟨q1, q2⟩ := h2 a' ha' kl' hkl'
      exact ⟨q1, fun z => by rw [Maps.atKey_put_other hne]; exact q2 z⟩
  · intro kl' hkl'
    by_cases e : kl' = kl
    · subst e; exact ⟨a, ha, hkl⟩
    · rw [Maps.has_put_other e] at hkl'
      exact h3 kl' hkl'
end

section
variable {α : Type} {P : Program} {kt : TypeId} {key : α → Value} {dom : α → Prop} {b : Nat} {M : α → Option Value} (w : World)

theorem wpList_look_ok {ops : Array Oper} {rest : List Oper} {o : Oper} {a : Act} {Q : Exit → Act → World → Prop} (hg : o.guard = none) (m x : Operand) (t : TypeId) (hop : o.op = Op.lookup t m x true)
    (et : TypeId) (K : KeysOk P kt key dom) (ht : P.underlying t = some (.map kt et)) {z : Value} (hz : (zeroValue et).run P w = .ok z w) (hm : a.eval m = .map (some b)) (h : MapIs P kt key dom w b M) (k : α) (hk : dom k) (hx : a.eval x = key k)
    (r : Option Value) (hr : M k = r) (hK : wpList P ops Q rest (a.put o.dst (.tuple #[r.getD z, .bool r.isSome])) w) : wpList P ops Q (o :: rest) a w := by
  refine wpList_plain hg fun K' hK' => ?_
  have hrun := (h.look K ht hz hk).1
  rw [hr] at hrun
  unfold Oper.wp
  simp [execOp, hop, hm, hx, hrun, Result.andThen]
  exact hK' _ _ hK

theorem wpList_look {ops : Array Oper} {rest : List Oper} {o : Oper} {a : Act} {Q : Exit → Act → World → Prop} (hg : o.guard = none) (m x : Operand) (t : TypeId) (hop : o.op = Op.lookup t m x false)
    (et : TypeId) (K : KeysOk P kt key dom) (ht : P.underlying t = some (.map kt et)) {z : Value} (hz : (zeroValue et).run P w = .ok z w) (hm : a.eval m = .map (some b)) (h : MapIs P kt key dom w b M) (k : α) (hk : dom k) (hx : a.eval x = key k)
    (r : Option Value) (hr : M k = r) (hK : wpList P ops Q rest (a.put o.dst (r.getD z)) w) : wpList P ops Q (o :: rest) a w := by
  refine wpList_plain hg fun K' hK' => ?_
  have hrun := (h.look K ht hz hk).2
  rw [hr] at hrun
  unfold Oper.wp
  simp [execOp, hop, hm, hx, hrun, Result.andThen]
  exact hK' _ _ hK

theorem wpList_storeM [DecidableEq α] {ops : Array Oper} {rest : List Oper} {o : Oper} {a : Act} {Q : Exit → Act → World → Prop} (hg : o.guard = none) (m x v : Operand) (t : TypeId) (hop : o.op = Op.mapUpdate t m x v)
    (et : TypeId) (K : KeysOk P kt key dom) (ht : P.underlying t = some (.map kt et)) (hm : a.eval m = .map (some b)) (h : MapIs P kt key dom w b M) (k : α) (hk : dom k) (hx : a.eval x = key k) (val : Value) (hv : a.eval v = val)
    (hK : ∀ w', MapIs P kt key dom w' b (putM M k val) → w.grownBy w' (some b) → wpList P ops Q rest (a.put o.dst undef) w') : wpList P ops Q (o :: rest) a w := by
  refine wpList_plain hg fun K' hK' => ?_
  obtain ⟨w', hrun, r1, r2⟩ := h.store K ht hk val
  unfold Oper.wp
  simp [execOp, hop, hm, hx, hv, hrun, Result.andThen]
  exact hK' _ _ (hK w' r1 r2)
end
end Go.Proofs.Ytidikopjfpioaaa
