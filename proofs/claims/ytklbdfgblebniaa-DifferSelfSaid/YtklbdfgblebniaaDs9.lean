/- A part of the proof: RegC, KMap, StepKeys, NetAt, RgMap. -/
import Derived.Test.YtklbdfgblebniaaDs8
import Derived.RegionTactic
import Derived.Deep.RegionHeld3
import Derived.BigRegion
import Derived.ChangeAlike
import Derived.Maps.RangeWalk

set_option linter.unusedVariables false
set_option linter.unusedSimpArgs false
namespace Go.Proofs.Ytklbdfgblebniaa

section
variable {P : Program} {ops : Array Oper} {Q : Exit → Act → World → Prop} {md : Region.Mode} {S : World → Prop} {s : Nat}

def YieldsC (P : Program) (ops : Array Oper) (S : World → Prop) (o : Oper) (v : Value) (a : Act) : Prop :=
  Region.wanted o (yielded ops a.tmps) = true ∧ ∀ w, S w → ∃ f args, (execOp a.eval o).run P w = .ok (.enter f args) w ∧ Calls P f args w fun e w'' => e = .returned v ∧ w = w''

theorem YieldsC.of_same {o : Oper} {v : Value} {a a' : Act} (hy : YieldsC P ops S o v a) (he : execOp a'.eval o = execOp a.eval o)
    (hw : Region.wanted o (yielded ops a'.tmps) = Region.wanted o (yielded ops a.tmps)) : YieldsC P ops S o v a' := by
  unfold YieldsC at *
  rw [he, hw]
  exact hy
theorem YieldsC.wpOp {i : Nat} {o : Oper} {v : Value} {a : Act} (hi : ops[i]? = some o) (hy : YieldsC P ops S o v a) {K : Act → World → Prop} {w : World} (hS : S w) (h : K (a.put o.dst v) w) : wpOp P ops Q i K a w := by
  unfold Go.wpOp
  simp only [hi]
  obtain ⟨hw, hv⟩ := hy
  obtain ⟨f, args, hrun, hc⟩ := hv w hS
  simp only [hw, if_true, Oper.wp, hrun, Oper.upon]
  refine .inl (Calls.mono hc fun e w'' he => ?_)
  obtain ⟨rfl, rfl⟩ := he
  exact h

theorem wpOp_putC {j : Nat} {oi oj : Oper} {v : Value} (hj : ops[j]? = some oj) (hap : oi.apart ops oj = true)
    (hsi : ∀ cs b, oi.op ≠ .select cs b) (hsj : ∀ cs b, oj.op ≠ .select cs b)
    (hQ : ∀ c a w, Q (.panic c) (a.put oi.dst v) w → Q (.panic c) a w) {K : Act → World → Prop} {a : Act} {w : World}
    (hy : YieldsC P ops S oi v a) (h : wpOp P ops Q j K (a.put oi.dst v) w) :
    wpOp P ops Q j (fun a' w' => YieldsC P ops S oi v a' ∧ K (a'.put oi.dst v) w') a w := by
  obtain ⟨h1, h2, h3⟩ := Oper.apart_spec hap
  have keep : ∀ (a : Act), YieldsC P ops S oi v a → ∀ u, YieldsC P ops S oi v (a.put oj.dst u) := fun a hy u =>
    hy.of_same (execOp_put oi hsi a oj.dst u h3) (wanted_put oi a oj.dst u h3)
  have keepD : ∀ d, YieldsC P ops S oi v { a with defers := d :: a.defers } := fun d => hy.of_same rfl rfl
  unfold Go.wpOp at *
  simp only [hj] at *
  rw [wanted_put oj a oi.dst v h1] at h
  split
  · rename_i hw
    simp only [hw, if_true] at h
    rcases h with h | ⟨hasks, hlets⟩
    case inr => exact .inr ⟨by unfold Oper.asks at *; rw [execOp_put oj hsj a oi.dst v h1] at hasks; exact hasks, hlets⟩
    refine .inl ?_
    unfold Oper.wp at *
    rw [execOp_put oj hsj a oi.dst v h1] at h
    generalize (execOp a.eval oj).run P w = r at *
    cases r with
    | ok n w' =>
      cases n <;> simp only [Oper.upon] at h ⊢
      case value u => exact ⟨keep a hy u, by rw [← Act.put_comm a v u h2]; exact h⟩
      case skip => exact ⟨keep a hy _, by rw [← Act.put_comm a v undef h2]; exact h⟩
      case defer d =>
        refine ⟨keep _ (keepD d) _, ?_⟩
        rw [← Act.put_comm _ v undef h2, ← Act.put_defers]
        exact h
      case enter f args =>
        refine Calls.mono h fun e w'' he => ?_
        cases e with
        | returned u => exact ⟨keep a hy u, by rw [← Act.put_comm a v u h2]; exact he⟩
        | panicked c => exact hQ _ _ _ he
        | outgrown => exact he
      case row row args => exact Rows.mono h fun u w'' he => ⟨keep a hy u, by rw [← Act.put_comm a v u h2]; exact he⟩
    | halt x w' =>
      cases x <;> simp only [Oper.upon] at h ⊢
      case panic u => exact hQ _ _ _ h
  · rename_i hw
    simp only [hw] at h
    exact ⟨keep a hy _, by rw [← Act.put_comm a v undef h2]; exact h⟩

theorem wpAnyE_firstC {i : Nat} {oi : Oper} {v : Value} {S' : World → Prop} (hi : ops[i]? = some oi) (hsel : ∀ (j : Nat) (o : Oper) cs b, ops[j]? = some o → o.op ≠ .select cs b) (his : i ≠ s)
    (hS' : ∀ (listed : Array Bool) (w : World), ClosedL md ops listed → listed.getD i true = false → (listed.getD s true = false → S w) → S' w)
    (hQ : ∀ c a w, Q (.panic c) (a.put oi.dst v) w → Q (.panic c) a w) :
    ∀ (fuel : Nat) (listed : Array Bool) (a : Act) (w : World), ClosedL md ops listed →
      (∀ j oj, ops[j]? = some oj → j ≠ i → listed.getD j true = false → (∀ e ∈ oj.after, Region.binds md e = true → e.on ≠ i) → oi.apart ops oj = true) →
      i ∈ Region.ready md ops listed → YieldsC P ops S' oi v a → (listed.getD s true = false → S w) →
      wpAnyE P md ops Q S s fuel (listed.setIfInBounds i true) (a.put oi.dst v) w → wpAnyE P md ops Q S s (fuel + 1) listed a w := by
  have same : ∀ (l : Array Bool), (l.setIfInBounds i true).getD s true = l.getD s true := fun l => getD_set_ne true his
  intro fuel
  induction fuel with
  | zero =>
    intro listed a w inv _ hr hy hS H
    have hun := (mem_ready.1 hr).1
    refine ⟨fun h => (by rw [h] at hr; cases hr), fun j hj => ?_⟩
    by_cases hji : j = i
    · subst hji; exact hy.wpOp hi (hS' listed w inv hun hS) ⟨fun h => hS (by rwa [same] at h), H⟩
    · have := ready_mono hj hji
      rw [H.1] at this
      cases this
  | succ fuel ih =>
    intro listed a w inv hfree hr hy hS H
    have hun := (mem_ready.1 hr).1
    refine ⟨fun h => (by rw [h] at hr; cases hr), fun j hj => ?_⟩
    by_cases hji : j = i
    · subst hji; exact hy.wpOp hi (hS' listed w inv hun hS) ⟨fun h => hS (by rwa [same] at h), H⟩
    · have h1 := H.2 j (ready_mono hj hji)
      obtain ⟨hjun, oj, hoj, hall⟩ := mem_ready.1 hj
      have hnot : ∀ e ∈ oj.after, Region.binds md e = true → e.on ≠ i := fun e he hb heq => by
        have h1 := hall e he hb
        rw [heq, getD_both hun] at h1
        cases h1
      have h2 := wpOp_putC hoj (hfree j oj hoj hji hjun hnot) (fun cs b => hsel i oi cs b hi) (fun cs b => hsel j oj cs b hoj) hQ hy h1
      have hfree' : ∀ k ok, ops[k]? = some ok → k ≠ i → (listed.setIfInBounds j true).getD k true = false →
          (∀ e ∈ ok.after, Region.binds md e = true → e.on ≠ i) → oi.apart ops ok = true := fun k ok hk hki hun hno => by
        refine hfree k ok hk hki ?_ hno
        by_cases hjk : j = k
        · subst hjk; exact hjun
        · rw [getD_set_ne true hjk] at hun; exact hun
      refine wpOp_mono (fun a' w' h3 => ?_) h2
      have hS2 : (listed.setIfInBounds j true).getD s true = false → S w' := fun h => h3.2.1 (by rw [Array.setIfInBounds_comm _ _ (Ne.symm hji), same]; exact h)
      refine ⟨hS2, ih (listed.setIfInBounds j true) a' w' (inv.set hj) hfree' (ready_mono hr (Ne.symm hji)) h3.1 hS2 ?_⟩
      rw [Array.setIfInBounds_comm _ _ hji]
      exact h3.2.2

theorem wpAnyE_quiet {i : Nat} {oi : Oper} {v : Value} {fuel : Nat} {listed : Array Bool} {a : Act} {w : World} (c : List Nat) (hi0 : ops.toList[i]? = some oi) (hs : Region.noSelect ops = true) (hf : Region.free md ops listed i = true)
    (hr : (Region.ready md ops listed).contains i = true) (his : decide (i ≠ s) && decide (s < ops.size) && chainOk md ops (i :: c) && decide ((i :: c).getLast? = some s) = true) (hQ : ∀ c a w, Q (.panic c) (a.put oi.dst v) w → Q (.panic c) a w) (inv : Shut (ClosedL md ops listed)) (hy : YieldsC P ops S oi v a) (hS : S w)
    (h : Shut (ClosedL md ops (listed.setIfInBounds i true)) → wpAnyE P md ops Q S s fuel (listed.setIfInBounds i true) (a.put oi.dst v) w) : wpAnyE P md ops Q S s (fuel + 1) listed a w := by
  have hi : ops[i]? = some oi := by simpa using hi0
  simp only [Bool.and_eq_true, decide_eq_true_eq] at his
  have hr' : i ∈ Region.ready md ops listed := by simpa using hr
  exact wpAnyE_firstC hi (Region.noSelect_spec hs) his.1.1.1 (fun l w inv hun hS => hS (chain_unlisted inv his.1.2 his.2 his.1.1.2 hun)) hQ fuel listed a w inv.out (Region.free_spec hi hf) hr' hy (fun _ => hS) (h (inv.out.set hr'))
end
end Go.Proofs.Ytklbdfgblebniaa

set_option linter.unusedVariables false
set_option linter.unusedSimpArgs false
namespace Go.Proofs.Ytklbdfgblebniaa
open Go.RowKit Go.Maps Go.WideElems

structure KeysAny {α : Type} (P : Program) (kt : TypeId) (key : α → Value) (dom : α → Prop) : Prop where
  law : Keyed P kt
  total : ∀ a, dom a → ∃ kl, keyOf P kt (key a) = some kl
  inj : ∀ a a', key a = key a' → a = a'

section
variable {α : Type} {P : Program} {kt : TypeId} {key : α → Value} {dom : α → Prop} {w w' : World} {b : Nat} {M : α → Option Value}

theorem MapIs.sizeA (h : MapIs P kt key dom w b M) (K : KeysAny P kt key dom) (L : List α) (hL : L.length < maxLen) (hall : ∀ a, dom a → (M a).isSome = true → a ∈ L) : ∃ D, w.ownsMap P kt heldR b (Maps.size D) D ∧ Maps.size D < maxLen ∧
    (∀ a, dom a → ∀ kl, keyOf P kt (key a) = some kl → Maps.has D kl = (M a).isSome ∧ ∀ z, D.atKey kl (.held z) = .held ((M a).getD z)) ∧
    (∀ kl, Maps.has D kl = true → ∃ a, dom a ∧ keyOf P kt (key a) = some kl) := by
  obtain ⟨D, h1, h2, h3⟩ := h
  refine ⟨D, h1, ?_, h2, h3⟩
  have ht := h1.tidy K.law
  obtain ⟨es, rfl, hp⟩ := ht
  have hk : ∀ p ∈ es, WideAt.IsKeyLit p.1 := by
    obtain ⟨es', clock, _, F, _, hD⟩ := h1
    simp only [DataW.map.injEq] at hD
    intro p hpm
    rw [hD] at hpm
    have hm := (Go.WideShapes.sorted_perm _).mem_iff.1 hpm
    obtain ⟨v, hv⟩ := fit_keys F p hm
    exact K.law.key hv
  have hsz : es.length ≤ (L.filterMap fun a => keyOf P kt (key a)).length := by
    have := length_le_of_subset' (es.map (·.1)) (L.filterMap fun a => keyOf P kt (key a)) (by
      rw [List.nodup_iff_pairwise_ne, List.pairwise_map]; exact hp) (fun kl hkl => by
      obtain ⟨p, hpm, rfl⟩ := List.mem_map.1 hkl
      have hh : Maps.has (.map es) p.1 = true := by
        rw [Maps.has_eq, List.any_eq_true]
        exact ⟨p, hpm, WideAt.sameKey_self (hk p hpm)⟩
      obtain ⟨a, ha, hka⟩ := h3 p.1 hh
      exact List.mem_filterMap.2 ⟨a, hall a ha ((h2 a ha _ hka).1.symm.trans hh), hka⟩)
    simpa using this
  have := List.length_filterMap_le (fun a => keyOf P kt (key a)) L
  show es.length < maxLen
  omega

theorem MapIs.lookA {t et : TypeId} (h : MapIs P kt key dom w b M) (K : KeysAny P kt key dom) (ht : P.underlying t = some (.map kt et)) {z : Value} (hz : (zeroValue et).run P w = .ok z w) {a : α} (ha : dom a) :
    (Instr.lookup t (.map (some b)) (key a) true).run P w = .ok (.tuple #[(M a).getD z, .bool (M a).isSome]) w ∧ (Instr.lookup t (.map (some b)) (key a) false).run P w = .ok ((M a).getD z) w := by
  obtain ⟨D, h1, h2, h3⟩ := h
  obtain ⟨kl, hkl⟩ := K.total a ha
  obtain ⟨e1, e2⟩ := h2 a ha kl hkl
  obtain ⟨v, ps, hrun, hv⟩ := h1.look_ok K.law ht hz (zd := .held z) (zp := []) rfl hkl
  obtain ⟨v', ps', hrun', hv'⟩ := h1.lookup K.law ht hz (zd := .held z) (zp := []) rfl hkl
  rw [e2 z] at hv hv'
  simp only [heldR, Option.some.injEq, Prod.mk.injEq, DataW.held.injEq] at hv hv'
  rw [hrun, hrun', e1, hv.1, hv'.1]
  exact ⟨rfl, rfl⟩

theorem MapIs.storeA [DecidableEq α] {t et : TypeId} (h : MapIs P kt key dom w b M) (K : KeysAny P kt key dom) (L : List α) (hL : L.length < maxLen) (hall : ∀ a, dom a → (M a).isSome = true → a ∈ L) (ht : P.underlying t = some (.map kt et)) {a : α} (ha : dom a) (v : Value) :
    ∃ w', (Instr.mapUpdate t (.map (some b)) (key a) v).run P w = .ok () w' ∧ MapIs P kt key dom w' b (putM M a v) ∧ w.mapTurned w' b := by
  obtain ⟨D, h1, hn, h2, h3⟩ := h.sizeA K L hL hall
  obtain ⟨kl, hkl⟩ := K.total a ha
  obtain ⟨w', hrun, r1, r2⟩ := h1.store K.law ht hn hkl (val := v) (d := .held v) (ps := []) rfl
  have hD : IsMap D := (h1.tidy K.law).isMap
  refine ⟨w', hrun, ⟨D.put kl (.held v), ownsMap_tight r1, ?_, ?_⟩, r2⟩
  · intro a' ha' kl' hkl'
    by_cases e : a' = a
    · subst e
      have : kl' = kl := Option.some.inj (hkl'.symm.trans hkl)
      subst this
      rw [putM_same]
      exact ⟨Maps.has_put_same hD (K.law.key hkl) _, fun z => Maps.atKey_put_same hD (K.law.key hkl) _ _⟩
    · rw [putM_other M v e]
      have hne : kl' ≠ kl := fun ek => by subst ek; exact e (K.inj _ _ (K.law.inj hkl' hkl))
      rw [Maps.has_put_other hne]
      obtain ⟨q1, q2⟩ := h2 a' ha' kl' hkl'
      exact ⟨q1, fun z => by rw [Maps.atKey_put_other hne]; exact q2 z⟩
  · intro kl' hkl'
    by_cases e : kl' = kl
    · subst e; exact ⟨a, ha, hkl⟩
    · rw [Maps.has_put_other e] at hkl'
      exact h3 kl' hkl'

end

section
variable {α : Type} {P : Program} {kt : TypeId} {key : α → Value} {dom : α → Prop} {b : Nat} {M : α → Option Value} (w : World)

end
end Go.Proofs.Ytklbdfgblebniaa

set_option linter.unusedVariables false
set_option linter.unusedSimpArgs false
namespace Go.Proofs.Ytklbdfgblebniaa
open Go.RowKit Go.Maps Go.WideElems

abbrev PoK := Int × Int
def poVal (k : PoK) : Value := .agg #[.int .i64 k.1, .int .i64 k.2]
def poDom (k : PoK) : Prop := i64ok k.1 ∧ i64ok k.2

theorem poVal_inj (a b : PoK) (h : poVal a = poVal b) : a = b := by
  obtain ⟨a0, a1⟩ := a
  obtain ⟨b0, b1⟩ := b
  simp only [poVal, Value.agg.injEq, Array.mk.injEq, List.cons.injEq, Value.int.injEq, true_and, and_true] at h
  obtain ⟨rfl, rfl⟩ := h
  rfl

theorem i64ok_wf {x : Int} (h : i64ok x) : (Lit.int .i64 x).wf = true := by
  have hx : -9223372036854775808 ≤ x ∧ x ≤ 9223372036854775807 := h
  simpa [Lit.wf, IntKind.min, IntKind.max, IntKind.signed, IntKind.bits] using hx

theorem pair_key {P : Program} {k i : TypeId} {f1 f2 : Field} (hu : P.underlying k = some (.struct #[f1, f2])) (h1 : f1.type = i ∧ f1.offset = 0 ∧ f1.name ≠ "_") (h2 : f2.type = i ∧ f2.offset = 1 ∧ f2.name ≠ "_")
    (hi : P.underlying i = some (.int .i64)) (hk : P.keyType k = true) (hc : P.cellsOf k = 2) (hci : P.cellsOf i = 1) (hm : ∃ m, P.types.size = m + 1) (t : PoK) (ht : poDom t) : ∃ kl, keyOf P k (poVal t) = some kl := by
  obtain ⟨a, b⟩ := t
  have w1 := i64ok_wf ht.1
  have w2 := i64ok_wf ht.2
  obtain ⟨m, hm⟩ := hm
  unfold keyOf
  rw [hu]
  simp [hk, Value.formed, hu, poVal, hc, Value.cells, hm, Program.keyLits, hci, hi, w1, w2, h1, h2]

end Go.Proofs.Ytklbdfgblebniaa

set_option linter.unusedVariables false
set_option linter.unusedSimpArgs false
namespace Go.Proofs.Ytklbdfgblebniaa
open Go.RowKit

structure LinkV where
  a : Int
  p : Int
  b : Int
  q : Int
def LinkV.ok (l : LinkV) : Prop := i64ok l.a ∧ i64ok l.p ∧ i64ok l.b ∧ i64ok l.q
def LinkV.cells (l : LinkV) : List Value := [.int .i64 l.a, .int .i64 l.p, .int .i64 l.b, .int .i64 l.q]
theorem LinkV.len (l : LinkV) : l.cells.length = 4 := rfl
theorem link_get {w : World} {B b o n k : Nat} {l : List LinkV} {r : LinkV} (h : SlAt LinkV.cells 4 w B (some ⟨b, o, none⟩) n l) (hr : l[k]? = some r) : b < B ∧
    w.cell? ⟨b, o + k * 4, none⟩ = some (.int .i64 r.a) ∧ w.cell? ⟨b, o + k * 4 + 1, none⟩ = some (.int .i64 r.p) ∧ w.cell? ⟨b, o + k * 4 + 2, none⟩ = some (.int .i64 r.b) ∧ w.cell? ⟨b, o + k * 4 + 3, none⟩ = some (.int .i64 r.q) :=
  ⟨(h.get hr).1, (h.get hr).2 0 _ rfl, (h.get hr).2 1 _ rfl, (h.get hr).2 2 _ rfl, (h.get hr).2 3 _ rfl⟩

abbrev Pl := Int × Int
def LinkV.e1 (l : LinkV) : Pl := (l.a, l.p)
def LinkV.e2 (l : LinkV) : Pl := (l.b, l.q)
def eqP (x y : Pl) : Bool := (x.1 == y.1) && (x.2 == y.2)
theorem eqP_iff (x y : Pl) : eqP x y = true ↔ x = y := by
  obtain ⟨a, b⟩ := x
  obtain ⟨c, d⟩ := y
  simp [eqP]

def peerF (l : List LinkV) (x : Pl) : Option Pl :=
  match l with
  | [] => none
  | a :: l => if eqP x a.e1 then some a.e2 else if eqP x a.e2 then some a.e1 else peerF l x
theorem peerF_drop {l : List LinkV} {k : Nat} {r : LinkV} (h : l[k]? = some r) (x : Pl) : peerF (l.drop k) x = if eqP x r.e1 then some r.e2 else if eqP x r.e2 then some r.e1 else peerF (l.drop (k + 1)) x := by
  obtain ⟨hk, e⟩ := List.getElem?_eq_some_iff.1 h
  rw [List.drop_eq_getElem_cons hk, e]; rfl

def peerV (r : Option Pl) : Value := match r with
  | some x => .tuple #[.agg #[.int .i64 x.1, .int .i64 x.2], .bool true]
  | none => .tuple #[.agg #[.int .i64 0, .int .i64 0], .bool false]

def Box2 (w : World) (N : Nat) (a b : Int) : Prop := w.cell? ⟨N, 0, none⟩ = some (.int .i64 a) ∧ w.cell? ⟨N, 1, none⟩ = some (.int .i64 b) ∧ w.frozen? ⟨N, 0, none⟩ = false ∧ w.frozen? ⟨N, 1, none⟩ = false
theorem Box2.below {w w' : World} {B N : Nat} {a b : Int} (h : Box2 w N a b) (hB : Below B w w') (hN : N < B) : Box2 w' N a b := by
  have e : ∀ o, w'.cell? ⟨N, o, none⟩ = w.cell? ⟨N, o, none⟩ := fun o => hB.cell (p := ⟨N, o, none⟩) hN
  have f : ∀ o, w'.frozen? ⟨N, o, none⟩ = w.frozen? ⟨N, o, none⟩ := fun o => hB.frozen (p := ⟨N, o, none⟩) hN
  unfold Box2
  rw [e, e, f, f]
  exact h
theorem Box2.new (w : World) (a b : Int) (t : TypeId) : Box2 (w.alloc (.cells #[.int .i64 a, .int .i64 b] t)) w.heap.size a b := by
  have hbx := heap_alloc_new w (.cells #[.int .i64 a, .int .i64 b] t)
  have f : ∀ o, (w.alloc (.cells #[.int .i64 a, .int .i64 b] t)).frozen? ⟨w.heap.size, o, none⟩ = false := fun o => by unfold World.frozen?; rw [hbx]; simp
  exact ⟨by rw [cell_of_row _ _ _ _ _ _ hbx]; rfl, by rw [cell_of_row _ _ _ _ _ _ hbx]; rfl, f 0, f 1⟩

theorem nwithin_walk (n m : Int) (W : World) (B : Bool) (h : (decide (0 ≤ n) && decide (n < m)) = B) : Calls Try.prog 40 #[.int .i64 n, .int .i64 m] W fun e W' => e = .returned (.bool B) ∧ W = W' := by
  cases h1 : decide (0 ≤ n)
  · have e1 : ¬ 0 ≤ n := by simpa using h1
    have HF := hide (show false = B by rw [← h, h1]; rfl)
    clear h
    go_enter Try.func40, Try.ntmps40
    go_wp2
    go_ret
    exact ⟨ret_bool HF.out, rfl⟩
  · have HF := hide (show decide (n < m) = B by rw [← h, h1]; rfl)
    clear h
    go_enter Try.func40, Try.ntmps40
    go_wp2
    go_ret
    exact ⟨ret_bool HF.out, rfl⟩

theorem le2 (n : Nat) : n ≤ n + 1 + 1 := by omega

def portsF (k : Int) : Int := if k == 1 then 1 else if k == 2 then 4 else if k == 3 then 2 else if k == 4 then 2 else if k == 5 then 2 else 0
set_option maxRecDepth 100000 in
theorem ports_walk (k : Int) (W : World) : Calls Try.prog 8 #[.int .i64 k] W fun e W' => e = .returned (.int .i64 (portsF k)) ∧ W = W' := by
  cases h1 : (k == 1)
  case true =>
    have HF := hide (show portsF k = 1 from by simp [portsF, h1])
    rw [HF.out]
    go_enter Try.func8, Try.ntmps8
    go_wp2
    go_ret
    exact ⟨rfl, rfl⟩
  cases h2 : (k == 2)
  case true =>
    have HF := hide (show portsF k = 4 from by simp [portsF, h1, h2])
    rw [HF.out]
    go_enter Try.func8, Try.ntmps8
    go_wp2
    go_ret
    exact ⟨rfl, rfl⟩
  cases h3 : (k == 3)
  case true =>
    have HF := hide (show portsF k = 2 from by simp [portsF, h1, h2, h3])
    rw [HF.out]
    go_enter Try.func8, Try.ntmps8
    go_wp2
    go_ret
    exact ⟨rfl, rfl⟩
  cases h4 : (k == 4)
  case true =>
    have HF := hide (show portsF k = 2 from by simp [portsF, h1, h2, h3, h4])
    rw [HF.out]
    go_enter Try.func8, Try.ntmps8
    go_wp2
    go_ret
    exact ⟨rfl, rfl⟩
  cases h5 : (k == 5)
  case true =>
    have HF := hide (show portsF k = 2 from by simp [portsF, h1, h2, h3, h4, h5])
    rw [HF.out]
    go_enter Try.func8, Try.ntmps8
    go_wp2
    go_ret
    exact ⟨rfl, rfl⟩
  · have HF := hide (show portsF k = 0 from by simp [portsF, h1, h2, h3, h4, h5])
    rw [HF.out]
    go_enter Try.func8, Try.ntmps8
    go_wp2
    go_ret
    exact ⟨rfl, rfl⟩

set_option maxRecDepth 100000 in
set_option maxHeartbeats 8000000 in
theorem peer_walk (l : List LinkV) (D : Value) (b o n c : Nat) (x y : Int) (W : World) (hn : n ≤ 9223372036854775807) (hl : SlAt LinkV.cells 4 W W.heap.size (some ⟨b, o, none⟩) n l) (h0 : 0 < n)
    (dA : Option Addr) (dn dc : Nat) (hD : D = .slice dA dn dc) :
    Calls Try.prog 63 #[.agg #[.slice dA dn dc, .slice (some ⟨b, o, none⟩) n c], .agg #[.int .i64 x, .int .i64 y]] W fun e W' => e = .returned (peerV (peerF l (x, y))) ∧ Below W.heap.size W W' := by
  have HL := hide hl
  have HB0 := hide (fun o0 o1 o2 => show Below W.heap.size W (((W.alloc o0).alloc o1).alloc o2) from (((Below.refl _ _).alloc (Nat.le_refl _) _).alloc (by simp) _).alloc (by simp; omega) _)
  clear hl hD
  go_enter Try.func63, Try.ntmps63
  go_wp2
  have hw0 : (((W.alloc (.cells #[.slice dA dn dc, .slice (some ⟨b, o, none⟩) n c] 25)).alloc (.cells #[.int .i64 x, .int .i64 y] 43)).alloc (.cells #[.int .i64 0, .int .i64 0] 43)).heap.size = W.heap.size + 3 := by simp
  have HX0 := hide (show Box2 (((W.alloc (.cells #[.slice dA dn dc, .slice (some ⟨b, o, none⟩) n c] 25)).alloc (.cells #[.int .i64 x, .int .i64 y] 43)).alloc (.cells #[.int .i64 0, .int .i64 0] 43)) (W.heap.size + 1) x y from by
    have := (Box2.new (W.alloc (.cells #[.slice dA dn dc, .slice (some ⟨b, o, none⟩) n c] 25)) x y 43).below ((Below.refl _ _).alloc (Nat.le_refl _) (.cells #[.int .i64 0, .int .i64 0] 43)) (by simp)
    simpa using this)
  have HZ0 := hide (show Box2 (((W.alloc (.cells #[.slice dA dn dc, .slice (some ⟨b, o, none⟩) n c] 25)).alloc (.cells #[.int .i64 x, .int .i64 y] 43)).alloc (.cells #[.int .i64 0, .int .i64 0] 43)) (W.heap.size + 1 + 1) 0 0 from by
    have := (Box2.new ((W.alloc (.cells #[.slice dA dn dc, .slice (some ⟨b, o, none⟩) n c] 25)).alloc (.cells #[.int .i64 x, .int .i64 y] 43)) 0 0 43)
    simpa using this)
  have HB1 := hide (HB0.out (.cells #[.slice dA dn dc, .slice (some ⟨b, o, none⟩) n c] 25) (.cells #[.int .i64 x, .int .i64 y] 43) (.cells #[.int .i64 0, .int .i64 0] 43))
  generalize World.alloc _ _ = w0 at *
  go_loopw [13] (fun i wr => ∃ k : Nat, k ≤ n ∧ i = .int .i64 k ∧ Below W.heap.size W wr ∧ Hid (Box2 wr (W.heap.size + 1) x y) ∧ Hid (Box2 wr (W.heap.size + 1 + 1) 0 0) ∧ W.heap.size + 3 ≤ wr.heap.size ∧ Hid (peerF l (x, y) = peerF (l.drop k) (x, y))) (fun i _ => n - (intOf i).toNat)
  case atStart => exact ⟨0, Nat.zero_le _, rfl, HB1.out, HX0, HZ0, by omega, hide rfl⟩
  case round =>
    clear HX0 HZ0 HB1 hw0 HB0
    obtain ⟨k, hk, rfl, hb, HX, HZ, hsz, HE⟩ := hrel
    have HB := hide hb
    clear hb
    by_cases hlt : k < n
    · obtain ⟨r, hr⟩ : ∃ r, l[k]? = some r := ⟨_, List.getElem?_eq_getElem (by have := HL.out.1; omega)⟩
      obtain ⟨hbB, q0, q1, q2, q3⟩ := link_get (HL.out.below HB.out HB.out.size) hr
      have HS := hide (peerF_drop hr (x, y))
      obtain ⟨ra, rp, rb, rq⟩ := r
      have hx1 := fun (o1 o2 o3 : Obj) => (World.cell?_alloc_lt ((wr.alloc o1).alloc o2) o3 ⟨W.heap.size + 1, 0, none⟩ (by simp; omega)).trans ((World.cell?_alloc_lt (wr.alloc o1) o2 ⟨W.heap.size + 1, 0, none⟩ (by simp; omega)).trans ((World.cell?_alloc_lt wr o1 ⟨W.heap.size + 1, 0, none⟩ (by simp; omega)).trans HX.out.1))
      have hx2 := fun (o1 o2 o3 : Obj) => (World.cell?_alloc_lt ((wr.alloc o1).alloc o2) o3 ⟨W.heap.size + 1, 1, none⟩ (by simp; omega)).trans ((World.cell?_alloc_lt (wr.alloc o1) o2 ⟨W.heap.size + 1, 1, none⟩ (by simp; omega)).trans ((World.cell?_alloc_lt wr o1 ⟨W.heap.size + 1, 1, none⟩ (by simp; omega)).trans HX.out.2.1))
      clear hr
      go_wp2
      clear q0 q1 q2 q3
      obtain ⟨N, hN⟩ : ∃ N, wr.heap.size = N := ⟨_, rfl⟩
      have hbx := heap_alloc_new wr (.cells #[.int .i64 ra, .int .i64 rp, .int .i64 rb, .int .i64 rq] 36)
      have hsx : (wr.alloc (.cells #[.int .i64 ra, .int .i64 rp, .int .i64 rb, .int .i64 rq] 36)).heap.size = wr.heap.size + 1 := by simp
      have HBw := hide (HB.out.alloc HB.out.size (.cells #[.int .i64 ra, .int .i64 rp, .int .i64 rb, .int .i64 rq] 36))
      rw [hN] at hbx hsx hsz ⊢
      have HXw := hide (HX.out.below ((Below.refl _ wr).alloc (Nat.le_refl _) (.cells #[.int .i64 ra, .int .i64 rp, .int .i64 rb, .int .i64 rq] 36)) (by omega))
      have HZw := hide (HZ.out.below ((Below.refl _ wr).alloc (Nat.le_refl _) (.cells #[.int .i64 ra, .int .i64 rp, .int .i64 rb, .int .i64 rq] 36)) (by omega))
      generalize wr.alloc _ = wx at *
      have y0 : wx.cell? ⟨N, 0, none⟩ = some (.int .i64 ra) := by rw [cell_of_row _ _ _ _ _ _ hbx]; rfl
      have y1 : wx.cell? ⟨N, 1, none⟩ = some (.int .i64 rp) := by rw [cell_of_row _ _ _ _ _ _ hbx]; rfl
      have y2 : wx.cell? ⟨N, 2, none⟩ = some (.int .i64 rb) := by rw [cell_of_row _ _ _ _ _ _ hbx]; rfl
      have y3 : wx.cell? ⟨N, 3, none⟩ = some (.int .i64 rq) := by rw [cell_of_row _ _ _ _ _ _ hbx]; rfl
      clear hbx hx1 hx2 hN
      have hNx : N < wx.heap.size := by omega
      have hWx : W.heap.size + 3 ≤ wx.heap.size := by omega
      have HF1 : Hid (∀ (u v : Pl), Below wx.heap.size wx ((wx.alloc (.cells #[.int .i64 u.1, .int .i64 u.2] 43)).alloc (.cells #[.int .i64 v.1, .int .i64 v.2] 43)) ∧ ((wx.alloc (.cells #[.int .i64 u.1, .int .i64 u.2] 43)).alloc (.cells #[.int .i64 v.1, .int .i64 v.2] 43)).heap.size = N + 3 ∧
          Box2 ((wx.alloc (.cells #[.int .i64 u.1, .int .i64 u.2] 43)).alloc (.cells #[.int .i64 v.1, .int .i64 v.2] 43)) (N + 1) u.1 u.2 ∧ Box2 ((wx.alloc (.cells #[.int .i64 u.1, .int .i64 u.2] 43)).alloc (.cells #[.int .i64 v.1, .int .i64 v.2] 43)) (N + 1 + 1) v.1 v.2) := hide (fun u v => by
        have hb1 : Below wx.heap.size wx (wx.alloc (.cells #[.int .i64 u.1, .int .i64 u.2] 43)) := (Below.refl _ _).alloc (Nat.le_refl _) _
        have hs : (wx.alloc (.cells #[.int .i64 u.1, .int .i64 u.2] 43)).heap.size = N + 1 + 1 := by rw [← hsx]; simp
        have b1 := Box2.new wx u.1 u.2 43
        have b2 := Box2.new (wx.alloc (.cells #[.int .i64 u.1, .int .i64 u.2] 43)) v.1 v.2 43
        rw [hsx] at b1
        rw [hs] at b2
        refine ⟨hb1.alloc hb1.size _, by simp; omega, b1.below ((Below.refl _ _).alloc (Nat.le_refl _) _) (by omega), b2⟩)
      go_region_held3 (fun w' => w'.cell? ⟨N, 0, none⟩ = some (.int .i64 ra) ∧ w'.cell? ⟨N, 1, none⟩ = some (.int .i64 rp) ∧ w'.cell? ⟨N, 2, none⟩ = some (.int .i64 rb) ∧ w'.cell? ⟨N, 3, none⟩ = some (.int .i64 rq)) (go_keep) (fail)
      · obtain ⟨hbz, hsz3, b1, b2⟩ := HF1.out (ra, rp) (rb, rq)
        have HBz := hide (HBw.out.trans (hbz.mono (by have := HBw.out.size; omega)))
        have HXz := hide (HXw.out.below hbz (by omega))
        have HZz := hide (HZw.out.below hbz (by omega))
        generalize World.alloc (World.alloc wx _) _ = wz at *
        have hsz' : W.heap.size + 3 ≤ wz.heap.size := by omega
        obtain ⟨u0, u1, _, _⟩ := b1
        obtain ⟨v0, v1, _, _⟩ := b2
        obtain ⟨x0, x1, _, _⟩ := HXz.out
        clear hbz HF1
        cases e1 : (x == ra)
        · cases e3 : (x == rb)
          · have HN := hide (show peerF l (x, y) = peerF (l.drop (k + 1)) (x, y) from by rw [HE.out, HS.out]; simp [eqP, LinkV.e1, LinkV.e2, e1, e3])
            go_wp2
            go_roundw
            case rel => exact ⟨k + 1, by omega, by go_num, HBz.out.drew, HXz, HZz, hsz', HN⟩
            case measure => simp [intOf]; omega
          · cases e4 : (y == rq)
            · have HN := hide (show peerF l (x, y) = peerF (l.drop (k + 1)) (x, y) from by rw [HE.out, HS.out]; simp [eqP, LinkV.e1, LinkV.e2, e1, e3, e4])
              go_wp2
              go_roundw
              case rel => exact ⟨k + 1, by omega, by go_num, HBz.out.drew, HXz, HZz, hsz', HN⟩
              case measure => simp [intOf]; omega
            · have HN := hide (show peerF l (x, y) = some (ra, rp) from by rw [HE.out, HS.out]; simp [eqP, LinkV.e1, LinkV.e2, e1, e3, e4])
              obtain ⟨z0, z1, z2, z3⟩ := HZz.out
              go_wp2
              refine bodyPost_ret (v := .tuple #[.agg #[.int .i64 ra, .int .i64 rp], .bool true]) (by simp [results, Try.results63, go_sem, z0, z1]) rfl ⟨by rw [HN.out]; rfl, ?_⟩
              first | exact ((HBz.out.setCell (le2 _) _).setCell (le2 _) _).drew | exact ((HBz.out.drew.setCell (le2 _) _).setCell (le2 _) _)
        · cases e2 : (y == rp)
          · cases e3 : (x == rb)
            · have HN := hide (show peerF l (x, y) = peerF (l.drop (k + 1)) (x, y) from by rw [HE.out, HS.out]; simp [eqP, LinkV.e1, LinkV.e2, e1, e2, e3])
              go_wp2
              go_roundw
              case rel => exact ⟨k + 1, by omega, by go_num, HBz.out.drew, HXz, HZz, hsz', HN⟩
              case measure => simp [intOf]; omega
            · cases e4 : (y == rq)
              · have HN := hide (show peerF l (x, y) = peerF (l.drop (k + 1)) (x, y) from by rw [HE.out, HS.out]; simp [eqP, LinkV.e1, LinkV.e2, e1, e2, e3, e4])
                go_wp2
                go_roundw
                case rel => exact ⟨k + 1, by omega, by go_num, HBz.out.drew, HXz, HZz, hsz', HN⟩
                case measure => simp [intOf]; omega
              · have HN := hide (show peerF l (x, y) = some (ra, rp) from by rw [HE.out, HS.out]; simp [eqP, LinkV.e1, LinkV.e2, e1, e2, e3, e4])
                obtain ⟨z0, z1, z2, z3⟩ := HZz.out
                go_wp2
                refine bodyPost_ret (v := .tuple #[.agg #[.int .i64 ra, .int .i64 rp], .bool true]) (by simp [results, Try.results63, go_sem, z0, z1]) rfl ⟨by rw [HN.out]; rfl, ?_⟩
                first | exact ((HBz.out.setCell (le2 _) _).setCell (le2 _) _).drew | exact ((HBz.out.drew.setCell (le2 _) _).setCell (le2 _) _)
          · have HN := hide (show peerF l (x, y) = some (rb, rq) from by rw [HE.out, HS.out]; simp [eqP, LinkV.e1, LinkV.e2, e1, e2])
            obtain ⟨z0, z1, z2, z3⟩ := HZz.out
            go_wp2
            refine bodyPost_ret (v := .tuple #[.agg #[.int .i64 rb, .int .i64 rq], .bool true]) (by simp [results, Try.results63, go_sem, z0, z1]) rfl ⟨by rw [HN.out]; rfl, ?_⟩
            first | exact ((HBz.out.setCell (le2 _) _).setCell (le2 _) _).drew | exact ((HBz.out.drew.setCell (le2 _) _).setCell (le2 _) _)
      · obtain ⟨hbz, hsz3, b1, b2⟩ := HF1.out (rb, rq) (ra, rp)
        have HBz := hide (HBw.out.trans (hbz.mono (by have := HBw.out.size; omega)))
        have HXz := hide (HXw.out.below hbz (by omega))
        have HZz := hide (HZw.out.below hbz (by omega))
        generalize World.alloc (World.alloc wx _) _ = wz at *
        have hsz' : W.heap.size + 3 ≤ wz.heap.size := by omega
        obtain ⟨u0, u1, _, _⟩ := b1
        obtain ⟨v0, v1, _, _⟩ := b2
        obtain ⟨x0, x1, _, _⟩ := HXz.out
        clear hbz HF1
        cases e1 : (x == ra)
        · cases e3 : (x == rb)
          · have HN := hide (show peerF l (x, y) = peerF (l.drop (k + 1)) (x, y) from by rw [HE.out, HS.out]; simp [eqP, LinkV.e1, LinkV.e2, e1, e3])
            go_wp2
            go_roundw
            case rel => exact ⟨k + 1, by omega, by go_num, HBz.out.drew, HXz, HZz, hsz', HN⟩
            case measure => simp [intOf]; omega
          · cases e4 : (y == rq)
            · have HN := hide (show peerF l (x, y) = peerF (l.drop (k + 1)) (x, y) from by rw [HE.out, HS.out]; simp [eqP, LinkV.e1, LinkV.e2, e1, e3, e4])
              go_wp2
              go_roundw
              case rel => exact ⟨k + 1, by omega, by go_num, HBz.out.drew, HXz, HZz, hsz', HN⟩
              case measure => simp [intOf]; omega
            · have HN := hide (show peerF l (x, y) = some (ra, rp) from by rw [HE.out, HS.out]; simp [eqP, LinkV.e1, LinkV.e2, e1, e3, e4])
              obtain ⟨z0, z1, z2, z3⟩ := HZz.out
              go_wp2
              refine bodyPost_ret (v := .tuple #[.agg #[.int .i64 ra, .int .i64 rp], .bool true]) (by simp [results, Try.results63, go_sem, z0, z1]) rfl ⟨by rw [HN.out]; rfl, ?_⟩
              first | exact ((HBz.out.setCell (le2 _) _).setCell (le2 _) _).drew | exact ((HBz.out.drew.setCell (le2 _) _).setCell (le2 _) _)
        · cases e2 : (y == rp)
          · cases e3 : (x == rb)
            · have HN := hide (show peerF l (x, y) = peerF (l.drop (k + 1)) (x, y) from by rw [HE.out, HS.out]; simp [eqP, LinkV.e1, LinkV.e2, e1, e2, e3])
              go_wp2
              go_roundw
              case rel => exact ⟨k + 1, by omega, by go_num, HBz.out.drew, HXz, HZz, hsz', HN⟩
              case measure => simp [intOf]; omega
            · cases e4 : (y == rq)
              · have HN := hide (show peerF l (x, y) = peerF (l.drop (k + 1)) (x, y) from by rw [HE.out, HS.out]; simp [eqP, LinkV.e1, LinkV.e2, e1, e2, e3, e4])
                go_wp2
                go_roundw
                case rel => exact ⟨k + 1, by omega, by go_num, HBz.out.drew, HXz, HZz, hsz', HN⟩
                case measure => simp [intOf]; omega
              · have HN := hide (show peerF l (x, y) = some (ra, rp) from by rw [HE.out, HS.out]; simp [eqP, LinkV.e1, LinkV.e2, e1, e2, e3, e4])
                obtain ⟨z0, z1, z2, z3⟩ := HZz.out
                go_wp2
                refine bodyPost_ret (v := .tuple #[.agg #[.int .i64 ra, .int .i64 rp], .bool true]) (by simp [results, Try.results63, go_sem, z0, z1]) rfl ⟨by rw [HN.out]; rfl, ?_⟩
                first | exact ((HBz.out.setCell (le2 _) _).setCell (le2 _) _).drew | exact ((HBz.out.drew.setCell (le2 _) _).setCell (le2 _) _)
          · have HN := hide (show peerF l (x, y) = some (rb, rq) from by rw [HE.out, HS.out]; simp [eqP, LinkV.e1, LinkV.e2, e1, e2])
            obtain ⟨z0, z1, z2, z3⟩ := HZz.out
            go_wp2
            refine bodyPost_ret (v := .tuple #[.agg #[.int .i64 rb, .int .i64 rq], .bool true]) (by simp [results, Try.results63, go_sem, z0, z1]) rfl ⟨by rw [HN.out]; rfl, ?_⟩
            first | exact ((HBz.out.setCell (le2 _) _).setCell (le2 _) _).drew | exact ((HBz.out.drew.setCell (le2 _) _).setCell (le2 _) _)
    · have HN := hide (show peerF l (x, y) = none from by rw [HE.out, List.drop_of_length_le (by have := HL.out.1; omega)]; rfl)
      obtain ⟨z0, z1, z2, z3⟩ := HZ.out
      go_wp2
      refine bodyPost_ret (v := .tuple #[.agg #[.int .i64 0, .int .i64 0], .bool false]) (by simp [results, Try.results63, go_sem, z0, z1]) rfl ⟨by rw [HN.out]; rfl, ?_⟩
      exact (HB.out.setCell (le2 _) _).setCell (le2 _) _
end Go.Proofs.Ytklbdfgblebniaa

set_option linter.unusedVariables false
set_option linter.unusedSimpArgs false
namespace Go.Proofs.Ytklbdfgblebniaa
open Go.RowKit Go.Maps Go.WideElems

def RangeIs {α : Type} (P : Program) (kt : TypeId) (key : α → Value) (dom : α → Prop) (w : World) (b r : Nat) (M : α → Option Value) (left : α → Bool) (cnt : Nat) : Prop :=
  ∃ D lf, w.ranges P kt heldR b r (Maps.size D) D lf cnt ∧
    (∀ a, dom a → ∀ kl, keyOf P kt (key a) = some kl → Maps.has D kl = (M a).isSome ∧ ∀ z, D.atKey kl (.held z) = .held ((M a).getD z)) ∧
    (∀ kl, Maps.has D kl = true → ∃ a, dom a ∧ keyOf P kt (key a) = some kl) ∧
    (∀ a, dom a → ∀ kl, keyOf P kt (key a) = some kl → lf kl = left a) ∧ (∀ kl, lf kl = true → Maps.has D kl = true)

section
variable {α : Type} {P : Program} {kt : TypeId} {key : α → Value} {dom : α → Prop} {w w' : World} {b r cnt : Nat} {M : α → Option Value} {left : α → Bool}

theorem RangeIs.map (h : RangeIs P kt key dom w b r M left cnt) : MapIs P kt key dom w b M := by
  obtain ⟨D, lf, h1, h2, h3, _⟩ := h
  exact ⟨D, h1.owns, h2, h3⟩
theorem RangeIs.kept {row : Option Nat} (h : RangeIs P kt key dom w b r M left cnt) (hg : w.grownBy w' row) (hb : some b ≠ row) (hr : some r ≠ row) : RangeIs P kt key dom w' b r M left cnt := by
  obtain ⟨D, lf, h1, h2⟩ := h
  exact ⟨D, lf, h1.kept hg hb hr, h2⟩
theorem RangeIs.below (h : RangeIs P kt key dom w b r M left cnt) (hb : RowKit.Below w.heap.size w w') : RangeIs P kt key dom w' b r M left cnt :=
  h.kept (row := none) ⟨hb.os, hb.tape, hb.output, hb.size, fun k hk _ => hb.block k hk⟩ (by simp) (by simp)
theorem RangeIs.left_eq (h : RangeIs P kt key dom w b r M left cnt) : w.rangeLeft b r = cnt := by
  obtain ⟨D, lf, h1, h2⟩ := h
  exact h1.left_eq
theorem RangeIs.lt (h : RangeIs P kt key dom w b r M left cnt) : r < w.heap.size := by
  obtain ⟨D, lf, h1, h2⟩ := h
  exact h1.lt

theorem MapIs.range {t et : TypeId} (h : MapIs P kt key dom w b M) (K : KeysAny P kt key dom) (ht : P.underlying t = some (.map kt et)) :
    ∃ w' cnt, (Instr.range t (.map (some b))).run P w = .ok (.pointer (some ⟨w.heap.size, 0, none⟩)) w' ∧ RangeIs P kt key dom w' b w.heap.size M (fun a => (M a).isSome) cnt ∧ w.grownBy w' none ∧ w'.heap.size = w.heap.size + 1 := by
  obtain ⟨D, h1, h2, h3⟩ := h
  obtain ⟨w', hrun, hrg, hg, hs⟩ := h1.range K.law ht
  exact ⟨w', _, hrun, ⟨D, _, hrg, h2, h3, fun a ha kl hkl => (h2 a ha kl hkl).1, fun _ h => h⟩, hg, hs⟩

theorem RangeIs.next [DecidableEq α] (h : RangeIs P kt key dom w b r M left cnt) (K : KeysAny P kt key dom) (ty : TypeId) :
    (cnt = 0 ∧ (∀ a, dom a → left a = false) ∧ (Instr.next (.pointer (some ⟨r, 0, none⟩)) false ty).run P w = .ok (.tuple #[.bool false]) w) ∨
    ∃ a v w' cnt', dom a ∧ left a = true ∧ M a = some v ∧ (Instr.next (.pointer (some ⟨r, 0, none⟩)) false ty).run P w = .ok (.tuple #[.bool true, key a, v]) w' ∧
      RangeIs P kt key dom w' b r M (fun x => left x && decide (x ≠ a)) cnt' ∧ cnt' < cnt ∧ w.grownBy w' (some r) ∧ w'.heap.size = w.heap.size ∧ (Instr.entry (.pointer (some ⟨r, 0, none⟩))).run P w' = .ok (.tuple #[key a, v]) w' := by
  obtain ⟨D, lf, h1, h2, h3, h4, h5⟩ := h
  rcases h1.next K.law ty with ⟨e1, e2, e3⟩ | ⟨kv, v, kl, y, w', cnt', q1, q2, q3, q4, q5, q6, q7, q8, q9, q10⟩
  · refine .inl ⟨e1, fun a ha => ?_, e3⟩
    obtain ⟨kl, hkl⟩ := K.total a ha
    rw [← h4 a ha kl hkl, e2 kl]
  · obtain ⟨a, ha, hka⟩ := h3 kl (h5 kl q2)
    obtain rfl : kv = key a := K.law.inj q1 hka
    obtain ⟨r1, r2⟩ := h2 a ha kl hka
    have hM : (M a).isSome = true := by rw [← r1, h5 kl q2]
    obtain ⟨u, hu⟩ := Option.isSome_iff_exists.1 hM
    have hv : v = u := by
      have e1 := q4 (.held v)
      rw [r2 v, hu] at e1
      simp only [heldR, Option.some.injEq] at q3
      rw [← q3] at e1
      simp only [Option.getD_some, DataW.held.injEq] at e1
      exact e1.symm
    subst hv
    refine .inr ⟨a, v, w', cnt', ha, by rw [← h4 a ha kl hka]; exact q2, hu, q5, ⟨D, _, q6, h2, h3, fun x hx kx hkx => ?_, fun k hk => ?_⟩, q7, q8, q9, q10⟩
    · rw [h4 x hx kx hkx]
      congr 1
      by_cases e : x = a
      · subst e
        obtain rfl : kx = kl := Option.some.inj (hkx.symm.trans hka)
        simp [WideAt.sameKey_self (K.law.key hka)]
      · have hne : kx ≠ kl := fun ek => by subst ek; exact e (K.inj _ _ (K.law.inj hkx hka))
        cases hs : kx.sameKey kl
        · simp [e]
        · exact absurd (WideAt.sameKey_eq hs) hne
    · simp only [Bool.and_eq_true] at hk
      exact h5 k hk.1
end

section
variable {α : Type} {P : Program} {kt : TypeId} {key : α → Value} {dom : α → Prop} {b r cnt : Nat} {M : α → Option Value} {left : α → Bool} (w : World)

theorem wpList_rangeM {ops : Array Oper} {rest : List Oper} {o : Oper} {a : Act} {Q : Exit → Act → World → Prop} (hg : o.guard = none) (m : Operand) (t : TypeId) (hop : o.op = Op.range t m) (et : TypeId) (K : KeysAny P kt key dom) (ht : P.underlying t = some (.map kt et))
    (hm : a.eval m = .map (some b)) (h : MapIs P kt key dom w b M)
    (hK : ∀ w' cnt, RangeIs P kt key dom w' b w.heap.size M (fun a => (M a).isSome) cnt → w.grownBy w' none → w'.heap.size = w.heap.size + 1 → wpList P ops Q rest (a.put o.dst (.pointer (some ⟨w.heap.size, 0, none⟩))) w') :
    wpList P ops Q (o :: rest) a w := by
  refine wpList_plain hg fun K' hK' => ?_
  obtain ⟨w', cnt, hrun, r1, r2, r3⟩ := h.range K ht
  unfold Oper.wp
  simp [execOp, hop, hm, hrun, Result.andThen]
  exact hK' _ _ (hK w' cnt r1 r2 r3)

theorem wpList_nextM [DecidableEq α] {ops : Array Oper} {rest : List Oper} {o : Oper} {a : Act} {Q : Exit → Act → World → Prop} (hg : o.guard = none) (it : Operand) (hop : o.op = Op.next it false) (K : KeysAny P kt key dom) (hit : a.eval it = .pointer (some ⟨r, 0, none⟩))
    (h : RangeIs P kt key dom w b r M left cnt)
    (hDone : cnt = 0 → (∀ a, dom a → left a = false) → wpList P ops Q rest (a.put o.dst (.tuple #[.bool false])) w)
    (hMore : ∀ k v w' cnt', dom k → left k = true → M k = some v → RangeIs P kt key dom w' b r M (fun x => left x && decide (x ≠ k)) cnt' → cnt' < cnt → w.grownBy w' (some r) → w'.heap.size = w.heap.size →
      (Instr.entry (.pointer (some ⟨r, 0, none⟩))).run P w' = .ok (.tuple #[key k, v]) w' → wpList P ops Q rest (a.put o.dst (.tuple #[.bool true, key k, v])) w') :
    wpList P ops Q (o :: rest) a w := by
  refine wpList_plain hg fun K' hK' => ?_
  unfold Oper.wp
  rcases h.next K o.type with ⟨h0, hl, hrun⟩ | ⟨k, v, w', cnt', q1, q2, q3, hrun, q4, q5, q6, q7, q8⟩
  · simp [execOp, hop, hit, hrun, Result.andThen]
    exact hK' _ _ (hDone h0 hl)
  · simp [execOp, hop, hit, hrun, Result.andThen]
    exact hK' _ _ (hMore k v w' cnt' q1 q2 q3 q4 q5 q6 q7 q8)
end

theorem rowPlace : decide (43 < Try.prog.types.size) = true := by kernel_rfl
theorem atPlace : Try.prog.keyTypeAt 2 43 = true := by kernel_rfl
theorem keyPlace : Try.prog.keyType 43 = true := by kernel_rfl
theorem cellsPl2 : Try.prog.cellsOf 43 = 2 := by kernel_rfl
theorem lawPlace : Keyed Try.prog 43 := Keyed.of_law (deep_law_laid Try.laidOut (m := 2) (by omega) (of_decide_eq_true rowPlace) atPlace (by rw [Try.underlying43]))
theorem placeKeys : KeysAny Try.prog 43 poVal poDom :=
  ⟨lawPlace, pair_key Try.underlying43 ⟨rfl, rfl, by decide⟩ ⟨rfl, rfl, by decide⟩ Try.underlying3 keyPlace cellsPl2 cellsI types_succ, poVal_inj⟩
end Go.Proofs.Ytklbdfgblebniaa
