/- What a memory of package step knows, and where it stands. -/
import Derived.Test.YtidikopjfpioaaaStepDev
import Derived.Test.YtidikopjfpioaaaPeer
set_option linter.unusedVariables false
set_option linter.unusedSimpArgs false
namespace Go.Proofs.Ytidikopjfpioaaa
open Go.RowKit Go.Maps

instance P4.decEq : DecidableEq P4 := fun a b =>
  if h : a.src = b.src ∧ a.dst = b.dst ∧ a.sport = b.sport ∧ a.dport = b.dport then isTrue (by
    obtain ⟨a0, a1, a2, a3⟩ := a
    obtain ⟨b0, b1, b2, b3⟩ := b
    obtain ⟨h1, h2, h3, h4⟩ := h
    simp only at h1 h2 h3 h4
    subst h1 h2 h3 h4
    rfl) else isFalse (fun e => h (by subst e; exact ⟨rfl, rfl, rfl, rfl⟩))

/-- What a memory knows. -/
structure MS where
  F : OfK → Bool
  O : PoK → Option (Int × Int)
  B : OfK → Option Int
def MS.empty : MS := ⟨fun _ => false, fun _ => none, fun _ => none⟩
inductive Know where
  | nothing
  | flow (k : OfK)
  | owner (k : PoK) (o : Int × Int)
  | back (k : OfK) (b : Int)
def MS.learn (M : MS) : Know → MS
  | .nothing => M
  | .flow k => { M with F := fun x => if x = k then true else M.F x }
  | .owner k o => { M with O := fun x => if x = k then some o else M.O x }
  | .back k b => { M with B := fun x => if x = k then some b else M.B x }
inductive Gone where
  | flow (k : OfK)
  | owner (k : PoK)
  | back (k : OfK)
def MS.drop (M : MS) : Gone → MS
  | .flow k => { M with F := fun x => if x = k then false else M.F x }
  | .owner k => { M with O := fun x => if x = k then none else M.O x }
  | .back k => { M with B := fun x => if x = k then none else M.B x }
def ownV (o : Int × Int) : Value := .agg #[.int .i64 o.1, .int .i64 o.2]
def flowsV (M : MS) : OfK → Option Value := fun k => if M.F k then some (.bool true) else none
def ownersV (M : MS) : PoK → Option Value := fun k => (M.O k).map ownV
def backsV (M : MS) : OfK → Option Value := fun k => (M.B k).map fun b => .int .i64 b
theorem flowsV_learn (M : MS) (k : OfK) : putM (flowsV M) k (.bool true) = flowsV (M.learn (.flow k)) := by
  funext x
  simp only [putM, flowsV, MS.learn]
  by_cases h : x = k <;> simp [h]
theorem ownersV_learn (M : MS) (k : PoK) (o : Int × Int) : putM (ownersV M) k (ownV o) = ownersV (M.learn (.owner k o)) := by
  funext x
  simp only [putM, ownersV, MS.learn]
  by_cases h : x = k <;> simp [h]
theorem backsV_learn (M : MS) (k : OfK) (b : Int) : putM (backsV M) k (.int .i64 b) = backsV (M.learn (.back k b)) := by
  funext x
  simp only [putM, backsV, MS.learn]
  by_cases h : x = k <;> simp [h]
theorem flowsV_drop (M : MS) (k : OfK) : cutM (flowsV M) k = flowsV (M.drop (.flow k)) := by
  funext x
  simp only [cutM, flowsV, MS.drop]
  by_cases h : x = k <;> simp [h]
theorem ownersV_drop (M : MS) (k : PoK) : cutM (ownersV M) k = ownersV (M.drop (.owner k)) := by
  funext x
  simp only [cutM, ownersV, MS.drop]
  by_cases h : x = k <;> simp [h]
theorem backsV_drop (M : MS) (k : OfK) : cutM (backsV M) k = backsV (M.drop (.back k)) := by
  funext x
  simp only [cutM, backsV, MS.drop]
  by_cases h : x = k <;> simp [h]

/-- w' is w but for the blocks of which p holds, below block number B. -/
structure Near (p : Nat → Prop) (B : Nat) (w w' : World) : Prop where
  os : w'.os = w.os
  tape : w'.tape = w.tape
  output : w'.output = w.output
  size : w.heap.size ≤ w'.heap.size
  block : ∀ k, k < B → ¬ p k → w'.heap[k]? = w.heap[k]?
section
variable {p q : Nat → Prop} {B B' : Nat} {w w' w'' : World}
theorem Near.refl (p : Nat → Prop) (B : Nat) (w : World) : Near p B w w := ⟨rfl, rfl, rfl, Nat.le_refl _, fun _ _ _ => rfl⟩
theorem Near.trans (h : Near p B w w') (k : Near p B w' w'') : Near p B w w'' :=
  ⟨k.os.trans h.os, k.tape.trans h.tape, k.output.trans h.output, Nat.le_trans h.size k.size, fun i hi hp => (k.block i hi hp).trans (h.block i hi hp)⟩
theorem Near.mono (h : Near p B w w') (hB : B' ≤ B) : Near p B' w w' := ⟨h.os, h.tape, h.output, h.size, fun k hk hp => h.block k (by omega) hp⟩
theorem Near.weak (h : Near p B w w') (hq : ∀ k, p k → q k) : Near q B w w' := ⟨h.os, h.tape, h.output, h.size, fun k hk hp => h.block k hk (fun e => hp (hq k e))⟩
theorem Near.of_below (h : Below B w w') : Near p B w w' := ⟨h.os, h.tape, h.output, h.size, fun k hk _ => h.block k hk⟩
theorem Near.below (h : Near p B w w') (hB : B' ≤ B) (hp : ∀ k, p k → B' ≤ k) : Below B' w w' :=
  ⟨h.os, h.tape, h.output, h.size, fun k hk => h.block k (by omega) (fun e => by have := hp k e; omega)⟩
theorem Near.of_turned {b : Nat} (h : w.mapTurned w' b) (hb : p b) : Near p w.heap.size w w' :=
  ⟨h.grown.os, h.grown.tape, h.grown.output, h.grown.size, fun k hk hp => h.grown.block k hk (fun e => hp (by cases e; exact hb))⟩
theorem Near.cell (h : Near p B w w') {a : Addr} (ha : a.block < B) (hp : ¬ p a.block) : w'.cell? a = w.cell? a := World.cell?_of_block (w := w) (h.block a.block ha hp)
theorem Near.frozen (h : Near p B w w') {a : Addr} (ha : a.block < B) (hp : ¬ p a.block) : w'.frozen? a = w.frozen? a := World.frozen?_of_block (w := w) (h.block a.block ha hp)
end

def Is3 (f o b : Nat) (k : Nat) : Prop := k = f ∨ k = o ∨ k = b

/-- The memory in block g, of the net n, with its maps in blocks f, o, b, knows M, by at most k of each. -/
structure MemAt (w : World) (g : Nat) (n : NetV) (f o b : Nat) (M : MS) (k : Nat) : Prop where
  c0 : w.cell? ⟨g, 0, none⟩ = some (.slice n.dA n.dn n.dc)
  c1 : w.cell? ⟨g, 1, none⟩ = some (.slice n.lA n.ln n.lc)
  c2 : w.cell? ⟨g, 2, none⟩ = some (.map (some f))
  c3 : w.cell? ⟨g, 3, none⟩ = some (.map (some o))
  c4 : w.cell? ⟨g, 4, none⟩ = some (.map (some b))
  net : NetAt w w.heap.size n
  mf : MapIs Try.prog 162 ofVal ofDom w f (flowsV M)
  mo : MapIs Try.prog 165 poVal poDom w o (ownersV M)
  mb : MapIs Try.prog 162 ofVal ofDom w b (backsV M)
  nfo : f ≠ o
  nfb : f ≠ b
  nob : o ≠ b
  lf : ∃ L : List OfK, L.length ≤ k ∧ ∀ a, M.F a = true → a ∈ L
  lo : ∃ L : List PoK, L.length ≤ k ∧ ∀ a, (M.O a).isSome = true → a ∈ L
  lb : ∃ L : List OfK, L.length ≤ k ∧ ∀ a, (M.B a).isSome = true → a ∈ L
  oo : ∀ a v, M.O a = some v → i64ok v.1 ∧ i64ok v.2
  ob : ∀ a v, M.B a = some v → i64ok v

section
variable {w w' : World} {g : Nat} {n : NetV} {f o b : Nat} {M : MS} {k : Nat}
theorem MemAt.glt (h : MemAt w g n f o b M k) : g < w.heap.size := cell_lt h.c0
theorem MemAt.flt (h : MemAt w g n f o b M k) : f < w.heap.size := h.mf.lt
theorem MemAt.olt (h : MemAt w g n f o b M k) : o < w.heap.size := h.mo.lt
theorem MemAt.blt (h : MemAt w g n f o b M k) : b < w.heap.size := h.mb.lt
theorem MemAt.below (h : MemAt w g n f o b M k) (hb : Below w.heap.size w w') : MemAt w' g n f o b M k := by
  have e : ∀ j, w'.cell? ⟨g, j, none⟩ = w.cell? ⟨g, j, none⟩ := fun j => hb.cell (p := ⟨g, j, none⟩) h.glt
  exact ⟨(e _).trans h.c0, (e _).trans h.c1, (e _).trans h.c2, (e _).trans h.c3, (e _).trans h.c4, h.net.below hb hb.size, h.mf.below hb h.flt, h.mo.below hb h.olt, h.mb.below hb h.blt,
    h.nfo, h.nfb, h.nob, h.lf, h.lo, h.lb, h.oo, h.ob⟩
theorem MemAt.more (h : MemAt w g n f o b M k) {k' : Nat} (hk : k ≤ k') : MemAt w g n f o b M k' :=
  ⟨h.c0, h.c1, h.c2, h.c3, h.c4, h.net, h.mf, h.mo, h.mb, h.nfo, h.nfb, h.nob, h.lf.imp fun _ x => ⟨by have := x.1; omega, x.2⟩, h.lo.imp fun _ x => ⟨by have := x.1; omega, x.2⟩, h.lb.imp fun _ x => ⟨by have := x.1; omega, x.2⟩, h.oo, h.ob⟩

/-- No cell stands in a map's block. -/
theorem map_no_cell {α : Type} {P : Program} {kt : TypeId} {key : α → Value} {dom : α → Prop} {w : World} {b : Nat} {M : α → Option Value} (h : MapIs P kt key dom w b M) {a : Addr} {v : Value} (hc : w.cell? a = some v) : a.block ≠ b := fun e => by
  obtain ⟨es, c, hb⟩ := h.block
  subst e
  simp [World.cell?, hb] at hc
theorem MemAt.not3 (h : MemAt w g n f o b M k) {a : Addr} {v : Value} (hc : w.cell? a = some v) : ¬ Is3 f o b a.block := fun e => by
  rcases e with e | e | e
  · exact map_no_cell h.mf hc e
  · exact map_no_cell h.mo hc e
  · exact map_no_cell h.mb hc e
/-- Cells stand beside what a memory does. -/
theorem MemAt.cell (h : MemAt w g n f o b M k) {B : Nat} (hn : Near (Is3 f o b) B w w') {a : Addr} {v : Value} (hc : w.cell? a = some v) (ha : a.block < B) : w'.cell? a = some v := (hn.cell ha (h.not3 hc)).trans hc
theorem MemAt.stay (h : MemAt w g n f o b M k) (hn : Near (Is3 f o b) w.heap.size w w') : StayOn (fun _ => True) w w' := fun a v _ hc => h.cell hn hc (cell_lt hc)

theorem MemAt.flow (h : MemAt w g n f o b M k) (hk : k < 1000000) (a : OfK) (ha : ofDom a) : ∃ w', (Instr.mapUpdate 150 (.map (some f)) (ofVal a) (.bool true)).run Try.prog w = .ok () w' ∧ MemAt w' g n f o b (M.learn (.flow a)) (k + 1) ∧ Near (Is3 f o b) w.heap.size w w' := by
  obtain ⟨L, hL, hall⟩ := h.lf
  obtain ⟨w', hrun, r1, r2⟩ := h.mf.storeA ofKeys L (by unfold maxLen; omega) (fun x _ hx => hall x (by simp only [flowsV] at hx; split at hx <;> simp_all)) Try.underlying150 ha (.bool true)
  rw [flowsV_learn] at r1
  have st := StayOn.of_turned r2
  refine ⟨w', hrun, ⟨st _ _ trivial h.c0, st _ _ trivial h.c1, st _ _ trivial h.c2, st _ _ trivial h.c3, st _ _ trivial h.c4, ?_, r1, h.mo.turned r2 h.nfo.symm, h.mb.turned r2 h.nfb.symm, h.nfo, h.nfb, h.nob, ⟨a :: L, by simp; omega, fun x hx => ?_⟩, h.lo.imp fun _ x => ⟨by have := x.1; omega, x.2⟩, h.lb.imp fun _ x => ⟨by have := x.1; omega, x.2⟩, h.oo, h.ob⟩, Near.of_turned r2 (.inl rfl)⟩
  · exact h.net.stay st (fun _ _ => trivial) (fun _ _ => trivial) (fun _ _ => ⟨fun _ _ => trivial, fun _ _ => trivial, fun _ _ => trivial⟩) r2.grown.size
  · simp only [MS.learn] at hx
    by_cases e : x = a
    · simp [e]
    · rw [if_neg e] at hx; exact List.mem_cons_of_mem _ (hall x hx)
theorem MemAt.owner (h : MemAt w g n f o b M k) (hk : k < 1000000) (a : PoK) (ha : poDom a) (u : Int × Int) (hu : i64ok u.1 ∧ i64ok u.2) : ∃ w', (Instr.mapUpdate 151 (.map (some o)) (poVal a) (ownV u)).run Try.prog w = .ok () w' ∧ MemAt w' g n f o b (M.learn (.owner a u)) (k + 1) ∧ Near (Is3 f o b) w.heap.size w w' := by
  obtain ⟨L, hL, hall⟩ := h.lo
  obtain ⟨w', hrun, r1, r2⟩ := h.mo.storeA poKeys L (by unfold maxLen; omega) (fun x _ hx => hall x (by simpa [ownersV] using hx)) Try.underlying151 ha (ownV u)
  rw [ownersV_learn] at r1
  have st := StayOn.of_turned r2
  refine ⟨w', hrun, ⟨st _ _ trivial h.c0, st _ _ trivial h.c1, st _ _ trivial h.c2, st _ _ trivial h.c3, st _ _ trivial h.c4, ?_, h.mf.turned r2 h.nfo, r1, h.mb.turned r2 h.nob.symm, h.nfo, h.nfb, h.nob, h.lf.imp fun _ x => ⟨by have := x.1; omega, x.2⟩, ⟨a :: L, by simp; omega, fun x hx => ?_⟩, h.lb.imp fun _ x => ⟨by have := x.1; omega, x.2⟩, fun x v hx => ?_, h.ob⟩, Near.of_turned r2 (.inr (.inl rfl))⟩
  · exact h.net.stay st (fun _ _ => trivial) (fun _ _ => trivial) (fun _ _ => ⟨fun _ _ => trivial, fun _ _ => trivial, fun _ _ => trivial⟩) r2.grown.size
  · simp only [MS.learn] at hx
    by_cases e : x = a
    · simp [e]
    · rw [if_neg e] at hx; exact List.mem_cons_of_mem _ (hall x hx)
  · simp only [MS.learn] at hx
    by_cases e : x = a
    · rw [if_pos e] at hx; cases hx; exact hu
    · rw [if_neg e] at hx; exact h.oo x v hx
theorem MemAt.back (h : MemAt w g n f o b M k) (hk : k < 1000000) (a : OfK) (ha : ofDom a) (u : Int) (hu : i64ok u) : ∃ w', (Instr.mapUpdate 152 (.map (some b)) (ofVal a) (.int .i64 u)).run Try.prog w = .ok () w' ∧ MemAt w' g n f o b (M.learn (.back a u)) (k + 1) ∧ Near (Is3 f o b) w.heap.size w w' := by
  obtain ⟨L, hL, hall⟩ := h.lb
  obtain ⟨w', hrun, r1, r2⟩ := h.mb.storeA ofKeys L (by unfold maxLen; omega) (fun x _ hx => hall x (by simpa [backsV] using hx)) Try.underlying152 ha (.int .i64 u)
  rw [backsV_learn] at r1
  have st := StayOn.of_turned r2
  refine ⟨w', hrun, ⟨st _ _ trivial h.c0, st _ _ trivial h.c1, st _ _ trivial h.c2, st _ _ trivial h.c3, st _ _ trivial h.c4, ?_, h.mf.turned r2 h.nfb, h.mo.turned r2 h.nob, r1, h.nfo, h.nfb, h.nob, h.lf.imp fun _ x => ⟨by have := x.1; omega, x.2⟩, h.lo.imp fun _ x => ⟨by have := x.1; omega, x.2⟩, ⟨a :: L, by simp; omega, fun x hx => ?_⟩, h.oo, fun x v hx => ?_⟩, Near.of_turned r2 (.inr (.inr rfl))⟩
  · exact h.net.stay st (fun _ _ => trivial) (fun _ _ => trivial) (fun _ _ => ⟨fun _ _ => trivial, fun _ _ => trivial, fun _ _ => trivial⟩) r2.grown.size
  · simp only [MS.learn] at hx
    by_cases e : x = a
    · simp [e]
    · rw [if_neg e] at hx; exact List.mem_cons_of_mem _ (hall x hx)
  · simp only [MS.learn] at hx
    by_cases e : x = a
    · rw [if_pos e] at hx; cases hx; exact hu
    · rw [if_neg e] at hx; exact h.ob x v hx

/-- Look-ups. -/
theorem MemAt.lookF (h : MemAt w g n f o b M k) (a : OfK) (ha : ofDom a) : (Instr.lookup 150 (.map (some f)) (ofVal a) false).run Try.prog w = .ok (.bool (M.F a)) w := by
  have := (h.mf.lookA ofKeys Try.underlying150 (z := .bool false) (by kernel_rfl) ha).2
  rw [this]
  simp only [flowsV]
  cases M.F a <;> rfl
theorem MemAt.lookO (h : MemAt w g n f o b M k) (a : PoK) (ha : poDom a) : (Instr.lookup 151 (.map (some o)) (poVal a) true).run Try.prog w = .ok (.tuple #[ownV ((M.O a).getD (0, 0)), .bool (M.O a).isSome]) w := by
  have := (h.mo.lookA poKeys Try.underlying151 (z := ownV (0, 0)) (by kernel_rfl) ha).1
  rw [this]
  simp only [ownersV]
  cases M.O a <;> rfl
theorem MemAt.lookB (h : MemAt w g n f o b M k) (a : OfK) (ha : ofDom a) : (Instr.lookup 152 (.map (some b)) (ofVal a) true).run Try.prog w = .ok (.tuple #[.int .i64 ((M.B a).getD 0), .bool (M.B a).isSome]) w := by
  have := (h.mb.lookA ofKeys Try.underlying152 (z := .int .i64 0) (by kernel_rfl) ha).1
  rw [this]
  simp only [backsV]
  cases M.B a <;> rfl
end
end Go.Proofs.Ytidikopjfpioaaa
