/- The arena in memory. -/
import Derived.Test.YtidikopjfpioaaaArenaKeys
set_option linter.unusedVariables false
set_option linter.unusedSimpArgs false
namespace Go.Proofs.Ytidikopjfpioaaa
open Go.RowKit Go.Maps Bdd

/-! ### frames: only some blocks, and new ones, have turned -/
structure Frm (S : Nat → Prop) (w w' : World) : Prop where
  os : w'.os = w.os
  tape : w'.tape = w.tape
  output : w'.output = w.output
  size : w.heap.size ≤ w'.heap.size
  block : ∀ k, k < w.heap.size → ¬ S k → w'.heap[k]? = w.heap[k]?

theorem Frm.refl (S : Nat → Prop) (w : World) : Frm S w w := ⟨rfl, rfl, rfl, Nat.le_refl _, fun _ _ _ => rfl⟩
theorem Frm.of_below {S : Nat → Prop} {w w' : World} (h : Below w.heap.size w w') : Frm S w w' := ⟨h.os, h.tape, h.output, h.size, fun k hk _ => h.block k hk⟩
theorem Frm.trans {S S' : Nat → Prop} {a b c : World} (h : Frm S a b) (k : Frm S' b c) (hs : ∀ i, i < a.heap.size → S' i → S i) : Frm S a c :=
  ⟨k.os.trans h.os, k.tape.trans h.tape, k.output.trans h.output, Nat.le_trans h.size k.size, fun i hi hn => (k.block i (Nat.lt_of_lt_of_le hi h.size) (fun hS => hn (hs i hi hS))).trans (h.block i hi hn)⟩
theorem Frm.mono {S S' : Nat → Prop} {a b : World} (h : Frm S a b) (hs : ∀ i, i < a.heap.size → S i → S' i) : Frm S' a b := ⟨h.os, h.tape, h.output, h.size, fun i hi hn => h.block i hi (fun hS => hn (hs i hi hS))⟩
theorem Frm.below {S : Nat → Prop} {a b : World} (h : Frm S a b) {B : Nat} (hB : B ≤ a.heap.size) (hs : ∀ i, S i → B ≤ i) : Below B a b :=
  ⟨h.os, h.tape, h.output, h.size, fun k hk => h.block k (by omega) (fun hS => by have := hs k hS; omega)⟩
theorem Frm.of_grown {S : Nat → Prop} {a b : World} {row : Option Nat} (h : a.grownBy b row) (hs : ∀ k, row = some k → k < a.heap.size → S k) : Frm S a b :=
  ⟨h.os, h.tape, h.output, h.size, fun k hk hn => h.block k hk (fun e => hn (hs k e.symm hk))⟩
theorem Frm.setCell {S : Nat → Prop} {a : World} {p : Addr} (hp : S p.block) (u : Value) : Frm S a (a.setCell p u) :=
  ⟨rfl, rfl, rfl, by simp [World.setCell], fun k hk hn => Below.heap_setCell _ _ _ _ (fun e => hn (e ▸ hp))⟩
theorem Frm.cell {S : Nat → Prop} {a b : World} (h : Frm S a b) {p : Addr} (hp : p.block < a.heap.size) (hn : ¬ S p.block) : b.cell? p = a.cell? p := World.cell?_of_block (h.block p.block hp hn)
theorem Frm.frozen {S : Nat → Prop} {a b : World} (h : Frm S a b) {p : Addr} (hp : p.block < a.heap.size) (hn : ¬ S p.block) : b.frozen? p = a.frozen? p := World.frozen?_of_block (h.block p.block hp hn)

/-! ### the arena -/
def nodeCells (n : Bdd.Node) : List Value := [.int .i64 n.v, .int .i64 n.lo, .int .i64 n.hi]
theorem nodeCells_len (n : Bdd.Node) : (nodeCells n).length = 3 := rfl
theorem nodeCells_one (n : Bdd.Node) : ∀ u ∈ nodeCells n, u.oneCell' = true := by
  intro u hu
  simp only [nodeCells, List.mem_cons, List.not_mem_nil, or_false] at hu
  rcases hu with rfl | rfl | rfl <;> rfl

def KnownOk (ns : List Bdd.Node) (K : Tri → Option Value) : Prop := ∀ (v lo hi : Nat) (x : Value), K (v, lo, hi) = some x ↔ ∃ i : Nat, 2 ≤ i ∧ ns[i]? = some ⟨v, lo, hi⟩ ∧ x = .int .i64 (i : Int)
def ItesOk (ns : List Bdd.Node) (T : Tri → Option Value) : Prop := ∀ (f g h : Nat) (x : Value), T (f, g, h) = some x → ∃ r : Nat, x = .int .i64 (r : Int) ∧ f < ns.length ∧ g < ns.length ∧ h < ns.length ∧ r < ns.length ∧ den ns r = iteF (den ns f) (den ns g) (den ns h)

/-- The arena's blocks: its own, its nodes', its two maps'. -/
def Fp (g nb kb ib : Nat) (k : Nat) : Prop := k = g ∨ k = nb ∨ k = kb ∨ k = ib

structure ArenaAt (w : World) (B g nb kb ib cap : Nat) (A : St) (K T : Tri → Option Value) : Prop where
  c0 : w.cell? ⟨g, 0, none⟩ = some (.int .i64 A.vars)
  c1 : w.cell? ⟨g, 1, none⟩ = some (.int .i64 A.most)
  c2 : w.cell? ⟨g, 2, none⟩ = some (.slice (some ⟨nb, 0, none⟩) A.ns.length cap)
  c3 : w.cell? ⟨g, 3, none⟩ = some (.map (some kb))
  c4 : w.cell? ⟨g, 4, none⟩ = some (.map (some ib))
  c5 : w.cell? ⟨g, 5, none⟩ = some (.bool A.full)
  fr : ∀ o, w.frozen? ⟨g, o, none⟩ = false
  own : w.ownsRow B 129 3 (.slice (some ⟨nb, 0, none⟩) A.ns.length cap) A.ns.length (A.ns.flatMap nodeCells)
  km : MapIs Try.prog 129 triVal triDom w kb K
  im : MapIs Try.prog 214 triVal triDom w ib T
  inv : Inv A
  vs : 1 ≤ A.vars ∧ A.vars ≤ 16
  ms : A.most ≤ 40000
  kok : KnownOk A.ns K
  iok : ItesOk A.ns T
  ne : g ≠ nb ∧ kb ≠ ib
  lo : B ≤ g ∧ B ≤ kb ∧ B ≤ ib

section
variable {w w' : World} {B g nb kb ib cap : Nat} {A : St} {K T : Tri → Option Value}

theorem ArenaAt.lts (h : ArenaAt w B g nb kb ib cap A K T) : g < w.heap.size ∧ nb < w.heap.size ∧ kb < w.heap.size ∧ ib < w.heap.size ∧ B ≤ nb :=
  ⟨World.block_lt_of_cell? w _ h.c0, (h.own.lt nb rfl).2, h.km.lt, h.im.lt, (h.own.lt nb rfl).1⟩

theorem cell_map {w : World} {b o : Nat} {v : Value} (hc : w.cell? ⟨b, o, none⟩ = some v) {es : Array MapEntry} {c : Nat} (hm : w.heap[b]? = some (.map es c)) : False := by
  unfold World.cell? at hc
  rw [hm] at hc
  simp at hc
theorem MapIs.block {α : Type} {P : Program} {kt : TypeId} {key : α → Value} {dom : α → Prop} {w : World} {b : Nat} {M : α → Option Value} (h : MapIs P kt key dom w b M) : ∃ es c, w.heap[b]? = some (.map es c) := by
  obtain ⟨D, ⟨es, clock, hh, _⟩, _⟩ := h
  exact ⟨es, clock, hh⟩
theorem own_block {w : World} {B e s nb n cap : Nat} {xs : List Value} (h : w.ownsRow B e s (.slice (some ⟨nb, 0, none⟩) n cap) n xs) : ∃ cur, w.heap[nb]? = some (.cells cur e (0, 0)) := by
  rcases h.2 with ⟨h1, _⟩ | ⟨g', cap', cur, h1, _, h2, _⟩
  · cases h1
  · cases h1; exact ⟨cur, h2⟩

theorem ArenaAt.nes (h : ArenaAt w B g nb kb ib cap A K T) : g ≠ nb ∧ g ≠ kb ∧ g ≠ ib ∧ nb ≠ kb ∧ nb ≠ ib ∧ kb ≠ ib := by
  obtain ⟨e1, c1, h1⟩ := h.km.block
  obtain ⟨e2, c2, h2⟩ := h.im.block
  obtain ⟨cur, h3⟩ := own_block h.own
  exact ⟨h.ne.1, (fun e => by subst e; exact cell_map h.c0 h1), (fun e => by subst e; exact cell_map h.c0 h2), (fun e => by subst e; rw [h1] at h3; cases h3), (fun e => by subst e; rw [h2] at h3; cases h3), h.ne.2⟩

theorem ArenaAt.keep (h : ArenaAt w B g nb kb ib cap A K T) (hg : w'.heap[g]? = w.heap[g]?) (hn : w'.heap[nb]? = w.heap[nb]?) (hk : w'.heap[kb]? = w.heap[kb]?) (hi : w'.heap[ib]? = w.heap[ib]?) : ArenaAt w' B g nb kb ib cap A K T := by
  have e : ∀ o, w'.cell? ⟨g, o, none⟩ = w.cell? ⟨g, o, none⟩ := fun o => World.cell?_of_block (a := ⟨g, o, none⟩) hg
  refine ⟨by rw [e]; exact h.c0, by rw [e]; exact h.c1, by rw [e]; exact h.c2, by rw [e]; exact h.c3, by rw [e]; exact h.c4, by rw [e]; exact h.c5, fun o => by rw [World.frozen?_of_block (a := ⟨g, o, none⟩) hg]; exact h.fr o, ?_, h.km.same hk, h.im.same hi, h.inv, h.vs, h.ms, h.kok, h.iok, h.ne, h.lo⟩
  obtain ⟨h1, h2⟩ := h.own
  refine ⟨h1, ?_⟩
  rcases h2 with h2 | ⟨g', cap', cur, hv, hb, hh, r⟩
  · exact .inl h2
  · cases hv
    exact .inr ⟨_, _, cur, rfl, hb, hn.trans hh, r⟩

theorem ArenaAt.below (h : ArenaAt w B g nb kb ib cap A K T) (hb : Below w.heap.size w w') : ArenaAt w' B g nb kb ib cap A K T := by
  obtain ⟨l1, l2, l3, l4, _⟩ := h.lts
  exact h.keep (hb.block _ l1) (hb.block _ l2) (hb.block _ l3) (hb.block _ l4)
theorem ArenaAt.frm {S : Nat → Prop} (h : ArenaAt w B g nb kb ib cap A K T) (hf : Frm S w w') (hS : ∀ k, S k → ¬ Fp g nb kb ib k) : ArenaAt w' B g nb kb ib cap A K T := by
  obtain ⟨l1, l2, l3, l4, _⟩ := h.lts
  exact h.keep (hf.block _ l1 fun hs => hS _ hs (.inl rfl)) (hf.block _ l2 fun hs => hS _ hs (.inr (.inl rfl))) (hf.block _ l3 fun hs => hS _ hs (.inr (.inr (.inl rfl)))) (hf.block _ l4 fun hs => hS _ hs (.inr (.inr (.inr rfl))))

theorem ArenaAt.node (h : ArenaAt w B g nb kb ib cap A K T) {f : Nat} {n : Bdd.Node} (hf : A.ns[f]? = some n) :
    w.cell? ⟨nb, f * 3, none⟩ = some (.int .i64 n.v) ∧ w.cell? ⟨nb, f * 3 + 1, none⟩ = some (.int .i64 n.lo) ∧ w.cell? ⟨nb, f * 3 + 2, none⟩ = some (.int .i64 n.hi) := by
  have hc := h.own.cells (g := nb) rfl
  have e : ∀ (j : Nat) (v : Value), (nodeCells n)[j]? = some v → w.cell? ⟨nb, f * 3 + j, none⟩ = some v := fun j v hv => by
    have := hc (f * 3 + j) v (flat_get nodeCells_len A.ns f n j v hf hv)
    rw [addr_add, Nat.zero_add] at this
    exact this
  exact ⟨e 0 _ rfl, e 1 _ rfl, e 2 _ rfl⟩

theorem ArenaAt.lenle (h : ArenaAt w B g nb kb ib cap A K T) : A.ns.length ≤ 40000 := Nat.le_trans h.inv.bound h.ms
end
end Go.Proofs.Ytidikopjfpioaaa
