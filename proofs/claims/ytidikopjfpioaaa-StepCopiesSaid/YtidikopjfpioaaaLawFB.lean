/- Inside a region that draws its order: a memory, boxes that are new. -/
import Derived.Test.YtidikopjfpioaaaLawFire
set_option linter.unusedVariables false
set_option linter.unusedSimpArgs false
namespace Go.Proofs.Ytidikopjfpioaaa
open Go.RowKit Go.Maps

structure FB (W : World) (L : List (Nat × Array Value)) (g : Nat) (n : NetV) (f o b : Nat) (M : MS) (k : Nat) (w0 : World) (Z : List (Nat × Array Value)) (M' : MS) (k' : Nat) (w : World) : Prop where
  f0 : FA W L g n f o b M k w0
  mem : MemAt w g n f o b M' k'
  near : Near (Is3 f o b) w0.heap.size w0 w
  z : ∀ x ∈ Z, BoxV w x.1 x.2 ∧ x.1 < w.heap.size ∧ w0.heap.size ≤ x.1
section
variable {W w w' w0 : World} {L Z : List (Nat × Array Value)} {g : Nat} {n : NetV} {f o b : Nat} {M M' M'' : MS} {k k' k'' : Nat}
theorem FA.start (h : FA W L g n f o b M k w0) : FB W L g n f o b M k w0 [] M k w0 := ⟨h, h.mem, Near.refl _ _ _, fun x hx => by cases hx⟩
theorem FB.not3 (h : FB W L g n f o b M k w0 Z M' k' w) {j : Nat} (hj : w0.heap.size ≤ j) : ¬ Is3 f o b j := fun e => by
  have := h.f0.mem.flt
  have := h.f0.mem.olt
  have := h.f0.mem.blt
  rcases e with e | e | e <;> omega
theorem FB.below (h : FB W L g n f o b M k w0 Z M' k' w) (hb : Below w.heap.size w w') : FB W L g n f o b M k w0 Z M' k' w' :=
  ⟨h.f0, h.mem.below hb, h.near.trans ((Near.of_below hb).mono h.near.size), fun x hx => ⟨(h.z x hx).1.below hb (h.z x hx).2.1, Nat.lt_of_lt_of_le (h.z x hx).2.1 hb.size, (h.z x hx).2.2⟩⟩
theorem FB.d (h : FB W L g n f o b M k w0 Z M' k' w) : FB W L g n f o b M k w0 Z M' k' w.drew := h.below (Below.refl _ _).drew
theorem FB.al (h : FB W L g n f o b M k w0 Z M' k' w) (vs : Array Value) (t : TypeId) : FB W L g n f o b M k w0 ((w.heap.size, vs) :: Z) M' k' (w.alloc (.cells vs t)) := by
  have q := h.below ((Below.refl _ _).alloc (Nat.le_refl _) (.cells vs t))
  refine ⟨q.f0, q.mem, q.near, fun x hx => ?_⟩
  rcases List.mem_cons.1 hx with rfl | hx
  · exact ⟨BoxV.new _ _ _, by simp, h.near.size⟩
  · exact q.z x hx
theorem FB.step (h : FB W L g n f o b M k w0 Z M' k' w) (hm : MemAt w' g n f o b M'' k'') (hn : Near (Is3 f o b) w.heap.size w w') : FB W L g n f o b M k w0 Z M'' k'' w' :=
  ⟨h.f0, hm, h.near.trans (hn.mono h.near.size), fun x hx => ⟨(h.z x hx).1.near hn (h.z x hx).2.1 (h.not3 (h.z x hx).2.2), Nat.lt_of_lt_of_le (h.z x hx).2.1 hn.size, (h.z x hx).2.2⟩⟩
theorem FB.hand (h : FB W L g n f o b M k w0 Z M' k' w) (hE : netE n.devs n.ls = 0) {i y : Int} {p : P4} {ch : Int} (hi : i64ok i) (hy : i64ok y) (hp : p.ok) (hch : i64ok ch) (hk : k' < 1000000) {S : HandS} (hS : handS n.devs n.ls M' i y p ch = S) :
    Calls Try.prog 47 #[.pointer (some ⟨g, 0, none⟩), .agg #[.int .i64 i, .int .i64 y], .agg #[.int .i64 p.src, .int .i64 p.dst, .int .i64 p.sport, .int .i64 p.dport], .int .i64 ch] w fun e w' =>
      e = .returned S.val ∧ FB W L g n f o b M k w0 Z (M'.learn S.kn) (k' + 1) w' :=
  hS ▸ (hand_walk g n f o b M' k' i y p ch w h.mem hE hi hy hp hch hk).mono fun e w' ⟨h1, h2, h3⟩ => ⟨h1, h.step h2 h3⟩
theorem FB.set {N : Nat} {vs : Array Value} (h : FB W L g n f o b M k w0 ((N, vs) :: Z) M' k' w) (j : Nat) (v : Value) : FB W L g n f o b M k w0 [(N, vs.setIfInBounds j v)] M' k' (w.setCell ⟨N, j, none⟩ v) := by
  obtain ⟨h1, h2, h3⟩ := h.z (N, vs) List.mem_cons_self
  have hb : Below w0.heap.size w (w.setCell ⟨N, j, none⟩ v) := (Below.refl _ _).setCell h3 v
  have hn : Near (Is3 f o b) w0.heap.size w0 (w.setCell ⟨N, j, none⟩ v) := h.near.trans (Near.of_below hb)
  refine ⟨h.f0, MemAt.to h.f0.mem hn h.mem hb, hn, fun x hx => ?_⟩
  obtain rfl := List.mem_singleton.1 hx
  exact ⟨h1.set j v, by simpa [World.setCell] using h2, h3⟩
theorem FB.fa (h : FB W L g n f o b M k w0 Z M' k' w) : FA W L g n f o b M' k' w := h.f0.near h.mem h.near
theorem FB.done {N : Nat} {vs : Array Value} (h : FB W L g n f o b M k w0 ((N, vs) :: Z) M' k' w) : FA W ((N, vs) :: L) g n f o b M' k' w := by
  obtain ⟨h1, h2, h3⟩ := h.z (N, vs) List.mem_cons_self
  exact h.fa.more h1 h2 (h.not3 h3)
end
theorem cells4 {w : World} {N : Nat} {a b c d : Int} (h : BoxV w N #[.int .i64 a, .int .i64 b, .int .i64 c, .int .i64 d]) : w.cell? ⟨N, 0, none⟩ = some (.int .i64 a) ∧ w.cell? ⟨N, 1, none⟩ = some (.int .i64 b) ∧ w.cell? ⟨N, 2, none⟩ = some (.int .i64 c) ∧ w.cell? ⟨N, 3, none⟩ = some (.int .i64 d) := ⟨h.1 0 _ rfl, h.1 1 _ rfl, h.1 2 _ rfl, h.1 3 _ rfl⟩
theorem cells6 {w : World} {N : Nat} {a b c d e f : Int} (h : BoxV w N #[.int .i64 a, .int .i64 b, .int .i64 c, .int .i64 d, .int .i64 e, .int .i64 f]) : (w.cell? ⟨N, 0, none⟩ = some (.int .i64 a) ∧ w.cell? ⟨N, 1, none⟩ = some (.int .i64 b) ∧ w.cell? ⟨N, 2, none⟩ = some (.int .i64 c) ∧ w.cell? ⟨N, 3, none⟩ = some (.int .i64 d) ∧ w.cell? ⟨N, 4, none⟩ = some (.int .i64 e) ∧ w.cell? ⟨N, 5, none⟩ = some (.int .i64 f)) ∧
    w.frozen? ⟨N, 0, none⟩ = false ∧ w.frozen? ⟨N, 1, none⟩ = false ∧ w.frozen? ⟨N, 2, none⟩ = false ∧ w.frozen? ⟨N, 3, none⟩ = false ∧ w.frozen? ⟨N, 4, none⟩ = false ∧ w.frozen? ⟨N, 5, none⟩ = false :=
  ⟨⟨h.1 0 _ rfl, h.1 1 _ rfl, h.1 2 _ rfl, h.1 3 _ rfl, h.1 4 _ rfl, h.1 5 _ rfl⟩, h.2 _, h.2 _, h.2 _, h.2 _, h.2 _, h.2 _⟩
/-- A region whose end is told apart from its walk. -/
theorem cut_region {P : Program} {c : Code} {Q : Exit → Act → World → Prop} {a : Act} {w : World} (A : Nat → Act) (C : Nat → World → Prop) (h1 : Shut (∀ N w', C N w' → Q .normal (A N) w') → Code.wp P c Q a w) (h2 : ∀ N w', C N w' → Q .normal (A N) w') : Code.wp P c Q a w := h1 h2
theorem cut_still {P : Program} {c : Code} {Q : Exit → Act → World → Prop} {a : Act} {w : World} (A : Act) (C : World → Prop) (h1 : Shut (∀ w', C w' → Q .normal A w') → Code.wp P c Q a w) (h2 : ∀ w', C w' → Q .normal A w') : Code.wp P c Q a w := h1 h2
theorem FB.leaf {W w w0 : World} {L Z : List (Nat × Array Value)} {g : Nat} {n : NetV} {f o b : Nat} {M M' : MS} {k k' : Nat} {N : Nat} {vs : Array Value} (h : FB W L g n f o b M k w0 ((N, vs) :: Z) M' k' w) : ∃ N' w', N = N' ∧ w = w' ∧ FA W ((N', vs) :: L) g n f o b M' k' w' := ⟨_, _, rfl, rfl, h.done⟩
theorem FB.at4 {W w w0 : World} {L Z : List (Nat × Array Value)} {g : Nat} {n : NetV} {f o b : Nat} {M M' : MS} {k k' : Nat} (h : FB W L g n f o b M k w0 Z M' k' w) (i : Nat) {N : Nat} {x y z u : Int} (hx : L[i]? = some (N, #[.int .i64 x, .int .i64 y, .int .i64 z, .int .i64 u])) :
    (w.cell? ⟨N, 0, none⟩ = some (.int .i64 x) ∧ w.cell? ⟨N, 1, none⟩ = some (.int .i64 y) ∧ w.cell? ⟨N, 2, none⟩ = some (.int .i64 z) ∧ w.cell? ⟨N, 3, none⟩ = some (.int .i64 u)) ∧ N ≠ w.heap.size ∧ w.heap.size ≠ N := by
  have q := h.fa.box.bx _ (List.mem_of_getElem? hx)
  exact ⟨cells4 q.1, Nat.ne_of_lt q.2, Ne.symm (Nat.ne_of_lt q.2)⟩
end Go.Proofs.Ytidikopjfpioaaa
