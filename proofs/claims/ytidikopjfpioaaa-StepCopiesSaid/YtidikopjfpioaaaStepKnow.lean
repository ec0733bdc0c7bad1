/- Boxes of any size; what is known then: the closures of package step. -/
import Derived.Test.YtidikopjfpioaaaStepMem
import Derived.Deep.MidRow
import Derived.Shelf.Abstract
set_option linter.unusedVariables false
set_option linter.unusedSimpArgs false
namespace Go.Proofs.Ytidikopjfpioaaa
open Go.RowKit Go.Maps

/-- The block N is a box of the values vs. -/
def BoxV (w : World) (N : Nat) (vs : Array Value) : Prop := (∀ (j : Nat) (v : Value), vs[j]? = some v → w.cell? ⟨N, j, none⟩ = some v) ∧ ∀ o, w.frozen? ⟨N, o, none⟩ = false
theorem BoxV.of_block {w : World} {N : Nat} {vs : Array Value} {t : TypeId} (h : w.heap[N]? = some (.cells vs t)) : BoxV w N vs :=
  ⟨fun j v hv => by rw [cell_of_row _ _ _ _ _ _ h]; exact hv, fun o => by unfold World.frozen?; simp only [h]; simp⟩
theorem BoxV.new (w : World) (vs : Array Value) (t : TypeId) : BoxV (w.alloc (.cells vs t)) w.heap.size vs := BoxV.of_block (heap_alloc_new w _)
theorem BoxV.below {w w' : World} {B N : Nat} {vs : Array Value} (h : BoxV w N vs) (hB : Below B w w') (hN : N < B) : BoxV w' N vs :=
  ⟨fun j v hv => (hB.cell (p := ⟨N, j, none⟩) hN).trans (h.1 j v hv), fun o => (hB.frozen (p := ⟨N, o, none⟩) hN).trans (h.2 o)⟩
theorem BoxV.near {w w' : World} {p : Nat → Prop} {B N : Nat} {vs : Array Value} (h : BoxV w N vs) (hB : Near p B w w') (hN : N < B) (hp : ¬ p N) : BoxV w' N vs :=
  ⟨fun j v hv => (hB.cell (a := ⟨N, j, none⟩) hN hp).trans (h.1 j v hv), fun o => (hB.frozen (a := ⟨N, o, none⟩) hN hp).trans (h.2 o)⟩
theorem BoxV.set {w : World} {N : Nat} {vs : Array Value} (h : BoxV w N vs) (j : Nat) (v : Value) : BoxV (w.setCell ⟨N, j, none⟩ v) N (vs.setIfInBounds j v) := by
  refine ⟨fun i u hu => ?_, fun o => by rw [World.frozen?_setCell]; exact h.2 o⟩
  by_cases e : j = i
  · subst e
    rw [Array.getElem?_setIfInBounds_self] at hu
    split at hu
    · rename_i hj
      cases hu
      exact World.cell?_setCell_same _ _ _ (h.1 j _ (Array.getElem?_eq_getElem hj))
    · cases hu
  · rw [Array.getElem?_setIfInBounds_ne e] at hu
    rw [World.cell?_setCell_other _ _ _ _ (by simp [Ne.symm e])]
    exact h.1 i u hu
theorem BoxV.far {w : World} {N : Nat} {vs : Array Value} (h : BoxV w N vs) (a : Addr) (v : Value) (hne : a.block ≠ N) : BoxV (w.setCell a v) N vs := by
  refine ⟨fun i u hu => ?_, fun o => by rw [World.frozen?_setCell]; exact h.2 o⟩
  rw [World.cell?_setCell_other _ _ _ _ (by intro e; apply hne; rw [e])]
  exact h.1 i u hu
theorem BoxV.there {w : World} {N : Nat} {vs : Array Value} (h : BoxV w N vs) {n : Nat} (hn : n ≤ vs.size) : w.there N 0 n := fun j hj =>
  ⟨by rw [Nat.zero_add, h.1 j _ (Array.getElem?_eq_getElem (by omega))]; rfl, h.2 _⟩
theorem BoxV.all {w : World} {N : Nat} {vs : Array Value} (h : BoxV w N vs) (cs : List Value) (hl : cs.length = vs.size) : BoxV (w.setCells N 0 cs) N cs.toArray :=
  ⟨fun j v hv => by
    have := World.rangeAt_setCells_same w N 0 cs (h.there (by omega)) j v (by simpa using hv)
    rwa [Nat.zero_add] at this, fun o => by rw [World.frozen?_setCells]; exact h.2 o⟩
theorem below_setCells {B N : Nat} {a : World} (hN : B ≤ N) : ∀ (cs : List Value) (o : Nat) (w : World), Below B a w → Below B a (w.setCells N o cs)
  | [], _, _, h => h
  | v :: r, o, w, h => below_setCells hN r (o + 1) _ (h.setCell (by exact hN) v)
theorem info_gone : (Try.prog.info? 156).map (·.size) = some 6 := by kernel_rfl
theorem boxesB : ∀ (l : List (Array Value × TypeId)) (W : World) (i : Nat) c t, l[i]? = some (c, t) → (l.foldl (fun w x => w.alloc (.cells x.1 x.2)) W).heap[W.heap.size + i]? = some (.cells c t) := by
  intro l
  induction l with
  | nil => intro W i c t h; simp at h
  | cons x l ih =>
    intro W i c t h
    have hz : (W.alloc (.cells x.1 x.2)).heap.size = W.heap.size + 1 := by simp
    simp only [List.foldl_cons]
    cases i with
    | zero =>
      cases h
      obtain ⟨_, hb, _⟩ := boxesL l (W.alloc (.cells c t)) (Below.refl _ _)
      rw [hz] at hb
      rw [Nat.add_zero, hb.block _ (Nat.lt_succ_self _)]
      exact heap_alloc_new W _
    | succ i =>
      have := ih (W.alloc (.cells x.1 x.2)) i c t (by simpa using h)
      rw [hz] at this
      rw [show W.heap.size + (i + 1) = W.heap.size + 1 + i by omega]
      exact this
/-- Boxes behind one another, in a later world. -/
theorem boxesV (l : List (Array Value × TypeId)) (W : World) {W' : World} {B : Nat} (hb : Below B (l.foldl (fun w x => w.alloc (.cells x.1 x.2)) W) W') :
    (∀ (i : Nat) c t, l[i]? = some (c, t) → W.heap.size + i < B → BoxV W' (W.heap.size + i) c) ∧ (W.heap.size ≤ B → Below W.heap.size W W') := by
  refine ⟨fun i c t hi hB => BoxV.of_block (t := t) ((hb.block _ hB).trans (boxesB l W i c t hi)), fun hB => ?_⟩
  obtain ⟨_, h2, _⟩ := boxesL l W (Below.refl _ _)
  exact h2.trans (hb.mono hB)

def goneV (port : Int) (q : P4) (v : Value) : Value := .agg #[.int .i64 port, .int .i64 q.src, .int .i64 q.dst, .int .i64 q.sport, .int .i64 q.dport, v]

/-- The blocks from L on, below B, are as they were. -/
structure Same (L B : Nat) (w w' : World) : Prop where
  size : w.heap.size ≤ w'.heap.size
  blk : ∀ K, L ≤ K → K < B → w'.heap[K]? = w.heap[K]?
theorem Same.of_below {L B : Nat} {w w' : World} (h : Below B w w') : Same L B w w' := ⟨h.size, fun K _ hK => h.block K hK⟩
theorem Same.mono {L B B' : Nat} {w w' : World} (h : Same L B w w') (hB : B' ≤ B) : Same L B' w w' := ⟨h.size, fun K h1 h2 => h.blk K h1 (by omega)⟩
theorem Same.trans {L B : Nat} {w w' w'' : World} (h : Same L B w w') (k : Same L B w' w'') : Same L B w w'' := ⟨Nat.le_trans h.size k.size, fun K h1 h2 => (k.blk K h1 h2).trans (h.blk K h1 h2)⟩
theorem Same.of_near {p : Nat → Prop} {L B : Nat} {w w' : World} (h : Near p B w w') (hp : ∀ K, L ≤ K → K < B → ¬ p K) : Same L B w w' := ⟨h.size, fun K h1 h2 => h.block K h2 (hp K h1 h2)⟩
theorem BoxV.sameL {w w' : World} {L B N : Nat} {vs : Array Value} (h : BoxV w N vs) (hs : Same L B w w') (hL : L ≤ N) (hN : N < B) : BoxV w' N vs :=
  ⟨fun j v hv => (World.cell?_of_block (a := ⟨N, j, none⟩) (hs.blk N hL hN)).trans (h.1 j v hv), fun o => (World.frozen?_of_block (a := ⟨N, o, none⟩) (hs.blk N hL hN)).trans (h.2 o)⟩
theorem setCells_blk {L N : Nat} (hN : N < L) : ∀ (cs : List Value) (o : Nat) (w : World), w.heap.size ≤ (w.setCells N o cs).heap.size ∧ ∀ K, L ≤ K → (w.setCells N o cs).heap[K]? = w.heap[K]?
  | [], _, w => ⟨Nat.le_refl _, fun _ _ => rfl⟩
  | v :: r, o, w => by
    obtain ⟨h1, h2⟩ := setCells_blk hN r (o + 1) (w.setCell ⟨N, o, none⟩ v)
    refine ⟨by simpa [World.setCell, World.setCells] using h1, fun K hK => ?_⟩
    rw [World.setCells, h2 K hK]
    exact Below.heap_setCell _ _ _ _ (by show K ≠ N; omega)
theorem same_setCells {L B N : Nat} (hN : N < L) (cs : List Value) (w : World) : Same L B w (w.setCells N 0 cs) :=
  ⟨(setCells_blk hN cs 0 w).1, fun K hK _ => (setCells_blk hN cs 0 w).2 K hK⟩

/-- What the function value v does, if it is called in a later world: it makes kn known. -/
def KnowAt (L : Nat) (w : World) (g : Nat) (n : NetV) (f o b : Nat) (v : Value) (kn : Know) : Prop :=
  (kn = .nothing ∧ v = .nilFunc) ∨ (∃ F cap, v = .func (.func F) #[] cap ∧ (∀ (args : Array Value) (w' : World), (callFunc F args).run Try.prog w' = .ok (.enter F args) w') ∧ ∀ (M : MS) (k : Nat) (w' : World), Same L w.heap.size w w' → MemAt w' g n f o b M k → k < 1000000 →
    Calls Try.prog F cap w' fun e w'' => e = .returned (.tuple #[]) ∧ MemAt w'' g n f o b (M.learn kn) (k + 1) ∧ Near (Is3 f o b) w'.heap.size w' w'')
theorem KnowAt.later {L L' : Nat} {w w' : World} {g : Nat} {n : NetV} {f o b : Nat} {v : Value} {kn : Know} (h : KnowAt L w g n f o b v kn) (hb : Same L w.heap.size w w') (hL : L' ≤ L) : KnowAt L' w' g n f o b v kn := by
  rcases h with h | ⟨F, cap, e, he, h⟩
  · exact .inl h
  · exact .inr ⟨F, cap, e, he, fun M k w'' hb' => h M k w'' (hb.trans ⟨hb'.size, fun K h1 h2 => hb'.blk K (by omega) (by have := hb.size; omega)⟩)⟩
theorem KnowAt.one {L : Nat} {w : World} {g : Nat} {n : NetV} {f o b : Nat} {v : Value} {kn : Know} (h : KnowAt L w g n f o b v kn) : v.oneCell' = true := by
  rcases h with ⟨_, rfl⟩ | ⟨F, cap, rfl, _⟩ <;> rfl
theorem one6 {a b c d e : Int} {v : Value} (h : v.oneCell' = true) : (#[.int .i64 a, .int .i64 b, .int .i64 c, .int .i64 d, .int .i64 e, v] : Array Value).all (·.oneCell') = true := by
  have hi : ∀ k n, (Value.int k n).oneCell' = true := fun _ _ => rfl
  simp [hi, h]

theorem fire1_enters : ∀ (args : Array Value) (w' : World), (callFunc 148 args).run Try.prog w' = .ok (.enter 148 args) w' := enters_of Try.func148 (by kernel_rfl) rfl
theorem nat1_enters : ∀ (args : Array Value) (w' : World), (callFunc 150 args).run Try.prog w' = .ok (.enter 150 args) w' := enters_of Try.func150 (by kernel_rfl) rfl
theorem bal1_enters : ∀ (args : Array Value) (w' : World), (callFunc 151 args).run Try.prog w' = .ok (.enter 151 args) w' := enters_of Try.func151 (by kernel_rfl) rfl
set_option maxRecDepth 100000 in
set_option maxHeartbeats 4000000 in
theorem fire1_walk (g : Nat) (n : NetV) (f o b : Nat) (M : MS) (k : Nat) (A C D : Nat) (i y : Int) (p : P4) (w : World) (hM : MemAt w g n f o b M k) (hk : k < 1000000) (hA : BoxV w A #[.pointer (some ⟨g, 0, none⟩)]) (hC : BoxV w C #[.int .i64 i, .int .i64 y])
    (hD : BoxV w D #[.int .i64 p.src, .int .i64 p.dst, .int .i64 p.sport, .int .i64 p.dport]) (hi : i64ok i) (hp : p.ok) :
    Calls Try.prog 148 #[.pointer (some ⟨A, 0, none⟩), .pointer (some ⟨C, 0, none⟩), .pointer (some ⟨D, 0, none⟩)] w fun e w' => e = .returned (.tuple #[]) ∧ MemAt w' g n f o b (M.learn (.flow (i, p))) (k + 1) ∧ Near (Is3 f o b) w.heap.size w w' := by
  obtain ⟨w', hrun, hM', hN⟩ := (hM.below (Below.refl _ _).drew).flow hk (i, p) ⟨hi, hp⟩
  have H1 := hide hM'
  have H2 := hide (show Near (Is3 f o b) w.heap.size w w' from (Near.of_below (Below.refl _ _).drew).trans hN)
  have c2 := hM.c2
  have a0 := hA.1 0 _ rfl
  have b0 := hC.1 0 _ rfl
  have p0 := hD.1 0 _ rfl
  have p1 := hD.1 1 _ rfl
  have p2 := hD.1 2 _ rfl
  have p3 := hD.1 3 _ rfl
  clear hM' hN hM hA hC hD hi hp hk
  simp only [ofVal] at hrun
  go_enter Try.func148, Try.ntmps148
  go_still_tail 8, (by kernel_rfl)
  go_wp2
  go_end0
  exact ⟨rfl, H1.out, H2.out⟩

set_option maxRecDepth 100000 in
set_option maxHeartbeats 4000000 in
theorem nat1_walk (g : Nat) (n : NetV) (f o b : Nat) (M : MS) (k : Nat) (E A C D : Nat) (i y x : Int) (u : Int × Int) (w : World) (hM : MemAt w g n f o b M k) (hk : k < 1000000) (hE : BoxV w E #[.int .i64 u.1, .int .i64 u.2]) (hA : BoxV w A #[.pointer (some ⟨g, 0, none⟩)]) (hC : BoxV w C #[.int .i64 i, .int .i64 y])
    (hD : BoxV w D #[.int .i64 x]) (hi : i64ok i) (hx : i64ok x) (hu : i64ok u.1 ∧ i64ok u.2) :
    Calls Try.prog 150 #[.pointer (some ⟨E, 0, none⟩), .pointer (some ⟨A, 0, none⟩), .pointer (some ⟨C, 0, none⟩), .pointer (some ⟨D, 0, none⟩)] w fun e w' => e = .returned (.tuple #[]) ∧ MemAt w' g n f o b (M.learn (.owner (i, x) u)) (k + 1) ∧ Near (Is3 f o b) w.heap.size w w' := by
  obtain ⟨w', hrun, hM', hN⟩ := (hM.below (Below.refl _ _).drew).owner hk (i, x) ⟨hi, hx⟩ u hu
  have H1 := hide hM'
  have H2 := hide (show Near (Is3 f o b) w.heap.size w w' from (Near.of_below (Below.refl _ _).drew).trans hN)
  have c3 := hM.c3
  have a0 := hA.1 0 _ rfl
  have b0 := hC.1 0 _ rfl
  have p0 := hD.1 0 _ rfl
  have e0 := hE.1 0 _ rfl
  have e1 := hE.1 1 _ rfl
  clear hM' hN hM hA hC hD hi hx hk hE hu
  simp only [poVal, ownV] at hrun
  go_enter Try.func150, Try.ntmps150
  go_still_tail 9, (by kernel_rfl)
  go_wp2
  go_end0
  exact ⟨rfl, H1.out, H2.out⟩

set_option maxRecDepth 100000 in
set_option maxHeartbeats 4000000 in
theorem bal1_walk (g : Nat) (n : NetV) (f o b : Nat) (M : MS) (k : Nat) (E A C D : Nat) (i y u : Int) (p : P4) (w : World) (hM : MemAt w g n f o b M k) (hk : k < 1000000) (hE : BoxV w E #[.int .i64 u]) (hA : BoxV w A #[.pointer (some ⟨g, 0, none⟩)]) (hC : BoxV w C #[.int .i64 i, .int .i64 y])
    (hD : BoxV w D #[.int .i64 p.src, .int .i64 p.dst, .int .i64 p.sport, .int .i64 p.dport]) (hi : i64ok i) (hp : p.ok) (hu : i64ok u) :
    Calls Try.prog 151 #[.pointer (some ⟨E, 0, none⟩), .pointer (some ⟨A, 0, none⟩), .pointer (some ⟨C, 0, none⟩), .pointer (some ⟨D, 0, none⟩)] w fun e w' => e = .returned (.tuple #[]) ∧ MemAt w' g n f o b (M.learn (.back (i, p) u)) (k + 1) ∧ Near (Is3 f o b) w.heap.size w w' := by
  obtain ⟨w', hrun, hM', hN⟩ := (hM.below (Below.refl _ _).drew).back hk (i, p) ⟨hi, hp⟩ u hu
  have H1 := hide hM'
  have H2 := hide (show Near (Is3 f o b) w.heap.size w w' from (Near.of_below (Below.refl _ _).drew).trans hN)
  have c4 := hM.c4
  have a0 := hA.1 0 _ rfl
  have b0 := hC.1 0 _ rfl
  have p0 := hD.1 0 _ rfl
  have p1 := hD.1 1 _ rfl
  have p2 := hD.1 2 _ rfl
  have p3 := hD.1 3 _ rfl
  have e0 := hE.1 0 _ rfl
  clear hM' hN hM hA hC hD hi hp hk hE hu
  simp only [ofVal] at hrun
  go_enter Try.func151, Try.ntmps151
  go_still_tail 9, (by kernel_rfl)
  go_wp2
  go_end0
  exact ⟨rfl, H1.out, H2.out⟩
end Go.Proofs.Ytidikopjfpioaaa
