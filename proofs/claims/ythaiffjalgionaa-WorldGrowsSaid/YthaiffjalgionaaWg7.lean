/- A part of the proof: StepKnow, StepSmall, StepF, Mind1, RegE. -/
import Derived.Test.YthaiffjalgionaaWg6
import Derived.Deep.MidRow
import Derived.Shelf.Abstract
import Derived.StillTailTactics
import Derived.Deep.RegionHeld3

set_option linter.unusedVariables false
set_option linter.unusedSimpArgs false
namespace Go.Proofs.Ythaiffjalgionaa
open Go.RowKit Go.Maps

def BoxV (w : World) (N : Nat) (vs : Array Value) : Prop := (∀ (j : Nat) (v : Value), vs[j]? = some v → w.cell? ⟨N, j, none⟩ = some v) ∧ ∀ o, w.frozen? ⟨N, o, none⟩ = false
theorem BoxV.of_block {w : World} {N : Nat} {vs : Array Value} {t : TypeId} (h : w.heap[N]? = some (.cells vs t)) : BoxV w N vs :=
  ⟨fun j v hv => by rw [cell_of_row _ _ _ _ _ _ h]; exact hv, fun o => by unfold World.frozen?; simp only [h]; simp⟩
theorem BoxV.new (w : World) (vs : Array Value) (t : TypeId) : BoxV (w.alloc (.cells vs t)) w.heap.size vs := BoxV.of_block (heap_alloc_new w _)
theorem BoxV.below {w w' : World} {B N : Nat} {vs : Array Value} (h : BoxV w N vs) (hB : Below B w w') (hN : N < B) : BoxV w' N vs :=
  ⟨fun j v hv => (hB.cell (p := ⟨N, j, none⟩) hN).trans (h.1 j v hv), fun o => (hB.frozen (p := ⟨N, o, none⟩) hN).trans (h.2 o)⟩
theorem BoxV.near {w w' : World} {p : Nat → Prop} {B N : Nat} {vs : Array Value} (h : BoxV w N vs) (hB : Near p B w w') (hN : N < B) (hp : ¬ p N) : BoxV w' N vs :=
  ⟨fun j v hv => (hB.cell (a := ⟨N, j, none⟩) hN hp).trans (h.1 j v hv), fun o => (hB.frozen (a := ⟨N, o, none⟩) hN hp).trans (h.2 o)⟩
theorem BoxV.set {w : World} {N : Nat} {vs : Array Value} (h : BoxV w N vs) (j : Nat) (v : Value) : BoxV (w.setCell ⟨N, j, none⟩ v) N (vs.setIfInBounds j v) := by
  refine ⟨fun i u hu => ?_, fun o => by rw [World.frozen?_setCell]; exact h.2 o⟩
  by_cases e : j = i
  · subst e
    rw [Array.getElem?_setIfInBounds_self] at hu
    split at hu
    · rename_i hj
      cases hu
      exact World.cell?_setCell_same _ _ _ (h.1 j _ (Array.getElem?_eq_getElem hj))
    · cases hu
  · rw [Array.getElem?_setIfInBounds_ne e] at hu
    rw [World.cell?_setCell_other _ _ _ _ (by simp [Ne.symm e])]
    exact h.1 i u hu
theorem BoxV.far {w : World} {N : Nat} {vs : Array Value} (h : BoxV w N vs) (a : Addr) (v : Value) (hne : a.block ≠ N) : BoxV (w.setCell a v) N vs := by
  refine ⟨fun i u hu => ?_, fun o => by rw [World.frozen?_setCell]; exact h.2 o⟩
  rw [World.cell?_setCell_other _ _ _ _ (by intro e; apply hne; rw [e])]
  exact h.1 i u hu
theorem BoxV.there {w : World} {N : Nat} {vs : Array Value} (h : BoxV w N vs) {n : Nat} (hn : n ≤ vs.size) : w.there N 0 n := fun j hj =>
  ⟨by rw [Nat.zero_add, h.1 j _ (Array.getElem?_eq_getElem (by omega))]; rfl, h.2 _⟩
theorem BoxV.all {w : World} {N : Nat} {vs : Array Value} (h : BoxV w N vs) (cs : List Value) (hl : cs.length = vs.size) : BoxV (w.setCells N 0 cs) N cs.toArray :=
  ⟨fun j v hv => by
    have := World.rangeAt_setCells_same w N 0 cs (h.there (by omega)) j v (by simpa using hv)
    rwa [Nat.zero_add] at this, fun o => by rw [World.frozen?_setCells]; exact h.2 o⟩
theorem below_setCells {B N : Nat} {a : World} (hN : B ≤ N) : ∀ (cs : List Value) (o : Nat) (w : World), Below B a w → Below B a (w.setCells N o cs)
  | [], _, _, h => h
  | v :: r, o, w, h => below_setCells hN r (o + 1) _ (h.setCell (by exact hN) v)
theorem info_gone : (Try.prog.info? 134).map (·.size) = some 6 := by kernel_rfl
theorem boxesB : ∀ (l : List (Array Value × TypeId)) (W : World) (i : Nat) c t, l[i]? = some (c, t) → (l.foldl (fun w x => w.alloc (.cells x.1 x.2)) W).heap[W.heap.size + i]? = some (.cells c t) := by
  intro l
  induction l with
  | nil => intro W i c t h; simp at h
  | cons x l ih =>
    intro W i c t h
    have hz : (W.alloc (.cells x.1 x.2)).heap.size = W.heap.size + 1 := by simp
    simp only [List.foldl_cons]
    cases i with
    | zero =>
      cases h
      obtain ⟨_, hb, _⟩ := boxesL l (W.alloc (.cells c t)) (Below.refl _ _)
      rw [hz] at hb
      rw [Nat.add_zero, hb.block _ (Nat.lt_succ_self _)]
      exact heap_alloc_new W _
    | succ i =>
      have := ih (W.alloc (.cells x.1 x.2)) i c t (by simpa using h)
      rw [hz] at this
      rw [show W.heap.size + (i + 1) = W.heap.size + 1 + i by omega]
      exact this
theorem boxesV (l : List (Array Value × TypeId)) (W : World) {W' : World} {B : Nat} (hb : Below B (l.foldl (fun w x => w.alloc (.cells x.1 x.2)) W) W') :
    (∀ (i : Nat) c t, l[i]? = some (c, t) → W.heap.size + i < B → BoxV W' (W.heap.size + i) c) ∧ (W.heap.size ≤ B → Below W.heap.size W W') := by
  refine ⟨fun i c t hi hB => BoxV.of_block (t := t) ((hb.block _ hB).trans (boxesB l W i c t hi)), fun hB => ?_⟩
  obtain ⟨_, h2, _⟩ := boxesL l W (Below.refl _ _)
  exact h2.trans (hb.mono hB)

def goneV (port : Int) (q : P4) (v : Value) : Value := .agg #[.int .i64 port, .int .i64 q.src, .int .i64 q.dst, .int .i64 q.sport, .int .i64 q.dport, v]

structure Same (L B : Nat) (w w' : World) : Prop where
  size : w.heap.size ≤ w'.heap.size
  blk : ∀ K, L ≤ K → K < B → w'.heap[K]? = w.heap[K]?
theorem Same.of_below {L B : Nat} {w w' : World} (h : Below B w w') : Same L B w w' := ⟨h.size, fun K _ hK => h.block K hK⟩
theorem Same.mono {L B B' : Nat} {w w' : World} (h : Same L B w w') (hB : B' ≤ B) : Same L B' w w' := ⟨h.size, fun K h1 h2 => h.blk K h1 (by omega)⟩
theorem Same.trans {L B : Nat} {w w' w'' : World} (h : Same L B w w') (k : Same L B w' w'') : Same L B w w'' := ⟨Nat.le_trans h.size k.size, fun K h1 h2 => (k.blk K h1 h2).trans (h.blk K h1 h2)⟩
theorem BoxV.sameL {w w' : World} {L B N : Nat} {vs : Array Value} (h : BoxV w N vs) (hs : Same L B w w') (hL : L ≤ N) (hN : N < B) : BoxV w' N vs :=
  ⟨fun j v hv => (World.cell?_of_block (a := ⟨N, j, none⟩) (hs.blk N hL hN)).trans (h.1 j v hv), fun o => (World.frozen?_of_block (a := ⟨N, o, none⟩) (hs.blk N hL hN)).trans (h.2 o)⟩
theorem setCells_blk {L N : Nat} (hN : N < L) : ∀ (cs : List Value) (o : Nat) (w : World), w.heap.size ≤ (w.setCells N o cs).heap.size ∧ ∀ K, L ≤ K → (w.setCells N o cs).heap[K]? = w.heap[K]?
  | [], _, w => ⟨Nat.le_refl _, fun _ _ => rfl⟩
  | v :: r, o, w => by
    obtain ⟨h1, h2⟩ := setCells_blk hN r (o + 1) (w.setCell ⟨N, o, none⟩ v)
    refine ⟨by simpa [World.setCell, World.setCells] using h1, fun K hK => ?_⟩
    rw [World.setCells, h2 K hK]
    exact Below.heap_setCell _ _ _ _ (by show K ≠ N; omega)
theorem same_setCells {L B N : Nat} (hN : N < L) (cs : List Value) (w : World) : Same L B w (w.setCells N 0 cs) :=
  ⟨(setCells_blk hN cs 0 w).1, fun K hK _ => (setCells_blk hN cs 0 w).2 K hK⟩

def KnowAt (L : Nat) (w : World) (g : Nat) (n : NetV) (f o b : Nat) (v : Value) (kn : Know) : Prop :=
  (kn = .nothing ∧ v = .nilFunc) ∨ (∃ F cap, v = .func (.func F) #[] cap ∧ (∀ (args : Array Value) (w' : World), (callFunc F args).run Try.prog w' = .ok (.enter F args) w') ∧ ∀ (M : MS) (k : Nat) (w' : World), Same L w.heap.size w w' → MemAt w' g n f o b M k → k < 1000000 →
    Calls Try.prog F cap w' fun e w'' => e = .returned (.tuple #[]) ∧ MemAt w'' g n f o b (M.learn kn) (k + 1) ∧ Near (Is3 f o b) w'.heap.size w' w'')
theorem KnowAt.later {L L' : Nat} {w w' : World} {g : Nat} {n : NetV} {f o b : Nat} {v : Value} {kn : Know} (h : KnowAt L w g n f o b v kn) (hb : Same L w.heap.size w w') (hL : L' ≤ L) : KnowAt L' w' g n f o b v kn := by
  rcases h with h | ⟨F, cap, e, he, h⟩
  · exact .inl h
  · exact .inr ⟨F, cap, e, he, fun M k w'' hb' => h M k w'' (hb.trans ⟨hb'.size, fun K h1 h2 => hb'.blk K (by omega) (by have := hb.size; omega)⟩)⟩
theorem KnowAt.one {L : Nat} {w : World} {g : Nat} {n : NetV} {f o b : Nat} {v : Value} {kn : Know} (h : KnowAt L w g n f o b v kn) : v.oneCell' = true := by
  rcases h with ⟨_, rfl⟩ | ⟨F, cap, rfl, _⟩ <;> rfl
theorem one6 {a b c d e : Int} {v : Value} (h : v.oneCell' = true) : (#[.int .i64 a, .int .i64 b, .int .i64 c, .int .i64 d, .int .i64 e, v] : Array Value).all (·.oneCell') = true := by
  have hi : ∀ k n, (Value.int k n).oneCell' = true := fun _ _ => rfl
  simp [hi, h]

theorem fire1_enters : ∀ (args : Array Value) (w' : World), (callFunc 162 args).run Try.prog w' = .ok (.enter 162 args) w' := enters_of Try.func162 (by kernel_rfl) rfl
theorem nat1_enters : ∀ (args : Array Value) (w' : World), (callFunc 165 args).run Try.prog w' = .ok (.enter 165 args) w' := enters_of Try.func165 (by kernel_rfl) rfl
theorem bal1_enters : ∀ (args : Array Value) (w' : World), (callFunc 166 args).run Try.prog w' = .ok (.enter 166 args) w' := enters_of Try.func166 (by kernel_rfl) rfl
set_option maxRecDepth 100000 in
set_option maxHeartbeats 4000000 in
theorem fire1_walk (g : Nat) (n : NetV) (f o b : Nat) (M : MS) (k : Nat) (A C D : Nat) (i y : Int) (p : P4) (w : World) (hM : MemAt w g n f o b M k) (hk : k < 1000000) (hA : BoxV w A #[.pointer (some ⟨g, 0, none⟩)]) (hC : BoxV w C #[.int .i64 i, .int .i64 y])
    (hD : BoxV w D #[.int .i64 p.src, .int .i64 p.dst, .int .i64 p.sport, .int .i64 p.dport]) (hi : i64ok i) (hp : p.ok) :
    Calls Try.prog 162 #[.pointer (some ⟨A, 0, none⟩), .pointer (some ⟨C, 0, none⟩), .pointer (some ⟨D, 0, none⟩)] w fun e w' => e = .returned (.tuple #[]) ∧ MemAt w' g n f o b (M.learn (.flow (i, p))) (k + 1) ∧ Near (Is3 f o b) w.heap.size w w' := by
  obtain ⟨w', hrun, hM', hN⟩ := (hM.below (Below.refl _ _).drew).flow hk (i, p) ⟨hi, hp⟩
  have H1 := hide hM'
  have H2 := hide (show Near (Is3 f o b) w.heap.size w w' from (Near.of_below (Below.refl _ _).drew).trans hN)
  have c2 := hM.c2
  have a0 := hA.1 0 _ rfl
  have b0 := hC.1 0 _ rfl
  have p0 := hD.1 0 _ rfl
  have p1 := hD.1 1 _ rfl
  have p2 := hD.1 2 _ rfl
  have p3 := hD.1 3 _ rfl
  clear hM' hN hM hA hC hD hi hp hk
  simp only [ofVal] at hrun
  go_enter Try.func162, Try.ntmps162
  go_still_tail 8, (by kernel_rfl)
  go_wp2
  go_end0
  exact ⟨rfl, H1.out, H2.out⟩

set_option maxRecDepth 100000 in
set_option maxHeartbeats 4000000 in
theorem nat1_walk (g : Nat) (n : NetV) (f o b : Nat) (M : MS) (k : Nat) (E A C D : Nat) (i y x : Int) (u : Int × Int) (w : World) (hM : MemAt w g n f o b M k) (hk : k < 1000000) (hE : BoxV w E #[.int .i64 u.1, .int .i64 u.2]) (hA : BoxV w A #[.pointer (some ⟨g, 0, none⟩)]) (hC : BoxV w C #[.int .i64 i, .int .i64 y])
    (hD : BoxV w D #[.int .i64 x]) (hi : i64ok i) (hx : i64ok x) (hu : i64ok u.1 ∧ i64ok u.2) :
    Calls Try.prog 165 #[.pointer (some ⟨E, 0, none⟩), .pointer (some ⟨A, 0, none⟩), .pointer (some ⟨C, 0, none⟩), .pointer (some ⟨D, 0, none⟩)] w fun e w' => e = .returned (.tuple #[]) ∧ MemAt w' g n f o b (M.learn (.owner (i, x) u)) (k + 1) ∧ Near (Is3 f o b) w.heap.size w w' := by
  obtain ⟨w', hrun, hM', hN⟩ := (hM.below (Below.refl _ _).drew).owner hk (i, x) ⟨hi, hx⟩ u hu
  have H1 := hide hM'
  have H2 := hide (show Near (Is3 f o b) w.heap.size w w' from (Near.of_below (Below.refl _ _).drew).trans hN)
  have c3 := hM.c3
  have a0 := hA.1 0 _ rfl
  have b0 := hC.1 0 _ rfl
  have p0 := hD.1 0 _ rfl
  have e0 := hE.1 0 _ rfl
  have e1 := hE.1 1 _ rfl
  clear hM' hN hM hA hC hD hi hx hk hE hu
  simp only [poVal, ownV] at hrun
  go_enter Try.func165, Try.ntmps165
  go_still_tail 9, (by kernel_rfl)
  go_wp2
  go_end0
  exact ⟨rfl, H1.out, H2.out⟩

set_option maxRecDepth 100000 in
set_option maxHeartbeats 4000000 in
theorem bal1_walk (g : Nat) (n : NetV) (f o b : Nat) (M : MS) (k : Nat) (E A C D : Nat) (i y u : Int) (p : P4) (w : World) (hM : MemAt w g n f o b M k) (hk : k < 1000000) (hE : BoxV w E #[.int .i64 u]) (hA : BoxV w A #[.pointer (some ⟨g, 0, none⟩)]) (hC : BoxV w C #[.int .i64 i, .int .i64 y])
    (hD : BoxV w D #[.int .i64 p.src, .int .i64 p.dst, .int .i64 p.sport, .int .i64 p.dport]) (hi : i64ok i) (hp : p.ok) (hu : i64ok u) :
    Calls Try.prog 166 #[.pointer (some ⟨E, 0, none⟩), .pointer (some ⟨A, 0, none⟩), .pointer (some ⟨C, 0, none⟩), .pointer (some ⟨D, 0, none⟩)] w fun e w' => e = .returned (.tuple #[]) ∧ MemAt w' g n f o b (M.learn (.back (i, p) u)) (k + 1) ∧ Near (Is3 f o b) w.heap.size w w' := by
  obtain ⟨w', hrun, hM', hN⟩ := (hM.below (Below.refl _ _).drew).back hk (i, p) ⟨hi, hp⟩ u hu
  have H1 := hide hM'
  have H2 := hide (show Near (Is3 f o b) w.heap.size w w' from (Near.of_below (Below.refl _ _).drew).trans hN)
  have c4 := hM.c4
  have a0 := hA.1 0 _ rfl
  have b0 := hC.1 0 _ rfl
  have p0 := hD.1 0 _ rfl
  have p1 := hD.1 1 _ rfl
  have p2 := hD.1 2 _ rfl
  have p3 := hD.1 3 _ rfl
  have e0 := hE.1 0 _ rfl
  clear hM' hN hM hA hC hD hi hp hk hE hu
  simp only [ofVal] at hrun
  go_enter Try.func166, Try.ntmps166
  go_still_tail 9, (by kernel_rfl)
  go_wp2
  go_end0
  exact ⟨rfl, H1.out, H2.out⟩
end Go.Proofs.Ythaiffjalgionaa

set_option linter.unusedVariables false
set_option linter.unusedSimpArgs false
namespace Go.Proofs.Ythaiffjalgionaa
open Go.RowKit

set_option maxRecDepth 100000 in
theorem placeOf_walk (a b : Int) (W : World) : Calls Try.prog 105 #[.int .i64 a, .int .i64 b] W fun e W' => e = .returned (.agg #[.int .i64 a, .int .i64 b]) ∧ RowKit.Below W.heap.size W W' := by
  have hb := (RowKit.Below.refl W.heap.size W).alloc (Nat.le_refl _) (.cells #[.int .i64 a, .int .i64 b] 37)
  have hx := Box2.new W a b 37
  go_enter Try.func105, Try.ntmps105
  go_wp2
  obtain ⟨z0, z1, _, _⟩ := hx
  refine bodyPost_ret (v := .agg #[.int .i64 a, .int .i64 b]) (by simp [results, Try.f105, go_sem, z0, z1]) rfl ⟨rfl, ?_⟩
  first | exact hb | exact (((RowKit.Below.refl W.heap.size W).alloc (Nat.le_refl _) _).setCell (Nat.le_refl _) _).setCell (Nat.le_refl _) _

def Box4 (w : World) (N : Nat) (a b c d : Int) : Prop := (w.cell? ⟨N, 0, none⟩ = some (.int .i64 a) ∧ w.cell? ⟨N, 1, none⟩ = some (.int .i64 b) ∧ w.cell? ⟨N, 2, none⟩ = some (.int .i64 c) ∧ w.cell? ⟨N, 3, none⟩ = some (.int .i64 d)) ∧ ∀ o, w.frozen? ⟨N, o, none⟩ = false
theorem Box4.new (w : World) (a b c d : Int) (t : TypeId) : Box4 (w.alloc (.cells #[.int .i64 a, .int .i64 b, .int .i64 c, .int .i64 d] t)) w.heap.size a b c d := by
  have hbx := heap_alloc_new w (.cells #[.int .i64 a, .int .i64 b, .int .i64 c, .int .i64 d] t)
  refine ⟨⟨?_, ?_, ?_, ?_⟩, fun o => by unfold World.frozen?; rw [hbx]; simp⟩ <;> (rw [cell_of_row _ _ _ _ _ _ hbx]; rfl)
theorem Box4.below {w w' : World} {B N : Nat} {a b c d : Int} (h : Box4 w N a b c d) (hB : Below B w w') (hN : N < B) : Box4 w' N a b c d := by
  have ee : ∀ o, w'.cell? ⟨N, o, none⟩ = w.cell? ⟨N, o, none⟩ := fun o => hB.cell (p := ⟨N, o, none⟩) hN
  have ff : ∀ o, w'.frozen? ⟨N, o, none⟩ = w.frozen? ⟨N, o, none⟩ := fun o => hB.frozen (p := ⟨N, o, none⟩) hN
  unfold Box4
  rw [ee, ee, ee, ee]
  exact ⟨h.1, fun o => (ff o).trans (h.2 o)⟩

def flipP (p : P4) : P4 := ⟨p.dst, p.src, p.dport, p.sport⟩
set_option maxRecDepth 100000 in
set_option maxHeartbeats 4000000 in
theorem flip_walk (p : P4) (W : World) : Calls Try.prog 163 #[.agg #[.int .i64 p.src, .int .i64 p.dst, .int .i64 p.sport, .int .i64 p.dport]] W fun e W' => e = .returned (.agg #[.int .i64 p.dst, .int .i64 p.src, .int .i64 p.dport, .int .i64 p.sport]) ∧ RowKit.Below W.heap.size W W' := by
  obtain ⟨a, b, c, d⟩ := p
  simp only
  have HB := hide (show ∀ o o', RowKit.Below W.heap.size W ((W.alloc o).alloc o') from fun o o' => ((RowKit.Below.refl W.heap.size W).alloc (Nat.le_refl _) o).alloc (by simp) o')
  have hx := Box4.new W a b c d 39
  have hy := Box4.new (W.alloc (.cells #[.int .i64 a, .int .i64 b, .int .i64 c, .int .i64 d] 39)) 0 0 0 0 39
  have hx2 := hx.below ((RowKit.Below.refl _ _).alloc (Nat.le_refl _) (.cells #[.int .i64 0, .int .i64 0, .int .i64 0, .int .i64 0] 39)) (by simp)
  rw [show (W.alloc (.cells #[.int .i64 a, .int .i64 b, .int .i64 c, .int .i64 d] 39)).heap.size = W.heap.size + 1 from by simp] at hy
  obtain ⟨⟨x0, x1, x2, x3⟩, _⟩ := hx2
  obtain ⟨⟨y0, y1, y2, y3⟩, yf⟩ := hy
  clear hx
  have hb0 := HB.out (.cells #[.int .i64 a, .int .i64 b, .int .i64 c, .int .i64 d] 39) (.cells #[.int .i64 0, .int .i64 0, .int .i64 0, .int .i64 0] 39)
  go_enter Try.func163, Try.ntmps163
  go_wp2
  refine bodyPost_ret (v := .agg #[.int .i64 b, .int .i64 a, .int .i64 d, .int .i64 c]) (by simp [results, Try.f163, go_sem, y0, y1, y2, y3]) rfl ⟨rfl, ?_⟩
  first | exact HB.out _ _ | exact (((hb0.setCell (by show _ ≤ W.heap.size + 1; omega) _).setCell (by show _ ≤ W.heap.size + 1; omega) _).setCell (by show _ ≤ W.heap.size + 1; omega) _).setCell (by show _ ≤ W.heap.size + 1; omega) _
end Go.Proofs.Ythaiffjalgionaa

set_option linter.unusedVariables false
set_option linter.unusedSimpArgs false
namespace Go.Proofs.Ythaiffjalgionaa
open Go.RowKit Go.Maps

structure GoneS where
  port : Int
  q : P4
  kn : Know
def GoneS.zero : GoneS := ⟨0, ⟨0, 0, 0, 0⟩, .nothing⟩

def fireF (r : Dev) (M : MS) (i y : Int) (p : P4) : GoneS × Bool :=
  if y = 0 then (⟨1, p, .flow (i, p)⟩, letsB r.rules p) else (⟨0, p, .nothing⟩, M.F (i, flipP p))
def mineG (M : MS) (i : Int) (o : Int × Int) : Nat → Nat → Int
  | 0, _ => -1
  | m + 1, k => if M.O (i, (k : Int)) = some o then (k : Int) else mineG M i o m (k + 1)
def mineF (M : MS) (i : Int) (o : Int × Int) : Int := mineG M i o 8 0
def hasBit (pool : Nat) (c : Int) : Bool := pool.testBit c.toNat
def natF (r : Dev) (M : MS) (i y : Int) (p : P4) (ch : Int) : GoneS × Bool × Int :=
  if y = 1 then
    if p.dst ≠ r.addr then (.zero, false, 0)
    else match M.O (i, p.dport) with
      | some o => (⟨0, ⟨p.src, o.1, p.sport, o.2⟩, .nothing⟩, true, 0)
      | none => (.zero, false, 0)
  else if 0 ≤ mineF M i (p.src, p.sport) then
    (⟨1, ⟨r.addr, p.dst, mineF M i (p.src, p.sport), p.dport⟩, .owner (i, mineF M i (p.src, p.sport)) (p.src, p.sport)⟩, true, 0)
  else if ch < 0 ∨ 8 ≤ ch ∨ hasBit r.pool ch = false then (.zero, false, 1)
  else if (M.O (i, ch)).isSome then (.zero, false, 6)
  else (⟨1, ⟨r.addr, p.dst, ch, p.dport⟩, .owner (i, ch) (p.src, p.sport)⟩, true, 0)
def balF (r : Dev) (M : MS) (i y : Int) (p : P4) (ch : Int) : GoneS × Int :=
  if y = 1 then
    (⟨0, if M.B (i, ⟨p.dst, r.addr, p.dport, p.sport⟩) = some p.src then ⟨r.addr, p.dst, p.sport, p.dport⟩ else p, .nothing⟩, 0)
  else if p.dst ≠ r.addr then (⟨1, p, .nothing⟩, 0)
  else match M.B (i, p) with
    | some b => (⟨1, ⟨p.src, b, p.sport, p.dport⟩, .back (i, p) b⟩, 0)
    | none => match (if ch < 0 then none else r.backs[ch.toNat]?) with
      | some b => (⟨1, ⟨p.src, b, p.sport, p.dport⟩, .back (i, p) b⟩, 0)
      | none => (.zero, 1)
def routF (r : Dev) (p : P4) : GoneS × Bool := (⟨(outF p.dst r.routes).1, p, .nothing⟩, decide (0 ≤ (outF p.dst r.routes).2) && letsB r.rules p)
def outS (r : Dev) (M : MS) (i y : Int) (p : P4) (ch : Int) : GoneS × Bool × Int :=
  if r.kind = 2 then ((routF r p).1, (routF r p).2, 0)
  else if r.kind = 3 then ((fireF r M i y p).1, (fireF r M i y p).2, 0)
  else if r.kind = 4 then natF r M i y p ch
  else if r.kind = 5 then ((balF r M i y p ch).1, decide ((balF r M i y p ch).2 = 0), (balF r M i y p ch).2)
  else (.zero, false, 0)

structure HandS where
  e : Int
  to : Pl
  q : P4
  kn : Know
def HandS.bad (e : Int) : HandS := ⟨e, (0, 0), ⟨0, 0, 0, 0⟩, .nothing⟩
def goS (ls : List LinkV) (i : Int) (x : GoneS × Bool × Int) : HandS :=
  if x.2.2 ≠ 0 then .bad x.2.2
  else match peerF ls (i, x.1.port) with
    | none => .bad 7
    | some to => if x.2.1 then ⟨0, to, x.1.q, x.1.kn⟩ else .bad 7
def handS (ds : List Dev) (ls : List LinkV) (M : MS) (i y : Int) (p : P4) (ch : Int) : HandS :=
  if placeB ds (i, y) = false then .bad 4
  else if rightB p = false then .bad 1
  else match ds[i.toNat]? with
    | none => .bad 4
    | some r => goS ls i (outS r M i y p ch)
def HandS.val (h : HandS) : Value := .tuple #[.agg #[.int .i64 h.to.1, .int .i64 h.to.2, .int .i64 h.q.src, .int .i64 h.q.dst, .int .i64 h.q.sport, .int .i64 h.q.dport], .int .i64 h.e]

theorem info_device : (Try.prog.info? 97).map (·.size) = some 7 := by kernel_rfl
theorem info_owner : (Try.prog.info? 154).map (·.size) = some 2 := by kernel_rfl
def DevV.arr (d : DevV) : Array Value := #[.string d.name, .int .i64 d.kind, .int .i64 d.addr, .int .u8 d.pool, .slice d.bA d.bn d.bc, .slice d.rA d.rn d.rc, .slice d.tA d.tn d.tc]

theorem DevV.arr_one (d : DevV) : d.arr.all (·.oneCell') = true := by simp [DevV.arr, Value.oneCell']

structure AtDev (W : World) (g : Nat) (n : NetV) (f o b : Nat) (M : MS) (k : Nat) (i y : Int) (p : P4) (r : DevV) (G : Nat) (w : World) : Prop where
  memW : ∀ w', Below W.heap.size W w' → MemAt w' g n f o b M k
  bl : Below W.heap.size W w
  b0 : BoxV w W.heap.size #[.pointer (some ⟨g, 0, none⟩)]
  b1 : BoxV w (W.heap.size + 1) #[.int .i64 i, .int .i64 y]
  b2 : BoxV w (W.heap.size + 1 + 1) #[.int .i64 p.src, .int .i64 p.dst, .int .i64 p.sport, .int .i64 p.dport]
  b3 : BoxV w (W.heap.size + 1 + 1 + 1) #[.int .i64 0, .int .i64 0, .int .i64 0, .int .i64 0, .int .i64 0, .nilFunc]
  bd : BoxV w G r.arr
  hg : W.heap.size + 1 + 1 + 1 < G
  lt : G < w.heap.size
theorem AtDev.mem {W : World} {g : Nat} {n : NetV} {f o b : Nat} {M : MS} {k : Nat} {i y : Int} {p : P4} {r : DevV} {G : Nat} {w : World} (h : AtDev W g n f o b M k i y p r G w) : MemAt w g n f o b M k := h.memW w h.bl
theorem AtDev.below {W : World} {g : Nat} {n : NetV} {f o b : Nat} {M : MS} {k : Nat} {i y : Int} {p : P4} {r : DevV} {G : Nat} {w w' : World} (h : AtDev W g n f o b M k i y p r G w) (hb : Below w.heap.size w w') : AtDev W g n f o b M k i y p r G w' := by
  have h1 := h.lt
  have h2 := h.hg
  have h3 := h.bl.size
  exact ⟨h.memW, h.bl.trans (hb.mono h3), h.b0.below hb (by omega), h.b1.below hb (by omega), h.b2.below hb (by omega), h.b3.below hb (by omega), h.bd.below hb h1, h2, by have := hb.size; omega⟩

theorem AtDev.alloc {W : World} {g : Nat} {n : NetV} {f o b : Nat} {M : MS} {k : Nat} {i y : Int} {p : P4} {r : DevV} {G : Nat} {w : World} (h : AtDev W g n f o b M k i y p r G w) (x : Obj) : AtDev W g n f o b M k i y p r G (w.alloc x) := h.below ((Below.refl _ _).alloc (Nat.le_refl _) x)
theorem AtDev.far {W : World} {g : Nat} {n : NetV} {f o b : Nat} {M : MS} {k : Nat} {i y : Int} {p : P4} {r : DevV} {G : Nat} {w : World} (h : AtDev W g n f o b M k i y p r G w) (a : Addr) (v : Value) (ha : G < a.block) : AtDev W g n f o b M k i y p r G (w.setCell a v) := by
  have h2 := h.hg
  have h3 := h.bl.size
  exact ⟨h.memW, h.bl.setCell (by omega) v, h.b0.far _ _ (by omega), h.b1.far _ _ (by omega), h.b2.far _ _ (by omega), h.b3.far _ _ (by omega), h.bd.far _ _ (by omega), h2, by have := h.lt; simpa [World.setCell] using this⟩
theorem BoxV.apart {w : World} {N : Nat} {vs : Array Value} (h : BoxV w N vs) (b : Nat) (cs : List Value) (hne : b ≠ N) : BoxV (w.setCells b 0 cs) N vs :=
  ⟨fun j v hv => by rw [World.cell?_setCells_out b cs 0 w ⟨N, j, none⟩ (fun e _ => absurd e.symm hne)]; exact h.1 j v hv, fun o => by rw [World.frozen?_setCells]; exact h.2 o⟩
end Go.Proofs.Ythaiffjalgionaa

set_option linter.unusedVariables false
set_option linter.unusedSimpArgs false
namespace Go.Proofs.Ythaiffjalgionaa
open Go.RowKit

structure FactV where
  d : Int
  p : P4
  n : Int
def FactV.cells (x : FactV) : List Value := [.int .i64 x.d, .int .i64 x.p.src, .int .i64 x.p.dst, .int .i64 x.p.sport, .int .i64 x.p.dport, .int .i64 x.n]
def eq4 (p q : P4) : Bool := p.src == q.src && p.dst == q.dst && p.sport == q.sport && p.dport == q.dport
def eqF (x y : FactV) : Bool := x.d == y.d && eq4 x.p y.p && x.n == y.n
theorem eq4_iff (p q : P4) : eq4 p q = true ↔ p = q := by
  obtain ⟨a, b, c, d⟩ := p
  obtain ⟨a', b', c', d'⟩ := q
  simp [eq4, and_assoc]
theorem eqF_iff (x y : FactV) : eqF x y = true ↔ x = y := by
  obtain ⟨a, p, c⟩ := x
  obtain ⟨a', p', c'⟩ := y
  simp [eqF, eq4_iff, and_assoc]

end Go.Proofs.Ythaiffjalgionaa

set_option linter.unusedVariables false
set_option linter.unusedSimpArgs false
namespace Go.Proofs.Ythaiffjalgionaa

structure ClosedL (md : Region.Mode) (ops : Array Oper) (listed : Array Bool) : Prop where
  size : listed.size = ops.size
  closed : ∀ j oj, ops[j]? = some oj → listed.getD j false = true → ∀ e ∈ oj.after, Region.binds md e = true → listed.getD e.on false = true

def chainOk (md : Region.Mode) (ops : Array Oper) : List Nat → Bool
  | i :: j :: r => Region.waitsFor md ops j i && chainOk md ops (j :: r)
  | _ => true

section
variable {P : Program} {ops : Array Oper} {Q : Exit → Act → World → Prop} {md : Region.Mode} {S : World → Prop} {s : Nat}

theorem ClosedL.set {i : Nat} {listed : Array Bool} (inv : ClosedL md ops listed) (hi : i ∈ Region.ready md ops listed) : ClosedL md ops (listed.setIfInBounds i true) := by
  obtain ⟨_, oi, hoi, hall⟩ := mem_ready.1 hi
  refine ⟨by simp [inv.size], fun j oj hj hl e he hb => ?_⟩
  by_cases hij : i = j
  · subst hij
    have : oj = oi := Option.some.inj (hj.symm.trans hoi)
    subst this
    exact getD_set_true (hall e he hb)
  · rw [getD_set_ne false hij] at hl
    exact getD_set_true (inv.closed j oj hj hl e he hb)

theorem chain_back {listed : Array Bool} (inv : ClosedL md ops listed) : ∀ (c : List Nat) (i s : Nat), chainOk md ops (i :: c) = true → (i :: c).getLast? = some s → listed.getD s false = true → listed.getD i false = true
  | [], i, s, _, hl, h => by simp at hl; rw [hl]; exact h
  | j :: r, i, s, hc, hl, h => by
    simp only [chainOk, Bool.and_eq_true] at hc
    have h1 := chain_back inv r j s hc.2 (by simpa using hl) h
    obtain ⟨oj, hoj, e, he, hb, hon⟩ := Region.waitsFor_spec hc.1
    have := inv.closed j oj hoj h1 e he hb
    rwa [hon] at this

theorem chain_unlisted {listed : Array Bool} (inv : ClosedL md ops listed) {c : List Nat} {i : Nat} (hc : chainOk md ops (i :: c) = true) (hl : (i :: c).getLast? = some s) (hs : s < ops.size) (hi : listed.getD i true = false) : listed.getD s true = false := by
  cases h : listed.getD s false with
  | true => have := chain_back inv c i s hc hl h; rw [getD_both hi] at this; cases this
  | false => exact getD_in (by rw [inv.size]; exact hs) h

def wpAnyE (P : Program) (md : Region.Mode) (ops : Array Oper) (Q : Exit → Act → World → Prop) (S : World → Prop) (s : Nat) : Nat → Array Bool → Act → World → Prop
  | 0, listed, a, w => Region.ready md ops listed = [] ∧ Q .normal a w
  | fuel + 1, listed, a, w =>
    (Region.ready md ops listed = [] → Q .normal a w) ∧
    ∀ i ∈ Region.ready md ops listed, wpOp P ops Q i (fun a' w' => ((listed.setIfInBounds i true).getD s true = false → S w') ∧ wpAnyE P md ops Q S s fuel (listed.setIfInBounds i true) a' w') a w

theorem wpAny_of_E : ∀ (fuel : Nat) (listed : Array Bool) (a : Act) (w : World), wpAnyE P md ops Q S s fuel listed a w → wpAny P md ops Q fuel listed a w
  | 0, _, _, _, h => h
  | fuel + 1, _, _, _, h => ⟨h.1, fun i hi => wpOp_mono (fun a' w' h' => wpAny_of_E fuel _ a' w' h'.2) (h.2 i hi)⟩

theorem wpAnyE_first {i : Nat} {oi : Oper} {v : Value} {S' : World → Prop} (hi : ops[i]? = some oi) (hsel : ∀ (j : Nat) (o : Oper) cs b, ops[j]? = some o → o.op ≠ .select cs b) (his : i ≠ s)
    (hS' : ∀ (listed : Array Bool) (w : World), ClosedL md ops listed → listed.getD i true = false → (listed.getD s true = false → S w) → S' w)
    (hQ : ∀ c a w, Q (.panic c) (a.put oi.dst v) w → Q (.panic c) a w) :
    ∀ (fuel : Nat) (listed : Array Bool) (a : Act) (w : World), ClosedL md ops listed →
      (∀ j oj, ops[j]? = some oj → j ≠ i → listed.getD j true = false → (∀ e ∈ oj.after, Region.binds md e = true → e.on ≠ i) → oi.apart ops oj = true) →
      i ∈ Region.ready md ops listed → YieldsIf P ops S' oi v a → (listed.getD s true = false → S w) →
      wpAnyE P md ops Q S s fuel (listed.setIfInBounds i true) (a.put oi.dst v) w → wpAnyE P md ops Q S s (fuel + 1) listed a w := by
  have same : ∀ (l : Array Bool), (l.setIfInBounds i true).getD s true = l.getD s true := fun l => getD_set_ne true his
  intro fuel
  induction fuel with
  | zero =>
    intro listed a w inv _ hr hy hS H
    have hun := (mem_ready.1 hr).1
    refine ⟨fun h => (by rw [h] at hr; cases hr), fun j hj => ?_⟩
    by_cases hji : j = i
    · subst hji; exact hy.wpOp hi (hS' listed w inv hun hS) ⟨fun h => hS (by rwa [same] at h), H⟩
    · have := ready_mono hj hji
      rw [H.1] at this
      cases this
  | succ fuel ih =>
    intro listed a w inv hfree hr hy hS H
    have hun := (mem_ready.1 hr).1
    refine ⟨fun h => (by rw [h] at hr; cases hr), fun j hj => ?_⟩
    by_cases hji : j = i
    · subst hji; exact hy.wpOp hi (hS' listed w inv hun hS) ⟨fun h => hS (by rwa [same] at h), H⟩
    · have h1 := H.2 j (ready_mono hj hji)
      obtain ⟨hjun, oj, hoj, hall⟩ := mem_ready.1 hj
      have hnot : ∀ e ∈ oj.after, Region.binds md e = true → e.on ≠ i := fun e he hb heq => by
        have h1 := hall e he hb
        rw [heq, getD_both hun] at h1
        cases h1
      have h2 := wpOp_putIf hoj (hfree j oj hoj hji hjun hnot) (fun cs b => hsel i oi cs b hi) (fun cs b => hsel j oj cs b hoj) hQ hy h1
      have hfree' : ∀ k ok, ops[k]? = some ok → k ≠ i → (listed.setIfInBounds j true).getD k true = false →
          (∀ e ∈ ok.after, Region.binds md e = true → e.on ≠ i) → oi.apart ops ok = true := fun k ok hk hki hun hno => by
        refine hfree k ok hk hki ?_ hno
        by_cases hjk : j = k
        · subst hjk; exact hjun
        · rw [getD_set_ne true hjk] at hun; exact hun
      refine wpOp_mono (fun a' w' h3 => ?_) h2
      have hS2 : (listed.setIfInBounds j true).getD s true = false → S w' := fun h => h3.2.1 (by rw [Array.setIfInBounds_comm _ _ (Ne.symm hji), same]; exact h)
      refine ⟨hS2, ih (listed.setIfInBounds j true) a' w' (inv.set hj) hfree' (ready_mono hr (Ne.symm hji)) h3.1 hS2 ?_⟩
      rw [Array.setIfInBounds_comm _ _ hji]
      exact h3.2.2

theorem wpAnyE_load {i : Nat} {oi : Oper} {v : Value} {fuel : Nat} {listed : Array Bool} {a : Act} {w : World} (c : List Nat) (hi0 : ops.toList[i]? = some oi) (hs : Region.noSelect ops = true) (hf : Region.free md ops listed i = true)
    (hr : (Region.ready md ops listed).contains i = true) (his : decide (i ≠ s) && decide (s < ops.size) && chainOk md ops (i :: c) && decide ((i :: c).getLast? = some s) = true) (hQ : ∀ c a w, Q (.panic c) (a.put oi.dst v) w → Q (.panic c) a w) (inv : Shut (ClosedL md ops listed)) (hy : YieldsIf P ops S oi v a) (hS : S w)
    (h : Shut (ClosedL md ops (listed.setIfInBounds i true)) → wpAnyE P md ops Q S s fuel (listed.setIfInBounds i true) (a.put oi.dst v) w) : wpAnyE P md ops Q S s (fuel + 1) listed a w := by
  have hi : ops[i]? = some oi := by simpa using hi0
  simp only [Bool.and_eq_true, decide_eq_true_eq] at his
  have hr' : i ∈ Region.ready md ops listed := by simpa using hr
  exact wpAnyE_first hi (Region.noSelect_spec hs) his.1.1.1 (fun l w inv hun hS => hS (chain_unlisted inv his.1.2 his.2 his.1.1.2 hun)) hQ fuel listed a w inv.out (Region.free_spec hi hf) hr' hy (fun _ => hS) (h (inv.out.set hr'))

theorem wpAnyE_pure {i : Nat} {oi : Oper} {v : Value} {fuel : Nat} {listed : Array Bool} {a : Act} {w : World} (hi0 : ops.toList[i]? = some oi) (hs : Region.noSelect ops = true) (hf : Region.free md ops listed i = true)
    (hr : (Region.ready md ops listed).contains i = true) (his : decide (i ≠ s) = true) (hQ : ∀ c a w, Q (.panic c) (a.put oi.dst v) w → Q (.panic c) a w) (inv : Shut (ClosedL md ops listed)) (hy : YieldsIf P ops (fun _ => True) oi v a) (hS : listed.getD s true = false → S w)
    (h : Shut (ClosedL md ops (listed.setIfInBounds i true)) → wpAnyE P md ops Q S s fuel (listed.setIfInBounds i true) (a.put oi.dst v) w) : wpAnyE P md ops Q S s (fuel + 1) listed a w := by
  have hi : ops[i]? = some oi := by simpa using hi0
  have hr' : i ∈ Region.ready md ops listed := by simpa using hr
  exact wpAnyE_first hi (Region.noSelect_spec hs) (by simpa using his) (fun _ _ _ _ _ => trivial) hQ fuel listed a w inv.out (Region.free_spec hi hf) hr' hy hS (h (inv.out.set hr'))

theorem wpAnyE_one {i : Nat} {o : Oper} {fuel : Nat} {listed : Array Bool} {a : Act} {w : World} (ho0 : ops.toList[i]? = some o) (hr : Region.ready md ops listed = [i]) (inv : Shut (ClosedL md ops listed))
    (h : ∀ K' : Act → World → Prop, Shut (∀ a w, ((listed.setIfInBounds i true).getD s true = false → S w) → (Shut (ClosedL md ops (listed.setIfInBounds i true)) → wpAnyE P md ops Q S s fuel (listed.setIfInBounds i true) a w) → K' a w) → if Region.wanted o (yielded ops a.tmps) = true then Oper.wp P o a w K' Q else K' (a.put o.dst undef) w) :
    wpAnyE P md ops Q S s (fuel + 1) listed a w := by
  have ho : ops[i]? = some o := by simpa using ho0
  have hi : i ∈ Region.ready md ops listed := by rw [hr]; simp
  refine ⟨fun h0 => (by rw [h0] at hr; cases hr), fun j hj => ?_⟩
  rw [hr] at hj
  have : j = i := by simpa using hj
  subst this
  exact wpOp_step ho (fun K hK => h K (fun a w hS hW => hK a w ⟨hS, hW (inv.out.set hi)⟩))

theorem wpAnyE_late {i : Nat} {o : Oper} {fuel : Nat} {listed : Array Bool} {a : Act} {w : World} (ho0 : ops.toList[i]? = some o) (hr : Region.ready md ops listed = [i]) (inv : Shut (ClosedL md ops listed)) (hx : (listed.setIfInBounds i true).getD s true = true)
    (h : ∀ K' : Act → World → Prop, Shut (∀ a w, (Shut (ClosedL md ops (listed.setIfInBounds i true)) → wpAnyE P md ops Q S s fuel (listed.setIfInBounds i true) a w) → K' a w) → if Region.wanted o (yielded ops a.tmps) = true then Oper.wp P o a w K' Q else K' (a.put o.dst undef) w) :
    wpAnyE P md ops Q S s (fuel + 1) listed a w := by
  have ho : ops[i]? = some o := by simpa using ho0
  have hi : i ∈ Region.ready md ops listed := by rw [hr]; simp
  refine ⟨fun h0 => (by rw [h0] at hr; cases hr), fun j hj => ?_⟩
  rw [hr] at hj
  have : j = i := by simpa using hj
  subst this
  exact wpOp_step ho (fun K hK => h K (fun a w hW => hK a w ⟨fun h => (by rw [hx] at h; cases h), hW (inv.out.set hi)⟩))

theorem wpAnyE_done {listed : Array Bool} {a : Act} {w : World} (hr : Region.ready md ops listed = []) (h : Q .normal a w) : ∀ fuel, wpAnyE P md ops Q S s fuel listed a w
  | 0 => ⟨hr, h⟩
  | _ + 1 => ⟨fun _ => h, by rw [hr]; simp⟩

theorem wp_region_E {id : Nat} {a : Act} {w : World} (S : World → Prop) (s : Nat) (hm : P.follows .mixedOrders = true) (hS : S w.drew)
    (h : S w.drew → Shut (ClosedL .any ops (Array.replicate ops.size false)) → wpAnyE P .any ops Q S s ops.size (Array.replicate ops.size false) a w.drew) : (Code.region id ops true).wp P Q a w :=
  wp_region_any hm (wpAny_of_E _ _ _ _ (h hS (show ClosedL .any ops (Array.replicate ops.size false) from ⟨by simp, fun j oj _ hl => (by rw [getD_replicate_false] at hl; cases hl)⟩)))
end
end Go.Proofs.Ythaiffjalgionaa
