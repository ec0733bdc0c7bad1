/- A part of the proof: OpsQ, G5, G6, Bq, Bp1, Bp2. -/
import Derived.Test.YthaiffjalgionaaBd3
import Derived.Deep.RegionLaw
import Derived.Deep.Upon
import Derived.Lib.SliceRun
import Derived.Laws.IdiomCopy
import Derived.Deep.MidRow
import Derived.OwnWalk
import Derived.Shelf.Abstract

set_option linter.unusedVariables false
set_option linter.unusedSimpArgs false
namespace Go.Proofs.Ythaiffjalgionaa
open Go.RowKit Go.Maps Bdd

def notF (F : Bdd.Fn) : Bdd.Fn := iteF F (fun _ => false) (fun _ => true)
def andF (F G : Bdd.Fn) : Bdd.Fn := iteF F G (fun _ => false)
def orF (F G : Bdd.Fn) : Bdd.Fn := iteF F (fun _ => true) G

theorem opIte_q {w : World} {B g nb kb ib cap : Nat} {A : St} {K T : Tri → Option Value} (h : ArenaAt w B g nb kb ib cap A K T) (hA : A.full = false) {f a b : Nat} {F G H : Bdd.Fn} (hf : IsF A f F) (ha : IsF A a G) (hb : IsF A b H) :
    Calls Try.prog 84 #[.pointer (some ⟨g, 0, none⟩), .int .i64 f, .int .i64 a, .int .i64 b] w (OpQ w B g nb kb ib A (iteF F G H) (2 ^ A.vars)) := by
  refine (opIte_walk h f a b hf.1 ha.1 hb.1).mono fun e w' ho => ?_
  have ok := h.inv.ok
  have hB := iteF_below (den_below ok _ hf.1) (den_below ok _ ha.1) (den_below ok _ hb.1)
  rw [hf.2, ha.2, hb.2] at ho hB
  exact ho.opQ h.inv hA hB
theorem opVar_q {w : World} {B g nb kb ib cap : Nat} {A : St} {K T : Tri → Option Value} (h : ArenaAt w B g nb kb ib cap A K T) (hA : A.full = false) (i : Nat) (hi : i < A.vars) :
    Calls Try.prog 95 #[.pointer (some ⟨g, 0, none⟩), .int .i64 i] w (OpQ w B g nb kb ib A (fun x => x i) (2 ^ A.vars)) :=
  (opVar_walk h i hi).mono fun e w' ho => ho.opQ h.inv hA (fun x y hxy => hxy i hi)

set_option maxRecDepth 100000 in
set_option maxHeartbeats 4000000 in
theorem opNot_q {w : World} {B g nb kb ib cap : Nat} {A : St} {K T : Tri → Option Value} (h : ArenaAt w B g nb kb ib cap A K T) (hA : A.full = false) {f a : Nat} {F G : Bdd.Fn} (hf : IsF A f F) (_ : True) :
    Calls Try.prog 96 #[.pointer (some ⟨g, 0, none⟩), .int .i64 f] w (OpQ w B g nb kb ib A (notF F) (2 ^ A.vars)) := by
  have HC : Hid (Calls Try.prog 84 #[.pointer (some ⟨g, 0, none⟩), .int .i64 f, .int .i64 0, .int .i64 1] w (OpQ w B g nb kb ib A (notF F) (2 ^ A.vars))) := hide (opIte_q h hA hf (IsF.zero h.inv) (IsF.one h.inv))
  clear h hf hA
  go_enter Try.func96, Try.ntmps96
  go_wp2_with fail
  refine HC.out.mono ?_
  rintro e wc hop
  have HF := hide hop
  obtain ⟨r, nb2, cap2, A2, K2, T2, _, _, _, h1, h2⟩ := hop
  cases hfull : A2.full
  · obtain rfl := h2 hfull
    go_wp2
    go_ret2
    exact HF.out
  · obtain rfl := h1 hfull
    go_wp2
    go_ret2
    exact HF.out
set_option maxRecDepth 100000 in
set_option maxHeartbeats 4000000 in
theorem opAnd_q {w : World} {B g nb kb ib cap : Nat} {A : St} {K T : Tri → Option Value} (h : ArenaAt w B g nb kb ib cap A K T) (hA : A.full = false) {f a : Nat} {F G : Bdd.Fn} (hf : IsF A f F) (ha : IsF A a G) :
    Calls Try.prog 24 #[.pointer (some ⟨g, 0, none⟩), .int .i64 f, .int .i64 a] w (OpQ w B g nb kb ib A (andF F G) (2 ^ A.vars)) := by
  have HC : Hid (Calls Try.prog 84 #[.pointer (some ⟨g, 0, none⟩), .int .i64 f, .int .i64 a, .int .i64 0] w (OpQ w B g nb kb ib A (andF F G) (2 ^ A.vars))) := hide (opIte_q h hA hf ha (IsF.zero h.inv))
  clear h hf hA
  go_enter Try.func24, Try.ntmps24
  go_wp2_with fail
  refine HC.out.mono ?_
  rintro e wc hop
  have HF := hide hop
  obtain ⟨r, nb2, cap2, A2, K2, T2, _, _, _, h1, h2⟩ := hop
  cases hfull : A2.full
  · obtain rfl := h2 hfull
    go_wp2
    go_ret2
    exact HF.out
  · obtain rfl := h1 hfull
    go_wp2
    go_ret2
    exact HF.out
set_option maxRecDepth 100000 in
set_option maxHeartbeats 4000000 in
theorem opOr_q {w : World} {B g nb kb ib cap : Nat} {A : St} {K T : Tri → Option Value} (h : ArenaAt w B g nb kb ib cap A K T) (hA : A.full = false) {f a : Nat} {F G : Bdd.Fn} (hf : IsF A f F) (ha : IsF A a G) :
    Calls Try.prog 97 #[.pointer (some ⟨g, 0, none⟩), .int .i64 f, .int .i64 a] w (OpQ w B g nb kb ib A (orF F G) (2 ^ A.vars)) := by
  have HC : Hid (Calls Try.prog 84 #[.pointer (some ⟨g, 0, none⟩), .int .i64 f, .int .i64 1, .int .i64 a] w (OpQ w B g nb kb ib A (orF F G) (2 ^ A.vars))) := hide (opIte_q h hA hf (IsF.one h.inv) ha)
  clear h hf hA
  go_enter Try.func97, Try.ntmps97
  go_wp2_with fail
  refine HC.out.mono ?_
  rintro e wc hop
  have HF := hide hop
  obtain ⟨r, nb2, cap2, A2, K2, T2, _, _, _, h1, h2⟩ := hop
  cases hfull : A2.full
  · obtain rfl := h2 hfull
    go_wp2
    go_ret2
    exact HF.out
  · obtain rfl := h1 hfull
    go_wp2
    go_ret2
    exact HF.out

end Go.Proofs.Ythaiffjalgionaa

set_option linter.unusedVariables false
set_option linter.unusedSimpArgs false
namespace Go.Proofs.Ythaiffjalgionaa
open Go.ChangeShapes Go.WideShapes Go.ChangeAt Go.RowKit

end Go.Proofs.Ythaiffjalgionaa

set_option linter.unusedVariables false
set_option linter.unusedSimpArgs false
namespace Go.Proofs.Ythaiffjalgionaa
open Go.ChangeShapes Go.WideShapes Go.ChangeAt Go.RowKit

theorem ret_bool {a b : Bool} (h : a = b) : Ending.returned (.bool a) = .returned (.bool b) := by rw [h]

theorem inR_is {n lo hi : Int} {B : Bool} (W : World) (h : inR n lo hi = B) : Calls Try.prog 19 #[.int .i64 n, .int .i64 lo, .int .i64 hi] W fun e W' => e = .returned (.bool B) ∧ W = W' := h ▸ inR_walk n lo hi W

theorem below_drew (w : World) (n : Nat) (B : Nat) : Below B w (w.drewN n) := ⟨rfl, rfl, rfl, Nat.le_refl _, fun _ _ => rfl⟩

end Go.Proofs.Ythaiffjalgionaa

set_option linter.unusedVariables false
set_option linter.unusedSimpArgs false
namespace Go.Proofs.Ythaiffjalgionaa
open Go.ChangeShapes Go.WideShapes Go.ChangeAt Go.RowKit

end Go.Proofs.Ythaiffjalgionaa

set_option linter.unusedVariables false
set_option linter.unusedSimpArgs false
namespace Go.Proofs.Ythaiffjalgionaa
open Go.RowKit

end Go.Proofs.Ythaiffjalgionaa

set_option linter.unusedVariables false
set_option linter.unusedSimpArgs false
namespace Go.Proofs.Ythaiffjalgionaa
open Go.RowKit Go.Maps Bdd

end Go.Proofs.Ythaiffjalgionaa

set_option linter.unusedVariables false
set_option linter.unusedSimpArgs false
namespace Go.Proofs.Ythaiffjalgionaa
open Go.RowKit Go.Maps Bdd

end Go.Proofs.Ythaiffjalgionaa

set_option linter.unusedVariables false
set_option linter.unusedSimpArgs false
namespace Go.Proofs.Ythaiffjalgionaa
open Go.RowKit Go.Maps Bdd

end Go.Proofs.Ythaiffjalgionaa

set_option linter.unusedVariables false
set_option linter.unusedSimpArgs false
namespace Go.Proofs.Ythaiffjalgionaa
open Go.RowKit Go.Maps Bdd

theorem own_same {w w' : World} {base e s n : Nat} {v : Value} {xs : List Value} (h : w.ownsRow base e s v n xs) (hb : ∀ q, v.ownBlock = some q → w'.heap[q]? = w.heap[q]?) : w'.ownsRow base e s v n xs := by
  obtain ⟨h1, h2⟩ := h
  refine ⟨h1, ?_⟩
  rcases h2 with h2 | ⟨g', cap', cur, hv, hb', hh, r⟩
  · exact .inl h2
  · subst hv
    exact .inr ⟨_, _, cur, rfl, hb', (hb g' rfl).trans hh, r⟩

end Go.Proofs.Ythaiffjalgionaa

set_option linter.unusedVariables false
set_option linter.unusedSimpArgs false
namespace Go.Proofs.Ythaiffjalgionaa
open Go.RowKit Go.Maps Bdd

end Go.Proofs.Ythaiffjalgionaa

set_option linter.unusedVariables false
set_option linter.unusedSimpArgs false
namespace Go.Proofs.Ythaiffjalgionaa
open Go.RowKit Go.Maps Bdd

end Go.Proofs.Ythaiffjalgionaa

set_option linter.unusedVariables false
namespace Go.Proofs.Ythaiffjalgionaa
open Go.RowKit

theorem own_below {w w' : World} {base e s n : Nat} {v : Value} {xs : List Value} (h : w.ownsRow base e s v n xs) (hb : RowKit.Below w.heap.size w w') : w'.ownsRow base e s v n xs :=
  own_same h (fun q hq => hb.block q (h.lt q hq).2)

end Go.Proofs.Ythaiffjalgionaa

set_option linter.unusedVariables false
set_option linter.unusedSimpArgs false
namespace Go.Proofs.Ythaiffjalgionaa
open Go.RowKit Go.Maps Bdd

def codeN (x : Asg) : Nat → Nat
  | 0 => 0
  | n + 1 => codeN x n * 2 + (x n).toNat
theorem codeN_lt (x : Asg) : ∀ n, codeN x n < 2 ^ n := by
  intro n
  induction n with
  | zero => simp [codeN]
  | succ n ih =>
    have : (x n).toNat ≤ 1 := by cases x n <;> simp
    simp only [codeN, Nat.pow_succ]
    omega
theorem codeN_bit (x : Asg) : ∀ (n u : Nat), u < n → (codeN x n).testBit (n - 1 - u) = x u := by
  intro n
  induction n with
  | zero => intro u hu; omega
  | succ n ih =>
    intro u hu
    have hb : (x n).toNat ≤ 1 := by cases x n <;> simp
    rcases Nat.lt_or_ge u n with h | h
    · have e : n + 1 - 1 - u = (n - 1 - u) + 1 := by omega
      rw [e, Nat.testBit_succ]
      have : codeN x (n + 1) / 2 = codeN x n := by simp only [codeN]; omega
      rw [this]
      exact ih u h
    · obtain rfl : u = n := by omega
      have e : u + 1 - 1 - u = 0 := by omega
      rw [e, Nat.testBit_zero, Bool.eq_iff_iff, decide_eq_true_eq]
      simp only [codeN]
      cases x u <;> simp <;> omega

end Go.Proofs.Ythaiffjalgionaa

set_option linter.unusedVariables false
set_option linter.unusedSimpArgs false
namespace Go.Proofs.Ythaiffjalgionaa.Bq
open Go.RowKit Go.Maps

def BoxV (w : World) (N : Nat) (vs : Array Value) : Prop := (∀ (j : Nat) (v : Value), vs[j]? = some v → w.cell? ⟨N, j, none⟩ = some v) ∧ ∀ o, w.frozen? ⟨N, o, none⟩ = false
theorem BoxV.of_block {w : World} {N : Nat} {vs : Array Value} {t : TypeId} (h : w.heap[N]? = some (.cells vs t)) : BoxV w N vs :=
  ⟨fun j v hv => by rw [cell_of_row _ _ _ _ _ _ h]; exact hv, fun o => by unfold World.frozen?; simp only [h]; simp⟩
theorem BoxV.new (w : World) (vs : Array Value) (t : TypeId) : BoxV (w.alloc (.cells vs t)) w.heap.size vs := BoxV.of_block (heap_alloc_new w _)
theorem BoxV.below {w w' : World} {B N : Nat} {vs : Array Value} (h : BoxV w N vs) (hB : Below B w w') (hN : N < B) : BoxV w' N vs :=
  ⟨fun j v hv => (hB.cell (p := ⟨N, j, none⟩) hN).trans (h.1 j v hv), fun o => (hB.frozen (p := ⟨N, o, none⟩) hN).trans (h.2 o)⟩
theorem BoxV.set {w : World} {N : Nat} {vs : Array Value} (h : BoxV w N vs) (j : Nat) (v : Value) : BoxV (w.setCell ⟨N, j, none⟩ v) N (vs.setIfInBounds j v) := by
  refine ⟨fun i u hu => ?_, fun o => by rw [World.frozen?_setCell]; exact h.2 o⟩
  by_cases e : j = i
  · subst e
    rw [Array.getElem?_setIfInBounds_self] at hu
    split at hu
    · rename_i hj
      cases hu
      exact World.cell?_setCell_same _ _ _ (h.1 j _ (Array.getElem?_eq_getElem hj))
    · cases hu
  · rw [Array.getElem?_setIfInBounds_ne e] at hu
    rw [World.cell?_setCell_other _ _ _ _ (by simp [Ne.symm e])]
    exact h.1 i u hu
theorem BoxV.far {w : World} {N : Nat} {vs : Array Value} (h : BoxV w N vs) (a : Addr) (v : Value) (hne : a.block ≠ N) : BoxV (w.setCell a v) N vs := by
  refine ⟨fun i u hu => ?_, fun o => by rw [World.frozen?_setCell]; exact h.2 o⟩
  rw [World.cell?_setCell_other _ _ _ _ (by intro e; apply hne; rw [e])]
  exact h.1 i u hu
structure BX (W : World) (L : List (Nat × Array Value)) (w : World) : Prop where
  bl : Below W.heap.size W w
  bx : ∀ x ∈ L, BoxV w x.1 x.2 ∧ x.1 < w.heap.size
theorem BX.below {W w w' : World} {L : List (Nat × Array Value)} (h : BX W L w) (hb : Below w.heap.size w w') : BX W L w' :=
  ⟨h.bl.trans (hb.mono h.bl.size), fun x hx => ⟨(h.bx x hx).1.below hb (h.bx x hx).2, Nat.lt_of_lt_of_le (h.bx x hx).2 hb.size⟩⟩
theorem BX.get {W w : World} {L : List (Nat × Array Value)} (h : BX W L w) (i : Nat) {x : Nat × Array Value} (hx : L[i]? = some x) : BoxV w x.1 x.2 := (h.bx x (List.mem_of_getElem? hx)).1
structure BN (W : World) (L : List (Nat × Array Value)) (N : Nat) (vs : Array Value) (w : World) : Prop where
  box : BX W L w
  z : BoxV w N vs
  lt : N < w.heap.size
  ap : ∀ x ∈ L, x.1 < N
  lo : W.heap.size ≤ N
section
variable {W w w' : World} {L : List (Nat × Array Value)} {N : Nat} {vs : Array Value}
theorem BX.al (h : BX W L w) (vs : Array Value) (t : TypeId) : BN W L w.heap.size vs (w.alloc (.cells vs t)) :=
  ⟨h.below ((Below.refl _ _).alloc (Nat.le_refl _) _), BoxV.new _ _ _, by simp, fun x hx => (h.bx x hx).2, h.bl.size⟩
theorem BN.done (h : BN W L N vs w) : BX W ((N, vs) :: L) w := ⟨h.box.bl, fun x hx => by
  rcases List.mem_cons.1 hx with rfl | hx
  · exact ⟨h.z, h.lt⟩
  · exact h.box.bx x hx⟩
end
theorem below_alloc (w : World) (o : Obj) : Below w.heap.size w (w.alloc o) := (Below.refl _ _).alloc (Nat.le_refl _) o
theorem BX.none (W : World) : BX W [] W := ⟨Below.refl _ _, fun x hx => by cases hx⟩
theorem boxes1 {W W2 : World} {a1 : Array Value} {t1 : TypeId} (hG : W.alloc (.cells a1 t1) = W2) : BX W [(W.heap.size, a1)] W2 ∧ W2.heap.size = W.heap.size + 1 := by
  subst hG
  exact ⟨((BX.none W).al a1 t1).done, by simp⟩
theorem BX.drew {W w : World} {L : List (Nat × Array Value)} (h : BX W L w) : BX W L w.drew := h.below (Below.refl _ _).drew
end Go.Proofs.Ythaiffjalgionaa.Bq

set_option linter.unusedVariables false
set_option linter.unusedSimpArgs false
namespace Go.Proofs.Ythaiffjalgionaa
open Go.RowKit Go.Maps Bdd Bq

structure TabAt (w : World) (N n k : Nat) (F : Nat → Bool) : Prop where
  c : ∀ j, j < n → w.cell? ⟨N, j, none⟩ = some (.bool (if j < k then F j else false))
  fz : ∀ o, w.frozen? ⟨N, o, none⟩ = false
  lt : N < w.heap.size
theorem TabAt.below {w w' : World} {N n k : Nat} {F : Nat → Bool} (h : TabAt w N n k F) (hb : Below w.heap.size w w') : TabAt w' N n k F :=
  ⟨fun j hj => (hb.cell (p := ⟨N, j, none⟩) h.lt).trans (h.c j hj), fun o => (hb.frozen (p := ⟨N, o, none⟩) h.lt).trans (h.fz o), Nat.lt_of_lt_of_le h.lt hb.size⟩
theorem TabAt.set {w : World} {N n k : Nat} {F : Nat → Bool} (h : TabAt w N n k F) (hk : k < n) : TabAt (w.setCell ⟨N, k, none⟩ (.bool (F k))) N n (k + 1) F := by
  refine ⟨fun j hj => ?_, fun o => by rw [World.frozen?_setCell]; exact h.fz o, by simpa [World.setCell] using h.lt⟩
  by_cases e : j = k
  · subst e
    rw [if_pos (Nat.lt_succ_self _)]
    have := World.cell?_setCell_same w ⟨N, j, none⟩ (.bool (F j)) (h.c j hj)
    simpa using this
  · rw [World.cell?_setCell_other _ _ _ _ (by simp [e]), h.c j hj]
    by_cases hl : j < k
    · rw [if_pos hl, if_pos (by omega)]
    · rw [if_neg hl, if_neg (by omega)]
theorem Try.infoBool : (Try.prog.info? 4).map (fun i => (i.zero, i.size, i.bytes)) = some (some (.bool false), 1, 1) := by kernel_rfl
theorem pow8 {v : Nat} (h : v ≤ 8) : 2 ^ v ≤ 256 := (Nat.pow_le_pow_right (by omega) h : 2 ^ v ≤ 2 ^ 8)
theorem run_made (n : Nat) (hn : n ≤ 256) (w : World) : ∃ w', (Instr.makeSlice 55 (.int .i64 (n : Int)) (.int .i64 (n : Int))).run Try.prog w = .ok (.slice (some ⟨w.heap.size, 0, none⟩) n n) w' ∧ TabAt w' w.heap.size n 0 (fun _ => false) ∧ Below w.heap.size w w' := by
  obtain ⟨i0, hi0, hz0, hz1, hz2⟩ := info_parts Try.infoBool
  obtain ⟨w', hrun, hown, hg⟩ := run_make_full (P := Try.prog) (w := w) w.heap.size 55 4 i0 _ 1 Try.underlying55 hi0 hz0 hz1 .i64 .i64 n (by rw [hz2]; omega) (by unfold maxLen; omega) (Nat.le_refl _)
  have hb : Below w.heap.size w w' := (Below.refl _ _).grown hg (Nat.le_refl _) (fun k e => by cases e)
  refine ⟨w', hrun, ?_, hb⟩
  rcases hown.2 with ⟨e, _⟩ | ⟨g, cap, cur, e, hg2, hh, hx⟩
  · cases e
  · simp only [Value.slice.injEq, Option.some.injEq, Addr.mk.injEq, true_and, and_true] at e
    obtain ⟨rfl, rfl⟩ := e
    have hbx := BoxV.of_block hh
    obtain ⟨_, _, hsz, htk⟩ := hx
    refine ⟨fun j hj => ?_, hbx.2, (Array.getElem?_eq_some_iff.1 hh).1⟩
    have h1 : (cur.toList.take (n * 1))[j]? = some (.bool false) := by
      rw [htk]
      simp [madeCells, Value.cells, hj, Nat.mod_one]
    rw [List.getElem?_take, if_pos (by omega)] at h1
    have := hbx.1 j (.bool false) (by simpa using h1)
    simpa using this
theorem wrap_two (v n : Nat) (h : v ≤ 8) (hn : 2 ^ v = n) : wrap64 ((2 : Int) ^ v) = (n : Int) := by
  rw [wrap_pow v (by omega), ← hn]; simp
set_option maxRecDepth 100000 in
set_option maxHeartbeats 4000000 in
theorem table_walk (vars n : Nat) (h8 : vars ≤ 8) (hn : 2 ^ vars = n) (f : Nat) (cap : Array Value) (F : Nat → Bool) (W : World) (hcall : ∀ (args : Array Value) (w : World), (callFunc f args).run Try.prog w = .ok (.enter f args) w)
    (hf : Hid (∀ (c : Nat) (w : World), c < n → Below W.heap.size W w → Calls Try.prog f (#[.int .i64 (c : Int)] ++ cap) w fun e w' => e = .returned (.bool (F c)) ∧ Below w.heap.size w w')) :
    Calls Try.prog 20 #[.int .i64 (vars : Int), .func (.func f) #[] cap] W fun e W' => ∃ N, e = .returned (.slice (some ⟨N, 0, none⟩) n n) ∧ TabAt W' N n n F ∧ W.heap.size ≤ N ∧ Below W.heap.size W W' := by
  have hw := wrap_two vars n h8 hn
  have hn256 : n ≤ 256 := by rw [← hn]; exact pow8 h8
  obtain ⟨w1, hrun, htab, hb⟩ := run_made n hn256 W
  have HT := hide (show TabAt w1 W.heap.size n 0 F from ⟨fun j hj => by have := htab.c j hj; simpa using this, htab.fz, htab.lt⟩)
  have HB := hide hb
  clear htab hb hn
  go_enter Try.func20, Try.ntmps20
  go_wp2_with fail
  obtain ⟨N, hN⟩ : ∃ N, W.heap.size = N := ⟨_, rfl⟩
  have HNW := hide (show W.heap.size ≤ N by omega)
  rw [hN] at HT
  rw [hN]
  clear hrun hw
  go_loopw [12] (fun i wr => ∃ k : Nat, k ≤ n ∧ i = .int .i64 k ∧ Hid (TabAt wr N n k F) ∧ Hid (Below W.heap.size W wr)) (fun i _ => n - (intOf i).toNat)
  case atStart => exact ⟨0, Nat.zero_le _, rfl, HT, HB⟩
  case round =>
    clear HT HB
    obtain ⟨k, hk, rfl, HT, HB⟩ := hrel
    by_cases hlt : k < n
    case neg =>
      obtain rfl : k = n := by omega
      go_wp2
      go_ret
      exact ⟨N, rfl, HT.out, HNW.out, HB.out⟩
    have HC := hide (hf.out k wr hlt HB.out)
    go_wp2_with fail
    refine HC.out.mono ?_
    clear HC
    rintro e w2 ⟨rfl, hb⟩
    have HT2 := hide (HT.out.below hb)
    have HB2 := hide (HB.out.trans (hb.mono HB.out.size))
    clear hb HT HB
    have hc := HT2.out.c k hlt
    have hfz := HT2.out.fz k
    have HT3 := hide (HT2.out.set hlt)
    have HB3 := hide (HB2.out.setCell (p := ⟨N, k, none⟩) HNW.out (.bool (F k)))
    go_wp2
    go_roundw
    case rel => exact ⟨k + 1, by omega, by go_num, HT3, HB3⟩
    case measure => simp [intOf]; omega
end Go.Proofs.Ythaiffjalgionaa

set_option linter.unusedVariables false
set_option linter.unusedSimpArgs false
namespace Go.Proofs.Ythaiffjalgionaa
open Go.RowKit Go.Maps Bdd Bq

structure SeenV where
  id : Nat
  N : Nat
  F : Nat → Bool
def SeenV.cells (n : Nat) (s : SeenV) : List Value := [.int .i64 (s.id : Int), .slice (some ⟨s.N, 0, none⟩) n n]
def SeenV.arr (n : Nat) (s : SeenV) : Array Value := #[.int .i64 (s.id : Int), .slice (some ⟨s.N, 0, none⟩) n n]
theorem SeenV.len (n : Nat) (s : SeenV) : (s.cells n).length = 2 := rfl
theorem cell_in {w : World} {a : Addr} {v : Value} (h : w.cell? a = some v) : a.block < w.heap.size := by
  by_cases hl : a.block < w.heap.size
  · exact hl
  · exfalso
    have hn : w.heap[a.block]? = none := Array.getElem?_eq_none (by omega)
    simp [World.cell?, hn] at h
theorem TabAt.get {w : World} {N n : Nat} {F : Nat → Bool} (h : TabAt w N n n F) {c : Nat} (hc : c < n) : w.cell? ⟨N, c, none⟩ = some (.bool (F c)) := by
  have := h.c c hc
  rwa [if_pos hc] at this
theorem told2_enters : ∀ (args : Array Value) (w' : World), (callFunc 87 args).run Try.prog w' = .ok (.enter 87 args) w' := enters_of Try.func87 (by kernel_rfl) rfl
theorem told3_enters : ∀ (args : Array Value) (w' : World), (callFunc 88 args).run Try.prog w' = .ok (.enter 88 args) w' := enters_of Try.func88 (by kernel_rfl) rfl
theorem told4_enters : ∀ (args : Array Value) (w' : World), (callFunc 89 args).run Try.prog w' = .ok (.enter 89 args) w' := enters_of Try.func89 (by kernel_rfl) rfl
theorem told5_enters : ∀ (args : Array Value) (w' : World), (callFunc 90 args).run Try.prog w' = .ok (.enter 90 args) w' := enters_of Try.func90 (by kernel_rfl) rfl
theorem told6_enters : ∀ (args : Array Value) (w' : World), (callFunc 91 args).run Try.prog w' = .ok (.enter 91 args) w' := enters_of Try.func91 (by kernel_rfl) rfl
theorem told7_enters : ∀ (args : Array Value) (w' : World), (callFunc 92 args).run Try.prog w' = .ok (.enter 92 args) w' := enters_of Try.func92 (by kernel_rfl) rfl
theorem told8_enters : ∀ (args : Array Value) (w' : World), (callFunc 93 args).run Try.prog w' = .ok (.enter 93 args) w' := enters_of Try.func93 (by kernel_rfl) rfl
theorem told9_enters : ∀ (args : Array Value) (w' : World), (callFunc 94 args).run Try.prog w' = .ok (.enter 94 args) w' := enters_of Try.func94 (by kernel_rfl) rfl
set_option maxRecDepth 100000 in
theorem told2_walk (vars i m N3 : Nat) (h8 : vars ≤ 8) (hi : i < vars) (hm : 2 ^ (vars - 1 - i) = m) (w : World) (h3 : w.cell? ⟨N3, 0, none⟩ = some (.int .i64 (vars : Int))) :
    Calls Try.prog 87 #[.int .i64 (i : Int), .pointer (some ⟨N3, 0, none⟩)] w fun e w' => e = .returned (.int .i64 (m : Int)) ∧ w = w' := by
  obtain ⟨k, hk⟩ : ∃ k : Nat, vars - 1 - i = k := ⟨_, rfl⟩
  rw [hk] at hm
  have hw := wrap_two k m (by omega) hm
  have e1 : (vars : Int) - 1 - (i : Int) = (k : Int) := by omega
  have e2 : ((vars : Int) - 1 - (i : Int)).toNat = k := by omega
  have e3 : (0 : Int) ≤ (vars : Int) - 1 - (i : Int) := by omega
  have e4 : (0 : Int) ≤ (k : Int) := by omega
  clear hm hk
  go_enter Try.func87, Try.ntmps87
  go_wp2
  go_ret
  exact ⟨ret_i64 (by simpa using hw), rfl⟩
theorem and_bit (c k m : Nat) (hc : c < 65536) (hk : k ≤ 16) (hm : 2 ^ k = m) : Go.bits .and .i64 (c : Int) (m : Int) = ((c &&& m : Nat) : Int) := by
  have : (2 : Nat) ^ k ≤ 2 ^ 16 := Nat.pow_le_pow_right (by omega) hk
  exact i64_and c m (by omega) (by omega)
theorem and_ne (c k m : Nat) (hm : 2 ^ k = m) : ((((c &&& m : Nat) : Int) != 0) : Bool) = c.testBit k := by
  subst hm
  have e : c &&& 2 ^ k = if c.testBit k then 2 ^ k else 0 := by
    apply Nat.eq_of_testBit_eq
    intro j
    rw [Nat.testBit_and, Nat.testBit_two_pow]
    by_cases hj : k = j
    · subst hj
      cases h : c.testBit k <;> simp [Nat.testBit_two_pow]
    · cases h : c.testBit k <;> simp [hj, Nat.testBit_two_pow]
  rw [e]
  cases h : c.testBit k
  · simp
  · obtain ⟨z, hz⟩ : ∃ z, 2 ^ k = z := ⟨_, rfl⟩
    have := Nat.two_pow_pos k
    rw [hz] at this ⊢
    simp only [if_true]
    exact bne_iff_ne.2 (by omega)
set_option maxRecDepth 100000 in
theorem told3_walk (vars i c N3 N10 N5 : Nat) (x : Array Value) (h8 : vars ≤ 8) (hi : i < vars) (hc : c < 65536) (w : World) (h3 : w.cell? ⟨N3, 0, none⟩ = some (.int .i64 (vars : Int))) (h10 : w.cell? ⟨N10, 0, none⟩ = some (.func (.func 87) #[] #[.pointer (some ⟨N3, 0, none⟩)])) (h5 : w.cell? ⟨N5, 1, none⟩ = some (.int .i64 (i : Int))) :
    Calls Try.prog 88 #[.int .i64 (c : Int), .pointer (some ⟨N10, 0, none⟩), .pointer (some ⟨N5, 0, none⟩)] w fun e w' => e = .returned (.bool (c.testBit (vars - 1 - i))) ∧ w = w' := by
  obtain ⟨k, hk⟩ : ∃ k : Nat, vars - 1 - i = k := ⟨_, rfl⟩
  obtain ⟨m, hm⟩ : ∃ m : Nat, 2 ^ k = m := ⟨_, rfl⟩
  have HB := hide (told2_walk vars i m N3 h8 hi (by rw [hk]; exact hm) w h3)
  rw [hk]
  have ha := and_bit c k m hc (by omega) hm
  have hn := and_ne c k m hm
  have hcall := told2_enters
  clear hm hk h3
  go_enter Try.func88, Try.ntmps88
  go_wp2_with fail
  refine HB.out.mono ?_
  rintro e w2 ⟨rfl, rfl⟩
  go_wp2
  go_ret
  exact ⟨ret_bool (by simp), rfl⟩
set_option maxRecDepth 100000 in
theorem told4_walk (n i : Nat) (hi : i < n) (Na Na' : Nat) (Fa : Nat → Bool) (w : World) (ha : w.cell? ⟨Na, 1, none⟩ = some (.slice (some ⟨Na', 0, none⟩) n n)) (ta : TabAt w Na' n n Fa) :
    Calls Try.prog 89 #[.int .i64 (i : Int), .pointer (some ⟨Na, 0, none⟩)] w fun e w' => e = .returned (.bool (!Fa i)) ∧ w = w' := by
  have ca := ta.get hi
  clear ta
  obtain ⟨va, ea⟩ : ∃ v, Fa i = v := ⟨_, rfl⟩
  rw [ea] at ca ⊢
  clear ea
  have i1 : (0 : Int) ≤ (i : Int) := by omega
  have i2 : (i : Int) < (n : Int) := by omega
  cases va
  all_goals
    go_enter Try.func89, Try.ntmps89
    go_wp2
    go_ret
    exact ⟨ret_bool (by simp), rfl⟩
set_option maxRecDepth 100000 in
theorem told5_walk (n i : Nat) (hi : i < n) (Na Na' : Nat) (Fa : Nat → Bool) (Nb Nb' : Nat) (Fb : Nat → Bool) (w : World) (ha : w.cell? ⟨Na, 1, none⟩ = some (.slice (some ⟨Na', 0, none⟩) n n)) (ta : TabAt w Na' n n Fa) (hb : w.cell? ⟨Nb, 1, none⟩ = some (.slice (some ⟨Nb', 0, none⟩) n n)) (tb : TabAt w Nb' n n Fb) :
    Calls Try.prog 90 #[.int .i64 (i : Int), .pointer (some ⟨Na, 0, none⟩), .pointer (some ⟨Nb, 0, none⟩)] w fun e w' => e = .returned (.bool (Fa i && Fb i)) ∧ w = w' := by
  have ca := ta.get hi
  have cb := tb.get hi
  clear ta tb
  obtain ⟨va, ea⟩ : ∃ v, Fa i = v := ⟨_, rfl⟩
  rw [ea] at ca ⊢
  clear ea
  obtain ⟨vb, eb⟩ : ∃ v, Fb i = v := ⟨_, rfl⟩
  rw [eb] at cb ⊢
  clear eb
  have i1 : (0 : Int) ≤ (i : Int) := by omega
  have i2 : (i : Int) < (n : Int) := by omega
  cases va
  all_goals
    go_enter Try.func90, Try.ntmps90
    go_wp2
    go_ret
    exact ⟨ret_bool (by simp), rfl⟩
set_option maxRecDepth 100000 in
theorem told6_walk (n i : Nat) (hi : i < n) (Na Na' : Nat) (Fa : Nat → Bool) (Nb Nb' : Nat) (Fb : Nat → Bool) (w : World) (ha : w.cell? ⟨Na, 1, none⟩ = some (.slice (some ⟨Na', 0, none⟩) n n)) (ta : TabAt w Na' n n Fa) (hb : w.cell? ⟨Nb, 1, none⟩ = some (.slice (some ⟨Nb', 0, none⟩) n n)) (tb : TabAt w Nb' n n Fb) :
    Calls Try.prog 91 #[.int .i64 (i : Int), .pointer (some ⟨Na, 0, none⟩), .pointer (some ⟨Nb, 0, none⟩)] w fun e w' => e = .returned (.bool (Fa i || Fb i)) ∧ w = w' := by
  have ca := ta.get hi
  have cb := tb.get hi
  clear ta tb
  obtain ⟨va, ea⟩ : ∃ v, Fa i = v := ⟨_, rfl⟩
  rw [ea] at ca ⊢
  clear ea
  obtain ⟨vb, eb⟩ : ∃ v, Fb i = v := ⟨_, rfl⟩
  rw [eb] at cb ⊢
  clear eb
  have i1 : (0 : Int) ≤ (i : Int) := by omega
  have i2 : (i : Int) < (n : Int) := by omega
  cases va
  all_goals
    go_enter Try.func91, Try.ntmps91
    go_wp2
    go_ret
    exact ⟨ret_bool (by simp), rfl⟩
set_option maxRecDepth 100000 in
theorem told7_walk (n i : Nat) (hi : i < n) (Na Na' : Nat) (Fa : Nat → Bool) (Nb Nb' : Nat) (Fb : Nat → Bool) (Nc Nc' : Nat) (Fc : Nat → Bool) (w : World) (ha : w.cell? ⟨Na, 1, none⟩ = some (.slice (some ⟨Na', 0, none⟩) n n)) (ta : TabAt w Na' n n Fa) (hb : w.cell? ⟨Nb, 1, none⟩ = some (.slice (some ⟨Nb', 0, none⟩) n n)) (tb : TabAt w Nb' n n Fb) (hc : w.cell? ⟨Nc, 1, none⟩ = some (.slice (some ⟨Nc', 0, none⟩) n n)) (tc : TabAt w Nc' n n Fc) :
    Calls Try.prog 92 #[.int .i64 (i : Int), .pointer (some ⟨Na, 0, none⟩), .pointer (some ⟨Nb, 0, none⟩), .pointer (some ⟨Nc, 0, none⟩)] w fun e w' => e = .returned (.bool ((Fa i && Fb i) || (!Fa i && Fc i))) ∧ w = w' := by
  have ca := ta.get hi
  have cb := tb.get hi
  have cc := tc.get hi
  clear ta tb tc
  obtain ⟨va, ea⟩ : ∃ v, Fa i = v := ⟨_, rfl⟩
  rw [ea] at ca ⊢
  clear ea
  obtain ⟨vb, eb⟩ : ∃ v, Fb i = v := ⟨_, rfl⟩
  rw [eb] at cb ⊢
  clear eb
  obtain ⟨vc, ec⟩ : ∃ v, Fc i = v := ⟨_, rfl⟩
  rw [ec] at cc ⊢
  clear ec
  have i1 : (0 : Int) ≤ (i : Int) := by omega
  have i2 : (i : Int) < (n : Int) := by omega
  cases va
  all_goals cases vb
  all_goals cases vc
  all_goals
    go_enter Try.func92, Try.ntmps92
    go_wp2
    go_ret
    exact ⟨ret_bool (by simp), rfl⟩
def clrN (c m : Nat) : Nat := c &&& (2 ^ 64 - 1 - m)
theorem clrN_le (c m : Nat) : clrN c m ≤ c := Nat.and_le_left
theorem not_bit (c m : Nat) (hc : c < 65536) (hm : m < 65537) : Go.bits .andNot .i64 (c : Int) (m : Int) = ((clrN c m : Nat) : Int) := by
  have h := clrN_le c m
  show IntKind.i64.wrap ((BitVec.ofInt 64 (c : Int) &&& ~~~ BitVec.ofInt 64 (m : Int)).toNat : Int) = _
  have e1 : (BitVec.ofInt 64 (c : Int)).toNat = c := by rw [BitVec.ofInt_natCast, BitVec.toNat_ofNat]; exact Nat.mod_eq_of_lt (by omega)
  have e2 : (BitVec.ofInt 64 (m : Int)).toNat = m := by rw [BitVec.ofInt_natCast, BitVec.toNat_ofNat]; exact Nat.mod_eq_of_lt (by omega)
  rw [BitVec.toNat_and, BitVec.toNat_not, e1, e2]
  show IntKind.i64.wrap ((clrN c m : Nat) : Int) = _
  rw [IntKind.wrap_i64]
  omega
theorem or_bit (c m : Nat) (hc : c < 65536) (hm : m < 65537) : Go.bits .or .i64 (c : Int) (m : Int) = ((c ||| m : Nat) : Int) := i64_or c m (by omega) (by omega)
set_option maxRecDepth 100000 in
set_option maxHeartbeats 4000000 in
theorem told8_walk (vars i c n k m N3 N10 N5 Na Na' : Nat) (F : Nat → Bool) (h8 : vars ≤ 8) (hi : i < vars) (hn : 2 ^ vars = n) (hk : vars - 1 - i = k) (hm : 2 ^ k = m) (hc : c < n) (w : World) (h3 : w.cell? ⟨N3, 0, none⟩ = some (.int .i64 (vars : Int))) (h10 : w.cell? ⟨N10, 0, none⟩ = some (.func (.func 87) #[] #[.pointer (some ⟨N3, 0, none⟩)])) (h5 : w.cell? ⟨N5, 2, none⟩ = some (.int .i64 (i : Int)))
    (ha : w.cell? ⟨Na, 1, none⟩ = some (.slice (some ⟨Na', 0, none⟩) n n)) (ta : TabAt w Na' n n F) :
    Calls Try.prog 93 #[.int .i64 (c : Int), .pointer (some ⟨Na, 0, none⟩), .pointer (some ⟨N10, 0, none⟩), .pointer (some ⟨N5, 0, none⟩)] w fun e w' => e = .returned (.bool (F (clrN c m) || F (c ||| m))) ∧ Below w.heap.size w w' := by
  have hn256 : n ≤ 256 := by rw [← hn]; exact pow8 h8
  have hm256 : m ≤ 256 := by rw [← hm]; exact pow8 (by omega)
  have hx := not_bit c m (by omega) (by omega)
  have hy := or_bit c m (by omega) (by omega)
  have hle := clrN_le c m
  have hlo : c ||| m < n := by rw [← hn]; exact Nat.or_lt_two_pow (by rw [hn]; exact hc) (by rw [← hm]; exact Nat.pow_lt_pow_right (by omega) (by omega))
  obtain ⟨p, hp⟩ : ∃ p, clrN c m = p := ⟨_, rfl⟩
  obtain ⟨q, hq⟩ : ∃ q, c ||| m = q := ⟨_, rfl⟩
  rw [hp] at hx hle ⊢
  rw [hq] at hy hlo ⊢
  have d1 := ta.get (c := p) (by omega)
  have d2 := ta.get (c := q) hlo
  obtain ⟨v1, e1⟩ : ∃ v, F p = v := ⟨_, rfl⟩
  obtain ⟨v2, e2⟩ : ∃ v, F q = v := ⟨_, rfl⟩
  rw [e1] at d1 ⊢
  rw [e2] at d2 ⊢
  have p1 : (0 : Int) ≤ (p : Int) := by omega
  have p2 : (p : Int) < (n : Int) := by omega
  have q1 : (0 : Int) ≤ (q : Int) := by omega
  have q2 : (q : Int) < (n : Int) := by omega
  have hcall := told2_enters
  have H3 := hide h3
  have HB := hide (fun (w' : World) (h : w'.cell? ⟨N3, 0, none⟩ = some (.int .i64 (vars : Int))) => told2_walk vars i m N3 h8 hi (by rw [hk]; exact hm) w' h)
  clear e1 e2 hp hq hle hlo hn256 hm256 hk hm hn h3 ta
  go_enter Try.func93, Try.ntmps93
  go_wp2_with fail
  cases v1
  all_goals
    refine wp_region_abs (by kernel_rfl) (by kernel_rfl) ?_
    intro T hT gt hg1 hgi
    have HGT := hide hg1
    have HGI := hide hgi
    clear hg1 hgi
    have k0 : ∀ t, (gt t).cell? ⟨N10, 0, none⟩ = some (.func (.func 87) #[] #[.pointer (some ⟨N3, 0, none⟩)]) := fun t => ((HGT.out t).cell (p := ⟨N10, 0, none⟩) (cell_in h10)).trans h10
    have k1 : ∀ t, (gt t).cell? ⟨N5, 2, none⟩ = some (.int .i64 (i : Int)) := fun t => ((HGT.out t).cell (p := ⟨N5, 2, none⟩) (cell_in h5)).trans h5
    have k2 : ∀ t, (gt t).cell? ⟨Na, 1, none⟩ = some (.slice (some ⟨Na', 0, none⟩) n n) := fun t => ((HGT.out t).cell (p := ⟨Na, 1, none⟩) (cell_in ha)).trans ha
    have k3 : ∀ t, (gt t).cell? ⟨Na', p, none⟩ = some (.bool _) := fun t => ((HGT.out t).cell (p := ⟨Na', p, none⟩) (cell_in d1)).trans d1
    have k4 : ∀ t, (gt t).cell? ⟨Na', q, none⟩ = some (.bool _) := fun t => ((HGT.out t).cell (p := ⟨Na', q, none⟩) (cell_in d2)).trans d2
    repeat (go_big_quiet_step ((go_at_call 87; exact inAbsSame (HB.out _ (((HGT.out _).cell (p := ⟨N3, 0, none⟩) (cell_in H3.out)).trans H3.out)))))
    refine wpQuiet_nil ?_
    intro _ hw'
    obtain ⟨t, rfl⟩ := hw'
    have HBB := hide (HGT.out t)
    generalize gt t = w3 at *
    clear HGT HGI k0 k1 k2 k3 k4
    go_wp2
    go_ret
    exact ⟨ret_bool (by simp), HBB.out⟩
def swpN (c kb kc mb mc : Nat) : Nat := (if c.testBit kc then ((if c.testBit kb then (clrN (clrN c mb) mc ||| mc) else clrN (clrN c mb) mc) ||| mb) else (if c.testBit kb then (clrN (clrN c mb) mc ||| mc) else clrN (clrN c mb) mc))
set_option maxRecDepth 100000 in
set_option maxHeartbeats 4000000 in
theorem told9_walk (vars i j c n ki kj mi mj N3 N10 N5 Na Na' : Nat) (F : Nat → Bool) (h8 : vars ≤ 8) (hi : i < vars) (hj : j < vars) (hn : 2 ^ vars = n) (hki : vars - 1 - i = ki) (hkj : vars - 1 - j = kj) (hmi : 2 ^ ki = mi) (hmj : 2 ^ kj = mj) (hc : c < n) (w : World) (h3 : w.cell? ⟨N3, 0, none⟩ = some (.int .i64 (vars : Int))) (h10 : w.cell? ⟨N10, 0, none⟩ = some (.func (.func 87) #[] #[.pointer (some ⟨N3, 0, none⟩)])) (h5 : w.cell? ⟨N5, 2, none⟩ = some (.int .i64 (i : Int))) (h6 : w.cell? ⟨N5, 3, none⟩ = some (.int .i64 (j : Int)))
    (ha : w.cell? ⟨Na, 1, none⟩ = some (.slice (some ⟨Na', 0, none⟩) n n)) (ta : TabAt w Na' n n F) :
    Calls Try.prog 94 #[.int .i64 (c : Int), .pointer (some ⟨N10, 0, none⟩), .pointer (some ⟨N5, 0, none⟩), .pointer (some ⟨Na, 0, none⟩)] w fun e w' => e = .returned (.bool (F (swpN c ki kj mi mj))) ∧ Below w.heap.size w w' := by
  have hn256 : n ≤ 256 := by rw [← hn]; exact pow8 h8
  have hi256 : mi ≤ 256 := by rw [← hmi]; exact pow8 (by omega)
  have hj256 : mj ≤ 256 := by rw [← hmj]; exact pow8 (by omega)
  have hmin : mi < 2 ^ vars := by rw [← hmi]; exact Nat.pow_lt_pow_right (by omega) (by omega)
  have hmjn : mj < 2 ^ vars := by rw [← hmj]; exact Nat.pow_lt_pow_right (by omega) (by omega)
  obtain ⟨p, hp⟩ : ∃ p, clrN c mi = p := ⟨_, rfl⟩
  obtain ⟨q, hq⟩ : ∃ q, clrN p mj = q := ⟨_, rfl⟩
  have hpl := clrN_le c mi
  have hql := clrN_le p mj
  rw [hp] at hpl
  rw [hq] at hql
  have x1 := not_bit c mi (by omega) (by omega)
  have x2 := not_bit p mj (by omega) (by omega)
  rw [hp] at x1
  rw [hq] at x2
  have a1 := and_bit c ki mi (by omega) (by omega) hmi
  have a2 := and_bit c kj mj (by omega) (by omega) hmj
  have b1 := and_ne c ki mi hmi
  have b2 := and_ne c kj mj hmj
  have hqn : q < 2 ^ vars := by omega
  obtain ⟨r, hr⟩ : ∃ r, (if c.testBit ki then q ||| mj else q) = r := ⟨_, rfl⟩
  have hrn : r < 2 ^ vars := by
    rw [← hr]; split
    · exact Nat.or_lt_two_pow hqn hmjn
    · exact hqn
  obtain ⟨s, hs⟩ : ∃ s, (if c.testBit kj then r ||| mi else r) = s := ⟨_, rfl⟩
  have hsn : s < n := by
    rw [← hs, ← hn]; split
    · exact Nat.or_lt_two_pow hrn hmin
    · exact hrn
  have HSW := hide (show swpN c ki kj mi mj = s from by simp only [swpN, hp, hq, hr, hs])
  have o1 := or_bit q mj (by omega) (by omega)
  have o2 := or_bit r mi (by omega) (by omega)
  have d1 := ta.get hsn
  obtain ⟨v, hv⟩ : ∃ v, F s = v := ⟨_, rfl⟩
  rw [hv] at d1
  rw [HSW.out, hv]
  have p1 : (0 : Int) ≤ (s : Int) := by omega
  have p2 : (s : Int) < (n : Int) := by omega
  have hcall := told2_enters
  have H3 := hide h3
  have HI := hide (fun (w' : World) (h : w'.cell? ⟨N3, 0, none⟩ = some (.int .i64 (vars : Int))) => told2_walk vars i mi N3 h8 hi (by rw [hki]; exact hmi) w' h)
  have HJ := hide (fun (w' : World) (h : w'.cell? ⟨N3, 0, none⟩ = some (.int .i64 (vars : Int))) => told2_walk vars j mj N3 h8 hj (by rw [hkj]; exact hmj) w' h)
  have HH := hide (And.intro h10 (And.intro h5 (And.intro h6 (And.intro ha d1))))
  obtain ⟨B1, hB1⟩ : ∃ B, c.testBit ki = B := ⟨_, rfl⟩
  obtain ⟨B2, hB2⟩ : ∃ B, c.testBit kj = B := ⟨_, rfl⟩
  rw [hB1] at b1 hr
  rw [hB2] at b2 hs
  clear hp hq hpl hql hn256 hi256 hj256 hmin hmjn hqn hrn hsn hv hB1 hB2 hki hkj hmi hmj hn ta h3 HSW
  go_enter Try.func94, Try.ntmps94
  go_wp2_with fail
  clear h10 h5 h6 ha d1
  refine wp_region_abs (by kernel_rfl) (by kernel_rfl) ?_
  intro T hT gt hg1 hgi
  have HGT := hide hg1
  have HGI := hide hgi
  clear hg1 hgi
  have k0 : ∀ t, (gt t).cell? ⟨N10, 0, none⟩ = some (.func (.func 87) #[] #[.pointer (some ⟨N3, 0, none⟩)]) := fun t => ((HGT.out t).cell (p := ⟨N10, 0, none⟩) (cell_in HH.out.1)).trans HH.out.1
  have k1 : ∀ t, (gt t).cell? ⟨N5, 2, none⟩ = some (.int .i64 (i : Int)) := fun t => ((HGT.out t).cell (p := ⟨N5, 2, none⟩) (cell_in HH.out.2.1)).trans HH.out.2.1
  have k2 : ∀ t, (gt t).cell? ⟨N5, 3, none⟩ = some (.int .i64 (j : Int)) := fun t => ((HGT.out t).cell (p := ⟨N5, 3, none⟩) (cell_in HH.out.2.2.1)).trans HH.out.2.2.1
  repeat (go_big_quiet_step ((first | (go_at_call_of 87 (Value.int .i64 (i : Int)); exact inAbsSame (HI.out _ (((HGT.out _).cell (p := ⟨N3, 0, none⟩) (cell_in H3.out)).trans H3.out))) | (go_at_call_of 87 (Value.int .i64 (j : Int)); exact inAbsSame (HJ.out _ (((HGT.out _).cell (p := ⟨N3, 0, none⟩) (cell_in H3.out)).trans H3.out))))))
  refine wpQuiet_nil ?_
  intro _ hw'
  obtain ⟨t, rfl⟩ := hw'
  have HBB := hide (HGT.out t)
  generalize gt t = w3 at *
  clear HGT HGI k0 k1 k2
  have k0 := (HBB.out.cell (p := ⟨N10, 0, none⟩) (cell_in HH.out.1)).trans HH.out.1
  have k1 := (HBB.out.cell (p := ⟨N5, 2, none⟩) (cell_in HH.out.2.1)).trans HH.out.2.1
  have k2 := (HBB.out.cell (p := ⟨N5, 3, none⟩) (cell_in HH.out.2.2.1)).trans HH.out.2.2.1
  have k3 := (HBB.out.cell (p := ⟨Na, 1, none⟩) (cell_in HH.out.2.2.2.1)).trans HH.out.2.2.2.1
  have k4 := (HBB.out.cell (p := ⟨Na', s, none⟩) (cell_in HH.out.2.2.2.2)).trans HH.out.2.2.2.2
  have H33 := hide ((HBB.out.cell (p := ⟨N3, 0, none⟩) (cell_in H3.out)).trans H3.out)
  cases B1
  all_goals cases B2
  all_goals
    simp only [if_true, if_false, Bool.false_eq_true] at hr hs
    subst hr
    subst hs
    go_wp2_with (first | (go_at_call_of 87 (Value.int .i64 (i : Int)); refine (HI.out _ H33.out).mono ?_; rintro e wq ⟨rfl, rfl⟩) | (go_at_call_of 87 (Value.int .i64 (j : Int)); refine (HJ.out _ H33.out).mono ?_; rintro e wq ⟨rfl, rfl⟩))
    go_ret
    exact ⟨ret_bool (by simp), HBB.out⟩
end Go.Proofs.Ythaiffjalgionaa
