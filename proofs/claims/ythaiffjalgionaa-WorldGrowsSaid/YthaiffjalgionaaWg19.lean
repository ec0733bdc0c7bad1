/- A part of the proof: WorldAt, ArrC, WorldC. -/
import Derived.Test.YthaiffjalgionaaWg18

set_option linter.unusedVariables false
set_option linter.unusedSimpArgs false
namespace Go.Proofs.Ythaiffjalgionaa
open Go.RowKit Go.Maps

def knownV (S : List ArrV) : ArrV → Option Value := fun a => if a ∈ S then some (.bool true) else none
theorem knownV_put (S : List ArrV) (x : ArrV) : putM (knownV S) x (.bool true) = knownV (S ++ [x]) := by
  funext a
  simp only [putM, knownV, List.mem_append, List.mem_singleton]
  by_cases h : a = x <;> simp [h]
def Tn (g km f o b : Nat) (A : Option Addr) (j : Nat) : Prop := j = g ∨ j = km ∨ Is3 f o b j ∨ A.map (·.block) = some j
def OwnB (W w : World) (F : Nat → Prop) : Prop := ∀ j, F j → W.heap.size ≤ j ∧ j < w.heap.size
structure WorldAt (W w : World) (F : Nat → Prop) (g : Nat) (no : NetV) (gm : Nat) (nm : NetV) (f o b km : Nat) (A : Option Addr) (c : Nat) (Z : WS) (k : Nat) : Prop where
  c0 : w.cell? ⟨g, 0, none⟩ = some (.slice no.dA no.dn no.dc)
  c1 : w.cell? ⟨g, 1, none⟩ = some (.slice no.lA no.ln no.lc)
  c2 : w.cell? ⟨g, 2, none⟩ = some (.pointer (some ⟨gm, 0, none⟩))
  c3 : w.cell? ⟨g, 3, none⟩ = some (.slice A Z.S.length c)
  c4 : w.cell? ⟨g, 4, none⟩ = some (.map (some km))
  fz : w.frozen? ⟨g, 3, none⟩ = false
  own : w.ownsRow 0 43 6 (.slice A Z.S.length c) Z.S.length (Z.S.flatMap ArrV.cells)
  net : NetAt w w.heap.size no
  mem : MemAt w gm nm f o b Z.M k
  kn : MapIs Try.prog 43 ArrV.val arDom w km (knownV Z.S)
  fo : OwnB W w F
  fg : F g
  fm : F gm
  fk : F km
  f3 : ∀ j, Is3 f o b j → F j
  fa : ∀ j, A.map (·.block) = some j → F j
  gk : g ≠ km
  mt : ¬ Tn g km f o b A gm
  g3 : ∀ j, Is3 f o b j → j ≠ g ∧ j ≠ km
  ga : ∀ j, A.map (·.block) = some j → j ≠ g ∧ j ≠ km ∧ ¬ Is3 f o b j
  on : NetOn0 (fun j => j < W.heap.size ∨ (F j ∧ ¬ Tn g km f o b A j)) no
  om : NetOn0 (fun j => j < W.heap.size ∨ (F j ∧ ¬ Tn g km f o b A j)) nm
  lk : Z.S.length ≤ k
theorem OwnB.near {W w w' : World} {F q : Nat → Prop} {B : Nat} (h : OwnB W w F) (hn : Near q B w w') : OwnB W w' F := fun j hj => ⟨(h j hj).1, Nat.lt_of_lt_of_le (h j hj).2 hn.size⟩
theorem OwnB.more {W w w' : World} {F : Nat → Prop} (h : OwnB W w F) (hs : w.heap.size ≤ w'.heap.size) (hW : W.heap.size ≤ w.heap.size) : OwnB W w' (fun j => F j ∨ (w.heap.size ≤ j ∧ j < w'.heap.size)) := fun j hj => by
  rcases hj with e | e
  · have := h j e; omega
  · omega
theorem near_grown {w w' : World} {r : Option Nat} (hg : w.grownBy w' r) : Near (fun k => r = some k) w.heap.size w w' := ⟨hg.os, hg.tape, hg.output, hg.size, fun k hk hp => hg.block k hk (fun e => hp e.symm)⟩
theorem near_set (w : World) (g j : Nat) (v : Value) : Near (fun k => k = g) w.heap.size w (w.setCell ⟨g, j, none⟩ v) := ⟨rfl, rfl, rfl, by simp [World.setCell], fun k _ hp => Below.heap_setCell _ _ _ k hp⟩
section
variable {W w w' : World} {F F' q : Nat → Prop} {g : Nat} {no : NetV} {gm : Nat} {nm : NetV} {f o b km : Nat} {A : Option Addr} {c : Nat} {Z : WS} {k k' : Nat}
theorem WorldAt.stay (h : WorldAt W w F g no gm nm f o b km A c Z k) (hn : Near q w.heap.size w w') (hq : ∀ j, q j → W.heap.size ≤ j ∧ ¬ F j) : WorldAt W w' F g no gm nm f o b km A c Z k := by
  have nq : ∀ j, F j → ¬ q j := fun j hj e => (hq j e).2 hj
  have hc : ∀ j, w'.cell? ⟨g, j, none⟩ = w.cell? ⟨g, j, none⟩ := fun j => hn.cell (a := ⟨g, j, none⟩) (h.fo g h.fg).2 (nq g h.fg)
  have hw : ∀ j, (j < W.heap.size ∨ (F j ∧ ¬ Tn g km f o b A j)) → ¬ q j := fun j e hj => by
    rcases e with e | e
    · have := (hq j hj).1; omega
    · exact nq j e.1 hj
  exact ⟨(hc 0).trans h.c0, (hc 1).trans h.c1, (hc 2).trans h.c2, (hc 3).trans h.c3, (hc 4).trans h.c4, (hn.frozen (a := ⟨g, 3, none⟩) (h.fo g h.fg).2 (nq g h.fg)).trans h.fz,
    own_same h.own (fun j hj => hn.block j (h.own.lt j hj).2 (nq j (h.fa j (by rw [row_blk] at hj; exact hj)))), h.net.stay0 (StayOn.of_near hn) (h.on.weak hw) hn.size,
    h.mem.apart hn (nq gm h.fm) (fun j hj => nq j (h.f3 j hj)) (h.om.weak hw), h.kn.same (hn.block km (h.fo km h.fk).2 (nq km h.fk)), h.fo.near hn,
    h.fg, h.fm, h.fk, h.f3, h.fa, h.gk, h.mt, h.g3, h.ga, h.on, h.om, h.lk⟩
theorem WorldAt.below (h : WorldAt W w F g no gm nm f o b km A c Z k) (hb : Below w.heap.size w w') : WorldAt W w' F g no gm nm f o b km A c Z k :=
  h.stay (q := fun _ => False) (Near.of_below hb) (fun _ e => e.elim)
theorem WorldAt.up (h : WorldAt W w F g no gm nm f o b km A c Z k) (hk : k ≤ k') : WorldAt W w F g no gm nm f o b km A c Z k' := { h with mem := h.mem.more hk, lk := Nat.le_trans h.lk hk }
theorem WorldAt.hand {M' : MS} (h : WorldAt W w F g no gm nm f o b km A c Z k) (hm : MemAt w' gm nm f o b M' k') (hn : Near (Is3 f o b) w.heap.size w w') (hk : k ≤ k') : WorldAt W w' F g no gm nm f o b km A c ⟨M', Z.S⟩ k' := by
  have nq : ¬ Is3 f o b g := fun e => (h.g3 g e).1 rfl
  have hc : ∀ j, w'.cell? ⟨g, j, none⟩ = w.cell? ⟨g, j, none⟩ := fun j => hn.cell (a := ⟨g, j, none⟩) (h.fo g h.fg).2 nq
  have hw : ∀ j, (j < W.heap.size ∨ (F j ∧ ¬ Tn g km f o b A j)) → ¬ Is3 f o b j := fun j e hj => by
    rcases e with e | e
    · have := (h.fo j (h.f3 j hj)).1; omega
    · exact e.2 (Or.inr (Or.inr (Or.inl hj)))
  exact ⟨(hc 0).trans h.c0, (hc 1).trans h.c1, (hc 2).trans h.c2, (hc 3).trans h.c3, (hc 4).trans h.c4, (hn.frozen (a := ⟨g, 3, none⟩) (h.fo g h.fg).2 nq).trans h.fz,
    own_same h.own (fun j hj => hn.block j (h.own.lt j hj).2 (h.ga j (by rw [row_blk] at hj; exact hj)).2.2), h.net.stay0 (StayOn.of_near hn) (h.on.weak hw) hn.size,
    hm, h.kn.same (hn.block km (h.fo km h.fk).2 (fun e => (h.g3 km e).2 rfl)), h.fo.near hn,
    h.fg, h.fm, h.fk, h.f3, h.fa, h.gk, h.mt, h.g3, h.ga, h.on, h.om, Nat.le_trans h.lk hk⟩
theorem WorldAt.come (h : WorldAt W w F g no gm nm f o b km A c Z k) {x : ArrV} (hk : Z.S.length + 1 ≤ k) {w2 w5 : World} {A5 : Option Addr} {c5 : Nat} (hn : Near (fun j => j = km) w.heap.size w w2) (hm : MapIs Try.prog 43 ArrV.val arDom w2 km (putM (knownV Z.S) x (.bool true)))
    (hown : w5.ownsRow 0 43 6 (.slice A5 (Z.S.length + 1) c5) (Z.S.length + 1) (Z.S.flatMap ArrV.cells ++ x.cells)) (hg : w2.grownBy w5 (Value.slice A Z.S.length c).ownBlock) (hat : (Value.slice A5 (Z.S.length + 1) c5).ownBlock = (Value.slice A Z.S.length c).ownBlock ∨ (Value.slice A5 (Z.S.length + 1) c5).ownBlock = some w2.heap.size) :
    WorldAt W (w5.setCell ⟨g, 3, none⟩ (.slice A5 (Z.S.length + 1) c5)) (fun j => F j ∨ (w.heap.size ≤ j ∧ j < (w5.setCell ⟨g, 3, none⟩ (.slice A5 (Z.S.length + 1) c5)).heap.size)) g no gm nm f o b km A5 c5 ⟨Z.M, Z.S ++ [x]⟩ k ∧ Near F w.heap.size w (w5.setCell ⟨g, 3, none⟩ (.slice A5 (Z.S.length + 1) c5)) := by
  rw [row_blk] at hg hat
  rw [row_blk] at hat
  have n5 := near_grown hg
  have n6 := near_set w5 g 3 (.slice A5 (Z.S.length + 1) c5)
  generalize hv : w5.setCell ⟨g, 3, none⟩ (.slice A5 (Z.S.length + 1) c5) = w6 at *
  have s2 := hn.size
  have s5 := n5.size
  have s6 := n6.size
  have hgl := (h.fo g h.fg).2
  have hkl := (h.fo km h.fk).2
  have hW : W.heap.size ≤ w.heap.size := by have := (h.fo g h.fg).1; omega
  have gA : A.map (·.block) ≠ some g := fun e => (h.ga g e).1 rfl
  have kA : A.map (·.block) ≠ some km := fun e => (h.ga km e).2.1 rfl
  have nn : Near (fun j => j = g ∨ j = km ∨ A.map (·.block) = some j) w.heap.size w w6 :=
    ((hn.weak (fun j e => Or.inr (Or.inl e))).trans ((n5.mono s2).weak (fun j e => Or.inr (Or.inr e)))).trans ((n6.mono (by omega)).weak (fun j e => Or.inl e))
  have cc5 : ∀ j, w5.cell? ⟨g, j, none⟩ = w.cell? ⟨g, j, none⟩ := fun j => (n5.cell (a := ⟨g, j, none⟩) (by show g < _; omega) gA).trans (hn.cell (a := ⟨g, j, none⟩) hgl h.gk)
  have c6 : ∀ j, j ≠ 3 → w6.cell? ⟨g, j, none⟩ = w.cell? ⟨g, j, none⟩ := fun j hj => by
    rw [← hv, World.cell?_setCell_other _ _ _ _ (by simp [hj])]; exact cc5 j
  have b5 : ∀ j, A5.map (·.block) = some j → A.map (·.block) = some j ∨ j = w2.heap.size := fun j hj => by
    rcases hat with e | e
    · rw [hj] at e; exact Or.inl e.symm
    · rw [hj] at e; cases e; exact Or.inr rfl
  have t3 : ∀ j, Is3 f o b j → j < w.heap.size := fun j hj => (h.fo j (h.f3 j hj)).2
  have t5 : ∀ j, j < w.heap.size → Tn g km f o b A5 j → Tn g km f o b A j := fun j hj e => by
    rcases e with e | e | e | e
    · exact Or.inl e
    · exact Or.inr (Or.inl e)
    · exact Or.inr (Or.inr (Or.inl e))
    · rcases b5 j e with e | e
      · exact Or.inr (Or.inr (Or.inr e))
      · omega
  have hw : ∀ j, (j < W.heap.size ∨ (F j ∧ ¬ Tn g km f o b A j)) → ¬ (j = g ∨ j = km ∨ A.map (·.block) = some j) := fun j e hj => by
    have hF : F j := by
      rcases hj with rfl | rfl | e2
      · exact h.fg
      · exact h.fk
      · exact h.fa j e2
    rcases e with e | e
    · have := (h.fo j hF).1; omega
    · refine e.2 ?_
      rcases hj with e2 | e2 | e2
      · exact Or.inl e2
      · exact Or.inr (Or.inl e2)
      · exact Or.inr (Or.inr (Or.inr e2))
  have hw2 : ∀ j, (j < W.heap.size ∨ (F j ∧ ¬ Tn g km f o b A j)) → (j < W.heap.size ∨ ((F j ∨ (w.heap.size ≤ j ∧ j < w6.heap.size)) ∧ ¬ Tn g km f o b A5 j)) := fun j e => by
    rcases e with e | e
    · exact Or.inl e
    · exact Or.inr ⟨Or.inl e.1, fun t => e.2 (t5 j (h.fo j e.1).2 t)⟩
  have l1 : (Z.S ++ [x]).length = Z.S.length + 1 := by simp
  have l2 : (Z.S ++ [x]).flatMap ArrV.cells = Z.S.flatMap ArrV.cells ++ x.cells := by simp
  refine ⟨⟨(c6 0 (by decide)).trans h.c0, (c6 1 (by decide)).trans h.c1, (c6 2 (by decide)).trans h.c2, ?_, (c6 4 (by decide)).trans h.c4, ?_, ?_, h.net.stay0 (StayOn.of_near nn) (h.on.weak hw) nn.size, ?_, ?_, h.fo.more nn.size hW, Or.inl h.fg, Or.inl h.fm, Or.inl h.fk, fun j e => Or.inl (h.f3 j e), ?_, h.gk, ?_, h.g3, ?_, h.on.weak hw2, h.om.weak hw2, by rw [l1]; exact hk⟩, nn.weak (fun j e => ?_)⟩
  · show w6.cell? ⟨g, 3, none⟩ = some (.slice A5 (Z.S ++ [x]).length _)
    rw [l1, ← hv]
    have := World.cell?_setCell_same w5 ⟨g, 3, none⟩ (.slice A5 (Z.S.length + 1) c5) ((cc5 3).trans h.c3)
    simpa using this
  · rw [← hv, World.frozen?_setCell]
    exact ((n5.frozen (a := ⟨g, 3, none⟩) (by show g < _; omega) gA).trans (hn.frozen (a := ⟨g, 3, none⟩) hgl h.gk)).trans h.fz
  · show w6.ownsRow 0 _ 6 (.slice A5 (Z.S ++ [x]).length _) (Z.S ++ [x]).length ((Z.S ++ [x]).flatMap ArrV.cells)
    rw [l1, l2, ← hv]
    exact own_setCell hown (fun j hj => by
      rw [row_blk] at hj
      show j ≠ g
      rcases b5 j hj with e | e
      · exact (h.ga j e).1
      · omega) _
  · exact h.mem.apart nn (fun e => h.mt (by
      rcases e with e | e | e
      · exact Or.inl e
      · exact Or.inr (Or.inl e)
      · exact Or.inr (Or.inr (Or.inr e)))) (fun j hj e => by
      rcases e with e | e | e
      · exact (h.g3 j hj).1 e
      · exact (h.g3 j hj).2 e
      · exact (h.ga j e).2.2 hj) (h.om.weak hw)
  · have e1 : w6.heap[km]? = w2.heap[km]? := (n6.block km (by omega) (fun e => h.gk e.symm)).trans (n5.block km (by omega) kA)
    have := hm.same e1
    rw [knownV_put] at this
    exact this
  · intro j e
    rcases b5 j e with e | e
    · exact Or.inl (h.fa j e)
    · refine Or.inr ⟨by omega, ?_⟩
      have hl := (hown.lt j (by rw [row_blk]; assumption)).2
      omega
  · exact fun e => h.mt (t5 gm (h.fo gm h.fm).2 e)
  · intro j e
    rcases b5 j e with e | e
    · exact h.ga j e
    · exact ⟨by omega, by omega, fun e3 => by have := t3 j e3; omega⟩
  · rcases e with rfl | rfl | e
    · exact h.fg
    · exact h.fk
    · exact h.fa j e
end

section
variable {W w w' : World} {F F' q : Nat → Prop} {gt g : Nat} {n : NetV} {A : Option Addr} {c : Nat} {A2 : Option Addr} {c2 : Nat} {T : TS}
end
end Go.Proofs.Ythaiffjalgionaa

set_option linter.unusedVariables false
set_option linter.unusedSimpArgs false
namespace Go.Proofs.Ythaiffjalgionaa
open Go.ChangeShapes Go.WideShapes Go.ChangeAt Go.RowKit

theorem Try.infoArrival : (Try.prog.info? 43).map (fun i => (i.zero, i.size, i.bytes)) = some (some (.agg #[.int .i64 0, .int .i64 0, .int .i64 0, .int .i64 0, .int .i64 0, .int .i64 0]), 6, 48) := by kernel_rfl

set_option maxRecDepth 100000 in
theorem cloneArr_walk (l : List ArrV) (A : Option Addr) (n c : Nat) (W : World) (hn : n ≤ 1048576) (hl : SlAt ArrV.cells 6 W W.heap.size A n l) :
    Calls Try.prog 108 #[.slice A n c] W fun e W' =>
      ∃ v, e = .returned v ∧ W'.ownsRow W.heap.size 43 6 v n (l.flatMap ArrV.cells) ∧ Below W.heap.size W W' := by
  obtain ⟨i0, hi0, hz0, hz1, hz2⟩ := info_parts Try.infoArrival
  rcases A with _ | ad
  · have hn0 : n = 0 := by
      rcases Nat.eq_zero_or_pos n with h | h
      · exact h
      · obtain ⟨b, o, e, _⟩ := hl.2 h; cases e
    subst hn0
    have : l = [] := List.eq_nil_of_length_eq_zero hl.1
    subst this
    have heq := fun w => Lib.run_eql_slice_nil (P := Try.prog) w _ _ none 0 c 0 0 Try.underlying80
    go_enter Try.func108, Try.ntmps108
    go_wp2
    go_ret
    exact ⟨_, rfl, World.ownsRow_nil _ _ _ _, Below.refl _ _⟩
  · have HR := hide (hl.reads ArrV.len (by omega))
    clear hl
    have heq := fun w => Lib.run_eql_slice_nil (P := Try.prog) w _ _ (some ad) n c 0 0 Try.underlying80
    go_enter Try.func108, Try.ntmps108
    go_wp2_with (at_builtin; refine wpList_append_any _ rfl (.tmp 5) (.tmp 6) 80 rfl W.heap.size 43 i0 _ 6 48 Try.underlying80 hi0 hz0 hz1 hz2 rfl (by omega) (.slice (some ⟨W.heap.size, 0, none⟩) 0 0) 0 [] rfl (World.ownsRow_lit _ #[] 0 (Nat.le_refl _) (by decide) rfl) W.heap.size (some ad) n c _ rfl (HR.out.alloc (Nat.le_refl _) _) (flat_one ArrV.one l) (by simp only [maxLen]; omega) (by omega) (by simp) ?_; intro v1 w1 hown1 hg1 hat1)
    go_ret
    refine ⟨v1, rfl, by simpa using hown1, ((Below.refl _ _).alloc (Nat.le_refl _) _).grown hg1 (by simp) (fun k hk => ?_)⟩
    simp [Value.ownBlock] at hk
    omega
set_option maxRecDepth 100000 in
theorem cloneDev_walk (l : List DevV) (A : Option Addr) (n c : Nat) (W : World) (hn : n ≤ 1048576) (hl : SlAt DevV.cells 7 W W.heap.size A n l) :
    Calls Try.prog 106 #[.slice A n c] W fun e W' =>
      ∃ v, e = .returned v ∧ W'.ownsRow W.heap.size 97 7 v n (l.flatMap DevV.cells) ∧ Below W.heap.size W W' := by
  obtain ⟨i0, hi0, hz0, hz1, hz2⟩ := info_parts Try.infoDevice
  rcases A with _ | ad
  · have hn0 : n = 0 := by
      rcases Nat.eq_zero_or_pos n with h | h
      · exact h
      · obtain ⟨b, o, e, _⟩ := hl.2 h; cases e
    subst hn0
    have : l = [] := List.eq_nil_of_length_eq_zero hl.1
    subst this
    have heq := fun w => Lib.run_eql_slice_nil (P := Try.prog) w _ _ none 0 c 0 0 Try.underlying22
    go_enter Try.func106, Try.ntmps106
    go_wp2
    go_ret
    exact ⟨_, rfl, World.ownsRow_nil _ _ _ _, Below.refl _ _⟩
  · have HR := hide (hl.reads DevV.len (by omega))
    clear hl
    have heq := fun w => Lib.run_eql_slice_nil (P := Try.prog) w _ _ (some ad) n c 0 0 Try.underlying22
    go_enter Try.func106, Try.ntmps106
    go_wp2_with (at_builtin; refine wpList_append_any _ rfl (.tmp 5) (.tmp 6) 22 rfl W.heap.size 97 i0 _ 7 112 Try.underlying22 hi0 hz0 hz1 hz2 rfl (by omega) (.slice (some ⟨W.heap.size, 0, none⟩) 0 0) 0 [] rfl (World.ownsRow_lit _ #[] 0 (Nat.le_refl _) (by decide) rfl) W.heap.size (some ad) n c _ rfl (HR.out.alloc (Nat.le_refl _) _) (flat_one DevV.one l) (by simp only [maxLen]; omega) (by omega) (by simp) ?_; intro v1 w1 hown1 hg1 hat1)
    go_ret
    refine ⟨v1, rfl, by simpa using hown1, ((Below.refl _ _).alloc (Nat.le_refl _) _).grown hg1 (by simp) (fun k hk => ?_)⟩
    simp [Value.ownBlock] at hk
    omega
end Go.Proofs.Ythaiffjalgionaa

set_option linter.unusedVariables false
set_option linter.unusedSimpArgs false
namespace Go.Proofs.Ythaiffjalgionaa
open Go.RowKit Go.Maps

def ArrV.arr (x : ArrV) : Array Value := #[.int .i64 x.d, .int .i64 x.y, .int .i64 x.p.src, .int .i64 x.p.dst, .int .i64 x.p.sport, .int .i64 x.p.dport]
theorem reads_arr {w : World} {N : Nat} {x : ArrV} (h : BoxV w N x.arr) : Reads w (N + 1) 6 (some ⟨N, 0, none⟩) 1 x.cells :=
  ⟨rfl, fun _ => ⟨_, rfl, Nat.lt_succ_self _, fun j u hu => by
    rw [addr_add, Nat.zero_add]
    exact h.1 j u (by simpa [ArrV.cells, ArrV.arr] using hu)⟩⟩
theorem BX.none (W : World) : BX W [] W := ⟨Below.refl _ _, fun x hx => by cases hx⟩
theorem WorldAt.look {W w : World} {F : Nat → Prop} {g : Nat} {no : NetV} {gm : Nat} {nm : NetV} {f o b km : Nat} {A : Option Addr} {c : Nat} {Z : WS} {k : Nat} (h : WorldAt W w F g no gm nm f o b km A c Z k) (x : ArrV) (hx : x.ok) :
    (Instr.lookup 184 (.map (some km)) (.agg #[.int .i64 x.d, .int .i64 x.y, .int .i64 x.p.src, .int .i64 x.p.dst, .int .i64 x.p.sport, .int .i64 x.p.dport]) false).run Try.prog w = .ok (.bool (decide (x ∈ Z.S))) w := by
  have := (h.kn.lookA arKeys Try.underlying184 (z := .bool false) (by kernel_rfl) (a := x) hx).2
  simp only [ArrV.val] at this
  rw [this]
  simp only [knownV]
  by_cases e : x ∈ Z.S <;> simp [e]
theorem WorldAt.store {W w : World} {F : Nat → Prop} {g : Nat} {no : NetV} {gm : Nat} {nm : NetV} {f o b km : Nat} {A : Option Addr} {c : Nat} {Z : WS} {k : Nat} (h : WorldAt W w F g no gm nm f o b km A c Z k) (x : ArrV) (hx : x.ok) (hk : k < 1000000) :
    ∃ w', (Instr.mapUpdate 184 (.map (some km)) (.agg #[.int .i64 x.d, .int .i64 x.y, .int .i64 x.p.src, .int .i64 x.p.dst, .int .i64 x.p.sport, .int .i64 x.p.dport]) (.bool true)).run Try.prog w = .ok () w' ∧ MapIs Try.prog 43 ArrV.val arDom w' km (putM (knownV Z.S) x (.bool true)) ∧ w.mapTurned w' km := by
  have hl := h.lk
  exact h.kn.storeA arKeys Z.S (by unfold maxLen; omega) (fun a _ ha => by
    by_cases e : a ∈ Z.S
    · exact e
    · simp [knownV, e] at ha) Try.underlying184 (a := x) hx (.bool true)
theorem near_turned {w w' : World} {km : Nat} (h : w.mapTurned w' km) : Near (fun j => j = km) w.heap.size w w' := by
  have hg := h.grown
  exact ⟨hg.os, hg.tape, hg.output, hg.size, fun k hk hp => hg.block k hk (fun e => hp (Option.some.inj e))⟩

set_option maxRecDepth 100000 in
set_option maxHeartbeats 8000000 in
theorem comes_walk {W0 W : World} {F : Nat → Prop} {g : Nat} {no : NetV} {gm : Nat} {nm : NetV} {f o b km : Nat} {A : Option Addr} {c : Nat} {Z : WS} {k : Nat} (h : WorldAt W0 W F g no gm nm f o b km A c Z k) (x : ArrV) (hx : x.ok) (hl : Z.S.length + 1 ≤ k) (hk : k < 1000000) :
    Calls Try.prog 110 #[.pointer (some ⟨g, 0, none⟩), .agg #[.int .i64 x.d, .int .i64 x.y, .int .i64 x.p.src, .int .i64 x.p.dst, .int .i64 x.p.sport, .int .i64 x.p.dport]] W fun e W' => e = .returned (.tuple #[]) ∧ ∃ A' c' F', WorldAt W0 W' F' g no gm nm f o b km A' c' ⟨Z.M, comeS Z.S x⟩ k ∧ Near F W.heap.size W W' ∧ ∀ j, F' j → F j ∨ W.heap.size ≤ j := by
  have HW := hide h
  have hgl := (h.fo g h.fg).2
  have hkl := (h.fo km h.fk).2
  clear h
  go_enter Try.func110, Try.ntmps110
  go_wp2_with fail
  have HX1 := hide (((BX.none W).al #[.int .i64 x.d, .int .i64 x.y, .int .i64 x.p.src, .int .i64 x.p.dst, .int .i64 x.p.sport, .int .i64 x.p.dport] 43).done)
  have hs1 : (W.alloc (.cells #[.int .i64 x.d, .int .i64 x.y, .int .i64 x.p.src, .int .i64 x.p.dst, .int .i64 x.p.sport, .int .i64 x.p.dport] 43)).heap.size = W.heap.size + 1 := by simp
  generalize World.alloc W _ = W1 at *
  have HW1 := hide (HW.out.below HX1.out.bl)
  obtain ⟨B, hB⟩ : ∃ B, decide (x ∈ Z.S) = B := ⟨_, rfl⟩
  refine wp_region_abs (by kernel_rfl) (by kernel_rfl) ?_
  intro T1 hT gt hg1 hgi
  have HGT := hide hg1
  have HGI := hide hgi
  clear hg1 hgi
  have k4 : ∀ t, (gt t).cell? ⟨g, 4, none⟩ = some (.map (some km)) := fun t => (HW1.out.below (HGT.out t)).c4
  have x0 : ∀ t, (gt t).cell? ⟨W.heap.size, 0, none⟩ = some (.int .i64 x.d) := fun t => ((HX1.out.below (HGT.out t)).get 0 rfl).1 0 _ rfl
  have x1 : ∀ t, (gt t).cell? ⟨W.heap.size, 1, none⟩ = some (.int .i64 x.y) := fun t => ((HX1.out.below (HGT.out t)).get 0 rfl).1 1 _ rfl
  have x2 : ∀ t, (gt t).cell? ⟨W.heap.size, 2, none⟩ = some (.int .i64 x.p.src) := fun t => ((HX1.out.below (HGT.out t)).get 0 rfl).1 2 _ rfl
  have x3 : ∀ t, (gt t).cell? ⟨W.heap.size, 3, none⟩ = some (.int .i64 x.p.dst) := fun t => ((HX1.out.below (HGT.out t)).get 0 rfl).1 3 _ rfl
  have x4 : ∀ t, (gt t).cell? ⟨W.heap.size, 4, none⟩ = some (.int .i64 x.p.sport) := fun t => ((HX1.out.below (HGT.out t)).get 0 rfl).1 4 _ rfl
  have x5 : ∀ t, (gt t).cell? ⟨W.heap.size, 5, none⟩ = some (.int .i64 x.p.dport) := fun t => ((HX1.out.below (HGT.out t)).get 0 rfl).1 5 _ rfl
  have hlk : ∀ t, (Instr.lookup 184 (.map (some km)) (.agg #[.int .i64 x.d, .int .i64 x.y, .int .i64 x.p.src, .int .i64 x.p.dst, .int .i64 x.p.sport, .int .i64 x.p.dport]) false).run Try.prog (gt t) = .ok (.bool B) (gt t) := fun t => by rw [← hB]; exact (HW1.out.below (HGT.out t)).look x hx
  repeat (go_big_quiet_step (fail))
  refine wpQuiet_nil ?_
  intro _ hw'
  obtain ⟨t, rfl⟩ := hw'
  have HX2 := hide (HX1.out.below (HGT.out t))
  have HW2 := hide (HW1.out.below (HGT.out t))
  have hs2 := (HGT.out t).size
  generalize gt t = W2 at *
  clear k4 x0 x1 x2 x3 x4 x5 hlk HGT HGI HX1 HW1
  cases B
  case true =>
    have e : comeS Z.S x = Z.S := if_pos (by simpa using hB)
    go_wp2
    go_end0
    exact ⟨rfl, A, c, F, by rw [e]; exact HW2.out, Near.of_below HX2.out.bl, fun j e => Or.inl e⟩
  have hxS : x ∉ Z.S := by simpa using hB
  have HCE := hide (show comeS Z.S x = Z.S ++ [x] from if_neg hxS)
  go_wp2_with fail
  obtain ⟨W3, hrun, hm3, ht3⟩ := (HW2.out.below (Below.refl _ _).drew).store x hx hk
  have n3 : Near (fun j => j = km) W2.heap.size W2 W3 := (Near.of_below (Below.refl _ _).drew).trans (near_turned ht3)
  have HN3 := hide n3
  have HM3 := hide hm3
  have hnk : ¬ (W.heap.size = km) := by omega
  have hbx := HX2.out.get 0 rfl
  have hlt2 := (HX2.out.bx _ (List.mem_of_getElem? (i := 0) rfl)).2
  have HBX3 := hide (hbx.near n3 hlt2 hnk)
  obtain ⟨b0, b1, b2, b3, b4, b5⟩ := (cells6 hbx).1
  have c4 := HW2.out.c4
  clear n3 hm3 ht3 hbx
  go_still_tail 5, (by kernel_rfl)
  go_wp2_with fail
  clear b0 b1 b2 b3 b4 b5 c4 hrun
  obtain ⟨N, hN⟩ : ∃ N, W.heap.size = N := ⟨_, rfl⟩
  obtain ⟨S0, hS0⟩ : ∃ S0, Z.S = S0 := ⟨_, rfl⟩
  have HQ := hide (fun (w' : World) (hb : Below W3.heap.size W3 w') => show (w'.cell? ⟨g, 3, none⟩ = some (.slice A S0.length c) ∧ BoxV w' N #[.int .i64 x.d, .int .i64 x.y, .int .i64 x.p.src, .int .i64 x.p.dst, .int .i64 x.p.sport, .int .i64 x.p.dport] ∧ w'.ownsRow 0 43 6 (.slice A S0.length c) S0.length (S0.flatMap ArrV.cells) ∧ g < W3.heap.size ∧ ¬ (A.map (·.block) = some g) ∧ ¬ (A.map (·.block) = some N) ∧ w'.frozen? ⟨g, 3, none⟩ = false) from by
    have hs3 := HN3.out.size
    have hw := HW2.out
    have hAl : ∀ j, A.map (·.block) = some j → j < W2.heap.size := fun j e => (hw.fo j (hw.fa j e)).2
    have hAg : ¬ (A.map (·.block) = some g) := fun e => (hw.ga g e).1 rfl
    have hAN : ¬ (A.map (·.block) = some N) := fun e => by have := (HW.out.fo N (HW.out.fa N e)).2; omega
    have hgk : ¬ g = km := hw.gk
    refine ⟨?_, ?_, ?_, by omega, hAg, hAN, ?_⟩
    · exact (hb.cell (p := ⟨g, 3, none⟩) (by show g < _; omega)).trans ((HN3.out.cell (a := ⟨g, 3, none⟩) (by show g < _; omega) hgk).trans (by rw [← hS0]; exact hw.c3))
    · rw [← hN]; exact HBX3.out.below hb (by omega)
    · exact own_below (own_same (by rw [← hS0]; exact hw.own) (fun j hj => by
        rw [row_blk] at hj
        exact HN3.out.block j (hAl j hj) (fun e => (hw.ga j hj).2.1 e))) hb
    · exact (hb.frozen (p := ⟨g, 3, none⟩) (by show g < _; omega)).trans ((HN3.out.frozen (a := ⟨g, 3, none⟩) (by show g < _; omega) hgk).trans hw.fz))
  have hNl : N < W3.heap.size := by have := HN3.out.size; omega
  have hS0l : S0.length < 1000000 := by rw [← hS0]; omega
  rw [hN]
  -- R3
  obtain ⟨i0, hi0, hz0, hz1, hz2⟩ := info_parts Try.infoArrival
  refine wp_region_E (fun w' => w'.cell? ⟨g, 3, none⟩ = some (.slice A S0.length c) ∧ w'.cell? ⟨N, 0, none⟩ = some (.int .i64 x.d) ∧ w'.cell? ⟨N, 1, none⟩ = some (.int .i64 x.y) ∧ w'.cell? ⟨N, 2, none⟩ = some (.int .i64 x.p.src) ∧ w'.cell? ⟨N, 3, none⟩ = some (.int .i64 x.p.dst) ∧ w'.cell? ⟨N, 4, none⟩ = some (.int .i64 x.p.sport) ∧ w'.cell? ⟨N, 5, none⟩ = some (.int .i64 x.p.dport)) 10 (by kernel_rfl) ⟨(HQ.out _ (Below.refl _ _).drew).1, (HQ.out _ (Below.refl _ _).drew).2.1.1 0 _ rfl, (HQ.out _ (Below.refl _ _).drew).2.1.1 1 _ rfl, (HQ.out _ (Below.refl _ _).drew).2.1.1 2 _ rfl, (HQ.out _ (Below.refl _ _).drew).2.1.1 3 _ rfl, (HQ.out _ (Below.refl _ _).drew).2.1.1 4 _ rfl, (HQ.out _ (Below.refl _ _).drew).2.1.1 5 _ rfl⟩ (fun hS inv => ?_)
  refine wpAnyE_pure (i := 0) (v := ?_) rfl (by kernel_rfl) (by kernel_rfl) (by kernel_rfl) (by kernel_rfl) (fun _ _ _ h => h) inv (Or.inl ⟨by rfl, ?_⟩) (fun _ => hS) (fun inv2 => ?_)
  rotate_left
  · intro w _
    go_simp
    try with_reducible rfl
  clear inv
  have inv := inv2
  clear inv2
  try simp only [Act.put, nrmA, nrmB, nrmC]
  refine wpAnyE_pure (i := 1) (v := ?_) rfl (by kernel_rfl) (by kernel_rfl) (by kernel_rfl) (by kernel_rfl) (fun _ _ _ h => h) inv (Or.inl ⟨by rfl, ?_⟩) (fun _ => hS) (fun inv2 => ?_)
  rotate_left
  · intro w _
    go_simp
    try with_reducible rfl
  clear inv
  have inv := inv2
  clear inv2
  try simp only [Act.put, nrmA, nrmB, nrmC]
  refine wpAnyE_pure (i := 2) (v := ?_) rfl (by kernel_rfl) (by kernel_rfl) (by kernel_rfl) (by kernel_rfl) (fun _ _ _ h => h) inv (Or.inl ⟨by rfl, ?_⟩) (fun _ => hS) (fun inv2 => ?_)
  rotate_left
  · intro w _
    go_simp
    try with_reducible rfl
  clear inv
  have inv := inv2
  clear inv2
  try simp only [Act.put, nrmA, nrmB, nrmC]
  refine wpAnyE_pure (i := 3) (v := ?_) rfl (by kernel_rfl) (by kernel_rfl) (by kernel_rfl) (by kernel_rfl) (fun _ _ _ h => h) inv (Or.inl ⟨by rfl, ?_⟩) (fun _ => hS) (fun inv2 => ?_)
  rotate_left
  · intro w _
    go_simp
    try with_reducible rfl
  clear inv
  have inv := inv2
  clear inv2
  try simp only [Act.put, nrmA, nrmB, nrmC]
  refine wpAnyE_load (i := 4) (v := ?_) [10] rfl (by kernel_rfl) (by kernel_rfl) (by kernel_rfl) (by kernel_rfl) (fun _ _ _ h => h) inv (Or.inl ⟨by rfl, ?_⟩) hS (fun inv2 => ?_)
  rotate_left
  · intro w hSw
    obtain ⟨s0, s1, s2, s3, s4, s5, s6⟩ := hSw
    go_simp
    try with_reducible rfl
  clear inv
  have inv := inv2
  clear inv2
  try simp only [Act.put, nrmA, nrmB, nrmC]
  refine wpAnyE_load (i := 5) (v := ?_) [10] rfl (by kernel_rfl) (by kernel_rfl) (by kernel_rfl) (by kernel_rfl) (fun _ _ _ h => h) inv (Or.inl ⟨by rfl, ?_⟩) hS (fun inv2 => ?_)
  rotate_left
  · intro w hSw
    obtain ⟨s0, s1, s2, s3, s4, s5, s6⟩ := hSw
    go_simp
    try with_reducible rfl
  clear inv
  have inv := inv2
  clear inv2
  try simp only [Act.put, nrmA, nrmB, nrmC]
  refine wpAnyE_one (i := 6) rfl (by kernel_rfl) inv (fun K hK => ?_)
  go_simp
  have hb4 : Below W3.heap.size W3 (W3.alloc (.cells #[.int .i64 x.d, .int .i64 x.y, .int .i64 x.p.src, .int .i64 x.p.dst, .int .i64 x.p.sport, .int .i64 x.p.dport] 43)).drew := ((Below.refl _ _).alloc (Nat.le_refl _) _).drew
  have HB4 := hide hb4
  have HX4 := hide (show BoxV (W3.alloc (.cells #[.int .i64 x.d, .int .i64 x.y, .int .i64 x.p.src, .int .i64 x.p.dst, .int .i64 x.p.sport, .int .i64 x.p.dport] 43)).drew W3.heap.size (ArrV.arr x) from (BoxV.new W3 #[.int .i64 x.d, .int .i64 x.y, .int .i64 x.p.src, .int .i64 x.p.dst, .int .i64 x.p.sport, .int .i64 x.p.dport] 43).below (B := W3.heap.size + 1) ((Below.refl _ _).drew) (Nat.lt_succ_self _))
  have hs4 : (W3.alloc (.cells #[.int .i64 x.d, .int .i64 x.y, .int .i64 x.p.src, .int .i64 x.p.dst, .int .i64 x.p.sport, .int .i64 x.p.dport] 43)).drew.heap.size = W3.heap.size + 1 := by simp
  clear hb4
  refine hK.out _ _ (fun _ => ⟨(HQ.out _ HB4.out).1, (HQ.out _ HB4.out).2.1.1 0 _ rfl, (HQ.out _ HB4.out).2.1.1 1 _ rfl, (HQ.out _ HB4.out).2.1.1 2 _ rfl, (HQ.out _ HB4.out).2.1.1 3 _ rfl, (HQ.out _ HB4.out).2.1.1 4 _ rfl, (HQ.out _ HB4.out).2.1.1 5 _ rfl⟩) (fun inv2 => ?_)
  clear hK K hS
  clear inv
  have inv := inv2
  clear inv2
  try simp only [Act.put, nrmA, nrmB, nrmC]
  refine wpAnyE_one (i := 7) rfl (by kernel_rfl) inv (fun K hK => ?_)
  rw [if_pos (by rfl)]
  refine wp_append_any _ (.tmp 20) (.tmp 22) 80 rfl 0 43 i0 _ 6 48 Try.underlying80 hi0 hz0 hz1 hz2 rfl (by omega) (.slice A S0.length c) S0.length (S0.flatMap ArrV.cells) rfl (HQ.out _ HB4.out).2.2.1 (W3.heap.size + 1) (some ⟨W3.heap.size, 0, none⟩) 1 1 x.cells rfl (reads_arr HX4.out) x.one (by unfold maxLen; omega) (by omega) (Nat.zero_le _) ?_
  intro v5 w5 hown5 hg5 hat5
  obtain ⟨g5, c5, rfl, _⟩ := hown5.form (by omega)
  have HAD5 := hide (HW2.out.come (x := x) hl (HN3.out.trans ((Near.of_below HB4.out).mono HN3.out.size)) (HM3.out.below HB4.out HM3.out.lt) (by rw [hS0]; exact hown5) (by rw [hS0]; exact hg5) (by rw [hS0]; exact hat5))
  have hr5 := hg5
  rw [row_blk] at hr5
  have n5 := near_grown hr5
  have s0 : w5.cell? ⟨g, 3, none⟩ = some (.slice A S0.length c) := (n5.cell (a := ⟨g, 3, none⟩) (by show g < _; rw [hs4]; have := (HQ.out _ (Below.refl _ _)).2.2.2.1; omega) (HQ.out _ (Below.refl _ _)).2.2.2.2.1).trans (HQ.out _ HB4.out).1
  have fz5 : w5.frozen? ⟨g, 3, none⟩ = false := (n5.frozen (a := ⟨g, 3, none⟩) (by show g < _; rw [hs4]; have := (HQ.out _ (Below.refl _ _)).2.2.2.1; omega) (HQ.out _ (Below.refl _ _)).2.2.2.2.1).trans (HQ.out _ HB4.out).2.2.2.2.2.2
  have hbn := (HQ.out _ HB4.out).2.1.near n5 (by rw [hs4]; omega) (HQ.out _ (Below.refl _ _)).2.2.2.2.2.1
  clear hown5 hat5 hg5 hr5 n5
  have hS5 : w5.cell? ⟨g, 3, none⟩ = some (.slice A S0.length c) ∧ w5.cell? ⟨N, 0, none⟩ = some (.int .i64 x.d) ∧ w5.cell? ⟨N, 1, none⟩ = some (.int .i64 x.y) ∧ w5.cell? ⟨N, 2, none⟩ = some (.int .i64 x.p.src) ∧ w5.cell? ⟨N, 3, none⟩ = some (.int .i64 x.p.dst) ∧ w5.cell? ⟨N, 4, none⟩ = some (.int .i64 x.p.sport) ∧ w5.cell? ⟨N, 5, none⟩ = some (.int .i64 x.p.dport) := ⟨s0, hbn.1 0 _ rfl, hbn.1 1 _ rfl, hbn.1 2 _ rfl, hbn.1 3 _ rfl, hbn.1 4 _ rfl, hbn.1 5 _ rfl⟩
  refine hK.out _ _ (fun _ => hS5) (fun inv2 => ?_)
  clear hK K hbn
  clear inv
  have inv := inv2
  clear inv2
  try simp only [Act.put, nrmA, nrmB, nrmC]
  have hS := hS5
  clear hS5
  refine wpAnyE_pure (i := 8) (v := ?_) rfl (by kernel_rfl) (by kernel_rfl) (by kernel_rfl) (by kernel_rfl) (fun _ _ _ h => h) inv (Or.inl ⟨by rfl, ?_⟩) (fun _ => hS) (fun inv2 => ?_)
  rotate_left
  · intro w _
    go_simp
    try with_reducible rfl
  clear inv
  have inv := inv2
  clear inv2
  try simp only [Act.put, nrmA, nrmB, nrmC]
  refine wpAnyE_pure (i := 9) (v := ?_) rfl (by kernel_rfl) (by kernel_rfl) (by kernel_rfl) (by kernel_rfl) (fun _ _ _ h => h) inv (Or.inl ⟨by rfl, ?_⟩) (fun _ => hS) (fun inv2 => ?_)
  rotate_left
  · intro w _
    go_simp
    try with_reducible rfl
  clear inv
  have inv := inv2
  clear inv2
  try simp only [Act.put, nrmA, nrmB, nrmC]
  refine wpAnyE_late (i := 10) rfl (by kernel_rfl) inv (by kernel_rfl) (fun K hK => ?_)
  go_simp
  refine hK.out _ _ (fun inv2 => ?_)
  clear hK K
  clear inv
  have inv := inv2
  clear inv2
  try simp only [Act.put, nrmA, nrmB, nrmC]
  refine wpAnyE_done (by kernel_rfl) ?_ _
  clear inv
  clear s0 fz5 hS
  rw [hS0] at HAD5
  generalize World.setCell w5 _ _ = W6 at *
  go_wp2
  go_end0
  try rw [← hN]
  rw [hS0] at HCE
  try rw [hS0]
  rw [HCE.out]
  refine ⟨rfl, _, _, _, HAD5.out.1, (Near.of_below HX2.out.bl).trans (HAD5.out.2.mono HX2.out.bl.size), fun j e => ?_⟩
  rcases e with e | e
  · exact Or.inl e
  · right; have := HX2.out.bl.size; omega
end Go.Proofs.Ythaiffjalgionaa
