/- A part of the proof: PlayA, WorldAt, ArrC. -/
import Derived.Test.YthaiffjalgionaaWp25

set_option linter.unusedVariables false
set_option linter.unusedSimpArgs false
namespace Go.Proofs.Ythaiffjalgionaa
open Go.RowKit

section
variable {p : Nat → Prop} {w w' : World} {B B' n : Nat} {A : Option Addr}
theorem StayOn.of_near {q : Nat → Prop} (hn : Near q w.heap.size w w') : StayOn (fun k => ¬ q k) w w' := fun a v hp hv => (World.cell?_of_block (hn.block a.block (cell_lt hv) hp)).trans hv
theorem SlAt.stay0 {α : Type} {cells : α → List Value} {s : Nat} {l : List α} (h : SlAt cells s w B A n l) (hs : StayOn p w w') (hp : 0 < n → ∀ a, A = some a → p a.block) (hB : B ≤ B') : SlAt cells s w' B' A n l :=
  ⟨h.1, fun h0 => by
    obtain ⟨b, o, e, hb, hg⟩ := h.2 h0
    exact ⟨b, o, e, by omega, fun k r hr j v hv => hs _ _ (show p b from hp h0 _ e) (hg k r hr j v hv)⟩⟩
theorem IntsAt.stay0 {l : List Int} (h : IntsAt w B A n l) (hs : StayOn p w w') (hp : 0 < n → ∀ a, A = some a → p a.block) (hB : B ≤ B') : IntsAt w' B' A n l :=
  ⟨h.1, h.2.1, fun h0 => by
    obtain ⟨b, o, e, hb, hg⟩ := h.2.2 h0
    exact ⟨b, o, e, by omega, fun k x hx => hs _ _ (show p b from hp h0 _ e) (hg k x hx)⟩⟩
theorem RulesAt.stay0 {l : List RuleV} (h : RulesAt w B A n l) (hs : StayOn p w w') (hp : 0 < n → ∀ a, A = some a → p a.block) (hB : B ≤ B') : RulesAt w' B' A n l :=
  (h.sl.stay0 hs hp hB).rules h.2.1
structure DevOn0 (p : Nat → Prop) (d : DevV) : Prop where
  b : 0 < d.bn → ∀ a, d.bA = some a → p a.block
  r : 0 < d.rn → ∀ a, d.rA = some a → p a.block
  t : 0 < d.tn → ∀ a, d.tA = some a → p a.block
theorem DevOn0.weak {q : Nat → Prop} {d : DevV} (h : DevOn0 p d) (hq : ∀ k, p k → q k) : DevOn0 q d := ⟨fun z a e => hq _ (h.b z a e), fun z a e => hq _ (h.r z a e), fun z a e => hq _ (h.t z a e)⟩
structure NetOn0 (p : Nat → Prop) (n : NetV) : Prop where
  d : 0 < n.dn → ∀ a, n.dA = some a → p a.block
  l : 0 < n.ln → ∀ a, n.lA = some a → p a.block
  o : ∀ x ∈ n.ds, DevOn0 p x
theorem NetOn0.weak {q : Nat → Prop} {n : NetV} (h : NetOn0 p n) (hq : ∀ k, p k → q k) : NetOn0 q n := ⟨fun z a e => hq _ (h.d z a e), fun z a e => hq _ (h.l z a e), fun x hx => (h.o x hx).weak hq⟩
theorem DevAt.stay0 {d : DevV} (h : DevAt w B d) (hs : StayOn p w w') (hp : DevOn0 p d) (hB : B ≤ B') : DevAt w' B' d :=
  ⟨h.nm, h.kd, h.ad, h.pl, h.bs.stay0 hs hp.b hB, h.rs.stay0 hs hp.r hB, h.ts.stay0 hs hp.t hB, h.tok, h.cb, h.cr, h.ct⟩
theorem NetAt.stay0 {m : NetV} (h : NetAt w B m) (hs : StayOn p w w') (ho : NetOn0 p m) (hB : B ≤ B') : NetAt w' B' m :=
  { ds := h.ds.stay0 hs ho.d hB, dok := fun d hm => (h.dok d hm).stay0 hs (ho.o d hm) hB, ls := h.ls.stay0 hs ho.l hB, lok := h.lok, cd := h.cd, cl := h.cl }
theorem NetAt.on {m : NetV} {K : Nat} (h : NetAt w B m) (ho : NetOn K m) : NetOn0 (fun k => K ≤ k ∧ k < B) m where
  d z a e := ⟨ho.d a e, by obtain ⟨b, o, e2, hb, _⟩ := h.ds.2 z; rw [e] at e2; cases e2; exact hb⟩
  l z a e := ⟨ho.l a e, by obtain ⟨b, o, e2, hb, _⟩ := h.ls.2 z; rw [e] at e2; cases e2; exact hb⟩
  o x hx := ⟨fun z a e => ⟨(ho.o x hx).b a e, by obtain ⟨b, o, e2, hb, _⟩ := (h.dok x hx).bs.2.2 z; rw [e] at e2; cases e2; exact hb⟩,
    fun z a e => ⟨(ho.o x hx).r a e, by obtain ⟨b, o, e2, hb, _⟩ := (h.dok x hx).rs.sl.2 z; rw [e] at e2; cases e2; exact hb⟩,
    fun z a e => ⟨(ho.o x hx).t a e, by obtain ⟨b, o, e2, hb, _⟩ := (h.dok x hx).ts.2 z; rw [e] at e2; cases e2; exact hb⟩⟩
theorem MemAt.apart {g : Nat} {m : NetV} {f o b : Nat} {M : MS} {k : Nat} {q : Nat → Prop} (h : MemAt w g m f o b M k) (hn : Near q w.heap.size w w') (hg : ¬ q g) (h3 : ∀ j, Is3 f o b j → ¬ q j) (ho : NetOn0 (fun j => ¬ q j) m) : MemAt w' g m f o b M k := by
  have st := StayOn.of_near hn
  exact ⟨st _ _ hg h.c0, st _ _ hg h.c1, st _ _ hg h.c2, st _ _ hg h.c3, st _ _ hg h.c4, h.net.stay0 st ho hn.size,
    h.mf.same (hn.block f h.flt (h3 f (Or.inl rfl))), h.mo.same (hn.block o h.olt (h3 o (Or.inr (Or.inl rfl)))), h.mb.same (hn.block b h.blt (h3 b (Or.inr (Or.inr rfl)))), h.nfo, h.nfb, h.nob, h.lf, h.lo, h.lb, h.oo, h.ob⟩
end
theorem MindAt.apart {w w' : World} {g : Nat} {n : NetV} {A : Option Addr} {c : Nat} {L : List FactV} {q : Nat → Prop} (h : MindAt w g n A c L) (hn : Near q w.heap.size w w') (hq : ¬ q g) (hA : ∀ a, A = some a → ¬ q a.block) (ho : NetOn0 (fun j => ¬ q j) n) : MindAt w' g n A c L := by
  refine ⟨(hn.cell (a := ⟨g, 0, none⟩) h.glt hq).trans h.c0, (hn.cell (a := ⟨g, 1, none⟩) h.glt hq).trans h.c1, (hn.cell (a := ⟨g, 2, none⟩) h.glt hq).trans h.c2, (hn.frozen (a := ⟨g, 2, none⟩) h.glt hq).trans h.fz, own_same h.own (fun k hk => ?_), h.net.stay0 (StayOn.of_near hn) ho (Nat.le_refl _)⟩
  cases hA0 : A with
  | none => rw [hA0] at hk; cases hk
  | some a =>
    rw [hA0] at hk
    have e : a.block = k := by simpa [Value.ownBlock] using hk
    rw [← e]
    exact hn.block a.block (h.ablk a hA0).2 (hA a hA0)
section
variable {W w w' : World} {LB : List (Nat × Array Value)} {ga : Nat} {na : NetV} {fa oa ba : Nat} {M M' : MS} {k k' g : Nat} {n : NetV} {A A' : Option Addr} {c c' : Nat} {L L' : List FactV}
theorem MindAt.new (hn : NetAt w w.heap.size n) (t : TypeId) : MindAt (w.alloc (.cells #[.slice n.dA n.dn n.dc, .slice n.lA n.ln n.lc, .slice none 0 0] t)) w.heap.size n none 0 [] := by
  have hx := BoxV.new w #[.slice n.dA n.dn n.dc, .slice n.lA n.ln n.lc, .slice none 0 0] t
  exact ⟨hx.1 0 _ rfl, hx.1 1 _ rfl, hx.1 2 _ rfl, hx.2 2, ⟨rfl, Or.inl ⟨rfl, rfl⟩⟩, hn.below ((Below.refl _ _).alloc (Nat.le_refl _) _) (Nat.le_refl _)⟩
end
theorem mGo_len (ls : List LinkV) (L : List FactV) (i : Int) (x : MG) : (mGo ls L i x).2.length ≤ L.length + 1 := by
  unfold mGo
  split
  · exact Nat.le_succ _
  · cases peerF ls (i, x.port) with
    | none => exact Nat.le_succ _
    | some v =>
      cases x.ok
      · exact Nat.le_succ _
      · exact addF_len L x.kn
theorem mindS_len (ds : List Dev) (ls : List LinkV) (L : List FactV) (i y : Int) (p : P4) (ch : Int) : (mindS ds ls L i y p ch).2.length ≤ L.length + 1 := by
  unfold mindS
  split
  · exact Nat.le_succ _
  split
  · exact Nat.le_succ _
  cases ds[i.toNat]? with
  | none => exact Nat.le_succ _
  | some r => exact mGo_len _ _ _ _
theorem forgetM_len (ds : List Dev) (L : List FactV) (i : Int) (p : P4) (q : Int) : (forgetM ds L i p q).2.length ≤ L.length := by
  unfold forgetM
  split
  · exact Nat.le_refl _
  cases ds[i.toNat]? with
  | none => exact Nat.le_refl _
  | some r =>
    simp only
    split
    · exact Nat.le_refl _
    split
    · exact Nat.le_refl _
    · simp only [List.length_append, List.length_take, List.length_drop]; omega
end Go.Proofs.Ythaiffjalgionaa

set_option linter.unusedVariables false
set_option linter.unusedSimpArgs false
namespace Go.Proofs.Ythaiffjalgionaa
open Go.RowKit Go.Maps

def knownV (S : List ArrV) : ArrV → Option Value := fun a => if a ∈ S then some (.bool true) else none
theorem knownV_put (S : List ArrV) (x : ArrV) : putM (knownV S) x (.bool true) = knownV (S ++ [x]) := by
  funext a
  simp only [putM, knownV, List.mem_append, List.mem_singleton]
  by_cases h : a = x <;> simp [h]
def Tn (g km f o b : Nat) (A : Option Addr) (j : Nat) : Prop := j = g ∨ j = km ∨ Is3 f o b j ∨ A.map (·.block) = some j
def OwnB (W w : World) (F : Nat → Prop) : Prop := ∀ j, F j → W.heap.size ≤ j ∧ j < w.heap.size
structure WorldAt (W w : World) (F : Nat → Prop) (g : Nat) (no : NetV) (gm : Nat) (nm : NetV) (f o b km : Nat) (A : Option Addr) (c : Nat) (Z : WS) (k : Nat) : Prop where
  c0 : w.cell? ⟨g, 0, none⟩ = some (.slice no.dA no.dn no.dc)
  c1 : w.cell? ⟨g, 1, none⟩ = some (.slice no.lA no.ln no.lc)
  c2 : w.cell? ⟨g, 2, none⟩ = some (.pointer (some ⟨gm, 0, none⟩))
  c3 : w.cell? ⟨g, 3, none⟩ = some (.slice A Z.S.length c)
  c4 : w.cell? ⟨g, 4, none⟩ = some (.map (some km))
  fz : w.frozen? ⟨g, 3, none⟩ = false
  own : w.ownsRow 0 43 6 (.slice A Z.S.length c) Z.S.length (Z.S.flatMap ArrV.cells)
  net : NetAt w w.heap.size no
  mem : MemAt w gm nm f o b Z.M k
  kn : MapIs Try.prog 43 ArrV.val arDom w km (knownV Z.S)
  fo : OwnB W w F
  fg : F g
  fm : F gm
  fk : F km
  f3 : ∀ j, Is3 f o b j → F j
  fa : ∀ j, A.map (·.block) = some j → F j
  gk : g ≠ km
  mt : ¬ Tn g km f o b A gm
  g3 : ∀ j, Is3 f o b j → j ≠ g ∧ j ≠ km
  ga : ∀ j, A.map (·.block) = some j → j ≠ g ∧ j ≠ km ∧ ¬ Is3 f o b j
  on : NetOn0 (fun j => j < W.heap.size ∨ (F j ∧ ¬ Tn g km f o b A j)) no
  om : NetOn0 (fun j => j < W.heap.size ∨ (F j ∧ ¬ Tn g km f o b A j)) nm
  lk : Z.S.length ≤ k
theorem OwnB.near {W w w' : World} {F q : Nat → Prop} {B : Nat} (h : OwnB W w F) (hn : Near q B w w') : OwnB W w' F := fun j hj => ⟨(h j hj).1, Nat.lt_of_lt_of_le (h j hj).2 hn.size⟩
theorem OwnB.more {W w w' : World} {F : Nat → Prop} (h : OwnB W w F) (hs : w.heap.size ≤ w'.heap.size) (hW : W.heap.size ≤ w.heap.size) : OwnB W w' (fun j => F j ∨ (w.heap.size ≤ j ∧ j < w'.heap.size)) := fun j hj => by
  rcases hj with e | e
  · have := h j e; omega
  · omega
theorem near_grown {w w' : World} {r : Option Nat} (hg : w.grownBy w' r) : Near (fun k => r = some k) w.heap.size w w' := ⟨hg.os, hg.tape, hg.output, hg.size, fun k hk hp => hg.block k hk (fun e => hp e.symm)⟩
theorem near_set (w : World) (g j : Nat) (v : Value) : Near (fun k => k = g) w.heap.size w (w.setCell ⟨g, j, none⟩ v) := ⟨rfl, rfl, rfl, by simp [World.setCell], fun k _ hp => Below.heap_setCell _ _ _ k hp⟩
section
variable {W w w' : World} {F F' q : Nat → Prop} {g : Nat} {no : NetV} {gm : Nat} {nm : NetV} {f o b km : Nat} {A : Option Addr} {c : Nat} {Z : WS} {k k' : Nat}
theorem WorldAt.stay (h : WorldAt W w F g no gm nm f o b km A c Z k) (hn : Near q w.heap.size w w') (hq : ∀ j, q j → W.heap.size ≤ j ∧ ¬ F j) : WorldAt W w' F g no gm nm f o b km A c Z k := by
  have nq : ∀ j, F j → ¬ q j := fun j hj e => (hq j e).2 hj
  have hc : ∀ j, w'.cell? ⟨g, j, none⟩ = w.cell? ⟨g, j, none⟩ := fun j => hn.cell (a := ⟨g, j, none⟩) (h.fo g h.fg).2 (nq g h.fg)
  have hw : ∀ j, (j < W.heap.size ∨ (F j ∧ ¬ Tn g km f o b A j)) → ¬ q j := fun j e hj => by
    rcases e with e | e
    · have := (hq j hj).1; omega
    · exact nq j e.1 hj
  exact ⟨(hc 0).trans h.c0, (hc 1).trans h.c1, (hc 2).trans h.c2, (hc 3).trans h.c3, (hc 4).trans h.c4, (hn.frozen (a := ⟨g, 3, none⟩) (h.fo g h.fg).2 (nq g h.fg)).trans h.fz,
    own_same h.own (fun j hj => hn.block j (h.own.lt j hj).2 (nq j (h.fa j (by rw [row_blk] at hj; exact hj)))), h.net.stay0 (StayOn.of_near hn) (h.on.weak hw) hn.size,
    h.mem.apart hn (nq gm h.fm) (fun j hj => nq j (h.f3 j hj)) (h.om.weak hw), h.kn.same (hn.block km (h.fo km h.fk).2 (nq km h.fk)), h.fo.near hn,
    h.fg, h.fm, h.fk, h.f3, h.fa, h.gk, h.mt, h.g3, h.ga, h.on, h.om, h.lk⟩
theorem WorldAt.below (h : WorldAt W w F g no gm nm f o b km A c Z k) (hb : Below w.heap.size w w') : WorldAt W w' F g no gm nm f o b km A c Z k :=
  h.stay (q := fun _ => False) (Near.of_below hb) (fun _ e => e.elim)
theorem WorldAt.up (h : WorldAt W w F g no gm nm f o b km A c Z k) (hk : k ≤ k') : WorldAt W w F g no gm nm f o b km A c Z k' := { h with mem := h.mem.more hk, lk := Nat.le_trans h.lk hk }
theorem WorldAt.hand {M' : MS} (h : WorldAt W w F g no gm nm f o b km A c Z k) (hm : MemAt w' gm nm f o b M' k') (hn : Near (Is3 f o b) w.heap.size w w') (hk : k ≤ k') : WorldAt W w' F g no gm nm f o b km A c ⟨M', Z.S⟩ k' := by
  have nq : ¬ Is3 f o b g := fun e => (h.g3 g e).1 rfl
  have hc : ∀ j, w'.cell? ⟨g, j, none⟩ = w.cell? ⟨g, j, none⟩ := fun j => hn.cell (a := ⟨g, j, none⟩) (h.fo g h.fg).2 nq
  have hw : ∀ j, (j < W.heap.size ∨ (F j ∧ ¬ Tn g km f o b A j)) → ¬ Is3 f o b j := fun j e hj => by
    rcases e with e | e
    · have := (h.fo j (h.f3 j hj)).1; omega
    · exact e.2 (Or.inr (Or.inr (Or.inl hj)))
  exact ⟨(hc 0).trans h.c0, (hc 1).trans h.c1, (hc 2).trans h.c2, (hc 3).trans h.c3, (hc 4).trans h.c4, (hn.frozen (a := ⟨g, 3, none⟩) (h.fo g h.fg).2 nq).trans h.fz,
    own_same h.own (fun j hj => hn.block j (h.own.lt j hj).2 (h.ga j (by rw [row_blk] at hj; exact hj)).2.2), h.net.stay0 (StayOn.of_near hn) (h.on.weak hw) hn.size,
    hm, h.kn.same (hn.block km (h.fo km h.fk).2 (fun e => (h.g3 km e).2 rfl)), h.fo.near hn,
    h.fg, h.fm, h.fk, h.f3, h.fa, h.gk, h.mt, h.g3, h.ga, h.on, h.om, Nat.le_trans h.lk hk⟩
theorem WorldAt.come (h : WorldAt W w F g no gm nm f o b km A c Z k) {x : ArrV} (hk : Z.S.length + 1 ≤ k) {w2 w5 : World} {A5 : Option Addr} {c5 : Nat} (hn : Near (fun j => j = km) w.heap.size w w2) (hm : MapIs Try.prog 43 ArrV.val arDom w2 km (putM (knownV Z.S) x (.bool true)))
    (hown : w5.ownsRow 0 43 6 (.slice A5 (Z.S.length + 1) c5) (Z.S.length + 1) (Z.S.flatMap ArrV.cells ++ x.cells)) (hg : w2.grownBy w5 (Value.slice A Z.S.length c).ownBlock) (hat : (Value.slice A5 (Z.S.length + 1) c5).ownBlock = (Value.slice A Z.S.length c).ownBlock ∨ (Value.slice A5 (Z.S.length + 1) c5).ownBlock = some w2.heap.size) :
    WorldAt W (w5.setCell ⟨g, 3, none⟩ (.slice A5 (Z.S.length + 1) c5)) (fun j => F j ∨ (w.heap.size ≤ j ∧ j < (w5.setCell ⟨g, 3, none⟩ (.slice A5 (Z.S.length + 1) c5)).heap.size)) g no gm nm f o b km A5 c5 ⟨Z.M, Z.S ++ [x]⟩ k ∧ Near F w.heap.size w (w5.setCell ⟨g, 3, none⟩ (.slice A5 (Z.S.length + 1) c5)) := by
  rw [row_blk] at hg hat
  rw [row_blk] at hat
  have n5 := near_grown hg
  have n6 := near_set w5 g 3 (.slice A5 (Z.S.length + 1) c5)
  generalize hv : w5.setCell ⟨g, 3, none⟩ (.slice A5 (Z.S.length + 1) c5) = w6 at *
  have s2 := hn.size
  have s5 := n5.size
  have s6 := n6.size
  have hgl := (h.fo g h.fg).2
  have hkl := (h.fo km h.fk).2
  have hW : W.heap.size ≤ w.heap.size := by have := (h.fo g h.fg).1; omega
  have gA : A.map (·.block) ≠ some g := fun e => (h.ga g e).1 rfl
  have kA : A.map (·.block) ≠ some km := fun e => (h.ga km e).2.1 rfl
  have nn : Near (fun j => j = g ∨ j = km ∨ A.map (·.block) = some j) w.heap.size w w6 :=
    ((hn.weak (fun j e => Or.inr (Or.inl e))).trans ((n5.mono s2).weak (fun j e => Or.inr (Or.inr e)))).trans ((n6.mono (by omega)).weak (fun j e => Or.inl e))
  have cc5 : ∀ j, w5.cell? ⟨g, j, none⟩ = w.cell? ⟨g, j, none⟩ := fun j => (n5.cell (a := ⟨g, j, none⟩) (by show g < _; omega) gA).trans (hn.cell (a := ⟨g, j, none⟩) hgl h.gk)
  have c6 : ∀ j, j ≠ 3 → w6.cell? ⟨g, j, none⟩ = w.cell? ⟨g, j, none⟩ := fun j hj => by
    rw [← hv, World.cell?_setCell_other _ _ _ _ (by simp [hj])]; exact cc5 j
  have b5 : ∀ j, A5.map (·.block) = some j → A.map (·.block) = some j ∨ j = w2.heap.size := fun j hj => by
    rcases hat with e | e
    · rw [hj] at e; exact Or.inl e.symm
    · rw [hj] at e; cases e; exact Or.inr rfl
  have t3 : ∀ j, Is3 f o b j → j < w.heap.size := fun j hj => (h.fo j (h.f3 j hj)).2
  have t5 : ∀ j, j < w.heap.size → Tn g km f o b A5 j → Tn g km f o b A j := fun j hj e => by
    rcases e with e | e | e | e
    · exact Or.inl e
    · exact Or.inr (Or.inl e)
    · exact Or.inr (Or.inr (Or.inl e))
    · rcases b5 j e with e | e
      · exact Or.inr (Or.inr (Or.inr e))
      · omega
  have hw : ∀ j, (j < W.heap.size ∨ (F j ∧ ¬ Tn g km f o b A j)) → ¬ (j = g ∨ j = km ∨ A.map (·.block) = some j) := fun j e hj => by
    have hF : F j := by
      rcases hj with rfl | rfl | e2
      · exact h.fg
      · exact h.fk
      · exact h.fa j e2
    rcases e with e | e
    · have := (h.fo j hF).1; omega
    · refine e.2 ?_
      rcases hj with e2 | e2 | e2
      · exact Or.inl e2
      · exact Or.inr (Or.inl e2)
      · exact Or.inr (Or.inr (Or.inr e2))
  have hw2 : ∀ j, (j < W.heap.size ∨ (F j ∧ ¬ Tn g km f o b A j)) → (j < W.heap.size ∨ ((F j ∨ (w.heap.size ≤ j ∧ j < w6.heap.size)) ∧ ¬ Tn g km f o b A5 j)) := fun j e => by
    rcases e with e | e
    · exact Or.inl e
    · exact Or.inr ⟨Or.inl e.1, fun t => e.2 (t5 j (h.fo j e.1).2 t)⟩
  have l1 : (Z.S ++ [x]).length = Z.S.length + 1 := by simp
  have l2 : (Z.S ++ [x]).flatMap ArrV.cells = Z.S.flatMap ArrV.cells ++ x.cells := by simp
  refine ⟨⟨(c6 0 (by decide)).trans h.c0, (c6 1 (by decide)).trans h.c1, (c6 2 (by decide)).trans h.c2, ?_, (c6 4 (by decide)).trans h.c4, ?_, ?_, h.net.stay0 (StayOn.of_near nn) (h.on.weak hw) nn.size, ?_, ?_, h.fo.more nn.size hW, Or.inl h.fg, Or.inl h.fm, Or.inl h.fk, fun j e => Or.inl (h.f3 j e), ?_, h.gk, ?_, h.g3, ?_, h.on.weak hw2, h.om.weak hw2, by rw [l1]; exact hk⟩, nn.weak (fun j e => ?_)⟩
  · show w6.cell? ⟨g, 3, none⟩ = some (.slice A5 (Z.S ++ [x]).length _)
    rw [l1, ← hv]
    have := World.cell?_setCell_same w5 ⟨g, 3, none⟩ (.slice A5 (Z.S.length + 1) c5) ((cc5 3).trans h.c3)
    simpa using this
  · rw [← hv, World.frozen?_setCell]
    exact ((n5.frozen (a := ⟨g, 3, none⟩) (by show g < _; omega) gA).trans (hn.frozen (a := ⟨g, 3, none⟩) hgl h.gk)).trans h.fz
  · show w6.ownsRow 0 _ 6 (.slice A5 (Z.S ++ [x]).length _) (Z.S ++ [x]).length ((Z.S ++ [x]).flatMap ArrV.cells)
    rw [l1, l2, ← hv]
    exact own_setCell hown (fun j hj => by
      rw [row_blk] at hj
      show j ≠ g
      rcases b5 j hj with e | e
      · exact (h.ga j e).1
      · omega) _
  · exact h.mem.apart nn (fun e => h.mt (by
      rcases e with e | e | e
      · exact Or.inl e
      · exact Or.inr (Or.inl e)
      · exact Or.inr (Or.inr (Or.inr e)))) (fun j hj e => by
      rcases e with e | e | e
      · exact (h.g3 j hj).1 e
      · exact (h.g3 j hj).2 e
      · exact (h.ga j e).2.2 hj) (h.om.weak hw)
  · have e1 : w6.heap[km]? = w2.heap[km]? := (n6.block km (by omega) (fun e => h.gk e.symm)).trans (n5.block km (by omega) kA)
    have := hm.same e1
    rw [knownV_put] at this
    exact this
  · intro j e
    rcases b5 j e with e | e
    · exact Or.inl (h.fa j e)
    · refine Or.inr ⟨by omega, ?_⟩
      have hl := (hown.lt j (by rw [row_blk]; assumption)).2
      omega
  · exact fun e => h.mt (t5 gm (h.fo gm h.fm).2 e)
  · intro j e
    rcases b5 j e with e | e
    · exact h.ga j e
    · exact ⟨by omega, by omega, fun e3 => by have := t3 j e3; omega⟩
  · rcases e with rfl | rfl | e
    · exact h.fg
    · exact h.fk
    · exact h.fa j e
end

structure TaleAt (W w : World) (F : Nat → Prop) (gt g : Nat) (n : NetV) (A : Option Addr) (c : Nat) (A2 : Option Addr) (c2 : Nat) (T : TS) : Prop where
  t0 : w.cell? ⟨gt, 0, none⟩ = some (.pointer (some ⟨g, 0, none⟩))
  t1 : w.cell? ⟨gt, 1, none⟩ = some (.slice A2 T.S.length c2)
  fz : w.frozen? ⟨gt, 1, none⟩ = false
  own : w.ownsRow 0 43 6 (.slice A2 T.S.length c2) T.S.length (T.S.flatMap ArrV.cells)
  m : MindAt w g n A c T.L
  fo : OwnB W w F
  ft : F gt
  fg : F g
  fa : ∀ j, A.map (·.block) = some j → F j
  fb : ∀ j, A2.map (·.block) = some j → F j
  tg : gt ≠ g
  ta : A.map (·.block) ≠ some gt
  b1 : A2.map (·.block) ≠ some gt
  b2 : A2.map (·.block) ≠ some g
  ab : ∀ j, A2.map (·.block) = some j → A.map (·.block) ≠ some j
  nn : NetOn0 (fun j => j < W.heap.size) n
section
variable {W w w' : World} {F F' q : Nat → Prop} {gt g : Nat} {n : NetV} {A : Option Addr} {c : Nat} {A2 : Option Addr} {c2 : Nat} {T : TS}
theorem TaleAt.stay (h : TaleAt W w F gt g n A c A2 c2 T) (hn : Near q w.heap.size w w') (hq : ∀ j, q j → W.heap.size ≤ j ∧ ¬ F j) : TaleAt W w' F gt g n A c A2 c2 T := by
  have nq : ∀ j, F j → ¬ q j := fun j hj e => (hq j e).2 hj
  exact ⟨(hn.cell (a := ⟨gt, 0, none⟩) (h.fo gt h.ft).2 (nq gt h.ft)).trans h.t0, (hn.cell (a := ⟨gt, 1, none⟩) (h.fo gt h.ft).2 (nq gt h.ft)).trans h.t1, (hn.frozen (a := ⟨gt, 1, none⟩) (h.fo gt h.ft).2 (nq gt h.ft)).trans h.fz,
    own_same h.own (fun j hj => hn.block j (h.own.lt j hj).2 (nq j (h.fb j (by rw [row_blk] at hj; exact hj)))),
    h.m.apart hn (nq g h.fg) (fun a ha => nq a.block (h.fa a.block (by rw [ha]; rfl))) (h.nn.weak (fun j e hj => by have := (hq j hj).1; omega)), h.fo.near hn,
    h.ft, h.fg, h.fa, h.fb, h.tg, h.ta, h.b1, h.b2, h.ab, h.nn⟩
theorem TaleAt.below (h : TaleAt W w F gt g n A c A2 c2 T) (hb : Below w.heap.size w w') : TaleAt W w' F gt g n A c A2 c2 T :=
  h.stay (q := fun _ => False) (Near.of_below hb) (fun _ e => e.elim)
theorem TaleAt.mind {A' : Option Addr} {c' : Nat} {L' : List FactV} (h : TaleAt W w F gt g n A c A2 c2 T) (hm : MindAt w' g n A' c' L') (hn : Near (fun k => k = g ∨ A.map (·.block) = some k) w.heap.size w w') (hA : ∀ a, A' = some a → A.map (·.block) = some a.block ∨ w.heap.size ≤ a.block) :
    TaleAt W w' (fun j => F j ∨ (w.heap.size ≤ j ∧ j < w'.heap.size)) gt g n A' c' A2 c2 ⟨L', T.S⟩ ∧ Near F w.heap.size w w' := by
  have hs := hn.size
  have hW : W.heap.size ≤ w.heap.size := by have := h.fo gt h.ft; omega
  have nt : ¬ (gt = g ∨ A.map (·.block) = some gt) := fun e => by
    rcases e with e | e
    · exact h.tg e
    · exact h.ta e
  have key : ∀ j, A'.map (·.block) = some j → A.map (·.block) = some j ∨ (w.heap.size ≤ j ∧ j < w'.heap.size) := fun j e => by
    cases hA' : A' with
    | none => rw [hA'] at e; cases e
    | some a =>
      rw [hA'] at e
      have e2 : a.block = j := by simpa using e
      rcases hA a hA' with q | q
      · exact Or.inl (by rw [q, e2])
      · exact Or.inr ⟨by omega, by have := (hm.ablk a hA').2; omega⟩
  refine ⟨⟨(hn.cell (a := ⟨gt, 0, none⟩) (h.fo gt h.ft).2 nt).trans h.t0, (hn.cell (a := ⟨gt, 1, none⟩) (h.fo gt h.ft).2 nt).trans h.t1, (hn.frozen (a := ⟨gt, 1, none⟩) (h.fo gt h.ft).2 nt).trans h.fz,
    own_same h.own (fun j hj => hn.block j (h.own.lt j hj).2 (fun e => ?_)), hm, h.fo.more hs hW, Or.inl h.ft, Or.inl h.fg, fun j e => ?_, fun j e => Or.inl (h.fb j e), h.tg, fun e => ?_, h.b1, h.b2, fun j e e2 => ?_, h.nn⟩, hn.weak (fun j e => ?_)⟩
  · rw [row_blk] at hj
    rcases e with e | e
    · subst e; exact h.b2 hj
    · exact h.ab j hj e
  · rcases key j e with e | e
    · exact Or.inl (h.fa j e)
    · exact Or.inr e
  · rcases key gt e with e | e
    · exact h.ta e
    · have := (h.fo gt h.ft).2; omega
  · rcases key j e2 with e3 | e3
    · exact h.ab j e e3
    · have := (h.fo j (h.fb j e)).2; omega
  · rcases e with rfl | e
    · exact h.fg
    · exact h.fa j e
theorem TaleAt.come (h : TaleAt W w F gt g n A c A2 c2 T) {x : ArrV} {w5 w2 : World} {A5 : Option Addr} {c5 : Nat} (hb : Below w.heap.size w w2)
    (hown : w5.ownsRow 0 43 6 (.slice A5 (T.S.length + 1) c5) (T.S.length + 1) (T.S.flatMap ArrV.cells ++ x.cells)) (hg : w2.grownBy w5 (Value.slice A2 T.S.length c2).ownBlock) (hat : (Value.slice A5 (T.S.length + 1) c5).ownBlock = (Value.slice A2 T.S.length c2).ownBlock ∨ (Value.slice A5 (T.S.length + 1) c5).ownBlock = some w2.heap.size) :
    TaleAt W (w5.setCell ⟨gt, 1, none⟩ (.slice A5 (T.S.length + 1) c5)) (fun j => F j ∨ (w.heap.size ≤ j ∧ j < (w5.setCell ⟨gt, 1, none⟩ (.slice A5 (T.S.length + 1) c5)).heap.size)) gt g n A c A5 c5 ⟨T.L, T.S ++ [x]⟩ ∧ Near F w.heap.size w (w5.setCell ⟨gt, 1, none⟩ (.slice A5 (T.S.length + 1) c5)) := by
  rw [row_blk] at hg hat
  rw [row_blk] at hat
  have n5 := near_grown hg
  have n6 := near_set w5 gt 1 (.slice A5 (T.S.length + 1) c5)
  generalize hv : w5.setCell ⟨gt, 1, none⟩ (.slice A5 (T.S.length + 1) c5) = w6 at *
  have s2 := hb.size
  have s5 := n5.size
  have s6 := n6.size
  have htl := (h.fo gt h.ft).2
  have hW : W.heap.size ≤ w.heap.size := by have := (h.fo gt h.ft).1; omega
  have nn : Near (fun j => j = gt ∨ A2.map (·.block) = some j) w.heap.size w w6 :=
    ((Near.of_below hb).trans ((n5.mono s2).weak (fun j e => Or.inr e))).trans ((n6.mono (by omega)).weak (fun j e => Or.inl e))
  have cc5 : ∀ j, w5.cell? ⟨gt, j, none⟩ = w.cell? ⟨gt, j, none⟩ := fun j => (n5.cell (a := ⟨gt, j, none⟩) (by show gt < _; omega) h.b1).trans (hb.cell (p := ⟨gt, j, none⟩) htl)
  have b5 : ∀ j, A5.map (·.block) = some j → A2.map (·.block) = some j ∨ j = w2.heap.size := fun j hj => by
    rcases hat with e | e
    · rw [hj] at e; exact Or.inl e.symm
    · rw [hj] at e; cases e; exact Or.inr rfl
  have l1 : (T.S ++ [x]).length = T.S.length + 1 := by simp
  have l2 : (T.S ++ [x]).flatMap ArrV.cells = T.S.flatMap ArrV.cells ++ x.cells := by simp
  refine ⟨⟨?_, ?_, ?_, ?_, ?_, h.fo.more nn.size hW, Or.inl h.ft, Or.inl h.fg, fun j e => Or.inl (h.fa j e), ?_, h.tg, h.ta, ?_, ?_, ?_, h.nn⟩, nn.weak (fun j e => ?_)⟩
  · rw [← hv, World.cell?_setCell_other _ _ _ _ (by simp)]; exact (cc5 0).trans h.t0
  · show w6.cell? ⟨gt, 1, none⟩ = some (.slice A5 (T.S ++ [x]).length _)
    rw [l1, ← hv]
    have := World.cell?_setCell_same w5 ⟨gt, 1, none⟩ (.slice A5 (T.S.length + 1) c5) ((cc5 1).trans h.t1)
    simpa using this
  · rw [← hv, World.frozen?_setCell]
    exact ((n5.frozen (a := ⟨gt, 1, none⟩) (by show gt < _; omega) h.b1).trans (hb.frozen (p := ⟨gt, 1, none⟩) htl)).trans h.fz
  · show w6.ownsRow 0 _ 6 (.slice A5 (T.S ++ [x]).length _) (T.S ++ [x]).length ((T.S ++ [x]).flatMap ArrV.cells)
    rw [l1, l2, ← hv]
    exact own_setCell hown (fun j hj => by
      rw [row_blk] at hj
      show j ≠ gt
      rcases b5 j hj with e | e
      · rintro rfl; exact h.b1 e
      · omega) _
  · exact h.m.apart nn (fun e => by
      rcases e with e | e
      · exact h.tg e.symm
      · exact h.b2 e) (fun a ha e => by
      rcases e with e | e
      · exact h.ta (by rw [ha, ← e]; rfl)
      · exact h.ab _ e (by rw [ha]; rfl)) (h.nn.weak (fun j e hj => by
      have : F j := by
        rcases hj with rfl | e2
        · exact h.ft
        · exact h.fb j e2
      have := (h.fo j this).1; omega))
  · intro j e
    rcases b5 j e with e2 | e2
    · exact Or.inl (h.fb j e2)
    · refine Or.inr ⟨by omega, ?_⟩
      have hl := (hown.lt j (by rw [row_blk]; exact e)).2
      omega
  · intro e
    rcases b5 gt e with e2 | e2
    · exact h.b1 e2
    · omega
  · intro e
    rcases b5 g e with e2 | e2
    · exact h.b2 e2
    · have := (h.fo g h.fg).2; omega
  · intro j e e3
    rcases b5 j e with e2 | e2
    · exact h.ab j e2 e3
    · have := (h.fo j (h.fa j e3)).2; omega
  · rcases e with rfl | e
    · exact h.ft
    · exact h.fb j e
end
end Go.Proofs.Ythaiffjalgionaa

set_option linter.unusedVariables false
set_option linter.unusedSimpArgs false
namespace Go.Proofs.Ythaiffjalgionaa
open Go.ChangeShapes Go.WideShapes Go.ChangeAt Go.RowKit

theorem Try.infoArrival : (Try.prog.info? 43).map (fun i => (i.zero, i.size, i.bytes)) = some (some (.agg #[.int .i64 0, .int .i64 0, .int .i64 0, .int .i64 0, .int .i64 0, .int .i64 0]), 6, 48) := by kernel_rfl

set_option maxRecDepth 100000 in
theorem cloneArr_walk (l : List ArrV) (A : Option Addr) (n c : Nat) (W : World) (hn : n ≤ 1048576) (hl : SlAt ArrV.cells 6 W W.heap.size A n l) :
    Calls Try.prog 108 #[.slice A n c] W fun e W' =>
      ∃ v, e = .returned v ∧ W'.ownsRow W.heap.size 43 6 v n (l.flatMap ArrV.cells) ∧ Below W.heap.size W W' := by
  obtain ⟨i0, hi0, hz0, hz1, hz2⟩ := info_parts Try.infoArrival
  rcases A with _ | ad
  · have hn0 : n = 0 := by
      rcases Nat.eq_zero_or_pos n with h | h
      · exact h
      · obtain ⟨b, o, e, _⟩ := hl.2 h; cases e
    subst hn0
    have : l = [] := List.eq_nil_of_length_eq_zero hl.1
    subst this
    have heq := fun w => Lib.run_eql_slice_nil (P := Try.prog) w _ _ none 0 c 0 0 Try.underlying80
    go_enter Try.func108, Try.ntmps108
    go_wp2
    go_ret
    exact ⟨_, rfl, World.ownsRow_nil _ _ _ _, Below.refl _ _⟩
  · have HR := hide (hl.reads ArrV.len (by omega))
    clear hl
    have heq := fun w => Lib.run_eql_slice_nil (P := Try.prog) w _ _ (some ad) n c 0 0 Try.underlying80
    go_enter Try.func108, Try.ntmps108
    go_wp2_with (at_builtin; refine wpList_append_any _ rfl (.tmp 5) (.tmp 6) 80 rfl W.heap.size 43 i0 _ 6 48 Try.underlying80 hi0 hz0 hz1 hz2 rfl (by omega) (.slice (some ⟨W.heap.size, 0, none⟩) 0 0) 0 [] rfl (World.ownsRow_lit _ #[] 0 (Nat.le_refl _) (by decide) rfl) W.heap.size (some ad) n c _ rfl (HR.out.alloc (Nat.le_refl _) _) (flat_one ArrV.one l) (by simp only [maxLen]; omega) (by omega) (by simp) ?_; intro v1 w1 hown1 hg1 hat1)
    go_ret
    refine ⟨v1, rfl, by simpa using hown1, ((Below.refl _ _).alloc (Nat.le_refl _) _).grown hg1 (by simp) (fun k hk => ?_)⟩
    simp [Value.ownBlock] at hk
    omega
set_option maxRecDepth 100000 in
theorem cloneDev_walk (l : List DevV) (A : Option Addr) (n c : Nat) (W : World) (hn : n ≤ 1048576) (hl : SlAt DevV.cells 7 W W.heap.size A n l) :
    Calls Try.prog 106 #[.slice A n c] W fun e W' =>
      ∃ v, e = .returned v ∧ W'.ownsRow W.heap.size 97 7 v n (l.flatMap DevV.cells) ∧ Below W.heap.size W W' := by
  obtain ⟨i0, hi0, hz0, hz1, hz2⟩ := info_parts Try.infoDevice
  rcases A with _ | ad
  · have hn0 : n = 0 := by
      rcases Nat.eq_zero_or_pos n with h | h
      · exact h
      · obtain ⟨b, o, e, _⟩ := hl.2 h; cases e
    subst hn0
    have : l = [] := List.eq_nil_of_length_eq_zero hl.1
    subst this
    have heq := fun w => Lib.run_eql_slice_nil (P := Try.prog) w _ _ none 0 c 0 0 Try.underlying22
    go_enter Try.func106, Try.ntmps106
    go_wp2
    go_ret
    exact ⟨_, rfl, World.ownsRow_nil _ _ _ _, Below.refl _ _⟩
  · have HR := hide (hl.reads DevV.len (by omega))
    clear hl
    have heq := fun w => Lib.run_eql_slice_nil (P := Try.prog) w _ _ (some ad) n c 0 0 Try.underlying22
    go_enter Try.func106, Try.ntmps106
    go_wp2_with (at_builtin; refine wpList_append_any _ rfl (.tmp 5) (.tmp 6) 22 rfl W.heap.size 97 i0 _ 7 112 Try.underlying22 hi0 hz0 hz1 hz2 rfl (by omega) (.slice (some ⟨W.heap.size, 0, none⟩) 0 0) 0 [] rfl (World.ownsRow_lit _ #[] 0 (Nat.le_refl _) (by decide) rfl) W.heap.size (some ad) n c _ rfl (HR.out.alloc (Nat.le_refl _) _) (flat_one DevV.one l) (by simp only [maxLen]; omega) (by omega) (by simp) ?_; intro v1 w1 hown1 hg1 hat1)
    go_ret
    refine ⟨v1, rfl, by simpa using hown1, ((Below.refl _ _).alloc (Nat.le_refl _) _).grown hg1 (by simp) (fun k hk => ?_)⟩
    simp [Value.ownBlock] at hk
    omega
end Go.Proofs.Ythaiffjalgionaa
