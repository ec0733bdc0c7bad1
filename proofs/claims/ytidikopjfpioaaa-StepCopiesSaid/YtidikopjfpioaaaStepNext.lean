/- step.copyOf's round: the plain step of its relation. -/
import Derived.Test.YtidikopjfpioaaaStepClone
import Derived.Test.YtidikopjfpioaaaStepStay
import Derived.Test.YtidikopjfpioaaaNetBacks
import Derived.Test.YtidikopjfpioaaaRing4
set_option linter.unusedVariables false
set_option linter.unusedSimpArgs false
namespace Go.Proofs.Ytidikopjfpioaaa
open Go.ChangeShapes Go.WideShapes Go.ChangeAt Go.RowKit

theorem own_cap {w : World} {base e s m n c : Nat} {A : Option Addr} {xs : List Value} (h : w.ownsRow base e s (.slice A n c) m xs) : c ≤ maxLen := by
  rcases h.2 with ⟨e, _⟩ | ⟨q, cap, cur, e, r⟩
  · simp only [Value.slice.injEq] at e; rw [e.2.2]; exact Nat.zero_le _
  · simp only [Value.slice.injEq] at e; rw [e.2.2]; exact r.2.2.2.1

theorem ints_sl {w : World} {B n : Nat} {A : Option Addr} {l : List Int} (h : IntsAt w B A n l) : SlAt i64Cells 1 w B A n l :=
  ⟨h.1, fun h0 => by
    obtain ⟨b, o, e, hb, hg⟩ := h.2.2 h0
    refine ⟨b, o, e, hb, fun k r hr j v hv => ?_⟩
    match j, hv with
    | 0, hv => cases hv; rw [Nat.mul_one]; exact hg k r hr⟩

/-- A device's box, that may be written. -/
def DBoxF (w : World) (N : Nat) (d : DevV) : Prop := DBox w N d ∧ ∀ o, w.frozen? ⟨N, o, none⟩ = false
theorem DBoxF.below {w w' : World} {B N : Nat} {d : DevV} (h : DBoxF w N d) (hB : Below B w w') (hN : N < B) : DBoxF w' N d :=
  ⟨h.1.below hB hN, fun o => (hB.frozen (p := ⟨N, o, none⟩) hN).trans (h.2 o)⟩
theorem DBoxF.new (w : World) (d : DevV) (t : TypeId) : DBoxF (w.alloc (.cells #[.string d.name, .int .i64 d.kind, .int .i64 d.addr, .int .u8 d.pool, .slice d.bA d.bn d.bc, .slice d.rA d.rn d.rc, .slice d.tA d.tn d.tc] t)) w.heap.size d :=
  ⟨DBox.new w d t, fun o => by unfold World.frozen?; rw [heap_alloc_new w _]; simp⟩

/-- A box of two slices. -/
def BoxS (w : World) (N : Nat) (u v : Value) : Prop := w.cell? ⟨N, 0, none⟩ = some u ∧ w.cell? ⟨N, 1, none⟩ = some v ∧ w.frozen? ⟨N, 0, none⟩ = false ∧ w.frozen? ⟨N, 1, none⟩ = false
theorem BoxS.below {w w' : World} {B N : Nat} {u v : Value} (h : BoxS w N u v) (hB : Below B w w') (hN : N < B) : BoxS w' N u v :=
  ⟨(hB.cell (p := ⟨N, 0, none⟩) hN).trans h.1, (hB.cell (p := ⟨N, 1, none⟩) hN).trans h.2.1, (hB.frozen (p := ⟨N, 0, none⟩) hN).trans h.2.2.1, (hB.frozen (p := ⟨N, 1, none⟩) hN).trans h.2.2.2⟩
theorem BoxS.new (w : World) (u v : Value) (t : TypeId) : BoxS (w.alloc (.cells #[u, v] t)) w.heap.size u v := by
  have hbx := heap_alloc_new w (.cells #[u, v] t)
  refine ⟨by rw [cell_of_row _ _ _ _ _ _ hbx]; rfl, by rw [cell_of_row _ _ _ _ _ _ hbx]; rfl, ?_, ?_⟩ <;> (unfold World.frozen?; rw [hbx]; simp)

/-- The copy under way: k devices are copied. -/
structure CP (W : World) (n : NetV) (wr : World) (g : Nat) (V : Value) (A2 : Option Addr) (c2 : Nat) (ds' : List DevV) : Prop where
  bl : Below W.heap.size W wr
  hg : W.heap.size + 1 < g
  sz : g + 1 ≤ wr.heap.size
  rx : BoxS wr (W.heap.size + 1) (.slice none 0 0) (.slice none 0 0)
  gx : BoxS wr g V (.slice A2 n.ln c2)
  own : wr.ownsRow (g + 1) 30 7 V ds'.length (ds'.flatMap DevV.cells)
  lsl : SlAt LinkV.cells 4 wr g A2 n.ln n.ls
  lcap : n.ln ≤ c2 ∧ c2 ≤ maxLen
  dev : ∀ d ∈ ds', DevAt wr wr.heap.size d
  don : ∀ d ∈ ds', DevOn (fun q => g + 1 ≤ q ∧ q < wr.heap.size ∧ V.ownBlock ≠ some q) d
  same : ds'.map DevV.dev = (n.ds.take ds'.length).map DevV.dev
theorem CP.below {W : World} {n : NetV} {wr w' : World} {g : Nat} {V : Value} {A2 : Option Addr} {c2 : Nat} {ds' : List DevV} (h : CP W n wr g V A2 c2 ds') (hb : Below wr.heap.size wr w') : CP W n w' g V A2 c2 ds' := by
  have hs := h.sz
  have hs2 := hb.size
  have hg := h.hg
  have hw := h.bl.size
  exact ⟨h.bl.trans (hb.mono hw), hg, by omega, h.rx.below hb (by omega), h.gx.below hb (by omega), own_below h.own hb, h.lsl.below (hb.mono (by omega)) (Nat.le_refl _), h.lcap,
    fun d hd => (h.dev d hd).below hb hs2, fun d hd => (h.don d hd).weak (fun q hq => ⟨hq.1, by have := hq.2.1; omega, hq.2.2⟩), h.same⟩

theorem CP.next {W : World} {n : NetV} {w8 w9 : World} {g : Nat} {V V' : Value} {A2 : Option Addr} {c2 : Nat} {ds' : List DevV} (h : CP W n w8 g V A2 c2 ds') (d r : DevV) (hd : DevAt w8 w8.heap.size d)
    (hon : DevOn (fun q => g + 1 ≤ q ∧ q < w8.heap.size ∧ V.ownBlock ≠ some q) d) (hr : n.ds[ds'.length]? = some r) (hrd : r.dev = d.dev)
    (hown : w9.ownsRow (g + 1) 30 7 V' (ds'.length + 1) (ds'.flatMap DevV.cells ++ d.cells)) (hg : w8.grownBy w9 V.ownBlock) (hat : V'.ownBlock = V.ownBlock ∨ V'.ownBlock = some w8.heap.size) :
    CP W n (w9.setCell ⟨g, 0, none⟩ V') g V' A2 c2 (ds' ++ [d]) := by
  have hs := h.sz
  have hs2 := hg.size
  have hgg := h.hg
  have hlt := h.own.lt
  have hbB : Below (g + 1) w8 w9 := (Below.refl _ _).grown hg (by omega) (fun q hq => (hlt q hq).1)
  have hbg : Below g w8 (w9.setCell ⟨g, 0, none⟩ V') := (hbB.mono (Nat.le_succ g)).setCell (Nat.le_refl g) _
  have hsz : (w9.setCell ⟨g, 0, none⟩ V').heap.size = w9.heap.size := by simp [World.setCell]
  have hgx := h.gx.below hbB (Nat.lt_succ_self _)
  have hst : StayOn (fun k => some k ≠ V.ownBlock ∧ k ≠ g) w8 (w9.setCell ⟨g, 0, none⟩ V') :=
    ((StayOn.of_grown hg).weak (fun k hk => hk.1)).trans ((StayOn.of_set ⟨g, 0, none⟩ V').weak (fun k hk => hk.2))
  have hon' : ∀ x ∈ ds' ++ [d], DevOn (fun q => g + 1 ≤ q ∧ q < w8.heap.size ∧ V.ownBlock ≠ some q) x := fun x hx => by
    rcases List.mem_append.1 hx with hx | hx
    · exact h.don x hx
    · simp at hx; subst hx; exact hon
  refine ⟨h.bl.trans (hbg.mono (by omega)), hgg, by omega, h.rx.below hbg (by omega), ⟨?_, ?_, ?_, ?_⟩, ?_, h.lsl.below hbg (Nat.le_refl _), h.lcap, fun x hx => ?_, fun x hx => ?_, ?_⟩
  · exact World.cell?_setCell_same _ _ _ hgx.1
  · rw [World.cell?_setCell_other _ _ _ _ (by simp)]; exact hgx.2.1
  · rw [World.frozen?_setCell]; exact hgx.2.2.1
  · rw [World.frozen?_setCell]; exact hgx.2.2.2
  · have : w9.ownsRow (g + 1) 30 7 V' (ds' ++ [d]).length ((ds' ++ [d]).flatMap DevV.cells) := by simpa using hown
    exact own_set (q := ⟨g, 0, none⟩) this (Nat.lt_succ_self g) _
  · rw [hsz]
    refine DevAt.stay ?_ hst ((hon' x hx).weak (fun q hq => ⟨fun e => hq.2.2 e.symm, by have := hq.1; omega⟩)) hs2
    rcases List.mem_append.1 hx with hx | hx
    · exact h.dev x hx
    · simp at hx; subst hx; exact hd
  · rw [hsz]
    refine (hon' x hx).weak (fun q hq => ⟨hq.1, by have := hq.2.1; omega, fun e => ?_⟩)
    rcases hat with e1 | e1
    · rw [e1] at e; exact hq.2.2 e
    · rw [e1] at e; have := hq.2.1; simp only [Option.some.injEq] at e; omega
  · rw [List.map_append, h.same, List.length_append, List.length_singleton, List.take_add_one, hr]
    simp [hrd]
theorem sl_ints {w : World} {B n : Nat} {A : Option Addr} {l : List Int} (h : SlAt i64Cells 1 w B A n l) (ho : ∀ x ∈ l, i64ok x) : IntsAt w B A n l :=
  ⟨h.1, ho, fun h0 => by
    obtain ⟨b, o, e, hb, hg⟩ := h.2 h0
    refine ⟨b, o, e, hb, fun k x hx => ?_⟩
    have := hg k x hx 0 _ rfl
    rwa [Nat.mul_one] at this⟩
end Go.Proofs.Ytidikopjfpioaaa
