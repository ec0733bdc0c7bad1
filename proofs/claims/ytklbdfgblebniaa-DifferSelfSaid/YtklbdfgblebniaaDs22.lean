/- A part of the proof: Vd2. -/
import Derived.Test.YtklbdfgblebniaaDs21

set_option linter.unusedVariables false
set_option linter.unusedSimpArgs false
namespace Go.Proofs.Ytklbdfgblebniaa
open Go.ChangeShapes Go.WideShapes Go.ChangeAt Go.RowKit

def oldL (v : Nat → Bool) (k : Nat) : List Nat := (List.range k).filter v
theorem oldL_len (v : Nat → Bool) (k : Nat) : (oldL v k).length = cntB k v := List.countP_eq_length_filter.symm
theorem oldL_yes {v : Nat → Bool} {k : Nat} (h : v k = true) : oldL v (k + 1) = oldL v k ++ [k] := by
  unfold oldL
  rw [List.range_succ, List.filter_append, List.filter_cons_of_pos h, List.filter_nil]
theorem oldL_no {v : Nat → Bool} {k : Nat} (h : v k = false) : oldL v (k + 1) = oldL v k := by
  unfold oldL
  rw [List.range_succ, List.filter_append, List.filter_cons_of_neg (by rw [h]; decide), List.filter_nil, List.append_nil]
def pickD (v : Nat → Bool) (ds : List Dev) (k : Nat) : List Dev := (oldL v k).filterMap fun i => ds[i]?
theorem pickD_yes {v : Nat → Bool} {ds : List Dev} {k : Nat} {d : Dev} (h : v k = true) (hd : ds[k]? = some d) : pickD v ds (k + 1) = pickD v ds k ++ [d] := by
  unfold pickD
  rw [oldL_yes h, List.filterMap_append]
  simp [hd]
theorem pickD_no {v : Nat → Bool} {ds : List Dev} {k : Nat} (h : v k = false) : pickD v ds (k + 1) = pickD v ds k := by
  unfold pickD
  rw [oldL_no h]
def nowK (v : Nat → Bool) (k i : Nat) : Nat := if i < k ∧ v i = true then cntB i v else 0
theorem nowK_yes {v : Nat → Bool} {k : Nat} (h : v k = true) : (fun i => if i = k then cntB k v else nowK v k i) = nowK v (k + 1) := by
  funext i
  unfold nowK
  by_cases e : i = k
  · subst e
    rw [if_pos rfl, if_pos ⟨Nat.lt_succ_self _, h⟩]
  · rw [if_neg e]
    by_cases hi : i < k ∧ v i = true
    · rw [if_pos hi, if_pos ⟨by omega, hi.2⟩]
    · rw [if_neg hi, if_neg (fun hh => hi ⟨by omega, hh.2⟩)]
theorem nowK_no {v : Nat → Bool} {k : Nat} (h : v k = false) : nowK v (k + 1) = nowK v k := by
  funext i
  unfold nowK
  by_cases e : i = k
  · subst e
    rw [if_neg (fun hh => by rw [h] at hh; exact Bool.noConfusion hh.2), if_neg (fun hh => by omega)]
  · by_cases hi : i < k ∧ v i = true
    · rw [if_pos hi, if_pos ⟨by omega, hi.2⟩]
    · rw [if_neg hi, if_neg (fun hh => hi ⟨by omega, hh.2⟩)]
theorem nowK_le (v : Nat → Bool) (k i : Nat) : nowK v k i ≤ i := by
  unfold nowK
  split
  · exact cntB_le i v
  · exact Nat.zero_le _
def linkS (v : Nat → Bool) (n : Nat) (l : LinkV) : LinkV := ⟨(nowK v n l.a.toNat : Int), l.p, (nowK v n l.b.toNat : Int), l.q⟩
def pickL (v : Nat → Bool) (n : Nat) (ls : List LinkV) : List LinkV := (ls.filter fun l => v l.a.toNat).map (linkS v n)
def intsA (f : Nat → Nat) (n : Nat) : Array Value := ((List.range n).map fun i => Value.int .i64 ((f i : Nat) : Int)).toArray
theorem intsA_get (f : Nat → Nat) {n i : Nat} (h : i < n) : (intsA f n)[i]? = some (.int .i64 ((f i : Nat) : Int)) := by simp [intsA, h]
theorem intsA_set (f : Nat → Nat) (n i x : Nat) : (intsA f n).setIfInBounds i (.int .i64 (x : Int)) = intsA (fun k => if k = i then x else f k) n := by
  apply Array.ext'
  simp only [intsA, List.setIfInBounds_toArray]
  apply List.ext_getElem?
  intro k
  rw [List.getElem?_set]
  by_cases hk : k < n
  · by_cases e : i = k
    · subst e; simp [hk]
    · simp [hk, e, Ne.symm e]
  · simp [hk]
    omega
theorem made_ints (n : Nat) : madeCells (Value.int .i64 0).cells n = intsA (fun _ => 0) n := by
  apply Array.ext
  · simp [madeCells, intsA]
  · intro i h1 h2
    simp [madeCells, intsA, Value.cells, Nat.mod_one]
theorem run_ints (n : Nat) (hn : n ≤ 1000) (w : World) : (Instr.makeSlice 30 (.int .i64 (n : Int)) (.int .i64 (n : Int))).run Try.prog w = .ok (.slice (some ⟨w.heap.size, 0, none⟩) n n) (w.alloc (.cells (intsA (fun _ => 0) n) 3)) := by
  obtain ⟨i0, hi0, hz0, hz1, hz2⟩ := info_parts Try.infoInt
  have h := run_makeSlice (P := Try.prog) w 30 3 i0 _ Try.underlying30 hi0 hz0 .i64 .i64 (n : Int) (n : Int) (by omega) (Int.le_refl _) (by rw [hz1]; omega) (by rw [hz2]; omega) (by omega)
  rw [h, hz1, Int.toNat_natCast, Nat.mul_one, made_ints]

structure SLC (W : World) (n : NetV) (v : Nat → Bool) (wr : World) (g Nb : Nat) (V O L : Value) (nw : Nat → Nat) (ol : List Nat) (ds' : List DevV) (ls' : List LinkV) : Prop where
  bl : Below W.heap.size W wr
  ord : W.heap.size + 1 < Nb ∧ Nb < g ∧ g + 1 < wr.heap.size
  nx : Bx wr W.heap.size #[.slice n.dA n.dn n.dc, .slice n.lA n.ln n.lc] 25
  rx : Bx wr (W.heap.size + 1) #[.slice none 0 0, .slice none 0 0] 25
  bx : Bx wr Nb (bools v n.dn) 4
  gx : Bx wr g #[V, L] 25
  wx : Bx wr (g + 1) (intsA nw n.dn) 3
  own : wr.ownsRow (g + 2) 34 7 V ds'.length (ds'.flatMap DevV.cells)
  old : wr.ownsRow (g + 2) 3 1 O ol.length (intCells ol)
  lnk : wr.ownsRow (g + 2) 36 4 L ls'.length (ls'.flatMap LinkV.cells)
  vo : ∀ q, V.ownBlock = some q → O.ownBlock ≠ some q
  vl : ∀ q, V.ownBlock = some q → L.ownBlock ≠ some q
  ol' : ∀ q, O.ownBlock = some q → L.ownBlock ≠ some q
  dev : ∀ d ∈ ds', DevAt wr wr.heap.size d
  don : ∀ d ∈ ds', DevOn (fun q => g + 2 ≤ q ∧ q < wr.heap.size ∧ V.ownBlock ≠ some q ∧ O.ownBlock ≠ some q ∧ L.ownBlock ≠ some q) d

section
variable {W wr w' : World} {n : NetV} {v : Nat → Bool} {g Nb : Nat} {V O L : Value} {nw : Nat → Nat} {ol : List Nat} {ds' : List DevV} {ls' : List LinkV}
theorem SLC.keep (h : SLC W n v wr g Nb V O L nw ol ds' ls') (x : Nat) (hs : wr.heap.size ≤ w'.heap.size) (hos : w'.os = wr.os) (htp : w'.tape = wr.tape) (hou : w'.output = wr.output) (hk : ∀ q, q < wr.heap.size → q ≠ x → w'.heap[q]? = wr.heap[q]?)
    (hx : g + 1 < x) (hV : V.ownBlock ≠ some x) (hO : O.ownBlock ≠ some x) (hL : L.ownBlock ≠ some x) (hd : ∀ d ∈ ds', DevOn (fun q => q ≠ x) d) : SLC W n v w' g Nb V O L nw ol ds' ls' := by
  obtain ⟨o1, o2, o3⟩ := h.ord
  have hbw := h.bl.size
  have hst : StayOn (fun q => q ≠ x) wr w' := fun a u hp hu => (World.cell?_of_block (hk a.block (cell_lt hu) hp)).trans hu
  refine ⟨⟨hos.trans h.bl.os, htp.trans h.bl.tape, hou.trans h.bl.output, Nat.le_trans hbw hs, fun q hq => (hk q (by omega) (by omega)).trans (h.bl.block q hq)⟩, ⟨o1, o2, by omega⟩, h.nx.same (hk _ (by omega) (by omega)), h.rx.same (hk _ (by omega) (by omega)), h.bx.same (hk _ (by omega) (by omega)), h.gx.same (hk _ (by omega) (by omega)), h.wx.same (hk _ (by omega) (by omega)),
    own_same h.own (fun q hq => hk q (h.own.lt q hq).2 (fun e => hV (e ▸ hq))), own_same h.old (fun q hq => hk q (h.old.lt q hq).2 (fun e => hO (e ▸ hq))), own_same h.lnk (fun q hq => hk q (h.lnk.lt q hq).2 (fun e => hL (e ▸ hq))), h.vo, h.vl, h.ol',
    fun d hdm => (h.dev d hdm).stay hst (hd d hdm) hs, fun d hdm => (h.don d hdm).weak (fun q hq => ⟨hq.1, Nat.lt_of_lt_of_le hq.2.1 hs, hq.2.2⟩)⟩
theorem SLC.below (h : SLC W n v wr g Nb V O L nw ol ds' ls') (hb : Below wr.heap.size wr w') : SLC W n v w' g Nb V O L nw ol ds' ls' := by
  obtain ⟨o1, o2, o3⟩ := h.ord
  exact h.keep wr.heap.size hb.size hb.os hb.tape hb.output (fun q hq _ => hb.block q hq) (by omega) (fun e => Nat.lt_irrefl _ (h.own.lt _ e).2) (fun e => Nat.lt_irrefl _ (h.old.lt _ e).2) (fun e => Nat.lt_irrefl _ (h.lnk.lt _ e).2)
    (fun d hd => (h.don d hd).weak (fun q hq => by have := hq.2.1; omega))
theorem SLC.now (h : SLC W n v wr g Nb V O L nw ol ds' ls') (i x : Nat) : SLC W n v (wr.setCell ⟨g + 1, i, none⟩ (.int .i64 (x : Int))) g Nb V O L (fun k => if k = i then x else nw k) ol ds' ls' := by
  obtain ⟨o1, o2, o3⟩ := h.ord
  have hbw := h.bl.size
  have hs : (wr.setCell ⟨g + 1, i, none⟩ (.int .i64 (x : Int))).heap.size = wr.heap.size := size_setCell _ _ _
  have hk : ∀ q, q ≠ g + 1 → (wr.setCell ⟨g + 1, i, none⟩ (.int .i64 (x : Int))).heap[q]? = wr.heap[q]? := fun q hq => RowKit.Below.heap_setCell _ _ _ _ hq
  have hst : StayOn (fun q => q ≠ g + 1) wr (wr.setCell ⟨g + 1, i, none⟩ (.int .i64 (x : Int))) := StayOn.of_set ⟨g + 1, i, none⟩ _
  have hw := h.wx.set i (.int .i64 (x : Int))
  rw [intsA_set] at hw
  refine ⟨h.bl.setCell (by show _ ≤ g + 1; omega) _, ⟨o1, o2, by omega⟩, h.nx.same (hk _ (by omega)), h.rx.same (hk _ (by omega)), h.bx.same (hk _ (by omega)), h.gx.same (hk _ (by omega)), hw,
    own_same h.own (fun q hq => hk q (by have := (h.own.lt q hq).1; omega)), own_same h.old (fun q hq => hk q (by have := (h.old.lt q hq).1; omega)), own_same h.lnk (fun q hq => hk q (by have := (h.lnk.lt q hq).1; omega)), h.vo, h.vl, h.ol',
    fun d hdm => (h.dev d hdm).stay hst ((h.don d hdm).weak (fun q hq => by have := hq.1; omega)) (by omega), fun d hdm => (h.don d hdm).weak (fun q hq => ⟨hq.1, by omega, hq.2.2⟩)⟩
theorem grown_off {row : Option Nat} (hg : wr.grownBy w' row) {q : Nat} (hq : q < wr.heap.size) (hne : row ≠ some q) : w'.heap[q]? = wr.heap[q]? := hg.block q hq (fun e => hne e.symm)
theorem SLC.pushOld {O' : Value} {x : Nat} (h : SLC W n v wr g Nb V O L nw ol ds' ls') (hown : w'.ownsRow (g + 2) 3 1 O' (ol.length + 1) (intCells ol ++ [.int .i64 (x : Int)])) (hg : wr.grownBy w' O.ownBlock) (hat : O'.ownBlock = O.ownBlock ∨ O'.ownBlock = some wr.heap.size) : SLC W n v w' g Nb V O' L nw (ol ++ [x]) ds' ls' := by
  obtain ⟨o1, o2, o3⟩ := h.ord
  have hbw := h.bl.size
  have hs := hg.size
  have hlo : ∀ q, q < g + 2 → q < wr.heap.size → w'.heap[q]? = wr.heap[q]? := fun q h1 h2 => grown_off hg h2 (fun e => by have := (h.old.lt q e).1; omega)
  have hst : StayOn (fun k => some k ≠ O.ownBlock) wr w' := StayOn.of_grown hg
  have hnew : ∀ q, q < wr.heap.size → O.ownBlock ≠ some q → O'.ownBlock ≠ some q := fun q h1 h2 e => by
    rcases hat with a | a
    · exact h2 (a ▸ e)
    · rw [a] at e; simp only [Option.some.injEq] at e; omega
  refine ⟨h.bl.grown hg hbw (fun q hq => by have := (h.old.lt q hq).1; omega), ⟨o1, o2, by omega⟩, h.nx.same (hlo _ (by omega) (by omega)), h.rx.same (hlo _ (by omega) (by omega)), h.bx.same (hlo _ (by omega) (by omega)), h.gx.same (hlo _ (by omega) (by omega)), h.wx.same (hlo _ (by omega) (by omega)),
    own_same h.own (fun q hq => grown_off hg (h.own.lt q hq).2 (h.vo q hq)), ?_, own_same h.lnk (fun q hq => grown_off hg (h.lnk.lt q hq).2 (fun e => h.ol' q e hq)), fun q hq => hnew q (h.own.lt q hq).2 (h.vo q hq), h.vl, fun q hq hl => ?_, fun d hdm => (h.dev d hdm).stay hst ((h.don d hdm).weak (fun q hq e => hq.2.2.2.1 e.symm)) hs,
    fun d hdm => (h.don d hdm).weak (fun q hq => ⟨hq.1, by have := hq.2.1; omega, hq.2.2.1, hnew q hq.2.1 hq.2.2.2.1, hq.2.2.2.2⟩)⟩
  · have e1 : (ol ++ [x]).length = ol.length + 1 := by simp
    have e2 : intCells (ol ++ [x]) = intCells ol ++ [.int .i64 (x : Int)] := by simp [intCells]
    rw [e1, e2]
    exact hown
  · exact hnew q (h.lnk.lt q hl).2 (fun e => h.ol' q e hl) hq
theorem SLC.pushDev {V' : Value} {d : DevV} (h : SLC W n v wr g Nb V O L nw ol ds' ls') (hd : DevAt wr wr.heap.size d) (hon : DevOn (fun q => g + 2 ≤ q ∧ q < wr.heap.size ∧ V.ownBlock ≠ some q ∧ O.ownBlock ≠ some q ∧ L.ownBlock ≠ some q) d)
    (hown : w'.ownsRow (g + 2) 34 7 V' (ds'.length + 1) (ds'.flatMap DevV.cells ++ d.cells)) (hg : wr.grownBy w' V.ownBlock) (hat : V'.ownBlock = V.ownBlock ∨ V'.ownBlock = some wr.heap.size) : SLC W n v (w'.setCell ⟨g, 0, none⟩ V') g Nb V' O L nw ol (ds' ++ [d]) ls' := by
  obtain ⟨o1, o2, o3⟩ := h.ord
  have hbw := h.bl.size
  have hs := hg.size
  have hsz : (w'.setCell ⟨g, 0, none⟩ V').heap.size = w'.heap.size := size_setCell _ _ _
  have hsc : ∀ q, q ≠ g → (w'.setCell ⟨g, 0, none⟩ V').heap[q]? = w'.heap[q]? := fun q hq => RowKit.Below.heap_setCell _ _ _ _ hq
  have hlo : ∀ q, q < g + 2 → q < wr.heap.size → w'.heap[q]? = wr.heap[q]? := fun q h1 h2 => grown_off hg h2 (fun e => by have := (h.own.lt q e).1; omega)
  have hst : StayOn (fun k => some k ≠ V.ownBlock ∧ k ≠ g) wr (w'.setCell ⟨g, 0, none⟩ V') := ((StayOn.of_grown hg).weak (fun k hk => hk.1)).trans ((StayOn.of_set ⟨g, 0, none⟩ V').weak (fun k hk => hk.2))
  have hnew : ∀ q, q < wr.heap.size → V.ownBlock ≠ some q → V'.ownBlock ≠ some q := fun q h1 h2 e => by
    rcases hat with a | a
    · exact h2 (a ▸ e)
    · rw [a] at e; simp only [Option.some.injEq] at e; omega
  have hon' : ∀ x ∈ ds' ++ [d], DevOn (fun q => g + 2 ≤ q ∧ q < wr.heap.size ∧ V.ownBlock ≠ some q ∧ O.ownBlock ≠ some q ∧ L.ownBlock ≠ some q) x := fun x hx => by
    rcases List.mem_append.1 hx with hx | hx
    · exact h.don x hx
    · simp at hx; subst hx; exact hon
  refine ⟨(h.bl.grown hg hbw (fun q hq => by have := (h.own.lt q hq).1; omega)).setCell (by show _ ≤ g; omega) _, ⟨o1, o2, by omega⟩, h.nx.same ((hsc _ (by omega)).trans (hlo _ (by omega) (by omega))), h.rx.same ((hsc _ (by omega)).trans (hlo _ (by omega) (by omega))), h.bx.same ((hsc _ (by omega)).trans (hlo _ (by omega) (by omega))), (h.gx.same (hlo _ (by omega) (by omega))).set 0 V', h.wx.same ((hsc _ (by omega)).trans (hlo _ (by omega) (by omega))), ?_,
    own_same h.old (fun q hq => (hsc q (by have := (h.old.lt q hq).1; omega)).trans (grown_off hg (h.old.lt q hq).2 (fun e => h.vo q e hq))), own_same h.lnk (fun q hq => (hsc q (by have := (h.lnk.lt q hq).1; omega)).trans (grown_off hg (h.lnk.lt q hq).2 (fun e => h.vl q e hq))), fun q hq ho => ?_, fun q hq ho => ?_, h.ol', fun x hx => ?_, fun x hx => ?_⟩
  · have e : w'.ownsRow (g + 2) 34 7 V' (ds' ++ [d]).length ((ds' ++ [d]).flatMap DevV.cells) := by simpa using hown
    exact own_same e (fun q hq => hsc q (by have := (e.lt q hq).1; omega))
  · exact hnew q (h.old.lt q ho).2 (fun e => h.vo q e ho) hq
  · exact hnew q (h.lnk.lt q ho).2 (fun e => h.vl q e ho) hq
  · rw [hsz]
    refine DevAt.stay ?_ hst ((hon' x hx).weak (fun q hq => ⟨fun e => hq.2.2.1 e.symm, by have := hq.1; omega⟩)) hs
    rcases List.mem_append.1 hx with hx | hx
    · exact h.dev x hx
    · simp at hx; subst hx; exact hd
  · rw [hsz]
    exact (hon' x hx).weak (fun q hq => ⟨hq.1, by have := hq.2.1; omega, hnew q hq.2.1 hq.2.2.1, hq.2.2.2⟩)
theorem SLC.pushLink {L' : Value} {l : LinkV} (h : SLC W n v wr g Nb V O L nw ol ds' ls') (hown : w'.ownsRow (g + 2) 36 4 L' (ls'.length + 1) (ls'.flatMap LinkV.cells ++ l.cells)) (hg : wr.grownBy w' L.ownBlock) (hat : L'.ownBlock = L.ownBlock ∨ L'.ownBlock = some wr.heap.size) : SLC W n v (w'.setCell ⟨g, 1, none⟩ L') g Nb V O L' nw ol ds' (ls' ++ [l]) := by
  obtain ⟨o1, o2, o3⟩ := h.ord
  have hbw := h.bl.size
  have hs := hg.size
  have hsz : (w'.setCell ⟨g, 1, none⟩ L').heap.size = w'.heap.size := size_setCell _ _ _
  have hsc : ∀ q, q ≠ g → (w'.setCell ⟨g, 1, none⟩ L').heap[q]? = w'.heap[q]? := fun q hq => RowKit.Below.heap_setCell _ _ _ _ hq
  have hlo : ∀ q, q < g + 2 → q < wr.heap.size → w'.heap[q]? = wr.heap[q]? := fun q h1 h2 => grown_off hg h2 (fun e => by have := (h.lnk.lt q e).1; omega)
  have hst : StayOn (fun k => some k ≠ L.ownBlock ∧ k ≠ g) wr (w'.setCell ⟨g, 1, none⟩ L') := ((StayOn.of_grown hg).weak (fun k hk => hk.1)).trans ((StayOn.of_set ⟨g, 1, none⟩ L').weak (fun k hk => hk.2))
  have hnew : ∀ q, q < wr.heap.size → L.ownBlock ≠ some q → L'.ownBlock ≠ some q := fun q h1 h2 e => by
    rcases hat with a | a
    · exact h2 (a ▸ e)
    · rw [a] at e; simp only [Option.some.injEq] at e; omega
  refine ⟨(h.bl.grown hg hbw (fun q hq => by have := (h.lnk.lt q hq).1; omega)).setCell (by show _ ≤ g; omega) _, ⟨o1, o2, by omega⟩, h.nx.same ((hsc _ (by omega)).trans (hlo _ (by omega) (by omega))), h.rx.same ((hsc _ (by omega)).trans (hlo _ (by omega) (by omega))), h.bx.same ((hsc _ (by omega)).trans (hlo _ (by omega) (by omega))), (h.gx.same (hlo _ (by omega) (by omega))).set 1 L', h.wx.same ((hsc _ (by omega)).trans (hlo _ (by omega) (by omega))),
    own_same h.own (fun q hq => (hsc q (by have := (h.own.lt q hq).1; omega)).trans (grown_off hg (h.own.lt q hq).2 (h.vl q hq))), own_same h.old (fun q hq => (hsc q (by have := (h.old.lt q hq).1; omega)).trans (grown_off hg (h.old.lt q hq).2 (h.ol' q hq))), ?_, h.vo, fun q hq => hnew q (h.own.lt q hq).2 (h.vl q hq), fun q hq => hnew q (h.old.lt q hq).2 (h.ol' q hq), fun x hx => ?_, fun x hx => ?_⟩
  · have e : w'.ownsRow (g + 2) 36 4 L' (ls' ++ [l]).length ((ls' ++ [l]).flatMap LinkV.cells) := by simpa using hown
    exact own_same e (fun q hq => hsc q (by have := (e.lt q hq).1; omega))
  · rw [hsz]
    exact (h.dev x hx).stay hst ((h.don x hx).weak (fun q hq => ⟨fun e => hq.2.2.2.2 e.symm, by have := hq.1; omega⟩)) hs
  · rw [hsz]
    exact (h.don x hx).weak (fun q hq => ⟨hq.1, by have := hq.2.1; omega, hq.2.2.1, hq.2.2.2.1, hnew q hq.2.1 hq.2.2.2.2⟩)
end
end Go.Proofs.Ytklbdfgblebniaa
