/- A part of the proof: Vd2, Vd3, Vd4, Vd5, No0. -/
import Derived.Test.YtifkacnoiocebaaNw15
import Derived.Test.YtifkacnoiocebaaNw22
set_option linter.unusedVariables false
set_option linter.unusedSimpArgs false
set_option maxRecDepth 100000
set_option maxHeartbeats 4000000
namespace Go.Proofs.Ytifkacnoiocebaa
open Go.ChangeAt Go.ChangeShapes Go.RowKit Go.WideShapes
def oldL (v : Nat → Bool) (k : Nat) : List Nat := (List.range k).filter v
theorem oldL_len (v : Nat → Bool) (k : Nat) : (oldL v k).length = cntB k v := List.countP_eq_length_filter.symm
theorem oldL_yes {v : Nat → Bool} {k : Nat} (h : v k = true) : oldL v (k + 1) = oldL v k ++ [k] := by
  unfold oldL
  rw [List.range_succ, List.filter_append, List.filter_cons_of_pos h, List.filter_nil]
theorem oldL_no {v : Nat → Bool} {k : Nat} (h : v k = false) : oldL v (k + 1) = oldL v k := by
  unfold oldL
  rw [List.range_succ, List.filter_append, List.filter_cons_of_neg (by rw [h]; decide), List.filter_nil, List.append_nil]
def pickD (v : Nat → Bool) (ds : List Dev) (k : Nat) : List Dev := (oldL v k).filterMap fun i => ds[i]?
theorem pickD_yes {v : Nat → Bool} {ds : List Dev} {k : Nat} {d : Dev} (h : v k = true) (hd : ds[k]? = some d) : pickD v ds (k + 1) = pickD v ds k ++ [d] := by
  unfold pickD
  rw [oldL_yes h, List.filterMap_append]
  simp [hd]
theorem pickD_no {v : Nat → Bool} {ds : List Dev} {k : Nat} (h : v k = false) : pickD v ds (k + 1) = pickD v ds k := by
  unfold pickD
  rw [oldL_no h]
def nowK (v : Nat → Bool) (k i : Nat) : Nat := if i < k ∧ v i = true then cntB i v else 0
theorem nowK_yes {v : Nat → Bool} {k : Nat} (h : v k = true) : (fun i => if i = k then cntB k v else nowK v k i) = nowK v (k + 1) := by
  funext i
  unfold nowK
  by_cases e : i = k
  · subst e
    rw [if_pos rfl, if_pos ⟨Nat.lt_succ_self _, h⟩]
  · rw [if_neg e]
    by_cases hi : i < k ∧ v i = true
    · rw [if_pos hi, if_pos ⟨by omega, hi.2⟩]
    · rw [if_neg hi, if_neg (fun hh => hi ⟨by omega, hh.2⟩)]
theorem nowK_no {v : Nat → Bool} {k : Nat} (h : v k = false) : nowK v (k + 1) = nowK v k := by
  funext i
  unfold nowK
  by_cases e : i = k
  · subst e
    rw [if_neg (fun hh => by rw [h] at hh; exact Bool.noConfusion hh.2), if_neg (fun hh => by omega)]
  · by_cases hi : i < k ∧ v i = true
    · rw [if_pos hi, if_pos ⟨by omega, hi.2⟩]
    · rw [if_neg hi, if_neg (fun hh => hi ⟨by omega, hh.2⟩)]
theorem nowK_le (v : Nat → Bool) (k i : Nat) : nowK v k i ≤ i := by
  unfold nowK
  split
  · exact cntB_le i v
  · exact Nat.zero_le _
def linkS (v : Nat → Bool) (n : Nat) (l : LinkV) : LinkV := ⟨(nowK v n l.a.toNat : Int), l.p, (nowK v n l.b.toNat : Int), l.q⟩
def pickL (v : Nat → Bool) (n : Nat) (ls : List LinkV) : List LinkV := (ls.filter fun l => v l.a.toNat).map (linkS v n)
def intsA (f : Nat → Nat) (n : Nat) : Array Value := ((List.range n).map fun i => Value.int .i64 ((f i : Nat) : Int)).toArray
theorem intsA_get (f : Nat → Nat) {n i : Nat} (h : i < n) : (intsA f n)[i]? = some (.int .i64 ((f i : Nat) : Int)) := by simp [intsA, h]
theorem intsA_set (f : Nat → Nat) (n i x : Nat) : (intsA f n).setIfInBounds i (.int .i64 (x : Int)) = intsA (fun k => if k = i then x else f k) n := by
  apply Array.ext'
  simp only [intsA, List.setIfInBounds_toArray]
  apply List.ext_getElem?
  intro k
  rw [List.getElem?_set]
  by_cases hk : k < n
  · by_cases e : i = k
    · subst e; simp [hk]
    · simp [hk, e, Ne.symm e]
  · simp [hk]
    omega
theorem made_ints (n : Nat) : madeCells (Value.int .i64 0).cells n = intsA (fun _ => 0) n := by
  apply Array.ext
  · simp [madeCells, intsA]
  · intro i h1 h2
    simp [madeCells, intsA, Value.cells, Nat.mod_one]
theorem run_ints (n : Nat) (hn : n ≤ 1000) (w : World) : (Instr.makeSlice 58 (.int .i64 (n : Int)) (.int .i64 (n : Int))).run Try.prog w = .ok (.slice (some ⟨w.heap.size, 0, none⟩) n n) (w.alloc (.cells (intsA (fun _ => 0) n) 3)) := by
  obtain ⟨i0, hi0, hz0, hz1, hz2⟩ := info_parts Try.infoInt
  have h := run_makeSlice (P := Try.prog) w 58 3 i0 _ Try.underlying58 hi0 hz0 .i64 .i64 (n : Int) (n : Int) (by omega) (Int.le_refl _) (by rw [hz1]; omega) (by rw [hz2]; omega) (by omega)
  rw [h, hz1, Int.toNat_natCast, Nat.mul_one, made_ints]
structure SLC (W : World) (n : NetV) (v : Nat → Bool) (wr : World) (g Nb : Nat) (V O L : Value) (nw : Nat → Nat) (ol : List Nat) (ds' : List DevV) (ls' : List LinkV) : Prop where
  bl : Below W.heap.size W wr
  ord : W.heap.size + 1 < Nb ∧ Nb < g ∧ g + 1 < wr.heap.size
  nx : Bx wr W.heap.size #[.slice n.dA n.dn n.dc, .slice n.lA n.ln n.lc] 25
  rx : Bx wr (W.heap.size + 1) #[.slice none 0 0, .slice none 0 0] 25
  bx : Bx wr Nb (bools v n.dn) 4
  gx : Bx wr g #[V, L] 25
  wx : Bx wr (g + 1) (intsA nw n.dn) 3
  own : wr.ownsRow (g + 2) 61 7 V ds'.length (ds'.flatMap DevV.cells)
  old : wr.ownsRow (g + 2) 3 1 O ol.length (intCells ol)
  lnk : wr.ownsRow (g + 2) 66 4 L ls'.length (ls'.flatMap LinkV.cells)
  vo : ∀ q, V.ownBlock = some q → O.ownBlock ≠ some q
  vl : ∀ q, V.ownBlock = some q → L.ownBlock ≠ some q
  ol' : ∀ q, O.ownBlock = some q → L.ownBlock ≠ some q
  dev : ∀ d ∈ ds', DevAt wr wr.heap.size d
  don : ∀ d ∈ ds', DevOn (fun q => g + 2 ≤ q ∧ q < wr.heap.size ∧ V.ownBlock ≠ some q ∧ O.ownBlock ≠ some q ∧ L.ownBlock ≠ some q) d
section
variable {W wr w' : World} {n : NetV} {v : Nat → Bool} {g Nb : Nat} {V O L : Value} {nw : Nat → Nat} {ol : List Nat} {ds' : List DevV} {ls' : List LinkV}
theorem SLC.keep (h : SLC W n v wr g Nb V O L nw ol ds' ls') (x : Nat) (hs : wr.heap.size ≤ w'.heap.size) (hos : w'.os = wr.os) (htp : w'.tape = wr.tape) (hou : w'.output = wr.output) (hk : ∀ q, q < wr.heap.size → q ≠ x → w'.heap[q]? = wr.heap[q]?)
    (hx : g + 1 < x) (hV : V.ownBlock ≠ some x) (hO : O.ownBlock ≠ some x) (hL : L.ownBlock ≠ some x) (hd : ∀ d ∈ ds', DevOn (fun q => q ≠ x) d) : SLC W n v w' g Nb V O L nw ol ds' ls' := by
  obtain ⟨o1, o2, o3⟩ := h.ord
  have hbw := h.bl.size
  have hst : StayOn (fun q => q ≠ x) wr w' := fun a u hp hu => (World.cell?_of_block (hk a.block (cell_lt hu) hp)).trans hu
  refine ⟨⟨hos.trans h.bl.os, htp.trans h.bl.tape, hou.trans h.bl.output, Nat.le_trans hbw hs, fun q hq => (hk q (by omega) (by omega)).trans (h.bl.block q hq)⟩, ⟨o1, o2, by omega⟩, h.nx.same (hk _ (by omega) (by omega)), h.rx.same (hk _ (by omega) (by omega)), h.bx.same (hk _ (by omega) (by omega)), h.gx.same (hk _ (by omega) (by omega)), h.wx.same (hk _ (by omega) (by omega)),
    own_same h.own (fun q hq => hk q (h.own.lt q hq).2 (fun e => hV (e ▸ hq))), own_same h.old (fun q hq => hk q (h.old.lt q hq).2 (fun e => hO (e ▸ hq))), own_same h.lnk (fun q hq => hk q (h.lnk.lt q hq).2 (fun e => hL (e ▸ hq))), h.vo, h.vl, h.ol',
    fun d hdm => (h.dev d hdm).stay hst (hd d hdm) hs, fun d hdm => (h.don d hdm).weak (fun q hq => ⟨hq.1, Nat.lt_of_lt_of_le hq.2.1 hs, hq.2.2⟩)⟩
theorem SLC.below (h : SLC W n v wr g Nb V O L nw ol ds' ls') (hb : Below wr.heap.size wr w') : SLC W n v w' g Nb V O L nw ol ds' ls' := by
  obtain ⟨o1, o2, o3⟩ := h.ord
  exact h.keep wr.heap.size hb.size hb.os hb.tape hb.output (fun q hq _ => hb.block q hq) (by omega) (fun e => Nat.lt_irrefl _ (h.own.lt _ e).2) (fun e => Nat.lt_irrefl _ (h.old.lt _ e).2) (fun e => Nat.lt_irrefl _ (h.lnk.lt _ e).2)
    (fun d hd => (h.don d hd).weak (fun q hq => by have := hq.2.1; omega))
theorem SLC.now (h : SLC W n v wr g Nb V O L nw ol ds' ls') (i x : Nat) : SLC W n v (wr.setCell ⟨g + 1, i, none⟩ (.int .i64 (x : Int))) g Nb V O L (fun k => if k = i then x else nw k) ol ds' ls' := by
  obtain ⟨o1, o2, o3⟩ := h.ord
  have hbw := h.bl.size
  have hs : (wr.setCell ⟨g + 1, i, none⟩ (.int .i64 (x : Int))).heap.size = wr.heap.size := size_setCell _ _ _
  have hk : ∀ q, q ≠ g + 1 → (wr.setCell ⟨g + 1, i, none⟩ (.int .i64 (x : Int))).heap[q]? = wr.heap[q]? := fun q hq => RowKit.Below.heap_setCell _ _ _ _ hq
  have hst : StayOn (fun q => q ≠ g + 1) wr (wr.setCell ⟨g + 1, i, none⟩ (.int .i64 (x : Int))) := StayOn.of_set ⟨g + 1, i, none⟩ _
  have hw := h.wx.set i (.int .i64 (x : Int))
  rw [intsA_set] at hw
  refine ⟨h.bl.setCell (by show _ ≤ g + 1; omega) _, ⟨o1, o2, by omega⟩, h.nx.same (hk _ (by omega)), h.rx.same (hk _ (by omega)), h.bx.same (hk _ (by omega)), h.gx.same (hk _ (by omega)), hw,
    own_same h.own (fun q hq => hk q (by have := (h.own.lt q hq).1; omega)), own_same h.old (fun q hq => hk q (by have := (h.old.lt q hq).1; omega)), own_same h.lnk (fun q hq => hk q (by have := (h.lnk.lt q hq).1; omega)), h.vo, h.vl, h.ol',
    fun d hdm => (h.dev d hdm).stay hst ((h.don d hdm).weak (fun q hq => by have := hq.1; omega)) (by omega), fun d hdm => (h.don d hdm).weak (fun q hq => ⟨hq.1, by omega, hq.2.2⟩)⟩
theorem grown_off {row : Option Nat} (hg : wr.grownBy w' row) {q : Nat} (hq : q < wr.heap.size) (hne : row ≠ some q) : w'.heap[q]? = wr.heap[q]? := hg.block q hq (fun e => hne e.symm)
theorem SLC.pushOld {O' : Value} {x : Nat} (h : SLC W n v wr g Nb V O L nw ol ds' ls') (hown : w'.ownsRow (g + 2) 3 1 O' (ol.length + 1) (intCells ol ++ [.int .i64 (x : Int)])) (hg : wr.grownBy w' O.ownBlock) (hat : O'.ownBlock = O.ownBlock ∨ O'.ownBlock = some wr.heap.size) : SLC W n v w' g Nb V O' L nw (ol ++ [x]) ds' ls' := by
  obtain ⟨o1, o2, o3⟩ := h.ord
  have hbw := h.bl.size
  have hs := hg.size
  have hlo : ∀ q, q < g + 2 → q < wr.heap.size → w'.heap[q]? = wr.heap[q]? := fun q h1 h2 => grown_off hg h2 (fun e => by have := (h.old.lt q e).1; omega)
  have hst : StayOn (fun k => some k ≠ O.ownBlock) wr w' := StayOn.of_grown hg
  have hnew : ∀ q, q < wr.heap.size → O.ownBlock ≠ some q → O'.ownBlock ≠ some q := fun q h1 h2 e => by
    rcases hat with a | a
    · exact h2 (a ▸ e)
    · rw [a] at e; simp only [Option.some.injEq] at e; omega
  refine ⟨h.bl.grown hg hbw (fun q hq => by have := (h.old.lt q hq).1; omega), ⟨o1, o2, by omega⟩, h.nx.same (hlo _ (by omega) (by omega)), h.rx.same (hlo _ (by omega) (by omega)), h.bx.same (hlo _ (by omega) (by omega)), h.gx.same (hlo _ (by omega) (by omega)), h.wx.same (hlo _ (by omega) (by omega)),
    own_same h.own (fun q hq => grown_off hg (h.own.lt q hq).2 (h.vo q hq)), ?_, own_same h.lnk (fun q hq => grown_off hg (h.lnk.lt q hq).2 (fun e => h.ol' q e hq)), fun q hq => hnew q (h.own.lt q hq).2 (h.vo q hq), h.vl, fun q hq hl => ?_, fun d hdm => (h.dev d hdm).stay hst ((h.don d hdm).weak (fun q hq e => hq.2.2.2.1 e.symm)) hs,
    fun d hdm => (h.don d hdm).weak (fun q hq => ⟨hq.1, by have := hq.2.1; omega, hq.2.2.1, hnew q hq.2.1 hq.2.2.2.1, hq.2.2.2.2⟩)⟩
  · have e1 : (ol ++ [x]).length = ol.length + 1 := by simp
    have e2 : intCells (ol ++ [x]) = intCells ol ++ [.int .i64 (x : Int)] := by simp [intCells]
    rw [e1, e2]
    exact hown
  · exact hnew q (h.lnk.lt q hl).2 (fun e => h.ol' q e hl) hq
theorem SLC.pushDev {V' : Value} {d : DevV} (h : SLC W n v wr g Nb V O L nw ol ds' ls') (hd : DevAt wr wr.heap.size d) (hon : DevOn (fun q => g + 2 ≤ q ∧ q < wr.heap.size ∧ V.ownBlock ≠ some q ∧ O.ownBlock ≠ some q ∧ L.ownBlock ≠ some q) d)
    (hown : w'.ownsRow (g + 2) 61 7 V' (ds'.length + 1) (ds'.flatMap DevV.cells ++ d.cells)) (hg : wr.grownBy w' V.ownBlock) (hat : V'.ownBlock = V.ownBlock ∨ V'.ownBlock = some wr.heap.size) : SLC W n v (w'.setCell ⟨g, 0, none⟩ V') g Nb V' O L nw ol (ds' ++ [d]) ls' := by
  obtain ⟨o1, o2, o3⟩ := h.ord
  have hbw := h.bl.size
  have hs := hg.size
  have hsz : (w'.setCell ⟨g, 0, none⟩ V').heap.size = w'.heap.size := size_setCell _ _ _
  have hsc : ∀ q, q ≠ g → (w'.setCell ⟨g, 0, none⟩ V').heap[q]? = w'.heap[q]? := fun q hq => RowKit.Below.heap_setCell _ _ _ _ hq
  have hlo : ∀ q, q < g + 2 → q < wr.heap.size → w'.heap[q]? = wr.heap[q]? := fun q h1 h2 => grown_off hg h2 (fun e => by have := (h.own.lt q e).1; omega)
  have hst : StayOn (fun k => some k ≠ V.ownBlock ∧ k ≠ g) wr (w'.setCell ⟨g, 0, none⟩ V') := ((StayOn.of_grown hg).weak (fun k hk => hk.1)).trans ((StayOn.of_set ⟨g, 0, none⟩ V').weak (fun k hk => hk.2))
  have hnew : ∀ q, q < wr.heap.size → V.ownBlock ≠ some q → V'.ownBlock ≠ some q := fun q h1 h2 e => by
    rcases hat with a | a
    · exact h2 (a ▸ e)
    · rw [a] at e; simp only [Option.some.injEq] at e; omega
  have hon' : ∀ x ∈ ds' ++ [d], DevOn (fun q => g + 2 ≤ q ∧ q < wr.heap.size ∧ V.ownBlock ≠ some q ∧ O.ownBlock ≠ some q ∧ L.ownBlock ≠ some q) x := fun x hx => by
    rcases List.mem_append.1 hx with hx | hx
    · exact h.don x hx
    · simp at hx; subst hx; exact hon
  refine ⟨(h.bl.grown hg hbw (fun q hq => by have := (h.own.lt q hq).1; omega)).setCell (by show _ ≤ g; omega) _, ⟨o1, o2, by omega⟩, h.nx.same ((hsc _ (by omega)).trans (hlo _ (by omega) (by omega))), h.rx.same ((hsc _ (by omega)).trans (hlo _ (by omega) (by omega))), h.bx.same ((hsc _ (by omega)).trans (hlo _ (by omega) (by omega))), (h.gx.same (hlo _ (by omega) (by omega))).set 0 V', h.wx.same ((hsc _ (by omega)).trans (hlo _ (by omega) (by omega))), ?_,
    own_same h.old (fun q hq => (hsc q (by have := (h.old.lt q hq).1; omega)).trans (grown_off hg (h.old.lt q hq).2 (fun e => h.vo q e hq))), own_same h.lnk (fun q hq => (hsc q (by have := (h.lnk.lt q hq).1; omega)).trans (grown_off hg (h.lnk.lt q hq).2 (fun e => h.vl q e hq))), fun q hq ho => ?_, fun q hq ho => ?_, h.ol', fun x hx => ?_, fun x hx => ?_⟩
  · have e : w'.ownsRow (g + 2) 61 7 V' (ds' ++ [d]).length ((ds' ++ [d]).flatMap DevV.cells) := by simpa using hown
    exact own_same e (fun q hq => hsc q (by have := (e.lt q hq).1; omega))
  · exact hnew q (h.old.lt q ho).2 (fun e => h.vo q e ho) hq
  · exact hnew q (h.lnk.lt q ho).2 (fun e => h.vl q e ho) hq
  · rw [hsz]
    refine DevAt.stay ?_ hst ((hon' x hx).weak (fun q hq => ⟨fun e => hq.2.2.1 e.symm, by have := hq.1; omega⟩)) hs
    rcases List.mem_append.1 hx with hx | hx
    · exact h.dev x hx
    · simp at hx; subst hx; exact hd
  · rw [hsz]
    exact (hon' x hx).weak (fun q hq => ⟨hq.1, by have := hq.2.1; omega, hnew q hq.2.1 hq.2.2.1, hq.2.2.2⟩)
theorem SLC.pushLink {L' : Value} {l : LinkV} (h : SLC W n v wr g Nb V O L nw ol ds' ls') (hown : w'.ownsRow (g + 2) 66 4 L' (ls'.length + 1) (ls'.flatMap LinkV.cells ++ l.cells)) (hg : wr.grownBy w' L.ownBlock) (hat : L'.ownBlock = L.ownBlock ∨ L'.ownBlock = some wr.heap.size) : SLC W n v (w'.setCell ⟨g, 1, none⟩ L') g Nb V O L' nw ol ds' (ls' ++ [l]) := by
  obtain ⟨o1, o2, o3⟩ := h.ord
  have hbw := h.bl.size
  have hs := hg.size
  have hsz : (w'.setCell ⟨g, 1, none⟩ L').heap.size = w'.heap.size := size_setCell _ _ _
  have hsc : ∀ q, q ≠ g → (w'.setCell ⟨g, 1, none⟩ L').heap[q]? = w'.heap[q]? := fun q hq => RowKit.Below.heap_setCell _ _ _ _ hq
  have hlo : ∀ q, q < g + 2 → q < wr.heap.size → w'.heap[q]? = wr.heap[q]? := fun q h1 h2 => grown_off hg h2 (fun e => by have := (h.lnk.lt q e).1; omega)
  have hst : StayOn (fun k => some k ≠ L.ownBlock ∧ k ≠ g) wr (w'.setCell ⟨g, 1, none⟩ L') := ((StayOn.of_grown hg).weak (fun k hk => hk.1)).trans ((StayOn.of_set ⟨g, 1, none⟩ L').weak (fun k hk => hk.2))
  have hnew : ∀ q, q < wr.heap.size → L.ownBlock ≠ some q → L'.ownBlock ≠ some q := fun q h1 h2 e => by
    rcases hat with a | a
    · exact h2 (a ▸ e)
    · rw [a] at e; simp only [Option.some.injEq] at e; omega
  refine ⟨(h.bl.grown hg hbw (fun q hq => by have := (h.lnk.lt q hq).1; omega)).setCell (by show _ ≤ g; omega) _, ⟨o1, o2, by omega⟩, h.nx.same ((hsc _ (by omega)).trans (hlo _ (by omega) (by omega))), h.rx.same ((hsc _ (by omega)).trans (hlo _ (by omega) (by omega))), h.bx.same ((hsc _ (by omega)).trans (hlo _ (by omega) (by omega))), (h.gx.same (hlo _ (by omega) (by omega))).set 1 L', h.wx.same ((hsc _ (by omega)).trans (hlo _ (by omega) (by omega))),
    own_same h.own (fun q hq => (hsc q (by have := (h.own.lt q hq).1; omega)).trans (grown_off hg (h.own.lt q hq).2 (h.vl q hq))), own_same h.old (fun q hq => (hsc q (by have := (h.old.lt q hq).1; omega)).trans (grown_off hg (h.old.lt q hq).2 (h.ol' q hq))), ?_, h.vo, fun q hq => hnew q (h.own.lt q hq).2 (h.vl q hq), fun q hq => hnew q (h.old.lt q hq).2 (h.ol' q hq), fun x hx => ?_, fun x hx => ?_⟩
  · have e : w'.ownsRow (g + 2) 66 4 L' (ls' ++ [l]).length ((ls' ++ [l]).flatMap LinkV.cells) := by simpa using hown
    exact own_same e (fun q hq => hsc q (by have := (e.lt q hq).1; omega))
  · rw [hsz]
    exact (h.dev x hx).stay hst ((h.don x hx).weak (fun q hq => ⟨fun e => hq.2.2.2.2 e.symm, by have := hq.1; omega⟩)) hs
  · rw [hsz]
    exact (h.don x hx).weak (fun q hq => ⟨hq.1, by have := hq.2.1; omega, hq.2.2.1, hq.2.2.2.1, hnew q hq.2.1 hq.2.2.2.2⟩)
end
theorem set3_off (w : World) (N : Nat) (u v t : Value) {q : Nat} (hq : q ≠ N) : (set3 w N u v t).heap[q]? = w.heap[q]? :=
  (RowKit.Below.heap_setCell _ _ _ _ hq).trans ((RowKit.Below.heap_setCell _ _ _ _ hq).trans (RowKit.Below.heap_setCell _ _ _ _ hq))
theorem dev_copied2 {w4 w5 w6 w7 : World} {N B : Nat} {r : DevV} {B1 B2 B3 : Option Addr} {e1 e2 e3 : Nat} (hz : N < w4.heap.size) (h5 : Below w4.heap.size w4 w5) (h6 : Below w5.heap.size w5 w6) (h7 : Below w6.heap.size w6 w7) (hr : DevAt w4 B r)
    (o1 : w5.ownsRow w4.heap.size 3 1 (.slice B1 r.bn e1) r.bn (r.bs.flatMap i64Cells)) (o2 : w6.ownsRow w5.heap.size 55 5 (.slice B2 r.rn e2) r.rn (r.rs.flatMap RuleV.cells)) (o3 : w7.ownsRow w6.heap.size 71 3 (.slice B3 r.tn e3) r.tn (r.ts.flatMap RouteV.cells))
    (u v t : Value) :
    DevAt (set3 w7 N u v t) w7.heap.size ⟨r.name, r.kind, r.addr, r.pool, B1, r.bn, e1, r.bs, B2, r.rn, e2, r.rs, B3, r.tn, e3, r.ts⟩ ∧
    DevOn (fun q => w4.heap.size ≤ q ∧ q < w7.heap.size) ⟨r.name, r.kind, r.addr, r.pool, B1, r.bn, e1, r.bs, B2, r.rn, e2, r.rs, B3, r.tn, e3, r.ts⟩ := by
  have s5 := h5.size
  have s6 := h6.size
  have s7 := h7.size
  obtain ⟨A1, k1, f1, c1, sl1, g1⟩ := SlAt.of_own i64Cells_len o1 hr.bs.1
  obtain ⟨A2, k2, f2, c2, sl2, g2⟩ := SlAt.of_own RuleV.len o2 hr.rs.1
  obtain ⟨A3, k3, f3, c3, sl3, g3⟩ := SlAt.of_own RouteV.len o3 hr.ts.1
  cases f1
  cases f2
  cases f3
  have l1 : ∀ a, B1 = some a → w4.heap.size ≤ a.block ∧ a.block < w5.heap.size := fun a ha => o1.lt a.block (by rw [ha]; rfl)
  have l2 : ∀ a, B2 = some a → w5.heap.size ≤ a.block ∧ a.block < w6.heap.size := fun a ha => o2.lt a.block (by rw [ha]; rfl)
  have l3 : ∀ a, B3 = some a → w6.heap.size ≤ a.block ∧ a.block < w7.heap.size := fun a ha => o3.lt a.block (by rw [ha]; rfl)
  have st7 : StayOn (fun q => q ≠ N) w7 (set3 w7 N u v t) := set3_stay w7 N u v t
  have st6 : StayOn (fun q => q ≠ N ∧ q < w6.heap.size) w6 (set3 w7 N u v t) := ((StayOn.of_below h7).weak (fun q hq => hq.2)).trans (st7.weak (fun q hq => hq.1))
  have st5 : StayOn (fun q => q ≠ N ∧ q < w5.heap.size) w5 (set3 w7 N u v t) := ((StayOn.of_below h6).weak (fun q hq => hq.2)).trans (st6.weak (fun q hq => ⟨hq.1, by omega⟩))
  refine ⟨⟨hr.nm, hr.kd, hr.ad, hr.pl, ?_, ?_, ?_, hr.tok, ⟨c1, own_cap o1⟩, ⟨c2, own_cap o2⟩, ⟨c3, own_cap o3⟩⟩, ⟨fun a ha => ?_, fun a ha => ?_, fun a ha => ?_⟩⟩
  · exact sl_ints (sl1.stay st5 (fun a ha => by have := l1 a ha; omega) (by omega)) hr.bs.2.1
  · exact (sl2.stay st6 (fun a ha => by have := l2 a ha; omega) (by omega)).rules hr.rs.2.1
  · exact sl3.stay st7 (fun a ha => by have := l3 a ha; omega) (by omega)
  · have := l1 a ha; omega
  · have := l2 a ha; omega
  · have := l3 a ha; omega
theorem links_in {ds : List Dev} {ls : List LinkV} (h : netE ds ls = 0) : LinksIn ls ds.length := by
  have hn := netE_ok h
  intro l hl
  have h1 := hn.pl l.e1 (mem_endsOf.2 ⟨l, hl, .inl rfl⟩)
  have h2 := hn.pl l.e2 (mem_endsOf.2 ⟨l, hl, .inr rfl⟩)
  exact ⟨(placeB_iff.1 h1).1, (placeB_iff.1 h2).1⟩
theorem pickL_succ (v : Nat → Bool) (n : Nat) {ls : List LinkV} {j : Nat} {l : LinkV} (h : ls[j]? = some l) : pickL v n (ls.take (j + 1)) = pickL v n (ls.take j) ++ if v l.a.toNat = true then [linkS v n l] else [] := by
  obtain ⟨hk, e⟩ := List.getElem?_eq_some_iff.1 h
  unfold pickL
  rw [List.take_succ_eq_append_getElem hk, e, List.filter_append, List.map_append]
  by_cases hp : v l.a.toNat = true
  · rw [if_pos hp, List.filter_cons_of_pos (p := fun l : LinkV => v l.a.toNat) hp]; rfl
  · rw [if_neg hp, List.filter_cons_of_neg (p := fun l : LinkV => v l.a.toNat) hp]; rfl
structure NetLo (L : Nat) (n : NetV) : Prop where
  d : ∀ a, n.dA = some a → L ≤ a.block
  l : ∀ a, n.lA = some a → L ≤ a.block
  o : ∀ d ∈ n.ds, DevOn (fun k => L ≤ k) d
theorem NetLo.less {L L' : Nat} {n : NetV} (h : NetLo L n) (hL : L' ≤ L) : NetLo L' n := ⟨fun a e => Nat.le_trans hL (h.d a e), fun a e => Nat.le_trans hL (h.l a e), fun d hd => (h.o d hd).weak (fun _ hk => Nat.le_trans hL hk)⟩
end Go.Proofs.Ytifkacnoiocebaa
namespace Go.Proofs.Ytifkacnoiocebaa
open Go.Maps Go.RowKit
theorem findClos_walk (x : DevV) (nm : ByteArray) (k : Nat) (w : World) (hk : k < w.heap.size) (h0 : w.cell? ⟨k, 0, none⟩ = some (.string nm)) :
    Calls Try.prog 55 (#[x.val] ++ #[.pointer (some ⟨k, 0, none⟩)]) w fun e W' => e = .returned (.bool (decide (x.kind = 1) && nameEq x.name nm)) ∧ Below w.heap.size w W' := by
  have hne : k ≠ w.heap.size := by omega
  obtain ⟨xn, xk, xa, xp, bA, bn, bc, bs, rA, rn, rc, rs, tA, tn, tc, ts⟩ := x
  show Calls Try.prog 55 #[.agg #[.string xn, .int .i64 xk, .int .i64 xa, .int .u8 xp, .slice bA bn bc, .slice rA rn rc, .slice tA tn tc], .pointer (some ⟨k, 0, none⟩)] w _
  have HB := hide (fun o => show Below w.heap.size w (w.alloc o) from (Below.refl _ _).alloc (Nat.le_refl _) _)
  have hk1 : ∀ o, (w.alloc o).cell? ⟨k, 0, none⟩ = some (.string nm) := fun o => (((Below.refl _ _).alloc (Nat.le_refl _) o).cell (p := ⟨k, 0, none⟩) hk).trans h0
  by_cases ek : xk = 1
  · subst ek
    by_cases e : xn.toList = nm.toList
    all_goals
      go_enter Try.func55, Try.ntmps55
      go_wp2
      go_ret
      exact ⟨ret_bool (by simp [nameEq, e]), HB.out _⟩
  · have ek2 : (xk == 1) = false := by simpa using ek
    go_enter Try.func55, Try.ntmps55
    go_wp2
    go_ret
    exact ⟨ret_bool (by simp [ek]), HB.out _⟩
def hostD (nm : ByteArray) (d : Dev) : Bool := decide (d.kind = 1) && nameEq d.name nm
def hostI (nm : ByteArray) (ds : List Dev) : Int := idxF (hostD nm) ds
theorem idxF_map {α β : Type} (f : α → β) (p : β → Bool) (l : List α) : idxF (fun a => p (f a)) l = idxF p (l.map f) := by
  unfold idxF
  rw [List.findIdx?_map]
  rfl
theorem hostI_lt (nm : ByteArray) (ds : List Dev) : hostI nm ds = -1 ∨ ∃ k : Nat, hostI nm ds = (k : Int) ∧ k < ds.length := by
  rcases idxF_cases (hostD nm) ds with ⟨k, r, h1, h2, _⟩ | h
  · exact .inr ⟨k, h1, h2⟩
  · exact .inl h.1
theorem find_walkV (n : NetV) (nm : ByteArray) (W : World) (hn : NetAt W W.heap.size n) (hd : n.dn ≤ 10) :
    Calls Try.prog 39 #[n.val, .string nm] W fun e W' => e = .returned (.int .i64 (hostI nm n.devs)) ∧ Below W.heap.size W W' := by
  have HNW := hide (fun (w' : World) (hb : Below W.heap.size W w') => show NetAt w' w'.heap.size n from hn.below hb hb.size)
  clear hn
  obtain ⟨dA, dn, dc, ds, lA, ln, lc, ls⟩ := n
  simp only [NetV.val, NetV.devs] at *
  have HID := hide (show idxF (fun d : DevV => decide (d.kind = 1) && nameEq d.name nm) ds = hostI nm (ds.map DevV.dev) from idxF_map DevV.dev (hostD nm) ds)
  go_enter Try.func39, Try.ntmps39
  go_wp2_with fail
  have hb2 := (below_alloc2 W (.cells #[.slice dA dn dc, .slice lA ln lc] 25)).trans ((below_alloc2 (W.alloc (.cells #[.slice dA dn dc, .slice lA ln lc] 25)) (.cells #[.string nm] 9)).mono (below_alloc2 W _).size)
  have HB2 := hide hb2
  have HX2 := hide (show Bx ((W.alloc (.cells #[.slice dA dn dc, .slice lA ln lc] 25)).alloc (.cells #[.string nm] 9)) (W.heap.size + 1) #[.string nm] 9 from by
    have h := Bx.new (W.alloc (.cells #[.slice dA dn dc, .slice lA ln lc] 25)) #[.string nm] 9
    simpa using h)
  clear hb2
  generalize World.alloc (World.alloc W _) _ = w2 at *
  have HNA := hide ((HNW.out w2 HB2.out).ds)
  refine (indexFuncDev_any ds dA dn dc 55 #[.pointer (some ⟨W.heap.size + 1, 0, none⟩)] (fun d => decide (d.kind = 1) && nameEq d.name nm) w2 (by omega) HNA.out (fun args w => by go_simp) (hide (fun r w' hr hw' => findClos_walk r nm (W.heap.size + 1) w' (Nat.lt_of_lt_of_le HX2.out.lt hw'.size) ((HX2.out.below hw').get 0 _ rfl)))).mono ?_
  rintro e w3 ⟨rfl, hb⟩
  rw [HID.out]
  have HB3 := hide (HB2.out.trans (hb.mono HB2.out.size))
  clear hb
  go_wp2
  go_ret
  exact ⟨rfl, HB3.out⟩
def chkE (nm : ByteArray) (ds : List Dev) (ls : List LinkV) : Int := if netE ds ls = 0 then (if hostI nm ds < 0 then 4 else 0) else netE ds ls
def chkI (nm : ByteArray) (ds : List Dev) (ls : List LinkV) : Int := if chkE nm ds ls = 0 then hostI nm ds else 0
theorem net_dn {w : World} {B : Nat} {n : NetV} (hn : NetAt w B n) (hE : netE n.devs n.ls = 0) : n.dn ≤ 10 := by
  have h1 := (netE_ok hE).dl
  have h2 := hn.dlen
  simp only [NetV.devs, List.length_map] at h1
  omega
theorem chkE_host {nm : ByteArray} {ds : List Dev} {ls : List LinkV} (h : chkE nm ds ls = 0) : netE ds ls = 0 ∧ ∃ k : Nat, hostI nm ds = (k : Int) ∧ k < ds.length := by
  unfold chkE at h
  by_cases hE : netE ds ls = 0
  · rw [if_pos hE] at h
    refine ⟨hE, ?_⟩
    rcases hostI_lt nm ds with e | e
    · rw [e] at h; cases h
    · exact e
  · rw [if_neg hE] at h; exact absurd h hE
theorem check_walk (n : NetV) (nm : ByteArray) (W : World) (hn : NetAt W W.heap.size n) :
    Calls Try.prog 23 #[n.val, .string nm] W fun e W' => e = .returned (.tuple #[.int .i64 (chkI nm n.devs n.ls), .int .i64 (chkE nm n.devs n.ls)]) ∧ Below W.heap.size W W' := by
  have HNW := hide (fun (w' : World) (hb : Below W.heap.size W w') => show NetAt w' w'.heap.size n from hn.below hb hb.size)
  have HC := hide (fun (w' : World) (hb : Below W.heap.size W w') => netCheck_walk n w' (hn.below hb hb.size))
  have HF := hide (fun (hE : netE n.devs n.ls = 0) (w' : World) (hb : Below W.heap.size W w') => find_walkV n nm w' (hn.below hb hb.size) (net_dn hn hE))
  have HCE := hide (show chkE nm n.devs n.ls = if netE n.devs n.ls = 0 then (if hostI nm n.devs < 0 then 4 else 0) else netE n.devs n.ls from rfl)
  have HHI := hide (hostI_lt nm n.devs)
  have HIC := hide (show (chkE nm n.devs n.ls = 0 → chkI nm n.devs n.ls = hostI nm n.devs) ∧ (chkE nm n.devs n.ls ≠ 0 → chkI nm n.devs n.ls = 0) from ⟨fun h => if_pos h, fun h => if_neg h⟩)
  clear hn
  obtain ⟨dA, dn, dc, ds, lA, ln, lc, ls⟩ := n
  simp only [NetV.val, NetV.devs] at *
  generalize chkI nm (ds.map DevV.dev) ls = J at *
  obtain ⟨C, hC⟩ : ∃ C, chkE nm (ds.map DevV.dev) ls = C := ⟨_, rfl⟩
  rw [hC] at HCE HIC ⊢
  clear hC
  obtain ⟨I, hI⟩ : ∃ I, hostI nm (ds.map DevV.dev) = I := ⟨_, rfl⟩
  simp only [hI] at HCE HIC HHI HF
  clear hI
  go_enter Try.func23, Try.ntmps23
  go_wp2_with fail
  have hb0 := below_alloc2 W (.cells #[.slice dA dn dc, .slice lA ln lc] 25)
  have HX0 := hide (Bx.new W #[.slice dA dn dc, .slice lA ln lc] 25)
  refine (HC.out _ hb0).mono ?_
  clear HC
  rintro e w1 ⟨rfl, hb⟩
  have HB1 := hide (hb0.trans (hb.mono hb0.size))
  have HX1 := hide (HX0.out.below hb)
  clear hb hb0 HX0
  by_cases hE : netE (ds.map DevV.dev) ls = 0
  · rw [hE]
    have HCC := hide (show C = if I < 0 then 4 else 0 from by rw [HCE.out, if_pos hE])
    have HF1 := hide (HF.out hE w1 HB1.out)
    have x0 : w1.cell? ⟨W.heap.size, 0, none⟩ = some (.slice dA dn dc) := HX1.out.get 0 _ rfl
    have x1 : w1.cell? ⟨W.heap.size, 1, none⟩ = some (.slice lA ln lc) := HX1.out.get 1 _ rfl
    clear HF HCE hE
    go_wp2_with fail
    refine HF1.out.mono ?_
    clear HF1 x0 x1
    rintro e w2 ⟨rfl, hb⟩
    have HB2 := hide (HB1.out.trans (hb.mono HB1.out.size))
    clear hb
    rcases HHI.out with rfl | ⟨k, rfl, _⟩
    · have HC4 := hide (show C = 4 from HCC.out)
      go_wp2
      go_ret2
      exact ⟨by rw [HC4.out, HIC.out.2 (by rw [HC4.out]; decide)]; rfl, HB2.out⟩
    · have HC0 := hide (show C = 0 from by rw [HCC.out, if_neg (by omega)])
      have hk0 : decide ((k : Int) < 0) = false := by simp
      go_wp2
      go_ret2
      exact ⟨by rw [HC0.out, HIC.out.1 HC0.out]; rfl, HB2.out⟩
  · have HCC := hide (show C = netE (ds.map DevV.dev) ls from by rw [HCE.out, if_neg hE])
    have hC0 : ¬ C = 0 := fun e => hE (HCC.out.symm.trans e)
    rw [← HCC.out]
    have hE2 : (C != 0) = true := by simpa using hC0
    have HC0 := hide hC0
    clear HF HCE hE hC0
    go_wp2
    go_ret2
    exact ⟨by rw [HIC.out.2 HC0.out]; rfl, HB1.out⟩
end Go.Proofs.Ytifkacnoiocebaa
namespace Go.Proofs.Ytifkacnoiocebaa
open Go.ChangeAt Go.ChangeShapes Go.RowKit Go.WideShapes
theorem bigLink_walk (l : List LinkV) (A : Option Addr) (n c : Nat) (W : World) (hn : n * 32 ≤ 140737488355328) (hl : SlAt LinkV.cells 4 W W.heap.size A n l) :
    Calls Try.prog 17 #[.slice A n c] W fun e W' =>
      ∃ v, e = .returned v ∧ W'.ownsRow W.heap.size 66 4 v n (l.flatMap LinkV.cells) ∧ Below W.heap.size W W' := by
  obtain ⟨i0, hi0, hz0, hz1, hz2⟩ := info_parts Try.infoLink
  rcases A with _ | ad
  · have hn0 : n = 0 := by
      rcases Nat.eq_zero_or_pos n with h | h
      · exact h
      · obtain ⟨b, o, e, _⟩ := hl.2 h; cases e
    subst hn0
    have : l = [] := List.eq_nil_of_length_eq_zero hl.1
    subst this
    have heq := fun w => Lib.run_eql_slice_nil (P := Try.prog) w _ _ none 0 c 0 0 Try.underlying23
    go_enter Try.func17, Try.ntmps17
    go_wp2
    go_ret
    exact ⟨_, rfl, World.ownsRow_nil _ _ _ _, Below.refl _ _⟩
  · have HR := hide (hl.reads LinkV.len (by omega))
    clear hl
    have heq := fun w => Lib.run_eql_slice_nil (P := Try.prog) w _ _ (some ad) n c 0 0 Try.underlying23
    go_enter Try.func17, Try.ntmps17
    go_wp2_with (at_builtin; refine wpList_append_any _ rfl (.tmp 5) (.tmp 6) 23 rfl W.heap.size 66 i0 _ 4 32 Try.underlying23 hi0 hz0 hz1 hz2 rfl (by omega) (.slice (some ⟨W.heap.size, 0, none⟩) 0 0) 0 [] rfl (World.ownsRow_lit _ #[] 0 (Nat.le_refl _) (by decide) rfl) W.heap.size (some ad) n c _ rfl (HR.out.alloc (Nat.le_refl _) _) (flat_one LinkV.one l) (by simp only [maxLen]; omega) (by omega) (by simp) ?_; intro v1 w1 hown1 hg1 hat1)
    go_ret
    refine ⟨v1, rfl, by simpa using hown1, ((Below.refl _ _).alloc (Nat.le_refl _) _).grown hg1 (by simp) (fun k hk => ?_)⟩
    simp [Value.ownBlock] at hk
    omega
theorem bigInt_walk (l : List Int) (A : Option Addr) (n c : Nat) (W : World) (hn : n * 8 ≤ 140737488355328) (hl : SlAt i64Cells 1 W W.heap.size A n l) :
    Calls Try.prog 18 #[.slice A n c] W fun e W' =>
      ∃ v, e = .returned v ∧ W'.ownsRow W.heap.size 3 1 v n (l.flatMap i64Cells) ∧ Below W.heap.size W W' := by
  obtain ⟨i0, hi0, hz0, hz1, hz2⟩ := info_parts Try.infoInt
  rcases A with _ | ad
  · have hn0 : n = 0 := by
      rcases Nat.eq_zero_or_pos n with h | h
      · exact h
      · obtain ⟨b, o, e, _⟩ := hl.2 h; cases e
    subst hn0
    have : l = [] := List.eq_nil_of_length_eq_zero hl.1
    subst this
    have heq := fun w => Lib.run_eql_slice_nil (P := Try.prog) w _ _ none 0 c 0 0 Try.underlying58
    go_enter Try.func18, Try.ntmps18
    go_wp2
    go_ret
    exact ⟨_, rfl, World.ownsRow_nil _ _ _ _, Below.refl _ _⟩
  · have HR := hide (hl.reads i64Cells_len (by omega))
    clear hl
    have heq := fun w => Lib.run_eql_slice_nil (P := Try.prog) w _ _ (some ad) n c 0 0 Try.underlying58
    go_enter Try.func18, Try.ntmps18
    go_wp2_with (at_builtin; refine wpList_append_any _ rfl (.tmp 5) (.tmp 6) 58 rfl W.heap.size 3 i0 _ 1 8 Try.underlying58 hi0 hz0 hz1 hz2 rfl (by omega) (.slice (some ⟨W.heap.size, 0, none⟩) 0 0) 0 [] rfl (World.ownsRow_lit _ #[] 0 (Nat.le_refl _) (by decide) rfl) W.heap.size (some ad) n c _ rfl (HR.out.alloc (Nat.le_refl _) _) (flat_one i64Cells_one l) (by simp only [maxLen]; omega) (by omega) (by simp) ?_; intro v1 w1 hown1 hg1 hat1)
    go_ret
    refine ⟨v1, rfl, by simpa using hown1, ((Below.refl _ _).alloc (Nat.le_refl _) _).grown hg1 (by simp) (fun k hk => ?_)⟩
    simp [Value.ownBlock] at hk
    omega
theorem bigRoute_walk (l : List RouteV) (A : Option Addr) (n c : Nat) (W : World) (hn : n * 24 ≤ 140737488355328) (hl : SlAt RouteV.cells 3 W W.heap.size A n l) :
    Calls Try.prog 20 #[.slice A n c] W fun e W' =>
      ∃ v, e = .returned v ∧ W'.ownsRow W.heap.size 71 3 v n (l.flatMap RouteV.cells) ∧ Below W.heap.size W W' := by
  obtain ⟨i0, hi0, hz0, hz1, hz2⟩ := info_parts Try.infoRoute
  rcases A with _ | ad
  · have hn0 : n = 0 := by
      rcases Nat.eq_zero_or_pos n with h | h
      · exact h
      · obtain ⟨b, o, e, _⟩ := hl.2 h; cases e
    subst hn0
    have : l = [] := List.eq_nil_of_length_eq_zero hl.1
    subst this
    have heq := fun w => Lib.run_eql_slice_nil (P := Try.prog) w _ _ none 0 c 0 0 Try.underlying59
    go_enter Try.func20, Try.ntmps20
    go_wp2
    go_ret
    exact ⟨_, rfl, World.ownsRow_nil _ _ _ _, Below.refl _ _⟩
  · have HR := hide (hl.reads RouteV.len (by omega))
    clear hl
    have heq := fun w => Lib.run_eql_slice_nil (P := Try.prog) w _ _ (some ad) n c 0 0 Try.underlying59
    go_enter Try.func20, Try.ntmps20
    go_wp2_with (at_builtin; refine wpList_append_any _ rfl (.tmp 5) (.tmp 6) 59 rfl W.heap.size 71 i0 _ 3 24 Try.underlying59 hi0 hz0 hz1 hz2 rfl (by omega) (.slice (some ⟨W.heap.size, 0, none⟩) 0 0) 0 [] rfl (World.ownsRow_lit _ #[] 0 (Nat.le_refl _) (by decide) rfl) W.heap.size (some ad) n c _ rfl (HR.out.alloc (Nat.le_refl _) _) (flat_one RouteV.one l) (by simp only [maxLen]; omega) (by omega) (by simp) ?_; intro v1 w1 hown1 hg1 hat1)
    go_ret
    refine ⟨v1, rfl, by simpa using hown1, ((Below.refl _ _).alloc (Nat.le_refl _) _).grown hg1 (by simp) (fun k hk => ?_)⟩
    simp [Value.ownBlock] at hk
    omega
end Go.Proofs.Ytifkacnoiocebaa
