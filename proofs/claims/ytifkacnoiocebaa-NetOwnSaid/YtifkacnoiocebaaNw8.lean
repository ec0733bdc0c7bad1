/- A part of the proof: No3, No4, Boxes, StepKnow. -/
import Derived.Test.YtifkacnoiocebaaNw7
import Derived.Deep.MidRow
import Derived.Shelf.Abstract
set_option linter.unusedVariables false
set_option linter.unusedSimpArgs false
set_option maxRecDepth 100000
set_option maxHeartbeats 8000000
namespace Go.Proofs.Ytifkacnoiocebaa
open Go.Maps Go.RowKit
def setsAt (xs : List Value) (i : Nat) : List Value → List Value
  | [] => xs
  | v :: vs => setsAt (xs.set i v) (i + 1) vs
theorem setsAt_left : ∀ (vs xs ys : List Value) (i : Nat), i + vs.length ≤ xs.length → setsAt (xs ++ ys) i vs = setsAt xs i vs ++ ys
  | [], xs, ys, i, h => rfl
  | v :: vs, xs, ys, i, h => by
    simp only [List.length_cons] at h
    show setsAt ((xs ++ ys).set i v) (i + 1) vs = setsAt (xs.set i v) (i + 1) vs ++ ys
    rw [List.set_append_left _ _ (by omega)]
    exact setsAt_left vs (xs.set i v) ys (i + 1) (by rw [List.length_set]; omega)
theorem setsAt_right : ∀ (vs xs ys : List Value) (i : Nat), setsAt (xs ++ ys) (xs.length + i) vs = xs ++ setsAt ys i vs
  | [], xs, ys, i => rfl
  | v :: vs, xs, ys, i => by
    show setsAt ((xs ++ ys).set (xs.length + i) v) (xs.length + i + 1) vs = xs ++ setsAt (ys.set i v) (i + 1) vs
    rw [List.set_append_right _ _ (by omega), Nat.add_sub_cancel_left]
    exact setsAt_right vs xs (ys.set i v) (i + 1)
theorem setsAt_whole : ∀ (vs xs : List Value), vs.length = xs.length → setsAt xs 0 vs = vs
  | [], xs, h => (List.eq_nil_of_length_eq_zero h.symm)
  | v :: vs, x :: xs, h => by
    show setsAt (v :: xs) (0 + 1) vs = v :: vs
    have e : setsAt ([v] ++ xs) ([v].length + 0) vs = [v] ++ setsAt xs 0 vs := setsAt_right vs [v] xs 0
    have e2 : setsAt xs 0 vs = vs := setsAt_whole vs xs (by simpa using h)
    rw [e2] at e
    exact e
theorem setsAt_nil : ∀ (vs : List Value) (i : Nat), setsAt [] i vs = []
  | [], i => rfl
  | v :: vs, i => setsAt_nil vs (i + 1)
theorem setsAt_flat {α : Type} {cells : α → List Value} {s : Nat} (hc : ∀ x, (cells x).length = s) (x' : α) : ∀ (l : List α) (k : Nat), setsAt (l.flatMap cells) (k * s) (cells x') = (l.set k x').flatMap cells
  | [], k => by simp [setsAt_nil]
  | a :: t, 0 => by
    rw [List.set_cons_zero, List.flatMap_cons, List.flatMap_cons, Nat.zero_mul, setsAt_left _ _ _ _ (by rw [hc, hc]; omega), setsAt_whole _ _ (by rw [hc, hc])]
  | a :: t, k + 1 => by
    rw [List.set_cons_succ, List.flatMap_cons, List.flatMap_cons, ← setsAt_flat hc x' t k, ← setsAt_right]
    congr 1
    rw [hc, Nat.add_mul, Nat.one_mul, Nat.add_comm]
theorem setsW_block (g : Nat) {q : Nat} (hq : q ≠ g) : ∀ (vs : List Value) (i : Nat) (w : World), (w.setCells g i vs).heap[q]? = w.heap[q]?
  | [], i, w => rfl
  | v :: vs, i, w => (setsW_block g hq vs (i + 1) _).trans (RowKit.Below.heap_setCell _ _ _ _ hq)
theorem setsW_near (g : Nat) (B : Nat) : ∀ (vs : List Value) (i : Nat) (w : World), Near (fun j => j = g) B w (w.setCells g i vs)
  | [], i, w => Near.refl _ _ _
  | v :: vs, i, w => Near.trans (w' := w.setCell ⟨g, i, none⟩ v) ⟨rfl, rfl, rfl, by simp [World.setCell], fun q _ hq => RowKit.Below.heap_setCell _ _ _ _ hq⟩ (setsW_near g B vs (i + 1) (w.setCell ⟨g, i, none⟩ v))
theorem own_sets {w : World} {base e s g n c : Nat} : ∀ (vs : List Value) (i : Nat) {w : World} {xs : List Value}, w.ownsRow base e s (.slice (some ⟨g, 0, none⟩) n c) n xs → (w.setCells g i vs).ownsRow base e s (.slice (some ⟨g, 0, none⟩) n c) n (setsAt xs i vs)
  | [], i, w, xs, h => h
  | v :: vs, i, w, xs, h => own_sets (w := w) vs (i + 1) (h.stored i v).1
theorem row_blk3 {A : Option Addr} {n c q : Nat} : (Value.slice A n c).ownBlock = some q ↔ A.map (·.block) = some q := by cases A <;> exact Iff.rfl
def RowK {α : Type} (cells : α → List Value) (ok : α → Prop) (s : Nat) (e : TypeId) (w : World) (lo : Nat) (A : Option Addr) (n c : Nat) : Prop := ∃ l : List α, l.length = n ∧ (∀ x ∈ l, ok x) ∧ w.ownsRow lo e s (.slice A n c) n (l.flatMap cells)
section
variable {α β : Type} {cells : α → List Value} {ok : α → Prop} {s : Nat} {e : TypeId} {w w' : World} {lo : Nat} {A : Option Addr} {n c : Nat}
theorem RowK.same (h : RowK cells ok s e w lo A n c) (hb : ∀ q, A.map (·.block) = some q → w'.heap[q]? = w.heap[q]?) : RowK cells ok s e w' lo A n c := by
  obtain ⟨l, h1, h2, h3⟩ := h
  exact ⟨l, h1, h2, own_same h3 (fun q hq => hb q (row_blk3.1 hq))⟩
theorem RowK.lt (h : RowK cells ok s e w lo A n c) : ∀ q, A.map (·.block) = some q → lo ≤ q ∧ q < w.heap.size := by
  obtain ⟨l, h1, h2, h3⟩ := h
  exact fun q hq => h3.lt q (row_blk3.2 hq)
theorem RowK.below (h : RowK cells ok s e w lo A n c) (hb : RowKit.Below w.heap.size w w') : RowK cells ok s e w' lo A n c := h.same (fun q hq => hb.block q (h.lt q hq).2)
theorem RowK.type (h : RowK cells ok s e w lo A n c) {q : Nat} (hq : A.map (·.block) = some q) : ∃ cur, w.heap[q]? = some (.cells cur e (0, 0)) := by
  obtain ⟨l, h1, h2, _, h3⟩ := h
  rcases h3 with ⟨h3, _⟩ | ⟨g, cap, cur, hv, _, hh, _⟩
  · simp only [Value.slice.injEq] at h3
    rw [h3.1] at hq; cases hq
  · simp only [Value.slice.injEq] at hv
    rw [hv.1] at hq
    cases hq
    exact ⟨cur, hh⟩
theorem RowK.put (h : RowK cells ok s e w lo A n c) (hc : ∀ x, (cells x).length = s) {x : α} (hx : ok x) (g k : Nat) : RowK cells ok s e (w.setCells g (k * s) (cells x)) lo A n c := by
  by_cases hg : A.map (·.block) = some g
  · obtain ⟨l, h1, h2, h3⟩ := h
    have hA : A = some ⟨g, 0, none⟩ := by
      rcases h3.2 with ⟨h4, _⟩ | ⟨g', cap, cur, hv, _⟩
      · simp only [Value.slice.injEq] at h4
        rw [h4.1] at hg; cases hg
      · simp only [Value.slice.injEq] at hv
        rw [hv.1] at hg ⊢
        cases hg
        rfl
    subst hA
    refine ⟨l.set k x, by rw [List.length_set, h1], fun y hy => ?_, ?_⟩
    · rcases List.mem_or_eq_of_mem_set hy with hy | rfl
      · exact h2 y hy
      · exact hx
    · rw [← setsAt_flat hc]
      exact own_sets (w := w) _ _ h3
  · exact h.same (fun q hq => setsW_block g (fun e => hg (e ▸ hq)) _ _ _)
theorem RowK.other (h : RowK cells ok s e w lo A n c) {g : Nat} {cur : Array Value} {e' : TypeId} (hg : w.heap[g]? = some (.cells cur e' (0, 0))) (he : e ≠ e') (i : Nat) (vs : List Value) : RowK cells ok s e (w.setCells g i vs) lo A n c :=
  h.same (fun q hq => setsW_block g (fun e1 => by
    subst e1
    obtain ⟨cur', h'⟩ := h.type hq
    rw [h'] at hg
    cases hg
    exact he rfl) _ _ _)
end
structure OwnDev (w : World) (lo : Nat) (d : DevV) : Prop where
  b : RowK i64Cells i64ok 1 3 w lo d.bA d.bn d.bc
  r : RowK RuleV.cells RuleV.ok 5 55 w lo d.rA d.rn d.rc
  t : RowK RouteV.cells RouteV.ok 3 71 w lo d.tA d.tn d.tc
structure OwnNet (w : World) (lo : Nat) (n : NetV) : Prop where
  d : w.ownsRow lo 61 7 (.slice n.dA n.dn n.dc) n.dn (n.ds.flatMap DevV.cells)
  len : n.ds.length = n.dn
  l : RowK LinkV.cells LinkV.ok 4 66 w lo n.lA n.ln n.lc
  o : ∀ d ∈ n.ds, OwnDev w lo d
def NetBlk (n : NetV) (j : Nat) : Prop := n.dA.map (·.block) = some j ∨ n.lA.map (·.block) = some j ∨ ∃ d ∈ n.ds, d.bA.map (·.block) = some j ∨ d.rA.map (·.block) = some j ∨ d.tA.map (·.block) = some j
section
variable {w w' : World} {lo : Nat} {d : DevV} {n : NetV}
theorem OwnDev.below (h : OwnDev w lo d) (hb : RowKit.Below w.heap.size w w') : OwnDev w' lo d := ⟨h.b.below hb, h.r.below hb, h.t.below hb⟩
theorem OwnNet.below (h : OwnNet w lo n) (hb : RowKit.Below w.heap.size w w') : OwnNet w' lo n := ⟨own_below h.d hb, h.len, h.l.below hb, fun d hd => (h.o d hd).below hb⟩
end
structure Sp (W : World) (n : NetV) (lo k : Nat) (w : World) : Prop where
  nr : Near (NetBlk n) W.heap.size W w
  nx : Bx w W.heap.size #[.slice n.dA n.dn n.dc, .slice n.lA n.ln n.lc] 25
  d : ∃ ds1 : List DevV, ds1.length = n.dn ∧ (∀ j, k ≤ j → ds1[j]? = n.ds[j]?) ∧ w.ownsRow lo 61 7 (.slice n.dA n.dn n.dc) n.dn (ds1.flatMap DevV.cells)
  l : RowK LinkV.cells LinkV.ok 4 66 w lo n.lA n.ln n.lc
  o : ∀ d ∈ n.ds, OwnDev w lo d
def zRule : RuleV := ⟨false, ⟨0, 0, 0, 0⟩⟩
def zRoute : RouteV := ⟨0, 0, 3⟩
def zLink : LinkV := ⟨0, 0, 0, 0⟩
def zDev : DevV := ⟨⟨#[122]⟩, 1, 7, 0, none, 0, 0, [], none, 0, 0, [], none, 0, 0, []⟩
theorem zRule_ok : zRule.ok := ⟨by decide, by decide, by decide, by decide⟩
theorem zRoute_ok : zRoute.ok := ⟨⟨by decide, by decide⟩, ⟨by decide, by decide⟩, ⟨by decide, by decide⟩⟩
theorem zLink_ok : zLink.ok := ⟨⟨by decide, by decide⟩, ⟨by decide, by decide⟩, ⟨by decide, by decide⟩, ⟨by decide, by decide⟩⟩
section
variable {W w w' : World} {n : NetV} {lo k : Nat}
theorem Sp.below (h : Sp W n lo k w) (hb : RowKit.Below w.heap.size w w') : Sp W n lo k w' := by
  obtain ⟨ds1, h1, h2, h3⟩ := h.d
  exact ⟨h.nr.trans ((Near.of_below hb).mono h.nr.size), h.nx.below hb, ⟨ds1, h1, h2, own_below h3 hb⟩, h.l.below hb, fun d hd => (h.o d hd).below hb⟩
theorem Sp.start (h : OwnNet W lo n) (hb : RowKit.Below W.heap.size W w) (hx : Bx w W.heap.size #[.slice n.dA n.dn n.dc, .slice n.lA n.ln n.lc] 25) : Sp W n lo 0 w :=
  ⟨Near.of_below hb, hx, ⟨n.ds, h.len, fun _ _ => rfl, own_below h.d hb⟩, h.l.below hb, fun d hd => (h.o d hd).below hb⟩
theorem own_type {w : World} {lo e s n c : Nat} {A : Option Addr} {xs : List Value} (h : w.ownsRow lo e s (.slice A n c) n xs) {q : Nat} (hq : A.map (·.block) = some q) : ∃ cur, w.heap[q]? = some (.cells cur e (0, 0)) := by
  rcases h.2 with ⟨h3, _⟩ | ⟨g, cap, cur, hv, _, hh, _⟩
  · simp only [Value.slice.injEq] at h3
    rw [h3.1] at hq; cases hq
  · simp only [Value.slice.injEq] at hv
    rw [hv.1] at hq
    cases hq
    exact ⟨cur, hh⟩
theorem Sp.put {g i e' : Nat} {vs : List Value} (h : Sp W n lo k w) (hlt : ∀ j, NetBlk n j → j < W.heap.size) (hg : NetBlk n g) {cur : Array Value} (hc : w.heap[g]? = some (.cells cur e' (0, 0))) (he : 61 ≠ e')
    (hl : RowK LinkV.cells LinkV.ok 4 66 (w.setCells g i vs) lo n.lA n.ln n.lc) (ho : ∀ d ∈ n.ds, OwnDev (w.setCells g i vs) lo d) : Sp W n lo k (w.setCells g i vs) := by
  obtain ⟨ds1, h1, h2, h3⟩ := h.d
  have hgl := hlt g hg
  refine ⟨h.nr.trans ((setsW_near g _ vs i w).weak (fun j e => e ▸ hg)), h.nx.same (setsW_block g (by omega) _ _ _), ⟨ds1, h1, h2, own_same h3 (fun q hq => setsW_block g (fun e => ?_) _ _ _)⟩, hl, ho⟩
  subst e
  obtain ⟨cur', h'⟩ := own_type h3 (row_blk3.1 hq)
  rw [h'] at hc
  cases hc
  exact he rfl
theorem Sp.putInt {g j c : Nat} (h : Sp W n lo k w) (hlt : ∀ j, NetBlk n j → j < W.heap.size) (hg : NetBlk n g) {cur : Array Value} (hc : w.heap[g]? = some (.cells cur 3 (0, 0))) : Sp W n lo k (w.setCells g j (i64Cells 9)) :=
  h.put hlt hg hc (by decide) (h.l.other hc (by decide) _ _) (fun d hd => ⟨by
    have q := (h.o d hd).b.put i64Cells_len (x := 9) ⟨by decide, by decide⟩ g j
    rw [Nat.mul_one] at q
    exact q, (h.o d hd).r.other hc (by decide) _ _, (h.o d hd).t.other hc (by decide) _ _⟩)
theorem Sp.putRule {g j : Nat} (h : Sp W n lo k w) (hlt : ∀ j, NetBlk n j → j < W.heap.size) (hg : NetBlk n g) {cur : Array Value} (hc : w.heap[g]? = some (.cells cur 55 (0, 0))) : Sp W n lo k (w.setCells g (j * 5) zRule.cells) :=
  h.put hlt hg hc (by decide) (h.l.other hc (by decide) _ _) (fun d hd => ⟨(h.o d hd).b.other hc (by decide) _ _, (h.o d hd).r.put RuleV.len zRule_ok g j, (h.o d hd).t.other hc (by decide) _ _⟩)
theorem Sp.putRoute {g j : Nat} (h : Sp W n lo k w) (hlt : ∀ j, NetBlk n j → j < W.heap.size) (hg : NetBlk n g) {cur : Array Value} (hc : w.heap[g]? = some (.cells cur 71 (0, 0))) : Sp W n lo k (w.setCells g (j * 3) zRoute.cells) :=
  h.put hlt hg hc (by decide) (h.l.other hc (by decide) _ _) (fun d hd => ⟨(h.o d hd).b.other hc (by decide) _ _, (h.o d hd).r.other hc (by decide) _ _, (h.o d hd).t.put RouteV.len zRoute_ok g j⟩)
theorem Sp.putLink {g j : Nat} (h : Sp W n lo k w) (hlt : ∀ j, NetBlk n j → j < W.heap.size) (hg : NetBlk n g) {cur : Array Value} (hc : w.heap[g]? = some (.cells cur 66 (0, 0))) : Sp W n lo k (w.setCells g (j * 4) zLink.cells) :=
  h.put hlt hg hc (by decide) (h.l.put LinkV.len zLink_ok g j) (fun d hd => ⟨(h.o d hd).b.other hc (by decide) _ _, (h.o d hd).r.other hc (by decide) _ _, (h.o d hd).t.other hc (by decide) _ _⟩)
theorem Sp.putDev {g : Nat} (h : Sp W n lo k w) (hlt : ∀ j, NetBlk n j → j < W.heap.size) (hA : n.dA = some ⟨g, 0, none⟩) : Sp W n lo (k + 1) (w.setCells g (k * 7) zDev.cells) := by
  obtain ⟨ds1, h1, h2, h3⟩ := h.d
  have hg : NetBlk n g := .inl (by rw [hA]; rfl)
  have hgl := hlt g hg
  obtain ⟨cur, hc⟩ := own_type h3 (q := g) (by rw [hA]; rfl)
  refine ⟨h.nr.trans ((setsW_near g _ _ _ w).weak (fun j e => e ▸ hg)), h.nx.same (setsW_block g (by omega) _ _ _), ⟨ds1.set k zDev, by rw [List.length_set, h1], fun j hj => ?_, ?_⟩, h.l.other hc (by decide) _ _, fun d hd => ⟨(h.o d hd).b.other hc (by decide) _ _, (h.o d hd).r.other hc (by decide) _ _, (h.o d hd).t.other hc (by decide) _ _⟩⟩
  · rw [List.getElem?_set_ne (by omega)]
    exact h2 j (by omega)
  · rw [hA] at h3 ⊢
    rw [← setsAt_flat DevV.len]
    exact own_sets (w := w) _ _ h3
theorem Sp.dev (h : Sp W n lo k w) {j : Nat} (hj : k ≤ j) {r : DevV} (hr : n.ds[j]? = some r) : ∃ g, n.dA = some ⟨g, 0, none⟩ ∧ w.cell? ⟨g, j * 7, none⟩ = some (.string r.name) ∧ w.cell? ⟨g, j * 7 + 1, none⟩ = some (.int .i64 r.kind) ∧ w.cell? ⟨g, j * 7 + 2, none⟩ = some (.int .i64 r.addr) ∧ w.cell? ⟨g, j * 7 + 3, none⟩ = some (.int .u8 r.pool) ∧
    w.cell? ⟨g, j * 7 + 4, none⟩ = some (.slice r.bA r.bn r.bc) ∧ w.cell? ⟨g, j * 7 + 5, none⟩ = some (.slice r.rA r.rn r.rc) ∧ w.cell? ⟨g, j * 7 + 6, none⟩ = some (.slice r.tA r.tn r.tc) ∧ w.there g (j * 7) 7 := by
  obtain ⟨ds1, h1, h2, h3⟩ := h.d
  have hr1 : ds1[j]? = some r := (h2 j hj).trans hr
  have hjl := (List.getElem?_eq_some_iff.1 hr1).1
  obtain ⟨g, c, e, _⟩ := h3.form (by omega)
  simp only [Value.slice.injEq] at e
  have hs := own_sl DevV.len h3 h1
  rw [e.1] at hs h3
  have hg := dev_get hs hr1
  simp only [Nat.zero_add] at hg
  refine ⟨g, e.1, hg.2.1, hg.2.2.1, hg.2.2.2.1, hg.2.2.2.2.1, hg.2.2.2.2.2.1, hg.2.2.2.2.2.2.1, hg.2.2.2.2.2.2.2, fun i hi => ⟨?_, h3.frozenAt _⟩⟩
  have hl : (ds1.flatMap DevV.cells).length = n.dn * 7 := h3.1
  have hb : j * 7 + i < n.dn * 7 := by
    have : j + 1 ≤ n.dn := by omega
    have := Nat.mul_le_mul_right 7 this
    omega
  rw [h3.cellAt _ hb, List.getElem?_eq_getElem (by omega)]
  rfl
end
section
variable {α : Type} {cells : α → List Value} {ok : α → Prop} {s e : Nat} {w : World} {lo n c : Nat} {A : Option Addr}
theorem own_len {lo e s n c : Nat} {A : Option Addr} {xs : List Value} {w : World} (h : w.ownsRow lo e s (.slice A n c) n xs) : n ≤ maxLen := by
  rcases h.2 with ⟨h3, h4⟩ | ⟨g, cap, cur, hv, _, _, hnc, hcm, _⟩
  · omega
  · omega
theorem RowK.cap (h : RowK cells ok s e w lo A n c) : n ≤ maxLen := by
  obtain ⟨l, _, _, h3⟩ := h
  exact own_len h3
theorem RowK.there (h : RowK cells ok s e w lo A n c) {j : Nat} (hj : j < n) : ∃ g cur, A = some ⟨g, 0, none⟩ ∧ w.heap[g]? = some (.cells cur e (0, 0)) ∧ w.there g (j * s) s := by
  have h0 := h
  obtain ⟨l, h1, h2, h3⟩ := h
  obtain ⟨g, c', e', _⟩ := h3.form (by omega)
  simp only [Value.slice.injEq] at e'
  obtain ⟨cur, hc⟩ := h0.type (q := g) (by rw [e'.1]; rfl)
  rw [e'.1] at h3
  refine ⟨g, cur, e'.1, hc, fun i hi => ⟨?_, h3.frozenAt _⟩⟩
  have hl : (l.flatMap cells).length = n * s := h3.1
  have hb : j * s + i < n * s := by
    have h5 : j + 1 ≤ n := by omega
    have h6 := Nat.mul_le_mul_right s h5
    rw [Nat.add_mul, Nat.one_mul] at h6
    omega
  rw [h3.cellAt _ hb, List.getElem?_eq_getElem (by omega)]
  rfl
end
theorem Try.sizeRule : (Try.prog.info? 55).map (·.size) = some 5 := by kernel_rfl
theorem Try.sizeRoute : (Try.prog.info? 71).map (·.size) = some 3 := by kernel_rfl
theorem Try.sizeLink : (Try.prog.info? 66).map (·.size) = some 4 := by kernel_rfl
theorem Try.sizeDev : (Try.prog.info? 61).map (·.size) = some 7 := by kernel_rfl
theorem OwnNet.blk {W : World} {lo : Nat} {n : NetV} (h : OwnNet W lo n) : ∀ j, NetBlk n j → j < W.heap.size := fun j hj => by
  rcases hj with e | e | ⟨d, hd, e | e | e⟩
  · exact (h.d.lt j (row_blk3.2 e)).2
  · exact (h.l.lt j e).2
  · exact ((h.o d hd).b.lt j e).2
  · exact ((h.o d hd).r.lt j e).2
  · exact ((h.o d hd).t.lt j e).2
theorem spoil_walk (n : NetV) (lo : Nat) (W : World) (h : OwnNet W lo n) :
    Calls Try.prog 9 #[n.val] W fun e W' => e = .returned (.tuple #[]) ∧ Near (NetBlk n) W.heap.size W W' ∧ ∀ d ∈ n.ds, OwnDev W' lo d := by
  have HLT := hide h.blk
  have HLN := hide h.len
  have hd9 := own_len h.d
  have hl9 := h.l.cap
  have HCP := hide (fun d (hd : d ∈ n.ds) => And.intro (h.o d hd).b.cap (And.intro (h.o d hd).r.cap (h.o d hd).t.cap))
  simp only [maxLen] at hd9 hl9 HCP
  have hb0 := below_alloc2 W (.cells #[.slice n.dA n.dn n.dc, .slice n.lA n.ln n.lc] 25)
  have HS := hide (Sp.start h hb0 (Bx.new W _ _))
  clear h hb0
  simp only [NetV.val] at *
  go_enter Try.func9, Try.ntmps9
  go_wp2_with fail
  generalize World.alloc W _ = w0 at *
  go_loopw [11] (fun iv wr => ∃ k : Nat, k ≤ n.dn ∧ iv = .int .i64 (k : Int) ∧ Hid (Sp W n lo k wr)) (fun iv _ => n.dn - (intOf iv).toNat)
  case atStart => exact ⟨0, Nat.zero_le _, rfl, HS⟩
  case round =>
    clear HS
    obtain ⟨k, hk, rfl, HS⟩ := hrel
    by_cases hkl : k < n.dn
    case pos =>
      obtain ⟨r, hr⟩ : ∃ r, n.ds[k]? = some r := ⟨_, List.getElem?_eq_getElem (by have := HLN.out; omega)⟩
      have HR := hide hr
      have HM := hide (List.mem_of_getElem? hr)
      obtain ⟨b1, b2, b3⟩ := HCP.out r HM.out
      obtain ⟨g, hA, q0, q1, q2, q3, q4, q5, q6, _⟩ := HS.out.dev (Nat.le_refl k) hr
      have n0 : wr.cell? ⟨W.heap.size, 0, none⟩ = some (.slice n.dA n.dn n.dc) := HS.out.nx.get 0 _ rfl
      rw [hA] at n0
      have hkI : (k : Int) < (n.dn : Int) := by omega
      clear hr hA
      obtain ⟨nm, kd, ad, pl, bA, bn, bc, bs, rA, rn, rc, rs, tA, tn, tc, ts⟩ := r
      simp only at q0 q1 q2 q3 q4 q5 q6 b1 b2 b3
      have HSX := hide (And.intro (HS.out.below (below_alloc2 wr (.cells #[.string nm, .int .i64 kd, .int .i64 ad, .int .u8 pl, .slice bA bn bc, .slice rA rn rc, .slice tA tn tc] 61))) (Bx.new wr #[.string nm, .int .i64 kd, .int .i64 ad, .int .u8 pl, .slice bA bn bc, .slice rA rn rc, .slice tA tn tc] 61))
      obtain ⟨NX, hNX⟩ : ∃ NX, wr.heap.size = NX := ⟨_, rfl⟩
      have hnx : W.heap.size ≤ NX := by have := HS.out.nr.size; omega
      rw [hNX] at HSX
      clear HS
      have y4 : ∀ o1, o1 = (Obj.cells #[.string nm, .int .i64 kd, .int .i64 ad, .int .u8 pl, .slice bA bn bc, .slice rA rn rc, .slice tA tn tc] 61) → (wr.alloc o1).cell? ⟨NX, 4, none⟩ = some (.slice bA bn bc) := fun o1 e => by subst e; exact HSX.out.2.get 4 _ rfl
      have y4 := y4 _ rfl
      go_wp2_with fail
      go_loopw [22] (fun jv wr => ∃ j : Nat, j ≤ bn ∧ jv = .int .i64 (j : Int) ∧ Hid (Sp W n lo k wr ∧ Bx wr NX #[.string nm, .int .i64 kd, .int .i64 ad, .int .u8 pl, .slice bA bn bc, .slice rA rn rc, .slice tA tn tc] 61)) (fun jv _ => bn - (intOf jv).toNat)
      case atStart => exact ⟨0, Nat.zero_le _, rfl, HSX⟩
      case round =>
        clear HSX
        obtain ⟨j, hj, rfl, HSX⟩ := hrel
        have y4 : wr.cell? ⟨NX, 4, none⟩ = some (.slice bA bn bc) := HSX.out.2.get 4 _ rfl
        by_cases hjl : j < bn
        case pos =>
          obtain ⟨g2, cur, hA2, hc2, hth⟩ := (HSX.out.1.o _ HM.out).b.there hjl
          simp only at hA2
          rw [hA2] at y4
          have hjI : (j : Int) < (bn : Int) := by omega
          have HG := hide (show NetBlk n g2 from .inr (.inr ⟨_, HM.out, .inl (by rw [hA2]; rfl)⟩))
          have HC := hide hc2
          have hne : NX ≠ g2 := by have := HLT.out g2 HG.out; omega
          clear hc2 hA2
          obtain ⟨u, hu⟩ := Option.isSome_iff_exists.1 (hth 0 (by omega)).1
          have hf := (hth 0 (by omega)).2
          rw [Nat.mul_one, Nat.add_zero] at hu hf
          clear hth
          go_wp2_with fail
          go_roundw
          case rel => exact ⟨j + 1, by omega, by go_num, hide ⟨HSX.out.1.putInt (j := j) (c := 0) HLT.out HG.out HC.out, HSX.out.2.same (setsW_block g2 hne (i64Cells 9) j wr)⟩⟩
          case measure => simp [intOf]; omega
        case neg =>
          obtain rfl : bn = j := by omega
          clear hj hjl
          have z5 : wr.cell? ⟨NX, 5, none⟩ = some (.slice rA rn rc) := HSX.out.2.get 5 _ rfl
          go_wp2_with fail
          go_loopw [33] (fun jv wr => ∃ j : Nat, j ≤ rn ∧ jv = .int .i64 (j : Int) ∧ Hid (Sp W n lo k wr ∧ Bx wr NX #[.string nm, .int .i64 kd, .int .i64 ad, .int .u8 pl, .slice bA bn bc, .slice rA rn rc, .slice tA tn tc] 61)) (fun jv _ => rn - (intOf jv).toNat)
          case atStart => exact ⟨0, Nat.zero_le _, rfl, HSX⟩
          case round =>
            clear HSX
            obtain ⟨j, hj, rfl, HSX⟩ := hrel
            have y5 : wr.cell? ⟨NX, 5, none⟩ = some (.slice rA rn rc) := HSX.out.2.get 5 _ rfl
            by_cases hjl : j < rn
            case pos =>
              obtain ⟨g2, cur, hA2, hc2, hth⟩ := (HSX.out.1.o _ HM.out).r.there hjl
              simp only at hA2
              rw [hA2] at y5
              have hjI : (j : Int) < (rn : Int) := by omega
              have HG := hide (show NetBlk n g2 from .inr (.inr ⟨_, HM.out, .inr (.inl (by rw [hA2]; rfl))⟩))
              have HC := hide hc2
              have hne : NX ≠ g2 := by have := HLT.out g2 HG.out; omega
              clear hc2 hA2
              go_wp2_with ((with_reducible show wpList _ _ _ (⟨none, .store 55 (.tmp 40) _, _, _, _, _⟩ :: _) _ _); refine wpList_store_mid rfl 55 (.tmp 40) (.tmp 39) rfl g2 (j * 5) #[.bool false, .int .u16 0, .int .u16 0, .int .u8 0, .int .u8 0] rfl rfl hth Try.sizeRule (by simp [Value.oneCell']) ?_)
              go_roundw
              case rel => exact ⟨j + 1, by omega, by go_num, hide ⟨HSX.out.1.putRule (j := j) HLT.out HG.out HC.out, HSX.out.2.same (setsW_block g2 hne zRule.cells (j * 5) wr)⟩⟩
              case measure => simp [intOf]; omega
            case neg =>
              obtain rfl : rn = j := by omega
              clear hj hjl
              have z6 : wr.cell? ⟨NX, 6, none⟩ = some (.slice tA tn tc) := HSX.out.2.get 6 _ rfl
              go_wp2_with fail
              go_loopw [45] (fun jv wr => ∃ j : Nat, j ≤ tn ∧ jv = .int .i64 (j : Int) ∧ Hid (Sp W n lo k wr ∧ Bx wr NX #[.string nm, .int .i64 kd, .int .i64 ad, .int .u8 pl, .slice bA bn bc, .slice rA rn rc, .slice tA tn tc] 61)) (fun jv _ => tn - (intOf jv).toNat)
              case atStart => exact ⟨0, Nat.zero_le _, rfl, HSX⟩
              case round =>
                clear HSX
                obtain ⟨j, hj, rfl, HSX⟩ := hrel
                have y6 : wr.cell? ⟨NX, 6, none⟩ = some (.slice tA tn tc) := HSX.out.2.get 6 _ rfl
                by_cases hjl : j < tn
                case pos =>
                  obtain ⟨g2, cur, hA2, hc2, hth⟩ := (HSX.out.1.o _ HM.out).t.there hjl
                  simp only at hA2
                  rw [hA2] at y6
                  have hjI : (j : Int) < (tn : Int) := by omega
                  have HG := hide (show NetBlk n g2 from .inr (.inr ⟨_, HM.out, .inr (.inr (by rw [hA2]; rfl))⟩))
                  have HC := hide hc2
                  have hne : NX ≠ g2 := by have := HLT.out g2 HG.out; omega
                  clear hc2 hA2
                  go_wp2_with ((with_reducible show wpList _ _ _ (⟨none, .store 71 (.tmp 52) _, _, _, _, _⟩ :: _) _ _); refine wpList_store_mid rfl 71 (.tmp 52) (.tmp 51) rfl g2 (j * 3) #[.int .i64 0, .int .i64 0, .int .i64 3] rfl rfl hth Try.sizeRoute (by simp [Value.oneCell']) ?_)
                  go_roundw
                  case rel => exact ⟨j + 1, by omega, by go_num, hide ⟨HSX.out.1.putRoute (j := j) HLT.out HG.out HC.out, HSX.out.2.same (setsW_block g2 hne zRoute.cells (j * 3) wr)⟩⟩
                  case measure => simp [intOf]; omega
                case neg =>
                  obtain rfl : tn = j := by omega
                  clear hj hjl
                  obtain ⟨g, hA, _, _, _, _, _, _, _, hth⟩ := HSX.out.1.dev (Nat.le_refl k) HR.out
                  have n0 : wr.cell? ⟨W.heap.size, 0, none⟩ = some (.slice n.dA n.dn n.dc) := HSX.out.1.nx.get 0 _ rfl
                  rw [hA] at n0
                  have HA := hide hA
                  clear hA
                  go_wp2_with ((with_reducible show wpList _ _ _ (⟨none, .store 61 (.tmp 58) _, _, _, _, _⟩ :: _) _ _); refine wpList_store_mid rfl 61 (.tmp 58) (.tmp 57) rfl g (k * 7) #[.string ⟨#[122]⟩, .int .i64 1, .int .i64 7, .int .u8 0, .slice none 0 0, .slice none 0 0, .slice none 0 0] rfl rfl hth Try.sizeDev (by simp [Value.oneCell']) ?_)
                  go_roundw
                  case rel => exact ⟨k + 1, by omega, by go_num, hide (HSX.out.1.putDev HLT.out HA.out)⟩
                  case measure => simp [intOf]; omega
    case neg =>
      obtain rfl : k = n.dn := by omega
      have n1 : wr.cell? ⟨W.heap.size, 1, none⟩ = some (.slice n.lA n.ln n.lc) := HS.out.nx.get 1 _ rfl
      clear hk hkl
      go_wp2_with fail
      clear n1
      go_loopw [63] (fun jv wr => ∃ j : Nat, j ≤ n.ln ∧ jv = .int .i64 (j : Int) ∧ Hid (Sp W n lo n.dn wr)) (fun jv _ => n.ln - (intOf jv).toNat)
      case atStart => exact ⟨0, Nat.zero_le _, rfl, HS⟩
      case round =>
        clear HS
        obtain ⟨j, hj, rfl, HS⟩ := hrel
        have n1 : wr.cell? ⟨W.heap.size, 1, none⟩ = some (.slice n.lA n.ln n.lc) := HS.out.nx.get 1 _ rfl
        by_cases hjl : j < n.ln
        case pos =>
          obtain ⟨g2, cur, hA2, hc2, hth⟩ := HS.out.l.there hjl
          rw [hA2] at n1
          have hjI : (j : Int) < (n.ln : Int) := by omega
          have HG := hide (show NetBlk n g2 from .inr (.inl (by rw [hA2]; rfl)))
          have HC := hide hc2
          clear hc2 hA2
          go_wp2_with ((with_reducible show wpList _ _ _ (⟨none, .store 66 (.tmp 70) _, _, _, _, _⟩ :: _) _ _); refine wpList_store_mid rfl 66 (.tmp 70) (.tmp 69) rfl g2 (j * 4) #[.int .i64 0, .int .i64 0, .int .i64 0, .int .i64 0] rfl rfl hth Try.sizeLink (by simp [Value.oneCell']) ?_)
          go_roundw
          case rel => exact ⟨j + 1, by omega, by go_num, hide (HS.out.putLink (j := j) HLT.out HG.out HC.out)⟩
          case measure => simp [intOf]; omega
        case neg =>
          have HF := hide (And.intro HS.out.nr HS.out.o)
          clear HS
          go_wp2
          go_end0
          exact ⟨rfl, HF.out.1, HF.out.2⟩
def BoxV (w : World) (N : Nat) (vs : Array Value) : Prop := (∀ (j : Nat) (v : Value), vs[j]? = some v → w.cell? ⟨N, j, none⟩ = some v) ∧ ∀ o, w.frozen? ⟨N, o, none⟩ = false
theorem BoxV.of_block {w : World} {N : Nat} {vs : Array Value} {t : TypeId} (h : w.heap[N]? = some (.cells vs t)) : BoxV w N vs :=
  ⟨fun j v hv => by rw [cell_of_row _ _ _ _ _ _ h]; exact hv, fun o => by unfold World.frozen?; simp only [h]; simp⟩
theorem BoxV.new (w : World) (vs : Array Value) (t : TypeId) : BoxV (w.alloc (.cells vs t)) w.heap.size vs := BoxV.of_block (heap_alloc_new w _)
theorem BoxV.below {w w' : World} {B N : Nat} {vs : Array Value} (h : BoxV w N vs) (hB : Below B w w') (hN : N < B) : BoxV w' N vs :=
  ⟨fun j v hv => (hB.cell (p := ⟨N, j, none⟩) hN).trans (h.1 j v hv), fun o => (hB.frozen (p := ⟨N, o, none⟩) hN).trans (h.2 o)⟩
theorem BoxV.set {w : World} {N : Nat} {vs : Array Value} (h : BoxV w N vs) (j : Nat) (v : Value) : BoxV (w.setCell ⟨N, j, none⟩ v) N (vs.setIfInBounds j v) := by
  refine ⟨fun i u hu => ?_, fun o => by rw [World.frozen?_setCell]; exact h.2 o⟩
  by_cases e : j = i
  · subst e
    rw [Array.getElem?_setIfInBounds_self] at hu
    split at hu
    · rename_i hj
      cases hu
      exact World.cell?_setCell_same _ _ _ (h.1 j _ (Array.getElem?_eq_getElem hj))
    · cases hu
  · rw [Array.getElem?_setIfInBounds_ne e] at hu
    rw [World.cell?_setCell_other _ _ _ _ (by simp [Ne.symm e])]
    exact h.1 i u hu
theorem BoxV.far {w : World} {N : Nat} {vs : Array Value} (h : BoxV w N vs) (a : Addr) (v : Value) (hne : a.block ≠ N) : BoxV (w.setCell a v) N vs := by
  refine ⟨fun i u hu => ?_, fun o => by rw [World.frozen?_setCell]; exact h.2 o⟩
  rw [World.cell?_setCell_other _ _ _ _ (by intro e; apply hne; rw [e])]
  exact h.1 i u hu
theorem BoxV.there {w : World} {N : Nat} {vs : Array Value} (h : BoxV w N vs) {n : Nat} (hn : n ≤ vs.size) : w.there N 0 n := fun j hj =>
  ⟨by rw [Nat.zero_add, h.1 j _ (Array.getElem?_eq_getElem (by omega))]; rfl, h.2 _⟩
theorem BoxV.all {w : World} {N : Nat} {vs : Array Value} (h : BoxV w N vs) (cs : List Value) (hl : cs.length = vs.size) : BoxV (w.setCells N 0 cs) N cs.toArray :=
  ⟨fun j v hv => by
    have := World.rangeAt_setCells_same w N 0 cs (h.there (by omega)) j v (by simpa using hv)
    rwa [Nat.zero_add] at this, fun o => by rw [World.frozen?_setCells]; exact h.2 o⟩
theorem below_setCells {B N : Nat} {a : World} (hN : B ≤ N) : ∀ (cs : List Value) (o : Nat) (w : World), Below B a w → Below B a (w.setCells N o cs)
  | [], _, _, h => h
  | v :: r, o, w, h => below_setCells hN r (o + 1) _ (h.setCell (by exact hN) v)
theorem boxesB : ∀ (l : List (Array Value × TypeId)) (W : World) (i : Nat) c t, l[i]? = some (c, t) → (l.foldl (fun w x => w.alloc (.cells x.1 x.2)) W).heap[W.heap.size + i]? = some (.cells c t) := by
  intro l
  induction l with
  | nil => intro W i c t h; simp at h
  | cons x l ih =>
    intro W i c t h
    have hz : (W.alloc (.cells x.1 x.2)).heap.size = W.heap.size + 1 := by simp
    simp only [List.foldl_cons]
    cases i with
    | zero =>
      cases h
      obtain ⟨_, hb, _⟩ := boxesL l (W.alloc (.cells c t)) (Below.refl _ _)
      rw [hz] at hb
      rw [Nat.add_zero, hb.block _ (Nat.lt_succ_self _)]
      exact heap_alloc_new W _
    | succ i =>
      have := ih (W.alloc (.cells x.1 x.2)) i c t (by simpa using h)
      rw [hz] at this
      rw [show W.heap.size + (i + 1) = W.heap.size + 1 + i by omega]
      exact this
theorem boxesV (l : List (Array Value × TypeId)) (W : World) {W' : World} {B : Nat} (hb : Below B (l.foldl (fun w x => w.alloc (.cells x.1 x.2)) W) W') :
    (∀ (i : Nat) c t, l[i]? = some (c, t) → W.heap.size + i < B → BoxV W' (W.heap.size + i) c) ∧ (W.heap.size ≤ B → Below W.heap.size W W') := by
  refine ⟨fun i c t hi hB => BoxV.of_block (t := t) ((hb.block _ hB).trans (boxesB l W i c t hi)), fun hB => ?_⟩
  obtain ⟨_, h2, _⟩ := boxesL l W (Below.refl _ _)
  exact h2.trans (hb.mono hB)
theorem BoxV.near {w w' : World} {p : Nat → Prop} {B N : Nat} {vs : Array Value} (h : BoxV w N vs) (hB : Near p B w w') (hN : N < B) (hp : ¬ p N) : BoxV w' N vs :=
  ⟨fun j v hv => (hB.cell (a := ⟨N, j, none⟩) hN hp).trans (h.1 j v hv), fun o => (hB.frozen (a := ⟨N, o, none⟩) hN hp).trans (h.2 o)⟩
theorem info_gone : (Try.prog.info? 110).map (·.size) = some 6 := by kernel_rfl
def goneV (port : Int) (q : P4) (v : Value) : Value := .agg #[.int .i64 port, .int .i64 q.src, .int .i64 q.dst, .int .i64 q.sport, .int .i64 q.dport, v]
structure Same (L B : Nat) (w w' : World) : Prop where
  size : w.heap.size ≤ w'.heap.size
  blk : ∀ K, L ≤ K → K < B → w'.heap[K]? = w.heap[K]?
theorem Same.of_below {L B : Nat} {w w' : World} (h : Below B w w') : Same L B w w' := ⟨h.size, fun K _ hK => h.block K hK⟩
theorem Same.mono {L B B' : Nat} {w w' : World} (h : Same L B w w') (hB : B' ≤ B) : Same L B' w w' := ⟨h.size, fun K h1 h2 => h.blk K h1 (by omega)⟩
theorem Same.trans {L B : Nat} {w w' w'' : World} (h : Same L B w w') (k : Same L B w' w'') : Same L B w w'' := ⟨Nat.le_trans h.size k.size, fun K h1 h2 => (k.blk K h1 h2).trans (h.blk K h1 h2)⟩
theorem BoxV.sameL {w w' : World} {L B N : Nat} {vs : Array Value} (h : BoxV w N vs) (hs : Same L B w w') (hL : L ≤ N) (hN : N < B) : BoxV w' N vs :=
  ⟨fun j v hv => (World.cell?_of_block (a := ⟨N, j, none⟩) (hs.blk N hL hN)).trans (h.1 j v hv), fun o => (World.frozen?_of_block (a := ⟨N, o, none⟩) (hs.blk N hL hN)).trans (h.2 o)⟩
theorem setCells_blk {L N : Nat} (hN : N < L) : ∀ (cs : List Value) (o : Nat) (w : World), w.heap.size ≤ (w.setCells N o cs).heap.size ∧ ∀ K, L ≤ K → (w.setCells N o cs).heap[K]? = w.heap[K]?
  | [], _, w => ⟨Nat.le_refl _, fun _ _ => rfl⟩
  | v :: r, o, w => by
    obtain ⟨h1, h2⟩ := setCells_blk hN r (o + 1) (w.setCell ⟨N, o, none⟩ v)
    refine ⟨by simpa [World.setCell, World.setCells] using h1, fun K hK => ?_⟩
    rw [World.setCells, h2 K hK]
    exact Below.heap_setCell _ _ _ _ (by show K ≠ N; omega)
theorem same_setCells {L B N : Nat} (hN : N < L) (cs : List Value) (w : World) : Same L B w (w.setCells N 0 cs) :=
  ⟨(setCells_blk hN cs 0 w).1, fun K hK _ => (setCells_blk hN cs 0 w).2 K hK⟩
def KnowAt (L : Nat) (w : World) (g : Nat) (n : NetV) (f o b : Nat) (v : Value) (kn : Know) : Prop :=
  (kn = .nothing ∧ v = .nilFunc) ∨ (∃ F cap, v = .func (.func F) #[] cap ∧ (∀ (args : Array Value) (w' : World), (callFunc F args).run Try.prog w' = .ok (.enter F args) w') ∧ ∀ (M : MemS) (k : Nat) (w' : World), Same L w.heap.size w w' → MemAt w' g n f o b M k → k < 1000000 →
    Calls Try.prog F cap w' fun e w'' => e = .returned (.tuple #[]) ∧ MemAt w'' g n f o b (M.learn kn) (k + 1) ∧ Near (Is3 f o b) w'.heap.size w' w'')
theorem KnowAt.later {L L' : Nat} {w w' : World} {g : Nat} {n : NetV} {f o b : Nat} {v : Value} {kn : Know} (h : KnowAt L w g n f o b v kn) (hb : Same L w.heap.size w w') (hL : L' ≤ L) : KnowAt L' w' g n f o b v kn := by
  rcases h with h | ⟨F, cap, e, he, h⟩
  · exact .inl h
  · exact .inr ⟨F, cap, e, he, fun M k w'' hb' => h M k w'' (hb.trans ⟨hb'.size, fun K h1 h2 => hb'.blk K (by omega) (by have := hb.size; omega)⟩)⟩
theorem KnowAt.one {L : Nat} {w : World} {g : Nat} {n : NetV} {f o b : Nat} {v : Value} {kn : Know} (h : KnowAt L w g n f o b v kn) : v.oneCell' = true := by
  rcases h with ⟨_, rfl⟩ | ⟨F, cap, rfl, _⟩ <;> rfl
theorem one6 {a b c d e : Int} {v : Value} (h : v.oneCell' = true) : (#[.int .i64 a, .int .i64 b, .int .i64 c, .int .i64 d, .int .i64 e, v] : Array Value).all (·.oneCell') = true := by
  have hi : ∀ k n, (Value.int k n).oneCell' = true := fun _ _ => rfl
  simp [hi, h]
theorem fire1_enters : ∀ (args : Array Value) (w' : World), (callFunc 70 args).run Try.prog w' = .ok (.enter 70 args) w' := enters_of Try.func70 (by kernel_rfl) rfl
theorem nat1_enters : ∀ (args : Array Value) (w' : World), (callFunc 73 args).run Try.prog w' = .ok (.enter 73 args) w' := enters_of Try.func73 (by kernel_rfl) rfl
theorem bal1_enters : ∀ (args : Array Value) (w' : World), (callFunc 74 args).run Try.prog w' = .ok (.enter 74 args) w' := enters_of Try.func74 (by kernel_rfl) rfl
theorem fire1_walk (g : Nat) (n : NetV) (f o b : Nat) (M : MemS) (k : Nat) (A C D : Nat) (i y : Int) (p : P4) (w : World) (hM : MemAt w g n f o b M k) (hk : k < 1000000) (hA : BoxV w A #[.pointer (some ⟨g, 0, none⟩)]) (hC : BoxV w C #[.int .i64 i, .int .i64 y])
    (hD : BoxV w D #[.int .i64 p.src, .int .i64 p.dst, .int .i64 p.sport, .int .i64 p.dport]) (hi : i64ok i) (hp : p.ok) :
    Calls Try.prog 70 #[.pointer (some ⟨A, 0, none⟩), .pointer (some ⟨C, 0, none⟩), .pointer (some ⟨D, 0, none⟩)] w fun e w' => e = .returned (.tuple #[]) ∧ MemAt w' g n f o b (M.learn (.flow (i, p))) (k + 1) ∧ Near (Is3 f o b) w.heap.size w w' := by
  obtain ⟨w', hrun, hM', hN⟩ := (hM.below (Below.refl _ _).drew).flow hk (i, p) ⟨hi, hp⟩
  have H1 := hide hM'
  have H2 := hide (show Near (Is3 f o b) w.heap.size w w' from (Near.of_below (Below.refl _ _).drew).trans hN)
  have c2 := hM.c2
  have a0 := hA.1 0 _ rfl
  have b0 := hC.1 0 _ rfl
  have p0 := hD.1 0 _ rfl
  have p1 := hD.1 1 _ rfl
  have p2 := hD.1 2 _ rfl
  have p3 := hD.1 3 _ rfl
  clear hM' hN hM hA hC hD hi hp hk
  simp only [ofVal] at hrun
  go_enter Try.func70, Try.ntmps70
  go_still_tail 8, (by kernel_rfl)
  go_wp2
  go_end0
  exact ⟨rfl, H1.out, H2.out⟩
theorem nat1_walk (g : Nat) (n : NetV) (f o b : Nat) (M : MemS) (k : Nat) (E A C D : Nat) (i y x : Int) (u : Int × Int) (w : World) (hM : MemAt w g n f o b M k) (hk : k < 1000000) (hE : BoxV w E #[.int .i64 u.1, .int .i64 u.2]) (hA : BoxV w A #[.pointer (some ⟨g, 0, none⟩)]) (hC : BoxV w C #[.int .i64 i, .int .i64 y])
    (hD : BoxV w D #[.int .i64 x]) (hi : i64ok i) (hx : i64ok x) (hu : i64ok u.1 ∧ i64ok u.2) :
    Calls Try.prog 73 #[.pointer (some ⟨E, 0, none⟩), .pointer (some ⟨A, 0, none⟩), .pointer (some ⟨C, 0, none⟩), .pointer (some ⟨D, 0, none⟩)] w fun e w' => e = .returned (.tuple #[]) ∧ MemAt w' g n f o b (M.learn (.owner (i, x) u)) (k + 1) ∧ Near (Is3 f o b) w.heap.size w w' := by
  obtain ⟨w', hrun, hM', hN⟩ := (hM.below (Below.refl _ _).drew).owner hk (i, x) ⟨hi, hx⟩ u hu
  have H1 := hide hM'
  have H2 := hide (show Near (Is3 f o b) w.heap.size w w' from (Near.of_below (Below.refl _ _).drew).trans hN)
  have c3 := hM.c3
  have a0 := hA.1 0 _ rfl
  have b0 := hC.1 0 _ rfl
  have p0 := hD.1 0 _ rfl
  have e0 := hE.1 0 _ rfl
  have e1 := hE.1 1 _ rfl
  clear hM' hN hM hA hC hD hi hx hk hE hu
  simp only [poVal, ownV] at hrun
  go_enter Try.func73, Try.ntmps73
  go_still_tail 9, (by kernel_rfl)
  go_wp2
  go_end0
  exact ⟨rfl, H1.out, H2.out⟩
theorem bal1_walk (g : Nat) (n : NetV) (f o b : Nat) (M : MemS) (k : Nat) (E A C D : Nat) (i y u : Int) (p : P4) (w : World) (hM : MemAt w g n f o b M k) (hk : k < 1000000) (hE : BoxV w E #[.int .i64 u]) (hA : BoxV w A #[.pointer (some ⟨g, 0, none⟩)]) (hC : BoxV w C #[.int .i64 i, .int .i64 y])
    (hD : BoxV w D #[.int .i64 p.src, .int .i64 p.dst, .int .i64 p.sport, .int .i64 p.dport]) (hi : i64ok i) (hp : p.ok) (hu : i64ok u) :
    Calls Try.prog 74 #[.pointer (some ⟨E, 0, none⟩), .pointer (some ⟨A, 0, none⟩), .pointer (some ⟨C, 0, none⟩), .pointer (some ⟨D, 0, none⟩)] w fun e w' => e = .returned (.tuple #[]) ∧ MemAt w' g n f o b (M.learn (.back (i, p) u)) (k + 1) ∧ Near (Is3 f o b) w.heap.size w w' := by
  obtain ⟨w', hrun, hM', hN⟩ := (hM.below (Below.refl _ _).drew).back hk (i, p) ⟨hi, hp⟩ u hu
  have H1 := hide hM'
  have H2 := hide (show Near (Is3 f o b) w.heap.size w w' from (Near.of_below (Below.refl _ _).drew).trans hN)
  have c4 := hM.c4
  have a0 := hA.1 0 _ rfl
  have b0 := hC.1 0 _ rfl
  have p0 := hD.1 0 _ rfl
  have p1 := hD.1 1 _ rfl
  have p2 := hD.1 2 _ rfl
  have p3 := hD.1 3 _ rfl
  have e0 := hE.1 0 _ rfl
  clear hM' hN hM hA hC hD hi hp hk hE hu
  simp only [ofVal] at hrun
  go_enter Try.func74, Try.ntmps74
  go_still_tail 9, (by kernel_rfl)
  go_wp2
  go_end0
  exact ⟨rfl, H1.out, H2.out⟩
end Go.Proofs.Ytifkacnoiocebaa
