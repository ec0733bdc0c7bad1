/- G6: AclBuild AclEq Del Dead IntSl DeadLaw OwnMore NeedPure Needless. -/
import Derived.Test.YtohbafigjpoijaaDoorG3
import Derived.Test.YtohbafigjpoijaaDoorG1
import Derived.Test.YtohbafigjpoijaaDoorG5
import Derived.Deep.RegionLaw
import Derived.Deep.Upon
import Derived.Lib.SliceRun
import Derived.Laws.IdiomCopy
import Derived.Test.YtohbafigjpoijaaDoorG4
/- acl.Check, acl.Build -/
set_option linter.unusedVariables false
set_option linter.unusedSimpArgs false
namespace Go.Proofs.YtohbafigjpoijaaDoor
open Go.RowKit Go.Maps Bdd

def ruleL (r : RuleV) : List PartV := partL r.m.src r.m.dst r.m.sport r.m.dport
def aclF : List RuleV → Bdd.Fn
  | [] => fun _ => false
  | r :: l => iteF (outs (ruleL r)) (fun _ => r.permit) (aclF l)
theorem aclF_drop {l : List RuleV} {k : Nat} {r : RuleV} (h : l[k]? = some r) : aclF (l.drop k) = iteF (outs (ruleL r)) (fun _ => r.permit) (aclF (l.drop (k + 1))) := by
  obtain ⟨hk, e⟩ := List.getElem?_eq_some_iff.1 h
  rw [List.drop_eq_getElem_cons hk, e]; rfl

set_option maxRecDepth 100000 in
theorem aclCheck_walk (A : Option Addr) (n c : Nat) (W : World) : Calls Tryd.prog 93 #[.slice A n c] W fun e W' => e = .returned (.int .i64 (if 8 < n then 2 else 0)) ∧ W = W' := by
  by_cases h : 8 < n
  · have h8 : decide ((8 : Int) < (n : Int)) = true := by simp; omega
    rw [if_pos h]
    go_enter Tryd.func93, Tryd.ntmps93
    go_wp2
    go_ret
    exact ⟨rfl, rfl⟩
  · have h8 : decide ((8 : Int) < (n : Int)) = false := by simp; omega
    rw [if_neg h]
    go_enter Tryd.func93, Tryd.ntmps93
    go_wp2
    go_ret
    exact ⟨rfl, rfl⟩

end Go.Proofs.YtohbafigjpoijaaDoor

/- Lists of rules as functions; packet.within; bdd.New with a bad bound. -/
set_option linter.unusedVariables false
set_option linter.unusedSimpArgs false
namespace Go.Proofs.YtohbafigjpoijaaDoor
open Go.RowKit Go.Maps Bdd

theorem inB_pk (m : M4) (c : Nat) (hm : m.ok) (hc : c < 16384) : inB m (pk c) = hasAllB m.src m.dst m.sport m.dport (c / 1024) (c / 64 % 16) (c / 8 % 8) (c % 8) := by
  have e : ∀ (s k : Nat), k < 16 → hasB s (k : Int) = s.testBit k := fun s k hk => by
    have h : (k : Int) < 16 := by omega
    simp [hasB, h]
  simp only [inB, pk, hasAllB]
  rw [e _ _ (by omega), e _ _ (by omega), e _ _ (by omega), e _ _ (by omega)]

theorem aclF_lets (l : List RuleV) (hl : ∀ r ∈ l, r.ok) (c : Nat) (hc : c < 16384) : aclF l (asgOf c) = letsB l (pk c) := by
  induction l with
  | nil => rfl
  | cons r l ih =>
    have h1 := ih (fun x hx => hl x (by simp [hx]))
    have h2 : outs (ruleL r) (asgOf c) = inB r.m (pk c) := by rw [ruleL, outs_has _ _ _ _ c hc, inB_pk r.m c (hl r (by simp)) hc]
    simp only [aclF, iteF, h2, h1, letsB, List.find?_cons]
    cases inB r.m (pk c) <;> rfl

theorem within_walk (n m : Int) (W : World) (B : Bool) (h : (decide (0 ≤ n) && decide (n < m)) = B) : Calls Tryd.prog 42 #[.int .i64 n, .int .i64 m] W fun e W' => e = .returned (.bool B) ∧ W = W' := by
  cases h1 : decide (0 ≤ n)
  · have e1 : ¬ 0 ≤ n := by simpa using h1
    have HF := hide (show false = B by rw [← h, h1]; rfl)
    clear h
    go_enter Tryd.func42, Tryd.ntmps42
    go_wp2
    go_ret
    exact ⟨ret_bool HF.out, rfl⟩
  · have HF := hide (show decide (n < m) = B by rw [← h, h1]; rfl)
    clear h
    go_enter Tryd.func42, Tryd.ntmps42
    go_wp2
    go_ret
    exact ⟨ret_bool HF.out, rfl⟩

def xorF (F G : Bdd.Fn) : Bdd.Fn := iteF F (iteF G (fun _ => false) (fun _ => true)) G
theorem xorF_at (F G : Bdd.Fn) (x : Asg) : xorF F G x = (F x != G x) := by
  simp only [xorF, iteF]; cases F x <;> cases G x <;> rfl

end Go.Proofs.YtohbafigjpoijaaDoor

/- slices.Delete of one rule, out of a row of the call's own. -/
set_option linter.unusedVariables false
set_option linter.unusedSimpArgs false
namespace Go.Proofs.YtohbafigjpoijaaDoor
open Go.RowKit Go.Maps Bdd

def zeroRule : List Value := [.bool false, .int .u16 0, .int .u16 0, .int .u8 0, .int .u8 0]
theorem zeroRuleRun (w : World) : (zeroValue 105).run Tryd.prog w = .ok (.agg #[.bool false, .int .u16 0, .int .u16 0, .int .u8 0, .int .u8 0]) w := by kernel_rfl

theorem run_clear_rule (w : World) (ty : TypeId) (b o c : Nat) (hc : ∀ j, j < 5 → (w.cell? ⟨b, o + j, none⟩).isSome = true) (hf : ∀ j, j < 5 → w.frozen? ⟨b, o + j, none⟩ = false) :
    (Builtin.clear_ #[68] ty #[.slice (some ⟨b, o, none⟩) 1 c]).run Tryd.prog w = .ok (.tuple #[]) (w.setCells b o zeroRule) := by
  have hst := run_storeCells_cells (P := Tryd.prog) b o zeroRule 0 w (by simpa [zeroRule] using hc) (by simpa [zeroRule] using hf) (by intro v hv; simp only [zeroRule, List.mem_cons, List.not_mem_nil, or_false] at hv; rcases hv with rfl | rfl | rfl | rfl | rfl <;> rfl)
  simp only [Nat.add_zero] at hst
  have hz : (Builtin.zeroCells (Value.agg #[.bool false, .int .u16 0, .int .u16 0, .int .u8 0, .int .u8 0]).cells 1).toList = zeroRule := by kernel_rfl
  simp [Builtin.clear_, run_underlying Tryd.underlying68, zeroRuleRun, hz, hst]

/-- A row of rules of the call's own: block g, n rules of cap. -/
structure RowAt (w : World) (g n cap : Nat) (l : List RuleV) : Prop where
  len : l.length = n
  le : n ≤ cap
  cell : ∀ k r, l[k]? = some r → ∀ j v, r.cells[j]? = some v → w.cell? ⟨g, k * 5 + j, none⟩ = some v
  fr : ∀ o, w.frozen? ⟨g, o, none⟩ = false
  max : cap ≤ 9223372036854775807

theorem RowAt.of_own {w : World} {base n : Nat} {v : Value} {l : List RuleV} (h : w.ownsRow base 105 5 v n (l.flatMap RuleV.cells)) (hl : l.length = n) (hn : 0 < n) : ∃ g cap, v = .slice (some ⟨g, 0, none⟩) n cap ∧ base ≤ g ∧ g < w.heap.size ∧ RowAt w g n cap l := by
  rcases h.2 with ⟨_, h0⟩ | ⟨g, cap, cur, hv, hb, hh, hnc, hcm, hcs, _⟩
  · omega
  · subst hv
    refine ⟨g, cap, rfl, hb, (Array.getElem?_eq_some_iff.1 hh).1, ⟨hl, hnc, fun k r hr j u hu => ?_, fun o => by unfold World.frozen?; rw [hh]; simp, by unfold maxLen at hcm; exact hcm⟩⟩
    have := h.cells (g := g) rfl (k * 5 + j) u (flat_get RuleV.len l k r j u hr hu)
    rw [addr_add, Nat.zero_add] at this
    exact this

theorem eraseIdx_get {α : Type} (l : List α) (i k : Nat) : (l.eraseIdx i)[k]? = if k < i then l[k]? else l[k + 1]? := List.getElem?_eraseIdx ..

def DelP (w : World) (g n cap i : Nat) (l : List RuleV) (e : Ending) (W' : World) : Prop :=
  e = .returned (.slice (some ⟨g, 0, none⟩) (n - 1) cap) ∧ Frm (fun k => k = g) w W' ∧ ∀ k r, (l.eraseIdx i)[k]? = some r → RuleAt W' g (k * 5) r

theorem row_get {w : World} {g n cap : Nat} {l : List RuleV} (h : RowAt w g n cap l) {q : Nat} (hq : q < n * 5) : (w.cell? ⟨g, q, none⟩).isSome = true := by
  have hk : q / 5 < l.length := by rw [h.len]; omega
  have := h.cell (q / 5) l[q / 5] (List.getElem?_eq_getElem hk) (q % 5) (l[q / 5].cells[q % 5]'(by rw [RuleV.len]; omega)) (List.getElem?_eq_getElem _)
  rw [show q / 5 * 5 + q % 5 = q by omega] at this
  rw [this]; rfl

theorem frm_setCells (w : World) (g o : Nat) (vs : List Value) : Frm (fun k => k = g) w (w.setCells g o vs) ∧ (w.setCells g o vs).heap.size = w.heap.size := by
  induction vs generalizing w o with
  | nil => exact ⟨Frm.refl _ _, rfl⟩
  | cons v vs ih =>
    obtain ⟨h1, h2⟩ := ih (w.setCell ⟨g, o, none⟩ v) (o + 1)
    have h0 : Frm (fun k => k = g) w (w.setCell ⟨g, o, none⟩ v) := Frm.setCell (S := fun k => k = g) (p := ⟨g, o, none⟩) rfl v
    exact ⟨h0.trans h1 (fun _ _ h => h), h2.trans (by simp [World.setCell])⟩

/-- The plain side: the rules from i + 1 on moved down, and the last one cleared. -/
theorem del_cells {w : World} {g n cap i : Nat} {l : List RuleV} (h : RowAt w g n cap l) (hi : i < n) :
    ∀ k r, (l.eraseIdx i)[k]? = some r → RuleAt ((w.setCells g (i * 5) ((l.drop (i + 1)).flatMap RuleV.cells)).setCells g ((n - 1) * 5) zeroRule) g (k * 5) r := by
  intro k r hr
  have hnl : ((l.drop (i + 1)).flatMap RuleV.cells).length = (n - 1 - i) * 5 := by rw [flat_length RuleV.len, List.length_drop, h.len]; congr 1; omega
  have hk : k < n - 1 := by
    have := (List.getElem?_eq_some_iff.1 hr).1
    rw [List.length_eraseIdx, h.len, if_pos hi] at this
    exact this
  have hz : zeroRule.length = 5 := rfl
  rw [eraseIdx_get] at hr
  have key : ∀ j u, r.cells[j]? = some u → ((w.setCells g (i * 5) ((l.drop (i + 1)).flatMap RuleV.cells)).setCells g ((n - 1) * 5) zeroRule).cell? ⟨g, k * 5 + j, none⟩ = some u := fun j u hu => by
    have hj : j < 5 := by have := (List.getElem?_eq_some_iff.1 hu).1; rw [RuleV.len] at this; exact this
    rw [World.cell?_setCells_out g zeroRule _ _ _ (fun _ _ => .inl (by show k * 5 + j < (n - 1) * 5; omega))]
    by_cases hki : k < i
    · rw [if_pos hki] at hr
      rw [World.cell?_setCells_out g _ _ _ _ (fun _ _ => .inl (by show k * 5 + j < i * 5; omega))]
      exact h.cell k r hr j u hu
    · rw [if_neg hki] at hr
      have hget : ((l.drop (i + 1)).flatMap RuleV.cells)[(k - i) * 5 + j]? = some u := flat_get RuleV.len _ (k - i) r j u (by rw [List.getElem?_drop, show i + 1 + (k - i) = k + 1 by omega]; exact hr) hu
      obtain ⟨hlt, he⟩ := List.getElem?_eq_some_iff.1 hget
      have := World.cell?_setCells_in g ((l.drop (i + 1)).flatMap RuleV.cells) (i * 5) w (fun q hq => row_get h (by rw [hnl] at hq; omega)) ((k - i) * 5 + j) hlt
      rw [show i * 5 + ((k - i) * 5 + j) = k * 5 + j by omega, he] at this
      exact this
  exact ⟨key 0 _ rfl, key 1 _ rfl, key 2 _ rfl, key 3 _ rfl, key 4 _ rfl⟩

end Go.Proofs.YtohbafigjpoijaaDoor

/- acl.Dead. -/
set_option linter.unusedVariables false
set_option linter.unusedSimpArgs false
namespace Go.Proofs.YtohbafigjpoijaaDoor
open Go.RowKit Go.Maps Bdd

/-- The numbers below k of the rules without which the list's function is the same. -/
def DeadTo (l : List RuleV) (k : Nat) (dl : List Nat) : Prop := ∀ D : Nat → Bool, (∀ i, i < l.length → (D i = true ↔ aclF (l.eraseIdx i) = aclF l)) → dl = (List.range k).filter D
theorem DeadTo.zero (l : List RuleV) : DeadTo l 0 [] := fun D _ => by simp
theorem DeadTo.yes {l : List RuleV} {k : Nat} {dl : List Nat} (h : DeadTo l k dl) (hk : k < l.length) (he : aclF (l.eraseIdx k) = aclF l) : DeadTo l (k + 1) (dl ++ [k]) := fun D hD => by
  rw [List.range_succ, List.filter_append, ← h D hD]
  simp [(hD k hk).2 he]
theorem DeadTo.no {l : List RuleV} {k : Nat} {dl : List Nat} (h : DeadTo l k dl) (hk : k < l.length) (he : aclF (l.eraseIdx k) ≠ aclF l) : DeadTo l (k + 1) dl := fun D hD => by
  rw [List.range_succ, List.filter_append, ← h D hD]
  have : D k = false := by
    cases e : D k
    · rfl
    · exact absurd ((hD k hk).1 e) he
  simp [this]

def intCells (dl : List Nat) : List Value := dl.map fun (k : Nat) => Value.int .i64 (k : Int)
theorem intCells_one (dl : List Nat) : ∀ u ∈ intCells dl, u.oneCell' = true := fun u hu => by
  obtain ⟨k, _, rfl⟩ := List.mem_map.1 hu
  rfl

theorem own_same {w w' : World} {base e s n : Nat} {v : Value} {xs : List Value} (h : w.ownsRow base e s v n xs) (hb : ∀ q, v.ownBlock = some q → w'.heap[q]? = w.heap[q]?) : w'.ownsRow base e s v n xs := by
  obtain ⟨h1, h2⟩ := h
  refine ⟨h1, ?_⟩
  rcases h2 with h2 | ⟨g', cap', cur, hv, hb', hh, r⟩
  · exact .inl h2
  · subst hv
    exact .inr ⟨_, _, cur, rfl, hb', (hb g' rfl).trans hh, r⟩

theorem Tryd.infoInt : (Tryd.prog.info? 3).map (fun i => (i.zero, i.size, i.bytes)) = some (some (.int .i64 0), 1, 8) := by kernel_rfl

/-- The row of numbers and the arena: neither touches the other. -/
structure RowOff (w0 wr : World) (g nb2 kb ib : Nat) (v : Value) (dl : List Nat) : Prop where
  own : wr.ownsRow w0.heap.size 3 1 v dl.length (intCells dl)
  off : ∀ q, v.ownBlock = some q → ¬ Fp g nb2 kb ib q

theorem RowOff.lt {w0 wr : World} {g nb2 kb ib : Nat} {v : Value} {dl : List Nat} (h : RowOff w0 wr g nb2 kb ib v dl) : ∀ q, v.ownBlock = some q → q < wr.heap.size := fun q hq => (h.own.lt q hq).2
theorem RowOff.below {w0 wr w2 : World} {g nb2 kb ib : Nat} {v : Value} {dl : List Nat} (h : RowOff w0 wr g nb2 kb ib v dl) (hb : RowKit.Below wr.heap.size wr w2) : RowOff w0 w2 g nb2 kb ib v dl :=
  ⟨own_same h.own (fun q hq => hb.block q (h.lt q hq)), h.off⟩
theorem RowOff.frm {w0 wr w2 : World} {g nb2 nb3 kb ib : Nat} {v : Value} {dl : List Nat} (h : RowOff w0 wr g nb2 kb ib v dl) (hf : Frm (Fp g nb2 kb ib) wr w2) (hn : nb3 = nb2 ∨ wr.heap.size ≤ nb3) : RowOff w0 w2 g nb3 kb ib v dl :=
  ⟨own_same h.own (fun q hq => hf.block q (h.lt q hq) (h.off q hq)), fun q hq hS => by
    have := h.lt q hq
    rcases hS with e | e | e | e
    · exact h.off q hq (.inl e)
    · rcases hn with e' | e'
      · exact h.off q hq (.inr (.inl (e.trans e')))
      · omega
    · exact h.off q hq (.inr (.inr (.inl e)))
    · exact h.off q hq (.inr (.inr (.inr e)))⟩

theorem RuleAt.block {w w' : World} {b o : Nat} {r : RuleV} (h : RuleAt w b o r) (hb : w'.heap[b]? = w.heap[b]?) : RuleAt w' b o r := by
  unfold RuleAt at *
  have e : ∀ o, w'.cell? ⟨b, o, none⟩ = w.cell? ⟨b, o, none⟩ := fun o => World.cell?_of_block (a := ⟨b, o, none⟩) hb
  rw [e, e, e, e, e]
  exact h

end Go.Proofs.YtohbafigjpoijaaDoor

/- slices.Index, Contains, Equal of numbers. -/
set_option linter.unusedVariables false
set_option linter.unusedSimpArgs false
namespace Go.Proofs.YtohbafigjpoijaaDoor
open Go.RowKit Go.Maps Bdd

theorem ints_of_own {w : World} {base : Nat} {v : Value} {dl : List Nat} (h : w.ownsRow base 3 1 v dl.length (intCells dl)) (hb : ∀ x ∈ dl, x < 4611686018427387904) :
    ∃ A c, v = .slice A dl.length c ∧ dl.length ≤ c ∧ IntsAt w w.heap.size A dl.length (dl.map fun (k : Nat) => (k : Int)) := by
  rcases h.2 with ⟨rfl, h0⟩ | ⟨g, cap, cur, rfl, hg, hh, hnc, _⟩
  · have : dl = [] := List.eq_nil_of_length_eq_zero h0
    subst this
    exact ⟨none, 0, rfl, Nat.le_refl _, IntsAt.nil _ _ _⟩
  · refine ⟨_, cap, rfl, hnc, ⟨by simp, fun x hx => ?_, fun _ => ⟨g, 0, rfl, (Array.getElem?_eq_some_iff.1 hh).1, fun k x hx => ?_⟩⟩⟩
    · obtain ⟨k, hk, rfl⟩ := List.mem_map.1 hx
      have := hb k hk
      omega
    · have := h.cells (g := g) rfl k (.int .i64 x) (by
        rw [List.getElem?_map] at hx
        cases e : dl[k]? with
        | none => rw [e] at hx; cases hx
        | some y => rw [e] at hx; cases hx; simp [intCells, e])
      rw [addr_add] at this
      exact this

set_option maxRecDepth 100000 in
set_option maxHeartbeats 4000000 in
theorem index_walk (l : List Int) (b o n c : Nat) (x : Int) (W : World) (hn : n ≤ 9223372036854775807) (hl : IntsAt W W.heap.size (some ⟨b, o, none⟩) n l) (h0 : 0 < n) :
    Calls Tryd.prog 131 #[.slice (some ⟨b, o, none⟩) n c, .int .i64 x] W fun e W' => e = .returned (.int .i64 (idxF (fun y => x == y) l)) ∧ RowKit.Below W.heap.size W W' := by
  have HL := hide hl
  clear hl
  go_enter Tryd.func131, Tryd.ntmps131
  go_wp2
  go_loopw [8] (fun i wr => ∃ k : Nat, k ≤ n ∧ i = .int .i64 k ∧ RowKit.Below W.heap.size W wr ∧ Hid (∀ j y, j < k → l[j]? = some y → (x == y) = false)) (fun i _ => n - (intOf i).toNat)
  case atStart => exact ⟨0, Nat.zero_le _, rfl, RowKit.Below.refl _ _, hide (fun j r h => absurd h (by omega))⟩
  case round =>
    obtain ⟨k, hk, rfl, hb, HN⟩ := hrel
    have HB := hide hb
    by_cases hlt : k < n
    · obtain ⟨y, hy⟩ : ∃ r, l[k]? = some r := ⟨_, List.getElem?_eq_getElem (by have := HL.out.1; omega)⟩
      obtain ⟨b', o', e, hbB, hg⟩ := HL.out.2.2 (by omega)
      cases e
      have q0 := (hb.cell (p := ⟨b, o + k, none⟩) hbB).trans (hg k y hy)
      have HY := hide hy
      clear hb hg hy
      cases hxy : (x == y)
      · go_wp2
        go_roundw
        case rel => exact ⟨k + 1, by omega, by go_num, HB.out, hide (fun j z hj hz => by
          rcases (by omega : j < k ∨ j = k) with h | rfl
          · exact HN.out j z h hz
          · have e := HY.out; rw [e] at hz; cases hz; exact hxy)⟩
        case measure => simp [intOf]; omega
      · have HF := hide (idxF_found (p := fun y => x == y) HY.out hxy HN.out)
        go_wp2
        go_ret
        exact ⟨ret_i64 HF.out.symm, HB.out⟩
    · have HF := hide (idxF_none (p := fun y => x == y) (l := l) (fun j r hj hr => HN.out j r (by have := HL.out.1; omega) hr))
      go_wp2
      go_ret
      exact ⟨ret_i64 HF.out.symm, HB.out⟩

set_option maxRecDepth 100000 in
theorem contains_yes (l : List Int) (A : Option Addr) (n c : Nat) (x : Int) (W : World) (hn : n ≤ 9223372036854775807) (hl : IntsAt W W.heap.size A n l) (hx : x ∈ l) :
    Calls Tryd.prog 110 #[.slice A n c, .int .i64 x] W fun e W' => e = .returned (.bool true) ∧ RowKit.Below W.heap.size W W' := by
  have h0 : 0 < n := by have := List.length_pos_of_mem hx; have := hl.1; omega
  obtain ⟨b, o, rfl, _, _⟩ := hl.2.2 h0
  have HC := hide (index_walk l b o n c x W hn hl h0)
  obtain ⟨k, hk⟩ : ∃ k : Nat, idxF (fun y => x == y) l = k := by
    rcases idxF_cases (fun y => x == y) l with ⟨k, r, hk, _⟩ | ⟨_, hno⟩
    · exact ⟨k, hk⟩
    · have := hno x hx; simp at this
  rw [hk] at HC
  clear hl hx hk
  go_enter Tryd.func110, Tryd.ntmps110
  go_wp2_with fail
  refine HC.out.mono ?_
  rintro e w1 ⟨rfl, hb⟩
  have HB := hide hb
  clear hb
  go_wp2
  go_ret
  exact ⟨rfl, HB.out⟩

set_option maxRecDepth 100000 in
set_option maxHeartbeats 4000000 in
theorem equal_yes (l : List Int) (A1 A2 : Option Addr) (n c1 c2 : Nat) (W : World) (hn : n ≤ 9223372036854775807) (h1 : IntsAt W W.heap.size A1 n l) (h2 : IntsAt W W.heap.size A2 n l) :
    Calls Tryd.prog 76 #[.slice A1 n c1, .slice A2 n c2] W fun e W' => e = .returned (.bool true) ∧ RowKit.Below W.heap.size W W' := by
  have H1 := hide h1
  have H2 := hide h2
  clear h1 h2
  go_enter Tryd.func76, Tryd.ntmps76
  go_wp2
  go_loopw [13] (fun i wr => ∃ k : Nat, k ≤ n ∧ i = .int .i64 k ∧ RowKit.Below W.heap.size W wr) (fun i _ => n - (intOf i).toNat)
  case atStart => exact ⟨0, Nat.zero_le _, rfl, RowKit.Below.refl _ _⟩
  case round =>
    obtain ⟨k, hk, rfl, hb⟩ := hrel
    have HB := hide hb
    by_cases hlt : k < n
    · obtain ⟨y, hy⟩ : ∃ r, l[k]? = some r := ⟨_, List.getElem?_eq_getElem (by have := H1.out.1; omega)⟩
      obtain ⟨b, o, rfl, hbB, hg⟩ := H1.out.2.2 (by omega)
      obtain ⟨b', o', rfl, hbB', hg'⟩ := H2.out.2.2 (by omega)
      have q0 := (hb.cell (p := ⟨b, o + k, none⟩) hbB).trans (hg k y hy)
      have q1 := (hb.cell (p := ⟨b', o' + k, none⟩) hbB').trans (hg' k y hy)
      clear hb hg hg' hy
      go_wp2
      go_quiet (fail)
      go_wp2
      go_roundw
      case rel => exact ⟨k + 1, by omega, by go_num, HB.out.trans ⟨rfl, rfl, rfl, Nat.le_refl _, fun _ _ => rfl⟩⟩
      case measure => simp [intOf]; omega
    · go_wp2
      go_ret
      exact ⟨rfl, HB.out⟩
end Go.Proofs.YtohbafigjpoijaaDoor

/- What is dead: plain; the closure of AclDead. -/
set_option linter.unusedVariables false
set_option linter.unusedSimpArgs false
namespace Go.Proofs.YtohbafigjpoijaaDoor
open Go.RowKit Go.Maps Bdd

def allM : M4 := ⟨65535, 65535, 255, 255⟩
theorem allM_ok : allM.ok := ⟨by show 65535 < _; omega, by show 65535 < _; omega, by show 255 < _; omega, by show 255 < _; omega⟩

theorem bitF_true (set : Nat) : ∀ (d v n : Nat), (∀ m, n * 2 ^ d ≤ m → m < (n + 1) * 2 ^ d → set.testBit m = true) → bitF set d v n = fun _ => true := by
  intro d
  induction d with
  | zero => intro v n h; funext x; simp only [bitF]; exact h n (by simp) (by simp)
  | succ d ih =>
    intro v n h
    have e : 2 ^ (d + 1) = 2 * 2 ^ d := by rw [Nat.pow_succ, Nat.mul_comm]
    have h1 := ih (v + 1) (n * 2) (fun m a b => h m (by rw [e, ← Nat.mul_assoc]; exact a) (by
      have : (n * 2 + 1) * 2 ^ d ≤ (n + 1) * 2 ^ (d + 1) := by rw [e, ← Nat.mul_assoc]; exact Nat.mul_le_mul_right _ (by omega)
      omega))
    have h2 := ih (v + 1) (n * 2 + 1) (fun m a b => h m (by
      have : n * 2 ^ (d + 1) ≤ (n * 2 + 1) * 2 ^ d := by rw [e, ← Nat.mul_assoc]; exact Nat.mul_le_mul_right _ (by omega)
      omega) (by
      have : (n * 2 + 1 + 1) * 2 ^ d = (n + 1) * 2 ^ (d + 1) := by rw [e, ← Nat.mul_assoc]; congr 1; omega
      omega))
    simp only [bitF, h1, h2]
    funext x; simp [iteF]

theorem bits16 : ∀ m, 0 * 2 ^ 4 ≤ m → m < (0 + 1) * 2 ^ 4 → Nat.testBit 65535 m = true := fun m _ h => by
  have : ∀ i : Fin 16, Nat.testBit 65535 i.val = true := by decide +kernel
  exact this ⟨m, by simpa using h⟩
theorem bits8 : ∀ m, 0 * 2 ^ 3 ≤ m → m < (0 + 1) * 2 ^ 3 → Nat.testBit 255 m = true := fun m _ h => by
  have : ∀ i : Fin 8, Nat.testBit 255 i.val = true := by decide +kernel
  exact this ⟨m, by simpa using h⟩

theorem all_fn : ∀ x ∈ partL 65535 65535 255 255, x.fn = fun _ => true := by
  intro x hx
  simp only [partL, List.mem_cons, List.not_mem_nil, or_false] at hx
  rcases hx with rfl | rfl | rfl | rfl
  · exact bitF_true _ _ _ _ bits16
  · exact bitF_true _ _ _ _ bits8
  · exact bitF_true _ _ _ _ bits16
  · exact bitF_true _ _ _ _ bits8
theorem outs_true : ∀ (l : List PartV), (∀ x ∈ l, x.fn = fun _ => true) → outs l = fun _ => true := by
  intro l h
  have : ∀ (l : List PartV) (F : Bdd.Fn), (∀ x ∈ l, x.fn = fun _ => true) → F = (fun _ => true) → l.foldl (fun F x => iteF F x.fn (fun _ => false)) F = fun _ => true := by
    intro l
    induction l with
    | nil => intro F _ hF; exact hF
    | cons a l ih =>
      intro F h hF
      rw [List.foldl_cons]
      refine ih _ (fun x hx => h x (by simp [hx])) ?_
      rw [hF, h a (by simp)]; funext x; rfl
  exact this l _ h rfl
theorem all_outs (b : Bool) : outs (ruleL ⟨b, allM⟩) = fun _ => true := outs_true _ all_fn

/-- What is new where all rules are for all. -/
def NewA (G : Bdd.Fn) : Prop := (∃ u, Cof (fun x : Asg => x u) G) ∨ ∀ x y, G x = G y
theorem cof_const {b : Bool} {G : Bdd.Fn} (h : Cof (fun _ => b) G) : ∀ x y, G x = G y := by
  obtain ⟨k, s, rfl⟩ := h
  intro x y; rfl
theorem newA_of {b : Bool} {G : Bdd.Fn} (h : NewB (ruleL ⟨b, allM⟩) G) : NewA G := by
  rcases h with ⟨u, h⟩ | ⟨x, hx, h⟩ | ⟨k, hk, h⟩
  · exact .inl ⟨u, h⟩
  · rw [all_fn x hx] at h; exact .inr (cof_const h)
  · have e : outs ((ruleL ⟨b, allM⟩).take (k + 1)) = fun _ => true := outs_true _ (fun x hx => all_fn x (List.mem_of_mem_take hx))
    rw [e] at h; exact .inr (cof_const h)

theorem newA_room {A : St} (he : Ext (newSt 14 40000) A) (hn : ∀ j, 2 ≤ j → j < A.len → NewA (den A.ns j)) : A.len ≤ 16 := by
  have hi := newSt_inv 14 40000 (by omega) (by omega)
  have hv : A.vars = 14 := he.vars
  have ok : Ok 14 A.ns := hv ▸ he.inv.ok
  obtain ⟨more, e⟩ := he.ns
  have ok' : Ok 14 ((newSt 14 40000).ns ++ more) := e ▸ ok
  have := count_new hi.ok ok' ((List.range 14).map (fun u => fun x : Asg => x u)) (fun j h1 h2 => by
    rw [← e] at h2 ⊢
    have hnc := nonconst ok h2 h1
    rcases hn j h1 h2 with ⟨u, hu⟩ | hc
    · have e1 := cof_var hu hnc
      have hu14 : u < 14 := by
        refine Classical.byContradiction fun hn => ?_
        have := den_below ok j h2 (fun _ => true) (fun v => decide (v < 14)) (fun v hv => by simp [hv])
        rw [e1] at this
        simp at this
        omega
      exact List.mem_map.2 ⟨u, List.mem_range.2 hu14, e1.symm⟩
    · obtain ⟨x, y, h⟩ := hnc
      exact absurd (hc x y) h)
  simp only [List.length_map, List.length_range] at this
  show A.ns.length ≤ _
  rw [e, List.length_append]
  have : (newSt 14 40000).ns.length = 2 := rfl
  omega

def twoL : List RuleV := [⟨true, allM⟩, ⟨false, allM⟩]
theorem aclF_all (b : Bool) (l : List RuleV) : aclF (⟨b, allM⟩ :: l) = fun _ => b := by
  simp only [aclF, all_outs]; funext x; simp [iteF]
theorem two_dead {dl : List Nat} (h : DeadTo twoL 2 dl) : dl = [1] := by
  have := h (fun i => i == 1) (fun i hi => by
    have hi : i < 2 := hi
    rcases (by omega : i = 0 ∨ i = 1) with rfl | rfl
    · constructor
      · intro h; cases h
      · intro h
        have : aclF [⟨false, allM⟩] = aclF twoL := h
        rw [aclF_all, twoL, aclF_all] at this
        have := congrFun this (fun _ => true)
        cases this
    · constructor
      · intro _
        show aclF [⟨true, allM⟩] = aclF twoL
        rw [aclF_all, twoL, aclF_all]
      · intro _; rfl)
  rw [this]; rfl

theorem DeadTo.mem {l : List RuleV} {k : Nat} {dl : List Nat} (h : DeadTo l k dl) (hk : k ≤ l.length) (i : Nat) : i ∈ dl ↔ i < k ∧ aclF (l.eraseIdx i) = aclF l := by
  have hd := h (fun i => @decide (aclF (l.eraseIdx i) = aclF l) (Classical.propDecidable _)) (fun i _ => by simp)
  rw [hd]
  simp

theorem right_code (p : P4) (h : rightB p = true) : ∃ c, c < 16384 ∧ p = pk c := by
  obtain ⟨a, b, c, d⟩ := p
  simp only [rightB, inR, Bool.and_eq_true, decide_eq_true_eq] at h
  obtain ⟨⟨⟨⟨a1, a2⟩, b1, b2⟩, c1, c2⟩, d1, d2⟩ := h
  refine ⟨a.toNat * 1024 + b.toNat * 64 + c.toNat * 8 + d.toNat, by omega, ?_⟩
  simp only [pk, P4.mk.injEq]
  omega

theorem dead_lets {l : List RuleV} {k : Nat} (hok : ∀ r ∈ l, r.ok) (h : aclF (l.eraseIdx k) = aclF l) (p : P4) (hp : rightB p = true) : letsB (l.eraseIdx k) p = letsB l p := by
  obtain ⟨c, hc, rfl⟩ := right_code p hp
  rw [← aclF_lets l hok c hc, ← aclF_lets _ (fun r hr => hok r (List.mem_of_mem_eraseIdx hr)) c hc, h]

theorem behind_all : ∀ (l : List RuleV) (i k : Nat) (r : RuleV), l[i]? = some r → r.m = allM → i < k → aclF (l.eraseIdx k) = aclF l := by
  intro l
  induction l with
  | nil => intro i k r h; simp at h
  | cons a l ih =>
    intro i k r h hr hik
    obtain ⟨k, rfl⟩ : ∃ j, k = j + 1 := ⟨k - 1, by omega⟩
    rw [List.eraseIdx_cons_succ]
    match i, h with
    | 0, h =>
      have e : a = r := by simpa using h
      subst e
      obtain ⟨b, m⟩ := a
      obtain rfl : m = allM := hr
      rw [aclF_all, aclF_all]
    | i + 1, h =>
      have := ih i k r (by simpa using h) hr (by omega)
      simp only [aclF, this]

def isAll (r : RuleV) : Bool := ((r.m.src : Int) == 65535) && ((r.m.dst : Int) == 65535) && ((r.m.sport : Int) == 255) && ((r.m.dport : Int) == 255)
theorem isAll_eq {r : RuleV} (h : isAll r = true) : r.m = allM := by
  obtain ⟨b, s, d, p, q⟩ := r
  simp only [isAll, Bool.and_eq_true, beq_iff_eq] at h
  simp only [allM, M4.mk.injEq]
  omega

end Go.Proofs.YtohbafigjpoijaaDoor

/- Rows of one's own that stay. -/
set_option linter.unusedVariables false
namespace Go.Proofs.YtohbafigjpoijaaDoor
open Go.RowKit

theorem own_below {w w' : World} {base e s n : Nat} {v : Value} {xs : List Value} (h : w.ownsRow base e s v n xs) (hb : RowKit.Below w.heap.size w w') : w'.ownsRow base e s v n xs :=
  own_same h (fun q hq => hb.block q (h.lt q hq).2)

theorem grow_new {B : Nat} {w w' : World} {row : Option Nat} (hb : RowKit.Below B w w') (hB : B ≤ w.heap.size) {w'' : World} (hg : w'.grownBy w'' row) (hr : ∀ k, row = some k → B ≤ k) : RowKit.Below B w w'' :=
  hb.grown hg (by have := hb.size; omega) hr
end Go.Proofs.YtohbafigjpoijaaDoor

/- Two lists of rules let the same codes through just if their functions are the same. Plain. -/
set_option linter.unusedVariables false
set_option linter.unusedSimpArgs false
namespace Go.Proofs.YtohbafigjpoijaaDoor
open Go.RowKit Go.Maps Bdd

/-- The code of the first n bits. -/
def codeN (x : Asg) : Nat → Nat
  | 0 => 0
  | n + 1 => codeN x n * 2 + (x n).toNat
theorem codeN_lt (x : Asg) : ∀ n, codeN x n < 2 ^ n := by
  intro n
  induction n with
  | zero => simp [codeN]
  | succ n ih =>
    have : (x n).toNat ≤ 1 := by cases x n <;> simp
    simp only [codeN, Nat.pow_succ]
    omega
theorem codeN_bit (x : Asg) : ∀ (n u : Nat), u < n → (codeN x n).testBit (n - 1 - u) = x u := by
  intro n
  induction n with
  | zero => intro u hu; omega
  | succ n ih =>
    intro u hu
    have hb : (x n).toNat ≤ 1 := by cases x n <;> simp
    rcases Nat.lt_or_ge u n with h | h
    · have e : n + 1 - 1 - u = (n - 1 - u) + 1 := by omega
      rw [e, Nat.testBit_succ]
      have : codeN x (n + 1) / 2 = codeN x n := by simp only [codeN]; omega
      rw [this]
      exact ih u h
    · obtain rfl : u = n := by omega
      have e : u + 1 - 1 - u = 0 := by omega
      rw [e, Nat.testBit_zero, Bool.eq_iff_iff, decide_eq_true_eq]
      simp only [codeN]
      cases x u <;> simp <;> omega

theorem bitF_congr (set : Nat) : ∀ (d v n : Nat) (x y : Asg), (∀ u, v ≤ u → u < v + d → x u = y u) → bitF set d v n x = bitF set d v n y := by
  intro d
  induction d with
  | zero => intro v n x y _; rfl
  | succ d ih =>
    intro v n x y h
    simp only [bitF, iteF, h v (Nat.le_refl _) (by omega), ih (v + 1) _ x y (fun u hu hu2 => h u (by omega) (by omega))]

theorem ruleL_congr (r : RuleV) (x y : Asg) (h : ∀ u, u < 14 → x u = y u) : outs (ruleL r) x = outs (ruleL r) y := by
  simp only [outs, ruleL, partL, List.foldl_cons, List.foldl_nil, iteF, PartV.fn]
  rw [bitF_congr _ _ _ _ x y (fun u _ hu => h u (by omega)), bitF_congr _ _ _ _ x y (fun u _ hu => h u (by omega)), bitF_congr _ _ _ _ x y (fun u _ hu => h u (by omega)), bitF_congr _ _ _ _ x y (fun u _ hu => h u (by omega))]
theorem aclF_congr (l : List RuleV) (x y : Asg) (h : ∀ u, u < 14 → x u = y u) : aclF l x = aclF l y := by
  induction l with
  | nil => rfl
  | cons r l ih => simp only [aclF, iteF, ruleL_congr r x y h, ih]

theorem aclF_code (l : List RuleV) (x : Asg) : aclF l x = aclF l (asgOf (codeN x 14)) :=
  aclF_congr l _ _ fun u hu => (codeN_bit x 14 u hu).symm

theorem aclF_eq_iff {l m : List RuleV} (hl : ∀ r ∈ l, r.ok) (hm : ∀ r ∈ m, r.ok) : aclF l = aclF m ↔ ∀ c, c < 16384 → letsB l (pk c) = letsB m (pk c) := by
  constructor
  · intro h c hc
    rw [← aclF_lets l hl c hc, ← aclF_lets m hm c hc, h]
  · intro h
    funext x
    have hc := codeN_lt x 14
    rw [aclF_code l x, aclF_code m x, aclF_lets l hl _ hc, aclF_lets m hm _ hc, h _ hc]

/-- Do two lists let the same codes below q through? -/
def sameTo (l m : List RuleV) (q : Nat) : Bool := (List.range q).all fun c => letsB m (pk c) == letsB l (pk c)
theorem sameTo_zero (l m : List RuleV) : sameTo l m 0 = true := rfl
theorem sameTo_succ {l m : List RuleV} {q : Nat} (h : sameTo l m q = true) : sameTo l m (q + 1) = (letsB m (pk q) == letsB l (pk q)) := by
  unfold sameTo at *
  rw [List.range_succ, List.all_append, h]
  simp
theorem sameTo_end {l m : List RuleV} (hl : ∀ r ∈ l, r.ok) (hm : ∀ r ∈ m, r.ok) (h : sameTo l m 16384 = true) : aclF m = aclF l :=
  (aclF_eq_iff hm hl).2 fun c hc => by
    unfold sameTo at h
    rw [List.all_eq_true] at h
    simpa using h c (by simpa using hc)
theorem sameTo_not {l m : List RuleV} {q : Nat} (hq : q ≤ 16384) (hl : ∀ r ∈ l, r.ok) (hm : ∀ r ∈ m, r.ok) (h : sameTo l m q = false) : aclF m ≠ aclF l := fun e => by
  have := (aclF_eq_iff hm hl).1 e
  have h2 : sameTo l m q = true := by
    unfold sameTo
    rw [List.all_eq_true]
    intro c hc
    simpa using this c (by have : c < q := by simpa using hc
                           omega)
  rw [h] at h2
  cases h2
end Go.Proofs.YtohbafigjpoijaaDoor
