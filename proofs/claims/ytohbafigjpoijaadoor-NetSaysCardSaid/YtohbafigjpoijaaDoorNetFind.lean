/- slices.IndexFunc, ContainsFunc of devices; Index, Contains of places. -/
import Derived.Test.YtohbafigjpoijaaDoorNetDevice
set_option linter.unusedVariables false
set_option linter.unusedSimpArgs false
namespace Go.Proofs.YtohbafigjpoijaaDoor
open Go.RowKit

set_option maxRecDepth 100000 in
set_option maxHeartbeats 4000000 in
theorem indexFuncDev_walk (l : List DevV) (b o n c f : Nat) (cap : Array Value) (p : DevV → Bool) (W : World) (hn : n ≤ 9223372036854775807) (hl : SlAt DevV.cells 7 W W.heap.size (some ⟨b, o, none⟩) n l) (h0 : 0 < n)
    (hcall : ∀ (args : Array Value) (w : World), (callFunc f args).run Tryd.prog w = .ok (.enter f args) w)
    (hf : Hid (∀ (r : DevV) (w : World), r ∈ l → Below W.heap.size W w → Calls Tryd.prog f (#[r.val] ++ cap) w fun e w' => e = .returned (.bool (p r)) ∧ Below w.heap.size w w')) :
    Calls Tryd.prog 91 #[.slice (some ⟨b, o, none⟩) n c, .func (.func f) #[] cap] W fun e W' =>
      e = .returned (.int .i64 (idxF p l)) ∧ Below W.heap.size W W' := by
  have HL := hide hl
  clear hl
  go_enter Tryd.func91, Tryd.ntmps91
  go_wp2
  go_loopw [5, 8] (fun u i wr => ∃ k : Nat, k ≤ n ∧ i = .int .i64 k ∧ Below W.heap.size W wr ∧ Hid (∀ j r, j < k → l[j]? = some r → p r = false)) (fun _ i _ => n - (intOf i).toNat)
  case atStart => exact ⟨0, Nat.zero_le _, rfl, Below.refl _ _, hide (fun j r h => by omega)⟩
  case round =>
    obtain ⟨k, hk, rfl, hb, HN⟩ := hrel
    have HB := hide hb
    by_cases hlt : k < n
    · obtain ⟨r, hr⟩ : ∃ r, l[k]? = some r := ⟨_, List.getElem?_eq_getElem (by have := HL.out.1; omega)⟩
      obtain ⟨hbB, q0, q1, q2, q3, q4, q5, q6⟩ := dev_get (HL.out.below HB.out HB.out.size) hr
      have HR := hide hr
      clear hr hb
      obtain ⟨nm, kd, ad, pl, bA, bn, bc, bs, rA, rn, rc, rs, tA, tn, tc, ts⟩ := r
      go_wp2_with fail
      refine (hf.out _ _ (List.mem_of_getElem? HR.out) HB.out).mono ?_
      rintro e w1 ⟨rfl, hb1⟩
      have HB1 := hide (HB.out.trans (hb1.mono HB.out.size))
      clear hb1 q0 q1 q2 q3 q4 q5 q6
      generalize hr : (⟨nm, kd, ad, pl, bA, bn, bc, bs, rA, rn, rc, rs, tA, tn, tc, ts⟩ : DevV) = r at *
      clear hr
      cases hp : p r
      · go_wp2
        go_roundw
        case rel =>
          refine ⟨k + 1, by omega, by go_num, HB1.out, hide (fun j r' hj hr' => ?_)⟩
          rcases (by omega : j < k ∨ j = k) with h | rfl
          · exact HN.out j r' h hr'
          · rw [HR.out] at hr'; cases hr'; exact hp
        case measure => simp [intOf]; omega
      · go_wp2
        go_ret
        exact ⟨ret_i64 (idxF_found HR.out hp HN.out).symm, HB1.out⟩
    · go_wp2
      go_ret
      exact ⟨ret_i64 (idxF_none (fun j r hj => HN.out j r (by have := HL.out.1; omega))).symm, hb⟩

set_option maxRecDepth 100000 in
theorem indexFuncDev_nil (A : Option Addr) (c : Nat) (F : Value) (W : World) :
    Calls Tryd.prog 91 #[.slice A 0 c, F] W fun e W' => e = .returned (.int .i64 (-1)) ∧ W = W' := by
  go_enter Tryd.func91, Tryd.ntmps91
  go_wp2
  refine wp_loop_rounds 1 ?_
  rw [rounds_succ]
  go_wp2
  go_ret
  exact ⟨rfl, rfl⟩

theorem indexFuncDev_any (l : List DevV) (A : Option Addr) (n c f : Nat) (cap : Array Value) (p : DevV → Bool) (W : World) (hn : n ≤ 9223372036854775807) (hl : SlAt DevV.cells 7 W W.heap.size A n l)
    (hcall : ∀ (args : Array Value) (w : World), (callFunc f args).run Tryd.prog w = .ok (.enter f args) w)
    (hf : Hid (∀ (r : DevV) (w : World), r ∈ l → Below W.heap.size W w → Calls Tryd.prog f (#[r.val] ++ cap) w fun e w' => e = .returned (.bool (p r)) ∧ Below w.heap.size w w')) :
    Calls Tryd.prog 91 #[.slice A n c, .func (.func f) #[] cap] W fun e W' =>
      e = .returned (.int .i64 (idxF p l)) ∧ Below W.heap.size W W' := by
  rcases Nat.eq_zero_or_pos n with rfl | h0
  · have : l = [] := List.eq_nil_of_length_eq_zero hl.1
    subst this
    exact (indexFuncDev_nil A c _ W).mono fun e w' ⟨he, hw⟩ => ⟨he, hw ▸ Below.refl _ _⟩
  · obtain ⟨b, o, rfl, hb, _⟩ := hl.2 h0
    exact indexFuncDev_walk l b o n c f cap p W hn hl h0 hcall hf

theorem idxF_any {α : Type} (p : α → Bool) (l : List α) : (l.any p = true ∧ ∃ k : Nat, idxF p l = k) ∨ (l.any p = false ∧ idxF p l = -1) := by
  rcases idxF_cases p l with ⟨k, r, hk, _, hr, hp, _⟩ | ⟨hk, hno⟩
  · exact .inl ⟨List.any_eq_true.2 ⟨r, List.mem_of_getElem? hr, hp⟩, k, hk⟩
  · exact .inr ⟨List.any_eq_false.2 fun r hr => by simp [hno r hr], hk⟩

set_option maxRecDepth 100000 in
theorem containsFuncDev_any (l : List DevV) (A : Option Addr) (n c f : Nat) (cap : Array Value) (p : DevV → Bool) (W : World) (hn : n ≤ 9223372036854775807) (hl : SlAt DevV.cells 7 W W.heap.size A n l)
    (hcall : ∀ (args : Array Value) (w : World), (callFunc f args).run Tryd.prog w = .ok (.enter f args) w)
    (hf : Hid (∀ (r : DevV) (w : World), r ∈ l → Below W.heap.size W w → Calls Tryd.prog f (#[r.val] ++ cap) w fun e w' => e = .returned (.bool (p r)) ∧ Below w.heap.size w w')) :
    Calls Tryd.prog 65 #[.slice A n c, .func (.func f) #[] cap] W fun e W' =>
      e = .returned (.bool (l.any p)) ∧ Below W.heap.size W W' := by
  have HC := hide (indexFuncDev_any l A n c f cap p W hn hl hcall hf)
  clear hl hf hcall
  rcases idxF_any p l with ⟨h1, k, h2⟩ | ⟨h1, h2⟩
  all_goals
    rw [h2] at HC
    rw [h1]
    clear h1 h2
    go_enter Tryd.func65, Tryd.ntmps65
    go_wp2_with fail
    refine HC.out.mono ?_
    rintro e w1 ⟨rfl, hb⟩
    have HB := hide hb
    clear hb
    go_wp2
    go_ret
    exact ⟨rfl, HB.out⟩

/-! ### places -/
def plCells (x : Pl) : List Value := [.int .i64 x.1, .int .i64 x.2]
theorem plCells_len (x : Pl) : (plCells x).length = 2 := rfl
theorem plCells_one (x : Pl) : ∀ u ∈ plCells x, u.oneCell' = true := by
  intro u hu
  simp only [plCells, List.mem_cons, List.not_mem_nil, or_false] at hu
  rcases hu with rfl | rfl <;> rfl

set_option maxRecDepth 100000 in
set_option maxHeartbeats 4000000 in
theorem indexPl_walk (l : List Pl) (b o n c : Nat) (x y : Int) (W : World) (hn : n ≤ 9223372036854775807) (hl : SlAt plCells 2 W W.heap.size (some ⟨b, o, none⟩) n l) (h0 : 0 < n) :
    Calls Tryd.prog 95 #[.slice (some ⟨b, o, none⟩) n c, .agg #[.int .i64 x, .int .i64 y]] W fun e W' => e = .returned (.int .i64 (idxF (fun z => eqP (x, y) z) l)) ∧ RowKit.Below W.heap.size W W' := by
  have HL := hide hl
  clear hl
  have hb0 : Below W.heap.size W (W.alloc (.cells #[.int .i64 x, .int .i64 y] 55)) := (Below.refl _ _).alloc (Nat.le_refl _) _
  have HX0 := hide (Box2.new W x y 55)
  have hs0 : (W.alloc (.cells #[.int .i64 x, .int .i64 y] 55)).heap.size = W.heap.size + 1 := by simp
  go_enter Tryd.func95, Tryd.ntmps95
  go_wp2
  generalize W.alloc _ = W0 at *
  have HB0 := hide hb0
  clear hb0
  go_loopw [8] (fun i wr => ∃ k : Nat, k ≤ n ∧ i = .int .i64 k ∧ Hid (RowKit.Below W0.heap.size W0 wr) ∧ Hid (∀ j z, j < k → l[j]? = some z → eqP (x, y) z = false)) (fun i _ => n - (intOf i).toNat)
  case atStart => exact ⟨0, Nat.zero_le _, rfl, hide (RowKit.Below.refl _ _), hide (fun j r h => absurd h (by omega))⟩
  case round =>
    obtain ⟨k, hk, rfl, HB, HN⟩ := hrel
    have HBW := hide (HB0.out.trans (HB.out.mono HB0.out.size))
    by_cases hlt : k < n
    · obtain ⟨z, hz⟩ : ∃ r, l[k]? = some r := ⟨_, List.getElem?_eq_getElem (by have := HL.out.1; omega)⟩
      obtain ⟨hbB, hg⟩ := (HL.out.below HBW.out HBW.out.size).get hz
      have q0 := hg 0 _ rfl
      have q1 := hg 1 _ rfl
      obtain ⟨x0, x1, _, _⟩ := HX0.out.below HB.out (by omega)
      have HZ := hide hz
      clear hz hg
      obtain ⟨z1, z2⟩ := z
      rw [Nat.add_zero] at q0
      cases e1 : (x == z1)
      · go_wp2
        go_quiet (fail)
        go_wp2
        go_roundw
        case rel => exact ⟨k + 1, by omega, by go_num, hide (HB.out.trans (below_drew _ _ _)), hide (fun j r hj hr => by
          rcases (by omega : j < k ∨ j = k) with h | rfl
          · exact HN.out j r h hr
          · have e := HZ.out; rw [e] at hr; cases hr; simp only [eqP, e1, Bool.false_and, Bool.and_false])⟩
        case measure => simp [intOf]; omega
      cases e2 : (y == z2)
      · go_wp2
        go_quiet (fail)
        go_wp2
        go_roundw
        case rel => exact ⟨k + 1, by omega, by go_num, hide (HB.out.trans (below_drew _ _ _)), hide (fun j r hj hr => by
          rcases (by omega : j < k ∨ j = k) with h | rfl
          · exact HN.out j r h hr
          · have e := HZ.out; rw [e] at hr; cases hr; simp only [eqP, e1, e2, Bool.false_and, Bool.and_false])⟩
        case measure => simp [intOf]; omega
      · have HF := hide (idxF_found (p := fun z => eqP (x, y) z) HZ.out (by simp only [eqP, e1, e2]; rfl) HN.out)
        go_wp2
        go_quiet (fail)
        go_wp2
        go_ret
        exact ⟨ret_i64 HF.out.symm, HBW.out.trans (below_drew _ _ _)⟩
    · have HF := hide (idxF_none (p := fun z => eqP (x, y) z) (l := l) (fun j r hj hr => HN.out j r (by have := HL.out.1; omega) hr))
      go_wp2
      go_ret
      exact ⟨ret_i64 HF.out.symm, HBW.out⟩

set_option maxRecDepth 100000 in
theorem indexPl_nil (A : Option Addr) (c : Nat) (x y : Int) (W : World) : Calls Tryd.prog 95 #[.slice A 0 c, .agg #[.int .i64 x, .int .i64 y]] W fun e W' => e = .returned (.int .i64 (-1)) ∧ RowKit.Below W.heap.size W W' := by
  go_enter Tryd.func95, Tryd.ntmps95
  go_wp2
  refine wp_loop_rounds 1 ?_
  rw [rounds_succ]
  go_wp2
  go_ret
  exact ⟨rfl, (Below.refl _ _).alloc (Nat.le_refl _) _⟩

theorem indexPl_any (l : List Pl) (A : Option Addr) (n c : Nat) (x y : Int) (W : World) (hn : n ≤ 9223372036854775807) (hl : SlAt plCells 2 W W.heap.size A n l) :
    Calls Tryd.prog 95 #[.slice A n c, .agg #[.int .i64 x, .int .i64 y]] W fun e W' => e = .returned (.int .i64 (idxF (fun z => eqP (x, y) z) l)) ∧ RowKit.Below W.heap.size W W' := by
  rcases Nat.eq_zero_or_pos n with rfl | h0
  · have : l = [] := List.eq_nil_of_length_eq_zero hl.1
    subst this
    exact indexPl_nil A c x y W
  · obtain ⟨b, o, rfl, hb, _⟩ := hl.2 h0
    exact indexPl_walk l b o n c x y W hn hl h0

set_option maxRecDepth 100000 in
theorem containsPl_any (l : List Pl) (A : Option Addr) (n c : Nat) (x y : Int) (W : World) (hn : n ≤ 9223372036854775807) (hl : SlAt plCells 2 W W.heap.size A n l) :
    Calls Tryd.prog 69 #[.slice A n c, .agg #[.int .i64 x, .int .i64 y]] W fun e W' => e = .returned (.bool (l.any fun z => eqP (x, y) z)) ∧ RowKit.Below W.heap.size W W' := by
  have hb0 : Below W.heap.size W (W.alloc (.cells #[.int .i64 x, .int .i64 y] 55)) := (Below.refl _ _).alloc (Nat.le_refl _) _
  have HC := hide (indexPl_any l A n c x y (W.alloc (.cells #[.int .i64 x, .int .i64 y] 55)) hn (hl.below hb0 hb0.size))
  have HB0 := hide hb0
  clear hl hb0
  rcases idxF_any (fun z => eqP (x, y) z) l with ⟨h1, k, h2⟩ | ⟨h1, h2⟩
  all_goals
    rw [h2] at HC
    rw [h1]
    clear h1 h2
    go_enter Tryd.func69, Tryd.ntmps69
    go_wp2_with fail
    refine HC.out.mono ?_
    rintro e w1 ⟨rfl, hb⟩
    have HB := hide (HB0.out.trans (hb.mono HB0.out.size))
    clear hb
    go_wp2
    go_ret
    exact ⟨rfl, HB.out⟩
end Go.Proofs.YtohbafigjpoijaaDoor
