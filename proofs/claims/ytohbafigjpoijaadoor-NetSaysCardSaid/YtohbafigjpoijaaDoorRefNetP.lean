/- wireref.Ports; slices.Index, Contains of pairs. -/
import Derived.Test.YtohbafigjpoijaaDoorNetCheck
import Derived.ChangeKeysEq
set_option linter.unusedVariables false
set_option linter.unusedSimpArgs false
namespace Go.Proofs.YtohbafigjpoijaaDoor
open Go.RowKit

theorem portsF_rng (k : Int) : 0 ≤ portsF k ∧ portsF k ≤ 4 := by
  unfold portsF
  repeat' split
  all_goals omega
set_option maxRecDepth 100000 in
set_option maxHeartbeats 4000000 in
theorem refPorts_walk (k : Int) (W : World) : Calls Tryd.prog 36 #[.int .i64 k] W fun e W' => e = .returned (.int .i64 (portsF k)) ∧ Below W.heap.size W W' := by
  cases h : inR k 1 5
  · have HF := hide (show portsF k = 0 from by
      simp only [inR, Bool.and_eq_false_iff, decide_eq_false_iff_not] at h
      unfold portsF
      rw [if_neg (by simp; omega), if_neg (by simp; omega), if_neg (by simp; omega), if_neg (by simp; omega), if_neg (by simp; omega)])
    rw [HF.out]
    go_enter Tryd.func36, Tryd.ntmps36
    go_wp2_with (go_at_call 40; refine (inR_is _ h).mono ?_; rintro e w1 ⟨rfl, rfl⟩)
    go_ret
    exact ⟨rfl, Below.refl _ _⟩
  · have h2 := h
    simp only [inR, Bool.and_eq_true, decide_eq_true_eq] at h2
    rcases (by omega : k = 1 ∨ k = 2 ∨ k = 3 ∨ k = 4 ∨ k = 5) with rfl | rfl | rfl | rfl | rfl
    all_goals
      clear h2
      go_enter Tryd.func36, Tryd.ntmps36
      go_wp2_with (go_at_call 40; refine (inR_is _ h).mono ?_; rintro e w1 ⟨rfl, rfl⟩)
      go_ret
      exact ⟨rfl, (Below.refl _ _).alloc (Nat.le_refl _) _⟩

theorem run_eqI (w : World) (d : Nat) (a b : Int) : (Op.equalIn (d + 1) 3 (.int .i64 a) (.int .i64 b)).run Tryd.prog w = .ok (a == b) w := by
  simp [Op.equalIn, run_underlying Tryd.underlying3]
theorem plainInt : Tryd.prog.plainKey 3 = true := by kernel_rfl
set_option maxRecDepth 100000 in
theorem run_eql_pair (w : World) (a b c d : Int) : (binOp .eql 101 (.agg #[.int .i64 a, .int .i64 b]) (.agg #[.int .i64 c, .int .i64 d])).run Tryd.prog w = .ok (.bool (eqP (a, b) (c, d))) w := by
  obtain ⟨i0, hi0, hz0, hz1, hz2⟩ := info_parts Tryd.infoInt
  have h := run_equalIn_array (P := Tryd.prog) w 9999 #[.int .i64 a, .int .i64 b] #[.int .i64 c, .int .i64 d] Tryd.underlying101 hi0
  have hr : List.range 2 = [0, 1] := rfl
  have p := fun (xs : Array Value) (off : Nat) (v : Value) (hx : xs[off]? = some v) => run_part_plain (P := Tryd.prog) w plainInt (xs := xs) (off := off) (v := v) hx
  have e := run_eqI w 9998
  generalize hd : (9999 : Nat) = D at *
  have hD : D = 9998 + 1 := hd.symm
  have key : (Op.eqItems D 3 1 #[.int .i64 a, .int .i64 b] #[.int .i64 c, .int .i64 d] [0, 1]).run Tryd.prog w = .ok (eqP (a, b) (c, d)) w := by
    simp only [Op.eqItems, Sem.run_bind]
    rw [p _ _ (.int .i64 a) rfl]
    simp only [Result.andThen_ok]
    rw [p _ _ (.int .i64 c) rfl]
    simp only [Result.andThen_ok]
    rw [hD, e]
    simp only [Result.andThen_ok]
    cases h1 : (a == c)
    · simp [eqP, h1]
    · simp only [Bool.not_true, Bool.false_eq_true, if_false, Sem.run_bind]
      rw [p _ _ (.int .i64 b) rfl]
      simp only [Result.andThen_ok]
      rw [p _ _ (.int .i64 d) rfl]
      simp only [Result.andThen_ok]
      rw [e]
      simp only [Result.andThen_ok]
      cases h2 : (b == d) <;> simp [eqP, h1, h2]
  rw [cellsI1, hr, key] at h
  simp only [binOp, Op.equal, Op.maxDepth, Sem.run_bind]
  rw [show (10000 : Nat) = D + 1 by rw [← hd], h]
  simp

set_option maxRecDepth 100000 in
set_option maxHeartbeats 4000000 in
theorem indexAr_walk (l : List Pl) (b o n c : Nat) (x y : Int) (W : World) (hn : n ≤ 9223372036854775807) (hl : SlAt plCells 2 W W.heap.size (some ⟨b, o, none⟩) n l) (h0 : 0 < n) :
    Calls Tryd.prog 86 #[.slice (some ⟨b, o, none⟩) n c, .agg #[.int .i64 x, .int .i64 y]] W fun e W' => e = .returned (.int .i64 (idxF (fun z => eqP (x, y) z) l)) ∧ RowKit.Below W.heap.size W W' := by
  have HL := hide hl
  clear hl
  have hb0 : Below W.heap.size W (W.alloc (.cells #[.int .i64 x, .int .i64 y] 101)) := (Below.refl _ _).alloc (Nat.le_refl _) _
  have HX0 := hide (Box2.new W x y 101)
  have hs0 : (W.alloc (.cells #[.int .i64 x, .int .i64 y] 101)).heap.size = W.heap.size + 1 := by simp
  have heq := fun w => run_eql_pair w
  go_enter Tryd.func86, Tryd.ntmps86
  go_wp2
  generalize W.alloc _ = W0 at *
  have HB0 := hide hb0
  clear hb0
  go_loopw [8] (fun i wr => ∃ k : Nat, k ≤ n ∧ i = .int .i64 k ∧ Hid (RowKit.Below W0.heap.size W0 wr) ∧ Hid (∀ j z, j < k → l[j]? = some z → eqP (x, y) z = false)) (fun i _ => n - (intOf i).toNat)
  case atStart => exact ⟨0, Nat.zero_le _, rfl, hide (RowKit.Below.refl _ _), hide (fun j r h => absurd h (by omega))⟩
  case round =>
    obtain ⟨k, hk, rfl, HB, HN⟩ := hrel
    have HBW := hide (HB0.out.trans (HB.out.mono HB0.out.size))
    by_cases hlt : k < n
    · obtain ⟨z, hz⟩ : ∃ r, l[k]? = some r := ⟨_, List.getElem?_eq_getElem (by have := HL.out.1; omega)⟩
      obtain ⟨hbB, hg⟩ := (HL.out.below HBW.out HBW.out.size).get hz
      have q0 := hg 0 _ rfl
      have q1 := hg 1 _ rfl
      obtain ⟨x0, x1, _, _⟩ := HX0.out.below HB.out (by omega)
      have HZ := hide hz
      clear hz hg
      obtain ⟨z1, z2⟩ := z
      rw [Nat.add_zero] at q0
      cases e1 : eqP (x, y) (z1, z2)
      · go_wp2
        go_quiet (fail)
        go_wp2
        go_roundw
        case rel => exact ⟨k + 1, by omega, by go_num, hide (HB.out.trans (below_drew _ _ _)), hide (fun j r hj hr => by
          rcases (by omega : j < k ∨ j = k) with h | rfl
          · exact HN.out j r h hr
          · have e := HZ.out; rw [e] at hr; cases hr; exact e1)⟩
        case measure => simp [intOf]; omega
      · have HF := hide (idxF_found (p := fun z => eqP (x, y) z) HZ.out e1 HN.out)
        go_wp2
        go_quiet (fail)
        go_wp2
        go_ret
        exact ⟨ret_i64 HF.out.symm, HBW.out.trans (below_drew _ _ _)⟩
    · have HF := hide (idxF_none (p := fun z => eqP (x, y) z) (l := l) (fun j r hj hr => HN.out j r (by have := HL.out.1; omega) hr))
      go_wp2
      go_ret
      exact ⟨ret_i64 HF.out.symm, HBW.out⟩

set_option maxRecDepth 100000 in
theorem indexAr_nil (A : Option Addr) (c : Nat) (x y : Int) (W : World) : Calls Tryd.prog 86 #[.slice A 0 c, .agg #[.int .i64 x, .int .i64 y]] W fun e W' => e = .returned (.int .i64 (-1)) ∧ RowKit.Below W.heap.size W W' := by
  go_enter Tryd.func86, Tryd.ntmps86
  go_wp2
  refine wp_loop_rounds 1 ?_
  rw [rounds_succ]
  go_wp2
  go_ret
  exact ⟨rfl, (Below.refl _ _).alloc (Nat.le_refl _) _⟩

theorem indexAr_any (l : List Pl) (A : Option Addr) (n c : Nat) (x y : Int) (W : World) (hn : n ≤ 9223372036854775807) (hl : SlAt plCells 2 W W.heap.size A n l) :
    Calls Tryd.prog 86 #[.slice A n c, .agg #[.int .i64 x, .int .i64 y]] W fun e W' => e = .returned (.int .i64 (idxF (fun z => eqP (x, y) z) l)) ∧ RowKit.Below W.heap.size W W' := by
  rcases Nat.eq_zero_or_pos n with rfl | h0
  · have : l = [] := List.eq_nil_of_length_eq_zero hl.1
    subst this
    exact indexAr_nil A c x y W
  · obtain ⟨b, o, rfl, hb, _⟩ := hl.2 h0
    exact indexAr_walk l b o n c x y W hn hl h0

set_option maxRecDepth 100000 in
theorem containsAr_any (l : List Pl) (A : Option Addr) (n c : Nat) (x y : Int) (W : World) (hn : n ≤ 9223372036854775807) (hl : SlAt plCells 2 W W.heap.size A n l) :
    Calls Tryd.prog 59 #[.slice A n c, .agg #[.int .i64 x, .int .i64 y]] W fun e W' => e = .returned (.bool (l.any fun z => eqP (x, y) z)) ∧ RowKit.Below W.heap.size W W' := by
  have hb0 : Below W.heap.size W (W.alloc (.cells #[.int .i64 x, .int .i64 y] 101)) := (Below.refl _ _).alloc (Nat.le_refl _) _
  have HC := hide (indexAr_any l A n c x y (W.alloc (.cells #[.int .i64 x, .int .i64 y] 101)) hn (hl.below hb0 hb0.size))
  have HB0 := hide hb0
  clear hl hb0
  rcases idxF_any (fun z => eqP (x, y) z) l with ⟨h1, k, h2⟩ | ⟨h1, h2⟩
  all_goals
    rw [h2] at HC
    rw [h1]
    clear h1 h2
    go_enter Tryd.func59, Tryd.ntmps59
    go_wp2_with fail
    refine HC.out.mono ?_
    rintro e w1 ⟨rfl, hb⟩
    have HB := hide (HB0.out.trans (hb.mono HB0.out.size))
    clear hb
    go_wp2
    go_ret
    exact ⟨rfl, HB.out⟩
end Go.Proofs.YtohbafigjpoijaaDoor
