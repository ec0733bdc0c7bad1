/- A match's text, as the document writes it: has, Has, rows, MatchText. -/
import Derived.Test.YtohbafigjpoijaaDoorMt7
set_option linter.unusedVariables false
set_option linter.unusedSimpArgs false
set_option maxRecDepth 100000
set_option maxHeartbeats 8000000
namespace Go.Proofs.YtohbafigjpoijaaDoor
open Go.RowKit

theorem hasN_walk (w : World) (set : Nat) (x : Int) (hs : set < 65536) (hx : i64ok x) :
    Calls Tryd.prog 54 #[.int .i64 set, .int .i64 x] w fun e W' => e = .returned (.bool (hasB set x)) ∧ w = W' := by
  by_cases h : 0 ≤ x ∧ x < 16
  · obtain ⟨n, rfl⟩ : ∃ n : Nat, x = n := ⟨x.toNat, by omega⟩
    exact has_walk w set n hs (by omega) _ (by simp [hasB]; omega)
  · have h1 : inR x 0 15 = false := by simp [inR]; omega
    have h2 : hasB set x = false := by simp [hasB]; omega
    rw [h2]
    go_enter Tryd.func54, Tryd.ntmps54
    go_wp2_with fail
    refine (inR_walk _ _ _ _).mono ?_
    rintro e w' ⟨rfl, rfl⟩
    rw [h1]
    go_wp2
    go_ret
    exact ⟨rfl, rfl⟩

theorem hasAllN_walk (w : World) (a b c d : Nat) (x y z u : Int) (ha : a < 65536) (hb : b < 65536) (hc : c < 256) (hd : d < 256) (hx : i64ok x) (hy : i64ok y) (hz : i64ok z) (hu : i64ok u) :
    Calls Tryd.prog 25 #[.agg #[.int .u16 a, .int .u16 b, .int .u8 c, .int .u8 d], .agg #[.int .i64 x, .int .i64 y, .int .i64 z, .int .i64 u]] w fun e W' =>
      e = .returned (.bool (hasB a x && hasB b y && hasB c z && hasB d u)) ∧ Below w.heap.size w W' := by
  have HB : Hid (∀ o0 o1, Below w.heap.size w ((w.alloc o0).alloc o1)) := hide (fun o0 o1 => ((Below.refl _ _).alloc (Nat.le_refl _) o0).alloc (by simp) o1)
  have H1 := hide (fun w => hasN_walk w a x (by omega) hx)
  have H2 := hide (fun w => hasN_walk w b y (by omega) hy)
  have H3 := hide (fun w => hasN_walk w c z (by omega) hz)
  have H4 := hide (fun w => hasN_walk w d u (by omega) hu)
  generalize hasB a x = B1 at *
  generalize hasB b y = B2 at *
  generalize hasB c z = B3 at *
  generalize hasB d u = B4 at *
  cases B1
  · go_enter Tryd.func25, Tryd.ntmps25
    go_wp2_with fail
    refine (H1.out _).mono ?_
    rintro e w1 ⟨rfl, rfl⟩
    skip
    go_wp2
    go_ret
    exact ⟨by simp, HB.out _ _⟩
  cases B2
  · go_enter Tryd.func25, Tryd.ntmps25
    go_wp2_with fail
    refine (H1.out _).mono ?_
    rintro e w1 ⟨rfl, rfl⟩
    (go_wp2_with fail; refine (H2.out _).mono ?_; rintro e w2 ⟨rfl, rfl⟩)
    go_wp2
    go_ret
    exact ⟨by simp, HB.out _ _⟩
  cases B3
  · go_enter Tryd.func25, Tryd.ntmps25
    go_wp2_with fail
    refine (H1.out _).mono ?_
    rintro e w1 ⟨rfl, rfl⟩
    (go_wp2_with fail; refine (H2.out _).mono ?_; rintro e w2 ⟨rfl, rfl⟩; go_wp2_with fail; refine (H3.out _).mono ?_; rintro e w3 ⟨rfl, rfl⟩)
    go_wp2
    go_ret
    exact ⟨by simp, HB.out _ _⟩
  cases B4
  all_goals
    go_enter Tryd.func25, Tryd.ntmps25
    go_wp2_with fail
    refine (H1.out _).mono ?_
    rintro e w1 ⟨rfl, rfl⟩
    (go_wp2_with fail; refine (H2.out _).mono ?_; rintro e w2 ⟨rfl, rfl⟩; go_wp2_with fail; refine (H3.out _).mono ?_; rintro e w3 ⟨rfl, rfl⟩; go_wp2_with fail; refine (H4.out _).mono ?_; rintro e w4 ⟨rfl, rfl⟩)
    go_wp2
    go_ret
    exact ⟨by simp, HB.out _ _⟩

theorem whole_iff {set most : Nat} (hs : set < 2 ^ most) : (List.range most).all set.testBit = true ↔ set = 2 ^ most - 1 := by
  rw [List.all_eq_true]
  constructor
  · intro h
    refine Nat.eq_of_testBit_eq fun i => ?_
    rw [Nat.testBit_two_pow_sub_one]
    by_cases hi : i < most
    · rw [h i (List.mem_range.2 hi)]; simp [hi]
    · rw [Nat.testBit_lt_two_pow (Nat.lt_of_lt_of_le hs (Nat.pow_le_pow_right (by decide) (by omega)))]; simp [hi]
  · rintro rfl i hi
    rw [Nat.testBit_two_pow_sub_one]; simpa using hi
theorem wordF_ref {set most : Nat} (hs : set < 2 ^ most) (h0 : 0 < most) :
    wordF set most = if (List.range most).all set.testBit = true then [42] else if refRows set.testBit most 0 = [] then [45] else joinF [44] ((refRows set.testBit most 0).map rowT) := by
  have h2 : 2 ≤ 2 ^ most := by
    have := Nat.pow_le_pow_right (n := 2) (by decide) (show 1 ≤ most by omega)
    simpa using this
  rw [ref_rows _ _ _ (.inl rfl), wordF]
  by_cases hz : set = 0
  · have hne : set ≠ 2 ^ most - 1 := by omega
    have hnil : rowsF set.testBit most 0 = [] := by
      rw [List.eq_nil_iff_forall_not_mem]
      intro r hr
      have := rows_mem _ _ _ r hr
      have h := this.2.2.2 r.1 (Nat.le_refl _) this.2.1
      rw [hz, Nat.zero_testBit] at h; cases h
    rw [if_pos hz, if_neg (fun h => hne ((whole_iff hs).1 h)), if_pos hnil]
  · rw [if_neg hz]
    by_cases hw : set = 2 ^ most - 1
    · rw [if_pos hw, if_pos ((whole_iff hs).2 hw)]
    · rw [if_neg hw, if_neg (fun h => hw ((whole_iff hs).1 h)), if_neg (rows_ne hs hz)]
theorem ref_mem (S : Nat → Bool) (most : Nat) : ∀ r ∈ refRows S most 0, r.1 < most ∧ r.2 < most := by
  rw [ref_rows _ _ _ (.inl rfl)]
  intro r hr
  have := rows_mem S most 0 r hr
  omega
end Go.Proofs.YtohbafigjpoijaaDoor
