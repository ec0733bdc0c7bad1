/- (*step.Memory).mine. -/
import Derived.Test.YtidikopjfpioaaaStepF
import Derived.Test.YtidikopjfpioaaaRegE
set_option linter.unusedVariables false
set_option linter.unusedSimpArgs false
namespace Go.Proofs.Ytidikopjfpioaaa
open Go.RowKit Go.Maps

theorem retI {a b : Int} (h : a = b) : Ending.returned (.int .i64 a) = Ending.returned (.int .i64 b) := by rw [h]
theorem mineG_step (M : MS) (i : Int) (o : Int × Int) {k : Nat} (hk : k < 8) : mineG M i o (8 - k) k = if M.O (i, (k : Int)) = some o then (k : Int) else mineG M i o (8 - (k + 1)) (k + 1) := by
  obtain ⟨m, hm⟩ : ∃ m, 8 - k = m + 1 := ⟨7 - k, by omega⟩
  rw [hm, show 8 - (k + 1) = m by omega]
  rfl

theorem mine_ok (M : MS) (i : Int) (o : Int × Int) : ∀ (m k : Nat), m + k ≤ 8 → i64ok (mineG M i o m k)
  | 0, _, _ => by simp [mineG, i64ok]
  | m + 1, k, h => by
    unfold mineG
    split
    · unfold i64ok; omega
    · exact mine_ok M i o m (k + 1) (by omega)
set_option maxRecDepth 100000 in
set_option maxHeartbeats 8000000 in
theorem mine_walk (g : Nat) (n : NetV) (f o b : Nat) (M : MS) (N : Nat) (i a c : Int) (W : World) (hM : MemAt W g n f o b M N) (hi : i64ok i) :
    Calls Try.prog 149 #[.pointer (some ⟨g, 0, none⟩), .int .i64 i, .agg #[.int .i64 a, .int .i64 c]] W fun e W' => e = .returned (.int .i64 (mineF M i (a, c))) ∧ Below W.heap.size W W' := by
  have HMA := hide (fun (w' : World) (hb : Below W.heap.size W w') => hM.below hb)
  have hgl := hM.glt
  clear hM
  go_enter Try.func149, Try.ntmps149
  go_wp2
  have hb0 : Below W.heap.size W (W.alloc (.cells #[.int .i64 a, .int .i64 c] 167)) := (Below.refl _ _).alloc (Nat.le_refl _) _
  have hx0 := BoxV.new W #[.int .i64 a, .int .i64 c] 167
  have hz0 : (W.alloc (.cells #[.int .i64 a, .int .i64 c] 167)).heap.size = W.heap.size + 1 := by simp
  generalize World.alloc W _ = W0 at *
  have HX0 := hide (fun (w' : World) (hb : Below W0.heap.size W0 w') => show BoxV w' W.heap.size #[.int .i64 a, .int .i64 c] ∧ MemAt w' g n f o b M N ∧ Below W.heap.size W w' from
    ⟨hx0.below hb (by omega), HMA.out _ (hb0.trans (hb.mono (by omega))), hb0.trans (hb.mono (by omega))⟩)
  clear hb0 hx0 HMA
  go_loopw [10] (fun j wr => ∃ k : Nat, k ≤ 8 ∧ j = .int .i64 k ∧ Hid (Below W0.heap.size W0 wr) ∧ Hid (mineF M i (a, c) = mineG M i (a, c) (8 - k) k)) (fun j _ => 8 - (intOf j).toNat)
  case atStart => exact ⟨0, by omega, rfl, hide (Below.refl _ _), hide rfl⟩
  case round =>
    obtain ⟨k, hk, rfl, HB, HE⟩ := hrel
    by_cases hlt : k < 8
    · obtain ⟨hbx, hm, _⟩ := HX0.out _ HB.out
      have c3 := hm.c3
      have l3 := hm.lookO (i, (k : Int)) ⟨hi, by unfold i64ok; omega⟩
      have n1 : W.heap.size ≠ wr.heap.size := by have := HB.out.size; omega
      have n2 : g ≠ wr.heap.size := by have := HB.out.size; omega
      have y0 := fun o' => ((HX0.out _ (HB.out.alloc HB.out.size o')).1).1 0 _ rfl
      have y1 := fun o' => ((HX0.out _ (HB.out.alloc HB.out.size o')).1).1 1 _ rfl
      have HS := hide (HE.out.trans (mineG_step M i (a, c) hlt))
      have HA := hide (fun o' => HB.out.alloc HB.out.size o')
      clear hbx hm HE
      simp only [poVal, ownV] at l3
      cases hO : M.O (i, (k : Int)) with
      | none =>
        simp only [hO, Option.getD_none, Option.isSome_none] at l3
        have HN := hide (show mineF M i (a, c) = mineG M i (a, c) (8 - (k + 1)) (k + 1) from by rw [HS.out, if_neg (by rw [hO]; simp)])
        clear hO HS
        go_wp2
        go_roundw
        case rel => exact ⟨k + 1, by omega, by go_num, hide (HA.out _), HN⟩
        case measure => simp [intOf]; omega
      | some x =>
        obtain ⟨u, v⟩ := x
        simp only [hO, Option.getD_some, Option.isSome_some] at l3
        by_cases e1 : u = a
        · by_cases e2 : v = c
          · subst e1 e2
            have HN := hide (show mineF M i (u, v) = (k : Int) from by rw [HS.out, if_pos hO])
            clear hO HS
            go_wp2
            go_ret
            exact ⟨retI HN.out.symm, (HX0.out _ (HA.out _)).2.2⟩
          · have HN := hide (show mineF M i (a, c) = mineG M i (a, c) (8 - (k + 1)) (k + 1) from by rw [HS.out, if_neg (by rw [hO]; simp [e2])])
            have d2 : (v == c) = false := by simpa using e2
            subst e1
            clear hO HS
            go_wp2
            go_roundw
            case rel => exact ⟨k + 1, by omega, by go_num, hide (HA.out _), HN⟩
            case measure => simp [intOf]; omega
        · have HN := hide (show mineF M i (a, c) = mineG M i (a, c) (8 - (k + 1)) (k + 1) from by rw [HS.out, if_neg (by rw [hO]; simp [e1])])
          have d1 : (u == a) = false := by simpa using e1
          clear hO HS
          go_wp2
          go_roundw
          case rel => exact ⟨k + 1, by omega, by go_num, hide (HA.out _), HN⟩
          case measure => simp [intOf]; omega
    · obtain rfl : k = 8 := by omega
      go_wp2
      go_ret
      exact ⟨retI (by rw [HE.out]; rfl), (HX0.out _ HB.out).2.2⟩
end Go.Proofs.Ytidikopjfpioaaa
