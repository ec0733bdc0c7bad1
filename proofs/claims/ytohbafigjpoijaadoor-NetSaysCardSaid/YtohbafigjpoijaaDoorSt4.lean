/- A packet's text: packet.end, Print, ends, Parse; wireref.PacketText. -/
import Derived.Test.YtohbafigjpoijaaDoorSt3
import Derived.Test.YtohbafigjpoijaaDoorShD
import Derived.Test.YtohbafigjpoijaaDoorPkCode
set_option linter.unusedVariables false
set_option linter.unusedSimpArgs false
set_option maxRecDepth 100000
set_option maxHeartbeats 4000000
namespace Go.Proofs.YtohbafigjpoijaaDoor
open Go.RowKit

/-- The library's variable that strings.Cut and Split ask. -/
def MaxAt (w : World) : Prop := 0 < w.heap.size ∧ ∃ m : Int, w.cell? ⟨0, 0, none⟩ = some (.int .i64 m)
theorem MaxAt.below {w w' : World} (h : MaxAt w) (hb : Below w.heap.size w w') : MaxAt w' :=
  ⟨Nat.lt_of_lt_of_le h.1 hb.size, h.2.imp fun m e => (hb.cell (p := ⟨_, 0, none⟩) h.1).trans e⟩
theorem below_drewN (w : World) (n : Nat) : Below w.heap.size w (w.drewN n) := ⟨rfl, rfl, rfl, Nat.le_refl _, fun _ _ => rfl⟩
theorem cut_walk (s : ByteArray) (b : UInt8) (w : World) (hs : s.size ≤ 1048576) (hm : MaxAt w) :
    Calls Tryd.prog 44 #[.string s, .string ⟨#[b]⟩] w fun e w' => e = .returned (.tuple #[strV (cutB b s.data.toList).1, strV (cutB b s.data.toList).2, .bool (decide (b ∈ s.data.toList))]) ∧ Below w.heap.size w w' := by
  obtain ⟨_, m, hm⟩ := hm
  refine (Tryd.strings_Cut s ⟨#[b]⟩ m w (by omega) hm).mono ?_
  rintro e w' ⟨rfl, n, rfl⟩
  have : (⟨#[b]⟩ : ByteArray).data.toList = [b] := rfl
  rw [this, cut_one]
  exact ⟨rfl, below_drewN w n⟩

theorem add_run (x y : List UInt8) (hx : x.length ≤ 1000000) (hy : y.length ≤ 1000000) (w : World) : (Op.stringOp .add ⟨x.toArray⟩ ⟨y.toArray⟩).run Tryd.prog w = .ok (.string ⟨(x ++ y).toArray⟩) w :=
  run_string_add_lists w x y (by omega) (by omega)

theorem dec_len2 {u : Nat} (h : u < 100) : (Lib.decDigits u).length ≤ 2 := dec_len u 1 (by omega)

theorem end_walk (a p : Nat) (ha : a < 100) (hp : p < 100) (w : World) :
    Calls Tryd.prog 43 #[.int .i64 (a : Int), .int .i64 (p : Int)] w fun e w' => e = .returned (strV (endT a p)) ∧ w = w' := by
  have HI := hide (fun (u : Nat) (h : u < 100) (w : World) => Tryd.strconv_Itoa_small u h w)
  have hl1 := dec_len2 ha
  have hl2 := dec_len2 hp
  have HR := hide (show strV (endT a p) = .string ⟨(Lib.decDigits a ++ 58 :: Lib.decDigits p).toArray⟩ from rfl)
  rw [HR.out]
  generalize hA : Lib.decDigits a = X at *
  generalize hP : Lib.decDigits p = Y at *
  have HA := hide hA
  have HP := hide hP
  clear hA hP
  have e1 : ∀ w', (Op.stringOp .add ⟨X.toArray⟩ ⟨#[58]⟩).run Tryd.prog w' = .ok (.string ⟨(X ++ [58]).toArray⟩) w' := add_run X [58] (by omega) (by simp)
  have e2 : ∀ w', (Op.stringOp .add ⟨(X ++ [58]).toArray⟩ ⟨Y.toArray⟩).run Tryd.prog w' = .ok (.string ⟨(X ++ [58] ++ Y).toArray⟩) w' := add_run (X ++ [58]) Y (by simp; omega) (by omega)
  go_enter Tryd.func43, Tryd.ntmps43
  go_wp2_with (first | (go_at_call_of 41 (Value.int .i64 (a : Int)); refine (HI.out a ha _).mono ?_; rw [HA.out]; rintro e w1 ⟨rfl, rfl⟩) | (go_at_call_of 41 (Value.int .i64 (p : Int)); refine (HI.out p hp _).mono ?_; rw [HP.out]; rintro e w1 ⟨rfl, rfl⟩))
  go_ret
  exact ⟨rfl, rfl⟩

theorem num_walk (x : List UInt8) (most : Int) (w : World) : Calls Tryd.prog 81 #[.string ⟨x.toArray⟩, .int .i64 most] w fun e w' => e = .returned (.int .i64 (numF x most)) ∧ w = w' := number_walk ⟨x.toArray⟩ most w
theorem dig_walk (x : List UInt8) (most : Int) (w : World) (h : most ≤ 1000000) : Calls Tryd.prog 47 #[.string ⟨x.toArray⟩, .int .i64 most] w fun e w' => e = .returned (.int .i64 (numF x (most + 1))) ∧ w = w' := digits_walk ⟨x.toArray⟩ most w h

theorem ends_walk (l : List UInt8) (w : World) (hs : l.length ≤ 1048576) (hm : MaxAt w) :
    Calls Tryd.prog 45 #[.string ⟨l.toArray⟩] w fun e w' => e = .returned (.tuple #[.int .i64 (endsF l).1, .int .i64 (endsF l).2, .bool (goodE (endsF l))]) ∧ Below w.heap.size w w' := by
  have HC := hide (cut_walk ⟨l.toArray⟩ 58 w (by rw [← sz_list]; simpa using hs) hm)
  have HE := hide (show endsF l = (numF (cutB 58 l).1 16, numF (cutB 58 l).2 8) from rfl)
  obtain ⟨X, hX⟩ : ∃ X, (cutB 58 l).1 = X := ⟨_, rfl⟩
  obtain ⟨Y, hY⟩ : ∃ Y, (cutB 58 l).2 = Y := ⟨_, rfl⟩
  have HC2 := hide (HC.out.mono (fun e w' h => show e = .returned (.tuple #[.string ⟨X.toArray⟩, .string ⟨Y.toArray⟩, .bool (decide (58 ∈ l))]) ∧ Below w.heap.size w w' from by rw [← hX, ← hY]; exact h))
  rw [hX, hY] at HE
  clear HC hX hY
  rw [HE.out]
  have HX := hide (fun w => num_walk X 16 w)
  have HY := hide (fun w => num_walk Y 8 w)
  obtain ⟨A, hA⟩ : ∃ A, numF X 16 = A := ⟨_, rfl⟩
  obtain ⟨B, hB⟩ : ∃ B, numF Y 8 = B := ⟨_, rfl⟩
  rw [hA] at HX ⊢
  rw [hB] at HY ⊢
  clear hA hB HE
  go_enter Tryd.func45, Tryd.ntmps45
  go_wp2_with fail
  refine HC2.out.mono ?_
  rintro e w1 ⟨rfl, hb⟩
  have HB := hide hb
  clear hb HC2
  by_cases h1 : 0 ≤ A
  · by_cases h2 : 0 ≤ B
    · go_wp2_with (first | (go_at_call_of 81 (Value.string ⟨X.toArray⟩); refine (HX.out _).mono ?_; rintro e w2 ⟨rfl, rfl⟩) | (go_at_call_of 81 (Value.string ⟨Y.toArray⟩); refine (HY.out _).mono ?_; rintro e w2 ⟨rfl, rfl⟩))
      go_ret3
      exact ⟨by simp [goodE, h1, h2], HB.out⟩
    · have h3 : decide (0 ≤ B) = false := by simp; omega
      go_wp2_with (first | (go_at_call_of 81 (Value.string ⟨X.toArray⟩); refine (HX.out _).mono ?_; rintro e w2 ⟨rfl, rfl⟩) | (go_at_call_of 81 (Value.string ⟨Y.toArray⟩); refine (HY.out _).mono ?_; rintro e w2 ⟨rfl, rfl⟩))
      go_ret3
      exact ⟨by simp [goodE]; omega, HB.out⟩
  · have h3 : decide (0 ≤ A) = false := by simp; omega
    go_wp2_with (first | (go_at_call_of 81 (Value.string ⟨X.toArray⟩); refine (HX.out _).mono ?_; rintro e w2 ⟨rfl, rfl⟩) | (go_at_call_of 81 (Value.string ⟨Y.toArray⟩); refine (HY.out _).mono ?_; rintro e w2 ⟨rfl, rfl⟩))
    go_ret3
    exact ⟨by simp [goodE]; omega, HB.out⟩
end Go.Proofs.YtohbafigjpoijaaDoor
