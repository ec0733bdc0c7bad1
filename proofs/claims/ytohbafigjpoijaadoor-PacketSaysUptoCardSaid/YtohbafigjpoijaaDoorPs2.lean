/- A part of the proof: St4, St5, St6, PkOf, St7. -/
import Derived.Test.YtohbafigjpoijaaDoorPs1
import Derived.Deep.QuietTactic
import Derived.BigQuiet
import Derived.Deep.RegionHeld3
set_option linter.unusedVariables false
set_option linter.unusedSimpArgs false
set_option maxRecDepth 100000
set_option maxHeartbeats 4000000
namespace Go.Proofs.YtohbafigjpoijaaDoor
open Go.RowKit
def MaxAt (w : World) : Prop := 0 < w.heap.size ∧ ∃ m : Int, w.cell? ⟨0, 0, none⟩ = some (.int .i64 m)
theorem MaxAt.below {w w' : World} (h : MaxAt w) (hb : Below w.heap.size w w') : MaxAt w' :=
  ⟨Nat.lt_of_lt_of_le h.1 hb.size, h.2.imp fun m e => (hb.cell (p := ⟨_, 0, none⟩) h.1).trans e⟩
theorem below_drewN (w : World) (n : Nat) : Below w.heap.size w (w.drewN n) := ⟨rfl, rfl, rfl, Nat.le_refl _, fun _ _ => rfl⟩
theorem cut_walk (s : ByteArray) (b : UInt8) (w : World) (hs : s.size ≤ 1048576) (hm : MaxAt w) :
    Calls Tryd.prog 44 #[.string s, .string ⟨#[b]⟩] w fun e w' => e = .returned (.tuple #[strV (cutB b s.data.toList).1, strV (cutB b s.data.toList).2, .bool (decide (b ∈ s.data.toList))]) ∧ Below w.heap.size w w' := by
  obtain ⟨_, m, hm⟩ := hm
  refine (Tryd.strings_Cut s ⟨#[b]⟩ m w (by omega) hm).mono ?_
  rintro e w' ⟨rfl, n, rfl⟩
  have : (⟨#[b]⟩ : ByteArray).data.toList = [b] := rfl
  rw [this, cut_one]
  exact ⟨rfl, below_drewN w n⟩
theorem add_run (x y : List UInt8) (hx : x.length ≤ 1000000) (hy : y.length ≤ 1000000) (w : World) : (Op.stringOp .add ⟨x.toArray⟩ ⟨y.toArray⟩).run Tryd.prog w = .ok (.string ⟨(x ++ y).toArray⟩) w :=
  run_string_add_lists w x y (by omega) (by omega)
theorem dec_len2 {u : Nat} (h : u < 100) : (Lib.decDigits u).length ≤ 2 := dec_len u 1 (by omega)
theorem end_walk (a p : Nat) (ha : a < 100) (hp : p < 100) (w : World) :
    Calls Tryd.prog 43 #[.int .i64 (a : Int), .int .i64 (p : Int)] w fun e w' => e = .returned (strV (endT a p)) ∧ w = w' := by
  have HI := hide (fun (u : Nat) (h : u < 100) (w : World) => Tryd.strconv_Itoa_small u h w)
  have hl1 := dec_len2 ha
  have hl2 := dec_len2 hp
  have HR := hide (show strV (endT a p) = .string ⟨(Lib.decDigits a ++ 58 :: Lib.decDigits p).toArray⟩ from rfl)
  rw [HR.out]
  generalize hA : Lib.decDigits a = X at *
  generalize hP : Lib.decDigits p = Y at *
  have HA := hide hA
  have HP := hide hP
  clear hA hP
  have e1 : ∀ w', (Op.stringOp .add ⟨X.toArray⟩ ⟨#[58]⟩).run Tryd.prog w' = .ok (.string ⟨(X ++ [58]).toArray⟩) w' := add_run X [58] (by omega) (by simp)
  have e2 : ∀ w', (Op.stringOp .add ⟨(X ++ [58]).toArray⟩ ⟨Y.toArray⟩).run Tryd.prog w' = .ok (.string ⟨(X ++ [58] ++ Y).toArray⟩) w' := add_run (X ++ [58]) Y (by simp; omega) (by omega)
  go_enter Tryd.func43, Tryd.ntmps43
  go_wp2_with (first | (go_at_call_of 41 (Value.int .i64 (a : Int)); refine (HI.out a ha _).mono ?_; rw [HA.out]; rintro e w1 ⟨rfl, rfl⟩) | (go_at_call_of 41 (Value.int .i64 (p : Int)); refine (HI.out p hp _).mono ?_; rw [HP.out]; rintro e w1 ⟨rfl, rfl⟩))
  go_ret
  exact ⟨rfl, rfl⟩
theorem num_walk (x : List UInt8) (most : Int) (w : World) : Calls Tryd.prog 81 #[.string ⟨x.toArray⟩, .int .i64 most] w fun e w' => e = .returned (.int .i64 (numF x most)) ∧ w = w' := number_walk ⟨x.toArray⟩ most w
theorem dig_walk (x : List UInt8) (most : Int) (w : World) (h : most ≤ 1000000) : Calls Tryd.prog 47 #[.string ⟨x.toArray⟩, .int .i64 most] w fun e w' => e = .returned (.int .i64 (numF x (most + 1))) ∧ w = w' := digits_walk ⟨x.toArray⟩ most w h
theorem ends_walk (l : List UInt8) (w : World) (hs : l.length ≤ 1048576) (hm : MaxAt w) :
    Calls Tryd.prog 45 #[.string ⟨l.toArray⟩] w fun e w' => e = .returned (.tuple #[.int .i64 (endsF l).1, .int .i64 (endsF l).2, .bool (goodE (endsF l))]) ∧ Below w.heap.size w w' := by
  have HC := hide (cut_walk ⟨l.toArray⟩ 58 w (by rw [← sz_list]; simpa using hs) hm)
  have HE := hide (show endsF l = (numF (cutB 58 l).1 16, numF (cutB 58 l).2 8) from rfl)
  obtain ⟨X, hX⟩ : ∃ X, (cutB 58 l).1 = X := ⟨_, rfl⟩
  obtain ⟨Y, hY⟩ : ∃ Y, (cutB 58 l).2 = Y := ⟨_, rfl⟩
  have HC2 := hide (HC.out.mono (fun e w' h => show e = .returned (.tuple #[.string ⟨X.toArray⟩, .string ⟨Y.toArray⟩, .bool (decide (58 ∈ l))]) ∧ Below w.heap.size w w' from by rw [← hX, ← hY]; exact h))
  rw [hX, hY] at HE
  clear HC hX hY
  rw [HE.out]
  have HX := hide (fun w => num_walk X 16 w)
  have HY := hide (fun w => num_walk Y 8 w)
  obtain ⟨A, hA⟩ : ∃ A, numF X 16 = A := ⟨_, rfl⟩
  obtain ⟨B, hB⟩ : ∃ B, numF Y 8 = B := ⟨_, rfl⟩
  rw [hA] at HX ⊢
  rw [hB] at HY ⊢
  clear hA hB HE
  go_enter Tryd.func45, Tryd.ntmps45
  go_wp2_with fail
  refine HC2.out.mono ?_
  rintro e w1 ⟨rfl, hb⟩
  have HB := hide hb
  clear hb HC2
  by_cases h1 : 0 ≤ A
  · by_cases h2 : 0 ≤ B
    · go_wp2_with (first | (go_at_call_of 81 (Value.string ⟨X.toArray⟩); refine (HX.out _).mono ?_; rintro e w2 ⟨rfl, rfl⟩) | (go_at_call_of 81 (Value.string ⟨Y.toArray⟩); refine (HY.out _).mono ?_; rintro e w2 ⟨rfl, rfl⟩))
      go_ret3
      exact ⟨by simp [goodE, h1, h2], HB.out⟩
    · have h3 : decide (0 ≤ B) = false := by simp; omega
      go_wp2_with (first | (go_at_call_of 81 (Value.string ⟨X.toArray⟩); refine (HX.out _).mono ?_; rintro e w2 ⟨rfl, rfl⟩) | (go_at_call_of 81 (Value.string ⟨Y.toArray⟩); refine (HY.out _).mono ?_; rintro e w2 ⟨rfl, rfl⟩))
      go_ret3
      exact ⟨by simp [goodE]; omega, HB.out⟩
  · have h3 : decide (0 ≤ A) = false := by simp; omega
    go_wp2_with (first | (go_at_call_of 81 (Value.string ⟨X.toArray⟩); refine (HX.out _).mono ?_; rintro e w2 ⟨rfl, rfl⟩) | (go_at_call_of 81 (Value.string ⟨Y.toArray⟩); refine (HY.out _).mono ?_; rintro e w2 ⟨rfl, rfl⟩))
    go_ret3
    exact ⟨by simp [goodE]; omega, HB.out⟩
theorem endT_len {a p : Nat} (ha : a < 100) (hp : p < 100) : (endT a p).length ≤ 5 := by
  have := dec_len2 ha; have := dec_len2 hp
  simp [endT]; omega
def printF (p : P4) : List UInt8 := if rightB p then packT p else []
theorem print_walk (p : P4) (W : World) :
    Calls Tryd.prog 16 #[.agg #[.int .i64 p.src, .int .i64 p.dst, .int .i64 p.sport, .int .i64 p.dport]] W fun e W' => e = .returned (.tuple #[strV (printF p), .int .i64 (if rightB p then 0 else 1)]) ∧ Below W.heap.size W W' := by
  have HC := hide (fun (w : World) => packetCheck_walk p w)
  cases hR : rightB p with
  | false =>
    simp only [hR] at HC
    have HF := hide (show strV (printF p) = .string ⟨#[]⟩ by simp [printF, hR, strV])
    rw [HF.out]
    obtain ⟨a, b, c, d⟩ := p
    clear hR
    go_enter Tryd.func16, Tryd.ntmps16
    go_wp2_with fail
    have hb0 := (Below.refl W.heap.size W).alloc (Nat.le_refl _) (.cells #[.int .i64 a, .int .i64 b, .int .i64 c, .int .i64 d] 23)
    refine (HC.out _).mono ?_
    rintro e w1 ⟨rfl, hb⟩
    have HB := hide (hb0.trans (hb.mono hb0.size))
    clear hb hb0
    go_wp2
    go_ret2
    exact ⟨rfl, HB.out⟩
  | true =>
    simp only [hR] at HC
    obtain ⟨a, b, c, d, rfl, h1, h2, h3, h4⟩ := right_nats hR
    have HF := hide (show strV (printF ⟨(a : Int), (b : Int), (c : Int), (d : Int)⟩) = .string ⟨(endT a c ++ 62 :: endT b d).toArray⟩ by simp [printF, hR, packT, strV])
    rw [HF.out]
    have l1 := endT_len (show a < 100 by omega) (show c < 100 by omega)
    have l2 := endT_len (show b < 100 by omega) (show d < 100 by omega)
    have HX := hide (fun w => (end_walk a c (by omega) (by omega) w).mono (fun e w' h => show e = .returned (.string ⟨(endT a c).toArray⟩) ∧ w' = w from ⟨h.1, h.2.symm⟩))
    have HY := hide (fun w => (end_walk b d (by omega) (by omega) w).mono (fun e w' h => show e = .returned (.string ⟨(endT b d).toArray⟩) ∧ w' = w from ⟨h.1, h.2.symm⟩))
    generalize endT a c = X at *
    generalize endT b d = Y at *
    have e1 : ∀ w', (Op.stringOp .add ⟨X.toArray⟩ ⟨#[62]⟩).run Tryd.prog w' = .ok (.string ⟨(X ++ [62]).toArray⟩) w' := add_run X [62] (by omega) (by simp)
    have e2 : ∀ w', (Op.stringOp .add ⟨(X ++ [62]).toArray⟩ ⟨Y.toArray⟩).run Tryd.prog w' = .ok (.string ⟨(X ++ 62 :: Y).toArray⟩) w' := fun w' => by
      have := add_run (X ++ [62]) Y (by simp; omega) (by omega) w'
      simpa using this
    clear hR HF l1 l2
    go_enter Tryd.func16, Tryd.ntmps16
    go_wp2_with fail
    have hb0 := (Below.refl W.heap.size W).alloc (Nat.le_refl _) (.cells #[.int .i64 (a : Int), .int .i64 (b : Int), .int .i64 (c : Int), .int .i64 (d : Int)] 23)
    have HX0 := hide (heap_alloc_new W (.cells #[.int .i64 (a : Int), .int .i64 (b : Int), .int .i64 (c : Int), .int .i64 (d : Int)] 23))
    refine (HC.out _).mono ?_
    rintro e w1 ⟨rfl, hb⟩
    have HB := hide (hb0.trans (hb.mono hb0.size))
    have hx := (hb.block W.heap.size (by simp)).trans HX0.out
    have x0 : w1.cell? ⟨W.heap.size, 0, none⟩ = some (.int .i64 (a : Int)) := by rw [cell_of_row _ _ _ _ _ _ hx]; rfl
    have x1 : w1.cell? ⟨W.heap.size, 1, none⟩ = some (.int .i64 (b : Int)) := by rw [cell_of_row _ _ _ _ _ _ hx]; rfl
    have x2 : w1.cell? ⟨W.heap.size, 2, none⟩ = some (.int .i64 (c : Int)) := by rw [cell_of_row _ _ _ _ _ _ hx]; rfl
    have x3 : w1.cell? ⟨W.heap.size, 3, none⟩ = some (.int .i64 (d : Int)) := by rw [cell_of_row _ _ _ _ _ _ hx]; rfl
    clear hb hb0 hx HX0
    go_wp2
    go_quiet (first | (go_at_call_of 43 (Value.int .i64 (a : Int)); exact Calls.quiet_of_same (HX.out _)) | (go_at_call_of 43 (Value.int .i64 (b : Int)); exact Calls.quiet_of_same (HY.out _)))
    go_wp2
    go_ret2
    exact ⟨rfl, HB.out.trans ((below_drewN w1 _).mono HB.out.size)⟩
theorem packetText_walk (a b c d : Nat) (h1 : a < 100) (h2 : b < 100) (h3 : c < 100) (h4 : d < 100) (W : World) :
    Calls Tryd.prog 12 #[.agg #[.int .i64 (a : Int), .int .i64 (b : Int), .int .i64 (c : Int), .int .i64 (d : Int)]] W fun e W' => e = .returned (.string ⟨(endT a c ++ 62 :: endT b d).toArray⟩) ∧ Below W.heap.size W W' := by
  have HI := hide (fun (u : Nat) (h : u < 100) (w : World) => Tryd.strconv_Itoa_small u h w)
  have l1 := dec_len2 h1
  have l2 := dec_len2 h2
  have l3 := dec_len2 h3
  have l4 := dec_len2 h4
  simp only [endT]
  have HA := hide (HI.out a h1)
  have HB := hide (HI.out b h2)
  have HC := hide (HI.out c h3)
  have HD := hide (HI.out d h4)
  generalize Lib.decDigits a = X at *
  generalize Lib.decDigits b = Y at *
  generalize Lib.decDigits c = Z at *
  generalize Lib.decDigits d = U at *
  have e1 : ∀ w', (Op.stringOp .add ⟨X.toArray⟩ ⟨#[58]⟩).run Tryd.prog w' = .ok (.string ⟨(X ++ [58]).toArray⟩) w' := add_run X [58] (by omega) (by simp)
  have e2 : ∀ w', (Op.stringOp .add ⟨(X ++ [58]).toArray⟩ ⟨Z.toArray⟩).run Tryd.prog w' = .ok (.string ⟨(X ++ 58 :: Z).toArray⟩) w' := fun w' => by
    have := add_run (X ++ [58]) Z (by simp; omega) (by omega) w'
    simpa using this
  have e3 : ∀ w', (Op.stringOp .add ⟨(X ++ 58 :: Z).toArray⟩ ⟨#[62]⟩).run Tryd.prog w' = .ok (.string ⟨(X ++ 58 :: (Z ++ [62])).toArray⟩) w' := fun w' => by
    have := add_run (X ++ 58 :: Z) [62] (by simp; omega) (by simp) w'
    simpa using this
  have e4 : ∀ w', (Op.stringOp .add ⟨(X ++ 58 :: (Z ++ [62])).toArray⟩ ⟨Y.toArray⟩).run Tryd.prog w' = .ok (.string ⟨(X ++ 58 :: (Z ++ 62 :: Y)).toArray⟩) w' := fun w' => by
    have := add_run (X ++ 58 :: (Z ++ [62])) Y (by simp; omega) (by omega) w'
    simpa using this
  have e5 : ∀ w', (Op.stringOp .add ⟨(X ++ 58 :: (Z ++ 62 :: Y)).toArray⟩ ⟨#[58]⟩).run Tryd.prog w' = .ok (.string ⟨(X ++ 58 :: (Z ++ 62 :: (Y ++ [58]))).toArray⟩) w' := fun w' => by
    have := add_run (X ++ 58 :: (Z ++ 62 :: Y)) [58] (by simp; omega) (by simp) w'
    simpa using this
  have e6 : ∀ w', (Op.stringOp .add ⟨(X ++ 58 :: (Z ++ 62 :: (Y ++ [58]))).toArray⟩ ⟨U.toArray⟩).run Tryd.prog w' = .ok (.string ⟨(X ++ 58 :: (Z ++ 62 :: (Y ++ 58 :: U))).toArray⟩) w' := fun w' => by
    have := add_run (X ++ 58 :: (Z ++ 62 :: (Y ++ [58]))) U (by simp; omega) (by omega) w'
    simpa using this
  clear l1 l2 l3 l4 HI
  have hb0 := (Below.refl W.heap.size W).alloc (Nat.le_refl _) (.cells #[.int .i64 (a : Int), .int .i64 (b : Int), .int .i64 (c : Int), .int .i64 (d : Int)] 23)
  have hx := heap_alloc_new W (.cells #[.int .i64 (a : Int), .int .i64 (b : Int), .int .i64 (c : Int), .int .i64 (d : Int)] 23)
  go_enter Tryd.func12, Tryd.ntmps12
  go_wp2_with fail
  generalize W.alloc (.cells #[.int .i64 (a : Int), .int .i64 (b : Int), .int .i64 (c : Int), .int .i64 (d : Int)] 23) = w1 at *
  have x0 : w1.cell? ⟨W.heap.size, 0, none⟩ = some (.int .i64 (a : Int)) := by rw [cell_of_row _ _ _ _ _ _ hx]; rfl
  have x1 : w1.cell? ⟨W.heap.size, 1, none⟩ = some (.int .i64 (b : Int)) := by rw [cell_of_row _ _ _ _ _ _ hx]; rfl
  have x2 : w1.cell? ⟨W.heap.size, 2, none⟩ = some (.int .i64 (c : Int)) := by rw [cell_of_row _ _ _ _ _ _ hx]; rfl
  have x3 : w1.cell? ⟨W.heap.size, 3, none⟩ = some (.int .i64 (d : Int)) := by rw [cell_of_row _ _ _ _ _ _ hx]; rfl
  have HB0 := hide hb0
  clear hx hb0
  go_quiet (first | (go_at_call_of 41 (Value.int .i64 (a : Int)); exact Calls.quiet_of_same (HA.out _)) | (go_at_call_of 41 (Value.int .i64 (b : Int)); exact Calls.quiet_of_same (HB.out _)) | (go_at_call_of 41 (Value.int .i64 (c : Int)); exact Calls.quiet_of_same (HC.out _)) | (go_at_call_of 41 (Value.int .i64 (d : Int)); exact Calls.quiet_of_same (HD.out _)))
  go_wp2
  go_ret
  exact ⟨by simp, HB0.out.trans ((below_drewN w1 _).mono HB0.out.size)⟩
theorem heap_lt {w : World} {b : Nat} {o : Obj} (h : w.heap[b]? = some o) : b < w.heap.size := (Array.getElem?_eq_some_iff.1 h).1
theorem cells4f {w : World} {b : Nat} {x0 x1 x2 x3 : Value} {t : TypeId} (h : w.heap[b]? = some (.cells #[x0, x1, x2, x3] t)) :
    w.cell? ⟨b, 0, none⟩ = some x0 ∧ w.cell? ⟨b, 1, none⟩ = some x1 ∧ w.cell? ⟨b, 2, none⟩ = some x2 ∧ w.cell? ⟨b, 3, none⟩ = some x3 ∧
    w.frozen? ⟨b, 0, none⟩ = false ∧ w.frozen? ⟨b, 1, none⟩ = false ∧ w.frozen? ⟨b, 2, none⟩ = false ∧ w.frozen? ⟨b, 3, none⟩ = false :=
  ⟨by rw [cell_of_row _ _ _ _ _ _ h]; rfl, by rw [cell_of_row _ _ _ _ _ _ h]; rfl, by rw [cell_of_row _ _ _ _ _ _ h]; rfl, by rw [cell_of_row _ _ _ _ _ _ h]; rfl,
    frozen_of_row _ _ _ _ _ h, frozen_of_row _ _ _ _ _ h, frozen_of_row _ _ _ _ _ h, frozen_of_row _ _ _ _ _ h⟩
def parseV (l : List UInt8) : Value := .tuple #[.agg #[.int .i64 (parseF l).1.src, .int .i64 (parseF l).1.dst, .int .i64 (parseF l).1.sport, .int .i64 (parseF l).1.dport], .int .i64 (parseF l).2]
theorem cutB_len (b : UInt8) : ∀ (l : List UInt8), (cutB b l).1.length ≤ l.length ∧ (cutB b l).2.length ≤ l.length
  | [] => ⟨Nat.le_refl _, Nat.le_refl _⟩
  | x :: r => by
    have := cutB_len b r
    rw [cutB]
    split
    · simp
    · simp; omega
theorem parse_walk (l : List UInt8) (W : World) (hs : l.length ≤ 1048576) (hm : MaxAt W) :
    Calls Tryd.prog 17 #[.string ⟨l.toArray⟩] W fun e W' => e = .returned (parseV l) ∧ Below W.heap.size W W' := by
  have hb0 := (Below.refl W.heap.size W).alloc (Nat.le_refl _) (.cells #[.int .i64 0, .int .i64 0, .int .i64 0, .int .i64 0] 23)
  have hx := heap_alloc_new W (.cells #[.int .i64 0, .int .i64 0, .int .i64 0, .int .i64 0] 23)
  have hcl := cutB_len 62 l
  have HP := hide (show parseF l = if goodE (endsF (cutB 62 l).1) && goodE (endsF (cutB 62 l).2) then (⟨(endsF (cutB 62 l).1).1, (endsF (cutB 62 l).2).1, (endsF (cutB 62 l).1).2, (endsF (cutB 62 l).2).2⟩, 0) else (⟨0, 0, 0, 0⟩, 3) from rfl)
  have HC0 := hide (fun (w : World) (h : MaxAt w) => cut_walk ⟨l.toArray⟩ 62 w (by rw [← sz_list]; simpa using hs) h)
  obtain ⟨X, hX⟩ : ∃ X, (cutB 62 l).1 = X := ⟨_, rfl⟩
  obtain ⟨Y, hY⟩ : ∃ Y, (cutB 62 l).2 = Y := ⟨_, rfl⟩
  have HC := hide (fun (w : World) (h : MaxAt w) => (HC0.out w h).mono (fun e w' h => show e = .returned (.tuple #[.string ⟨X.toArray⟩, .string ⟨Y.toArray⟩, .bool (decide (62 ∈ l))]) ∧ Below w.heap.size w w' from by rw [← hX, ← hY]; exact h))
  rw [hX, hY] at HP hcl
  clear HC0 hX hY
  have HX := hide (fun (w : World) (h : MaxAt w) => ends_walk X w (by omega) h)
  have HY := hide (fun (w : World) (h : MaxAt w) => ends_walk Y w (by omega) h)
  clear hcl
  obtain ⟨⟨A, B⟩, hA⟩ : ∃ A, endsF X = A := ⟨_, rfl⟩
  obtain ⟨⟨C, D⟩, hC⟩ : ∃ C, endsF Y = C := ⟨_, rfl⟩
  rw [hA] at HX HP
  rw [hC] at HY HP
  obtain ⟨g1, hg1⟩ : ∃ g, goodE (A, B) = g := ⟨_, rfl⟩
  obtain ⟨g2, hg2⟩ : ∃ g, goodE (C, D) = g := ⟨_, rfl⟩
  rw [hg1] at HX HP
  rw [hg2] at HY HP
  have HV := hide (show parseV l = .tuple #[.agg #[.int .i64 (parseF l).1.src, .int .i64 (parseF l).1.dst, .int .i64 (parseF l).1.sport, .int .i64 (parseF l).1.dport], .int .i64 (parseF l).2] from rfl)
  rw [HP.out] at HV
  rw [HV.out]
  clear HP HV hA hC hg1 hg2
  have HM := hide hm
  clear hm
  go_enter Tryd.func17, Tryd.ntmps17
  go_wp2_with fail
  generalize W.alloc (.cells #[.int .i64 0, .int .i64 0, .int .i64 0, .int .i64 0] 23) = w1 at *
  have HM1 := hide (HM.out.below hb0)
  refine (HC.out _ HM1.out).mono ?_
  rintro e w2 ⟨rfl, hb2⟩
  have hx2 := (hb2.block W.heap.size (heap_lt hx)).trans hx
  have hbb2 := hb0.trans (hb2.mono hb0.size)
  have HM2 := hide (HM1.out.below hb2)
  clear HC hb2 hx hb0 HM1
  go_wp2_with fail
  refine (HX.out _ HM2.out).mono ?_
  rintro e w3 ⟨rfl, hb3⟩
  have hx3 := (hb3.block W.heap.size (heap_lt hx2)).trans hx2
  have hbb3 := hbb2.trans (hb3.mono hbb2.size)
  have HM3 := hide (HM2.out.below hb3)
  clear HX hb3 hx2 hbb2 HM2
  go_wp2_with fail
  refine (HY.out _ HM3.out).mono ?_
  rintro e w4 ⟨rfl, hb4⟩
  have hx4 := (hb4.block W.heap.size (heap_lt hx3)).trans hx3
  have HB := hide (hbb3.trans (hb4.mono hbb3.size))
  obtain ⟨z0, z1, z2, z3, z4, z5, z6, z7⟩ := cells4f hx4
  clear HY hb4 hx3 hbb3 hx4 HM3
  cases g1 <;> cases g2
  all_goals
    go_wp2
    first
      | refine bodyPost_ret (v := .tuple #[.agg #[.int .i64 0, .int .i64 0, .int .i64 0, .int .i64 0], .int .i64 3]) (by simp [results, Tryd.f17, go_sem, z0, z1, z2, z3]) rfl ⟨rfl, ?_⟩
      | refine bodyPost_ret (v := .tuple #[.agg #[.int .i64 A, .int .i64 C, .int .i64 B, .int .i64 D], .int .i64 0]) (by simp [results, Tryd.f17, go_sem, z0, z1, z2, z3]) rfl ⟨rfl, ?_⟩
    exact (((HB.out.setCell (Nat.le_refl _) _).setCell (Nat.le_refl _) _).setCell (Nat.le_refl _) _).setCell (Nat.le_refl _) _
structure StrsAt (w : World) (base g n cap : Nat) (ps : List (List UInt8)) : Prop where
  own : w.ownsRow base 9 1 (.slice (some ⟨g, 0, none⟩) n cap) n (ps.map strV)
  len : ps.length = n
theorem StrsAt.lt {w : World} {base g n cap : Nat} {ps : List (List UInt8)} (h : StrsAt w base g n cap ps) : base ≤ g ∧ g < w.heap.size := h.own.lt g rfl
theorem StrsAt.get {w : World} {base g n cap : Nat} {ps : List (List UInt8)} (h : StrsAt w base g n cap ps) {k : Nat} {x : List UInt8} (hx : ps[k]? = some x) : w.cell? ⟨g, k, none⟩ = some (.string ⟨x.toArray⟩) := by
  have hk : k < n := by rw [← h.len]; exact (List.getElem?_eq_some_iff.1 hx).1
  rw [h.own.cellAt k (by omega), List.getElem?_map, hx]; rfl
theorem StrsAt.below {w w' : World} {base g n cap : Nat} {ps : List (List UInt8)} (h : StrsAt w base g n cap ps) (hb : Below w.heap.size w w') : StrsAt w' base g n cap ps :=
  ⟨Go.Proofs.YtohbafigjpoijaaDoor.ownsRow_below h.own hb, h.len⟩
theorem pieces_own (l : List UInt8) (b : UInt8) (w : World) (hs : l.length ≤ 1048576) :
    Calls Tryd.prog 46 #[.string ⟨l.toArray⟩, .int .u8 (b.toNat : Int)] w fun e w' =>
      ∃ g cap, e = .returned (.slice (some ⟨g, 0, none⟩) (pieces b l).length cap) ∧ StrsAt w' w.heap.size g (pieces b l).length cap (pieces b l) ∧ Below w.heap.size w w' := by
  refine (pieces_walk ⟨l.toArray⟩ b w (by rw [← sz_list]; simpa using hs)).mono ?_
  rintro e w' ⟨v, rfl, ho, hb⟩
  obtain ⟨g, cap, rfl, _⟩ := ho.form (pieces_pos b _)
  exact ⟨g, cap, rfl, ⟨ho, rfl⟩, hb⟩
theorem ends_bad {x : UInt8} {l : List UInt8} (h : x ∈ l) (hx : isDig x = false) (hne : x ≠ 58) : goodE (endsF l) = false := by
  by_cases hc : 58 ∈ l
  · obtain ⟨u, v, rfl, hu⟩ := split_first hc
    simp only [endsF, cutB_at 58 u v hu]
    rcases List.mem_append.1 h with h | h
    · simp [goodE, numF_bad h hx]
    · rcases List.mem_cons.1 h with h | h
      · exact absurd h hne
      · simp [goodE, numF_bad h hx]
  · simp only [endsF, cutB_not 58 l hc]
    simp [goodE, numF_bad h hx]
theorem parse_bad {l : List UInt8} (h : (pieces 62 l).length ≠ 2) : parseF l = (⟨0, 0, 0, 0⟩, 3) := by
  rcases two_pieces 62 l with e | ⟨_, e⟩
  · rw [e] at h; exact absurd rfl h
  · have : goodE (endsF (cutB 62 l).2) = false := by
      rcases e with e | e
      · exact ends_bad e (by decide) (by decide)
      · rw [e]; rfl
    simp [parseF, this]
theorem pieces_two {b : UInt8} {l : List UInt8} (h : (pieces b l).length = 2) : pieces b l = [(cutB b l).1, (cutB b l).2] := by
  rcases two_pieces b l with e | ⟨e, _⟩
  · exact e
  · exact absurd h e
theorem ends_not {l : List UInt8} (h : (pieces 58 l).length ≠ 2) : goodE (endsF l) = false := by
  rcases two_pieces 58 l with e | ⟨_, e⟩
  · rw [e] at h; exact absurd rfl h
  · have : numF (cutB 58 l).2 8 = -1 := by
      rcases e with e | e
      · exact numF_bad e (by decide)
      · rw [e]; rfl
    simp [goodE, endsF, this]
theorem right_good (x y z u : List UInt8) : rightB ⟨numF x 16, numF z 16, numF y 8, numF u 8⟩ = (goodE (numF x 16, numF y 8) && goodE (numF z 16, numF u 8)) := by
  have h1 := numF_lt x 16
  have h2 := numF_lt y 8
  have h3 := numF_lt z 16
  have h4 := numF_lt u 8
  rw [Bool.eq_iff_iff]
  simp only [rightB, inR, goodE, Bool.and_eq_true, decide_eq_true_eq]
  constructor
  · intro h; omega
  · intro h
    have := h1 h.1.1
    have := h2 h.1.2
    have := h3 h.2.1
    have := h4 h.2.2
    omega
theorem readPacket_walk (l : List UInt8) (W : World) (hs : l.length ≤ 1048576) :
    Calls Tryd.prog 18 #[.string ⟨l.toArray⟩] W fun e W' => e = .returned (parseV l) ∧ Below W.heap.size W W' := by
  have hb0 := (Below.refl W.heap.size W).alloc (Nat.le_refl _) (.cells #[.int .i64 0, .int .i64 0, .int .i64 0, .int .i64 0] 23)
  have hx := heap_alloc_new W (.cells #[.int .i64 0, .int .i64 0, .int .i64 0, .int .i64 0] 23)
  have hcl := cutB_len 62 l
  have HPC := hide (fun w => pieces_own l 62 w hs)
  have hV : parseV l = .tuple #[.agg #[.int .i64 (parseF l).1.src, .int .i64 (parseF l).1.dst, .int .i64 (parseF l).1.sport, .int .i64 (parseF l).1.dport], .int .i64 (parseF l).2] := rfl
  by_cases h2 : (pieces 62 l).length = 2
  case neg =>
    rw [parse_bad h2] at hV
    have HV := hide hV
    obtain ⟨n, hn⟩ : ∃ n, (pieces 62 l).length = n := ⟨_, rfl⟩
    rw [hn] at HPC h2
    have d1 : ((n : Int) == 2) = false := by simp; omega
    have d2 : ((n : Int) != 2) = true := by simp; omega
    clear hV hn hcl
    rw [HV.out]
    go_enter Tryd.func18, Tryd.ntmps18
    go_wp2_with fail
    generalize W.alloc (.cells #[.int .i64 0, .int .i64 0, .int .i64 0, .int .i64 0] 23) = w1 at *
    refine (HPC.out _).mono ?_
    rintro e w2 ⟨g, cap, rfl, _, hb2⟩
    have hx2 := (hb2.block W.heap.size (heap_lt hx)).trans hx
    have HB := hide (hb0.trans (hb2.mono hb0.size))
    obtain ⟨z0, z1, z2, z3, z4, z5, z6, z7⟩ := cells4f hx2
    clear hx hb0 hb2 hx2 HPC
    go_wp2
    refine bodyPost_ret (v := .tuple #[.agg #[.int .i64 0, .int .i64 0, .int .i64 0, .int .i64 0], .int .i64 3]) (by simp [results, Tryd.f18, go_sem, z0, z1, z2, z3]) rfl ⟨rfl, ?_⟩
    exact (((HB.out.setCell (Nat.le_refl _) _).setCell (Nat.le_refl _) _).setCell (Nat.le_refl _) _).setCell (Nat.le_refl _) _
  case pos =>
    have hP := pieces_two h2
    have hF : parseF l = if goodE (endsF (cutB 62 l).1) && goodE (endsF (cutB 62 l).2) then (⟨(endsF (cutB 62 l).1).1, (endsF (cutB 62 l).2).1, (endsF (cutB 62 l).1).2, (endsF (cutB 62 l).2).2⟩, 0) else (⟨0, 0, 0, 0⟩, 3) := rfl
    rw [hF] at hV
    obtain ⟨X, hX⟩ : ∃ X, (cutB 62 l).1 = X := ⟨_, rfl⟩
    obtain ⟨Y, hY⟩ : ∃ Y, (cutB 62 l).2 = Y := ⟨_, rfl⟩
    rw [hX, hY] at hP hV hcl
    rw [hP] at HPC
    obtain ⟨V, hVV⟩ : ∃ V, parseV l = V := ⟨_, rfl⟩
    rw [hVV] at hV ⊢
    have HV := hide hV
    clear hV hF hX hY hP h2 hVV
    have HPX := hide (fun w => pieces_own X 58 w (by omega))
    have HPY := hide (fun w => pieces_own Y 58 w (by omega))
    have HCX := hide (two_pieces 58 X)
    have HCY := hide (two_pieces 58 Y)
    clear hcl
    obtain ⟨PX, hPX⟩ : ∃ p, pieces 58 X = p := ⟨_, rfl⟩
    obtain ⟨PY, hPY⟩ : ∃ p, pieces 58 Y = p := ⟨_, rfl⟩
    obtain ⟨nx, hnx⟩ : ∃ n, PX.length = n := ⟨_, rfl⟩
    obtain ⟨ny, hny⟩ : ∃ n, PY.length = n := ⟨_, rfl⟩
    rw [hPX, hnx] at HPX
    rw [hPY, hny] at HPY
    have HD := hide (And.intro (And.intro hPX hnx) (And.intro hPY hny))
    clear hPX hPY hnx hny
    go_enter Tryd.func18, Tryd.ntmps18
    go_wp2_with fail
    generalize W.alloc (.cells #[.int .i64 0, .int .i64 0, .int .i64 0, .int .i64 0] 23) = w1 at *
    refine (HPC.out _).mono ?_
    rintro e w2 ⟨g, cap, rfl, hst, hb2⟩
    have hx2 := (hb2.block W.heap.size (heap_lt hx)).trans hx
    have HX2 := hide hx2
    have HB2 := hide (hb0.trans (hb2.mono hb0.size))
    have p0 : w2.cell? ⟨g, 0, none⟩ = some (.string ⟨X.toArray⟩) := hst.get (k := 0) rfl
    have p1 : w2.cell? ⟨g, 1, none⟩ = some (.string ⟨Y.toArray⟩) := hst.get (k := 1) rfl
    have hgl := hst.lt.2
    have HPP := hide (fun (w' : World) (hb : Below w2.heap.size w2 w') => show w'.cell? ⟨g, 0, none⟩ = some (.string ⟨X.toArray⟩) ∧ w'.cell? ⟨g, 1, none⟩ = some (.string ⟨Y.toArray⟩) from ⟨(hb.cell (p := ⟨g, 0, none⟩) hgl).trans p0, (hb.cell (p := ⟨g, 1, none⟩) hgl).trans p1⟩)
    clear hx hb0 hb2 hx2 HPC hst hgl
    simp only [List.length_cons, List.length_nil, Nat.zero_add]
    go_wp2
    go_region_held3 (fun w' => w'.cell? ⟨g, 0, none⟩ = some (.string ⟨X.toArray⟩) ∧ w'.cell? ⟨g, 1, none⟩ = some (.string ⟨Y.toArray⟩)) (go_keep) (first | (go_at_call_of 46 (Value.string ⟨X.toArray⟩); refine (HPX.out _).mono ?_; rintro e w3 ⟨gx, cx, rfl, hst, hb⟩; have hb3 : Below w2.heap.size w2 w3 := (below_drewN w2 1).trans hb; have HSX := hide hst; have HB3 := hide hb3; have p0 := (HPP.out _ hb3).1; have p1 := (HPP.out _ hb3).2; clear hst hb hb3) | (go_at_call_of 46 (Value.string ⟨Y.toArray⟩); refine (HPY.out _).mono ?_; rintro e w4 ⟨gy, cy, rfl, hst, hb⟩; have HSY := hide hst; have HB4 := hide hb; have p0 := (HPP.out _ (HB3.out.trans (hb.mono HB3.out.size))).1; have p1 := (HPP.out _ (HB3.out.trans (hb.mono HB3.out.size))).2; clear hst hb))
    have HSX4 := hide (HSX.out.below HB4.out)
    have hb24 := HB3.out.trans (HB4.out.mono HB3.out.size)
    have HB := hide (HB2.out.trans (hb24.mono HB2.out.size))
    have hx4 := (hb24.block W.heap.size (heap_lt HX2.out)).trans HX2.out
    have HX4 := hide hx4
    obtain ⟨z0, z1, z2, z3, z4, z5, z6, z7⟩ := cells4f hx4
    rename_i hheld
    clear hx4 hb24 HB2 HB3 HB4 HSX HPX HPY HPP HX2 p0 p1 hheld
    by_cases hnx : nx = 2
    case neg =>
      have hg : goodE (endsF X) = false := ends_not (by rw [HD.out.1.1, HD.out.1.2]; exact hnx)
      have d1 : ((nx : Int) == 2) = false := by simp; omega
      have d2 : ((nx : Int) != 2) = true := by simp; omega
      have HR := hide (show V = .tuple #[.agg #[.int .i64 0, .int .i64 0, .int .i64 0, .int .i64 0], .int .i64 3] by rw [HV.out, hg]; rfl)
      clear HV hg hnx
      go_wp2
      refine bodyPost_ret (v := .tuple #[.agg #[.int .i64 0, .int .i64 0, .int .i64 0, .int .i64 0], .int .i64 3]) (by simp [results, Tryd.f18, go_sem, z0, z1, z2, z3]) rfl ⟨by rw [HR.out], ?_⟩
      exact (((HB.out.setCell (Nat.le_refl _) _).setCell (Nat.le_refl _) _).setCell (Nat.le_refl _) _).setCell (Nat.le_refl _) _
    subst hnx
    by_cases hny : ny = 2
    case neg =>
      have hg : goodE (endsF Y) = false := ends_not (by rw [HD.out.2.1, HD.out.2.2]; exact hny)
      have d1 : ((ny : Int) == 2) = false := by simp; omega
      have d2 : ((ny : Int) != 2) = true := by simp; omega
      have HR := hide (show V = .tuple #[.agg #[.int .i64 0, .int .i64 0, .int .i64 0, .int .i64 0], .int .i64 3] by rw [HV.out, hg, Bool.and_false]; rfl)
      clear HV hg hny
      go_wp2
      refine bodyPost_ret (v := .tuple #[.agg #[.int .i64 0, .int .i64 0, .int .i64 0, .int .i64 0], .int .i64 3]) (by simp [results, Tryd.f18, go_sem, z0, z1, z2, z3]) rfl ⟨by rw [HR.out], ?_⟩
      exact (((HB.out.setCell (Nat.le_refl _) _).setCell (Nat.le_refl _) _).setCell (Nat.le_refl _) _).setCell (Nat.le_refl _) _
    subst hny
    obtain ⟨x0, x1, hPX⟩ : ∃ a b, PX = [a, b] := by
      match PX, HD.out.1.2 with
      | [a, b], _ => exact ⟨a, b, rfl⟩
    obtain ⟨y0, y1, hPY⟩ : ∃ a b, PY = [a, b] := by
      match PY, HD.out.2.2 with
      | [a, b], _ => exact ⟨a, b, rfl⟩
    subst hPX hPY
    have eX : endsF X = (numF x0 16, numF x1 8) := by
      rcases HCX.out with e | ⟨e, _⟩
      · rw [HD.out.1.1] at e
        simp only [List.cons.injEq, and_true] at e
        rw [e.1, e.2]; rfl
      · rw [HD.out.1.1] at e; simp at e
    have eY : endsF Y = (numF y0 16, numF y1 8) := by
      rcases HCY.out with e | ⟨e, _⟩
      · rw [HD.out.2.1] at e
        simp only [List.cons.injEq, and_true] at e
        rw [e.1, e.2]; rfl
      · rw [HD.out.2.1] at e; simp at e
    have hrg := right_good x0 x1 y0 y1
    have hV := HV.out
    rw [eX, eY] at hV
    have H0 := hide (fun w => dig_walk x0 15 w (by omega))
    have H1 := hide (fun w => dig_walk x1 7 w (by omega))
    have H2 := hide (fun w => dig_walk y0 15 w (by omega))
    have H3 := hide (fun w => dig_walk y1 7 w (by omega))
    have a0 := HSX4.out.get (k := 0) rfl
    have a1 := HSX4.out.get (k := 1) rfl
    have b0 := HSY.out.get (k := 0) rfl
    have b1 := HSY.out.get (k := 1) rfl
    have HSS := hide (And.intro HSX4.out HSY.out)
    clear eX eY HCX HCY HD HV HSX4 HSY
    simp only [show (15 : Int) + 1 = 16 from rfl, show (7 : Int) + 1 = 8 from rfl] at H0 H1 H2 H3
    generalize numF x0 16 = A at *
    generalize numF x1 8 = B at *
    generalize numF y0 16 = C at *
    generalize numF y1 8 = D at *
    rw [← hrg] at hV
    have HV := hide hV
    clear hV hrg
    have HRI := hide (fun w => right_walk ⟨A, C, B, D⟩ w)
    generalize rightB ⟨A, C, B, D⟩ = R at *
    go_wp2_with fail
    go_region_held3 (fun w' => w'.cell? ⟨gx, 0, none⟩ = some (.string ⟨x0.toArray⟩) ∧ w'.cell? ⟨gx, 1, none⟩ = some (.string ⟨x1.toArray⟩) ∧ w'.cell? ⟨gy, 0, none⟩ = some (.string ⟨y0.toArray⟩) ∧ w'.cell? ⟨gy, 1, none⟩ = some (.string ⟨y1.toArray⟩)) (go_keep) (first | (go_at_call_of 47 (Value.string ⟨x0.toArray⟩); refine (H0.out _).mono ?_; rintro e w5 ⟨rfl, rfl⟩) | (go_at_call_of 47 (Value.string ⟨x1.toArray⟩); refine (H1.out _).mono ?_; rintro e w5 ⟨rfl, rfl⟩) | (go_at_call_of 47 (Value.string ⟨y0.toArray⟩); refine (H2.out _).mono ?_; rintro e w5 ⟨rfl, rfl⟩) | (go_at_call_of 47 (Value.string ⟨y1.toArray⟩); refine (H3.out _).mono ?_; rintro e w5 ⟨rfl, rfl⟩))
    all_goals
      rename_i hheld
      clear hheld a0 a1 b0 b1 p0 p1
      have hy := heap_alloc_new w4 (.cells #[.int .i64 A, .int .i64 C, .int .i64 B, .int .i64 D] 23)
      have hba := (Below.refl w4.heap.size w4).alloc (Nat.le_refl _) (.cells #[.int .i64 A, .int .i64 C, .int .i64 B, .int .i64 D] 23)
      have hlt := heap_lt HX4.out
      have hx5 := (hba.block W.heap.size hlt).trans HX4.out
      have hne : W.heap.size ≠ w4.heap.size := Nat.ne_of_lt hlt
      generalize hN : w4.heap.size = N at *
      have HB5 := hide (HB.out.trans ((show Below w4.heap.size w4 _ by rw [hN]; exact hba).mono HB.out.size))
      generalize hw5 : w4.alloc (.cells #[.int .i64 A, .int .i64 C, .int .i64 B, .int .i64 D] 23) = w5 at *
      obtain ⟨y0', y1', y2', y3', _⟩ := cells4f hy
      clear hw5 hN hba z0 z1 z2 z3 z4 z5 z6 z7 HB HX4 hlt HSS
      go_wp2_with fail
      refine (HRI.out _).mono ?_
      rintro e w6 ⟨rfl, hb6⟩
      have hb56 : Below w5.heap.size w5 w6 := (below_drewN w5 1).trans hb6
      have hx6 := (hb56.block W.heap.size (heap_lt hx5)).trans hx5
      have hy6 := (hb56.block N (heap_lt hy)).trans hy
      have HB6 := hide (HB5.out.trans (hb56.mono HB5.out.size))
      obtain ⟨z0, z1, z2, z3, z4, z5, z6, z7⟩ := cells4f hx6
      obtain ⟨y0, y1, y2, y3, _⟩ := cells4f hy6
      clear hb6 hb56 hx6 hy6 hx5 hy HB5 HRI y0' y1' y2' y3'
      cases R
      · have HR := hide HV.out
        clear HV
        go_wp2
        refine bodyPost_ret (v := .tuple #[.agg #[.int .i64 0, .int .i64 0, .int .i64 0, .int .i64 0], .int .i64 3]) (by simp [results, Tryd.f18, go_sem, z0, z1, z2, z3]) rfl ⟨by rw [HR.out]; rfl, ?_⟩
        exact (((HB6.out.setCell (Nat.le_refl _) _).setCell (Nat.le_refl _) _).setCell (Nat.le_refl _) _).setCell (Nat.le_refl _) _
      · have HR := hide HV.out
        clear HV
        go_wp2
        refine bodyPost_ret (v := .tuple #[.agg #[.int .i64 A, .int .i64 C, .int .i64 B, .int .i64 D], .int .i64 0]) (by simp [results, Tryd.f18, go_sem, z0, z1, z2, z3]) rfl ⟨by rw [HR.out]; rfl, ?_⟩
        exact (((HB6.out.setCell (Nat.le_refl _) _).setCell (Nat.le_refl _) _).setCell (Nat.le_refl _) _).setCell (Nat.le_refl _) _
open Bdd Go.Maps
theorem of_walk (w : World) (c : Nat) (hc : c < 16384) :
    Calls Tryd.prog 15 #[.int .i64 c] w fun e W' => e = .returned (.tuple #[packVal c, .int .i64 0]) ∧ Below w.heap.size w W' := by
  have b1 : ∀ m : Nat, m < 9223372036854775808 → Go.bits .and .i64 (m : Int) 15 = ((m % 16 : Nat) : Int) := fun m hm => by
    have := i64_and m 15 hm (by omega)
    rw [show (15 : Nat) = 2 ^ 4 - 1 from rfl, Nat.and_two_pow_sub_one_eq_mod] at this
    exact this
  have b2 : ∀ m : Nat, m < 9223372036854775808 → Go.bits .and .i64 (m : Int) 7 = ((m % 8 : Nat) : Int) := fun m hm => by
    have := i64_and m 7 hm (by omega)
    rw [show (7 : Nat) = 2 ^ 3 - 1 from rfl, Nat.and_two_pow_sub_one_eq_mod] at this
    exact this
  have HV : Hid (packVal c = .agg #[.int .i64 ((c : Int) / 1024), .int .i64 (Go.bits .and .i64 ((c : Int) / 64) 15), .int .i64 (Go.bits .and .i64 ((c : Int) / 8) 7), .int .i64 (Go.bits .and .i64 (c : Int) 7)]) := hide (by
    have e1 : ((c / 1024 : Nat) : Int) = (c : Int) / 1024 := by omega
    have e2 : ((c : Int) / 64) = ((c / 64 : Nat) : Int) := by omega
    have e3 : ((c : Int) / 8) = ((c / 8 : Nat) : Int) := by omega
    rw [e2, e3, b1 _ (by omega), b2 _ (by omega), b2 _ (by omega), ← e1]; rfl)
  clear b1 b2
  go_enter Tryd.func15, Tryd.ntmps15
  go_wp2_with fail
  refine (within_walk _ _ _ true (by simp; omega)).mono ?_
  rintro e w1 ⟨rfl, rfl⟩
  go_wp2
  refine bodyPost_ret (v := .tuple #[.agg #[.int .i64 ((c : Int) / 1024), .int .i64 (Go.bits .and .i64 ((c : Int) / 64) 15), .int .i64 (Go.bits .and .i64 ((c : Int) / 8) 7), .int .i64 (Go.bits .and .i64 (c : Int) 7)], .int .i64 0]) (by simp [results, Tryd.results15, go_sem]) rfl ⟨by rw [HV.out], ?_⟩
  exact (Below.refl _ _).alloc (Nat.le_refl _) _
end Go.Proofs.YtohbafigjpoijaaDoor
namespace Go.Proofs.YtohbafigjpoijaaDoor
open Go.RowKit
theorem of_bad (w : World) (c : Int) (hc : ¬ (0 ≤ c ∧ c < 16384)) :
    Calls Tryd.prog 15 #[.int .i64 c] w fun e W' => e = .returned (.tuple #[.agg #[.int .i64 0, .int .i64 0, .int .i64 0, .int .i64 0], .int .i64 1]) ∧ Below w.heap.size w W' := by
  have hW := hide (show (decide (0 ≤ c) && decide (c < 16384)) = false by simp only [Bool.and_eq_false_iff, decide_eq_false_iff_not]; omega)
  clear hc
  have hx := heap_alloc_new w (.cells #[.int .i64 0, .int .i64 0, .int .i64 0, .int .i64 0] 23)
  have HB := hide ((Below.refl w.heap.size w).alloc (Nat.le_refl _) (.cells #[.int .i64 0, .int .i64 0, .int .i64 0, .int .i64 0] 23))
  obtain ⟨z0, z1, z2, z3, z4, z5, z6, z7⟩ := cells4f hx
  go_enter Tryd.func15, Tryd.ntmps15
  go_wp2_with fail
  refine (within_walk _ _ _ false hW.out).mono ?_
  rintro e w1 ⟨rfl, rfl⟩
  clear hx hW
  go_wp2
  refine bodyPost_ret (v := .tuple #[.agg #[.int .i64 0, .int .i64 0, .int .i64 0, .int .i64 0], .int .i64 1]) (by simp [results, Tryd.results15, go_sem, z0, z1, z2, z3]) rfl ⟨rfl, ?_⟩
  exact HB.out
theorem refCode_walk (a b c d : Nat) (h1 : a < 16) (h2 : b < 16) (h3 : c < 8) (h4 : d < 8) (W : World) :
    Calls Tryd.prog 11 #[.agg #[.int .i64 (a : Int), .int .i64 (b : Int), .int .i64 (c : Int), .int .i64 (d : Int)]] W fun e W' => e = .returned (.int .i64 ((a * 1024 + b * 64 + c * 8 + d : Nat) : Int)) ∧ Below W.heap.size W W' := by
  have hx := heap_alloc_new W (.cells #[.int .i64 (a : Int), .int .i64 (b : Int), .int .i64 (c : Int), .int .i64 (d : Int)] 23)
  have HB := hide ((Below.refl W.heap.size W).alloc (Nat.le_refl _) (.cells #[.int .i64 (a : Int), .int .i64 (b : Int), .int .i64 (c : Int), .int .i64 (d : Int)] 23))
  obtain ⟨z0, z1, z2, z3, _⟩ := cells4f hx
  go_enter Tryd.func11, Tryd.ntmps11
  go_wp2_with fail
  generalize W.alloc (.cells #[.int .i64 (a : Int), .int .i64 (b : Int), .int .i64 (c : Int), .int .i64 (d : Int)] 23) = w1 at *
  clear hx
  go_wp2
  go_ret
  exact ⟨retI (by omega), HB.out⟩
theorem flipS_walk (a b c d : Int) (W : World) : Calls Tryd.prog 20 #[.agg #[.int .i64 a, .int .i64 b, .int .i64 c, .int .i64 d]] W fun e W' => e = .returned (.agg #[.int .i64 b, .int .i64 a, .int .i64 d, .int .i64 c]) ∧ Below W.heap.size W W' := by
  have hx := heap_alloc_new W (.cells #[.int .i64 a, .int .i64 b, .int .i64 c, .int .i64 d] 23)
  have hy := fun v => heap_alloc_new (W.alloc (.cells #[.int .i64 a, .int .i64 b, .int .i64 c, .int .i64 d] 23)) (.cells v 23)
  have hs : (W.alloc (.cells #[.int .i64 a, .int .i64 b, .int .i64 c, .int .i64 d] 23)).heap.size = W.heap.size + 1 := by simp
  have hb0 := (Below.refl W.heap.size W).alloc (Nat.le_refl _) (.cells #[.int .i64 a, .int .i64 b, .int .i64 c, .int .i64 d] 23)
  have HB := hide (fun v => hb0.alloc (by simp) (.cells v 23))
  have hx2 := fun v => (((Below.refl _ (W.alloc (.cells #[.int .i64 a, .int .i64 b, .int .i64 c, .int .i64 d] 23))).alloc (Nat.le_refl _) (.cells v 23)).block W.heap.size (by simp)).trans hx
  rw [hs] at hy
  obtain ⟨x0, x1, x2, x3, _⟩ := cells4f (hx2 #[.int .i64 0, .int .i64 0, .int .i64 0, .int .i64 0])
  obtain ⟨y0, y1, y2, y3, y4, y5, y6, y7⟩ := cells4f (hy #[.int .i64 0, .int .i64 0, .int .i64 0, .int .i64 0])
  have HY := hide (hy #[.int .i64 b, .int .i64 a, .int .i64 d, .int .i64 c])
  obtain ⟨z0, z1, z2, z3, z4⟩ := cells4f hx
  clear hx hx2 hs hb0 hy
  go_enter Tryd.func20, Tryd.ntmps20
  go_wp2
  obtain ⟨u0, u1, u2, u3, _⟩ := cells4f HY.out
  refine bodyPost_ret (v := .agg #[.int .i64 b, .int .i64 a, .int .i64 d, .int .i64 c]) (by simp [results, Tryd.f20, go_sem, u0, u1, u2, u3]) rfl ⟨rfl, HB.out _⟩
theorem backS_walk (a b c d : Int) (W : World) : Calls Tryd.prog 21 #[.agg #[.int .i64 a, .int .i64 b, .int .i64 c, .int .i64 d]] W fun e W' => e = .returned (.agg #[.int .i64 b, .int .i64 a, .int .i64 d, .int .i64 c]) ∧ Below W.heap.size W W' := by
  have hx := heap_alloc_new W (.cells #[.int .i64 a, .int .i64 b, .int .i64 c, .int .i64 d] 23)
  have hy := fun v => heap_alloc_new (W.alloc (.cells #[.int .i64 a, .int .i64 b, .int .i64 c, .int .i64 d] 23)) (.cells v 23)
  have hs : (W.alloc (.cells #[.int .i64 a, .int .i64 b, .int .i64 c, .int .i64 d] 23)).heap.size = W.heap.size + 1 := by simp
  have hb0 := (Below.refl W.heap.size W).alloc (Nat.le_refl _) (.cells #[.int .i64 a, .int .i64 b, .int .i64 c, .int .i64 d] 23)
  have HB := hide (fun v => hb0.alloc (by simp) (.cells v 23))
  have hx2 := fun v => (((Below.refl _ (W.alloc (.cells #[.int .i64 a, .int .i64 b, .int .i64 c, .int .i64 d] 23))).alloc (Nat.le_refl _) (.cells v 23)).block W.heap.size (by simp)).trans hx
  rw [hs] at hy
  obtain ⟨x0, x1, x2, x3, _⟩ := cells4f (hx2 #[.int .i64 0, .int .i64 0, .int .i64 0, .int .i64 0])
  obtain ⟨y0, y1, y2, y3, y4, y5, y6, y7⟩ := cells4f (hy #[.int .i64 0, .int .i64 0, .int .i64 0, .int .i64 0])
  have HY := hide (hy #[.int .i64 b, .int .i64 a, .int .i64 d, .int .i64 c])
  obtain ⟨z0, z1, z2, z3, z4⟩ := cells4f hx
  clear hx hx2 hs hb0 hy
  go_enter Tryd.func21, Tryd.ntmps21
  go_wp2
  obtain ⟨u0, u1, u2, u3, _⟩ := cells4f HY.out
  refine bodyPost_ret (v := .agg #[.int .i64 b, .int .i64 a, .int .i64 d, .int .i64 c]) (by simp [results, Tryd.f21, go_sem, u0, u1, u2, u3]) rfl ⟨rfl, HB.out _⟩
end Go.Proofs.YtohbafigjpoijaaDoor
