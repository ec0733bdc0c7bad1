/- A part of the proof: G5, G6, PkChk, PkCode, St4, St5, PkOf, St7, St8, St9. -/
import Derived.Test.YtohbafigjpoijaaDoorPb0
import Derived.Deep.RegionLaw
import Derived.Deep.Upon
import Derived.Lib.SliceRun
import Derived.Laws.IdiomCopy
import Derived.Deep.QuietTactic
import Derived.BigQuiet
import Derived.Deep.RegionHeld3
set_option linter.unusedVariables false
set_option linter.unusedSimpArgs false
set_option maxRecDepth 100000
set_option maxHeartbeats 4000000
namespace Go.Proofs.YtohbafigjpoijaaDoor
open Go.ChangeAt Go.ChangeShapes Go.RowKit Go.WideShapes
theorem ret_bool {a b : Bool} (h : a = b) : Ending.returned (.bool a) = .returned (.bool b) := by rw [h]
end Go.Proofs.YtohbafigjpoijaaDoor
namespace Go.Proofs.YtohbafigjpoijaaDoor
open Go.RowKit
def pk (c : Nat) : P4 := ⟨((c / 1024 : Nat) : Int), ((c / 64 % 16 : Nat) : Int), ((c / 8 % 8 : Nat) : Int), ((c % 8 : Nat) : Int)⟩
theorem pk_val (c : Nat) : packVal c = .agg #[.int .i64 (pk c).src, .int .i64 (pk c).dst, .int .i64 (pk c).sport, .int .i64 (pk c).dport] := rfl
open Bdd Go.Maps
theorem within_walk (n m : Int) (W : World) (B : Bool) (h : (decide (0 ≤ n) && decide (n < m)) = B) : Calls Tryd.prog 42 #[.int .i64 n, .int .i64 m] W fun e W' => e = .returned (.bool B) ∧ W = W' := by
  cases h1 : decide (0 ≤ n)
  · have e1 : ¬ 0 ≤ n := by simpa using h1
    have HF := hide (show false = B by rw [← h, h1]; rfl)
    clear h
    go_enter Tryd.func42, Tryd.ntmps42
    go_wp2
    go_ret
    exact ⟨ret_bool HF.out, rfl⟩
  · have HF := hide (show decide (n < m) = B by rw [← h, h1]; rfl)
    clear h
    go_enter Tryd.func42, Tryd.ntmps42
    go_wp2
    go_ret
    exact ⟨ret_bool HF.out, rfl⟩
end Go.Proofs.YtohbafigjpoijaaDoor
namespace Go.Proofs.YtohbafigjpoijaaDoor
open Go.RowKit
open Bdd Go.Maps
end Go.Proofs.YtohbafigjpoijaaDoor
namespace Go.Proofs.YtohbafigjpoijaaDoor
open Go.Maps Go.RowKit
theorem wi16 (a : Int) : inR a 0 15 = (decide (0 ≤ a) && decide (a < 16)) := by
  unfold inR
  rw [Bool.eq_iff_iff]; simp; omega
theorem wi8 (a : Int) : inR a 0 7 = (decide (0 ≤ a) && decide (a < 8)) := by
  unfold inR
  rw [Bool.eq_iff_iff]; simp; omega
theorem packetCheck_walk (p : P4) (W : World) : Calls Tryd.prog 19 #[.agg #[.int .i64 p.src, .int .i64 p.dst, .int .i64 p.sport, .int .i64 p.dport]] W fun e W' => e = .returned (.int .i64 (if rightB p then 0 else 1)) ∧ RowKit.Below W.heap.size W W' := by
  obtain ⟨a, b, c, d⟩ := p
  have HB := hide (fun o => show RowKit.Below W.heap.size W (W.alloc o) from (RowKit.Below.refl _ _).alloc (Nat.le_refl _) o)
  have HR := hide (show rightB ⟨a, b, c, d⟩ = (inR a 0 15 && inR b 0 15 && inR c 0 7 && inR d 0 7) from rfl)
  generalize rightB _ = R at *
  cases e1 : inR a 0 15
  · have f1 := hide ((wi16 a).symm.trans e1)
    have HF := hide (show R = false from by rw [HR.out, e1]; rfl)
    rw [HF.out]
    go_enter Tryd.func19, Tryd.ntmps19
    go_wp2_with (first | (go_at_call_of 42 (Value.int .i64 a); refine (within_walk _ _ _ _ f1.out).mono ?_; rintro e w1 ⟨rfl, rfl⟩))
    go_ret
    exact ⟨rfl, HB.out _⟩
  have f1 := hide ((wi16 a).symm.trans e1)
  cases e2 : inR b 0 15
  · have f2 := hide ((wi16 b).symm.trans e2)
    have HF := hide (show R = false from by rw [HR.out, e1, e2]; rfl)
    rw [HF.out]
    go_enter Tryd.func19, Tryd.ntmps19
    go_wp2_with (first | (go_at_call_of 42 (Value.int .i64 a); refine (within_walk _ _ _ _ f1.out).mono ?_; rintro e w1 ⟨rfl, rfl⟩) | (go_at_call_of 42 (Value.int .i64 b); refine (within_walk _ _ _ _ f2.out).mono ?_; rintro e w1 ⟨rfl, rfl⟩))
    go_ret
    exact ⟨rfl, HB.out _⟩
  have f2 := hide ((wi16 b).symm.trans e2)
  cases e3 : inR c 0 7
  · have f3 := hide ((wi8 c).symm.trans e3)
    have HF := hide (show R = false from by rw [HR.out, e1, e2, e3]; rfl)
    rw [HF.out]
    go_enter Tryd.func19, Tryd.ntmps19
    go_wp2_with (first | (go_at_call_of 42 (Value.int .i64 a); refine (within_walk _ _ _ _ f1.out).mono ?_; rintro e w1 ⟨rfl, rfl⟩) | (go_at_call_of 42 (Value.int .i64 b); refine (within_walk _ _ _ _ f2.out).mono ?_; rintro e w1 ⟨rfl, rfl⟩) | (go_at_call_of 42 (Value.int .i64 c); refine (within_walk _ _ _ _ f3.out).mono ?_; rintro e w1 ⟨rfl, rfl⟩))
    go_ret
    exact ⟨rfl, HB.out _⟩
  have f3 := hide ((wi8 c).symm.trans e3)
  cases e4 : inR d 0 7
  · have f4 := hide ((wi8 d).symm.trans e4)
    have HF := hide (show R = false from by rw [HR.out, e1, e2, e3, e4]; rfl)
    rw [HF.out]
    go_enter Tryd.func19, Tryd.ntmps19
    go_wp2_with (first | (go_at_call_of 42 (Value.int .i64 a); refine (within_walk _ _ _ _ f1.out).mono ?_; rintro e w1 ⟨rfl, rfl⟩) | (go_at_call_of 42 (Value.int .i64 b); refine (within_walk _ _ _ _ f2.out).mono ?_; rintro e w1 ⟨rfl, rfl⟩) | (go_at_call_of 42 (Value.int .i64 c); refine (within_walk _ _ _ _ f3.out).mono ?_; rintro e w1 ⟨rfl, rfl⟩) | (go_at_call_of 42 (Value.int .i64 d); refine (within_walk _ _ _ _ f4.out).mono ?_; rintro e w1 ⟨rfl, rfl⟩))
    go_ret
    exact ⟨rfl, HB.out _⟩
  · have f4 := hide ((wi8 d).symm.trans e4)
    have HF := hide (show R = true from by rw [HR.out, e1, e2, e3, e4]; rfl)
    rw [HF.out]
    go_enter Tryd.func19, Tryd.ntmps19
    go_wp2_with (first | (go_at_call_of 42 (Value.int .i64 a); refine (within_walk _ _ _ _ f1.out).mono ?_; rintro e w1 ⟨rfl, rfl⟩) | (go_at_call_of 42 (Value.int .i64 b); refine (within_walk _ _ _ _ f2.out).mono ?_; rintro e w1 ⟨rfl, rfl⟩) | (go_at_call_of 42 (Value.int .i64 c); refine (within_walk _ _ _ _ f3.out).mono ?_; rintro e w1 ⟨rfl, rfl⟩) | (go_at_call_of 42 (Value.int .i64 d); refine (within_walk _ _ _ _ f4.out).mono ?_; rintro e w1 ⟨rfl, rfl⟩))
    go_ret
    exact ⟨rfl, HB.out _⟩
def codeP (p : P4) : Nat := p.src.toNat * 1024 + p.dst.toNat * 64 + p.sport.toNat * 8 + p.dport.toNat
theorem right_nats {p : P4} (h : rightB p = true) : ∃ a b c d : Nat, p = ⟨(a : Int), (b : Int), (c : Int), (d : Int)⟩ ∧ a < 16 ∧ b < 16 ∧ c < 8 ∧ d < 8 := by
  obtain ⟨a, b, c, d⟩ := p
  simp only [rightB, inR, Bool.and_eq_true, decide_eq_true_eq] at h
  refine ⟨a.toNat, b.toNat, c.toNat, d.toNat, ?_, by omega, by omega, by omega, by omega⟩
  simp only [P4.mk.injEq]
  omega
theorem code_lt {p : P4} (h : rightB p = true) : codeP p < 16384 := by
  obtain ⟨a, b, c, d, rfl, h1, h2, h3, h4⟩ := right_nats h
  simp only [codeP, Int.toNat_natCast]
  omega
theorem pk_code {p : P4} (h : rightB p = true) : pk (codeP p) = p := by
  obtain ⟨a, b, c, d, rfl, h1, h2, h3, h4⟩ := right_nats h
  simp only [codeP, pk, Int.toNat_natCast, P4.mk.injEq]
  omega
theorem or_parts (a b k : Nat) (hb : b < 2 ^ k) : a * 2 ^ k ||| b = a * 2 ^ k + b := by
  rw [Nat.mul_comm, Nat.two_pow_add_eq_or_of_lt hb]
theorem or_code1 (a b : Nat) (ha : a < 16) (hb : b < 16) : Go.bits .or .i64 ((a * 1024 : Nat) : Int) ((b * 64 : Nat) : Int) = ((a * 1024 + b * 64 : Nat) : Int) := by
  rw [i64_or _ _ (by omega) (by omega)]
  have : a * 1024 ||| b * 64 = a * 1024 + b * 64 := or_parts a (b * 64) 10 (by omega)
  rw [this]
theorem or_code2 (a b c : Nat) (ha : a < 16) (hb : b < 16) (hc : c < 8) : Go.bits .or .i64 ((a * 1024 + b * 64 : Nat) : Int) ((c * 8 : Nat) : Int) = ((a * 1024 + b * 64 + c * 8 : Nat) : Int) := by
  rw [i64_or _ _ (by omega) (by omega)]
  have := or_parts (a * 16 + b) (c * 8) 6 (by omega)
  have e : (a * 16 + b) * 2 ^ 6 = a * 1024 + b * 64 := by omega
  rw [e] at this
  rw [this]
theorem or_code3 (a b c d : Nat) (ha : a < 16) (hb : b < 16) (hc : c < 8) (hd : d < 8) : Go.bits .or .i64 ((a * 1024 + b * 64 + c * 8 : Nat) : Int) (d : Int) = ((a * 1024 + b * 64 + c * 8 + d : Nat) : Int) := by
  rw [i64_or _ _ (by omega) (by omega)]
  have := or_parts (a * 128 + b * 8 + c) d 3 (by omega)
  have e : (a * 128 + b * 8 + c) * 2 ^ 3 = a * 1024 + b * 64 + c * 8 := by omega
  rw [e] at this
  rw [this]
theorem code_walk (p : P4) (W : World) : Calls Tryd.prog 14 #[.agg #[.int .i64 p.src, .int .i64 p.dst, .int .i64 p.sport, .int .i64 p.dport]] W fun e W' => e = .returned (.tuple #[.int .i64 (if rightB p then (codeP p : Int) else 0), .int .i64 (if rightB p then 0 else 1)]) ∧ RowKit.Below W.heap.size W W' := by
  have HC := hide (fun (w : World) => packetCheck_walk p w)
  cases hR : rightB p with
  | false =>
    simp only [hR] at HC
    obtain ⟨a, b, c, d⟩ := p
    clear hR
    go_enter Tryd.func14, Tryd.ntmps14
    go_wp2_with fail
    have hb0 := (RowKit.Below.refl W.heap.size W).alloc (Nat.le_refl _) (.cells #[.int .i64 a, .int .i64 b, .int .i64 c, .int .i64 d] 23)
    refine (HC.out _).mono ?_
    rintro e w1 ⟨rfl, hb⟩
    have HB := hide (hb0.trans (hb.mono hb0.size))
    clear hb hb0
    go_wp2
    go_ret2
    exact ⟨rfl, HB.out⟩
  | true =>
    simp only [hR] at HC
    obtain ⟨a, b, c, d, rfl, h1, h2, h3, h4⟩ := right_nats hR
    have e0 : codeP ⟨(a : Int), (b : Int), (c : Int), (d : Int)⟩ = a * 1024 + b * 64 + c * 8 + d := by simp only [codeP, Int.toNat_natCast]
    rw [e0]
    have q1 := or_code1 a b h1 h2
    have q2 := or_code2 a b c h1 h2 h3
    have q3 := or_code3 a b c d h1 h2 h3 h4
    have q4 : Go.bits .or .i64 (Go.bits .or .i64 (Go.bits .or .i64 ((a : Int) * 1024) ((b : Int) * 64)) ((c : Int) * 8)) (d : Int) = ((a * 1024 + b * 64 + c * 8 + d : Nat) : Int) := by
      rw [show ((a : Int) * 1024) = ((a * 1024 : Nat) : Int) by omega, show ((b : Int) * 64) = ((b * 64 : Nat) : Int) by omega, show ((c : Int) * 8) = ((c * 8 : Nat) : Int) by omega, q1, q2, q3]
    have HQ := hide q4
    clear hR e0 q1 q2 q3 q4
    go_enter Tryd.func14, Tryd.ntmps14
    go_wp2_with fail
    have hb0 := (RowKit.Below.refl W.heap.size W).alloc (Nat.le_refl _) (.cells #[.int .i64 (a : Int), .int .i64 (b : Int), .int .i64 (c : Int), .int .i64 (d : Int)] 23)
    have HX0 := hide (heap_alloc_new W (.cells #[.int .i64 (a : Int), .int .i64 (b : Int), .int .i64 (c : Int), .int .i64 (d : Int)] 23))
    refine (HC.out _).mono ?_
    rintro e w1 ⟨rfl, hb⟩
    have HB := hide (hb0.trans (hb.mono hb0.size))
    have hx := (hb.block W.heap.size (by simp)).trans HX0.out
    have x0 : w1.cell? ⟨W.heap.size, 0, none⟩ = some (.int .i64 (a : Int)) := by rw [cell_of_row _ _ _ _ _ _ hx]; rfl
    have x1 : w1.cell? ⟨W.heap.size, 1, none⟩ = some (.int .i64 (b : Int)) := by rw [cell_of_row _ _ _ _ _ _ hx]; rfl
    have x2 : w1.cell? ⟨W.heap.size, 2, none⟩ = some (.int .i64 (c : Int)) := by rw [cell_of_row _ _ _ _ _ _ hx]; rfl
    have x3 : w1.cell? ⟨W.heap.size, 3, none⟩ = some (.int .i64 (d : Int)) := by rw [cell_of_row _ _ _ _ _ _ hx]; rfl
    clear hb hb0 hx HX0
    go_wp2
    go_ret2
    refine ⟨?_, HB.out⟩
    show Ending.returned (.tuple #[.int .i64 (Go.bits .or .i64 (Go.bits .or .i64 (Go.bits .or .i64 ((a : Int) * 1024) ((b : Int) * 64)) ((c : Int) * 8)) (d : Int)), .int .i64 0]) = _
    rw [HQ.out]
    rfl
end Go.Proofs.YtohbafigjpoijaaDoor
namespace Go.Proofs.YtohbafigjpoijaaDoor
open Go.RowKit
def MaxAt (w : World) : Prop := 0 < w.heap.size ∧ ∃ m : Int, w.cell? ⟨0, 0, none⟩ = some (.int .i64 m)
theorem MaxAt.below {w w' : World} (h : MaxAt w) (hb : Below w.heap.size w w') : MaxAt w' :=
  ⟨Nat.lt_of_lt_of_le h.1 hb.size, h.2.imp fun m e => (hb.cell (p := ⟨_, 0, none⟩) h.1).trans e⟩
theorem below_drewN (w : World) (n : Nat) : Below w.heap.size w (w.drewN n) := ⟨rfl, rfl, rfl, Nat.le_refl _, fun _ _ => rfl⟩
theorem cut_walk (s : ByteArray) (b : UInt8) (w : World) (hs : s.size ≤ 1048576) (hm : MaxAt w) :
    Calls Tryd.prog 44 #[.string s, .string ⟨#[b]⟩] w fun e w' => e = .returned (.tuple #[strV (cutB b s.data.toList).1, strV (cutB b s.data.toList).2, .bool (decide (b ∈ s.data.toList))]) ∧ Below w.heap.size w w' := by
  obtain ⟨_, m, hm⟩ := hm
  refine (Tryd.strings_Cut s ⟨#[b]⟩ m w (by omega) hm).mono ?_
  rintro e w' ⟨rfl, n, rfl⟩
  have : (⟨#[b]⟩ : ByteArray).data.toList = [b] := rfl
  rw [this, cut_one]
  exact ⟨rfl, below_drewN w n⟩
theorem add_run (x y : List UInt8) (hx : x.length ≤ 1000000) (hy : y.length ≤ 1000000) (w : World) : (Op.stringOp .add ⟨x.toArray⟩ ⟨y.toArray⟩).run Tryd.prog w = .ok (.string ⟨(x ++ y).toArray⟩) w :=
  run_string_add_lists w x y (by omega) (by omega)
theorem dec_len2 {u : Nat} (h : u < 100) : (Lib.decDigits u).length ≤ 2 := dec_len u 1 (by omega)
theorem end_walk (a p : Nat) (ha : a < 100) (hp : p < 100) (w : World) :
    Calls Tryd.prog 43 #[.int .i64 (a : Int), .int .i64 (p : Int)] w fun e w' => e = .returned (strV (endT a p)) ∧ w = w' := by
  have HI := hide (fun (u : Nat) (h : u < 100) (w : World) => Tryd.strconv_Itoa_small u h w)
  have hl1 := dec_len2 ha
  have hl2 := dec_len2 hp
  have HR := hide (show strV (endT a p) = .string ⟨(Lib.decDigits a ++ 58 :: Lib.decDigits p).toArray⟩ from rfl)
  rw [HR.out]
  generalize hA : Lib.decDigits a = X at *
  generalize hP : Lib.decDigits p = Y at *
  have HA := hide hA
  have HP := hide hP
  clear hA hP
  have e1 : ∀ w', (Op.stringOp .add ⟨X.toArray⟩ ⟨#[58]⟩).run Tryd.prog w' = .ok (.string ⟨(X ++ [58]).toArray⟩) w' := add_run X [58] (by omega) (by simp)
  have e2 : ∀ w', (Op.stringOp .add ⟨(X ++ [58]).toArray⟩ ⟨Y.toArray⟩).run Tryd.prog w' = .ok (.string ⟨(X ++ [58] ++ Y).toArray⟩) w' := add_run (X ++ [58]) Y (by simp; omega) (by omega)
  go_enter Tryd.func43, Tryd.ntmps43
  go_wp2_with (first | (go_at_call_of 41 (Value.int .i64 (a : Int)); refine (HI.out a ha _).mono ?_; rw [HA.out]; rintro e w1 ⟨rfl, rfl⟩) | (go_at_call_of 41 (Value.int .i64 (p : Int)); refine (HI.out p hp _).mono ?_; rw [HP.out]; rintro e w1 ⟨rfl, rfl⟩))
  go_ret
  exact ⟨rfl, rfl⟩
theorem num_walk (x : List UInt8) (most : Int) (w : World) : Calls Tryd.prog 81 #[.string ⟨x.toArray⟩, .int .i64 most] w fun e w' => e = .returned (.int .i64 (numF x most)) ∧ w = w' := number_walk ⟨x.toArray⟩ most w
theorem ends_walk (l : List UInt8) (w : World) (hs : l.length ≤ 1048576) (hm : MaxAt w) :
    Calls Tryd.prog 45 #[.string ⟨l.toArray⟩] w fun e w' => e = .returned (.tuple #[.int .i64 (endsF l).1, .int .i64 (endsF l).2, .bool (goodE (endsF l))]) ∧ Below w.heap.size w w' := by
  have HC := hide (cut_walk ⟨l.toArray⟩ 58 w (by rw [← sz_list]; simpa using hs) hm)
  have HE := hide (show endsF l = (numF (cutB 58 l).1 16, numF (cutB 58 l).2 8) from rfl)
  obtain ⟨X, hX⟩ : ∃ X, (cutB 58 l).1 = X := ⟨_, rfl⟩
  obtain ⟨Y, hY⟩ : ∃ Y, (cutB 58 l).2 = Y := ⟨_, rfl⟩
  have HC2 := hide (HC.out.mono (fun e w' h => show e = .returned (.tuple #[.string ⟨X.toArray⟩, .string ⟨Y.toArray⟩, .bool (decide (58 ∈ l))]) ∧ Below w.heap.size w w' from by rw [← hX, ← hY]; exact h))
  rw [hX, hY] at HE
  clear HC hX hY
  rw [HE.out]
  have HX := hide (fun w => num_walk X 16 w)
  have HY := hide (fun w => num_walk Y 8 w)
  obtain ⟨A, hA⟩ : ∃ A, numF X 16 = A := ⟨_, rfl⟩
  obtain ⟨B, hB⟩ : ∃ B, numF Y 8 = B := ⟨_, rfl⟩
  rw [hA] at HX ⊢
  rw [hB] at HY ⊢
  clear hA hB HE
  go_enter Tryd.func45, Tryd.ntmps45
  go_wp2_with fail
  refine HC2.out.mono ?_
  rintro e w1 ⟨rfl, hb⟩
  have HB := hide hb
  clear hb HC2
  by_cases h1 : 0 ≤ A
  · by_cases h2 : 0 ≤ B
    · go_wp2_with (first | (go_at_call_of 81 (Value.string ⟨X.toArray⟩); refine (HX.out _).mono ?_; rintro e w2 ⟨rfl, rfl⟩) | (go_at_call_of 81 (Value.string ⟨Y.toArray⟩); refine (HY.out _).mono ?_; rintro e w2 ⟨rfl, rfl⟩))
      go_ret3
      exact ⟨by simp [goodE, h1, h2], HB.out⟩
    · have h3 : decide (0 ≤ B) = false := by simp; omega
      go_wp2_with (first | (go_at_call_of 81 (Value.string ⟨X.toArray⟩); refine (HX.out _).mono ?_; rintro e w2 ⟨rfl, rfl⟩) | (go_at_call_of 81 (Value.string ⟨Y.toArray⟩); refine (HY.out _).mono ?_; rintro e w2 ⟨rfl, rfl⟩))
      go_ret3
      exact ⟨by simp [goodE]; omega, HB.out⟩
  · have h3 : decide (0 ≤ A) = false := by simp; omega
    go_wp2_with (first | (go_at_call_of 81 (Value.string ⟨X.toArray⟩); refine (HX.out _).mono ?_; rintro e w2 ⟨rfl, rfl⟩) | (go_at_call_of 81 (Value.string ⟨Y.toArray⟩); refine (HY.out _).mono ?_; rintro e w2 ⟨rfl, rfl⟩))
    go_ret3
    exact ⟨by simp [goodE]; omega, HB.out⟩
theorem endT_len {a p : Nat} (ha : a < 100) (hp : p < 100) : (endT a p).length ≤ 5 := by
  have := dec_len2 ha; have := dec_len2 hp
  simp [endT]; omega
def printF (p : P4) : List UInt8 := if rightB p then packT p else []
theorem print_walk (p : P4) (W : World) :
    Calls Tryd.prog 16 #[.agg #[.int .i64 p.src, .int .i64 p.dst, .int .i64 p.sport, .int .i64 p.dport]] W fun e W' => e = .returned (.tuple #[strV (printF p), .int .i64 (if rightB p then 0 else 1)]) ∧ Below W.heap.size W W' := by
  have HC := hide (fun (w : World) => packetCheck_walk p w)
  cases hR : rightB p with
  | false =>
    simp only [hR] at HC
    have HF := hide (show strV (printF p) = .string ⟨#[]⟩ by simp [printF, hR, strV])
    rw [HF.out]
    obtain ⟨a, b, c, d⟩ := p
    clear hR
    go_enter Tryd.func16, Tryd.ntmps16
    go_wp2_with fail
    have hb0 := (Below.refl W.heap.size W).alloc (Nat.le_refl _) (.cells #[.int .i64 a, .int .i64 b, .int .i64 c, .int .i64 d] 23)
    refine (HC.out _).mono ?_
    rintro e w1 ⟨rfl, hb⟩
    have HB := hide (hb0.trans (hb.mono hb0.size))
    clear hb hb0
    go_wp2
    go_ret2
    exact ⟨rfl, HB.out⟩
  | true =>
    simp only [hR] at HC
    obtain ⟨a, b, c, d, rfl, h1, h2, h3, h4⟩ := right_nats hR
    have HF := hide (show strV (printF ⟨(a : Int), (b : Int), (c : Int), (d : Int)⟩) = .string ⟨(endT a c ++ 62 :: endT b d).toArray⟩ by simp [printF, hR, packT, strV])
    rw [HF.out]
    have l1 := endT_len (show a < 100 by omega) (show c < 100 by omega)
    have l2 := endT_len (show b < 100 by omega) (show d < 100 by omega)
    have HX := hide (fun w => (end_walk a c (by omega) (by omega) w).mono (fun e w' h => show e = .returned (.string ⟨(endT a c).toArray⟩) ∧ w' = w from ⟨h.1, h.2.symm⟩))
    have HY := hide (fun w => (end_walk b d (by omega) (by omega) w).mono (fun e w' h => show e = .returned (.string ⟨(endT b d).toArray⟩) ∧ w' = w from ⟨h.1, h.2.symm⟩))
    generalize endT a c = X at *
    generalize endT b d = Y at *
    have e1 : ∀ w', (Op.stringOp .add ⟨X.toArray⟩ ⟨#[62]⟩).run Tryd.prog w' = .ok (.string ⟨(X ++ [62]).toArray⟩) w' := add_run X [62] (by omega) (by simp)
    have e2 : ∀ w', (Op.stringOp .add ⟨(X ++ [62]).toArray⟩ ⟨Y.toArray⟩).run Tryd.prog w' = .ok (.string ⟨(X ++ 62 :: Y).toArray⟩) w' := fun w' => by
      have := add_run (X ++ [62]) Y (by simp; omega) (by omega) w'
      simpa using this
    clear hR HF l1 l2
    go_enter Tryd.func16, Tryd.ntmps16
    go_wp2_with fail
    have hb0 := (Below.refl W.heap.size W).alloc (Nat.le_refl _) (.cells #[.int .i64 (a : Int), .int .i64 (b : Int), .int .i64 (c : Int), .int .i64 (d : Int)] 23)
    have HX0 := hide (heap_alloc_new W (.cells #[.int .i64 (a : Int), .int .i64 (b : Int), .int .i64 (c : Int), .int .i64 (d : Int)] 23))
    refine (HC.out _).mono ?_
    rintro e w1 ⟨rfl, hb⟩
    have HB := hide (hb0.trans (hb.mono hb0.size))
    have hx := (hb.block W.heap.size (by simp)).trans HX0.out
    have x0 : w1.cell? ⟨W.heap.size, 0, none⟩ = some (.int .i64 (a : Int)) := by rw [cell_of_row _ _ _ _ _ _ hx]; rfl
    have x1 : w1.cell? ⟨W.heap.size, 1, none⟩ = some (.int .i64 (b : Int)) := by rw [cell_of_row _ _ _ _ _ _ hx]; rfl
    have x2 : w1.cell? ⟨W.heap.size, 2, none⟩ = some (.int .i64 (c : Int)) := by rw [cell_of_row _ _ _ _ _ _ hx]; rfl
    have x3 : w1.cell? ⟨W.heap.size, 3, none⟩ = some (.int .i64 (d : Int)) := by rw [cell_of_row _ _ _ _ _ _ hx]; rfl
    clear hb hb0 hx HX0
    go_wp2
    go_quiet (first | (go_at_call_of 43 (Value.int .i64 (a : Int)); exact Calls.quiet_of_same (HX.out _)) | (go_at_call_of 43 (Value.int .i64 (b : Int)); exact Calls.quiet_of_same (HY.out _)))
    go_wp2
    go_ret2
    exact ⟨rfl, HB.out.trans ((below_drewN w1 _).mono HB.out.size)⟩
theorem heap_lt {w : World} {b : Nat} {o : Obj} (h : w.heap[b]? = some o) : b < w.heap.size := (Array.getElem?_eq_some_iff.1 h).1
theorem cells4f {w : World} {b : Nat} {x0 x1 x2 x3 : Value} {t : TypeId} (h : w.heap[b]? = some (.cells #[x0, x1, x2, x3] t)) :
    w.cell? ⟨b, 0, none⟩ = some x0 ∧ w.cell? ⟨b, 1, none⟩ = some x1 ∧ w.cell? ⟨b, 2, none⟩ = some x2 ∧ w.cell? ⟨b, 3, none⟩ = some x3 ∧
    w.frozen? ⟨b, 0, none⟩ = false ∧ w.frozen? ⟨b, 1, none⟩ = false ∧ w.frozen? ⟨b, 2, none⟩ = false ∧ w.frozen? ⟨b, 3, none⟩ = false :=
  ⟨by rw [cell_of_row _ _ _ _ _ _ h]; rfl, by rw [cell_of_row _ _ _ _ _ _ h]; rfl, by rw [cell_of_row _ _ _ _ _ _ h]; rfl, by rw [cell_of_row _ _ _ _ _ _ h]; rfl,
    frozen_of_row _ _ _ _ _ h, frozen_of_row _ _ _ _ _ h, frozen_of_row _ _ _ _ _ h, frozen_of_row _ _ _ _ _ h⟩
def parseV (l : List UInt8) : Value := .tuple #[.agg #[.int .i64 (parseF l).1.src, .int .i64 (parseF l).1.dst, .int .i64 (parseF l).1.sport, .int .i64 (parseF l).1.dport], .int .i64 (parseF l).2]
theorem cutB_len (b : UInt8) : ∀ (l : List UInt8), (cutB b l).1.length ≤ l.length ∧ (cutB b l).2.length ≤ l.length
  | [] => ⟨Nat.le_refl _, Nat.le_refl _⟩
  | x :: r => by
    have := cutB_len b r
    rw [cutB]
    split
    · simp
    · simp; omega
theorem parse_walk (l : List UInt8) (W : World) (hs : l.length ≤ 1048576) (hm : MaxAt W) :
    Calls Tryd.prog 17 #[.string ⟨l.toArray⟩] W fun e W' => e = .returned (parseV l) ∧ Below W.heap.size W W' := by
  have hb0 := (Below.refl W.heap.size W).alloc (Nat.le_refl _) (.cells #[.int .i64 0, .int .i64 0, .int .i64 0, .int .i64 0] 23)
  have hx := heap_alloc_new W (.cells #[.int .i64 0, .int .i64 0, .int .i64 0, .int .i64 0] 23)
  have hcl := cutB_len 62 l
  have HP := hide (show parseF l = if goodE (endsF (cutB 62 l).1) && goodE (endsF (cutB 62 l).2) then (⟨(endsF (cutB 62 l).1).1, (endsF (cutB 62 l).2).1, (endsF (cutB 62 l).1).2, (endsF (cutB 62 l).2).2⟩, 0) else (⟨0, 0, 0, 0⟩, 3) from rfl)
  have HC0 := hide (fun (w : World) (h : MaxAt w) => cut_walk ⟨l.toArray⟩ 62 w (by rw [← sz_list]; simpa using hs) h)
  obtain ⟨X, hX⟩ : ∃ X, (cutB 62 l).1 = X := ⟨_, rfl⟩
  obtain ⟨Y, hY⟩ : ∃ Y, (cutB 62 l).2 = Y := ⟨_, rfl⟩
  have HC := hide (fun (w : World) (h : MaxAt w) => (HC0.out w h).mono (fun e w' h => show e = .returned (.tuple #[.string ⟨X.toArray⟩, .string ⟨Y.toArray⟩, .bool (decide (62 ∈ l))]) ∧ Below w.heap.size w w' from by rw [← hX, ← hY]; exact h))
  rw [hX, hY] at HP hcl
  clear HC0 hX hY
  have HX := hide (fun (w : World) (h : MaxAt w) => ends_walk X w (by omega) h)
  have HY := hide (fun (w : World) (h : MaxAt w) => ends_walk Y w (by omega) h)
  clear hcl
  obtain ⟨⟨A, B⟩, hA⟩ : ∃ A, endsF X = A := ⟨_, rfl⟩
  obtain ⟨⟨C, D⟩, hC⟩ : ∃ C, endsF Y = C := ⟨_, rfl⟩
  rw [hA] at HX HP
  rw [hC] at HY HP
  obtain ⟨g1, hg1⟩ : ∃ g, goodE (A, B) = g := ⟨_, rfl⟩
  obtain ⟨g2, hg2⟩ : ∃ g, goodE (C, D) = g := ⟨_, rfl⟩
  rw [hg1] at HX HP
  rw [hg2] at HY HP
  have HV := hide (show parseV l = .tuple #[.agg #[.int .i64 (parseF l).1.src, .int .i64 (parseF l).1.dst, .int .i64 (parseF l).1.sport, .int .i64 (parseF l).1.dport], .int .i64 (parseF l).2] from rfl)
  rw [HP.out] at HV
  rw [HV.out]
  clear HP HV hA hC hg1 hg2
  have HM := hide hm
  clear hm
  go_enter Tryd.func17, Tryd.ntmps17
  go_wp2_with fail
  generalize W.alloc (.cells #[.int .i64 0, .int .i64 0, .int .i64 0, .int .i64 0] 23) = w1 at *
  have HM1 := hide (HM.out.below hb0)
  refine (HC.out _ HM1.out).mono ?_
  rintro e w2 ⟨rfl, hb2⟩
  have hx2 := (hb2.block W.heap.size (heap_lt hx)).trans hx
  have hbb2 := hb0.trans (hb2.mono hb0.size)
  have HM2 := hide (HM1.out.below hb2)
  clear HC hb2 hx hb0 HM1
  go_wp2_with fail
  refine (HX.out _ HM2.out).mono ?_
  rintro e w3 ⟨rfl, hb3⟩
  have hx3 := (hb3.block W.heap.size (heap_lt hx2)).trans hx2
  have hbb3 := hbb2.trans (hb3.mono hbb2.size)
  have HM3 := hide (HM2.out.below hb3)
  clear HX hb3 hx2 hbb2 HM2
  go_wp2_with fail
  refine (HY.out _ HM3.out).mono ?_
  rintro e w4 ⟨rfl, hb4⟩
  have hx4 := (hb4.block W.heap.size (heap_lt hx3)).trans hx3
  have HB := hide (hbb3.trans (hb4.mono hbb3.size))
  obtain ⟨z0, z1, z2, z3, z4, z5, z6, z7⟩ := cells4f hx4
  clear HY hb4 hx3 hbb3 hx4 HM3
  cases g1 <;> cases g2
  all_goals
    go_wp2
    first
      | refine bodyPost_ret (v := .tuple #[.agg #[.int .i64 0, .int .i64 0, .int .i64 0, .int .i64 0], .int .i64 3]) (by simp [results, Tryd.f17, go_sem, z0, z1, z2, z3]) rfl ⟨rfl, ?_⟩
      | refine bodyPost_ret (v := .tuple #[.agg #[.int .i64 A, .int .i64 C, .int .i64 B, .int .i64 D], .int .i64 0]) (by simp [results, Tryd.f17, go_sem, z0, z1, z2, z3]) rfl ⟨rfl, ?_⟩
    exact (((HB.out.setCell (Nat.le_refl _) _).setCell (Nat.le_refl _) _).setCell (Nat.le_refl _) _).setCell (Nat.le_refl _) _
open Bdd Go.Maps
theorem of_walk (w : World) (c : Nat) (hc : c < 16384) :
    Calls Tryd.prog 15 #[.int .i64 c] w fun e W' => e = .returned (.tuple #[packVal c, .int .i64 0]) ∧ Below w.heap.size w W' := by
  have b1 : ∀ m : Nat, m < 9223372036854775808 → Go.bits .and .i64 (m : Int) 15 = ((m % 16 : Nat) : Int) := fun m hm => by
    have := i64_and m 15 hm (by omega)
    rw [show (15 : Nat) = 2 ^ 4 - 1 from rfl, Nat.and_two_pow_sub_one_eq_mod] at this
    exact this
  have b2 : ∀ m : Nat, m < 9223372036854775808 → Go.bits .and .i64 (m : Int) 7 = ((m % 8 : Nat) : Int) := fun m hm => by
    have := i64_and m 7 hm (by omega)
    rw [show (7 : Nat) = 2 ^ 3 - 1 from rfl, Nat.and_two_pow_sub_one_eq_mod] at this
    exact this
  have HV : Hid (packVal c = .agg #[.int .i64 ((c : Int) / 1024), .int .i64 (Go.bits .and .i64 ((c : Int) / 64) 15), .int .i64 (Go.bits .and .i64 ((c : Int) / 8) 7), .int .i64 (Go.bits .and .i64 (c : Int) 7)]) := hide (by
    have e1 : ((c / 1024 : Nat) : Int) = (c : Int) / 1024 := by omega
    have e2 : ((c : Int) / 64) = ((c / 64 : Nat) : Int) := by omega
    have e3 : ((c : Int) / 8) = ((c / 8 : Nat) : Int) := by omega
    rw [e2, e3, b1 _ (by omega), b2 _ (by omega), b2 _ (by omega), ← e1]; rfl)
  clear b1 b2
  go_enter Tryd.func15, Tryd.ntmps15
  go_wp2_with fail
  refine (within_walk _ _ _ true (by simp; omega)).mono ?_
  rintro e w1 ⟨rfl, rfl⟩
  go_wp2
  refine bodyPost_ret (v := .tuple #[.agg #[.int .i64 ((c : Int) / 1024), .int .i64 (Go.bits .and .i64 ((c : Int) / 64) 15), .int .i64 (Go.bits .and .i64 ((c : Int) / 8) 7), .int .i64 (Go.bits .and .i64 (c : Int) 7)], .int .i64 0]) (by simp [results, Tryd.results15, go_sem]) rfl ⟨by rw [HV.out], ?_⟩
  exact (Below.refl _ _).alloc (Nat.le_refl _) _
end Go.Proofs.YtohbafigjpoijaaDoor
namespace Go.Proofs.YtohbafigjpoijaaDoor
open Go.RowKit
theorem flipS_walk (a b c d : Int) (W : World) : Calls Tryd.prog 20 #[.agg #[.int .i64 a, .int .i64 b, .int .i64 c, .int .i64 d]] W fun e W' => e = .returned (.agg #[.int .i64 b, .int .i64 a, .int .i64 d, .int .i64 c]) ∧ Below W.heap.size W W' := by
  have hx := heap_alloc_new W (.cells #[.int .i64 a, .int .i64 b, .int .i64 c, .int .i64 d] 23)
  have hy := fun v => heap_alloc_new (W.alloc (.cells #[.int .i64 a, .int .i64 b, .int .i64 c, .int .i64 d] 23)) (.cells v 23)
  have hs : (W.alloc (.cells #[.int .i64 a, .int .i64 b, .int .i64 c, .int .i64 d] 23)).heap.size = W.heap.size + 1 := by simp
  have hb0 := (Below.refl W.heap.size W).alloc (Nat.le_refl _) (.cells #[.int .i64 a, .int .i64 b, .int .i64 c, .int .i64 d] 23)
  have HB := hide (fun v => hb0.alloc (by simp) (.cells v 23))
  have hx2 := fun v => (((Below.refl _ (W.alloc (.cells #[.int .i64 a, .int .i64 b, .int .i64 c, .int .i64 d] 23))).alloc (Nat.le_refl _) (.cells v 23)).block W.heap.size (by simp)).trans hx
  rw [hs] at hy
  obtain ⟨x0, x1, x2, x3, _⟩ := cells4f (hx2 #[.int .i64 0, .int .i64 0, .int .i64 0, .int .i64 0])
  obtain ⟨y0, y1, y2, y3, y4, y5, y6, y7⟩ := cells4f (hy #[.int .i64 0, .int .i64 0, .int .i64 0, .int .i64 0])
  have HY := hide (hy #[.int .i64 b, .int .i64 a, .int .i64 d, .int .i64 c])
  obtain ⟨z0, z1, z2, z3, z4⟩ := cells4f hx
  clear hx hx2 hs hb0 hy
  go_enter Tryd.func20, Tryd.ntmps20
  go_wp2
  obtain ⟨u0, u1, u2, u3, _⟩ := cells4f HY.out
  refine bodyPost_ret (v := .agg #[.int .i64 b, .int .i64 a, .int .i64 d, .int .i64 c]) (by simp [results, Tryd.f20, go_sem, u0, u1, u2, u3]) rfl ⟨rfl, HB.out _⟩
theorem ends_endT (a p : Nat) (ha : a < 16) (hp : p < 8) : endsF (endT a p) = ((a : Int), (p : Int)) := by
  rw [endsF, endT, cutB_at 58 _ _ (not_dec a 58 (by decide))]
  simp only
  rw [num_dec a 16 (by omega) (by omega), num_dec p 8 (by omega) (by omega)]
theorem not_endT (a p : Nat) : (62 : UInt8) ∉ endT a p := by
  intro h
  rcases List.mem_append.1 h with h | h
  · exact not_dec a 62 (by decide) h
  · rcases List.mem_cons.1 h with h | h
    · exact absurd h (by decide)
    · exact not_dec p 62 (by decide) h
theorem parse_print {p : P4} (h : rightB p = true) : parseF (packT p) = (p, 0) := by
  obtain ⟨a, b, c, d, rfl, h1, h2, h3, h4⟩ := right_nats h
  have e : packT ⟨(a : Int), (b : Int), (c : Int), (d : Int)⟩ = endT a c ++ 62 :: endT b d := by simp [packT]
  rw [e, parseF, cutB_at 62 _ _ (not_endT a c)]
  simp only
  rw [ends_endT a c h1 h3, ends_endT b d h2 h4]
  have hg : (goodE ((a : Int), (c : Int)) && goodE ((b : Int), (d : Int))) = true := by simp [goodE]
  rw [if_pos hg]
theorem cutB_join {b : UInt8} {l : List UInt8} (h : (cutB b l).2 ≠ []) : l = (cutB b l).1 ++ b :: (cutB b l).2 := by
  by_cases hb : b ∈ l
  · obtain ⟨u, v, rfl, hu⟩ := split_first hb
    rw [cutB_at b u v hu]
  · rw [cutB_not b l hb] at h; exact absurd rfl h
theorem good_ends {l : List UInt8} (h : goodE (endsF l) = true) : ∃ a p : Nat, endsF l = ((a : Int), (p : Int)) ∧ a < 16 ∧ p < 8 ∧ l = endT a p := by
  have h : 0 ≤ numF (cutB 58 l).1 16 ∧ 0 ≤ numF (cutB 58 l).2 8 := by
    have h0 := Bool.and_eq_true_iff.1 h
    exact ⟨of_decide_eq_true h0.1, of_decide_eq_true h0.2⟩
  obtain ⟨n1, e1⟩ := numF_some h.1
  obtain ⟨n2, e2⟩ := numF_some h.2
  have l1 := numF_lt _ _ h.1
  have l2 := numF_lt _ _ h.2
  refine ⟨digs (cutB 58 l).1, digs (cutB 58 l).2, by rw [endsF, e1, e2], by omega, by omega, ?_⟩
  rw [endT, numeral_dec n1, numeral_dec n2]
  exact cutB_join (fun e => by rw [e] at n2; simp [numeral] at n2)
theorem print_parse {l : List UInt8} (h : (parseF l).2 = 0) : rightB (parseF l).1 = true ∧ packT (parseF l).1 = l := by
  unfold parseF at *
  split at h
  · rename_i hg
    rw [if_pos hg]
    simp only [Bool.and_eq_true] at hg
    obtain ⟨a, p, e1, h1, h2, q1⟩ := good_ends hg.1
    obtain ⟨b, r, e2, h3, h4, q2⟩ := good_ends hg.2
    rw [e1, e2]
    refine ⟨by simp only [rightB, inR]; simp; omega, ?_⟩
    simp only [packT, Int.toNat_natCast]
    rw [← q1, ← q2]
    refine (cutB_join (fun e => ?_)).symm
    rw [e] at q2
    have : endT b r ≠ [] := by simp [endT]
    exact this q2.symm
  · exact absurd h (by decide)
theorem parse_err (l : List UInt8) : (parseF l).2 = 0 ∨ (parseF l) = (⟨0, 0, 0, 0⟩, 3) := by
  unfold parseF; split <;> simp
structure Kp (W w : World) (L : List (Nat × Array Value)) : Prop where
  bl : Below W.heap.size W w
  bx : ∀ x ∈ L, ∃ t, w.heap[x.1]? = some (.cells x.2 t)
theorem Kp.nil (W : World) : Kp W W [] := ⟨Below.refl _ _, by simp⟩
theorem Kp.below {W w w' : World} {L : List (Nat × Array Value)} (h : Kp W w L) (hb : Below w.heap.size w w') : Kp W w' L :=
  ⟨h.bl.trans (hb.mono h.bl.size), fun x hx => (h.bx x hx).imp fun t e => (hb.block x.1 (heap_lt e)).trans e⟩
theorem Kp.al {W w : World} {L : List (Nat × Array Value)} (h : Kp W w L) (vs : Array Value) (t : TypeId) : Kp W (w.alloc (.cells vs t)) ((w.heap.size, vs) :: L) := by
  have h1 := h.below ((Below.refl w.heap.size w).alloc (Nat.le_refl _) (.cells vs t))
  refine ⟨h1.bl, fun x hx => ?_⟩
  rcases List.mem_cons.1 hx with rfl | hx
  · exact ⟨t, heap_alloc_new w _⟩
  · exact h1.bx x hx
theorem Kp.c4 {W w : World} {L : List (Nat × Array Value)} (h : Kp W w L) (i : Nat) {N : Nat} {x0 x1 x2 x3 : Value} (hx : L[i]? = some (N, #[x0, x1, x2, x3])) :
    N < w.heap.size ∧ w.cell? ⟨N, 0, none⟩ = some x0 ∧ w.cell? ⟨N, 1, none⟩ = some x1 ∧ w.cell? ⟨N, 2, none⟩ = some x2 ∧ w.cell? ⟨N, 3, none⟩ = some x3 ∧
    w.frozen? ⟨N, 0, none⟩ = false ∧ w.frozen? ⟨N, 1, none⟩ = false ∧ w.frozen? ⟨N, 2, none⟩ = false ∧ w.frozen? ⟨N, 3, none⟩ = false := by
  obtain ⟨t, e⟩ := h.bx _ (List.mem_of_getElem? hx)
  exact ⟨heap_lt e, cells4f e⟩
theorem set_block {w : World} {N j : Nat} {vs : Array Value} {t : TypeId} (v : Value) (h : w.heap[N]? = some (.cells vs t)) : (w.setCell ⟨N, j, none⟩ v).heap[N]? = some (.cells (vs.setIfInBounds j v) t) := heap_setCell_same w N j vs t v h
theorem Kp.set4 {W w : World} {L : List (Nat × Array Value)} {N : Nat} {x0 x1 x2 x3 : Value} (h : Kp W w ((N, #[x0, x1, x2, x3]) :: L)) (hne : ∀ x ∈ L, x.1 ≠ N) (hN : W.heap.size ≤ N) (y0 y1 y2 y3 : Value) :
    Kp W ((((w.setCell ⟨N, 0, none⟩ y0).setCell ⟨N, 1, none⟩ y1).setCell ⟨N, 2, none⟩ y2).setCell ⟨N, 3, none⟩ y3) ((N, #[y0, y1, y2, y3]) :: L) := by
  refine ⟨(((h.bl.setCell hN _).setCell hN _).setCell hN _).setCell hN _, fun x hx => ?_⟩
  rcases List.mem_cons.1 hx with rfl | hx
  · obtain ⟨t, e⟩ := h.bx _ (List.mem_cons_self ..)
    exact ⟨t, set_block y3 (set_block y2 (set_block y1 (set_block y0 e)))⟩
  · obtain ⟨t, e⟩ := h.bx x (List.mem_cons_of_mem _ hx)
    refine ⟨t, ?_⟩
    have := hne x hx
    rw [heap_setCell_other _ _ _ _ (by simpa using this), heap_setCell_other _ _ _ _ (by simpa using this), heap_setCell_other _ _ _ _ (by simpa using this), heap_setCell_other _ _ _ _ (by simpa using this)]
    exact e
theorem Kp.sub {W w : World} {L L' : List (Nat × Array Value)} (h : Kp W w L) (hs : ∀ x ∈ L', x ∈ L) : Kp W w L' := ⟨h.bl, fun x hx => h.bx x (hs x hx)⟩
end Go.Proofs.YtohbafigjpoijaaDoor
