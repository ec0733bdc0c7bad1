/- match.read. -/
import Derived.Test.YtohbafigjpoijaaDoorMt4
set_option linter.unusedVariables false
set_option linter.unusedSimpArgs false
set_option maxRecDepth 100000
set_option maxHeartbeats 8000000
namespace Go.Proofs.YtohbafigjpoijaaDoor
open Go.RowKit

theorem readRows_app (most : Nat) : ∀ (xs ys : List (List UInt8)) (s : Nat), readRowsF most s (xs ++ ys) = (readRowsF most s xs).bind (fun x => readRowsF most x ys)
  | [], ys, s => rfl
  | r :: xs, ys, s => by
    simp only [List.cons_append, readRowsF]
    cases rowOf most r with
    | none => rfl
    | some p => exact readRows_app most xs ys _
theorem readRows_next {most : Nat} {ps : List (List UInt8)} {k x : Nat} {r : List UInt8} (hr : ps[k]? = some r) (h : readRowsF most 0 (ps.take k) = some x) :
    readRowsF most 0 (ps.take (k + 1)) = match rowOf most r with | none => none | some (lo, hi) => some (maskF x (List.range' lo (hi + 1 - lo))) := by
  have ht : ps.take (k + 1) = ps.take k ++ [r] := by rw [List.take_add_one, hr]; rfl
  rw [ht, readRows_app, h]
  show readRowsF most x [r] = _
  unfold readRowsF
  cases rowOf most r with
  | none => rfl
  | some p => rfl
theorem readRows_fail {most : Nat} {ps : List (List UInt8)} {k : Nat} (h : readRowsF most 0 (ps.take k) = none) : readRowsF most 0 ps = none := by
  have := readRows_app most (ps.take k) (ps.drop k) 0
  rw [List.take_append_drop, h] at this
  exact this
theorem mask_snoc (x lo n : Nat) (h : lo ≤ n) : maskF x (List.range' lo (n + 1 - lo)) = maskF x (List.range' lo (n - lo)) ||| 2 ^ n := by
  rw [show n + 1 - lo = (n - lo) + 1 by omega, List.range'_concat, maskF, List.foldl_append, show lo + 1 * (n - lo) = n by omega]
  rfl
theorem mask_lt {most x lo n : Nat} (hx : x < 2 ^ most) (hn : n ≤ most) (hl : lo ≤ n) : maskF x (List.range' lo (n - lo)) < 2 ^ most := by
  apply Nat.lt_pow_two_of_testBit
  intro i hi
  rw [mask_bit, Nat.testBit_lt_two_pow (Nat.lt_of_lt_of_le hx (Nat.pow_le_pow_right (by decide) hi)), Bool.false_or]
  exact decide_eq_false (by simp only [List.mem_range'_1]; omega)
def readV (r : Option Nat) : Value := match r with | some x => .tuple #[.int .u16 (x : Int), .bool true] | none => .tuple #[.int .u16 0, .bool false]

theorem read16_walk (l : List UInt8) (W : World) (hs : l.length ≤ 1048576) (hm : MaxAt W) :
    Calls Tryd.prog 50 #[.string ⟨l.toArray⟩, .int .i64 4] W fun e W' => e = .returned (readV (readF l 16)) ∧ Below W.heap.size W W' := by
  by_cases h1 : l = [42]
  · subst h1
    go_enter Tryd.func50, Tryd.ntmps50
    go_wp2
    go_ret2
    exact ⟨by simp [readF, readV] <;> decide, Below.refl _ _⟩
  by_cases h2 : l = [45]
  · subst h2
    go_enter Tryd.func50, Tryd.ntmps50
    go_wp2
    go_ret2
    exact ⟨by simp [readF, readV], Below.refl _ _⟩
  have q1 : (l == [42]) = false := by simpa using h1
  have q2 : (l == [45]) = false := by simpa using h2
  have HF := hide (show readF l 16 = readRowsF 16 0 (pieces 44 l) by rw [readF, if_neg h1, if_neg h2])
  have HSP := hide (split_walk l 44 W hs hm)
  have HEA := hide (pieces_each 44 l)
  obtain ⟨ps, hps⟩ : ∃ ps, pieces 44 l = ps := ⟨_, rfl⟩
  obtain ⟨N, hN⟩ : ∃ N, ps.length = N := ⟨_, rfl⟩
  have hpl := pieces_len 44 l
  rw [hps] at HF HSP HEA hpl
  rw [hN] at HSP hpl
  rw [HF.out]
  have HN := hide hN
  have HM := hide hm
  clear h1 h2 HF hps hN hm
  go_enter Tryd.func50, Tryd.ntmps50
  go_wp2_with fail
  refine HSP.out.mono ?_
  rintro e w1 ⟨rfl, hst, hb⟩
  have HST := hide hst
  have HB1 := hide hb
  have HM1 := hide (HM.out.below hb)
  clear hst hb HSP HM
  have hn63 : N ≤ 9223372036854775807 := by omega
  go_wp2_with fail
  go_loopw [7, 29] (fun sv i wr => ∃ (k x : Nat), k ≤ N ∧ i = .int .i64 (k : Int) ∧ sv = .int .u16 (x : Int) ∧ Hid (readRowsF 16 0 (ps.take k) = some x) ∧ Hid (x < 65536) ∧ Hid (Below w1.heap.size w1 wr)) (fun _ i _ => N - (intOf i).toNat)
  case atStart => exact ⟨0, 0, Nat.zero_le _, rfl, rfl, hide rfl, hide (by decide), hide (Below.refl _ _)⟩
  case round =>
    obtain ⟨k, x, hk, rfl, rfl, HRD, HXL, HBW⟩ := hrel
    by_cases hlt : k < N
    case pos =>
      obtain ⟨r, hr⟩ : ∃ r, ps[k]? = some r := ⟨_, List.getElem?_eq_getElem (by have := HN.out; omega)⟩
      have c0 := (HST.out.below HBW.out).get hr
      have hrl := HEA.out r (List.mem_of_getElem? hr)
      have HNX0 := hide (readRows_next hr HRD.out)
      have HCUT := hide (cut_walk ⟨r.toArray⟩ 45 wr (by rw [← sz_list]; simpa using (show r.length ≤ 1048576 by omega)) (HM1.out.below HBW.out))
      have HRO := hide (show rowOf 16 r = (if numF (cutB 45 r).1 16 < 0 ∨ numF (if 45 ∈ r then (cutB 45 r).2 else (cutB 45 r).1) 16 < numF (cutB 45 r).1 16 then none else some ((numF (cutB 45 r).1 16).toNat, (numF (if 45 ∈ r then (cutB 45 r).2 else (cutB 45 r).1) 16).toNat)) from rfl)
      have hltA := numF_lt (cutB 45 r).1 16
      have hltB := numF_lt (cutB 45 r).2 16
      obtain ⟨X, hX⟩ : ∃ X, (cutB 45 r).1 = X := ⟨_, rfl⟩
      obtain ⟨Y, hY⟩ : ∃ Y, (cutB 45 r).2 = Y := ⟨_, rfl⟩
      have HC2 := hide (HCUT.out.mono (fun e w' h => show e = .returned (.tuple #[.string ⟨X.toArray⟩, .string ⟨Y.toArray⟩, .bool (decide (45 ∈ r))]) ∧ Below wr.heap.size wr w' from by rw [← hX, ← hY]; exact h))
      rw [hX, hY] at HRO
      rw [hX] at hltA
      rw [hY] at hltB
      clear HCUT hX hY hr hrl
      have HNA := hide (fun w => num_walk X 16 w)
      have HNB := hide (fun w => num_walk Y 16 w)
      obtain ⟨A, hA⟩ : ∃ A, numF X 16 = A := ⟨_, rfl⟩
      obtain ⟨B, hB⟩ : ∃ B, numF Y 16 = B := ⟨_, rfl⟩
      rw [hA] at HNA hltA
      rw [hB] at HNB hltB
      by_cases hin : 45 ∈ r
      case pos =>
        rw [if_pos hin, hA, hB] at HRO
        have hdec : decide (45 ∈ r) = true := decide_eq_true hin
        rw [hdec] at HC2
        have HFAIL := hide (fun (h : A < 0 ∨ B < A) => readRows_fail (k := k + 1) (by rw [HNX0.out, HRO.out, if_pos h]))
        go_wp2_with fail
        refine HC2.out.mono ?_
        rintro e w5 ⟨rfl, hb5⟩
        have HBW5 := hide (HBW.out.trans (hb5.mono HBW.out.size))
        clear hb5 HC2 c0 HBW
        have HBF := hide (HB1.out.trans (HBW5.out.mono HB1.out.size))
        by_cases hA : A < 0
        · have HNO := hide (HFAIL.out (.inl hA))
          clear HFAIL HRO HNX0 hltA hltB
          go_wp2_with (first | (go_at_call_of 81 (Value.string ⟨X.toArray⟩); refine (HNA.out _).mono ?_; rintro e w6 ⟨rfl, rfl⟩) | (go_at_call_of 81 (Value.string ⟨Y.toArray⟩); refine (HNB.out _).mono ?_; rintro e w6 ⟨rfl, rfl⟩))
          go_ret2
          exact ⟨by rw [HNO.out]; rfl, HBF.out⟩
        · have dA : decide (A < 0) = false := decide_eq_false hA
          by_cases hB : B < A
          · have HNO := hide (HFAIL.out (.inr hB))
            clear HFAIL HRO HNX0 hltA hltB
            go_wp2_with (first | (go_at_call_of 81 (Value.string ⟨X.toArray⟩); refine (HNA.out _).mono ?_; rintro e w6 ⟨rfl, rfl⟩) | (go_at_call_of 81 (Value.string ⟨Y.toArray⟩); refine (HNB.out _).mono ?_; rintro e w6 ⟨rfl, rfl⟩))
            go_ret2
            exact ⟨by rw [HNO.out]; rfl, HBF.out⟩
          · have dB : decide (B < A) = false := decide_eq_false hB
            have hr2 := HRO.out
            rw [if_neg (by omega)] at hr2
            have hnx := HNX0.out
            rw [hr2] at hnx
            have hbm := hltB (by omega)
            obtain ⟨lo, rfl⟩ : ∃ lo : Nat, A = lo := ⟨A.toNat, by omega⟩
            obtain ⟨hi, rfl⟩ : ∃ hi : Nat, B = hi := ⟨B.toNat, by omega⟩
            simp only [Int.toNat_natCast] at hnx
            have HNX := hide hnx
            have hhi : hi < 16 := by omega
            have hlohi : lo ≤ hi := by omega
            clear HFAIL HRO HNX0 hltA hltB hr2 hnx hbm
            go_wp2_with (first | (go_at_call_of 81 (Value.string ⟨X.toArray⟩); refine (HNA.out _).mono ?_; rintro e w6 ⟨rfl, rfl⟩) | (go_at_call_of 81 (Value.string ⟨Y.toArray⟩); refine (HNB.out _).mono ?_; rintro e w6 ⟨rfl, rfl⟩))
            go_loopw [7, 15] (fun sv i wi => ∃ (n : Nat), lo ≤ n ∧ n ≤ hi + 1 ∧ i = .int .i64 (n : Int) ∧ sv = .int .u16 ((maskF x (List.range' lo (n - lo)) : Nat) : Int) ∧ wi = w5) (fun _ i _ => hi + 1 - (intOf i).toNat)
            case atStart => exact ⟨lo, Nat.le_refl _, by omega, rfl, by simp [maskF], rfl⟩
            case round =>
              obtain ⟨n, hn1, hn2, rfl, rfl, rfl⟩ := hrel
              by_cases hle : n ≤ hi
              case pos =>
                have hmx := mask_lt (most := 16) (x := x) (lo := lo) (n := n) HXL.out (by omega) hn1
                have HMS := hide (mask_snoc x lo n hn1)
                obtain ⟨y, hy⟩ : ∃ y, maskF x (List.range' lo (n - lo)) = y := ⟨_, rfl⟩
                rw [hy] at hmx HMS ⊢
                have h16 : (2 : Nat) ^ n ≤ 2 ^ 15 := Nat.pow_le_pow_right (by decide) (by omega)
                have hpw : ((2 : Int) ^ n) = ((2 ^ n : Nat) : Int) := by simp
                have hor : Go.bits .or .u16 (y : Int) ((2 : Int) ^ n) = ((y ||| 2 ^ n : Nat) : Int) := by
                  rw [hpw]; exact u16_or y (2 ^ n) (by omega) (by omega)
                have hwr : IntKind.u16.wrap ((2 : Int) ^ n) = (2 : Int) ^ n := by
                  rw [hpw]
                  have : (2 : Nat) ^ n < 65536 := by omega
                  generalize (2 : Nat) ^ n = z at this
                  simp [IntKind.wrap, IntKind.signed, IntKind.bits]; omega
                clear hy hmx h16 hpw
                go_wp2_with fail
                go_roundw
                case rel => exact ⟨n + 1, by omega, by omega, by go_num, by rw [HMS.out, ← hor], trivial⟩
                case measure => simp [intOf]; omega
              case neg =>
                obtain rfl : n = hi + 1 := by omega
                have hd7 : decide (hi + 1 ≤ hi) = false := by simp
                have hd9 : decide (((hi + 1 : Nat) : Int) ≤ (hi : Int)) = false := by simp; omega
                have hd8 : decide ((hi : Int) + 1 ≤ (hi : Int)) = false := by simp; omega
                have HXN := hide (show maskF x (List.range' lo (hi + 1 - lo)) < 65536 from mask_lt (most := 16) (x := x) (lo := lo) (n := hi + 1) HXL.out (by omega) (by omega))
                go_wp2_with fail
                go_roundw
                case rel => exact ⟨k + 1, _, by omega, by go_num, rfl, HNX, HXN, HBW5⟩
                case measure => simp [intOf]; omega
      case neg =>
        rw [if_neg hin, hA] at HRO
        have hdec : decide (45 ∈ r) = false := decide_eq_false hin
        rw [hdec] at HC2
        have HFAIL := hide (fun (h : A < 0 ∨ A < A) => readRows_fail (k := k + 1) (by rw [HNX0.out, HRO.out, if_pos h]))
        go_wp2_with fail
        refine HC2.out.mono ?_
        rintro e w5 ⟨rfl, hb5⟩
        have HBW5 := hide (HBW.out.trans (hb5.mono HBW.out.size))
        clear hb5 HC2 c0 HBW
        have HBF := hide (HB1.out.trans (HBW5.out.mono HB1.out.size))
        by_cases hA : A < 0
        · have HNO := hide (HFAIL.out (.inl hA))
          clear HFAIL HRO HNX0 hltA hltB
          go_wp2_with ((go_at_call 81; refine (HNA.out _).mono ?_; rintro e w6 ⟨rfl, rfl⟩))
          go_ret2
          exact ⟨by rw [HNO.out]; rfl, HBF.out⟩
        · have dA : decide (A < 0) = false := decide_eq_false hA
          by_cases hB : A < A
          · have HNO := hide (HFAIL.out (.inr hB))
            clear HFAIL HRO HNX0 hltA hltB
            go_wp2_with ((go_at_call 81; refine (HNA.out _).mono ?_; rintro e w6 ⟨rfl, rfl⟩))
            go_ret2
            exact ⟨by rw [HNO.out]; rfl, HBF.out⟩
          · have dB : decide (A < A) = false := decide_eq_false hB
            have hr2 := HRO.out
            rw [if_neg (by omega)] at hr2
            have hnx := HNX0.out
            rw [hr2] at hnx
            have hbm := hltA (by omega)
            obtain ⟨lo, rfl⟩ : ∃ lo : Nat, A = lo := ⟨A.toNat, by omega⟩
            skip
            simp only [Int.toNat_natCast] at hnx
            have HNX := hide hnx
            have hhi : lo < 16 := by omega
            have hlohi : lo ≤ lo := by omega
            clear HFAIL HRO HNX0 hltA hltB hr2 hnx hbm
            go_wp2_with ((go_at_call 81; refine (HNA.out _).mono ?_; rintro e w6 ⟨rfl, rfl⟩))
            go_loopw [7, 15] (fun sv i wi => ∃ (n : Nat), lo ≤ n ∧ n ≤ lo + 1 ∧ i = .int .i64 (n : Int) ∧ sv = .int .u16 ((maskF x (List.range' lo (n - lo)) : Nat) : Int) ∧ wi = w5) (fun _ i _ => lo + 1 - (intOf i).toNat)
            case atStart => exact ⟨lo, Nat.le_refl _, by omega, rfl, by simp [maskF], rfl⟩
            case round =>
              obtain ⟨n, hn1, hn2, rfl, rfl, rfl⟩ := hrel
              by_cases hle : n ≤ lo
              case pos =>
                have hmx := mask_lt (most := 16) (x := x) (lo := lo) (n := n) HXL.out (by omega) hn1
                have HMS := hide (mask_snoc x lo n hn1)
                obtain ⟨y, hy⟩ : ∃ y, maskF x (List.range' lo (n - lo)) = y := ⟨_, rfl⟩
                rw [hy] at hmx HMS ⊢
                have h16 : (2 : Nat) ^ n ≤ 2 ^ 15 := Nat.pow_le_pow_right (by decide) (by omega)
                have hpw : ((2 : Int) ^ n) = ((2 ^ n : Nat) : Int) := by simp
                have hor : Go.bits .or .u16 (y : Int) ((2 : Int) ^ n) = ((y ||| 2 ^ n : Nat) : Int) := by
                  rw [hpw]; exact u16_or y (2 ^ n) (by omega) (by omega)
                have hwr : IntKind.u16.wrap ((2 : Int) ^ n) = (2 : Int) ^ n := by
                  rw [hpw]
                  have : (2 : Nat) ^ n < 65536 := by omega
                  generalize (2 : Nat) ^ n = z at this
                  simp [IntKind.wrap, IntKind.signed, IntKind.bits]; omega
                clear hy hmx h16 hpw
                go_wp2_with fail
                go_roundw
                case rel => exact ⟨n + 1, by omega, by omega, by go_num, by rw [HMS.out, ← hor], trivial⟩
                case measure => simp [intOf]; omega
              case neg =>
                obtain rfl : n = lo + 1 := by omega
                have hd7 : decide (lo + 1 ≤ lo) = false := by simp
                have hd9 : decide (((lo + 1 : Nat) : Int) ≤ (lo : Int)) = false := by simp; omega
                have hd8 : decide ((lo : Int) + 1 ≤ (lo : Int)) = false := by simp; omega
                have HXN := hide (show maskF x (List.range' lo (lo + 1 - lo)) < 65536 from mask_lt (most := 16) (x := x) (lo := lo) (n := lo + 1) HXL.out (by omega) (by omega))
                go_wp2_with fail
                go_roundw
                case rel => exact ⟨k + 1, _, by omega, by go_num, rfl, HNX, HXN, HBW5⟩
                case measure => simp [intOf]; omega
    case neg =>
      obtain rfl : k = N := by omega
      have hall : ps.take k = ps := List.take_of_length_le (by have := HN.out; omega)
      rw [hall] at HRD
      have HBF := hide (HB1.out.trans (HBW.out.mono HB1.out.size))
      go_wp2
      go_ret2
      exact ⟨by rw [HRD.out]; rfl, HBF.out⟩
theorem read8_walk (l : List UInt8) (W : World) (hs : l.length ≤ 1048576) (hm : MaxAt W) :
    Calls Tryd.prog 50 #[.string ⟨l.toArray⟩, .int .i64 3] W fun e W' => e = .returned (readV (readF l 8)) ∧ Below W.heap.size W W' := by
  by_cases h1 : l = [42]
  · subst h1
    go_enter Tryd.func50, Tryd.ntmps50
    go_wp2
    go_ret2
    exact ⟨by simp [readF, readV] <;> decide, Below.refl _ _⟩
  by_cases h2 : l = [45]
  · subst h2
    go_enter Tryd.func50, Tryd.ntmps50
    go_wp2
    go_ret2
    exact ⟨by simp [readF, readV], Below.refl _ _⟩
  have q1 : (l == [42]) = false := by simpa using h1
  have q2 : (l == [45]) = false := by simpa using h2
  have HF := hide (show readF l 8 = readRowsF 8 0 (pieces 44 l) by rw [readF, if_neg h1, if_neg h2])
  have HSP := hide (split_walk l 44 W hs hm)
  have HEA := hide (pieces_each 44 l)
  obtain ⟨ps, hps⟩ : ∃ ps, pieces 44 l = ps := ⟨_, rfl⟩
  obtain ⟨N, hN⟩ : ∃ N, ps.length = N := ⟨_, rfl⟩
  have hpl := pieces_len 44 l
  rw [hps] at HF HSP HEA hpl
  rw [hN] at HSP hpl
  rw [HF.out]
  have HN := hide hN
  have HM := hide hm
  clear h1 h2 HF hps hN hm
  go_enter Tryd.func50, Tryd.ntmps50
  go_wp2_with fail
  refine HSP.out.mono ?_
  rintro e w1 ⟨rfl, hst, hb⟩
  have HST := hide hst
  have HB1 := hide hb
  have HM1 := hide (HM.out.below hb)
  clear hst hb HSP HM
  have hn63 : N ≤ 9223372036854775807 := by omega
  go_wp2_with fail
  go_loopw [7, 29] (fun sv i wr => ∃ (k x : Nat), k ≤ N ∧ i = .int .i64 (k : Int) ∧ sv = .int .u16 (x : Int) ∧ Hid (readRowsF 8 0 (ps.take k) = some x) ∧ Hid (x < 256) ∧ Hid (Below w1.heap.size w1 wr)) (fun _ i _ => N - (intOf i).toNat)
  case atStart => exact ⟨0, 0, Nat.zero_le _, rfl, rfl, hide rfl, hide (by decide), hide (Below.refl _ _)⟩
  case round =>
    obtain ⟨k, x, hk, rfl, rfl, HRD, HXL, HBW⟩ := hrel
    by_cases hlt : k < N
    case pos =>
      obtain ⟨r, hr⟩ : ∃ r, ps[k]? = some r := ⟨_, List.getElem?_eq_getElem (by have := HN.out; omega)⟩
      have c0 := (HST.out.below HBW.out).get hr
      have hrl := HEA.out r (List.mem_of_getElem? hr)
      have HNX0 := hide (readRows_next hr HRD.out)
      have HCUT := hide (cut_walk ⟨r.toArray⟩ 45 wr (by rw [← sz_list]; simpa using (show r.length ≤ 1048576 by omega)) (HM1.out.below HBW.out))
      have HRO := hide (show rowOf 8 r = (if numF (cutB 45 r).1 8 < 0 ∨ numF (if 45 ∈ r then (cutB 45 r).2 else (cutB 45 r).1) 8 < numF (cutB 45 r).1 8 then none else some ((numF (cutB 45 r).1 8).toNat, (numF (if 45 ∈ r then (cutB 45 r).2 else (cutB 45 r).1) 8).toNat)) from rfl)
      have hltA := numF_lt (cutB 45 r).1 8
      have hltB := numF_lt (cutB 45 r).2 8
      obtain ⟨X, hX⟩ : ∃ X, (cutB 45 r).1 = X := ⟨_, rfl⟩
      obtain ⟨Y, hY⟩ : ∃ Y, (cutB 45 r).2 = Y := ⟨_, rfl⟩
      have HC2 := hide (HCUT.out.mono (fun e w' h => show e = .returned (.tuple #[.string ⟨X.toArray⟩, .string ⟨Y.toArray⟩, .bool (decide (45 ∈ r))]) ∧ Below wr.heap.size wr w' from by rw [← hX, ← hY]; exact h))
      rw [hX, hY] at HRO
      rw [hX] at hltA
      rw [hY] at hltB
      clear HCUT hX hY hr hrl
      have HNA := hide (fun w => num_walk X 8 w)
      have HNB := hide (fun w => num_walk Y 8 w)
      obtain ⟨A, hA⟩ : ∃ A, numF X 8 = A := ⟨_, rfl⟩
      obtain ⟨B, hB⟩ : ∃ B, numF Y 8 = B := ⟨_, rfl⟩
      rw [hA] at HNA hltA
      rw [hB] at HNB hltB
      by_cases hin : 45 ∈ r
      case pos =>
        rw [if_pos hin, hA, hB] at HRO
        have hdec : decide (45 ∈ r) = true := decide_eq_true hin
        rw [hdec] at HC2
        have HFAIL := hide (fun (h : A < 0 ∨ B < A) => readRows_fail (k := k + 1) (by rw [HNX0.out, HRO.out, if_pos h]))
        go_wp2_with fail
        refine HC2.out.mono ?_
        rintro e w5 ⟨rfl, hb5⟩
        have HBW5 := hide (HBW.out.trans (hb5.mono HBW.out.size))
        clear hb5 HC2 c0 HBW
        have HBF := hide (HB1.out.trans (HBW5.out.mono HB1.out.size))
        by_cases hA : A < 0
        · have HNO := hide (HFAIL.out (.inl hA))
          clear HFAIL HRO HNX0 hltA hltB
          go_wp2_with (first | (go_at_call_of 81 (Value.string ⟨X.toArray⟩); refine (HNA.out _).mono ?_; rintro e w6 ⟨rfl, rfl⟩) | (go_at_call_of 81 (Value.string ⟨Y.toArray⟩); refine (HNB.out _).mono ?_; rintro e w6 ⟨rfl, rfl⟩))
          go_ret2
          exact ⟨by rw [HNO.out]; rfl, HBF.out⟩
        · have dA : decide (A < 0) = false := decide_eq_false hA
          by_cases hB : B < A
          · have HNO := hide (HFAIL.out (.inr hB))
            clear HFAIL HRO HNX0 hltA hltB
            go_wp2_with (first | (go_at_call_of 81 (Value.string ⟨X.toArray⟩); refine (HNA.out _).mono ?_; rintro e w6 ⟨rfl, rfl⟩) | (go_at_call_of 81 (Value.string ⟨Y.toArray⟩); refine (HNB.out _).mono ?_; rintro e w6 ⟨rfl, rfl⟩))
            go_ret2
            exact ⟨by rw [HNO.out]; rfl, HBF.out⟩
          · have dB : decide (B < A) = false := decide_eq_false hB
            have hr2 := HRO.out
            rw [if_neg (by omega)] at hr2
            have hnx := HNX0.out
            rw [hr2] at hnx
            have hbm := hltB (by omega)
            obtain ⟨lo, rfl⟩ : ∃ lo : Nat, A = lo := ⟨A.toNat, by omega⟩
            obtain ⟨hi, rfl⟩ : ∃ hi : Nat, B = hi := ⟨B.toNat, by omega⟩
            simp only [Int.toNat_natCast] at hnx
            have HNX := hide hnx
            have hhi : hi < 8 := by omega
            have hlohi : lo ≤ hi := by omega
            clear HFAIL HRO HNX0 hltA hltB hr2 hnx hbm
            go_wp2_with (first | (go_at_call_of 81 (Value.string ⟨X.toArray⟩); refine (HNA.out _).mono ?_; rintro e w6 ⟨rfl, rfl⟩) | (go_at_call_of 81 (Value.string ⟨Y.toArray⟩); refine (HNB.out _).mono ?_; rintro e w6 ⟨rfl, rfl⟩))
            go_loopw [7, 15] (fun sv i wi => ∃ (n : Nat), lo ≤ n ∧ n ≤ hi + 1 ∧ i = .int .i64 (n : Int) ∧ sv = .int .u16 ((maskF x (List.range' lo (n - lo)) : Nat) : Int) ∧ wi = w5) (fun _ i _ => hi + 1 - (intOf i).toNat)
            case atStart => exact ⟨lo, Nat.le_refl _, by omega, rfl, by simp [maskF], rfl⟩
            case round =>
              obtain ⟨n, hn1, hn2, rfl, rfl, rfl⟩ := hrel
              by_cases hle : n ≤ hi
              case pos =>
                have hmx := mask_lt (most := 8) (x := x) (lo := lo) (n := n) HXL.out (by omega) hn1
                have HMS := hide (mask_snoc x lo n hn1)
                obtain ⟨y, hy⟩ : ∃ y, maskF x (List.range' lo (n - lo)) = y := ⟨_, rfl⟩
                rw [hy] at hmx HMS ⊢
                have h16 : (2 : Nat) ^ n ≤ 2 ^ 15 := Nat.pow_le_pow_right (by decide) (by omega)
                have hpw : ((2 : Int) ^ n) = ((2 ^ n : Nat) : Int) := by simp
                have hor : Go.bits .or .u16 (y : Int) ((2 : Int) ^ n) = ((y ||| 2 ^ n : Nat) : Int) := by
                  rw [hpw]; exact u16_or y (2 ^ n) (by omega) (by omega)
                have hwr : IntKind.u16.wrap ((2 : Int) ^ n) = (2 : Int) ^ n := by
                  rw [hpw]
                  have : (2 : Nat) ^ n < 65536 := by omega
                  generalize (2 : Nat) ^ n = z at this
                  simp [IntKind.wrap, IntKind.signed, IntKind.bits]; omega
                clear hy hmx h16 hpw
                go_wp2_with fail
                go_roundw
                case rel => exact ⟨n + 1, by omega, by omega, by go_num, by rw [HMS.out, ← hor], trivial⟩
                case measure => simp [intOf]; omega
              case neg =>
                obtain rfl : n = hi + 1 := by omega
                have hd7 : decide (hi + 1 ≤ hi) = false := by simp
                have hd9 : decide (((hi + 1 : Nat) : Int) ≤ (hi : Int)) = false := by simp; omega
                have hd8 : decide ((hi : Int) + 1 ≤ (hi : Int)) = false := by simp; omega
                have HXN := hide (show maskF x (List.range' lo (hi + 1 - lo)) < 256 from mask_lt (most := 8) (x := x) (lo := lo) (n := hi + 1) HXL.out (by omega) (by omega))
                go_wp2_with fail
                go_roundw
                case rel => exact ⟨k + 1, _, by omega, by go_num, rfl, HNX, HXN, HBW5⟩
                case measure => simp [intOf]; omega
      case neg =>
        rw [if_neg hin, hA] at HRO
        have hdec : decide (45 ∈ r) = false := decide_eq_false hin
        rw [hdec] at HC2
        have HFAIL := hide (fun (h : A < 0 ∨ A < A) => readRows_fail (k := k + 1) (by rw [HNX0.out, HRO.out, if_pos h]))
        go_wp2_with fail
        refine HC2.out.mono ?_
        rintro e w5 ⟨rfl, hb5⟩
        have HBW5 := hide (HBW.out.trans (hb5.mono HBW.out.size))
        clear hb5 HC2 c0 HBW
        have HBF := hide (HB1.out.trans (HBW5.out.mono HB1.out.size))
        by_cases hA : A < 0
        · have HNO := hide (HFAIL.out (.inl hA))
          clear HFAIL HRO HNX0 hltA hltB
          go_wp2_with ((go_at_call 81; refine (HNA.out _).mono ?_; rintro e w6 ⟨rfl, rfl⟩))
          go_ret2
          exact ⟨by rw [HNO.out]; rfl, HBF.out⟩
        · have dA : decide (A < 0) = false := decide_eq_false hA
          by_cases hB : A < A
          · have HNO := hide (HFAIL.out (.inr hB))
            clear HFAIL HRO HNX0 hltA hltB
            go_wp2_with ((go_at_call 81; refine (HNA.out _).mono ?_; rintro e w6 ⟨rfl, rfl⟩))
            go_ret2
            exact ⟨by rw [HNO.out]; rfl, HBF.out⟩
          · have dB : decide (A < A) = false := decide_eq_false hB
            have hr2 := HRO.out
            rw [if_neg (by omega)] at hr2
            have hnx := HNX0.out
            rw [hr2] at hnx
            have hbm := hltA (by omega)
            obtain ⟨lo, rfl⟩ : ∃ lo : Nat, A = lo := ⟨A.toNat, by omega⟩
            skip
            simp only [Int.toNat_natCast] at hnx
            have HNX := hide hnx
            have hhi : lo < 8 := by omega
            have hlohi : lo ≤ lo := by omega
            clear HFAIL HRO HNX0 hltA hltB hr2 hnx hbm
            go_wp2_with ((go_at_call 81; refine (HNA.out _).mono ?_; rintro e w6 ⟨rfl, rfl⟩))
            go_loopw [7, 15] (fun sv i wi => ∃ (n : Nat), lo ≤ n ∧ n ≤ lo + 1 ∧ i = .int .i64 (n : Int) ∧ sv = .int .u16 ((maskF x (List.range' lo (n - lo)) : Nat) : Int) ∧ wi = w5) (fun _ i _ => lo + 1 - (intOf i).toNat)
            case atStart => exact ⟨lo, Nat.le_refl _, by omega, rfl, by simp [maskF], rfl⟩
            case round =>
              obtain ⟨n, hn1, hn2, rfl, rfl, rfl⟩ := hrel
              by_cases hle : n ≤ lo
              case pos =>
                have hmx := mask_lt (most := 8) (x := x) (lo := lo) (n := n) HXL.out (by omega) hn1
                have HMS := hide (mask_snoc x lo n hn1)
                obtain ⟨y, hy⟩ : ∃ y, maskF x (List.range' lo (n - lo)) = y := ⟨_, rfl⟩
                rw [hy] at hmx HMS ⊢
                have h16 : (2 : Nat) ^ n ≤ 2 ^ 15 := Nat.pow_le_pow_right (by decide) (by omega)
                have hpw : ((2 : Int) ^ n) = ((2 ^ n : Nat) : Int) := by simp
                have hor : Go.bits .or .u16 (y : Int) ((2 : Int) ^ n) = ((y ||| 2 ^ n : Nat) : Int) := by
                  rw [hpw]; exact u16_or y (2 ^ n) (by omega) (by omega)
                have hwr : IntKind.u16.wrap ((2 : Int) ^ n) = (2 : Int) ^ n := by
                  rw [hpw]
                  have : (2 : Nat) ^ n < 65536 := by omega
                  generalize (2 : Nat) ^ n = z at this
                  simp [IntKind.wrap, IntKind.signed, IntKind.bits]; omega
                clear hy hmx h16 hpw
                go_wp2_with fail
                go_roundw
                case rel => exact ⟨n + 1, by omega, by omega, by go_num, by rw [HMS.out, ← hor], trivial⟩
                case measure => simp [intOf]; omega
              case neg =>
                obtain rfl : n = lo + 1 := by omega
                have hd7 : decide (lo + 1 ≤ lo) = false := by simp
                have hd9 : decide (((lo + 1 : Nat) : Int) ≤ (lo : Int)) = false := by simp; omega
                have hd8 : decide ((lo : Int) + 1 ≤ (lo : Int)) = false := by simp; omega
                have HXN := hide (show maskF x (List.range' lo (lo + 1 - lo)) < 256 from mask_lt (most := 8) (x := x) (lo := lo) (n := lo + 1) HXL.out (by omega) (by omega))
                go_wp2_with fail
                go_roundw
                case rel => exact ⟨k + 1, _, by omega, by go_num, rfl, HNX, HXN, HBW5⟩
                case measure => simp [intOf]; omega
    case neg =>
      obtain rfl : k = N := by omega
      have hall : ps.take k = ps := List.take_of_length_le (by have := HN.out; omega)
      rw [hall] at HRD
      have HBF := hide (HB1.out.trans (HBW.out.mono HB1.out.size))
      go_wp2
      go_ret2
      exact ⟨by rw [HRD.out]; rfl, HBF.out⟩
end Go.Proofs.YtohbafigjpoijaaDoor
