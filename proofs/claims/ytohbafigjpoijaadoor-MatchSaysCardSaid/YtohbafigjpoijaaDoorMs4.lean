/- A part of the proof: Mt4, Mt5. -/
import Derived.Test.YtohbafigjpoijaaDoorMs3
set_option linter.unusedVariables false
set_option linter.unusedSimpArgs false
set_option maxRecDepth 100000
set_option maxHeartbeats 8000000
namespace Go.Proofs.YtohbafigjpoijaaDoor
open Go.RowKit
def wordsL (m : M4) : List (List UInt8) := [wordF m.src 16, wordF m.sport 8, wordF m.dst 16, wordF m.dport 8]
theorem words_part {m : M4} {k : Nat} {x : PartV} (h : (partL m.src m.dst m.sport m.dport)[k]? = some x) : (wordsL m)[k]? = some (wordF x.set (2 ^ x.bits)) := by
  match k, h with
  | 0, h => cases h; rfl
  | 1, h => cases h; rfl
  | 2, h => cases h; rfl
  | 3, h => cases h; rfl
  | k + 4, h => simp [partL] at h
theorem wordAny_walk {m : M4} (hm : m.ok) {k : Nat} {x : PartV} (h : (partL m.src m.dst m.sport m.dport)[k]? = some x) (w : World) :
    Calls Tryd.prog 55 #[.agg #[.int .u16 (x.set : Int), .int .i64 (x.bits : Int), .int .i64 (x.first : Int)]] w fun e W' => e = .returned (.string ⟨(wordF x.set (2 ^ x.bits)).toArray⟩) ∧ Below w.heap.size w W' := by
  obtain ⟨h1, h2, h3, h4⟩ := hm
  match k, h with
  | 0, h => cases h; exact word16_walk m.src 0 w h1
  | 1, h => cases h; exact word8_walk m.sport 8 w h3
  | 2, h => cases h; exact word16_walk m.dst 4 w h2
  | 3, h => cases h; exact word8_walk m.dport 11 w h4
  | k + 4, h => simp [partL] at h
theorem matchPrint_walk (m : M4) (hm : m.ok) (W : World) :
    Calls Tryd.prog 26 #[.agg #[.int .u16 m.src, .int .u16 m.dst, .int .u8 m.sport, .int .u8 m.dport]] W fun e W' => e = .returned (.string ⟨(matchT m).toArray⟩) ∧ Below W.heap.size W W' := by
  obtain ⟨i0, hi0, hz0, hz1, hz2⟩ := info_parts Tryd.infoString
  have hb0 := (Below.refl W.heap.size W).alloc (Nat.le_refl _) (.cells #[.int .u16 m.src, .int .u16 m.dst, .int .u8 m.sport, .int .u8 m.dport] 42)
  have hx := heap_alloc_new W (.cells #[.int .u16 m.src, .int .u16 m.dst, .int .u8 m.sport, .int .u8 m.dport] 42)
  obtain ⟨x0, x1, x2, x3, _⟩ := cells4f hx
  have HPA := hide (fun w => parts_walk w m.src m.dst m.sport m.dport hm.1 hm.2.1 hm.2.2.1 hm.2.2.2)
  have HWD := hide (fun k x h => wordAny_walk hm (k := k) (x := x) h)
  have HJN := hide (matchT_join m)
  have HLN := hide (matchT_len m)
  go_enter Tryd.func26, Tryd.ntmps26
  go_wp2_with fail
  have HB0 := hide hb0
  generalize W.alloc (.cells #[.int .u16 m.src, .int .u16 m.dst, .int .u8 m.sport, .int .u8 m.dport] 42) = w1 at *
  clear hx hb0
  refine (HPA.out w1).mono ?_
  rintro e w2 ⟨rfl, o0, hw2⟩
  have hpb : w2.heap[w1.heap.size + 1]? = some (.cells (partBox m.src m.dst m.sport m.dport) 90) := by
    rw [hw2]
    have := heap_alloc_new (w1.alloc o0) (.cells (partBox m.src m.dst m.sport m.dport) 90)
    rwa [show (w1.alloc o0).heap.size = w1.heap.size + 1 by simp] at this
  have HB2 := hide (show Below W.heap.size W w2 from by
    rw [hw2]; exact (HB0.out.alloc HB0.out.size o0).alloc (by have := HB0.out.size; simp; omega) _)
  have hsz2 : w2.heap.size = w1.heap.size + 2 := by rw [hw2]; simp
  have HPB := hide hpb
  clear hpb hw2 HPA HB0
  generalize hN : w1.heap.size + 1 = Np at *
  have HN2 := hide (show Np < w2.heap.size by omega)
  clear hsz2 hN x0 x1 x2 x3
  go_wp2_with fail
  go_loopw [3, 9] (fun v i wr => ∃ (k : Nat), k ≤ 4 ∧ i = .int .i64 (k : Int) ∧ Hid (wr.ownsRow w2.heap.size 9 1 v k (((wordsL m).take k).map strV)) ∧ Hid (Below w2.heap.size w2 wr)) (fun _ i _ => 4 - (intOf i).toNat)
  case atStart => exact ⟨0, by omega, rfl, hide (World.ownsRow_nil _ _ _ _), hide (Below.refl _ _)⟩
  case round =>
    obtain ⟨k, hk, rfl, HO, HBW⟩ := hrel
    by_cases hlt : k < 4
    case pos =>
      obtain ⟨x, hx, hxs, hxb, hxf, g0, g1, g2⟩ := part_get m.src m.dst m.sport m.dport k hm.1 hm.2.1 hm.2.2.1 hm.2.2.2 hlt
      have hpb := (HBW.out.block Np HN2.out).trans HPB.out
      have y0 : wr.cell? ⟨Np, k * 3, none⟩ = some (.int .u16 x.set) := by rw [cell_of_row _ _ _ _ _ _ hpb]; exact g0
      have y1 : wr.cell? ⟨Np, k * 3 + 1, none⟩ = some (.int .i64 x.bits) := by rw [cell_of_row _ _ _ _ _ _ hpb]; exact g1
      have y2 : wr.cell? ⟨Np, k * 3 + 2, none⟩ = some (.int .i64 x.first) := by rw [cell_of_row _ _ _ _ _ _ hpb]; exact g2
      have HW := hide (words_part hx)
      have HC := hide (HWD.out k x hx)
      have hltI : (k : Int) < 4 := by omega
      obtain ⟨X, hX⟩ : ∃ X, wordF x.set (2 ^ x.bits) = X := ⟨_, rfl⟩
      rw [hX] at HW HC
      clear hX hx hxs hxb hxf g0 g1 g2 hpb
      generalize x.set = xs at *
      generalize x.bits = xb at *
      generalize x.first = xf at *
      have hbz := HBW.out.size
      have HO3 := hide (HO.out.alloc (.cells #[.int .u16 (xs : Int), .int .i64 (xb : Int), .int .i64 (xf : Int)] 90))
      have HB3 := hide (HBW.out.alloc hbz (.cells #[.int .u16 (xs : Int), .int .i64 (xb : Int), .int .i64 (xf : Int)] 90))
      clear HO HBW
      go_wp2_with fail
      refine (HC.out _).mono ?_
      generalize wr.alloc (.cells #[.int .u16 (xs : Int), .int .i64 (xb : Int), .int .i64 (xf : Int)] 90) = w3 at *
      rintro e w4 ⟨rfl, hb⟩
      have HO4' := hide (ownsRow_below HO3.out hb)
      have HB4' := hide (HB3.out.trans (hb.mono HB3.out.size))
      have hwz : w2.heap.size ≤ w4.heap.size := HB4'.out.size
      clear hb HO3 HB3 y0 y1 y2
      have HLIT := hide (show Reads (w4.alloc (.cells #[.string ⟨X.toArray⟩] 9)) (w4.heap.size + 1) 1 (some ⟨w4.heap.size, 0, none⟩) 1 [.string ⟨X.toArray⟩] from
        ⟨rfl, fun _ => ⟨_, rfl, Nat.lt_succ_self _, fun j u hu => by
          rw [addr_add, Nat.zero_add, cell_of_row _ _ _ _ _ _ (heap_alloc_new w4 _)]
          simpa using hu⟩⟩)
      have HO4 := hide (HO4'.out.alloc (.cells #[.string ⟨X.toArray⟩] 9))
      have HB4 := hide (HB4'.out.alloc hwz (.cells #[.string ⟨X.toArray⟩] 9))
      clear HO4' HB4'
      have hlen4 : ((wordsL m).take k).length = k := by simp [wordsL]; omega
      have HTK := hide (show (wordsL m).take (k + 1) = (wordsL m).take k ++ [X] by rw [List.take_add_one, HW.out]; rfl)
      go_wp2_with (at_builtin; refine wpList_append_any _ rfl (.tmp 13) (.tmp 16) 82 rfl w2.heap.size 9 i0 _ 1 16 Tryd.underlying82 hi0 hz0 hz1 hz2 rfl (by omega) _ k (((wordsL m).take k).map strV) rfl HO4.out (w4.heap.size + 1) (some ⟨w4.heap.size, 0, none⟩) 1 1 [.string ⟨X.toArray⟩] rfl HLIT.out (by intro u hu; simp at hu; subst hu; rfl) (by simp only [maxLen]; omega) (by omega) (by simp; omega) ?_; intro v5 w5 hown5 hg5 hat5; have HO5 := hide hown5; have HB5 := hide (HB4.out.grown hg5 (by simp; omega) (fun q hq => (HO4.out.lt q hq).1)); clear hown5 hg5 hat5)
      go_roundw
      case rel => exact ⟨k + 1, by omega, by go_num, hide (by rw [HTK.out]; simpa [strV] using HO5.out), HB5⟩
      case measure => simp [intOf]; omega
    case neg =>
      obtain rfl : k = 4 := by omega
      have hall : (wordsL m).take 4 = wordsL m := rfl
      rw [hall] at HO
      obtain ⟨g, cap, hv, hgw⟩ := HO.out.form (by omega)
      subst hv
      have hcap : 4 ≤ cap := by
        rcases HO.out.2 with ⟨h, _⟩ | ⟨g', cap', cur, h, _, _, hnc, _⟩
        · cases h
        · cases h; exact hnc
      have HST := hide (show StrsAt wr w2.heap.size g 4 cap (wordsL m) from ⟨HO.out, rfl⟩)
      have HJ := hide (fun w (h : StrsAt w w2.heap.size g 4 cap (wordsL m)) => join_walk (wordsL m) 32 w2.heap.size g 4 cap w h (by have h := HLN.out; rw [HJN.out] at h; exact Nat.le_trans h (by omega)) (by omega) hcap)
      have HBF := hide (HB2.out.trans (HBW.out.mono HB2.out.size))
      clear HO hlt hgw hcap hall HBW
      go_wp2_with fail
      refine (HJ.out _ HST.out).mono ?_
      rintro e w9 ⟨rfl, hb⟩
      have HBZ := hide (HBF.out.trans (hb.mono HBF.out.size))
      clear hb
      go_wp2
      go_ret
      exact ⟨by rw [HJN.out]; rfl, HBZ.out⟩
theorem readRows_app (most : Nat) : ∀ (xs ys : List (List UInt8)) (s : Nat), readRowsF most s (xs ++ ys) = (readRowsF most s xs).bind (fun x => readRowsF most x ys)
  | [], ys, s => rfl
  | r :: xs, ys, s => by
    simp only [List.cons_append, readRowsF]
    cases rowOf most r with
    | none => rfl
    | some p => exact readRows_app most xs ys _
theorem readRows_next {most : Nat} {ps : List (List UInt8)} {k x : Nat} {r : List UInt8} (hr : ps[k]? = some r) (h : readRowsF most 0 (ps.take k) = some x) :
    readRowsF most 0 (ps.take (k + 1)) = match rowOf most r with | none => none | some (lo, hi) => some (maskF x (List.range' lo (hi + 1 - lo))) := by
  have ht : ps.take (k + 1) = ps.take k ++ [r] := by rw [List.take_add_one, hr]; rfl
  rw [ht, readRows_app, h]
  show readRowsF most x [r] = _
  unfold readRowsF
  cases rowOf most r with
  | none => rfl
  | some p => rfl
theorem readRows_fail {most : Nat} {ps : List (List UInt8)} {k : Nat} (h : readRowsF most 0 (ps.take k) = none) : readRowsF most 0 ps = none := by
  have := readRows_app most (ps.take k) (ps.drop k) 0
  rw [List.take_append_drop, h] at this
  exact this
theorem mask_snoc (x lo n : Nat) (h : lo ≤ n) : maskF x (List.range' lo (n + 1 - lo)) = maskF x (List.range' lo (n - lo)) ||| 2 ^ n := by
  rw [show n + 1 - lo = (n - lo) + 1 by omega, List.range'_concat, maskF, List.foldl_append, show lo + 1 * (n - lo) = n by omega]
  rfl
theorem mask_lt {most x lo n : Nat} (hx : x < 2 ^ most) (hn : n ≤ most) (hl : lo ≤ n) : maskF x (List.range' lo (n - lo)) < 2 ^ most := by
  apply Nat.lt_pow_two_of_testBit
  intro i hi
  rw [mask_bit, Nat.testBit_lt_two_pow (Nat.lt_of_lt_of_le hx (Nat.pow_le_pow_right (by decide) hi)), Bool.false_or]
  exact decide_eq_false (by simp only [List.mem_range'_1]; omega)
def readV (r : Option Nat) : Value := match r with | some x => .tuple #[.int .u16 (x : Int), .bool true] | none => .tuple #[.int .u16 0, .bool false]
theorem read16_walk (l : List UInt8) (W : World) (hs : l.length ≤ 1048576) (hm : MaxAt W) :
    Calls Tryd.prog 50 #[.string ⟨l.toArray⟩, .int .i64 4] W fun e W' => e = .returned (readV (readF l 16)) ∧ Below W.heap.size W W' := by
  by_cases h1 : l = [42]
  · subst h1
    go_enter Tryd.func50, Tryd.ntmps50
    go_wp2
    go_ret2
    exact ⟨by simp [readF, readV] <;> decide, Below.refl _ _⟩
  by_cases h2 : l = [45]
  · subst h2
    go_enter Tryd.func50, Tryd.ntmps50
    go_wp2
    go_ret2
    exact ⟨by simp [readF, readV], Below.refl _ _⟩
  have q1 : (l == [42]) = false := by simpa using h1
  have q2 : (l == [45]) = false := by simpa using h2
  have HF := hide (show readF l 16 = readRowsF 16 0 (pieces 44 l) by rw [readF, if_neg h1, if_neg h2])
  have HSP := hide (split_walk l 44 W hs hm)
  have HEA := hide (pieces_each 44 l)
  obtain ⟨ps, hps⟩ : ∃ ps, pieces 44 l = ps := ⟨_, rfl⟩
  obtain ⟨N, hN⟩ : ∃ N, ps.length = N := ⟨_, rfl⟩
  have hpl := pieces_len 44 l
  rw [hps] at HF HSP HEA hpl
  rw [hN] at HSP hpl
  rw [HF.out]
  have HN := hide hN
  have HM := hide hm
  clear h1 h2 HF hps hN hm
  go_enter Tryd.func50, Tryd.ntmps50
  go_wp2_with fail
  refine HSP.out.mono ?_
  rintro e w1 ⟨rfl, hst, hb⟩
  have HST := hide hst
  have HB1 := hide hb
  have HM1 := hide (HM.out.below hb)
  clear hst hb HSP HM
  have hn63 : N ≤ 9223372036854775807 := by omega
  go_wp2_with fail
  go_loopw [7, 29] (fun sv i wr => ∃ (k x : Nat), k ≤ N ∧ i = .int .i64 (k : Int) ∧ sv = .int .u16 (x : Int) ∧ Hid (readRowsF 16 0 (ps.take k) = some x) ∧ Hid (x < 65536) ∧ Hid (Below w1.heap.size w1 wr)) (fun _ i _ => N - (intOf i).toNat)
  case atStart => exact ⟨0, 0, Nat.zero_le _, rfl, rfl, hide rfl, hide (by decide), hide (Below.refl _ _)⟩
  case round =>
    obtain ⟨k, x, hk, rfl, rfl, HRD, HXL, HBW⟩ := hrel
    by_cases hlt : k < N
    case pos =>
      obtain ⟨r, hr⟩ : ∃ r, ps[k]? = some r := ⟨_, List.getElem?_eq_getElem (by have := HN.out; omega)⟩
      have c0 := (HST.out.below HBW.out).get hr
      have hrl := HEA.out r (List.mem_of_getElem? hr)
      have HNX0 := hide (readRows_next hr HRD.out)
      have HCUT := hide (cut_walk ⟨r.toArray⟩ 45 wr (by rw [← sz_list]; simpa using (show r.length ≤ 1048576 by omega)) (HM1.out.below HBW.out))
      have HRO := hide (show rowOf 16 r = (if numF (cutB 45 r).1 16 < 0 ∨ numF (if 45 ∈ r then (cutB 45 r).2 else (cutB 45 r).1) 16 < numF (cutB 45 r).1 16 then none else some ((numF (cutB 45 r).1 16).toNat, (numF (if 45 ∈ r then (cutB 45 r).2 else (cutB 45 r).1) 16).toNat)) from rfl)
      have hltA := numF_lt (cutB 45 r).1 16
      have hltB := numF_lt (cutB 45 r).2 16
      obtain ⟨X, hX⟩ : ∃ X, (cutB 45 r).1 = X := ⟨_, rfl⟩
      obtain ⟨Y, hY⟩ : ∃ Y, (cutB 45 r).2 = Y := ⟨_, rfl⟩
      have HC2 := hide (HCUT.out.mono (fun e w' h => show e = .returned (.tuple #[.string ⟨X.toArray⟩, .string ⟨Y.toArray⟩, .bool (decide (45 ∈ r))]) ∧ Below wr.heap.size wr w' from by rw [← hX, ← hY]; exact h))
      rw [hX, hY] at HRO
      rw [hX] at hltA
      rw [hY] at hltB
      clear HCUT hX hY hr hrl
      have HNA := hide (fun w => num_walk X 16 w)
      have HNB := hide (fun w => num_walk Y 16 w)
      obtain ⟨A, hA⟩ : ∃ A, numF X 16 = A := ⟨_, rfl⟩
      obtain ⟨B, hB⟩ : ∃ B, numF Y 16 = B := ⟨_, rfl⟩
      rw [hA] at HNA hltA
      rw [hB] at HNB hltB
      by_cases hin : 45 ∈ r
      case pos =>
        rw [if_pos hin, hA, hB] at HRO
        have hdec : decide (45 ∈ r) = true := decide_eq_true hin
        rw [hdec] at HC2
        have HFAIL := hide (fun (h : A < 0 ∨ B < A) => readRows_fail (k := k + 1) (by rw [HNX0.out, HRO.out, if_pos h]))
        go_wp2_with fail
        refine HC2.out.mono ?_
        rintro e w5 ⟨rfl, hb5⟩
        have HBW5 := hide (HBW.out.trans (hb5.mono HBW.out.size))
        clear hb5 HC2 c0 HBW
        have HBF := hide (HB1.out.trans (HBW5.out.mono HB1.out.size))
        by_cases hA : A < 0
        · have HNO := hide (HFAIL.out (.inl hA))
          clear HFAIL HRO HNX0 hltA hltB
          go_wp2_with (first | (go_at_call_of 81 (Value.string ⟨X.toArray⟩); refine (HNA.out _).mono ?_; rintro e w6 ⟨rfl, rfl⟩) | (go_at_call_of 81 (Value.string ⟨Y.toArray⟩); refine (HNB.out _).mono ?_; rintro e w6 ⟨rfl, rfl⟩))
          go_ret2
          exact ⟨by rw [HNO.out]; rfl, HBF.out⟩
        · have dA : decide (A < 0) = false := decide_eq_false hA
          by_cases hB : B < A
          · have HNO := hide (HFAIL.out (.inr hB))
            clear HFAIL HRO HNX0 hltA hltB
            go_wp2_with (first | (go_at_call_of 81 (Value.string ⟨X.toArray⟩); refine (HNA.out _).mono ?_; rintro e w6 ⟨rfl, rfl⟩) | (go_at_call_of 81 (Value.string ⟨Y.toArray⟩); refine (HNB.out _).mono ?_; rintro e w6 ⟨rfl, rfl⟩))
            go_ret2
            exact ⟨by rw [HNO.out]; rfl, HBF.out⟩
          · have dB : decide (B < A) = false := decide_eq_false hB
            have hr2 := HRO.out
            rw [if_neg (by omega)] at hr2
            have hnx := HNX0.out
            rw [hr2] at hnx
            have hbm := hltB (by omega)
            obtain ⟨lo, rfl⟩ : ∃ lo : Nat, A = lo := ⟨A.toNat, by omega⟩
            obtain ⟨hi, rfl⟩ : ∃ hi : Nat, B = hi := ⟨B.toNat, by omega⟩
            simp only [Int.toNat_natCast] at hnx
            have HNX := hide hnx
            have hhi : hi < 16 := by omega
            have hlohi : lo ≤ hi := by omega
            clear HFAIL HRO HNX0 hltA hltB hr2 hnx hbm
            go_wp2_with (first | (go_at_call_of 81 (Value.string ⟨X.toArray⟩); refine (HNA.out _).mono ?_; rintro e w6 ⟨rfl, rfl⟩) | (go_at_call_of 81 (Value.string ⟨Y.toArray⟩); refine (HNB.out _).mono ?_; rintro e w6 ⟨rfl, rfl⟩))
            go_loopw [7, 15] (fun sv i wi => ∃ (n : Nat), lo ≤ n ∧ n ≤ hi + 1 ∧ i = .int .i64 (n : Int) ∧ sv = .int .u16 ((maskF x (List.range' lo (n - lo)) : Nat) : Int) ∧ wi = w5) (fun _ i _ => hi + 1 - (intOf i).toNat)
            case atStart => exact ⟨lo, Nat.le_refl _, by omega, rfl, by simp [maskF], rfl⟩
            case round =>
              obtain ⟨n, hn1, hn2, rfl, rfl, rfl⟩ := hrel
              by_cases hle : n ≤ hi
              case pos =>
                have hmx := mask_lt (most := 16) (x := x) (lo := lo) (n := n) HXL.out (by omega) hn1
                have HMS := hide (mask_snoc x lo n hn1)
                obtain ⟨y, hy⟩ : ∃ y, maskF x (List.range' lo (n - lo)) = y := ⟨_, rfl⟩
                rw [hy] at hmx HMS ⊢
                have h16 : (2 : Nat) ^ n ≤ 2 ^ 15 := Nat.pow_le_pow_right (by decide) (by omega)
                have hpw : ((2 : Int) ^ n) = ((2 ^ n : Nat) : Int) := by simp
                have hor : Go.bits .or .u16 (y : Int) ((2 : Int) ^ n) = ((y ||| 2 ^ n : Nat) : Int) := by
                  rw [hpw]; exact u16_or y (2 ^ n) (by omega) (by omega)
                have hwr : IntKind.u16.wrap ((2 : Int) ^ n) = (2 : Int) ^ n := by
                  rw [hpw]
                  have : (2 : Nat) ^ n < 65536 := by omega
                  generalize (2 : Nat) ^ n = z at this
                  simp [IntKind.wrap, IntKind.signed, IntKind.bits]; omega
                clear hy hmx h16 hpw
                go_wp2_with fail
                go_roundw
                case rel => exact ⟨n + 1, by omega, by omega, by go_num, by rw [HMS.out, ← hor], trivial⟩
                case measure => simp [intOf]; omega
              case neg =>
                obtain rfl : n = hi + 1 := by omega
                have hd7 : decide (hi + 1 ≤ hi) = false := by simp
                have hd9 : decide (((hi + 1 : Nat) : Int) ≤ (hi : Int)) = false := by simp; omega
                have hd8 : decide ((hi : Int) + 1 ≤ (hi : Int)) = false := by simp; omega
                have HXN := hide (show maskF x (List.range' lo (hi + 1 - lo)) < 65536 from mask_lt (most := 16) (x := x) (lo := lo) (n := hi + 1) HXL.out (by omega) (by omega))
                go_wp2_with fail
                go_roundw
                case rel => exact ⟨k + 1, _, by omega, by go_num, rfl, HNX, HXN, HBW5⟩
                case measure => simp [intOf]; omega
      case neg =>
        rw [if_neg hin, hA] at HRO
        have hdec : decide (45 ∈ r) = false := decide_eq_false hin
        rw [hdec] at HC2
        have HFAIL := hide (fun (h : A < 0 ∨ A < A) => readRows_fail (k := k + 1) (by rw [HNX0.out, HRO.out, if_pos h]))
        go_wp2_with fail
        refine HC2.out.mono ?_
        rintro e w5 ⟨rfl, hb5⟩
        have HBW5 := hide (HBW.out.trans (hb5.mono HBW.out.size))
        clear hb5 HC2 c0 HBW
        have HBF := hide (HB1.out.trans (HBW5.out.mono HB1.out.size))
        by_cases hA : A < 0
        · have HNO := hide (HFAIL.out (.inl hA))
          clear HFAIL HRO HNX0 hltA hltB
          go_wp2_with ((go_at_call 81; refine (HNA.out _).mono ?_; rintro e w6 ⟨rfl, rfl⟩))
          go_ret2
          exact ⟨by rw [HNO.out]; rfl, HBF.out⟩
        · have dA : decide (A < 0) = false := decide_eq_false hA
          by_cases hB : A < A
          · have HNO := hide (HFAIL.out (.inr hB))
            clear HFAIL HRO HNX0 hltA hltB
            go_wp2_with ((go_at_call 81; refine (HNA.out _).mono ?_; rintro e w6 ⟨rfl, rfl⟩))
            go_ret2
            exact ⟨by rw [HNO.out]; rfl, HBF.out⟩
          · have dB : decide (A < A) = false := decide_eq_false hB
            have hr2 := HRO.out
            rw [if_neg (by omega)] at hr2
            have hnx := HNX0.out
            rw [hr2] at hnx
            have hbm := hltA (by omega)
            obtain ⟨lo, rfl⟩ : ∃ lo : Nat, A = lo := ⟨A.toNat, by omega⟩
            skip
            simp only [Int.toNat_natCast] at hnx
            have HNX := hide hnx
            have hhi : lo < 16 := by omega
            have hlohi : lo ≤ lo := by omega
            clear HFAIL HRO HNX0 hltA hltB hr2 hnx hbm
            go_wp2_with ((go_at_call 81; refine (HNA.out _).mono ?_; rintro e w6 ⟨rfl, rfl⟩))
            go_loopw [7, 15] (fun sv i wi => ∃ (n : Nat), lo ≤ n ∧ n ≤ lo + 1 ∧ i = .int .i64 (n : Int) ∧ sv = .int .u16 ((maskF x (List.range' lo (n - lo)) : Nat) : Int) ∧ wi = w5) (fun _ i _ => lo + 1 - (intOf i).toNat)
            case atStart => exact ⟨lo, Nat.le_refl _, by omega, rfl, by simp [maskF], rfl⟩
            case round =>
              obtain ⟨n, hn1, hn2, rfl, rfl, rfl⟩ := hrel
              by_cases hle : n ≤ lo
              case pos =>
                have hmx := mask_lt (most := 16) (x := x) (lo := lo) (n := n) HXL.out (by omega) hn1
                have HMS := hide (mask_snoc x lo n hn1)
                obtain ⟨y, hy⟩ : ∃ y, maskF x (List.range' lo (n - lo)) = y := ⟨_, rfl⟩
                rw [hy] at hmx HMS ⊢
                have h16 : (2 : Nat) ^ n ≤ 2 ^ 15 := Nat.pow_le_pow_right (by decide) (by omega)
                have hpw : ((2 : Int) ^ n) = ((2 ^ n : Nat) : Int) := by simp
                have hor : Go.bits .or .u16 (y : Int) ((2 : Int) ^ n) = ((y ||| 2 ^ n : Nat) : Int) := by
                  rw [hpw]; exact u16_or y (2 ^ n) (by omega) (by omega)
                have hwr : IntKind.u16.wrap ((2 : Int) ^ n) = (2 : Int) ^ n := by
                  rw [hpw]
                  have : (2 : Nat) ^ n < 65536 := by omega
                  generalize (2 : Nat) ^ n = z at this
                  simp [IntKind.wrap, IntKind.signed, IntKind.bits]; omega
                clear hy hmx h16 hpw
                go_wp2_with fail
                go_roundw
                case rel => exact ⟨n + 1, by omega, by omega, by go_num, by rw [HMS.out, ← hor], trivial⟩
                case measure => simp [intOf]; omega
              case neg =>
                obtain rfl : n = lo + 1 := by omega
                have hd7 : decide (lo + 1 ≤ lo) = false := by simp
                have hd9 : decide (((lo + 1 : Nat) : Int) ≤ (lo : Int)) = false := by simp; omega
                have hd8 : decide ((lo : Int) + 1 ≤ (lo : Int)) = false := by simp; omega
                have HXN := hide (show maskF x (List.range' lo (lo + 1 - lo)) < 65536 from mask_lt (most := 16) (x := x) (lo := lo) (n := lo + 1) HXL.out (by omega) (by omega))
                go_wp2_with fail
                go_roundw
                case rel => exact ⟨k + 1, _, by omega, by go_num, rfl, HNX, HXN, HBW5⟩
                case measure => simp [intOf]; omega
    case neg =>
      obtain rfl : k = N := by omega
      have hall : ps.take k = ps := List.take_of_length_le (by have := HN.out; omega)
      rw [hall] at HRD
      have HBF := hide (HB1.out.trans (HBW.out.mono HB1.out.size))
      go_wp2
      go_ret2
      exact ⟨by rw [HRD.out]; rfl, HBF.out⟩
theorem read8_walk (l : List UInt8) (W : World) (hs : l.length ≤ 1048576) (hm : MaxAt W) :
    Calls Tryd.prog 50 #[.string ⟨l.toArray⟩, .int .i64 3] W fun e W' => e = .returned (readV (readF l 8)) ∧ Below W.heap.size W W' := by
  by_cases h1 : l = [42]
  · subst h1
    go_enter Tryd.func50, Tryd.ntmps50
    go_wp2
    go_ret2
    exact ⟨by simp [readF, readV] <;> decide, Below.refl _ _⟩
  by_cases h2 : l = [45]
  · subst h2
    go_enter Tryd.func50, Tryd.ntmps50
    go_wp2
    go_ret2
    exact ⟨by simp [readF, readV], Below.refl _ _⟩
  have q1 : (l == [42]) = false := by simpa using h1
  have q2 : (l == [45]) = false := by simpa using h2
  have HF := hide (show readF l 8 = readRowsF 8 0 (pieces 44 l) by rw [readF, if_neg h1, if_neg h2])
  have HSP := hide (split_walk l 44 W hs hm)
  have HEA := hide (pieces_each 44 l)
  obtain ⟨ps, hps⟩ : ∃ ps, pieces 44 l = ps := ⟨_, rfl⟩
  obtain ⟨N, hN⟩ : ∃ N, ps.length = N := ⟨_, rfl⟩
  have hpl := pieces_len 44 l
  rw [hps] at HF HSP HEA hpl
  rw [hN] at HSP hpl
  rw [HF.out]
  have HN := hide hN
  have HM := hide hm
  clear h1 h2 HF hps hN hm
  go_enter Tryd.func50, Tryd.ntmps50
  go_wp2_with fail
  refine HSP.out.mono ?_
  rintro e w1 ⟨rfl, hst, hb⟩
  have HST := hide hst
  have HB1 := hide hb
  have HM1 := hide (HM.out.below hb)
  clear hst hb HSP HM
  have hn63 : N ≤ 9223372036854775807 := by omega
  go_wp2_with fail
  go_loopw [7, 29] (fun sv i wr => ∃ (k x : Nat), k ≤ N ∧ i = .int .i64 (k : Int) ∧ sv = .int .u16 (x : Int) ∧ Hid (readRowsF 8 0 (ps.take k) = some x) ∧ Hid (x < 256) ∧ Hid (Below w1.heap.size w1 wr)) (fun _ i _ => N - (intOf i).toNat)
  case atStart => exact ⟨0, 0, Nat.zero_le _, rfl, rfl, hide rfl, hide (by decide), hide (Below.refl _ _)⟩
  case round =>
    obtain ⟨k, x, hk, rfl, rfl, HRD, HXL, HBW⟩ := hrel
    by_cases hlt : k < N
    case pos =>
      obtain ⟨r, hr⟩ : ∃ r, ps[k]? = some r := ⟨_, List.getElem?_eq_getElem (by have := HN.out; omega)⟩
      have c0 := (HST.out.below HBW.out).get hr
      have hrl := HEA.out r (List.mem_of_getElem? hr)
      have HNX0 := hide (readRows_next hr HRD.out)
      have HCUT := hide (cut_walk ⟨r.toArray⟩ 45 wr (by rw [← sz_list]; simpa using (show r.length ≤ 1048576 by omega)) (HM1.out.below HBW.out))
      have HRO := hide (show rowOf 8 r = (if numF (cutB 45 r).1 8 < 0 ∨ numF (if 45 ∈ r then (cutB 45 r).2 else (cutB 45 r).1) 8 < numF (cutB 45 r).1 8 then none else some ((numF (cutB 45 r).1 8).toNat, (numF (if 45 ∈ r then (cutB 45 r).2 else (cutB 45 r).1) 8).toNat)) from rfl)
      have hltA := numF_lt (cutB 45 r).1 8
      have hltB := numF_lt (cutB 45 r).2 8
      obtain ⟨X, hX⟩ : ∃ X, (cutB 45 r).1 = X := ⟨_, rfl⟩
      obtain ⟨Y, hY⟩ : ∃ Y, (cutB 45 r).2 = Y := ⟨_, rfl⟩
      have HC2 := hide (HCUT.out.mono (fun e w' h => show e = .returned (.tuple #[.string ⟨X.toArray⟩, .string ⟨Y.toArray⟩, .bool (decide (45 ∈ r))]) ∧ Below wr.heap.size wr w' from by rw [← hX, ← hY]; exact h))
      rw [hX, hY] at HRO
      rw [hX] at hltA
      rw [hY] at hltB
      clear HCUT hX hY hr hrl
      have HNA := hide (fun w => num_walk X 8 w)
      have HNB := hide (fun w => num_walk Y 8 w)
      obtain ⟨A, hA⟩ : ∃ A, numF X 8 = A := ⟨_, rfl⟩
      obtain ⟨B, hB⟩ : ∃ B, numF Y 8 = B := ⟨_, rfl⟩
      rw [hA] at HNA hltA
      rw [hB] at HNB hltB
      by_cases hin : 45 ∈ r
      case pos =>
        rw [if_pos hin, hA, hB] at HRO
        have hdec : decide (45 ∈ r) = true := decide_eq_true hin
        rw [hdec] at HC2
        have HFAIL := hide (fun (h : A < 0 ∨ B < A) => readRows_fail (k := k + 1) (by rw [HNX0.out, HRO.out, if_pos h]))
        go_wp2_with fail
        refine HC2.out.mono ?_
        rintro e w5 ⟨rfl, hb5⟩
        have HBW5 := hide (HBW.out.trans (hb5.mono HBW.out.size))
        clear hb5 HC2 c0 HBW
        have HBF := hide (HB1.out.trans (HBW5.out.mono HB1.out.size))
        by_cases hA : A < 0
        · have HNO := hide (HFAIL.out (.inl hA))
          clear HFAIL HRO HNX0 hltA hltB
          go_wp2_with (first | (go_at_call_of 81 (Value.string ⟨X.toArray⟩); refine (HNA.out _).mono ?_; rintro e w6 ⟨rfl, rfl⟩) | (go_at_call_of 81 (Value.string ⟨Y.toArray⟩); refine (HNB.out _).mono ?_; rintro e w6 ⟨rfl, rfl⟩))
          go_ret2
          exact ⟨by rw [HNO.out]; rfl, HBF.out⟩
        · have dA : decide (A < 0) = false := decide_eq_false hA
          by_cases hB : B < A
          · have HNO := hide (HFAIL.out (.inr hB))
            clear HFAIL HRO HNX0 hltA hltB
            go_wp2_with (first | (go_at_call_of 81 (Value.string ⟨X.toArray⟩); refine (HNA.out _).mono ?_; rintro e w6 ⟨rfl, rfl⟩) | (go_at_call_of 81 (Value.string ⟨Y.toArray⟩); refine (HNB.out _).mono ?_; rintro e w6 ⟨rfl, rfl⟩))
            go_ret2
            exact ⟨by rw [HNO.out]; rfl, HBF.out⟩
          · have dB : decide (B < A) = false := decide_eq_false hB
            have hr2 := HRO.out
            rw [if_neg (by omega)] at hr2
            have hnx := HNX0.out
            rw [hr2] at hnx
            have hbm := hltB (by omega)
            obtain ⟨lo, rfl⟩ : ∃ lo : Nat, A = lo := ⟨A.toNat, by omega⟩
            obtain ⟨hi, rfl⟩ : ∃ hi : Nat, B = hi := ⟨B.toNat, by omega⟩
            simp only [Int.toNat_natCast] at hnx
            have HNX := hide hnx
            have hhi : hi < 8 := by omega
            have hlohi : lo ≤ hi := by omega
            clear HFAIL HRO HNX0 hltA hltB hr2 hnx hbm
            go_wp2_with (first | (go_at_call_of 81 (Value.string ⟨X.toArray⟩); refine (HNA.out _).mono ?_; rintro e w6 ⟨rfl, rfl⟩) | (go_at_call_of 81 (Value.string ⟨Y.toArray⟩); refine (HNB.out _).mono ?_; rintro e w6 ⟨rfl, rfl⟩))
            go_loopw [7, 15] (fun sv i wi => ∃ (n : Nat), lo ≤ n ∧ n ≤ hi + 1 ∧ i = .int .i64 (n : Int) ∧ sv = .int .u16 ((maskF x (List.range' lo (n - lo)) : Nat) : Int) ∧ wi = w5) (fun _ i _ => hi + 1 - (intOf i).toNat)
            case atStart => exact ⟨lo, Nat.le_refl _, by omega, rfl, by simp [maskF], rfl⟩
            case round =>
              obtain ⟨n, hn1, hn2, rfl, rfl, rfl⟩ := hrel
              by_cases hle : n ≤ hi
              case pos =>
                have hmx := mask_lt (most := 8) (x := x) (lo := lo) (n := n) HXL.out (by omega) hn1
                have HMS := hide (mask_snoc x lo n hn1)
                obtain ⟨y, hy⟩ : ∃ y, maskF x (List.range' lo (n - lo)) = y := ⟨_, rfl⟩
                rw [hy] at hmx HMS ⊢
                have h16 : (2 : Nat) ^ n ≤ 2 ^ 15 := Nat.pow_le_pow_right (by decide) (by omega)
                have hpw : ((2 : Int) ^ n) = ((2 ^ n : Nat) : Int) := by simp
                have hor : Go.bits .or .u16 (y : Int) ((2 : Int) ^ n) = ((y ||| 2 ^ n : Nat) : Int) := by
                  rw [hpw]; exact u16_or y (2 ^ n) (by omega) (by omega)
                have hwr : IntKind.u16.wrap ((2 : Int) ^ n) = (2 : Int) ^ n := by
                  rw [hpw]
                  have : (2 : Nat) ^ n < 65536 := by omega
                  generalize (2 : Nat) ^ n = z at this
                  simp [IntKind.wrap, IntKind.signed, IntKind.bits]; omega
                clear hy hmx h16 hpw
                go_wp2_with fail
                go_roundw
                case rel => exact ⟨n + 1, by omega, by omega, by go_num, by rw [HMS.out, ← hor], trivial⟩
                case measure => simp [intOf]; omega
              case neg =>
                obtain rfl : n = hi + 1 := by omega
                have hd7 : decide (hi + 1 ≤ hi) = false := by simp
                have hd9 : decide (((hi + 1 : Nat) : Int) ≤ (hi : Int)) = false := by simp; omega
                have hd8 : decide ((hi : Int) + 1 ≤ (hi : Int)) = false := by simp; omega
                have HXN := hide (show maskF x (List.range' lo (hi + 1 - lo)) < 256 from mask_lt (most := 8) (x := x) (lo := lo) (n := hi + 1) HXL.out (by omega) (by omega))
                go_wp2_with fail
                go_roundw
                case rel => exact ⟨k + 1, _, by omega, by go_num, rfl, HNX, HXN, HBW5⟩
                case measure => simp [intOf]; omega
      case neg =>
        rw [if_neg hin, hA] at HRO
        have hdec : decide (45 ∈ r) = false := decide_eq_false hin
        rw [hdec] at HC2
        have HFAIL := hide (fun (h : A < 0 ∨ A < A) => readRows_fail (k := k + 1) (by rw [HNX0.out, HRO.out, if_pos h]))
        go_wp2_with fail
        refine HC2.out.mono ?_
        rintro e w5 ⟨rfl, hb5⟩
        have HBW5 := hide (HBW.out.trans (hb5.mono HBW.out.size))
        clear hb5 HC2 c0 HBW
        have HBF := hide (HB1.out.trans (HBW5.out.mono HB1.out.size))
        by_cases hA : A < 0
        · have HNO := hide (HFAIL.out (.inl hA))
          clear HFAIL HRO HNX0 hltA hltB
          go_wp2_with ((go_at_call 81; refine (HNA.out _).mono ?_; rintro e w6 ⟨rfl, rfl⟩))
          go_ret2
          exact ⟨by rw [HNO.out]; rfl, HBF.out⟩
        · have dA : decide (A < 0) = false := decide_eq_false hA
          by_cases hB : A < A
          · have HNO := hide (HFAIL.out (.inr hB))
            clear HFAIL HRO HNX0 hltA hltB
            go_wp2_with ((go_at_call 81; refine (HNA.out _).mono ?_; rintro e w6 ⟨rfl, rfl⟩))
            go_ret2
            exact ⟨by rw [HNO.out]; rfl, HBF.out⟩
          · have dB : decide (A < A) = false := decide_eq_false hB
            have hr2 := HRO.out
            rw [if_neg (by omega)] at hr2
            have hnx := HNX0.out
            rw [hr2] at hnx
            have hbm := hltA (by omega)
            obtain ⟨lo, rfl⟩ : ∃ lo : Nat, A = lo := ⟨A.toNat, by omega⟩
            skip
            simp only [Int.toNat_natCast] at hnx
            have HNX := hide hnx
            have hhi : lo < 8 := by omega
            have hlohi : lo ≤ lo := by omega
            clear HFAIL HRO HNX0 hltA hltB hr2 hnx hbm
            go_wp2_with ((go_at_call 81; refine (HNA.out _).mono ?_; rintro e w6 ⟨rfl, rfl⟩))
            go_loopw [7, 15] (fun sv i wi => ∃ (n : Nat), lo ≤ n ∧ n ≤ lo + 1 ∧ i = .int .i64 (n : Int) ∧ sv = .int .u16 ((maskF x (List.range' lo (n - lo)) : Nat) : Int) ∧ wi = w5) (fun _ i _ => lo + 1 - (intOf i).toNat)
            case atStart => exact ⟨lo, Nat.le_refl _, by omega, rfl, by simp [maskF], rfl⟩
            case round =>
              obtain ⟨n, hn1, hn2, rfl, rfl, rfl⟩ := hrel
              by_cases hle : n ≤ lo
              case pos =>
                have hmx := mask_lt (most := 8) (x := x) (lo := lo) (n := n) HXL.out (by omega) hn1
                have HMS := hide (mask_snoc x lo n hn1)
                obtain ⟨y, hy⟩ : ∃ y, maskF x (List.range' lo (n - lo)) = y := ⟨_, rfl⟩
                rw [hy] at hmx HMS ⊢
                have h16 : (2 : Nat) ^ n ≤ 2 ^ 15 := Nat.pow_le_pow_right (by decide) (by omega)
                have hpw : ((2 : Int) ^ n) = ((2 ^ n : Nat) : Int) := by simp
                have hor : Go.bits .or .u16 (y : Int) ((2 : Int) ^ n) = ((y ||| 2 ^ n : Nat) : Int) := by
                  rw [hpw]; exact u16_or y (2 ^ n) (by omega) (by omega)
                have hwr : IntKind.u16.wrap ((2 : Int) ^ n) = (2 : Int) ^ n := by
                  rw [hpw]
                  have : (2 : Nat) ^ n < 65536 := by omega
                  generalize (2 : Nat) ^ n = z at this
                  simp [IntKind.wrap, IntKind.signed, IntKind.bits]; omega
                clear hy hmx h16 hpw
                go_wp2_with fail
                go_roundw
                case rel => exact ⟨n + 1, by omega, by omega, by go_num, by rw [HMS.out, ← hor], trivial⟩
                case measure => simp [intOf]; omega
              case neg =>
                obtain rfl : n = lo + 1 := by omega
                have hd7 : decide (lo + 1 ≤ lo) = false := by simp
                have hd9 : decide (((lo + 1 : Nat) : Int) ≤ (lo : Int)) = false := by simp; omega
                have hd8 : decide ((lo : Int) + 1 ≤ (lo : Int)) = false := by simp; omega
                have HXN := hide (show maskF x (List.range' lo (lo + 1 - lo)) < 256 from mask_lt (most := 8) (x := x) (lo := lo) (n := lo + 1) HXL.out (by omega) (by omega))
                go_wp2_with fail
                go_roundw
                case rel => exact ⟨k + 1, _, by omega, by go_num, rfl, HNX, HXN, HBW5⟩
                case measure => simp [intOf]; omega
    case neg =>
      obtain rfl : k = N := by omega
      have hall : ps.take k = ps := List.take_of_length_le (by have := HN.out; omega)
      rw [hall] at HRD
      have HBF := hide (HB1.out.trans (HBW.out.mono HB1.out.size))
      go_wp2
      go_ret2
      exact ⟨by rw [HRD.out]; rfl, HBF.out⟩
end Go.Proofs.YtohbafigjpoijaaDoor
