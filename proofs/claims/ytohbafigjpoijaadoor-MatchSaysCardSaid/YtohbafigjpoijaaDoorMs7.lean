/- A part of the proof: Mt10, Mt11, CardB. -/
import Derived.Test.YtohbafigjpoijaaDoorMs6
import Derived.Deep.DeepHandedRow
import Derived.LaidMore
import Derived.Shelf.Vars
import Derived.ChangeMaps5
set_option linter.unusedVariables false
set_option linter.unusedSimpArgs false
set_option maxRecDepth 100000
set_option maxHeartbeats 8000000
namespace Go.Proofs.YtohbafigjpoijaaDoor
open Go.RowKit
theorem rowOf_pieces (most : Nat) (r : List UInt8) :
    (2 < (pieces 45 r).length ∧ rowOf most r = none) ∨
    (∃ X Y, ((pieces 45 r = [X] ∧ X = Y) ∨ pieces 45 r = [X, Y]) ∧ rowOf most r = (if numF X most < 0 ∨ numF Y most < numF X most then none else some ((numF X most).toNat, (numF Y most).toNat))) := by
  by_cases h : 45 ∈ r
  · have hro : rowOf most r = (if numF (cutB 45 r).1 most < 0 ∨ numF (cutB 45 r).2 most < numF (cutB 45 r).1 most then none else some ((numF (cutB 45 r).1 most).toNat, (numF (cutB 45 r).2 most).toNat)) := by
      simp only [rowOf, if_pos h]
    obtain ⟨u, v, rfl, hu⟩ := split_first h
    rw [cutB_at 45 u v hu] at hro
    by_cases hv : 45 ∈ v
    · left
      refine ⟨?_, ?_⟩
      · rw [pieces_cut 45 u v hu]
        obtain ⟨x, y, rfl, hx⟩ := split_first hv
        rw [pieces_cut 45 x y hx]
        have := pieces_pos 45 y
        simp only [List.length_cons]; omega
      · rw [hro, numF_bad hv (by decide), if_pos (by omega)]
    · right
      exact ⟨u, v, .inr (by rw [pieces_cut 45 u v hu, pieces_eq 45 v hv]), hro⟩
  · right
    refine ⟨r, r, .inl ⟨pieces_eq 45 r h, rfl⟩, ?_⟩
    simp only [rowOf, if_neg h, cutB_not 45 r h]
def readI (r : Option Nat) : Value := match r with | some x => .int .i64 (x : Int) | none => .int .i64 (-1)
theorem refRead_walk (l : List UInt8) (most : Nat) (W : World) (hs : l.length ≤ 1048576) (hmo : most = 16 ∨ most = 8) :
    Calls Tryd.prog 52 #[.string ⟨l.toArray⟩, .int .i64 (most : Int)] W fun e W' => e = .returned (readI (readF l most)) ∧ Below W.heap.size W W' := by
  have hm16 : most ≤ 16 := by omega
  by_cases h1 : l = [42]
  · have HV := hide (show readF l most = some (2 ^ most - 1) by rw [readF, if_pos h1])
    subst h1
    rw [HV.out]
    rcases hmo with rfl | rfl
    all_goals
      go_enter Tryd.func52, Tryd.ntmps52
      go_wp2
      go_ret
      exact ⟨by simp [readI] <;> decide, Below.refl _ _⟩
  by_cases h2 : l = [45]
  · have HV := hide (show readF l most = some 0 by rw [readF, if_neg h1, if_pos h2])
    subst h2
    rw [HV.out]
    go_enter Tryd.func52, Tryd.ntmps52
    go_wp2
    go_ret
    exact ⟨by simp [readI], Below.refl _ _⟩
  have q1 : (l == [42]) = false := by simpa using h1
  have q2 : (l == [45]) = false := by simpa using h2
  have HF := hide (show readF l most = readRowsF most 0 (pieces 44 l) by rw [readF, if_neg h1, if_neg h2])
  have HSP := hide (pieces_own l 44 W hs)
  have HEA := hide (pieces_each 44 l)
  obtain ⟨ps, hps⟩ : ∃ ps, pieces 44 l = ps := ⟨_, rfl⟩
  obtain ⟨N, hN⟩ : ∃ N, ps.length = N := ⟨_, rfl⟩
  have hpl := pieces_len 44 l
  have hpo := pieces_pos 44 l
  rw [hps] at HF HSP HEA hpl hpo
  rw [hN] at HSP hpl hpo
  rw [HF.out]
  have HN := hide hN
  clear h1 h2 HF hps hN hmo
  go_enter Tryd.func52, Tryd.ntmps52
  go_wp2_with fail
  refine HSP.out.mono ?_
  rintro e w1 ⟨g, cap, rfl, hst, hb⟩
  have HST := hide hst
  have HB1 := hide hb
  clear hst hb HSP
  have hn63 : N ≤ 9223372036854775807 := by omega
  go_wp2_with fail
  go_loopw [5, 7] (fun sv i wr => ∃ (k x : Nat), k ≤ N ∧ i = .int .i64 (k : Int) ∧ sv = .int .i64 (x : Int) ∧ Hid (readRowsF most 0 (ps.take k) = some x) ∧ Hid (x < 2 ^ most) ∧ Hid (Below w1.heap.size w1 wr)) (fun _ i _ => N - (intOf i).toNat)
  case atStart => exact ⟨0, 0, Nat.zero_le _, rfl, rfl, hide rfl, hide (Nat.two_pow_pos _), hide (Below.refl _ _)⟩
  case round =>
    obtain ⟨k, x, hk, rfl, rfl, HRD, HXL, HBW⟩ := hrel
    by_cases hlt : k < N
    case pos =>
      obtain ⟨r, hr⟩ : ∃ r, ps[k]? = some r := ⟨_, List.getElem?_eq_getElem (by have := HN.out; omega)⟩
      have c0 := (HST.out.below HBW.out).get hr
      have hrl : r.length ≤ 1048576 := Nat.le_trans (HEA.out r (List.mem_of_getElem? hr)) hs
      have HNX0 := hide (readRows_next hr HRD.out)
      have hro := rowOf_pieces most r
      clear hr
      rcases hro with ⟨hlen, hno⟩ | ⟨X, Y, hXY, hro⟩
      · obtain ⟨n, hn⟩ : ∃ n, (pieces 45 r).length = n := ⟨_, rfl⟩
        have HPP := hide (fun w => show Calls Tryd.prog 46 #[.string ⟨r.toArray⟩, .int .u8 45] w (fun e w' => ∃ gp cp, e = .returned (.slice (some ⟨gp, 0, none⟩) n cp) ∧ Below w.heap.size w w') from by
          have h := pieces_own r 45 w hrl
          rw [hn] at h
          exact h.mono (fun e w' ⟨gp, cp, h1, _, h3⟩ => ⟨gp, cp, h1, h3⟩))
        rw [hn] at hlen
        have hlenI : (2 : Int) < (n : Int) := by omega
        have HNO := hide (readRows_fail (k := k + 1) (by rw [HNX0.out, hno]))
        clear hno HNX0 hn hrl
        go_wp2_with fail
        refine (HPP.out _).mono ?_
        rintro e w5 ⟨gp, cp, rfl, hb⟩
        have HBZ := hide (HB1.out.trans ((HBW.out.trans (hb.mono HBW.out.size)).mono HB1.out.size))
        clear hb HBW c0
        go_wp2
        go_ret
        exact ⟨by rw [HNO.out]; rfl, HBZ.out⟩
      · have HRO := hide hro
        clear hro
        rcases hXY with ⟨hp, hxy⟩ | hp
        · subst hxy
          have HFAIL := hide (fun (h : numF X most < 0 ∨ numF X most < numF X most) => readRows_fail (k := k + 1) (by rw [HNX0.out, HRO.out, if_pos h]))
          have HPP := hide (fun w => show Calls Tryd.prog 46 #[.string ⟨r.toArray⟩, .int .u8 45] w (fun e w' => ∃ gp cp, e = .returned (.slice (some ⟨gp, 0, none⟩) 1 cp) ∧ StrsAt w' w.heap.size gp 1 cp [X] ∧ Below w.heap.size w w') from by
            have h := pieces_own r 45 w hrl
            rw [hp] at h
            exact h)
          have HDX := hide (fun w => show Calls Tryd.prog 47 #[.string ⟨X.toArray⟩, .int .i64 ((most : Int) - 1)] w (fun e w' => e = .returned (.int .i64 (numF X most)) ∧ w = w') from by
            have h := digits_walk ⟨X.toArray⟩ ((most : Int) - 1) w (by omega)
            rw [show (most : Int) - 1 + 1 = most by omega] at h
            exact h)
          have HDY := hide (fun w => show Calls Tryd.prog 47 #[.string ⟨(X).toArray⟩, .int .i64 ((most : Int) - 1)] w (fun e w' => e = .returned (.int .i64 (numF X most)) ∧ w = w') from by
            have h := digits_walk ⟨(X).toArray⟩ ((most : Int) - 1) w (by omega)
            rw [show (most : Int) - 1 + 1 = most by omega] at h
            exact h)
          have hltA := numF_lt X most
          have hltB := numF_lt X most
          obtain ⟨A, hA0⟩ : ∃ A, numF X most = A := ⟨_, rfl⟩
          skip
          simp only [hA0] at HDX HDY HRO hltA hltB
          (simp only [hA0] at HFAIL; clear hA0)
          clear hp hrl
          go_wp2_with fail
          refine (HPP.out _).mono ?_
          rintro e w5 ⟨gp, cp, rfl, hst, hb⟩
          have HBW5 := hide (HBW.out.trans (hb.mono HBW.out.size))
          have p0 : w5.cell? ⟨gp, 0, none⟩ = some (.string ⟨X.toArray⟩) := hst.get (k := 0) rfl
          have p1 : w5.cell? ⟨gp, 0, none⟩ = some (.string ⟨(X).toArray⟩) := hst.get (k := 0) rfl
          have hgl := hst.lt.2
          clear hb hst HPP c0 HBW
          go_wp2_with fail
          refine wp_region_abs (by kernel_rfl) (by kernel_rfl) ?_
          intro T hT gt hg1 hgi
          have HGT := hide hg1
          have HGI := hide hgi
          have k0 : ∀ t, (gt t).cell? ⟨gp, 0, none⟩ = some (.string ⟨X.toArray⟩) := fun t => ((hg1 t).cell (p := ⟨gp, 0, none⟩) hgl).trans p0
          have k1 : ∀ t, (gt t).cell? ⟨gp, 0, none⟩ = some (.string ⟨(X).toArray⟩) := fun t => ((hg1 t).cell (p := ⟨gp, 0, none⟩) hgl).trans p1
          clear hg1 hgi p0 p1 hgl
          repeat (go_big_quiet_step ((first | (go_at_call_of 47 (Value.string ⟨X.toArray⟩); exact inAbsSame (HDX.out _)) | (go_at_call_of 47 (Value.string ⟨(X).toArray⟩); exact inAbsSame (HDY.out _)))))
          refine wpQuiet_nil ?_
          intro _ hw'
          obtain ⟨t, rfl⟩ := hw'
          have HBW6 := hide (HBW5.out.trans ((HGT.out t).mono HBW5.out.size))
          generalize gt t = w6 at *
          clear HGT HGI k0 k1 HDX HDY HBW5
          have HBF := hide (HB1.out.trans (HBW6.out.mono HB1.out.size))
          by_cases hA : A < 0
          · have HNO := hide (HFAIL.out (.inl hA))
            clear HFAIL HRO HNX0 hltA hltB
            go_wp2
            go_ret
            exact ⟨by rw [HNO.out]; rfl, HBF.out⟩
          have dA : decide (A < 0) = false := decide_eq_false hA
          by_cases hB0 : A < 0
          · first
            | omega
            | skip
              have HNO := hide (HFAIL.out (.inr (by omega)))
              clear HFAIL HRO HNX0 hltA hltB
              go_wp2
              go_ret
              exact ⟨by rw [HNO.out]; rfl, HBF.out⟩
          have dB0 : decide (A < 0) = false := decide_eq_false hB0
          by_cases hB : A < A
          · first
            | omega
            | skip
              have HNO := hide (HFAIL.out (.inr hB))
              clear HFAIL HRO HNX0 hltA hltB
              go_wp2
              go_ret
              exact ⟨by rw [HNO.out]; rfl, HBF.out⟩
          have dB : decide (A < A) = false := decide_eq_false hB
          have hr2 := HRO.out
          rw [if_neg (by omega)] at hr2
          have hnx := HNX0.out
          rw [hr2] at hnx
          have hbm := hltB (by omega)
          obtain ⟨lo, hlo⟩ : ∃ lo : Nat, A = lo := ⟨A.toNat, by omega⟩
          subst hlo
          skip
          simp only [Int.toNat_natCast] at hnx
          have HNX := hide hnx
          have hhi : lo < most := by omega
          have hlohi : lo ≤ lo := by omega
          clear HFAIL HRO HNX0 hltA hltB hr2 hnx hbm
          go_wp2_with fail
          go_loopw [5, 11] (fun sv i wi => ∃ (n : Nat), lo ≤ n ∧ n ≤ lo + 1 ∧ i = .int .i64 (n : Int) ∧ sv = .int .i64 ((maskF x (List.range' lo (n - lo)) : Nat) : Int) ∧ wi = w6) (fun _ i _ => lo + 1 - (intOf i).toNat)
          case atStart => exact ⟨lo, Nat.le_refl _, by omega, rfl, by simp [maskF], rfl⟩
          case round =>
            obtain ⟨n, hn1, hn2, rfl, rfl, rfl⟩ := hrel
            by_cases hle : n ≤ lo
            case pos =>
              have hmx := mask_lt (most := most) (x := x) (lo := lo) (n := n) HXL.out (by omega) hn1
              have hmx2 : (2 : Nat) ^ most ≤ 2 ^ 16 := Nat.pow_le_pow_right (by decide) hm16
              have HMS := hide (mask_snoc x lo n hn1)
              obtain ⟨y, hy⟩ : ∃ y, maskF x (List.range' lo (n - lo)) = y := ⟨_, rfl⟩
              rw [hy] at hmx HMS ⊢
              have h16 : (2 : Nat) ^ n ≤ 2 ^ 16 := Nat.pow_le_pow_right (by decide) (by omega)
              have hpw : ((2 : Int) ^ n) = ((2 ^ n : Nat) : Int) := by simp
              have hor : Go.bits .or .i64 (y : Int) ((2 : Int) ^ n) = ((y ||| 2 ^ n : Nat) : Int) := by
                rw [hpw]; exact i64_or y (2 ^ n) (by omega) (by omega)
              have hwr : wrap64 ((2 : Int) ^ n) = (2 : Int) ^ n := wrap_pow n (by omega)
              clear hy hmx h16 hpw hmx2
              go_wp2_with fail
              go_roundw
              case rel => exact ⟨n + 1, by omega, by omega, by go_num, by rw [HMS.out, ← hor], trivial⟩
              case measure => simp [intOf]; omega
            case neg =>
              have hnn : n = lo + 1 := by omega
              subst hnn
              have hd7 : decide (lo + 1 ≤ lo) = false := by simp
              have hd9 : decide (((lo + 1 : Nat) : Int) ≤ (lo : Int)) = false := by simp; omega
              have hd8 : decide ((lo : Int) + 1 ≤ (lo : Int)) = false := by simp; omega
              have HXN := hide (show maskF x (List.range' lo (lo + 1 - lo)) < 2 ^ most from mask_lt (most := most) (x := x) (lo := lo) (n := lo + 1) HXL.out (by omega) (by omega))
              go_wp2_with fail
              go_roundw
              case rel => exact ⟨k + 1, _, by omega, by go_num, rfl, HNX, HXN, HBW6⟩
              case measure => simp [intOf]; omega
        · have HFAIL := hide (fun (h : numF X most < 0 ∨ numF Y most < numF X most) => readRows_fail (k := k + 1) (by rw [HNX0.out, HRO.out, if_pos h]))
          have HPP := hide (fun w => show Calls Tryd.prog 46 #[.string ⟨r.toArray⟩, .int .u8 45] w (fun e w' => ∃ gp cp, e = .returned (.slice (some ⟨gp, 0, none⟩) 2 cp) ∧ StrsAt w' w.heap.size gp 2 cp [X, Y] ∧ Below w.heap.size w w') from by
            have h := pieces_own r 45 w hrl
            rw [hp] at h
            exact h)
          have HDX := hide (fun w => show Calls Tryd.prog 47 #[.string ⟨X.toArray⟩, .int .i64 ((most : Int) - 1)] w (fun e w' => e = .returned (.int .i64 (numF X most)) ∧ w = w') from by
            have h := digits_walk ⟨X.toArray⟩ ((most : Int) - 1) w (by omega)
            rw [show (most : Int) - 1 + 1 = most by omega] at h
            exact h)
          have HDY := hide (fun w => show Calls Tryd.prog 47 #[.string ⟨(Y).toArray⟩, .int .i64 ((most : Int) - 1)] w (fun e w' => e = .returned (.int .i64 (numF Y most)) ∧ w = w') from by
            have h := digits_walk ⟨(Y).toArray⟩ ((most : Int) - 1) w (by omega)
            rw [show (most : Int) - 1 + 1 = most by omega] at h
            exact h)
          have hltA := numF_lt X most
          have hltB := numF_lt Y most
          obtain ⟨A, hA0⟩ : ∃ A, numF X most = A := ⟨_, rfl⟩
          (obtain ⟨B, hB0⟩ : ∃ B, numF Y most = B := ⟨_, rfl⟩)
          simp only [hA0] at HDX HDY HRO hltA hltB
          (simp only [hB0] at HDX HDY HRO hltA hltB; simp only [hA0, hB0] at HFAIL; clear hA0 hB0)
          clear hp hrl
          go_wp2_with fail
          refine (HPP.out _).mono ?_
          rintro e w5 ⟨gp, cp, rfl, hst, hb⟩
          have HBW5 := hide (HBW.out.trans (hb.mono HBW.out.size))
          have p0 : w5.cell? ⟨gp, 0, none⟩ = some (.string ⟨X.toArray⟩) := hst.get (k := 0) rfl
          have p1 : w5.cell? ⟨gp, 1, none⟩ = some (.string ⟨(Y).toArray⟩) := hst.get (k := 1) rfl
          have hgl := hst.lt.2
          clear hb hst HPP c0 HBW
          go_wp2_with fail
          refine wp_region_abs (by kernel_rfl) (by kernel_rfl) ?_
          intro T hT gt hg1 hgi
          have HGT := hide hg1
          have HGI := hide hgi
          have k0 : ∀ t, (gt t).cell? ⟨gp, 0, none⟩ = some (.string ⟨X.toArray⟩) := fun t => ((hg1 t).cell (p := ⟨gp, 0, none⟩) hgl).trans p0
          have k1 : ∀ t, (gt t).cell? ⟨gp, 1, none⟩ = some (.string ⟨(Y).toArray⟩) := fun t => ((hg1 t).cell (p := ⟨gp, 1, none⟩) hgl).trans p1
          clear hg1 hgi p0 p1 hgl
          repeat (go_big_quiet_step ((first | (go_at_call_of 47 (Value.string ⟨X.toArray⟩); exact inAbsSame (HDX.out _)) | (go_at_call_of 47 (Value.string ⟨(Y).toArray⟩); exact inAbsSame (HDY.out _)))))
          refine wpQuiet_nil ?_
          intro _ hw'
          obtain ⟨t, rfl⟩ := hw'
          have HBW6 := hide (HBW5.out.trans ((HGT.out t).mono HBW5.out.size))
          generalize gt t = w6 at *
          clear HGT HGI k0 k1 HDX HDY HBW5
          have HBF := hide (HB1.out.trans (HBW6.out.mono HB1.out.size))
          by_cases hA : A < 0
          · have HNO := hide (HFAIL.out (.inl hA))
            clear HFAIL HRO HNX0 hltA hltB
            go_wp2
            go_ret
            exact ⟨by rw [HNO.out]; rfl, HBF.out⟩
          have dA : decide (A < 0) = false := decide_eq_false hA
          by_cases hB0 : B < 0
          · first
            | omega
            | skip
              have HNO := hide (HFAIL.out (.inr (by omega)))
              clear HFAIL HRO HNX0 hltA hltB
              go_wp2
              go_ret
              exact ⟨by rw [HNO.out]; rfl, HBF.out⟩
          have dB0 : decide (B < 0) = false := decide_eq_false hB0
          by_cases hB : B < A
          · first
            | omega
            | skip
              have HNO := hide (HFAIL.out (.inr hB))
              clear HFAIL HRO HNX0 hltA hltB
              go_wp2
              go_ret
              exact ⟨by rw [HNO.out]; rfl, HBF.out⟩
          have dB : decide (B < A) = false := decide_eq_false hB
          have hr2 := HRO.out
          rw [if_neg (by omega)] at hr2
          have hnx := HNX0.out
          rw [hr2] at hnx
          have hbm := hltB (by omega)
          obtain ⟨lo, hlo⟩ : ∃ lo : Nat, A = lo := ⟨A.toNat, by omega⟩
          subst hlo
          (obtain ⟨hi, hhi0⟩ : ∃ hi : Nat, B = hi := ⟨B.toNat, by omega⟩; subst hhi0)
          simp only [Int.toNat_natCast] at hnx
          have HNX := hide hnx
          have hhi : hi < most := by omega
          have hlohi : lo ≤ hi := by omega
          clear HFAIL HRO HNX0 hltA hltB hr2 hnx hbm
          go_wp2_with fail
          go_loopw [5, 11] (fun sv i wi => ∃ (n : Nat), lo ≤ n ∧ n ≤ hi + 1 ∧ i = .int .i64 (n : Int) ∧ sv = .int .i64 ((maskF x (List.range' lo (n - lo)) : Nat) : Int) ∧ wi = w6) (fun _ i _ => hi + 1 - (intOf i).toNat)
          case atStart => exact ⟨lo, Nat.le_refl _, by omega, rfl, by simp [maskF], rfl⟩
          case round =>
            obtain ⟨n, hn1, hn2, rfl, rfl, rfl⟩ := hrel
            by_cases hle : n ≤ hi
            case pos =>
              have hmx := mask_lt (most := most) (x := x) (lo := lo) (n := n) HXL.out (by omega) hn1
              have hmx2 : (2 : Nat) ^ most ≤ 2 ^ 16 := Nat.pow_le_pow_right (by decide) hm16
              have HMS := hide (mask_snoc x lo n hn1)
              obtain ⟨y, hy⟩ : ∃ y, maskF x (List.range' lo (n - lo)) = y := ⟨_, rfl⟩
              rw [hy] at hmx HMS ⊢
              have h16 : (2 : Nat) ^ n ≤ 2 ^ 16 := Nat.pow_le_pow_right (by decide) (by omega)
              have hpw : ((2 : Int) ^ n) = ((2 ^ n : Nat) : Int) := by simp
              have hor : Go.bits .or .i64 (y : Int) ((2 : Int) ^ n) = ((y ||| 2 ^ n : Nat) : Int) := by
                rw [hpw]; exact i64_or y (2 ^ n) (by omega) (by omega)
              have hwr : wrap64 ((2 : Int) ^ n) = (2 : Int) ^ n := wrap_pow n (by omega)
              clear hy hmx h16 hpw hmx2
              go_wp2_with fail
              go_roundw
              case rel => exact ⟨n + 1, by omega, by omega, by go_num, by rw [HMS.out, ← hor], trivial⟩
              case measure => simp [intOf]; omega
            case neg =>
              have hnn : n = hi + 1 := by omega
              subst hnn
              have hd7 : decide (hi + 1 ≤ hi) = false := by simp
              have hd9 : decide (((hi + 1 : Nat) : Int) ≤ (hi : Int)) = false := by simp; omega
              have hd8 : decide ((hi : Int) + 1 ≤ (hi : Int)) = false := by simp; omega
              have HXN := hide (show maskF x (List.range' lo (hi + 1 - lo)) < 2 ^ most from mask_lt (most := most) (x := x) (lo := lo) (n := hi + 1) HXL.out (by omega) (by omega))
              go_wp2_with fail
              go_roundw
              case rel => exact ⟨k + 1, _, by omega, by go_num, rfl, HNX, HXN, HBW6⟩
              case measure => simp [intOf]; omega
    case neg =>
      obtain rfl : k = N := by omega
      have hall : ps.take k = ps := List.take_of_length_le (by have := HN.out; omega)
      rw [hall] at HRD
      have HBF := hide (HB1.out.trans (HBW.out.mono HB1.out.size))
      go_wp2
      go_ret
      exact ⟨by rw [HRD.out]; rfl, HBF.out⟩
theorem matchAll_walk (W : World) : Calls Tryd.prog 28 #[] W fun e W' => e = .returned (.agg #[.int .u16 65535, .int .u16 65535, .int .u8 255, .int .u8 255]) ∧ Below W.heap.size W W' := by
  have hb0 := (Below.refl W.heap.size W).alloc (Nat.le_refl _) (.cells #[.int .u16 65535, .int .u16 65535, .int .u8 255, .int .u8 255] 42)
  have hx := heap_alloc_new W (.cells #[.int .u16 65535, .int .u16 65535, .int .u8 255, .int .u8 255] 42)
  obtain ⟨z0, z1, z2, z3, z4, z5, z6, z7⟩ := cells4f hx
  have HBO := hide hb0
  clear hx hb0
  go_enter Tryd.func28, Tryd.ntmps28
  go_wp2
  refine bodyPost_ret (v := .agg #[.int .u16 65535, .int .u16 65535, .int .u8 255, .int .u8 255]) (by simp [results, Tryd.f28, go_sem, z0, z1, z2, z3]) rfl ⟨rfl, ?_⟩
  exact HBO.out
def readZ (R : Option Nat) : Int := match R with | some x => (x : Int) | none => -1
theorem readZ_I (R : Option Nat) : readI R = .int .i64 (readZ R) := by cases R <;> rfl
theorem readZ_cases (R : Option Nat) : (R = none ∧ readZ R < 0) ∨ ∃ x, R = some x ∧ readZ R = (x : Int) := by
  cases R with
  | none => exact .inl ⟨rfl, by show (-1 : Int) < 0; omega⟩
  | some x => exact .inr ⟨x, rfl, rfl⟩
theorem wrapU16 (y : Nat) (h : y < 65536) : IntKind.u16.wrap (y : Int) = (y : Int) := by
  simp [IntKind.wrap, IntKind.signed, IntKind.bits]; omega
theorem readMatch_walk (l : List UInt8) (W : World) (hsz : l.length ≤ 9223372036854775807) :
    Calls Tryd.prog 23 #[.string ⟨l.toArray⟩] W fun e W' => e = .returned (parseMV l) ∧ Below W.heap.size W W' := by
  have hb0 := (Below.refl W.heap.size W).alloc (Nat.le_refl _) (.cells #[.int .u16 0, .int .u16 0, .int .u8 0, .int .u8 0] 42)
  have hx := heap_alloc_new W (.cells #[.int .u16 0, .int .u16 0, .int .u8 0, .int .u8 0] 42)
  by_cases hl : 300 < l.length
  · have HOUT := hide (show parseMV l = .tuple #[.agg #[.int .u16 0, .int .u16 0, .int .u8 0, .int .u8 0], .int .i64 2] from by rw [parseMV, parseM_long hl]; rfl)
    obtain ⟨n, hn⟩ : ∃ n, l.length = n := ⟨_, rfl⟩
    have hsize : (⟨l.toArray⟩ : ByteArray).size = n := by rw [← hn]; exact List.size_toArray
    rw [hn] at hl hsz
    have HBO := hide hb0
    obtain ⟨z0, z1, z2, z3, z4, z5, z6, z7⟩ := cells4f hx
    clear hn hx hb0
    generalize (⟨l.toArray⟩ : ByteArray) = s at *
    go_enter Tryd.func23, Tryd.ntmps23
    go_wp2
    refine bodyPost_ret (v := .tuple #[.agg #[.int .u16 0, .int .u16 0, .int .u8 0, .int .u8 0], .int .i64 2]) (by simp [results, Tryd.f23, go_sem, z0, z1, z2, z3]) rfl ⟨by rw [HOUT.out], ?_⟩
    first
      | exact HBO.out
      | exact (((HBO.out.setCell (Nat.le_refl _) _).setCell (Nat.le_refl _) _).setCell (Nat.le_refl _) _).setCell (Nat.le_refl _) _
  have hs : l.length ≤ 1048576 := by omega
  have hle : decide (300 < l.length) = false := decide_eq_false hl
  have hszl : (⟨l.toArray⟩ : ByteArray).size = l.length := List.size_toArray
  have HSP := hide (fun w => pieces_own l 32 w hs)
  have HN4 := hide (fun h4 => parseM_not (l := l) hl h4)
  have HPF := hide (fun a b c d (hq : pieces 32 l = [a, b, c, d]) => show parseM l = (match readF a 16, readF b 8, readF c 16, readF d 8 with | some x, some y, some z, some u => (⟨x, z, y, u⟩, 0) | _, _, _, _ => (⟨0, 0, 0, 0⟩, 3)) from by rw [parseM, if_neg hl, hq]; rfl)
  have hpe := pieces_each 32 l
  obtain ⟨nl, hnl⟩ : ∃ nl, l.length = nl := ⟨_, rfl⟩
  obtain ⟨s, hss⟩ : ∃ s : ByteArray, ⟨l.toArray⟩ = s := ⟨_, rfl⟩
  obtain ⟨ps, hps⟩ : ∃ ps, pieces 32 l = ps := ⟨_, rfl⟩
  obtain ⟨n, hn⟩ : ∃ n, ps.length = n := ⟨_, rfl⟩
  have hpl := pieces_len 32 l
  simp only [hss] at hszl HSP ⊢
  rw [hps] at HSP HPF HN4 hpe hpl
  rw [hn] at HSP HN4 hpl
  rw [hnl] at hszl hle hl hs hpl hpe
  clear hsz
  have hn63 : n ≤ 1048577 := by omega
  have HPE := hide hpe
  have HNN := hide hn
  clear hpe hn
  go_enter Tryd.func23, Tryd.ntmps23
  go_wp2_with fail
  generalize W.alloc (.cells #[.int .u16 0, .int .u16 0, .int .u8 0, .int .u8 0] 42) = w1 at *
  refine (HSP.out _).mono ?_
  rintro e w2 ⟨g, cap, rfl, hst, hb2⟩
  have hx2 := (hb2.block W.heap.size (heap_lt hx)).trans hx
  have HB2 := hide (hb0.trans (hb2.mono hb0.size))
  have HST := hide hst
  clear hx hb0 hst hb2 HSP
  by_cases h4 : n = 4
  case neg =>
    have HOUT := hide (show parseMV l = .tuple #[.agg #[.int .u16 0, .int .u16 0, .int .u8 0, .int .u8 0], .int .i64 3] from by rw [parseMV, HN4.out h4]; rfl)
    have d1 : ((n : Int) == 4) = false := by simp; omega
    have d2 : ((n : Int) != 4) = true := by simp; omega
    have HBO := HB2
    obtain ⟨z0, z1, z2, z3, z4, z5, z6, z7⟩ := cells4f hx2
    clear hx2 HPF HN4 HST
    go_wp2
    refine bodyPost_ret (v := .tuple #[.agg #[.int .u16 0, .int .u16 0, .int .u8 0, .int .u8 0], .int .i64 3]) (by simp [results, Tryd.f23, go_sem, z0, z1, z2, z3]) rfl ⟨by rw [HOUT.out], ?_⟩
    first
      | exact HBO.out
      | exact (((HBO.out.setCell (Nat.le_refl _) _).setCell (Nat.le_refl _) _).setCell (Nat.le_refl _) _).setCell (Nat.le_refl _) _
  case pos =>
  subst h4
  obtain ⟨a, b, c, d, hq⟩ : ∃ a b c d, ps = [a, b, c, d] := by
    match ps, HNN.out with
    | [a, b, c, d], _ => exact ⟨a, b, c, d, rfl⟩
  subst hq
  have hpm := HPF.out a b c d rfl
  have HRA := hide (fun w => refRead_walk a 16 w (Nat.le_trans (HPE.out a (by simp)) hs) (.inl rfl))
  have HRB := hide (fun w => refRead_walk b 8 w (Nat.le_trans (HPE.out b (by simp)) hs) (.inr rfl))
  have HRC := hide (fun w => refRead_walk c 16 w (Nat.le_trans (HPE.out c (by simp)) hs) (.inl rfl))
  have HRD := hide (fun w => refRead_walk d 8 w (Nat.le_trans (HPE.out d (by simp)) hs) (.inr rfl))
  have HLA := hide (fun x => read_lt (l := a) (most := 16) (x := x) (by omega))
  have HLB := hide (fun x => read_lt (l := b) (most := 8) (x := x) (by omega))
  have HLC := hide (fun x => read_lt (l := c) (most := 16) (x := x) (by omega))
  have HLD := hide (fun x => read_lt (l := d) (most := 8) (x := x) (by omega))
  have p0 := HST.out.get (k := 0) rfl
  have p1 := HST.out.get (k := 1) rfl
  have p2 := HST.out.get (k := 2) rfl
  have p3 := HST.out.get (k := 3) rfl
  have hgl := HST.out.lt.2
  clear HN4 HPF HPE HNN HST
  obtain ⟨R0, hR0⟩ : ∃ R, readF a 16 = R := ⟨_, rfl⟩
  obtain ⟨R1, hR1⟩ : ∃ R, readF b 8 = R := ⟨_, rfl⟩
  obtain ⟨R2, hR2⟩ : ∃ R, readF c 16 = R := ⟨_, rfl⟩
  obtain ⟨R3, hR3⟩ : ∃ R, readF d 8 = R := ⟨_, rfl⟩
  rw [hR0, hR1, hR2, hR3] at hpm
  simp only [hR0, readZ_I] at HRA HLA
  simp only [hR1, readZ_I] at HRB HLB
  simp only [hR2, readZ_I] at HRC HLC
  simp only [hR3, readZ_I] at HRD HLD
  have HZ0 := hide (readZ_cases R0)
  have HZ1 := hide (readZ_cases R1)
  have HZ2 := hide (readZ_cases R2)
  have HZ3 := hide (readZ_cases R3)
  have HPM := hide hpm
  clear hpm hR0 hR1 hR2 hR3
  generalize readZ R0 = V0 at *
  generalize readZ R1 = V1 at *
  generalize readZ R2 = V2 at *
  generalize readZ R3 = V3 at *
  go_wp2_with fail
  refine wp_region_abs (by kernel_rfl) (by kernel_rfl) ?_
  intro T hT gt hg1 hgi
  have HGT := hide hg1
  have HGI := hide hgi
  have k0 : ∀ t, (gt t).cell? ⟨g, 0, none⟩ = some (.string ⟨a.toArray⟩) := fun t => ((hg1 t).cell (p := ⟨g, 0, none⟩) hgl).trans p0
  have k1 : ∀ t, (gt t).cell? ⟨g, 1, none⟩ = some (.string ⟨b.toArray⟩) := fun t => ((hg1 t).cell (p := ⟨g, 1, none⟩) hgl).trans p1
  have k2 : ∀ t, (gt t).cell? ⟨g, 2, none⟩ = some (.string ⟨c.toArray⟩) := fun t => ((hg1 t).cell (p := ⟨g, 2, none⟩) hgl).trans p2
  have k3 : ∀ t, (gt t).cell? ⟨g, 3, none⟩ = some (.string ⟨d.toArray⟩) := fun t => ((hg1 t).cell (p := ⟨g, 3, none⟩) hgl).trans p3
  clear hg1 hgi p0 p1 p2 p3 hgl
  repeat (go_big_quiet_step ((first | (go_at_call_of 52 (Value.string ⟨a.toArray⟩); exact inAbs HGT.out HGI.out (HRA.out _)) | (go_at_call_of 52 (Value.string ⟨b.toArray⟩); exact inAbs HGT.out HGI.out (HRB.out _)) | (go_at_call_of 52 (Value.string ⟨c.toArray⟩); exact inAbs HGT.out HGI.out (HRC.out _)) | (go_at_call_of 52 (Value.string ⟨d.toArray⟩); exact inAbs HGT.out HGI.out (HRD.out _)))))
  refine wpQuiet_nil ?_
  intro _ hw'
  obtain ⟨t, rfl⟩ := hw'
  have HBO := hide (HB2.out.trans ((HGT.out t).mono HB2.out.size))
  obtain ⟨z0, z1, z2, z3, z4, z5, z6, z7⟩ := cells4f (((HGT.out t).block W.heap.size (heap_lt hx2)).trans hx2)
  generalize gt t = w6 at *
  clear HGT HGI k0 k1 k2 k3 HRA HRB HRC HRD hx2 HB2
  rcases HZ0.out with ⟨rfl, hn0⟩ | ⟨x0, rfl, rfl⟩
  · clear HZ0 HZ1 HZ2 HZ3 HLA HLB HLC HLD
    have HOUT := hide (show parseMV l = .tuple #[.agg #[.int .u16 0, .int .u16 0, .int .u8 0, .int .u8 0], .int .i64 3] from by rw [parseMV, HPM.out]; rfl)
    clear HPM
    go_wp2
    refine bodyPost_ret (v := .tuple #[.agg #[.int .u16 0, .int .u16 0, .int .u8 0, .int .u8 0], .int .i64 3]) (by simp [results, Tryd.f23, go_sem, z0, z1, z2, z3]) rfl ⟨by rw [HOUT.out], ?_⟩
    first
      | exact HBO.out
      | exact (((HBO.out.setCell (Nat.le_refl _) _).setCell (Nat.le_refl _) _).setCell (Nat.le_refl _) _).setCell (Nat.le_refl _) _
  have d0 : decide ((x0 : Int) < 0) = false := decide_eq_false (by omega)
  rcases HZ1.out with ⟨rfl, hn1⟩ | ⟨x1, rfl, rfl⟩
  · clear HZ0 HZ1 HZ2 HZ3 HLA HLB HLC HLD
    have HOUT := hide (show parseMV l = .tuple #[.agg #[.int .u16 0, .int .u16 0, .int .u8 0, .int .u8 0], .int .i64 3] from by rw [parseMV, HPM.out]; rfl)
    clear HPM
    go_wp2
    refine bodyPost_ret (v := .tuple #[.agg #[.int .u16 0, .int .u16 0, .int .u8 0, .int .u8 0], .int .i64 3]) (by simp [results, Tryd.f23, go_sem, z0, z1, z2, z3]) rfl ⟨by rw [HOUT.out], ?_⟩
    first
      | exact HBO.out
      | exact (((HBO.out.setCell (Nat.le_refl _) _).setCell (Nat.le_refl _) _).setCell (Nat.le_refl _) _).setCell (Nat.le_refl _) _
  have d1 : decide ((x1 : Int) < 0) = false := decide_eq_false (by omega)
  rcases HZ2.out with ⟨rfl, hn2⟩ | ⟨x2, rfl, rfl⟩
  · clear HZ0 HZ1 HZ2 HZ3 HLA HLB HLC HLD
    have HOUT := hide (show parseMV l = .tuple #[.agg #[.int .u16 0, .int .u16 0, .int .u8 0, .int .u8 0], .int .i64 3] from by rw [parseMV, HPM.out]; rfl)
    clear HPM
    go_wp2
    refine bodyPost_ret (v := .tuple #[.agg #[.int .u16 0, .int .u16 0, .int .u8 0, .int .u8 0], .int .i64 3]) (by simp [results, Tryd.f23, go_sem, z0, z1, z2, z3]) rfl ⟨by rw [HOUT.out], ?_⟩
    first
      | exact HBO.out
      | exact (((HBO.out.setCell (Nat.le_refl _) _).setCell (Nat.le_refl _) _).setCell (Nat.le_refl _) _).setCell (Nat.le_refl _) _
  have d2 : decide ((x2 : Int) < 0) = false := decide_eq_false (by omega)
  rcases HZ3.out with ⟨rfl, hn3⟩ | ⟨x3, rfl, rfl⟩
  · clear HZ0 HZ1 HZ2 HZ3 HLA HLB HLC HLD
    have HOUT := hide (show parseMV l = .tuple #[.agg #[.int .u16 0, .int .u16 0, .int .u8 0, .int .u8 0], .int .i64 3] from by rw [parseMV, HPM.out]; rfl)
    clear HPM
    go_wp2
    refine bodyPost_ret (v := .tuple #[.agg #[.int .u16 0, .int .u16 0, .int .u8 0, .int .u8 0], .int .i64 3]) (by simp [results, Tryd.f23, go_sem, z0, z1, z2, z3]) rfl ⟨by rw [HOUT.out], ?_⟩
    first
      | exact HBO.out
      | exact (((HBO.out.setCell (Nat.le_refl _) _).setCell (Nat.le_refl _) _).setCell (Nat.le_refl _) _).setCell (Nat.le_refl _) _
  have d3 : decide ((x3 : Int) < 0) = false := decide_eq_false (by omega)
  have q0 := wrapU16 x0 (HLA.out x0 rfl)
  have q1 := wrapU8 x1 (HLB.out x1 rfl)
  have q2 := wrapU16 x2 (HLC.out x2 rfl)
  have q3 := wrapU8 x3 (HLD.out x3 rfl)
  have HOUT := hide (show parseMV l = .tuple #[.agg #[.int .u16 (x0 : Int), .int .u16 (x2 : Int), .int .u8 (x1 : Int), .int .u8 (x3 : Int)], .int .i64 0] from by rw [parseMV, HPM.out])
  clear HZ0 HZ1 HZ2 HZ3 HLA HLB HLC HLD HPM
  go_wp2
  refine bodyPost_ret (v := .tuple #[.agg #[.int .u16 (x0 : Int), .int .u16 (x2 : Int), .int .u8 (x1 : Int), .int .u8 (x3 : Int)], .int .i64 0]) (by simp [results, Tryd.f23, go_sem, z0, z1, z2, z3]) rfl ⟨by rw [HOUT.out], ?_⟩
  exact (((HBO.out.setCell (Nat.le_refl _) _).setCell (Nat.le_refl _) _).setCell (Nat.le_refl _) _).setCell (Nat.le_refl _) _
theorem matchSays_walk (m : M4) (hmo : m.ok) (p : P4) (hpo : p.ok) (l : List UInt8) (W : World) (hsz : l.length ≤ 9223372036854775807) (hm : MaxAt W) :
    Calls Tryd.prog 5 #[.agg #[.int .u16 m.src, .int .u16 m.dst, .int .u8 m.sport, .int .u8 m.dport], .agg #[.int .i64 p.src, .int .i64 p.dst, .int .i64 p.sport, .int .i64 p.dport], .string ⟨l.toArray⟩] W fun e W' => e = .returned (.bool true) ∧ Below W.heap.size W W' := by
  have HPA := hide (fun (w : World) (hb : Below W.heap.size W w) => matchParse_walk l w hsz (hm.below hb))
  have HRM := hide (fun (w : World) => readMatch_walk l w hsz)
  have HIN := hide (fun w => in_walk m.src m.dst m.sport m.dport p.src p.dst p.sport p.dport w hmo.1 hmo.2.1 hmo.2.2.1 hmo.2.2.2 hpo.1 hpo.2.1 hpo.2.2.1 hpo.2.2.2)
  have HHA := hide (fun w => hasAllN_walk w m.src m.dst m.sport m.dport p.src p.dst p.sport p.dport hmo.1 hmo.2.1 hmo.2.2.1 hmo.2.2.2 hpo.1 hpo.2.1 hpo.2.2.1 hpo.2.2.2)
  have HPR := hide (fun w => matchPrint_walk m hmo w)
  have HTX := hide (fun w => matchText_walk m hmo w)
  have HAL := hide (fun w => matchAll_walk w)
  obtain ⟨⟨d0, d1, d2, d3⟩, j, hj⟩ : ∃ d j, parseM l = (d, j) := ⟨_, _, rfl⟩
  have hV : parseMV l = .tuple #[.agg #[.int .u16 d0, .int .u16 d1, .int .u8 d2, .int .u8 d3], .int .i64 j] := by simp only [parseMV, hj]
  rw [hV] at HPA HRM
  generalize (hasB m.src p.src && hasB m.dst p.dst && hasB m.sport p.sport && hasB m.dport p.dport) = B at *
  generalize matchT m = TT at *
  obtain ⟨a, b, c, d⟩ := m
  obtain ⟨x, y, z, u⟩ := p
  simp only at HIN HHA HPR HTX
  clear hV hj hm hmo hpo
  go_enter Tryd.func5, Tryd.ntmps5
  go_wp2_with fail
  have HK0 := hide (((Kp.nil W).al #[.int .u16 a, .int .u16 b, .int .u8 c, .int .u8 d] 42).al #[.int .i64 x, .int .i64 y, .int .i64 z, .int .i64 u] 23)
  have hN1 : (W.alloc (.cells #[.int .u16 (a : Int), .int .u16 (b : Int), .int .u8 (c : Int), .int .u8 (d : Int)] 42)).heap.size = W.heap.size + 1 := by simp
  rw [hN1] at HK0
  generalize hw0 : (W.alloc (.cells #[.int .u16 (a : Int), .int .u16 (b : Int), .int .u8 (c : Int), .int .u8 (d : Int)] 42)).alloc (.cells #[.int .i64 x, .int .i64 y, .int .i64 z, .int .i64 u] 23) = w0 at *
  clear hw0 hN1
  refine (HPA.out _ HK0.out.bl).mono ?_
  rintro e w1 ⟨rfl, hb⟩
  have HK1 := hide (HK0.out.below hb)
  clear hb HK0
  have HK2 := hide (HK1.out.al #[.int .u16 d0, .int .u16 d1, .int .u8 d2, .int .u8 d3] 42)
  clear HK1 HPA
  go_wp2_with fail
  generalize hw2 : w1.alloc (.cells #[.int .u16 d0, .int .u16 d1, .int .u8 d2, .int .u8 d3] 42) = w2 at *
  clear hw2
  generalize w1.heap.size = Nd at *
  refine (HRM.out _).mono ?_
  rintro e w3 ⟨rfl, hb⟩
  have HK3 := hide (HK2.out.below hb)
  clear hb HK2
  have HK4 := hide (HK3.out.al #[.int .u16 d0, .int .u16 d1, .int .u8 d2, .int .u8 d3] 42)
  clear HK3 HRM
  go_wp2_with fail
  generalize hw4 : w3.alloc (.cells #[.int .u16 d0, .int .u16 d1, .int .u8 d2, .int .u8 d3] 42) = w4 at *
  clear hw4
  generalize w3.heap.size = Nx at *
  refine wp_region_abs (by kernel_rfl) (by kernel_rfl) ?_
  intro T hT gt hg1 hgi
  have HGT := hide hg1
  have HGI := hide hgi
  clear hg1 hgi
  have HC := hide (fun t i N x0 x1 x2 x3 hx => (HK4.out.below (HGT.out t)).c4 i (N := N) (x0 := x0) (x1 := x1) (x2 := x2) (x3 := x3) hx)
  have kpa : ∀ t, (gt t).cell? ⟨W.heap.size + 1, 0, none⟩ = some (.int .i64 x) := fun t => (HC.out t 2 _ _ _ _ _ rfl).2.1
  have kpb : ∀ t, (gt t).cell? ⟨W.heap.size + 1, 1, none⟩ = some (.int .i64 y) := fun t => (HC.out t 2 _ _ _ _ _ rfl).2.2.1
  have kpc : ∀ t, (gt t).cell? ⟨W.heap.size + 1, 2, none⟩ = some (.int .i64 z) := fun t => (HC.out t 2 _ _ _ _ _ rfl).2.2.2.1
  have kpd : ∀ t, (gt t).cell? ⟨W.heap.size + 1, 3, none⟩ = some (.int .i64 u) := fun t => (HC.out t 2 _ _ _ _ _ rfl).2.2.2.2.1
  have kma : ∀ t, (gt t).cell? ⟨W.heap.size, 0, none⟩ = some (.int .u16 a) := fun t => (HC.out t 3 _ _ _ _ _ rfl).2.1
  have kmb : ∀ t, (gt t).cell? ⟨W.heap.size, 1, none⟩ = some (.int .u16 b) := fun t => (HC.out t 3 _ _ _ _ _ rfl).2.2.1
  have kmc : ∀ t, (gt t).cell? ⟨W.heap.size, 2, none⟩ = some (.int .u8 c) := fun t => (HC.out t 3 _ _ _ _ _ rfl).2.2.2.1
  have kmd : ∀ t, (gt t).cell? ⟨W.heap.size, 3, none⟩ = some (.int .u8 d) := fun t => (HC.out t 3 _ _ _ _ _ rfl).2.2.2.2.1
  have kda : ∀ t, (gt t).cell? ⟨Nd, 0, none⟩ = some (.int .u16 d0) := fun t => (HC.out t 1 _ _ _ _ _ rfl).2.1
  have kdb : ∀ t, (gt t).cell? ⟨Nd, 1, none⟩ = some (.int .u16 d1) := fun t => (HC.out t 1 _ _ _ _ _ rfl).2.2.1
  have kdc : ∀ t, (gt t).cell? ⟨Nd, 2, none⟩ = some (.int .u8 d2) := fun t => (HC.out t 1 _ _ _ _ _ rfl).2.2.2.1
  have kdd : ∀ t, (gt t).cell? ⟨Nd, 3, none⟩ = some (.int .u8 d3) := fun t => (HC.out t 1 _ _ _ _ _ rfl).2.2.2.2.1
  have kxa : ∀ t, (gt t).cell? ⟨Nx, 0, none⟩ = some (.int .u16 d0) := fun t => (HC.out t 0 _ _ _ _ _ rfl).2.1
  have kxb : ∀ t, (gt t).cell? ⟨Nx, 1, none⟩ = some (.int .u16 d1) := fun t => (HC.out t 0 _ _ _ _ _ rfl).2.2.1
  have kxc : ∀ t, (gt t).cell? ⟨Nx, 2, none⟩ = some (.int .u8 d2) := fun t => (HC.out t 0 _ _ _ _ _ rfl).2.2.2.1
  have kxd : ∀ t, (gt t).cell? ⟨Nx, 3, none⟩ = some (.int .u8 d3) := fun t => (HC.out t 0 _ _ _ _ _ rfl).2.2.2.2.1
  clear HC
  repeat (go_big_quiet_step ((first | (go_at_call 24; exact inAbs HGT.out HGI.out (HIN.out _)) | (go_at_call 25; exact inAbs HGT.out HGI.out (HHA.out _)) | (go_at_call 26; exact inAbs HGT.out HGI.out (HPR.out _)) | (go_at_call 27; exact inAbs HGT.out HGI.out (HTX.out _)) | (go_at_call 28; exact inAbs HGT.out HGI.out (HAL.out _)))))
  refine wpQuiet_nil ?_
  intro _ hw'
  obtain ⟨t, rfl⟩ := hw'
  have HBE := hide (HK4.out.below (HGT.out t)).bl
  go_wp2
  go_ret
  exact ⟨rfl, HBE.out⟩
open Go.ChangeAt Go.ChangeShapes Go.Maps Go.WideShapes
theorem cell_lt {w : World} {b o : Nat} {v : Value} (h : w.cell? ⟨b, o, none⟩ = some v) : b < w.heap.size := by
  unfold World.cell? at h
  by_cases hb : b < w.heap.size
  · exact hb
  · simp [Array.getElem?_eq_none (Nat.le_of_not_lt hb)] at h
theorem maxAt_shaped {W : World} (h : W.ShapedOpen Tryd.prog) : MaxAt W := by
  obtain ⟨m, e⟩ := Go.Proofs.cell_of_shapedOpen_int (g := 0) (zero := #[.int .i64 0]) (t := 3) h (of_decide_eq_true (by kernel_rfl)) (by kernel_rfl) rfl (by kernel_rfl) (by kernel_rfl) Tryd.underlying3
  exact ⟨cell_lt e, m, e⟩
end Go.Proofs.YtohbafigjpoijaaDoor
