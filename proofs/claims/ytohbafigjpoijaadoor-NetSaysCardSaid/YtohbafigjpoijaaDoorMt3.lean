/- (match.part).word. -/
import Derived.Test.YtohbafigjpoijaaDoorMt2
set_option linter.unusedVariables false
set_option linter.unusedSimpArgs false
set_option maxRecDepth 100000
set_option maxHeartbeats 8000000
namespace Go.Proofs.YtohbafigjpoijaaDoor
open Go.RowKit

theorem cells3f {w : World} {b : Nat} {x0 x1 x2 : Value} {t : TypeId} (h : w.heap[b]? = some (.cells #[x0, x1, x2] t)) :
    w.cell? ⟨b, 0, none⟩ = some x0 ∧ w.cell? ⟨b, 1, none⟩ = some x1 ∧ w.cell? ⟨b, 2, none⟩ = some x2 :=
  ⟨by rw [cell_of_row _ _ _ _ _ _ h]; rfl, by rw [cell_of_row _ _ _ _ _ _ h]; rfl, by rw [cell_of_row _ _ _ _ _ _ h]; rfl⟩

theorem rows_ne {set most : Nat} (hs : set < 2 ^ most) (hne : set ≠ 0) : rowsF set.testBit most 0 ≠ [] := by
  intro e
  refine hne (Nat.eq_of_testBit_eq fun i => ?_)
  rw [Nat.zero_testBit]
  cases hb : set.testBit i with
  | false => rfl
  | true =>
    have hi : i < most := by
      rcases Nat.lt_or_ge i most with h | h
      · exact h
      · rw [Nat.testBit_lt_two_pow (Nat.lt_of_lt_of_le hs (Nat.pow_le_pow_right (by decide) h))] at hb; cases hb
    obtain ⟨r, hr, _⟩ := rows_all set.testBit most 0 i (Nat.zero_le _) hi hb
    rw [e] at hr; simp at hr

theorem word16_walk (set : Nat) (first : Int) (W : World) (hs : set < 65536) :
    Calls Tryd.prog 55 #[.agg #[.int .u16 (set : Int), .int .i64 4, .int .i64 first]] W fun e W' => e = .returned (.string ⟨(wordF set 16).toArray⟩) ∧ Below W.heap.size W W' := by
  obtain ⟨i0, hi0, hz0, hz1, hz2⟩ := info_parts Tryd.infoString
  have hb0 := (Below.refl W.heap.size W).alloc (Nat.le_refl _) (.cells #[.int .u16 (set : Int), .int .i64 4, .int .i64 first] 90)
  have hx := heap_alloc_new W (.cells #[.int .u16 (set : Int), .int .i64 4, .int .i64 first] 90)
  have hsz : (W.alloc (.cells #[.int .u16 (set : Int), .int .i64 4, .int .i64 first] 90)).heap.size = W.heap.size + 1 := by simp
  obtain ⟨x0, x1, x2⟩ := cells3f hx
  have HS := hide hs
  by_cases h0 : set = 0
  · have HW := hide (show wordF set 16 = [45] by rw [wordF, if_pos h0])
    rw [HW.out]
    subst h0
    clear HW HS hs
    go_enter Tryd.func55, Tryd.ntmps55
    go_wp2
    go_ret
    exact ⟨rfl, hb0⟩
  have e0 : ((set : Int) == 0) = false := by simp; omega
  by_cases hf : set = 2 ^ 16 - 1
  · have HW := hide (show wordF set 16 = [42] by rw [wordF, if_neg h0, if_pos hf])
    rw [HW.out]
    have hf' : set = 65536 - 1 := hf
    subst hf'
    clear HW HS hs hf h0 e0
    go_enter Tryd.func55, Tryd.ntmps55
    go_wp2_with fail
    have HB := hide hb0
    generalize W.alloc (.cells #[.int .u16 _, .int .i64 4, .int .i64 first] 90) = w1 at *
    clear hx hb0 hsz
    go_quiet (fail)
    go_wp2
    go_ret
    exact ⟨rfl, HB.out.trans ((below_drewN w1 _).mono HB.out.size)⟩
  have e1 : ((set : Int) == IntKind.u16.wrap (IntKind.u16.wrap 65536 - 1)) = false := by
    rw [show IntKind.u16.wrap (IntKind.u16.wrap 65536 - 1) = (65536 - 1 : Int) by decide]
    simp; omega
  have e2 : ((set : Int) == 65535) = false := by simp; omega
  have e3 : ((set : Int) == IntKind.u16.wrap (65536 - 1)) = false := by
    rw [show IntKind.u16.wrap (65536 - 1) = (65535 : Int) by decide]; simp; omega
  have HW := hide (show wordF set 16 = joinF [44] ((rowsF set.testBit 16 0).map rowT) by rw [wordF, if_neg h0, if_neg hf])
  rw [HW.out]
  have HBIT := hide (fun k => bit_u16 set k (show set < 65536 by omega))
  have HMEM := hide (rows_mem set.testBit 16 0)
  have HNE := hide (rows_ne (most := 16) hs h0)
  have HLEN := hide (rows_len set.testBit 16 0)
  have HSTG := hide (stop_ge set.testBit 16)
  have HSTL := hide (stop_le set.testBit 16)
  have HSTY := hide (fun n (h : n < 16 ∧ set.testBit n = true) => stop_yes h)
  have HSTN := hide (fun n (h : ¬ (n < 16 ∧ set.testBit n = true)) => stop_no h)
  have HROW := hide (fun n (h : n < 16) => rows_step (S := set.testBit) h)
  have HRD := hide (fun n (h : ¬ n < 16) => rows_done (S := set.testBit) h)
  clear hs hf h0 HS
  obtain ⟨S, hS⟩ : ∃ S : Nat → Bool, set.testBit = S := ⟨_, rfl⟩
  have HBS := hide (fun k => show (Go.bits .and .u16 ((set : Int) / 2 ^ k) 1 == 1) = S k from by rw [HBIT.out, hS])
  rw [hS] at HMEM HNE HLEN HSTG HSTL HSTY HSTN HROW HRD HW
  rw [hS]
  clear HBIT hS HW
  go_enter Tryd.func55, Tryd.ntmps55
  go_wp2_with fail
  have HX := hide hx
  have HB := hide hb0
  have HSZ := hide hsz
  generalize W.alloc (.cells #[.int .u16 (set : Int), .int .i64 4, .int .i64 first] 90) = w1 at *
  clear hx hb0 hsz
  go_quiet (fail)
  go_wp2_with fail
  have HB1 := hide (HB.out.trans ((below_drewN w1 nq).mono HB.out.size))
  have hsz1 : (w1.drewN nq).heap.size = W.heap.size + 1 := HSZ.out
  have HX1 := hide (show (w1.drewN nq).heap[W.heap.size]? = some (.cells #[.int .u16 (set : Int), .int .i64 4, .int .i64 first] 90) from HX.out)
  generalize w1.drewN nq = w2 at *
  have HSZ1 := hide hsz1
  clear HX HB HSZ x0 x1 x2 hsz1
  go_loopw [4, 5] (fun v i wr => ∃ (n : Nat) (os : List (Nat × Nat)), n ≤ 16 + 1 ∧ i = .int .i64 (n : Int) ∧ Hid (os ++ rowsF S 16 n = rowsF S 16 0) ∧ os.length ≤ n ∧ Hid (wr.ownsRow (W.heap.size + 1) 9 1 v os.length ((os.map rowT).map strV)) ∧ Hid (Below (W.heap.size + 1) w2 wr)) (fun _ i _ => 16 + 1 - (intOf i).toNat)
  case atStart => exact ⟨0, [], by omega, rfl, hide rfl, Nat.le_refl _, hide (World.ownsRow_nil _ _ _ _), hide (Below.refl _ _)⟩
  case round =>
    obtain ⟨n, os, hn, rfl, HR, hol, HO, HBW⟩ := hrel
    have hx3 := (HBW.out.block W.heap.size (Nat.lt_succ_self _)).trans HX1.out
    have hwsz := HBW.out.size
    have hwz : W.heap.size + 1 ≤ wr.heap.size := by have := HSZ1.out; omega
    by_cases hlt : n < 16
    case pos =>
      have hltI : (n : Int) < 16 := by omega
      obtain ⟨x0, x1, x2⟩ := cells3f hx3
      have HROWn := hide (HROW.out n hlt)
      have hge := HSTG.out n
      have hle := HSTL.out n (Nat.le_of_lt hlt)
      obtain ⟨E, hE⟩ : ∃ E, stopAt S 16 n = E := ⟨_, rfl⟩
      rw [hE] at HROWn hge hle
      have HE := hide hE
      clear hE hx3 HROW HSTL
      go_wp2_with fail
      go_loopw [5] (fun i wi => ∃ k : Nat, n ≤ k ∧ k ≤ E ∧ i = .int .i64 (k : Int) ∧ Hid (stopAt S 16 k = E) ∧ wi = wr) (fun i _ => 16 - (intOf i).toNat)
      case atStart => exact ⟨n, Nat.le_refl _, hge, rfl, HE, rfl⟩
      case round =>
        obtain ⟨k, hk1, hk2, rfl, HK, rfl⟩ := hrel
        have HBk := hide (HBS.out k)
        by_cases hin : k < 16 ∧ S k = true
        case pos =>
          have hkI : (k : Int) < 16 := by omega
          have hb : (Go.bits .and .u16 ((set : Int) / 2 ^ k) 1 == 1) = true := by rw [HBk.out]; exact hin.2
          have hst := HSTY.out k hin
          have hg := HSTG.out (k + 1)
          have hk3 : k + 1 ≤ E := by rw [← HK.out, hst]; exact hg
          have HK2 := hide (show stopAt S 16 (k + 1) = E by rw [← hst]; exact HK.out)
          clear hst hg HK HBk
          go_wp2_with fail
          go_roundw
          case rel => exact ⟨k + 1, by omega, by omega, by go_num, HK2, trivial⟩
          case measure => simp [intOf]; omega
        case neg =>
          have hst : k = E := by rw [← HK.out]; exact (HSTN.out k hin).symm
          have hcase : decide ((k : Int) < 16) = false ∨ ((k : Int) < 16 ∧ (Go.bits .and .u16 ((set : Int) / 2 ^ k) 1 == 1) = false) := by
            by_cases h : k < 16
            · right
              refine ⟨by omega, ?_⟩
              rw [HBk.out]
              cases e : S k with
              | false => rfl
              | true => exact absurd ⟨h, e⟩ hin
            · left; simp; omega
          obtain ⟨d, hd⟩ : ∃ d, E = n + d := ⟨E - n, by omega⟩
          clear HK HBk hin
          subst hst
          have HKN := hide hd
          clear hd
          rcases d with _ | _ | d
          · have q0 : (k : Int) - (n : Int) = 0 := by have := HKN.out; omega
            have HR2 := hide (show os ++ rowsF S 16 (k + 1) = rowsF S 16 0 by have h := HR.out; rw [HROWn.out, if_neg (by have := HKN.out; omega)] at h; exact h)
            clear HR HROWn HE
            rcases hcase with g1 | ⟨g1, g2⟩
            all_goals
              go_wp2_with fail
              go_roundw
              case rel => exact ⟨k + 1, os, by omega, by go_num, HR2, by omega, HO, HBW⟩
              case measure => simp [intOf]; omega
          · have q0 : ((k : Int) - (n : Int) == 0) = false := by have := HKN.out; simp; omega
            have q1 : (k : Int) - (n : Int) = 1 := by have := HKN.out; omega
            have HR2 := hide (show (os ++ [(n, n)]) ++ rowsF S 16 (k + 1) = rowsF S 16 0 by have h := HR.out; have hk := HKN.out; rw [HROWn.out, if_pos (by omega), show k - 1 = n by omega] at h; simpa using h)
            have HT := hide (show rowT (n, n) = Lib.decDigits n by simp [rowT])
            have HI := hide (fun w => (Tryd.strconv_Itoa_small n (by omega) w).mono (fun e w' h => show e = .returned (.string ⟨(Lib.decDigits n).toArray⟩) ∧ w = w' from ⟨h.1, h.2.symm⟩))
            obtain ⟨X, hXX⟩ : ∃ X, Lib.decDigits n = X := ⟨_, rfl⟩
            rw [hXX] at HT HI
            have hk17 : k + 1 ≤ 16 + 1 := by omega
            clear hXX HR HROWn HE
            have HLIT := hide (show Reads (wr.alloc (.cells #[.string ⟨(X).toArray⟩] 9)) (wr.heap.size + 1) 1 (some ⟨wr.heap.size, 0, none⟩) 1 [.string ⟨(X).toArray⟩] from
              ⟨rfl, fun _ => ⟨_, rfl, Nat.lt_succ_self _, fun j u hu => by
                rw [addr_add, Nat.zero_add, cell_of_row _ _ _ _ _ _ (heap_alloc_new wr _)]
                simpa using hu⟩⟩)
            have HO4 := hide (HO.out.alloc (.cells #[.string ⟨(X).toArray⟩] 9))
            have HB4 := hide (HBW.out.alloc hwz (.cells #[.string ⟨(X).toArray⟩] 9))
            clear HO HBW
            rcases hcase with g1 | ⟨g1, g2⟩
            all_goals
              go_wp2_with (first | (go_at_call 41; refine (HI.out _).mono ?_; rintro e w3 ⟨rfl, rfl⟩) | (at_builtin; refine wpList_append_any _ rfl (.tmp 55) (.tmp 58) 82 rfl (W.heap.size + 1) 9 i0 _ 1 16 Tryd.underlying82 hi0 hz0 hz1 hz2 rfl (by omega) _ os.length ((os.map rowT).map strV) rfl HO4.out (wr.heap.size + 1) (some ⟨wr.heap.size, 0, none⟩) 1 1 [.string ⟨(X).toArray⟩] rfl HLIT.out (by intro u hu; simp at hu; subst hu; rfl) (by simp only [maxLen]; omega) (by omega) (by simp; omega) ?_; intro v5 w5 hown5 hg5 hat5; have HO5 := hide hown5; have HB5 := hide (HB4.out.grown hg5 (by simp; omega) (fun q hq => (HO4.out.lt q hq).1)); clear hown5 hg5 hat5)
              )
              go_roundw
              case rel => exact ⟨k + 1, os ++ [(n, n)], hk17, by go_num, HR2, by simp; omega, hide (by simpa [HT.out, strV] using HO5.out), HB5⟩
              case measure => simp [intOf]; omega
          · have q0 : ((k : Int) - (n : Int) == 0) = false := by have := HKN.out; simp; omega
            have q1 : ((k : Int) - (n : Int) == 1) = false := by have := HKN.out; simp; omega
            have HR2 := hide (show (os ++ [(n, k - 1)]) ++ rowsF S 16 (k + 1) = rowsF S 16 0 by have h := HR.out; have hk := HKN.out; rw [HROWn.out, if_pos (by omega)] at h; simpa using h)
            have HT := hide (show rowT (n, k - 1) = Lib.decDigits n ++ 45 :: Lib.decDigits (k - 1) by have := HKN.out; rw [rowT, if_pos (by show n < k - 1; omega)])
            have HI := hide (fun w => (Tryd.strconv_Itoa_small n (by omega) w).mono (fun e w' h => show e = .returned (.string ⟨(Lib.decDigits n).toArray⟩) ∧ w = w' from ⟨h.1, h.2.symm⟩))
            have HJ := hide (fun w => show Calls Tryd.prog 41 #[.int .i64 ((k : Int) - 1)] w (fun e w' => e = .returned (.string ⟨(Lib.decDigits (k - 1)).toArray⟩) ∧ w = w') from by
              rw [show ((k : Int) - 1) = ((k - 1 : Nat) : Int) by have := HKN.out; omega]
              exact (Tryd.strconv_Itoa_small (k - 1) (by omega) w).mono (fun e w' h => ⟨h.1, h.2.symm⟩))
            have l1 := dec_len2 (show n < 100 by omega)
            have l2 := dec_len2 (show k - 1 < 100 by omega)
            obtain ⟨X, hXX⟩ : ∃ X, Lib.decDigits n = X := ⟨_, rfl⟩
            obtain ⟨Y, hYY⟩ : ∃ Y, Lib.decDigits (k - 1) = Y := ⟨_, rfl⟩
            rw [hXX] at HT HI l1
            rw [hYY] at HT HJ l2
            have s1 : ∀ w', (Op.stringOp .add ⟨X.toArray⟩ ⟨#[45]⟩).run Tryd.prog w' = .ok (.string ⟨(X ++ [45]).toArray⟩) w' := add_run X [45] (by omega) (by simp)
            have s2 : ∀ w', (Op.stringOp .add ⟨(X ++ [45]).toArray⟩ ⟨Y.toArray⟩).run Tryd.prog w' = .ok (.string ⟨(X ++ 45 :: Y).toArray⟩) w' := fun w' => by
              have := add_run (X ++ [45]) Y (by simp; omega) (by omega) w'
              simpa using this
            have hk17 : k + 1 ≤ 16 + 1 := by omega
            have hki : (-9223372036854775808 : Int) ≤ (k : Int) - 1 ∧ (k : Int) - 1 ≤ 9223372036854775807 := by omega
            clear hXX hYY HR HROWn HE l1 l2
            have HLIT := hide (show Reads (wr.alloc (.cells #[.string ⟨(X ++ 45 :: Y).toArray⟩] 9)) (wr.heap.size + 1) 1 (some ⟨wr.heap.size, 0, none⟩) 1 [.string ⟨(X ++ 45 :: Y).toArray⟩] from
              ⟨rfl, fun _ => ⟨_, rfl, Nat.lt_succ_self _, fun j u hu => by
                rw [addr_add, Nat.zero_add, cell_of_row _ _ _ _ _ _ (heap_alloc_new wr _)]
                simpa using hu⟩⟩)
            have HO4 := hide (HO.out.alloc (.cells #[.string ⟨(X ++ 45 :: Y).toArray⟩] 9))
            have HB4 := hide (HBW.out.alloc hwz (.cells #[.string ⟨(X ++ 45 :: Y).toArray⟩] 9))
            clear HO HBW
            rcases hcase with g1 | ⟨g1, g2⟩
            all_goals
              go_wp2_with (first | (go_at_call_of 41 (Value.int .i64 (n : Int)); refine (HI.out _).mono ?_; rintro e w3 ⟨rfl, rfl⟩) | (go_at_call 41; refine (HJ.out _).mono ?_; rintro e w3 ⟨rfl, rfl⟩) | (at_builtin; refine wpList_append_any _ rfl (.tmp 41) (.tmp 49) 82 rfl (W.heap.size + 1) 9 i0 _ 1 16 Tryd.underlying82 hi0 hz0 hz1 hz2 rfl (by omega) _ os.length ((os.map rowT).map strV) rfl HO4.out (wr.heap.size + 1) (some ⟨wr.heap.size, 0, none⟩) 1 1 [.string ⟨(X ++ 45 :: Y).toArray⟩] rfl HLIT.out (by intro u hu; simp at hu; subst hu; rfl) (by simp only [maxLen]; omega) (by omega) (by simp; omega) ?_; intro v5 w5 hown5 hg5 hat5; have HO5 := hide hown5; have HB5 := hide (HB4.out.grown hg5 (by simp; omega) (fun q hq => (HO4.out.lt q hq).1)); clear hown5 hg5 hat5)
              )
              go_roundw
              case rel => exact ⟨k + 1, os ++ [(n, k - 1)], hk17, by go_num, HR2, by simp; omega, hide (by simpa [HT.out, strV] using HO5.out), HB5⟩
              case measure => simp [intOf]; omega
    case neg =>
      have hos : os = rowsF S 16 0 := by have h := HR.out; rw [HRD.out n hlt, List.append_nil] at h; exact h
      have hd1 : decide ((n : Int) < 16) = false := by simp; omega
      have HLJ := hide (show (joinF [44] (os.map rowT)).length ≤ 1000 from by
        have h1 := join_len [44] 5 (os.map rowT) (fun x hx => by
          obtain ⟨r, hr, rfl⟩ := List.mem_map.1 hx
          have := HMEM.out r (by rw [← hos]; exact hr)
          exact rowT_len (by omega) (by omega))
        simp only [List.length_map, List.length_cons, List.length_nil] at h1
        omega)
      have hpos : 0 < os.length := List.length_pos_iff.2 (by rw [hos]; exact HNE.out)
      obtain ⟨g, cap, hv, hgw⟩ := HO.out.form hpos
      subst hv
      have hcap : os.length ≤ cap := by
        rcases HO.out.2 with ⟨h, _⟩ | ⟨g', cap', cur, h, _, _, hnc, _⟩
        · cases h
        · cases h; exact hnc
      have HST := hide (show StrsAt wr (W.heap.size + 1) g os.length cap (os.map rowT) from ⟨HO.out, by simp⟩)
      have HJ := hide (fun w (h : StrsAt w (W.heap.size + 1) g os.length cap (os.map rowT)) => join_walk (os.map rowT) 44 (W.heap.size + 1) g os.length cap w h (by have := HLJ.out; omega) (by omega) hcap)
      have HBF := hide (HB1.out.trans (HBW.out.mono (by have := HSZ1.out; omega)))
      have HOS := hide hos
      clear HO HR hlt hos hgw hcap hx3 HBW
      go_wp2_with fail
      refine (HJ.out _ HST.out).mono ?_
      rintro e w9 ⟨rfl, hb⟩
      have HBZ := hide (HBF.out.trans (hb.mono HBF.out.size))
      clear hb
      go_wp2
      go_ret
      exact ⟨by rw [← HOS.out]; rfl, HBZ.out⟩
theorem word8_walk (set : Nat) (first : Int) (W : World) (hs : set < 256) :
    Calls Tryd.prog 55 #[.agg #[.int .u16 (set : Int), .int .i64 3, .int .i64 first]] W fun e W' => e = .returned (.string ⟨(wordF set 8).toArray⟩) ∧ Below W.heap.size W W' := by
  obtain ⟨i0, hi0, hz0, hz1, hz2⟩ := info_parts Tryd.infoString
  have hb0 := (Below.refl W.heap.size W).alloc (Nat.le_refl _) (.cells #[.int .u16 (set : Int), .int .i64 3, .int .i64 first] 90)
  have hx := heap_alloc_new W (.cells #[.int .u16 (set : Int), .int .i64 3, .int .i64 first] 90)
  have hsz : (W.alloc (.cells #[.int .u16 (set : Int), .int .i64 3, .int .i64 first] 90)).heap.size = W.heap.size + 1 := by simp
  obtain ⟨x0, x1, x2⟩ := cells3f hx
  have HS := hide hs
  by_cases h0 : set = 0
  · have HW := hide (show wordF set 8 = [45] by rw [wordF, if_pos h0])
    rw [HW.out]
    subst h0
    clear HW HS hs
    go_enter Tryd.func55, Tryd.ntmps55
    go_wp2
    go_ret
    exact ⟨rfl, hb0⟩
  have e0 : ((set : Int) == 0) = false := by simp; omega
  by_cases hf : set = 2 ^ 8 - 1
  · have HW := hide (show wordF set 8 = [42] by rw [wordF, if_neg h0, if_pos hf])
    rw [HW.out]
    have hf' : set = 256 - 1 := hf
    subst hf'
    clear HW HS hs hf h0 e0
    go_enter Tryd.func55, Tryd.ntmps55
    go_wp2_with fail
    have HB := hide hb0
    generalize W.alloc (.cells #[.int .u16 _, .int .i64 3, .int .i64 first] 90) = w1 at *
    clear hx hb0 hsz
    go_quiet (fail)
    go_wp2
    go_ret
    exact ⟨rfl, HB.out.trans ((below_drewN w1 _).mono HB.out.size)⟩
  have e1 : ((set : Int) == IntKind.u16.wrap (IntKind.u16.wrap 256 - 1)) = false := by
    rw [show IntKind.u16.wrap (IntKind.u16.wrap 256 - 1) = (256 - 1 : Int) by decide]
    simp; omega
  have e2 : ((set : Int) == 255) = false := by simp; omega
  have e3 : ((set : Int) == IntKind.u16.wrap (256 - 1)) = false := by
    rw [show IntKind.u16.wrap (256 - 1) = (255 : Int) by decide]; simp; omega
  have HW := hide (show wordF set 8 = joinF [44] ((rowsF set.testBit 8 0).map rowT) by rw [wordF, if_neg h0, if_neg hf])
  rw [HW.out]
  have HBIT := hide (fun k => bit_u16 set k (show set < 65536 by omega))
  have HMEM := hide (rows_mem set.testBit 8 0)
  have HNE := hide (rows_ne (most := 8) hs h0)
  have HLEN := hide (rows_len set.testBit 8 0)
  have HSTG := hide (stop_ge set.testBit 8)
  have HSTL := hide (stop_le set.testBit 8)
  have HSTY := hide (fun n (h : n < 8 ∧ set.testBit n = true) => stop_yes h)
  have HSTN := hide (fun n (h : ¬ (n < 8 ∧ set.testBit n = true)) => stop_no h)
  have HROW := hide (fun n (h : n < 8) => rows_step (S := set.testBit) h)
  have HRD := hide (fun n (h : ¬ n < 8) => rows_done (S := set.testBit) h)
  clear hs hf h0 HS
  obtain ⟨S, hS⟩ : ∃ S : Nat → Bool, set.testBit = S := ⟨_, rfl⟩
  have HBS := hide (fun k => show (Go.bits .and .u16 ((set : Int) / 2 ^ k) 1 == 1) = S k from by rw [HBIT.out, hS])
  rw [hS] at HMEM HNE HLEN HSTG HSTL HSTY HSTN HROW HRD HW
  rw [hS]
  clear HBIT hS HW
  go_enter Tryd.func55, Tryd.ntmps55
  go_wp2_with fail
  have HX := hide hx
  have HB := hide hb0
  have HSZ := hide hsz
  generalize W.alloc (.cells #[.int .u16 (set : Int), .int .i64 3, .int .i64 first] 90) = w1 at *
  clear hx hb0 hsz
  go_quiet (fail)
  go_wp2_with fail
  have HB1 := hide (HB.out.trans ((below_drewN w1 nq).mono HB.out.size))
  have hsz1 : (w1.drewN nq).heap.size = W.heap.size + 1 := HSZ.out
  have HX1 := hide (show (w1.drewN nq).heap[W.heap.size]? = some (.cells #[.int .u16 (set : Int), .int .i64 3, .int .i64 first] 90) from HX.out)
  generalize w1.drewN nq = w2 at *
  have HSZ1 := hide hsz1
  clear HX HB HSZ x0 x1 x2 hsz1
  go_loopw [4, 5] (fun v i wr => ∃ (n : Nat) (os : List (Nat × Nat)), n ≤ 8 + 1 ∧ i = .int .i64 (n : Int) ∧ Hid (os ++ rowsF S 8 n = rowsF S 8 0) ∧ os.length ≤ n ∧ Hid (wr.ownsRow (W.heap.size + 1) 9 1 v os.length ((os.map rowT).map strV)) ∧ Hid (Below (W.heap.size + 1) w2 wr)) (fun _ i _ => 8 + 1 - (intOf i).toNat)
  case atStart => exact ⟨0, [], by omega, rfl, hide rfl, Nat.le_refl _, hide (World.ownsRow_nil _ _ _ _), hide (Below.refl _ _)⟩
  case round =>
    obtain ⟨n, os, hn, rfl, HR, hol, HO, HBW⟩ := hrel
    have hx3 := (HBW.out.block W.heap.size (Nat.lt_succ_self _)).trans HX1.out
    have hwsz := HBW.out.size
    have hwz : W.heap.size + 1 ≤ wr.heap.size := by have := HSZ1.out; omega
    by_cases hlt : n < 8
    case pos =>
      have hltI : (n : Int) < 8 := by omega
      obtain ⟨x0, x1, x2⟩ := cells3f hx3
      have HROWn := hide (HROW.out n hlt)
      have hge := HSTG.out n
      have hle := HSTL.out n (Nat.le_of_lt hlt)
      obtain ⟨E, hE⟩ : ∃ E, stopAt S 8 n = E := ⟨_, rfl⟩
      rw [hE] at HROWn hge hle
      have HE := hide hE
      clear hE hx3 HROW HSTL
      go_wp2_with fail
      go_loopw [5] (fun i wi => ∃ k : Nat, n ≤ k ∧ k ≤ E ∧ i = .int .i64 (k : Int) ∧ Hid (stopAt S 8 k = E) ∧ wi = wr) (fun i _ => 8 - (intOf i).toNat)
      case atStart => exact ⟨n, Nat.le_refl _, hge, rfl, HE, rfl⟩
      case round =>
        obtain ⟨k, hk1, hk2, rfl, HK, rfl⟩ := hrel
        have HBk := hide (HBS.out k)
        by_cases hin : k < 8 ∧ S k = true
        case pos =>
          have hkI : (k : Int) < 8 := by omega
          have hb : (Go.bits .and .u16 ((set : Int) / 2 ^ k) 1 == 1) = true := by rw [HBk.out]; exact hin.2
          have hst := HSTY.out k hin
          have hg := HSTG.out (k + 1)
          have hk3 : k + 1 ≤ E := by rw [← HK.out, hst]; exact hg
          have HK2 := hide (show stopAt S 8 (k + 1) = E by rw [← hst]; exact HK.out)
          clear hst hg HK HBk
          go_wp2_with fail
          go_roundw
          case rel => exact ⟨k + 1, by omega, by omega, by go_num, HK2, trivial⟩
          case measure => simp [intOf]; omega
        case neg =>
          have hst : k = E := by rw [← HK.out]; exact (HSTN.out k hin).symm
          have hcase : decide ((k : Int) < 8) = false ∨ ((k : Int) < 8 ∧ (Go.bits .and .u16 ((set : Int) / 2 ^ k) 1 == 1) = false) := by
            by_cases h : k < 8
            · right
              refine ⟨by omega, ?_⟩
              rw [HBk.out]
              cases e : S k with
              | false => rfl
              | true => exact absurd ⟨h, e⟩ hin
            · left; simp; omega
          obtain ⟨d, hd⟩ : ∃ d, E = n + d := ⟨E - n, by omega⟩
          clear HK HBk hin
          subst hst
          have HKN := hide hd
          clear hd
          rcases d with _ | _ | d
          · have q0 : (k : Int) - (n : Int) = 0 := by have := HKN.out; omega
            have HR2 := hide (show os ++ rowsF S 8 (k + 1) = rowsF S 8 0 by have h := HR.out; rw [HROWn.out, if_neg (by have := HKN.out; omega)] at h; exact h)
            clear HR HROWn HE
            rcases hcase with g1 | ⟨g1, g2⟩
            all_goals
              go_wp2_with fail
              go_roundw
              case rel => exact ⟨k + 1, os, by omega, by go_num, HR2, by omega, HO, HBW⟩
              case measure => simp [intOf]; omega
          · have q0 : ((k : Int) - (n : Int) == 0) = false := by have := HKN.out; simp; omega
            have q1 : (k : Int) - (n : Int) = 1 := by have := HKN.out; omega
            have HR2 := hide (show (os ++ [(n, n)]) ++ rowsF S 8 (k + 1) = rowsF S 8 0 by have h := HR.out; have hk := HKN.out; rw [HROWn.out, if_pos (by omega), show k - 1 = n by omega] at h; simpa using h)
            have HT := hide (show rowT (n, n) = Lib.decDigits n by simp [rowT])
            have HI := hide (fun w => (Tryd.strconv_Itoa_small n (by omega) w).mono (fun e w' h => show e = .returned (.string ⟨(Lib.decDigits n).toArray⟩) ∧ w = w' from ⟨h.1, h.2.symm⟩))
            obtain ⟨X, hXX⟩ : ∃ X, Lib.decDigits n = X := ⟨_, rfl⟩
            rw [hXX] at HT HI
            have hk17 : k + 1 ≤ 8 + 1 := by omega
            clear hXX HR HROWn HE
            have HLIT := hide (show Reads (wr.alloc (.cells #[.string ⟨(X).toArray⟩] 9)) (wr.heap.size + 1) 1 (some ⟨wr.heap.size, 0, none⟩) 1 [.string ⟨(X).toArray⟩] from
              ⟨rfl, fun _ => ⟨_, rfl, Nat.lt_succ_self _, fun j u hu => by
                rw [addr_add, Nat.zero_add, cell_of_row _ _ _ _ _ _ (heap_alloc_new wr _)]
                simpa using hu⟩⟩)
            have HO4 := hide (HO.out.alloc (.cells #[.string ⟨(X).toArray⟩] 9))
            have HB4 := hide (HBW.out.alloc hwz (.cells #[.string ⟨(X).toArray⟩] 9))
            clear HO HBW
            rcases hcase with g1 | ⟨g1, g2⟩
            all_goals
              go_wp2_with (first | (go_at_call 41; refine (HI.out _).mono ?_; rintro e w3 ⟨rfl, rfl⟩) | (at_builtin; refine wpList_append_any _ rfl (.tmp 55) (.tmp 58) 82 rfl (W.heap.size + 1) 9 i0 _ 1 16 Tryd.underlying82 hi0 hz0 hz1 hz2 rfl (by omega) _ os.length ((os.map rowT).map strV) rfl HO4.out (wr.heap.size + 1) (some ⟨wr.heap.size, 0, none⟩) 1 1 [.string ⟨(X).toArray⟩] rfl HLIT.out (by intro u hu; simp at hu; subst hu; rfl) (by simp only [maxLen]; omega) (by omega) (by simp; omega) ?_; intro v5 w5 hown5 hg5 hat5; have HO5 := hide hown5; have HB5 := hide (HB4.out.grown hg5 (by simp; omega) (fun q hq => (HO4.out.lt q hq).1)); clear hown5 hg5 hat5)
              )
              go_roundw
              case rel => exact ⟨k + 1, os ++ [(n, n)], hk17, by go_num, HR2, by simp; omega, hide (by simpa [HT.out, strV] using HO5.out), HB5⟩
              case measure => simp [intOf]; omega
          · have q0 : ((k : Int) - (n : Int) == 0) = false := by have := HKN.out; simp; omega
            have q1 : ((k : Int) - (n : Int) == 1) = false := by have := HKN.out; simp; omega
            have HR2 := hide (show (os ++ [(n, k - 1)]) ++ rowsF S 8 (k + 1) = rowsF S 8 0 by have h := HR.out; have hk := HKN.out; rw [HROWn.out, if_pos (by omega)] at h; simpa using h)
            have HT := hide (show rowT (n, k - 1) = Lib.decDigits n ++ 45 :: Lib.decDigits (k - 1) by have := HKN.out; rw [rowT, if_pos (by show n < k - 1; omega)])
            have HI := hide (fun w => (Tryd.strconv_Itoa_small n (by omega) w).mono (fun e w' h => show e = .returned (.string ⟨(Lib.decDigits n).toArray⟩) ∧ w = w' from ⟨h.1, h.2.symm⟩))
            have HJ := hide (fun w => show Calls Tryd.prog 41 #[.int .i64 ((k : Int) - 1)] w (fun e w' => e = .returned (.string ⟨(Lib.decDigits (k - 1)).toArray⟩) ∧ w = w') from by
              rw [show ((k : Int) - 1) = ((k - 1 : Nat) : Int) by have := HKN.out; omega]
              exact (Tryd.strconv_Itoa_small (k - 1) (by omega) w).mono (fun e w' h => ⟨h.1, h.2.symm⟩))
            have l1 := dec_len2 (show n < 100 by omega)
            have l2 := dec_len2 (show k - 1 < 100 by omega)
            obtain ⟨X, hXX⟩ : ∃ X, Lib.decDigits n = X := ⟨_, rfl⟩
            obtain ⟨Y, hYY⟩ : ∃ Y, Lib.decDigits (k - 1) = Y := ⟨_, rfl⟩
            rw [hXX] at HT HI l1
            rw [hYY] at HT HJ l2
            have s1 : ∀ w', (Op.stringOp .add ⟨X.toArray⟩ ⟨#[45]⟩).run Tryd.prog w' = .ok (.string ⟨(X ++ [45]).toArray⟩) w' := add_run X [45] (by omega) (by simp)
            have s2 : ∀ w', (Op.stringOp .add ⟨(X ++ [45]).toArray⟩ ⟨Y.toArray⟩).run Tryd.prog w' = .ok (.string ⟨(X ++ 45 :: Y).toArray⟩) w' := fun w' => by
              have := add_run (X ++ [45]) Y (by simp; omega) (by omega) w'
              simpa using this
            have hk17 : k + 1 ≤ 8 + 1 := by omega
            have hki : (-9223372036854775808 : Int) ≤ (k : Int) - 1 ∧ (k : Int) - 1 ≤ 9223372036854775807 := by omega
            clear hXX hYY HR HROWn HE l1 l2
            have HLIT := hide (show Reads (wr.alloc (.cells #[.string ⟨(X ++ 45 :: Y).toArray⟩] 9)) (wr.heap.size + 1) 1 (some ⟨wr.heap.size, 0, none⟩) 1 [.string ⟨(X ++ 45 :: Y).toArray⟩] from
              ⟨rfl, fun _ => ⟨_, rfl, Nat.lt_succ_self _, fun j u hu => by
                rw [addr_add, Nat.zero_add, cell_of_row _ _ _ _ _ _ (heap_alloc_new wr _)]
                simpa using hu⟩⟩)
            have HO4 := hide (HO.out.alloc (.cells #[.string ⟨(X ++ 45 :: Y).toArray⟩] 9))
            have HB4 := hide (HBW.out.alloc hwz (.cells #[.string ⟨(X ++ 45 :: Y).toArray⟩] 9))
            clear HO HBW
            rcases hcase with g1 | ⟨g1, g2⟩
            all_goals
              go_wp2_with (first | (go_at_call_of 41 (Value.int .i64 (n : Int)); refine (HI.out _).mono ?_; rintro e w3 ⟨rfl, rfl⟩) | (go_at_call 41; refine (HJ.out _).mono ?_; rintro e w3 ⟨rfl, rfl⟩) | (at_builtin; refine wpList_append_any _ rfl (.tmp 41) (.tmp 49) 82 rfl (W.heap.size + 1) 9 i0 _ 1 16 Tryd.underlying82 hi0 hz0 hz1 hz2 rfl (by omega) _ os.length ((os.map rowT).map strV) rfl HO4.out (wr.heap.size + 1) (some ⟨wr.heap.size, 0, none⟩) 1 1 [.string ⟨(X ++ 45 :: Y).toArray⟩] rfl HLIT.out (by intro u hu; simp at hu; subst hu; rfl) (by simp only [maxLen]; omega) (by omega) (by simp; omega) ?_; intro v5 w5 hown5 hg5 hat5; have HO5 := hide hown5; have HB5 := hide (HB4.out.grown hg5 (by simp; omega) (fun q hq => (HO4.out.lt q hq).1)); clear hown5 hg5 hat5)
              )
              go_roundw
              case rel => exact ⟨k + 1, os ++ [(n, k - 1)], hk17, by go_num, HR2, by simp; omega, hide (by simpa [HT.out, strV] using HO5.out), HB5⟩
              case measure => simp [intOf]; omega
    case neg =>
      have hos : os = rowsF S 8 0 := by have h := HR.out; rw [HRD.out n hlt, List.append_nil] at h; exact h
      have hd1 : decide ((n : Int) < 8) = false := by simp; omega
      have HLJ := hide (show (joinF [44] (os.map rowT)).length ≤ 1000 from by
        have h1 := join_len [44] 5 (os.map rowT) (fun x hx => by
          obtain ⟨r, hr, rfl⟩ := List.mem_map.1 hx
          have := HMEM.out r (by rw [← hos]; exact hr)
          exact rowT_len (by omega) (by omega))
        simp only [List.length_map, List.length_cons, List.length_nil] at h1
        omega)
      have hpos : 0 < os.length := List.length_pos_iff.2 (by rw [hos]; exact HNE.out)
      obtain ⟨g, cap, hv, hgw⟩ := HO.out.form hpos
      subst hv
      have hcap : os.length ≤ cap := by
        rcases HO.out.2 with ⟨h, _⟩ | ⟨g', cap', cur, h, _, _, hnc, _⟩
        · cases h
        · cases h; exact hnc
      have HST := hide (show StrsAt wr (W.heap.size + 1) g os.length cap (os.map rowT) from ⟨HO.out, by simp⟩)
      have HJ := hide (fun w (h : StrsAt w (W.heap.size + 1) g os.length cap (os.map rowT)) => join_walk (os.map rowT) 44 (W.heap.size + 1) g os.length cap w h (by have := HLJ.out; omega) (by omega) hcap)
      have HBF := hide (HB1.out.trans (HBW.out.mono (by have := HSZ1.out; omega)))
      have HOS := hide hos
      clear HO HR hlt hos hgw hcap hx3 HBW
      go_wp2_with fail
      refine (HJ.out _ HST.out).mono ?_
      rintro e w9 ⟨rfl, hb⟩
      have HBZ := hide (HBF.out.trans (hb.mono HBF.out.size))
      clear hb
      go_wp2
      go_ret
      exact ⟨by rw [← HOS.out]; rfl, HBZ.out⟩
end Go.Proofs.YtohbafigjpoijaaDoor
