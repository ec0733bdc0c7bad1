/- wireref.rows, MatchText. -/
import Derived.Test.YtohbafigjpoijaaDoorMt8
set_option linter.unusedVariables false
set_option linter.unusedSimpArgs false
set_option maxRecDepth 100000
set_option maxHeartbeats 8000000
namespace Go.Proofs.YtohbafigjpoijaaDoor
open Go.RowKit

theorem all_snoc (S : Nat → Bool) (n : Nat) : (List.range (n + 1)).all S = ((List.range n).all S && S n) := by
  rw [List.range_succ, List.all_append]; simp
theorem rows_walk (set most : Nat) (W : World) (hs : set < 2 ^ most) (h0 : 0 < most) (hm : most ≤ 16) :
    Calls Tryd.prog 57 #[.int .i64 (set : Int), .int .i64 (most : Int)] W fun e W' => e = .returned (.string ⟨(wordF set most).toArray⟩) ∧ Below W.heap.size W W' := by
  obtain ⟨i0, hi0, hz0, hz1, hz2⟩ := info_parts Tryd.infoString
  have hs16 : set < 65536 := Nat.lt_of_lt_of_le hs (Nat.pow_le_pow_right (by decide) hm)
  have HW := hide (wordF_ref hs h0)
  have HN := hide (fun w n (h : n < 16) => has_walk w set n hs16 h _ rfl)
  have HST := hide (fun n => ref_step (S := set.testBit) (most := most) (n := n))
  have HDN := hide (fun n => ref_done (S := set.testBit) (most := most) (n := n))
  have HSY := hide (fun n => stop_yes (S := set.testBit) (most := most) (n := n))
  have HSN := hide (fun n => stop_no (S := set.testBit) (most := most) (n := n))
  have HAL := hide (all_snoc set.testBit)
  have HME := hide (ref_mem set.testBit most)
  obtain ⟨S, hS⟩ : ∃ S : Nat → Bool, set.testBit = S := ⟨_, rfl⟩
  rw [hS] at HW HST HDN HSY HSN HAL HME
  rw [hS] at HN
  have HH := HN
  clear HN hS hs hs16
  obtain ⟨V, hV⟩ : ∃ V, wordF set most = V := ⟨_, rfl⟩
  rw [hV] at HW ⊢
  clear hV
  go_enter Tryd.func57, Tryd.ntmps57
  go_wp2_with fail
  go_loopw [5, 6, 7] (fun v wh i wr => ∃ (n : Nat) (os : List (Nat × Nat)), n ≤ most ∧ i = .int .i64 (n : Int) ∧ wh = .bool ((List.range n).all S) ∧ Hid (os ++ refRows S most n = refRows S most 0) ∧ os.length ≤ n ∧ Hid (wr.ownsRow W.heap.size 9 1 v os.length ((os.map rowT).map strV)) ∧ Hid (Below W.heap.size W wr)) (fun _ _ i _ => most - (intOf i).toNat)
  case atStart => exact ⟨0, [], by omega, rfl, rfl, hide rfl, Nat.le_refl _, hide (World.ownsRow_nil _ _ _ _), hide (Below.refl _ _)⟩
  case round =>
    obtain ⟨n, os, hn, rfl, rfl, HR, hol, HO, HBW⟩ := hrel
    by_cases hlt : n < most
    case pos =>
      have HSTn := hide (HST.out n hlt)
      have HALn := hide (HAL.out n)
      cases hSn : S n with
      | false =>
        have HR2 := hide (show os ++ refRows S most (n + 1) = refRows S most 0 by have h := HR.out; rw [HSTn.out, if_neg (by rw [hSn]; simp)] at h; simpa using h)
        have HA2 := hide (show (List.range (n + 1)).all S = false by rw [HALn.out, hSn, Bool.and_false])
        go_wp2_with fail
        refine (HH.out _ n (by omega)).mono ?_
        rintro e w3 ⟨rfl, rfl⟩
        rw [hSn]
        clear HSTn HALn hSn HR
        go_wp2_with fail
        go_roundw
        case rel => exact ⟨n + 1, os, by omega, by go_num, by rw [HA2.out], HR2, by omega, HO, HBW⟩
        case measure => simp [intOf]; omega
      | true =>
        have HA2 := hide (show (List.range (n + 1)).all S = (List.range n).all S by rw [HALn.out, hSn, Bool.and_true])
        go_wp2_with fail
        refine (HH.out _ n (by omega)).mono ?_
        rintro e w3 ⟨rfl, rfl⟩
        rw [hSn]
        clear HALn
        by_cases hp : 0 < n ∧ S (n - 1) = true
        case pos =>
          have HR2 := hide (show os ++ refRows S most (n + 1) = refRows S most 0 by have h := HR.out; rw [HSTn.out, if_neg (fun hh => hh.2 hp)] at h; simpa using h)
          have hp1 := hp.1
          have HP := hide (fun w => show Calls Tryd.prog 54 #[.int .i64 (set : Int), .int .i64 ((n : Int) - 1)] w (fun e W' => e = .returned (.bool true) ∧ w = W') from by
            have h := HH.out w (n - 1) (by omega)
            rw [hp.2, show ((n - 1 : Nat) : Int) = (n : Int) - 1 by omega] at h
            exact h)
          clear HSTn hSn HR hp
          go_wp2_with fail
          refine (HP.out _).mono ?_
          rintro e w4 ⟨rfl, rfl⟩
          clear HP
          go_wp2_with fail
          go_roundw
          case rel => exact ⟨n + 1, os, by omega, by go_num, by rw [HA2.out], HR2, by omega, HO, HBW⟩
          case measure => simp [intOf]; omega
        case neg =>
          have HR2 := hide (fun E (hE : stopAt S most n = E + 1) => show (os ++ [(n, E)]) ++ refRows S most (n + 1) = refRows S most 0 from by have h := HR.out; rw [HSTn.out, if_pos ⟨hSn, hp⟩, hE] at h; simpa using h)
          have hcase : n = 0 ∨ (0 < n ∧ Hid (∀ w, Calls Tryd.prog 54 #[.int .i64 (set : Int), .int .i64 ((n : Int) - 1)] w (fun e W' => e = .returned (.bool false) ∧ w = W'))) := by
            rcases Nat.eq_zero_or_pos n with h | h
            · exact .inl h
            · right
              refine ⟨h, fun w => ?_⟩
              have h2 := HH.out w (n - 1) (by omega)
              have hf : S (n - 1) = false := by
                cases e : S (n - 1) with
                | false => rfl
                | true => exact absurd ⟨h, e⟩ hp
              rw [hf, show ((n - 1 : Nat) : Int) = (n : Int) - 1 by omega] at h2
              exact h2
          have HSE := hide (HSY.out n ⟨hlt, hSn⟩)
          obtain ⟨E, hE⟩ : ∃ E, stopAt S most n = E := ⟨_, rfl⟩
          rw [hE] at HSE
          have HE := hide hE
          clear HSTn hSn HR hp hE
          rcases hcase with hn0 | ⟨hpos, HPF⟩
          · have hdn1 : decide (0 < n) = false := by simp; omega
            have hdn2 : decide ((0 : Int) < (n : Int)) = false := by simp; omega
            clear hn0
            go_wp2_with fail
            go_loopw [8] (fun i wi => ∃ k : Nat, n ≤ k ∧ k < most ∧ i = .int .i64 (k : Int) ∧ Hid (stopAt S most (k + 1) = E) ∧ wi = wr) (fun i _ => most - (intOf i).toNat)
            case atStart => exact ⟨n, Nat.le_refl _, hlt, rfl, hide HSE.out.symm, rfl⟩
            case round =>
              obtain ⟨k, hk1, hk2, rfl, HK, rfl⟩ := hrel
              by_cases hk3 : k + 1 < most
              · cases hSk : S (k + 1) with
                | true =>
                  have HK2 := hide (show stopAt S most (k + 1 + 1) = E by rw [← HSY.out (k + 1) ⟨hk3, hSk⟩]; exact HK.out)
                  have HP := hide (fun w => show Calls Tryd.prog 54 #[.int .i64 (set : Int), .int .i64 ((k : Int) + 1)] w (fun e W' => e = .returned (.bool true) ∧ w = W') from by
                    have h := HH.out w (k + 1) (by omega)
                    rw [hSk] at h
                    exact h)
                  clear hSk HK
                  go_wp2_with fail
                  refine (HP.out _).mono ?_
                  rintro e w5 ⟨rfl, rfl⟩
                  clear HP
                  go_wp2_with fail
                  go_roundw
                  case rel => exact ⟨k + 1, by omega, by omega, by go_num, HK2, trivial⟩
                  case measure => simp [intOf]; omega
                | false =>
                  have HKE := hide (show E = k + 1 by rw [← HK.out]; exact HSN.out (k + 1) (by rw [hSk]; simp))
                  have HP := hide (fun w => show Calls Tryd.prog 54 #[.int .i64 (set : Int), .int .i64 ((k : Int) + 1)] w (fun e W' => e = .returned (.bool false) ∧ w = W') from by
                    have h := HH.out w (k + 1) (by omega)
                    rw [hSk] at h
                    exact h)
                  clear hSk
                  go_wp2_with fail
                  refine (HP.out _).mono ?_
                  rintro e w5 ⟨rfl, rfl⟩
                  clear HP
                  clear HH HSY HSN
                  have HRZ := hide (HR2.out k (by rw [HE.out]; exact HKE.out))
                  clear HR2 HE HKE HSE HK
                  have hwz := HBW.out.size
                  rcases Nat.lt_or_ge n k with hnk | hnk
                  · have HT := hide (show rowT (n, k) = Lib.decDigits n ++ 45 :: Lib.decDigits k by rw [rowT, if_pos hnk])
                    have HI := hide (fun w => (Tryd.strconv_Itoa_small n (by omega) w).mono (fun e w' h => show e = .returned (.string ⟨(Lib.decDigits n).toArray⟩) ∧ w = w' from ⟨h.1, h.2.symm⟩))
                    have HJ := hide (fun w => (Tryd.strconv_Itoa_small k (by omega) w).mono (fun e w' h => show e = .returned (.string ⟨(Lib.decDigits k).toArray⟩) ∧ w = w' from ⟨h.1, h.2.symm⟩))
                    have l1 := dec_len2 (show n < 100 by omega)
                    have l2 := dec_len2 (show k < 100 by omega)
                    obtain ⟨X, hXX⟩ : ∃ X, Lib.decDigits n = X := ⟨_, rfl⟩
                    obtain ⟨Y, hYY⟩ : ∃ Y, Lib.decDigits k = Y := ⟨_, rfl⟩
                    rw [hXX] at HT HI l1
                    rw [hYY] at HT HJ l2
                    have s1 : ∀ w', (Op.stringOp .add ⟨#[45]⟩ ⟨Y.toArray⟩).run Tryd.prog w' = .ok (.string ⟨(45 :: Y).toArray⟩) w' := fun w' => by
                      have := add_run [45] Y (by simp) (by omega) w'
                      simpa using this
                    have s2 : ∀ w', (Op.stringOp .add ⟨X.toArray⟩ ⟨(45 :: Y).toArray⟩).run Tryd.prog w' = .ok (.string ⟨(X ++ 45 :: Y).toArray⟩) w' := add_run X (45 :: Y) (by omega) (by simp; omega)
                    clear hXX hYY l1 l2
                    have HLIT := hide (show Reads (wr.alloc (.cells #[.string ⟨(X ++ 45 :: Y).toArray⟩] 9)) (wr.heap.size + 1) 1 (some ⟨wr.heap.size, 0, none⟩) 1 [.string ⟨(X ++ 45 :: Y).toArray⟩] from
                      ⟨rfl, fun _ => ⟨_, rfl, Nat.lt_succ_self _, fun j u hu => by
                        rw [addr_add, Nat.zero_add, cell_of_row _ _ _ _ _ _ (heap_alloc_new wr _)]
                        simpa using hu⟩⟩)
                    have HO4 := hide (HO.out.alloc (.cells #[.string ⟨(X ++ 45 :: Y).toArray⟩] 9))
                    have HB4 := hide (HBW.out.alloc hwz (.cells #[.string ⟨(X ++ 45 :: Y).toArray⟩] 9))
                    clear HO HBW
                    go_wp2_with (first | (go_at_call_of 41 (Value.int .i64 (n : Int)); refine (HI.out _).mono ?_; rintro e w5 ⟨rfl, rfl⟩) | (go_at_call_of 41 (Value.int .i64 (k : Int)); refine (HJ.out _).mono ?_; rintro e w5 ⟨rfl, rfl⟩) | (at_builtin; refine wpList_append_any _ rfl (.tmp 50) (.tmp 52) 82 rfl W.heap.size 9 i0 _ 1 16 Tryd.underlying82 hi0 hz0 hz1 hz2 rfl (by omega) _ os.length ((os.map rowT).map strV) rfl HO4.out (wr.heap.size + 1) (some ⟨wr.heap.size, 0, none⟩) 1 1 [.string ⟨(X ++ 45 :: Y).toArray⟩] rfl HLIT.out (by intro u hu; simp at hu; subst hu; rfl) (by simp only [maxLen]; omega) (by omega) (by simp; omega) ?_; intro v5 w5 hown5 hg5 hat5; have HO5 := hide hown5; have HB5 := hide (HB4.out.grown hg5 (by simp; omega) (fun q hq => (HO4.out.lt q hq).1)); clear hown5 hg5 hat5)
                    )
                    go_roundw
                    case rel => exact ⟨n + 1, os ++ [(n, k)], by omega, by go_num, by rw [HA2.out], HRZ, by simp; omega, hide (by simpa [HT.out, strV] using HO5.out), HB5⟩
                    case measure => simp [intOf]; omega
                  · obtain rfl : k = n := by omega
                    have HT := hide (show rowT (k, k) = Lib.decDigits k by rw [rowT, if_neg (Nat.lt_irrefl _)])
                    have HI := hide (fun w => (Tryd.strconv_Itoa_small k (by omega) w).mono (fun e w' h => show e = .returned (.string ⟨(Lib.decDigits k).toArray⟩) ∧ w = w' from ⟨h.1, h.2.symm⟩))
                    obtain ⟨X, hXX⟩ : ∃ X, Lib.decDigits k = X := ⟨_, rfl⟩
                    rw [hXX] at HT HI
                    clear hXX
                    have HLIT := hide (show Reads (wr.alloc (.cells #[.string ⟨(X).toArray⟩] 9)) (wr.heap.size + 1) 1 (some ⟨wr.heap.size, 0, none⟩) 1 [.string ⟨(X).toArray⟩] from
                      ⟨rfl, fun _ => ⟨_, rfl, Nat.lt_succ_self _, fun j u hu => by
                        rw [addr_add, Nat.zero_add, cell_of_row _ _ _ _ _ _ (heap_alloc_new wr _)]
                        simpa using hu⟩⟩)
                    have HO4 := hide (HO.out.alloc (.cells #[.string ⟨(X).toArray⟩] 9))
                    have HB4 := hide (HBW.out.alloc hwz (.cells #[.string ⟨(X).toArray⟩] 9))
                    clear HO HBW
                    go_wp2_with (first | (go_at_call 41; refine (HI.out _).mono ?_; rintro e w5 ⟨rfl, rfl⟩) | (at_builtin; refine wpList_append_any _ rfl (.tmp 50) (.tmp 52) 82 rfl W.heap.size 9 i0 _ 1 16 Tryd.underlying82 hi0 hz0 hz1 hz2 rfl (by omega) _ os.length ((os.map rowT).map strV) rfl HO4.out (wr.heap.size + 1) (some ⟨wr.heap.size, 0, none⟩) 1 1 [.string ⟨(X).toArray⟩] rfl HLIT.out (by intro u hu; simp at hu; subst hu; rfl) (by simp only [maxLen]; omega) (by omega) (by simp; omega) ?_; intro v5 w5 hown5 hg5 hat5; have HO5 := hide hown5; have HB5 := hide (HB4.out.grown hg5 (by simp; omega) (fun q hq => (HO4.out.lt q hq).1)); clear hown5 hg5 hat5)
                    )
                    go_roundw
                    case rel => exact ⟨k + 1, os ++ [(k, k)], by omega, by go_num, by rw [HA2.out], HRZ, by simp; omega, hide (by simpa [HT.out, strV] using HO5.out), HB5⟩
                    case measure => simp [intOf]; omega
              · have HKE := hide (show E = k + 1 by rw [← HK.out]; exact HSN.out (k + 1) (fun h => hk3 h.1))
                have hd3 : decide ((k : Int) + 1 < (most : Int)) = false := by simp; omega
                clear HH HSY HSN
                have HRZ := hide (HR2.out k (by rw [HE.out]; exact HKE.out))
                clear HR2 HE HKE HSE HK
                have hwz := HBW.out.size
                rcases Nat.lt_or_ge n k with hnk | hnk
                · have HT := hide (show rowT (n, k) = Lib.decDigits n ++ 45 :: Lib.decDigits k by rw [rowT, if_pos hnk])
                  have HI := hide (fun w => (Tryd.strconv_Itoa_small n (by omega) w).mono (fun e w' h => show e = .returned (.string ⟨(Lib.decDigits n).toArray⟩) ∧ w = w' from ⟨h.1, h.2.symm⟩))
                  have HJ := hide (fun w => (Tryd.strconv_Itoa_small k (by omega) w).mono (fun e w' h => show e = .returned (.string ⟨(Lib.decDigits k).toArray⟩) ∧ w = w' from ⟨h.1, h.2.symm⟩))
                  have l1 := dec_len2 (show n < 100 by omega)
                  have l2 := dec_len2 (show k < 100 by omega)
                  obtain ⟨X, hXX⟩ : ∃ X, Lib.decDigits n = X := ⟨_, rfl⟩
                  obtain ⟨Y, hYY⟩ : ∃ Y, Lib.decDigits k = Y := ⟨_, rfl⟩
                  rw [hXX] at HT HI l1
                  rw [hYY] at HT HJ l2
                  have s1 : ∀ w', (Op.stringOp .add ⟨#[45]⟩ ⟨Y.toArray⟩).run Tryd.prog w' = .ok (.string ⟨(45 :: Y).toArray⟩) w' := fun w' => by
                    have := add_run [45] Y (by simp) (by omega) w'
                    simpa using this
                  have s2 : ∀ w', (Op.stringOp .add ⟨X.toArray⟩ ⟨(45 :: Y).toArray⟩).run Tryd.prog w' = .ok (.string ⟨(X ++ 45 :: Y).toArray⟩) w' := add_run X (45 :: Y) (by omega) (by simp; omega)
                  clear hXX hYY l1 l2
                  have HLIT := hide (show Reads (wr.alloc (.cells #[.string ⟨(X ++ 45 :: Y).toArray⟩] 9)) (wr.heap.size + 1) 1 (some ⟨wr.heap.size, 0, none⟩) 1 [.string ⟨(X ++ 45 :: Y).toArray⟩] from
                    ⟨rfl, fun _ => ⟨_, rfl, Nat.lt_succ_self _, fun j u hu => by
                      rw [addr_add, Nat.zero_add, cell_of_row _ _ _ _ _ _ (heap_alloc_new wr _)]
                      simpa using hu⟩⟩)
                  have HO4 := hide (HO.out.alloc (.cells #[.string ⟨(X ++ 45 :: Y).toArray⟩] 9))
                  have HB4 := hide (HBW.out.alloc hwz (.cells #[.string ⟨(X ++ 45 :: Y).toArray⟩] 9))
                  clear HO HBW
                  go_wp2_with (first | (go_at_call_of 41 (Value.int .i64 (n : Int)); refine (HI.out _).mono ?_; rintro e w5 ⟨rfl, rfl⟩) | (go_at_call_of 41 (Value.int .i64 (k : Int)); refine (HJ.out _).mono ?_; rintro e w5 ⟨rfl, rfl⟩) | (at_builtin; refine wpList_append_any _ rfl (.tmp 50) (.tmp 52) 82 rfl W.heap.size 9 i0 _ 1 16 Tryd.underlying82 hi0 hz0 hz1 hz2 rfl (by omega) _ os.length ((os.map rowT).map strV) rfl HO4.out (wr.heap.size + 1) (some ⟨wr.heap.size, 0, none⟩) 1 1 [.string ⟨(X ++ 45 :: Y).toArray⟩] rfl HLIT.out (by intro u hu; simp at hu; subst hu; rfl) (by simp only [maxLen]; omega) (by omega) (by simp; omega) ?_; intro v5 w5 hown5 hg5 hat5; have HO5 := hide hown5; have HB5 := hide (HB4.out.grown hg5 (by simp; omega) (fun q hq => (HO4.out.lt q hq).1)); clear hown5 hg5 hat5)
                  )
                  go_roundw
                  case rel => exact ⟨n + 1, os ++ [(n, k)], by omega, by go_num, by rw [HA2.out], HRZ, by simp; omega, hide (by simpa [HT.out, strV] using HO5.out), HB5⟩
                  case measure => simp [intOf]; omega
                · obtain rfl : k = n := by omega
                  have HT := hide (show rowT (k, k) = Lib.decDigits k by rw [rowT, if_neg (Nat.lt_irrefl _)])
                  have HI := hide (fun w => (Tryd.strconv_Itoa_small k (by omega) w).mono (fun e w' h => show e = .returned (.string ⟨(Lib.decDigits k).toArray⟩) ∧ w = w' from ⟨h.1, h.2.symm⟩))
                  obtain ⟨X, hXX⟩ : ∃ X, Lib.decDigits k = X := ⟨_, rfl⟩
                  rw [hXX] at HT HI
                  clear hXX
                  have HLIT := hide (show Reads (wr.alloc (.cells #[.string ⟨(X).toArray⟩] 9)) (wr.heap.size + 1) 1 (some ⟨wr.heap.size, 0, none⟩) 1 [.string ⟨(X).toArray⟩] from
                    ⟨rfl, fun _ => ⟨_, rfl, Nat.lt_succ_self _, fun j u hu => by
                      rw [addr_add, Nat.zero_add, cell_of_row _ _ _ _ _ _ (heap_alloc_new wr _)]
                      simpa using hu⟩⟩)
                  have HO4 := hide (HO.out.alloc (.cells #[.string ⟨(X).toArray⟩] 9))
                  have HB4 := hide (HBW.out.alloc hwz (.cells #[.string ⟨(X).toArray⟩] 9))
                  clear HO HBW
                  go_wp2_with (first | (go_at_call 41; refine (HI.out _).mono ?_; rintro e w5 ⟨rfl, rfl⟩) | (at_builtin; refine wpList_append_any _ rfl (.tmp 50) (.tmp 52) 82 rfl W.heap.size 9 i0 _ 1 16 Tryd.underlying82 hi0 hz0 hz1 hz2 rfl (by omega) _ os.length ((os.map rowT).map strV) rfl HO4.out (wr.heap.size + 1) (some ⟨wr.heap.size, 0, none⟩) 1 1 [.string ⟨(X).toArray⟩] rfl HLIT.out (by intro u hu; simp at hu; subst hu; rfl) (by simp only [maxLen]; omega) (by omega) (by simp; omega) ?_; intro v5 w5 hown5 hg5 hat5; have HO5 := hide hown5; have HB5 := hide (HB4.out.grown hg5 (by simp; omega) (fun q hq => (HO4.out.lt q hq).1)); clear hown5 hg5 hat5)
                  )
                  go_roundw
                  case rel => exact ⟨k + 1, os ++ [(k, k)], by omega, by go_num, by rw [HA2.out], HRZ, by simp; omega, hide (by simpa [HT.out, strV] using HO5.out), HB5⟩
                  case measure => simp [intOf]; omega
          · go_wp2_with fail
            refine (HPF.out _).mono ?_
            rintro e w4 ⟨rfl, rfl⟩
            clear HPF
            go_wp2_with fail
            go_loopw [8] (fun i wi => ∃ k : Nat, n ≤ k ∧ k < most ∧ i = .int .i64 (k : Int) ∧ Hid (stopAt S most (k + 1) = E) ∧ wi = wr) (fun i _ => most - (intOf i).toNat)
            case atStart => exact ⟨n, Nat.le_refl _, hlt, rfl, hide HSE.out.symm, rfl⟩
            case round =>
              obtain ⟨k, hk1, hk2, rfl, HK, rfl⟩ := hrel
              by_cases hk3 : k + 1 < most
              · cases hSk : S (k + 1) with
                | true =>
                  have HK2 := hide (show stopAt S most (k + 1 + 1) = E by rw [← HSY.out (k + 1) ⟨hk3, hSk⟩]; exact HK.out)
                  have HP := hide (fun w => show Calls Tryd.prog 54 #[.int .i64 (set : Int), .int .i64 ((k : Int) + 1)] w (fun e W' => e = .returned (.bool true) ∧ w = W') from by
                    have h := HH.out w (k + 1) (by omega)
                    rw [hSk] at h
                    exact h)
                  clear hSk HK
                  go_wp2_with fail
                  refine (HP.out _).mono ?_
                  rintro e w5 ⟨rfl, rfl⟩
                  clear HP
                  go_wp2_with fail
                  go_roundw
                  case rel => exact ⟨k + 1, by omega, by omega, by go_num, HK2, trivial⟩
                  case measure => simp [intOf]; omega
                | false =>
                  have HKE := hide (show E = k + 1 by rw [← HK.out]; exact HSN.out (k + 1) (by rw [hSk]; simp))
                  have HP := hide (fun w => show Calls Tryd.prog 54 #[.int .i64 (set : Int), .int .i64 ((k : Int) + 1)] w (fun e W' => e = .returned (.bool false) ∧ w = W') from by
                    have h := HH.out w (k + 1) (by omega)
                    rw [hSk] at h
                    exact h)
                  clear hSk
                  go_wp2_with fail
                  refine (HP.out _).mono ?_
                  rintro e w5 ⟨rfl, rfl⟩
                  clear HP
                  clear HH HSY HSN
                  have HRZ := hide (HR2.out k (by rw [HE.out]; exact HKE.out))
                  clear HR2 HE HKE HSE HK
                  have hwz := HBW.out.size
                  rcases Nat.lt_or_ge n k with hnk | hnk
                  · have HT := hide (show rowT (n, k) = Lib.decDigits n ++ 45 :: Lib.decDigits k by rw [rowT, if_pos hnk])
                    have HI := hide (fun w => (Tryd.strconv_Itoa_small n (by omega) w).mono (fun e w' h => show e = .returned (.string ⟨(Lib.decDigits n).toArray⟩) ∧ w = w' from ⟨h.1, h.2.symm⟩))
                    have HJ := hide (fun w => (Tryd.strconv_Itoa_small k (by omega) w).mono (fun e w' h => show e = .returned (.string ⟨(Lib.decDigits k).toArray⟩) ∧ w = w' from ⟨h.1, h.2.symm⟩))
                    have l1 := dec_len2 (show n < 100 by omega)
                    have l2 := dec_len2 (show k < 100 by omega)
                    obtain ⟨X, hXX⟩ : ∃ X, Lib.decDigits n = X := ⟨_, rfl⟩
                    obtain ⟨Y, hYY⟩ : ∃ Y, Lib.decDigits k = Y := ⟨_, rfl⟩
                    rw [hXX] at HT HI l1
                    rw [hYY] at HT HJ l2
                    have s1 : ∀ w', (Op.stringOp .add ⟨#[45]⟩ ⟨Y.toArray⟩).run Tryd.prog w' = .ok (.string ⟨(45 :: Y).toArray⟩) w' := fun w' => by
                      have := add_run [45] Y (by simp) (by omega) w'
                      simpa using this
                    have s2 : ∀ w', (Op.stringOp .add ⟨X.toArray⟩ ⟨(45 :: Y).toArray⟩).run Tryd.prog w' = .ok (.string ⟨(X ++ 45 :: Y).toArray⟩) w' := add_run X (45 :: Y) (by omega) (by simp; omega)
                    clear hXX hYY l1 l2
                    have HLIT := hide (show Reads (wr.alloc (.cells #[.string ⟨(X ++ 45 :: Y).toArray⟩] 9)) (wr.heap.size + 1) 1 (some ⟨wr.heap.size, 0, none⟩) 1 [.string ⟨(X ++ 45 :: Y).toArray⟩] from
                      ⟨rfl, fun _ => ⟨_, rfl, Nat.lt_succ_self _, fun j u hu => by
                        rw [addr_add, Nat.zero_add, cell_of_row _ _ _ _ _ _ (heap_alloc_new wr _)]
                        simpa using hu⟩⟩)
                    have HO4 := hide (HO.out.alloc (.cells #[.string ⟨(X ++ 45 :: Y).toArray⟩] 9))
                    have HB4 := hide (HBW.out.alloc hwz (.cells #[.string ⟨(X ++ 45 :: Y).toArray⟩] 9))
                    clear HO HBW
                    go_wp2_with (first | (go_at_call_of 41 (Value.int .i64 (n : Int)); refine (HI.out _).mono ?_; rintro e w5 ⟨rfl, rfl⟩) | (go_at_call_of 41 (Value.int .i64 (k : Int)); refine (HJ.out _).mono ?_; rintro e w5 ⟨rfl, rfl⟩) | (at_builtin; refine wpList_append_any _ rfl (.tmp 50) (.tmp 52) 82 rfl W.heap.size 9 i0 _ 1 16 Tryd.underlying82 hi0 hz0 hz1 hz2 rfl (by omega) _ os.length ((os.map rowT).map strV) rfl HO4.out (wr.heap.size + 1) (some ⟨wr.heap.size, 0, none⟩) 1 1 [.string ⟨(X ++ 45 :: Y).toArray⟩] rfl HLIT.out (by intro u hu; simp at hu; subst hu; rfl) (by simp only [maxLen]; omega) (by omega) (by simp; omega) ?_; intro v5 w5 hown5 hg5 hat5; have HO5 := hide hown5; have HB5 := hide (HB4.out.grown hg5 (by simp; omega) (fun q hq => (HO4.out.lt q hq).1)); clear hown5 hg5 hat5)
                    )
                    go_roundw
                    case rel => exact ⟨n + 1, os ++ [(n, k)], by omega, by go_num, by rw [HA2.out], HRZ, by simp; omega, hide (by simpa [HT.out, strV] using HO5.out), HB5⟩
                    case measure => simp [intOf]; omega
                  · obtain rfl : k = n := by omega
                    have HT := hide (show rowT (k, k) = Lib.decDigits k by rw [rowT, if_neg (Nat.lt_irrefl _)])
                    have HI := hide (fun w => (Tryd.strconv_Itoa_small k (by omega) w).mono (fun e w' h => show e = .returned (.string ⟨(Lib.decDigits k).toArray⟩) ∧ w = w' from ⟨h.1, h.2.symm⟩))
                    obtain ⟨X, hXX⟩ : ∃ X, Lib.decDigits k = X := ⟨_, rfl⟩
                    rw [hXX] at HT HI
                    clear hXX
                    have HLIT := hide (show Reads (wr.alloc (.cells #[.string ⟨(X).toArray⟩] 9)) (wr.heap.size + 1) 1 (some ⟨wr.heap.size, 0, none⟩) 1 [.string ⟨(X).toArray⟩] from
                      ⟨rfl, fun _ => ⟨_, rfl, Nat.lt_succ_self _, fun j u hu => by
                        rw [addr_add, Nat.zero_add, cell_of_row _ _ _ _ _ _ (heap_alloc_new wr _)]
                        simpa using hu⟩⟩)
                    have HO4 := hide (HO.out.alloc (.cells #[.string ⟨(X).toArray⟩] 9))
                    have HB4 := hide (HBW.out.alloc hwz (.cells #[.string ⟨(X).toArray⟩] 9))
                    clear HO HBW
                    go_wp2_with (first | (go_at_call 41; refine (HI.out _).mono ?_; rintro e w5 ⟨rfl, rfl⟩) | (at_builtin; refine wpList_append_any _ rfl (.tmp 50) (.tmp 52) 82 rfl W.heap.size 9 i0 _ 1 16 Tryd.underlying82 hi0 hz0 hz1 hz2 rfl (by omega) _ os.length ((os.map rowT).map strV) rfl HO4.out (wr.heap.size + 1) (some ⟨wr.heap.size, 0, none⟩) 1 1 [.string ⟨(X).toArray⟩] rfl HLIT.out (by intro u hu; simp at hu; subst hu; rfl) (by simp only [maxLen]; omega) (by omega) (by simp; omega) ?_; intro v5 w5 hown5 hg5 hat5; have HO5 := hide hown5; have HB5 := hide (HB4.out.grown hg5 (by simp; omega) (fun q hq => (HO4.out.lt q hq).1)); clear hown5 hg5 hat5)
                    )
                    go_roundw
                    case rel => exact ⟨k + 1, os ++ [(k, k)], by omega, by go_num, by rw [HA2.out], HRZ, by simp; omega, hide (by simpa [HT.out, strV] using HO5.out), HB5⟩
                    case measure => simp [intOf]; omega
              · have HKE := hide (show E = k + 1 by rw [← HK.out]; exact HSN.out (k + 1) (fun h => hk3 h.1))
                have hd3 : decide ((k : Int) + 1 < (most : Int)) = false := by simp; omega
                clear HH HSY HSN
                have HRZ := hide (HR2.out k (by rw [HE.out]; exact HKE.out))
                clear HR2 HE HKE HSE HK
                have hwz := HBW.out.size
                rcases Nat.lt_or_ge n k with hnk | hnk
                · have HT := hide (show rowT (n, k) = Lib.decDigits n ++ 45 :: Lib.decDigits k by rw [rowT, if_pos hnk])
                  have HI := hide (fun w => (Tryd.strconv_Itoa_small n (by omega) w).mono (fun e w' h => show e = .returned (.string ⟨(Lib.decDigits n).toArray⟩) ∧ w = w' from ⟨h.1, h.2.symm⟩))
                  have HJ := hide (fun w => (Tryd.strconv_Itoa_small k (by omega) w).mono (fun e w' h => show e = .returned (.string ⟨(Lib.decDigits k).toArray⟩) ∧ w = w' from ⟨h.1, h.2.symm⟩))
                  have l1 := dec_len2 (show n < 100 by omega)
                  have l2 := dec_len2 (show k < 100 by omega)
                  obtain ⟨X, hXX⟩ : ∃ X, Lib.decDigits n = X := ⟨_, rfl⟩
                  obtain ⟨Y, hYY⟩ : ∃ Y, Lib.decDigits k = Y := ⟨_, rfl⟩
                  rw [hXX] at HT HI l1
                  rw [hYY] at HT HJ l2
                  have s1 : ∀ w', (Op.stringOp .add ⟨#[45]⟩ ⟨Y.toArray⟩).run Tryd.prog w' = .ok (.string ⟨(45 :: Y).toArray⟩) w' := fun w' => by
                    have := add_run [45] Y (by simp) (by omega) w'
                    simpa using this
                  have s2 : ∀ w', (Op.stringOp .add ⟨X.toArray⟩ ⟨(45 :: Y).toArray⟩).run Tryd.prog w' = .ok (.string ⟨(X ++ 45 :: Y).toArray⟩) w' := add_run X (45 :: Y) (by omega) (by simp; omega)
                  clear hXX hYY l1 l2
                  have HLIT := hide (show Reads (wr.alloc (.cells #[.string ⟨(X ++ 45 :: Y).toArray⟩] 9)) (wr.heap.size + 1) 1 (some ⟨wr.heap.size, 0, none⟩) 1 [.string ⟨(X ++ 45 :: Y).toArray⟩] from
                    ⟨rfl, fun _ => ⟨_, rfl, Nat.lt_succ_self _, fun j u hu => by
                      rw [addr_add, Nat.zero_add, cell_of_row _ _ _ _ _ _ (heap_alloc_new wr _)]
                      simpa using hu⟩⟩)
                  have HO4 := hide (HO.out.alloc (.cells #[.string ⟨(X ++ 45 :: Y).toArray⟩] 9))
                  have HB4 := hide (HBW.out.alloc hwz (.cells #[.string ⟨(X ++ 45 :: Y).toArray⟩] 9))
                  clear HO HBW
                  go_wp2_with (first | (go_at_call_of 41 (Value.int .i64 (n : Int)); refine (HI.out _).mono ?_; rintro e w5 ⟨rfl, rfl⟩) | (go_at_call_of 41 (Value.int .i64 (k : Int)); refine (HJ.out _).mono ?_; rintro e w5 ⟨rfl, rfl⟩) | (at_builtin; refine wpList_append_any _ rfl (.tmp 50) (.tmp 52) 82 rfl W.heap.size 9 i0 _ 1 16 Tryd.underlying82 hi0 hz0 hz1 hz2 rfl (by omega) _ os.length ((os.map rowT).map strV) rfl HO4.out (wr.heap.size + 1) (some ⟨wr.heap.size, 0, none⟩) 1 1 [.string ⟨(X ++ 45 :: Y).toArray⟩] rfl HLIT.out (by intro u hu; simp at hu; subst hu; rfl) (by simp only [maxLen]; omega) (by omega) (by simp; omega) ?_; intro v5 w5 hown5 hg5 hat5; have HO5 := hide hown5; have HB5 := hide (HB4.out.grown hg5 (by simp; omega) (fun q hq => (HO4.out.lt q hq).1)); clear hown5 hg5 hat5)
                  )
                  go_roundw
                  case rel => exact ⟨n + 1, os ++ [(n, k)], by omega, by go_num, by rw [HA2.out], HRZ, by simp; omega, hide (by simpa [HT.out, strV] using HO5.out), HB5⟩
                  case measure => simp [intOf]; omega
                · obtain rfl : k = n := by omega
                  have HT := hide (show rowT (k, k) = Lib.decDigits k by rw [rowT, if_neg (Nat.lt_irrefl _)])
                  have HI := hide (fun w => (Tryd.strconv_Itoa_small k (by omega) w).mono (fun e w' h => show e = .returned (.string ⟨(Lib.decDigits k).toArray⟩) ∧ w = w' from ⟨h.1, h.2.symm⟩))
                  obtain ⟨X, hXX⟩ : ∃ X, Lib.decDigits k = X := ⟨_, rfl⟩
                  rw [hXX] at HT HI
                  clear hXX
                  have HLIT := hide (show Reads (wr.alloc (.cells #[.string ⟨(X).toArray⟩] 9)) (wr.heap.size + 1) 1 (some ⟨wr.heap.size, 0, none⟩) 1 [.string ⟨(X).toArray⟩] from
                    ⟨rfl, fun _ => ⟨_, rfl, Nat.lt_succ_self _, fun j u hu => by
                      rw [addr_add, Nat.zero_add, cell_of_row _ _ _ _ _ _ (heap_alloc_new wr _)]
                      simpa using hu⟩⟩)
                  have HO4 := hide (HO.out.alloc (.cells #[.string ⟨(X).toArray⟩] 9))
                  have HB4 := hide (HBW.out.alloc hwz (.cells #[.string ⟨(X).toArray⟩] 9))
                  clear HO HBW
                  go_wp2_with (first | (go_at_call 41; refine (HI.out _).mono ?_; rintro e w5 ⟨rfl, rfl⟩) | (at_builtin; refine wpList_append_any _ rfl (.tmp 50) (.tmp 52) 82 rfl W.heap.size 9 i0 _ 1 16 Tryd.underlying82 hi0 hz0 hz1 hz2 rfl (by omega) _ os.length ((os.map rowT).map strV) rfl HO4.out (wr.heap.size + 1) (some ⟨wr.heap.size, 0, none⟩) 1 1 [.string ⟨(X).toArray⟩] rfl HLIT.out (by intro u hu; simp at hu; subst hu; rfl) (by simp only [maxLen]; omega) (by omega) (by simp; omega) ?_; intro v5 w5 hown5 hg5 hat5; have HO5 := hide hown5; have HB5 := hide (HB4.out.grown hg5 (by simp; omega) (fun q hq => (HO4.out.lt q hq).1)); clear hown5 hg5 hat5)
                  )
                  go_roundw
                  case rel => exact ⟨k + 1, os ++ [(k, k)], by omega, by go_num, by rw [HA2.out], HRZ, by simp; omega, hide (by simpa [HT.out, strV] using HO5.out), HB5⟩
                  case measure => simp [intOf]; omega
    case neg =>
      obtain rfl : n = most := by omega
      have hos : os = refRows S n 0 := by have h := HR.out; rw [HDN.out n hlt, List.append_nil] at h; exact h
      have hd1 : decide (n < n) = false := by simp
      clear HH HSY HSN HST HDN HAL
      cases hwh : (List.range n).all S with
      | true =>
        have HV := hide (show V = [42] by rw [HW.out, if_pos hwh])
        clear HW hwh HR hos HME
        go_wp2
        go_ret
        exact ⟨by rw [HV.out]; rfl, HBW.out⟩
      | false =>
      by_cases hz : os = []
      · have HV := hide (show V = [45] by rw [HW.out, if_neg (by rw [hwh]; simp), ← hos, if_pos hz])
        subst hz
        rcases HO.out.2 with ⟨h, _⟩ | ⟨g', cap', cur, h, _⟩
        all_goals
          subst h
          clear HW hwh HR hos HME
          go_wp2
          go_ret
          exact ⟨by rw [HV.out]; rfl, HBW.out⟩
      · have HV := hide (show V = joinF [44] (os.map rowT) by rw [HW.out, if_neg (by rw [hwh]; simp), ← hos, if_neg hz])
        have hpos : 0 < os.length := List.length_pos_iff.2 hz
        have hneq : ((os.length : Int) == 0) = false := by simpa using hz
        have HLJ := hide (show (joinF [44] (os.map rowT)).length ≤ 1000 from by
          have h1 := join_len [44] 5 (os.map rowT) (fun x hx => by
            obtain ⟨r, hr, rfl⟩ := List.mem_map.1 hx
            have := HME.out r (by rw [← hos]; exact hr)
            exact rowT_len (by omega) (by omega))
          simp only [List.length_map, List.length_cons, List.length_nil] at h1
          omega)
        obtain ⟨g, cap, hv, hgw⟩ := HO.out.form hpos
        subst hv
        have HSTR := hide (show StrsAt wr W.heap.size g os.length cap (os.map rowT) from ⟨HO.out, by simp⟩)
        have HJ := hide (fun w (h : StrsAt w W.heap.size g os.length cap (os.map rowT)) => joined_walk (os.map rowT) 44 W.heap.size g os.length cap w h (by have := HLJ.out; omega) (by omega))
        clear HO HR hlt hos hgw HW HME hwh
        go_wp2_with fail
        refine (HJ.out _ HSTR.out).mono ?_
        rintro e w9 ⟨rfl, rfl⟩
        go_wp2
        go_ret
        exact ⟨by rw [HV.out]; rfl, HBW.out⟩

theorem matchText_walk (m : M4) (hm : m.ok) (W : World) :
    Calls Tryd.prog 27 #[.agg #[.int .u16 m.src, .int .u16 m.dst, .int .u8 m.sport, .int .u8 m.dport]] W fun e W' => e = .returned (.string ⟨(matchT m).toArray⟩) ∧ Below W.heap.size W W' := by
  obtain ⟨h1, h2, h3, h4⟩ := hm
  have HA := hide (fun w => rows_walk m.src 16 w h1 (by omega) (by omega))
  have HB := hide (fun w => rows_walk m.sport 8 w h3 (by omega) (by omega))
  have HC := hide (fun w => rows_walk m.dst 16 w h2 (by omega) (by omega))
  have HD := hide (fun w => rows_walk m.dport 8 w h4 (by omega) (by omega))
  have l1 := word_len (set := m.src) (most := 16) (by omega) (by omega)
  have l2 := word_len (set := m.sport) (most := 8) (by omega) (by omega)
  have l3 := word_len (set := m.dst) (most := 16) (by omega) (by omega)
  have l4 := word_len (set := m.dport) (most := 8) (by omega) (by omega)
  obtain ⟨V, hV⟩ : ∃ V, matchT m = V := ⟨_, rfl⟩
  have HV := hide (hV.symm.trans rfl : V = wordF m.src 16 ++ 32 :: (wordF m.sport 8 ++ 32 :: (wordF m.dst 16 ++ 32 :: wordF m.dport 8)))
  rw [hV]
  generalize wordF m.src 16 = X at *
  generalize wordF m.sport 8 = Y at *
  generalize wordF m.dst 16 = Z at *
  generalize wordF m.dport 8 = U at *
  have e1 : ∀ w', (Op.stringOp .add ⟨X.toArray⟩ ⟨#[32]⟩).run Tryd.prog w' = .ok (.string ⟨(X ++ [32]).toArray⟩) w' := add_run X [32] (by omega) (by simp)
  have e2 : ∀ w', (Op.stringOp .add ⟨(X ++ [32]).toArray⟩ ⟨Y.toArray⟩).run Tryd.prog w' = .ok (.string ⟨(X ++ 32 :: Y).toArray⟩) w' := fun w' => by
    have := add_run (X ++ [32]) Y (by simp; omega) (by omega) w'
    simpa using this
  have e3 : ∀ w', (Op.stringOp .add ⟨(X ++ 32 :: Y).toArray⟩ ⟨#[32]⟩).run Tryd.prog w' = .ok (.string ⟨(X ++ 32 :: (Y ++ [32])).toArray⟩) w' := fun w' => by
    have := add_run (X ++ 32 :: Y) [32] (by simp; omega) (by simp) w'
    simpa using this
  have e4 : ∀ w', (Op.stringOp .add ⟨(X ++ 32 :: (Y ++ [32])).toArray⟩ ⟨Z.toArray⟩).run Tryd.prog w' = .ok (.string ⟨(X ++ 32 :: (Y ++ 32 :: Z)).toArray⟩) w' := fun w' => by
    have := add_run (X ++ 32 :: (Y ++ [32])) Z (by simp; omega) (by omega) w'
    simpa using this
  have e5 : ∀ w', (Op.stringOp .add ⟨(X ++ 32 :: (Y ++ 32 :: Z)).toArray⟩ ⟨#[32]⟩).run Tryd.prog w' = .ok (.string ⟨(X ++ 32 :: (Y ++ 32 :: (Z ++ [32]))).toArray⟩) w' := fun w' => by
    have := add_run (X ++ 32 :: (Y ++ 32 :: Z)) [32] (by simp; omega) (by simp) w'
    simpa using this
  have e6 : ∀ w', (Op.stringOp .add ⟨(X ++ 32 :: (Y ++ 32 :: (Z ++ [32]))).toArray⟩ ⟨U.toArray⟩).run Tryd.prog w' = .ok (.string ⟨(X ++ 32 :: (Y ++ 32 :: (Z ++ 32 :: U))).toArray⟩) w' := fun w' => by
    have := add_run (X ++ 32 :: (Y ++ 32 :: (Z ++ [32]))) U (by simp; omega) (by omega) w'
    simpa using this
  obtain ⟨a, b, c, d⟩ := m
  simp only at HA HB HC HD h1 h2 h3 h4 ⊢
  clear l1 l2 l3 l4 hV
  have hb0 := (Below.refl W.heap.size W).alloc (Nat.le_refl _) (.cells #[.int .u16 (a : Int), .int .u16 (b : Int), .int .u8 (c : Int), .int .u8 (d : Int)] 42)
  have hx := heap_alloc_new W (.cells #[.int .u16 (a : Int), .int .u16 (b : Int), .int .u8 (c : Int), .int .u8 (d : Int)] 42)
  go_enter Tryd.func27, Tryd.ntmps27
  go_wp2_with fail
  generalize W.alloc (.cells #[.int .u16 (a : Int), .int .u16 (b : Int), .int .u8 (c : Int), .int .u8 (d : Int)] 42) = w1 at *
  refine wp_region_abs (by kernel_rfl) (by kernel_rfl) ?_
  intro T hT gt hg1 hgi
  have HGT := hide hg1
  have HGI := hide hgi
  have HX := hide (fun t => cells4f (((hg1 t).block W.heap.size (heap_lt hx)).trans hx))
  have HB0 := hide hb0
  clear hg1 hgi hx hb0
  have x0 : ∀ t, (gt t).cell? ⟨W.heap.size, 0, none⟩ = some (.int .u16 (a : Int)) := fun t => (HX.out t).1
  have x1 : ∀ t, (gt t).cell? ⟨W.heap.size, 1, none⟩ = some (.int .u16 (b : Int)) := fun t => (HX.out t).2.1
  have x2 : ∀ t, (gt t).cell? ⟨W.heap.size, 2, none⟩ = some (.int .u8 (c : Int)) := fun t => (HX.out t).2.2.1
  have x3 : ∀ t, (gt t).cell? ⟨W.heap.size, 3, none⟩ = some (.int .u8 (d : Int)) := fun t => (HX.out t).2.2.2.1
  clear HX
  repeat (go_big_quiet_step ((first | (go_at_call_of 57 (Value.int .i64 (a : Int)); exact inAbs HGT.out HGI.out (HA.out _)) | (go_at_call_of 57 (Value.int .i64 (b : Int)); exact inAbs HGT.out HGI.out (HC.out _)) | (go_at_call_of 57 (Value.int .i64 (c : Int)); exact inAbs HGT.out HGI.out (HB.out _)) | (go_at_call_of 57 (Value.int .i64 (d : Int)); exact inAbs HGT.out HGI.out (HD.out _)))))
  refine wpQuiet_nil ?_
  intro _ hw'
  obtain ⟨t, rfl⟩ := hw'
  have HBZ := hide (HB0.out.trans ((HGT.out t).mono HB0.out.size))
  generalize gt t = w2 at *
  go_wp2
  go_ret
  exact ⟨by rw [HV.out]; rfl, HBZ.out⟩
end Go.Proofs.YtohbafigjpoijaaDoor
