/- BddLaws: De Morgan, Shannon: laws of functions, as sameness of numbers. No condition. (The walk's rows are written by wip/gen_bddlaws.py.) -/
import Derived.Test.YtoanimmlpfchjaaBddIds
import Derived.Test.YtoanimmlpfchjaaSome
import Derived.Test.YtoanimmlpfchjaaFibLongestLaw
set_option linter.unusedVariables false
set_option linter.unusedSimpArgs false
namespace Go.Proofs.Ytoanimmlpfchjaa
open Go.ChangeShapes Go.WideShapes Go.ChangeAt Go.RowKit Go.Maps Bdd

theorem six_new : Six (newSt 6 40000) := ⟨rfl, rfl, rfl⟩

theorem isF_below {A : St} {r : Nat} {F : Bdd.Fn} (hi : Inv A) (h : IsF A r F) (hv : A.vars = 6) : Bdd.Below 6 F := by
  have ok := hi.ok
  rw [hv] at ok
  rw [← h.2]; exact den_below ok r h.1

set_option maxRecDepth 100000 in
set_option maxHeartbeats 16000000 in
theorem bddLaws_walk (l1 l2 : List OpV) (ad1 ad2 : Option Addr) (n1 n2 c1 c2 : Nat) (i j : Int) (W : World) (hn1 : n1 ≤ maxLen) (hn2 : n2 ≤ maxLen) (hnc1 : n1 ≤ c1) (hnc2 : n2 ≤ c2) (hi : i64ok i) (hj : i64ok j)
    (hl1 : SlAt OpV.cells 4 W W.heap.size ad1 n1 l1) (hl2 : SlAt OpV.cells 4 W W.heap.size ad2 n2 l2) (hok1 : ∀ r ∈ l1, r.ok) (hok2 : ∀ r ∈ l2, r.ok) :
    Calls Try.prog 9 #[.slice ad1 n1 c1, .slice ad2 n2 c2, .int .i64 i, .int .i64 j] W fun e W' => e = .returned (.bool true) ∧ RowKit.Below W.heap.size W W' := by
  unfold maxLen at hn1 hn2
  have HN : ∀ w1, Hid (Calls Try.prog 28 #[.int .i64 6, .int .i64 40000] w1 (NewP w1 6 40000)) := fun w1 => hide (new_walk w1 6 40000 (by omega) (by omega) (by omega) (by omega))
  have HL := hide (And.intro hl1 (And.intro hl2 (And.intro hok1 hok2)))
  clear hl1 hl2 hok1 hok2
  go_enter Try.func9, Try.ntmps9
  go_wp2_with fail
  refine (HN _).out.mono ?_
  rintro e wa ⟨g, nb, kb, ib, rfl, ha, hb⟩
  have HA := hide ha
  have HB := hide hb
  have HLT := hide ha.lts.2.1
  have HM0 := hide (MS.refl ha)
  clear ha hb HN
  go_wp2_with fail
  refine (some_walk HA.out six_new HM0.out rfl (by omega) l1 ad1 n1 c1 (min 12 n1) (by omega) rfl hnc1 (HL.out.1.below HB.out (Nat.le_refl _)) HL.out.2.2.1).mono ?_
  rintro e wb ⟨F, f, nbf, capf, Af, Kf, Tf, rfl, hm, hnff, hx, hiF⟩
  have HMf := hide (hm.more (show _ ≤ 1536 by omega))
  have HIf := hide hiF
  clear hm hx hiF HM0
  go_wp2_with fail
  refine (some_walk HA.out six_new HMf.out hnff (by omega) l2 ad2 n2 c2 (min 12 n2) (by omega) rfl hnc2 (HL.out.2.1.below HB.out (Nat.le_refl _)) HL.out.2.2.2).mono ?_
  rintro e wc ⟨G, k, nb1, cap1, A1, K1, T1, rfl, hm, hnf1, hx, hiG⟩
  have HM1 := hide (hm.more (show _ ≤ 3072 by omega))
  have HIg := hide hiG
  have HIf1 := hide (HIf.out.ext HMf.out.inv hx)
  clear hm hx hiG HMf HIf
  go_wp2_with fail
  refine (rest_walk i 6 _ hi (by omega) (by omega)).mono ?_
  rintro e w' ⟨rfl, rfl⟩
  obtain ⟨iv, hiv⟩ : ∃ iv : Nat, i % 6 = (iv : Int) := ⟨(i % 6).toNat, by omega⟩
  have hi6 : iv < 6 := by omega
  rw [hiv]
  clear hiv
  go_wp2_with fail
  refine (rest_walk j 6 _ hj (by omega) (by omega)).mono ?_
  rintro e w' ⟨rfl, rfl⟩
  obtain ⟨jv, hjv⟩ : ∃ jv : Nat, j % 6 = (jv : Int) := ⟨(j % 6).toNat, by omega⟩
  have hj6 : jv < 6 := by omega
  rw [hjv]
  clear hjv
  go_wp2_with (go_at_call 34; refine (got_walk _ _).mono ?_; rintro e w' ⟨rfl, rfl⟩)
  refine (var_rq HLT.out six_new HM1.out hnf1 (by omega) iv hi6).mono ?_
  rintro e w2 ⟨r2, nb2, cap2, A2, K2, T2, rfl, hm, hnf2, hx, hi⟩
  have HM2 := hide hm
  have HX2 := hide hx
  have HI2 := hide hi
  clear hm hx hi
  have H_f_2 := hide (HIf1.out.ext HM1.out.inv HX2.out)
  clear HIf1
  have H_g_2 := hide (HIg.out.ext HM1.out.inv HX2.out)
  clear HIg
  clear HM1 HX2 hnf1
  have hv2 : 2 ≤ r2 := by
    have e0 : r2 ≠ 0 := fun e => by
      have h := HI2.out.2; rw [e, den_zero] at h; have := congrFun h (fun _ => true); cases this
    have e1 : r2 ≠ 1 := fun e => by
      have h := HI2.out.2; rw [e, den_one] at h; have := congrFun h (fun _ => false); cases this
    omega
  have hv2' : decide ((r2 : Int) < 2) = false := by simp; omega
  go_wp2_with (go_at_call 34; refine (got_walk _ _).mono ?_; rintro e w' ⟨rfl, rfl⟩)
  refine (not_rq HLT.out six_new HM2.out hnf2 (by omega) HI2.out).mono ?_
  rintro e w3 ⟨r3, nb3, cap3, A3, K3, T3, rfl, hm, hnf3, hx, hi⟩
  have HM3 := hide hm
  have HX3 := hide hx
  have HI3 := hide hi
  clear hm hx hi
  have H_f_3 := hide (H_f_2.out.ext HM2.out.inv HX3.out)
  clear H_f_2
  have H_g_3 := hide (H_g_2.out.ext HM2.out.inv HX3.out)
  clear H_g_2
  have H_v_3 := hide (HI2.out.ext HM2.out.inv HX3.out)
  clear HI2
  clear HM2 HX3 hnf2
  go_wp2_with (go_at_call 34; refine (got_walk _ _).mono ?_; rintro e w' ⟨rfl, rfl⟩)
  refine (not_rq HLT.out six_new HM3.out hnf3 (by omega) HI3.out).mono ?_
  rintro e w4 ⟨r4, nb4, cap4, A4, K4, T4, rfl, hm, hnf4, hx, hi⟩
  have HM4 := hide hm
  have HX4 := hide hx
  have HI4 := hide hi
  clear hm hx hi
  have H_f_4 := hide (H_f_3.out.ext HM3.out.inv HX4.out)
  clear H_f_3
  have H_g_4 := hide (H_g_3.out.ext HM3.out.inv HX4.out)
  clear H_g_3
  have H_v_4 := hide (H_v_3.out.ext HM3.out.inv HX4.out)
  clear H_v_3
  clear HI3
  clear HM3 HX4 hnf3
  obtain rfl : r2 = r4 := (isF_eq HM4.out.inv HI4.out H_v_4.out (id_not _)).symm
  clear HI4
  go_wp2_with (go_at_call 34; refine (got_walk _ _).mono ?_; rintro e w' ⟨rfl, rfl⟩)
  refine (not_rq HLT.out six_new HM4.out hnf4 (by omega) H_f_4.out).mono ?_
  rintro e w5 ⟨r5, nb5, cap5, A5, K5, T5, rfl, hm, hnf5, hx, hi⟩
  have HM5 := hide hm
  have HX5 := hide hx
  have HI5 := hide hi
  clear hm hx hi
  have H_f_5 := hide (H_f_4.out.ext HM4.out.inv HX5.out)
  clear H_f_4
  have H_g_5 := hide (H_g_4.out.ext HM4.out.inv HX5.out)
  clear H_g_4
  have H_v_5 := hide (H_v_4.out.ext HM4.out.inv HX5.out)
  clear H_v_4
  clear HM4 HX5 hnf4
  go_wp2_with (go_at_call 34; refine (got_walk _ _).mono ?_; rintro e w' ⟨rfl, rfl⟩)
  refine (not_rq HLT.out six_new HM5.out hnf5 (by omega) H_g_5.out).mono ?_
  rintro e w6 ⟨r6, nb6, cap6, A6, K6, T6, rfl, hm, hnf6, hx, hi⟩
  have HM6 := hide hm
  have HX6 := hide hx
  have HI6 := hide hi
  clear hm hx hi
  have H_f_6 := hide (H_f_5.out.ext HM5.out.inv HX6.out)
  clear H_f_5
  have H_g_6 := hide (H_g_5.out.ext HM5.out.inv HX6.out)
  clear H_g_5
  have H_v_6 := hide (H_v_5.out.ext HM5.out.inv HX6.out)
  clear H_v_5
  have H_nf_6 := hide (HI5.out.ext HM5.out.inv HX6.out)
  clear HI5
  clear HM5 HX6 hnf5
  go_wp2_with (go_at_call 34; refine (got_walk _ _).mono ?_; rintro e w' ⟨rfl, rfl⟩)
  refine (and_rq HLT.out six_new HM6.out hnf6 (by omega) H_f_6.out H_g_6.out).mono ?_
  rintro e w7 ⟨r7, nb7, cap7, A7, K7, T7, rfl, hm, hnf7, hx, hi⟩
  have HM7 := hide hm
  have HX7 := hide hx
  have HI7 := hide hi
  clear hm hx hi
  have H_f_7 := hide (H_f_6.out.ext HM6.out.inv HX7.out)
  clear H_f_6
  have H_g_7 := hide (H_g_6.out.ext HM6.out.inv HX7.out)
  clear H_g_6
  have H_v_7 := hide (H_v_6.out.ext HM6.out.inv HX7.out)
  clear H_v_6
  have H_nf_7 := hide (H_nf_6.out.ext HM6.out.inv HX7.out)
  clear H_nf_6
  have H_ng_7 := hide (HI6.out.ext HM6.out.inv HX7.out)
  clear HI6
  clear HM6 HX7 hnf6
  go_wp2_with (go_at_call 34; refine (got_walk _ _).mono ?_; rintro e w' ⟨rfl, rfl⟩)
  refine (or_rq HLT.out six_new HM7.out hnf7 (by omega) H_f_7.out H_g_7.out).mono ?_
  rintro e w8 ⟨r8, nb8, cap8, A8, K8, T8, rfl, hm, hnf8, hx, hi⟩
  have HM8 := hide hm
  have HX8 := hide hx
  have HI8 := hide hi
  clear hm hx hi
  have H_f_8 := hide (H_f_7.out.ext HM7.out.inv HX8.out)
  clear H_f_7
  have H_g_8 := hide (H_g_7.out.ext HM7.out.inv HX8.out)
  clear H_g_7
  have H_v_8 := hide (H_v_7.out.ext HM7.out.inv HX8.out)
  clear H_v_7
  have H_nf_8 := hide (H_nf_7.out.ext HM7.out.inv HX8.out)
  clear H_nf_7
  have H_ng_8 := hide (H_ng_7.out.ext HM7.out.inv HX8.out)
  clear H_ng_7
  have H_an_8 := hide (HI7.out.ext HM7.out.inv HX8.out)
  clear HI7
  clear HM7 HX8 hnf7
  go_wp2_with (go_at_call 34; refine (got_walk _ _).mono ?_; rintro e w' ⟨rfl, rfl⟩)
  refine (not_rq HLT.out six_new HM8.out hnf8 (by omega) H_an_8.out).mono ?_
  rintro e w9 ⟨r9, nb9, cap9, A9, K9, T9, rfl, hm, hnf9, hx, hi⟩
  have HM9 := hide hm
  have HX9 := hide hx
  have HI9 := hide hi
  clear hm hx hi
  have H_f_9 := hide (H_f_8.out.ext HM8.out.inv HX9.out)
  clear H_f_8
  have H_g_9 := hide (H_g_8.out.ext HM8.out.inv HX9.out)
  clear H_g_8
  have H_v_9 := hide (H_v_8.out.ext HM8.out.inv HX9.out)
  clear H_v_8
  have H_nf_9 := hide (H_nf_8.out.ext HM8.out.inv HX9.out)
  clear H_nf_8
  have H_ng_9 := hide (H_ng_8.out.ext HM8.out.inv HX9.out)
  clear H_ng_8
  have H_an_9 := hide (H_an_8.out.ext HM8.out.inv HX9.out)
  clear H_an_8
  have H_or_9 := hide (HI8.out.ext HM8.out.inv HX9.out)
  clear HI8
  clear HM8 HX9 hnf8
  go_wp2_with (go_at_call 34; refine (got_walk _ _).mono ?_; rintro e w' ⟨rfl, rfl⟩)
  refine (or_rq HLT.out six_new HM9.out hnf9 (by omega) H_nf_9.out H_ng_9.out).mono ?_
  rintro e w10 ⟨r10, nb10, cap10, A10, K10, T10, rfl, hm, hnf10, hx, hi⟩
  have HM10 := hide hm
  have HX10 := hide hx
  have HI10 := hide hi
  clear hm hx hi
  have H_f_10 := hide (H_f_9.out.ext HM9.out.inv HX10.out)
  clear H_f_9
  have H_g_10 := hide (H_g_9.out.ext HM9.out.inv HX10.out)
  clear H_g_9
  have H_v_10 := hide (H_v_9.out.ext HM9.out.inv HX10.out)
  clear H_v_9
  have H_nf_10 := hide (H_nf_9.out.ext HM9.out.inv HX10.out)
  clear H_nf_9
  clear H_ng_9
  have H_an_10 := hide (H_an_9.out.ext HM9.out.inv HX10.out)
  clear H_an_9
  have H_or_10 := hide (H_or_9.out.ext HM9.out.inv HX10.out)
  clear H_or_9
  have H_t3_10 := hide (HI9.out.ext HM9.out.inv HX10.out)
  clear HI9
  clear HM9 HX10 hnf9
  obtain rfl : r9 = r10 := (isF_eq HM10.out.inv HI10.out H_t3_10.out ((id_demorgan _ _).symm)).symm
  clear HI10
  go_wp2_with (go_at_call 34; refine (got_walk _ _).mono ?_; rintro e w' ⟨rfl, rfl⟩)
  refine (and_rq HLT.out six_new HM10.out hnf10 (by omega) H_f_10.out H_nf_10.out).mono ?_
  rintro e w11 ⟨r11, nb11, cap11, A11, K11, T11, rfl, hm, hnf11, hx, hi⟩
  have HM11 := hide hm
  have HX11 := hide hx
  have HI11 := hide hi
  clear hm hx hi
  have H_f_11 := hide (H_f_10.out.ext HM10.out.inv HX11.out)
  clear H_f_10
  have H_g_11 := hide (H_g_10.out.ext HM10.out.inv HX11.out)
  clear H_g_10
  have H_v_11 := hide (H_v_10.out.ext HM10.out.inv HX11.out)
  clear H_v_10
  have H_nf_11 := hide (H_nf_10.out.ext HM10.out.inv HX11.out)
  clear H_nf_10
  have H_an_11 := hide (H_an_10.out.ext HM10.out.inv HX11.out)
  clear H_an_10
  have H_or_11 := hide (H_or_10.out.ext HM10.out.inv HX11.out)
  clear H_or_10
  clear H_t3_10
  clear HM10 HX11 hnf10
  obtain rfl : 0 = r11 := (isF_eq HM11.out.inv HI11.out (IsF.zero HM11.out.inv) (id_and_not _)).symm
  clear HI11
  go_wp2_with (go_at_call 34; refine (got_walk _ _).mono ?_; rintro e w' ⟨rfl, rfl⟩)
  refine (or_rq HLT.out six_new HM11.out hnf11 (by omega) H_f_11.out H_or_11.out).mono ?_
  rintro e w12 ⟨r12, nb12, cap12, A12, K12, T12, rfl, hm, hnf12, hx, hi⟩
  have HM12 := hide hm
  have HX12 := hide hx
  have HI12 := hide hi
  clear hm hx hi
  have H_f_12 := hide (H_f_11.out.ext HM11.out.inv HX12.out)
  clear H_f_11
  have H_g_12 := hide (H_g_11.out.ext HM11.out.inv HX12.out)
  clear H_g_11
  have H_v_12 := hide (H_v_11.out.ext HM11.out.inv HX12.out)
  clear H_v_11
  have H_nf_12 := hide (H_nf_11.out.ext HM11.out.inv HX12.out)
  clear H_nf_11
  have H_an_12 := hide (H_an_11.out.ext HM11.out.inv HX12.out)
  clear H_an_11
  have H_or_12 := hide (H_or_11.out.ext HM11.out.inv HX12.out)
  clear H_or_11
  clear HM11 HX12 hnf11
  obtain rfl : r8 = r12 := (isF_eq HM12.out.inv HI12.out H_or_12.out (id_or_or _ _)).symm
  clear HI12
  go_wp2_with (go_at_call 34; refine (got_walk _ _).mono ?_; rintro e w' ⟨rfl, rfl⟩)
  refine (and_rq HLT.out six_new HM12.out hnf12 (by omega) H_an_12.out H_g_12.out).mono ?_
  rintro e w13 ⟨r13, nb13, cap13, A13, K13, T13, rfl, hm, hnf13, hx, hi⟩
  have HM13 := hide hm
  have HX13 := hide hx
  have HI13 := hide hi
  clear hm hx hi
  have H_f_13 := hide (H_f_12.out.ext HM12.out.inv HX13.out)
  clear H_f_12
  have H_g_13 := hide (H_g_12.out.ext HM12.out.inv HX13.out)
  clear H_g_12
  have H_v_13 := hide (H_v_12.out.ext HM12.out.inv HX13.out)
  clear H_v_12
  have H_nf_13 := hide (H_nf_12.out.ext HM12.out.inv HX13.out)
  clear H_nf_12
  have H_an_13 := hide (H_an_12.out.ext HM12.out.inv HX13.out)
  clear H_an_12
  clear H_or_12
  clear HM12 HX13 hnf12
  obtain rfl : r7 = r13 := (isF_eq HM13.out.inv HI13.out H_an_13.out (id_and_and _ _)).symm
  clear HI13
  go_wp2_with (go_at_call 34; refine (got_walk _ _).mono ?_; rintro e w' ⟨rfl, rfl⟩)
  refine (exists_rq HLT.out six_new HM13.out hnf13 (by omega) H_f_13.out iv hi6).mono ?_
  rintro e w14 ⟨r14, nb14, cap14, A14, K14, T14, rfl, hm, hnf14, hx, hi⟩
  have HM14 := hide hm
  have HX14 := hide hx
  have HI14 := hide hi
  clear hm hx hi
  have H_f_14 := hide (H_f_13.out.ext HM13.out.inv HX14.out)
  clear H_f_13
  clear H_g_13
  have H_v_14 := hide (H_v_13.out.ext HM13.out.inv HX14.out)
  clear H_v_13
  have H_nf_14 := hide (H_nf_13.out.ext HM13.out.inv HX14.out)
  clear H_nf_13
  clear H_an_13
  clear HM13 HX14 hnf13
  go_wp2_with (go_at_call 34; refine (got_walk _ _).mono ?_; rintro e w' ⟨rfl, rfl⟩)
  refine (swap_rq HLT.out six_new HM14.out hnf14 (by omega) H_f_14.out iv jv hi6 hj6).mono ?_
  rintro e w15 ⟨r15, nb15, cap15, A15, K15, T15, rfl, hm, hnf15, hx, hi⟩
  have HM15 := hide hm
  have HX15 := hide hx
  have HI15 := hide hi
  clear hm hx hi
  have H_f_15 := hide (H_f_14.out.ext HM14.out.inv HX15.out)
  clear H_f_14
  have H_v_15 := hide (H_v_14.out.ext HM14.out.inv HX15.out)
  clear H_v_14
  have H_nf_15 := hide (H_nf_14.out.ext HM14.out.inv HX15.out)
  clear H_nf_14
  have H_ex_15 := hide (HI14.out.ext HM14.out.inv HX15.out)
  clear HI14
  clear HM14 HX15 hnf14
  have HFB := hide (isF_below HM15.out.inv H_f_15.out (HM15.out.pow six_new).1)
  go_wp2_with (go_at_call 34; refine (got_walk _ _).mono ?_; rintro e w' ⟨rfl, rfl⟩)
  refine (count_ms six_new HM15.out H_f_15.out).mono ?_
  rintro e wx15_f ⟨rfl, hm⟩
  clear HM15
  have HM15 := hide hm
  clear hm
  go_wp2_with (go_at_call 34; refine (got_walk _ _).mono ?_; rintro e w' ⟨rfl, rfl⟩)
  refine (count_ms six_new HM15.out H_nf_15.out).mono ?_
  rintro e wx15_nf ⟨rfl, hm⟩
  clear HM15
  have HM15 := hide hm
  clear hm
  have HCN := hide (id_cnt_not F)
  have hcc : ((cntF 6 6 F : Nat) : Int) + ((cntF 6 6 (notF F) : Nat) : Int) = 64 := by have := HCN.out; omega
  have hcc' : (((cntF 6 6 F : Nat) : Int) + ((cntF 6 6 (notF F) : Nat) : Int) == 64) = true := by rw [hcc]; rfl
  have hc1 := cntF_le 6 6 F
  have hc2 := cntF_le 6 6 (notF F)
  have HCS := hide (id_cnt_swap F HFB.out iv jv hi6 hj6)
  clear hcc HCN HFB
  have h64 : (2 : Nat) ^ 6 = 64 := rfl
  rw [h64] at hc1 hc2
  clear h64
  generalize cntF 6 6 F = cc at *
  generalize cntF 6 6 (notF F) = cd at *
  have hlen : ((A15.ns.length : Nat) : Int) ≤ 20000 := by have := HM15.out.cnt; have : A15.ns.length ≤ 2 + _ := this; omega
  have hlen' : (((A15.ns.length : Nat) : Int) == 40000) = false := by simp; omega
  go_wp2_with (go_at_call 34; refine (got_walk _ _).mono ?_; rintro e w' ⟨rfl, rfl⟩)
  refine (opSize_walk HM15.out.ar).mono ?_
  rintro e w' ⟨rfl, rfl⟩
  generalize hgl : A15.ns.length = LL at hlen hlen' ⊢
  clear hgl
  go_wp2_with (go_at_call 34; refine (got_walk _ _).mono ?_; rintro e w' ⟨rfl, rfl⟩)
  refine (or_rq HLT.out six_new HM15.out hnf15 (by omega) H_f_15.out H_ex_15.out).mono ?_
  rintro e w16 ⟨r16, nb16, cap16, A16, K16, T16, rfl, hm, hnf16, hx, hi⟩
  have HM16 := hide hm
  have HX16 := hide hx
  have HI16 := hide hi
  clear hm hx hi
  have H_f_16 := hide (H_f_15.out.ext HM15.out.inv HX16.out)
  clear H_f_15
  have H_v_16 := hide (H_v_15.out.ext HM15.out.inv HX16.out)
  clear H_v_15
  clear H_nf_15
  have H_ex_16 := hide (H_ex_15.out.ext HM15.out.inv HX16.out)
  clear H_ex_15
  have H_sw_16 := hide (HI15.out.ext HM15.out.inv HX16.out)
  clear HI15
  clear HM15 HX16 hnf15
  obtain rfl : r14 = r16 := (isF_eq HM16.out.inv HI16.out H_ex_16.out (id_or_ex _ _)).symm
  clear HI16
  go_wp2_with (go_at_call 34; refine (got_walk _ _).mono ?_; rintro e w' ⟨rfl, rfl⟩)
  refine (exists_rq HLT.out six_new HM16.out hnf16 (by omega) H_ex_16.out iv hi6).mono ?_
  rintro e w17 ⟨r17, nb17, cap17, A17, K17, T17, rfl, hm, hnf17, hx, hi⟩
  have HM17 := hide hm
  have HX17 := hide hx
  have HI17 := hide hi
  clear hm hx hi
  have H_f_17 := hide (H_f_16.out.ext HM16.out.inv HX17.out)
  clear H_f_16
  have H_v_17 := hide (H_v_16.out.ext HM16.out.inv HX17.out)
  clear H_v_16
  have H_ex_17 := hide (H_ex_16.out.ext HM16.out.inv HX17.out)
  clear H_ex_16
  have H_sw_17 := hide (H_sw_16.out.ext HM16.out.inv HX17.out)
  clear H_sw_16
  clear HM16 HX17 hnf16
  obtain rfl : r14 = r17 := (isF_eq HM17.out.inv HI17.out H_ex_17.out (id_ex_ex _ _)).symm
  clear HI17
  go_wp2_with (go_at_call 34; refine (got_walk _ _).mono ?_; rintro e w' ⟨rfl, rfl⟩)
  refine (swap_rq HLT.out six_new HM17.out hnf17 (by omega) H_sw_17.out iv jv hi6 hj6).mono ?_
  rintro e w18 ⟨r18, nb18, cap18, A18, K18, T18, rfl, hm, hnf18, hx, hi⟩
  have HM18 := hide hm
  have HX18 := hide hx
  have HI18 := hide hi
  clear hm hx hi
  have H_f_18 := hide (H_f_17.out.ext HM17.out.inv HX18.out)
  clear H_f_17
  have H_v_18 := hide (H_v_17.out.ext HM17.out.inv HX18.out)
  clear H_v_17
  have H_ex_18 := hide (H_ex_17.out.ext HM17.out.inv HX18.out)
  clear H_ex_17
  have H_sw_18 := hide (H_sw_17.out.ext HM17.out.inv HX18.out)
  clear H_sw_17
  clear HM17 HX18 hnf17
  obtain rfl : f = r18 := (isF_eq HM18.out.inv HI18.out H_f_18.out (id_swap_swap _ _ _)).symm
  clear HI18
  have HCT : Hid (cntF 6 6 (swapF F iv jv) = cc) := HCS
  clear HCS
  go_wp2_with (go_at_call 34; refine (got_walk _ _).mono ?_; rintro e w' ⟨rfl, rfl⟩)
  refine (count_ms six_new HM18.out H_sw_18.out).mono ?_
  rintro e wx18_sw ⟨rfl, hm⟩
  clear HM18
  have HM18 := hide hm
  clear hm
  rw [HCT.out]
  go_wp2_with (go_at_call 34; refine (got_walk _ _).mono ?_; rintro e w' ⟨rfl, rfl⟩)
  refine (exists_rq HLT.out six_new HM18.out hnf18 (by omega) H_sw_18.out jv hj6).mono ?_
  rintro e w19 ⟨r19, nb19, cap19, A19, K19, T19, rfl, hm, hnf19, hx, hi⟩
  have HM19 := hide hm
  have HX19 := hide hx
  have HI19 := hide hi
  clear hm hx hi
  have H_f_19 := hide (H_f_18.out.ext HM18.out.inv HX19.out)
  clear H_f_18
  have H_v_19 := hide (H_v_18.out.ext HM18.out.inv HX19.out)
  clear H_v_18
  have H_ex_19 := hide (H_ex_18.out.ext HM18.out.inv HX19.out)
  clear H_ex_18
  clear H_sw_18
  clear HM18 HX19 hnf18
  go_wp2_with (go_at_call 34; refine (got_walk _ _).mono ?_; rintro e w' ⟨rfl, rfl⟩)
  refine (swap_rq HLT.out six_new HM19.out hnf19 (by omega) H_ex_19.out iv jv hi6 hj6).mono ?_
  rintro e w20 ⟨r20, nb20, cap20, A20, K20, T20, rfl, hm, hnf20, hx, hi⟩
  have HM20 := hide hm
  have HX20 := hide hx
  have HI20 := hide hi
  clear hm hx hi
  have H_f_20 := hide (H_f_19.out.ext HM19.out.inv HX20.out)
  clear H_f_19
  have H_v_20 := hide (H_v_19.out.ext HM19.out.inv HX20.out)
  clear H_v_19
  clear H_ex_19
  have H_t11_20 := hide (HI19.out.ext HM19.out.inv HX20.out)
  clear HI19
  clear HM19 HX20 hnf19
  obtain rfl : r19 = r20 := (isF_eq HM20.out.inv HI20.out H_t11_20.out ((id_ex_swap _ _ _).symm)).symm
  clear HI20
  go_wp2_with (go_at_call 34; refine (got_walk _ _).mono ?_; rintro e w' ⟨rfl, rfl⟩)
  refine (ite_rq HLT.out six_new HM20.out hnf20 (by omega) H_v_20.out H_f_20.out H_f_20.out).mono ?_
  rintro e w21 ⟨r21, nb21, cap21, A21, K21, T21, rfl, hm, hnf21, hx, hi⟩
  have HM21 := hide hm
  have HX21 := hide hx
  have HI21 := hide hi
  clear hm hx hi
  have H_f_21 := hide (H_f_20.out.ext HM20.out.inv HX21.out)
  clear H_f_20
  have H_v_21 := hide (H_v_20.out.ext HM20.out.inv HX21.out)
  clear H_v_20
  clear H_t11_20
  clear HM20 HX21 hnf20
  obtain rfl : f = r21 := (isF_eq HM21.out.inv HI21.out H_f_21.out (id_ite _ _)).symm
  clear HI21
  have HE := hide (HB.out.trans (HA.out.frmBelow HM21.out.fm))
  go_wp2_with (go_at_call 34; refine (got_walk _ _).mono ?_; rintro e w' ⟨rfl, rfl⟩)
  go_ret
  exact ⟨by simp, HE.out⟩

theorem Try.cellsOp : Try.prog.cellsOf 91 = 4 := by kernel_rfl

section
variable {H : Type} {enc : TypeId × Value → H} {w : World} {base : Nat} {spare : Nat → Bool} {held : Bool} {r : Reach} {b0 : Nat}
set_option maxRecDepth 100000 in
theorem read_op {n : Nat} {cs : List Value} {y : DataW H × List MemPlace} (h : DataW.trod enc Try.prog w base spare held n 91 cs = some y) : ∃ r : OpV, r.ok ∧ cs = r.cells := by
  obtain ⟨xs, n', _, _, hlen, hxl, hf⟩ := DataW.trod_struct Try.underlying91 h
  rw [Try.cellsOp] at hlen
  match cs, hlen with
  | [c0, c1, c2, c3], _ =>
    have h0 := hf 0 _ rfl
    have h1 := hf 1 _ rfl
    have h2 := hf 2 _ rfl
    have h3 := hf 3 _ rfl
    obtain ⟨y0, e0⟩ := get_some (xs := xs) (i := 0) (by rw [hxl]; decide)
    obtain ⟨y1, e1⟩ := get_some (xs := xs) (i := 1) (by rw [hxl]; decide)
    obtain ⟨y2, e2⟩ := get_some (xs := xs) (i := 2) (by rw [hxl]; decide)
    obtain ⟨y3, e3⟩ := get_some (xs := xs) (i := 3) (by rw [hxl]; decide)
    rw [e0] at h0
    rw [e1] at h1
    rw [e2] at h2
    rw [e3] at h3
    simp [Try.cellsInt] at h0 h1 h2 h3
    obtain ⟨a, rfl, ha⟩ := trod_i64 h0
    obtain ⟨b, rfl, hb⟩ := trod_i64 h1
    obtain ⟨c, rfl, hc⟩ := trod_i64 h2
    obtain ⟨d, rfl, hd⟩ := trod_i64 h3
    exact ⟨⟨a, b, c, d⟩, ⟨ha, hb, hc, hd⟩, rfl⟩
set_option maxRecDepth 100000 in
theorem open_ops {v : Value} {d : DataW H} {p : List MemPlace} (hv : Value.okWide Try.prog w r b0 73 v) (h : DataW.Trod enc Try.prog w base spare held 73 v d p) :
    ∃ (A : Option Addr) (n c : Nat) (l : List OpV), v = .slice A n c ∧ n ≤ c ∧ c ≤ maxLen ∧ SlAt OpV.cells 4 w w.heap.size A n l ∧ (∀ r ∈ l, r.ok) ∧ (n = 0 ∨ ∃ elems sp, d = .slice elems sp ∧ elems.length = n) :=
  open_elems OpV.cells OpV.ok 4 Try.underlying73 Try.cellsOp (by omega) OpV.len (fun _ _ _ h => read_op h) hv h
end

set_option maxRecDepth 100000 in
theorem bddLaws_lifted (os : Os) (started : os.Started) (H : Type) (enc : TypeId × Value → H) :
    ReturnsInHanded {} Try.checked os 9 .any (Rows.bddLawsSpec.pre6 enc Try.prog Try.f9 Rows.bddLawsRow.domain false) (Rows.bddLawsSpec.post enc Try.prog Try.f9 false true false false) :=
  law_lifted (C := Try.checked) (tb := 4) Try.own started (by kernel_rfl) Try.func9 Try.laidOut (by kernel_rfl) rfl (by kernel_rfl) Try.underlying4
    (fun ds h => by
      match ds, h with
      | [_, _, _, _], _ => exact ⟨rfl, rfl, rfl⟩)
    (ChangeSpec.witness6 (enc := enc) (C := Try.checked) false ⟨#[], #[.slice none 0 0, .slice none 0 0, .int .i64 0, .int .i64 0], []⟩ 8 (by kernel_rfl) (by kernel_rfl) (by kernel_rfl) (by kernel_rfl))
    (fun W base args ds p hval0 hA0 hlt hsz => by
      have hval : ∀ (j : Nat) t v, Try.f9.params[j]? = some t → args[j]? = some v → Value.okWide Try.prog W .any base t v := hval0
      have hA : DataW.TrodAll enc Try.prog W 0 (fun _ => true) true Try.f9.params.toList args.toList ds p := hA0
      rw [Try.params9] at hA hval
      obtain ⟨v0, vs0, d0, ds0, p0, q0, hargs, rfl, rfl, h0, r0⟩ := args_cons hA
      obtain ⟨v1, vs1, d1, ds1, p1, q1, rfl, rfl, rfl, h1, r1⟩ := args_cons r0
      obtain ⟨v2, vs2, d2, ds2, p2, q2, rfl, rfl, rfl, h2, r2⟩ := args_cons r1
      obtain ⟨v3, vs3, d3, ds3, p3, q3, rfl, rfl, rfl, h3, r3⟩ := args_cons r2
      obtain ⟨rfl, rfl, rfl⟩ := args_nil r3
      obtain rfl : args = #[v0, v1, v2, v3] := arr_eq hargs
      obtain ⟨A, n, c, l, rfl, hnc, hcm, hl, hok, _⟩ := open_ops (hval 0 _ v0 rfl rfl) h0
      obtain ⟨A', n', c', l', rfl, hnc', hcm', hl', hok', _⟩ := open_ops (hval 1 _ v1 rfl rfl) h1
      obtain ⟨x, rfl, hx⟩ := open_i64 (hval 2 _ v2 rfl rfl) h2
      obtain ⟨y, rfl, hy⟩ := open_i64 (hval 3 _ v3 rfl rfl) h3
      exact bddLaws_walk l l' A A' n n' c c' x y W (Nat.le_trans hnc hcm) (Nat.le_trans hnc' hcm') hnc hnc' hx hy hl hl' hok hok')

theorem bddLaws_holds : Rows.BddLawsSaid :=
  OpenClaim.holds_of_wide 9 Try.f9 rfl rfl rfl rfl rfl rfl rfl ⟨rfl, rfl, rfl, rfl, rfl⟩ rfl rfl rfl rfl rfl (by kernel_rfl) Try.func9 (by kernel_rfl)
    (of_decide_eq_true (by kernel_rfl)) (by unfold Func.isWrapper; first | (rw [if_pos (by decide +kernel)]; kernel_rfl) | (rw [if_neg (by decide +kernel)]; exact ⟨rfl, rfl⟩))
    (fun os started H enc _ => bddLaws_lifted os started H enc)
end Go.Proofs.Ytoanimmlpfchjaa
