/- The arena's Exists, Swap. -/
import Derived.Test.YtoanimmlpfchjaaMS
set_option linter.unusedVariables false
set_option linter.unusedSimpArgs false
namespace Go.Proofs.Ytoanimmlpfchjaa
open Go.RowKit Go.Maps Bdd

def existsF (F : Bdd.Fn) (i : Nat) : Bdd.Fn := iteF (restr F i false) (fun _ => true) (restr F i true)
def swapF (F : Bdd.Fn) (i j : Nat) : Bdd.Fn := fun x => F (upd (upd x j (x i)) i (x j))

theorem ints2 (w : World) (B N : Nat) (hB : N < B) (i j : Int) (hi : -9223372036854775808 ≤ i ∧ i ≤ 9223372036854775807) (hj : -9223372036854775808 ≤ j ∧ j ≤ 9223372036854775807) (t : TypeId) {w1 : World} (h : w1.heap[N]? = some (.cells #[.int .i64 i, .int .i64 j] t (0, 0))) :
    IntsAt w1 B (some ⟨N, 0, none⟩) 2 [i, j] := by
  refine ⟨rfl, fun x hx => ?_, fun _ => ⟨_, 0, rfl, hB, fun k x hx => ?_⟩⟩
  · simp only [List.mem_cons, List.mem_nil_iff, or_false] at hx
    rcases hx with rfl | rfl
    · exact hi
    · exact hj
  · rw [cell_of_row _ _ _ _ _ _ h]
    match k, hx with
    | 0, hx => cases hx; rfl
    | 1, hx => cases hx; rfl
theorem ints1N (N B : Nat) (hB : N < B) (i : Int) (hi : -9223372036854775808 ≤ i ∧ i ≤ 9223372036854775807) (t : TypeId) {w1 : World} (h : w1.heap[N]? = some (.cells #[.int .i64 i] t (0, 0))) :
    IntsAt w1 B (some ⟨N, 0, none⟩) 1 [i] := by
  refine ⟨rfl, fun x hx => ?_, fun _ => ⟨_, 0, rfl, hB, fun k x hx => ?_⟩⟩
  · simp only [List.mem_cons, List.mem_nil_iff, or_false] at hx
    rw [hx]; exact hi
  · rw [cell_of_row _ _ _ _ _ _ h]
    match k, hx with
    | 0, hx => cases hx; rfl


/-- What stands behind ask: the arena, and the boxes. -/
theorem ask2 {w : World} {B g nb kb ib cap : Nat} {A : St} {K T : Tri → Option Value} (h : ArenaAt w B g nb kb ib cap A K T) (o0 o1 : Obj) : RowKit.Below w.heap.size w ((w.alloc o0).alloc o1) ∧ ArenaAt ((w.alloc o0).alloc o1) B g nb kb ib cap A K T := by
  have hb : RowKit.Below w.heap.size w ((w.alloc o0).alloc o1) := ((RowKit.Below.refl _ _).alloc (Nat.le_refl _) _).alloc (by simp) _
  exact ⟨hb, h.below hb⟩

set_option maxRecDepth 100000 in
set_option maxHeartbeats 8000000 in
theorem opExists_walk {w : World} {B g nb kb ib cap : Nat} {A : St} {K T : Tri → Option Value} (h : ArenaAt w B g nb kb ib cap A K T) (hA : A.full = false) (f i : Nat) (F : Bdd.Fn) (hf : IsF A f F) (hi : i < A.vars) :
    Calls Try.prog 40 #[.pointer (some ⟨g, 0, none⟩), .int .i64 f, .int .i64 i] w (OpQ w B g nb kb ib A (existsF F i) (3 * 2 ^ A.vars)) := by
  have hlen := h.lenle
  have hvs := h.vs
  obtain ⟨hb0, ha0⟩ := ask2 h (.cells #[.int .i64 f] 3) (.cells #[.int .i64 i] 3)
  have hfl := hf.1
  have e1 : ((w.alloc (.cells #[.int .i64 f] 3)).alloc (.cells #[.int .i64 i] 3)).heap[w.heap.size]? = some (.cells #[.int .i64 f] 3 (0, 0)) := (RowKit.Below.heap_alloc _ _ _ (by simp)).trans (heap_alloc_new w _)
  have e2 : ((w.alloc (.cells #[.int .i64 f] 3)).alloc (.cells #[.int .i64 i] 3)).heap[w.heap.size + 1]? = some (.cells #[.int .i64 i] 3 (0, 0)) := by
    have := heap_alloc_new (w.alloc (.cells #[.int .i64 f] 3)) (.cells #[.int .i64 i] 3)
    simpa using this
  have HI1 := hide (ints1N w.heap.size ((w.alloc (.cells #[.int .i64 f] 3)).alloc (.cells #[.int .i64 i] 3)).heap.size (by simp; omega) f (by omega) 3 e1)
  have HI2 := hide (ints1N (w.heap.size + 1) ((w.alloc (.cells #[.int .i64 f] 3)).alloc (.cells #[.int .i64 i] 3)).heap.size (by simp) i (by omega) 3 e2)
  have HOK := hide (show AskOk A [(f : Int)] [(i : Int)] from ⟨fun x hx => by
    simp only [List.mem_cons, List.mem_nil_iff, or_false] at hx
    rw [hx]; omega, fun x hx => by
    simp only [List.mem_cons, List.mem_nil_iff, or_false] at hx
    rw [hx]; omega⟩)
  have HA0 := hide ha0
  have HB0 := hide hb0
  have HM0 := hide (MS.base hb0 (MS.refl ha0))
  have HLT := hide h.lts.2.1
  have HWF := hide (WF.of hf)
  have HI := hide hi
  have HAF := hide hA
  have HINV := hide h.inv
  clear h hf hi hA e1 e2 hb0 ha0 hfl
  go_enter Try.func40, Try.ntmps40
  go_wp2_with fail
  refine (ask_walk HA0.out _ _ _ _ 1 1 1 1 (by omega) (by omega) HI1.out HI2.out).mono ?_
  rintro e wa ⟨he, _, hb⟩
  obtain rfl := he HOK.out
  have HM1 := hide (HM0.out.below hb)
  clear hb he HI1 HI2 HA0 HM0
  go_wp2_with fail
  refine (put_ms HLT.out HM1.out HWF.out i false HI.out).mono ?_
  rintro e wb ⟨r2, nb2, cap2, A2, K2, T2, rfl, hm2, hx2, hw2⟩
  have HM2 := hide hm2
  have HX2 := hide hx2
  have HR2 := hide hw2
  clear hm2 hx2 hw2
  have HWF2 := hide (HWF.out.ext HM1.out.inv HX2.out)
  go_wp2_with fail
  refine (put_ms HLT.out HM2.out HWF2.out i true HI.out).mono ?_
  rintro e wc ⟨r3, nb3, cap3, A3, K3, T3, rfl, hm3, hx3, hw3⟩
  have HM3 := hide hm3
  have HX3 := hide hx3
  have HR3 := hide hw3
  clear hm3 hx3 hw3
  have HR2b := hide (HR2.out.ext HM2.out.inv HX3.out)
  have HO3 := hide (WF.of (IsF.one HM3.out.inv))
  have HC : Hid (Calls Try.prog 90 #[.pointer (some ⟨g, 0, none⟩), .int .i64 r2, .int .i64 1, .int .i64 r3] wc (MQ w B g nb kb ib A (0 + 2 ^ A.vars + 2 ^ A.vars + 2 ^ A.vars) A3 (iteF (restr F i false) (fun _ => true) (restr F i true)))) := hide (ite_ms HLT.out HM3.out HR2b.out HO3.out HR3.out)
  clear HM1 HM2 HX2 HX3 HWF2 HR2 HR2b HO3 HR3
  go_wp2_with fail
  refine HC.out.mono ?_
  rintro e wd ⟨r4, nb4, cap4, A4, K4, T4, rfl, hm4, hx4, hw4⟩
  have HM4 := hide hm4
  have HX4 := hide hx4
  have HR4 := hide hw4
  clear hm4 hx4 hw4
  go_wp2_with fail
  refine (done_walk HM4.out.ar r4).mono ?_
  rintro e we ⟨h1, h2, har, hfm⟩
  have HF := hide (HM4.out.done HLT.out HAF.out HR4.out h1 h2 har hfm)
  have ec : 0 + 2 ^ A.vars + 2 ^ A.vars + 2 ^ A.vars = 3 * 2 ^ A.vars := by omega
  rw [ec] at HF
  clear har hfm ec
  cases hfull : A4.full
  · obtain rfl := h2 hfull
    go_wp2
    go_ret2
    exact HF.out
  · obtain rfl := h1 hfull
    go_wp2
    go_ret2
    exact HF.out


set_option maxRecDepth 100000 in
set_option maxHeartbeats 8000000 in
theorem opSwap_same {w : World} {B g nb kb ib cap : Nat} {A : St} {K T : Tri → Option Value} (h : ArenaAt w B g nb kb ib cap A K T) (hA : A.full = false) (f i j : Nat) (F : Bdd.Fn) (hf : IsF A f F) (hi : i < A.vars) (hj : j < A.vars) (hij : i = j) (c : Nat) :
    Calls Try.prog 41 #[.pointer (some ⟨g, 0, none⟩), .int .i64 f, .int .i64 i, .int .i64 j] w (OpQ w B g nb kb ib A (swapF F i j) c) := by
  have hF : swapF F i j = F := by
    subst hij
    funext x
    simp only [swapF]
    congr 1
    funext u
    simp only [upd]
    split
    · rename_i e; rw [e]
    · rfl
  rw [hF]
  have hij' : ((i : Int) == (j : Int)) = true := by simp; omega
  clear hij hF
  have hlen := h.lenle
  have hvs := h.vs
  obtain ⟨hb0, ha0⟩ := ask2 h (.cells #[.int .i64 f] 3) (.cells #[.int .i64 i, .int .i64 j] 3)
  have hfl := hf.1
  have e1 : ((w.alloc (.cells #[.int .i64 f] 3)).alloc (.cells #[.int .i64 i, .int .i64 j] 3)).heap[w.heap.size]? = some (.cells #[.int .i64 f] 3 (0, 0)) := (RowKit.Below.heap_alloc _ _ _ (by simp)).trans (heap_alloc_new w _)
  have e2 : ((w.alloc (.cells #[.int .i64 f] 3)).alloc (.cells #[.int .i64 i, .int .i64 j] 3)).heap[w.heap.size + 1]? = some (.cells #[.int .i64 i, .int .i64 j] 3 (0, 0)) := by
    have := heap_alloc_new (w.alloc (.cells #[.int .i64 f] 3)) (.cells #[.int .i64 i, .int .i64 j] 3)
    simpa using this
  have HI1 := hide (ints1N w.heap.size ((w.alloc (.cells #[.int .i64 f] 3)).alloc (.cells #[.int .i64 i, .int .i64 j] 3)).heap.size (by simp; omega) f (by omega) 3 e1)
  have HI2 := hide (ints2 w ((w.alloc (.cells #[.int .i64 f] 3)).alloc (.cells #[.int .i64 i, .int .i64 j] 3)).heap.size (w.heap.size + 1) (by simp) i j (by omega) (by omega) 3 e2)
  have HOK := hide (show AskOk A [(f : Int)] [(i : Int), (j : Int)] from ⟨fun x hx => by
    simp only [List.mem_cons, List.mem_nil_iff, or_false] at hx
    rw [hx]; omega, fun x hx => by
    simp only [List.mem_cons, List.mem_nil_iff, or_false] at hx
    rcases hx with rfl | rfl <;> omega⟩)
  have HA0 := hide ha0
  have HB0 := hide hb0
  have HM0 := hide (MS.base hb0 (MS.refl ha0))
  have HLT := hide h.lts.2.1
  have HWF := hide (WF.of hf)
  have HAF := hide hA
  clear h hf hi hj hA e1 e2 hb0 ha0 hfl
  go_enter Try.func41, Try.ntmps41
  go_wp2_with fail
  refine (ask_walk HA0.out _ _ _ _ 1 2 1 2 (by omega) (by omega) HI1.out HI2.out).mono ?_
  rintro e wa ⟨he, _, hb⟩
  obtain rfl := he HOK.out
  have HM1 := hide ((HM0.out.below hb).more (Nat.zero_le c))
  clear hb he HI1 HI2 HA0 HM0
  have HF := hide (show OpQ w B g nb kb ib A F c (.returned (.tuple #[.int .i64 (f : Int), .int .i64 0])) wa from
    ⟨f, nb, cap, A, K, T, (doneSt_id HAF.out).symm ▸ HM1.out, HM1.out.inv, HWF.out, fun h => (by rw [HAF.out] at h; cases h), fun _ => rfl⟩)
  go_wp2
  go_ret2
  exact HF.out

set_option maxRecDepth 100000 in
set_option maxHeartbeats 8000000 in
theorem opSwap_diff {w : World} {B g nb kb ib cap : Nat} {A : St} {K T : Tri → Option Value} (h : ArenaAt w B g nb kb ib cap A K T) (hA : A.full = false) (f i j : Nat) (F : Bdd.Fn) (hf : IsF A f F) (hi : i < A.vars) (hj : j < A.vars) (hij : i ≠ j) :
    Calls Try.prog 41 #[.pointer (some ⟨g, 0, none⟩), .int .i64 f, .int .i64 i, .int .i64 j] w (OpQ w B g nb kb ib A (swapF F i j) (11 * 2 ^ A.vars)) := by
  have HFF := hide (show swapF F i j = iteF (fun x => x j) (iteF (fun x => x i) (restr (restr F i true) j true) (restr (restr F i true) j false)) (iteF (fun x => x i) (restr (restr F i false) j true) (restr (restr F i false) j false)) from by
    funext x
    simp only [swapF, iteF, restr]
    rcases Bool.eq_false_or_eq_true (x i) with h1 | h1 <;> rcases Bool.eq_false_or_eq_true (x j) with h2 | h2 <;> simp [h1, h2])
  rw [HFF.out]
  have hij' : ((i : Int) == (j : Int)) = false := by simp; omega
  clear hij
  have hlen := h.lenle
  have hvs := h.vs
  obtain ⟨hb0, ha0⟩ := ask2 h (.cells #[.int .i64 f] 3) (.cells #[.int .i64 i, .int .i64 j] 3)
  have hfl := hf.1
  have e1 : ((w.alloc (.cells #[.int .i64 f] 3)).alloc (.cells #[.int .i64 i, .int .i64 j] 3)).heap[w.heap.size]? = some (.cells #[.int .i64 f] 3 (0, 0)) := (RowKit.Below.heap_alloc _ _ _ (by simp)).trans (heap_alloc_new w _)
  have e2 : ((w.alloc (.cells #[.int .i64 f] 3)).alloc (.cells #[.int .i64 i, .int .i64 j] 3)).heap[w.heap.size + 1]? = some (.cells #[.int .i64 i, .int .i64 j] 3 (0, 0)) := by
    have := heap_alloc_new (w.alloc (.cells #[.int .i64 f] 3)) (.cells #[.int .i64 i, .int .i64 j] 3)
    simpa using this
  have HI1 := hide (ints1N w.heap.size ((w.alloc (.cells #[.int .i64 f] 3)).alloc (.cells #[.int .i64 i, .int .i64 j] 3)).heap.size (by simp; omega) f (by omega) 3 e1)
  have HI2 := hide (ints2 w ((w.alloc (.cells #[.int .i64 f] 3)).alloc (.cells #[.int .i64 i, .int .i64 j] 3)).heap.size (w.heap.size + 1) (by simp) i j (by omega) (by omega) 3 e2)
  have HOK := hide (show AskOk A [(f : Int)] [(i : Int), (j : Int)] from ⟨fun x hx => by
    simp only [List.mem_cons, List.mem_nil_iff, or_false] at hx
    rw [hx]; omega, fun x hx => by
    simp only [List.mem_cons, List.mem_nil_iff, or_false] at hx
    rcases hx with rfl | rfl <;> omega⟩)
  have HA0 := hide ha0
  have HB0 := hide hb0
  have HM0 := hide (MS.base hb0 (MS.refl ha0))
  have HLT := hide h.lts.2.1
  have HWF := hide (WF.of hf)
  have HAF := hide hA
  have HI := hide (And.intro hi hj)
  clear h hf hi hj hA e1 e2 hb0 ha0 hfl
  go_enter Try.func41, Try.ntmps41
  go_wp2_with fail
  refine (ask_walk HA0.out _ _ _ _ 1 2 1 2 (by omega) (by omega) HI1.out HI2.out).mono ?_
  rintro e wa ⟨he, _, hb⟩
  obtain rfl := he HOK.out
  have HM1 := hide (HM0.out.below hb)
  clear hb he HI1 HI2 HA0 HM0
  go_wp2_with fail
  refine (var_ms HLT.out HM1.out i HI.out.1).mono ?_
  rintro e w2 ⟨r2, nb2, cap2, A2, K2, T2, rfl, hm2, hx2, hw2⟩
  have HM2 := hide hm2
  have HX2 := hide hx2
  have HR2 := hide hw2
  clear hm2 hx2 hw2
  have HWF2 := hide (HWF.out.ext HM1.out.inv HX2.out)
  clear HM1 HX2 HWF
  go_wp2_with fail
  refine (var_ms HLT.out HM2.out j HI.out.2).mono ?_
  rintro e w3 ⟨r3, nb3, cap3, A3, K3, T3, rfl, hm3, hx3, hw3⟩
  have HM3 := hide hm3
  have HX3 := hide hx3
  have HR3 := hide hw3
  clear hm3 hx3 hw3
  have HR2_3 := hide (HR2.out.ext HM2.out.inv HX3.out)
  clear HR2
  have HWF2_3 := hide (HWF2.out.ext HM2.out.inv HX3.out)
  clear HWF2
  clear HM2 HX3
  go_wp2_with fail
  refine (put_ms HLT.out HM3.out HWF2_3.out i false HI.out.1).mono ?_
  rintro e w4 ⟨r4, nb4, cap4, A4, K4, T4, rfl, hm4, hx4, hw4⟩
  have HM4 := hide hm4
  have HX4 := hide hx4
  have HR4 := hide hw4
  clear hm4 hx4 hw4
  have HR2_3_4 := hide (HR2_3.out.ext HM3.out.inv HX4.out)
  clear HR2_3
  have HR3_4 := hide (HR3.out.ext HM3.out.inv HX4.out)
  clear HR3
  have HWF2_3_4 := hide (HWF2_3.out.ext HM3.out.inv HX4.out)
  clear HWF2_3
  clear HM3 HX4
  go_wp2_with fail
  refine (put_ms HLT.out HM4.out HWF2_3_4.out i true HI.out.1).mono ?_
  rintro e w5 ⟨r5, nb5, cap5, A5, K5, T5, rfl, hm5, hx5, hw5⟩
  have HM5 := hide hm5
  have HX5 := hide hx5
  have HR5 := hide hw5
  clear hm5 hx5 hw5
  have HR2_3_4_5 := hide (HR2_3_4.out.ext HM4.out.inv HX5.out)
  clear HR2_3_4
  have HR3_4_5 := hide (HR3_4.out.ext HM4.out.inv HX5.out)
  clear HR3_4
  have HR4_5 := hide (HR4.out.ext HM4.out.inv HX5.out)
  clear HR4
  clear HM4 HX5 HWF2_3_4
  go_wp2_with fail
  refine (put_ms HLT.out HM5.out HR4_5.out j true HI.out.2).mono ?_
  rintro e w6 ⟨r6, nb6, cap6, A6, K6, T6, rfl, hm6, hx6, hw6⟩
  have HM6 := hide hm6
  have HX6 := hide hx6
  have HR6 := hide hw6
  clear hm6 hx6 hw6
  have HR2_3_4_5_6 := hide (HR2_3_4_5.out.ext HM5.out.inv HX6.out)
  clear HR2_3_4_5
  have HR3_4_5_6 := hide (HR3_4_5.out.ext HM5.out.inv HX6.out)
  clear HR3_4_5
  have HR4_5_6 := hide (HR4_5.out.ext HM5.out.inv HX6.out)
  clear HR4_5
  have HR5_6 := hide (HR5.out.ext HM5.out.inv HX6.out)
  clear HR5
  clear HM5 HX6
  go_wp2_with fail
  refine (put_ms HLT.out HM6.out HR4_5_6.out j false HI.out.2).mono ?_
  rintro e w7 ⟨r7, nb7, cap7, A7, K7, T7, rfl, hm7, hx7, hw7⟩
  have HM7 := hide hm7
  have HX7 := hide hx7
  have HR7 := hide hw7
  clear hm7 hx7 hw7
  have HR2_3_4_5_6_7 := hide (HR2_3_4_5_6.out.ext HM6.out.inv HX7.out)
  clear HR2_3_4_5_6
  have HR3_4_5_6_7 := hide (HR3_4_5_6.out.ext HM6.out.inv HX7.out)
  clear HR3_4_5_6
  have HR5_6_7 := hide (HR5_6.out.ext HM6.out.inv HX7.out)
  clear HR5_6
  have HR6_7 := hide (HR6.out.ext HM6.out.inv HX7.out)
  clear HR6
  clear HM6 HX7 HR4_5_6
  go_wp2_with fail
  refine (ite_ms HLT.out HM7.out HR2_3_4_5_6_7.out HR6_7.out HR7.out).mono ?_
  rintro e w8 ⟨r8, nb8, cap8, A8, K8, T8, rfl, hm8, hx8, hw8⟩
  have HM8 := hide hm8
  have HX8 := hide hx8
  have HR8 := hide hw8
  clear hm8 hx8 hw8
  have HR2_3_4_5_6_7_8 := hide (HR2_3_4_5_6_7.out.ext HM7.out.inv HX8.out)
  clear HR2_3_4_5_6_7
  have HR3_4_5_6_7_8 := hide (HR3_4_5_6_7.out.ext HM7.out.inv HX8.out)
  clear HR3_4_5_6_7
  have HR5_6_7_8 := hide (HR5_6_7.out.ext HM7.out.inv HX8.out)
  clear HR5_6_7
  clear HM7 HX8 HR6_7 HR7
  go_wp2_with fail
  refine (put_ms HLT.out HM8.out HR5_6_7_8.out j true HI.out.2).mono ?_
  rintro e w9 ⟨r9, nb9, cap9, A9, K9, T9, rfl, hm9, hx9, hw9⟩
  have HM9 := hide hm9
  have HX9 := hide hx9
  have HR9 := hide hw9
  clear hm9 hx9 hw9
  have HR2_3_4_5_6_7_8_9 := hide (HR2_3_4_5_6_7_8.out.ext HM8.out.inv HX9.out)
  clear HR2_3_4_5_6_7_8
  have HR3_4_5_6_7_8_9 := hide (HR3_4_5_6_7_8.out.ext HM8.out.inv HX9.out)
  clear HR3_4_5_6_7_8
  have HR5_6_7_8_9 := hide (HR5_6_7_8.out.ext HM8.out.inv HX9.out)
  clear HR5_6_7_8
  have HR8_9 := hide (HR8.out.ext HM8.out.inv HX9.out)
  clear HR8
  clear HM8 HX9
  go_wp2_with fail
  refine (put_ms HLT.out HM9.out HR5_6_7_8_9.out j false HI.out.2).mono ?_
  rintro e w10 ⟨r10, nb10, cap10, A10, K10, T10, rfl, hm10, hx10, hw10⟩
  have HM10 := hide hm10
  have HX10 := hide hx10
  have HR10 := hide hw10
  clear hm10 hx10 hw10
  have HR2_3_4_5_6_7_8_9_10 := hide (HR2_3_4_5_6_7_8_9.out.ext HM9.out.inv HX10.out)
  clear HR2_3_4_5_6_7_8_9
  have HR3_4_5_6_7_8_9_10 := hide (HR3_4_5_6_7_8_9.out.ext HM9.out.inv HX10.out)
  clear HR3_4_5_6_7_8_9
  have HR8_9_10 := hide (HR8_9.out.ext HM9.out.inv HX10.out)
  clear HR8_9
  have HR9_10 := hide (HR9.out.ext HM9.out.inv HX10.out)
  clear HR9
  clear HM9 HX10 HR5_6_7_8_9
  go_wp2_with fail
  refine (ite_ms HLT.out HM10.out HR2_3_4_5_6_7_8_9_10.out HR9_10.out HR10.out).mono ?_
  rintro e w11 ⟨r11, nb11, cap11, A11, K11, T11, rfl, hm11, hx11, hw11⟩
  have HM11 := hide hm11
  have HX11 := hide hx11
  have HR11 := hide hw11
  clear hm11 hx11 hw11
  have HR3_4_5_6_7_8_9_10_11 := hide (HR3_4_5_6_7_8_9_10.out.ext HM10.out.inv HX11.out)
  clear HR3_4_5_6_7_8_9_10
  have HR8_9_10_11 := hide (HR8_9_10.out.ext HM10.out.inv HX11.out)
  clear HR8_9_10
  clear HM10 HX11 HR9_10 HR10 HR2_3_4_5_6_7_8_9_10
  go_wp2_with fail
  refine (ite_ms HLT.out HM11.out HR3_4_5_6_7_8_9_10_11.out HR11.out HR8_9_10_11.out).mono ?_
  rintro e w12 ⟨r12, nb12, cap12, A12, K12, T12, rfl, hm12, hx12, hw12⟩
  have HM12 := hide hm12
  have HX12 := hide hx12
  have HR12 := hide hw12
  clear hm12 hx12 hw12
  clear HM11 HX12 HR3_4_5_6_7_8_9_10_11 HR11 HR8_9_10_11
  go_wp2_with fail
  refine (done_walk HM12.out.ar r12).mono ?_
  rintro e we ⟨h1, h2, har, hfm⟩
  have HF := hide ((HM12.out.more (show _ ≤ 11 * 2 ^ A.vars by omega)).done HLT.out HAF.out HR12.out h1 h2 har hfm)
  clear har hfm
  cases hfull : A12.full
  · obtain rfl := h2 hfull
    go_wp2
    go_ret2
    exact HF.out
  · obtain rfl := h1 hfull
    go_wp2
    go_ret2
    exact HF.out
end Go.Proofs.Ytoanimmlpfchjaa
