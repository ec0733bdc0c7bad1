/- differ.Rules where it makes diagrams. -/
import Derived.Test.YtoanimmlpfchjaaDiffer
set_option linter.unusedVariables false
set_option linter.unusedSimpArgs false
namespace Go.Proofs.Ytoanimmlpfchjaa
open Go.RowKit Go.Maps Bdd


set_option maxRecDepth 100000 in
set_option maxHeartbeats 4000000 in
theorem differRules_most (W : World) (ad1 ad2 : Option Addr) (n1 n2 c1 c2 : Nat) (most : Int) (h1 : n1 ≤ 8) (h2 : n2 ≤ 8) (hm : most < 2 ∨ 40000 < most) :
    Calls Try.prog 62 #[.slice ad1 n1 c1, .slice ad2 n2 c2, .int .i64 most] W fun e W' => e = .returned (drErr 1) ∧ RowKit.Below W.heap.size W W' := by
  have HN := hide (fun w1 => new_most_bad w1 14 most hm)
  clear hm
  have HB0 := hide (fun o1 => show RowKit.Below W.heap.size W ((W.alloc (.cells #[.int .i64 0, .int .i64 0, .int .i64 0, .int .i64 0] 29)).alloc o1) from ((RowKit.Below.refl _ _).alloc (Nat.le_refl _) _).alloc (by simp) _)
  have HZ0 := hide (fun o1 => show PBox ((W.alloc (.cells #[.int .i64 0, .int .i64 0, .int .i64 0, .int .i64 0] 29)).alloc o1) W.heap.size 0 0 0 0 from (PBox.new W 0 0 0 0 29).below ((RowKit.Below.refl _ _).alloc (Nat.le_refl _) _) (by simp))
  have HS0 : ∀ o1, W.heap.size < ((W.alloc (.cells #[.int .i64 0, .int .i64 0, .int .i64 0, .int .i64 0] 29)).alloc o1).heap.size := fun o1 => by simp; omega
  have h1' : ¬ 8 < n1 := by omega
  have h2' : ¬ 8 < n2 := by omega
  go_enter Try.func62, Try.ntmps62
  go_wp2
  refine wp_loop_rounds 3 ?_
  rw [rounds_succ]
  go_wp2_with (go_at_call 110; refine (aclCheck_walk _ _ _ _).mono ?_; rintro e w' ⟨rfl, rfl⟩; rw [if_neg h1'])
  rw [rounds_succ]
  go_wp2_with (go_at_call 110; refine (aclCheck_walk _ _ _ _).mono ?_; rintro e w' ⟨rfl, rfl⟩; rw [if_neg h2'])
  rw [rounds_succ]
  go_wp2_with fail
  refine (HN.out _).mono ?_
  rintro e wa ⟨rfl, hb⟩
  have HB := hide ((HB0.out _).trans (hb.mono (HB0.out _).size))
  have HZ := hide ((HZ0.out _).below hb (HS0 _))
  clear hb HS0
  obtain ⟨z0, z1, z2, z3, z4, z5, z6, z7⟩ := HZ.out
  have HBE := hide HB.out
  go_wp2
  refine bodyPost_ret (v := drErr 1) (by simp [results, Try.results62, go_sem, drErr, z0, z1, z2, z3]) rfl ?_
  exact ⟨rfl, (((HBE.out.setCell (Nat.le_refl _) _).setCell (Nat.le_refl _) _).setCell (Nat.le_refl _) _).setCell (Nat.le_refl _) _⟩

set_option maxRecDepth 100000 in
set_option maxHeartbeats 8000000 in
theorem differRules_walk (W : World) (l1 l2 : List RuleV) (ad1 ad2 : Option Addr) (n1 n2 c1 c2 m : Nat) (h1 : n1 ≤ 8) (h2 : n2 ≤ 8) (hm : 2 ≤ m) (hm2 : m ≤ 40000) (hl1 : RulesAt W W.heap.size ad1 n1 l1) (hl2 : RulesAt W W.heap.size ad2 n2 l2) :
    Calls Try.prog 62 #[.slice ad1 n1 c1, .slice ad2 n2 c2, .int .i64 m] W (DRP l1 l2 W) := by
  have HN : Hid (∀ w1, Calls Try.prog 28 #[.int .i64 14, .int .i64 m] w1 (NewP w1 14 m)) := hide (fun w1 => new_walk w1 14 m (by omega) (by omega) hm hm2)
  have HL1 := hide hl1
  have HL2 := hide hl2
  clear hl1 hl2
  have HB0 := hide (fun o1 => show RowKit.Below W.heap.size W ((W.alloc (.cells #[.int .i64 0, .int .i64 0, .int .i64 0, .int .i64 0] 29)).alloc o1) from ((RowKit.Below.refl _ _).alloc (Nat.le_refl _) _).alloc (by simp) _)
  have HZ0 := hide (fun o1 => show PBox ((W.alloc (.cells #[.int .i64 0, .int .i64 0, .int .i64 0, .int .i64 0] 29)).alloc o1) W.heap.size 0 0 0 0 from (PBox.new W 0 0 0 0 29).below ((RowKit.Below.refl _ _).alloc (Nat.le_refl _) _) (by simp))
  have HS0 : ∀ o1, W.heap.size < ((W.alloc (.cells #[.int .i64 0, .int .i64 0, .int .i64 0, .int .i64 0] 29)).alloc o1).heap.size := fun o1 => by simp; omega
  have h1' : ¬ 8 < n1 := by omega
  have h2' : ¬ 8 < n2 := by omega
  go_enter Try.func62, Try.ntmps62
  go_wp2
  refine wp_loop_rounds 3 ?_
  rw [rounds_succ]
  go_wp2_with (go_at_call 110; refine (aclCheck_walk _ _ _ _).mono ?_; rintro e w' ⟨rfl, rfl⟩; rw [if_neg h1'])
  rw [rounds_succ]
  go_wp2_with (go_at_call 110; refine (aclCheck_walk _ _ _ _).mono ?_; rintro e w' ⟨rfl, rfl⟩; rw [if_neg h2'])
  rw [rounds_succ]
  go_wp2_with fail
  refine (HN.out _).mono ?_
  rintro e wa ⟨g, nb, kb, ib, rfl, ha, hb⟩
  have HA := hide ha
  have HZ := hide ((HZ0.out _).below hb (HS0 _))
  have HB := hide ((HB0.out _).trans (hb.mono (HB0.out _).size))
  have hsz : W.heap.size < wa.heap.size := Nat.lt_of_lt_of_le (HS0 _) hb.size
  have HBB : Hid (W.heap.size < ((W.alloc (.cells #[.int .i64 0, .int .i64 0, .int .i64 0, .int .i64 0] 29)).alloc (.cells #[.slice ad1 n1 c1, .slice ad2 n2 c2] 33)).heap.size) := hide (by simp; omega)
  have HSW := hide hb.size
  clear hb HS0 HZ0 HB0 HN
  generalize (W.alloc _).alloc _ = w0 at *
  have HS1 := hide (BS.refl HA.out rfl (fun _ => True))
  have HLE : Hid (W.heap.size ≤ w0.heap.size) := hide (Nat.le_of_lt HBB.out)
  go_wp2_with fail
  refine (aclBuild_walk HS1.out.ar HS1.out.nf (Nat.le_refl 14) l1 ad1 n1 c1 h1 (HL1.out.below HB.out HLE.out) (fun _ => True) (fun _ _ _ _ => trivial) (fun _ _ _ => trivial)).mono ?_
  rintro e wb hbp
  obtain ⟨nb2, cap2, A2, K2, T2, hst, hx, hres⟩ := HS1.out.step HA.out hbp
  have HS2 := hide hst
  have HB2 := hide (show RowKit.Below W.heap.size W wb from HB.out.trans ((HS2.out.belowB HA.out).mono (Nat.le_of_lt HBB.out)))
  have HZ2 := hide (HZ.out.below (HS2.out.belowB HA.out) HBB.out)
  have HX2 := hide hx
  clear hbp hst hx
  rcases hres with ⟨r1, rfl, hisf⟩ | ⟨rfl, hfull⟩
  case inr =>
    clear hfull
    obtain ⟨z0, z1, z2, z3, z4, z5, z6, z7⟩ := HZ2.out
    have HBE := hide HB2.out
    go_wp2
    refine bodyPost_ret (v := drErr 6) (by simp [results, Try.results62, go_sem, drErr, z0, z1, z2, z3]) rfl ?_
    exact ⟨(((HBE.out.setCell (Nat.le_refl _) _).setCell (Nat.le_refl _) _).setCell (Nat.le_refl _) _).setCell (Nat.le_refl _) _, .inl rfl⟩
  have HI2 := hide hisf
  clear hisf
  go_wp2_with fail
  refine (aclBuild_walk HS2.out.ar HS2.out.nf (by rw [HS2.out.ext.vars]; exact Nat.le_refl 14) l2 ad2 n2 c2 h2 (HL2.out.below HB2.out HLE.out) (fun _ => True) (fun _ _ _ _ => trivial) (fun _ _ _ => trivial)).mono ?_
  rintro e wc hbp
  obtain ⟨nb3, cap3, A3, K3, T3, hst, hx, hres⟩ := HS2.out.step HA.out hbp
  have HS3 := hide hst
  have HB3 := hide (show RowKit.Below W.heap.size W wc from HB.out.trans ((HS3.out.belowB HA.out).mono (Nat.le_of_lt HBB.out)))
  have HZ3 := hide (HZ.out.below (HS3.out.belowB HA.out) HBB.out)
  have HX3 := hide hx
  clear hbp hst hx
  rcases hres with ⟨r2, rfl, hisf⟩ | ⟨rfl, hfull⟩
  case inr =>
    clear hfull
    obtain ⟨z0, z1, z2, z3, z4, z5, z6, z7⟩ := HZ3.out
    have HBE := hide HB3.out
    go_wp2
    refine bodyPost_ret (v := drErr 6) (by simp [results, Try.results62, go_sem, drErr, z0, z1, z2, z3]) rfl ?_
    exact ⟨(((HBE.out.setCell (Nat.le_refl _) _).setCell (Nat.le_refl _) _).setCell (Nat.le_refl _) _).setCell (Nat.le_refl _) _, .inl rfl⟩
  have HI3 := hide hisf
  clear hisf
  have HI2b := hide (HI2.out.ext HS2.out.inv HX3.out)
  clear HB2 HZ2 HX2 HI2 HS2
  go_wp2_with fail
  refine (opNot_bp HS3.out.ar HS3.out.nf HI3.out (P := fun _ => True) (fun _ _ => trivial)).mono ?_
  rintro e wd hbp
  obtain ⟨nb4, cap4, A4, K4, T4, hst, hx, hres⟩ := HS3.out.step HA.out hbp
  have HS4 := hide hst
  have HB4 := hide (show RowKit.Below W.heap.size W wd from HB.out.trans ((HS4.out.belowB HA.out).mono (Nat.le_of_lt HBB.out)))
  have HZ4 := hide (HZ.out.below (HS4.out.belowB HA.out) HBB.out)
  have HX4 := hide hx
  clear hbp hst hx
  rcases hres with ⟨r3, rfl, hisf⟩ | ⟨rfl, hfull⟩
  case inr =>
    clear hfull
    obtain ⟨z0, z1, z2, z3, z4, z5, z6, z7⟩ := HZ4.out
    have HBE := hide HB4.out
    go_wp2
    refine bodyPost_ret (v := drErr 6) (by simp [results, Try.results62, go_sem, drErr, z0, z1, z2, z3]) rfl ?_
    exact ⟨(((HBE.out.setCell (Nat.le_refl _) _).setCell (Nat.le_refl _) _).setCell (Nat.le_refl _) _).setCell (Nat.le_refl _) _, .inl rfl⟩
  have HI4 := hide hisf
  clear hisf
  have HI2c := hide (HI2b.out.ext HS3.out.inv HX4.out)
  have HI3b := hide (HI3.out.ext HS3.out.inv HX4.out)
  clear HB3 HZ3 HX3 HI3 HS3 HI2b
  go_wp2_with fail
  refine (opIte_bp HS4.out.ar HS4.out.nf HI2c.out HI4.out HI3b.out (P := fun _ => True) (fun _ _ => trivial)).mono ?_
  rintro e we hbp
  obtain ⟨nb5, cap5, A5, K5, T5, hst, hx, hres⟩ := HS4.out.step HA.out hbp
  have HS5 := hide hst
  have HB5 := hide (show RowKit.Below W.heap.size W we from HB.out.trans ((HS5.out.belowB HA.out).mono (Nat.le_of_lt HBB.out)))
  have HZ5 := hide (HZ.out.below (HS5.out.belowB HA.out) HBB.out)
  have HX5 := hide hx
  clear hbp hst hx
  rcases hres with ⟨r4, rfl, hisf⟩ | ⟨rfl, hfull⟩
  case inr =>
    clear hfull
    obtain ⟨z0, z1, z2, z3, z4, z5, z6, z7⟩ := HZ5.out
    have HBE := hide HB5.out
    go_wp2
    refine bodyPost_ret (v := drErr 6) (by simp [results, Try.results62, go_sem, drErr, z0, z1, z2, z3]) rfl ?_
    exact ⟨(((HBE.out.setCell (Nat.le_refl _) _).setCell (Nat.le_refl _) _).setCell (Nat.le_refl _) _).setCell (Nat.le_refl _) _, .inl rfl⟩
  have HI5 := hide hisf
  clear hisf
  have HI1 := hide (HI2c.out.ext HS4.out.inv HX5.out)
  have HV := hide (show A5.vars = 14 from HS5.out.ext.vars)
  have HQ := hide (fun (c : Nat) (hc : c < 16384) => show den A5.ns r4 (asgV A5.vars c) = (letsB l1 (pk c) != letsB l2 (pk c)) from by
    rw [HV.out, HI5.out.2]
    exact (xorF_at _ _ _).trans (by rw [show asgV 14 c = asgOf c from rfl, aclF_lets l1 HL1.out.2.1 c hc, aclF_lets l2 HL2.out.2.1 c hc]))
  have HQ1 := hide (fun (c : Nat) (hc : c < 16384) => show den A5.ns r1 (asgV A5.vars c) = letsB l1 (pk c) from by
    rw [HV.out, HI1.out.2, show asgV 14 c = asgOf c from rfl, aclF_lets l1 HL1.out.2.1 c hc])
  clear HB4 HZ4 HX4 HI4 HS4 HI2c HI3b HX5
  go_wp2_with fail
  refine (one_walk HS5.out.ar r4 HI5.out.1).mono ?_
  rintro e wf ⟨hb, hor⟩
  have HS6 := hide (HS5.out.below hb)
  have HB6 := hide (HB5.out.trans (hb.mono HB5.out.size))
  have hwe : W.heap.size < we.heap.size := by have := HS5.out.fm.size; omega
  have HZ6 := hide (HZ5.out.below hb hwe)
  have hwf : W.heap.size < wf.heap.size := Nat.lt_of_lt_of_le hwe hb.size
  clear hb HB5 HZ5
  rcases hor with ⟨hz, rfl⟩ | ⟨c, hnz, rfl, hc, ht, hl⟩
  · have HR := hide (leastF_none (F := fun c => letsB l1 (pk c)) (G := fun c => letsB l2 (pk c)) (n := 16384) (fun j hj => by
      have := HQ.out j hj
      rw [hz, den_zero] at this
      simpa using this.symm))
    clear hz
    obtain ⟨z0, z1, z2, z3, z4, z5, z6, z7⟩ := HZ6.out
    have HBE := hide HB6.out
    go_wp2
    refine bodyPost_ret (v := drErr 0) (by simp [results, Try.results62, go_sem, drErr, z0, z1, z2, z3]) rfl ?_
    exact ⟨(((HBE.out.setCell (Nat.le_refl _) _).setCell (Nat.le_refl _) _).setCell (Nat.le_refl _) _).setCell (Nat.le_refl _) _, .inr (by rw [HR.out]; rfl)⟩
  have hcc : c < 16384 := by rw [HV.out] at hc; exact hc
  have HR := hide (leastF_found (F := fun c => letsB l1 (pk c)) (G := fun c => letsB l2 (pk c)) hcc (by rw [← HQ.out c hcc, ht]) (fun j hj => by
    have := HQ.out j (by omega)
    rw [hl j hj] at this
    simpa using this.symm))
  have HE := hide (HQ1.out c hcc)
  have HCV := hide hc
  obtain ⟨x0, x1, x2, x3, hpv⟩ := packVal_ints c
  have HPV := hide hpv
  have HOF : Hid (Calls Try.prog 112 #[.int .i64 c] wf fun e W' => e = .returned (.tuple #[.agg #[.int .i64 x0, .int .i64 x1, .int .i64 x2, .int .i64 x3], .int .i64 0]) ∧ RowKit.Below wf.heap.size wf W') := hide (hpv ▸ of_walk wf c hcc)
  clear ht hl hc hpv
  go_wp2_with fail
  refine HOF.out.mono ?_
  rintro e wh ⟨rfl, hb⟩
  have hb2 := hb.alloc hb.size (.cells #[.int .i64 x0, .int .i64 x1, .int .i64 x2, .int .i64 x3] 29)
  have HS7 := hide (HS6.out.below hb2)
  have HB7 := hide (HB6.out.trans (hb2.mono HB6.out.size))
  have HZ7 := hide (HZ6.out.below hb2 hwf)
  have HX7 := hide (PBox.new wh x0 x1 x2 x3 29)
  have hwh : W.heap.size < wh.heap.size := Nat.lt_of_lt_of_le hwf hb.size
  have hwi : wh.heap.size < (wh.alloc (.cells #[.int .i64 x0, .int .i64 x1, .int .i64 x2, .int .i64 x3] 29)).heap.size := by simp
  clear hb hb2 HOF HS6 HB6 HZ6
  go_wp2_with fail
  refine (eval_walk HS7.out.ar r1 c HI1.out.1 HCV.out).mono ?_
  generalize wh.alloc _ = wi at *
  rintro e wj ⟨rfl, hb⟩
  rw [show (fun u => c.testBit (A5.vars - 1 - u)) = asgV A5.vars c from rfl, HE.out]
  have HB8 := hide (HB7.out.trans (hb.mono HB7.out.size))
  have HZ8 := hide (HZ7.out.below hb (Nat.lt_trans hwh hwi))
  have HX8 := hide (HX7.out.below hb hwi)
  clear hb HS7 HB7 HZ7 HX7
  obtain ⟨p0, p1, p2, p3, _⟩ := HX8.out
  cases hlet : letsB l1 (pk c)
  · obtain ⟨z0, z1, z2, z3, z4, z5, z6, z7⟩ := HZ8.out
    have HF := hide (show drV (leastF (fun c => letsB l1 (pk c)) (fun c => letsB l2 (pk c)) 16384) = .tuple #[.agg #[.int .i64 x0, .int .i64 x1, .int .i64 x2, .int .i64 x3], .int .i64 2, .int .i64 0] from by rw [HR.out]; simp only [hlet, drV, HPV.out]; rfl)
    go_wp2
    refine bodyPost_ret (v := .tuple #[.agg #[.int .i64 x0, .int .i64 x1, .int .i64 x2, .int .i64 x3], .int .i64 2, .int .i64 0]) (by simp [results, Try.results62, go_sem, z0, z1, z2, z3]) rfl ?_
    exact ⟨(((HB8.out.setCell (Nat.le_refl _) _).setCell (Nat.le_refl _) _).setCell (Nat.le_refl _) _).setCell (Nat.le_refl _) _, .inr (by rw [HF.out])⟩
  · obtain ⟨z0, z1, z2, z3, z4, z5, z6, z7⟩ := HZ8.out
    have HF := hide (show drV (leastF (fun c => letsB l1 (pk c)) (fun c => letsB l2 (pk c)) 16384) = .tuple #[.agg #[.int .i64 x0, .int .i64 x1, .int .i64 x2, .int .i64 x3], .int .i64 1, .int .i64 0] from by rw [HR.out]; simp only [hlet, drV, HPV.out]; rfl)
    go_wp2
    refine bodyPost_ret (v := .tuple #[.agg #[.int .i64 x0, .int .i64 x1, .int .i64 x2, .int .i64 x3], .int .i64 1, .int .i64 0]) (by simp [results, Try.results62, go_sem, z0, z1, z2, z3]) rfl ?_
    exact ⟨(((HB8.out.setCell (Nat.le_refl _) _).setCell (Nat.le_refl _) _).setCell (Nat.le_refl _) _).setCell (Nat.le_refl _) _, .inr (by rw [HF.out])⟩
end Go.Proofs.Ytoanimmlpfchjaa
