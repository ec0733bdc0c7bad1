/- wireward/wirekeep.DifferSelf: whatever is handed in, it returns true, and leaves the input as it reads. -/
import Derived.Test.YtklbdfgblebniaaDs27
import Derived.Deep.DeepCutAuto

set_option linter.unusedVariables false
set_option linter.unusedSimpArgs false
namespace Go.Proofs.Ytklbdfgblebniaa
open Go.RowKit Go.Maps Bdd

def DRPP (P : Bdd.Fn → Prop) (m : Nat) (l1 l2 : List RuleV) (W : World) (e : Ending) (W' : World) : Prop := RowKit.Below W.heap.size W W' ∧
  ((e = .returned (drErr 6) ∧ ∃ A, Ext (newSt 14 m) A ∧ (∀ j, (newSt 14 m).len ≤ j → j < A.len → P (den A.ns j)) ∧ A.len = A.most) ∨ e = .returned (drV (leastF (fun c => letsB l1 (pk c)) (fun c => letsB l2 (pk c)) 16384)))

set_option maxRecDepth 100000 in
set_option maxHeartbeats 8000000 in
theorem differRules_walkP (P : Bdd.Fn → Prop) (W : World) (l1 l2 : List RuleV) (ad1 ad2 : Option Addr) (n1 n2 c1 c2 m : Nat) (h1 : n1 ≤ 8) (h2 : n2 ≤ 8) (hm : 2 ≤ m) (hm2 : m ≤ 40000) (hl1 : RulesAt W W.heap.size ad1 n1 l1) (hl2 : RulesAt W W.heap.size ad2 n2 l2)
    (hp1 : AclPC P l1) (hp2 : AclPC P l2) (hp3 : PC P (iteF (aclF l2) (fun _ => false) (fun _ => true))) (hp4 : PC P (xorF (aclF l1) (aclF l2))) :
    Calls Try.prog 12 #[.slice ad1 n1 c1, .slice ad2 n2 c2, .int .i64 m] W (DRPP P m l1 l2 W) := by
  have HN : Hid (∀ w1, Calls Try.prog 18 #[.int .i64 14, .int .i64 m] w1 (NewP w1 14 m)) := hide (fun w1 => new_walk w1 14 m (by omega) (by omega) hm hm2)
  have HL1 := hide hl1
  have HL2 := hide hl2
  clear hl1 hl2
  have HB0 := hide (fun o1 => show RowKit.Below W.heap.size W ((W.alloc (.cells #[.int .i64 0, .int .i64 0, .int .i64 0, .int .i64 0] 27)).alloc o1) from ((RowKit.Below.refl _ _).alloc (Nat.le_refl _) _).alloc (by simp) _)
  have HZ0 := hide (fun o1 => show PBox ((W.alloc (.cells #[.int .i64 0, .int .i64 0, .int .i64 0, .int .i64 0] 27)).alloc o1) W.heap.size 0 0 0 0 from (PBox.new W 0 0 0 0 27).below ((RowKit.Below.refl _ _).alloc (Nat.le_refl _) _) (by simp))
  have HS0 : ∀ o1, W.heap.size < ((W.alloc (.cells #[.int .i64 0, .int .i64 0, .int .i64 0, .int .i64 0] 27)).alloc o1).heap.size := fun o1 => by simp; omega
  have h1' : ¬ 8 < n1 := by omega
  have h2' : ¬ 8 < n2 := by omega
  go_enter Try.func12, Try.ntmps12
  go_wp2
  refine wp_loop_rounds 3 ?_
  rw [rounds_succ]
  go_wp2_with (go_at_call 26; refine (aclCheck_walk _ _ _ _).mono ?_; rintro e w' ⟨rfl, rfl⟩; rw [if_neg h1'])
  rw [rounds_succ]
  go_wp2_with (go_at_call 26; refine (aclCheck_walk _ _ _ _).mono ?_; rintro e w' ⟨rfl, rfl⟩; rw [if_neg h2'])
  rw [rounds_succ]
  go_wp2_with fail
  refine (HN.out _).mono ?_
  rintro e wa ⟨g, nb, kb, ib, rfl, ha, hb⟩
  have HA := hide ha
  have HZ := hide ((HZ0.out _).below hb (HS0 _))
  have HB := hide ((HB0.out _).trans (hb.mono (HB0.out _).size))
  have hsz : W.heap.size < wa.heap.size := Nat.lt_of_lt_of_le (HS0 _) hb.size
  have HBB : Hid (W.heap.size < ((W.alloc (.cells #[.int .i64 0, .int .i64 0, .int .i64 0, .int .i64 0] 27)).alloc (.cells #[.slice ad1 n1 c1, .slice ad2 n2 c2] 31)).heap.size) := hide (by simp; omega)
  have HSW := hide hb.size
  clear hb HS0 HZ0 HB0 HN
  generalize (W.alloc _).alloc _ = w0 at *
  have HS1 := hide (BS.refl HA.out rfl P)
  have HLE : Hid (W.heap.size ≤ w0.heap.size) := hide (Nat.le_of_lt HBB.out)
  go_wp2_with fail
  refine (aclBuild_walk HS1.out.ar HS1.out.nf (Nat.le_refl 14) l1 ad1 n1 c1 h1 (HL1.out.below HB.out HLE.out) P hp1.1 hp1.2).mono ?_
  rintro e wb hbp
  obtain ⟨nb2, cap2, A2, K2, T2, hst, hx, hres⟩ := HS1.out.step HA.out hbp
  have HS2 := hide hst
  have HB2 := hide (show RowKit.Below W.heap.size W wb from HB.out.trans ((HS2.out.belowB HA.out).mono (Nat.le_of_lt HBB.out)))
  have HZ2 := hide (HZ.out.below (HS2.out.belowB HA.out) HBB.out)
  have HX2 := hide hx
  clear hbp hst hx
  rcases hres with ⟨r1, rfl, hisf⟩ | ⟨rfl, hfull⟩
  case inr =>
    have HFU := hide hfull
    clear hfull
    obtain ⟨z0, z1, z2, z3, z4, z5, z6, z7⟩ := HZ2.out
    have HBE := hide HB2.out
    go_wp2
    refine bodyPost_ret (v := drErr 6) (by simp [results, Try.results12, go_sem, drErr, z0, z1, z2, z3]) rfl ?_
    exact ⟨(((HBE.out.setCell (Nat.le_refl _) _).setCell (Nat.le_refl _) _).setCell (Nat.le_refl _) _).setCell (Nat.le_refl _) _, .inl ⟨rfl, _, HS2.out.ext, HS2.out.nw, HFU.out⟩⟩
  have HI2 := hide hisf
  clear hisf
  go_wp2_with fail
  refine (aclBuild_walk HS2.out.ar HS2.out.nf (by rw [HS2.out.ext.vars]; exact Nat.le_refl 14) l2 ad2 n2 c2 h2 (HL2.out.below HB2.out HLE.out) P hp2.1 hp2.2).mono ?_
  rintro e wc hbp
  obtain ⟨nb3, cap3, A3, K3, T3, hst, hx, hres⟩ := HS2.out.step HA.out hbp
  have HS3 := hide hst
  have HB3 := hide (show RowKit.Below W.heap.size W wc from HB.out.trans ((HS3.out.belowB HA.out).mono (Nat.le_of_lt HBB.out)))
  have HZ3 := hide (HZ.out.below (HS3.out.belowB HA.out) HBB.out)
  have HX3 := hide hx
  clear hbp hst hx
  rcases hres with ⟨r2, rfl, hisf⟩ | ⟨rfl, hfull⟩
  case inr =>
    have HFU := hide hfull
    clear hfull
    obtain ⟨z0, z1, z2, z3, z4, z5, z6, z7⟩ := HZ3.out
    have HBE := hide HB3.out
    go_wp2
    refine bodyPost_ret (v := drErr 6) (by simp [results, Try.results12, go_sem, drErr, z0, z1, z2, z3]) rfl ?_
    exact ⟨(((HBE.out.setCell (Nat.le_refl _) _).setCell (Nat.le_refl _) _).setCell (Nat.le_refl _) _).setCell (Nat.le_refl _) _, .inl ⟨rfl, _, HS3.out.ext, HS3.out.nw, HFU.out⟩⟩
  have HI3 := hide hisf
  clear hisf
  have HI2b := hide (HI2.out.ext HS2.out.inv HX3.out)
  clear HB2 HZ2 HX2 HI2 HS2
  go_wp2_with fail
  refine (opNot_bp HS3.out.ar HS3.out.nf HI3.out (P := P) hp3).mono ?_
  rintro e wd hbp
  obtain ⟨nb4, cap4, A4, K4, T4, hst, hx, hres⟩ := HS3.out.step HA.out hbp
  have HS4 := hide hst
  have HB4 := hide (show RowKit.Below W.heap.size W wd from HB.out.trans ((HS4.out.belowB HA.out).mono (Nat.le_of_lt HBB.out)))
  have HZ4 := hide (HZ.out.below (HS4.out.belowB HA.out) HBB.out)
  have HX4 := hide hx
  clear hbp hst hx
  rcases hres with ⟨r3, rfl, hisf⟩ | ⟨rfl, hfull⟩
  case inr =>
    have HFU := hide hfull
    clear hfull
    obtain ⟨z0, z1, z2, z3, z4, z5, z6, z7⟩ := HZ4.out
    have HBE := hide HB4.out
    go_wp2
    refine bodyPost_ret (v := drErr 6) (by simp [results, Try.results12, go_sem, drErr, z0, z1, z2, z3]) rfl ?_
    exact ⟨(((HBE.out.setCell (Nat.le_refl _) _).setCell (Nat.le_refl _) _).setCell (Nat.le_refl _) _).setCell (Nat.le_refl _) _, .inl ⟨rfl, _, HS4.out.ext, HS4.out.nw, HFU.out⟩⟩
  have HI4 := hide hisf
  clear hisf
  have HI2c := hide (HI2b.out.ext HS3.out.inv HX4.out)
  have HI3b := hide (HI3.out.ext HS3.out.inv HX4.out)
  clear HB3 HZ3 HX3 HI3 HS3 HI2b
  go_wp2_with fail
  refine (opIte_bp HS4.out.ar HS4.out.nf HI2c.out HI4.out HI3b.out (P := P) hp4).mono ?_
  rintro e we hbp
  obtain ⟨nb5, cap5, A5, K5, T5, hst, hx, hres⟩ := HS4.out.step HA.out hbp
  have HS5 := hide hst
  have HB5 := hide (show RowKit.Below W.heap.size W we from HB.out.trans ((HS5.out.belowB HA.out).mono (Nat.le_of_lt HBB.out)))
  have HZ5 := hide (HZ.out.below (HS5.out.belowB HA.out) HBB.out)
  have HX5 := hide hx
  clear hbp hst hx
  rcases hres with ⟨r4, rfl, hisf⟩ | ⟨rfl, hfull⟩
  case inr =>
    have HFU := hide hfull
    clear hfull
    obtain ⟨z0, z1, z2, z3, z4, z5, z6, z7⟩ := HZ5.out
    have HBE := hide HB5.out
    go_wp2
    refine bodyPost_ret (v := drErr 6) (by simp [results, Try.results12, go_sem, drErr, z0, z1, z2, z3]) rfl ?_
    exact ⟨(((HBE.out.setCell (Nat.le_refl _) _).setCell (Nat.le_refl _) _).setCell (Nat.le_refl _) _).setCell (Nat.le_refl _) _, .inl ⟨rfl, _, HS5.out.ext, HS5.out.nw, HFU.out⟩⟩
  have HI5 := hide hisf
  clear hisf
  have HI1 := hide (HI2c.out.ext HS4.out.inv HX5.out)
  have HV := hide (show A5.vars = 14 from HS5.out.ext.vars)
  have HQ := hide (fun (c : Nat) (hc : c < 16384) => show den A5.ns r4 (asgV A5.vars c) = (letsB l1 (pk c) != letsB l2 (pk c)) from by
    rw [HV.out, HI5.out.2]
    exact (xorF_at _ _ _).trans (by rw [show asgV 14 c = asgOf c from rfl, aclF_lets l1 HL1.out.2.1 c hc, aclF_lets l2 HL2.out.2.1 c hc]))
  have HQ1 := hide (fun (c : Nat) (hc : c < 16384) => show den A5.ns r1 (asgV A5.vars c) = letsB l1 (pk c) from by
    rw [HV.out, HI1.out.2, show asgV 14 c = asgOf c from rfl, aclF_lets l1 HL1.out.2.1 c hc])
  clear HB4 HZ4 HX4 HI4 HS4 HI2c HI3b HX5
  go_wp2_with fail
  refine (one_walk HS5.out.ar r4 HI5.out.1).mono ?_
  rintro e wf ⟨hb, hor⟩
  have HS6 := hide (HS5.out.below hb)
  have HB6 := hide (HB5.out.trans (hb.mono HB5.out.size))
  have hwe : W.heap.size < we.heap.size := by have := HS5.out.fm.size; omega
  have HZ6 := hide (HZ5.out.below hb hwe)
  have hwf : W.heap.size < wf.heap.size := Nat.lt_of_lt_of_le hwe hb.size
  clear hb HB5 HZ5
  rcases hor with ⟨hz, rfl⟩ | ⟨c, hnz, rfl, hc, ht, hl⟩
  · have HR := hide (leastF_none (F := fun c => letsB l1 (pk c)) (G := fun c => letsB l2 (pk c)) (n := 16384) (fun j hj => by
      have := HQ.out j hj
      rw [hz, den_zero] at this
      simpa using this.symm))
    clear hz
    obtain ⟨z0, z1, z2, z3, z4, z5, z6, z7⟩ := HZ6.out
    have HBE := hide HB6.out
    go_wp2
    refine bodyPost_ret (v := drErr 0) (by simp [results, Try.results12, go_sem, drErr, z0, z1, z2, z3]) rfl ?_
    exact ⟨(((HBE.out.setCell (Nat.le_refl _) _).setCell (Nat.le_refl _) _).setCell (Nat.le_refl _) _).setCell (Nat.le_refl _) _, .inr (by rw [HR.out]; rfl)⟩
  have hcc : c < 16384 := by rw [HV.out] at hc; exact hc
  have HR := hide (leastF_found (F := fun c => letsB l1 (pk c)) (G := fun c => letsB l2 (pk c)) hcc (by rw [← HQ.out c hcc, ht]) (fun j hj => by
    have := HQ.out j (by omega)
    rw [hl j hj] at this
    simpa using this.symm))
  have HE := hide (HQ1.out c hcc)
  have HCV := hide hc
  obtain ⟨x0, x1, x2, x3, hpv⟩ := packVal_ints c
  have HPV := hide hpv
  have HOF : Hid (Calls Try.prog 31 #[.int .i64 c] wf fun e W' => e = .returned (.tuple #[.agg #[.int .i64 x0, .int .i64 x1, .int .i64 x2, .int .i64 x3], .int .i64 0]) ∧ RowKit.Below wf.heap.size wf W') := hide (hpv ▸ of_walk wf c hcc)
  clear ht hl hc hpv
  go_wp2_with fail
  refine HOF.out.mono ?_
  rintro e wh ⟨rfl, hb⟩
  have hb2 := hb.alloc hb.size (.cells #[.int .i64 x0, .int .i64 x1, .int .i64 x2, .int .i64 x3] 27)
  have HS7 := hide (HS6.out.below hb2)
  have HB7 := hide (HB6.out.trans (hb2.mono HB6.out.size))
  have HZ7 := hide (HZ6.out.below hb2 hwf)
  have HX7 := hide (PBox.new wh x0 x1 x2 x3 27)
  have hwh : W.heap.size < wh.heap.size := Nat.lt_of_lt_of_le hwf hb.size
  have hwi : wh.heap.size < (wh.alloc (.cells #[.int .i64 x0, .int .i64 x1, .int .i64 x2, .int .i64 x3] 27)).heap.size := by simp
  clear hb hb2 HOF HS6 HB6 HZ6
  go_wp2_with fail
  refine (eval_walk HS7.out.ar r1 c HI1.out.1 HCV.out).mono ?_
  generalize wh.alloc _ = wi at *
  rintro e wj ⟨rfl, hb⟩
  rw [show (fun u => c.testBit (A5.vars - 1 - u)) = asgV A5.vars c from rfl, HE.out]
  have HB8 := hide (HB7.out.trans (hb.mono HB7.out.size))
  have HZ8 := hide (HZ7.out.below hb (Nat.lt_trans hwh hwi))
  have HX8 := hide (HX7.out.below hb hwi)
  clear hb HS7 HB7 HZ7 HX7
  obtain ⟨p0, p1, p2, p3, _⟩ := HX8.out
  cases hlet : letsB l1 (pk c)
  · obtain ⟨z0, z1, z2, z3, z4, z5, z6, z7⟩ := HZ8.out
    have HF := hide (show drV (leastF (fun c => letsB l1 (pk c)) (fun c => letsB l2 (pk c)) 16384) = .tuple #[.agg #[.int .i64 x0, .int .i64 x1, .int .i64 x2, .int .i64 x3], .int .i64 2, .int .i64 0] from by rw [HR.out]; simp only [hlet, drV, HPV.out]; rfl)
    go_wp2
    refine bodyPost_ret (v := .tuple #[.agg #[.int .i64 x0, .int .i64 x1, .int .i64 x2, .int .i64 x3], .int .i64 2, .int .i64 0]) (by simp [results, Try.results12, go_sem, z0, z1, z2, z3]) rfl ?_
    exact ⟨(((HB8.out.setCell (Nat.le_refl _) _).setCell (Nat.le_refl _) _).setCell (Nat.le_refl _) _).setCell (Nat.le_refl _) _, .inr (by rw [HF.out])⟩
  · obtain ⟨z0, z1, z2, z3, z4, z5, z6, z7⟩ := HZ8.out
    have HF := hide (show drV (leastF (fun c => letsB l1 (pk c)) (fun c => letsB l2 (pk c)) 16384) = .tuple #[.agg #[.int .i64 x0, .int .i64 x1, .int .i64 x2, .int .i64 x3], .int .i64 1, .int .i64 0] from by rw [HR.out]; simp only [hlet, drV, HPV.out]; rfl)
    go_wp2
    refine bodyPost_ret (v := .tuple #[.agg #[.int .i64 x0, .int .i64 x1, .int .i64 x2, .int .i64 x3], .int .i64 1, .int .i64 0]) (by simp [results, Try.results12, go_sem, z0, z1, z2, z3]) rfl ?_
    exact ⟨(((HB8.out.setCell (Nat.le_refl _) _).setCell (Nat.le_refl _) _).setCell (Nat.le_refl _) _).setCell (Nat.le_refl _) _, .inr (by rw [HF.out])⟩
end Go.Proofs.Ytklbdfgblebniaa

set_option linter.unusedVariables false
set_option linter.unusedSimpArgs false
namespace Go.Proofs.Ytklbdfgblebniaa
open Go.RowKit Go.Maps Bdd

def LB (l : List RuleV) (c : Nat) : Bool := letsB l (pk c)
def Held (F G : Nat → Bool) (e : Ending) : Prop := (∃ E : Int, E ≠ 0 ∧ e = .returned (drErr E)) ∨ e = .returned (drV (leastF F G 16384))
def tri (x0 x1 x2 x3 k E : Int) : Ending := .returned (.tuple #[.agg #[.int .i64 x0, .int .i64 x1, .int .i64 x2, .int .i64 x3], .int .i64 k, .int .i64 E])
def Ans (F G : Nat → Bool) (x0 x1 x2 x3 k E : Int) : Prop := E ≠ 0 ∨ (E = 0 ∧ tri x0 x1 x2 x3 k 0 = .returned (drV (leastF F G 16384)))
theorem Held.ans {F G : Nat → Bool} {e : Ending} (h : Held F G e) : ∃ x0 x1 x2 x3 k E, e = tri x0 x1 x2 x3 k E ∧ Ans F G x0 x1 x2 x3 k E := by
  rcases h with ⟨E, hE, rfl⟩ | rfl
  · exact ⟨0, 0, 0, 0, 0, E, rfl, .inl hE⟩
  · rcases hl : leastF F G 16384 with _ | ⟨c, k⟩
    · exact ⟨0, 0, 0, 0, 0, 0, rfl, .inr ⟨rfl, by rw [hl]; rfl⟩⟩
    · obtain ⟨x0, x1, x2, x3, h⟩ := packVal_ints c
      exact ⟨x0, x1, x2, x3, k, 0, by simp only [drV, h]; rfl, .inr ⟨rfl, by rw [hl]; simp only [drV, h]; rfl⟩⟩
theorem leastF_self (F : Nat → Bool) (n : Nat) : leastF F F n = none := leastF_none (fun _ _ => rfl)
theorem Held.self {F : Nat → Bool} {e : Ending} (h : Held F F e) : ∃ E : Int, e = tri 0 0 0 0 0 E := by
  rcases h with ⟨E, _, rfl⟩ | rfl
  · exact ⟨E, rfl⟩
  · rw [leastF_self]; exact ⟨0, rfl⟩
theorem leastF_turn (F G : Nat → Bool) (n : Nat) : (leastF F G n = none ∧ leastF G F n = none) ∨ (∃ c, leastF F G n = some (c, 1) ∧ leastF G F n = some (c, 2)) ∨ (∃ c, leastF F G n = some (c, 2) ∧ leastF G F n = some (c, 1)) := by
  have hc : (fun c => G c != F c) = fun c => F c != G c := by funext c; cases F c <;> cases G c <;> rfl
  unfold leastF
  rw [hc]
  rcases hf : (List.range n).find? (fun c => F c != G c) with _ | c
  · exact .inl ⟨rfl, rfl⟩
  · have h := List.find?_some hf
    cases h1 : F c <;> cases h2 : G c <;> rw [h1, h2] at h <;> first | cases h | skip
    · exact .inr (.inr ⟨c, by simp [h1], by simp [h2]⟩)
    · exact .inr (.inl ⟨c, by simp [h1], by simp [h2]⟩)
theorem Ans.meet {F G : Nat → Bool} {x0 x1 x2 x3 k E y0 y1 y2 y3 m D : Int} (h : Ans F G x0 x1 x2 x3 k E) (h' : Ans G F y0 y1 y2 y3 m D) : E ≠ 0 ∨ D ≠ 0 ∨ (E = 0 ∧ D = 0 ∧ y0 = x0 ∧ y1 = x1 ∧ y2 = x2 ∧ y3 = x3 ∧ ((k = 0 ∧ m = 0) ∨ (k = 1 ∧ m = 2) ∨ (k = 2 ∧ m = 1))) := by
  rcases h with h | ⟨h1, h2⟩
  · exact .inl h
  rcases h' with h | ⟨h3, h4⟩
  · exact .inr (.inl h)
  refine .inr (.inr ⟨h1, h3, ?_⟩)
  rcases leastF_turn F G 16384 with ⟨e1, e2⟩ | ⟨c, e1, e2⟩ | ⟨c, e1, e2⟩
  · rw [e1] at h2; rw [e2] at h4
    simp [tri, drV, drErr] at h2 h4
    obtain ⟨⟨rfl, rfl, rfl, rfl⟩, rfl⟩ := h2
    obtain ⟨⟨rfl, rfl, rfl, rfl⟩, rfl⟩ := h4
    simp
  all_goals
    obtain ⟨z0, z1, z2, z3, hp⟩ := packVal_ints c
    rw [e1] at h2; rw [e2] at h4
    simp [tri, drV, hp] at h2 h4
    obtain ⟨⟨rfl, rfl, rfl, rfl⟩, rfl⟩ := h2
    obtain ⟨⟨rfl, rfl, rfl, rfl⟩, rfl⟩ := h4
    simp

theorem rules_held (W : World) (l1 l2 : List RuleV) (ad1 ad2 : Option Addr) (n1 n2 c1 c2 : Nat) (hl1 : RulesAt W W.heap.size ad1 n1 l1) (hl2 : RulesAt W W.heap.size ad2 n2 l2) :
    Calls Try.prog 12 #[.slice ad1 n1 c1, .slice ad2 n2 c2, .int .i64 40000] W fun e W' => Below W.heap.size W W' ∧ Held (LB l1) (LB l2) e := by
  rcases Nat.lt_or_ge 8 n1 with h | h1
  · exact (differRules_large W ad1 ad2 n1 n2 c1 c2 40000 (.inl h)).mono fun e w' ⟨h1, h2⟩ => ⟨h2, .inl ⟨2, by decide, h1⟩⟩
  rcases Nat.lt_or_ge 8 n2 with h | h2
  · exact (differRules_large W ad1 ad2 n1 n2 c1 c2 40000 (.inr h)).mono fun e w' ⟨h1, h2⟩ => ⟨h2, .inl ⟨2, by decide, h1⟩⟩
  exact (differRules_walk W l1 l2 ad1 ad2 n1 n2 c1 c2 40000 h1 h2 (by omega) (by omega) hl1 hl2).mono fun e w' ⟨h1, h2⟩ => ⟨h1, h2.elim (fun h => .inl ⟨6, by decide, h⟩) .inr⟩
theorem newA_const {F : Bdd.Fn} {b : Bool} (h : F = fun _ => b) : PC NewA F := fun G hG => by rw [h] at hG; exact .inr (cof_const hG)
theorem aclF_nil : aclF [] = fun _ => false := rfl
theorem acl_one : AclPC NewA [⟨true, allM⟩] := ⟨fun r hr G hG => by
    obtain rfl := List.mem_singleton.1 hr
    exact newA_of hG, fun k G hG => by
    cases k with
    | zero => exact newA_const (aclF_all true []) G hG
    | succ k => rw [show List.drop (k + 1) [(⟨true, allM⟩ : RuleV)] = [] from by simp] at hG; exact newA_const aclF_nil G hG⟩
theorem acl_no : AclPC NewA [] := ⟨fun r hr => (by cases hr), fun k G hG => by rw [List.drop_nil] at hG; exact newA_const aclF_nil G hG⟩
theorem rules_first (W : World) (ad1 : Option Addr) (c1 : Nat) (hl1 : RulesAt W W.heap.size ad1 1 [⟨true, allM⟩]) :
    Calls Try.prog 12 #[.slice ad1 1 c1, .slice none 0 0, .int .i64 40000] W fun e W' => e = tri 0 0 0 0 1 0 ∧ Below W.heap.size W W' := by
  refine (differRules_walkP NewA W [⟨true, allM⟩] [] ad1 none 1 0 c1 0 40000 (by omega) (by omega) (by omega) (by omega) hl1 ⟨rfl, fun r hr => (by cases hr), fun h => absurd h (by omega)⟩ acl_one acl_no (newA_const (b := true) (by funext x; simp [aclF_nil, iteF])) (newA_const (b := true) (by rw [aclF_all, aclF_nil]; funext x; simp [xorF, iteF]))).mono ?_
  rintro e w' ⟨hb, ⟨rfl, A, he, hn, hm⟩ | rfl⟩
  · have h1 := newA_room he (fun j h1 h2 => hn j h1 h2)
    have h2 : A.most = 40000 := he.most
    omega
  · refine ⟨?_, hb⟩
    have h0 : leastF (fun c => letsB [⟨true, allM⟩] (pk c)) (fun c => letsB [] (pk c)) 16384 = some (0, 1) := (leastF_found (c := 0) (by omega) (by decide) (fun j hj => by omega)).trans (by decide)
    rw [h0]
    rfl
theorem at_held {a b : NetV} {nm : ByteArray} {e : Ending} (h : (∃ E : Int, E ≠ 0 ∧ e = .returned (drErr E)) ∨ ∃ F G, SideAny a nm F ∧ SideAny b nm G ∧ e = .returned (drV (leastF F G 16384))) :
    ∃ x0 x1 x2 x3 k E, e = tri x0 x1 x2 x3 k E ∧ (E ≠ 0 ∨ ∃ F G, SideAny a nm F ∧ SideAny b nm G ∧ Ans F G x0 x1 x2 x3 k E) := by
  rcases h with ⟨E, hE, rfl⟩ | ⟨F, G, h1, h2, rfl⟩
  · exact ⟨0, 0, 0, 0, 0, E, rfl, .inl hE⟩
  · obtain ⟨x0, x1, x2, x3, k, E, h3, h4⟩ := Held.ans (F := F) (G := G) (.inr rfl)
    exact ⟨x0, x1, x2, x3, k, E, h3, .inr ⟨F, G, h1, h2, h4⟩⟩
theorem at_meet {a b : NetV} {nm : ByteArray} {x0 x1 x2 x3 k E y0 y1 y2 y3 m D : Int} (h : E ≠ 0 ∨ ∃ F G, SideAny a nm F ∧ SideAny b nm G ∧ Ans F G x0 x1 x2 x3 k E) (h' : D ≠ 0 ∨ ∃ F G, SideAny b nm F ∧ SideAny a nm G ∧ Ans F G y0 y1 y2 y3 m D) :
    E ≠ 0 ∨ D ≠ 0 ∨ (E = 0 ∧ D = 0 ∧ y0 = x0 ∧ y1 = x1 ∧ y2 = x2 ∧ y3 = x3 ∧ ((k = 0 ∧ m = 0) ∨ (k = 1 ∧ m = 2) ∨ (k = 2 ∧ m = 1))) := by
  rcases h with h | ⟨F, G, h1, h2, h3⟩
  · exact .inl h
  rcases h' with h | ⟨F', G', h1', h2', h3'⟩
  · exact .inr (.inl h)
  obtain rfl := h1.unique h2'
  obtain rfl := h2.unique h1'
  exact h3.meet h3'
theorem one_rule_new (w : World) : RulesAt (w.alloc (.cells #[.bool true, .int .u16 65535, .int .u16 65535, .int .u8 255, .int .u8 255] 54)) (w.alloc (.cells #[.bool true, .int .u16 65535, .int .u16 65535, .int .u8 255, .int .u8 255] 54)).heap.size (some ⟨w.heap.size, 0, none⟩) 1 [⟨true, allM⟩] := by
  have HX := Bx.new w #[.bool true, .int .u16 65535, .int .u16 65535, .int .u8 255, .int .u8 255] 54
  refine ⟨rfl, fun r hr => ?_, fun _ => ⟨w.heap.size, 0, rfl, HX.lt, fun k r hr => ?_⟩⟩
  · obtain rfl := List.mem_singleton.1 hr
    exact allM_ok
  · cases k with
    | zero =>
      obtain rfl : r = ⟨true, allM⟩ := by simpa using hr.symm
      exact ⟨HX.get 0 _ rfl, HX.get 1 _ rfl, HX.get 2 _ rfl, HX.get 3 _ rfl, HX.get 4 _ rfl⟩
    | succ k => simp at hr

set_option maxRecDepth 100000 in
set_option maxHeartbeats 8000000 in
theorem differSelf_walk (a b : NetV) (nm : ByteArray) (l1 l2 : List RuleV) (A1 A2 : Option Addr) (n1 n2 c1 c2 : Nat) (W : World) (ha : NetAt W W.heap.size a) (hb : NetAt W W.heap.size b) (hl1 : RulesAt W W.heap.size A1 n1 l1) (hl2 : RulesAt W W.heap.size A2 n2 l2) :
    Calls Try.prog 4 #[a.val, b.val, .string nm, .slice A1 n1 c1, .slice A2 n2 c2] W fun e W' => e = .returned (.bool true) ∧ Below W.heap.size W W' := by
  have HNA := hide (fun (w' : World) (hb' : Below W.heap.size W w') => show NetAt w' w'.heap.size a from ha.below hb' hb'.size)
  have HNB := hide (fun (w' : World) (hb' : Below W.heap.size W w') => show NetAt w' w'.heap.size b from hb.below hb' hb'.size)
  have HR1 := hide (fun (w' : World) (hb' : Below W.heap.size W w') => show RulesAt w' w'.heap.size A1 n1 l1 from hl1.below hb' hb'.size)
  have HR2 := hide (fun (w' : World) (hb' : Below W.heap.size W w') => show RulesAt w' w'.heap.size A2 n2 l2 from hl2.below hb' hb'.size)
  have HAA := hide (fun (w' : World) (hb' : Below W.heap.size W w') => differAt_walk a a nm w' (HNA.out w' hb') (HNA.out w' hb'))
  have HAB := hide (fun (w' : World) (hb' : Below W.heap.size W w') => differAt_walk a b nm w' (HNA.out w' hb') (HNB.out w' hb'))
  have HBA := hide (fun (w' : World) (hb' : Below W.heap.size W w') => differAt_walk b a nm w' (HNB.out w' hb') (HNA.out w' hb'))
  have HXX := hide (fun (w' : World) (hb' : Below W.heap.size W w') => rules_held w' l1 l1 A1 A1 n1 n1 c1 c1 (HR1.out w' hb') (HR1.out w' hb'))
  have HXY := hide (fun (w' : World) (hb' : Below W.heap.size W w') => rules_held w' l1 l2 A1 A2 n1 n2 c1 c2 (HR1.out w' hb') (HR2.out w' hb'))
  have HYX := hide (fun (w' : World) (hb' : Below W.heap.size W w') => rules_held w' l2 l1 A2 A1 n2 n1 c2 c1 (HR2.out w' hb') (HR1.out w' hb'))
  clear ha hb hl1 hl2 HNA HNB HR1 HR2
  generalize LB l1 = R1 at *
  generalize LB l2 = R2 at *
  obtain ⟨dA, dn, dc, ds, lA, ln, lc, ls⟩ := a
  obtain ⟨eA, en, ec, es, fA, fn, fc, fs⟩ := b
  simp only [NetV.val] at *
  go_enter Try.func4, Try.ntmps4
  go_wp2_with fail
  have HB0 := hide (below_alloc3 W (.cells #[.slice dA dn dc, .slice lA ln lc] 25) (.cells #[.slice eA en ec, .slice fA fn fc] 25))
  have hbx := boxesB [(#[.slice dA dn dc, .slice lA ln lc], 25), (#[.slice eA en ec, .slice fA fn fc], 25)] W
  have HX0 := hide (show Bx ((W.alloc (.cells #[.slice dA dn dc, .slice lA ln lc] 25)).alloc (.cells #[.slice eA en ec, .slice fA fn fc] 25)) W.heap.size #[.slice dA dn dc, .slice lA ln lc] 25 from hbx 0 _ _ rfl)
  have HY0 := hide (show Bx ((W.alloc (.cells #[.slice dA dn dc, .slice lA ln lc] 25)).alloc (.cells #[.slice eA en ec, .slice fA fn fc] 25)) (W.heap.size + 1) #[.slice eA en ec, .slice fA fn fc] 25 from hbx 1 _ _ rfl)
  clear hbx
  generalize World.alloc (World.alloc W _) _ = w0 at *
  refine (allRule_walk true w0).mono ?_
  rintro e w1 ⟨rfl, hb1⟩
  go_wp2_with fail
  have hb2 := hb1.trans ((below_alloc2 w1 (.cells #[.bool true, .int .u16 65535, .int .u16 65535, .int .u8 255, .int .u8 255] 54)).mono hb1.size)
  refine (rules_first _ _ _ (one_rule_new w1)).mono ?_
  rintro e w2 ⟨rfl, hb3⟩
  have hb03 := hb2.trans (hb3.mono hb2.size)
  have HB2 := hide (HB0.out.trans (hb03.mono HB0.out.size))
  have HX2 := hide (HX0.out.below hb03)
  have HY2 := hide (HY0.out.below hb03)
  clear hb1 hb2 hb3 hb03 HB0 HX0 HY0
  unfold tri
  go_wp2_with fail
  have hba := below_alloc2 w2 (.cells #[.int .i64 0, .int .i64 0, .int .i64 0, .int .i64 0] 27)
  refine (HXX.out _ (HB2.out.trans (hba.mono HB2.out.size))).mono ?_
  rintro e w3 ⟨hb3, hh⟩
  obtain ⟨E0, rfl⟩ := hh.self
  have hb23 := hba.trans (hb3.mono hba.size)
  have HB3 := hide (HB2.out.trans (hb23.mono HB2.out.size))
  have HX3 := hide (HX2.out.below hb23)
  have HY3 := hide (HY2.out.below hb23)
  clear hba hb3 hb23 hh HB2 HX2 HY2 HXX
  unfold tri
  go_wp2_with fail
  have hba := below_alloc2 w3 (.cells #[.int .i64 0, .int .i64 0, .int .i64 0, .int .i64 0] 27)
  refine (HXY.out _ (HB3.out.trans (hba.mono HB3.out.size))).mono ?_
  rintro e w4 ⟨hb4, hh⟩
  obtain ⟨x0, x1, x2, x3, k1, E1, rfl, hans⟩ := hh.ans
  have HA1 := hide hans
  have hb34 := hba.trans (hb4.mono hba.size)
  have HB4 := hide (HB3.out.trans (hb34.mono HB3.out.size))
  have HX4 := hide (HX3.out.below hb34)
  have HY4 := hide (HY3.out.below hb34)
  clear hba hb4 hb34 hh HB3 HX3 HY3 HXY hans
  unfold tri
  go_wp2_with fail
  have hba := below_alloc2 w4 (.cells #[.int .i64 x0, .int .i64 x1, .int .i64 x2, .int .i64 x3] 27)
  refine (HYX.out _ (HB4.out.trans (hba.mono HB4.out.size))).mono ?_
  rintro e w5 ⟨hb5, hh⟩
  obtain ⟨y0, y1, y2, y3, k2, E2, rfl, hans⟩ := hh.ans
  have HA2 := hide hans
  have hb45 := hba.trans (hb5.mono hba.size)
  have HB5 := hide (HB4.out.trans (hb45.mono HB4.out.size))
  have HX5 := hide (HX4.out.below hb45)
  have HY5 := hide (HY4.out.below hb45)
  have HP5 := hide ((Bx.new w4 #[.int .i64 x0, .int .i64 x1, .int .i64 x2, .int .i64 x3] 27).below hb5)
  have hW4 : W.heap.size ≤ w4.heap.size := HB4.out.size
  have hX4l := HX4.out.lt
  have hY4l := HY4.out.lt
  clear hba hb5 hb45 hh HB4 HX4 HY4 HYX hans
  unfold tri
  go_upto_region 9 with fail
  have hbz := below_alloc2 w5 (.cells #[.int .i64 y0, .int .i64 y1, .int .i64 y2, .int .i64 y3] 27)
  have HB6 := hide (HB5.out.trans (hbz.mono HB5.out.size))
  have HX6 := hide (HX5.out.below hbz)
  have HY6 := hide (HY5.out.below hbz)
  have HP6 := hide (HP5.out.below hbz)
  have HQ6 := hide (Bx.new w5 #[.int .i64 y0, .int .i64 y1, .int .i64 y2, .int .i64 y3] 27)
  have hNM : w4.heap.size ≠ w5.heap.size := by have := HP5.out.lt; omega
  have hNl := HP5.out.lt
  have hMl := HQ6.out.lt
  have hMW : W.heap.size ≤ w5.heap.size := by omega
  have hN0 : W.heap.size ≠ w4.heap.size := by omega
  have hN1 : W.heap.size + 1 ≠ w4.heap.size := by omega
  clear hbz HB5 HX5 HY5 HP5
  generalize World.alloc w5 _ = w6 at *
  generalize w4.heap.size = N at *
  generalize w5.heap.size = M at *
  go_cut [93] (fun s93 wx => s93 = .bool false ∧ wx = w6)
  case first =>
    have p0 := HP6.out.get 0 _ rfl
    have p1 := HP6.out.get 1 _ rfl
    have p2 := HP6.out.get 2 _ rfl
    have p3 := HP6.out.get 3 _ rfl
    have q0 := HQ6.out.get 0 _ rfl
    have q1 := HQ6.out.get 1 _ rfl
    have q2 := HQ6.out.get 2 _ rfl
    have q3 := HQ6.out.get 3 _ rfl
    rcases HA1.out.meet HA2.out with h | h | ⟨rfl, rfl, rfl, rfl, rfl, rfl, ⟨rfl, rfl⟩ | ⟨rfl, rfl⟩ | ⟨rfl, rfl⟩⟩
    · have hE : (E1 == 0) = false := by simpa using h
      clear HA1 HA2
      go_wp2
      go_meet
      exact ⟨rfl, rfl⟩
    · have hE : (E2 == 0) = false := by simpa using h
      by_cases h1 : E1 = 0
      · subst h1
        clear HA1 HA2
        go_wp2
        go_meet
        exact ⟨rfl, rfl⟩
      · have hE1 : (E1 == 0) = false := by simpa using h1
        clear HA1 HA2
        go_wp2
        go_meet
        exact ⟨rfl, rfl⟩
    all_goals
      clear HA1 HA2
      go_wp2
      go_meet
      exact ⟨rfl, rfl⟩
  case rest =>
    obtain ⟨rfl, rfl⟩ := hcut
    clear HA1 HA2
    have x0 := HX6.out.get 0 _ rfl
    have x1 := HX6.out.get 1 _ rfl
    go_wp2_with fail
    refine (HAA.out _ HB6.out).mono ?_
    clear HAA x0 x1
    rintro e w7 ⟨hb7, hh⟩
    obtain ⟨E3, rfl⟩ : ∃ E : Int, e = tri 0 0 0 0 0 E := by
      rcases hh with ⟨E, _, rfl⟩ | ⟨F, G, h1, h2, rfl⟩
      · exact ⟨E, rfl⟩
      · obtain rfl := h1.unique h2
        rw [leastF_self]
        exact ⟨0, rfl⟩
    have HB7 := hide (HB6.out.trans (hb7.mono HB6.out.size))
    have HX7 := hide (HX6.out.below hb7)
    have HY7 := hide (HY6.out.below hb7)
    have HP7 := hide (HP6.out.below hb7)
    have HQ7 := hide (HQ6.out.below hb7)
    clear hb7 hh HB6 HX6 HY6 HP6 HQ6
    unfold tri
    have x0 : ∀ o, (w7.alloc o).cell? ⟨W.heap.size, 0, none⟩ = _ := fun o => (HX7.out.below (below_alloc2 w7 o)).get 0 _ rfl
    have x1 : ∀ o, (w7.alloc o).cell? ⟨W.heap.size, 1, none⟩ = _ := fun o => (HX7.out.below (below_alloc2 w7 o)).get 1 _ rfl
    have y0 : ∀ o, (w7.alloc o).cell? ⟨W.heap.size + 1, 0, none⟩ = _ := fun o => (HY7.out.below (below_alloc2 w7 o)).get 0 _ rfl
    have y1 : ∀ o, (w7.alloc o).cell? ⟨W.heap.size + 1, 1, none⟩ = _ := fun o => (HY7.out.below (below_alloc2 w7 o)).get 1 _ rfl
    go_wp2_with fail
    clear x0 x1 y0 y1
    have hba := below_alloc2 w7 (.cells #[.int .i64 0, .int .i64 0, .int .i64 0, .int .i64 0] 27)
    refine (HAB.out _ (HB7.out.trans (hba.mono HB7.out.size))).mono ?_
    clear HAB
    rintro e w8 ⟨hb8, hh⟩
    obtain ⟨z0, z1, z2, z3, k3, E4, rfl, hans⟩ := at_held hh
    have HA1 := hide hans
    have hb78 := hba.trans (hb8.mono hba.size)
    have HB8 := hide (HB7.out.trans (hb78.mono HB7.out.size))
    have HX8 := hide (HX7.out.below hb78)
    have HY8 := hide (HY7.out.below hb78)
    have HP8 := hide (HP7.out.below hb78)
    have HQ8 := hide (HQ7.out.below hb78)
    clear hba hb8 hb78 hh hans HB7 HX7 HY7 HP7 HQ7
    unfold tri
    have p0 := HP8.out.get 0 _ rfl
    have p1 := HP8.out.get 1 _ rfl
    have p2 := HP8.out.get 2 _ rfl
    have p3 := HP8.out.get 3 _ rfl
    have f0 := HP8.out.frozen 0
    have f1 := HP8.out.frozen 1
    have f2 := HP8.out.frozen 2
    have f3 := HP8.out.frozen 3
    have x0 := HX8.out.get 0 _ rfl
    have x1 := HX8.out.get 1 _ rfl
    have y0 := HY8.out.get 0 _ rfl
    have y1 := HY8.out.get 1 _ rfl
    go_wp2_with fail
    have HBv := hide (show Below W.heap.size W ((((w8.setCell ⟨N, 0, none⟩ (.int .i64 z0)).setCell ⟨N, 1, none⟩ (.int .i64 z1)).setCell ⟨N, 2, none⟩ (.int .i64 z2)).setCell ⟨N, 3, none⟩ (.int .i64 z3)) from (((HB8.out.setCell hW4 _).setCell hW4 _).setCell hW4 _).setCell hW4 _)
    have HXv := hide ((((HX8.out.far ⟨N, 0, none⟩ (.int .i64 z0) hN0).far ⟨N, 1, none⟩ (.int .i64 z1) hN0).far ⟨N, 2, none⟩ (.int .i64 z2) hN0).far ⟨N, 3, none⟩ (.int .i64 z3) hN0)
    have HPv := hide ((((HP8.out.set 0 (.int .i64 z0)).set 1 (.int .i64 z1)).set 2 (.int .i64 z2)).set 3 (.int .i64 z3))
    have HQv := hide ((((HQ8.out.far ⟨N, 0, none⟩ (.int .i64 z0) (Ne.symm hNM)).far ⟨N, 1, none⟩ (.int .i64 z1) (Ne.symm hNM)).far ⟨N, 2, none⟩ (.int .i64 z2) (Ne.symm hNM)).far ⟨N, 3, none⟩ (.int .i64 z3) (Ne.symm hNM))
    refine (HBA.out _ HBv.out).mono ?_
    clear HBA p0 p1 p2 p3 f0 f1 f2 f3 x0 x1 y0 y1 HB8 HX8 HY8 HP8 HQ8
    generalize World.setCell (World.setCell (World.setCell (World.setCell w8 _ _) _ _) _ _) _ _ = wv at *
    rintro e w9 ⟨hb9, hh⟩
    obtain ⟨t0, t1, t2, t3, k5, E5, rfl, hans⟩ := at_held hh
    have HA2 := hide hans
    have HB9 := hide (HBv.out.trans (hb9.mono HBv.out.size))
    have HP9 := hide (HPv.out.below hb9)
    have HQ9 := hide (HQv.out.below hb9)
    clear hb9 hh hans HBv HXv HPv HQv
    unfold tri
    have q0 := HQ9.out.get 0 _ rfl
    have q1 := HQ9.out.get 1 _ rfl
    have q2 := HQ9.out.get 2 _ rfl
    have q3 := HQ9.out.get 3 _ rfl
    have g0 := HQ9.out.frozen 0
    have g1 := HQ9.out.frozen 1
    have g2 := HQ9.out.frozen 2
    have g3 := HQ9.out.frozen 3
    go_upto_region 16 with fail
    have HBu := hide (show Below W.heap.size W ((((w9.setCell ⟨M, 0, none⟩ (.int .i64 t0)).setCell ⟨M, 1, none⟩ (.int .i64 t1)).setCell ⟨M, 2, none⟩ (.int .i64 t2)).setCell ⟨M, 3, none⟩ (.int .i64 t3)) from (((HB9.out.setCell hMW _).setCell hMW _).setCell hMW _).setCell hMW _)
    have HPu := hide ((((HP9.out.far ⟨M, 0, none⟩ (.int .i64 t0) hNM).far ⟨M, 1, none⟩ (.int .i64 t1) hNM).far ⟨M, 2, none⟩ (.int .i64 t2) hNM).far ⟨M, 3, none⟩ (.int .i64 t3) hNM)
    have HQu := hide ((((HQ9.out.set 0 (.int .i64 t0)).set 1 (.int .i64 t1)).set 2 (.int .i64 t2)).set 3 (.int .i64 t3))
    clear q0 q1 q2 q3 g0 g1 g2 g3 HB9 HP9 HQ9
    generalize World.setCell (World.setCell (World.setCell (World.setCell w9 _ _) _ _) _ _) _ _ = wu at *
    have p0 := HPu.out.get 0 (.int .i64 z0) rfl
    have p1 := HPu.out.get 1 (.int .i64 z1) rfl
    have p2 := HPu.out.get 2 (.int .i64 z2) rfl
    have p3 := HPu.out.get 3 (.int .i64 z3) rfl
    have q0 := HQu.out.get 0 (.int .i64 t0) rfl
    have q1 := HQu.out.get 1 (.int .i64 t1) rfl
    have q2 := HQu.out.get 2 (.int .i64 t2) rfl
    have q3 := HQu.out.get 3 (.int .i64 t3) rfl
    clear HPu HQu
    rcases at_meet HA1.out HA2.out with h | h | ⟨rfl, rfl, rfl, rfl, rfl, rfl, ⟨rfl, rfl⟩ | ⟨rfl, rfl⟩ | ⟨rfl, rfl⟩⟩
    · have hE : (E4 != 0) = true := by simpa using h
      clear HA1 HA2
      go_wp2
      go_ret
      exact ⟨rfl, HBu.out⟩
    · have hE : (E5 != 0) = true := by simpa using h
      by_cases h1 : E4 = 0
      · subst h1
        clear HA1 HA2
        go_wp2
        go_ret
        exact ⟨rfl, HBu.out⟩
      · have hE1 : (E4 != 0) = true := by simpa using h1
        clear HA1 HA2
        go_wp2
        go_ret
        exact ⟨rfl, HBu.out⟩
    all_goals
      clear HA1 HA2
      go_wp2
      go_ret
      exact ⟨ret_bool (by simp), HBu.out⟩
end Go.Proofs.Ytklbdfgblebniaa

set_option linter.unusedVariables false
set_option linter.unusedSimpArgs false
namespace Go.Proofs.Ytklbdfgblebniaa
open Go.ChangeShapes Go.WideShapes Go.ChangeAt Go.RowKit Go.Maps

set_option maxRecDepth 100000 in
theorem differSelf_lifted (os : Os) (started : os.Started) (H : Type) (enc : TypeId × Value → H) :
    ReturnsInHanded {} Try.checked os 4 .any (Rows.differSelfSpec.pre6 enc Try.prog Try.f4 Rows.differSelfRow.domain false) (Rows.differSelfSpec.post enc Try.prog Try.f4 false true false false) :=
  law_lifted (C := Try.checked) (tb := 4) Try.own started (by kernel_rfl) Try.func4 Try.laidOut (by kernel_rfl) rfl (by kernel_rfl) Try.underlying4
    (fun ds h => by
      match ds, h with
      | [_, _, _, _, _], _ => exact ⟨rfl, rfl, rfl⟩)
    (ChangeSpec.witness6 (enc := enc) (C := Try.checked) false ⟨#[], #[.agg #[.slice none 0 0, .slice none 0 0], .agg #[.slice none 0 0, .slice none 0 0], .string ⟨#[]⟩, .slice none 0 0, .slice none 0 0], []⟩ 8 (by kernel_rfl) (by kernel_rfl) (by kernel_rfl) (by kernel_rfl))
    (fun W base args ds p hval0 hA0 hlt hsz0 => by
      have hval : ∀ (j : Nat) t v, Try.f4.params[j]? = some t → args[j]? = some v → Value.okWide Try.prog W .any base t v := hval0
      have hA : DataW.TrodAll enc Try.prog W 0 (fun _ => true) true Try.f4.params.toList args.toList ds p := hA0
      have hsz : (DataW.weightsEach Try.prog (Try.f4.params.toList ++ Rows.differSelfSpec.plain.varTypes Try.prog) (ds ++ [])).all (· ≤ reachBytes) = true := hsz0
      rw [Try.params4] at hA hval hsz
      obtain ⟨v0, vs0, d0, ds0, p0, q0, hargs, rfl, rfl, h0, r0⟩ := args_cons hA
      obtain ⟨v1, vs1, d1, ds1, p1, q1, rfl, rfl, rfl, h1, r1⟩ := args_cons r0
      obtain ⟨v2, vs2, d2, ds2, p2, q2, rfl, rfl, rfl, h2, r2⟩ := args_cons r1
      obtain ⟨v3, vs3, d3, ds3, p3, q3, rfl, rfl, rfl, h3, r3⟩ := args_cons r2
      obtain ⟨v4, vs4, d4, ds4, p4, q4, rfl, rfl, rfl, h4, r4⟩ := args_cons r3
      obtain ⟨rfl, rfl, rfl⟩ := args_nil r4
      obtain rfl : args = #[v0, v1, v2, v3, v4] := arr_eq hargs
      obtain ⟨n0, hn0, rfl⟩ := open_net (hval 0 _ v0 rfl rfl) h0
      obtain ⟨n1, hn1, rfl⟩ := open_net (hval 1 _ v1 rfl rfl) h1
      obtain ⟨nm, rfl⟩ := okWide_string Try.underlying9 (hval 2 _ v2 rfl rfl)
      obtain ⟨A3, n3, c3, l3, rfl, _, _, hr3, _⟩ := open_rules (hval 3 _ v3 rfl rfl) h3
      obtain ⟨A4, n4, c4, l4, rfl, _, _, hr4, _⟩ := open_rules (hval 4 _ v4 rfl rfl) h4
      exact differSelf_walk n0 n1 nm l3 l4 A3 A4 n3 n4 c3 c4 W hn0 hn1 hr3 hr4)

theorem differSelf_holds : Rows.DifferSelfSaid :=
  OpenClaim.holds_of_wide 4 Try.f4 rfl rfl rfl rfl rfl rfl rfl ⟨rfl, rfl, rfl, rfl, rfl⟩ rfl rfl rfl rfl rfl (by kernel_rfl) Try.func4 (by kernel_rfl)
    (of_decide_eq_true (by kernel_rfl)) (by unfold Func.isWrapper; first | (rw [if_pos (by decide +kernel)]; kernel_rfl) | (rw [if_neg (by decide +kernel)]; exact ⟨rfl, rfl⟩))
    (fun os started H enc _ => differSelf_lifted os started H enc)
end Go.Proofs.Ytklbdfgblebniaa
