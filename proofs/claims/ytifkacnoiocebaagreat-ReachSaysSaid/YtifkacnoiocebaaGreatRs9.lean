/- A part of the proof: Mk3, Mk4, RegC, KMap, StepKeys. -/
import Derived.Test.YtifkacnoiocebaaGreatRs8
set_option linter.unusedVariables false
set_option linter.unusedSimpArgs false
set_option maxRecDepth 100000
set_option maxHeartbeats 4000000
namespace Go.Proofs.YtifkacnoiocebaaGreat
open Bdd Go.Maps Go.RowKit
def matchF (m : M4) : Bdd.Fn := outs (partL m.src m.dst m.sport m.dport)
def MatchPC (P : Bdd.Fn → Prop) (m : M4) : Prop := ∀ G, NewB (partL m.src m.dst m.sport m.dport) G → P G
theorem MR.pre {w0 w w' : World} {B g mk e : Nat} {A : St} {bl : List Nat} {P : Bdd.Fn → Prop} {F : Bdd.Fn} {en : Ending} (hk : KP B bl w0 w) (h : MR w B g A bl mk e P F en w') : MR w0 B g A bl mk e P F en w' := by
  obtain ⟨A1, e1, r1, q1, q2, q3, q4, q5, q6⟩ := h
  exact ⟨A1, e1, r1, q1, q2, q3, q4, hk.trans q5, q6⟩
theorem mk_in (w : World) (B g : Nat) (A : St) (bl : List Nat) (mk e : Nat) (h : MK w B g A bl mk e) (m : M4) (hm : m.ok) (P : Bdd.Fn → Prop) (hv : A.vars = 14) (hP : MatchPC P m) :
    Calls Tryz.prog 56 #[.pointer (some ⟨mk, 0, none⟩), m.val] w (MR w B g A bl mk e P (matchF m)) := by
  obtain ⟨s, d, p, q⟩ := m
  obtain ⟨h1, h2, h3, h4⟩ := hm
  simp only at h1 h2 h3 h4
  have hb0 := below_alloc2 w (.cells #[.int .u16 s, .int .u16 d, .int .u8 p, .int .u8 q] 32)
  have H := hide (show MK (w.alloc (.cells #[.int .u16 s, .int .u16 d, .int .u8 p, .int .u8 q] 32)) B g A (w.heap.size :: bl) mk e from
    ⟨(h.sa.alloc _).mono (fun j hj => by simp only [List.mem_cons] at hj ⊢; rcases hj with a | a | a <;> simp [a]), h.bx.below hb0, h.er, fun hj => by
      rcases List.mem_cons.1 hj with a | a
      · have := (h.sa.lt mk (by simp)).2; omega
      · exact h.ap a⟩)
  have HX := hide (Bx.new w #[.int .u16 s, .int .u16 d, .int .u8 p, .int .u8 q] 32)
  have HK0 := hide (h.kp hb0)
  have HP := hide hP
  have H0 := hide (h.below hb0)
  have c0 := (H.out.bx.get 0 _ rfl : (w.alloc (.cells #[.int .u16 s, .int .u16 d, .int .u8 p, .int .u8 q] 32)).cell? ⟨mk, 0, none⟩ = some (.pointer (some ⟨g, 0, none⟩)))
  have c1 := (H.out.bx.get 1 _ rfl : (w.alloc (.cells #[.int .u16 s, .int .u16 d, .int .u8 p, .int .u8 q] 32)).cell? ⟨mk, 1, none⟩ = some (.int .i64 (e : Int)))
  have hir := h.inv
  have HI := hide hir
  have HLO := hide (fun (A' : St) (en : Ending) (w' : World) (hr : MR (w.alloc (.cells #[.int .u16 s, .int .u16 d, .int .u8 p, .int .u8 q] 32)) B g A (w.heap.size :: bl) mk e P (matchF ⟨s, d, p, q⟩) en w') => show MR w B g A bl mk e P (matchF ⟨s, d, p, q⟩) en w' from by
    obtain ⟨A1, e1, r1, q1, q2, q3, q4, q5, q6⟩ := hr
    exact ⟨A1, e1, r1, q1, ⟨q2.sa.mono (fun j hj => by
      rcases List.mem_cons.1 hj with a | a
      · simp [a]
      · simp [a]), q2.bx, q2.er, fun hj => q2.ap (by simp [hj])⟩, q3, q4, HK0.out.trans (q5.mono (fun j hj => by simp [hj])), q6⟩)
  clear h hP hir hb0
  simp only [M4.val]
  go_enter Tryz.func56, Tryz.ntmps56
  by_cases he : e = 0
  · subst he
    go_wp2_with fail
    clear c0 c1
    generalize World.alloc w _ = w0 at *
    generalize w.heap.size = N at *
    have HQ := hide (fun (w' : World) (hx : Bx w' N #[.int .u16 s, .int .u16 d, .int .u8 p, .int .u8 q] 32) (hk : Bx w' mk #[.pointer (some ⟨g, 0, none⟩), .int .i64 0] 72) => show (w'.cell? ⟨mk, 0, none⟩ = some (.pointer (some ⟨g, 0, none⟩))) ∧ (w'.cell? ⟨N, 0, none⟩ = some (.int .u16 s) ∧ w'.cell? ⟨N, 1, none⟩ = some (.int .u16 d) ∧ w'.cell? ⟨N, 2, none⟩ = some (.int .u8 p) ∧ w'.cell? ⟨N, 3, none⟩ = some (.int .u8 q)) from
      ⟨hk.get 0 _ rfl, hx.get 0 _ rfl, hx.get 1 _ rfl, hx.get 2 _ rfl, hx.get 3 _ rfl⟩)
    have HD := hide (RowKit.Below.drew (RowKit.Below.refl w0.heap.size w0))
    refine wp_region_E (fun w' => (w'.cell? ⟨mk, 0, none⟩ = some (.pointer (some ⟨g, 0, none⟩))) ∧ (w'.cell? ⟨N, 0, none⟩ = some (.int .u16 s) ∧ w'.cell? ⟨N, 1, none⟩ = some (.int .u16 d) ∧ w'.cell? ⟨N, 2, none⟩ = some (.int .u8 p) ∧ w'.cell? ⟨N, 3, none⟩ = some (.int .u8 q))) 6 (by kernel_rfl) (HQ.out _ (HX.out.below HD.out) (H.out.bx.below HD.out)) (fun hS => ?_)
    refine rP 0 hS ?_
    refine rP 1 hS ?_
    refine rP 2 hS ?_
    refine rP 3 hS ?_
    refine rL 4 [6] rfl hS (by intro w hSw; obtain ⟨s0, s1, s2, s3, s4⟩ := hSw; go_simp; try with_reducible rfl) ?_
    refine rL 5 [6] rfl hS (by intro w hSw; obtain ⟨s0, s1, s2, s3, s4⟩ := hSw; go_simp; try with_reducible rfl) ?_
    intro inv
    refine rO 6 inv fun K hK => ?_
    go_simp
    have HM1 := hide (H.out.below HD.out)
    refine (aq_match HM1.out.sa (by omega) s d p q h1 h2 h3 h4 HP.out).mono ?_
    rintro en w1 ⟨A1, hsa, hext, hnw, hkp, hres⟩
    have HE := hide hext
    have HN := hide hnw
    have HK := hide (((HM1.out.sa.kp (RowKit.Below.refl _ _)).trans hkp).mono (bl' := N :: bl) (fun j hj => List.mem_cons_of_mem _ hj))
    have hbx : Bx w1 mk #[.pointer (some ⟨g, 0, none⟩), .int .i64 0] 72 := HM1.out.bx.same (hkp.same mk (by simp))
    have hnx := (HX.out.below HD.out).same (hkp.same N (by simp))
    have HM := hide (show MK w1 B g A1 (N :: bl) mk 0 from ⟨hsa, hbx, .inl rfl, HM1.out.ap⟩)
    have HQ1 := hide (HQ.out _ hnx hbx)
    clear hsa hext hnw hkp hbx hnx hS
    rcases hres with ⟨r1, rfl, hisf⟩ | ⟨rfl, hfull⟩
    · have HR := hide hisf
      clear hisf
      have hS := HQ1.out
      go_simp
      refine hK.out _ _ (fun _ => hS) ?_
      clear hK K hS inv
      intro inv
      try simp only [Act.put, nrmA, nrmB, nrmC]
      have hS := HQ1.out
      revert inv
      refine rP 7 hS ?_
      refine rP 8 hS ?_
      intro inv
      refine rT 9 inv fun K hK => ?_
      go_simp
      refine (got_walk w1 B g A1 (N :: bl) mk HM.out r1 0 (.inl rfl)).mono ?_
      rintro en w2 hg
      have HF := hide (MR.of_got HE.out HN.out HK.out (fun _ => HR.out) hg)
      obtain ⟨rfl, _⟩ := hg
      clear hS
      go_simp
      refine hK.out _ _ ?_
      clear hK K inv
      intro inv
      try simp only [Act.put, nrmA, nrmB, nrmC]
      refine rT 10 inv fun K hK => ?_
      go_simp
      refine hK.out _ _ ?_
      clear hK K inv
      intro inv
      try simp only [Act.put, nrmA, nrmB, nrmC]
      refine rD ?_
      clear inv
      have HF2 := hide (HLO.out A _ _ (MR.pre (HM1.out.kp (RowKit.Below.refl _ _) |> fun _ => H.out.kp HD.out) HF.out))
      go_wp2
      go_ret
      exact HF2.out
    · have HFU := hide hfull
      clear hfull
      have hS := HQ1.out
      go_simp
      refine hK.out _ _ (fun _ => hS) ?_
      clear hK K hS inv
      intro inv
      try simp only [Act.put, nrmA, nrmB, nrmC]
      have hS := HQ1.out
      revert inv
      refine rP 7 hS ?_
      refine rP 8 hS ?_
      intro inv
      refine rT 9 inv fun K hK => ?_
      go_simp
      refine (got_walk w1 B g A1 (N :: bl) mk HM.out 0 6 (.inr ⟨rfl, HFU.out⟩)).mono ?_
      rintro en w2 hg
      have HF := hide (MR.of_got (F := matchF ⟨s, d, p, q⟩) HE.out HN.out HK.out (fun h => by cases h) hg)
      obtain ⟨rfl, _⟩ := hg
      clear hS
      go_simp
      refine hK.out _ _ ?_
      clear hK K inv
      intro inv
      try simp only [Act.put, nrmA, nrmB, nrmC]
      refine rT 10 inv fun K hK => ?_
      go_simp
      refine hK.out _ _ ?_
      clear hK K inv
      intro inv
      try simp only [Act.put, nrmA, nrmB, nrmC]
      refine rD ?_
      clear inv
      have HF2 := hide (HLO.out A _ _ (MR.pre (HM1.out.kp (RowKit.Below.refl _ _) |> fun _ => H.out.kp HD.out) HF.out))
      go_wp2
      go_ret
      exact HF2.out
  · have HX2 := hide (HLO.out A _ _ (MR.none P (matchF ⟨s, d, p, q⟩) H.out he))
    have hne : ((e : Int) != 0) = true := by simp; omega
    clear he
    go_wp2
    go_ret
    exact HX2.out
def srcM (a : Nat) : M4 := ⟨2 ^ a, 65535, 255, 255⟩
def dstM (a : Nat) : M4 := ⟨65535, 2 ^ a, 255, 255⟩
theorem pow_lt16 {a : Nat} (h : a < 16) : 2 ^ a < 65536 := Nat.pow_lt_pow_right (a := 2) (by omega) (by omega : a < 16)
theorem srcM_ok {a : Nat} (h : a < 16) : (srcM a).ok := ⟨pow_lt16 h, Nat.lt_succ_self 65535, Nat.lt_succ_self 255, Nat.lt_succ_self 255⟩
theorem dstM_ok {a : Nat} (h : a < 16) : (dstM a).ok := ⟨Nat.lt_succ_self 65535, pow_lt16 h, Nat.lt_succ_self 255, Nat.lt_succ_self 255⟩
theorem src_walk (a : Nat) (W : World) (h : a < 16) : Calls Tryz.prog 57 #[.int .i64 (a : Int)] W fun e W' => e = .returned (srcM a).val ∧ RowKit.Below W.heap.size W W' := by
  go_enter Tryz.func57, Tryz.ntmps57
  go_wp2_with fail
  refine (all_walk _).mono ?_
  rintro e w1 ⟨rfl, hb⟩
  have hs := hb.size
  have hsz : W.heap.size < w1.heap.size := by simp at hs; omega
  have HB := hide ((below_alloc2 W (.cells #[.int .u16 0, .int .u16 0, .int .u8 0, .int .u8 0] 32)).trans (hb.mono (by simp)))
  have HX := hide ((Bx.new W #[.int .u16 0, .int .u16 0, .int .u8 0, .int .u8 0] 32).below hb)
  clear hb hs
  have hw : IntKind.u16.wrap (2 ^ a) = ((2 ^ a : Nat) : Int) := by
    have h1 := pow_lt16 h
    have h2 : ((2 : Int) ^ a) = ((2 ^ a : Nat) : Int) := by simp
    rw [h2]
    generalize 2 ^ a = q at *
    simp only [IntKind.wrap, IntKind.signed, IntKind.bits]
    simp
    omega
  have c0 : w1.cell? ⟨W.heap.size, 0, none⟩ = some (.int .u16 0) := HX.out.get 0 _ rfl
  have c1 : w1.cell? ⟨W.heap.size, 1, none⟩ = some (.int .u16 0) := HX.out.get 1 _ rfl
  have c2 : w1.cell? ⟨W.heap.size, 2, none⟩ = some (.int .u8 0) := HX.out.get 2 _ rfl
  have c3 : w1.cell? ⟨W.heap.size, 3, none⟩ = some (.int .u8 0) := HX.out.get 3 _ rfl
  have f0 := HX.out.frozen 0
  have f1 := HX.out.frozen 1
  have f2 := HX.out.frozen 2
  have f3 := HX.out.frozen 3
  have hne : W.heap.size ≠ w1.heap.size := by omega
  go_wp2
  have hfin := ((((HX.out.set 0 (.int .u16 (2 ^ a))).set 1 (.int .u16 65535)).set 2 (.int .u8 255)).set 3 (.int .u8 255)).below (below_alloc2 _ (.cells #[.int .u16 (2 ^ a), .int .u16 65535, .int .u8 255, .int .u8 255] 32))
  refine bodyPost_ret (results_cell_row rfl _ _ W.heap.size 32 _ (0, 0) _ rfl hfin Tryz.underlying32 rfl (by kernel_rfl)) rfl ⟨by simp [srcM, M4.val], ?_⟩
  exact ((((HB.out.setCell (Nat.le_refl _) _).setCell (Nat.le_refl _) _).setCell (Nat.le_refl _) _).setCell (Nat.le_refl _) _).alloc (by simp [World.setCell]; omega) _
theorem dst_walk (a : Nat) (W : World) (h : a < 16) : Calls Tryz.prog 97 #[.int .i64 (a : Int)] W fun e W' => e = .returned (dstM a).val ∧ RowKit.Below W.heap.size W W' := by
  go_enter Tryz.func97, Tryz.ntmps97
  go_wp2_with fail
  refine (all_walk _).mono ?_
  rintro e w1 ⟨rfl, hb⟩
  have hs := hb.size
  have hsz : W.heap.size < w1.heap.size := by simp at hs; omega
  have HB := hide ((below_alloc2 W (.cells #[.int .u16 0, .int .u16 0, .int .u8 0, .int .u8 0] 32)).trans (hb.mono (by simp)))
  have HX := hide ((Bx.new W #[.int .u16 0, .int .u16 0, .int .u8 0, .int .u8 0] 32).below hb)
  clear hb hs
  have hw : IntKind.u16.wrap (2 ^ a) = ((2 ^ a : Nat) : Int) := by
    have h1 := pow_lt16 h
    have h2 : ((2 : Int) ^ a) = ((2 ^ a : Nat) : Int) := by simp
    rw [h2]
    generalize 2 ^ a = q at *
    simp only [IntKind.wrap, IntKind.signed, IntKind.bits]
    simp
    omega
  have c0 : w1.cell? ⟨W.heap.size, 0, none⟩ = some (.int .u16 0) := HX.out.get 0 _ rfl
  have c1 : w1.cell? ⟨W.heap.size, 1, none⟩ = some (.int .u16 0) := HX.out.get 1 _ rfl
  have c2 : w1.cell? ⟨W.heap.size, 2, none⟩ = some (.int .u8 0) := HX.out.get 2 _ rfl
  have c3 : w1.cell? ⟨W.heap.size, 3, none⟩ = some (.int .u8 0) := HX.out.get 3 _ rfl
  have f0 := HX.out.frozen 0
  have f1 := HX.out.frozen 1
  have f2 := HX.out.frozen 2
  have f3 := HX.out.frozen 3
  have hne : W.heap.size ≠ w1.heap.size := by omega
  go_wp2
  have hfin := ((((HX.out.set 0 (.int .u16 65535)).set 1 (.int .u16 (2 ^ a))).set 2 (.int .u8 255)).set 3 (.int .u8 255)).below (below_alloc2 _ (.cells #[.int .u16 65535, .int .u16 (2 ^ a), .int .u8 255, .int .u8 255] 32))
  refine bodyPost_ret (results_cell_row rfl _ _ W.heap.size 32 _ (0, 0) _ rfl hfin Tryz.underlying32 rfl (by kernel_rfl)) rfl ⟨by simp [dstM, M4.val], ?_⟩
  exact ((((HB.out.setCell (Nat.le_refl _) _).setCell (Nat.le_refl _) _).setCell (Nat.le_refl _) _).setCell (Nat.le_refl _) _).alloc (by simp [World.setCell]; omega) _
def fromF (F : Bdd.Fn) (a : Nat) : Bdd.Fn := andF (anyF F 0 4) (matchF (srcM a))
def toF (F : Bdd.Fn) (a : Nat) : Bdd.Fn := andF (anyF F 4 4) (matchF (dstM a))
def FromPC (P : Bdd.Fn → Prop) (F : Bdd.Fn) (a : Nat) : Prop := AnyPC P F 0 4 ∧ MatchPC P (srcM a) ∧ PC P (fromF F a)
def ToPC (P : Bdd.Fn → Prop) (F : Bdd.Fn) (a : Nat) : Prop := AnyPC P F 4 4 ∧ MatchPC P (dstM a) ∧ PC P (toF F a)
theorem mk_from (w : World) (B g : Nat) (A : St) (bl : List Nat) (mk e : Nat) (h : MK w B g A bl mk e) (f : Nat) (F : Bdd.Fn) (P : Bdd.Fn → Prop) (a : Nat) (ha : a < 16) (hv : A.vars = 14) (hf : e = 0 → IsF A f F) (hP : FromPC P F a) :
    Calls Tryz.prog 100 #[.pointer (some ⟨mk, 0, none⟩), .int .i64 (f : Int), .int .i64 (a : Int)] w (MR w B g A bl mk e P (fromF F a)) := by
  have HA := hide (mk_any w B g A bl mk e h f F P 0 4 4 rfl (by omega) (by omega) hf hP.1)
  have HG0 := hide (MkG.start h P)
  have HP := hide hP.2
  have HV := hide hv
  clear h hP hf hv
  go_enter Tryz.func100, Tryz.ntmps100
  go_wp2_with fail
  refine HA.out.mono ?_
  clear HA
  rintro en w1 hr
  obtain ⟨A1, e1, r1, rfl, hg, hx, hF⟩ := HG0.out.step hr
  have HG1 := hide hg
  have HF1 := hide (fun h => (hF h).2)
  clear hr hg hx hF HG0
  go_wp2_with fail
  refine (src_walk a w1 ha).mono ?_
  rintro en w2 ⟨rfl, hb⟩
  have HG2 := hide (HG1.out.below hb)
  clear hb HG1
  go_wp2_with fail
  refine (mk_in w2 B g A1 bl mk e1 HG2.out.m (srcM a) (srcM_ok ha) P (by rw [HG2.out.ext.vars]; exact HV.out) HP.out.1).mono ?_
  rintro en w3 hr
  obtain ⟨A3, e3, r3, rfl, hg, hx, hF⟩ := HG2.out.step hr
  have HG3 := hide hg
  have HF3 := hide (fun h => (hF h).2)
  have HF13 := hide (fun h => (HF1.out (hF h).1).ext HG2.out.m.inv hx)
  clear hr hg hx hF HG2 HF1
  go_wp2_with fail
  refine (mk_and w3 B g A3 bl mk e3 HG3.out.m r1 r3 (anyF F 0 4) (matchF (srcM a)) P HF13.out HF3.out HP.out.2).mono ?_
  rintro en w4 hr
  obtain ⟨A4, e4, r4, rfl, hg, hx, hF⟩ := HG3.out.step hr
  have HX := hide (hg.out (F := fromF F a) (r := r4) (fun h => (hF h).2))
  clear hr hg hx hF
  go_wp2
  go_ret
  exact HX.out
theorem mk_to (w : World) (B g : Nat) (A : St) (bl : List Nat) (mk e : Nat) (h : MK w B g A bl mk e) (f : Nat) (F : Bdd.Fn) (P : Bdd.Fn → Prop) (a : Nat) (ha : a < 16) (hv : A.vars = 14) (hf : e = 0 → IsF A f F) (hP : ToPC P F a) :
    Calls Tryz.prog 99 #[.pointer (some ⟨mk, 0, none⟩), .int .i64 (f : Int), .int .i64 (a : Int)] w (MR w B g A bl mk e P (toF F a)) := by
  have HA := hide (mk_any w B g A bl mk e h f F P 4 4 8 rfl (by omega) (by omega) hf hP.1)
  have HG0 := hide (MkG.start h P)
  have HP := hide hP.2
  have HV := hide hv
  clear h hP hf hv
  go_enter Tryz.func99, Tryz.ntmps99
  go_wp2_with fail
  refine HA.out.mono ?_
  clear HA
  rintro en w1 hr
  obtain ⟨A1, e1, r1, rfl, hg, hx, hF⟩ := HG0.out.step hr
  have HG1 := hide hg
  have HF1 := hide (fun h => (hF h).2)
  clear hr hg hx hF HG0
  go_wp2_with fail
  refine (dst_walk a w1 ha).mono ?_
  rintro en w2 ⟨rfl, hb⟩
  have HG2 := hide (HG1.out.below hb)
  clear hb HG1
  go_wp2_with fail
  refine (mk_in w2 B g A1 bl mk e1 HG2.out.m (dstM a) (dstM_ok ha) P (by rw [HG2.out.ext.vars]; exact HV.out) HP.out.1).mono ?_
  rintro en w3 hr
  obtain ⟨A3, e3, r3, rfl, hg, hx, hF⟩ := HG2.out.step hr
  have HG3 := hide hg
  have HF3 := hide (fun h => (hF h).2)
  have HF13 := hide (fun h => (HF1.out (hF h).1).ext HG2.out.m.inv hx)
  clear hr hg hx hF HG2 HF1
  go_wp2_with fail
  refine (mk_and w3 B g A3 bl mk e3 HG3.out.m r1 r3 (anyF F 4 4) (matchF (dstM a)) P HF13.out HF3.out HP.out.2).mono ?_
  rintro en w4 hr
  obtain ⟨A4, e4, r4, rfl, hg, hx, hF⟩ := HG3.out.step hr
  have HX := hide (hg.out (F := toF F a) (r := r4) (fun h => (hF h).2))
  clear hr hg hx hF
  go_wp2
  go_ret
  exact HX.out
end Go.Proofs.YtifkacnoiocebaaGreat
namespace Go.Proofs.YtifkacnoiocebaaGreat
section
variable {P : Program} {ops : Array Oper} {Q : Exit → Act → World → Prop} {md : Region.Mode} {S : World → Prop} {s : Nat}
def YieldsC (P : Program) (ops : Array Oper) (S : World → Prop) (o : Oper) (v : Value) (a : Act) : Prop :=
  Region.wanted o (yielded ops a.tmps) = true ∧ ∀ w, S w → ∃ f args, (execOp a.eval o).run P w = .ok (.enter f args) w ∧ Calls P f args w fun e w'' => e = .returned v ∧ w = w''
theorem YieldsC.of_same {o : Oper} {v : Value} {a a' : Act} (hy : YieldsC P ops S o v a) (he : execOp a'.eval o = execOp a.eval o)
    (hw : Region.wanted o (yielded ops a'.tmps) = Region.wanted o (yielded ops a.tmps)) : YieldsC P ops S o v a' := by
  unfold YieldsC at *
  rw [he, hw]
  exact hy
theorem YieldsC.wpOp {i : Nat} {o : Oper} {v : Value} {a : Act} (hi : ops[i]? = some o) (hy : YieldsC P ops S o v a) {K : Act → World → Prop} {w : World} (hS : S w) (h : K (a.put o.dst v) w) : wpOp P ops Q i K a w := by
  unfold Go.wpOp
  simp only [hi]
  obtain ⟨hw, hv⟩ := hy
  obtain ⟨f, args, hrun, hc⟩ := hv w hS
  simp only [hw, if_true, Oper.wp, hrun, Oper.upon]
  refine .inl (Calls.mono hc fun e w'' he => ?_)
  obtain ⟨rfl, rfl⟩ := he
  exact h
theorem wpOp_putC {j : Nat} {oi oj : Oper} {v : Value} (hj : ops[j]? = some oj) (hap : oi.apart ops oj = true)
    (hsi : ∀ cs b, oi.op ≠ .select cs b) (hsj : ∀ cs b, oj.op ≠ .select cs b)
    (hQ : ∀ c a w, Q (.panic c) (a.put oi.dst v) w → Q (.panic c) a w) {K : Act → World → Prop} {a : Act} {w : World}
    (hy : YieldsC P ops S oi v a) (h : wpOp P ops Q j K (a.put oi.dst v) w) :
    wpOp P ops Q j (fun a' w' => YieldsC P ops S oi v a' ∧ K (a'.put oi.dst v) w') a w := by
  obtain ⟨h1, h2, h3⟩ := Oper.apart_spec hap
  have keep : ∀ (a : Act), YieldsC P ops S oi v a → ∀ u, YieldsC P ops S oi v (a.put oj.dst u) := fun a hy u =>
    hy.of_same (execOp_put oi hsi a oj.dst u h3) (wanted_put oi a oj.dst u h3)
  have keepD : ∀ d, YieldsC P ops S oi v { a with defers := d :: a.defers } := fun d => hy.of_same rfl rfl
  unfold Go.wpOp at *
  simp only [hj] at *
  rw [wanted_put oj a oi.dst v h1] at h
  split
  · rename_i hw
    simp only [hw, if_true] at h
    rcases h with h | ⟨hasks, hlets⟩
    case inr => exact .inr ⟨by unfold Oper.asks at *; rw [execOp_put oj hsj a oi.dst v h1] at hasks; exact hasks, hlets⟩
    refine .inl ?_
    unfold Oper.wp at *
    rw [execOp_put oj hsj a oi.dst v h1] at h
    generalize (execOp a.eval oj).run P w = r at *
    cases r with
    | ok n w' =>
      cases n <;> simp only [Oper.upon] at h ⊢
      case value u => exact ⟨keep a hy u, by rw [← Act.put_comm a v u h2]; exact h⟩
      case skip => exact ⟨keep a hy _, by rw [← Act.put_comm a v undef h2]; exact h⟩
      case defer d =>
        refine ⟨keep _ (keepD d) _, ?_⟩
        rw [← Act.put_comm _ v undef h2, ← Act.put_defers]
        exact h
      case enter f args =>
        refine Calls.mono h fun e w'' he => ?_
        cases e with
        | returned u => exact ⟨keep a hy u, by rw [← Act.put_comm a v u h2]; exact he⟩
        | panicked c => exact hQ _ _ _ he
        | outgrown => exact he
      case row row args => exact Rows.mono h fun u w'' he => ⟨keep a hy u, by rw [← Act.put_comm a v u h2]; exact he⟩
    | halt x w' =>
      cases x <;> simp only [Oper.upon] at h ⊢
      case panic u => exact hQ _ _ _ h
  · rename_i hw
    simp only [hw] at h
    exact ⟨keep a hy _, by rw [← Act.put_comm a v undef h2]; exact h⟩
theorem wpAnyE_firstC {i : Nat} {oi : Oper} {v : Value} {S' : World → Prop} (hi : ops[i]? = some oi) (hsel : ∀ (j : Nat) (o : Oper) cs b, ops[j]? = some o → o.op ≠ .select cs b) (his : i ≠ s)
    (hS' : ∀ (listed : Array Bool) (w : World), ClosedL md ops listed → listed.getD i true = false → (listed.getD s true = false → S w) → S' w)
    (hQ : ∀ c a w, Q (.panic c) (a.put oi.dst v) w → Q (.panic c) a w) :
    ∀ (fuel : Nat) (listed : Array Bool) (a : Act) (w : World), ClosedL md ops listed →
      (∀ j oj, ops[j]? = some oj → j ≠ i → listed.getD j true = false → (∀ e ∈ oj.after, Region.binds md e = true → e.on ≠ i) → oi.apart ops oj = true) →
      i ∈ Region.ready md ops listed → YieldsC P ops S' oi v a → (listed.getD s true = false → S w) →
      wpAnyE P md ops Q S s fuel (listed.setIfInBounds i true) (a.put oi.dst v) w → wpAnyE P md ops Q S s (fuel + 1) listed a w := by
  have same : ∀ (l : Array Bool), (l.setIfInBounds i true).getD s true = l.getD s true := fun l => getD_set_ne true his
  intro fuel
  induction fuel with
  | zero =>
    intro listed a w inv _ hr hy hS H
    have hun := (mem_ready.1 hr).1
    refine ⟨fun h => (by rw [h] at hr; cases hr), fun j hj => ?_⟩
    by_cases hji : j = i
    · subst hji; exact hy.wpOp hi (hS' listed w inv hun hS) ⟨fun h => hS (by rwa [same] at h), H⟩
    · have := ready_mono hj hji
      rw [H.1] at this
      cases this
  | succ fuel ih =>
    intro listed a w inv hfree hr hy hS H
    have hun := (mem_ready.1 hr).1
    refine ⟨fun h => (by rw [h] at hr; cases hr), fun j hj => ?_⟩
    by_cases hji : j = i
    · subst hji; exact hy.wpOp hi (hS' listed w inv hun hS) ⟨fun h => hS (by rwa [same] at h), H⟩
    · have h1 := H.2 j (ready_mono hj hji)
      obtain ⟨hjun, oj, hoj, hall⟩ := mem_ready.1 hj
      have hnot : ∀ e ∈ oj.after, Region.binds md e = true → e.on ≠ i := fun e he hb heq => by
        have h1 := hall e he hb
        rw [heq, getD_both hun] at h1
        cases h1
      have h2 := wpOp_putC hoj (hfree j oj hoj hji hjun hnot) (fun cs b => hsel i oi cs b hi) (fun cs b => hsel j oj cs b hoj) hQ hy h1
      have hfree' : ∀ k ok, ops[k]? = some ok → k ≠ i → (listed.setIfInBounds j true).getD k true = false →
          (∀ e ∈ ok.after, Region.binds md e = true → e.on ≠ i) → oi.apart ops ok = true := fun k ok hk hki hun hno => by
        refine hfree k ok hk hki ?_ hno
        by_cases hjk : j = k
        · subst hjk; exact hjun
        · rw [getD_set_ne true hjk] at hun; exact hun
      refine wpOp_mono (fun a' w' h3 => ?_) h2
      have hS2 : (listed.setIfInBounds j true).getD s true = false → S w' := fun h => h3.2.1 (by rw [Array.setIfInBounds_comm _ _ (Ne.symm hji), same]; exact h)
      refine ⟨hS2, ih (listed.setIfInBounds j true) a' w' (inv.set hj) hfree' (ready_mono hr (Ne.symm hji)) h3.1 hS2 ?_⟩
      rw [Array.setIfInBounds_comm _ _ hji]
      exact h3.2.2
theorem wpAnyE_quiet {i : Nat} {oi : Oper} {v : Value} {fuel : Nat} {listed : Array Bool} {a : Act} {w : World} (c : List Nat) (hi0 : ops.toList[i]? = some oi) (hs : Region.noSelect ops = true) (hf : Region.free md ops listed i = true)
    (hr : (Region.ready md ops listed).contains i = true) (his : decide (i ≠ s) && decide (s < ops.size) && chainOk md ops (i :: c) && decide ((i :: c).getLast? = some s) = true) (hQ : ∀ c a w, Q (.panic c) (a.put oi.dst v) w → Q (.panic c) a w) (inv : Shut (ClosedL md ops listed)) (hy : YieldsC P ops S oi v a) (hS : S w)
    (h : Shut (ClosedL md ops (listed.setIfInBounds i true)) → wpAnyE P md ops Q S s fuel (listed.setIfInBounds i true) (a.put oi.dst v) w) : wpAnyE P md ops Q S s (fuel + 1) listed a w := by
  have hi : ops[i]? = some oi := by simpa using hi0
  simp only [Bool.and_eq_true, decide_eq_true_eq] at his
  have hr' : i ∈ Region.ready md ops listed := by simpa using hr
  exact wpAnyE_firstC hi (Region.noSelect_spec hs) his.1.1.1 (fun l w inv hun hS => hS (chain_unlisted inv his.1.2 his.2 his.1.1.2 hun)) hQ fuel listed a w inv.out (Region.free_spec hi hf) hr' hy (fun _ => hS) (h (inv.out.set hr'))
end
open Go.Maps Go.RowKit Go.WideElems
structure KeysAny {α : Type} (P : Program) (kt : TypeId) (key : α → Value) (dom : α → Prop) : Prop where
  law : Keyed P kt
  total : ∀ a, dom a → ∃ kl, keyOf P kt (key a) = some kl
  inj : ∀ a a', key a = key a' → a = a'
section
variable {α : Type} {P : Program} {kt : TypeId} {key : α → Value} {dom : α → Prop} {w w' : World} {b : Nat} {M : α → Option Value}
theorem MapIs.sizeA (h : MapIs P kt key dom w b M) (K : KeysAny P kt key dom) (L : List α) (hL : L.length < maxLen) (hall : ∀ a, dom a → (M a).isSome = true → a ∈ L) : ∃ D, w.ownsMap P kt heldR b (Maps.size D) D ∧ Maps.size D < maxLen ∧
    (∀ a, dom a → ∀ kl, keyOf P kt (key a) = some kl → Maps.has D kl = (M a).isSome ∧ ∀ z, D.atKey kl (.held z) = .held ((M a).getD z)) ∧
    (∀ kl, Maps.has D kl = true → ∃ a, dom a ∧ keyOf P kt (key a) = some kl) := by
  obtain ⟨D, h1, h2, h3⟩ := h
  refine ⟨D, h1, ?_, h2, h3⟩
  have ht := h1.tidy K.law
  obtain ⟨es, rfl, hp⟩ := ht
  have hk : ∀ p ∈ es, WideAt.IsKeyLit p.1 := by
    obtain ⟨es', clock, _, F, _, hD⟩ := h1
    simp only [DataW.map.injEq] at hD
    intro p hpm
    rw [hD] at hpm
    have hm := (Go.WideShapes.sorted_perm _).mem_iff.1 hpm
    obtain ⟨v, hv⟩ := fit_keys F p hm
    exact K.law.key hv
  have hsz : es.length ≤ (L.filterMap fun a => keyOf P kt (key a)).length := by
    have := length_le_of_subset' (es.map (·.1)) (L.filterMap fun a => keyOf P kt (key a)) (by
      rw [List.nodup_iff_pairwise_ne, List.pairwise_map]; exact hp) (fun kl hkl => by
      obtain ⟨p, hpm, rfl⟩ := List.mem_map.1 hkl
      have hh : Maps.has (.map es) p.1 = true := by
        rw [Maps.has_eq, List.any_eq_true]
        exact ⟨p, hpm, WideAt.sameKey_self (hk p hpm)⟩
      obtain ⟨a, ha, hka⟩ := h3 p.1 hh
      exact List.mem_filterMap.2 ⟨a, hall a ha ((h2 a ha _ hka).1.symm.trans hh), hka⟩)
    simpa using this
  have := List.length_filterMap_le (fun a => keyOf P kt (key a)) L
  show es.length < maxLen
  omega
theorem MapIs.lookA {t et : TypeId} (h : MapIs P kt key dom w b M) (K : KeysAny P kt key dom) (ht : P.underlying t = some (.map kt et)) {z : Value} (hz : (zeroValue et).run P w = .ok z w) {a : α} (ha : dom a) :
    (Instr.lookup t (.map (some b)) (key a) true).run P w = .ok (.tuple #[(M a).getD z, .bool (M a).isSome]) w ∧ (Instr.lookup t (.map (some b)) (key a) false).run P w = .ok ((M a).getD z) w := by
  obtain ⟨D, h1, h2, h3⟩ := h
  obtain ⟨kl, hkl⟩ := K.total a ha
  obtain ⟨e1, e2⟩ := h2 a ha kl hkl
  obtain ⟨v, ps, hrun, hv⟩ := h1.look_ok K.law ht hz (zd := .held z) (zp := []) rfl hkl
  obtain ⟨v', ps', hrun', hv'⟩ := h1.lookup K.law ht hz (zd := .held z) (zp := []) rfl hkl
  rw [e2 z] at hv hv'
  simp only [heldR, Option.some.injEq, Prod.mk.injEq, DataW.held.injEq] at hv hv'
  rw [hrun, hrun', e1, hv.1, hv'.1]
  exact ⟨rfl, rfl⟩
theorem MapIs.storeA [DecidableEq α] {t et : TypeId} (h : MapIs P kt key dom w b M) (K : KeysAny P kt key dom) (L : List α) (hL : L.length < maxLen) (hall : ∀ a, dom a → (M a).isSome = true → a ∈ L) (ht : P.underlying t = some (.map kt et)) {a : α} (ha : dom a) (v : Value) :
    ∃ w', (Instr.mapUpdate t (.map (some b)) (key a) v).run P w = .ok () w' ∧ MapIs P kt key dom w' b (putM M a v) ∧ w.mapTurned w' b := by
  obtain ⟨D, h1, hn, h2, h3⟩ := h.sizeA K L hL hall
  obtain ⟨kl, hkl⟩ := K.total a ha
  obtain ⟨w', hrun, r1, r2⟩ := h1.store K.law ht hn hkl (val := v) (d := .held v) (ps := []) rfl
  have hD : IsMap D := (h1.tidy K.law).isMap
  refine ⟨w', hrun, ⟨D.put kl (.held v), ownsMap_tight r1, ?_, ?_⟩, r2⟩
  · intro a' ha' kl' hkl'
    by_cases e : a' = a
    · subst e
      have : kl' = kl := Option.some.inj (hkl'.symm.trans hkl)
      subst this
      rw [putM_same]
      exact ⟨Maps.has_put_same hD (K.law.key hkl) _, fun z => Maps.atKey_put_same hD (K.law.key hkl) _ _⟩
    · rw [putM_other M v e]
      have hne : kl' ≠ kl := fun ek => by subst ek; exact e (K.inj _ _ (K.law.inj hkl' hkl))
      rw [Maps.has_put_other hne]
      obtain ⟨q1, q2⟩ := h2 a' ha' kl' hkl'
      exact ⟨q1, fun z => by rw [Maps.atKey_put_other hne]; exact q2 z⟩
  · intro kl' hkl'
    by_cases e : kl' = kl
    · subst e; exact ⟨a, ha, hkl⟩
    · rw [Maps.has_put_other e] at hkl'
      exact h3 kl' hkl'
end
section
variable {α : Type} {P : Program} {kt : TypeId} {key : α → Value} {dom : α → Prop} {b : Nat} {M : α → Option Value} (w : World)
end
abbrev PoK := Int × Int
def poVal (k : PoK) : Value := .agg #[.int .i64 k.1, .int .i64 k.2]
def poDom (k : PoK) : Prop := i64ok k.1 ∧ i64ok k.2
theorem poVal_inj (a b : PoK) (h : poVal a = poVal b) : a = b := by
  obtain ⟨a0, a1⟩ := a
  obtain ⟨b0, b1⟩ := b
  simp only [poVal, Value.agg.injEq, Array.mk.injEq, List.cons.injEq, Value.int.injEq, true_and, and_true] at h
  obtain ⟨rfl, rfl⟩ := h
  rfl
theorem i64ok_wf {x : Int} (h : i64ok x) : (Lit.int .i64 x).wf = true := by
  have hx : -9223372036854775808 ≤ x ∧ x ≤ 9223372036854775807 := h
  simpa [Lit.wf, IntKind.min, IntKind.max, IntKind.signed, IntKind.bits] using hx
theorem pair_key {P : Program} {k i : TypeId} {f1 f2 : Field} (hu : P.underlying k = some (.struct #[f1, f2])) (h1 : f1.type = i ∧ f1.offset = 0 ∧ f1.name ≠ "_") (h2 : f2.type = i ∧ f2.offset = 1 ∧ f2.name ≠ "_")
    (hi : P.underlying i = some (.int .i64)) (hk : P.keyType k = true) (hc : P.cellsOf k = 2) (hci : P.cellsOf i = 1) (hm : ∃ m, P.types.size = m + 1) (t : PoK) (ht : poDom t) : ∃ kl, keyOf P k (poVal t) = some kl := by
  obtain ⟨a, b⟩ := t
  have w1 := i64ok_wf ht.1
  have w2 := i64ok_wf ht.2
  obtain ⟨m, hm⟩ := hm
  unfold keyOf
  rw [hu]
  simp [hk, Value.formed, hu, poVal, hc, Value.cells, hm, Program.keyLits, hci, hi, w1, w2, h1, h2]
end Go.Proofs.YtifkacnoiocebaaGreat
