/- A part of the proof: MindB. -/
import Derived.Test.YthaiffjalgionaaPl24
import Derived.Deep.DeepCutAuto
import Derived.Deep.CutBlock
/- (*wireref.Mind).Handle: a place that is none, a wrong packet. -/
set_option linter.unusedVariables false
set_option linter.unusedSimpArgs false
namespace Go.Proofs.Ythaiffjalgionaa
open Go.RowKit


set_option maxRecDepth 100000 in
set_option maxHeartbeats 16000000 in
theorem mindHand_bad (g : Nat) (n : NetV) (A : Option Addr) (c : Nat) (L : List FactV) (i y : Int) (p : P4) (ch : Int) (W : World) (hM : MindAt W g n A c L) (hE : netE n.devs n.ls = 0) (hi : i64ok i) (hy : i64ok y) (hp : p.ok) (hch : i64ok ch) (hL : L.length ≤ 1000) (hbad : placeB n.devs (i, y) = false ∨ rightB p = false) :
    Calls Try.prog 14 #[.pointer (some ⟨g, 0, none⟩), .agg #[.int .i64 i, .int .i64 y], .agg #[.int .i64 p.src, .int .i64 p.dst, .int .i64 p.sport, .int .i64 p.dport], .int .i64 ch] W (MindP W g n A (mindS n.devs n.ls L i y p ch)) := by
  have HBD := hide hbad
  clear hbad
  have HMW := hide hM
  have HMM := hide (fun (w' : World) (hb : Below W.heap.size W w') => hM.below hb)
  have hok := netE_ok hE
  have hdl := devs_len hM.net
  have hdn : n.dn ≤ 10 := by rw [← hdl]; exact hok.dl
  have hln : n.ln ≤ 15 := by have := hok.ll; rw [hM.net.llen] at this; exact this
  have hgs := hM.glt
  have HDV := hide (net_devs_ok hE)
  have HDL := hide hdl
  have HCH := hide hch
  have HPO := hide hp
  have HLL := hide hL
  clear hM hE hok hch hp hL
  obtain ⟨i1, i2⟩ := hi
  obtain ⟨y1, y2⟩ := hy
  obtain ⟨SR, hSR⟩ : ∃ SR, mindS n.devs n.ls L i y p ch = SR := ⟨_, rfl⟩
  have HSR := hide hSR
  rw [hSR]
  clear hSR
  go_enter Try.func14, Try.ntmps14
  go_wp2
  generalize hG : World.alloc (World.alloc (World.alloc (World.alloc W _) _) _) _ = W1
  have HX1 := hide (show BX W [(W.heap.size, #[.int .i64 i, .int .i64 y]), (W.heap.size + 1, #[.int .i64 p.src, .int .i64 p.dst, .int .i64 p.sport, .int .i64 p.dport]), (W.heap.size + 1 + 1, #[.int .i64 ch]), (W.heap.size + 1 + 1 + 1, #[.int .i64 0, .int .i64 0, .int .i64 0, .int .i64 0, .int .i64 0, .int .i64 0])] W1 from by
    have e := boxesV (B := W1.heap.size) [(#[.int .i64 i, .int .i64 y], 37), (#[.int .i64 p.src, .int .i64 p.dst, .int .i64 p.sport, .int .i64 p.dport], 39), (#[.int .i64 ch], 3), (#[.int .i64 0, .int .i64 0, .int .i64 0, .int .i64 0, .int .i64 0, .int .i64 0], 43)] W (W' := W1) (by rw [← hG]; exact Below.refl _ _)
    have hs : W1.heap.size = W.heap.size + 4 := by rw [← hG]; simp
    refine ⟨e.2 (by omega), fun x hx => ?_⟩
    simp only [List.mem_cons, List.not_mem_nil, or_false] at hx
    rcases hx with rfl | rfl | rfl | rfl
    · exact ⟨e.1 0 _ _ rfl (by omega), by simp; omega⟩
    · exact ⟨e.1 1 _ _ rfl (by omega), by simp; omega⟩
    · exact ⟨e.1 2 _ _ rfl (by omega), by simp; omega⟩
    · exact ⟨e.1 3 _ _ rfl (by omega), by simp; omega⟩)
  clear hG
  have i3 : (0 : Int) ≤ (n.dn : Int) := by omega
  have i4 : (n.dn : Int) ≤ 10 := by omega
  cases hi1 : inR i 0 ((n.dn : Int) - 1)
  case false =>
    have HS := hide (show SR = (.bad 4, L) from by
      rw [← HSR.out]
      refine mindS_place ?_
      have h1 : ¬ (0 ≤ i ∧ i < (n.dn : Int)) := by simp only [inR, Bool.and_eq_false_iff, decide_eq_false_iff_not] at hi1; omega
      simp only [placeB, HDL.out, Bool.and_eq_false_iff, decide_eq_false_iff_not]
      omega)
    refine wp_region_abs (by kernel_rfl) (by kernel_rfl) ?_
    intro T hT gt hg1 hgi
    have HGT := hide hg1
    have HGI := hide hgi
    clear hg1 hgi
    have k0 : ∀ t, (gt t).cell? ⟨W.heap.size, 0, none⟩ = some (.int .i64 i) := fun t => ((HX1.out.below (HGT.out t)).get 0 rfl).1 0 _ rfl
    have k2 : ∀ t, (gt t).cell? ⟨g, 0, none⟩ = some (.slice n.dA n.dn n.dc) := fun t => (HMM.out _ (HX1.out.below (HGT.out t)).bl).c0
    have hc1 := hide (fun t => inR_is (gt t) hi1)
    repeat (go_big_quiet_step ((go_at_call 19; exact inAbsSame (hc1.out _))))
    refine wpQuiet_nil ?_
    intro _ hw'
    obtain ⟨t, rfl⟩ := hw'
    have HX2 := hide (HX1.out.below (HGT.out t))
    generalize gt t = w2 at *
    clear HGT HGI k0 k2 hc1
    have hb3 := HX2.out.get 3 rfl
    have hbw := HX2.out.bl
    go_wp2_with ((with_reducible show wpList _ _ _ (⟨none, .store 43 (.tmp 8) _, _, _, _, _⟩ :: _) _ _); refine wpList_store_mid rfl 43 (.tmp 8) (.tmp 52) rfl (W.heap.size + 1 + 1 + 1) 0 #[.int .i64 0, .int .i64 0, .int .i64 0, .int .i64 0, .int .i64 0, .int .i64 0] rfl rfl (hb3.there (Nat.le_refl _)) info_arrival (by simp [Value.oneCell']) ?_)
    have hx7 := hb3.all [.int .i64 0, .int .i64 0, .int .i64 0, .int .i64 0, .int .i64 0, .int .i64 0] rfl
    have hb7 := below_setCells (B := W.heap.size) (N := W.heap.size + 1 + 1 + 1) (by omega) [.int .i64 0, .int .i64 0, .int .i64 0, .int .i64 0, .int .i64 0, .int .i64 0] 0 _ hbw
    clear hb3 hbw
    generalize World.setCells _ _ _ _ = w7 at *
    obtain ⟨z0, z1, z2, z3, z4, z5⟩ : w7.cell? ⟨W.heap.size + 1 + 1 + 1, 0, none⟩ = some (.int .i64 0) ∧ w7.cell? ⟨W.heap.size + 1 + 1 + 1, 1, none⟩ = some (.int .i64 0) ∧ w7.cell? ⟨W.heap.size + 1 + 1 + 1, 2, none⟩ = some (.int .i64 0) ∧ w7.cell? ⟨W.heap.size + 1 + 1 + 1, 3, none⟩ = some (.int .i64 0) ∧ w7.cell? ⟨W.heap.size + 1 + 1 + 1, 4, none⟩ = some (.int .i64 0) ∧ w7.cell? ⟨W.heap.size + 1 + 1 + 1, 5, none⟩ = some (.int .i64 0) :=
      ⟨hx7.1 0 _ rfl, hx7.1 1 _ rfl, hx7.1 2 _ rfl, hx7.1 3 _ rfl, hx7.1 4 _ rfl, hx7.1 5 _ rfl⟩
    try simp only [Exit.inBlock, Exit.then]
    refine bodyPost_ret (v := .tuple #[.agg #[.int .i64 0, .int .i64 0, .int .i64 0, .int .i64 0, .int .i64 0, .int .i64 0], .int .i64 4]) (by simp [results, Try.f14, go_sem, z0, z1, z2, z3, z4, z5]) rfl ?_
    rw [HS.out]; exact MindP.same HMW.out hb7 rfl
  obtain ⟨i', rfl⟩ : ∃ i' : Nat, i = (i' : Int) := ⟨i.toNat, by simp only [inR, Bool.and_eq_true, decide_eq_true_eq] at hi1; omega⟩
  have hil : i' < n.dn := by simp only [inR, Bool.and_eq_true, decide_eq_true_eq] at hi1; omega
  obtain ⟨r, hr⟩ : ∃ r, n.ds[i']? = some r := ⟨_, List.getElem?_eq_getElem (by rw [HMW.out.net.dlen]; exact hil)⟩
  have hrd : n.devs[i']? = some r.dev := by simp [NetV.devs, hr]
  have hka : kindAt n.devs (i' : Int) = r.kind := by simp [kindAt, hrd, DevV.dev]
  have HRR := hide hr
  have HRD := hide hrd
  have HD := hide (HDV.out r.dev (List.mem_of_getElem? hrd))
  clear hr hrd
  obtain ⟨b, o, hdA, _, _⟩ := HMW.out.net.ds.2 (by omega)
  have HPO2 := hide (fun w => refPorts_walk r.kind w)
  have hpf := portsF_rng r.kind
  obtain ⟨pf1, pf2⟩ := hpf
  obtain ⟨PF, hPF⟩ : ∃ PF, portsF r.kind = PF := ⟨_, rfl⟩
  rw [hPF] at pf1 pf2
  have HPF := hide hPF
  simp only [hPF] at HPO2
  clear hPF
  have j1 : (0 : Int) ≤ (i' : Int) := by omega
  have j2 : (i' : Int) < (n.dn : Int) := by omega
  skip
  cases hy1 : inR y 0 (PF - 1)
  case false =>
    have HS := hide (show SR = (.bad 4, L) from by
      rw [← HSR.out]
      refine mindS_place ?_
      have h1 : ¬ (0 ≤ y ∧ y < PF) := by simp only [inR, Bool.and_eq_false_iff, decide_eq_false_iff_not] at hy1; omega
      simp only [placeB, hka, HPF.out, Bool.and_eq_false_iff, decide_eq_false_iff_not]
      omega)
    clear hka
    refine wp_region_abs (by kernel_rfl) (by kernel_rfl) ?_
    intro T hT gt hg1 hgi
    have HGT := hide hg1
    have HGI := hide hgi
    clear hg1 hgi
    have k0 : ∀ t, (gt t).cell? ⟨W.heap.size, 0, none⟩ = some (.int .i64 (i' : Int)) := fun t => ((HX1.out.below (HGT.out t)).get 0 rfl).1 0 _ rfl
    have k1 : ∀ t, (gt t).cell? ⟨W.heap.size, 1, none⟩ = some (.int .i64 y) := fun t => ((HX1.out.below (HGT.out t)).get 0 rfl).1 1 _ rfl
    have k2 : ∀ t, (gt t).cell? ⟨g, 0, none⟩ = some (.slice (some ⟨b, o, none⟩) n.dn n.dc) := fun t => by have q := (HMM.out _ (HX1.out.below (HGT.out t)).bl).c0; rw [hdA] at q; exact q
    have k3 : ∀ t, (gt t).cell? ⟨b, o + i' * 7 + 1, none⟩ = some (.int .i64 r.kind) := fun t => (dev_get (n := n.dn) (by have q := (HMM.out _ (HX1.out.below (HGT.out t)).bl).net.ds; rw [hdA] at q; exact q) HRR.out).2.2.1
    have hc1 := hide (fun t => inR_is (gt t) hi1)
    have hc3 := hide (fun t => inR_is (gt t) hy1)
    repeat (go_big_quiet_step ((first | (go_at_call_of 19 (Value.int .i64 y); exact inAbsSame (hc3.out _)) | (go_at_call 19; exact inAbsSame (hc1.out _)) | (go_at_call 46; exact inAbs HGT.out HGI.out (HPO2.out _)))))
    refine wpQuiet_nil ?_
    intro _ hw'
    obtain ⟨t, rfl⟩ := hw'
    have HX2 := hide (HX1.out.below (HGT.out t))
    generalize gt t = w2 at *
    clear HGT HGI k0 k1 k2 k3 hc1 hc3
    have hb3 := HX2.out.get 3 rfl
    have hbw := HX2.out.bl
    go_wp2_with ((with_reducible show wpList _ _ _ (⟨none, .store 43 (.tmp 8) _, _, _, _, _⟩ :: _) _ _); refine wpList_store_mid rfl 43 (.tmp 8) (.tmp 52) rfl (W.heap.size + 1 + 1 + 1) 0 #[.int .i64 0, .int .i64 0, .int .i64 0, .int .i64 0, .int .i64 0, .int .i64 0] rfl rfl (hb3.there (Nat.le_refl _)) info_arrival (by simp [Value.oneCell']) ?_)
    have hx7 := hb3.all [.int .i64 0, .int .i64 0, .int .i64 0, .int .i64 0, .int .i64 0, .int .i64 0] rfl
    have hb7 := below_setCells (B := W.heap.size) (N := W.heap.size + 1 + 1 + 1) (by omega) [.int .i64 0, .int .i64 0, .int .i64 0, .int .i64 0, .int .i64 0, .int .i64 0] 0 _ hbw
    clear hb3 hbw
    generalize World.setCells _ _ _ _ = w7 at *
    obtain ⟨z0, z1, z2, z3, z4, z5⟩ : w7.cell? ⟨W.heap.size + 1 + 1 + 1, 0, none⟩ = some (.int .i64 0) ∧ w7.cell? ⟨W.heap.size + 1 + 1 + 1, 1, none⟩ = some (.int .i64 0) ∧ w7.cell? ⟨W.heap.size + 1 + 1 + 1, 2, none⟩ = some (.int .i64 0) ∧ w7.cell? ⟨W.heap.size + 1 + 1 + 1, 3, none⟩ = some (.int .i64 0) ∧ w7.cell? ⟨W.heap.size + 1 + 1 + 1, 4, none⟩ = some (.int .i64 0) ∧ w7.cell? ⟨W.heap.size + 1 + 1 + 1, 5, none⟩ = some (.int .i64 0) :=
      ⟨hx7.1 0 _ rfl, hx7.1 1 _ rfl, hx7.1 2 _ rfl, hx7.1 3 _ rfl, hx7.1 4 _ rfl, hx7.1 5 _ rfl⟩
    try simp only [Exit.inBlock, Exit.then]
    refine bodyPost_ret (v := .tuple #[.agg #[.int .i64 0, .int .i64 0, .int .i64 0, .int .i64 0, .int .i64 0, .int .i64 0], .int .i64 4]) (by simp [results, Try.f14, go_sem, z0, z1, z2, z3, z4, z5]) rfl ?_
    rw [HS.out]; exact MindP.same HMW.out hb7 rfl
  have HPL := hide (show placeB n.devs ((i' : Int), y) = true from by
    simp only [inR, Bool.and_eq_true, decide_eq_true_eq] at hy1
    simp only [placeB, hka, HPF.out, HDL.out, Bool.and_eq_true, decide_eq_true_eq]
    omega)
  have HYR := hide (show 0 ≤ y ∧ y < PF from by simp only [inR, Bool.and_eq_true, decide_eq_true_eq] at hy1; omega)
  clear hka
  refine wp_region_abs (by kernel_rfl) (by kernel_rfl) ?_
  intro T hT gt hg1 hgi
  have HGT := hide hg1
  have HGI := hide hgi
  clear hg1 hgi
  have k0 : ∀ t, (gt t).cell? ⟨W.heap.size, 0, none⟩ = some (.int .i64 (i' : Int)) := fun t => ((HX1.out.below (HGT.out t)).get 0 rfl).1 0 _ rfl
  have k1 : ∀ t, (gt t).cell? ⟨W.heap.size, 1, none⟩ = some (.int .i64 y) := fun t => ((HX1.out.below (HGT.out t)).get 0 rfl).1 1 _ rfl
  have k2 : ∀ t, (gt t).cell? ⟨g, 0, none⟩ = some (.slice (some ⟨b, o, none⟩) n.dn n.dc) := fun t => by have q := (HMM.out _ (HX1.out.below (HGT.out t)).bl).c0; rw [hdA] at q; exact q
  have k3 : ∀ t, (gt t).cell? ⟨b, o + i' * 7 + 1, none⟩ = some (.int .i64 r.kind) := fun t => (dev_get (n := n.dn) (by have q := (HMM.out _ (HX1.out.below (HGT.out t)).bl).net.ds; rw [hdA] at q; exact q) HRR.out).2.2.1
  have hc1 := hide (fun t => inR_is (gt t) hi1)
  have hc3 := hide (fun t => inR_is (gt t) hy1)
  repeat (go_big_quiet_step ((first | (go_at_call_of 19 (Value.int .i64 y); exact inAbsSame (hc3.out _)) | (go_at_call 19; exact inAbsSame (hc1.out _)) | (go_at_call 46; exact inAbs HGT.out HGI.out (HPO2.out _)))))
  refine wpQuiet_nil ?_
  intro _ hw'
  obtain ⟨t, rfl⟩ := hw'
  have HX2 := hide (HX1.out.below (HGT.out t))
  generalize gt t = w2 at *
  clear HGT HGI k0 k1 k2 k3 hc1 hc3
  clear hi1 hy1 HX1 HPO2
  obtain ⟨p0, p1, p2, p3⟩ := cells4 (HX2.out.get 1 rfl)
  cases hrp : rightB p
  case false =>
    have HS := hide (show SR = (.bad 1, L) from by rw [← HSR.out]; exact mindS_right HPL.out hrp)
    go_wp2_with fail
    refine (right_is p w2 false hrp).mono ?_
    rintro e w3 ⟨rfl, hb⟩
    have HX3 := hide (HX2.out.below hb)
    clear hb p0 p1 p2 p3 HX2
    have hb3 := HX3.out.get 3 rfl
    have hbw := HX3.out.bl
    go_wp2_with ((with_reducible show wpList _ _ _ (⟨none, .store 43 (.tmp 8) _, _, _, _, _⟩ :: _) _ _); refine wpList_store_mid rfl 43 (.tmp 8) (.tmp 56) rfl (W.heap.size + 1 + 1 + 1) 0 #[.int .i64 0, .int .i64 0, .int .i64 0, .int .i64 0, .int .i64 0, .int .i64 0] rfl rfl (hb3.there (Nat.le_refl _)) info_arrival (by simp [Value.oneCell']) ?_)
    have hx7 := hb3.all [.int .i64 0, .int .i64 0, .int .i64 0, .int .i64 0, .int .i64 0, .int .i64 0] rfl
    have hb7 := below_setCells (B := W.heap.size) (N := W.heap.size + 1 + 1 + 1) (by omega) [.int .i64 0, .int .i64 0, .int .i64 0, .int .i64 0, .int .i64 0, .int .i64 0] 0 _ hbw
    clear hb3 hbw
    generalize World.setCells _ _ _ _ = w7 at *
    obtain ⟨z0, z1, z2, z3, z4, z5⟩ : w7.cell? ⟨W.heap.size + 1 + 1 + 1, 0, none⟩ = some (.int .i64 0) ∧ w7.cell? ⟨W.heap.size + 1 + 1 + 1, 1, none⟩ = some (.int .i64 0) ∧ w7.cell? ⟨W.heap.size + 1 + 1 + 1, 2, none⟩ = some (.int .i64 0) ∧ w7.cell? ⟨W.heap.size + 1 + 1 + 1, 3, none⟩ = some (.int .i64 0) ∧ w7.cell? ⟨W.heap.size + 1 + 1 + 1, 4, none⟩ = some (.int .i64 0) ∧ w7.cell? ⟨W.heap.size + 1 + 1 + 1, 5, none⟩ = some (.int .i64 0) :=
      ⟨hx7.1 0 _ rfl, hx7.1 1 _ rfl, hx7.1 2 _ rfl, hx7.1 3 _ rfl, hx7.1 4 _ rfl, hx7.1 5 _ rfl⟩
    try simp only [Exit.inBlock, Exit.then]
    refine bodyPost_ret (v := .tuple #[.agg #[.int .i64 0, .int .i64 0, .int .i64 0, .int .i64 0, .int .i64 0, .int .i64 0], .int .i64 1]) (by simp [results, Try.f14, go_sem, z0, z1, z2, z3, z4, z5]) rfl ?_
    rw [HS.out]; exact MindP.same HMW.out hb7 rfl
  rcases HBD.out with h | h
  · rw [HPL.out] at h; cases h
  · rw [hrp] at h; cases h
end Go.Proofs.Ythaiffjalgionaa
