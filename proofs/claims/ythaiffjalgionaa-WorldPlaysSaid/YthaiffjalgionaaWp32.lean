/- A part of the proof: MindN1. -/
import Derived.Test.YthaiffjalgionaaWp31
import Derived.Deep.DeepCutAuto
import Derived.Deep.CutBlock

set_option linter.unusedVariables false
set_option linter.unusedSimpArgs false
namespace Go.Proofs.Ythaiffjalgionaa
open Go.RowKit

set_option maxRecDepth 100000 in
set_option maxHeartbeats 16000000 in
theorem mindHand_nat1 (g : Nat) (n : NetV) (A : Option Addr) (c : Nat) (L : List FactV) (i y : Int) (p : P4) (ch : Int) (W : World) (hM : MindAt W g n A c L) (hE : netE n.devs n.ls = 0) (hi : i64ok i) (hy : i64ok y) (hp : p.ok) (hch : i64ok ch) (hL : L.length ≤ 1000) (hpl : placeB n.devs (i, y) = true) (hrp : rightB p = true) (hcond : ∀ r : DevV, n.ds[i.toNat]? = some r → (r.kind = 4 ∧ y = 1)) :
    Calls Try.prog 14 #[.pointer (some ⟨g, 0, none⟩), .agg #[.int .i64 i, .int .i64 y], .agg #[.int .i64 p.src, .int .i64 p.dst, .int .i64 p.sport, .int .i64 p.dport], .int .i64 ch] W (MindP W g n A (mindS n.devs n.ls L i y p ch)) := by
  have HPL0 := hide hpl
  have HRP := hide hrp
  have HCD := hide hcond
  clear hpl hrp hcond
  have HMW := hide hM
  have HMM := hide (fun (w' : World) (hb : Below W.heap.size W w') => hM.below hb)
  have hok := netE_ok hE
  have hdl := devs_len hM.net
  have hdn : n.dn ≤ 10 := by rw [← hdl]; exact hok.dl
  have hln : n.ln ≤ 15 := by have := hok.ll; rw [hM.net.llen] at this; exact this
  have hgs := hM.glt
  have HDV := hide (net_devs_ok hE)
  have HDL := hide hdl
  have HCH := hide hch
  have HPO := hide hp
  have HLL := hide hL
  clear hM hE hok hch hp hL
  obtain ⟨i1, i2⟩ := hi
  obtain ⟨y1, y2⟩ := hy
  obtain ⟨SR, hSR⟩ : ∃ SR, mindS n.devs n.ls L i y p ch = SR := ⟨_, rfl⟩
  have HSR := hide hSR
  rw [hSR]
  clear hSR
  go_enter Try.func14, Try.ntmps14
  go_wp2
  generalize hG : World.alloc (World.alloc (World.alloc (World.alloc W _) _) _) _ = W1
  have HX1 := hide (show BX W [(W.heap.size, #[.int .i64 i, .int .i64 y]), (W.heap.size + 1, #[.int .i64 p.src, .int .i64 p.dst, .int .i64 p.sport, .int .i64 p.dport]), (W.heap.size + 1 + 1, #[.int .i64 ch]), (W.heap.size + 1 + 1 + 1, #[.int .i64 0, .int .i64 0, .int .i64 0, .int .i64 0, .int .i64 0, .int .i64 0])] W1 from by
    have e := boxesV (B := W1.heap.size) [(#[.int .i64 i, .int .i64 y], 37), (#[.int .i64 p.src, .int .i64 p.dst, .int .i64 p.sport, .int .i64 p.dport], 39), (#[.int .i64 ch], 3), (#[.int .i64 0, .int .i64 0, .int .i64 0, .int .i64 0, .int .i64 0, .int .i64 0], 43)] W (W' := W1) (by rw [← hG]; exact Below.refl _ _)
    have hs : W1.heap.size = W.heap.size + 4 := by rw [← hG]; simp
    refine ⟨e.2 (by omega), fun x hx => ?_⟩
    simp only [List.mem_cons, List.not_mem_nil, or_false] at hx
    rcases hx with rfl | rfl | rfl | rfl
    · exact ⟨e.1 0 _ _ rfl (by omega), by simp; omega⟩
    · exact ⟨e.1 1 _ _ rfl (by omega), by simp; omega⟩
    · exact ⟨e.1 2 _ _ rfl (by omega), by simp; omega⟩
    · exact ⟨e.1 3 _ _ rfl (by omega), by simp; omega⟩)
  clear hG
  have i3 : (0 : Int) ≤ (n.dn : Int) := by omega
  have i4 : (n.dn : Int) ≤ 10 := by omega
  have hi1 : inR i 0 ((n.dn : Int) - 1) = true := by have h1 := placeB_iff.1 HPL0.out; simp only at h1; rw [HDL.out] at h1; simp only [inR, Bool.and_eq_true, decide_eq_true_eq]; omega
  obtain ⟨i', rfl⟩ : ∃ i' : Nat, i = (i' : Int) := ⟨i.toNat, by simp only [inR, Bool.and_eq_true, decide_eq_true_eq] at hi1; omega⟩
  have hil : i' < n.dn := by simp only [inR, Bool.and_eq_true, decide_eq_true_eq] at hi1; omega
  obtain ⟨r, hr⟩ : ∃ r, n.ds[i']? = some r := ⟨_, List.getElem?_eq_getElem (by rw [HMW.out.net.dlen]; exact hil)⟩
  have hrd : n.devs[i']? = some r.dev := by simp [NetV.devs, hr]
  have hka : kindAt n.devs (i' : Int) = r.kind := by simp [kindAt, hrd, DevV.dev]
  have HRR := hide hr
  have HRD := hide hrd
  have HD := hide (HDV.out r.dev (List.mem_of_getElem? hrd))
  clear hr hrd
  obtain ⟨b, o, hdA, _, _⟩ := HMW.out.net.ds.2 (by omega)
  have HPO2 := hide (fun w => refPorts_walk r.kind w)
  have hpf := portsF_rng r.kind
  obtain ⟨pf1, pf2⟩ := hpf
  obtain ⟨PF, hPF⟩ : ∃ PF, portsF r.kind = PF := ⟨_, rfl⟩
  rw [hPF] at pf1 pf2
  have HPF := hide hPF
  simp only [hPF] at HPO2
  clear hPF
  have j1 : (0 : Int) ≤ (i' : Int) := by omega
  have j2 : (i' : Int) < (n.dn : Int) := by omega
  skip
  have hcr := HCD.out r (by simpa using HRR.out)
  have HCR := hide hcr
  clear hcr HCD
  have hy1 : inR y 0 (PF - 1) = true := by have h1 := placeB_iff.1 HPL0.out; simp only at h1; rw [hka, HPF.out] at h1; simp only [inR, Bool.and_eq_true, decide_eq_true_eq]; omega
  have HPL := hide (show placeB n.devs ((i' : Int), y) = true from by
    simp only [inR, Bool.and_eq_true, decide_eq_true_eq] at hy1
    simp only [placeB, hka, HPF.out, HDL.out, Bool.and_eq_true, decide_eq_true_eq]
    omega)
  have HYR := hide (show 0 ≤ y ∧ y < PF from by simp only [inR, Bool.and_eq_true, decide_eq_true_eq] at hy1; omega)
  clear hka
  refine wp_region_abs (by kernel_rfl) (by kernel_rfl) ?_
  intro T hT gt hg1 hgi
  have HGT := hide hg1
  have HGI := hide hgi
  clear hg1 hgi
  have k0 : ∀ t, (gt t).cell? ⟨W.heap.size, 0, none⟩ = some (.int .i64 (i' : Int)) := fun t => ((HX1.out.below (HGT.out t)).get 0 rfl).1 0 _ rfl
  have k1 : ∀ t, (gt t).cell? ⟨W.heap.size, 1, none⟩ = some (.int .i64 y) := fun t => ((HX1.out.below (HGT.out t)).get 0 rfl).1 1 _ rfl
  have k2 : ∀ t, (gt t).cell? ⟨g, 0, none⟩ = some (.slice (some ⟨b, o, none⟩) n.dn n.dc) := fun t => by have q := (HMM.out _ (HX1.out.below (HGT.out t)).bl).c0; rw [hdA] at q; exact q
  have k3 : ∀ t, (gt t).cell? ⟨b, o + i' * 7 + 1, none⟩ = some (.int .i64 r.kind) := fun t => (dev_get (n := n.dn) (by have q := (HMM.out _ (HX1.out.below (HGT.out t)).bl).net.ds; rw [hdA] at q; exact q) HRR.out).2.2.1
  have hc1 := hide (fun t => inR_is (gt t) hi1)
  have hc3 := hide (fun t => inR_is (gt t) hy1)
  repeat (go_big_quiet_step ((first | (go_at_call_of 19 (Value.int .i64 y); exact inAbsSame (hc3.out _)) | (go_at_call 19; exact inAbsSame (hc1.out _)) | (go_at_call 46; exact inAbs HGT.out HGI.out (HPO2.out _)))))
  refine wpQuiet_nil ?_
  intro _ hw'
  obtain ⟨t, rfl⟩ := hw'
  have HX2 := hide (HX1.out.below (HGT.out t))
  generalize gt t = w2 at *
  clear HGT HGI k0 k1 k2 k3 hc1 hc3
  clear hi1 hy1 HX1 HPO2
  obtain ⟨p0, p1, p2, p3⟩ := cells4 (HX2.out.get 1 rfl)
  have hrp := HRP.out
  clear HPL0 HRP
  have HGO := hide (show SR = mGo n.ls L (i' : Int) (mS r.dev L (i' : Int) y p ch) from by rw [← HSR.out]; exact mindS_go HPL.out hrp (by simpa using HRD.out))
  go_wp2_with fail
  refine (right_is p w2 true hrp).mono ?_
  rintro e w3 ⟨rfl, hb⟩
  have HX3 := hide (HX2.out.below hb)
  clear hb p0 p1 p2 p3 HX2 hrp HSR HPL HDL HRD
  go_wp2_with fail
  -- R5
  have k0 : w3.cell? ⟨W.heap.size, 0, none⟩ = some (.int .i64 (i' : Int)) := (HX3.out.get 0 rfl).1 0 _ rfl
  have k2 : w3.cell? ⟨g, 0, none⟩ = some (.slice (some ⟨b, o, none⟩) n.dn n.dc) := by have q := (HMM.out _ HX3.out.bl).c0; rw [hdA] at q; exact q
  obtain ⟨_, q0, q1, q2, q3, q4, q5, q6⟩ := dev_get (n := n.dn) (by have q := (HMM.out _ HX3.out.bl).net.ds; rw [hdA] at q; exact q) HRR.out
  go_region_held3 (fun w' => w'.cell? ⟨W.heap.size, 0, none⟩ = some (.int .i64 (i' : Int)) ∧ w'.cell? ⟨g, 0, none⟩ = some (.slice (some ⟨b, o, none⟩) n.dn n.dc) ∧ w'.cell? ⟨b, o + i' * 7, none⟩ = some (.string r.name) ∧ w'.cell? ⟨b, o + i' * 7 + 1, none⟩ = some (.int .i64 r.kind) ∧ w'.cell? ⟨b, o + i' * 7 + 2, none⟩ = some (.int .i64 r.addr) ∧ w'.cell? ⟨b, o + i' * 7 + 3, none⟩ = some (.int .u8 r.pool) ∧ w'.cell? ⟨b, o + i' * 7 + 4, none⟩ = some (.slice r.bA r.bn r.bc) ∧ w'.cell? ⟨b, o + i' * 7 + 5, none⟩ = some (.slice r.rA r.rn r.rc) ∧ w'.cell? ⟨b, o + i' * 7 + 6, none⟩ = some (.slice r.tA r.tn r.tc)) (go_keep) (fail)
  have HX4 := hide (HX3.out.more (N := w3.heap.size) (vs := r.arr) ((Below.refl _ _).alloc (Nat.le_refl _) (.cells #[.string r.name, .int .i64 r.kind, .int .i64 r.addr, .int .u8 r.pool, .slice r.bA r.bn r.bc, .slice r.rA r.rn r.rc, .slice r.tA r.tn r.tc] 97)) (BoxV.new w3 #[.string r.name, .int .i64 r.kind, .int .i64 r.addr, .int .u8 r.pool, .slice r.bA r.bn r.bc, .slice r.rA r.rn r.rc, .slice r.tA r.tn r.tc] 97) (by simp))
  clear k0 k2 q0 q1 q2 q3 q4 q5 q6
  obtain ⟨D, hD⟩ : ∃ D, w3.heap.size = D := ⟨_, rfl⟩
  rw [hD] at HX4
  have hDW : W.heap.size ≤ D := by rw [← hD]; exact HX3.out.bl.size
  rw [hD]
  have HX5 := hide (HX4.out.below (Below.refl _ _).drew)
  clear hD HX3 HX4
  generalize World.drew _ = w5 at *
  have hy0 : 0 ≤ y := HYR.out.1
  have hy4 : y < 4 := by have := HYR.out.2; omega
  go_wp2_with fail
  refine wp_region_abs (by kernel_rfl) (by kernel_rfl) ?_
  intro T hT gt hg1 hgi
  have HGT := hide hg1
  have HGI := hide hgi
  clear hg1 hgi
  have k1 : ∀ t, (gt t).cell? ⟨W.heap.size, 1, none⟩ = some (.int .i64 y) := fun t => ((HX5.out.below (HGT.out t)).get 1 rfl).1 1 _ rfl
  repeat (go_big_quiet_step (fail))
  refine wpQuiet_nil ?_
  intro _ hw'
  obtain ⟨t, rfl⟩ := hw'
  have HX6 := hide (HX5.out.below (HGT.out t))
  generalize gt t = w6 at *
  clear HGT HGI k1
  clear HX5
  obtain ⟨p0, p1, p2, p3⟩ := cells4 (HX6.out.get 2 rfl)
  have dk : ∀ (o' : Obj), (w6.alloc o').cell? ⟨D, 1, none⟩ = some (.int .i64 r.kind) := fun (o' : Obj) => ((HX6.out.below ((Below.refl _ _).alloc (Nat.le_refl _) o')).get 0 rfl).1 1 _ rfl
  go_upto_block 0 with (fail)
  have HX7 := hide (show BX W ((w6.heap.size, mqArr p) :: ((D, r.arr) :: [(W.heap.size, #[.int .i64 (i' : Int), .int .i64 y]), (W.heap.size + 1, #[.int .i64 p.src, .int .i64 p.dst, .int .i64 p.sport, .int .i64 p.dport]), (W.heap.size + 1 + 1, #[.int .i64 ch]), (W.heap.size + 1 + 1 + 1, #[.int .i64 0, .int .i64 0, .int .i64 0, .int .i64 0, .int .i64 0, .int .i64 0])])) (w6.alloc (.cells #[.int .i64 p.src, .int .i64 p.dst, .int .i64 p.sport, .int .i64 p.dport] 39)) from (HX6.out.al #[.int .i64 p.src, .int .i64 p.dst, .int .i64 p.sport, .int .i64 p.dport] 39).done)
  obtain ⟨Q, hQ⟩ : ∃ Q, w6.heap.size = Q := ⟨_, rfl⟩
  have hQD : D < Q := by rw [← hQ]; exact (HX6.out.bx _ (List.mem_of_getElem? (i := 0) rfl)).2
  have hQS : W.heap.size + 1 + 1 + 1 < Q := by rw [← hQ]; exact (HX6.out.bx _ (List.mem_of_getElem? (i := 4) rfl)).2
  rw [hQ] at HX7 ⊢
  clear hQ p0 p1 p2 p3 dk HX6
  generalize World.alloc w6 _ = w8 at *
  obtain ⟨X, hX⟩ : ∃ X, mS r.dev L (i' : Int) y p ch = X := ⟨_, rfl⟩
  rw [hX] at HGO
  have HKX := hide (show X.e = 0 → X.kn = none from by
    have hc := HCR.out
    rw [← hX]
    unfold mS
    rw [if_neg (by show ¬ r.kind = 2; omega), if_neg (by show ¬ r.kind = 3; omega)]
    rw [if_pos (by exact hc.1)]
    unfold mNat
    rw [if_pos hc.2]
    intro _
    split
    · split <;> rfl
    · rfl
    )
  go_cut [11, 12, 14] (MindMid W ((D, r.arr) :: [(W.heap.size, #[.int .i64 (i' : Int), .int .i64 y]), (W.heap.size + 1, #[.int .i64 p.src, .int .i64 p.dst, .int .i64 p.sport, .int .i64 p.dport]), (W.heap.size + 1 + 1, #[.int .i64 ch]), (W.heap.size + 1 + 1 + 1, #[.int .i64 0, .int .i64 0, .int .i64 0, .int .i64 0, .int .i64 0, .int .i64 0])]) Q X)
  case first =>
    have HDK := hide (fun (w' : World) (hb : Below W.heap.size W w') => show DevAt w' w'.heap.size r from ((HMM.out w' hb).net.below (Below.refl _ _) (Nat.le_of_lt (HMM.out w' hb).glt)).dok r (List.mem_of_getElem? HRR.out))
    have HXE := hide hX
    clear hX hdA hil
    have hrc := (HDK.out _ HX7.out.bl).cr
    have htc := (HDK.out _ HX7.out.bl).ct
    have hbc := (HDK.out _ HX7.out.bl).cb
    have m1 : r.rn ≤ 9223372036854775807 := by unfold maxLen at hrc; omega
    have m2 : r.tn ≤ 9223372036854775807 := by unfold maxLen at htc; omega
    clear hrc htc hbc
    have hm7 : (L.length : Int) ≤ 1000 := by have := HLL.out; omega
    have hm8 : L.length ≤ 9223372036854775807 := by have := HLL.out; omega
    have e2 : (r.kind == 2) = false := by have := HCR.out; simp; omega
    have e3 : (r.kind == 3) = false := by have := HCR.out; simp; omega
    have e4 : (r.kind == 4) = true := by have := HCR.out; simp; omega
    have a1 : w8.cell? ⟨W.heap.size, 1, none⟩ = some (.int .i64 y) := (HX7.out.get 2 rfl).1 1 _ rfl
    have a0 : w8.cell? ⟨W.heap.size, 0, none⟩ = some (.int .i64 (i' : Int)) := (HX7.out.get 2 rfl).1 0 _ rfl
    have ey : (y == 1) = true := by have := HCR.out.2; simpa using this
    have HXG := hide (show X = (match fnd (fun x => x.d == (i' : Int) && x.n == p.dport) L with | some f => if p.dst = r.addr then ⟨0, true, 1 - y, ⟨p.src, f.p.src, p.sport, f.p.sport⟩, none⟩ else ⟨0, false, 1 - y, p, none⟩ | none => ⟨0, false, 1 - y, p, none⟩) from by rw [← HXE.out]; unfold mS; rw [if_neg (by show ¬ r.kind = 2; have := HCR.out; omega), if_neg (by show ¬ r.kind = 3; have := HCR.out; omega), if_pos (by exact HCR.out.1)]; unfold mNat; rw [if_pos HCR.out.2]; rfl)
    clear HXE HGO
    have HMC2 := hide (fun (w' : World) (h : BX W (((Q, mqArr p) :: ((D, r.arr) :: [(W.heap.size, #[.int .i64 (i' : Int), .int .i64 y]), (W.heap.size + 1, #[.int .i64 p.src, .int .i64 p.dst, .int .i64 p.sport, .int .i64 p.dport]), (W.heap.size + 1 + 1, #[.int .i64 ch]), (W.heap.size + 1 + 1 + 1, #[.int .i64 0, .int .i64 0, .int .i64 0, .int .i64 0, .int .i64 0, .int .i64 0])]))) w') => find_walk g A L.length c 69 #[.pointer (some ⟨W.heap.size, 0, none⟩), .pointer (some ⟨W.heap.size + 1, 0, none⟩)] (fun x => x.d == (i' : Int) && x.n == p.dport) L w' hm8 (HMM.out _ h.bl).c2 (HMM.out _ h.bl).sl mc2_enters (hide (fun x w _ hb => mc2_walk x _ _ (i' : Int) y p w ((h.below hb).get 2 rfl) ((h.below hb).get 3 rfl))))
    have hfc := fnd_cases (fun x => x.d == (i' : Int) && x.n == p.dport) L
    generalize fnd (fun x : FactV => x.d == (i' : Int) && x.n == p.dport) L = FD at *
    generalize idxF (fun x : FactV => x.d == (i' : Int) && x.n == p.dport) L = IX at *
    go_wp2_with fail
    refine (HMC2.out w8 HX7.out).mono ?_
    rintro e w10 ⟨rfl, hb⟩
    have HX10 := hide (HX7.out.below hb)
    clear hb a0 a1 HX7 HMC2
    obtain ⟨p0, p1, p2, p3⟩ := cells4 (show BoxV w10 (W.heap.size + 1) #[.int .i64 p.src, .int .i64 p.dst, .int .i64 p.sport, .int .i64 p.dport] from HX10.out.get 3 rfl)
    have d2 : w10.cell? ⟨D, 2, none⟩ = some (.int .i64 r.addr) := (HX10.out.get 1 rfl).1 2 _ rfl
    by_cases hda : p.dst = r.addr
    case neg =>
      have ed : (p.dst == r.addr) = false := by simpa using hda
      have HXX := hide (show X = ⟨0, false, 1 - y, p, none⟩ from by rw [HXG.out]; cases FD <;> simp [hda])
      clear hda HXG
      rcases hfc with ⟨k, f, rfl, hkl, _, _, rfl⟩ | ⟨rfl, _, rfl⟩
      all_goals
        go_wp2
        go_meet
        rw [HXX.out]
        exact ⟨rfl, rfl, rfl, HX10.out, none, rfl, trivial⟩
    have ed : (p.dst == r.addr) = true := by simpa using hda
    rcases hfc with ⟨k, f, rfl, hkl, hLk, _, rfl⟩ | ⟨rfl, _, rfl⟩
    case inr =>
      have HXX := hide (show X = ⟨0, false, 1 - y, p, none⟩ from by rw [HXG.out])
      clear hda HXG
      go_wp2
      go_meet
      rw [HXX.out]
      exact ⟨rfl, rfl, rfl, HX10.out, none, rfl, trivial⟩
    have HXX := hide (show X = ⟨0, true, 1 - y, ⟨p.src, f.p.src, p.sport, f.p.sport⟩, none⟩ from by rw [HXG.out]; simp [hda])
    clear hda HXG
    obtain ⟨bL, oL, rfl, hbL, _⟩ := HMW.out.sl.2 (by omega)
    obtain ⟨_, l1, _, l3, _, _⟩ := fact_get (HMM.out _ HX10.out.bl).sl hLk
    have k2 := (HMM.out _ HX10.out.bl).c2
    obtain ⟨fq, hfq⟩ := HX10.out.get 0 rfl
    have f1 := hfq 1
    have f3 := hfq 3
    have r1 : w10.cell? ⟨Q, 1, none⟩ = some (.int .i64 p.dst) := fq 1 _ rfl
    have r3 : w10.cell? ⟨Q, 3, none⟩ = some (.int .i64 p.dport) := fq 3 _ rfl
    have n1 : g ≠ Q := by omega
    have n2 : bL ≠ Q := by omega
    have n3 := Ne.symm n1
    have n4 := Ne.symm n2
    have hkl' : (k : Int) < (L.length : Int) := by omega
    have hk0 : 0 ≤ (k : Int) := by omega
    clear hfq fq hLk
    go_wp2_with fail
    go_region_held3 (fun w' => w'.cell? ⟨g, 2, none⟩ = some (.slice (some ⟨bL, oL, none⟩) L.length c) ∧ w'.cell? ⟨bL, oL + k * 6 + 1, none⟩ = some (.int .i64 f.p.src) ∧ w'.cell? ⟨bL, oL + k * 6 + 3, none⟩ = some (.int .i64 f.p.sport)) (go_keep) (fail)
    all_goals
      go_wp2
      go_meet
      rw [HXX.out]
      refine ⟨rfl, rfl, rfl, ?_, none, rfl, trivial⟩
      first | exact (HX10.out.d.set 0 rfl (fun j x hj hne => by match j, hj with | 0, _ => exact absurd rfl hne | 1, hj => (cases hj; show D ≠ Q; omega) | 2, hj => (cases hj; show W.heap.size ≠ Q; omega) | 3, hj => (cases hj; show W.heap.size + 1 ≠ Q; omega) | 4, hj => (cases hj; show W.heap.size + 1 + 1 ≠ Q; omega) | 5, hj => (cases hj; show W.heap.size + 1 + 1 + 1 ≠ Q; omega) | j + 6, hj => (simp at hj)) (by omega) 1 _).set 0 rfl (fun j x hj hne => by match j, hj with | 0, _ => exact absurd rfl hne | 1, hj => (cases hj; show D ≠ Q; omega) | 2, hj => (cases hj; show W.heap.size ≠ Q; omega) | 3, hj => (cases hj; show W.heap.size + 1 ≠ Q; omega) | 4, hj => (cases hj; show W.heap.size + 1 + 1 ≠ Q; omega) | 5, hj => (cases hj; show W.heap.size + 1 + 1 + 1 ≠ Q; omega) | j + 6, hj => (simp at hj)) (by omega) 3 _ | exact (HX10.out.d.set 0 rfl (fun j x hj hne => by match j, hj with | 0, _ => exact absurd rfl hne | 1, hj => (cases hj; show D ≠ Q; omega) | 2, hj => (cases hj; show W.heap.size ≠ Q; omega) | 3, hj => (cases hj; show W.heap.size + 1 ≠ Q; omega) | 4, hj => (cases hj; show W.heap.size + 1 + 1 ≠ Q; omega) | 5, hj => (cases hj; show W.heap.size + 1 + 1 + 1 ≠ Q; omega) | j + 6, hj => (simp at hj)) (by omega) 3 _).set 0 rfl (fun j x hj hne => by match j, hj with | 0, _ => exact absurd rfl hne | 1, hj => (cases hj; show D ≠ Q; omega) | 2, hj => (cases hj; show W.heap.size ≠ Q; omega) | 3, hj => (cases hj; show W.heap.size + 1 ≠ Q; omega) | 4, hj => (cases hj; show W.heap.size + 1 + 1 ≠ Q; omega) | 5, hj => (cases hj; show W.heap.size + 1 + 1 + 1 ≠ Q; omega) | j + 6, hj => (simp at hj)) (by omega) 1 _ | exact (HX10.out.set 0 rfl (fun j x hj hne => by match j, hj with | 0, _ => exact absurd rfl hne | 1, hj => (cases hj; show D ≠ Q; omega) | 2, hj => (cases hj; show W.heap.size ≠ Q; omega) | 3, hj => (cases hj; show W.heap.size + 1 ≠ Q; omega) | 4, hj => (cases hj; show W.heap.size + 1 + 1 ≠ Q; omega) | 5, hj => (cases hj; show W.heap.size + 1 + 1 + 1 ≠ Q; omega) | j + 6, hj => (simp at hj)) (by omega) 1 _).set 0 rfl (fun j x hj hne => by match j, hj with | 0, _ => exact absurd rfl hne | 1, hj => (cases hj; show D ≠ Q; omega) | 2, hj => (cases hj; show W.heap.size ≠ Q; omega) | 3, hj => (cases hj; show W.heap.size + 1 ≠ Q; omega) | 4, hj => (cases hj; show W.heap.size + 1 + 1 ≠ Q; omega) | 5, hj => (cases hj; show W.heap.size + 1 + 1 + 1 ≠ Q; omega) | j + 6, hj => (simp at hj)) (by omega) 3 _ | exact (HX10.out.set 0 rfl (fun j x hj hne => by match j, hj with | 0, _ => exact absurd rfl hne | 1, hj => (cases hj; show D ≠ Q; omega) | 2, hj => (cases hj; show W.heap.size ≠ Q; omega) | 3, hj => (cases hj; show W.heap.size + 1 ≠ Q; omega) | 4, hj => (cases hj; show W.heap.size + 1 + 1 ≠ Q; omega) | 5, hj => (cases hj; show W.heap.size + 1 + 1 + 1 ≠ Q; omega) | j + 6, hj => (simp at hj)) (by omega) 3 _).set 0 rfl (fun j x hj hne => by match j, hj with | 0, _ => exact absurd rfl hne | 1, hj => (cases hj; show D ≠ Q; omega) | 2, hj => (cases hj; show W.heap.size ≠ Q; omega) | 3, hj => (cases hj; show W.heap.size + 1 ≠ Q; omega) | 4, hj => (cases hj; show W.heap.size + 1 + 1 ≠ Q; omega) | 5, hj => (cases hj; show W.heap.size + 1 + 1 + 1 ≠ Q; omega) | j + 6, hj => (simp at hj)) (by omega) 1 _
  case rest =>
    unfold MindMid at hcut
    obtain ⟨he, rfl, rfl, hbx, kn, rfl, hkn⟩ := hcut
    obtain ⟨Xe, ok, port, q, kf⟩ := X
    simp only at he hbx hkn HGO HKX
    subst he
    clear hX
    rcases kn with _ | N <;> rcases kf with _ | f
    case none.some => exact hkn.elim
    case some.none => exact hkn.elim
    case some.some => exact nomatch (HKX.out rfl)
    case none.none =>
      have HXb := hide hbx
      clear hbx hkn
      have k0 : wc.cell? ⟨W.heap.size, 0, none⟩ = some (.int .i64 (i' : Int)) := (HXb.out.get 2 rfl).1 0 _ rfl
      have k1 : wc.cell? ⟨g, 0, none⟩ = some (.slice (some ⟨b, o, none⟩) n.dn n.dc) := by have q := (HMM.out _ HXb.out.bl).c0; rw [hdA] at q; exact q
      have k2 : wc.cell? ⟨g, 1, none⟩ = some (.slice n.lA n.ln n.lc) := (HMM.out _ HXb.out.bl).c1
      have HPE := hide (fun (w' : World) (hb : Below W.heap.size W w') => refPeer_any (some ⟨b, o, none⟩) n.dn n.dc n.lA n.ln n.lc n.ls (i' : Int) port w' (by omega) ((HMM.out w' hb).net.below (Below.refl _ _) (Nat.le_of_lt (HMM.out w' hb).glt)).ls)
      obtain ⟨PR, hPR⟩ : ∃ PR, peerF n.ls ((i' : Int), port) = PR := ⟨_, rfl⟩
      simp only [hPR] at HPE
      have HPR := hide hPR
      clear hPR
      obtain ⟨PV, hPV⟩ : ∃ PV, peerV PR = PV := ⟨_, rfl⟩
      simp only [hPV] at HPE
      obtain ⟨t1, t2, tb, hPT, HPW⟩ : ∃ t1 t2 tb, PV = .tuple #[.agg #[.int .i64 t1, .int .i64 t2], .bool tb] ∧ Hid (PR = if tb then some (t1, t2) else none) := by
        rw [← hPV]
        cases PR with
        | none => exact ⟨0, 0, false, rfl, hide rfl⟩
        | some x => exact ⟨x.1, x.2, true, rfl, hide rfl⟩
      subst hPT
      clear hPV
      have n1 : W.heap.size ≠ wc.heap.size := by have := (HXb.out.bx _ (List.mem_of_getElem? (i := 2) rfl)).2; simp only at this; omega
      have n2 : g ≠ wc.heap.size := by have := HXb.out.bl.size; omega
      have n3 := Ne.symm n1
      have n4 := Ne.symm n2
      have HG := HXb
      go_wp2_with fail
      apply cut_region (C := fun NP w' => BX W ((NP, #[.int .i64 t1, .int .i64 t2]) :: (Q, mqArr q) :: ((D, r.arr) :: [(W.heap.size, #[.int .i64 (i' : Int), .int .i64 y]), (W.heap.size + 1, #[.int .i64 p.src, .int .i64 p.dst, .int .i64 p.sport, .int .i64 p.dport]), (W.heap.size + 1 + 1, #[.int .i64 ch]), (W.heap.size + 1 + 1 + 1, #[.int .i64 0, .int .i64 0, .int .i64 0, .int .i64 0, .int .i64 0, .int .i64 0])])) w' ∧ W.heap.size ≤ NP)
      · intro HK
        go_region_held3 (fun w' => w'.cell? ⟨W.heap.size, 0, none⟩ = some (.int .i64 (i' : Int)) ∧ w'.cell? ⟨g, 0, none⟩ = some (.slice (some ⟨b, o, none⟩) n.dn n.dc) ∧ w'.cell? ⟨g, 1, none⟩ = some (.slice n.lA n.ln n.lc)) (go_keep) ((go_at_call 75; refine (HPE.out _ (by first | exact HG.out.d.bl | exact (HG.out.al _ _).d.box.bl | exact HG.out.bl | exact (HG.out.al _ _).box.bl)).mono ?_; rintro e wp ⟨rfl, hb⟩; (first | (have HG := hide (HG.out.d.below hb); have HBX := HG) | (have HG := hide ((HG.out.al #[.int .i64 0, .int .i64 0] _).d.below hb); have HBX := hide HG.out.box; obtain ⟨z0, z1, zf0, zf1⟩ := HG.out.cells2) | (have HG := hide (HG.out.below hb); have HBX := HG) | (have HG := hide ((HG.out.al #[.int .i64 0, .int .i64 0] _).below hb); have HBX := hide HG.out.box; obtain ⟨z0, z1, zf0, zf1⟩ := HG.out.cells2)); have k0 : wp.cell? ⟨W.heap.size, 0, none⟩ = some (.int .i64 (i' : Int)) := (HBX.out.get 2 rfl).1 0 _ rfl; have k1 : wp.cell? ⟨g, 0, none⟩ = some (.slice (some ⟨b, o, none⟩) n.dn n.dc) := (by have q := (HMM.out _ HBX.out.bl).c0; rw [hdA] at q; exact q); have k2 : wp.cell? ⟨g, 1, none⟩ = some (.slice n.lA n.ln n.lc) := (HMM.out _ HBX.out.bl).c1)) 
        all_goals (first | (obtain ⟨N', w', e1, e2, q⟩ := (HG.out.al #[.int .i64 t1, .int .i64 t2] 37).leafL; rw [e2, e1]; exact HK.out _ _ q) | (obtain ⟨N', w', e1, e2, q⟩ := ((HG.out.set 0 (.int .i64 t1)).set 1 (.int .i64 t2)).leafL; rw [e2, e1]; exact HK.out _ _ q))
      clear k0 k1 k2 n1 n2 n3 n4 HG HXb HPE
      intro NP w9 hFN
      have HX9 := hide hFN.1
      have HNL := hide hFN.2
      clear hFN
      cases ok
      case false =>
        have HS := hide (show SR = (.bad 7, L) from by rw [HGO.out]; simp only [mGo, HPR.out, HPW.out]; cases tb <;> rfl)
        have hb3 := HX9.out.get 6 rfl
        have hbw := HX9.out.bl
        go_wp2_with ((with_reducible show wpList _ _ _ (⟨none, .store 43 (.tmp 8) _, _, _, _, _⟩ :: _) _ _); refine wpList_store_mid rfl 43 (.tmp 8) (.tmp 270) rfl (W.heap.size + 1 + 1 + 1) 0 #[.int .i64 0, .int .i64 0, .int .i64 0, .int .i64 0, .int .i64 0, .int .i64 0] rfl rfl (hb3.there (Nat.le_refl _)) info_arrival (by simp [Value.oneCell']) ?_)
        have hx7 := hb3.all [.int .i64 0, .int .i64 0, .int .i64 0, .int .i64 0, .int .i64 0, .int .i64 0] rfl
        have hb7 := below_setCells (B := W.heap.size) (N := W.heap.size + 1 + 1 + 1) (by omega) [.int .i64 0, .int .i64 0, .int .i64 0, .int .i64 0, .int .i64 0, .int .i64 0] 0 _ hbw
        clear hb3 hbw
        generalize World.setCells _ _ _ _ = w7 at *
        obtain ⟨z0, z1, z2, z3, z4, z5⟩ := (cells6 hx7).1
        try simp only [Exit.inBlock, Exit.then]
        refine bodyPost_ret (v := .tuple #[.agg #[.int .i64 0, .int .i64 0, .int .i64 0, .int .i64 0, .int .i64 0, .int .i64 0], .int .i64 7]) (by simp [results, Try.f14, go_sem, z0, z1, z2, z3, z4, z5]) rfl ?_
        rw [HS.out]; exact MindP.same HMW.out hb7 rfl
      cases tb
      case false =>
        have HS := hide (show SR = (.bad 7, L) from by rw [HGO.out]; simp only [mGo, HPR.out, HPW.out]; rfl)
        have hb3 := HX9.out.get 6 rfl
        have hbw := HX9.out.bl
        go_wp2_with ((with_reducible show wpList _ _ _ (⟨none, .store 43 (.tmp 8) _, _, _, _, _⟩ :: _) _ _); refine wpList_store_mid rfl 43 (.tmp 8) (.tmp 270) rfl (W.heap.size + 1 + 1 + 1) 0 #[.int .i64 0, .int .i64 0, .int .i64 0, .int .i64 0, .int .i64 0, .int .i64 0] rfl rfl (hb3.there (Nat.le_refl _)) info_arrival (by simp [Value.oneCell']) ?_)
        have hx7 := hb3.all [.int .i64 0, .int .i64 0, .int .i64 0, .int .i64 0, .int .i64 0, .int .i64 0] rfl
        have hb7 := below_setCells (B := W.heap.size) (N := W.heap.size + 1 + 1 + 1) (by omega) [.int .i64 0, .int .i64 0, .int .i64 0, .int .i64 0, .int .i64 0, .int .i64 0] 0 _ hbw
        clear hb3 hbw
        generalize World.setCells _ _ _ _ = w7 at *
        obtain ⟨z0, z1, z2, z3, z4, z5⟩ := (cells6 hx7).1
        try simp only [Exit.inBlock, Exit.then]
        refine bodyPost_ret (v := .tuple #[.agg #[.int .i64 0, .int .i64 0, .int .i64 0, .int .i64 0, .int .i64 0, .int .i64 0], .int .i64 7]) (by simp [results, Try.f14, go_sem, z0, z1, z2, z3, z4, z5]) rfl ?_
        rw [HS.out]; exact MindP.same HMW.out hb7 rfl
      have HS := hide (show SR = (⟨0, (t1, t2), q, .nothing⟩, addF L none) from by rw [HGO.out]; simp only [mGo, HPR.out, HPW.out]; rfl)
      go_wp2_with fail
      refine wp_region_abs (by kernel_rfl) (by kernel_rfl) ?_
      intro T hT gt hg1 hgi
      have HGT := hide hg1
      have HGI := hide hgi
      clear hg1 hgi
      repeat (go_big_quiet_step (fail))
      refine wpQuiet_nil ?_
      intro _ hw'
      obtain ⟨t, rfl⟩ := hw'
      have HX10 := hide (HX9.out.below (HGT.out t))
      generalize gt t = w10 at *
      clear HGT HGI 
      obtain ⟨u0, u1⟩ : w10.cell? ⟨NP, 0, none⟩ = some (.int .i64 t1) ∧ w10.cell? ⟨NP, 1, none⟩ = some (.int .i64 t2) := ⟨(HX10.out.get 0 rfl).1 0 _ rfl, (HX10.out.get 0 rfl).1 1 _ rfl⟩
      obtain ⟨v0, v1, v2, v3⟩ := cells4 (show BoxV w10 Q #[.int .i64 q.src, .int .i64 q.dst, .int .i64 q.sport, .int .i64 q.dport] from HX10.out.get 1 rfl)
      have hb3 := HX10.out.get 6 rfl
      have hbw := HX10.out.bl
      go_wp2_with ((with_reducible show wpList _ _ _ (⟨none, .store 43 (.tmp 8) _, _, _, _, _⟩ :: _) _ _); refine wpList_store_mid rfl 43 (.tmp 8) (.tmp 298) rfl (W.heap.size + 1 + 1 + 1) 0 #[.int .i64 t1, .int .i64 t2, .int .i64 q.src, .int .i64 q.dst, .int .i64 q.sport, .int .i64 q.dport] rfl rfl (hb3.there (Nat.le_refl _)) info_arrival (by simp [Value.oneCell']) ?_)
      have hx7 := hb3.all [.int .i64 t1, .int .i64 t2, .int .i64 q.src, .int .i64 q.dst, .int .i64 q.sport, .int .i64 q.dport] rfl
      have hb7 := below_setCells (B := W.heap.size) (N := W.heap.size + 1 + 1 + 1) (by omega) [.int .i64 t1, .int .i64 t2, .int .i64 q.src, .int .i64 q.dst, .int .i64 q.sport, .int .i64 q.dport] 0 _ hbw
      clear hb3 hbw
      generalize World.setCells _ _ _ _ = w7 at *
      obtain ⟨z0, z1, z2, z3, z4, z5⟩ := (cells6 hx7).1
      try simp only [Exit.inBlock, Exit.then]
      refine bodyPost_ret (v := .tuple #[.agg #[.int .i64 t1, .int .i64 t2, .int .i64 q.src, .int .i64 q.dst, .int .i64 q.sport, .int .i64 q.dport], .int .i64 0]) (by simp [results, Try.f14, go_sem, z0, z1, z2, z3, z4, z5]) rfl ?_
      rw [HS.out]; exact MindP.same HMW.out hb7 rfl
end Go.Proofs.Ythaiffjalgionaa
