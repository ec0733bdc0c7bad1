/- A part of the proof: MindL0. -/
import Derived.Test.YthaiffjalgionaaWp32
import Derived.Deep.DeepCutAuto
import Derived.Deep.CutBlock

set_option linter.unusedVariables false
set_option linter.unusedSimpArgs false
namespace Go.Proofs.Ythaiffjalgionaa
open Go.RowKit

set_option maxRecDepth 100000 in
set_option maxHeartbeats 16000000 in
theorem mindHand_bal0 (g : Nat) (n : NetV) (A : Option Addr) (c : Nat) (L : List FactV) (i y : Int) (p : P4) (ch : Int) (W : World) (hM : MindAt W g n A c L) (hE : netE n.devs n.ls = 0) (hi : i64ok i) (hy : i64ok y) (hp : p.ok) (hch : i64ok ch) (hL : L.length ≤ 1000) (hpl : placeB n.devs (i, y) = true) (hrp : rightB p = true) (hcond : ∀ r : DevV, n.ds[i.toNat]? = some r → (r.kind = 5 ∧ y ≠ 1 ∧ p.dst = r.addr)) :
    Calls Try.prog 14 #[.pointer (some ⟨g, 0, none⟩), .agg #[.int .i64 i, .int .i64 y], .agg #[.int .i64 p.src, .int .i64 p.dst, .int .i64 p.sport, .int .i64 p.dport], .int .i64 ch] W (MindP W g n A (mindS n.devs n.ls L i y p ch)) := by
  have HPL0 := hide hpl
  have HRP := hide hrp
  have HCD := hide hcond
  clear hpl hrp hcond
  have HMW := hide hM
  have HMM := hide (fun (w' : World) (hb : Below W.heap.size W w') => hM.below hb)
  have hok := netE_ok hE
  have hdl := devs_len hM.net
  have hdn : n.dn ≤ 10 := by rw [← hdl]; exact hok.dl
  have hln : n.ln ≤ 15 := by have := hok.ll; rw [hM.net.llen] at this; exact this
  have hgs := hM.glt
  have HDV := hide (net_devs_ok hE)
  have HDL := hide hdl
  have HCH := hide hch
  have HPO := hide hp
  have HLL := hide hL
  clear hM hE hok hch hp hL
  obtain ⟨i1, i2⟩ := hi
  obtain ⟨y1, y2⟩ := hy
  obtain ⟨SR, hSR⟩ : ∃ SR, mindS n.devs n.ls L i y p ch = SR := ⟨_, rfl⟩
  have HSR := hide hSR
  rw [hSR]
  clear hSR
  go_enter Try.func14, Try.ntmps14
  go_wp2
  generalize hG : World.alloc (World.alloc (World.alloc (World.alloc W _) _) _) _ = W1
  have HX1 := hide (show BX W [(W.heap.size, #[.int .i64 i, .int .i64 y]), (W.heap.size + 1, #[.int .i64 p.src, .int .i64 p.dst, .int .i64 p.sport, .int .i64 p.dport]), (W.heap.size + 1 + 1, #[.int .i64 ch]), (W.heap.size + 1 + 1 + 1, #[.int .i64 0, .int .i64 0, .int .i64 0, .int .i64 0, .int .i64 0, .int .i64 0])] W1 from by
    have e := boxesV (B := W1.heap.size) [(#[.int .i64 i, .int .i64 y], 37), (#[.int .i64 p.src, .int .i64 p.dst, .int .i64 p.sport, .int .i64 p.dport], 39), (#[.int .i64 ch], 3), (#[.int .i64 0, .int .i64 0, .int .i64 0, .int .i64 0, .int .i64 0, .int .i64 0], 43)] W (W' := W1) (by rw [← hG]; exact Below.refl _ _)
    have hs : W1.heap.size = W.heap.size + 4 := by rw [← hG]; simp
    refine ⟨e.2 (by omega), fun x hx => ?_⟩
    simp only [List.mem_cons, List.not_mem_nil, or_false] at hx
    rcases hx with rfl | rfl | rfl | rfl
    · exact ⟨e.1 0 _ _ rfl (by omega), by simp; omega⟩
    · exact ⟨e.1 1 _ _ rfl (by omega), by simp; omega⟩
    · exact ⟨e.1 2 _ _ rfl (by omega), by simp; omega⟩
    · exact ⟨e.1 3 _ _ rfl (by omega), by simp; omega⟩)
  clear hG
  have i3 : (0 : Int) ≤ (n.dn : Int) := by omega
  have i4 : (n.dn : Int) ≤ 10 := by omega
  have hi1 : inR i 0 ((n.dn : Int) - 1) = true := by have h1 := placeB_iff.1 HPL0.out; simp only at h1; rw [HDL.out] at h1; simp only [inR, Bool.and_eq_true, decide_eq_true_eq]; omega
  obtain ⟨i', rfl⟩ : ∃ i' : Nat, i = (i' : Int) := ⟨i.toNat, by simp only [inR, Bool.and_eq_true, decide_eq_true_eq] at hi1; omega⟩
  have hil : i' < n.dn := by simp only [inR, Bool.and_eq_true, decide_eq_true_eq] at hi1; omega
  obtain ⟨r, hr⟩ : ∃ r, n.ds[i']? = some r := ⟨_, List.getElem?_eq_getElem (by rw [HMW.out.net.dlen]; exact hil)⟩
  have hrd : n.devs[i']? = some r.dev := by simp [NetV.devs, hr]
  have hka : kindAt n.devs (i' : Int) = r.kind := by simp [kindAt, hrd, DevV.dev]
  have HRR := hide hr
  have HRD := hide hrd
  have HD := hide (HDV.out r.dev (List.mem_of_getElem? hrd))
  clear hr hrd
  obtain ⟨b, o, hdA, _, _⟩ := HMW.out.net.ds.2 (by omega)
  have HPO2 := hide (fun w => refPorts_walk r.kind w)
  have hpf := portsF_rng r.kind
  obtain ⟨pf1, pf2⟩ := hpf
  obtain ⟨PF, hPF⟩ : ∃ PF, portsF r.kind = PF := ⟨_, rfl⟩
  rw [hPF] at pf1 pf2
  have HPF := hide hPF
  simp only [hPF] at HPO2
  clear hPF
  have j1 : (0 : Int) ≤ (i' : Int) := by omega
  have j2 : (i' : Int) < (n.dn : Int) := by omega
  skip
  have hcr := HCD.out r (by simpa using HRR.out)
  have HCR := hide hcr
  clear hcr HCD
  have hy1 : inR y 0 (PF - 1) = true := by have h1 := placeB_iff.1 HPL0.out; simp only at h1; rw [hka, HPF.out] at h1; simp only [inR, Bool.and_eq_true, decide_eq_true_eq]; omega
  have HPL := hide (show placeB n.devs ((i' : Int), y) = true from by
    simp only [inR, Bool.and_eq_true, decide_eq_true_eq] at hy1
    simp only [placeB, hka, HPF.out, HDL.out, Bool.and_eq_true, decide_eq_true_eq]
    omega)
  have HYR := hide (show 0 ≤ y ∧ y < PF from by simp only [inR, Bool.and_eq_true, decide_eq_true_eq] at hy1; omega)
  clear hka
  refine wp_region_abs (by kernel_rfl) (by kernel_rfl) ?_
  intro T hT gt hg1 hgi
  have HGT := hide hg1
  have HGI := hide hgi
  clear hg1 hgi
  have k0 : ∀ t, (gt t).cell? ⟨W.heap.size, 0, none⟩ = some (.int .i64 (i' : Int)) := fun t => ((HX1.out.below (HGT.out t)).get 0 rfl).1 0 _ rfl
  have k1 : ∀ t, (gt t).cell? ⟨W.heap.size, 1, none⟩ = some (.int .i64 y) := fun t => ((HX1.out.below (HGT.out t)).get 0 rfl).1 1 _ rfl
  have k2 : ∀ t, (gt t).cell? ⟨g, 0, none⟩ = some (.slice (some ⟨b, o, none⟩) n.dn n.dc) := fun t => by have q := (HMM.out _ (HX1.out.below (HGT.out t)).bl).c0; rw [hdA] at q; exact q
  have k3 : ∀ t, (gt t).cell? ⟨b, o + i' * 7 + 1, none⟩ = some (.int .i64 r.kind) := fun t => (dev_get (n := n.dn) (by have q := (HMM.out _ (HX1.out.below (HGT.out t)).bl).net.ds; rw [hdA] at q; exact q) HRR.out).2.2.1
  have hc1 := hide (fun t => inR_is (gt t) hi1)
  have hc3 := hide (fun t => inR_is (gt t) hy1)
  repeat (go_big_quiet_step ((first | (go_at_call_of 19 (Value.int .i64 y); exact inAbsSame (hc3.out _)) | (go_at_call 19; exact inAbsSame (hc1.out _)) | (go_at_call 46; exact inAbs HGT.out HGI.out (HPO2.out _)))))
  refine wpQuiet_nil ?_
  intro _ hw'
  obtain ⟨t, rfl⟩ := hw'
  have HX2 := hide (HX1.out.below (HGT.out t))
  generalize gt t = w2 at *
  clear HGT HGI k0 k1 k2 k3 hc1 hc3
  clear hi1 hy1 HX1 HPO2
  obtain ⟨p0, p1, p2, p3⟩ := cells4 (HX2.out.get 1 rfl)
  have hrp := HRP.out
  clear HPL0 HRP
  have HGO := hide (show SR = mGo n.ls L (i' : Int) (mS r.dev L (i' : Int) y p ch) from by rw [← HSR.out]; exact mindS_go HPL.out hrp (by simpa using HRD.out))
  go_wp2_with fail
  refine (right_is p w2 true hrp).mono ?_
  rintro e w3 ⟨rfl, hb⟩
  have HX3 := hide (HX2.out.below hb)
  clear hb p0 p1 p2 p3 HX2 hrp HSR HPL HDL HRD
  go_wp2_with fail
  -- R5
  have k0 : w3.cell? ⟨W.heap.size, 0, none⟩ = some (.int .i64 (i' : Int)) := (HX3.out.get 0 rfl).1 0 _ rfl
  have k2 : w3.cell? ⟨g, 0, none⟩ = some (.slice (some ⟨b, o, none⟩) n.dn n.dc) := by have q := (HMM.out _ HX3.out.bl).c0; rw [hdA] at q; exact q
  obtain ⟨_, q0, q1, q2, q3, q4, q5, q6⟩ := dev_get (n := n.dn) (by have q := (HMM.out _ HX3.out.bl).net.ds; rw [hdA] at q; exact q) HRR.out
  go_region_held3 (fun w' => w'.cell? ⟨W.heap.size, 0, none⟩ = some (.int .i64 (i' : Int)) ∧ w'.cell? ⟨g, 0, none⟩ = some (.slice (some ⟨b, o, none⟩) n.dn n.dc) ∧ w'.cell? ⟨b, o + i' * 7, none⟩ = some (.string r.name) ∧ w'.cell? ⟨b, o + i' * 7 + 1, none⟩ = some (.int .i64 r.kind) ∧ w'.cell? ⟨b, o + i' * 7 + 2, none⟩ = some (.int .i64 r.addr) ∧ w'.cell? ⟨b, o + i' * 7 + 3, none⟩ = some (.int .u8 r.pool) ∧ w'.cell? ⟨b, o + i' * 7 + 4, none⟩ = some (.slice r.bA r.bn r.bc) ∧ w'.cell? ⟨b, o + i' * 7 + 5, none⟩ = some (.slice r.rA r.rn r.rc) ∧ w'.cell? ⟨b, o + i' * 7 + 6, none⟩ = some (.slice r.tA r.tn r.tc)) (go_keep) (fail)
  have HX4 := hide (HX3.out.more (N := w3.heap.size) (vs := r.arr) ((Below.refl _ _).alloc (Nat.le_refl _) (.cells #[.string r.name, .int .i64 r.kind, .int .i64 r.addr, .int .u8 r.pool, .slice r.bA r.bn r.bc, .slice r.rA r.rn r.rc, .slice r.tA r.tn r.tc] 97)) (BoxV.new w3 #[.string r.name, .int .i64 r.kind, .int .i64 r.addr, .int .u8 r.pool, .slice r.bA r.bn r.bc, .slice r.rA r.rn r.rc, .slice r.tA r.tn r.tc] 97) (by simp))
  clear k0 k2 q0 q1 q2 q3 q4 q5 q6
  obtain ⟨D, hD⟩ : ∃ D, w3.heap.size = D := ⟨_, rfl⟩
  rw [hD] at HX4
  have hDW : W.heap.size ≤ D := by rw [← hD]; exact HX3.out.bl.size
  rw [hD]
  have HX5 := hide (HX4.out.below (Below.refl _ _).drew)
  clear hD HX3 HX4
  generalize World.drew _ = w5 at *
  have hy0 : 0 ≤ y := HYR.out.1
  have hy4 : y < 4 := by have := HYR.out.2; omega
  go_wp2_with fail
  refine wp_region_abs (by kernel_rfl) (by kernel_rfl) ?_
  intro T hT gt hg1 hgi
  have HGT := hide hg1
  have HGI := hide hgi
  clear hg1 hgi
  have k1 : ∀ t, (gt t).cell? ⟨W.heap.size, 1, none⟩ = some (.int .i64 y) := fun t => ((HX5.out.below (HGT.out t)).get 1 rfl).1 1 _ rfl
  repeat (go_big_quiet_step (fail))
  refine wpQuiet_nil ?_
  intro _ hw'
  obtain ⟨t, rfl⟩ := hw'
  have HX6 := hide (HX5.out.below (HGT.out t))
  generalize gt t = w6 at *
  clear HGT HGI k1
  clear HX5
  obtain ⟨p0, p1, p2, p3⟩ := cells4 (HX6.out.get 2 rfl)
  have dk : ∀ (o' : Obj), (w6.alloc o').cell? ⟨D, 1, none⟩ = some (.int .i64 r.kind) := fun (o' : Obj) => ((HX6.out.below ((Below.refl _ _).alloc (Nat.le_refl _) o')).get 0 rfl).1 1 _ rfl
  go_upto_block 0 with (fail)
  have HX7 := hide (show BX W ((w6.heap.size, mqArr p) :: ((D, r.arr) :: [(W.heap.size, #[.int .i64 (i' : Int), .int .i64 y]), (W.heap.size + 1, #[.int .i64 p.src, .int .i64 p.dst, .int .i64 p.sport, .int .i64 p.dport]), (W.heap.size + 1 + 1, #[.int .i64 ch]), (W.heap.size + 1 + 1 + 1, #[.int .i64 0, .int .i64 0, .int .i64 0, .int .i64 0, .int .i64 0, .int .i64 0])])) (w6.alloc (.cells #[.int .i64 p.src, .int .i64 p.dst, .int .i64 p.sport, .int .i64 p.dport] 39)) from (HX6.out.al #[.int .i64 p.src, .int .i64 p.dst, .int .i64 p.sport, .int .i64 p.dport] 39).done)
  obtain ⟨Q, hQ⟩ : ∃ Q, w6.heap.size = Q := ⟨_, rfl⟩
  have hQD : D < Q := by rw [← hQ]; exact (HX6.out.bx _ (List.mem_of_getElem? (i := 0) rfl)).2
  have hQS : W.heap.size + 1 + 1 + 1 < Q := by rw [← hQ]; exact (HX6.out.bx _ (List.mem_of_getElem? (i := 4) rfl)).2
  rw [hQ] at HX7 ⊢
  clear hQ p0 p1 p2 p3 dk HX6
  generalize World.alloc w6 _ = w8 at *
  obtain ⟨X, hX⟩ : ∃ X, mS r.dev L (i' : Int) y p ch = X := ⟨_, rfl⟩
  rw [hX] at HGO
  have HKX := hide (show X.e = 0 → X.kn ≠ none from by
    have hc := HCR.out
    rw [← hX]
    unfold mS
    rw [if_neg (by show ¬ r.kind = 2; omega), if_neg (by show ¬ r.kind = 3; omega), if_neg (by show ¬ r.kind = 4; omega)]
    rw [if_pos (by exact hc.1)]
    unfold mBal
    rw [if_neg hc.2.1, if_neg (by exact fun h => h (show p.dst = r.dev.addr from hc.2.2))]
    split
    · exact fun _ => nofun
    · split
      · exact fun _ => nofun
      · intro h; cases h
    )
  go_cut [11, 12, 14] (MindMid W ((D, r.arr) :: [(W.heap.size, #[.int .i64 (i' : Int), .int .i64 y]), (W.heap.size + 1, #[.int .i64 p.src, .int .i64 p.dst, .int .i64 p.sport, .int .i64 p.dport]), (W.heap.size + 1 + 1, #[.int .i64 ch]), (W.heap.size + 1 + 1 + 1, #[.int .i64 0, .int .i64 0, .int .i64 0, .int .i64 0, .int .i64 0, .int .i64 0])]) Q X)
  case first =>
    have HDK := hide (fun (w' : World) (hb : Below W.heap.size W w') => show DevAt w' w'.heap.size r from ((HMM.out w' hb).net.below (Below.refl _ _) (Nat.le_of_lt (HMM.out w' hb).glt)).dok r (List.mem_of_getElem? HRR.out))
    have HXE := hide hX
    clear hX hdA hil
    have hrc := (HDK.out _ HX7.out.bl).cr
    have htc := (HDK.out _ HX7.out.bl).ct
    have hbc := (HDK.out _ HX7.out.bl).cb
    have m1 : r.rn ≤ 9223372036854775807 := by unfold maxLen at hrc; omega
    have m2 : r.tn ≤ 9223372036854775807 := by unfold maxLen at htc; omega
    clear hrc htc hbc
    have hm7 : (L.length : Int) ≤ 1000 := by have := HLL.out; omega
    have hm8 : L.length ≤ 9223372036854775807 := by have := HLL.out; omega
    have e2 : (r.kind == 2) = false := by have := HCR.out; simp; omega
    have e3 : (r.kind == 3) = false := by have := HCR.out; simp; omega
    have e4 : (r.kind == 4) = false := by have := HCR.out; simp; omega
    have e5 : (r.kind == 5) = true := by have := HCR.out; simp; omega
    have a1 : w8.cell? ⟨W.heap.size, 1, none⟩ = some (.int .i64 y) := (HX7.out.get 2 rfl).1 1 _ rfl
    have a0 : w8.cell? ⟨W.heap.size, 0, none⟩ = some (.int .i64 (i' : Int)) := (HX7.out.get 2 rfl).1 0 _ rfl
    have ey : (y == 1) = false := by have := HCR.out.2.1; simpa using this
    have ed : (p.dst != r.addr) = false := by have := HCR.out.2.2; simpa using this
    have HXG := hide (show X = (match fnd (fun x => x.d == (i' : Int) && eq4 x.p p) L with | some f => ⟨0, true, 1 - y, ⟨p.src, f.n, p.sport, p.dport⟩, some ⟨(i' : Int), p, f.n⟩⟩ | none => match (if inR ch 0 ((r.bs.length : Int) - 1) = false then none else r.bs[ch.toNat]?) with | some b => ⟨0, true, 1 - y, ⟨p.src, b, p.sport, p.dport⟩, some ⟨(i' : Int), p, b⟩⟩ | none => .bad 1) from by rw [← HXE.out]; unfold mS; rw [if_neg (by show ¬ r.kind = 2; have := HCR.out; omega), if_neg (by show ¬ r.kind = 3; have := HCR.out; omega), if_neg (by show ¬ r.kind = 4; have := HCR.out; omega), if_pos (by exact HCR.out.1)]; unfold mBal; rw [if_neg HCR.out.2.1, if_neg (by exact fun h => h (show p.dst = r.dev.addr from HCR.out.2.2))]; rfl)
    clear HXE
    have hbl : r.bs.length = r.bn := (HDK.out _ HX7.out.bl).bs.1
    have hb3 : r.bn ≤ 3 := by have := HD.out.bl; rw [← hbl]; exact this
    rw [hbl] at HXG
    have HBL := hide hbl
    clear hbl
    obtain ⟨p0, p1, p2, p3⟩ := cells4 (show BoxV w8 (W.heap.size + 1) #[.int .i64 p.src, .int .i64 p.dst, .int .i64 p.sport, .int .i64 p.dport] from HX7.out.get 3 rfl)
    have d2 : w8.cell? ⟨D, 2, none⟩ = some (.int .i64 r.addr) := (HX7.out.get 1 rfl).1 2 _ rfl
    have HMC6 := hide (fun (w' : World) (h : BX W (((Q, mqArr p) :: ((D, r.arr) :: [(W.heap.size, #[.int .i64 (i' : Int), .int .i64 y]), (W.heap.size + 1, #[.int .i64 p.src, .int .i64 p.dst, .int .i64 p.sport, .int .i64 p.dport]), (W.heap.size + 1 + 1, #[.int .i64 ch]), (W.heap.size + 1 + 1 + 1, #[.int .i64 0, .int .i64 0, .int .i64 0, .int .i64 0, .int .i64 0, .int .i64 0])]))) w') => find_walk g A L.length c 74 #[.pointer (some ⟨W.heap.size, 0, none⟩), .pointer (some ⟨W.heap.size + 1, 0, none⟩)] (fun x => x.d == (i' : Int) && eq4 x.p p) L w' hm8 (HMM.out _ h.bl).c2 (HMM.out _ h.bl).sl mc6_enters (hide (fun x w _ hb => mc6_walk x _ _ (i' : Int) y p w ((h.below hb).get 2 rfl) ((h.below hb).get 3 rfl))))
    have hfc := fnd_cases (fun x => x.d == (i' : Int) && eq4 x.p p) L
    generalize fnd (fun x : FactV => x.d == (i' : Int) && eq4 x.p p) L = FD at *
    generalize idxF (fun x : FactV => x.d == (i' : Int) && eq4 x.p p) L = IX at *
    go_wp2_with fail
    refine (HMC6.out w8 HX7.out).mono ?_
    rintro e w10 ⟨rfl, hb⟩
    have HX10 := hide (HX7.out.below hb)
    clear hb a0 a1 d2 p0 p1 p2 p3 HX7 HMC6
    obtain ⟨fq, hfq⟩ := HX10.out.get 0 rfl
    have f1 := hfq 1
    have r1 : w10.cell? ⟨Q, 1, none⟩ = some (.int .i64 p.dst) := fq 1 _ rfl
    have a0 : w10.cell? ⟨W.heap.size, 0, none⟩ = some (.int .i64 (i' : Int)) := (HX10.out.get 2 rfl).1 0 _ rfl
    clear fq hfq
    obtain ⟨p0, p1, p2, p3⟩ := cells4 (show BoxV w10 (W.heap.size + 1) #[.int .i64 p.src, .int .i64 p.dst, .int .i64 p.sport, .int .i64 p.dport] from HX10.out.get 3 rfl)
    have q1 : W.heap.size ≠ Q := by omega
    have q2 : W.heap.size + 1 ≠ Q := by omega
    rcases hfc with ⟨k, f, rfl, hkl, hLk, _, rfl⟩ | ⟨rfl, _, rfl⟩
    case inl =>
      have HXX := hide (show X = ⟨0, true, 1 - y, ⟨p.src, f.n, p.sport, p.dport⟩, some ⟨(i' : Int), p, f.n⟩⟩ from HXG.out)
      clear HXG HGO
      obtain ⟨bL, oL, rfl, hbL, _⟩ := HMW.out.sl.2 (by omega)
      obtain ⟨_, _, _, _, _, l5⟩ := fact_get (HMM.out _ HX10.out.bl).sl hLk
      have k2 := (HMM.out _ HX10.out.bl).c2
      have hkl' : (k : Int) < (L.length : Int) := by omega
      have hk0 : 0 ≤ (k : Int) := by omega
      clear hLk
      go_wp2
      go_meet
      rw [HXX.out]
      have hxs := HX10.out.set 0 rfl (fun j x hj hne => by match j, hj with | 0, _ => exact absurd rfl hne | 1, hj => (cases hj; show D ≠ Q; omega) | 2, hj => (cases hj; show W.heap.size ≠ Q; omega) | 3, hj => (cases hj; show W.heap.size + 1 ≠ Q; omega) | 4, hj => (cases hj; show W.heap.size + 1 + 1 ≠ Q; omega) | 5, hj => (cases hj; show W.heap.size + 1 + 1 + 1 ≠ Q; omega) | j + 6, hj => (simp at hj)) (by omega) 1 (.int .i64 f.n)
      have hsz : (w10.setCell ⟨Q, 1, none⟩ (.int .i64 f.n)).heap.size = w10.heap.size := by simp [World.setCell]
      have hbx := BoxV.new (w10.setCell ⟨Q, 1, none⟩ (.int .i64 f.n)) #[.int .i64 (i' : Int), .int .i64 p.src, .int .i64 p.dst, .int .i64 p.sport, .int .i64 p.dport, .int .i64 f.n] 141
      skip
      first | exact ⟨rfl, rfl, rfl, hxs.below ((Below.refl _ _).alloc (Nat.le_refl _) _), some _, rfl, hbx, by simp, by rw [hsz]; exact HX10.out.bl.size⟩ | (rw [hsz] at hbx; exact ⟨rfl, rfl, rfl, hxs.below ((Below.refl _ _).alloc (Nat.le_refl _) _), some w10.heap.size, rfl, hbx, by rw [← hsz]; simp, HX10.out.bl.size⟩)
    have ch0 : w10.cell? ⟨W.heap.size + 1 + 1, 0, none⟩ = some (.int .i64 ch) := (HX10.out.get 4 rfl).1 0 _ rfl
    have d4 : w10.cell? ⟨D, 4, none⟩ = some (.slice r.bA r.bn r.bc) := (HX10.out.get 1 rfl).1 4 _ rfl
    have hb4 : (r.bn : Int) ≤ 3 := by omega
    have hb5 : 0 ≤ (r.bn : Int) := by omega
    cases hr1 : inR ch 0 ((r.bn : Int) - 1)
    case false =>
      have hc1 := hide (fun w => inR_is w hr1)
      have HS := hide (show SR = (.bad 1, L) from by rw [HGO.out, HXG.out]; simp [hr1, mGo, MG.bad])
      have hb3 := HX10.out.get 5 rfl
      have hbw := HX10.out.bl
      go_wp2_with (first | (go_at_call 19; refine (hc1.out _).mono ?_; rintro e wq ⟨rfl, rfl⟩) | ((with_reducible show wpList _ _ _ (⟨none, .store 43 (.tmp 8) _, _, _, _, _⟩ :: _) _ _); refine wpList_store_mid rfl 43 (.tmp 8) (.tmp 238) rfl (W.heap.size + 1 + 1 + 1) 0 #[.int .i64 0, .int .i64 0, .int .i64 0, .int .i64 0, .int .i64 0, .int .i64 0] rfl rfl (hb3.there (Nat.le_refl _)) info_arrival (by simp [Value.oneCell']) ?_))
      have hx7 := hb3.all [.int .i64 0, .int .i64 0, .int .i64 0, .int .i64 0, .int .i64 0, .int .i64 0] rfl
      have hb7 := below_setCells (B := W.heap.size) (N := W.heap.size + 1 + 1 + 1) (by omega) [.int .i64 0, .int .i64 0, .int .i64 0, .int .i64 0, .int .i64 0, .int .i64 0] 0 _ hbw
      clear hb3 hbw
      generalize World.setCells _ _ _ _ = w7 at *
      obtain ⟨z0, z1, z2, z3, z4, z5⟩ := (cells6 hx7).1
      try simp only [Exit.inBlock, Exit.then]
      refine bodyPost_ret (v := .tuple #[.agg #[.int .i64 0, .int .i64 0, .int .i64 0, .int .i64 0, .int .i64 0, .int .i64 0], .int .i64 1]) (by simp [results, Try.f14, go_sem, z0, z1, z2, z3, z4, z5]) rfl ?_
      rw [HS.out]; exact MindP.same HMW.out hb7 rfl
    have hc1 := hide (fun w => inR_is w hr1)
    have hch : 0 ≤ ch ∧ ch < (r.bn : Int) := by simp only [inR, Bool.and_eq_true, decide_eq_true_eq] at hr1; omega
    obtain ⟨kb, rfl⟩ : ∃ kb : Nat, ch = (kb : Int) := ⟨ch.toNat, by omega⟩
    obtain ⟨bk, hbk⟩ : ∃ bk, r.bs[kb]? = some bk := ⟨_, List.getElem?_eq_getElem (by have := HBL.out; omega)⟩
    have HXX := hide (show X = ⟨0, true, 1 - y, ⟨p.src, bk, p.sport, p.dport⟩, some ⟨(i' : Int), p, bk⟩⟩ from by rw [HXG.out]; simp only [hr1]; simp [hbk])
    obtain ⟨bB, oB, hbA, _, hbg⟩ := (HDK.out _ HX10.out.bl).bs.2.2 (by omega)
    have l0 := hbg kb bk hbk
    rw [hbA] at d4
    have hk1 : (kb : Int) < (r.bn : Int) := hch.2
    have hk0 : 0 ≤ (kb : Int) := hch.1
    clear HXG HGO hbk hbg hch hbA hr1
    go_wp2_with ((go_at_call 19; refine (hc1.out _).mono ?_; rintro e wq ⟨rfl, rfl⟩))
    go_wp2
    go_meet
    rw [HXX.out]
    have hxs := HX10.out.set 0 rfl (fun j x hj hne => by match j, hj with | 0, _ => exact absurd rfl hne | 1, hj => (cases hj; show D ≠ Q; omega) | 2, hj => (cases hj; show W.heap.size ≠ Q; omega) | 3, hj => (cases hj; show W.heap.size + 1 ≠ Q; omega) | 4, hj => (cases hj; show W.heap.size + 1 + 1 ≠ Q; omega) | 5, hj => (cases hj; show W.heap.size + 1 + 1 + 1 ≠ Q; omega) | j + 6, hj => (simp at hj)) (by omega) 1 (.int .i64 bk)
    have hsz : (w10.setCell ⟨Q, 1, none⟩ (.int .i64 bk)).heap.size = w10.heap.size := by simp [World.setCell]
    have hbx := BoxV.new (w10.setCell ⟨Q, 1, none⟩ (.int .i64 bk)) #[.int .i64 (i' : Int), .int .i64 p.src, .int .i64 p.dst, .int .i64 p.sport, .int .i64 p.dport, .int .i64 bk] 141
    skip
    first | exact ⟨rfl, rfl, rfl, hxs.below ((Below.refl _ _).alloc (Nat.le_refl _) _), some _, rfl, hbx, by simp, by rw [hsz]; exact HX10.out.bl.size⟩ | (rw [hsz] at hbx; exact ⟨rfl, rfl, rfl, hxs.below ((Below.refl _ _).alloc (Nat.le_refl _) _), some w10.heap.size, rfl, hbx, by rw [← hsz]; simp, HX10.out.bl.size⟩)
  case rest =>
    unfold MindMid at hcut
    obtain ⟨he, rfl, rfl, hbx, kn, rfl, hkn⟩ := hcut
    obtain ⟨Xe, ok, port, q, kf⟩ := X
    simp only at he hbx hkn HGO HKX
    subst he
    clear hX
    rcases kn with _ | N <;> rcases kf with _ | f
    case none.some => exact hkn.elim
    case some.none => exact hkn.elim
    case none.none => exact absurd rfl (HKX.out rfl)
    case some.some =>
      have HXb := hide (hbx.more (Below.refl _ _) hkn.1 hkn.2.1)
      have HKL := hide hkn.2.2
      clear hbx hkn
      have k0 : wc.cell? ⟨W.heap.size, 0, none⟩ = some (.int .i64 (i' : Int)) := (HXb.out.get 3 rfl).1 0 _ rfl
      have k1 : wc.cell? ⟨g, 0, none⟩ = some (.slice (some ⟨b, o, none⟩) n.dn n.dc) := by have q := (HMM.out _ HXb.out.bl).c0; rw [hdA] at q; exact q
      have k2 : wc.cell? ⟨g, 1, none⟩ = some (.slice n.lA n.ln n.lc) := (HMM.out _ HXb.out.bl).c1
      have HPE := hide (fun (w' : World) (hb : Below W.heap.size W w') => refPeer_any (some ⟨b, o, none⟩) n.dn n.dc n.lA n.ln n.lc n.ls (i' : Int) port w' (by omega) ((HMM.out w' hb).net.below (Below.refl _ _) (Nat.le_of_lt (HMM.out w' hb).glt)).ls)
      obtain ⟨PR, hPR⟩ : ∃ PR, peerF n.ls ((i' : Int), port) = PR := ⟨_, rfl⟩
      simp only [hPR] at HPE
      have HPR := hide hPR
      clear hPR
      obtain ⟨PV, hPV⟩ : ∃ PV, peerV PR = PV := ⟨_, rfl⟩
      simp only [hPV] at HPE
      obtain ⟨t1, t2, tb, hPT, HPW⟩ : ∃ t1 t2 tb, PV = .tuple #[.agg #[.int .i64 t1, .int .i64 t2], .bool tb] ∧ Hid (PR = if tb then some (t1, t2) else none) := by
        rw [← hPV]
        cases PR with
        | none => exact ⟨0, 0, false, rfl, hide rfl⟩
        | some x => exact ⟨x.1, x.2, true, rfl, hide rfl⟩
      subst hPT
      clear hPV
      have n1 : W.heap.size ≠ wc.heap.size := by have := (HXb.out.bx _ (List.mem_of_getElem? (i := 3) rfl)).2; simp only at this; omega
      have n2 : g ≠ wc.heap.size := by have := HXb.out.bl.size; omega
      have n3 := Ne.symm n1
      have n4 := Ne.symm n2
      have HG := HXb
      go_wp2_with fail
      apply cut_region (C := fun NP w' => BX W ((NP, #[.int .i64 t1, .int .i64 t2]) :: (N, f.arr) :: (Q, mqArr q) :: ((D, r.arr) :: [(W.heap.size, #[.int .i64 (i' : Int), .int .i64 y]), (W.heap.size + 1, #[.int .i64 p.src, .int .i64 p.dst, .int .i64 p.sport, .int .i64 p.dport]), (W.heap.size + 1 + 1, #[.int .i64 ch]), (W.heap.size + 1 + 1 + 1, #[.int .i64 0, .int .i64 0, .int .i64 0, .int .i64 0, .int .i64 0, .int .i64 0])])) w' ∧ W.heap.size ≤ NP)
      · intro HK
        go_region_held3 (fun w' => w'.cell? ⟨W.heap.size, 0, none⟩ = some (.int .i64 (i' : Int)) ∧ w'.cell? ⟨g, 0, none⟩ = some (.slice (some ⟨b, o, none⟩) n.dn n.dc) ∧ w'.cell? ⟨g, 1, none⟩ = some (.slice n.lA n.ln n.lc)) (go_keep) ((go_at_call 75; refine (HPE.out _ (by first | exact HG.out.d.bl | exact (HG.out.al _ _).d.box.bl | exact HG.out.bl | exact (HG.out.al _ _).box.bl)).mono ?_; rintro e wp ⟨rfl, hb⟩; (first | (have HG := hide (HG.out.d.below hb); have HBX := HG) | (have HG := hide ((HG.out.al #[.int .i64 0, .int .i64 0] _).d.below hb); have HBX := hide HG.out.box; obtain ⟨z0, z1, zf0, zf1⟩ := HG.out.cells2) | (have HG := hide (HG.out.below hb); have HBX := HG) | (have HG := hide ((HG.out.al #[.int .i64 0, .int .i64 0] _).below hb); have HBX := hide HG.out.box; obtain ⟨z0, z1, zf0, zf1⟩ := HG.out.cells2)); have k0 : wp.cell? ⟨W.heap.size, 0, none⟩ = some (.int .i64 (i' : Int)) := (HBX.out.get 3 rfl).1 0 _ rfl; have k1 : wp.cell? ⟨g, 0, none⟩ = some (.slice (some ⟨b, o, none⟩) n.dn n.dc) := (by have q := (HMM.out _ HBX.out.bl).c0; rw [hdA] at q; exact q); have k2 : wp.cell? ⟨g, 1, none⟩ = some (.slice n.lA n.ln n.lc) := (HMM.out _ HBX.out.bl).c1)) 
        all_goals (first | (obtain ⟨N', w', e1, e2, q⟩ := (HG.out.al #[.int .i64 t1, .int .i64 t2] 37).leafL; rw [e2, e1]; exact HK.out _ _ q) | (obtain ⟨N', w', e1, e2, q⟩ := ((HG.out.set 0 (.int .i64 t1)).set 1 (.int .i64 t2)).leafL; rw [e2, e1]; exact HK.out _ _ q))
      clear k0 k1 k2 n1 n2 n3 n4 HG HXb HPE
      intro NP w9 hFN
      have HX9 := hide hFN.1
      have HNL := hide hFN.2
      clear hFN
      cases ok
      case false =>
        have HS := hide (show SR = (.bad 7, L) from by rw [HGO.out]; simp only [mGo, HPR.out, HPW.out]; cases tb <;> rfl)
        have hb3 := HX9.out.get 7 rfl
        have hbw := HX9.out.bl
        go_wp2_with ((with_reducible show wpList _ _ _ (⟨none, .store 43 (.tmp 8) _, _, _, _, _⟩ :: _) _ _); refine wpList_store_mid rfl 43 (.tmp 8) (.tmp 270) rfl (W.heap.size + 1 + 1 + 1) 0 #[.int .i64 0, .int .i64 0, .int .i64 0, .int .i64 0, .int .i64 0, .int .i64 0] rfl rfl (hb3.there (Nat.le_refl _)) info_arrival (by simp [Value.oneCell']) ?_)
        have hx7 := hb3.all [.int .i64 0, .int .i64 0, .int .i64 0, .int .i64 0, .int .i64 0, .int .i64 0] rfl
        have hb7 := below_setCells (B := W.heap.size) (N := W.heap.size + 1 + 1 + 1) (by omega) [.int .i64 0, .int .i64 0, .int .i64 0, .int .i64 0, .int .i64 0, .int .i64 0] 0 _ hbw
        clear hb3 hbw
        generalize World.setCells _ _ _ _ = w7 at *
        obtain ⟨z0, z1, z2, z3, z4, z5⟩ := (cells6 hx7).1
        try simp only [Exit.inBlock, Exit.then]
        refine bodyPost_ret (v := .tuple #[.agg #[.int .i64 0, .int .i64 0, .int .i64 0, .int .i64 0, .int .i64 0, .int .i64 0], .int .i64 7]) (by simp [results, Try.f14, go_sem, z0, z1, z2, z3, z4, z5]) rfl ?_
        rw [HS.out]; exact MindP.same HMW.out hb7 rfl
      cases tb
      case false =>
        have HS := hide (show SR = (.bad 7, L) from by rw [HGO.out]; simp only [mGo, HPR.out, HPW.out]; rfl)
        have hb3 := HX9.out.get 7 rfl
        have hbw := HX9.out.bl
        go_wp2_with ((with_reducible show wpList _ _ _ (⟨none, .store 43 (.tmp 8) _, _, _, _, _⟩ :: _) _ _); refine wpList_store_mid rfl 43 (.tmp 8) (.tmp 270) rfl (W.heap.size + 1 + 1 + 1) 0 #[.int .i64 0, .int .i64 0, .int .i64 0, .int .i64 0, .int .i64 0, .int .i64 0] rfl rfl (hb3.there (Nat.le_refl _)) info_arrival (by simp [Value.oneCell']) ?_)
        have hx7 := hb3.all [.int .i64 0, .int .i64 0, .int .i64 0, .int .i64 0, .int .i64 0, .int .i64 0] rfl
        have hb7 := below_setCells (B := W.heap.size) (N := W.heap.size + 1 + 1 + 1) (by omega) [.int .i64 0, .int .i64 0, .int .i64 0, .int .i64 0, .int .i64 0, .int .i64 0] 0 _ hbw
        clear hb3 hbw
        generalize World.setCells _ _ _ _ = w7 at *
        obtain ⟨z0, z1, z2, z3, z4, z5⟩ := (cells6 hx7).1
        try simp only [Exit.inBlock, Exit.then]
        refine bodyPost_ret (v := .tuple #[.agg #[.int .i64 0, .int .i64 0, .int .i64 0, .int .i64 0, .int .i64 0, .int .i64 0], .int .i64 7]) (by simp [results, Try.f14, go_sem, z0, z1, z2, z3, z4, z5]) rfl ?_
        rw [HS.out]; exact MindP.same HMW.out hb7 rfl
      have HS := hide (show SR = (⟨0, (t1, t2), q, .nothing⟩, addF L (some f)) from by rw [HGO.out]; simp only [mGo, HPR.out, HPW.out]; rfl)
      go_wp2_with fail
      obtain ⟨B, hB⟩ : ∃ B, (L.any fun z => eqF f z) = B := ⟨_, rfl⟩
      have HAD := hide (show addF L (some f) = if B = true then L else L ++ [f] from by rw [← hB]; rfl)
      have HCF := hide (fun (w' : World) (hb : Below W.heap.size W w') => containsFact_any L A L.length c f w' (by have := HLL.out; omega) (HMM.out w' hb).sl)
      simp only [hB] at HCF
      clear hB
      have HX9' := HX9
      clear HX9
      refine wp_region_abs (by kernel_rfl) (by kernel_rfl) ?_
      intro T hT gt hg1 hgi
      have HGT := hide hg1
      have HGI := hide hgi
      clear hg1 hgi
      have k2 : ∀ t, (gt t).cell? ⟨g, 2, none⟩ = some (.slice A L.length c) := fun t => (HMM.out _ (HX9'.out.below (HGT.out t)).bl).c2
      have f0 : ∀ t, (gt t).cell? ⟨N, 0, none⟩ = some (.int .i64 f.d) := fun t => ((HX9'.out.below (HGT.out t)).get 1 rfl).1 0 _ rfl
      have f1 : ∀ t, (gt t).cell? ⟨N, 1, none⟩ = some (.int .i64 f.p.src) := fun t => ((HX9'.out.below (HGT.out t)).get 1 rfl).1 1 _ rfl
      have f2 : ∀ t, (gt t).cell? ⟨N, 2, none⟩ = some (.int .i64 f.p.dst) := fun t => ((HX9'.out.below (HGT.out t)).get 1 rfl).1 2 _ rfl
      have f3 : ∀ t, (gt t).cell? ⟨N, 3, none⟩ = some (.int .i64 f.p.sport) := fun t => ((HX9'.out.below (HGT.out t)).get 1 rfl).1 3 _ rfl
      have f4 : ∀ t, (gt t).cell? ⟨N, 4, none⟩ = some (.int .i64 f.p.dport) := fun t => ((HX9'.out.below (HGT.out t)).get 1 rfl).1 4 _ rfl
      have f5 : ∀ t, (gt t).cell? ⟨N, 5, none⟩ = some (.int .i64 f.n) := fun t => ((HX9'.out.below (HGT.out t)).get 1 rfl).1 5 _ rfl
      repeat (go_big_quiet_step ((go_at_call 76; exact inAbs HGT.out HGI.out (HCF.out _ (HX9'.out.below (HGT.out _)).bl))))
      refine wpQuiet_nil ?_
      intro _ hw'
      obtain ⟨t, rfl⟩ := hw'
      have HX10 := hide (HX9'.out.below (HGT.out t))
      generalize gt t = w10 at *
      clear HGT HGI k2 f0 f1 f2 f3 f4 f5
      cases B
      case true =>
        have HA2 := hide (show addF L (some f) = L from HAD.out.trans (if_pos (by simp)))
        clear HAD
        obtain ⟨u0, u1⟩ : w10.cell? ⟨NP, 0, none⟩ = some (.int .i64 t1) ∧ w10.cell? ⟨NP, 1, none⟩ = some (.int .i64 t2) := ⟨(HX10.out.get 0 rfl).1 0 _ rfl, (HX10.out.get 0 rfl).1 1 _ rfl⟩
        obtain ⟨v0, v1, v2, v3⟩ := cells4 (show BoxV w10 Q #[.int .i64 q.src, .int .i64 q.dst, .int .i64 q.sport, .int .i64 q.dport] from HX10.out.get 2 rfl)
        have hb3 := HX10.out.get 7 rfl
        have hbw := HX10.out.bl
        go_wp2_with ((with_reducible show wpList _ _ _ (⟨none, .store 43 (.tmp 8) _, _, _, _, _⟩ :: _) _ _); refine wpList_store_mid rfl 43 (.tmp 8) (.tmp 298) rfl (W.heap.size + 1 + 1 + 1) 0 #[.int .i64 t1, .int .i64 t2, .int .i64 q.src, .int .i64 q.dst, .int .i64 q.sport, .int .i64 q.dport] rfl rfl (hb3.there (Nat.le_refl _)) info_arrival (by simp [Value.oneCell']) ?_)
        have hx7 := hb3.all [.int .i64 t1, .int .i64 t2, .int .i64 q.src, .int .i64 q.dst, .int .i64 q.sport, .int .i64 q.dport] rfl
        have hb7 := below_setCells (B := W.heap.size) (N := W.heap.size + 1 + 1 + 1) (by omega) [.int .i64 t1, .int .i64 t2, .int .i64 q.src, .int .i64 q.dst, .int .i64 q.sport, .int .i64 q.dport] 0 _ hbw
        clear hb3 hbw
        generalize World.setCells _ _ _ _ = w7 at *
        obtain ⟨z0, z1, z2, z3, z4, z5⟩ := (cells6 hx7).1
        try simp only [Exit.inBlock, Exit.then]
        refine bodyPost_ret (v := .tuple #[.agg #[.int .i64 t1, .int .i64 t2, .int .i64 q.src, .int .i64 q.dst, .int .i64 q.sport, .int .i64 q.dport], .int .i64 0]) (by simp [results, Try.f14, go_sem, z0, z1, z2, z3, z4, z5]) rfl ?_
        rw [HS.out, HA2.out]; exact MindP.same HMW.out hb7 rfl
      have HA2 := hide (show addF L (some f) = L ++ [f] from HAD.out.trans (if_neg (by simp)))
      clear HAD HCF
      obtain ⟨i0, hi0, hz0, hz1, hz2⟩ := info_parts Try.infoFact
      have hLL := HLL.out
      go_wp2_with fail
      refine wp_region_E (fun w' => w'.cell? ⟨g, 2, none⟩ = some (.slice A L.length c) ∧ w'.cell? ⟨N, 0, none⟩ = some (.int .i64 f.d) ∧ w'.cell? ⟨N, 1, none⟩ = some (.int .i64 f.p.src) ∧ w'.cell? ⟨N, 2, none⟩ = some (.int .i64 f.p.dst) ∧ w'.cell? ⟨N, 3, none⟩ = some (.int .i64 f.p.sport) ∧ w'.cell? ⟨N, 4, none⟩ = some (.int .i64 f.p.dport) ∧ w'.cell? ⟨N, 5, none⟩ = some (.int .i64 f.n)) 12 (by kernel_rfl) ⟨(HMM.out _ HX10.out.d.bl).c2, (HX10.out.d.get 1 rfl).1 0 _ rfl, (HX10.out.d.get 1 rfl).1 1 _ rfl, (HX10.out.d.get 1 rfl).1 2 _ rfl, (HX10.out.d.get 1 rfl).1 3 _ rfl, (HX10.out.d.get 1 rfl).1 4 _ rfl, (HX10.out.d.get 1 rfl).1 5 _ rfl⟩ (fun hS inv => ?_)
      refine wpAnyE_pure (i := 0) (v := ?_) rfl (by kernel_rfl) (by kernel_rfl) (by kernel_rfl) (by kernel_rfl) (fun _ _ _ h => h) inv (Or.inl ⟨by rfl, ?_⟩) (fun _ => hS) (fun inv2 => ?_)
      rotate_left
      · intro w _
        go_simp
        try with_reducible rfl
      clear inv
      have inv := inv2
      clear inv2
      try simp only [Act.put, nrmA, nrmB, nrmC]
      refine wpAnyE_pure (i := 1) (v := ?_) rfl (by kernel_rfl) (by kernel_rfl) (by kernel_rfl) (by kernel_rfl) (fun _ _ _ h => h) inv (Or.inl ⟨by rfl, ?_⟩) (fun _ => hS) (fun inv2 => ?_)
      rotate_left
      · intro w _
        go_simp
        try with_reducible rfl
      clear inv
      have inv := inv2
      clear inv2
      try simp only [Act.put, nrmA, nrmB, nrmC]
      refine wpAnyE_pure (i := 2) (v := ?_) rfl (by kernel_rfl) (by kernel_rfl) (by kernel_rfl) (by kernel_rfl) (fun _ _ _ h => h) inv (Or.inl ⟨by rfl, ?_⟩) (fun _ => hS) (fun inv2 => ?_)
      rotate_left
      · intro w _
        go_simp
        try with_reducible rfl
      clear inv
      have inv := inv2
      clear inv2
      try simp only [Act.put, nrmA, nrmB, nrmC]
      refine wpAnyE_pure (i := 3) (v := ?_) rfl (by kernel_rfl) (by kernel_rfl) (by kernel_rfl) (by kernel_rfl) (fun _ _ _ h => h) inv (Or.inl ⟨by rfl, ?_⟩) (fun _ => hS) (fun inv2 => ?_)
      rotate_left
      · intro w _
        go_simp
        try with_reducible rfl
      clear inv
      have inv := inv2
      clear inv2
      try simp only [Act.put, nrmA, nrmB, nrmC]
      refine wpAnyE_load (i := 4) (v := ?_) [12] rfl (by kernel_rfl) (by kernel_rfl) (by kernel_rfl) (by kernel_rfl) (fun _ _ _ h => h) inv (Or.inl ⟨by rfl, ?_⟩) hS (fun inv2 => ?_)
      rotate_left
      · intro w hSw
        obtain ⟨s0, s1, s2, s3, s4, s5, s6⟩ := hSw
        go_simp
        try with_reducible rfl
      clear inv
      have inv := inv2
      clear inv2
      try simp only [Act.put, nrmA, nrmB, nrmC]
      refine wpAnyE_pure (i := 5) (v := ?_) rfl (by kernel_rfl) (by kernel_rfl) (by kernel_rfl) (by kernel_rfl) (fun _ _ _ h => h) inv (Or.inl ⟨by rfl, ?_⟩) (fun _ => hS) (fun inv2 => ?_)
      rotate_left
      · intro w _
        go_simp
        try with_reducible rfl
      clear inv
      have inv := inv2
      clear inv2
      try simp only [Act.put, nrmA, nrmB, nrmC]
      refine wpAnyE_pure (i := 6) (v := ?_) rfl (by kernel_rfl) (by kernel_rfl) (by kernel_rfl) (by kernel_rfl) (fun _ _ _ h => h) inv (Or.inl ⟨by rfl, ?_⟩) (fun _ => hS) (fun inv2 => ?_)
      rotate_left
      · intro w _
        go_simp
        try with_reducible rfl
      clear inv
      have inv := inv2
      clear inv2
      try simp only [Act.put, nrmA, nrmB, nrmC]
      refine wpAnyE_load (i := 7) (v := ?_) [12] rfl (by kernel_rfl) (by kernel_rfl) (by kernel_rfl) (by kernel_rfl) (fun _ _ _ h => h) inv (Or.inl ⟨by rfl, ?_⟩) hS (fun inv2 => ?_)
      rotate_left
      · intro w hSw
        obtain ⟨s0, s1, s2, s3, s4, s5, s6⟩ := hSw
        go_simp
        try with_reducible rfl
      clear inv
      have inv := inv2
      clear inv2
      try simp only [Act.put, nrmA, nrmB, nrmC]
      -- R53B
      refine wpAnyE_one (i := 8) rfl (by kernel_rfl) inv (fun K hK => ?_)
      go_simp
      have HX11 := hide (HX10.out.al #[.int .i64 f.d, .int .i64 f.p.src, .int .i64 f.p.dst, .int .i64 f.p.sport, .int .i64 f.p.dport, .int .i64 f.n] 141).done.d
      refine hK.out _ _ (fun _ => ⟨(HMM.out _ HX11.out.less.bl).c2, (HX11.out.less.get 1 rfl).1 0 _ rfl, (HX11.out.less.get 1 rfl).1 1 _ rfl, (HX11.out.less.get 1 rfl).1 2 _ rfl, (HX11.out.less.get 1 rfl).1 3 _ rfl, (HX11.out.less.get 1 rfl).1 4 _ rfl, (HX11.out.less.get 1 rfl).1 5 _ rfl⟩) (fun inv2 => ?_)
      clear hK K hS
      clear inv
      have inv := inv2
      clear inv2
      try simp only [Act.put, nrmA, nrmB, nrmC]
      refine wpAnyE_one (i := 9) rfl (by kernel_rfl) inv (fun K hK => ?_)
      rw [if_pos (by rfl)]
      refine wp_append_any _ (.tmp 288) (.tmp 292) 33 rfl (g + 1) 141 i0 _ 6 48 Try.underlying33 hi0 hz0 hz1 hz2 rfl (by omega) (.slice A L.length c) L.length (L.flatMap FactV.cells) rfl (HMM.out _ HX11.out.bl).own (w10.heap.size + 1) (some ⟨w10.heap.size, 0, none⟩) 1 1 f.cells rfl (reads_fact (HX11.out.get 0 rfl)) f.one (by unfold maxLen; omega) (by omega) (by have := (HMM.out _ HX11.out.bl).glt; omega) ?_
      intro v5 w5 hown5 hg5 hat5
      obtain ⟨g5, c5, rfl, _⟩ := hown5.form (by omega)
      have HAD5 := hide (mind_added HMW.out HX11.out.bl hown5 hg5 hat5)
      obtain ⟨s0, fz5⟩ := grown_c2 HMW.out HX11.out.bl hg5
      have hbn := grown_box HMW.out (HX11.out.get 2 rfl) (HX11.out.bx _ (List.mem_of_getElem? (i := 2) rfl)).2 HKL.out hg5
      clear hown5 hat5 hg5
      have hS5 : w5.cell? ⟨g, 2, none⟩ = some (.slice A L.length c) ∧ w5.cell? ⟨N, 0, none⟩ = some (.int .i64 f.d) ∧ w5.cell? ⟨N, 1, none⟩ = some (.int .i64 f.p.src) ∧ w5.cell? ⟨N, 2, none⟩ = some (.int .i64 f.p.dst) ∧ w5.cell? ⟨N, 3, none⟩ = some (.int .i64 f.p.sport) ∧ w5.cell? ⟨N, 4, none⟩ = some (.int .i64 f.p.dport) ∧ w5.cell? ⟨N, 5, none⟩ = some (.int .i64 f.n) := ⟨s0, hbn.1 0 _ rfl, hbn.1 1 _ rfl, hbn.1 2 _ rfl, hbn.1 3 _ rfl, hbn.1 4 _ rfl, hbn.1 5 _ rfl⟩
      refine hK.out _ _ (fun _ => hS5) (fun inv2 => ?_)
      clear hK K hbn
      clear inv
      have inv := inv2
      clear inv2
      try simp only [Act.put, nrmA, nrmB, nrmC]
      have hS := hS5
      clear hS5
      refine wpAnyE_pure (i := 10) (v := ?_) rfl (by kernel_rfl) (by kernel_rfl) (by kernel_rfl) (by kernel_rfl) (fun _ _ _ h => h) inv (Or.inl ⟨by rfl, ?_⟩) (fun _ => hS) (fun inv2 => ?_)
      rotate_left
      · intro w _
        go_simp
        try with_reducible rfl
      clear inv
      have inv := inv2
      clear inv2
      try simp only [Act.put, nrmA, nrmB, nrmC]
      refine wpAnyE_pure (i := 11) (v := ?_) rfl (by kernel_rfl) (by kernel_rfl) (by kernel_rfl) (by kernel_rfl) (fun _ _ _ h => h) inv (Or.inl ⟨by rfl, ?_⟩) (fun _ => hS) (fun inv2 => ?_)
      rotate_left
      · intro w _
        go_simp
        try with_reducible rfl
      clear inv
      have inv := inv2
      clear inv2
      try simp only [Act.put, nrmA, nrmB, nrmC]
      refine wpAnyE_late (i := 12) rfl (by kernel_rfl) inv (by kernel_rfl) (fun K hK => ?_)
      go_simp
      refine hK.out _ _ (fun inv2 => ?_)
      clear hK K
      clear inv
      have inv := inv2
      clear inv2
      try simp only [Act.put, nrmA, nrmB, nrmC]
      refine wpAnyE_done (by kernel_rfl) ?_ _
      clear inv
      clear s0 fz5 hS
      generalize World.setCell w5 _ _ = w6 at *
      have hu := kept_box HMW.out (HX11.out.get 1 rfl) (HX11.out.bx _ (List.mem_of_getElem? (i := 1) rfl)).2 HNL.out HAD5.out.2.1
      have hv := kept_box HMW.out (show BoxV _ Q #[.int .i64 q.src, .int .i64 q.dst, .int .i64 q.sport, .int .i64 q.dport] from HX11.out.get 3 rfl) (HX11.out.bx _ (List.mem_of_getElem? (i := 3) rfl)).2 (by show W.heap.size ≤ Q; omega) HAD5.out.2.1
      have hb3 := kept_box HMW.out (HX11.out.get 8 rfl) (HX11.out.bx _ (List.mem_of_getElem? (i := 8) rfl)).2 (by show W.heap.size ≤ W.heap.size + 1 + 1 + 1; omega) HAD5.out.2.1
      have hlt3 := (HX11.out.bx _ (List.mem_of_getElem? (i := 8) rfl)).2
      obtain ⟨u0, u1⟩ : w6.cell? ⟨NP, 0, none⟩ = some (.int .i64 t1) ∧ w6.cell? ⟨NP, 1, none⟩ = some (.int .i64 t2) := ⟨hu.1 0 _ rfl, hu.1 1 _ rfl⟩
      obtain ⟨v0, v1, v2, v3⟩ := cells4 hv
      clear hu hv
      have HMD := hide (fun (cs : List Value) (e : Ending) (he : e = .returned (HandS.val ⟨0, (t1, t2), q, .nothing⟩)) => mind_done (N := W.heap.size + 1 + 1 + 1) (cs := cs) HMW.out HX11.out.bl HAD5.out.1 HAD5.out.2.1 HAD5.out.2.2 (by omega) hlt3 he)
      clear hlt3
      go_wp2_with ((with_reducible show wpList _ _ _ (⟨none, .store 43 (.tmp 8) _, _, _, _, _⟩ :: _) _ _); refine wpList_store_mid rfl 43 (.tmp 8) (.tmp 298) rfl (W.heap.size + 1 + 1 + 1) 0 #[.int .i64 t1, .int .i64 t2, .int .i64 q.src, .int .i64 q.dst, .int .i64 q.sport, .int .i64 q.dport] rfl rfl (hb3.there (Nat.le_refl _)) info_arrival (by simp [Value.oneCell']) ?_)
      have hx7 := hb3.all [.int .i64 t1, .int .i64 t2, .int .i64 q.src, .int .i64 q.dst, .int .i64 q.sport, .int .i64 q.dport] rfl
      have HMD7 := hide (HMD.out [.int .i64 t1, .int .i64 t2, .int .i64 q.src, .int .i64 q.dst, .int .i64 q.sport, .int .i64 q.dport] _ rfl)
      clear hb3 HMD
      generalize World.setCells _ _ _ _ = w7 at *
      obtain ⟨z0, z1, z2, z3, z4, z5⟩ : w7.cell? ⟨W.heap.size + 1 + 1 + 1, 0, none⟩ = some (.int .i64 t1) ∧ w7.cell? ⟨W.heap.size + 1 + 1 + 1, 1, none⟩ = some (.int .i64 t2) ∧ w7.cell? ⟨W.heap.size + 1 + 1 + 1, 2, none⟩ = some (.int .i64 q.src) ∧ w7.cell? ⟨W.heap.size + 1 + 1 + 1, 3, none⟩ = some (.int .i64 q.dst) ∧ w7.cell? ⟨W.heap.size + 1 + 1 + 1, 4, none⟩ = some (.int .i64 q.sport) ∧ w7.cell? ⟨W.heap.size + 1 + 1 + 1, 5, none⟩ = some (.int .i64 q.dport) :=
        ⟨hx7.1 0 _ rfl, hx7.1 1 _ rfl, hx7.1 2 _ rfl, hx7.1 3 _ rfl, hx7.1 4 _ rfl, hx7.1 5 _ rfl⟩
      refine bodyPost_ret (v := .tuple #[.agg #[.int .i64 t1, .int .i64 t2, .int .i64 q.src, .int .i64 q.dst, .int .i64 q.sport, .int .i64 q.dport], .int .i64 0]) (by simp [results, Try.f14, go_sem, z0, z1, z2, z3, z4, z5]) rfl ?_
      rw [HS.out, HA2.out]
      exact HMD7.out
end Go.Proofs.Ythaiffjalgionaa
