/- wirekeep.StepCopies. -/
import Derived.Test.YtidikopjfpioaaaLawTwo
import Derived.Test.YtidikopjfpioaaaLawFB
set_option linter.unusedVariables false
set_option linter.unusedSimpArgs false
namespace Go.Proofs.Ytidikopjfpioaaa
open Go.RowKit Go.Maps

def fireV (A : Option Addr) (n c : Nat) (R : List RuleV) : DevV := ⟨⟨#[]⟩, 3, 0, 0, none, 0, 0, [], A, n, c, R, none, 0, 0, []⟩
theorem fireAt {w : World} {B : Nat} {A : Option Addr} {n c : Nat} {R : List RuleV} (h : RulesAt w B A n R) (hc : n ≤ c ∧ c ≤ maxLen) : DevAt w B (fireV A n c R) :=
  ⟨Nat.zero_le _, by simp [fireV, i64ok], by simp [fireV, i64ok], by simp [fireV], ⟨rfl, fun x hx => by simp [fireV] at hx, fun h0 => absurd h0 (Nat.lt_irrefl _)⟩, h, ⟨rfl, fun h0 => absurd h0 (Nat.lt_irrefl _)⟩, fun r hr => by simp [fireV] at hr, by simp [fireV], hc, by simp [fireV]⟩
theorem one_rule {w : World} {N B : Nat} (h : BoxV w N #[.bool true, .int .u16 65535, .int .u16 65535, .int .u8 255, .int .u8 255]) (hN : N < B) : RulesAt w B (some ⟨N, 0, none⟩) 1 [allR true] :=
  (show SlAt RuleV.cells 5 w B (some ⟨N, 0, none⟩) [allR true].length [allR true] from slAt_box RuleV.len h hN).rules (fun r hr => by
    obtain rfl := List.mem_singleton.1 hr
    exact allR_ok _)
theorem act_get {w : World} {B b o n k : Nat} {l : List ActV} {x : ActV} (h : SlAt ActV.cells 8 w B (some ⟨b, o, none⟩) n l) (hx : l[k]? = some x) : w.cell? ⟨b, o + k * 8, none⟩ = some (.int .i64 x.kind) ∧ w.cell? ⟨b, o + k * 8 + 1, none⟩ = some (.int .i64 x.dev) ∧ w.cell? ⟨b, o + k * 8 + 2, none⟩ = some (.int .i64 x.port) ∧ w.cell? ⟨b, o + k * 8 + 3, none⟩ = some (.int .i64 x.p.src) ∧ w.cell? ⟨b, o + k * 8 + 4, none⟩ = some (.int .i64 x.p.dst) ∧ w.cell? ⟨b, o + k * 8 + 5, none⟩ = some (.int .i64 x.p.sport) ∧ w.cell? ⟨b, o + k * 8 + 6, none⟩ = some (.int .i64 x.p.dport) ∧ w.cell? ⟨b, o + k * 8 + 7, none⟩ = some (.int .i64 x.ch) := by
  obtain ⟨_, hg⟩ := h.get hx
  exact ⟨hg 0 _ rfl, hg 1 _ rfl, hg 2 _ rfl, hg 3 _ rfl, hg 4 _ rfl, hg 5 _ rfl, hg 6 _ rfl, hg 7 _ rfl⟩

set_option maxRecDepth 100000 in
set_option maxHeartbeats 16000000 in
theorem stepCopies_walk (n : NetV) (A : Option Addr) (nl c : Nat) (l : List ActV) (C : Option Addr) (nm cm : Nat) (more : List ActV) (W : World) (hn : NetAt W W.heap.size n) (hl : SlAt ActV.cells 8 W W.heap.size A nl l) (hlo : ∀ r ∈ l, r.ok) (hlc : nl ≤ c ∧ c ≤ maxLen) (hm : SlAt ActV.cells 8 W W.heap.size C nm more) (hmo : ∀ r ∈ more, r.ok) (hmc : nm ≤ cm ∧ cm ≤ maxLen) :
    Calls Try.prog 11 #[n.val, .slice A nl c, .slice C nm cm] W fun e W' => e = .returned (.bool true) ∧ Below W.heap.size W W' := by
  have HNA := hide (fun (w' : World) (hb : Below W.heap.size W w') => show NetAt w' w'.heap.size n from hn.below hb hb.size)
  have HL := hide (fun (w' : World) (hb : Below W.heap.size W w') => hl.below hb hb.size)
  have HLN := hide hl.1
  have HLO := hide hlo
  have HM := hide (fun (w' : World) (hb : Below W.heap.size W w') => hm.below hb hb.size)
  have HMN := hide hm.1
  have HMO := hide hmo
  have n3 : nl ≤ 9223372036854775807 := by have := hlc.1; have := hlc.2; unfold maxLen at *; omega
  have n4 : nm ≤ 9223372036854775807 := by have := hmc.1; have := hmc.2; unfold maxLen at *; omega
  have hc1 := hlc.1
  have hc2 := hmc.1
  clear hn hl hlo hlc hm hmo hmc
  show Calls _ _ #[.agg #[.slice n.dA n.dn n.dc, .slice n.lA n.ln n.lc], _, _] W _
  go_enter Try.func11, Try.ntmps11
  go_wp2_with fail
  generalize hG : World.alloc W _ = W1
  have HX1 := hide (show BX W [(W.heap.size, #[.slice n.dA n.dn n.dc, .slice n.lA n.ln n.lc])] W1 from by
    have e := boxesV (B := W1.heap.size) [(#[.slice n.dA n.dn n.dc, .slice n.lA n.ln n.lc], 25)] W (W' := W1) (by rw [← hG]; exact Below.refl _ _)
    have hs : W1.heap.size = W.heap.size + 1 := by rw [← hG]; simp
    refine ⟨e.2 (by omega), fun x hx => ?_⟩
    obtain rfl := List.mem_singleton.1 hx
    exact ⟨e.1 0 _ _ rfl (by omega), by simp; omega⟩)
  clear hG
  refine (allRule_walk true W1).mono ?_
  rintro e w2 ⟨rfl, hb⟩
  have HX2 := hide (HX1.out.below hb)
  clear hb HX1
  have hx3 := BoxV.new w2 #[.bool true, .int .u16 65535, .int .u16 65535, .int .u8 255, .int .u8 255] 105
  have hb3 : Below w2.heap.size w2 (w2.alloc (.cells #[.bool true, .int .u16 65535, .int .u16 65535, .int .u8 255, .int .u8 255] 105)) := (Below.refl _ _).alloc (Nat.le_refl _) _
  have hl3 : w2.heap.size < (w2.alloc (.cells #[.bool true, .int .u16 65535, .int .u16 65535, .int .u8 255, .int .u8 255] 105)).heap.size := by simp
  have HX3 := hide (HX2.out.below hb3)
  have HCW := hide (chain_walk (fireV (some ⟨w2.heap.size, 0, none⟩) 1 1 [allR true]) _ (fireAt (one_rule hx3 hl3) ⟨Nat.le_refl _, show 1 ≤ maxLen by unfold maxLen; omega⟩))
  clear hx3 hb3 hl3 HX2
  go_wp2_with fail
  refine HCW.out.mono ?_
  clear HCW
  rintro e w4 ⟨m, rfl, hm, hmd, hml, hb⟩
  have HX4 := hide (HX3.out.below hb)
  have HNW := hide (stepNew_ok m w4 hm (by rw [hmd, hml]; exact fire_net [allR true] (by simp)))
  clear hm hb HX3 hmd hml
  go_wp2_with fail
  refine HNW.out.mono ?_
  clear HNW
  rintro e w5 ⟨g, f, o, b, m', rfl, hM, _, _, _, hb⟩
  have HX5 := hide (HX4.out.below hb)
  have HCP := hide (memCopy_walk g m' f o b MS.empty 0 w5 hM)
  clear hb hM HX4
  go_wp2_with fail
  refine HCP.out.mono ?_
  clear HCP
  rintro e w6 ⟨g', f', o', b', rfl, _, _, hb⟩
  have HX6 := hide (HX5.out.below hb)
  clear hb HX5
  obtain ⟨c0, c1⟩ : w6.cell? ⟨W.heap.size, 0, none⟩ = some (.slice n.dA n.dn n.dc) ∧ w6.cell? ⟨W.heap.size, 1, none⟩ = some (.slice n.lA n.ln n.lc) := ⟨(HX6.out.get 0 rfl).1 0 _ rfl, (HX6.out.get 0 rfl).1 1 _ rfl⟩
  by_cases hE : netE n.devs n.ls = 0
  case neg =>
    obtain ⟨E, hEE⟩ : ∃ E, netE n.devs n.ls = E := ⟨_, rfl⟩
    have HNW := hide (fun (w' : World) (h : NetAt w' w'.heap.size n) => stepNew_bad n w' h hE)
    rw [hEE] at HNW hE
    clear hEE
    have e1 : (E == 0) = false := by simpa using hE
    have e2 : (E != 0) = true := by simpa using hE
    clear hE
    go_wp2_with fail
    refine (HNW.out w6 (HNA.out _ HX6.out.bl)).mono ?_
    rintro e w7 ⟨rfl, hb⟩
    have HX7 := hide (HX6.out.below hb)
    clear hb HX6 c0 c1
    obtain ⟨c0, c1⟩ : w7.cell? ⟨W.heap.size, 0, none⟩ = some (.slice n.dA n.dn n.dc) ∧ w7.cell? ⟨W.heap.size, 1, none⟩ = some (.slice n.lA n.ln n.lc) := ⟨(HX7.out.get 0 rfl).1 0 _ rfl, (HX7.out.get 0 rfl).1 1 _ rfl⟩
    go_wp2_with fail
    refine (HNW.out w7 (HNA.out _ HX7.out.bl)).mono ?_
    rintro e w8 ⟨rfl, hb⟩
    have HX8 := hide (HX7.out.below hb)
    clear hb HX7 c0 c1 HNW
    go_wp2
    go_ret
    exact ⟨ret_bool (by simp), HX8.out.bl⟩
  have HE := hide hE
  have HNW := hide (fun (w' : World) (h : NetAt w' w'.heap.size n) => stepNew_ok n w' h HE.out)
  clear hE
  go_wp2_with fail
  refine (HNW.out w6 (HNA.out _ HX6.out.bl)).mono ?_
  clear c0 c1
  rintro e w7 ⟨ga, fa, oa, ba, na, rfl, hMa, hda, hla, ⟨_, ha1, ha2, ha3⟩, hb1⟩
  have HX7 := hide (HX6.out.below hb1)
  have HMa := hide hMa
  have HB1 := hide hb1
  have HA := hide (And.intro ha1 (And.intro ha2 ha3))
  have HNa := hide (show na.devs = n.devs ∧ na.ls = n.ls from ⟨hda, hla⟩)
  clear hMa hb1 ha1 ha2 ha3 hda hla
  obtain ⟨c0, c1⟩ : w7.cell? ⟨W.heap.size, 0, none⟩ = some (.slice n.dA n.dn n.dc) ∧ w7.cell? ⟨W.heap.size, 1, none⟩ = some (.slice n.lA n.ln n.lc) := ⟨(HX7.out.get 0 rfl).1 0 _ rfl, (HX7.out.get 0 rfl).1 1 _ rfl⟩
  go_wp2_with fail
  refine (HNW.out w7 (HNA.out _ HX7.out.bl)).mono ?_
  clear c0 c1
  rintro e w8 ⟨gb, fb, ob, bb, nb, rfl, hMb, hdb, hlb, ⟨_, hb1, hb2, hb3⟩, hbb⟩
  have HF0 := hide (F2.new HX6.out HMa.out HA.out HB1.out hMb ⟨hb1, hb2, hb3⟩ hbb)
  have HNb := hide (show nb.devs = n.devs ∧ nb.ls = n.ls from ⟨hdb, hlb⟩)
  clear hMb hdb hlb hb1 hb2 hb3 hbb HMa HB1 HA HX7 HX6 HNW HNA
  -- R6
  by_cases hl40 : 40 < nl
  case pos =>
    have h1 : (40 : Int) < (nl : Int) := by omega
    go_wp2
    go_ret
    exact ⟨ret_bool (by simp), HF0.out.box.bl⟩
  have d1 : decide ((40 : Int) < (nl : Int)) = false := by simp; omega
  by_cases hm40 : 40 < nm
  case pos =>
    have h1 : (40 : Int) < (nm : Int) := by omega
    go_wp2
    go_ret
    exact ⟨ret_bool (by simp), HF0.out.box.bl⟩
  have d2 : decide ((40 : Int) < (nm : Int)) = false := by simp; omega
  go_wp2_with fail
  clear d1 d2
  -- LOOP1
  go_loopw [69] (fun i wr => ∃ (k : Nat) (M : MS), k ≤ nl ∧ i = .int .i64 k ∧ Hid (F2 W [(W.heap.size, #[.slice n.dA n.dn n.dc, .slice n.lA n.ln n.lc])] ga na fa oa ba gb nb fb ob bb M M (2 * k) wr)) (fun i _ => nl - (intOf i).toNat)
  case atStart => exact ⟨0, MS.empty, Nat.zero_le _, rfl, HF0⟩
  case round =>
    clear HF0
    obtain ⟨k, M, hk, rfl, HF⟩ := hrel
    by_cases hlt : k < nl
    case pos =>
      obtain ⟨x, hx⟩ : ∃ x, l[k]? = some x := ⟨_, List.getElem?_eq_getElem (by have := HLN.out; omega)⟩
      have hsl := HL.out _ HF.out.box.bl
      obtain ⟨bA, oA, rfl, hbB, _⟩ := hsl.2 (by omega)
      obtain ⟨q0, q1, q2, q3, q4, q5, q6, q7⟩ := act_get hsl hx
      have HXK := hide (HLO.out x (List.mem_of_getElem? hx))
      clear hx hsl hbB
      go_wp2_with fail
      have HF1 := hide (HF.out.al #[.int .i64 x.kind, .int .i64 x.dev, .int .i64 x.port, .int .i64 x.p.src, .int .i64 x.p.dst, .int .i64 x.p.sport, .int .i64 x.p.dport, .int .i64 x.ch] 114)
      obtain ⟨N, hN⟩ : ∃ N, wr.heap.size = N := ⟨_, rfl⟩
      rw [hN] at HF1
      rw [hN]
      clear hN HF q0 q1 q2 q3 q4 q5 q6 q7
      generalize World.alloc wr _ = w9 at *
      refine (act_walk ga na fa oa ba M (2 * k) x w9 HF1.out.a (by rw [HNa.out.1, HNa.out.2]; exact HE.out) HXK.out (by omega)).mono ?_
      rintro e w10 ⟨rfl, hm, hn⟩
      have HF2 := hide (HF1.out.stepA hm hn (Nat.le_succ _))
      clear hm hn HF1
      obtain ⟨b0, b1, b2, b3, b4, b5, b6, b7⟩ := cells8 (HF2.out.box.get 0 rfl)
      go_wp2_with fail
      refine (act_walk gb nb fb ob bb M (2 * k + 1) x w10 HF2.out.b (by rw [HNb.out.1, HNb.out.2]; exact HE.out) HXK.out (by omega)).mono ?_
      rintro e w11 ⟨rfl, hm, hn⟩
      have HF3 := hide (show F2 W [(W.heap.size, #[.slice n.dA n.dn n.dc, .slice n.lA n.ln n.lc])] ga na fa oa ba gb nb fb ob bb (actS n.devs n.ls M x) (actS n.devs n.ls M x) (2 * k + 1 + 1) w11 from by
        have q := (HF2.out.stepB hm hn (Nat.le_succ _)).less
        rw [HNa.out.1, HNa.out.2, HNb.out.1, HNb.out.2] at q
        exact q)
      clear hm hn HF2 b0 b1 b2 b3 b4 b5 b6 b7
      go_wp2
      go_roundw
      case rel => exact ⟨k + 1, _, by omega, by go_num, hide (HF3.out.up (by omega))⟩
      case measure => simp [intOf]; omega
    obtain rfl : k = nl := by omega
    have HCP := hide (memCopy_walk ga na fa oa ba M (2 * k) wr HF.out.a)
    go_wp2_with fail
    refine HCP.out.mono ?_
    clear HCP
    rintro e w9 ⟨gc, fc, oc, bc, rfl, hMc, ⟨_, h1, h2, h3⟩, hb⟩
    have HD := hide (show (∀ j, Is3 fc oc bc j → W.heap.size ≤ j) ∧ (∀ x ∈ ([(W.heap.size, #[.slice n.dA n.dn n.dc, .slice n.lA n.ln n.lc])] : List (Nat × Array Value)), ¬ Is3 fc oc bc x.1) ∧ (∀ j, Is3 fa oa ba j → ¬ Is3 fc oc bc j) ∧ (∀ j, Is3 fb ob bb j → ¬ Is3 fc oc bc j) from by
      have s1 := HF.out.box.bl.size
      have s2 := HF.out.lts
      refine ⟨fun j hj => by rcases hj with e | e | e <;> omega, fun x hx hj => ?_, fun j ha hj => ?_, fun j ha hj => ?_⟩
      · have := (HF.out.box.bx x hx).2
        rcases hj with e | e | e <;> omega
      · have := s2 j (Or.inl ha)
        rcases hj with e | e | e <;> omega
      · have := s2 j (Or.inr ha)
        rcases hj with e | e | e <;> omega)
    have HFc := hide (HF.out.below hb)
    have HMc := hide hMc
    clear h1 h2 h3 hb hMc HF
    go_wp2_with fail
    -- LOOP2
    go_loopw [84] (fun i wr => ∃ (j : Nat) (Mc : MS), j ≤ nm ∧ i = .int .i64 j ∧ Hid (F2 W [(W.heap.size, #[.slice n.dA n.dn n.dc, .slice n.lA n.ln n.lc])] ga na fa oa ba gb nb fb ob bb M M (2 * k) wr) ∧ Hid (MemAt wr gc na fc oc bc Mc (2 * k + j))) (fun i _ => nm - (intOf i).toNat)
    case atStart => exact ⟨0, M, Nat.zero_le _, rfl, HFc, HMc⟩
    case round =>
      clear HFc HMc hlt hk
      obtain ⟨j, Mc, hj, rfl, HF, HMc⟩ := hrel
      by_cases hlt : j < nm
      case pos =>
        obtain ⟨x, hx⟩ : ∃ x, more[j]? = some x := ⟨_, List.getElem?_eq_getElem (by have := HMN.out; omega)⟩
        have hsl := HM.out _ HF.out.box.bl
        obtain ⟨bA, oA, rfl, hbB, _⟩ := hsl.2 (by omega)
        obtain ⟨q0, q1, q2, q3, q4, q5, q6, q7⟩ := act_get hsl hx
        have HXK := hide (HMO.out x (List.mem_of_getElem? hx))
        clear hx hsl hbB
        go_wp2_with fail
        have hba : Below wr.heap.size wr (wr.alloc (.cells #[.int .i64 x.kind, .int .i64 x.dev, .int .i64 x.port, .int .i64 x.p.src, .int .i64 x.p.dst, .int .i64 x.p.sport, .int .i64 x.p.dport, .int .i64 x.ch] 114)) := (Below.refl _ _).alloc (Nat.le_refl _) _
        have HF1 := hide (HF.out.below hba)
        have HM1 := hide (HMc.out.below hba)
        clear hba HF HMc q0 q1 q2 q3 q4 q5 q6 q7
        generalize World.alloc wr _ = w10 at *
        refine (act_walk gc na fc oc bc Mc (2 * k + j) x w10 HM1.out (by rw [HNa.out.1, HNa.out.2]; exact HE.out) HXK.out (by omega)).mono ?_
        rintro e w11 ⟨rfl, hm, hn⟩
        have HF2 := hide (HF1.out.third HM1.out hn HD.out.1 HD.out.2.1 HD.out.2.2.1 HD.out.2.2.2)
        have HM2 := hide hm
        clear hm hn HF1 HM1
        go_wp2
        go_roundw
        case rel => exact ⟨j + 1, _, by omega, by go_num, HF2, HM2⟩
        case measure => simp [intOf]; omega
      obtain rfl : j = nm := by omega
      clear HMc HD hlt hj
      go_wp2_with fail
      -- LOOP3
      go_loopw [94] (fun i wr => ∃ (j2 : Nat) (M : MS), j2 ≤ j ∧ i = .int .i64 j2 ∧ Hid (F2 W [(W.heap.size, #[.slice n.dA n.dn n.dc, .slice n.lA n.ln n.lc])] ga na fa oa ba gb nb fb ob bb M M (2 * k + 2 * j2) wr)) (fun i _ => j - (intOf i).toNat)
      case atStart => exact ⟨0, M, Nat.zero_le _, rfl, HF⟩
      case round =>
        clear HF
        obtain ⟨i, M, hj, rfl, HF⟩ := hrel
        by_cases hlt : i < j
        case neg =>
          go_wp2
          go_ret
          exact ⟨ret_bool (by simp), HF.out.box.bl⟩
        obtain ⟨x, hx⟩ : ∃ x, more[i]? = some x := ⟨_, List.getElem?_eq_getElem (by have := HMN.out; omega)⟩
        have hsl := HM.out _ HF.out.box.bl
        obtain ⟨bA, oA, rfl, hbB, _⟩ := hsl.2 (by omega)
        obtain ⟨q0, q1, q2, q3, q4, q5, q6, q7⟩ := act_get hsl hx
        have HXK := hide (HMO.out x (List.mem_of_getElem? hx))
        clear hx hsl hbB
        obtain ⟨S, hS⟩ : ∃ S, handS n.devs n.ls M x.dev x.port x.p x.ch = S := ⟨_, rfl⟩
        have HHA := hide (fun (w' : World) (k' : Nat) (hk' : k' < 1000000) (h : MemAt w' ga na fa oa ba M k') => hand_walk ga na fa oa ba M k' x.dev x.port x.p x.ch w' h (by rw [HNa.out.1, HNa.out.2]; exact HE.out) HXK.out.d HXK.out.y HXK.out.p HXK.out.c hk')
        have HHB := hide (fun (w' : World) (k' : Nat) (hk' : k' < 1000000) (h : MemAt w' gb nb fb ob bb M k') => hand_walk gb nb fb ob bb M k' x.dev x.port x.p x.ch w' h (by rw [HNb.out.1, HNb.out.2]; exact HE.out) HXK.out.d HXK.out.y HXK.out.p HXK.out.c hk')
        rw [HNa.out.1, HNa.out.2, hS] at HHA
        rw [HNb.out.1, HNb.out.2, hS] at HHB
        clear hS
        obtain ⟨Se, ⟨St1, St2⟩, ⟨Sa, Sb, Sc, Sd⟩, Sk⟩ := S
        simp only [HandS.val] at HHA HHB
        go_wp2_with fail
        have HF1 := hide (HF.out.al #[.int .i64 x.kind, .int .i64 x.dev, .int .i64 x.port, .int .i64 x.p.src, .int .i64 x.p.dst, .int .i64 x.p.sport, .int .i64 x.p.dport, .int .i64 x.ch] 114)
        obtain ⟨N, hN⟩ : ∃ N, wr.heap.size = N := ⟨_, rfl⟩
        rw [hN] at HF1
        rw [hN]
        clear hN HF q0 q1 q2 q3 q4 q5 q6 q7
        generalize World.alloc wr _ = w10 at *
        refine (HHA.out w10 _ (by omega) HF1.out.a).mono ?_
        rintro e w11 ⟨rfl, hm, hn⟩
        have HF2 := hide (HF1.out.stepA hm hn (Nat.le_succ _))
        clear hm hn HF1 HHA
        have hq := fun (o' : Obj) => cells8 ((HF2.out.below ((Below.refl _ _).alloc (Nat.le_refl _) o')).box.get 0 rfl)
        have b1 := fun (o' : Obj) => (hq o').2.1
        have b2 := fun (o' : Obj) => (hq o').2.2.1
        have b3 := fun (o' : Obj) => (hq o').2.2.2.1
        have b4 := fun (o' : Obj) => (hq o').2.2.2.2.1
        have b5 := fun (o' : Obj) => (hq o').2.2.2.2.2.1
        have b6 := fun (o' : Obj) => (hq o').2.2.2.2.2.2.1
        have b7 := fun (o' : Obj) => (hq o').2.2.2.2.2.2.2
        clear hq
        go_wp2_with fail
        have HF3 := hide (HF2.out.al #[.int .i64 St1, .int .i64 St2, .int .i64 Sa, .int .i64 Sb, .int .i64 Sc, .int .i64 Sd] 91)
        obtain ⟨N1, hN1⟩ : ∃ N1, w11.heap.size = N1 := ⟨_, rfl⟩
        rw [hN1] at HF3
        rw [hN1]
        clear hN1 HF2 b1 b2 b3 b4 b5 b6 b7
        generalize World.alloc w11 _ = w12 at *
        refine (HHB.out w12 _ (by omega) HF3.out.b).mono ?_
        rintro e w13 ⟨rfl, hm, hn⟩
        have HF4 := hide (HF3.out.stepB hm hn (Nat.le_succ _))
        clear hm hn HF3 HHB
        have hq := fun (o' : Obj) => (cells6 ((HF4.out.below ((Below.refl _ _).alloc (Nat.le_refl _) o')).box.get 0 rfl)).1
        have z0 := fun (o' : Obj) => (hq o').1
        have z1 := fun (o' : Obj) => (hq o').2.1
        have z2 := fun (o' : Obj) => (hq o').2.2.1
        have z3 := fun (o' : Obj) => (hq o').2.2.2.1
        have z4 := fun (o' : Obj) => (hq o').2.2.2.2.1
        have z5 := fun (o' : Obj) => (hq o').2.2.2.2.2
        clear hq
        have hba : Below w13.heap.size w13 (w13.alloc (.cells #[.int .i64 St1, .int .i64 St2, .int .i64 Sa, .int .i64 Sb, .int .i64 Sc, .int .i64 Sd] 91)) := (Below.refl _ _).alloc (Nat.le_refl _) _
        have HF5 := hide (HF4.out.below hba).less.less
        have n1 : N1 ≠ w13.heap.size := by have := (HF4.out.box.bx _ (List.mem_of_getElem? (i := 0) rfl)).2; simp only at this; omega
        clear hba HF4
        go_wp2
        go_roundw
        case rel => exact ⟨i + 1, _, by omega, by go_num, hide (HF5.out.up (by omega))⟩
        case measure => simp [intOf]; omega
end Go.Proofs.Ytidikopjfpioaaa
