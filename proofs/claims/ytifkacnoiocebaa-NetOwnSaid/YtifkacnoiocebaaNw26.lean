/- A part of the proof: No7. -/
import Derived.Test.YtifkacnoiocebaaNw21
import Derived.Test.YtifkacnoiocebaaNw25
set_option linter.unusedVariables false
set_option linter.unusedSimpArgs false
set_option maxRecDepth 100000
set_option maxHeartbeats 16000000
namespace Go.Proofs.Ytifkacnoiocebaa
open Go.Maps Go.RowKit
theorem NetOn.blk {L : Nat} {n : NetV} (h : NetOn L n) (q : Nat) (hq : NetBlk n q) : L ≤ q := NetLo.blk (L := L) ⟨h.d, h.l, h.o⟩ q hq
theorem chkE_bad2 {nm : ByteArray} {ds : List Dev} {ls : List LinkV} (hC : netE ds ls ≠ 0) : chkE nm ds ls = netE ds ls := by
  unfold chkE
  rw [if_neg hC]
theorem Try.sizeArr : (Try.prog.info? 47).map (·.size) = some 6 := by kernel_rfl
structure NetFits (n : NetV) : Prop where
  d : n.dn * 112 ≤ 140737488355328
  l : n.ln * 32 ≤ 140737488355328
  o : ∀ d ∈ n.ds, d.bn * 8 ≤ 140737488355328 ∧ d.rn * 8 ≤ 140737488355328 ∧ d.tn * 24 ≤ 140737488355328
structure Two (S : Nat) (n m : NetV) (w : World) : Prop where
  s : NetSame w w.heap.size m n
  o : OwnNet w 0 m
theorem Two.below {S : Nat} {n m : NetV} {w w' : World} (h : Two S n m w) (hb : Below w.heap.size w w') : Two S n m w' := ⟨h.s.below hb hb.size, h.o.below hb⟩
theorem netOwn_bad (n : NetV) (A : Option Addr) (nl c : Nat) (l : List ActV) (nm : ByteArray) (W : World) (hn : NetAt W W.heap.size n) (hft : NetFits n) (hl : SlAt ActV.cells 8 W W.heap.size A nl l) (hlo : ∀ r ∈ l, r.ok) (hlc : nl ≤ c ∧ c ≤ maxLen) (hE : netE n.devs n.ls ≠ 0) :
    Calls Try.prog 3 #[n.val, .slice A nl c, .string nm] W fun e W' => e = .returned (.bool true) ∧ Below W.heap.size W W' := by
  have HE := hide hE
  clear hE
  have HNA := hide (fun (w' : World) (hb : Below W.heap.size W w') => show NetAt w' w'.heap.size n from hn.below hb hb.size)
  have HON := hide (net_on_below hn)
  have HL := hide (fun (w' : World) (hb : Below W.heap.size W w') => hl.below hb hb.size)
  have HLN := hide hl.1
  have HLO := hide hlo
  have n3 : nl ≤ 9223372036854775807 := by have := hlc.1; have := hlc.2; unfold maxLen at *; omega
  have hc1 := hlc.1
  have HFT := hide hft
  clear hn hl hlo hlc hft
  show Calls _ _ #[.agg #[.slice n.dA n.dn n.dc, .slice n.lA n.ln n.lc], _, _] W _
  go_enter Try.func3, Try.ntmps3
  go_wp2_with fail
  have HB1 := hide (below_alloc2 W (.cells #[.slice n.dA n.dn n.dc, .slice n.lA n.ln n.lc] 25))
  have HX := hide (Bx.new W #[.slice n.dA n.dn n.dc, .slice n.lA n.ln n.lc] 25)
  generalize World.alloc W _ = w1 at *
  refine (running_walk w1).mono ?_
  rintro e w2 ⟨rfl, hb⟩
  have HB2 := hide (HB1.out.trans (hb.mono HB1.out.size))
  have HX' := hide (HX.out.below hb)
  clear hb HB1 HX
  have HX := HX'
  clear HX'
  have c0 := HX.out.get 0 _ rfl
  have c1 := HX.out.get 1 _ rfl
  go_wp2_with fail
  refine (copied_walk n w2 (HNA.out _ HB2.out) HFT.out.d HFT.out.l HFT.out.o).mono ?_
  clear c0 c1
  rintro e w3 ⟨m, rfl, hm, hmd, hml, hb, hon, hown⟩
  have HT := hide (show Two 0 n m w3 from ⟨⟨hm, HNA.out _ (HB2.out.trans (hb.mono HB2.out.size)), hmd, hml⟩, hown⟩)
  have HMD := hide (And.intro hmd hml)
  have HMO := hide (show ∀ q, NetBlk m q → W.heap.size ≤ q from fun q hq => Nat.le_trans HB2.out.size (hon.blk q hq))
  have HB3 := hide (HB2.out.trans (hb.mono HB2.out.size))
  have HX' := hide ((HX.out.below hb).below (below_alloc2 w3 (.cells #[.slice m.dA m.dn m.dc, .slice m.lA m.ln m.lc] 25)))
  have HT' := hide (HT.out.below (below_alloc2 w3 (.cells #[.slice m.dA m.dn m.dc, .slice m.lA m.ln m.lc] 25)))
  have HY := hide (Bx.new w3 #[.slice m.dA m.dn m.dc, .slice m.lA m.ln m.lc] 25)
  have HB4 := hide (HB3.out.trans ((below_alloc2 w3 (.cells #[.slice m.dA m.dn m.dc, .slice m.lA m.ln m.lc] 25)).mono HB3.out.size))
  clear hm hmd hml hb hon hown HX HT HB3 HB2
  have HX := HX'
  have HT := HT'
  clear HX' HT'
  simp only [NetV.val]
  go_wp2_with fail
  generalize World.alloc w3 _ = w4 at *
  generalize w3.heap.size = Y at *
  obtain ⟨E, hEE⟩ : ∃ E, netE n.devs n.ls = E := ⟨_, rfl⟩
  have HWM := hide (fun (w' : World) (h : NetAt w' w'.heap.size m) => worldNew_bad m w' h (by rw [HMD.out.1, HMD.out.2]; exact HE.out))
  have HWN := hide (fun (w' : World) (h : NetAt w' w'.heap.size n) => worldNew_bad n w' h HE.out)
  have HCK := hide (show chkE nm m.devs m.ls = E from by rw [HMD.out.1, HMD.out.2, ← hEE]; exact chkE_bad2 HE.out)
  rw [HMD.out.1, HMD.out.2, hEE] at HWM
  rw [hEE] at HWN HE
  clear hEE
  have e1 : (E == 0) = false := by simpa using HE.out
  have e2 : (E != 0) = true := by simpa using HE.out
  simp only [NetV.val] at HWM HWN
  refine (HWM.out w4 HT.out.s.ax).mono ?_
  clear HWM
  rintro e w5 ⟨rfl, hb⟩
  have HB5 := hide (HB4.out.trans (hb.mono HB4.out.size))
  have HX' := hide (HX.out.below hb)
  have HY' := hide (HY.out.below hb)
  have HT' := hide (HT.out.below hb)
  clear HX HY HT
  have HX := HX'
  have HY := HY'
  have HT := HT'
  clear HX' HY' HT'
  clear hb HB4
  have c0 := HX.out.get 0 _ rfl
  have c1 := HX.out.get 1 _ rfl
  go_wp2_with fail
  clear c0 c1
  refine (HWN.out w5 HT.out.s.ay).mono ?_
  clear HWN
  rintro e w6 ⟨rfl, hb⟩
  have HB6 := hide (HB5.out.trans (hb.mono HB5.out.size))
  have HX' := hide (HX.out.below hb)
  have HY' := hide (HY.out.below hb)
  have HT' := hide (HT.out.below hb)
  clear HX HY HT
  have HX := HX'
  have HY := HY'
  have HT := HT'
  clear HX' HY' HT'
  clear hb HB5
  have HSL := hide (sliceO_walk m nm w6 HT.out.s.ax)
  simp only [NetV.val] at HSL
  have c0 := HY.out.get 0 _ rfl
  have c1 := HY.out.get 1 _ rfl
  go_wp2_with fail
  clear c0 c1
  refine HSL.out.mono ?_
  clear HSL
  rintro e w7 ⟨hb, hsl⟩
  rcases hsl with ⟨_, rfl⟩ | ⟨h0, _⟩
  case inr => exact absurd (HCK.out.symm.trans h0) HE.out
  case inl =>
    have HB7 := hide (HB6.out.trans (hb.mono HB6.out.size))
    have HX' := hide (HX.out.below hb)
    have HY' := hide (HY.out.below hb)
    have HT' := hide (HT.out.below hb)
    clear HX HY HT
    have HX := HX'
    have HY := HY'
    have HT := HT'
    clear HX' HY' HT'
    clear hb HB6
    rw [HCK.out]
    have hbz := below_alloc2 w7 (.cells #[.slice none 0 0, .slice none 0 0] 25)
    have HX' := hide (HX.out.below hbz)
    have HY' := hide (HY.out.below hbz)
    have HT' := hide (HT.out.below hbz)
    have HZ := hide (Bx.new w7 #[.slice none 0 0, .slice none 0 0] 25)
    have HB8 := hide (HB7.out.trans (hbz.mono HB7.out.size))
    clear hbz HX HY HT HB7 HZ
    have HX := HX'
    have HY := HY'
    have HT := HT'
    clear HX' HY' HT'
    have c0 := fun o (ho : o = Obj.cells #[.slice none 0 0, .slice none 0 0] 25) => (show (w7.alloc o).cell? _ = _ from by subst ho; exact HY.out.get 0 _ rfl)
    have c1 := fun o (ho : o = Obj.cells #[.slice none 0 0, .slice none 0 0] 25) => (show (w7.alloc o).cell? _ = _ from by subst ho; exact HY.out.get 1 _ rfl)
    have c0 := HY.out.get 0 _ rfl
    have c1 := HY.out.get 1 _ rfl
    have c2 := HX.out.get 0 _ rfl
    have c3 := HX.out.get 1 _ rfl
    have HSN := hide (sameNet_walk m n _ HT.out.s)
    simp only [NetV.val] at HSN
    go_wp2_with fail
    clear c0 c1 c2 c3
    refine HSN.out.mono ?_
    clear HSN
    rintro e w9 ⟨rfl, hb⟩
    have HB9 := hide (HB8.out.trans (hb.mono HB8.out.size))
    clear hb HB8 HX HY HT
    go_wp2
    go_ret
    exact ⟨ret_bool (by simp), HB9.out⟩
theorem netOwn_good (n : NetV) (A : Option Addr) (nl c : Nat) (l : List ActV) (nm : ByteArray) (W : World) (hn : NetAt W W.heap.size n) (hft : NetFits n) (hl : SlAt ActV.cells 8 W W.heap.size A nl l) (hlo : ∀ r ∈ l, r.ok) (hlc : nl ≤ c ∧ c ≤ maxLen) (hE : netE n.devs n.ls = 0) :
    Calls Try.prog 3 #[n.val, .slice A nl c, .string nm] W fun e W' => e = .returned (.bool true) ∧ Below W.heap.size W W' := by
  have HE := hide hE
  clear hE
  have HNA := hide (fun (w' : World) (hb : Below W.heap.size W w') => show NetAt w' w'.heap.size n from hn.below hb hb.size)
  have HON := hide (net_on_below hn)
  have HL := hide (fun (w' : World) (hb : Below W.heap.size W w') => hl.below hb hb.size)
  have HLN := hide hl.1
  have HLO := hide hlo
  have n3 : nl ≤ 9223372036854775807 := by have := hlc.1; have := hlc.2; unfold maxLen at *; omega
  have hc1 := hlc.1
  have HFT := hide hft
  clear hn hl hlo hlc hft
  show Calls _ _ #[.agg #[.slice n.dA n.dn n.dc, .slice n.lA n.ln n.lc], _, _] W _
  go_enter Try.func3, Try.ntmps3
  go_wp2_with fail
  have HB1 := hide (below_alloc2 W (.cells #[.slice n.dA n.dn n.dc, .slice n.lA n.ln n.lc] 25))
  have HX := hide (Bx.new W #[.slice n.dA n.dn n.dc, .slice n.lA n.ln n.lc] 25)
  generalize World.alloc W _ = w1 at *
  refine (running_walk w1).mono ?_
  rintro e w2 ⟨rfl, hb⟩
  have HB2 := hide (HB1.out.trans (hb.mono HB1.out.size))
  have HX' := hide (HX.out.below hb)
  clear hb HB1 HX
  have HX := HX'
  clear HX'
  have c0 := HX.out.get 0 _ rfl
  have c1 := HX.out.get 1 _ rfl
  go_wp2_with fail
  refine (copied_walk n w2 (HNA.out _ HB2.out) HFT.out.d HFT.out.l HFT.out.o).mono ?_
  clear c0 c1
  rintro e w3 ⟨m, rfl, hm, hmd, hml, hb, hon, hown⟩
  have HT := hide (show Two 0 n m w3 from ⟨⟨hm, HNA.out _ (HB2.out.trans (hb.mono HB2.out.size)), hmd, hml⟩, hown⟩)
  have HMD := hide (And.intro hmd hml)
  have HMO := hide (show ∀ q, NetBlk m q → W.heap.size ≤ q from fun q hq => Nat.le_trans HB2.out.size (hon.blk q hq))
  have HB3 := hide (HB2.out.trans (hb.mono HB2.out.size))
  have HX' := hide ((HX.out.below hb).below (below_alloc2 w3 (.cells #[.slice m.dA m.dn m.dc, .slice m.lA m.ln m.lc] 25)))
  have HT' := hide (HT.out.below (below_alloc2 w3 (.cells #[.slice m.dA m.dn m.dc, .slice m.lA m.ln m.lc] 25)))
  have HY := hide (Bx.new w3 #[.slice m.dA m.dn m.dc, .slice m.lA m.ln m.lc] 25)
  have HB4 := hide (HB3.out.trans ((below_alloc2 w3 (.cells #[.slice m.dA m.dn m.dc, .slice m.lA m.ln m.lc] 25)).mono HB3.out.size))
  clear hm hmd hml hb hon hown HX HT HB3 HB2
  have HX := HX'
  have HT := HT'
  clear HX' HT'
  simp only [NetV.val]
  go_wp2_with fail
  generalize World.alloc w3 _ = w4 at *
  generalize w3.heap.size = Y at *
  have HM4 := hide HT.out
  have HWM := hide (worldNew_Q m w4 HT.out.s.ax (by rw [HMD.out.1, HMD.out.2]; exact HE.out))
  simp only [NetV.val] at HWM
  refine HWM.out.mono ?_
  clear HWM
  rintro e w5 ⟨g1, Fu, rfl, hb, hf1, hq⟩
  have HQ := hide hq
  have HF1 := hide (And.intro hf1 hb.size)
  have HB5 := hide (HB4.out.trans (hb.mono HB4.out.size))
  have HX' := hide (HX.out.below hb)
  have HY' := hide (HY.out.below hb)
  have HT' := hide (HT.out.below hb)
  clear HX HY HT
  have HX := HX'
  have HY := HY'
  have HT := HT'
  clear HX' HY' HT'
  clear hb hf1 hq
  have HWN := hide (worldNew_S n W w5 HB5.out.size HT.out.s.ay HON.out HE.out)
  simp only [NetV.val] at HWN
  have c0 := HX.out.get 0 _ rfl
  have c1 := HX.out.get 1 _ rfl
  go_wp2_with fail
  clear c0 c1
  refine HWN.out.mono ?_
  clear HWN
  rintro e w6 ⟨g2, Fv, rfl, hw6, hb, hf2⟩
  have HF2 := hide hf2
  have HBS := hide (And.intro hb hw6)
  have HB6 := hide (HB5.out.trans (hb.mono HB5.out.size))
  have HX' := hide (HX.out.below hb)
  have HY' := hide (HY.out.below hb)
  have HT' := hide (HT.out.below hb)
  clear HX HY HT
  have HX := HX'
  have HY := HY'
  have HT := HT'
  clear HX' HY' HT'
  clear hb HB5 hw6 hf2
  have HX6 := HX
  have HY6 := HY
  have HT6 := HT
  have HB6' := HB6
  have HBS6 := HBS
  have HSL := hide (sliceO_walk m nm w6 HT.out.s.ax)
  simp only [NetV.val] at HSL
  have c0 := HY.out.get 0 _ rfl
  have c1 := HY.out.get 1 _ rfl
  go_wp2_with fail
  clear c0 c1
  refine HSL.out.mono ?_
  clear HSL
  rintro e w7 ⟨hb, hsl⟩
  have HBS' := hide (And.intro (HBS.out.1.trans (hb.mono HBS.out.1.size)) (HBS.out.2.below hb))
  have HZ6 := hide hb.size
  have HB7 := hide (HB6.out.trans (hb.mono HB6.out.size))
  have HX' := hide (HX.out.below hb)
  have HY' := hide (HY.out.below hb)
  have HT' := hide (HT.out.below hb)
  clear HX HY HT
  have HX := HX'
  have HY := HY'
  have HT := HT'
  clear HX' HY' HT'
  have HB67 := hide hb
  clear hb HB6 HBS
  have HBS := HBS'
  clear HBS'
  rcases hsl with ⟨h0, rfl⟩ | ⟨h0, p, v, rfl, hp, ⟨hlo, hpo⟩, _⟩
  case inl =>
    as_aux_lemma =>
      obtain ⟨C, hC⟩ : ∃ C, chkE nm m.devs m.ls = C := ⟨_, rfl⟩
      rw [hC] at h0 ⊢
      clear hC
      have e1 : (C == 0) = false := by simpa using h0
      have hbz := below_alloc2 w7 (.cells #[.slice none 0 0, .slice none 0 0] 25)
      have HX' := hide (HX.out.below hbz)
      have HY' := hide (HY.out.below hbz)
      have HT' := hide (HT.out.below hbz)
      have HZ := hide (Bx.new w7 #[.slice none 0 0, .slice none 0 0] 25)
      have HB8 := hide (HB7.out.trans (hbz.mono HB7.out.size))
      have HBS' := hide (And.intro (HBS.out.1.trans (hbz.mono HBS.out.1.size)) (HBS.out.2.below hbz))
      clear hbz HX HY HT HB7 HZ HBS h0
      have HX := HX'
      have HY := HY'
      have HT := HT'
      have HBS := HBS'
      clear HX' HY' HT' HBS'
      have HSN := hide (sameNet_walk m n _ HT.out.s)
      simp only [NetV.val] at HSN
      have c0 := HY.out.get 0 _ rfl
      have c1 := HY.out.get 1 _ rfl
      have c2 := HX.out.get 0 _ rfl
      have c3 := HX.out.get 1 _ rfl
      go_wp2_with fail
      clear c0 c1 c2 c3
      refine HSN.out.mono ?_
      clear HSN
      generalize World.alloc w7 _ = w8 at *
      rintro e w9 ⟨rfl, hb⟩
      have HBS' := hide (And.intro (HBS.out.1.trans (hb.mono HBS.out.1.size)) (HBS.out.2.below hb))
      have HB9 := hide (HB8.out.trans (hb.mono HB8.out.size))
      have HX' := hide (HX.out.below hb)
      have HY' := hide (HY.out.below hb)
      have HT' := hide (HT.out.below hb)
      clear HX HY HT
      have HX := HX'
      have HY := HY'
      have HT := HT'
      clear HX' HY' HT'
      clear hb HB8 HBS
      have HBS := HBS'
      clear HBS'
      have HLT := hide (HM4.out.o.blk)
      have HSP := hide (spoil_walk m 0 w9 HT.out.o)
      simp only [NetV.val] at HSP
      have hst0 : stS n.devs n.ls l 0 = ⟨MemS.empty, []⟩ := rfl
      by_cases hl60 : 60 < nl
      case pos =>
        have h1 : (60 : Int) < (nl : Int) := by omega
        have HBF := hide (HB9.out)
        clear HSP HX HY HT HQ HBS
        go_wp2
        go_ret
        exact ⟨ret_bool (by simp), HBF.out⟩
      case neg =>
        have d1 : decide ((60 : Int) < (nl : Int)) = false := by simp; omega
        have hl61 : nl ≤ 60 := by omega
        clear hl60
        have c0 := HY.out.get 0 _ rfl
        have c1 := HY.out.get 1 _ rfl
        go_wp2_with fail
        clear c0 c1
        clear d1
        refine HSP.out.mono ?_
        clear HSP
        rintro e wz ⟨rfl, hnear, hod⟩
        have HP := hide (show L2 W (cutW wz w4.heap.size) Fu Fv g1 g2 n.devs n.ls (stS n.devs n.ls l 0) 0 (stS n.devs n.ls l 0) 0 wz from by
          have hs4 := HB4.out.size
          have h45 := HF1.out.2
          have h5w := HBS.out.1.size
          have hww := hnear.size
          have hcs : (cutW wz w4.heap.size).heap.size = w4.heap.size := cutW_size (by omega)
          have ha := HQ.out w9 wz (NetBlk m) HBS.out.1 hnear (fun j hj => HLT.out j hj) hod
          rw [HMD.out.1, HMD.out.2] at ha
          refine ⟨HB9.out.trans (hnear.below HB9.out.size (fun j hj => HMO.out j hj)), cutW_below (by omega), ha, (HBS.out.2).stay hnear (fun j hj => ⟨HMO.out j hj, fun e => ?_⟩), fun j e1 e2 => ?_, by rw [hcs]; exact hs4, fun j e => ?_⟩
          · have := HLT.out j hj
            have := HF2.out j e
            omega
          · have := (HF1.out.1 j e1).2
            have := HF2.out j e2
            omega
          · rw [hcs]
            have := HF2.out j e
            omega)
        clear hnear hod HX HY HT HQ HBS HLT hst0 HB9
        go_wp2_with fail
        go_loopw [66] (fun iv wr => ∃ (k : Nat) (Fa Fb : Nat → Prop), k ≤ nl ∧ iv = .int .i64 (k : Int) ∧ Hid (L2 W (cutW wz w4.heap.size) Fa Fb g1 g2 n.devs n.ls (stS n.devs n.ls l k) k (stS n.devs n.ls l k) k wr)) (fun iv _ => nl - (intOf iv).toNat)
        case atStart => exact ⟨0, Fu, Fv, Nat.zero_le _, rfl, HP⟩
        case round =>
          clear HP
          generalize cutW wz w4.heap.size = Wc at *
          obtain ⟨k, Fa, Fb, hk, rfl, HP⟩ := hrel
          by_cases hlt : k < nl
          case neg =>
            obtain rfl : nl = k := by omega
            obtain ⟨Z, hZ⟩ : ∃ Z, stS n.devs n.ls l nl = Z := ⟨_, rfl⟩
            rw [hZ] at HP
            clear hZ hlt
            have hzl : Z.S.length ≤ nl := HP.out.a.lk
            have HS1 := hide (seen_Q HP.out.a (by omega))
            go_wp2_with fail
            refine HS1.out.mono ?_
            clear HS1
            rintro e wb ⟨A1, cc1, rfl, _, hown1, hb1⟩
            have HPb := hide (HP.out.below hb1)
            have HS1 := hide (own_sl ArrV.len hown1 rfl)
            have HS2 := hide (seen_S HPb.out.b (by omega))
            clear hown1 hb1 HP
            go_wp2_with fail
            refine HS2.out.mono ?_
            clear HS2
            rintro e wc ⟨A2, cc2, rfl, _, hown2, hb2⟩
            have HEQ := hide (equalArr_yes Z.S A1 A2 Z.S.length cc1 cc2 wc (by omega) (HS1.out.below hb2 hb2.size) (own_sl ArrV.len hown2 rfl))
            have HBc := hide (HPb.out.bl.trans (hb2.mono HPb.out.bl.size))
            clear hown2 hb2 HPb HS1
            go_wp2_with fail
            refine HEQ.out.mono ?_
            clear HEQ
            rintro e wd ⟨rfl, hb3⟩
            have HBd := hide (HBc.out.trans (hb3.mono HBc.out.size))
            clear hb3 HBc
            go_wp2
            go_ret
            exact ⟨rfl, HBd.out⟩
          case pos =>
            obtain ⟨x, hx⟩ : ∃ x, l[k]? = some x := ⟨_, List.getElem?_eq_getElem (by have := HLN.out; omega)⟩
            have hsl := HL.out _ HP.out.bl
            obtain ⟨bA, oA, rfl, hbB, _⟩ := hsl.2 (by omega)
            obtain ⟨q0, q1, q2, q3, q4, q5, q6, q7⟩ := act_cells hsl hx
            have HXK := hide (HLO.out x (List.mem_of_getElem? hx))
            have HST := hide (stS_succ (ds := n.devs) (ls := n.ls) hx)
            clear hx hsl hbB
            go_wp2_with fail
            have HG := hide (HP.out.below (below_alloc2 wr (.cells #[.int .i64 x.kind, .int .i64 x.dev, .int .i64 x.port, .int .i64 x.p.src, .int .i64 x.p.dst, .int .i64 x.p.sport, .int .i64 x.p.dport, .int .i64 x.ch] 40)))
            have HBE := hide (Bx.new wr #[.int .i64 x.kind, .int .i64 x.dev, .int .i64 x.port, .int .i64 x.p.src, .int .i64 x.p.dst, .int .i64 x.p.sport, .int .i64 x.p.dport, .int .i64 x.ch] 40)
            have HNF := hide (show ¬ Fa wr.heap.size ∧ ¬ Fb wr.heap.size from ⟨fun e => Nat.lt_irrefl _ (HP.out.a.fo _ e).2, fun e => Nat.lt_irrefl _ (HP.out.b.fo _ e).2⟩)
            clear HP q0 q1 q2 q3 q4 q5 q6 q7
            generalize World.alloc wr _ = w8 at *
            obtain ⟨N, hN⟩ : ∃ N, wr.heap.size = N := ⟨_, rfl⟩
            rw [hN] at HBE HNF
            try rw [hN]
            clear hN
            obtain ⟨Z, hZ⟩ : ∃ Z, stS n.devs n.ls l k = Z := ⟨_, rfl⟩
            have HGD := hide (show GoodW n.devs Z from by rw [← hZ]; exact good_at HE.out l k)
            obtain ⟨R, hR⟩ : ∃ R, doS n.devs n.ls Z x = R := ⟨_, rfl⟩
            have HR := hide hR
            rw [hZ] at HG HST
            rw [hR] at HST
            clear hZ hR
            have HDR := hide (RowKit.Below.refl w8.heap.size w8).drew
            have HG9 := hide (HG.out.below HDR.out)
            have HBE9 := hide (HBE.out.below HDR.out)
            clear HG HBE HDR
            obtain ⟨xk, xd, xp, ⟨xa, xb, xs, xt⟩, xc⟩ := x
            simp only at HBE9
            have HCE := hide (fun (w' : World) (hb : Bx w' N #[.int .i64 xk, .int .i64 xd, .int .i64 xp, .int .i64 xa, .int .i64 xb, .int .i64 xs, .int .i64 xt, .int .i64 xc] 40) => show w'.cell? ⟨N, 0, none⟩ = some (.int .i64 xk) ∧ w'.cell? ⟨N, 1, none⟩ = some (.int .i64 xd) ∧ w'.cell? ⟨N, 2, none⟩ = some (.int .i64 xp) ∧ w'.cell? ⟨N, 3, none⟩ = some (.int .i64 xa) ∧ w'.cell? ⟨N, 4, none⟩ = some (.int .i64 xb) ∧ w'.cell? ⟨N, 5, none⟩ = some (.int .i64 xs) ∧ w'.cell? ⟨N, 6, none⟩ = some (.int .i64 xt) ∧ w'.cell? ⟨N, 7, none⟩ = some (.int .i64 xc) from ⟨hb.get 0 _ rfl, hb.get 1 _ rfl, hb.get 2 _ rfl, hb.get 3 _ rfl, hb.get 4 _ rfl, hb.get 5 _ rfl, hb.get 6 _ rfl, hb.get 7 _ rfl⟩)
            refine wp_region_E (fun w' => w'.cell? ⟨N, 0, none⟩ = some (.int .i64 xk) ∧ w'.cell? ⟨N, 1, none⟩ = some (.int .i64 xd) ∧ w'.cell? ⟨N, 2, none⟩ = some (.int .i64 xp) ∧ w'.cell? ⟨N, 3, none⟩ = some (.int .i64 xa) ∧ w'.cell? ⟨N, 4, none⟩ = some (.int .i64 xb) ∧ w'.cell? ⟨N, 5, none⟩ = some (.int .i64 xs) ∧ w'.cell? ⟨N, 6, none⟩ = some (.int .i64 xt) ∧ w'.cell? ⟨N, 7, none⟩ = some (.int .i64 xc)) 6 (by kernel_rfl) (HCE.out _ HBE9.out) (fun hS inv => ?_)
            generalize World.drew w8 = wd at *
            revert inv
            refine rP 0 hS ?_
            refine rL 1 [2, 6] rfl hS (by intro w hSw; obtain ⟨s0, s1, s2, s3, s4, s5, s6, s7⟩ := hSw; go_simp; try with_reducible rfl) ?_
            refine rP 3 hS ?_
            refine rL 4 [5, 6] rfl hS (by intro w hSw; obtain ⟨s0, s1, s2, s3, s4, s5, s6, s7⟩ := hSw; go_simp; try with_reducible rfl) ?_
            intro inv
            clear hS
            refine rO 2 inv fun K hK => ?_
            go_simp
            refine (HG9.out.goA HE.out HGD.out ⟨xk, xd, xp, ⟨xa, xb, xs, xt⟩, xc⟩ HXK.out (by omega)).mono ?_
            rw [HR.out]
            rintro e we ⟨rfl, Fa', hl2, hn⟩
            have HG10 := hide hl2
            have HBE10 := hide (HBE9.out.same (hn.block N HBE9.out.lt HNF.out.1))
            clear hl2 hn HG9 HBE9
            go_simp
            refine hK.out _ _ (fun _ => HCE.out _ HBE10.out) ?_
            clear hK K inv
            intro inv
            try simp only [Act.put, nrmA, nrmB, nrmC]
            refine rO 5 inv fun K hK => ?_
            go_simp
            refine (HG10.out.goB HE.out HGD.out ⟨xk, xd, xp, ⟨xa, xb, xs, xt⟩, xc⟩ HXK.out (by omega)).mono ?_
            rw [HR.out]
            rintro e wf ⟨rfl, Fb', hl2, hn⟩
            have HGF := hide hl2
            have HBE11 := hide (HBE10.out.same (hn.block N HBE10.out.lt HNF.out.2))
            clear hl2 hn HG10 HBE10
            go_simp
            refine hK.out _ _ (fun _ => HCE.out _ HBE11.out) ?_
            clear hK K inv
            intro inv
            try simp only [Act.put, nrmA, nrmB, nrmC]
            refine rT 6 inv fun K hK => ?_
            go_simp
            refine hK.out _ _ ?_
            clear hK K inv
            intro inv
            try simp only [Act.put, nrmA, nrmB, nrmC]
            refine rD ?_
            clear inv
            clear HBE11 HCE HNF
            have hzl : R.2.S.length ≤ k + 1 := HGF.out.a.lk
            have HS1 := hide (seen_Q HGF.out.a (by omega))
            go_wp2_with fail
            refine HS1.out.mono ?_
            clear HS1
            rintro e wS ⟨A1, cc, rfl, hle, hown, hb⟩
            obtain ⟨hcr, hnone⟩ := CapRow.of hown
            have HCR := hide hcr
            have HBS := hide hb
            have hcm := hcr.1
            simp only [maxLen] at hcm
            clear hown hb hcr
            cases A1 with
            | none =>
              obtain ⟨e1, e2⟩ := hnone rfl
              subst e2
              rw [e1]
              clear e1 hle hnone
              go_wp2_with fail
              go_loopw [85] (fun jv wr => ∃ j : Nat, j ≤ 0 ∧ jv = .int .i64 (j : Int) ∧ Hid (Below wf.heap.size wf wr ∧ CapRow wr wf.heap.size (none) 0)) (fun jv _ => 0 - (intOf jv).toNat)
              case atStart => exact ⟨0, Nat.zero_le _, rfl, hide ⟨HBS.out, HCR.out⟩⟩
              case round =>
                obtain ⟨j, hj, rfl, HI⟩ := hrel
                by_cases hjl : j < 0
                case pos =>
                  exact absurd hjl (Nat.not_lt_zero _)
                case neg =>
                  have hje : j = 0 := by omega
                  have HGN := hide (show L2 W Wc Fa' Fb' g1 g2 n.devs n.ls (stS n.devs n.ls l (k + 1)) (k + 1) (stS n.devs n.ls l (k + 1)) (k + 1) wr from by rw [HST.out]; exact HGF.out.below HI.out.1)
                  rw [hje]
                  clear hje hj hjl HI HCR HBS HGF HST
                  go_wp2_with fail
                  go_roundw
                  case rel => exact ⟨k + 1, Fa', Fb', by omega, by go_num, HGN⟩
                  case measure => simp [intOf]; omega
            | some ad =>
              clear hnone
              go_wp2_with fail
              go_loopw [85] (fun jv wr => ∃ j : Nat, j ≤ cc ∧ jv = .int .i64 (j : Int) ∧ Hid (Below wf.heap.size wf wr ∧ CapRow wr wf.heap.size (some ad) cc)) (fun jv _ => cc - (intOf jv).toNat)
              case atStart => exact ⟨0, Nat.zero_le _, rfl, hide ⟨HBS.out, HCR.out⟩⟩
              case round =>
                obtain ⟨j, hj, rfl, HI⟩ := hrel
                by_cases hjl : j < cc
                case pos =>
                  obtain ⟨gs, hA, hlo, hth⟩ := HI.out.2.there hjl
                  obtain rfl := Option.some.inj hA
                  have hjI : (j : Int) < (cc : Int) := by omega
                  clear hA
                  go_wp2_with ((with_reducible show wpList _ _ _ (⟨none, .store 47 (.tmp 91) _, _, _, _, _⟩ :: _) _ _); refine wpList_store_mid rfl 47 (.tmp 91) (.tmp 90) rfl gs (j * 6) #[.int .i64 0, .int .i64 0, .int .i64 0, .int .i64 0, .int .i64 0, .int .i64 0] rfl rfl hth Try.sizeArr (by simp [Value.oneCell']) ?_)
                  go_roundw
                  case rel => exact ⟨j + 1, by omega, by go_num, hide ⟨HI.out.1.trans (setCells_below gs _ hlo [.int .i64 0, .int .i64 0, .int .i64 0, .int .i64 0, .int .i64 0, .int .i64 0] (j * 6) _), HI.out.2.put rfl [.int .i64 0, .int .i64 0, .int .i64 0, .int .i64 0, .int .i64 0, .int .i64 0] (j * 6)⟩⟩
                  case measure => simp [intOf]; omega
                case neg =>
                  have hje : j = cc := by omega
                  have HGN := hide (show L2 W Wc Fa' Fb' g1 g2 n.devs n.ls (stS n.devs n.ls l (k + 1)) (k + 1) (stS n.devs n.ls l (k + 1)) (k + 1) wr from by rw [HST.out]; exact HGF.out.below HI.out.1)
                  rw [hje]
                  clear hje hj hjl HI HCR HBS HGF HST
                  go_wp2_with fail
                  go_roundw
                  case rel => exact ⟨k + 1, Fa', Fb', by omega, by go_num, HGN⟩
                  case measure => simp [intOf]; omega
  case inr =>
    as_aux_lemma =>
      have HLO := hide hlo
      simp only [NetV.val]
      have hbz := below_alloc2 w7 (.cells #[.slice p.dA p.dn p.dc, .slice p.lA p.ln p.lc] 25)
      have HX' := hide (HX.out.below hbz)
      have HY' := hide (HY.out.below hbz)
      have HT' := hide (HT.out.below hbz)
      have HZ := hide (Bx.new w7 #[.slice p.dA p.dn p.dc, .slice p.lA p.ln p.lc] 25)
      have HPO := hide (hpo.below hbz)
      have HB68 := hide (HB67.out.trans (hbz.mono HB67.out.size))
      clear hbz HX HY HT HB7 HBS h0 hp hlo hpo HB67
      have HX := HX'
      have HY := HY'
      have HT := HT'
      clear HX' HY' HT'
      have HSN := hide (sameNet_walk m n _ HT.out.s)
      simp only [NetV.val] at HSN
      have c0 := HY.out.get 0 _ rfl
      have c1 := HY.out.get 1 _ rfl
      have c2 := HX.out.get 0 _ rfl
      have c3 := HX.out.get 1 _ rfl
      go_wp2_with fail
      clear c0 c1 c2 c3
      refine HSN.out.mono ?_
      clear HSN
      generalize World.alloc w7 _ = w8 at *
      rintro e w9 ⟨rfl, hb⟩
      have HB69 := hide (HB68.out.trans (hb.mono HB68.out.size))
      have HPO9 := hide (HPO.out.below hb)
      have HZ9 := hide (HZ.out.below hb)
      clear hb HB68 HPO HZ HX HY HT
      have HSP := hide (spoil_walk p 0 w9 HPO9.out)
      simp only [NetV.val] at HSP
      have c0 := HZ9.out.get 0 _ rfl
      have c1 := HZ9.out.get 1 _ rfl
      go_wp2_with fail
      clear c0 c1
      refine HSP.out.mono ?_
      clear HSP
      rintro e w10 ⟨rfl, hnear, _⟩
      have hbx := HB69.out.trans (hnear.below HB69.out.size (fun j hj => HLO.out.blk j hj))
      have HX := hide (HX6.out.below hbx)
      have HY := hide (HY6.out.below hbx)
      have HT := hide (HT6.out.below hbx)
      have HB10 := hide (HB6'.out.trans (hbx.mono HB6'.out.size))
      have HBS := hide (And.intro (HBS6.out.1.trans (hbx.mono HBS6.out.1.size)) (HBS6.out.2.below hbx))
      clear hnear hbx HB69 HPO9 HZ9 HLO HX6 HY6 HT6 HB6' HBS6
      have HSN := hide (sameNet_walk m n _ HT.out.s)
      simp only [NetV.val] at HSN
      have c0 := HY.out.get 0 _ rfl
      have c1 := HY.out.get 1 _ rfl
      have c2 := HX.out.get 0 _ rfl
      have c3 := HX.out.get 1 _ rfl
      go_wp2_with fail
      clear c0 c1 c2 c3
      refine HSN.out.mono ?_
      clear HSN
      rintro e w11 ⟨rfl, hb⟩
      have HBS' := hide (And.intro (HBS.out.1.trans (hb.mono HBS.out.1.size)) (HBS.out.2.below hb))
      have HB11 := hide (HB10.out.trans (hb.mono HB10.out.size))
      have HX' := hide (HX.out.below hb)
      have HY' := hide (HY.out.below hb)
      have HT' := hide (HT.out.below hb)
      clear HX HY HT
      have HX := HX'
      have HY := HY'
      have HT := HT'
      clear HX' HY' HT'
      clear hb HB10 HBS
      have HBS := HBS'
      clear HBS'
      have HLT := hide (HM4.out.o.blk)
      have HSP := hide (spoil_walk m 0 w11 HT.out.o)
      simp only [NetV.val] at HSP
      have hst0 : stS n.devs n.ls l 0 = ⟨MemS.empty, []⟩ := rfl
      by_cases hl60 : 60 < nl
      case pos =>
        have h1 : (60 : Int) < (nl : Int) := by omega
        have HBF := hide (HB11.out)
        clear HSP HX HY HT HQ HBS
        go_wp2
        go_ret
        exact ⟨ret_bool (by simp), HBF.out⟩
      case neg =>
        have d1 : decide ((60 : Int) < (nl : Int)) = false := by simp; omega
        have hl61 : nl ≤ 60 := by omega
        clear hl60
        have c0 := HY.out.get 0 _ rfl
        have c1 := HY.out.get 1 _ rfl
        go_wp2_with fail
        clear c0 c1
        clear d1
        refine HSP.out.mono ?_
        clear HSP
        rintro e wz ⟨rfl, hnear, hod⟩
        have HP := hide (show L2 W (cutW wz w4.heap.size) Fu Fv g1 g2 n.devs n.ls (stS n.devs n.ls l 0) 0 (stS n.devs n.ls l 0) 0 wz from by
          have hs4 := HB4.out.size
          have h45 := HF1.out.2
          have h5w := HBS.out.1.size
          have hww := hnear.size
          have hcs : (cutW wz w4.heap.size).heap.size = w4.heap.size := cutW_size (by omega)
          have ha := HQ.out w11 wz (NetBlk m) HBS.out.1 hnear (fun j hj => HLT.out j hj) hod
          rw [HMD.out.1, HMD.out.2] at ha
          refine ⟨HB11.out.trans (hnear.below HB11.out.size (fun j hj => HMO.out j hj)), cutW_below (by omega), ha, (HBS.out.2).stay hnear (fun j hj => ⟨HMO.out j hj, fun e => ?_⟩), fun j e1 e2 => ?_, by rw [hcs]; exact hs4, fun j e => ?_⟩
          · have := HLT.out j hj
            have := HF2.out j e
            omega
          · have := (HF1.out.1 j e1).2
            have := HF2.out j e2
            omega
          · rw [hcs]
            have := HF2.out j e
            omega)
        clear hnear hod HX HY HT HQ HBS HLT hst0 HB11
        go_wp2_with fail
        go_loopw [66] (fun iv wr => ∃ (k : Nat) (Fa Fb : Nat → Prop), k ≤ nl ∧ iv = .int .i64 (k : Int) ∧ Hid (L2 W (cutW wz w4.heap.size) Fa Fb g1 g2 n.devs n.ls (stS n.devs n.ls l k) k (stS n.devs n.ls l k) k wr)) (fun iv _ => nl - (intOf iv).toNat)
        case atStart => exact ⟨0, Fu, Fv, Nat.zero_le _, rfl, HP⟩
        case round =>
          clear HP
          generalize cutW wz w4.heap.size = Wc at *
          obtain ⟨k, Fa, Fb, hk, rfl, HP⟩ := hrel
          by_cases hlt : k < nl
          case neg =>
            obtain rfl : nl = k := by omega
            obtain ⟨Z, hZ⟩ : ∃ Z, stS n.devs n.ls l nl = Z := ⟨_, rfl⟩
            rw [hZ] at HP
            clear hZ hlt
            have hzl : Z.S.length ≤ nl := HP.out.a.lk
            have HS1 := hide (seen_Q HP.out.a (by omega))
            go_wp2_with fail
            refine HS1.out.mono ?_
            clear HS1
            rintro e wb ⟨A1, cc1, rfl, _, hown1, hb1⟩
            have HPb := hide (HP.out.below hb1)
            have HS1 := hide (own_sl ArrV.len hown1 rfl)
            have HS2 := hide (seen_S HPb.out.b (by omega))
            clear hown1 hb1 HP
            go_wp2_with fail
            refine HS2.out.mono ?_
            clear HS2
            rintro e wc ⟨A2, cc2, rfl, _, hown2, hb2⟩
            have HEQ := hide (equalArr_yes Z.S A1 A2 Z.S.length cc1 cc2 wc (by omega) (HS1.out.below hb2 hb2.size) (own_sl ArrV.len hown2 rfl))
            have HBc := hide (HPb.out.bl.trans (hb2.mono HPb.out.bl.size))
            clear hown2 hb2 HPb HS1
            go_wp2_with fail
            refine HEQ.out.mono ?_
            clear HEQ
            rintro e wd ⟨rfl, hb3⟩
            have HBd := hide (HBc.out.trans (hb3.mono HBc.out.size))
            clear hb3 HBc
            go_wp2
            go_ret
            exact ⟨rfl, HBd.out⟩
          case pos =>
            obtain ⟨x, hx⟩ : ∃ x, l[k]? = some x := ⟨_, List.getElem?_eq_getElem (by have := HLN.out; omega)⟩
            have hsl := HL.out _ HP.out.bl
            obtain ⟨bA, oA, rfl, hbB, _⟩ := hsl.2 (by omega)
            obtain ⟨q0, q1, q2, q3, q4, q5, q6, q7⟩ := act_cells hsl hx
            have HXK := hide (HLO.out x (List.mem_of_getElem? hx))
            have HST := hide (stS_succ (ds := n.devs) (ls := n.ls) hx)
            clear hx hsl hbB
            go_wp2_with fail
            have HG := hide (HP.out.below (below_alloc2 wr (.cells #[.int .i64 x.kind, .int .i64 x.dev, .int .i64 x.port, .int .i64 x.p.src, .int .i64 x.p.dst, .int .i64 x.p.sport, .int .i64 x.p.dport, .int .i64 x.ch] 40)))
            have HBE := hide (Bx.new wr #[.int .i64 x.kind, .int .i64 x.dev, .int .i64 x.port, .int .i64 x.p.src, .int .i64 x.p.dst, .int .i64 x.p.sport, .int .i64 x.p.dport, .int .i64 x.ch] 40)
            have HNF := hide (show ¬ Fa wr.heap.size ∧ ¬ Fb wr.heap.size from ⟨fun e => Nat.lt_irrefl _ (HP.out.a.fo _ e).2, fun e => Nat.lt_irrefl _ (HP.out.b.fo _ e).2⟩)
            clear HP q0 q1 q2 q3 q4 q5 q6 q7
            generalize World.alloc wr _ = w8 at *
            obtain ⟨N, hN⟩ : ∃ N, wr.heap.size = N := ⟨_, rfl⟩
            rw [hN] at HBE HNF
            try rw [hN]
            clear hN
            obtain ⟨Z, hZ⟩ : ∃ Z, stS n.devs n.ls l k = Z := ⟨_, rfl⟩
            have HGD := hide (show GoodW n.devs Z from by rw [← hZ]; exact good_at HE.out l k)
            obtain ⟨R, hR⟩ : ∃ R, doS n.devs n.ls Z x = R := ⟨_, rfl⟩
            have HR := hide hR
            rw [hZ] at HG HST
            rw [hR] at HST
            clear hZ hR
            have HDR := hide (RowKit.Below.refl w8.heap.size w8).drew
            have HG9 := hide (HG.out.below HDR.out)
            have HBE9 := hide (HBE.out.below HDR.out)
            clear HG HBE HDR
            obtain ⟨xk, xd, xp, ⟨xa, xb, xs, xt⟩, xc⟩ := x
            simp only at HBE9
            have HCE := hide (fun (w' : World) (hb : Bx w' N #[.int .i64 xk, .int .i64 xd, .int .i64 xp, .int .i64 xa, .int .i64 xb, .int .i64 xs, .int .i64 xt, .int .i64 xc] 40) => show w'.cell? ⟨N, 0, none⟩ = some (.int .i64 xk) ∧ w'.cell? ⟨N, 1, none⟩ = some (.int .i64 xd) ∧ w'.cell? ⟨N, 2, none⟩ = some (.int .i64 xp) ∧ w'.cell? ⟨N, 3, none⟩ = some (.int .i64 xa) ∧ w'.cell? ⟨N, 4, none⟩ = some (.int .i64 xb) ∧ w'.cell? ⟨N, 5, none⟩ = some (.int .i64 xs) ∧ w'.cell? ⟨N, 6, none⟩ = some (.int .i64 xt) ∧ w'.cell? ⟨N, 7, none⟩ = some (.int .i64 xc) from ⟨hb.get 0 _ rfl, hb.get 1 _ rfl, hb.get 2 _ rfl, hb.get 3 _ rfl, hb.get 4 _ rfl, hb.get 5 _ rfl, hb.get 6 _ rfl, hb.get 7 _ rfl⟩)
            refine wp_region_E (fun w' => w'.cell? ⟨N, 0, none⟩ = some (.int .i64 xk) ∧ w'.cell? ⟨N, 1, none⟩ = some (.int .i64 xd) ∧ w'.cell? ⟨N, 2, none⟩ = some (.int .i64 xp) ∧ w'.cell? ⟨N, 3, none⟩ = some (.int .i64 xa) ∧ w'.cell? ⟨N, 4, none⟩ = some (.int .i64 xb) ∧ w'.cell? ⟨N, 5, none⟩ = some (.int .i64 xs) ∧ w'.cell? ⟨N, 6, none⟩ = some (.int .i64 xt) ∧ w'.cell? ⟨N, 7, none⟩ = some (.int .i64 xc)) 6 (by kernel_rfl) (HCE.out _ HBE9.out) (fun hS inv => ?_)
            generalize World.drew w8 = wd at *
            revert inv
            refine rP 0 hS ?_
            refine rL 1 [2, 6] rfl hS (by intro w hSw; obtain ⟨s0, s1, s2, s3, s4, s5, s6, s7⟩ := hSw; go_simp; try with_reducible rfl) ?_
            refine rP 3 hS ?_
            refine rL 4 [5, 6] rfl hS (by intro w hSw; obtain ⟨s0, s1, s2, s3, s4, s5, s6, s7⟩ := hSw; go_simp; try with_reducible rfl) ?_
            intro inv
            clear hS
            refine rO 2 inv fun K hK => ?_
            go_simp
            refine (HG9.out.goA HE.out HGD.out ⟨xk, xd, xp, ⟨xa, xb, xs, xt⟩, xc⟩ HXK.out (by omega)).mono ?_
            rw [HR.out]
            rintro e we ⟨rfl, Fa', hl2, hn⟩
            have HG10 := hide hl2
            have HBE10 := hide (HBE9.out.same (hn.block N HBE9.out.lt HNF.out.1))
            clear hl2 hn HG9 HBE9
            go_simp
            refine hK.out _ _ (fun _ => HCE.out _ HBE10.out) ?_
            clear hK K inv
            intro inv
            try simp only [Act.put, nrmA, nrmB, nrmC]
            refine rO 5 inv fun K hK => ?_
            go_simp
            refine (HG10.out.goB HE.out HGD.out ⟨xk, xd, xp, ⟨xa, xb, xs, xt⟩, xc⟩ HXK.out (by omega)).mono ?_
            rw [HR.out]
            rintro e wf ⟨rfl, Fb', hl2, hn⟩
            have HGF := hide hl2
            have HBE11 := hide (HBE10.out.same (hn.block N HBE10.out.lt HNF.out.2))
            clear hl2 hn HG10 HBE10
            go_simp
            refine hK.out _ _ (fun _ => HCE.out _ HBE11.out) ?_
            clear hK K inv
            intro inv
            try simp only [Act.put, nrmA, nrmB, nrmC]
            refine rT 6 inv fun K hK => ?_
            go_simp
            refine hK.out _ _ ?_
            clear hK K inv
            intro inv
            try simp only [Act.put, nrmA, nrmB, nrmC]
            refine rD ?_
            clear inv
            clear HBE11 HCE HNF
            have hzl : R.2.S.length ≤ k + 1 := HGF.out.a.lk
            have HS1 := hide (seen_Q HGF.out.a (by omega))
            go_wp2_with fail
            refine HS1.out.mono ?_
            clear HS1
            rintro e wS ⟨A1, cc, rfl, hle, hown, hb⟩
            obtain ⟨hcr, hnone⟩ := CapRow.of hown
            have HCR := hide hcr
            have HBS := hide hb
            have hcm := hcr.1
            simp only [maxLen] at hcm
            clear hown hb hcr
            cases A1 with
            | none =>
              obtain ⟨e1, e2⟩ := hnone rfl
              subst e2
              rw [e1]
              clear e1 hle hnone
              go_wp2_with fail
              go_loopw [85] (fun jv wr => ∃ j : Nat, j ≤ 0 ∧ jv = .int .i64 (j : Int) ∧ Hid (Below wf.heap.size wf wr ∧ CapRow wr wf.heap.size (none) 0)) (fun jv _ => 0 - (intOf jv).toNat)
              case atStart => exact ⟨0, Nat.zero_le _, rfl, hide ⟨HBS.out, HCR.out⟩⟩
              case round =>
                obtain ⟨j, hj, rfl, HI⟩ := hrel
                by_cases hjl : j < 0
                case pos =>
                  exact absurd hjl (Nat.not_lt_zero _)
                case neg =>
                  have hje : j = 0 := by omega
                  have HGN := hide (show L2 W Wc Fa' Fb' g1 g2 n.devs n.ls (stS n.devs n.ls l (k + 1)) (k + 1) (stS n.devs n.ls l (k + 1)) (k + 1) wr from by rw [HST.out]; exact HGF.out.below HI.out.1)
                  rw [hje]
                  clear hje hj hjl HI HCR HBS HGF HST
                  go_wp2_with fail
                  go_roundw
                  case rel => exact ⟨k + 1, Fa', Fb', by omega, by go_num, HGN⟩
                  case measure => simp [intOf]; omega
            | some ad =>
              clear hnone
              go_wp2_with fail
              go_loopw [85] (fun jv wr => ∃ j : Nat, j ≤ cc ∧ jv = .int .i64 (j : Int) ∧ Hid (Below wf.heap.size wf wr ∧ CapRow wr wf.heap.size (some ad) cc)) (fun jv _ => cc - (intOf jv).toNat)
              case atStart => exact ⟨0, Nat.zero_le _, rfl, hide ⟨HBS.out, HCR.out⟩⟩
              case round =>
                obtain ⟨j, hj, rfl, HI⟩ := hrel
                by_cases hjl : j < cc
                case pos =>
                  obtain ⟨gs, hA, hlo, hth⟩ := HI.out.2.there hjl
                  obtain rfl := Option.some.inj hA
                  have hjI : (j : Int) < (cc : Int) := by omega
                  clear hA
                  go_wp2_with ((with_reducible show wpList _ _ _ (⟨none, .store 47 (.tmp 91) _, _, _, _, _⟩ :: _) _ _); refine wpList_store_mid rfl 47 (.tmp 91) (.tmp 90) rfl gs (j * 6) #[.int .i64 0, .int .i64 0, .int .i64 0, .int .i64 0, .int .i64 0, .int .i64 0] rfl rfl hth Try.sizeArr (by simp [Value.oneCell']) ?_)
                  go_roundw
                  case rel => exact ⟨j + 1, by omega, by go_num, hide ⟨HI.out.1.trans (setCells_below gs _ hlo [.int .i64 0, .int .i64 0, .int .i64 0, .int .i64 0, .int .i64 0, .int .i64 0] (j * 6) _), HI.out.2.put rfl [.int .i64 0, .int .i64 0, .int .i64 0, .int .i64 0, .int .i64 0, .int .i64 0] (j * 6)⟩⟩
                  case measure => simp [intOf]; omega
                case neg =>
                  have hje : j = cc := by omega
                  have HGN := hide (show L2 W Wc Fa' Fb' g1 g2 n.devs n.ls (stS n.devs n.ls l (k + 1)) (k + 1) (stS n.devs n.ls l (k + 1)) (k + 1) wr from by rw [HST.out]; exact HGF.out.below HI.out.1)
                  rw [hje]
                  clear hje hj hjl HI HCR HBS HGF HST
                  go_wp2_with fail
                  go_roundw
                  case rel => exact ⟨k + 1, Fa', Fb', by omega, by go_num, HGN⟩
                  case measure => simp [intOf]; omega
theorem netOwn_walk (n : NetV) (A : Option Addr) (nl c : Nat) (l : List ActV) (nm : ByteArray) (W : World) (hn : NetAt W W.heap.size n) (hft : NetFits n) (hl : SlAt ActV.cells 8 W W.heap.size A nl l) (hlo : ∀ r ∈ l, r.ok) (hlc : nl ≤ c ∧ c ≤ maxLen) :
    Calls Try.prog 3 #[n.val, .slice A nl c, .string nm] W fun e W' => e = .returned (.bool true) ∧ Below W.heap.size W W' := by
  by_cases hE : netE n.devs n.ls = 0
  · exact netOwn_good n A nl c l nm W hn hft hl hlo hlc hE
  · exact netOwn_bad n A nl c l nm W hn hft hl hlo hlc hE
end Go.Proofs.Ytifkacnoiocebaa
