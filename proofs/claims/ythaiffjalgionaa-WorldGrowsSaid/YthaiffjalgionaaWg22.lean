/- wireward/wirekeep.WorldGrows: whatever is handed in, it returns true, and leaves the input as it reads. -/
import Derived.Test.YthaiffjalgionaaWg21

set_option linter.unusedVariables false
set_option linter.unusedSimpArgs false
namespace Go.Proofs.Ythaiffjalgionaa
open Go.RowKit Go.Maps

theorem SlAt.first {α : Type} {cells : α → List Value} {s : Nat} {w : World} {B : Nat} {A : Option Addr} {n m : Nat} {l l' : List α} (h : SlAt cells s w B A n (l ++ l')) (hm : l.length = m) : SlAt cells s w B A m l :=
  ⟨hm, fun h0 => by
    have hn : 0 < n := by rw [← h.1]; simp; omega
    obtain ⟨b, o, e, hb, hg⟩ := h.2 hn
    exact ⟨b, o, e, hb, fun k r hr j v hv => hg k r (by rw [List.getElem?_append_left (List.getElem?_eq_some_iff.1 hr).1]; exact hr) j v hv⟩⟩
theorem arr_ok {ds : List Dev} (hd : ds.length ≤ 10) {x : ArrV} (h : rightB x.p = true ∧ placeB ds (x.d, x.y) = true) : x.ok := by
  have q := place_ok hd h.2
  exact ⟨q.1, q.2, right_ok h.1⟩
set_option maxRecDepth 100000 in
set_option maxHeartbeats 16000000 in
theorem worldGrows_walk (n : NetV) (A : Option Addr) (nl c : Nat) (l : List ActV) (W : World) (hn : NetAt W W.heap.size n) (hl : SlAt ActV.cells 8 W W.heap.size A nl l) (hlo : ∀ r ∈ l, r.ok) (hlc : nl ≤ c ∧ c ≤ maxLen) :
    Calls Try.prog 5 #[n.val, .slice A nl c] W fun e W' => e = .returned (.bool true) ∧ Below W.heap.size W W' := by
  have HNA := hide (fun (w' : World) (hb : Below W.heap.size W w') => show NetAt w' w'.heap.size n from hn.below hb hb.size)
  have HON := hide (net_on_below hn)
  have HL := hide (fun (w' : World) (hb : Below W.heap.size W w') => hl.below hb hb.size)
  have HLN := hide hl.1
  have HLO := hide hlo
  have n3 : nl ≤ 9223372036854775807 := by have := hlc.1; have := hlc.2; unfold maxLen at *; omega
  have hc1 := hlc.1
  clear hn hl hlo hlc
  show Calls _ _ #[.agg #[.slice n.dA n.dn n.dc, .slice n.lA n.ln n.lc], _] W _
  go_enter Try.func5, Try.ntmps5
  go_wp2_with fail
  generalize hG : World.alloc W _ = W1
  have HX1 := hide (boxes1 hG).1
  clear hG
  refine (running_walk W1).mono ?_
  rintro e w2 ⟨rfl, hb⟩
  have HX2 := hide (HX1.out.below hb)
  clear hb HX1
  obtain ⟨c0, c1⟩ : w2.cell? ⟨W.heap.size, 0, none⟩ = some (.slice n.dA n.dn n.dc) ∧ w2.cell? ⟨W.heap.size, 1, none⟩ = some (.slice n.lA n.ln n.lc) := ⟨(HX2.out.get 0 rfl).1 0 _ rfl, (HX2.out.get 0 rfl).1 1 _ rfl⟩
  by_cases hE : netE n.devs n.ls = 0
  case neg =>
    have HNW := hide (fun (w' : World) (h : NetAt w' w'.heap.size n) => worldNew_bad n w' h hE)
    obtain ⟨E, hEE⟩ : ∃ E, netE n.devs n.ls = E := ⟨_, rfl⟩
    rw [hEE] at HNW hE
    clear hEE
    have e1 : (E == 0) = false := by simpa using hE
    have e2 : (E != 0) = true := by simpa using hE
    clear hE
    go_wp2_with fail
    refine (HNW.out w2 (HNA.out _ HX2.out.bl)).mono ?_
    rintro e w7 ⟨rfl, hb⟩
    have HX7 := hide (HX2.out.below hb)
    clear hb HX2 c0 c1
    go_wp2
    go_ret
    exact ⟨ret_bool (by simp), HX7.out.bl⟩
  have HE := hide hE
  have HDL := hide (show n.devs.length ≤ 10 from (netE_ok hE).dl)
  have HNW := hide (fun (w' : World) (hb : Below W.heap.size W w') => worldNew_S n W w' hb.size (HNA.out _ hb) HON.out HE.out)
  clear hE
  go_wp2_with fail
  refine (HNW.out w2 HX2.out.bl).mono ?_
  clear c0 c1 HNW
  rintro e w7 ⟨gw, F, rfl, hw, hb, hF⟩
  have HP := hide (show L1 W [(W.heap.size, #[.slice n.dA n.dn n.dc, .slice n.lA n.ln n.lc])] F gw n.devs n.ls (stS n.devs n.ls l 0) 0 w7 from ⟨HX2.out.below hb, hw, fun x hx e => by
    obtain rfl := List.mem_singleton.1 hx
    have h1 := hF _ e
    have h2 := (HX2.out.bx _ (List.mem_of_getElem? (i := 0) rfl)).2
    simp only at h1 h2
    omega⟩)
  clear hw hb hF HX2
  by_cases hl80 : 80 < nl
  case pos =>
    have h1 : (80 : Int) < (nl : Int) := by omega
    go_wp2
    go_ret
    exact ⟨ret_bool (by simp), HP.out.box.bl⟩
  have d1 : decide ((80 : Int) < (nl : Int)) = false := by simp; omega
  go_wp2_with fail
  clear d1
  have hl81 : nl ≤ 80 := by omega
  clear hl80
  -- LOOP1
  go_loopw [36] (fun i wr => ∃ (k : Nat) (F : Nat → Prop), k ≤ nl ∧ i = .int .i64 k ∧ Hid (L1 W [(W.heap.size, #[.slice n.dA n.dn n.dc, .slice n.lA n.ln n.lc])] F gw n.devs n.ls (stS n.devs n.ls l k) k wr)) (fun i _ => nl - (intOf i).toNat)
  case atStart => exact ⟨0, F, Nat.zero_le _, rfl, HP⟩
  case round =>
    clear HP
    obtain ⟨k, F, hk, rfl, HP⟩ := hrel
    by_cases hlt : k < nl
    case pos =>
      obtain ⟨x, hx⟩ : ∃ x, l[k]? = some x := ⟨_, List.getElem?_eq_getElem (by have := HLN.out; omega)⟩
      have hsl := HL.out _ HP.out.box.bl
      obtain ⟨bA, oA, rfl, hbB, _⟩ := hsl.2 (by omega)
      obtain ⟨q0, q1, q2, q3, q4, q5, q6, q7⟩ := act_cells hsl hx
      have HXK := hide (HLO.out x (List.mem_of_getElem? hx))
      have HST := hide (stS_succ (ds := n.devs) (ls := n.ls) hx)
      clear hx hsl hbB
      go_wp2_with fail
      have HG := hide (HP.out.al #[.int .i64 x.kind, .int .i64 x.dev, .int .i64 x.port, .int .i64 x.p.src, .int .i64 x.p.dst, .int .i64 x.p.sport, .int .i64 x.p.dport, .int .i64 x.ch] 79)
      obtain ⟨N, hN⟩ : ∃ N, wr.heap.size = N := ⟨_, rfl⟩
      rw [hN] at HG
      rw [hN]
      clear hN HP q0 q1 q2 q3 q4 q5 q6 q7
      generalize World.alloc wr _ = w8 at *
      obtain ⟨Z, hZ⟩ : ∃ Z, stS n.devs n.ls l k = Z := ⟨_, rfl⟩
      have HGD := hide (show GoodW n.devs Z from by rw [← hZ]; exact good_at HE.out l k)
      obtain ⟨R, hR⟩ : ∃ R, doS n.devs n.ls Z x = R := ⟨_, rfl⟩
      have hdg := (do_good HE.out HGD.out x).2
      rw [hZ] at HG HST
      rw [hR] at hdg HST
      obtain ⟨R1, R2⟩ := R
      simp only at hdg HST
      clear hZ
      have hzl : Z.S.length ≤ k := HG.out.a.lk
      refine (seen_S HG.out.a (by omega)).mono ?_
      rintro e w9 ⟨A1, cc1, rfl, hcc1, hown1, hb1⟩
      have HOW1 := hide hown1
      have HB1 := hide hb1
      have HG9 := hide (HG.out.below hb1)
      have HA1 := hide (show ∀ a, A1 = some a → ¬ F a.block ∧ a.block < w9.heap.size from fun a ha => ⟨fun e => by
        have h1 := (HG.out.a.fo _ e).2
        have h2 := (hown1.lt a.block (by rw [row_blk, ha]; rfl)).1
        omega, (hown1.lt a.block (by rw [row_blk, ha]; rfl)).2⟩)
      clear hown1 hb1 HG
      obtain ⟨b0, b1, b2, b3, b4, b5, b6, b7⟩ := cells8 (HG9.out.box.get 0 rfl)
      have HDO := hide (HG9.out.go HE.out HGD.out x HXK.out (by omega) hR)
      go_wp2_with fail
      refine HDO.out.mono ?_
      clear HDO b0 b1 b2 b3 b4 b5 b6 b7 hR
      rintro e w10 ⟨rfl, F', hg, hn, hF⟩
      have HG10 := hide hg
      have HN10 := hide hn
      clear hg hF
      have HS1 := hide (show SlAt ArrV.cells 6 w10 w10.heap.size A1 Z.S.length Z.S from (own_sl ArrV.len HOW1.out rfl).stay0 (StayOn.of_near hn) (fun _ a ha => (HA1.out a ha).1) hn.size)
      clear hn
      have hzl2 : R2.S.length ≤ k + 1 := HG10.out.a.lk
      go_wp2_with fail
      refine (seen_S HG10.out.a (by omega)).mono ?_
      rintro e w11 ⟨A2, cc2, rfl, hcc2, hown2, hb2⟩
      have HS2 := hide (own_sl ArrV.len hown2 rfl)
      have HS1' := hide (HS1.out.below hb2 hb2.size)
      have HG11 := hide (HG10.out.below hb2)
      have hcm := own_cap hown2
      unfold maxLen at hcm
      clear hown2 hb2 HS1 HG10 HG9 HOW1 HB1 HA1 HN10
      have HFIN := hide (show L1 W [(W.heap.size, #[.slice n.dA n.dn n.dc, .slice n.lA n.ln n.lc])] F' gw n.devs n.ls (stS n.devs n.ls l (k + 1)) (k + 1) w11 from by rw [HST.out]; exact HG11.out.less)
      -- R12
      rcases hdg with hs | ⟨hR0, y, hs⟩
      · skip
        rcases A2 with _ | a2
        · skip
          have hz0 : R2.S.length = 0 := by
            rcases Nat.eq_zero_or_pos R2.S.length with h | h
            · exact h
            · obtain ⟨_, _, e, _⟩ := HS2.out.2 h; cases e
          have hzz : Z.S.length = 0 := by rw [← hs]; exact hz0
          have HEQ := hide (fun (c' : Nat) => equalArr_yes Z.S none A1 Z.S.length c' cc1 w11 (by omega) (by have q := HS2.out; rw [hs] at q; exact q) HS1'.out)
          have hlen : R2.S.length = Z.S.length := by rw [hs]
          have i1 : (0 : Int) ≤ (Z.S.length : Int) := by omega
          have i2 : (Z.S.length : Int) ≤ (cc2 : Int) := by omega
          have i3 : Z.S.length ≤ cc2 := by omega
          rw [hlen]
          obtain ⟨m, hm⟩ : ∃ m, Z.S.length = m := ⟨_, rfl⟩
          rw [hm] at HEQ i1 i2 i3 hzl hlen
          rw [hm]
          clear hm HS2 HS1' hz0 hzz
          clear hlen hcc1 hcc2 hs hzl2
          have j0 : (m : Int) ≤ 80 := by omega
          try have w1 : IntKind.i64.wrap ((m : Int) + 1) = (m : Int) + 1 := by go_num
          go_wp2_with fail
          refine (HEQ.out _).mono ?_
          rintro e w12 ⟨rfl, hb⟩
          have HFI2 := hide (HFIN.out.below hb)
          clear hb HEQ HFIN HG11
          by_cases hr : R1 = 0
          · subst hr
            go_wp2
            go_roundw
            case rel => exact ⟨k + 1, F', by omega, by go_num, HFI2⟩
            case measure => simp [intOf]; omega
          · have e1 : (R1 != 0) = true := by simpa using hr
            go_wp2
            go_roundw
            case rel => exact ⟨k + 1, F', by omega, by go_num, HFI2⟩
            case measure => simp [intOf]; omega
        · skip
          have HEQ := hide (fun (c' : Nat) => equalArr_yes Z.S (some a2) A1 Z.S.length c' cc1 w11 (by omega) (by have q := HS2.out; rw [hs] at q; exact q) HS1'.out)
          have hlen : R2.S.length = Z.S.length := by rw [hs]
          have i1 : (0 : Int) ≤ (Z.S.length : Int) := by omega
          have i2 : (Z.S.length : Int) ≤ (cc2 : Int) := by omega
          have i3 : Z.S.length ≤ cc2 := by omega
          rw [hlen]
          obtain ⟨m, hm⟩ : ∃ m, Z.S.length = m := ⟨_, rfl⟩
          rw [hm] at HEQ i1 i2 i3 hzl hlen
          rw [hm]
          clear hm HS2 HS1'
          clear hlen hcc1 hcc2 hs hzl2
          have j0 : (m : Int) ≤ 80 := by omega
          try have w1 : IntKind.i64.wrap ((m : Int) + 1) = (m : Int) + 1 := by go_num
          go_wp2_with fail
          refine (HEQ.out _).mono ?_
          rintro e w12 ⟨rfl, hb⟩
          have HFI2 := hide (HFIN.out.below hb)
          clear hb HEQ HFIN HG11
          by_cases hr : R1 = 0
          · subst hr
            go_wp2
            go_roundw
            case rel => exact ⟨k + 1, F', by omega, by go_num, HFI2⟩
            case measure => simp [intOf]; omega
          · have e1 : (R1 != 0) = true := by simpa using hr
            go_wp2
            go_roundw
            case rel => exact ⟨k + 1, F', by omega, by go_num, HFI2⟩
            case measure => simp [intOf]; omega
      · skip
        rcases A2 with _ | a2
        · skip
          have hz0 : R2.S.length = 0 := by
            rcases Nat.eq_zero_or_pos R2.S.length with h | h
            · exact h
            · obtain ⟨_, _, e, _⟩ := HS2.out.2 h; cases e
          have hzz : Z.S.length = 0 := by rw [hs] at hz0; simp at hz0
          have HEQ := hide (fun (c' : Nat) => equalArr_yes Z.S none A1 Z.S.length c' cc1 w11 (by omega) (by have q := HS2.out; rw [hs] at q; exact q.first rfl) HS1'.out)
          have hlen : R2.S.length = Z.S.length + 1 := by rw [hs]; simp
          have i1 : (0 : Int) ≤ (Z.S.length : Int) := by omega
          have i2 : (Z.S.length : Int) ≤ (cc2 : Int) := by omega
          have i3 : Z.S.length ≤ cc2 := by omega
          rw [hlen]
          obtain ⟨m, hm⟩ : ∃ m, Z.S.length = m := ⟨_, rfl⟩
          rw [hm] at HEQ i1 i2 i3 hzl hlen
          rw [hm]
          clear hm HS2 HS1' hz0 hzz
          clear hlen hcc1 hcc2 hs hzl2
          have j0 : (m : Int) ≤ 80 := by omega
          try have w1 : IntKind.i64.wrap ((m : Int) + 1) = (m : Int) + 1 := by go_num
          have d2 : decide ((m : Int) + 1 < (m : Int)) = false := by simp; omega
          have d3 : decide ((m : Int) + 1 < (m : Int) + 1) = false := by simp
          go_wp2_with fail
          refine (HEQ.out _).mono ?_
          rintro e w12 ⟨rfl, hb⟩
          have HFI2 := hide (HFIN.out.below hb)
          clear hb HEQ HFIN HG11
          subst hR0
          go_wp2
          go_roundw
          case rel => exact ⟨k + 1, F', by omega, by go_num, HFI2⟩
          case measure => simp [intOf]; omega
        · skip
          have HEQ := hide (fun (c' : Nat) => equalArr_yes Z.S (some a2) A1 Z.S.length c' cc1 w11 (by omega) (by have q := HS2.out; rw [hs] at q; exact q.first rfl) HS1'.out)
          have hlen : R2.S.length = Z.S.length + 1 := by rw [hs]; simp
          have i1 : (0 : Int) ≤ (Z.S.length : Int) := by omega
          have i2 : (Z.S.length : Int) ≤ (cc2 : Int) := by omega
          have i3 : Z.S.length ≤ cc2 := by omega
          rw [hlen]
          obtain ⟨m, hm⟩ : ∃ m, Z.S.length = m := ⟨_, rfl⟩
          rw [hm] at HEQ i1 i2 i3 hzl hlen
          rw [hm]
          clear hm HS2 HS1'
          clear hlen hcc1 hcc2 hs hzl2
          have j0 : (m : Int) ≤ 80 := by omega
          try have w1 : IntKind.i64.wrap ((m : Int) + 1) = (m : Int) + 1 := by go_num
          have d2 : decide ((m : Int) + 1 < (m : Int)) = false := by simp; omega
          have d3 : decide ((m : Int) + 1 < (m : Int) + 1) = false := by simp
          go_wp2_with fail
          refine (HEQ.out _).mono ?_
          rintro e w12 ⟨rfl, hb⟩
          have HFI2 := hide (HFIN.out.below hb)
          clear hb HEQ HFIN HG11
          subst hR0
          go_wp2
          go_roundw
          case rel => exact ⟨k + 1, F', by omega, by go_num, HFI2⟩
          case measure => simp [intOf]; omega
    obtain rfl : k = nl := by omega
    -- R15
    obtain ⟨Z, hZ⟩ : ∃ Z, stS n.devs n.ls l k = Z := ⟨_, rfl⟩
    have HGD := hide (show GoodW n.devs Z from by rw [← hZ]; exact good_at HE.out l k)
    rw [hZ] at HP
    clear hZ
    have hzl : Z.S.length ≤ k := HP.out.a.lk
    have HSE := hide (seen_S HP.out.a (by omega))
    go_wp2_with fail
    refine HSE.out.mono ?_
    clear HSE
    rintro e w20 ⟨A1, cc1, rfl, hcc1, hown1, hb1⟩
    have HP2 := hide (HP.out.below hb1)
    have HS := hide (fun (w' : World) (hb : Below w20.heap.size w20 w') => (own_sl ArrV.len hown1 rfl).below hb hb.size)
    clear hown1 hb1 HP hlt hk
    obtain ⟨m, hm⟩ : ∃ m, Z.S.length = m := ⟨_, rfl⟩
    rw [hm] at HS hcc1 hzl
    rw [hm]
    go_wp2_with fail
    -- LOOP2
    go_loopw [84] (fun i wr => ∃ (j : Nat), j ≤ m ∧ i = .int .i64 j ∧ Hid (Below w20.heap.size w20 wr)) (fun i _ => m - (intOf i).toNat)
    case atStart => exact ⟨0, Nat.zero_le _, rfl, hide (Below.refl _ _)⟩
    case round =>
      obtain ⟨j, hj, rfl, HB⟩ := hrel
      by_cases hlt : j < m
      case neg =>
        go_wp2
        go_ret
        exact ⟨ret_bool (by simp), HP2.out.box.bl.trans (HB.out.mono HP2.out.box.bl.size)⟩
      obtain ⟨x, hx⟩ : ∃ x, Z.S[j]? = some x := ⟨_, List.getElem?_eq_getElem (by omega)⟩
      have hsl := HS.out _ HB.out
      obtain ⟨bS, oS, rfl, hbB, _⟩ := hsl.2 (by omega)
      obtain ⟨q0, q1, q2, q3, q4, q5⟩ := arr_get hsl hx
      have hxm := List.mem_of_getElem? hx
      have HRX := hide (HGD.out.s x hxm)
      have hin : decide (x ∈ Z.S) = true := by simpa using hxm
      clear hx hsl hbB hxm
      go_wp2_with fail
      have HG := hide ((HP2.out.below HB.out).al #[.int .i64 x.d, .int .i64 x.y, .int .i64 x.p.src, .int .i64 x.p.dst, .int .i64 x.p.sport, .int .i64 x.p.dport] 43)
      have HBA := hide (HB.out.trans ((below_alloc wr (.cells #[.int .i64 x.d, .int .i64 x.y, .int .i64 x.p.src, .int .i64 x.p.dst, .int .i64 x.p.sport, .int .i64 x.p.dport] 43)).mono HB.out.size))
      obtain ⟨N, hN⟩ : ∃ N, wr.heap.size = N := ⟨_, rfl⟩
      rw [hN] at HG
      rw [hN]
      clear hN HB q0 q1 q2 q3 q4 q5
      generalize World.alloc wr _ = w21 at *
      have HHS := hide (worldHas_S HG.out.a x (arr_ok HDL.out HRX.out))
      rw [hin] at HHS
      clear hin
      refine HHS.out.mono ?_
      clear HHS
      rintro e w22 ⟨rfl, hb⟩
      have HG2 := hide (HG.out.below hb)
      have HB2 := hide (HBA.out.trans (hb.mono HBA.out.size))
      clear hb HG HBA
      obtain ⟨z0, z1, z2, z3, z4, z5⟩ := (cells6 (HG2.out.box.get 0 rfl)).1
      go_wp2_with fail
      refine (packetCheck_walk x.p w22).mono ?_
      clear z0 z1 z2 z3 z4 z5
      rintro e w23 ⟨he, hb⟩
      rw [HRX.out.1] at he
      obtain rfl : e = .returned (.int .i64 0) := he
      have HB3 := hide (HB2.out.trans (hb.mono HB2.out.size))
      clear hb HB2 HG2
      go_wp2
      go_roundw
      case rel => exact ⟨j + 1, by omega, by go_num, HB3⟩
      case measure => simp [intOf]; omega
end Go.Proofs.Ythaiffjalgionaa

set_option linter.unusedVariables false
set_option linter.unusedSimpArgs false
namespace Go.Proofs.Ythaiffjalgionaa
open Go.ChangeShapes Go.WideShapes Go.ChangeAt Go.RowKit
section
variable {H : Type} {enc : TypeId × Value → H} {w : World} {base : Nat} {spare : Nat → Bool} {held : Bool} {r : Reach} {b0 : Nat}
theorem Try.cellsEvent8 : Try.prog.cellsOf 79 = 8 := by kernel_rfl
set_option maxRecDepth 100000 in
theorem read_event {n : Nat} {cs : List Value} {y : DataW H × List MemPlace} (h : DataW.trod enc Try.prog w base spare held n 79 cs = some y) : ∃ x : ActV, x.ok ∧ cs = x.cells := by
  obtain ⟨xs, n', _, _, hlen, hxl, hf⟩ := DataW.trod_struct Try.underlying79 h
  rw [Try.cellsEvent8] at hlen
  match cs, hlen with
  | [c0, c1, c2, c3, c4, c5, c6, c7], _ =>
    have h0 := hf 0 _ rfl
    have h1 := hf 1 _ rfl
    have h2 := hf 2 _ rfl
    have h3 := hf 3 _ rfl
    have h4 := hf 4 _ rfl
    obtain ⟨y0, e0⟩ := get_some (xs := xs) (i := 0) (by rw [hxl]; decide)
    obtain ⟨y1, e1⟩ := get_some (xs := xs) (i := 1) (by rw [hxl]; decide)
    obtain ⟨y2, e2⟩ := get_some (xs := xs) (i := 2) (by rw [hxl]; decide)
    obtain ⟨y3, e3⟩ := get_some (xs := xs) (i := 3) (by rw [hxl]; decide)
    obtain ⟨y4, e4⟩ := get_some (xs := xs) (i := 4) (by rw [hxl]; decide)
    rw [e0] at h0
    rw [e1] at h1
    rw [e2] at h2
    rw [e3] at h3
    rw [e4] at h4
    simp [cellsI1, Try.cellsPacket4] at h0 h1 h2 h3 h4
    obtain ⟨a, rfl, ha⟩ := trod_i64 h0
    obtain ⟨b, rfl, hb⟩ := trod_i64 h1
    obtain ⟨c, rfl, hc⟩ := trod_i64 h2
    obtain ⟨q, hq, hm2⟩ := read_packet h3
    obtain ⟨d, rfl, hd⟩ := trod_i64 h4
    simp only [P4.cells, List.cons.injEq, and_true] at hm2
    obtain ⟨rfl, rfl, rfl, rfl⟩ := hm2
    exact ⟨⟨a, b, c, q, d⟩, ⟨ha, hb, hc, hq, hd⟩, rfl⟩
set_option maxRecDepth 100000 in
theorem open_events {v : Value} {d : DataW H} {p : List MemPlace} (hv : Value.okWide Try.prog w r b0 73 v) (h : DataW.Trod enc Try.prog w base spare held 73 v d p) :
    ∃ (A : Option Addr) (n c : Nat) (l : List ActV), v = .slice A n c ∧ n ≤ c ∧ c ≤ maxLen ∧ SlAt ActV.cells 8 w w.heap.size A n l ∧ (∀ r ∈ l, r.ok) ∧ (n = 0 ∨ ∃ elems sp, d = .slice elems sp ∧ elems.length = n) :=
  open_elems ActV.cells ActV.ok 8 Try.underlying73 Try.cellsEvent8 (by omega) ActV.len (fun _ _ _ h => read_event h) hv h
end
end Go.Proofs.Ythaiffjalgionaa

set_option linter.unusedVariables false
set_option linter.unusedSimpArgs false
namespace Go.Proofs.Ythaiffjalgionaa
open Go.ChangeShapes Go.WideShapes Go.ChangeAt Go.RowKit Go.Maps

set_option maxRecDepth 100000 in
theorem worldGrows_lifted (os : Os) (started : os.Started) (H : Type) (enc : TypeId × Value → H) :
    ReturnsInHanded {} Try.checked os 5 .any (Rows.worldGrowsSpec.pre6 enc Try.prog Try.f5 Rows.worldGrowsRow.domain false) (Rows.worldGrowsSpec.post enc Try.prog Try.f5 false true false false) :=
  law_lifted (C := Try.checked) (tb := 4) Try.own started (by kernel_rfl) Try.func5 Try.laidOut (by kernel_rfl) rfl (by kernel_rfl) Try.underlying4
    (fun ds h => by
      match ds, h with
      | [_, _], _ => exact ⟨rfl, rfl, rfl⟩)
    (ChangeSpec.witness6 (enc := enc) (C := Try.checked) false ⟨#[], #[.agg #[.slice none 0 0, .slice none 0 0], .slice none 0 0], []⟩ 8 (by kernel_rfl) (by kernel_rfl) (by kernel_rfl) (by kernel_rfl))
    (fun W base args ds p hval0 hA0 hlt hsz => by
      have hval : ∀ (j : Nat) t v, Try.f5.params[j]? = some t → args[j]? = some v → Value.okWide Try.prog W .any base t v := hval0
      have hA : DataW.TrodAll enc Try.prog W 0 (fun _ => true) true Try.f5.params.toList args.toList ds p := hA0
      rw [Try.params5] at hA hval
      obtain ⟨v0, vs0, d0, ds0, p0, q0, hargs, rfl, rfl, h0, r0⟩ := args_cons hA
      obtain ⟨v1, vs1, d1, ds1, p1, q1, rfl, rfl, rfl, h1, r1⟩ := args_cons r0
      obtain ⟨rfl, rfl, rfl⟩ := args_nil r1
      obtain rfl : args = #[v0, v1] := arr_eq hargs
      obtain ⟨n0, hn0, rfl⟩ := open_net (hval 0 _ v0 rfl rfl) h0
      obtain ⟨A1, n1, c1, l1, rfl, hnc1, hcm1, hl1, hok1, _⟩ := open_events (hval 1 _ v1 rfl rfl) h1
      exact worldGrows_walk n0 A1 n1 c1 l1 W hn0 hl1 hok1 ⟨hnc1, hcm1⟩)

theorem worldGrows_holds : Rows.WorldGrowsSaid :=
  OpenClaim.holds_of_wide 5 Try.f5 rfl rfl rfl rfl rfl rfl rfl ⟨rfl, rfl, rfl, rfl, rfl⟩ rfl rfl rfl rfl rfl (by kernel_rfl) Try.func5 (by kernel_rfl)
    (of_decide_eq_true (by kernel_rfl)) (by unfold Func.isWrapper; first | (rw [if_pos (by decide +kernel)]; kernel_rfl) | (rw [if_neg (by decide +kernel)]; exact ⟨rfl, rfl⟩))
    (fun os started H enc _ => worldGrows_lifted os started H enc)
end Go.Proofs.Ythaiffjalgionaa
