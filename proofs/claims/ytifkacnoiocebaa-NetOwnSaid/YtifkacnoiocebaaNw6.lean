/- A part of the proof: NetCheck. -/
import Derived.Test.YtifkacnoiocebaaNw5
set_option linter.unusedVariables false
set_option linter.unusedSimpArgs false
set_option maxRecDepth 100000
set_option maxHeartbeats 16000000
namespace Go.Proofs.Ytifkacnoiocebaa
open Go.RowKit
theorem cell_new (w : World) (cs : Array Value) (t : TypeId) {w' : World} {N : Nat} (hN : w.heap.size = N) (hb : Below (N + 1) (w.alloc (.cells cs t)) w') (o : Nat) (v : Value) (hv : cs[o]? = some v) : w'.cell? ⟨N, o, none⟩ = some v := by
  subst hN
  have h := (hb.block w.heap.size (Nat.lt_succ_self _)).trans (heap_alloc_new w _)
  rw [cell_of_row _ _ _ _ _ _ h]
  exact hv
theorem own_sl {α : Type} {cells : α → List Value} {s n base e c : Nat} {w : World} {A : Option Addr} {l : List α} (hs : ∀ r, (cells r).length = s) (h : w.ownsRow base e s (.slice A n c) n (l.flatMap cells)) (hl : l.length = n) : SlAt cells s w w.heap.size A n l := by
  obtain ⟨A', c', e', _, h', _⟩ := SlAt.of_own hs h hl
  cases e'
  exact h'
theorem Try.infoPlace : (Try.prog.info? 45).map (fun i => (i.zero, i.size, i.bytes)) = some (some (.agg #[.int .i64 0, .int .i64 0]), 2, 16) := by kernel_rfl
theorem netCheck_walk (n : NetV) (W : World) (hn : NetAt W W.heap.size n) :
    Calls Try.prog 37 #[n.val] W fun e W' => e = .returned (.int .i64 (netE n.devs n.ls)) ∧ RowKit.Below W.heap.size W W' := by
  obtain ⟨i0, hi0, hz0, hz1, hz2⟩ := info_parts Try.infoPlace
  obtain ⟨dA, dn, dc, ds, lA, ln, lc, ls⟩ := n
  obtain ⟨W0, hW0⟩ : ∃ W0, W0 = W.alloc (.cells #[.slice dA dn dc, .slice lA ln lc] 25) := ⟨_, rfl⟩
  have HB0 := hide (show RowKit.Below W.heap.size W W0 from by rw [hW0]; exact (RowKit.Below.refl _ _).alloc (Nat.le_refl _) _)
  have HSZ := hide (show W0.heap.size = W.heap.size + 1 from by rw [hW0]; simp)
  have HQ := hide (fun (w' : World) (hb : RowKit.Below W0.heap.size W0 w') => show (w'.cell? ⟨W.heap.size, 0, none⟩ = some (.slice dA dn dc) ∧ w'.cell? ⟨W.heap.size, 1, none⟩ = some (.slice lA ln lc)) ∧ NetAt w' w'.heap.size ⟨dA, dn, dc, ds, lA, ln, lc, ls⟩ ∧ RowKit.Below W.heap.size W w' from by
    have h1 := HB0.out.trans (hb.mono (by rw [HSZ.out]; omega))
    rw [HSZ.out, hW0] at hb
    exact ⟨⟨cell_new W _ _ rfl hb 0 _ rfl, cell_new W _ _ rfl hb 1 _ rfl⟩, hn.below h1 h1.size, h1⟩)
  have HDL := hide (show ds.length = dn from hn.dlen)
  have HLL := hide (show ls.length = ln from hn.llen)
  have hdc : dn ≤ dc := hn.cd.1
  have hlc : ln ≤ lc := hn.cl.1
  have HM := hide (And.intro hn.cd.2 hn.cl.2)
  clear hn
  have HN := hide (show netE (NetV.devs ⟨dA, dn, dc, ds, lA, ln, lc, ls⟩) ls = if 10 < dn ∨ 15 < ln then 2 else if devsE [] (ds.map DevV.dev) = 0 then linksE (ds.map DevV.dev) [] ls else devsE [] (ds.map DevV.dev) from by
    unfold netE NetV.devs; rw [List.length_map, HDL.out, HLL.out])
  simp only [NetV.val] at *
  generalize netE _ _ = E at *
  obtain ⟨x0, x1⟩ := (HQ.out W0 (RowKit.Below.refl _ _)).1
  have HR := hide (RowKit.Below.refl W0.heap.size W0)
  by_cases h10 : 10 < dn
  · have HF := hide (show E = 2 from by rw [HN.out, if_pos (.inl h10)])
    clear HN x0 x1
    subst hW0
    go_enter Try.func37, Try.ntmps37
    go_wp2
    go_ret
    exact ⟨ret_i64' HF.out.symm, (HQ.out _ HR.out).2.2⟩
  by_cases h15 : 15 < ln
  · have HF := hide (show E = 2 from by rw [HN.out, if_pos (.inr h15)])
    clear HN x0 x1
    subst hW0
    go_enter Try.func37, Try.ntmps37
    go_wp2
    go_ret
    exact ⟨ret_i64' HF.out.symm, (HQ.out _ HR.out).2.2⟩
  have HN2 := hide (show E = if devsE [] (ds.map DevV.dev) = 0 then linksE (ds.map DevV.dev) [] ls else devsE [] (ds.map DevV.dev) from by rw [HN.out, if_neg (by omega)])
  clear HN x0 x1
  go_enter Try.func37, Try.ntmps37
  go_wp2
  rw [← hW0]
  clear hW0
  go_loopw [26] (fun i wr => ∃ k : Nat, k ≤ dn ∧ i = .int .i64 k ∧ Hid (devsE [] (ds.map DevV.dev) = devsE ((ds.map DevV.dev).take k) ((ds.map DevV.dev).drop k)) ∧ Hid (RowKit.Below W0.heap.size W0 wr)) (fun i _ => dn - (intOf i).toNat)
  case atStart => exact ⟨0, Nat.zero_le _, rfl, hide rfl, hide (RowKit.Below.refl _ _)⟩
  case round =>
    obtain ⟨k, hk, rfl, HC, HB⟩ := hrel
    obtain ⟨⟨x0, x1⟩, hna, hbW⟩ := HQ.out wr HB.out
    have HNA := hide hna
    have HBW := hide hbW
    clear hna hbW
    by_cases hlt : k < dn
    · obtain ⟨r, hr⟩ : ∃ r, ds[k]? = some r := ⟨_, List.getElem?_eq_getElem (by have := HDL.out; omega)⟩
      have HS := hide (devsE_step (l := ds.map DevV.dev) (k := k) (d := r.dev) (by rw [List.getElem?_map, hr]; rfl))
      obtain ⟨b, o, rfl, _, _⟩ := HNA.out.ds.2 (by show 0 < dn; omega)
      obtain ⟨hbB, q0, q1, q2, q3, q4, q5, q6⟩ := dev_get HNA.out.ds hr
      have hdok := HNA.out.dok r (List.mem_of_getElem? hr)
      have HDK := hide hdok
      have hnm := hdok.nm
      obtain ⟨nm, kd, ad, pl, bA, bn, bc, bs, rA, rn, rc, rs, tA, tn, tc, ts⟩ := r
      have hN : ∃ N, wr.heap.size = N := ⟨_, rfl⟩
      obtain ⟨N, hN⟩ := hN
      obtain ⟨w1, hw1⟩ : ∃ w1, w1 = wr.alloc (.cells #[.string nm, .int .i64 kd, .int .i64 ad, .int .u8 pl, .slice bA bn bc, .slice rA rn rc, .slice tA tn tc] 61) := ⟨_, rfl⟩
      have HB1 := hide (show RowKit.Below W0.heap.size W0 w1 from by rw [hw1]; exact HB.out.alloc HB.out.size _)
      have HX1 := hide (fun (w' : World) (hb : RowKit.Below w1.heap.size w1 w') => show DBox w' N ⟨nm, kd, ad, pl, bA, bn, bc, bs, rA, rn, rc, rs, tA, tn, tc, ts⟩ ∧ (w'.cell? ⟨W.heap.size, 0, none⟩ = some (.slice (some ⟨b, o, none⟩) dn dc) ∧ w'.cell? ⟨W.heap.size, 1, none⟩ = some (.slice lA ln lc)) ∧ RowKit.Below W0.heap.size W0 w' ∧ N < w'.heap.size from by
        have hs : w1.heap.size = N + 1 := by rw [hw1, ← hN]; simp
        have h1 := HB1.out.trans (hb.mono HB1.out.size)
        have h2 := hb.size
        refine ⟨DBox.below (w := w1) (by rw [hw1, ← hN]; exact DBox.new wr ⟨nm, kd, ad, pl, bA, bn, bc, bs, rA, rn, rc, rs, tA, tn, tc, ts⟩ _) hb (by omega), (HQ.out w' h1).1, h1, by omega⟩)
      have HDW := hide (device_walk ⟨nm, kd, ad, pl, bA, bn, bc, bs, rA, rn, rc, rs, tA, tn, tc, ts⟩)
      have HDA := hide (fun (w' : World) (hb : RowKit.Below w1.heap.size w1 w') => show DevAt w' w'.heap.size ⟨nm, kd, ad, pl, bA, bn, bc, bs, rA, rn, rc, rs, tA, tn, tc, ts⟩ from by
        have h1 := (HX1.out w' hb).2.2.1
        exact (HQ.out w' h1).2.1.dok _ (List.mem_of_getElem? hr))
      clear hr hdok
      simp only [DevV.dev] at HS HDW
      have HW1 := hide hw1
      clear hw1
      go_wp2_with fail
      refine (named_walk nm _ hnm).mono ?_
      rintro e w' ⟨rfl, rfl⟩
      rw [← HW1.out]
      clear q0 q1 q2 q3 q4 q5 q6 x0 x1
      obtain ⟨⟨y0, y1, y2, y3, y4, y5, y6⟩, ⟨x0, x1⟩, _, hNs⟩ := HX1.out w1 (RowKit.Below.refl _ _)
      cases e1 : namedB nm
      · have HF := hide (show E = 3 from by rw [HN2.out, HC.out, HS.out]; simp [e1])
        go_wp2
        go_ret
        exact ⟨ret_i64' HF.out.symm, (HQ.out _ HB1.out).2.2⟩
      have HCT := hide (containsFuncDev_any (ds.take k) (some ⟨b, o, none⟩) k dc 50 #[.pointer (some ⟨N, 0, none⟩)] (fun x => nameEq x.name nm) w1 (by omega) ((HQ.out _ HB1.out).2.1.ds.take (by show k ≤ dn; omega)) (fun args w => by go_simp) (hide (fun r w' hr hw' => by
        obtain ⟨⟨z0, _⟩, _, _, hNl⟩ := HX1.out w' hw'
        exact checkClos_walk r nm N w' hNl z0)))
      have HAN := hide (show ((ds.map DevV.dev).take k).any (fun x => nameEq x.name nm) = (ds.take k).any (fun x => nameEq x.name nm) from by rw [← List.map_take, List.any_map]; rfl)
      have g1 : (k : Int) ≤ (dc : Int) := by omega
      have g2 : dc ≤ 9223372036854775807 := by have := HM.out.1; unfold maxLen at this; exact this
      go_wp2_with fail
      refine HCT.out.mono ?_
      clear HCT
      rintro e w2 ⟨rfl, hb⟩
      have HB2 := hide hb
      clear hb y0 y1 y2 y3 y4 y5 y6 x0 x1
      obtain ⟨⟨y0, y1, y2, y3, y4, y5, y6⟩, ⟨x0, x1⟩, hb2, _⟩ := HX1.out w2 HB2.out
      have HB2W := hide hb2
      clear hb2
      generalize hany : (ds.take k).any (fun x => nameEq x.name nm) = ANY at *
      clear hany
      cases ANY
      case true =>
        have HF := hide (show E = 5 from by rw [HN2.out, HC.out, HS.out]; simp [e1, HAN.out])
        go_wp2
        go_ret
        exact ⟨ret_i64' HF.out.symm, (HQ.out _ HB2W.out).2.2⟩
      have HDE := hide (HDW.out w2 (HDA.out w2 HB2.out))
      simp only [DevV.val] at HDE
      obtain ⟨DE, hDE⟩ : ∃ DE, devE ⟨nm, kd, ad, pl, bs, rs, ts⟩ = DE := ⟨_, rfl⟩
      simp only [hDE] at HS HDE
      clear hDE
      go_wp2_with fail
      refine HDE.out.mono ?_
      clear HDE HDW
      rintro e w3 ⟨rfl, hb⟩
      have HB3 := hide (HB2W.out.trans (hb.mono HB2W.out.size))
      clear hb y0 y1 y2 y3 y4 y5 y6 x0 x1
      by_cases hde : DE = 0
      · subst hde
        have HF := hide (show devsE [] (ds.map DevV.dev) = devsE ((ds.map DevV.dev).take (k + 1)) ((ds.map DevV.dev).drop (k + 1)) from by rw [HC.out, HS.out]; simp [e1, HAN.out])
        clear HS e1 HAN
        go_wp2
        go_roundw
        case rel => exact ⟨k + 1, by omega, by go_num, HF, HB3⟩
        case measure => simp [intOf]; omega
      · have d1 : (DE != 0) = true := by simpa using hde
        have d2 : (DE == 0) = false := by simpa using hde
        have HF := hide (show E = DE from by rw [HN2.out, HC.out, HS.out]; simp [e1, HAN.out, hde])
        clear HS e1 HAN hde
        go_wp2
        go_ret
        exact ⟨ret_i64' HF.out.symm, (HQ.out _ HB3.out).2.2⟩
    · have HF := hide (show E = linksE (ds.map DevV.dev) [] ls from by
        have : devsE [] (ds.map DevV.dev) = 0 := by rw [HC.out, List.drop_of_length_le (by rw [List.length_map]; have := HDL.out; omega)]; rfl
        rw [HN2.out, if_pos this])
      have HO := hide (World.ownsRow_nil wr W0.heap.size 45 2)
      have HBs := HB
      go_wp2
      clear HC hk hlt x0 x1 HB HNA HBW
      go_loopw [6, 50] (fun v i wr => ∃ (k : Nat) (ends : List Pl), k ≤ ln ∧ i = .int .i64 k ∧ Hid (E = linksE (ds.map DevV.dev) ends (ls.drop k)) ∧ Hid (RowKit.Below W0.heap.size W0 wr) ∧ Hid (wr.ownsRow W0.heap.size 45 2 v ends.length (ends.flatMap plCells)) ∧ Hid (ends.length = 2 * k)) (fun _ i _ => ln - (intOf i).toNat)
      case atStart => exact ⟨0, [], Nat.zero_le _, rfl, HF, HBs, HO, hide rfl⟩
      case round =>
        clear HF HO HBs
        obtain ⟨k, ends, hk, rfl, HC, HB, HO, HEL⟩ := hrel
        generalize u6 = v at *
        obtain ⟨⟨x0, x1⟩, hna, hbW⟩ := HQ.out wr HB.out
        have HNA := hide hna
        have HBW := hide hbW
        clear hna hbW
        by_cases hlt : k < ln
        · obtain ⟨r, hr⟩ : ∃ r, ls[k]? = some r := ⟨_, List.getElem?_eq_getElem (by have := HLL.out; omega)⟩
          have HBAD := hide (fun j (hj : j < 2) h1 h2 => HC.out.trans (linksE_bad (ds := ds.map DevV.dev) (ends := ends) (j := j) hr hj h1 h2))
          have HGOOD := hide (fun h1 => HC.out.trans (linksE_good (ds := ds.map DevV.dev) (ends := ends) hr h1))
          obtain ⟨b, o, rfl, _, _⟩ := HNA.out.ls.2 (by show 0 < ln; omega)
          obtain ⟨hbB, q0, q1, q2, q3⟩ := link_get HNA.out.ls hr
          obtain ⟨hka, hkp, hkb, hkq⟩ := HNA.out.lok r (List.mem_of_getElem? hr)
          clear hka hkp hkb hkq hr
          obtain ⟨A2, c2, rfl, hc2, _, _⟩ := SlAt.of_own plCells_len HO.out rfl
          obtain ⟨ra, rp, rb, rq⟩ := r
          go_wp2
          clear q0 q1 q2 q3 x0 x1
          obtain ⟨N, hN⟩ : ∃ N, wr.heap.size = N := ⟨_, rfl⟩
          have HWA := hide (fun t1 t2 => show RowKit.Below N wr ((wr.alloc (.cells #[.int .i64 ra, .int .i64 rp, .int .i64 rb, .int .i64 rq] t1)).alloc (.cells #[.int .i64 ra, .int .i64 rp, .int .i64 rb, .int .i64 rq] t2)) from by rw [← hN]; exact ((RowKit.Below.refl _ _).alloc (Nat.le_refl _) _).alloc (by simp) _)
          have HWC := hide (fun t1 t2 (w' : World) (hb : RowKit.Below (N + 2) ((wr.alloc (.cells #[.int .i64 ra, .int .i64 rp, .int .i64 rb, .int .i64 rq] t1)).alloc (.cells #[.int .i64 ra, .int .i64 rp, .int .i64 rb, .int .i64 rq] t2)) w') => show (w'.cell? ⟨N, 0, none⟩ = some (.int .i64 ra) ∧ w'.cell? ⟨N, 1, none⟩ = some (.int .i64 rp) ∧ w'.cell? ⟨N, 2, none⟩ = some (.int .i64 rb) ∧ w'.cell? ⟨N, 3, none⟩ = some (.int .i64 rq)) ∧ (∀ j, j < 2 → w'.cell? ⟨N + 1, j * 2, none⟩ = some (.int .i64 (pjL ⟨ra, rp, rb, rq⟩ j).1) ∧ w'.cell? ⟨N + 1, j * 2 + 1, none⟩ = some (.int .i64 (pjL ⟨ra, rp, rb, rq⟩ j).2)) from by
            have hs1 : (wr.alloc (.cells #[.int .i64 ra, .int .i64 rp, .int .i64 rb, .int .i64 rq] t1)).heap.size = N + 1 := by rw [← hN]; simp
            have c1 : ∀ o v, (#[Value.int .i64 ra, .int .i64 rp, .int .i64 rb, .int .i64 rq] : Array Value)[o]? = some v → w'.cell? ⟨N, o, none⟩ = some v := fun o v hv => by
              rw [hb.cell (p := ⟨N, o, none⟩) (by show N < _; omega), World.cell?_alloc_lt _ _ _ (by show N < _; omega), ← hN, cell_of_row _ _ _ _ _ _ (heap_alloc_new wr _)]
              exact hv
            have c2 : ∀ o v, (#[Value.int .i64 ra, .int .i64 rp, .int .i64 rb, .int .i64 rq] : Array Value)[o]? = some v → w'.cell? ⟨N + 1, o, none⟩ = some v := fun o v hv => cell_new _ _ _ hs1 hb o v hv
            refine ⟨⟨c1 0 _ rfl, c1 1 _ rfl, c1 2 _ rfl, c1 3 _ rfl⟩, fun j hj => ?_⟩
            rcases (by omega : j = 0 ∨ j = 1) with rfl | rfl
            · exact ⟨c2 0 _ rfl, c2 1 _ rfl⟩
            · exact ⟨c2 2 _ rfl, c2 3 _ rfl⟩)
          have HW1 := HWA.out 66 45
          have HW2 := HWC.out 66 45
          have hsA : ((wr.alloc (.cells #[.int .i64 ra, .int .i64 rp, .int .i64 rb, .int .i64 rq] 66)).alloc (.cells #[.int .i64 ra, .int .i64 rp, .int .i64 rb, .int .i64 rq] 45)).heap.size = N + 2 := by rw [← hN]; simp
          clear HWA HWC
          generalize World.alloc (World.alloc wr _) _ = wA at *
          have HA1 := hide HW1
          have HA2 := hide HW2
          have HSA := hide hsA
          have hNW : W0.heap.size ≤ N := by rw [← hN]; exact HB.out.size
          have HBA := hide (HB.out.trans (HW1.mono hNW))
          have HOA := hide (fun (w' : World) (hb : RowKit.Below N wr w') => own_below HO.out (by rw [hN]; exact hb))
          rw [hN]
          clear HW1 HW2 hsA HO HB hN HNA HBW
          obtain ⟨wo, hwo⟩ : ∃ wo : World, wo = wr := ⟨_, rfl⟩
          rw [← hwo] at HA1 HOA
          clear hwo
          have HR0 := hide (RowKit.Below.refl wA.heap.size wA)
          go_loopw [66] (fun i wj => ∃ j : Nat, j ≤ 2 ∧ i = .int .i64 j ∧ Hid (∀ i, i < j → placeB (ds.map DevV.dev) (pjL ⟨ra, rp, rb, rq⟩ i) = true) ∧ Hid (RowKit.Below wA.heap.size wA wj)) (fun i _ => 2 - (intOf i).toNat)
          case atStart => exact ⟨0, Nat.zero_le _, rfl, hide (fun i h => absurd h (by omega)), HR0⟩
          case round =>
            clear HR0
            obtain ⟨j, hj, rfl, HP, HJ⟩ := hrel
            have HJ0 := hide (HBA.out.trans (HJ.out.mono HBA.out.size))
            have hNA : N + 2 ≤ wr.heap.size := by have := HJ.out.size; have := HSA.out; omega
            by_cases hj2 : j < 2
            · obtain ⟨q0, q1⟩ := (HA2.out wr (HSA.out ▸ HJ.out)).2 j hj2
              have HBJ := hide (fun h => HBAD.out j hj2 HP.out h)
              have HPJ := hide (fun (h : placeB (ds.map DevV.dev) (pjL ⟨ra, rp, rb, rq⟩ j) = true) i (hi : i < j + 1) => show placeB (ds.map DevV.dev) (pjL ⟨ra, rp, rb, rq⟩ i) = true from by
                rcases (by omega : i < j ∨ i = j) with h1 | rfl
                · exact HP.out i h1
                · exact h)
              obtain ⟨X, Y, hXY⟩ : ∃ X Y, pjL ⟨ra, rp, rb, rq⟩ j = (X, Y) := ⟨_, _, rfl⟩
              simp only [hXY] at q0 q1 HBJ HPJ
              clear hXY
              have hMl : W.heap.size < wr.heap.size := by have := HJ0.out.size; have := HSZ.out; omega
              obtain ⟨⟨x0, x1⟩, hna, hbW⟩ := HQ.out wr HJ0.out
              have HNA := hide hna
              have HBW := hide hbW
              clear hna hbW
              obtain ⟨M, hM⟩ : ∃ M, wr.heap.size = M := ⟨_, rfl⟩
              have HMB := hide (fun (w' : World) (hb : RowKit.Below (M + 1) (wr.alloc (.cells #[.int .i64 X, .int .i64 Y] 45)) w') => show (w'.cell? ⟨M, 0, none⟩ = some (.int .i64 X) ∧ w'.cell? ⟨M, 1, none⟩ = some (.int .i64 Y)) ∧ RowKit.Below wA.heap.size wA w' from
                ⟨⟨cell_new wr _ _ hM hb 0 _ rfl, cell_new wr _ _ hM hb 1 _ rfl⟩, HJ.out.trans ((((RowKit.Below.refl wr.heap.size wr).alloc (Nat.le_refl _) _).trans (hb.mono (by omega))).mono HJ.out.size)⟩)
              cases e1 : (decide (0 ≤ X) && decide (X < (dn : Int)))
              · have HF := hide (show E = 1 from HBJ.out (by simp only [placeB, List.length_map, HDL.out, e1]; rfl))
                go_wp2
                have HMC := HMB.out
                have hsB : (wr.alloc (.cells #[.int .i64 X, .int .i64 Y] 45)).heap.size = M + 1 := by simp [hM]
                clear HMB q0 q1 x0 x1 hM
                generalize World.alloc wr _ = wB at *
                have HMB := hide HMC
                have HSB := hide hsB
                clear HMC hsB
                refine wp_region_abs (by kernel_rfl) (by kernel_rfl) ?_
                intro T hT gt hg hgi
                have HGT := hide hg
                have HGI := hide hgi
                clear hg hgi
                have HGB := hide (fun t => (HMB.out _ (HSB.out ▸ HGT.out t)).2)
                have HGQ := hide (fun t => HQ.out _ (HBA.out.trans ((HGB.out t).mono HBA.out.size)))
                have k0 := fun t => (HMB.out _ (HSB.out ▸ HGT.out t)).1.1
                have k1 := fun t => (HMB.out _ (HSB.out ▸ HGT.out t)).1.2
                have k2 := fun t => (HGQ.out t).1.1
                have HC1 := hide (fun t => nwithin_walk X dn (gt t) false e1)
                clear e1
                repeat (go_big_quiet_step ((go_at_call 52; exact inAbsSame (HC1.out _))))
                refine wpQuiet_nil ?_
                intro _ hw'
                obtain ⟨t, rfl⟩ := hw'
                have HG1 := hide (HGB.out t)
                generalize gt t = w9 at *
                clear k0 k1 k2 HGT HGI HGQ HGB
                go_wp2
                go_ret
                exact ⟨ret_i64' HF.out.symm, (HQ.out _ (HBA.out.trans (HG1.out.mono HBA.out.size))).2.2⟩
              · have e1' := e1
                simp only [Bool.and_eq_true, decide_eq_true_eq] at e1'
                obtain ⟨i, rfl⟩ : ∃ i : Nat, X = (i : Int) := ⟨X.toNat, by omega⟩
                obtain ⟨rd, hrd⟩ : ∃ r, ds[i]? = some r := ⟨_, List.getElem?_eq_getElem (by have := HDL.out; omega)⟩
                have HKA := hide (show kindAt (ds.map DevV.dev) (i : Int) = rd.kind from by simp [kindAt, hrd, DevV.dev])
                obtain ⟨db, od, rfl, _, _⟩ := HNA.out.ds.2 (by show 0 < dn; omega)
                have HKC := hide (fun (w' : World) (hb : RowKit.Below W0.heap.size W0 w') => (dev_get (HQ.out w' hb).2.1.ds hrd).2.2.1)
                have i1 : (0 : Int) ≤ (i : Int) := by omega
                have i2 : (i : Int) < (dn : Int) := by omega
                have i3 : (dn : Int) ≤ 9223372036854775807 := by omega
                have HPB := hide (show placeB (ds.map DevV.dev) ((i : Int), Y) = (decide (0 ≤ Y) && decide (Y < portsF rd.kind)) from by simp only [placeB, List.length_map, HDL.out, e1, HKA.out]; rfl)
                cases e2 : (decide (0 ≤ Y) && decide (Y < portsF rd.kind))
                · have HF := hide (show E = 1 from HBJ.out (by rw [HPB.out, e2]))
                  go_wp2
                  have HMC := HMB.out
                  have hsB : (wr.alloc (.cells #[.int .i64 (i : Int), .int .i64 Y] 45)).heap.size = M + 1 := by simp [hM]
                  clear HMB q0 q1 x0 x1 hM
                  generalize World.alloc wr _ = wB at *
                  have HMB := hide HMC
                  have HSB := hide hsB
                  clear HMC hsB
                  refine wp_region_abs (by kernel_rfl) (by kernel_rfl) ?_
                  intro T hT gt hg hgi
                  have HGT := hide hg
                  have HGI := hide hgi
                  clear hg hgi
                  have HGB := hide (fun t => (HMB.out _ (HSB.out ▸ HGT.out t)).2)
                  have HGQ := hide (fun t => HQ.out _ (HBA.out.trans ((HGB.out t).mono HBA.out.size)))
                  have k0 := fun t => (HMB.out _ (HSB.out ▸ HGT.out t)).1.1
                  have k1 := fun t => (HMB.out _ (HSB.out ▸ HGT.out t)).1.2
                  have k2 := fun t => (HGQ.out t).1.1
                  have k3 := fun t => HKC.out (gt t) (HBA.out.trans ((HGB.out t).mono HBA.out.size))
                  have HC1 := hide (fun t => nwithin_walk i dn (gt t) true e1)
                  have HC2 := hide (fun t => ports_walk rd.kind (gt t))
                  have HC3 := hide (fun t => nwithin_walk Y (portsF rd.kind) (gt t) false e2)
                  clear e1 e2 e1'
                  generalize portsF rd.kind = PF at *
                  repeat (go_big_quiet_step (first | (go_at_call_of 52 (Value.int .i64 dn); exact inAbsSame (HC1.out _)) | (go_at_call 52; exact inAbsSame (HC3.out _)) | (go_at_call 43; exact inAbsSame (HC2.out _))))
                  refine wpQuiet_nil ?_
                  intro _ hw'
                  obtain ⟨t, rfl⟩ := hw'
                  have HG1 := hide (HGB.out t)
                  generalize gt t = w9 at *
                  clear k0 k1 k2 HGT HGI HGQ HGB
                  clear k3
                  go_wp2
                  go_ret
                  exact ⟨ret_i64' HF.out.symm, (HQ.out _ (HBA.out.trans (HG1.out.mono HBA.out.size))).2.2⟩
                · have HF := hide (HPJ.out (by rw [HPB.out, e2]))
                  go_wp2
                  have HMC := HMB.out
                  have hsB : (wr.alloc (.cells #[.int .i64 (i : Int), .int .i64 Y] 45)).heap.size = M + 1 := by simp [hM]
                  clear HMB q0 q1 x0 x1 hM
                  generalize World.alloc wr _ = wB at *
                  have HMB := hide HMC
                  have HSB := hide hsB
                  clear HMC hsB
                  refine wp_region_abs (by kernel_rfl) (by kernel_rfl) ?_
                  intro T hT gt hg hgi
                  have HGT := hide hg
                  have HGI := hide hgi
                  clear hg hgi
                  have HGB := hide (fun t => (HMB.out _ (HSB.out ▸ HGT.out t)).2)
                  have HGQ := hide (fun t => HQ.out _ (HBA.out.trans ((HGB.out t).mono HBA.out.size)))
                  have k0 := fun t => (HMB.out _ (HSB.out ▸ HGT.out t)).1.1
                  have k1 := fun t => (HMB.out _ (HSB.out ▸ HGT.out t)).1.2
                  have k2 := fun t => (HGQ.out t).1.1
                  have k3 := fun t => HKC.out (gt t) (HBA.out.trans ((HGB.out t).mono HBA.out.size))
                  have HC1 := hide (fun t => nwithin_walk i dn (gt t) true e1)
                  have HC2 := hide (fun t => ports_walk rd.kind (gt t))
                  have HC3 := hide (fun t => nwithin_walk Y (portsF rd.kind) (gt t) true e2)
                  clear e1 e2 e1'
                  generalize portsF rd.kind = PF at *
                  repeat (go_big_quiet_step (first | (go_at_call_of 52 (Value.int .i64 dn); exact inAbsSame (HC1.out _)) | (go_at_call 52; exact inAbsSame (HC3.out _)) | (go_at_call 43; exact inAbsSame (HC2.out _))))
                  refine wpQuiet_nil ?_
                  intro _ hw'
                  obtain ⟨t, rfl⟩ := hw'
                  have HG1 := hide (HGB.out t)
                  generalize gt t = w9 at *
                  clear k0 k1 k2 HGT HGI HGQ HGB
                  clear k3
                  go_wp2
                  go_roundw
                  case rel => exact ⟨j + 1, by omega, by go_num, HF, HG1⟩
                  case measure => simp [intOf]; omega
            · obtain rfl : j = 2 := by omega
              have HG := hide (HGOOD.out HP.out)
              obtain ⟨y0, y1, y2, y3⟩ := (HA2.out wr (HSA.out ▸ HJ.out)).1
              have hEL : ends.length ≤ 30 := by have := HEL.out; omega
              have hNM : N + 2 ≤ wr.heap.size := hNA
              clear HP HBAD HGOOD hNA
              go_wp2
              obtain ⟨M, hM⟩ : ∃ M, wr.heap.size = M := ⟨_, rfl⟩
              have HF1 : Hid (∀ (u v : Pl), Below wr.heap.size wr ((wr.alloc (.cells #[.int .i64 u.1, .int .i64 u.2] 45)).alloc (.cells #[.int .i64 v.1, .int .i64 v.2] 45)) ∧ ((wr.alloc (.cells #[.int .i64 u.1, .int .i64 u.2] 45)).alloc (.cells #[.int .i64 v.1, .int .i64 v.2] 45)).heap.size = M + 2 ∧
                  Box2 ((wr.alloc (.cells #[.int .i64 u.1, .int .i64 u.2] 45)).alloc (.cells #[.int .i64 v.1, .int .i64 v.2] 45)) M u.1 u.2 ∧ Box2 ((wr.alloc (.cells #[.int .i64 u.1, .int .i64 u.2] 45)).alloc (.cells #[.int .i64 v.1, .int .i64 v.2] 45)) (M + 1) v.1 v.2) := hide (fun u v => by
                have hb1 : Below wr.heap.size wr (wr.alloc (.cells #[.int .i64 u.1, .int .i64 u.2] 45)) := (Below.refl _ _).alloc (Nat.le_refl _) _
                have hs : (wr.alloc (.cells #[.int .i64 u.1, .int .i64 u.2] 45)).heap.size = M + 1 := by rw [← hM]; simp
                have b1 := Box2.new wr u.1 u.2 45
                have b2 := Box2.new (wr.alloc (.cells #[.int .i64 u.1, .int .i64 u.2] 45)) v.1 v.2 45
                rw [hM] at b1
                rw [hs] at b2
                refine ⟨hb1.alloc hb1.size _, by simp; omega, b1.below ((Below.refl _ _).alloc (Nat.le_refl _) _) (by omega), b2⟩)
              go_region_held3 (fun w' => w'.cell? ⟨N, 0, none⟩ = some (.int .i64 ra) ∧ w'.cell? ⟨N, 1, none⟩ = some (.int .i64 rp) ∧ w'.cell? ⟨N, 2, none⟩ = some (.int .i64 rb) ∧ w'.cell? ⟨N, 3, none⟩ = some (.int .i64 rq)) (go_keep) (fail)
              · obtain ⟨hbz, hsz, b1, b2⟩ := HF1.out (ra, rp) (rb, rq)
                have HBz := hide (HJ.out.trans (hbz.mono HJ.out.size))
                have HSz := hide hsz
                generalize World.alloc (World.alloc wr _) _ = wz at *
                have HBX := hide (fun (w' : World) (hb : RowKit.Below wz.heap.size wz w') => And.intro (b1.below hb (by have := HSz.out; omega)) (b2.below hb (by have := HSz.out; omega)))
                have HBw := hide (fun (w' : World) (hb : RowKit.Below wz.heap.size wz w') => HBz.out.trans (hb.mono HBz.out.size))
                have HOw := hide (fun (w' : World) (hb : RowKit.Below wz.heap.size wz w') => HOA.out w' (HA1.out.trans ((HBz.out.trans (hb.mono HBz.out.size)).mono (by have := HSA.out; omega))))
                have HD := hide ((RowKit.Below.refl wz.heap.size wz).drew)
                clear hbz HF1 b1 b2 y0 y1 y2 y3 hM hsz HBz
                obtain ⟨⟨u0, u1, _, _⟩, ⟨v0, v1, _, _⟩⟩ := HBX.out _ HD.out
                cases e1 : (ra == rb)
                · have HC1 := hide (containsPl_any ends A2 ends.length c2 ra rp _ (by omega) (own_sl plCells_len (HOw.out _ HD.out) rfl))
                  go_wp2_with fail
                  refine HC1.out.mono ?_
                  clear HC1
                  rintro e w3 ⟨rfl, hb⟩
                  have HB3 := hide (HD.out.trans (hb.mono HD.out.size))
                  clear hb u0 u1 v0 v1
                  obtain ⟨⟨u0, u1, _, _⟩, ⟨v0, v1, _, _⟩⟩ := HBX.out _ HB3.out
                  cases a1 : ends.any (fun z => eqP (ra, rp) z)
                  case true =>
                    have HF := hide (show E = 5 from by rw [HG.out]; simp only [takenB, LinkV.e1, LinkV.e2, a1, Bool.true_or, Bool.or_true, if_true])
                    clear a1
                    go_wp2
                    go_ret
                    exact ⟨ret_i64' HF.out.symm, (HQ.out _ (HBA.out.trans ((HBw.out _ HB3.out).mono HBA.out.size))).2.2⟩
                  have HA11 := hide a1
                  clear a1
                  have HC1 := hide (containsPl_any ends A2 ends.length c2 rb rq w3 (by omega) (own_sl plCells_len (HOw.out _ HB3.out) rfl))
                  go_wp2_with fail
                  refine HC1.out.mono ?_
                  clear HC1
                  rintro e w4 ⟨rfl, hb⟩
                  have HB4 := hide (HB3.out.trans (hb.mono HB3.out.size))
                  clear hb u0 u1 v0 v1
                  obtain ⟨⟨u0, u1, _, _⟩, ⟨v0, v1, _, _⟩⟩ := HBX.out _ HB4.out
                  cases a2 : ends.any (fun z => eqP (rb, rq) z)
                  case true =>
                    have HF := hide (show E = 5 from by rw [HG.out]; simp only [takenB, LinkV.e1, LinkV.e2, a2, Bool.true_or, Bool.or_true, if_true])
                    clear a2
                    go_wp2
                    go_ret
                    exact ⟨ret_i64' HF.out.symm, (HQ.out _ (HBA.out.trans ((HBw.out _ HB4.out).mono HBA.out.size))).2.2⟩
                  have HF := hide (show E = linksE (ds.map DevV.dev) (ends ++ [(ra, rp), (rb, rq)]) (ls.drop (k + 1)) from by
                    rw [HG.out]
                    have h1 := HA11.out
                    simp only [takenB, eqP, LinkV.e1, LinkV.e2, h1, a2, e1, Bool.false_and, Bool.and_false, Bool.or_false, Bool.false_eq_true, if_false] at h1 a2 ⊢
                    try simp only [h1, a2, Bool.false_or, Bool.false_eq_true, if_false])
                  clear a2 HG
                  have HBL := hide (show RowKit.Below wz.heap.size wz (w4.alloc (.cells #[.int .i64 ra, .int .i64 rp, .int .i64 rb, .int .i64 rq] 45)) from HB4.out.alloc HB4.out.size _)
                  have HLIT := hide (show Reads (w4.alloc (.cells #[.int .i64 ra, .int .i64 rp, .int .i64 rb, .int .i64 rq] 45)) (w4.heap.size + 1) 2 (some ⟨w4.heap.size, 0, none⟩) 2 [.int .i64 ra, .int .i64 rp, .int .i64 rb, .int .i64 rq] from
                    ⟨rfl, fun _ => ⟨_, rfl, Nat.lt_succ_self _, fun j u hu => by
                      rw [addr_add, Nat.zero_add, cell_of_row _ _ _ _ _ _ (heap_alloc_new w4 _)]
                      simpa using hu⟩⟩)
                  have HOL := hide (HOw.out _ HBL.out)
                  have hsW : W0.heap.size ≤ w4.heap.size := by have h1 := (HBw.out _ HB4.out).size; have := HBA.out.size; omega
                  go_wp2_with (at_builtin; refine wpList_append_any _ rfl (.tmp 115) (.tmp 118) 126 rfl W0.heap.size 45 i0 _ 2 16 Try.underlying126 hi0 hz0 hz1 hz2 rfl (by omega) (.slice A2 ends.length c2) ends.length (ends.flatMap plCells) rfl HOL.out (w4.heap.size + 1) (some ⟨w4.heap.size, 0, none⟩) 2 2 [.int .i64 ra, .int .i64 rp, .int .i64 rb, .int .i64 rq] rfl HLIT.out (by intro u hu; simp at hu; rcases hu with rfl | rfl | rfl | rfl <;> rfl) (by simp only [maxLen]; omega) (by omega) (by simp; omega) ?_; intro v5 w5 hown5 hg5 hat5; have HG5 := hide (grow_new (HBA.out.trans ((HBw.out _ HBL.out).mono HBA.out.size)) (Nat.le_refl _) hg5 (fun q hq => (HOL.out.lt q hq).1)); have HO5 := hide hown5; clear hown5 hg5 hat5)
                  go_roundw
                  case rel => exact ⟨k + 1, ends ++ [(ra, rp), (rb, rq)], by omega, by go_num, HF, HG5, hide (by simpa [plCells] using HO5.out), hide (by have := HEL.out; simp; omega)⟩
                  case measure => simp [intOf]; omega
                cases e2 : (rp == rq)
                · have HC1 := hide (containsPl_any ends A2 ends.length c2 ra rp _ (by omega) (own_sl plCells_len (HOw.out _ HD.out) rfl))
                  go_wp2_with fail
                  refine HC1.out.mono ?_
                  clear HC1
                  rintro e w3 ⟨rfl, hb⟩
                  have HB3 := hide (HD.out.trans (hb.mono HD.out.size))
                  clear hb u0 u1 v0 v1
                  obtain ⟨⟨u0, u1, _, _⟩, ⟨v0, v1, _, _⟩⟩ := HBX.out _ HB3.out
                  cases a1 : ends.any (fun z => eqP (ra, rp) z)
                  case true =>
                    have HF := hide (show E = 5 from by rw [HG.out]; simp only [takenB, LinkV.e1, LinkV.e2, a1, Bool.true_or, Bool.or_true, if_true])
                    clear a1
                    go_wp2
                    go_ret
                    exact ⟨ret_i64' HF.out.symm, (HQ.out _ (HBA.out.trans ((HBw.out _ HB3.out).mono HBA.out.size))).2.2⟩
                  have HA11 := hide a1
                  clear a1
                  have HC1 := hide (containsPl_any ends A2 ends.length c2 rb rq w3 (by omega) (own_sl plCells_len (HOw.out _ HB3.out) rfl))
                  go_wp2_with fail
                  refine HC1.out.mono ?_
                  clear HC1
                  rintro e w4 ⟨rfl, hb⟩
                  have HB4 := hide (HB3.out.trans (hb.mono HB3.out.size))
                  clear hb u0 u1 v0 v1
                  obtain ⟨⟨u0, u1, _, _⟩, ⟨v0, v1, _, _⟩⟩ := HBX.out _ HB4.out
                  cases a2 : ends.any (fun z => eqP (rb, rq) z)
                  case true =>
                    have HF := hide (show E = 5 from by rw [HG.out]; simp only [takenB, LinkV.e1, LinkV.e2, a2, Bool.true_or, Bool.or_true, if_true])
                    clear a2
                    go_wp2
                    go_ret
                    exact ⟨ret_i64' HF.out.symm, (HQ.out _ (HBA.out.trans ((HBw.out _ HB4.out).mono HBA.out.size))).2.2⟩
                  have HF := hide (show E = linksE (ds.map DevV.dev) (ends ++ [(ra, rp), (rb, rq)]) (ls.drop (k + 1)) from by
                    rw [HG.out]
                    have h1 := HA11.out
                    simp only [takenB, eqP, LinkV.e1, LinkV.e2, h1, a2, e1, e2, Bool.false_and, Bool.and_false, Bool.or_false, Bool.false_eq_true, if_false] at h1 a2 ⊢
                    try simp only [h1, a2, Bool.false_or, Bool.false_eq_true, if_false])
                  clear a2 HG
                  have HBL := hide (show RowKit.Below wz.heap.size wz (w4.alloc (.cells #[.int .i64 ra, .int .i64 rp, .int .i64 rb, .int .i64 rq] 45)) from HB4.out.alloc HB4.out.size _)
                  have HLIT := hide (show Reads (w4.alloc (.cells #[.int .i64 ra, .int .i64 rp, .int .i64 rb, .int .i64 rq] 45)) (w4.heap.size + 1) 2 (some ⟨w4.heap.size, 0, none⟩) 2 [.int .i64 ra, .int .i64 rp, .int .i64 rb, .int .i64 rq] from
                    ⟨rfl, fun _ => ⟨_, rfl, Nat.lt_succ_self _, fun j u hu => by
                      rw [addr_add, Nat.zero_add, cell_of_row _ _ _ _ _ _ (heap_alloc_new w4 _)]
                      simpa using hu⟩⟩)
                  have HOL := hide (HOw.out _ HBL.out)
                  have hsW : W0.heap.size ≤ w4.heap.size := by have h1 := (HBw.out _ HB4.out).size; have := HBA.out.size; omega
                  go_wp2_with (at_builtin; refine wpList_append_any _ rfl (.tmp 115) (.tmp 118) 126 rfl W0.heap.size 45 i0 _ 2 16 Try.underlying126 hi0 hz0 hz1 hz2 rfl (by omega) (.slice A2 ends.length c2) ends.length (ends.flatMap plCells) rfl HOL.out (w4.heap.size + 1) (some ⟨w4.heap.size, 0, none⟩) 2 2 [.int .i64 ra, .int .i64 rp, .int .i64 rb, .int .i64 rq] rfl HLIT.out (by intro u hu; simp at hu; rcases hu with rfl | rfl | rfl | rfl <;> rfl) (by simp only [maxLen]; omega) (by omega) (by simp; omega) ?_; intro v5 w5 hown5 hg5 hat5; have HG5 := hide (grow_new (HBA.out.trans ((HBw.out _ HBL.out).mono HBA.out.size)) (Nat.le_refl _) hg5 (fun q hq => (HOL.out.lt q hq).1)); have HO5 := hide hown5; clear hown5 hg5 hat5)
                  go_roundw
                  case rel => exact ⟨k + 1, ends ++ [(ra, rp), (rb, rq)], by omega, by go_num, HF, HG5, hide (by simpa [plCells] using HO5.out), hide (by have := HEL.out; simp; omega)⟩
                  case measure => simp [intOf]; omega
                have HF := hide (show E = 5 from by rw [HG.out]; simp [takenB, eqP, LinkV.e1, LinkV.e2, e1, e2])
                go_wp2
                go_ret
                exact ⟨ret_i64' HF.out.symm, (HQ.out _ (HBA.out.trans ((HBw.out _ HD.out).mono HBA.out.size))).2.2⟩
              · obtain ⟨hbz, hsz, b1, b2⟩ := HF1.out (rb, rq) (ra, rp)
                have HBz := hide (HJ.out.trans (hbz.mono HJ.out.size))
                have HSz := hide hsz
                generalize World.alloc (World.alloc wr _) _ = wz at *
                have HBX := hide (fun (w' : World) (hb : RowKit.Below wz.heap.size wz w') => And.intro (b1.below hb (by have := HSz.out; omega)) (b2.below hb (by have := HSz.out; omega)))
                have HBw := hide (fun (w' : World) (hb : RowKit.Below wz.heap.size wz w') => HBz.out.trans (hb.mono HBz.out.size))
                have HOw := hide (fun (w' : World) (hb : RowKit.Below wz.heap.size wz w') => HOA.out w' (HA1.out.trans ((HBz.out.trans (hb.mono HBz.out.size)).mono (by have := HSA.out; omega))))
                have HD := hide ((RowKit.Below.refl wz.heap.size wz).drew)
                clear hbz HF1 b1 b2 y0 y1 y2 y3 hM hsz HBz
                obtain ⟨⟨u0, u1, _, _⟩, ⟨v0, v1, _, _⟩⟩ := HBX.out _ HD.out
                cases e1 : (ra == rb)
                · have HC1 := hide (containsPl_any ends A2 ends.length c2 ra rp _ (by omega) (own_sl plCells_len (HOw.out _ HD.out) rfl))
                  go_wp2_with fail
                  refine HC1.out.mono ?_
                  clear HC1
                  rintro e w3 ⟨rfl, hb⟩
                  have HB3 := hide (HD.out.trans (hb.mono HD.out.size))
                  clear hb u0 u1 v0 v1
                  obtain ⟨⟨u0, u1, _, _⟩, ⟨v0, v1, _, _⟩⟩ := HBX.out _ HB3.out
                  cases a1 : ends.any (fun z => eqP (ra, rp) z)
                  case true =>
                    have HF := hide (show E = 5 from by rw [HG.out]; simp only [takenB, LinkV.e1, LinkV.e2, a1, Bool.true_or, Bool.or_true, if_true])
                    clear a1
                    go_wp2
                    go_ret
                    exact ⟨ret_i64' HF.out.symm, (HQ.out _ (HBA.out.trans ((HBw.out _ HB3.out).mono HBA.out.size))).2.2⟩
                  have HA11 := hide a1
                  clear a1
                  have HC1 := hide (containsPl_any ends A2 ends.length c2 rb rq w3 (by omega) (own_sl plCells_len (HOw.out _ HB3.out) rfl))
                  go_wp2_with fail
                  refine HC1.out.mono ?_
                  clear HC1
                  rintro e w4 ⟨rfl, hb⟩
                  have HB4 := hide (HB3.out.trans (hb.mono HB3.out.size))
                  clear hb u0 u1 v0 v1
                  obtain ⟨⟨u0, u1, _, _⟩, ⟨v0, v1, _, _⟩⟩ := HBX.out _ HB4.out
                  cases a2 : ends.any (fun z => eqP (rb, rq) z)
                  case true =>
                    have HF := hide (show E = 5 from by rw [HG.out]; simp only [takenB, LinkV.e1, LinkV.e2, a2, Bool.true_or, Bool.or_true, if_true])
                    clear a2
                    go_wp2
                    go_ret
                    exact ⟨ret_i64' HF.out.symm, (HQ.out _ (HBA.out.trans ((HBw.out _ HB4.out).mono HBA.out.size))).2.2⟩
                  have HF := hide (show E = linksE (ds.map DevV.dev) (ends ++ [(ra, rp), (rb, rq)]) (ls.drop (k + 1)) from by
                    rw [HG.out]
                    have h1 := HA11.out
                    simp only [takenB, eqP, LinkV.e1, LinkV.e2, h1, a2, e1, Bool.false_and, Bool.and_false, Bool.or_false, Bool.false_eq_true, if_false] at h1 a2 ⊢
                    try simp only [h1, a2, Bool.false_or, Bool.false_eq_true, if_false])
                  clear a2 HG
                  have HBL := hide (show RowKit.Below wz.heap.size wz (w4.alloc (.cells #[.int .i64 ra, .int .i64 rp, .int .i64 rb, .int .i64 rq] 45)) from HB4.out.alloc HB4.out.size _)
                  have HLIT := hide (show Reads (w4.alloc (.cells #[.int .i64 ra, .int .i64 rp, .int .i64 rb, .int .i64 rq] 45)) (w4.heap.size + 1) 2 (some ⟨w4.heap.size, 0, none⟩) 2 [.int .i64 ra, .int .i64 rp, .int .i64 rb, .int .i64 rq] from
                    ⟨rfl, fun _ => ⟨_, rfl, Nat.lt_succ_self _, fun j u hu => by
                      rw [addr_add, Nat.zero_add, cell_of_row _ _ _ _ _ _ (heap_alloc_new w4 _)]
                      simpa using hu⟩⟩)
                  have HOL := hide (HOw.out _ HBL.out)
                  have hsW : W0.heap.size ≤ w4.heap.size := by have h1 := (HBw.out _ HB4.out).size; have := HBA.out.size; omega
                  go_wp2_with (at_builtin; refine wpList_append_any _ rfl (.tmp 115) (.tmp 118) 126 rfl W0.heap.size 45 i0 _ 2 16 Try.underlying126 hi0 hz0 hz1 hz2 rfl (by omega) (.slice A2 ends.length c2) ends.length (ends.flatMap plCells) rfl HOL.out (w4.heap.size + 1) (some ⟨w4.heap.size, 0, none⟩) 2 2 [.int .i64 ra, .int .i64 rp, .int .i64 rb, .int .i64 rq] rfl HLIT.out (by intro u hu; simp at hu; rcases hu with rfl | rfl | rfl | rfl <;> rfl) (by simp only [maxLen]; omega) (by omega) (by simp; omega) ?_; intro v5 w5 hown5 hg5 hat5; have HG5 := hide (grow_new (HBA.out.trans ((HBw.out _ HBL.out).mono HBA.out.size)) (Nat.le_refl _) hg5 (fun q hq => (HOL.out.lt q hq).1)); have HO5 := hide hown5; clear hown5 hg5 hat5)
                  go_roundw
                  case rel => exact ⟨k + 1, ends ++ [(ra, rp), (rb, rq)], by omega, by go_num, HF, HG5, hide (by simpa [plCells] using HO5.out), hide (by have := HEL.out; simp; omega)⟩
                  case measure => simp [intOf]; omega
                cases e2 : (rp == rq)
                · have HC1 := hide (containsPl_any ends A2 ends.length c2 ra rp _ (by omega) (own_sl plCells_len (HOw.out _ HD.out) rfl))
                  go_wp2_with fail
                  refine HC1.out.mono ?_
                  clear HC1
                  rintro e w3 ⟨rfl, hb⟩
                  have HB3 := hide (HD.out.trans (hb.mono HD.out.size))
                  clear hb u0 u1 v0 v1
                  obtain ⟨⟨u0, u1, _, _⟩, ⟨v0, v1, _, _⟩⟩ := HBX.out _ HB3.out
                  cases a1 : ends.any (fun z => eqP (ra, rp) z)
                  case true =>
                    have HF := hide (show E = 5 from by rw [HG.out]; simp only [takenB, LinkV.e1, LinkV.e2, a1, Bool.true_or, Bool.or_true, if_true])
                    clear a1
                    go_wp2
                    go_ret
                    exact ⟨ret_i64' HF.out.symm, (HQ.out _ (HBA.out.trans ((HBw.out _ HB3.out).mono HBA.out.size))).2.2⟩
                  have HA11 := hide a1
                  clear a1
                  have HC1 := hide (containsPl_any ends A2 ends.length c2 rb rq w3 (by omega) (own_sl plCells_len (HOw.out _ HB3.out) rfl))
                  go_wp2_with fail
                  refine HC1.out.mono ?_
                  clear HC1
                  rintro e w4 ⟨rfl, hb⟩
                  have HB4 := hide (HB3.out.trans (hb.mono HB3.out.size))
                  clear hb u0 u1 v0 v1
                  obtain ⟨⟨u0, u1, _, _⟩, ⟨v0, v1, _, _⟩⟩ := HBX.out _ HB4.out
                  cases a2 : ends.any (fun z => eqP (rb, rq) z)
                  case true =>
                    have HF := hide (show E = 5 from by rw [HG.out]; simp only [takenB, LinkV.e1, LinkV.e2, a2, Bool.true_or, Bool.or_true, if_true])
                    clear a2
                    go_wp2
                    go_ret
                    exact ⟨ret_i64' HF.out.symm, (HQ.out _ (HBA.out.trans ((HBw.out _ HB4.out).mono HBA.out.size))).2.2⟩
                  have HF := hide (show E = linksE (ds.map DevV.dev) (ends ++ [(ra, rp), (rb, rq)]) (ls.drop (k + 1)) from by
                    rw [HG.out]
                    have h1 := HA11.out
                    simp only [takenB, eqP, LinkV.e1, LinkV.e2, h1, a2, e1, e2, Bool.false_and, Bool.and_false, Bool.or_false, Bool.false_eq_true, if_false] at h1 a2 ⊢
                    try simp only [h1, a2, Bool.false_or, Bool.false_eq_true, if_false])
                  clear a2 HG
                  have HBL := hide (show RowKit.Below wz.heap.size wz (w4.alloc (.cells #[.int .i64 ra, .int .i64 rp, .int .i64 rb, .int .i64 rq] 45)) from HB4.out.alloc HB4.out.size _)
                  have HLIT := hide (show Reads (w4.alloc (.cells #[.int .i64 ra, .int .i64 rp, .int .i64 rb, .int .i64 rq] 45)) (w4.heap.size + 1) 2 (some ⟨w4.heap.size, 0, none⟩) 2 [.int .i64 ra, .int .i64 rp, .int .i64 rb, .int .i64 rq] from
                    ⟨rfl, fun _ => ⟨_, rfl, Nat.lt_succ_self _, fun j u hu => by
                      rw [addr_add, Nat.zero_add, cell_of_row _ _ _ _ _ _ (heap_alloc_new w4 _)]
                      simpa using hu⟩⟩)
                  have HOL := hide (HOw.out _ HBL.out)
                  have hsW : W0.heap.size ≤ w4.heap.size := by have h1 := (HBw.out _ HB4.out).size; have := HBA.out.size; omega
                  go_wp2_with (at_builtin; refine wpList_append_any _ rfl (.tmp 115) (.tmp 118) 126 rfl W0.heap.size 45 i0 _ 2 16 Try.underlying126 hi0 hz0 hz1 hz2 rfl (by omega) (.slice A2 ends.length c2) ends.length (ends.flatMap plCells) rfl HOL.out (w4.heap.size + 1) (some ⟨w4.heap.size, 0, none⟩) 2 2 [.int .i64 ra, .int .i64 rp, .int .i64 rb, .int .i64 rq] rfl HLIT.out (by intro u hu; simp at hu; rcases hu with rfl | rfl | rfl | rfl <;> rfl) (by simp only [maxLen]; omega) (by omega) (by simp; omega) ?_; intro v5 w5 hown5 hg5 hat5; have HG5 := hide (grow_new (HBA.out.trans ((HBw.out _ HBL.out).mono HBA.out.size)) (Nat.le_refl _) hg5 (fun q hq => (HOL.out.lt q hq).1)); have HO5 := hide hown5; clear hown5 hg5 hat5)
                  go_roundw
                  case rel => exact ⟨k + 1, ends ++ [(ra, rp), (rb, rq)], by omega, by go_num, HF, HG5, hide (by simpa [plCells] using HO5.out), hide (by have := HEL.out; simp; omega)⟩
                  case measure => simp [intOf]; omega
                have HF := hide (show E = 5 from by rw [HG.out]; simp [takenB, eqP, LinkV.e1, LinkV.e2, e1, e2])
                go_wp2
                go_ret
                exact ⟨ret_i64' HF.out.symm, (HQ.out _ (HBA.out.trans ((HBw.out _ HD.out).mono HBA.out.size))).2.2⟩
        · have HF := hide (show E = 0 from by rw [HC.out, List.drop_of_length_le (by have := HLL.out; omega)]; rfl)
          go_wp2
          go_ret
          exact ⟨ret_i64' HF.out.symm, HBW.out⟩
end Go.Proofs.Ytifkacnoiocebaa
