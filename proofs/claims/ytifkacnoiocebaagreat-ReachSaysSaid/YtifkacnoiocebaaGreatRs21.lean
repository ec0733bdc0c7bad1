/- A part of the proof: RefNet, Ring2, PkChk, Ring3, RgF. -/
import Derived.Test.YtifkacnoiocebaaGreatRs19
import Derived.Test.YtifkacnoiocebaaGreatRs20
set_option linter.unusedVariables false
set_option linter.unusedSimpArgs false
set_option maxRecDepth 100000
set_option maxHeartbeats 16000000
namespace Go.Proofs.YtifkacnoiocebaaGreat
open Go.RowKit
theorem Tryz.infoPair : (Tryz.prog.info? 86).map (fun i => (i.zero, i.size, i.bytes)) = some (some (.agg #[.int .i64 0, .int .i64 0]), 2, 16) := by kernel_rfl
theorem inR_lt (X : Int) (n : Nat) : inR X 0 ((n : Int) - 1) = (decide (0 ≤ X) && decide (X < (n : Int))) := by
  unfold inR
  rw [Bool.eq_iff_iff]; simp; omega
theorem inR_ltI (X p : Int) : inR X 0 (p - 1) = (decide (0 ≤ X) && decide (X < p)) := by
  unfold inR
  rw [Bool.eq_iff_iff]; simp; omega
theorem nm_all {s : ByteArray} {b : Bool} {q : Nat} (hq : s.size ≤ q) (h : b = (inR s.size 1 8 && (s.data.toList.take q).all nameByte)) : b = namedB s := by
  rw [h, List.take_of_length_le (by simpa using hq)]
  unfold namedB inR
  generalize s.data.toList.all nameByte = b
  rw [Bool.eq_iff_iff]
  cases b <;> simp <;> omega
theorem any_names {ds : List DevV} {k : Nat} {nm : ByteArray} (h : ∀ i d, i < k → ds[i]? = some d → nameEq d.name nm = false) : ((ds.map DevV.dev).take k).any (fun x => nameEq x.name nm) = false := by
  rw [List.any_eq_false]
  intro x hx
  obtain ⟨j, hj⟩ := List.getElem?_of_mem hx
  have hjk : j < k := by have := (List.getElem?_eq_some_iff.1 hj).1; simp at this; omega
  rw [List.getElem?_take_of_lt hjk, List.getElem?_map] at hj
  cases hd : ds[j]? with
  | none => rw [hd] at hj; cases hj
  | some d => rw [hd] at hj; cases hj; simpa [DevV.dev] using h j d hjk hd
theorem some_names {ds : List DevV} {k j : Nat} {d : DevV} {nm : ByteArray} (hj : j < k) (hd : ds[j]? = some d) (h : nameEq d.name nm = true) : ((ds.map DevV.dev).take k).any (fun x => nameEq x.name nm) = true := by
  rw [List.any_eq_true]
  exact ⟨d.dev, List.mem_of_getElem? (i := j) (by rw [List.getElem?_take_of_lt hj, List.getElem?_map, hd]; rfl), h⟩
theorem refNet_walk (n : NetV) (W : World) (hn : NetAt W W.heap.size n) :
    Calls Tryz.prog 6 #[n.val] W fun e W' => e = .returned (.int .i64 (netE n.devs n.ls)) ∧ RowKit.Below W.heap.size W W' := by
  obtain ⟨i0, hi0, hz0, hz1, hz2⟩ := info_parts Tryz.infoPair
  obtain ⟨dA, dn, dc, ds, lA, ln, lc, ls⟩ := n
  obtain ⟨W0, hW0⟩ : ∃ W0, W0 = W.alloc (.cells #[.slice dA dn dc, .slice lA ln lc] 25) := ⟨_, rfl⟩
  have HB0 := hide (show RowKit.Below W.heap.size W W0 from by rw [hW0]; exact (RowKit.Below.refl _ _).alloc (Nat.le_refl _) _)
  have HSZ := hide (show W0.heap.size = W.heap.size + 1 from by rw [hW0]; simp)
  have HQ := hide (fun (w' : World) (hb : RowKit.Below W0.heap.size W0 w') => show (w'.cell? ⟨W.heap.size, 0, none⟩ = some (.slice dA dn dc) ∧ w'.cell? ⟨W.heap.size, 1, none⟩ = some (.slice lA ln lc)) ∧ NetAt w' w'.heap.size ⟨dA, dn, dc, ds, lA, ln, lc, ls⟩ ∧ RowKit.Below W.heap.size W w' from by
    have h1 := HB0.out.trans (hb.mono (by rw [HSZ.out]; omega))
    rw [HSZ.out, hW0] at hb
    exact ⟨⟨cell_new W _ _ rfl hb 0 _ rfl, cell_new W _ _ rfl hb 1 _ rfl⟩, hn.below h1 h1.size, h1⟩)
  have HDL := hide (show ds.length = dn from hn.dlen)
  have HLL := hide (show ls.length = ln from hn.llen)
  have hdc : dn ≤ dc := hn.cd.1
  have hlc : ln ≤ lc := hn.cl.1
  have HM := hide (And.intro hn.cd.2 hn.cl.2)
  clear hn
  have HN := hide (show netE (NetV.devs ⟨dA, dn, dc, ds, lA, ln, lc, ls⟩) ls = if 10 < dn ∨ 15 < ln then 2 else if devsE [] (ds.map DevV.dev) = 0 then linksE (ds.map DevV.dev) [] ls else devsE [] (ds.map DevV.dev) from by
    unfold netE NetV.devs; rw [List.length_map, HDL.out, HLL.out])
  simp only [NetV.val] at *
  generalize netE _ _ = E at *
  obtain ⟨x0, x1⟩ := (HQ.out W0 (RowKit.Below.refl _ _)).1
  have HR := hide (RowKit.Below.refl W0.heap.size W0)
  by_cases h10 : 10 < dn
  · have HF := hide (show E = 2 from by rw [HN.out, if_pos (.inl h10)])
    clear HN x0 x1
    subst hW0
    go_enter Tryz.func6, Tryz.ntmps6
    go_wp2
    go_ret
    exact ⟨ret_i64' HF.out.symm, (HQ.out _ HR.out).2.2⟩
  by_cases h15 : 15 < ln
  · have HF := hide (show E = 2 from by rw [HN.out, if_pos (.inr h15)])
    clear HN x0 x1
    subst hW0
    go_enter Tryz.func6, Tryz.ntmps6
    go_wp2
    go_ret
    exact ⟨ret_i64' HF.out.symm, (HQ.out _ HR.out).2.2⟩
  have HN2 := hide (show E = if devsE [] (ds.map DevV.dev) = 0 then linksE (ds.map DevV.dev) [] ls else devsE [] (ds.map DevV.dev) from by rw [HN.out, if_neg (by omega)])
  clear HN x0 x1
  go_enter Tryz.func6, Tryz.ntmps6
  go_wp2
  rw [← hW0]
  clear hW0
  go_loopw [3] (fun i wr => ∃ k : Nat, k ≤ dn ∧ i = .int .i64 k ∧ Hid (devsE [] (ds.map DevV.dev) = devsE ((ds.map DevV.dev).take k) ((ds.map DevV.dev).drop k)) ∧ Hid (RowKit.Below W0.heap.size W0 wr)) (fun i _ => dn - (intOf i).toNat)
  case atStart => exact ⟨0, Nat.zero_le _, rfl, hide rfl, hide (RowKit.Below.refl _ _)⟩
  case round =>
    obtain ⟨k, hk, rfl, HC, HB⟩ := hrel
    obtain ⟨⟨x0, x1⟩, hna, hbW⟩ := HQ.out wr HB.out
    have HNA := hide hna
    have HBW := hide hbW
    clear hna hbW
    by_cases hlt : k < dn
    · obtain ⟨r, hr⟩ : ∃ r, ds[k]? = some r := ⟨_, List.getElem?_eq_getElem (by have := HDL.out; omega)⟩
      have HS := hide (devsE_step (l := ds.map DevV.dev) (k := k) (d := r.dev) (by rw [List.getElem?_map, hr]; rfl))
      obtain ⟨b, o, rfl, _, _⟩ := HNA.out.ds.2 (by show 0 < dn; omega)
      obtain ⟨hbB, q0, q1, q2, q3, q4, q5, q6⟩ := dev_get HNA.out.ds hr
      have hnm : r.name.size ≤ 9223372036854775807 := by have := (HNA.out.dok r (List.mem_of_getElem? hr)).nm; unfold maxLen at this; exact this
      have HGN := hide (fun (j : Nat) (d : DevV) (hd : ds[j]? = some d) (w' : World) (hb : RowKit.Below W0.heap.size W0 w') => (dev_get (HQ.out w' hb).2.1.ds hd).2.1)
      obtain ⟨nm, kd, ad, pl, bA, bn, bc, bs, rA, rn, rc, rs, tA, tn, tc, ts⟩ := r
      obtain ⟨N, hN⟩ : ∃ N, wr.heap.size = N := ⟨_, rfl⟩
      obtain ⟨w1, hw1⟩ : ∃ w1, w1 = wr.alloc (.cells #[.string nm, .int .i64 kd, .int .i64 ad, .int .u8 pl, .slice bA bn bc, .slice rA rn rc, .slice tA tn tc] 81) := ⟨_, rfl⟩
      have HB1 := hide (show RowKit.Below W0.heap.size W0 w1 from by rw [hw1]; exact HB.out.alloc HB.out.size _)
      have HX1 := hide (fun (w' : World) (hb : RowKit.Below w1.heap.size w1 w') => show DBox w' N ⟨nm, kd, ad, pl, bA, bn, bc, bs, rA, rn, rc, rs, tA, tn, tc, ts⟩ ∧ (w'.cell? ⟨W.heap.size, 0, none⟩ = some (.slice (some ⟨b, o, none⟩) dn dc) ∧ w'.cell? ⟨W.heap.size, 1, none⟩ = some (.slice lA ln lc)) ∧ RowKit.Below W0.heap.size W0 w' ∧ N < w'.heap.size from by
        have hs : w1.heap.size = N + 1 := by rw [hw1, ← hN]; simp
        have h1 := HB1.out.trans (hb.mono HB1.out.size)
        have h2 := hb.size
        refine ⟨DBox.below (w := w1) (by rw [hw1, ← hN]; exact DBox.new wr ⟨nm, kd, ad, pl, bA, bn, bc, bs, rA, rn, rc, rs, tA, tn, tc, ts⟩ _) hb (by omega), (HQ.out w' h1).1, h1, by omega⟩)
      have HDW := hide (refdev_any ⟨nm, kd, ad, pl, bA, bn, bc, bs, rA, rn, rc, rs, tA, tn, tc, ts⟩)
      have HDA := hide (fun (w' : World) (hb : RowKit.Below w1.heap.size w1 w') => show DevAt w' w'.heap.size ⟨nm, kd, ad, pl, bA, bn, bc, bs, rA, rn, rc, rs, tA, tn, tc, ts⟩ from by
        have h1 := (HX1.out w' hb).2.2.1
        exact (HQ.out w' h1).2.1.dok _ (List.mem_of_getElem? hr))
      clear hr
      simp only [DevV.dev] at HS HDW
      have HW1 := hide hw1
      clear hw1
      go_wp2_with fail
      refine (inR_walk _ _ _ _).mono ?_
      rintro e w' ⟨rfl, rfl⟩
      rw [← HW1.out]
      clear q0 q1 q2 q3 q4 q5 q6 x0 x1
      obtain ⟨⟨y0, y1, y2, y3, y4, y5, y6⟩, ⟨x0, x1⟩, _, hNs⟩ := HX1.out w1 (RowKit.Below.refl _ _)
      have HOK0 := hide (show inR (nm.size : Int) 1 8 = (inR (nm.size : Int) 1 8 && (nm.data.toList.take 0).all nameByte) from by simp)
      have HRF := hide (rfl : inR (nm.size : Int) 1 8 = inR (nm.size : Int) 1 8)
      go_wp2
      go_loop [5, 6] (fun u i => ∃ (q : Nat) (bb : Bool), q ≤ nm.size ∧ i = .int .i64 q ∧ u = .bool bb ∧ Hid (bb = (inR (nm.size : Int) 1 8 && (nm.data.toList.take q).all nameByte))) (fun _ i => nm.size - (intOf i).toNat)
      case atStart => exact ⟨0, _, Nat.zero_le _, rfl, rfl, HOK0⟩
      case round =>
        clear HOK0
        obtain ⟨q, bb, hq, rfl, rfl, HBB⟩ := hrel
        by_cases hqs : q < nm.size
        · have HT := hide (show nm.data.toList.take (q + 1) = nm.data.toList.take q ++ [nm[q]] from by rw [List.take_succ_eq_append_getElem (by simpa using hqs)]; rfl)
          have HBN := hide (show (inR (nm.size : Int) 1 8 && (nm.data.toList.take (q + 1)).all nameByte) = (bb && nameByte nm[q]) from by rw [HT.out, List.all_append, HBB.out]; simp [Bool.and_assoc])
          generalize inR (nm.size : Int) 1 8 = IN at *
          cases bb
          · go_wp2
            all_goals
              go_round
              case rel => exact ⟨q + 1, _, by omega, by go_num, rfl, hide (by rw [HBN.out]; simp)⟩
              case measure => simp [intOf]; omega
          · go_wp2
            all_goals
              go_round
              case rel => exact ⟨q + 1, _, by omega, by go_num, rfl, hide (by rw [HBN.out, Bool.eq_iff_iff]; simp [nameByte] <;> omega)⟩
              case measure => simp [intOf]; omega
        · have HNB := hide (nm_all (by omega) HBB.out)
          clear HBB
          cases hbb : bb
          · subst hbb
            have HF := hide (show E = 3 from by rw [HN2.out, HC.out, HS.out]; simp [← HNB.out])
            go_wp2
            go_ret
            exact ⟨ret_i64' HF.out.symm, (HQ.out _ HB1.out).2.2⟩
          subst hbb
          have HR1 := hide (RowKit.Below.refl w1.heap.size w1)
          go_wp2
          clear y0 y1 y2 y3 y4 y5 y6 x0 x1
          go_loopw [8] (fun i wi => ∃ j : Nat, j ≤ k ∧ i = .int .i64 j ∧ Hid (∀ i d, i < j → ds[i]? = some d → nameEq d.name nm = false) ∧ Hid (RowKit.Below w1.heap.size w1 wi)) (fun i _ => k - (intOf i).toNat)
          case atStart => exact ⟨0, Nat.zero_le _, rfl, hide (fun i d h => absurd h (by omega)), HR1⟩
          case round =>
            clear HR1
            obtain ⟨j, hj, rfl, HNo, HBi⟩ := hrel
            obtain ⟨⟨y0, y1, y2, y3, y4, y5, y6⟩, ⟨x0, x1⟩, hbi, _⟩ := HX1.out wr HBi.out
            have HBi0 := hide hbi
            clear hbi
            by_cases hjk : j < k
            · obtain ⟨d, hd⟩ : ∃ r, ds[j]? = some r := ⟨_, List.getElem?_eq_getElem (by have := HDL.out; omega)⟩
              have q1 := HGN.out j d hd wr HBi0.out
              have HDJ := hide hd
              clear hd
              generalize hdn : d.name = dnm at *
              have HDN := hide hdn
              clear hdn
              by_cases e : dnm.toList = nm.toList
              · have HF := hide (show E = 5 from by
                  have hv : devsE [] (ds.map DevV.dev) = 5 := by
                    have h1 : namedB nm = true := HNB.out.symm
                    have h2 := some_names (nm := nm) hjk HDJ.out (by rw [HDN.out]; simp [nameEq, e])
                    rw [HC.out, HS.out]
                    simp only [h1, h2, Bool.true_eq_false, if_false, if_true]
                  rw [HN2.out, hv]; rfl)
                go_wp2
                go_quiet (fail)
                go_wp2
                go_ret
                exact ⟨ret_i64' HF.out.symm, (HQ.out _ HBi0.out).2.2.trans (below_drew _ _ _)⟩
              · have HNJ := hide (show ∀ i d, i < j + 1 → ds[i]? = some d → nameEq d.name nm = false from fun i d hi hd => by
                  rcases (by omega : i < j ∨ i = j) with h | rfl
                  · exact HNo.out i d h hd
                  · have e2 := HDJ.out
                    rw [e2] at hd
                    cases hd
                    rw [HDN.out]
                    simp [nameEq, e])
                have e2 : (dnm.toList == nm.toList) = false := by simpa using e
                go_wp2
                go_quiet (fail)
                go_wp2
                go_roundw
                case rel => exact ⟨j + 1, by omega, by go_num, HNJ, hide (HBi.out.trans (below_drew _ _ _))⟩
                case measure => simp [intOf]; omega
            · obtain rfl : j = k := by omega
              have HAN := hide (any_names HNo.out)
              have HDE := hide (HDW.out wr (HDA.out wr HBi.out))
              simp only [DevV.val] at HDE
              obtain ⟨DE, hDE⟩ : ∃ DE, devE ⟨nm, kd, ad, pl, bs, rs, ts⟩ = DE := ⟨_, rfl⟩
              simp only [hDE] at HS HDE
              clear hDE
              go_wp2_with fail
              refine HDE.out.mono ?_
              clear HDE HDW
              rintro e w3 ⟨rfl, hb⟩
              have HB3 := hide (HBi0.out.trans (hb.mono HBi0.out.size))
              clear hb y0 y1 y2 y3 y4 y5 y6 x0 x1
              by_cases hde : DE = 0
              · subst hde
                have HF := hide (show devsE [] (ds.map DevV.dev) = devsE ((ds.map DevV.dev).take (j + 1)) ((ds.map DevV.dev).drop (j + 1)) from by rw [HC.out, HS.out]; simp [← HNB.out, HAN.out])
                clear HS HAN
                go_wp2
                go_roundw
                case rel => exact ⟨j + 1, by omega, by go_num, HF, HB3⟩
                case measure => simp [intOf]; omega
              · have d1 : (DE != 0) = true := by simpa using hde
                have d2 : (DE == 0) = false := by simpa using hde
                have HF := hide (show E = DE from by rw [HN2.out, HC.out, HS.out]; simp [← HNB.out, HAN.out, hde])
                clear HS HAN hde
                go_wp2
                go_ret
                exact ⟨ret_i64' HF.out.symm, (HQ.out _ HB3.out).2.2⟩
    · have HF := hide (show E = linksE (ds.map DevV.dev) [] ls from by
        have : devsE [] (ds.map DevV.dev) = 0 := by rw [HC.out, List.drop_of_length_le (by rw [List.length_map]; have := HDL.out; omega)]; rfl
        rw [HN2.out, if_pos this])
      have HO := hide (World.ownsRow_nil wr W0.heap.size 86 2)
      have HBs := HB
      go_wp2
      clear HC hk hlt x0 x1 HB HNA HBW
      go_loopw [10, 11] (fun v i wr => ∃ (k : Nat) (ends : List Pl), k ≤ ln ∧ i = .int .i64 k ∧ Hid (E = linksE (ds.map DevV.dev) ends (ls.drop k)) ∧ Hid (RowKit.Below W0.heap.size W0 wr) ∧ Hid (wr.ownsRow W0.heap.size 86 2 v ends.length (ends.flatMap plCells)) ∧ Hid (ends.length = 2 * k)) (fun _ i _ => ln - (intOf i).toNat)
      case atStart => exact ⟨0, [], Nat.zero_le _, rfl, HF, HBs, HO, hide rfl⟩
      case round =>
        clear HF HO HBs
        obtain ⟨k, ends, hk, rfl, HC, HB, HO, HEL⟩ := hrel
        generalize u10 = v at *
        obtain ⟨⟨x0, x1⟩, hna, hbW⟩ := HQ.out wr HB.out
        have HNA := hide hna
        have HBW := hide hbW
        clear hna hbW
        by_cases hlt : k < ln
        · obtain ⟨r, hr⟩ : ∃ r, ls[k]? = some r := ⟨_, List.getElem?_eq_getElem (by have := HLL.out; omega)⟩
          have HBAD := hide (fun j (hj : j < 2) h1 h2 => HC.out.trans (linksE_bad (ds := ds.map DevV.dev) (ends := ends) (j := j) hr hj h1 h2))
          have HGOOD := hide (fun h1 => HC.out.trans (linksE_good (ds := ds.map DevV.dev) (ends := ends) hr h1))
          obtain ⟨b, o, rfl, _, _⟩ := HNA.out.ls.2 (by show 0 < ln; omega)
          obtain ⟨hbB, q0, q1, q2, q3⟩ := link_get HNA.out.ls hr
          clear hr
          obtain ⟨A2, c2, rfl, hc2, _, _⟩ := SlAt.of_own plCells_len HO.out rfl
          obtain ⟨ra, rp, rb, rq⟩ := r
          go_wp2
          clear q0 q1 q2 q3 x0 x1
          obtain ⟨N, hN⟩ : ∃ N, wr.heap.size = N := ⟨_, rfl⟩
          have HWA := hide (fun t1 t2 => show RowKit.Below N wr ((wr.alloc (.cells #[.int .i64 ra, .int .i64 rp, .int .i64 rb, .int .i64 rq] t1)).alloc (.cells #[.int .i64 ra, .int .i64 rp, .int .i64 rb, .int .i64 rq] t2)) from by rw [← hN]; exact ((RowKit.Below.refl _ _).alloc (Nat.le_refl _) _).alloc (by simp) _)
          have HWC := hide (fun t1 t2 (w' : World) (hb : RowKit.Below (N + 2) ((wr.alloc (.cells #[.int .i64 ra, .int .i64 rp, .int .i64 rb, .int .i64 rq] t1)).alloc (.cells #[.int .i64 ra, .int .i64 rp, .int .i64 rb, .int .i64 rq] t2)) w') => show (∀ j, j < 2 → w'.cell? ⟨N + 1, j * 2, none⟩ = some (.int .i64 (pjL ⟨ra, rp, rb, rq⟩ j).1) ∧ w'.cell? ⟨N + 1, j * 2 + 1, none⟩ = some (.int .i64 (pjL ⟨ra, rp, rb, rq⟩ j).2)) ∧ Reads w' (N + 2) 2 (some ⟨N + 1, 0, none⟩) 2 [.int .i64 ra, .int .i64 rp, .int .i64 rb, .int .i64 rq] from by
            have hs1 : (wr.alloc (.cells #[.int .i64 ra, .int .i64 rp, .int .i64 rb, .int .i64 rq] t1)).heap.size = N + 1 := by rw [← hN]; simp
            have c2 : ∀ o v, (#[Value.int .i64 ra, .int .i64 rp, .int .i64 rb, .int .i64 rq] : Array Value)[o]? = some v → w'.cell? ⟨N + 1, o, none⟩ = some v := fun o v hv => cell_new _ _ _ hs1 hb o v hv
            refine ⟨fun j hj => ?_, rfl, fun _ => ⟨_, rfl, by show N + 1 < _; omega, fun j u hu => ?_⟩⟩
            · rcases (by omega : j = 0 ∨ j = 1) with rfl | rfl
              · exact ⟨c2 0 _ rfl, c2 1 _ rfl⟩
              · exact ⟨c2 2 _ rfl, c2 3 _ rfl⟩
            · rw [addr_add, Nat.zero_add]
              exact c2 j u (by simpa using hu))
          have HW1 := HWA.out 85 86
          have HW2 := HWC.out 85 86
          have hsA : ((wr.alloc (.cells #[.int .i64 ra, .int .i64 rp, .int .i64 rb, .int .i64 rq] 85)).alloc (.cells #[.int .i64 ra, .int .i64 rp, .int .i64 rb, .int .i64 rq] 86)).heap.size = N + 2 := by rw [← hN]; simp
          clear HWA HWC
          generalize World.alloc (World.alloc wr _) _ = wA at *
          have HA1 := hide HW1
          have HA2 := hide HW2
          have HSA := hide hsA
          have hNW : W0.heap.size ≤ N := by rw [← hN]; exact HB.out.size
          have HBA := hide (HB.out.trans (HW1.mono hNW))
          have HOA := hide (fun (w' : World) (hb : RowKit.Below N wr w') => own_below HO.out (by rw [hN]; exact hb))
          rw [hN]
          clear HW1 HW2 hsA HO HB hN HNA HBW
          obtain ⟨wo, hwo⟩ : ∃ wo : World, wo = wr := ⟨_, rfl⟩
          rw [← hwo] at HA1 HOA
          clear hwo
          have HR0 := hide (RowKit.Below.refl wA.heap.size wA)
          go_loopw [14] (fun i wj => ∃ j : Nat, j ≤ 2 ∧ i = .int .i64 j ∧ Hid (∀ i, i < j → placeB (ds.map DevV.dev) (pjL ⟨ra, rp, rb, rq⟩ i) = true) ∧ Hid (RowKit.Below wA.heap.size wA wj)) (fun i _ => 2 - (intOf i).toNat)
          case atStart => exact ⟨0, Nat.zero_le _, rfl, hide (fun i h => absurd h (by omega)), HR0⟩
          case round =>
            clear HR0
            obtain ⟨j, hj, rfl, HP, HJ⟩ := hrel
            have HJ0 := hide (HBA.out.trans (HJ.out.mono HBA.out.size))
            have HQA := hide (fun (w' : World) (hb : RowKit.Below wr.heap.size wr w') => And.intro (HQ.out w' (HJ0.out.trans (hb.mono HJ0.out.size))) (HA2.out w' (HSA.out ▸ HJ.out.trans (hb.mono HJ.out.size))))
            by_cases hj2 : j < 2
            · have HBJ := hide (fun h => HBAD.out j hj2 HP.out h)
              have HPJ := hide (fun (h : placeB (ds.map DevV.dev) (pjL ⟨ra, rp, rb, rq⟩ j) = true) i (hi : i < j + 1) => show placeB (ds.map DevV.dev) (pjL ⟨ra, rp, rb, rq⟩ i) = true from by
                rcases (by omega : i < j ∨ i = j) with h1 | rfl
                · exact HP.out i h1
                · exact h)
              have HPC := hide (fun (w' : World) (hb : RowKit.Below wr.heap.size wr w') => (HQA.out w' hb).2.1 j hj2)
              obtain ⟨X, Y, hXY⟩ : ∃ X Y, pjL ⟨ra, rp, rb, rq⟩ j = (X, Y) := ⟨_, _, rfl⟩
              simp only [hXY] at HPC HBJ HPJ
              clear hXY
              have j1 : (0 : Int) ≤ (j : Int) := by omega
              have j2 : (j : Int) < 2 := by omega
              have d0 : (0 : Int) ≤ (dn : Int) := by omega
              have d1 : (dn : Int) ≤ 10 := by omega
              have HNA := hide (HQ.out wr HJ0.out).2.1
              cases e1 : (decide (0 ≤ X) && decide (X < (dn : Int)))
              · have HF := hide (show E = 1 from HBJ.out (by simp only [placeB, List.length_map, HDL.out, e1]; rfl))
                go_wp2
                refine wp_region_abs (by kernel_rfl) (by kernel_rfl) ?_
                intro T hT gt hg hgi
                have HGT := hide hg
                have HGI := hide hgi
                clear hg hgi
                have k0 := fun t => (HPC.out _ (HGT.out t)).1
                have k1 := fun t => (HPC.out _ (HGT.out t)).2
                have k2 := fun t => (HQA.out _ (HGT.out t)).1.1.1
                have HC1 := hide (fun t => inR_is (gt t) ((inR_lt X dn).trans e1))
                clear e1
                repeat (go_big_quiet_step ((go_at_call 7; exact inAbsSame (HC1.out _))))
                refine wpQuiet_nil ?_
                intro _ hw'
                obtain ⟨t, rfl⟩ := hw'
                have HG1 := hide (HJ.out.trans ((HGT.out t).mono HJ.out.size))
                generalize gt t = w9 at *
                clear k0 k1 k2 HGT HGI
                go_wp2
                go_ret
                exact ⟨ret_i64' HF.out.symm, (HQ.out _ (HBA.out.trans (HG1.out.mono HBA.out.size))).2.2⟩
              · have e1' := e1
                simp only [Bool.and_eq_true, decide_eq_true_eq] at e1'
                obtain ⟨i, rfl⟩ : ∃ i : Nat, X = (i : Int) := ⟨X.toNat, by omega⟩
                obtain ⟨rd, hrd⟩ : ∃ r, ds[i]? = some r := ⟨_, List.getElem?_eq_getElem (by have := HDL.out; omega)⟩
                have HKA := hide (show kindAt (ds.map DevV.dev) (i : Int) = rd.kind from by simp [kindAt, hrd, DevV.dev])
                obtain ⟨db, od, rfl, _, _⟩ := HNA.out.ds.2 (by show 0 < dn; omega)
                have HKC := hide (fun (w' : World) (hb : RowKit.Below W0.heap.size W0 w') => (dev_get (HQ.out w' hb).2.1.ds hrd).2.2.1)
                have i1 : (0 : Int) ≤ (i : Int) := by omega
                have i2 : (i : Int) < (dn : Int) := by omega
                have HPB := hide (show placeB (ds.map DevV.dev) ((i : Int), Y) = (decide (0 ≤ Y) && decide (Y < portsF rd.kind)) from by simp only [placeB, List.length_map, HDL.out, e1, HKA.out]; rfl)
                obtain ⟨pf1, pf2⟩ := portsF_rng rd.kind
                cases e2 : (decide (0 ≤ Y) && decide (Y < portsF rd.kind))
                · have HF := hide (show E = 1 from HBJ.out (by rw [HPB.out, e2]))
                  go_wp2
                  refine wp_region_abs (by kernel_rfl) (by kernel_rfl) ?_
                  intro T hT gt hg hgi
                  have HGT := hide hg
                  have HGI := hide hgi
                  clear hg hgi
                  have k0 := fun t => (HPC.out _ (HGT.out t)).1
                  have k1 := fun t => (HPC.out _ (HGT.out t)).2
                  have k2 := fun t => (HQA.out _ (HGT.out t)).1.1.1
                  have k3 := fun t => HKC.out (gt t) (HJ0.out.trans ((HGT.out t).mono HJ0.out.size))
                  have HC1 := hide (fun t => inR_is (gt t) ((inR_lt (i : Int) dn).trans e1))
                  have HC2 := hide (fun t => refPorts_walk rd.kind (gt t))
                  have HC3 := hide (fun t => inR_is (gt t) ((inR_ltI Y (portsF rd.kind)).trans e2))
                  clear e1 e2 e1'
                  generalize portsF rd.kind = PF at *
                  repeat (go_big_quiet_step (first | (go_at_call_of 7 (Value.int .i64 Y); exact inAbsSame (HC3.out _)) | (go_at_call 7; exact inAbsSame (HC1.out _)) | (go_at_call 29; exact inAbs HGT.out HGI.out (HC2.out _))))
                  refine wpQuiet_nil ?_
                  intro _ hw'
                  obtain ⟨t, rfl⟩ := hw'
                  have HG1 := hide (HJ.out.trans ((HGT.out t).mono HJ.out.size))
                  generalize gt t = w9 at *
                  clear k0 k1 k2 HGT HGI
                  clear k3
                  go_wp2
                  go_ret
                  exact ⟨ret_i64' HF.out.symm, (HQ.out _ (HBA.out.trans (HG1.out.mono HBA.out.size))).2.2⟩
                · have HF := hide (HPJ.out (by rw [HPB.out, e2]))
                  go_wp2
                  refine wp_region_abs (by kernel_rfl) (by kernel_rfl) ?_
                  intro T hT gt hg hgi
                  have HGT := hide hg
                  have HGI := hide hgi
                  clear hg hgi
                  have k0 := fun t => (HPC.out _ (HGT.out t)).1
                  have k1 := fun t => (HPC.out _ (HGT.out t)).2
                  have k2 := fun t => (HQA.out _ (HGT.out t)).1.1.1
                  have k3 := fun t => HKC.out (gt t) (HJ0.out.trans ((HGT.out t).mono HJ0.out.size))
                  have HC1 := hide (fun t => inR_is (gt t) ((inR_lt (i : Int) dn).trans e1))
                  have HC2 := hide (fun t => refPorts_walk rd.kind (gt t))
                  have HC3 := hide (fun t => inR_is (gt t) ((inR_ltI Y (portsF rd.kind)).trans e2))
                  clear e1 e2 e1'
                  generalize portsF rd.kind = PF at *
                  repeat (go_big_quiet_step (first | (go_at_call_of 7 (Value.int .i64 Y); exact inAbsSame (HC3.out _)) | (go_at_call 7; exact inAbsSame (HC1.out _)) | (go_at_call 29; exact inAbs HGT.out HGI.out (HC2.out _))))
                  refine wpQuiet_nil ?_
                  intro _ hw'
                  obtain ⟨t, rfl⟩ := hw'
                  have HG1 := hide (HJ.out.trans ((HGT.out t).mono HJ.out.size))
                  generalize gt t = w9 at *
                  clear k0 k1 k2 HGT HGI
                  clear k3
                  go_wp2
                  go_roundw
                  case rel => exact ⟨j + 1, by omega, by go_num, HF, HG1⟩
                  case measure => simp [intOf]; omega
            · obtain rfl : j = 2 := by omega
              have HG := hide (HGOOD.out HP.out)
              have hEL : ends.length ≤ 30 := by have := HEL.out; omega
              have hNM : N + 2 ≤ wr.heap.size := by have := HJ.out.size; have := HSA.out; omega
              have HRD := hide (HQA.out wr (RowKit.Below.refl _ _)).2.2
              have HOw := hide (fun (w' : World) (hb : RowKit.Below wr.heap.size wr w') => HOA.out w' (HA1.out.trans ((HJ.out.trans (hb.mono HJ.out.size)).mono (by have := HSA.out; omega))))
              have HPD := hide (fun (w' : World) (hb : RowKit.Below wr.heap.size wr w') => And.intro ((HQA.out w' hb).2.1 0 (by omega)) ((HQA.out w' hb).2.1 1 (by omega)))
              simp only [pjL, Nat.zero_mul, Nat.one_mul, Nat.zero_add, if_true, Nat.one_ne_zero, if_false, LinkV.e1, LinkV.e2] at HPD
              clear HP HBAD HGOOD
              have heq := fun w => run_eql_pair w
              go_wp2
              refine wp_region_abs (by kernel_rfl) (by kernel_rfl) ?_
              intro T hT gt hg hgi
              have HGT := hide hg
              have HGI := hide hgi
              clear hg hgi
              have k0 := fun t => (HPD.out _ (HGT.out t)).1.1
              have k1 := fun t => (HPD.out _ (HGT.out t)).1.2
              have k2 := fun t => (HPD.out _ (HGT.out t)).2.1
              have k3 := fun t => (HPD.out _ (HGT.out t)).2.2
              have HC1 := hide (fun t => containsAr_any ends A2 ends.length c2 ra rp (gt t) (by omega) (own_sl plCells_len (HOw.out _ (HGT.out t)) rfl))
              have HC2 := hide (fun t => containsAr_any ends A2 ends.length c2 rb rq (gt t) (by omega) (own_sl plCells_len (HOw.out _ (HGT.out t)) rfl))
              cases e12 : eqP (ra, rp) (rb, rq)
              case true =>
                repeat (go_big_quiet_step (first | (go_at_call_of 30 (Value.agg #[Value.int .i64 ra, Value.int .i64 rp]); exact inAbs HGT.out HGI.out (HC1.out _)) | (go_at_call 30; exact inAbs HGT.out HGI.out (HC2.out _))))
                refine wpQuiet_nil ?_
                intro _ hw'
                obtain ⟨t, rfl⟩ := hw'
                have HG1 := hide (HGT.out t)
                generalize gt t = w9 at *
                clear k0 k1 k2 k3 HGT HGI
                have HF := hide (show E = 5 from by rw [HG.out]; simp only [takenB, LinkV.e1, LinkV.e2, e12, Bool.true_or, Bool.or_true, if_true])
                go_wp2
                go_ret
                exact ⟨ret_i64' HF.out.symm, (HQ.out _ (HJ0.out.trans (HG1.out.mono HJ0.out.size))).2.2⟩
              cases a1 : ends.any (fun z => eqP (ra, rp) z)
              case true =>
                simp only [a1] at HC1
                repeat (go_big_quiet_step (first | (go_at_call_of 30 (Value.agg #[Value.int .i64 ra, Value.int .i64 rp]); exact inAbs HGT.out HGI.out (HC1.out _)) | (go_at_call 30; exact inAbs HGT.out HGI.out (HC2.out _))))
                refine wpQuiet_nil ?_
                intro _ hw'
                obtain ⟨t, rfl⟩ := hw'
                have HG1 := hide (HGT.out t)
                generalize gt t = w9 at *
                clear k0 k1 k2 k3 HGT HGI
                have HF := hide (show E = 5 from by rw [HG.out]; simp only [takenB, LinkV.e1, LinkV.e2, a1, Bool.true_or, Bool.or_true, if_true])
                go_wp2
                go_ret
                exact ⟨ret_i64' HF.out.symm, (HQ.out _ (HJ0.out.trans (HG1.out.mono HJ0.out.size))).2.2⟩
              simp only [a1] at HC1
              cases a2 : ends.any (fun z => eqP (rb, rq) z)
              case true =>
                simp only [a2] at HC2
                repeat (go_big_quiet_step (first | (go_at_call_of 30 (Value.agg #[Value.int .i64 ra, Value.int .i64 rp]); exact inAbs HGT.out HGI.out (HC1.out _)) | (go_at_call 30; exact inAbs HGT.out HGI.out (HC2.out _))))
                refine wpQuiet_nil ?_
                intro _ hw'
                obtain ⟨t, rfl⟩ := hw'
                have HG1 := hide (HGT.out t)
                generalize gt t = w9 at *
                clear k0 k1 k2 k3 HGT HGI
                have HF := hide (show E = 5 from by rw [HG.out]; simp only [takenB, LinkV.e1, LinkV.e2, a2, Bool.true_or, Bool.or_true, if_true])
                go_wp2
                go_ret
                exact ⟨ret_i64' HF.out.symm, (HQ.out _ (HJ0.out.trans (HG1.out.mono HJ0.out.size))).2.2⟩
              simp only [a2] at HC2
              repeat (go_big_quiet_step (first | (go_at_call_of 30 (Value.agg #[Value.int .i64 ra, Value.int .i64 rp]); exact inAbs HGT.out HGI.out (HC1.out _)) | (go_at_call 30; exact inAbs HGT.out HGI.out (HC2.out _))))
              refine wpQuiet_nil ?_
              intro _ hw'
              obtain ⟨t, rfl⟩ := hw'
              have HG1 := hide (HGT.out t)
              generalize gt t = w9 at *
              clear k0 k1 k2 k3 HGT HGI
              have HF := hide (show E = linksE (ds.map DevV.dev) (ends ++ [(ra, rp), (rb, rq)]) (ls.drop (k + 1)) from by
                rw [HG.out]
                simp only [takenB, LinkV.e1, LinkV.e2, e12, a1, a2, Bool.or_false, Bool.false_eq_true, if_false])
              have HRe := hide (HQA.out w9 HG1.out).2.2
              have HOL := hide (HOw.out w9 HG1.out)
              have HW9 := hide (HJ0.out.trans (HG1.out.mono HJ0.out.size))
              have hsW : W0.heap.size ≤ w9.heap.size := HW9.out.size
              clear e12 a1 a2 HG
              go_wp2_with (at_builtin; refine wpList_append_any _ rfl (.tmp 170) (.tmp 171) 83 rfl W0.heap.size 86 i0 _ 2 16 Tryz.underlying83 hi0 hz0 hz1 hz2 rfl (by omega) (.slice A2 ends.length c2) ends.length (ends.flatMap plCells) rfl HOL.out (N + 2) (some ⟨N + 1, 0, none⟩) 2 2 [.int .i64 ra, .int .i64 rp, .int .i64 rb, .int .i64 rq] rfl HRe.out (by intro u hu; simp at hu; rcases hu with rfl | rfl | rfl | rfl <;> rfl) (by simp only [maxLen]; omega) (by omega) (by omega) ?_; intro v5 w5 hown5 hg5 hat5; have HG5 := hide (grow_new HW9.out (Nat.le_refl _) hg5 (fun q hq => (HOL.out.lt q hq).1)); have HO5 := hide hown5; clear hown5 hg5 hat5)
              go_roundw
              case rel => exact ⟨k + 1, ends ++ [(ra, rp), (rb, rq)], by omega, by go_num, HF, HG5, hide (by simpa [plCells] using HO5.out), hide (by have := HEL.out; simp; omega)⟩
              case measure => simp [intOf]; omega
        · have HF := hide (show E = 0 from by rw [HC.out, List.drop_of_length_le (by have := HLL.out; omega)]; rfl)
          go_wp2
          go_ret
          exact ⟨ret_i64' HF.out.symm, HBW.out⟩
theorem boxesL : ∀ (l : List (Array Value × TypeId)) (W : World) {W' : World}, RowKit.Below (W.heap.size + l.length) (l.foldl (fun w x => w.alloc (.cells x.1 x.2)) W) W' →
    (∀ (i : Nat) c t, l[i]? = some (c, t) → ∀ (o : Nat) (v : Value), c[o]? = some v → W'.cell? ⟨W.heap.size + i, o, none⟩ = some v) ∧ RowKit.Below W.heap.size W W' ∧ W.heap.size + l.length ≤ W'.heap.size := by
  intro l
  induction l with
  | nil =>
    intro W W' hb
    exact ⟨fun i c t h => by simp at h, by simpa using hb, by have := hb.size; simpa using this⟩
  | cons x l ih =>
    intro W W' hb
    have hz : (W.alloc (.cells x.1 x.2)).heap.size = W.heap.size + 1 := by simp
    obtain ⟨h1, h2, h3⟩ := ih (W.alloc (.cells x.1 x.2)) (W' := W') (by
      rw [hz]
      simp only [List.foldl_cons, List.length_cons] at hb
      rw [show W.heap.size + 1 + l.length = W.heap.size + (l.length + 1) by omega]
      exact hb)
    refine ⟨fun i c t hi o v hv => ?_, ((RowKit.Below.refl _ _).alloc (Nat.le_refl _) _).trans (h2.mono (by omega)), by rw [hz] at h3; simp only [List.length_cons]; omega⟩
    cases i with
    | zero =>
      cases hi
      rw [hz] at h2
      exact cell_new W _ _ rfl h2 o v hv
    | succ i =>
      have := h1 i c t (by simpa using hi) o v hv
      rw [hz] at this
      rw [show W.heap.size + (i + 1) = W.heap.size + 1 + i by omega]
      exact this
open Go.Maps
theorem wi16 (a : Int) : inR a 0 15 = (decide (0 ≤ a) && decide (a < 16)) := by
  unfold inR
  rw [Bool.eq_iff_iff]; simp; omega
theorem wi8 (a : Int) : inR a 0 7 = (decide (0 ≤ a) && decide (a < 8)) := by
  unfold inR
  rw [Bool.eq_iff_iff]; simp; omega
theorem packetCheck_walk (p : P4) (W : World) : Calls Tryz.prog 70 #[.agg #[.int .i64 p.src, .int .i64 p.dst, .int .i64 p.sport, .int .i64 p.dport]] W fun e W' => e = .returned (.int .i64 (if rightB p then 0 else 1)) ∧ RowKit.Below W.heap.size W W' := by
  obtain ⟨a, b, c, d⟩ := p
  have HB := hide (fun o => show RowKit.Below W.heap.size W (W.alloc o) from (RowKit.Below.refl _ _).alloc (Nat.le_refl _) o)
  have HR := hide (show rightB ⟨a, b, c, d⟩ = (inR a 0 15 && inR b 0 15 && inR c 0 7 && inR d 0 7) from rfl)
  generalize rightB _ = R at *
  cases e1 : inR a 0 15
  · have f1 := hide ((wi16 a).symm.trans e1)
    have HF := hide (show R = false from by rw [HR.out, e1]; rfl)
    rw [HF.out]
    go_enter Tryz.func70, Tryz.ntmps70
    go_wp2_with (first | (go_at_call_of 73 (Value.int .i64 a); refine (within_walk _ _ _ _ f1.out).mono ?_; rintro e w1 ⟨rfl, rfl⟩))
    go_ret
    exact ⟨rfl, HB.out _⟩
  have f1 := hide ((wi16 a).symm.trans e1)
  cases e2 : inR b 0 15
  · have f2 := hide ((wi16 b).symm.trans e2)
    have HF := hide (show R = false from by rw [HR.out, e1, e2]; rfl)
    rw [HF.out]
    go_enter Tryz.func70, Tryz.ntmps70
    go_wp2_with (first | (go_at_call_of 73 (Value.int .i64 a); refine (within_walk _ _ _ _ f1.out).mono ?_; rintro e w1 ⟨rfl, rfl⟩) | (go_at_call_of 73 (Value.int .i64 b); refine (within_walk _ _ _ _ f2.out).mono ?_; rintro e w1 ⟨rfl, rfl⟩))
    go_ret
    exact ⟨rfl, HB.out _⟩
  have f2 := hide ((wi16 b).symm.trans e2)
  cases e3 : inR c 0 7
  · have f3 := hide ((wi8 c).symm.trans e3)
    have HF := hide (show R = false from by rw [HR.out, e1, e2, e3]; rfl)
    rw [HF.out]
    go_enter Tryz.func70, Tryz.ntmps70
    go_wp2_with (first | (go_at_call_of 73 (Value.int .i64 a); refine (within_walk _ _ _ _ f1.out).mono ?_; rintro e w1 ⟨rfl, rfl⟩) | (go_at_call_of 73 (Value.int .i64 b); refine (within_walk _ _ _ _ f2.out).mono ?_; rintro e w1 ⟨rfl, rfl⟩) | (go_at_call_of 73 (Value.int .i64 c); refine (within_walk _ _ _ _ f3.out).mono ?_; rintro e w1 ⟨rfl, rfl⟩))
    go_ret
    exact ⟨rfl, HB.out _⟩
  have f3 := hide ((wi8 c).symm.trans e3)
  cases e4 : inR d 0 7
  · have f4 := hide ((wi8 d).symm.trans e4)
    have HF := hide (show R = false from by rw [HR.out, e1, e2, e3, e4]; rfl)
    rw [HF.out]
    go_enter Tryz.func70, Tryz.ntmps70
    go_wp2_with (first | (go_at_call_of 73 (Value.int .i64 a); refine (within_walk _ _ _ _ f1.out).mono ?_; rintro e w1 ⟨rfl, rfl⟩) | (go_at_call_of 73 (Value.int .i64 b); refine (within_walk _ _ _ _ f2.out).mono ?_; rintro e w1 ⟨rfl, rfl⟩) | (go_at_call_of 73 (Value.int .i64 c); refine (within_walk _ _ _ _ f3.out).mono ?_; rintro e w1 ⟨rfl, rfl⟩) | (go_at_call_of 73 (Value.int .i64 d); refine (within_walk _ _ _ _ f4.out).mono ?_; rintro e w1 ⟨rfl, rfl⟩))
    go_ret
    exact ⟨rfl, HB.out _⟩
  · have f4 := hide ((wi8 d).symm.trans e4)
    have HF := hide (show R = true from by rw [HR.out, e1, e2, e3, e4]; rfl)
    rw [HF.out]
    go_enter Tryz.func70, Tryz.ntmps70
    go_wp2_with (first | (go_at_call_of 73 (Value.int .i64 a); refine (within_walk _ _ _ _ f1.out).mono ?_; rintro e w1 ⟨rfl, rfl⟩) | (go_at_call_of 73 (Value.int .i64 b); refine (within_walk _ _ _ _ f2.out).mono ?_; rintro e w1 ⟨rfl, rfl⟩) | (go_at_call_of 73 (Value.int .i64 c); refine (within_walk _ _ _ _ f3.out).mono ?_; rintro e w1 ⟨rfl, rfl⟩) | (go_at_call_of 73 (Value.int .i64 d); refine (within_walk _ _ _ _ f4.out).mono ?_; rintro e w1 ⟨rfl, rfl⟩))
    go_ret
    exact ⟨rfl, HB.out _⟩
end Go.Proofs.YtifkacnoiocebaaGreat
namespace Go.Proofs.YtifkacnoiocebaaGreat
open Go.RowKit
theorem portsF_range (k : Int) : 0 ≤ portsF k ∧ portsF k ≤ 4 := by
  unfold portsF
  repeat' split
  all_goals omega
open Bdd
theorem dst_has (l : List RouteV) (port : Int) (c : Nat) (hc : c < 16384) : outs (partL 65535 (setTo (dstB l port) 16) 255 255) (asgOf c) = dstB l port (c / 64 % 16) := by
  rw [outs_has _ _ _ _ c hc]
  have h16 : ∀ i : Fin 16, Nat.testBit 65535 i.val = true := by decide +kernel
  have h8 : ∀ i : Fin 8, Nat.testBit 255 i.val = true := by decide +kernel
  have a := h16 ⟨c / 1024, by omega⟩
  have b := h8 ⟨c / 8 % 8, by omega⟩
  have d := h8 ⟨c % 8, by omega⟩
  simp only at a b d
  unfold hasAllB
  rw [a, b, d, setTo_bit]
  have : c / 64 % 16 < 16 := by omega
  simp [this]
theorem andF_at (F G : Bdd.Fn) (x : Asg) : andF F G x = (F x && G x) := by unfold andF iteF; cases F x <;> simp
theorem orF_at (F G : Bdd.Fn) (x : Asg) : orF F G x = (F x || G x) := by unfold orF iteF; cases F x <;> simp
theorem countP_lt {p q : Nat → Bool} : ∀ {l : List Nat}, (∀ a ∈ l, p a = true → q a = true) → (∃ a ∈ l, q a = true ∧ p a = false) → l.countP p < l.countP q := by
  intro l
  induction l with
  | nil => rintro _ ⟨a, ha, _⟩; simp at ha
  | cons b l ih =>
    intro h hx
    have hle : l.countP p ≤ l.countP q := List.countP_mono_left (fun a ha => h a (by simp [ha]))
    have hb := h b (by simp)
    obtain ⟨a, ha, h1, h2⟩ := hx
    rw [List.countP_cons, List.countP_cons]
    rcases List.mem_cons.1 ha with rfl | ha'
    · rw [h1, h2]; simp; omega
    · have := ih (fun a ha => h a (by simp [ha])) ⟨a, ha', h1, h2⟩
      cases hp : p b
      · cases hq : q b <;> simp <;> omega
      · rw [hb hp]; simp; omega
def cntS (S : Pl → Bdd.Fn) (l : List Pl) : Nat := (l.map fun x => cntF 14 14 (S x)).sum
theorem cnt_le {F G : Bdd.Fn} (h : ∀ a, F a = true → G a = true) : cntF 14 14 F ≤ cntF 14 14 G := List.countP_mono_left (fun r _ => h _)
theorem cnt_lt {F G : Bdd.Fn} (hF : Bdd.Below 14 F) (hG : Bdd.Below 14 G) (h : ∀ a, F a = true → G a = true) (hne : F ≠ G) : cntF 14 14 F < cntF 14 14 G := by
  refine countP_lt (fun r _ => h _) ?_
  rcases Classical.em (∃ a, G a = true ∧ F a = false) with ⟨a, h1, h2⟩ | hno
  · have hcode : ∀ u, u < 14 → a u = asgV 14 (codeN a 14) u := fun u hu => (codeN_bit a 14 u hu).symm
    exact ⟨codeN a 14, List.mem_range.2 (codeN_lt a 14), by rw [← hG a _ hcode]; exact h1, by rw [← hF a _ hcode]; exact h2⟩
  · refine absurd (funext fun a => ?_) hne
    cases hf : F a
    · cases hg : G a
      · rfl
      · exact absurd ⟨a, hg, hf⟩ hno
    · rw [h a hf]
theorem cntS_le {S S' : Pl → Bdd.Fn} (h : ∀ x a, S' x a = true → S x a = true) : ∀ l, cntS S' l ≤ cntS S l := by
  intro l
  induction l with
  | nil => simp [cntS]
  | cons x l ih =>
    have := cnt_le (h x)
    simp only [cntS, List.map_cons, List.sum_cons] at *
    omega
theorem cntS_lt {S S' : Pl → Bdd.Fn} (hb : ∀ x, Bdd.Below 14 (S x)) (hb' : ∀ x, Bdd.Below 14 (S' x)) (h : ∀ x a, S' x a = true → S x a = true) {x : Pl} (hne : S' x ≠ S x) : ∀ l, x ∈ l → cntS S' l < cntS S l := by
  intro l
  induction l with
  | nil => intro hx; simp at hx
  | cons y l ih =>
    intro hx
    have h1 := cnt_le (h y)
    have h2 := cntS_le h l
    rcases List.mem_cons.1 hx with rfl | hx'
    · have := cnt_lt (hb' x) (hb x) (h x) hne
      simp only [cntS, List.map_cons, List.sum_cons] at *
      omega
    · have := ih hx'
      simp only [cntS, List.map_cons, List.sum_cons] at *
      omega
end Go.Proofs.YtifkacnoiocebaaGreat
