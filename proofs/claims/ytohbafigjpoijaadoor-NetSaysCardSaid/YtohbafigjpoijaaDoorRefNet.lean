/- wireref.Net. -/
import Derived.Test.YtohbafigjpoijaaDoorRefNetP
import Derived.Test.YtohbafigjpoijaaDoorRefDev
set_option linter.unusedVariables false
set_option linter.unusedSimpArgs false
namespace Go.Proofs.YtohbafigjpoijaaDoor
open Go.RowKit

theorem Tryd.infoPair : (Tryd.prog.info? 101).map (fun i => (i.zero, i.size, i.bytes)) = some (some (.agg #[.int .i64 0, .int .i64 0]), 2, 16) := by kernel_rfl
theorem inR_lt (X : Int) (n : Nat) : inR X 0 ((n : Int) - 1) = (decide (0 ≤ X) && decide (X < (n : Int))) := by
  unfold inR
  rw [Bool.eq_iff_iff]; simp; omega
theorem inR_ltI (X p : Int) : inR X 0 (p - 1) = (decide (0 ≤ X) && decide (X < p)) := by
  unfold inR
  rw [Bool.eq_iff_iff]; simp; omega
theorem nm_all {s : ByteArray} {b : Bool} {q : Nat} (hq : s.size ≤ q) (h : b = (inR s.size 1 8 && (s.data.toList.take q).all nameByte)) : b = namedB s := by
  rw [h, List.take_of_length_le (by simpa using hq)]
  unfold namedB inR
  generalize s.data.toList.all nameByte = b
  rw [Bool.eq_iff_iff]
  cases b <;> simp <;> omega
theorem any_names {ds : List DevV} {k : Nat} {nm : ByteArray} (h : ∀ i d, i < k → ds[i]? = some d → nameEq d.name nm = false) : ((ds.map DevV.dev).take k).any (fun x => nameEq x.name nm) = false := by
  rw [List.any_eq_false]
  intro x hx
  obtain ⟨j, hj⟩ := List.getElem?_of_mem hx
  have hjk : j < k := by have := (List.getElem?_eq_some_iff.1 hj).1; simp at this; omega
  rw [List.getElem?_take_of_lt hjk, List.getElem?_map] at hj
  cases hd : ds[j]? with
  | none => rw [hd] at hj; cases hj
  | some d => rw [hd] at hj; cases hj; simpa [DevV.dev] using h j d hjk hd
theorem some_names {ds : List DevV} {k j : Nat} {d : DevV} {nm : ByteArray} (hj : j < k) (hd : ds[j]? = some d) (h : nameEq d.name nm = true) : ((ds.map DevV.dev).take k).any (fun x => nameEq x.name nm) = true := by
  rw [List.any_eq_true]
  exact ⟨d.dev, List.mem_of_getElem? (i := j) (by rw [List.getElem?_take_of_lt hj, List.getElem?_map, hd]; rfl), h⟩

set_option maxRecDepth 100000 in
set_option maxHeartbeats 16000000 in
theorem refNet_walk (n : NetV) (W : World) (hn : NetAt W W.heap.size n) :
    Calls Tryd.prog 29 #[n.val] W fun e W' => e = .returned (.int .i64 (netE n.devs n.ls)) ∧ RowKit.Below W.heap.size W W' := by
  obtain ⟨i0, hi0, hz0, hz1, hz2⟩ := info_parts Tryd.infoPair
  obtain ⟨dA, dn, dc, ds, lA, ln, lc, ls⟩ := n
  obtain ⟨W0, hW0⟩ : ∃ W0, W0 = W.alloc (.cells #[.slice dA dn dc, .slice lA ln lc] 53) := ⟨_, rfl⟩
  have HB0 := hide (show RowKit.Below W.heap.size W W0 from by rw [hW0]; exact (RowKit.Below.refl _ _).alloc (Nat.le_refl _) _)
  have HSZ := hide (show W0.heap.size = W.heap.size + 1 from by rw [hW0]; simp)
  have HQ := hide (fun (w' : World) (hb : RowKit.Below W0.heap.size W0 w') => show (w'.cell? ⟨W.heap.size, 0, none⟩ = some (.slice dA dn dc) ∧ w'.cell? ⟨W.heap.size, 1, none⟩ = some (.slice lA ln lc)) ∧ NetAt w' w'.heap.size ⟨dA, dn, dc, ds, lA, ln, lc, ls⟩ ∧ RowKit.Below W.heap.size W w' from by
    have h1 := HB0.out.trans (hb.mono (by rw [HSZ.out]; omega))
    rw [HSZ.out, hW0] at hb
    exact ⟨⟨cell_new W _ _ rfl hb 0 _ rfl, cell_new W _ _ rfl hb 1 _ rfl⟩, hn.below h1 h1.size, h1⟩)
  have HDL := hide (show ds.length = dn from hn.dlen)
  have HLL := hide (show ls.length = ln from hn.llen)
  have hdc : dn ≤ dc := hn.cd.1
  have hlc : ln ≤ lc := hn.cl.1
  have HM := hide (And.intro hn.cd.2 hn.cl.2)
  clear hn
  have HN := hide (show netE (NetV.devs ⟨dA, dn, dc, ds, lA, ln, lc, ls⟩) ls = if 10 < dn ∨ 15 < ln then 2 else if devsE [] (ds.map DevV.dev) = 0 then linksE (ds.map DevV.dev) [] ls else devsE [] (ds.map DevV.dev) from by
    unfold netE NetV.devs; rw [List.length_map, HDL.out, HLL.out])
  simp only [NetV.val] at *
  generalize netE _ _ = E at *
  obtain ⟨x0, x1⟩ := (HQ.out W0 (RowKit.Below.refl _ _)).1
  have HR := hide (RowKit.Below.refl W0.heap.size W0)
  by_cases h10 : 10 < dn
  · have HF := hide (show E = 2 from by rw [HN.out, if_pos (.inl h10)])
    clear HN x0 x1
    subst hW0
    go_enter Tryd.func29, Tryd.ntmps29
    go_wp2
    go_ret
    exact ⟨ret_i64' HF.out.symm, (HQ.out _ HR.out).2.2⟩
  by_cases h15 : 15 < ln
  · have HF := hide (show E = 2 from by rw [HN.out, if_pos (.inr h15)])
    clear HN x0 x1
    subst hW0
    go_enter Tryd.func29, Tryd.ntmps29
    go_wp2
    go_ret
    exact ⟨ret_i64' HF.out.symm, (HQ.out _ HR.out).2.2⟩
  have HN2 := hide (show E = if devsE [] (ds.map DevV.dev) = 0 then linksE (ds.map DevV.dev) [] ls else devsE [] (ds.map DevV.dev) from by rw [HN.out, if_neg (by omega)])
  clear HN x0 x1
  go_enter Tryd.func29, Tryd.ntmps29
  go_wp2
  rw [← hW0]
  clear hW0
  go_loopw [3] (fun i wr => ∃ k : Nat, k ≤ dn ∧ i = .int .i64 k ∧ Hid (devsE [] (ds.map DevV.dev) = devsE ((ds.map DevV.dev).take k) ((ds.map DevV.dev).drop k)) ∧ Hid (RowKit.Below W0.heap.size W0 wr)) (fun i _ => dn - (intOf i).toNat)
  case atStart => exact ⟨0, Nat.zero_le _, rfl, hide rfl, hide (RowKit.Below.refl _ _)⟩
  case round =>
    obtain ⟨k, hk, rfl, HC, HB⟩ := hrel
    obtain ⟨⟨x0, x1⟩, hna, hbW⟩ := HQ.out wr HB.out
    have HNA := hide hna
    have HBW := hide hbW
    clear hna hbW
    by_cases hlt : k < dn
    · obtain ⟨r, hr⟩ : ∃ r, ds[k]? = some r := ⟨_, List.getElem?_eq_getElem (by have := HDL.out; omega)⟩
      have HS := hide (devsE_step (l := ds.map DevV.dev) (k := k) (d := r.dev) (by rw [List.getElem?_map, hr]; rfl))
      obtain ⟨b, o, rfl, _, _⟩ := HNA.out.ds.2 (by show 0 < dn; omega)
      obtain ⟨hbB, q0, q1, q2, q3, q4, q5, q6⟩ := dev_get HNA.out.ds hr
      have hnm : r.name.size ≤ 9223372036854775807 := by have := (HNA.out.dok r (List.mem_of_getElem? hr)).nm; unfold maxLen at this; exact this
      have HGN := hide (fun (j : Nat) (d : DevV) (hd : ds[j]? = some d) (w' : World) (hb : RowKit.Below W0.heap.size W0 w') => (dev_get (HQ.out w' hb).2.1.ds hd).2.1)
      obtain ⟨nm, kd, ad, pl, bA, bn, bc, bs, rA, rn, rc, rs, tA, tn, tc, ts⟩ := r
      obtain ⟨N, hN⟩ : ∃ N, wr.heap.size = N := ⟨_, rfl⟩
      obtain ⟨w1, hw1⟩ : ∃ w1, w1 = wr.alloc (.cells #[.string nm, .int .i64 kd, .int .i64 ad, .int .u8 pl, .slice bA bn bc, .slice rA rn rc, .slice tA tn tc] 71) := ⟨_, rfl⟩
      have HB1 := hide (show RowKit.Below W0.heap.size W0 w1 from by rw [hw1]; exact HB.out.alloc HB.out.size _)
      have HX1 := hide (fun (w' : World) (hb : RowKit.Below w1.heap.size w1 w') => show DBox w' N ⟨nm, kd, ad, pl, bA, bn, bc, bs, rA, rn, rc, rs, tA, tn, tc, ts⟩ ∧ (w'.cell? ⟨W.heap.size, 0, none⟩ = some (.slice (some ⟨b, o, none⟩) dn dc) ∧ w'.cell? ⟨W.heap.size, 1, none⟩ = some (.slice lA ln lc)) ∧ RowKit.Below W0.heap.size W0 w' ∧ N < w'.heap.size from by
        have hs : w1.heap.size = N + 1 := by rw [hw1, ← hN]; simp
        have h1 := HB1.out.trans (hb.mono HB1.out.size)
        have h2 := hb.size
        refine ⟨DBox.below (w := w1) (by rw [hw1, ← hN]; exact DBox.new wr ⟨nm, kd, ad, pl, bA, bn, bc, bs, rA, rn, rc, rs, tA, tn, tc, ts⟩ _) hb (by omega), (HQ.out w' h1).1, h1, by omega⟩)
      have HDW := hide (refdev_any ⟨nm, kd, ad, pl, bA, bn, bc, bs, rA, rn, rc, rs, tA, tn, tc, ts⟩)
      have HDA := hide (fun (w' : World) (hb : RowKit.Below w1.heap.size w1 w') => show DevAt w' w'.heap.size ⟨nm, kd, ad, pl, bA, bn, bc, bs, rA, rn, rc, rs, tA, tn, tc, ts⟩ from by
        have h1 := (HX1.out w' hb).2.2.1
        exact (HQ.out w' h1).2.1.dok _ (List.mem_of_getElem? hr))
      clear hr
      simp only [DevV.dev] at HS HDW
      have HW1 := hide hw1
      clear hw1
      go_wp2_with fail
      refine (inR_walk _ _ _ _).mono ?_
      rintro e w' ⟨rfl, rfl⟩
      rw [← HW1.out]
      clear q0 q1 q2 q3 q4 q5 q6 x0 x1
      obtain ⟨⟨y0, y1, y2, y3, y4, y5, y6⟩, ⟨x0, x1⟩, _, hNs⟩ := HX1.out w1 (RowKit.Below.refl _ _)
      have HOK0 := hide (show inR (nm.size : Int) 1 8 = (inR (nm.size : Int) 1 8 && (nm.data.toList.take 0).all nameByte) from by simp)
      have HRF := hide (rfl : inR (nm.size : Int) 1 8 = inR (nm.size : Int) 1 8)
      go_wp2
      go_loop [5, 6] (fun u i => ∃ (q : Nat) (bb : Bool), q ≤ nm.size ∧ i = .int .i64 q ∧ u = .bool bb ∧ Hid (bb = (inR (nm.size : Int) 1 8 && (nm.data.toList.take q).all nameByte))) (fun _ i => nm.size - (intOf i).toNat)
      case atStart => exact ⟨0, _, Nat.zero_le _, rfl, rfl, HOK0⟩
      case round =>
        clear HOK0
        obtain ⟨q, bb, hq, rfl, rfl, HBB⟩ := hrel
        by_cases hqs : q < nm.size
        · have HT := hide (show nm.data.toList.take (q + 1) = nm.data.toList.take q ++ [nm[q]] from by rw [List.take_succ_eq_append_getElem (by simpa using hqs)]; rfl)
          have HBN := hide (show (inR (nm.size : Int) 1 8 && (nm.data.toList.take (q + 1)).all nameByte) = (bb && nameByte nm[q]) from by rw [HT.out, List.all_append, HBB.out]; simp [Bool.and_assoc])
          generalize inR (nm.size : Int) 1 8 = IN at *
          cases bb
          · go_wp2
            all_goals
              go_round
              case rel => exact ⟨q + 1, _, by omega, by go_num, rfl, hide (by rw [HBN.out]; simp)⟩
              case measure => simp [intOf]; omega
          · go_wp2
            all_goals
              go_round
              case rel => exact ⟨q + 1, _, by omega, by go_num, rfl, hide (by rw [HBN.out, Bool.eq_iff_iff]; simp [nameByte] <;> omega)⟩
              case measure => simp [intOf]; omega
        · have HNB := hide (nm_all (by omega) HBB.out)
          clear HBB
          cases hbb : bb
          · subst hbb
            have HF := hide (show E = 3 from by rw [HN2.out, HC.out, HS.out]; simp [← HNB.out])
            go_wp2
            go_ret
            exact ⟨ret_i64' HF.out.symm, (HQ.out _ HB1.out).2.2⟩
          subst hbb
          have HR1 := hide (RowKit.Below.refl w1.heap.size w1)
          go_wp2
          clear y0 y1 y2 y3 y4 y5 y6 x0 x1
          go_loopw [8] (fun i wi => ∃ j : Nat, j ≤ k ∧ i = .int .i64 j ∧ Hid (∀ i d, i < j → ds[i]? = some d → nameEq d.name nm = false) ∧ Hid (RowKit.Below w1.heap.size w1 wi)) (fun i _ => k - (intOf i).toNat)
          case atStart => exact ⟨0, Nat.zero_le _, rfl, hide (fun i d h => absurd h (by omega)), HR1⟩
          case round =>
            clear HR1
            obtain ⟨j, hj, rfl, HNo, HBi⟩ := hrel
            obtain ⟨⟨y0, y1, y2, y3, y4, y5, y6⟩, ⟨x0, x1⟩, hbi, _⟩ := HX1.out wr HBi.out
            have HBi0 := hide hbi
            clear hbi
            by_cases hjk : j < k
            · obtain ⟨d, hd⟩ : ∃ r, ds[j]? = some r := ⟨_, List.getElem?_eq_getElem (by have := HDL.out; omega)⟩
              have q1 := HGN.out j d hd wr HBi0.out
              have HDJ := hide hd
              clear hd
              generalize hdn : d.name = dnm at *
              have HDN := hide hdn
              clear hdn
              by_cases e : dnm.toList = nm.toList
              · have HF := hide (show E = 5 from by
                  have hv : devsE [] (ds.map DevV.dev) = 5 := by
                    have h1 : namedB nm = true := HNB.out.symm
                    have h2 := some_names (nm := nm) hjk HDJ.out (by rw [HDN.out]; simp [nameEq, e])
                    rw [HC.out, HS.out]
                    simp only [h1, h2, Bool.true_eq_false, if_false, if_true]
                  rw [HN2.out, hv]; rfl)
                go_wp2
                go_quiet (fail)
                go_wp2
                go_ret
                exact ⟨ret_i64' HF.out.symm, (HQ.out _ HBi0.out).2.2.trans (below_drew _ _ _)⟩
              · have HNJ := hide (show ∀ i d, i < j + 1 → ds[i]? = some d → nameEq d.name nm = false from fun i d hi hd => by
                  rcases (by omega : i < j ∨ i = j) with h | rfl
                  · exact HNo.out i d h hd
                  · have e2 := HDJ.out
                    rw [e2] at hd
                    cases hd
                    rw [HDN.out]
                    simp [nameEq, e])
                have e2 : (dnm.toList == nm.toList) = false := by simpa using e
                go_wp2
                go_quiet (fail)
                go_wp2
                go_roundw
                case rel => exact ⟨j + 1, by omega, by go_num, HNJ, hide (HBi.out.trans (below_drew _ _ _))⟩
                case measure => simp [intOf]; omega
            · obtain rfl : j = k := by omega
              have HAN := hide (any_names HNo.out)
              have HDE := hide (HDW.out wr (HDA.out wr HBi.out))
              simp only [DevV.val] at HDE
              obtain ⟨DE, hDE⟩ : ∃ DE, devE ⟨nm, kd, ad, pl, bs, rs, ts⟩ = DE := ⟨_, rfl⟩
              simp only [hDE] at HS HDE
              clear hDE
              go_wp2_with fail
              refine HDE.out.mono ?_
              clear HDE HDW
              rintro e w3 ⟨rfl, hb⟩
              have HB3 := hide (HBi0.out.trans (hb.mono HBi0.out.size))
              clear hb y0 y1 y2 y3 y4 y5 y6 x0 x1
              by_cases hde : DE = 0
              · subst hde
                have HF := hide (show devsE [] (ds.map DevV.dev) = devsE ((ds.map DevV.dev).take (j + 1)) ((ds.map DevV.dev).drop (j + 1)) from by rw [HC.out, HS.out]; simp [← HNB.out, HAN.out])
                clear HS HAN
                go_wp2
                go_roundw
                case rel => exact ⟨j + 1, by omega, by go_num, HF, HB3⟩
                case measure => simp [intOf]; omega
              · have d1 : (DE != 0) = true := by simpa using hde
                have d2 : (DE == 0) = false := by simpa using hde
                have HF := hide (show E = DE from by rw [HN2.out, HC.out, HS.out]; simp [← HNB.out, HAN.out, hde])
                clear HS HAN hde
                go_wp2
                go_ret
                exact ⟨ret_i64' HF.out.symm, (HQ.out _ HB3.out).2.2⟩
    · have HF := hide (show E = linksE (ds.map DevV.dev) [] ls from by
        have : devsE [] (ds.map DevV.dev) = 0 := by rw [HC.out, List.drop_of_length_le (by rw [List.length_map]; have := HDL.out; omega)]; rfl
        rw [HN2.out, if_pos this])
      have HO := hide (World.ownsRow_nil wr W0.heap.size 101 2)
      have HBs := HB
      go_wp2
      clear HC hk hlt x0 x1 HB HNA HBW
      go_loopw [10, 11] (fun v i wr => ∃ (k : Nat) (ends : List Pl), k ≤ ln ∧ i = .int .i64 k ∧ Hid (E = linksE (ds.map DevV.dev) ends (ls.drop k)) ∧ Hid (RowKit.Below W0.heap.size W0 wr) ∧ Hid (wr.ownsRow W0.heap.size 101 2 v ends.length (ends.flatMap plCells)) ∧ Hid (ends.length = 2 * k)) (fun _ i _ => ln - (intOf i).toNat)
      case atStart => exact ⟨0, [], Nat.zero_le _, rfl, HF, HBs, HO, hide rfl⟩
      case round =>
        clear HF HO HBs
        obtain ⟨k, ends, hk, rfl, HC, HB, HO, HEL⟩ := hrel
        generalize u10 = v at *
        obtain ⟨⟨x0, x1⟩, hna, hbW⟩ := HQ.out wr HB.out
        have HNA := hide hna
        have HBW := hide hbW
        clear hna hbW
        by_cases hlt : k < ln
        · obtain ⟨r, hr⟩ : ∃ r, ls[k]? = some r := ⟨_, List.getElem?_eq_getElem (by have := HLL.out; omega)⟩
          have HBAD := hide (fun j (hj : j < 2) h1 h2 => HC.out.trans (linksE_bad (ds := ds.map DevV.dev) (ends := ends) (j := j) hr hj h1 h2))
          have HGOOD := hide (fun h1 => HC.out.trans (linksE_good (ds := ds.map DevV.dev) (ends := ends) hr h1))
          obtain ⟨b, o, rfl, _, _⟩ := HNA.out.ls.2 (by show 0 < ln; omega)
          obtain ⟨hbB, q0, q1, q2, q3⟩ := link_get HNA.out.ls hr
          clear hr
          obtain ⟨A2, c2, rfl, hc2, _, _⟩ := SlAt.of_own plCells_len HO.out rfl
          obtain ⟨ra, rp, rb, rq⟩ := r
          go_wp2
          clear q0 q1 q2 q3 x0 x1
          obtain ⟨N, hN⟩ : ∃ N, wr.heap.size = N := ⟨_, rfl⟩
          have HWA := hide (fun t1 t2 => show RowKit.Below N wr ((wr.alloc (.cells #[.int .i64 ra, .int .i64 rp, .int .i64 rb, .int .i64 rq] t1)).alloc (.cells #[.int .i64 ra, .int .i64 rp, .int .i64 rb, .int .i64 rq] t2)) from by rw [← hN]; exact ((RowKit.Below.refl _ _).alloc (Nat.le_refl _) _).alloc (by simp) _)
          have HWC := hide (fun t1 t2 (w' : World) (hb : RowKit.Below (N + 2) ((wr.alloc (.cells #[.int .i64 ra, .int .i64 rp, .int .i64 rb, .int .i64 rq] t1)).alloc (.cells #[.int .i64 ra, .int .i64 rp, .int .i64 rb, .int .i64 rq] t2)) w') => show (∀ j, j < 2 → w'.cell? ⟨N + 1, j * 2, none⟩ = some (.int .i64 (pjL ⟨ra, rp, rb, rq⟩ j).1) ∧ w'.cell? ⟨N + 1, j * 2 + 1, none⟩ = some (.int .i64 (pjL ⟨ra, rp, rb, rq⟩ j).2)) ∧ Reads w' (N + 2) 2 (some ⟨N + 1, 0, none⟩) 2 [.int .i64 ra, .int .i64 rp, .int .i64 rb, .int .i64 rq] from by
            have hs1 : (wr.alloc (.cells #[.int .i64 ra, .int .i64 rp, .int .i64 rb, .int .i64 rq] t1)).heap.size = N + 1 := by rw [← hN]; simp
            have c2 : ∀ o v, (#[Value.int .i64 ra, .int .i64 rp, .int .i64 rb, .int .i64 rq] : Array Value)[o]? = some v → w'.cell? ⟨N + 1, o, none⟩ = some v := fun o v hv => cell_new _ _ _ hs1 hb o v hv
            refine ⟨fun j hj => ?_, rfl, fun _ => ⟨_, rfl, by show N + 1 < _; omega, fun j u hu => ?_⟩⟩
            · rcases (by omega : j = 0 ∨ j = 1) with rfl | rfl
              · exact ⟨c2 0 _ rfl, c2 1 _ rfl⟩
              · exact ⟨c2 2 _ rfl, c2 3 _ rfl⟩
            · rw [addr_add, Nat.zero_add]
              exact c2 j u (by simpa using hu))
          have HW1 := HWA.out 100 101
          have HW2 := HWC.out 100 101
          have hsA : ((wr.alloc (.cells #[.int .i64 ra, .int .i64 rp, .int .i64 rb, .int .i64 rq] 100)).alloc (.cells #[.int .i64 ra, .int .i64 rp, .int .i64 rb, .int .i64 rq] 101)).heap.size = N + 2 := by rw [← hN]; simp
          clear HWA HWC
          generalize World.alloc (World.alloc wr _) _ = wA at *
          have HA1 := hide HW1
          have HA2 := hide HW2
          have HSA := hide hsA
          have hNW : W0.heap.size ≤ N := by rw [← hN]; exact HB.out.size
          have HBA := hide (HB.out.trans (HW1.mono hNW))
          have HOA := hide (fun (w' : World) (hb : RowKit.Below N wr w') => own_below HO.out (by rw [hN]; exact hb))
          rw [hN]
          clear HW1 HW2 hsA HO HB hN HNA HBW
          obtain ⟨wo, hwo⟩ : ∃ wo : World, wo = wr := ⟨_, rfl⟩
          rw [← hwo] at HA1 HOA
          clear hwo
          have HR0 := hide (RowKit.Below.refl wA.heap.size wA)
          go_loopw [14] (fun i wj => ∃ j : Nat, j ≤ 2 ∧ i = .int .i64 j ∧ Hid (∀ i, i < j → placeB (ds.map DevV.dev) (pjL ⟨ra, rp, rb, rq⟩ i) = true) ∧ Hid (RowKit.Below wA.heap.size wA wj)) (fun i _ => 2 - (intOf i).toNat)
          case atStart => exact ⟨0, Nat.zero_le _, rfl, hide (fun i h => absurd h (by omega)), HR0⟩
          case round =>
            clear HR0
            obtain ⟨j, hj, rfl, HP, HJ⟩ := hrel
            have HJ0 := hide (HBA.out.trans (HJ.out.mono HBA.out.size))
            have HQA := hide (fun (w' : World) (hb : RowKit.Below wr.heap.size wr w') => And.intro (HQ.out w' (HJ0.out.trans (hb.mono HJ0.out.size))) (HA2.out w' (HSA.out ▸ HJ.out.trans (hb.mono HJ.out.size))))
            by_cases hj2 : j < 2
            · have HBJ := hide (fun h => HBAD.out j hj2 HP.out h)
              have HPJ := hide (fun (h : placeB (ds.map DevV.dev) (pjL ⟨ra, rp, rb, rq⟩ j) = true) i (hi : i < j + 1) => show placeB (ds.map DevV.dev) (pjL ⟨ra, rp, rb, rq⟩ i) = true from by
                rcases (by omega : i < j ∨ i = j) with h1 | rfl
                · exact HP.out i h1
                · exact h)
              have HPC := hide (fun (w' : World) (hb : RowKit.Below wr.heap.size wr w') => (HQA.out w' hb).2.1 j hj2)
              obtain ⟨X, Y, hXY⟩ : ∃ X Y, pjL ⟨ra, rp, rb, rq⟩ j = (X, Y) := ⟨_, _, rfl⟩
              simp only [hXY] at HPC HBJ HPJ
              clear hXY
              have j1 : (0 : Int) ≤ (j : Int) := by omega
              have j2 : (j : Int) < 2 := by omega
              have d0 : (0 : Int) ≤ (dn : Int) := by omega
              have d1 : (dn : Int) ≤ 10 := by omega
              have HNA := hide (HQ.out wr HJ0.out).2.1
              cases e1 : (decide (0 ≤ X) && decide (X < (dn : Int)))
              · have HF := hide (show E = 1 from HBJ.out (by simp only [placeB, List.length_map, HDL.out, e1]; rfl))
                go_wp2
                refine wp_region_abs (by kernel_rfl) (by kernel_rfl) ?_
                intro T hT gt hg hgi
                have HGT := hide hg
                have HGI := hide hgi
                clear hg hgi
                have k0 := fun t => (HPC.out _ (HGT.out t)).1
                have k1 := fun t => (HPC.out _ (HGT.out t)).2
                have k2 := fun t => (HQA.out _ (HGT.out t)).1.1.1
                have HC1 := hide (fun t => inR_is (gt t) ((inR_lt X dn).trans e1))
                clear e1
                repeat (go_big_quiet_step ((go_at_call 40; exact inAbsSame (HC1.out _))))
                refine wpQuiet_nil ?_
                intro _ hw'
                obtain ⟨t, rfl⟩ := hw'
                have HG1 := hide (HJ.out.trans ((HGT.out t).mono HJ.out.size))
                generalize gt t = w9 at *
                clear k0 k1 k2 HGT HGI
                go_wp2
                go_ret
                exact ⟨ret_i64' HF.out.symm, (HQ.out _ (HBA.out.trans (HG1.out.mono HBA.out.size))).2.2⟩
              · have e1' := e1
                simp only [Bool.and_eq_true, decide_eq_true_eq] at e1'
                obtain ⟨i, rfl⟩ : ∃ i : Nat, X = (i : Int) := ⟨X.toNat, by omega⟩
                obtain ⟨rd, hrd⟩ : ∃ r, ds[i]? = some r := ⟨_, List.getElem?_eq_getElem (by have := HDL.out; omega)⟩
                have HKA := hide (show kindAt (ds.map DevV.dev) (i : Int) = rd.kind from by simp [kindAt, hrd, DevV.dev])
                obtain ⟨db, od, rfl, _, _⟩ := HNA.out.ds.2 (by show 0 < dn; omega)
                have HKC := hide (fun (w' : World) (hb : RowKit.Below W0.heap.size W0 w') => (dev_get (HQ.out w' hb).2.1.ds hrd).2.2.1)
                have i1 : (0 : Int) ≤ (i : Int) := by omega
                have i2 : (i : Int) < (dn : Int) := by omega
                have HPB := hide (show placeB (ds.map DevV.dev) ((i : Int), Y) = (decide (0 ≤ Y) && decide (Y < portsF rd.kind)) from by simp only [placeB, List.length_map, HDL.out, e1, HKA.out]; rfl)
                obtain ⟨pf1, pf2⟩ := portsF_rng rd.kind
                cases e2 : (decide (0 ≤ Y) && decide (Y < portsF rd.kind))
                · have HF := hide (show E = 1 from HBJ.out (by rw [HPB.out, e2]))
                  go_wp2
                  refine wp_region_abs (by kernel_rfl) (by kernel_rfl) ?_
                  intro T hT gt hg hgi
                  have HGT := hide hg
                  have HGI := hide hgi
                  clear hg hgi
                  have k0 := fun t => (HPC.out _ (HGT.out t)).1
                  have k1 := fun t => (HPC.out _ (HGT.out t)).2
                  have k2 := fun t => (HQA.out _ (HGT.out t)).1.1.1
                  have k3 := fun t => HKC.out (gt t) (HJ0.out.trans ((HGT.out t).mono HJ0.out.size))
                  have HC1 := hide (fun t => inR_is (gt t) ((inR_lt (i : Int) dn).trans e1))
                  have HC2 := hide (fun t => refPorts_walk rd.kind (gt t))
                  have HC3 := hide (fun t => inR_is (gt t) ((inR_ltI Y (portsF rd.kind)).trans e2))
                  clear e1 e2 e1'
                  generalize portsF rd.kind = PF at *
                  repeat (go_big_quiet_step (first | (go_at_call_of 40 (Value.int .i64 Y); exact inAbsSame (HC3.out _)) | (go_at_call 40; exact inAbsSame (HC1.out _)) | (go_at_call 36; exact inAbs HGT.out HGI.out (HC2.out _))))
                  refine wpQuiet_nil ?_
                  intro _ hw'
                  obtain ⟨t, rfl⟩ := hw'
                  have HG1 := hide (HJ.out.trans ((HGT.out t).mono HJ.out.size))
                  generalize gt t = w9 at *
                  clear k0 k1 k2 HGT HGI
                  clear k3
                  go_wp2
                  go_ret
                  exact ⟨ret_i64' HF.out.symm, (HQ.out _ (HBA.out.trans (HG1.out.mono HBA.out.size))).2.2⟩
                · have HF := hide (HPJ.out (by rw [HPB.out, e2]))
                  go_wp2
                  refine wp_region_abs (by kernel_rfl) (by kernel_rfl) ?_
                  intro T hT gt hg hgi
                  have HGT := hide hg
                  have HGI := hide hgi
                  clear hg hgi
                  have k0 := fun t => (HPC.out _ (HGT.out t)).1
                  have k1 := fun t => (HPC.out _ (HGT.out t)).2
                  have k2 := fun t => (HQA.out _ (HGT.out t)).1.1.1
                  have k3 := fun t => HKC.out (gt t) (HJ0.out.trans ((HGT.out t).mono HJ0.out.size))
                  have HC1 := hide (fun t => inR_is (gt t) ((inR_lt (i : Int) dn).trans e1))
                  have HC2 := hide (fun t => refPorts_walk rd.kind (gt t))
                  have HC3 := hide (fun t => inR_is (gt t) ((inR_ltI Y (portsF rd.kind)).trans e2))
                  clear e1 e2 e1'
                  generalize portsF rd.kind = PF at *
                  repeat (go_big_quiet_step (first | (go_at_call_of 40 (Value.int .i64 Y); exact inAbsSame (HC3.out _)) | (go_at_call 40; exact inAbsSame (HC1.out _)) | (go_at_call 36; exact inAbs HGT.out HGI.out (HC2.out _))))
                  refine wpQuiet_nil ?_
                  intro _ hw'
                  obtain ⟨t, rfl⟩ := hw'
                  have HG1 := hide (HJ.out.trans ((HGT.out t).mono HJ.out.size))
                  generalize gt t = w9 at *
                  clear k0 k1 k2 HGT HGI
                  clear k3
                  go_wp2
                  go_roundw
                  case rel => exact ⟨j + 1, by omega, by go_num, HF, HG1⟩
                  case measure => simp [intOf]; omega
            · obtain rfl : j = 2 := by omega
              have HG := hide (HGOOD.out HP.out)
              have hEL : ends.length ≤ 30 := by have := HEL.out; omega
              have hNM : N + 2 ≤ wr.heap.size := by have := HJ.out.size; have := HSA.out; omega
              have HRD := hide (HQA.out wr (RowKit.Below.refl _ _)).2.2
              have HOw := hide (fun (w' : World) (hb : RowKit.Below wr.heap.size wr w') => HOA.out w' (HA1.out.trans ((HJ.out.trans (hb.mono HJ.out.size)).mono (by have := HSA.out; omega))))
              have HPD := hide (fun (w' : World) (hb : RowKit.Below wr.heap.size wr w') => And.intro ((HQA.out w' hb).2.1 0 (by omega)) ((HQA.out w' hb).2.1 1 (by omega)))
              simp only [pjL, Nat.zero_mul, Nat.one_mul, Nat.zero_add, if_true, Nat.one_ne_zero, if_false, LinkV.e1, LinkV.e2] at HPD
              clear HP HBAD HGOOD
              have heq := fun w => run_eql_pair w
              go_wp2
              refine wp_region_abs (by kernel_rfl) (by kernel_rfl) ?_
              intro T hT gt hg hgi
              have HGT := hide hg
              have HGI := hide hgi
              clear hg hgi
              have k0 := fun t => (HPD.out _ (HGT.out t)).1.1
              have k1 := fun t => (HPD.out _ (HGT.out t)).1.2
              have k2 := fun t => (HPD.out _ (HGT.out t)).2.1
              have k3 := fun t => (HPD.out _ (HGT.out t)).2.2
              have HC1 := hide (fun t => containsAr_any ends A2 ends.length c2 ra rp (gt t) (by omega) (own_sl plCells_len (HOw.out _ (HGT.out t)) rfl))
              have HC2 := hide (fun t => containsAr_any ends A2 ends.length c2 rb rq (gt t) (by omega) (own_sl plCells_len (HOw.out _ (HGT.out t)) rfl))
              cases e12 : eqP (ra, rp) (rb, rq)
              case true =>
                repeat (go_big_quiet_step (first | (go_at_call_of 59 (Value.agg #[Value.int .i64 ra, Value.int .i64 rp]); exact inAbs HGT.out HGI.out (HC1.out _)) | (go_at_call 59; exact inAbs HGT.out HGI.out (HC2.out _))))
                refine wpQuiet_nil ?_
                intro _ hw'
                obtain ⟨t, rfl⟩ := hw'
                have HG1 := hide (HGT.out t)
                generalize gt t = w9 at *
                clear k0 k1 k2 k3 HGT HGI
                have HF := hide (show E = 5 from by rw [HG.out]; simp only [takenB, LinkV.e1, LinkV.e2, e12, Bool.true_or, Bool.or_true, if_true])
                go_wp2
                go_ret
                exact ⟨ret_i64' HF.out.symm, (HQ.out _ (HJ0.out.trans (HG1.out.mono HJ0.out.size))).2.2⟩
              cases a1 : ends.any (fun z => eqP (ra, rp) z)
              case true =>
                simp only [a1] at HC1
                repeat (go_big_quiet_step (first | (go_at_call_of 59 (Value.agg #[Value.int .i64 ra, Value.int .i64 rp]); exact inAbs HGT.out HGI.out (HC1.out _)) | (go_at_call 59; exact inAbs HGT.out HGI.out (HC2.out _))))
                refine wpQuiet_nil ?_
                intro _ hw'
                obtain ⟨t, rfl⟩ := hw'
                have HG1 := hide (HGT.out t)
                generalize gt t = w9 at *
                clear k0 k1 k2 k3 HGT HGI
                have HF := hide (show E = 5 from by rw [HG.out]; simp only [takenB, LinkV.e1, LinkV.e2, a1, Bool.true_or, Bool.or_true, if_true])
                go_wp2
                go_ret
                exact ⟨ret_i64' HF.out.symm, (HQ.out _ (HJ0.out.trans (HG1.out.mono HJ0.out.size))).2.2⟩
              simp only [a1] at HC1
              cases a2 : ends.any (fun z => eqP (rb, rq) z)
              case true =>
                simp only [a2] at HC2
                repeat (go_big_quiet_step (first | (go_at_call_of 59 (Value.agg #[Value.int .i64 ra, Value.int .i64 rp]); exact inAbs HGT.out HGI.out (HC1.out _)) | (go_at_call 59; exact inAbs HGT.out HGI.out (HC2.out _))))
                refine wpQuiet_nil ?_
                intro _ hw'
                obtain ⟨t, rfl⟩ := hw'
                have HG1 := hide (HGT.out t)
                generalize gt t = w9 at *
                clear k0 k1 k2 k3 HGT HGI
                have HF := hide (show E = 5 from by rw [HG.out]; simp only [takenB, LinkV.e1, LinkV.e2, a2, Bool.true_or, Bool.or_true, if_true])
                go_wp2
                go_ret
                exact ⟨ret_i64' HF.out.symm, (HQ.out _ (HJ0.out.trans (HG1.out.mono HJ0.out.size))).2.2⟩
              simp only [a2] at HC2
              repeat (go_big_quiet_step (first | (go_at_call_of 59 (Value.agg #[Value.int .i64 ra, Value.int .i64 rp]); exact inAbs HGT.out HGI.out (HC1.out _)) | (go_at_call 59; exact inAbs HGT.out HGI.out (HC2.out _))))
              refine wpQuiet_nil ?_
              intro _ hw'
              obtain ⟨t, rfl⟩ := hw'
              have HG1 := hide (HGT.out t)
              generalize gt t = w9 at *
              clear k0 k1 k2 k3 HGT HGI
              have HF := hide (show E = linksE (ds.map DevV.dev) (ends ++ [(ra, rp), (rb, rq)]) (ls.drop (k + 1)) from by
                rw [HG.out]
                simp only [takenB, LinkV.e1, LinkV.e2, e12, a1, a2, Bool.or_false, Bool.false_eq_true, if_false])
              have HRe := hide (HQA.out w9 HG1.out).2.2
              have HOL := hide (HOw.out w9 HG1.out)
              have HW9 := hide (HJ0.out.trans (HG1.out.mono HJ0.out.size))
              have hsW : W0.heap.size ≤ w9.heap.size := HW9.out.size
              clear e12 a1 a2 HG
              go_wp2_with (at_builtin; refine wpList_append_any _ rfl (.tmp 170) (.tmp 171) 98 rfl W0.heap.size 101 i0 _ 2 16 Tryd.underlying98 hi0 hz0 hz1 hz2 rfl (by omega) (.slice A2 ends.length c2) ends.length (ends.flatMap plCells) rfl HOL.out (N + 2) (some ⟨N + 1, 0, none⟩) 2 2 [.int .i64 ra, .int .i64 rp, .int .i64 rb, .int .i64 rq] rfl HRe.out (by intro u hu; simp at hu; rcases hu with rfl | rfl | rfl | rfl <;> rfl) (by simp only [maxLen]; omega) (by omega) (by omega) ?_; intro v5 w5 hown5 hg5 hat5; have HG5 := hide (grow_new HW9.out (Nat.le_refl _) hg5 (fun q hq => (HOL.out.lt q hq).1)); have HO5 := hide hown5; clear hown5 hg5 hat5)
              go_roundw
              case rel => exact ⟨k + 1, ends ++ [(ra, rp), (rb, rq)], by omega, by go_num, HF, HG5, hide (by simpa [plCells] using HO5.out), hide (by have := HEL.out; simp; omega)⟩
              case measure => simp [intOf]; omega
        · have HF := hide (show E = 0 from by rw [HC.out, List.drop_of_length_le (by have := HLL.out; omega)]; rfl)
          go_wp2
          go_ret
          exact ⟨ret_i64' HF.out.symm, HBW.out⟩
end Go.Proofs.YtohbafigjpoijaaDoor
