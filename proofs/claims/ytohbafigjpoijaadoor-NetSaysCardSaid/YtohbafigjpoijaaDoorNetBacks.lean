/- net.backs, net.device. -/
import Derived.Test.YtohbafigjpoijaaDoorNetDev
import Derived.Test.YtohbafigjpoijaaDoorG1
set_option linter.unusedVariables false
set_option linter.unusedSimpArgs false
namespace Go.Proofs.YtohbafigjpoijaaDoor
open Go.RowKit

theorem IntsAt.take {w : World} {B n : Nat} {A : Option Addr} {l : List Int} (h : IntsAt w B A n l) {k : Nat} (hk : k ≤ n) : IntsAt w B A k (l.take k) :=
  ⟨by rw [List.length_take, h.1]; omega, fun x hx => h.2.1 x (List.mem_of_mem_take hx), fun h0 => by
    obtain ⟨b, o, e, hb, hg⟩ := h.2.2 (by omega)
    refine ⟨b, o, e, hb, fun j x hj => hg j x ?_⟩
    have hjk : j < k := by have := (List.getElem?_eq_some_iff.1 hj).1; simp at this; omega
    rwa [List.getElem?_take_of_lt hjk] at hj⟩

/-- A device in a box of its own. -/
def DBox (w : World) (N : Nat) (d : DevV) : Prop :=
  w.cell? ⟨N, 0, none⟩ = some (.string d.name) ∧ w.cell? ⟨N, 1, none⟩ = some (.int .i64 d.kind) ∧ w.cell? ⟨N, 2, none⟩ = some (.int .i64 d.addr) ∧ w.cell? ⟨N, 3, none⟩ = some (.int .u8 d.pool) ∧
  w.cell? ⟨N, 4, none⟩ = some (.slice d.bA d.bn d.bc) ∧ w.cell? ⟨N, 5, none⟩ = some (.slice d.rA d.rn d.rc) ∧ w.cell? ⟨N, 6, none⟩ = some (.slice d.tA d.tn d.tc)
theorem DBox.below {w w' : World} {B N : Nat} {d : DevV} (h : DBox w N d) (hB : RowKit.Below B w w') (hN : N < B) : DBox w' N d := by
  have e : ∀ o, w'.cell? ⟨N, o, none⟩ = w.cell? ⟨N, o, none⟩ := fun o => hB.cell (p := ⟨N, o, none⟩) hN
  unfold DBox
  rw [e, e, e, e, e, e, e]
  exact h
theorem DBox.new (w : World) (d : DevV) (t : TypeId) : DBox (w.alloc (.cells #[.string d.name, .int .i64 d.kind, .int .i64 d.addr, .int .u8 d.pool, .slice d.bA d.bn d.bc, .slice d.rA d.rn d.rc, .slice d.tA d.tn d.tc] t)) w.heap.size d := by
  have hbx := heap_alloc_new w (.cells #[.string d.name, .int .i64 d.kind, .int .i64 d.addr, .int .u8 d.pool, .slice d.bA d.bn d.bc, .slice d.rA d.rn d.rc, .slice d.tA d.tn d.tc] t)
  refine ⟨?_, ?_, ?_, ?_, ?_, ?_, ?_⟩ <;> (rw [cell_of_row _ _ _ _ _ _ hbx]; rfl)

set_option maxRecDepth 100000 in
set_option maxHeartbeats 8000000 in
theorem backs_walk (d : DevV) (W : World) (hd : DevAt W W.heap.size d) :
    Calls Tryd.prog 92 #[d.val] W fun e W' => e = .returned (.bool (backsB d.dev)) ∧ RowKit.Below W.heap.size W W' := by
  obtain ⟨W0, hW0⟩ : ∃ W0, W0 = W.alloc (.cells #[.string d.name, .int .i64 d.kind, .int .i64 d.addr, .int .u8 d.pool, .slice d.bA d.bn d.bc, .slice d.rA d.rn d.rc, .slice d.tA d.tn d.tc] 71) := ⟨_, rfl⟩
  have HB0 := hide (show RowKit.Below W.heap.size W W0 from by rw [hW0]; exact (RowKit.Below.refl _ _).alloc (Nat.le_refl _) _)
  have HSZ := hide (show W0.heap.size = W.heap.size + 1 from by rw [hW0]; simp)
  have HQ := hide (fun (w' : World) (hb : RowKit.Below W0.heap.size W0 w') => show DBox w' W.heap.size d ∧ IntsAt w' w'.heap.size d.bA d.bn d.bs ∧ RowKit.Below W.heap.size W w' from by
    have h1 := HB0.out.trans (hb.mono (by rw [HSZ.out]; omega))
    exact ⟨(show DBox W0 W.heap.size d from by rw [hW0]; exact DBox.new W d _).below hb (by rw [HSZ.out]; omega), hd.bs.below h1 h1.size, h1⟩)
  have HLEN := hide (show d.bs.length = d.bn from hd.bs.1)
  have hbc : d.bn ≤ d.bc := hd.cb.1
  have hbm : d.bc ≤ maxLen := hd.cb.2
  have hbm : d.bc ≤ 9223372036854775807 := by unfold maxLen at hbm; omega
  have HI := hide hd.bs.2.1
  have HD := hide (show backsB d.dev = (backsOk d.addr [] d.bs && ((decide (0 < d.bs.length)) == (d.kind == 5))) from rfl)
  generalize d.dev = dv at *
  clear hd
  obtain ⟨nm, kd, ad, pl, bA, bn, bc, bs, rA, rn, rc, rs, tA, tn, tc, ts⟩ := d
  simp only [DevV.val] at *
  obtain ⟨x0, x1, x2, x3, x4, x5, x6⟩ := (HQ.out W0 (RowKit.Below.refl _ _)).1
  go_enter Tryd.func92, Tryd.ntmps92
  go_wp2
  rw [← hW0]
  go_loopw [8] (fun i wr => ∃ k : Nat, k ≤ bn ∧ i = .int .i64 k ∧ Hid (backsOk ad [] bs = backsOk ad (bs.take k) (bs.drop k)) ∧ Hid (RowKit.Below W0.heap.size W0 wr)) (fun i _ => bn - (intOf i).toNat)
  case atStart => exact ⟨0, Nat.zero_le _, rfl, hide rfl, hide (RowKit.Below.refl _ _)⟩
  case round =>
    clear x0 x1 x2 x3 x4 x5 x6
    obtain ⟨k, hk, rfl, HC, HB⟩ := hrel
    obtain ⟨hbox, hints, hbW⟩ := HQ.out wr HB.out
    obtain ⟨x0, x1, x2, x3, x4, x5, x6⟩ := hbox
    have HBW := hide hbW
    by_cases hlt : k < bn
    · obtain ⟨b, hb⟩ : ∃ r, bs[k]? = some r := ⟨_, List.getElem?_eq_getElem (by have := HLEN.out; omega)⟩
      have HS := hide (backsOk_step (addr := ad) hb)
      obtain ⟨hb1, hb2⟩ := HI.out b (List.mem_of_getElem? hb)
      obtain ⟨bb, oo, rfl, hbB, hg⟩ := hints.2.2 (by omega)
      have q0 := hg k b hb
      have HIk := hide (hints.take (k := k) (by omega))
      have g1 : (k : Int) ≤ (bc : Int) := by omega
      clear hb hg hints hbW
      cases e1 : (decide (0 ≤ b) && decide (b < 16))
      · go_wp2_with fail
        refine (nwithin_walk b 16 _ false e1).mono ?_
        rintro e w1 ⟨rfl, rfl⟩
        have HF := hide (show backsB dv = false from by rw [HD.out, HC.out, HS.out, e1]; rfl)
        go_wp2
        go_ret
        exact ⟨ret_bool HF.out.symm, HBW.out⟩
      have HE1 := hide e1
      go_wp2_with fail
      refine (nwithin_walk b 16 _ true e1).mono ?_
      rintro e w1 ⟨rfl, rfl⟩
      clear e1
      cases e2 : (b == ad)
      case true =>
        have HF := hide (show backsB dv = false from by rw [HD.out, HC.out, HS.out]; simp [show b = ad by simpa using e2])
        go_wp2
        go_ret
        exact ⟨ret_bool HF.out.symm, HBW.out⟩
      have HE2 := hide (show (b != ad) = true from by simp [bne, e2])
      go_wp2_with fail
      refine (contains_is (bs.take k) (some ⟨bb, oo, none⟩) k bc b wr (by omega) HIk.out).mono ?_
      rintro e w1 ⟨rfl, hb⟩
      have HB1 := hide (HB.out.trans (hb.mono HB.out.size))
      have HBW1 := hide (HBW.out.trans (hb.mono HBW.out.size))
      clear hb
      cases e3 : (bs.take k).contains b
      case true =>
        have HF := hide (show backsB dv = false from by rw [HD.out, HC.out, HS.out, e3]; simp)
        go_wp2
        go_ret
        exact ⟨ret_bool HF.out.symm, HBW1.out⟩
      have HN := hide (show backsOk ad [] bs = backsOk ad (bs.take (k + 1)) (bs.drop (k + 1)) from by rw [HC.out, HS.out, HE1.out, HE2.out, e3]; simp)
      go_wp2
      go_roundw
      case rel => exact ⟨k + 1, by omega, by go_num, HN, HB1⟩
      case measure => simp [intOf]; omega
    · have hk' : k = bn := by omega
      have HN := hide (show backsB dv = ((decide (0 < bn)) == (kd == 5)) from by
        rw [HD.out, HC.out, List.drop_of_length_le (by have := HLEN.out; omega), HLEN.out]; rfl)
      cases e1 : decide (0 < bn)
      · have e1' : ¬ 0 < bn := by simpa using e1
        obtain rfl : bn = 0 := by omega
        cases e2 : (kd == 5)
        all_goals
          go_wp2
          go_ret
          exact ⟨ret_bool (by rw [HN.out, e2]; rfl), HBW.out⟩
      · have e1' : 0 < bn := by simpa using e1
        have HE := hide e1
        clear e1
        cases e2 : (kd == 5)
        all_goals
          go_wp2
          go_ret
          exact ⟨ret_bool (by rw [HN.out, e2, HE.out]; rfl), HBW.out⟩
end Go.Proofs.YtohbafigjpoijaaDoor
