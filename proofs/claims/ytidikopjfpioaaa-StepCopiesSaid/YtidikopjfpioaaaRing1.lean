/- ring.Check, wireref.Plain. -/
import Derived.Test.YtidikopjfpioaaaRefNet
import Derived.Test.YtidikopjfpioaaaPeer
set_option linter.unusedVariables false
set_option linter.unusedSimpArgs false
namespace Go.Proofs.Ytidikopjfpioaaa
open Go.RowKit

def oddKind (k : Int) : Bool := (k != 1) && (k != 2)
def plainE (ds : List Dev) (ls : List LinkV) : Int := if netE ds ls = 0 then (if ds.any (fun d => oddKind d.kind) then 1 else 0) else netE ds ls

set_option maxRecDepth 100000 in
theorem ringClos_walk (x : DevV) (w : World) : Calls Try.prog 64 (#[x.val] ++ #[]) w fun e W' => e = .returned (.bool (oddKind x.kind)) ∧ Below w.heap.size w W' := by
  obtain ⟨xn, xk, xa, xp, bA, bn, bc, bs, rA, rn, rc, rs, tA, tn, tc, ts⟩ := x
  show Calls Try.prog 64 #[.agg #[.string xn, .int .i64 xk, .int .i64 xa, .int .u8 xp, .slice bA bn bc, .slice rA rn rc, .slice tA tn tc]] w _
  have HB := hide (fun o => show Below w.heap.size w (w.alloc o) from (Below.refl _ _).alloc (Nat.le_refl _) _)
  cases e1 : (xk == 1)
  · have e1' : (xk != 1) = true := by simp [bne, e1]
    cases e2 : (xk == 2)
    · have e2' : (xk != 2) = true := by simp [bne, e2]
      go_enter Try.func64, Try.ntmps64
      go_wp2
      go_ret
      exact ⟨ret_bool (by simp [oddKind, e1', e2']), HB.out _⟩
    · obtain rfl : xk = 2 := by simpa using e2
      clear e1 e2 e1'
      go_enter Try.func64, Try.ntmps64
      go_wp2
      go_ret
      exact ⟨ret_bool (by simp [oddKind]), HB.out _⟩
  · obtain rfl : xk = 1 := by simpa using e1
    clear e1
    go_enter Try.func64, Try.ntmps64
    go_wp2
    go_ret
    exact ⟨ret_bool (by simp [oddKind]), HB.out _⟩

/-- A net in a box: what stays. -/
def NetBox (W W0 : World) (N : Nat) (n : NetV) : Prop := ∀ w', RowKit.Below W0.heap.size W0 w' → (w'.cell? ⟨N, 0, none⟩ = some (.slice n.dA n.dn n.dc) ∧ w'.cell? ⟨N, 1, none⟩ = some (.slice n.lA n.ln n.lc)) ∧ NetAt w' w'.heap.size n ∧ RowKit.Below W.heap.size W w'
theorem netBox_new {W : World} {n : NetV} (hn : NetAt W W.heap.size n) (t : TypeId) : NetBox W (W.alloc (.cells #[.slice n.dA n.dn n.dc, .slice n.lA n.ln n.lc] t)) W.heap.size n := fun w' hb => by
  have hz : (W.alloc (.cells #[.slice n.dA n.dn n.dc, .slice n.lA n.ln n.lc] t)).heap.size = W.heap.size + 1 := by simp
  have h1 : RowKit.Below W.heap.size W w' := ((RowKit.Below.refl _ _).alloc (Nat.le_refl _) _).trans (hb.mono (by omega))
  rw [hz] at hb
  exact ⟨⟨cell_new W _ _ rfl hb 0 _ rfl, cell_new W _ _ rfl hb 1 _ rfl⟩, hn.below h1 h1.size, h1⟩

theorem any_dev (ds : List DevV) : (ds.map DevV.dev).any (fun d => oddKind d.kind) = ds.any (fun d => oddKind d.kind) := by
  rw [List.any_map]; rfl

set_option maxRecDepth 100000 in
set_option maxHeartbeats 8000000 in
theorem ringCheck_walk (n : NetV) (W : World) (hn : NetAt W W.heap.size n) :
    Calls Try.prog 17 #[n.val] W fun e W' => e = .returned (.int .i64 (plainE n.devs n.ls)) ∧ RowKit.Below W.heap.size W W' := by
  have HQ := hide (netBox_new hn 25)
  have HCW := hide (fun (w : World) h => netCheck_walk n w h)
  have hm : n.dn ≤ 9223372036854775807 := by have h1 := hn.cd.1; have h2 := hn.cd.2; unfold maxLen at h2; omega
  have HP := hide (show plainE n.devs n.ls = if netE n.devs n.ls = 0 then (if n.ds.any (fun d => oddKind d.kind) then 1 else 0) else netE n.devs n.ls from by
    unfold plainE NetV.devs; rw [any_dev])
  have HR := hide (RowKit.Below.refl (W.alloc (.cells #[.slice n.dA n.dn n.dc, .slice n.lA n.ln n.lc] 25)).heap.size (W.alloc (.cells #[.slice n.dA n.dn n.dc, .slice n.lA n.ln n.lc] 25)))
  have HC := hide (HCW.out _ (HQ.out _ HR.out).2.1)
  clear hn HCW
  obtain ⟨dA, dn, dc, ds, lA, ln, lc, ls⟩ := n
  generalize plainE _ _ = PE at *
  generalize hE : netE _ _ = E at *
  clear hE
  simp only [NetV.val] at *
  go_enter Try.func17, Try.ntmps17
  go_wp2_with fail
  refine HC.out.mono ?_
  clear HC
  rintro e w1 ⟨rfl, hb⟩
  have HB1 := hide hb
  clear hb
  by_cases h0 : E = 0
  case neg =>
    have d1 : (E != 0) = true := by simpa using h0
    have d2 : (E == 0) = false := by simpa using h0
    have HF := hide (show PE = E from by rw [HP.out, if_neg h0])
    clear h0
    go_wp2
    go_ret
    exact ⟨ret_i64' HF.out.symm, (HQ.out _ HB1.out).2.2⟩
  subst h0
  obtain ⟨⟨x0, x1⟩, hna, _⟩ := HQ.out w1 HB1.out
  have HF := hide (show PE = if ds.any (fun d => oddKind d.kind) then 1 else 0 from by rw [HP.out]; simp)
  have HCT := hide (containsFuncDev_any ds dA dn dc 64 #[] (fun d => oddKind d.kind) w1 hm hna.ds (fun args w => by go_simp) (hide (fun r w' _ _ => ringClos_walk r w')))
  clear hna HP
  generalize ds.any (fun d => oddKind d.kind) = B at *
  go_wp2_with fail
  refine HCT.out.mono ?_
  clear HCT x0 x1
  rintro e w2 ⟨rfl, hb⟩
  have HB2 := hide (HB1.out.trans (hb.mono HB1.out.size))
  clear hb
  cases B
  all_goals
    go_wp2
    go_ret
    exact ⟨ret_i64' (by rw [HF.out]; rfl), (HQ.out _ HB2.out).2.2⟩

set_option maxRecDepth 100000 in
set_option maxHeartbeats 8000000 in
theorem refPlain_walk (n : NetV) (W : World) (hn : NetAt W W.heap.size n) :
    Calls Try.prog 16 #[n.val] W fun e W' => e = .returned (.int .i64 (plainE n.devs n.ls)) ∧ RowKit.Below W.heap.size W W' := by
  have HQ := hide (netBox_new hn 25)
  have HCW := hide (fun (w : World) h => refNet_walk n w h)
  have hm : n.dn ≤ 9223372036854775807 := by have h1 := hn.cd.1; have h2 := hn.cd.2; unfold maxLen at h2; omega
  have HP := hide (show plainE n.devs n.ls = if netE n.devs n.ls = 0 then (if n.ds.any (fun d => oddKind d.kind) then 1 else 0) else netE n.devs n.ls from by
    unfold plainE NetV.devs; rw [any_dev])
  have HR := hide (RowKit.Below.refl (W.alloc (.cells #[.slice n.dA n.dn n.dc, .slice n.lA n.ln n.lc] 25)).heap.size (W.alloc (.cells #[.slice n.dA n.dn n.dc, .slice n.lA n.ln n.lc] 25)))
  have HC := hide (HCW.out _ (HQ.out _ HR.out).2.1)
  have HDL := hide hn.dlen
  clear hn HCW
  obtain ⟨dA, dn, dc, ds, lA, ln, lc, ls⟩ := n
  generalize plainE _ _ = PE at *
  generalize hE : netE _ _ = E at *
  clear hE
  simp only [NetV.val] at *
  go_enter Try.func16, Try.ntmps16
  go_wp2_with fail
  refine HC.out.mono ?_
  clear HC
  rintro e w1 ⟨rfl, hb⟩
  have HB1 := hide hb
  clear hb
  by_cases h0 : E = 0
  case neg =>
    have d1 : (E != 0) = true := by simpa using h0
    have d2 : (E == 0) = false := by simpa using h0
    have HF := hide (show PE = E from by rw [HP.out, if_neg h0])
    clear h0
    go_wp2
    go_ret
    exact ⟨ret_i64' HF.out.symm, (HQ.out _ HB1.out).2.2⟩
  subst h0
  have HF := hide (show PE = if ds.any (fun d => oddKind d.kind) then 1 else 0 from by rw [HP.out]; simp)
  clear HP
  obtain ⟨⟨x0, x1⟩, hna, _⟩ := HQ.out w1 HB1.out
  have HNA := hide hna
  clear hna
  go_wp2
  go_loop [4] (fun i => ∃ k : Nat, k ≤ dn ∧ i = .int .i64 k ∧ Hid (∀ j d, j < k → ds[j]? = some d → oddKind d.kind = false)) (fun i => dn - (intOf i).toNat)
  case atStart => exact ⟨0, Nat.zero_le _, rfl, hide (fun j d h => absurd h (by omega))⟩
  case round =>
    obtain ⟨k, hk, rfl, HN⟩ := hrel
    by_cases hlt : k < dn
    · obtain ⟨r, hr⟩ : ∃ r, ds[k]? = some r := ⟨_, List.getElem?_eq_getElem (by have : ds.length = dn := HDL.out; omega)⟩
      obtain ⟨b, o, rfl, _, _⟩ := HNA.out.ds.2 (by show 0 < dn; omega)
      obtain ⟨hbB, _, q1, _⟩ := dev_get HNA.out.ds hr
      have HRK := hide hr
      clear hr
      generalize hkd : r.kind = kd at *
      have HKD := hide hkd
      clear hkd
      cases e : oddKind kd
      · have HNx := hide (show ∀ j d, j < k + 1 → ds[j]? = some d → oddKind d.kind = false from fun j d hj hd => by
          rcases (by omega : j < k ∨ j = k) with h | rfl
          · exact HN.out j d h hd
          · have h2 := HRK.out
            rw [h2] at hd
            cases hd
            rw [HKD.out]; exact e)
        have hk12 : kd = 1 ∨ kd = 2 := by
          simp only [oddKind, Bool.and_eq_false_iff, bne_eq_false_iff_eq] at e
          exact e
        clear e
        rcases hk12 with rfl | rfl
        all_goals
          go_wp2
          go_round
          case rel => exact ⟨k + 1, by omega, by go_num, HNx⟩
          case measure => simp [intOf]; omega
      · have HF2 := hide (show PE = 1 from by
          rw [HF.out, if_pos (List.any_eq_true.2 ⟨r, List.mem_of_getElem? HRK.out, by rw [HKD.out]; exact e⟩)])
        have hk12 : kd ≠ 1 ∧ kd ≠ 2 := by
          simpa [oddKind] using e
        have d1 : (kd == 1) = false := by simpa using hk12.1
        have d2 : (kd == 2) = false := by simpa using hk12.2
        have d3 : (kd != 1) = true := by simpa using hk12.1
        have d4 : (kd != 2) = true := by simpa using hk12.2
        clear e hk12
        go_wp2
        go_ret
        exact ⟨ret_i64' HF2.out.symm, (HQ.out _ HB1.out).2.2⟩
    · have HF2 := hide (show PE = 0 from by
        rw [HF.out, if_neg]
        rw [Bool.not_eq_true, List.any_eq_false]
        intro x hx
        obtain ⟨j, hj⟩ := List.getElem?_of_mem hx
        have hjl := (List.getElem?_eq_some_iff.1 hj).1
        simp [HN.out j x (by have : ds.length = dn := HDL.out; omega) hj])
      go_wp2
      go_ret
      exact ⟨ret_i64' HF2.out.symm, (HQ.out _ HB1.out).2.2⟩
end Go.Proofs.Ytidikopjfpioaaa
