/- wirelaw.NetSays: the walk. -/
import Derived.Test.YtohbafigjpoijaaDoorNt5
import Derived.Test.YtohbafigjpoijaaDoorRefNet
import Derived.Test.YtohbafigjpoijaaDoorRefPeer
import Derived.Test.YtohbafigjpoijaaDoorSt9
set_option linter.unusedVariables false
set_option linter.unusedSimpArgs false
set_option maxRecDepth 100000
set_option maxHeartbeats 8000000
namespace Go.Proofs.YtohbafigjpoijaaDoor
open Go.RowKit

theorem Kp.c2 {W w : World} {L : List (Nat × Array Value)} (h : Kp W w L) (i : Nat) {N : Nat} {x0 x1 : Value} (hx : L[i]? = some (N, #[x0, x1])) :
    N < w.heap.size ∧ w.cell? ⟨N, 0, none⟩ = some x0 ∧ w.cell? ⟨N, 1, none⟩ = some x1 := by
  obtain ⟨t, e⟩ := h.bx _ (List.mem_of_getElem? hx)
  exact ⟨heap_lt e, by rw [cell_of_row _ _ _ _ _ _ e]; rfl, by rw [cell_of_row _ _ _ _ _ _ e]; rfl⟩
theorem netSays_walk (n : NetV) (x y k : Int) (W : World) (hn : NetAt W W.heap.size n) (hx : i64ok x) (hy : i64ok y) :
    Calls Tryd.prog 7 #[n.val, .agg #[.int .i64 x, .int .i64 y], .int .i64 k] W fun e W' => e = .returned (.bool true) ∧ Below W.heap.size W W' := by
  have hc := hn.cl
  have HRN := hide (fun w (hb : Below W.heap.size W w) => refNet_walk n w (hn.below hb hb.size))
  have HCK := hide (fun w (hb : Below W.heap.size W w) => netCheck_walk n w (hn.below hb hb.size))
  have HPR := hide (fun w (hb : Below W.heap.size W w) => netPrint_walk n w (hn.below hb hb.size))
  have HTX := hide (fun w (h0 : netE n.devs n.ls = 0) (hb : Below W.heap.size W w) => refNetText_walk n w (hn.below hb hb.size) h0)
  have HPE := hide (fun w (hb : Below W.heap.size W w) => peer_any n.dA n.dn n.dc n.lA n.ln n.lc n.ls x y w (by have := hc.1; have := hc.2; unfold maxLen at this; omega) (hn.ls.below hb hb.size))
  have HRP := hide (fun w (hb : Below W.heap.size W w) => refPeer_any n.dA n.dn n.dc n.lA n.ln n.lc n.ls x y w (by have := hc.1; have := hc.2; unfold maxLen at this; omega) (hn.ls.below hb hb.size))
  have HPO := hide (fun w => ports_walk k w)
  have HRO := hide (fun w => refPorts_walk k w)
  obtain ⟨px, py, pb, hpv⟩ : ∃ (a b : Int) (c : Bool), peerV (peerF n.ls (x, y)) = .tuple #[.agg #[.int .i64 a, .int .i64 b], .bool c] := by
    cases peerF n.ls (x, y) with
    | none => exact ⟨0, 0, false, rfl⟩
    | some z => exact ⟨z.1, z.2, true, rfl⟩
  rw [hpv] at HPE HRP
  have HPN := hide (show printN n.devs n.ls = if netE n.devs n.ls = 0 then netT n.devs n.ls else [] from rfl)
  generalize netE n.devs n.ls = E at *
  generalize netT n.devs n.ls = NT at *
  generalize printN n.devs n.ls = PN at *
  generalize portsF k = PF at *
  obtain ⟨dA, dn, dc, ds, lA, ln, lc, ls⟩ := n
  simp only [NetV.val] at *
  clear hpv hn hc
  go_enter Tryd.func7, Tryd.ntmps7
  go_wp2_with fail
  have HK0 := hide (((Kp.nil W).al #[.slice dA dn dc, .slice lA ln lc] 53).al #[.int .i64 x, .int .i64 y] 55)
  have hN1 : (W.alloc (.cells #[.slice dA dn dc, .slice lA ln lc] 53)).heap.size = W.heap.size + 1 := by simp
  rw [hN1] at HK0
  generalize hw0 : (W.alloc (.cells #[.slice dA dn dc, .slice lA ln lc] 53)).alloc (.cells #[.int .i64 x, .int .i64 y] 55) = w0 at *
  clear hw0 hN1
  refine (HRN.out _ HK0.out.bl).mono ?_
  rintro e w1 ⟨rfl, hb⟩
  have HK1 := hide (HK0.out.below hb)
  clear hb HK0
  obtain ⟨_, a0, a1⟩ := HK1.out.c2 1 rfl
  clear HRN
  by_cases h0 : E = 0
  · have hp := HPN.out
    rw [if_pos h0] at hp
    subst hp
    subst h0
    go_wp2_with fail
    refine (HTX.out _ (by trivial) HK1.out.bl).mono ?_
    rintro e w2 ⟨rfl, hb⟩
    have HK2 := hide (HK1.out.below hb)
    clear hb HK1
    obtain ⟨_, a0, a1⟩ := HK2.out.c2 1 rfl
    clear HTX HPN
    go_wp2_with fail
    refine (HPR.out _ HK2.out.bl).mono ?_
    rintro e w3 ⟨rfl, hb⟩
    have HK3 := hide (HK2.out.below hb)
    clear hb HK2
    obtain ⟨_, a0, a1⟩ := HK3.out.c2 1 rfl
    obtain ⟨_, b0, b1⟩ := HK3.out.c2 0 rfl
    clear HPR
    go_wp2_with fail
    refine (HPE.out _ HK3.out.bl).mono ?_
    rintro e w4 ⟨rfl, hb⟩
    have HK4 := hide (HK3.out.below hb)
    clear hb HK3
    have HK5 := hide (HK4.out.al #[.int .i64 px, .int .i64 py] 55)
    obtain ⟨_, a0, a1⟩ := HK5.out.c2 2 rfl
    obtain ⟨_, b0, b1⟩ := HK5.out.c2 1 rfl
    clear HPE HK4
    go_wp2_with fail
    generalize hw5 : w4.alloc (.cells #[.int .i64 px, .int .i64 py] 55) = w5 at *
    clear hw5
    generalize w4.heap.size = N5 at *
    refine (HRP.out _ HK5.out.bl).mono ?_
    rintro e w6 ⟨rfl, hb⟩
    have HK6 := hide (HK5.out.below hb)
    clear hb HK5
    have HK7 := hide (HK6.out.al #[.int .i64 px, .int .i64 py] 55)
    obtain ⟨_, a0, a1⟩ := HK7.out.c2 3 rfl
    clear HRP HK6
    go_wp2_with fail
    generalize hw7 : w6.alloc (.cells #[.int .i64 px, .int .i64 py] 55) = w7 at *
    clear hw7
    generalize w6.heap.size = N7 at *
    refine (HCK.out _ HK7.out.bl).mono ?_
    rintro e w8 ⟨rfl, hb⟩
    have HK8 := hide (HK7.out.below hb)
    clear hb HK7
    clear a0 a1 HCK
    obtain ⟨_, c0, c1⟩ := HK8.out.c2 1 rfl
    obtain ⟨_, d0, d1⟩ := HK8.out.c2 0 rfl
    go_wp2_with fail
    refine (HPO.out _).mono ?_
    rintro e w9 ⟨rfl, rfl⟩
    go_wp2_with fail
    refine (HRO.out _).mono ?_
    rintro e w10 ⟨rfl, hb10⟩
    have HBE := hide (HK8.out.below hb10).bl
    clear hb10 HK8 c0 c1 d0 d1
    go_wp2
    go_ret
    exact ⟨rfl, HBE.out⟩
  · have hp := HPN.out
    rw [if_neg h0] at hp
    subst hp
    have e1 : (E == 0) = false := by simpa using h0
    have e2 : (E != 0) = true := by simpa using h0
    have HK2 := HK1
    generalize w1 = w2 at *
    clear HTX HPN HK1 h0
    go_wp2_with fail
    refine (HPR.out _ HK2.out.bl).mono ?_
    rintro e w3 ⟨rfl, hb⟩
    have HK3 := hide (HK2.out.below hb)
    clear hb HK2
    obtain ⟨_, a0, a1⟩ := HK3.out.c2 1 rfl
    obtain ⟨_, b0, b1⟩ := HK3.out.c2 0 rfl
    clear HPR
    go_wp2_with fail
    refine (HPE.out _ HK3.out.bl).mono ?_
    rintro e w4 ⟨rfl, hb⟩
    have HK4 := hide (HK3.out.below hb)
    clear hb HK3
    have HK5 := hide (HK4.out.al #[.int .i64 px, .int .i64 py] 55)
    obtain ⟨_, a0, a1⟩ := HK5.out.c2 2 rfl
    obtain ⟨_, b0, b1⟩ := HK5.out.c2 1 rfl
    clear HPE HK4
    go_wp2_with fail
    generalize hw5 : w4.alloc (.cells #[.int .i64 px, .int .i64 py] 55) = w5 at *
    clear hw5
    generalize w4.heap.size = N5 at *
    refine (HRP.out _ HK5.out.bl).mono ?_
    rintro e w6 ⟨rfl, hb⟩
    have HK6 := hide (HK5.out.below hb)
    clear hb HK5
    have HK7 := hide (HK6.out.al #[.int .i64 px, .int .i64 py] 55)
    obtain ⟨_, a0, a1⟩ := HK7.out.c2 3 rfl
    clear HRP HK6
    go_wp2_with fail
    generalize hw7 : w6.alloc (.cells #[.int .i64 px, .int .i64 py] 55) = w7 at *
    clear hw7
    generalize w6.heap.size = N7 at *
    refine (HCK.out _ HK7.out.bl).mono ?_
    rintro e w8 ⟨rfl, hb⟩
    have HK8 := hide (HK7.out.below hb)
    clear hb HK7
    clear a0 a1 HCK
    obtain ⟨_, c0, c1⟩ := HK8.out.c2 1 rfl
    obtain ⟨_, d0, d1⟩ := HK8.out.c2 0 rfl
    go_wp2_with fail
    refine (HPO.out _).mono ?_
    rintro e w9 ⟨rfl, rfl⟩
    go_wp2_with fail
    refine (HRO.out _).mono ?_
    rintro e w10 ⟨rfl, hb10⟩
    have HBE := hide (HK8.out.below hb10).bl
    clear hb10 HK8 c0 c1 d0 d1
    go_wp2
    go_ret
    exact ⟨rfl, HBE.out⟩
end Go.Proofs.YtohbafigjpoijaaDoor
