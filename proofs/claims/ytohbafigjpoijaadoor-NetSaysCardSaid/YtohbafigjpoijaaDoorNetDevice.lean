/- net.device. -/
import Derived.Test.YtohbafigjpoijaaDoorNetBacks
set_option linter.unusedVariables false
set_option linter.unusedSimpArgs false
namespace Go.Proofs.YtohbafigjpoijaaDoor
open Go.RowKit

theorem backs_val (nm : ByteArray) (kd ad : Int) (pl : Nat) (bA : Option Addr) (bn bc : Nat) (bs : List Int) (rA : Option Addr) (rn rc : Nat) (rs : List RuleV) (tA : Option Addr) (tn tc : Nat) (ts : List RouteV) (W : World)
    (hd : DevAt W W.heap.size ⟨nm, kd, ad, pl, bA, bn, bc, bs, rA, rn, rc, rs, tA, tn, tc, ts⟩) :
    Calls Tryd.prog 92 #[.agg #[.string nm, .int .i64 kd, .int .i64 ad, .int .u8 pl, .slice bA bn bc, .slice rA rn rc, .slice tA tn tc]] W fun e W' => e = .returned (.bool (backsB ⟨nm, kd, ad, pl, bs, rs, ts⟩)) ∧ RowKit.Below W.heap.size W W' := backs_walk _ W hd

def argB (d : Dev) : Bool := (addrB d.kind && !(decide (0 ≤ d.addr) && decide (d.addr < 16))) || (!addrB d.kind && (d.addr != 0)) || ((d.pool != 0) != (d.kind == 4))
def inA (a : Int) : Bool := decide (0 ≤ a) && decide (a < 16)
def argP (k a : Int) (p : Nat) : Bool := (addrB k && !inA a) || (!addrB k && (a != 0)) || ((p != 0) != (k == 4))
theorem argP_of {k a : Int} {p : Nat} {x y z u : Bool} (h1 : addrB k = x) (h2 : inA a = y) (h3 : (a != 0) = z) (h4 : ((p != 0) != (k == 4)) = u) : argP k a p = ((x && !y) || (!x && z) || u) := by
  unfold argP; rw [h1, h2, h3, h4]
theorem devE_one {d : Dev} (h : 1 ≤ d.kind ∧ d.kind ≤ 5) (h1 : argB d = true) : devE d = 1 := by
  unfold argB at h1
  unfold devE
  rw [if_neg (by simp; omega), if_pos h1]
theorem devE_go {d : Dev} (h : 1 ≤ d.kind ∧ d.kind ≤ 5) (h1 : argB d = false) : devE d =
    if 3 < d.backs.length then 2 else if backsB d = false then 1 else if (0 < d.rules.length ∧ d.kind ≠ 2 ∧ d.kind ≠ 3) ∨ (0 < d.routes.length ∧ d.kind ≠ 2) then 1 else if 8 < d.rules.length then 2 else checkF d.routes := by
  unfold argB at h1
  unfold devE
  rw [if_neg (by simp; omega), if_neg (by rw [h1]; simp)]
  simp [and_assoc]

set_option maxRecDepth 100000 in
set_option maxHeartbeats 8000000 in
theorem device_walk (d : DevV) (W : World) (hd : DevAt W W.heap.size d) :
    Calls Tryd.prog 67 #[d.val] W fun e W' => e = .returned (.int .i64 (devE d.dev)) ∧ RowKit.Below W.heap.size W W' := by
  obtain ⟨W0, hW0⟩ : ∃ W0, W0 = W.alloc (.cells #[.string d.name, .int .i64 d.kind, .int .i64 d.addr, .int .u8 d.pool, .slice d.bA d.bn d.bc, .slice d.rA d.rn d.rc, .slice d.tA d.tn d.tc] 71) := ⟨_, rfl⟩
  have HB0 := hide (show RowKit.Below W.heap.size W W0 from by rw [hW0]; exact (RowKit.Below.refl _ _).alloc (Nat.le_refl _) _)
  have HSZ := hide (show W0.heap.size = W.heap.size + 1 from by rw [hW0]; simp)
  have HQ := hide (fun (w' : World) (hb : RowKit.Below W0.heap.size W0 w') => show DBox w' W.heap.size d ∧ DevAt w' w'.heap.size d ∧ RowKit.Below W.heap.size W w' from by
    have h1 := HB0.out.trans (hb.mono (by rw [HSZ.out]; omega))
    exact ⟨(show DBox W0 W.heap.size d from by rw [hW0]; exact DBox.new W d _).below hb (by rw [HSZ.out]; omega), hd.below h1 h1.size, h1⟩)
  have hl1 := hd.bs.1
  have hl2 := hd.rs.1
  have hl3 := hd.ts.1
  have HL := hide (And.intro hl1 (And.intro hl2 hl3))
  have htc := hd.ct.1
  have hpl := hd.pl
  clear hd hl1 hl2 hl3
  obtain ⟨nm, kd, ad, pl, bA, bn, bc, bs, rA, rn, rc, rs, tA, tn, tc, ts⟩ := d
  simp only [DevV.val] at *
  have HR := hide (RowKit.Below.refl W0.heap.size W0)
  have HS0 := hide HB0.out.size
  clear HSZ
  subst hW0
  by_cases hk1 : kd < 1
  · have HF := hide (show devE (DevV.dev ⟨nm, kd, ad, pl, bA, bn, bc, bs, rA, rn, rc, rs, tA, tn, tc, ts⟩) = 1 from by simp [devE, DevV.dev, hk1])
    generalize devE _ = E at *
    have e1 : (kd == 1) = false := by simp; omega
    have e2 : (kd == 4) = false := by simp; omega
    have e3 : (kd == 5) = false := by simp; omega
    go_enter Tryd.func67, Tryd.ntmps67
    go_wp2
    go_ret
    exact ⟨ret_i64' HF.out.symm, HB0.out⟩
  by_cases hk2 : 5 < kd
  · have HF := hide (show devE (DevV.dev ⟨nm, kd, ad, pl, bA, bn, bc, bs, rA, rn, rc, rs, tA, tn, tc, ts⟩) = 1 from by simp [devE, DevV.dev, hk2])
    generalize devE _ = E at *
    have e1 : (kd == 1) = false := by simp; omega
    have e2 : (kd == 4) = false := by simp; omega
    have e3 : (kd == 5) = false := by simp; omega
    go_enter Tryd.func67, Tryd.ntmps67
    go_wp2
    go_ret
    exact ⟨ret_i64' HF.out.symm, HB0.out⟩
  have hkr : kd = 1 ∨ kd = 2 ∨ kd = 3 ∨ kd = 4 ∨ kd = 5 := by omega
  clear hk1 hk2
  rcases hkr with rfl | rfl | rfl | rfl | rfl
  · cases hw : (decide (0 ≤ ad) && decide (ad < 16))
    · have HF := hide (show devE (DevV.dev ⟨nm, 1, ad, pl, bA, bn, bc, bs, rA, rn, rc, rs, tA, tn, tc, ts⟩) = 1 from devE_one (by simp [DevV.dev]) (by show argP 1 ad pl = true; rw [argP_of rfl (show inA ad = false from hw) rfl rfl]; rfl))
      generalize devE _ = E at *
      go_enter Tryd.func67, Tryd.ntmps67
      go_wp2_with (go_at_call 68; refine (nwithin_walk _ _ _ false hw).mono ?_; rintro e w1 ⟨rfl, rfl⟩)
      go_ret
      exact ⟨ret_i64' HF.out.symm, (HQ.out _ HR.out).2.2⟩
    by_cases hp : pl = 0
    · subst hp
      have HE := hide (show devE (DevV.dev ⟨nm, 1, ad, 0, bA, bn, bc, bs, rA, rn, rc, rs, tA, tn, tc, ts⟩) = (if 3 < bn then 2 else if backsB ⟨nm, 1, ad, 0, bs, rs, ts⟩ = false then 1 else if (0 < rn ∧ (1 : Int) ≠ 2 ∧ (1 : Int) ≠ 3) ∨ (0 < tn ∧ (1 : Int) ≠ 2) then 1 else if 8 < rn then 2 else checkF ts) from by
        rw [devE_go (by simp [DevV.dev]) (by show argP 1 ad 0 = false; rw [argP_of rfl (show inA ad = true from hw) rfl rfl]; rfl)]
        simp only [DevV.dev, HL.out.1, HL.out.2.1, HL.out.2.2])
      generalize devE _ = E at *
      have HC := hide (backs_val nm 1 ad 0 bA bn bc bs rA rn rc rs tA tn tc ts _ (HQ.out _ HR.out).2.1)
      have HFB := hide (fun w1 hb => check22_any ts tA tn tc w1 htc (HQ.out _ hb).2.1.ts (HQ.out _ hb).2.1.tok)
      go_enter Tryd.func67, Tryd.ntmps67
      by_cases b3 : 3 < bn
      · have HF := hide (show E = 2 from by rw [HE.out]; simp [b3])
        clear HE
        go_wp2_with (go_at_call 68; refine (nwithin_walk _ _ _ true hw).mono ?_; rintro e w1 ⟨rfl, rfl⟩)
        go_ret
        exact ⟨ret_i64' HF.out.symm, (HQ.out _ HR.out).2.2⟩
      cases bb : backsB ⟨nm, 1, ad, 0, bs, rs, ts⟩
      · have HF := hide (show E = 1 from by rw [HE.out]; simp [b3, bb])
        clear HE
        rw [bb] at HC
        clear bb
        go_wp2_with (first | (go_at_call 68; refine (nwithin_walk _ _ _ true hw).mono ?_; rintro e w1 ⟨rfl, rfl⟩) | (go_at_call 92; refine HC.out.mono ?_; rintro e w1 ⟨rfl, hb⟩; have HR1 := hide hb; clear hb))
        go_ret
        exact ⟨ret_i64' HF.out.symm, (HQ.out _ HR1.out).2.2⟩
      rw [bb] at HC
      have HE2 := hide (show E = (if (0 < rn ∧ (1 : Int) ≠ 2 ∧ (1 : Int) ≠ 3) ∨ (0 < tn ∧ (1 : Int) ≠ 2) then 1 else if 8 < rn then 2 else checkF ts) from by rw [HE.out, bb]; simp [b3])
      clear HE bb
      have HCH := hide (fun w => aclCheck_walk rA rn rc w)
      by_cases r8 : 8 < rn
      · rw [if_pos r8] at HCH
        go_wp2_with (first | (go_at_call 68; refine (nwithin_walk _ _ _ true hw).mono ?_; rintro e w1 ⟨rfl, rfl⟩) | (go_at_call 92; refine HC.out.mono ?_; rintro e w1 ⟨rfl, hb⟩; have HR1 := hide hb; clear hb; have y := (HQ.out _ HR1.out).1; obtain ⟨y0, y1, y2, y3, y4, y5, y6⟩ := y; clear HC) | (go_at_call 93; refine (HCH.out _).mono ?_; rintro e w2 ⟨rfl, rfl⟩))
        all_goals
          go_ret
          exact ⟨ret_i64' (by rw [HE2.out]; first | rw [if_pos (by omega)] | rw [if_neg (by omega), if_pos r8]), (HQ.out _ HR1.out).2.2⟩
      · rw [if_neg r8] at HCH
        go_wp2_with (first | (go_at_call 68; refine (nwithin_walk _ _ _ true hw).mono ?_; rintro e w1 ⟨rfl, rfl⟩) | (go_at_call 92; refine HC.out.mono ?_; rintro e w1 ⟨rfl, hb⟩; have HR1 := hide hb; clear hb; have y := (HQ.out _ HR1.out).1; obtain ⟨y0, y1, y2, y3, y4, y5, y6⟩ := y; clear HC) | (go_at_call 93; refine (HCH.out _).mono ?_; rintro e w2 ⟨rfl, rfl⟩) | (go_at_call 94; refine (HFB.out _ HR1.out).mono ?_; rintro e w3 ⟨rfl, hb⟩; have HR2 := hide (HR1.out.trans (hb.mono HR1.out.size)); clear hb))
        all_goals
          go_ret
          first
            | exact ⟨ret_i64' (by rw [HE2.out, if_pos (by omega)]), (HQ.out _ HR1.out).2.2⟩
            | exact ⟨ret_i64' (by rw [HE2.out, if_neg (by omega), if_neg r8]), (HQ.out _ HR2.out).2.2⟩
    · have p1 : ((pl : Int) != 0) = true := by simp; omega
      have p2 : ((pl : Int) == 0) = false := by simp; omega
      · have HF := hide (show devE (DevV.dev ⟨nm, 1, ad, pl, bA, bn, bc, bs, rA, rn, rc, rs, tA, tn, tc, ts⟩) = 1 from devE_one (by simp [DevV.dev]) (by show argP 1 ad pl = true; rw [argP_of rfl (show inA ad = true from hw) rfl (show ((pl != 0) != ((1 : Int) == 4)) = true from by simp [hp])]; rfl))
        generalize devE _ = E at *
        go_enter Tryd.func67, Tryd.ntmps67
        go_wp2_with (go_at_call 68; refine (nwithin_walk _ _ _ true hw).mono ?_; rintro e w1 ⟨rfl, rfl⟩)
        go_ret
        exact ⟨ret_i64' HF.out.symm, (HQ.out _ HR.out).2.2⟩
  · by_cases ha : ad = 0
    · subst ha
      by_cases hp : pl = 0
      · subst hp
        have HE := hide (show devE (DevV.dev ⟨nm, 2, 0, 0, bA, bn, bc, bs, rA, rn, rc, rs, tA, tn, tc, ts⟩) = (if 3 < bn then 2 else if backsB ⟨nm, 2, 0, 0, bs, rs, ts⟩ = false then 1 else if (0 < rn ∧ (2 : Int) ≠ 2 ∧ (2 : Int) ≠ 3) ∨ (0 < tn ∧ (2 : Int) ≠ 2) then 1 else if 8 < rn then 2 else checkF ts) from by
          rw [devE_go (by simp [DevV.dev]) (by rfl)]
          simp only [DevV.dev, HL.out.1, HL.out.2.1, HL.out.2.2])
        generalize devE _ = E at *
        have HC := hide (backs_val nm 2 0 0 bA bn bc bs rA rn rc rs tA tn tc ts _ (HQ.out _ HR.out).2.1)
        have HFB := hide (fun w1 hb => check22_any ts tA tn tc w1 htc (HQ.out _ hb).2.1.ts (HQ.out _ hb).2.1.tok)
        go_enter Tryd.func67, Tryd.ntmps67
        by_cases b3 : 3 < bn
        · have HF := hide (show E = 2 from by rw [HE.out]; simp [b3])
          clear HE
          go_wp2_with fail
          go_ret
          exact ⟨ret_i64' HF.out.symm, (HQ.out _ HR.out).2.2⟩
        cases bb : backsB ⟨nm, 2, 0, 0, bs, rs, ts⟩
        · have HF := hide (show E = 1 from by rw [HE.out]; simp [b3, bb])
          clear HE
          rw [bb] at HC
          clear bb
          go_wp2_with (first | fail | (go_at_call 92; refine HC.out.mono ?_; rintro e w1 ⟨rfl, hb⟩; have HR1 := hide hb; clear hb))
          go_ret
          exact ⟨ret_i64' HF.out.symm, (HQ.out _ HR1.out).2.2⟩
        rw [bb] at HC
        have HE2 := hide (show E = (if (0 < rn ∧ (2 : Int) ≠ 2 ∧ (2 : Int) ≠ 3) ∨ (0 < tn ∧ (2 : Int) ≠ 2) then 1 else if 8 < rn then 2 else checkF ts) from by rw [HE.out, bb]; simp [b3])
        clear HE bb
        have HCH := hide (fun w => aclCheck_walk rA rn rc w)
        by_cases r8 : 8 < rn
        · rw [if_pos r8] at HCH
          go_wp2_with (first | fail | (go_at_call 92; refine HC.out.mono ?_; rintro e w1 ⟨rfl, hb⟩; have HR1 := hide hb; clear hb; have y := (HQ.out _ HR1.out).1; obtain ⟨y0, y1, y2, y3, y4, y5, y6⟩ := y; clear HC) | (go_at_call 93; refine (HCH.out _).mono ?_; rintro e w2 ⟨rfl, rfl⟩))
          all_goals
            go_ret
            exact ⟨ret_i64' (by rw [HE2.out]; first | rw [if_pos (by omega)] | rw [if_neg (by omega), if_pos r8]), (HQ.out _ HR1.out).2.2⟩
        · rw [if_neg r8] at HCH
          go_wp2_with (first | fail | (go_at_call 92; refine HC.out.mono ?_; rintro e w1 ⟨rfl, hb⟩; have HR1 := hide hb; clear hb; have y := (HQ.out _ HR1.out).1; obtain ⟨y0, y1, y2, y3, y4, y5, y6⟩ := y; clear HC) | (go_at_call 93; refine (HCH.out _).mono ?_; rintro e w2 ⟨rfl, rfl⟩) | (go_at_call 94; refine (HFB.out _ HR1.out).mono ?_; rintro e w3 ⟨rfl, hb⟩; have HR2 := hide (HR1.out.trans (hb.mono HR1.out.size)); clear hb))
          all_goals
            go_ret
            first
              | exact ⟨ret_i64' (by rw [HE2.out, if_pos (by omega)]), (HQ.out _ HR1.out).2.2⟩
              | exact ⟨ret_i64' (by rw [HE2.out, if_neg (by omega), if_neg r8]), (HQ.out _ HR2.out).2.2⟩
      · have p1 : ((pl : Int) != 0) = true := by simp; omega
        have p2 : ((pl : Int) == 0) = false := by simp; omega
        · have HF := hide (show devE (DevV.dev ⟨nm, 2, 0, pl, bA, bn, bc, bs, rA, rn, rc, rs, tA, tn, tc, ts⟩) = 1 from devE_one (by simp [DevV.dev]) (by show argP 2 0 pl = true; rw [argP_of rfl rfl rfl (show ((pl != 0) != ((2 : Int) == 4)) = true from by simp [hp])]; rfl))
          generalize devE _ = E at *
          go_enter Tryd.func67, Tryd.ntmps67
          go_wp2_with fail
          go_ret
          exact ⟨ret_i64' HF.out.symm, (HQ.out _ HR.out).2.2⟩
    · have a1 : ((ad : Int) != 0) = true := by simp; omega
      have a2 : ((ad : Int) == 0) = false := by simp; omega
      · have HF := hide (show devE (DevV.dev ⟨nm, 2, ad, pl, bA, bn, bc, bs, rA, rn, rc, rs, tA, tn, tc, ts⟩) = 1 from devE_one (by simp [DevV.dev]) (by show argP 2 ad pl = true; rw [argP_of rfl rfl a1 rfl]; simp [addrB]))
        generalize devE _ = E at *
        go_enter Tryd.func67, Tryd.ntmps67
        go_wp2_with fail
        go_ret
        exact ⟨ret_i64' HF.out.symm, (HQ.out _ HR.out).2.2⟩
  · by_cases ha : ad = 0
    · subst ha
      by_cases hp : pl = 0
      · subst hp
        have HE := hide (show devE (DevV.dev ⟨nm, 3, 0, 0, bA, bn, bc, bs, rA, rn, rc, rs, tA, tn, tc, ts⟩) = (if 3 < bn then 2 else if backsB ⟨nm, 3, 0, 0, bs, rs, ts⟩ = false then 1 else if (0 < rn ∧ (3 : Int) ≠ 2 ∧ (3 : Int) ≠ 3) ∨ (0 < tn ∧ (3 : Int) ≠ 2) then 1 else if 8 < rn then 2 else checkF ts) from by
          rw [devE_go (by simp [DevV.dev]) (by rfl)]
          simp only [DevV.dev, HL.out.1, HL.out.2.1, HL.out.2.2])
        generalize devE _ = E at *
        have HC := hide (backs_val nm 3 0 0 bA bn bc bs rA rn rc rs tA tn tc ts _ (HQ.out _ HR.out).2.1)
        have HFB := hide (fun w1 hb => check22_any ts tA tn tc w1 htc (HQ.out _ hb).2.1.ts (HQ.out _ hb).2.1.tok)
        go_enter Tryd.func67, Tryd.ntmps67
        by_cases b3 : 3 < bn
        · have HF := hide (show E = 2 from by rw [HE.out]; simp [b3])
          clear HE
          go_wp2_with fail
          go_ret
          exact ⟨ret_i64' HF.out.symm, (HQ.out _ HR.out).2.2⟩
        cases bb : backsB ⟨nm, 3, 0, 0, bs, rs, ts⟩
        · have HF := hide (show E = 1 from by rw [HE.out]; simp [b3, bb])
          clear HE
          rw [bb] at HC
          clear bb
          go_wp2_with (first | fail | (go_at_call 92; refine HC.out.mono ?_; rintro e w1 ⟨rfl, hb⟩; have HR1 := hide hb; clear hb))
          go_ret
          exact ⟨ret_i64' HF.out.symm, (HQ.out _ HR1.out).2.2⟩
        rw [bb] at HC
        have HE2 := hide (show E = (if (0 < rn ∧ (3 : Int) ≠ 2 ∧ (3 : Int) ≠ 3) ∨ (0 < tn ∧ (3 : Int) ≠ 2) then 1 else if 8 < rn then 2 else checkF ts) from by rw [HE.out, bb]; simp [b3])
        clear HE bb
        have HCH := hide (fun w => aclCheck_walk rA rn rc w)
        by_cases r8 : 8 < rn
        · rw [if_pos r8] at HCH
          go_wp2_with (first | fail | (go_at_call 92; refine HC.out.mono ?_; rintro e w1 ⟨rfl, hb⟩; have HR1 := hide hb; clear hb; have y := (HQ.out _ HR1.out).1; obtain ⟨y0, y1, y2, y3, y4, y5, y6⟩ := y; clear HC) | (go_at_call 93; refine (HCH.out _).mono ?_; rintro e w2 ⟨rfl, rfl⟩))
          all_goals
            go_ret
            exact ⟨ret_i64' (by rw [HE2.out]; first | rw [if_pos (by omega)] | rw [if_neg (by omega), if_pos r8]), (HQ.out _ HR1.out).2.2⟩
        · rw [if_neg r8] at HCH
          go_wp2_with (first | fail | (go_at_call 92; refine HC.out.mono ?_; rintro e w1 ⟨rfl, hb⟩; have HR1 := hide hb; clear hb; have y := (HQ.out _ HR1.out).1; obtain ⟨y0, y1, y2, y3, y4, y5, y6⟩ := y; clear HC) | (go_at_call 93; refine (HCH.out _).mono ?_; rintro e w2 ⟨rfl, rfl⟩) | (go_at_call 94; refine (HFB.out _ HR1.out).mono ?_; rintro e w3 ⟨rfl, hb⟩; have HR2 := hide (HR1.out.trans (hb.mono HR1.out.size)); clear hb))
          all_goals
            go_ret
            first
              | exact ⟨ret_i64' (by rw [HE2.out, if_pos (by omega)]), (HQ.out _ HR1.out).2.2⟩
              | exact ⟨ret_i64' (by rw [HE2.out, if_neg (by omega), if_neg r8]), (HQ.out _ HR2.out).2.2⟩
      · have p1 : ((pl : Int) != 0) = true := by simp; omega
        have p2 : ((pl : Int) == 0) = false := by simp; omega
        · have HF := hide (show devE (DevV.dev ⟨nm, 3, 0, pl, bA, bn, bc, bs, rA, rn, rc, rs, tA, tn, tc, ts⟩) = 1 from devE_one (by simp [DevV.dev]) (by show argP 3 0 pl = true; rw [argP_of rfl rfl rfl (show ((pl != 0) != ((3 : Int) == 4)) = true from by simp [hp])]; rfl))
          generalize devE _ = E at *
          go_enter Tryd.func67, Tryd.ntmps67
          go_wp2_with fail
          go_ret
          exact ⟨ret_i64' HF.out.symm, (HQ.out _ HR.out).2.2⟩
    · have a1 : ((ad : Int) != 0) = true := by simp; omega
      have a2 : ((ad : Int) == 0) = false := by simp; omega
      · have HF := hide (show devE (DevV.dev ⟨nm, 3, ad, pl, bA, bn, bc, bs, rA, rn, rc, rs, tA, tn, tc, ts⟩) = 1 from devE_one (by simp [DevV.dev]) (by show argP 3 ad pl = true; rw [argP_of rfl rfl a1 rfl]; simp [addrB]))
        generalize devE _ = E at *
        go_enter Tryd.func67, Tryd.ntmps67
        go_wp2_with fail
        go_ret
        exact ⟨ret_i64' HF.out.symm, (HQ.out _ HR.out).2.2⟩
  · cases hw : (decide (0 ≤ ad) && decide (ad < 16))
    · have HF := hide (show devE (DevV.dev ⟨nm, 4, ad, pl, bA, bn, bc, bs, rA, rn, rc, rs, tA, tn, tc, ts⟩) = 1 from devE_one (by simp [DevV.dev]) (by show argP 4 ad pl = true; rw [argP_of rfl (show inA ad = false from hw) rfl rfl]; rfl))
      generalize devE _ = E at *
      go_enter Tryd.func67, Tryd.ntmps67
      go_wp2_with (go_at_call 68; refine (nwithin_walk _ _ _ false hw).mono ?_; rintro e w1 ⟨rfl, rfl⟩)
      go_ret
      exact ⟨ret_i64' HF.out.symm, (HQ.out _ HR.out).2.2⟩
    by_cases hp : pl = 0
    · subst hp
      · have HF := hide (show devE (DevV.dev ⟨nm, 4, ad, 0, bA, bn, bc, bs, rA, rn, rc, rs, tA, tn, tc, ts⟩) = 1 from devE_one (by simp [DevV.dev]) (by show argP 4 ad 0 = true; rw [argP_of rfl (show inA ad = true from hw) rfl rfl]; rfl))
        generalize devE _ = E at *
        go_enter Tryd.func67, Tryd.ntmps67
        go_wp2_with (go_at_call 68; refine (nwithin_walk _ _ _ true hw).mono ?_; rintro e w1 ⟨rfl, rfl⟩)
        go_ret
        exact ⟨ret_i64' HF.out.symm, (HQ.out _ HR.out).2.2⟩
    · have p1 : ((pl : Int) != 0) = true := by simp; omega
      have p2 : ((pl : Int) == 0) = false := by simp; omega
      have HE := hide (show devE (DevV.dev ⟨nm, 4, ad, pl, bA, bn, bc, bs, rA, rn, rc, rs, tA, tn, tc, ts⟩) = (if 3 < bn then 2 else if backsB ⟨nm, 4, ad, pl, bs, rs, ts⟩ = false then 1 else if (0 < rn ∧ (4 : Int) ≠ 2 ∧ (4 : Int) ≠ 3) ∨ (0 < tn ∧ (4 : Int) ≠ 2) then 1 else if 8 < rn then 2 else checkF ts) from by
        rw [devE_go (by simp [DevV.dev]) (by show argP 4 ad pl = false; rw [argP_of rfl (show inA ad = true from hw) rfl (show ((pl != 0) != ((4 : Int) == 4)) = false from by simp [hp])]; rfl)]
        simp only [DevV.dev, HL.out.1, HL.out.2.1, HL.out.2.2])
      generalize devE _ = E at *
      have HC := hide (backs_val nm 4 ad pl bA bn bc bs rA rn rc rs tA tn tc ts _ (HQ.out _ HR.out).2.1)
      have HFB := hide (fun w1 hb => check22_any ts tA tn tc w1 htc (HQ.out _ hb).2.1.ts (HQ.out _ hb).2.1.tok)
      go_enter Tryd.func67, Tryd.ntmps67
      by_cases b3 : 3 < bn
      · have HF := hide (show E = 2 from by rw [HE.out]; simp [b3])
        clear HE
        go_wp2_with (go_at_call 68; refine (nwithin_walk _ _ _ true hw).mono ?_; rintro e w1 ⟨rfl, rfl⟩)
        go_ret
        exact ⟨ret_i64' HF.out.symm, (HQ.out _ HR.out).2.2⟩
      cases bb : backsB ⟨nm, 4, ad, pl, bs, rs, ts⟩
      · have HF := hide (show E = 1 from by rw [HE.out]; simp [b3, bb])
        clear HE
        rw [bb] at HC
        clear bb
        go_wp2_with (first | (go_at_call 68; refine (nwithin_walk _ _ _ true hw).mono ?_; rintro e w1 ⟨rfl, rfl⟩) | (go_at_call 92; refine HC.out.mono ?_; rintro e w1 ⟨rfl, hb⟩; have HR1 := hide hb; clear hb))
        go_ret
        exact ⟨ret_i64' HF.out.symm, (HQ.out _ HR1.out).2.2⟩
      rw [bb] at HC
      have HE2 := hide (show E = (if (0 < rn ∧ (4 : Int) ≠ 2 ∧ (4 : Int) ≠ 3) ∨ (0 < tn ∧ (4 : Int) ≠ 2) then 1 else if 8 < rn then 2 else checkF ts) from by rw [HE.out, bb]; simp [b3])
      clear HE bb
      have HCH := hide (fun w => aclCheck_walk rA rn rc w)
      by_cases r8 : 8 < rn
      · rw [if_pos r8] at HCH
        go_wp2_with (first | (go_at_call 68; refine (nwithin_walk _ _ _ true hw).mono ?_; rintro e w1 ⟨rfl, rfl⟩) | (go_at_call 92; refine HC.out.mono ?_; rintro e w1 ⟨rfl, hb⟩; have HR1 := hide hb; clear hb; have y := (HQ.out _ HR1.out).1; obtain ⟨y0, y1, y2, y3, y4, y5, y6⟩ := y; clear HC) | (go_at_call 93; refine (HCH.out _).mono ?_; rintro e w2 ⟨rfl, rfl⟩))
        all_goals
          go_ret
          exact ⟨ret_i64' (by rw [HE2.out]; first | rw [if_pos (by omega)] | rw [if_neg (by omega), if_pos r8]), (HQ.out _ HR1.out).2.2⟩
      · rw [if_neg r8] at HCH
        go_wp2_with (first | (go_at_call 68; refine (nwithin_walk _ _ _ true hw).mono ?_; rintro e w1 ⟨rfl, rfl⟩) | (go_at_call 92; refine HC.out.mono ?_; rintro e w1 ⟨rfl, hb⟩; have HR1 := hide hb; clear hb; have y := (HQ.out _ HR1.out).1; obtain ⟨y0, y1, y2, y3, y4, y5, y6⟩ := y; clear HC) | (go_at_call 93; refine (HCH.out _).mono ?_; rintro e w2 ⟨rfl, rfl⟩) | (go_at_call 94; refine (HFB.out _ HR1.out).mono ?_; rintro e w3 ⟨rfl, hb⟩; have HR2 := hide (HR1.out.trans (hb.mono HR1.out.size)); clear hb))
        all_goals
          go_ret
          first
            | exact ⟨ret_i64' (by rw [HE2.out, if_pos (by omega)]), (HQ.out _ HR1.out).2.2⟩
            | exact ⟨ret_i64' (by rw [HE2.out, if_neg (by omega), if_neg r8]), (HQ.out _ HR2.out).2.2⟩
  · cases hw : (decide (0 ≤ ad) && decide (ad < 16))
    · have HF := hide (show devE (DevV.dev ⟨nm, 5, ad, pl, bA, bn, bc, bs, rA, rn, rc, rs, tA, tn, tc, ts⟩) = 1 from devE_one (by simp [DevV.dev]) (by show argP 5 ad pl = true; rw [argP_of rfl (show inA ad = false from hw) rfl rfl]; rfl))
      generalize devE _ = E at *
      go_enter Tryd.func67, Tryd.ntmps67
      go_wp2_with (go_at_call 68; refine (nwithin_walk _ _ _ false hw).mono ?_; rintro e w1 ⟨rfl, rfl⟩)
      go_ret
      exact ⟨ret_i64' HF.out.symm, (HQ.out _ HR.out).2.2⟩
    by_cases hp : pl = 0
    · subst hp
      have HE := hide (show devE (DevV.dev ⟨nm, 5, ad, 0, bA, bn, bc, bs, rA, rn, rc, rs, tA, tn, tc, ts⟩) = (if 3 < bn then 2 else if backsB ⟨nm, 5, ad, 0, bs, rs, ts⟩ = false then 1 else if (0 < rn ∧ (5 : Int) ≠ 2 ∧ (5 : Int) ≠ 3) ∨ (0 < tn ∧ (5 : Int) ≠ 2) then 1 else if 8 < rn then 2 else checkF ts) from by
        rw [devE_go (by simp [DevV.dev]) (by show argP 5 ad 0 = false; rw [argP_of rfl (show inA ad = true from hw) rfl rfl]; rfl)]
        simp only [DevV.dev, HL.out.1, HL.out.2.1, HL.out.2.2])
      generalize devE _ = E at *
      have HC := hide (backs_val nm 5 ad 0 bA bn bc bs rA rn rc rs tA tn tc ts _ (HQ.out _ HR.out).2.1)
      have HFB := hide (fun w1 hb => check22_any ts tA tn tc w1 htc (HQ.out _ hb).2.1.ts (HQ.out _ hb).2.1.tok)
      go_enter Tryd.func67, Tryd.ntmps67
      by_cases b3 : 3 < bn
      · have HF := hide (show E = 2 from by rw [HE.out]; simp [b3])
        clear HE
        go_wp2_with (go_at_call 68; refine (nwithin_walk _ _ _ true hw).mono ?_; rintro e w1 ⟨rfl, rfl⟩)
        go_ret
        exact ⟨ret_i64' HF.out.symm, (HQ.out _ HR.out).2.2⟩
      cases bb : backsB ⟨nm, 5, ad, 0, bs, rs, ts⟩
      · have HF := hide (show E = 1 from by rw [HE.out]; simp [b3, bb])
        clear HE
        rw [bb] at HC
        clear bb
        go_wp2_with (first | (go_at_call 68; refine (nwithin_walk _ _ _ true hw).mono ?_; rintro e w1 ⟨rfl, rfl⟩) | (go_at_call 92; refine HC.out.mono ?_; rintro e w1 ⟨rfl, hb⟩; have HR1 := hide hb; clear hb))
        go_ret
        exact ⟨ret_i64' HF.out.symm, (HQ.out _ HR1.out).2.2⟩
      rw [bb] at HC
      have HE2 := hide (show E = (if (0 < rn ∧ (5 : Int) ≠ 2 ∧ (5 : Int) ≠ 3) ∨ (0 < tn ∧ (5 : Int) ≠ 2) then 1 else if 8 < rn then 2 else checkF ts) from by rw [HE.out, bb]; simp [b3])
      clear HE bb
      have HCH := hide (fun w => aclCheck_walk rA rn rc w)
      by_cases r8 : 8 < rn
      · rw [if_pos r8] at HCH
        go_wp2_with (first | (go_at_call 68; refine (nwithin_walk _ _ _ true hw).mono ?_; rintro e w1 ⟨rfl, rfl⟩) | (go_at_call 92; refine HC.out.mono ?_; rintro e w1 ⟨rfl, hb⟩; have HR1 := hide hb; clear hb; have y := (HQ.out _ HR1.out).1; obtain ⟨y0, y1, y2, y3, y4, y5, y6⟩ := y; clear HC) | (go_at_call 93; refine (HCH.out _).mono ?_; rintro e w2 ⟨rfl, rfl⟩))
        all_goals
          go_ret
          exact ⟨ret_i64' (by rw [HE2.out]; first | rw [if_pos (by omega)] | rw [if_neg (by omega), if_pos r8]), (HQ.out _ HR1.out).2.2⟩
      · rw [if_neg r8] at HCH
        go_wp2_with (first | (go_at_call 68; refine (nwithin_walk _ _ _ true hw).mono ?_; rintro e w1 ⟨rfl, rfl⟩) | (go_at_call 92; refine HC.out.mono ?_; rintro e w1 ⟨rfl, hb⟩; have HR1 := hide hb; clear hb; have y := (HQ.out _ HR1.out).1; obtain ⟨y0, y1, y2, y3, y4, y5, y6⟩ := y; clear HC) | (go_at_call 93; refine (HCH.out _).mono ?_; rintro e w2 ⟨rfl, rfl⟩) | (go_at_call 94; refine (HFB.out _ HR1.out).mono ?_; rintro e w3 ⟨rfl, hb⟩; have HR2 := hide (HR1.out.trans (hb.mono HR1.out.size)); clear hb))
        all_goals
          go_ret
          first
            | exact ⟨ret_i64' (by rw [HE2.out, if_pos (by omega)]), (HQ.out _ HR1.out).2.2⟩
            | exact ⟨ret_i64' (by rw [HE2.out, if_neg (by omega), if_neg r8]), (HQ.out _ HR2.out).2.2⟩
    · have p1 : ((pl : Int) != 0) = true := by simp; omega
      have p2 : ((pl : Int) == 0) = false := by simp; omega
      · have HF := hide (show devE (DevV.dev ⟨nm, 5, ad, pl, bA, bn, bc, bs, rA, rn, rc, rs, tA, tn, tc, ts⟩) = 1 from devE_one (by simp [DevV.dev]) (by show argP 5 ad pl = true; rw [argP_of rfl (show inA ad = true from hw) rfl (show ((pl != 0) != ((5 : Int) == 4)) = true from by simp [hp])]; rfl))
        generalize devE _ = E at *
        go_enter Tryd.func67, Tryd.ntmps67
        go_wp2_with (go_at_call 68; refine (nwithin_walk _ _ _ true hw).mono ?_; rintro e w1 ⟨rfl, rfl⟩)
        go_ret
        exact ⟨ret_i64' HF.out.symm, (HQ.out _ HR.out).2.2⟩
end Go.Proofs.YtohbafigjpoijaaDoor
