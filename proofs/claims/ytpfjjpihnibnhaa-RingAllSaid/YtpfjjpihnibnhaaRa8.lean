/- A part of the proof: NetBacks, NetDevice. -/
import Derived.Test.YtpfjjpihnibnhaaRa7

set_option linter.unusedVariables false
set_option linter.unusedSimpArgs false
namespace Go.Proofs.Ytpfjjpihnibnhaa
open Go.RowKit

theorem IntsAt.take {w : World} {B n : Nat} {A : Option Addr} {l : List Int} (h : IntsAt w B A n l) {k : Nat} (hk : k ≤ n) : IntsAt w B A k (l.take k) :=
  ⟨by rw [List.length_take, h.1]; omega, fun x hx => h.2.1 x (List.mem_of_mem_take hx), fun h0 => by
    obtain ⟨b, o, e, hb, hg⟩ := h.2.2 (by omega)
    refine ⟨b, o, e, hb, fun j x hj => hg j x ?_⟩
    have hjk : j < k := by have := (List.getElem?_eq_some_iff.1 hj).1; simp at this; omega
    rwa [List.getElem?_take_of_lt hjk] at hj⟩

def DBox (w : World) (N : Nat) (d : DevV) : Prop :=
  w.cell? ⟨N, 0, none⟩ = some (.string d.name) ∧ w.cell? ⟨N, 1, none⟩ = some (.int .i64 d.kind) ∧ w.cell? ⟨N, 2, none⟩ = some (.int .i64 d.addr) ∧ w.cell? ⟨N, 3, none⟩ = some (.int .u8 d.pool) ∧
  w.cell? ⟨N, 4, none⟩ = some (.slice d.bA d.bn d.bc) ∧ w.cell? ⟨N, 5, none⟩ = some (.slice d.rA d.rn d.rc) ∧ w.cell? ⟨N, 6, none⟩ = some (.slice d.tA d.tn d.tc)
theorem DBox.below {w w' : World} {B N : Nat} {d : DevV} (h : DBox w N d) (hB : RowKit.Below B w w') (hN : N < B) : DBox w' N d := by
  have e : ∀ o, w'.cell? ⟨N, o, none⟩ = w.cell? ⟨N, o, none⟩ := fun o => hB.cell (p := ⟨N, o, none⟩) hN
  unfold DBox
  rw [e, e, e, e, e, e, e]
  exact h
theorem DBox.new (w : World) (d : DevV) (t : TypeId) : DBox (w.alloc (.cells #[.string d.name, .int .i64 d.kind, .int .i64 d.addr, .int .u8 d.pool, .slice d.bA d.bn d.bc, .slice d.rA d.rn d.rc, .slice d.tA d.tn d.tc] t)) w.heap.size d := by
  have hbx := heap_alloc_new w (.cells #[.string d.name, .int .i64 d.kind, .int .i64 d.addr, .int .u8 d.pool, .slice d.bA d.bn d.bc, .slice d.rA d.rn d.rc, .slice d.tA d.tn d.tc] t)
  refine ⟨?_, ?_, ?_, ?_, ?_, ?_, ?_⟩ <;> (rw [cell_of_row _ _ _ _ _ _ hbx]; rfl)

set_option maxRecDepth 100000 in
set_option maxHeartbeats 8000000 in
theorem backs_walk (d : DevV) (W : World) (hd : DevAt W W.heap.size d) :
    Calls Try.prog 105 #[d.val] W fun e W' => e = .returned (.bool (backsB d.dev)) ∧ RowKit.Below W.heap.size W W' := by
  obtain ⟨W0, hW0⟩ : ∃ W0, W0 = W.alloc (.cells #[.string d.name, .int .i64 d.kind, .int .i64 d.addr, .int .u8 d.pool, .slice d.bA d.bn d.bc, .slice d.rA d.rn d.rc, .slice d.tA d.tn d.tc] 35) := ⟨_, rfl⟩
  have HB0 := hide (show RowKit.Below W.heap.size W W0 from by rw [hW0]; exact (RowKit.Below.refl _ _).alloc (Nat.le_refl _) _)
  have HSZ := hide (show W0.heap.size = W.heap.size + 1 from by rw [hW0]; simp)
  have HQ := hide (fun (w' : World) (hb : RowKit.Below W0.heap.size W0 w') => show DBox w' W.heap.size d ∧ IntsAt w' w'.heap.size d.bA d.bn d.bs ∧ RowKit.Below W.heap.size W w' from by
    have h1 := HB0.out.trans (hb.mono (by rw [HSZ.out]; omega))
    exact ⟨(show DBox W0 W.heap.size d from by rw [hW0]; exact DBox.new W d _).below hb (by rw [HSZ.out]; omega), hd.bs.below h1 h1.size, h1⟩)
  have HLEN := hide (show d.bs.length = d.bn from hd.bs.1)
  have hbc : d.bn ≤ d.bc := hd.cb.1
  have hbm : d.bc ≤ maxLen := hd.cb.2
  have hbm : d.bc ≤ 9223372036854775807 := by unfold maxLen at hbm; omega
  have HI := hide hd.bs.2.1
  have HD := hide (show backsB d.dev = (backsOk d.addr [] d.bs && ((decide (0 < d.bs.length)) == (d.kind == 5))) from rfl)
  generalize d.dev = dv at *
  clear hd
  obtain ⟨nm, kd, ad, pl, bA, bn, bc, bs, rA, rn, rc, rs, tA, tn, tc, ts⟩ := d
  simp only [DevV.val] at *
  obtain ⟨x0, x1, x2, x3, x4, x5, x6⟩ := (HQ.out W0 (RowKit.Below.refl _ _)).1
  go_enter Try.func105, Try.ntmps105
  go_wp2
  rw [← hW0]
  go_loopw [8] (fun i wr => ∃ k : Nat, k ≤ bn ∧ i = .int .i64 k ∧ Hid (backsOk ad [] bs = backsOk ad (bs.take k) (bs.drop k)) ∧ Hid (RowKit.Below W0.heap.size W0 wr)) (fun i _ => bn - (intOf i).toNat)
  case atStart => exact ⟨0, Nat.zero_le _, rfl, hide rfl, hide (RowKit.Below.refl _ _)⟩
  case round =>
    clear x0 x1 x2 x3 x4 x5 x6
    obtain ⟨k, hk, rfl, HC, HB⟩ := hrel
    obtain ⟨hbox, hints, hbW⟩ := HQ.out wr HB.out
    obtain ⟨x0, x1, x2, x3, x4, x5, x6⟩ := hbox
    have HBW := hide hbW
    by_cases hlt : k < bn
    · obtain ⟨b, hb⟩ : ∃ r, bs[k]? = some r := ⟨_, List.getElem?_eq_getElem (by have := HLEN.out; omega)⟩
      have HS := hide (backsOk_step (addr := ad) hb)
      obtain ⟨hb1, hb2⟩ := HI.out b (List.mem_of_getElem? hb)
      obtain ⟨bb, oo, rfl, hbB, hg⟩ := hints.2.2 (by omega)
      have q0 := hg k b hb
      have HIk := hide (hints.take (k := k) (by omega))
      have g1 : (k : Int) ≤ (bc : Int) := by omega
      clear hb hg hints hbW
      cases e1 : (decide (0 ≤ b) && decide (b < 16))
      · go_wp2_with fail
        refine (nwithin_walk b 16 _ false e1).mono ?_
        rintro e w1 ⟨rfl, rfl⟩
        have HF := hide (show backsB dv = false from by rw [HD.out, HC.out, HS.out, e1]; rfl)
        go_wp2
        go_ret
        exact ⟨ret_bool HF.out.symm, HBW.out⟩
      have HE1 := hide e1
      go_wp2_with fail
      refine (nwithin_walk b 16 _ true e1).mono ?_
      rintro e w1 ⟨rfl, rfl⟩
      clear e1
      cases e2 : (b == ad)
      case true =>
        have HF := hide (show backsB dv = false from by rw [HD.out, HC.out, HS.out]; simp [show b = ad by simpa using e2])
        go_wp2
        go_ret
        exact ⟨ret_bool HF.out.symm, HBW.out⟩
      have HE2 := hide (show (b != ad) = true from by simp [bne, e2])
      go_wp2_with fail
      refine (contains_is (bs.take k) (some ⟨bb, oo, none⟩) k bc b wr (by omega) HIk.out).mono ?_
      rintro e w1 ⟨rfl, hb⟩
      have HB1 := hide (HB.out.trans (hb.mono HB.out.size))
      have HBW1 := hide (HBW.out.trans (hb.mono HBW.out.size))
      clear hb
      cases e3 : (bs.take k).contains b
      case true =>
        have HF := hide (show backsB dv = false from by rw [HD.out, HC.out, HS.out, e3]; simp)
        go_wp2
        go_ret
        exact ⟨ret_bool HF.out.symm, HBW1.out⟩
      have HN := hide (show backsOk ad [] bs = backsOk ad (bs.take (k + 1)) (bs.drop (k + 1)) from by rw [HC.out, HS.out, HE1.out, HE2.out, e3]; simp)
      go_wp2
      go_roundw
      case rel => exact ⟨k + 1, by omega, by go_num, HN, HB1⟩
      case measure => simp [intOf]; omega
    · have hk' : k = bn := by omega
      have HN := hide (show backsB dv = ((decide (0 < bn)) == (kd == 5)) from by
        rw [HD.out, HC.out, List.drop_of_length_le (by have := HLEN.out; omega), HLEN.out]; rfl)
      cases e1 : decide (0 < bn)
      · have e1' : ¬ 0 < bn := by simpa using e1
        obtain rfl : bn = 0 := by omega
        cases e2 : (kd == 5)
        all_goals
          go_wp2
          go_ret
          exact ⟨ret_bool (by rw [HN.out, e2]; rfl), HBW.out⟩
      · have e1' : 0 < bn := by simpa using e1
        have HE := hide e1
        clear e1
        cases e2 : (kd == 5)
        all_goals
          go_wp2
          go_ret
          exact ⟨ret_bool (by rw [HN.out, e2, HE.out]; rfl), HBW.out⟩
end Go.Proofs.Ytpfjjpihnibnhaa

set_option linter.unusedVariables false
set_option linter.unusedSimpArgs false
namespace Go.Proofs.Ytpfjjpihnibnhaa
open Go.RowKit

theorem backs_val (nm : ByteArray) (kd ad : Int) (pl : Nat) (bA : Option Addr) (bn bc : Nat) (bs : List Int) (rA : Option Addr) (rn rc : Nat) (rs : List RuleV) (tA : Option Addr) (tn tc : Nat) (ts : List RouteV) (W : World)
    (hd : DevAt W W.heap.size ⟨nm, kd, ad, pl, bA, bn, bc, bs, rA, rn, rc, rs, tA, tn, tc, ts⟩) :
    Calls Try.prog 105 #[.agg #[.string nm, .int .i64 kd, .int .i64 ad, .int .u8 pl, .slice bA bn bc, .slice rA rn rc, .slice tA tn tc]] W fun e W' => e = .returned (.bool (backsB ⟨nm, kd, ad, pl, bs, rs, ts⟩)) ∧ RowKit.Below W.heap.size W W' := backs_walk _ W hd

def argB (d : Dev) : Bool := (addrB d.kind && !(decide (0 ≤ d.addr) && decide (d.addr < 16))) || (!addrB d.kind && (d.addr != 0)) || ((d.pool != 0) != (d.kind == 4))
def inA (a : Int) : Bool := decide (0 ≤ a) && decide (a < 16)
def argP (k a : Int) (p : Nat) : Bool := (addrB k && !inA a) || (!addrB k && (a != 0)) || ((p != 0) != (k == 4))
theorem argP_of {k a : Int} {p : Nat} {x y z u : Bool} (h1 : addrB k = x) (h2 : inA a = y) (h3 : (a != 0) = z) (h4 : ((p != 0) != (k == 4)) = u) : argP k a p = ((x && !y) || (!x && z) || u) := by
  unfold argP; rw [h1, h2, h3, h4]
theorem devE_one {d : Dev} (h : 1 ≤ d.kind ∧ d.kind ≤ 5) (h1 : argB d = true) : devE d = 1 := by
  unfold argB at h1
  unfold devE
  rw [if_neg (by simp; omega), if_pos h1]
theorem devE_go {d : Dev} (h : 1 ≤ d.kind ∧ d.kind ≤ 5) (h1 : argB d = false) : devE d =
    if 3 < d.backs.length then 2 else if backsB d = false then 1 else if (0 < d.rules.length ∧ d.kind ≠ 2 ∧ d.kind ≠ 3) ∨ (0 < d.routes.length ∧ d.kind ≠ 2) then 1 else if 8 < d.rules.length then 2 else checkF d.routes := by
  unfold argB at h1
  unfold devE
  rw [if_neg (by simp; omega), if_neg (by rw [h1]; simp)]
  simp [and_assoc]

set_option maxRecDepth 100000 in
set_option maxHeartbeats 8000000 in
theorem device_walk (d : DevV) (W : World) (hd : DevAt W W.heap.size d) :
    Calls Try.prog 78 #[d.val] W fun e W' => e = .returned (.int .i64 (devE d.dev)) ∧ RowKit.Below W.heap.size W W' := by
  obtain ⟨W0, hW0⟩ : ∃ W0, W0 = W.alloc (.cells #[.string d.name, .int .i64 d.kind, .int .i64 d.addr, .int .u8 d.pool, .slice d.bA d.bn d.bc, .slice d.rA d.rn d.rc, .slice d.tA d.tn d.tc] 35) := ⟨_, rfl⟩
  have HB0 := hide (show RowKit.Below W.heap.size W W0 from by rw [hW0]; exact (RowKit.Below.refl _ _).alloc (Nat.le_refl _) _)
  have HSZ := hide (show W0.heap.size = W.heap.size + 1 from by rw [hW0]; simp)
  have HQ := hide (fun (w' : World) (hb : RowKit.Below W0.heap.size W0 w') => show DBox w' W.heap.size d ∧ DevAt w' w'.heap.size d ∧ RowKit.Below W.heap.size W w' from by
    have h1 := HB0.out.trans (hb.mono (by rw [HSZ.out]; omega))
    exact ⟨(show DBox W0 W.heap.size d from by rw [hW0]; exact DBox.new W d _).below hb (by rw [HSZ.out]; omega), hd.below h1 h1.size, h1⟩)
  have hl1 := hd.bs.1
  have hl2 := hd.rs.1
  have hl3 := hd.ts.1
  have HL := hide (And.intro hl1 (And.intro hl2 hl3))
  have htc := hd.ct.1
  have hpl := hd.pl
  clear hd hl1 hl2 hl3
  obtain ⟨nm, kd, ad, pl, bA, bn, bc, bs, rA, rn, rc, rs, tA, tn, tc, ts⟩ := d
  simp only [DevV.val] at *
  have HR := hide (RowKit.Below.refl W0.heap.size W0)
  have HS0 := hide HB0.out.size
  clear HSZ
  subst hW0
  by_cases hk1 : kd < 1
  · have HF := hide (show devE (DevV.dev ⟨nm, kd, ad, pl, bA, bn, bc, bs, rA, rn, rc, rs, tA, tn, tc, ts⟩) = 1 from by simp [devE, DevV.dev, hk1])
    generalize devE _ = E at *
    have e1 : (kd == 1) = false := by simp; omega
    have e2 : (kd == 4) = false := by simp; omega
    have e3 : (kd == 5) = false := by simp; omega
    go_enter Try.func78, Try.ntmps78
    go_wp2
    go_ret
    exact ⟨ret_i64' HF.out.symm, HB0.out⟩
  by_cases hk2 : 5 < kd
  · have HF := hide (show devE (DevV.dev ⟨nm, kd, ad, pl, bA, bn, bc, bs, rA, rn, rc, rs, tA, tn, tc, ts⟩) = 1 from by simp [devE, DevV.dev, hk2])
    generalize devE _ = E at *
    have e1 : (kd == 1) = false := by simp; omega
    have e2 : (kd == 4) = false := by simp; omega
    have e3 : (kd == 5) = false := by simp; omega
    go_enter Try.func78, Try.ntmps78
    go_wp2
    go_ret
    exact ⟨ret_i64' HF.out.symm, HB0.out⟩
  have hkr : kd = 1 ∨ kd = 2 ∨ kd = 3 ∨ kd = 4 ∨ kd = 5 := by omega
  clear hk1 hk2
  rcases hkr with rfl | rfl | rfl | rfl | rfl
  · cases hw : (decide (0 ≤ ad) && decide (ad < 16))
    · have HF := hide (show devE (DevV.dev ⟨nm, 1, ad, pl, bA, bn, bc, bs, rA, rn, rc, rs, tA, tn, tc, ts⟩) = 1 from devE_one (by simp [DevV.dev]) (by show argP 1 ad pl = true; rw [argP_of rfl (show inA ad = false from hw) rfl rfl]; rfl))
      generalize devE _ = E at *
      go_enter Try.func78, Try.ntmps78
      go_wp2_with (go_at_call 79; refine (nwithin_walk _ _ _ false hw).mono ?_; rintro e w1 ⟨rfl, rfl⟩)
      go_ret
      exact ⟨ret_i64' HF.out.symm, (HQ.out _ HR.out).2.2⟩
    by_cases hp : pl = 0
    · subst hp
      have HE := hide (show devE (DevV.dev ⟨nm, 1, ad, 0, bA, bn, bc, bs, rA, rn, rc, rs, tA, tn, tc, ts⟩) = (if 3 < bn then 2 else if backsB ⟨nm, 1, ad, 0, bs, rs, ts⟩ = false then 1 else if (0 < rn ∧ (1 : Int) ≠ 2 ∧ (1 : Int) ≠ 3) ∨ (0 < tn ∧ (1 : Int) ≠ 2) then 1 else if 8 < rn then 2 else checkF ts) from by
        rw [devE_go (by simp [DevV.dev]) (by show argP 1 ad 0 = false; rw [argP_of rfl (show inA ad = true from hw) rfl rfl]; rfl)]
        simp only [DevV.dev, HL.out.1, HL.out.2.1, HL.out.2.2])
      generalize devE _ = E at *
      have HC := hide (backs_val nm 1 ad 0 bA bn bc bs rA rn rc rs tA tn tc ts _ (HQ.out _ HR.out).2.1)
      have HFB := hide (fun w1 hb => check22_any ts tA tn tc w1 htc (HQ.out _ hb).2.1.ts (HQ.out _ hb).2.1.tok)
      go_enter Try.func78, Try.ntmps78
      by_cases b3 : 3 < bn
      · have HF := hide (show E = 2 from by rw [HE.out]; simp [b3])
        clear HE
        go_wp2_with (go_at_call 79; refine (nwithin_walk _ _ _ true hw).mono ?_; rintro e w1 ⟨rfl, rfl⟩)
        go_ret
        exact ⟨ret_i64' HF.out.symm, (HQ.out _ HR.out).2.2⟩
      cases bb : backsB ⟨nm, 1, ad, 0, bs, rs, ts⟩
      · have HF := hide (show E = 1 from by rw [HE.out]; simp [b3, bb])
        clear HE
        rw [bb] at HC
        clear bb
        go_wp2_with (first | (go_at_call 79; refine (nwithin_walk _ _ _ true hw).mono ?_; rintro e w1 ⟨rfl, rfl⟩) | (go_at_call 105; refine HC.out.mono ?_; rintro e w1 ⟨rfl, hb⟩; have HR1 := hide hb; clear hb))
        go_ret
        exact ⟨ret_i64' HF.out.symm, (HQ.out _ HR1.out).2.2⟩
      rw [bb] at HC
      have HE2 := hide (show E = (if (0 < rn ∧ (1 : Int) ≠ 2 ∧ (1 : Int) ≠ 3) ∨ (0 < tn ∧ (1 : Int) ≠ 2) then 1 else if 8 < rn then 2 else checkF ts) from by rw [HE.out, bb]; simp [b3])
      clear HE bb
      have HCH := hide (fun w => aclCheck_walk rA rn rc w)
      by_cases r8 : 8 < rn
      · rw [if_pos r8] at HCH
        go_wp2_with (first | (go_at_call 79; refine (nwithin_walk _ _ _ true hw).mono ?_; rintro e w1 ⟨rfl, rfl⟩) | (go_at_call 105; refine HC.out.mono ?_; rintro e w1 ⟨rfl, hb⟩; have HR1 := hide hb; clear hb; have y := (HQ.out _ HR1.out).1; obtain ⟨y0, y1, y2, y3, y4, y5, y6⟩ := y; clear HC) | (go_at_call 41; refine (HCH.out _).mono ?_; rintro e w2 ⟨rfl, rfl⟩))
        all_goals
          go_ret
          exact ⟨ret_i64' (by rw [HE2.out]; first | rw [if_pos (by omega)] | rw [if_neg (by omega), if_pos r8]), (HQ.out _ HR1.out).2.2⟩
      · rw [if_neg r8] at HCH
        go_wp2_with (first | (go_at_call 79; refine (nwithin_walk _ _ _ true hw).mono ?_; rintro e w1 ⟨rfl, rfl⟩) | (go_at_call 105; refine HC.out.mono ?_; rintro e w1 ⟨rfl, hb⟩; have HR1 := hide hb; clear hb; have y := (HQ.out _ HR1.out).1; obtain ⟨y0, y1, y2, y3, y4, y5, y6⟩ := y; clear HC) | (go_at_call 41; refine (HCH.out _).mono ?_; rintro e w2 ⟨rfl, rfl⟩) | (go_at_call 96; refine (HFB.out _ HR1.out).mono ?_; rintro e w3 ⟨rfl, hb⟩; have HR2 := hide (HR1.out.trans (hb.mono HR1.out.size)); clear hb))
        all_goals
          go_ret
          first
            | exact ⟨ret_i64' (by rw [HE2.out, if_pos (by omega)]), (HQ.out _ HR1.out).2.2⟩
            | exact ⟨ret_i64' (by rw [HE2.out, if_neg (by omega), if_neg r8]), (HQ.out _ HR2.out).2.2⟩
    · have p1 : ((pl : Int) != 0) = true := by simp; omega
      have p2 : ((pl : Int) == 0) = false := by simp; omega
      · have HF := hide (show devE (DevV.dev ⟨nm, 1, ad, pl, bA, bn, bc, bs, rA, rn, rc, rs, tA, tn, tc, ts⟩) = 1 from devE_one (by simp [DevV.dev]) (by show argP 1 ad pl = true; rw [argP_of rfl (show inA ad = true from hw) rfl (show ((pl != 0) != ((1 : Int) == 4)) = true from by simp [hp])]; rfl))
        generalize devE _ = E at *
        go_enter Try.func78, Try.ntmps78
        go_wp2_with (go_at_call 79; refine (nwithin_walk _ _ _ true hw).mono ?_; rintro e w1 ⟨rfl, rfl⟩)
        go_ret
        exact ⟨ret_i64' HF.out.symm, (HQ.out _ HR.out).2.2⟩
  · by_cases ha : ad = 0
    · subst ha
      by_cases hp : pl = 0
      · subst hp
        have HE := hide (show devE (DevV.dev ⟨nm, 2, 0, 0, bA, bn, bc, bs, rA, rn, rc, rs, tA, tn, tc, ts⟩) = (if 3 < bn then 2 else if backsB ⟨nm, 2, 0, 0, bs, rs, ts⟩ = false then 1 else if (0 < rn ∧ (2 : Int) ≠ 2 ∧ (2 : Int) ≠ 3) ∨ (0 < tn ∧ (2 : Int) ≠ 2) then 1 else if 8 < rn then 2 else checkF ts) from by
          rw [devE_go (by simp [DevV.dev]) (by rfl)]
          simp only [DevV.dev, HL.out.1, HL.out.2.1, HL.out.2.2])
        generalize devE _ = E at *
        have HC := hide (backs_val nm 2 0 0 bA bn bc bs rA rn rc rs tA tn tc ts _ (HQ.out _ HR.out).2.1)
        have HFB := hide (fun w1 hb => check22_any ts tA tn tc w1 htc (HQ.out _ hb).2.1.ts (HQ.out _ hb).2.1.tok)
        go_enter Try.func78, Try.ntmps78
        by_cases b3 : 3 < bn
        · have HF := hide (show E = 2 from by rw [HE.out]; simp [b3])
          clear HE
          go_wp2_with fail
          go_ret
          exact ⟨ret_i64' HF.out.symm, (HQ.out _ HR.out).2.2⟩
        cases bb : backsB ⟨nm, 2, 0, 0, bs, rs, ts⟩
        · have HF := hide (show E = 1 from by rw [HE.out]; simp [b3, bb])
          clear HE
          rw [bb] at HC
          clear bb
          go_wp2_with (first | fail | (go_at_call 105; refine HC.out.mono ?_; rintro e w1 ⟨rfl, hb⟩; have HR1 := hide hb; clear hb))
          go_ret
          exact ⟨ret_i64' HF.out.symm, (HQ.out _ HR1.out).2.2⟩
        rw [bb] at HC
        have HE2 := hide (show E = (if (0 < rn ∧ (2 : Int) ≠ 2 ∧ (2 : Int) ≠ 3) ∨ (0 < tn ∧ (2 : Int) ≠ 2) then 1 else if 8 < rn then 2 else checkF ts) from by rw [HE.out, bb]; simp [b3])
        clear HE bb
        have HCH := hide (fun w => aclCheck_walk rA rn rc w)
        by_cases r8 : 8 < rn
        · rw [if_pos r8] at HCH
          go_wp2_with (first | fail | (go_at_call 105; refine HC.out.mono ?_; rintro e w1 ⟨rfl, hb⟩; have HR1 := hide hb; clear hb; have y := (HQ.out _ HR1.out).1; obtain ⟨y0, y1, y2, y3, y4, y5, y6⟩ := y; clear HC) | (go_at_call 41; refine (HCH.out _).mono ?_; rintro e w2 ⟨rfl, rfl⟩))
          all_goals
            go_ret
            exact ⟨ret_i64' (by rw [HE2.out]; first | rw [if_pos (by omega)] | rw [if_neg (by omega), if_pos r8]), (HQ.out _ HR1.out).2.2⟩
        · rw [if_neg r8] at HCH
          go_wp2_with (first | fail | (go_at_call 105; refine HC.out.mono ?_; rintro e w1 ⟨rfl, hb⟩; have HR1 := hide hb; clear hb; have y := (HQ.out _ HR1.out).1; obtain ⟨y0, y1, y2, y3, y4, y5, y6⟩ := y; clear HC) | (go_at_call 41; refine (HCH.out _).mono ?_; rintro e w2 ⟨rfl, rfl⟩) | (go_at_call 96; refine (HFB.out _ HR1.out).mono ?_; rintro e w3 ⟨rfl, hb⟩; have HR2 := hide (HR1.out.trans (hb.mono HR1.out.size)); clear hb))
          all_goals
            go_ret
            first
              | exact ⟨ret_i64' (by rw [HE2.out, if_pos (by omega)]), (HQ.out _ HR1.out).2.2⟩
              | exact ⟨ret_i64' (by rw [HE2.out, if_neg (by omega), if_neg r8]), (HQ.out _ HR2.out).2.2⟩
      · have p1 : ((pl : Int) != 0) = true := by simp; omega
        have p2 : ((pl : Int) == 0) = false := by simp; omega
        · have HF := hide (show devE (DevV.dev ⟨nm, 2, 0, pl, bA, bn, bc, bs, rA, rn, rc, rs, tA, tn, tc, ts⟩) = 1 from devE_one (by simp [DevV.dev]) (by show argP 2 0 pl = true; rw [argP_of rfl rfl rfl (show ((pl != 0) != ((2 : Int) == 4)) = true from by simp [hp])]; rfl))
          generalize devE _ = E at *
          go_enter Try.func78, Try.ntmps78
          go_wp2_with fail
          go_ret
          exact ⟨ret_i64' HF.out.symm, (HQ.out _ HR.out).2.2⟩
    · have a1 : ((ad : Int) != 0) = true := by simp; omega
      have a2 : ((ad : Int) == 0) = false := by simp; omega
      · have HF := hide (show devE (DevV.dev ⟨nm, 2, ad, pl, bA, bn, bc, bs, rA, rn, rc, rs, tA, tn, tc, ts⟩) = 1 from devE_one (by simp [DevV.dev]) (by show argP 2 ad pl = true; rw [argP_of rfl rfl a1 rfl]; simp [addrB]))
        generalize devE _ = E at *
        go_enter Try.func78, Try.ntmps78
        go_wp2_with fail
        go_ret
        exact ⟨ret_i64' HF.out.symm, (HQ.out _ HR.out).2.2⟩
  · by_cases ha : ad = 0
    · subst ha
      by_cases hp : pl = 0
      · subst hp
        have HE := hide (show devE (DevV.dev ⟨nm, 3, 0, 0, bA, bn, bc, bs, rA, rn, rc, rs, tA, tn, tc, ts⟩) = (if 3 < bn then 2 else if backsB ⟨nm, 3, 0, 0, bs, rs, ts⟩ = false then 1 else if (0 < rn ∧ (3 : Int) ≠ 2 ∧ (3 : Int) ≠ 3) ∨ (0 < tn ∧ (3 : Int) ≠ 2) then 1 else if 8 < rn then 2 else checkF ts) from by
          rw [devE_go (by simp [DevV.dev]) (by rfl)]
          simp only [DevV.dev, HL.out.1, HL.out.2.1, HL.out.2.2])
        generalize devE _ = E at *
        have HC := hide (backs_val nm 3 0 0 bA bn bc bs rA rn rc rs tA tn tc ts _ (HQ.out _ HR.out).2.1)
        have HFB := hide (fun w1 hb => check22_any ts tA tn tc w1 htc (HQ.out _ hb).2.1.ts (HQ.out _ hb).2.1.tok)
        go_enter Try.func78, Try.ntmps78
        by_cases b3 : 3 < bn
        · have HF := hide (show E = 2 from by rw [HE.out]; simp [b3])
          clear HE
          go_wp2_with fail
          go_ret
          exact ⟨ret_i64' HF.out.symm, (HQ.out _ HR.out).2.2⟩
        cases bb : backsB ⟨nm, 3, 0, 0, bs, rs, ts⟩
        · have HF := hide (show E = 1 from by rw [HE.out]; simp [b3, bb])
          clear HE
          rw [bb] at HC
          clear bb
          go_wp2_with (first | fail | (go_at_call 105; refine HC.out.mono ?_; rintro e w1 ⟨rfl, hb⟩; have HR1 := hide hb; clear hb))
          go_ret
          exact ⟨ret_i64' HF.out.symm, (HQ.out _ HR1.out).2.2⟩
        rw [bb] at HC
        have HE2 := hide (show E = (if (0 < rn ∧ (3 : Int) ≠ 2 ∧ (3 : Int) ≠ 3) ∨ (0 < tn ∧ (3 : Int) ≠ 2) then 1 else if 8 < rn then 2 else checkF ts) from by rw [HE.out, bb]; simp [b3])
        clear HE bb
        have HCH := hide (fun w => aclCheck_walk rA rn rc w)
        by_cases r8 : 8 < rn
        · rw [if_pos r8] at HCH
          go_wp2_with (first | fail | (go_at_call 105; refine HC.out.mono ?_; rintro e w1 ⟨rfl, hb⟩; have HR1 := hide hb; clear hb; have y := (HQ.out _ HR1.out).1; obtain ⟨y0, y1, y2, y3, y4, y5, y6⟩ := y; clear HC) | (go_at_call 41; refine (HCH.out _).mono ?_; rintro e w2 ⟨rfl, rfl⟩))
          all_goals
            go_ret
            exact ⟨ret_i64' (by rw [HE2.out]; first | rw [if_pos (by omega)] | rw [if_neg (by omega), if_pos r8]), (HQ.out _ HR1.out).2.2⟩
        · rw [if_neg r8] at HCH
          go_wp2_with (first | fail | (go_at_call 105; refine HC.out.mono ?_; rintro e w1 ⟨rfl, hb⟩; have HR1 := hide hb; clear hb; have y := (HQ.out _ HR1.out).1; obtain ⟨y0, y1, y2, y3, y4, y5, y6⟩ := y; clear HC) | (go_at_call 41; refine (HCH.out _).mono ?_; rintro e w2 ⟨rfl, rfl⟩) | (go_at_call 96; refine (HFB.out _ HR1.out).mono ?_; rintro e w3 ⟨rfl, hb⟩; have HR2 := hide (HR1.out.trans (hb.mono HR1.out.size)); clear hb))
          all_goals
            go_ret
            first
              | exact ⟨ret_i64' (by rw [HE2.out, if_pos (by omega)]), (HQ.out _ HR1.out).2.2⟩
              | exact ⟨ret_i64' (by rw [HE2.out, if_neg (by omega), if_neg r8]), (HQ.out _ HR2.out).2.2⟩
      · have p1 : ((pl : Int) != 0) = true := by simp; omega
        have p2 : ((pl : Int) == 0) = false := by simp; omega
        · have HF := hide (show devE (DevV.dev ⟨nm, 3, 0, pl, bA, bn, bc, bs, rA, rn, rc, rs, tA, tn, tc, ts⟩) = 1 from devE_one (by simp [DevV.dev]) (by show argP 3 0 pl = true; rw [argP_of rfl rfl rfl (show ((pl != 0) != ((3 : Int) == 4)) = true from by simp [hp])]; rfl))
          generalize devE _ = E at *
          go_enter Try.func78, Try.ntmps78
          go_wp2_with fail
          go_ret
          exact ⟨ret_i64' HF.out.symm, (HQ.out _ HR.out).2.2⟩
    · have a1 : ((ad : Int) != 0) = true := by simp; omega
      have a2 : ((ad : Int) == 0) = false := by simp; omega
      · have HF := hide (show devE (DevV.dev ⟨nm, 3, ad, pl, bA, bn, bc, bs, rA, rn, rc, rs, tA, tn, tc, ts⟩) = 1 from devE_one (by simp [DevV.dev]) (by show argP 3 ad pl = true; rw [argP_of rfl rfl a1 rfl]; simp [addrB]))
        generalize devE _ = E at *
        go_enter Try.func78, Try.ntmps78
        go_wp2_with fail
        go_ret
        exact ⟨ret_i64' HF.out.symm, (HQ.out _ HR.out).2.2⟩
  · cases hw : (decide (0 ≤ ad) && decide (ad < 16))
    · have HF := hide (show devE (DevV.dev ⟨nm, 4, ad, pl, bA, bn, bc, bs, rA, rn, rc, rs, tA, tn, tc, ts⟩) = 1 from devE_one (by simp [DevV.dev]) (by show argP 4 ad pl = true; rw [argP_of rfl (show inA ad = false from hw) rfl rfl]; rfl))
      generalize devE _ = E at *
      go_enter Try.func78, Try.ntmps78
      go_wp2_with (go_at_call 79; refine (nwithin_walk _ _ _ false hw).mono ?_; rintro e w1 ⟨rfl, rfl⟩)
      go_ret
      exact ⟨ret_i64' HF.out.symm, (HQ.out _ HR.out).2.2⟩
    by_cases hp : pl = 0
    · subst hp
      · have HF := hide (show devE (DevV.dev ⟨nm, 4, ad, 0, bA, bn, bc, bs, rA, rn, rc, rs, tA, tn, tc, ts⟩) = 1 from devE_one (by simp [DevV.dev]) (by show argP 4 ad 0 = true; rw [argP_of rfl (show inA ad = true from hw) rfl rfl]; rfl))
        generalize devE _ = E at *
        go_enter Try.func78, Try.ntmps78
        go_wp2_with (go_at_call 79; refine (nwithin_walk _ _ _ true hw).mono ?_; rintro e w1 ⟨rfl, rfl⟩)
        go_ret
        exact ⟨ret_i64' HF.out.symm, (HQ.out _ HR.out).2.2⟩
    · have p1 : ((pl : Int) != 0) = true := by simp; omega
      have p2 : ((pl : Int) == 0) = false := by simp; omega
      have HE := hide (show devE (DevV.dev ⟨nm, 4, ad, pl, bA, bn, bc, bs, rA, rn, rc, rs, tA, tn, tc, ts⟩) = (if 3 < bn then 2 else if backsB ⟨nm, 4, ad, pl, bs, rs, ts⟩ = false then 1 else if (0 < rn ∧ (4 : Int) ≠ 2 ∧ (4 : Int) ≠ 3) ∨ (0 < tn ∧ (4 : Int) ≠ 2) then 1 else if 8 < rn then 2 else checkF ts) from by
        rw [devE_go (by simp [DevV.dev]) (by show argP 4 ad pl = false; rw [argP_of rfl (show inA ad = true from hw) rfl (show ((pl != 0) != ((4 : Int) == 4)) = false from by simp [hp])]; rfl)]
        simp only [DevV.dev, HL.out.1, HL.out.2.1, HL.out.2.2])
      generalize devE _ = E at *
      have HC := hide (backs_val nm 4 ad pl bA bn bc bs rA rn rc rs tA tn tc ts _ (HQ.out _ HR.out).2.1)
      have HFB := hide (fun w1 hb => check22_any ts tA tn tc w1 htc (HQ.out _ hb).2.1.ts (HQ.out _ hb).2.1.tok)
      go_enter Try.func78, Try.ntmps78
      by_cases b3 : 3 < bn
      · have HF := hide (show E = 2 from by rw [HE.out]; simp [b3])
        clear HE
        go_wp2_with (go_at_call 79; refine (nwithin_walk _ _ _ true hw).mono ?_; rintro e w1 ⟨rfl, rfl⟩)
        go_ret
        exact ⟨ret_i64' HF.out.symm, (HQ.out _ HR.out).2.2⟩
      cases bb : backsB ⟨nm, 4, ad, pl, bs, rs, ts⟩
      · have HF := hide (show E = 1 from by rw [HE.out]; simp [b3, bb])
        clear HE
        rw [bb] at HC
        clear bb
        go_wp2_with (first | (go_at_call 79; refine (nwithin_walk _ _ _ true hw).mono ?_; rintro e w1 ⟨rfl, rfl⟩) | (go_at_call 105; refine HC.out.mono ?_; rintro e w1 ⟨rfl, hb⟩; have HR1 := hide hb; clear hb))
        go_ret
        exact ⟨ret_i64' HF.out.symm, (HQ.out _ HR1.out).2.2⟩
      rw [bb] at HC
      have HE2 := hide (show E = (if (0 < rn ∧ (4 : Int) ≠ 2 ∧ (4 : Int) ≠ 3) ∨ (0 < tn ∧ (4 : Int) ≠ 2) then 1 else if 8 < rn then 2 else checkF ts) from by rw [HE.out, bb]; simp [b3])
      clear HE bb
      have HCH := hide (fun w => aclCheck_walk rA rn rc w)
      by_cases r8 : 8 < rn
      · rw [if_pos r8] at HCH
        go_wp2_with (first | (go_at_call 79; refine (nwithin_walk _ _ _ true hw).mono ?_; rintro e w1 ⟨rfl, rfl⟩) | (go_at_call 105; refine HC.out.mono ?_; rintro e w1 ⟨rfl, hb⟩; have HR1 := hide hb; clear hb; have y := (HQ.out _ HR1.out).1; obtain ⟨y0, y1, y2, y3, y4, y5, y6⟩ := y; clear HC) | (go_at_call 41; refine (HCH.out _).mono ?_; rintro e w2 ⟨rfl, rfl⟩))
        all_goals
          go_ret
          exact ⟨ret_i64' (by rw [HE2.out]; first | rw [if_pos (by omega)] | rw [if_neg (by omega), if_pos r8]), (HQ.out _ HR1.out).2.2⟩
      · rw [if_neg r8] at HCH
        go_wp2_with (first | (go_at_call 79; refine (nwithin_walk _ _ _ true hw).mono ?_; rintro e w1 ⟨rfl, rfl⟩) | (go_at_call 105; refine HC.out.mono ?_; rintro e w1 ⟨rfl, hb⟩; have HR1 := hide hb; clear hb; have y := (HQ.out _ HR1.out).1; obtain ⟨y0, y1, y2, y3, y4, y5, y6⟩ := y; clear HC) | (go_at_call 41; refine (HCH.out _).mono ?_; rintro e w2 ⟨rfl, rfl⟩) | (go_at_call 96; refine (HFB.out _ HR1.out).mono ?_; rintro e w3 ⟨rfl, hb⟩; have HR2 := hide (HR1.out.trans (hb.mono HR1.out.size)); clear hb))
        all_goals
          go_ret
          first
            | exact ⟨ret_i64' (by rw [HE2.out, if_pos (by omega)]), (HQ.out _ HR1.out).2.2⟩
            | exact ⟨ret_i64' (by rw [HE2.out, if_neg (by omega), if_neg r8]), (HQ.out _ HR2.out).2.2⟩
  · cases hw : (decide (0 ≤ ad) && decide (ad < 16))
    · have HF := hide (show devE (DevV.dev ⟨nm, 5, ad, pl, bA, bn, bc, bs, rA, rn, rc, rs, tA, tn, tc, ts⟩) = 1 from devE_one (by simp [DevV.dev]) (by show argP 5 ad pl = true; rw [argP_of rfl (show inA ad = false from hw) rfl rfl]; rfl))
      generalize devE _ = E at *
      go_enter Try.func78, Try.ntmps78
      go_wp2_with (go_at_call 79; refine (nwithin_walk _ _ _ false hw).mono ?_; rintro e w1 ⟨rfl, rfl⟩)
      go_ret
      exact ⟨ret_i64' HF.out.symm, (HQ.out _ HR.out).2.2⟩
    by_cases hp : pl = 0
    · subst hp
      have HE := hide (show devE (DevV.dev ⟨nm, 5, ad, 0, bA, bn, bc, bs, rA, rn, rc, rs, tA, tn, tc, ts⟩) = (if 3 < bn then 2 else if backsB ⟨nm, 5, ad, 0, bs, rs, ts⟩ = false then 1 else if (0 < rn ∧ (5 : Int) ≠ 2 ∧ (5 : Int) ≠ 3) ∨ (0 < tn ∧ (5 : Int) ≠ 2) then 1 else if 8 < rn then 2 else checkF ts) from by
        rw [devE_go (by simp [DevV.dev]) (by show argP 5 ad 0 = false; rw [argP_of rfl (show inA ad = true from hw) rfl rfl]; rfl)]
        simp only [DevV.dev, HL.out.1, HL.out.2.1, HL.out.2.2])
      generalize devE _ = E at *
      have HC := hide (backs_val nm 5 ad 0 bA bn bc bs rA rn rc rs tA tn tc ts _ (HQ.out _ HR.out).2.1)
      have HFB := hide (fun w1 hb => check22_any ts tA tn tc w1 htc (HQ.out _ hb).2.1.ts (HQ.out _ hb).2.1.tok)
      go_enter Try.func78, Try.ntmps78
      by_cases b3 : 3 < bn
      · have HF := hide (show E = 2 from by rw [HE.out]; simp [b3])
        clear HE
        go_wp2_with (go_at_call 79; refine (nwithin_walk _ _ _ true hw).mono ?_; rintro e w1 ⟨rfl, rfl⟩)
        go_ret
        exact ⟨ret_i64' HF.out.symm, (HQ.out _ HR.out).2.2⟩
      cases bb : backsB ⟨nm, 5, ad, 0, bs, rs, ts⟩
      · have HF := hide (show E = 1 from by rw [HE.out]; simp [b3, bb])
        clear HE
        rw [bb] at HC
        clear bb
        go_wp2_with (first | (go_at_call 79; refine (nwithin_walk _ _ _ true hw).mono ?_; rintro e w1 ⟨rfl, rfl⟩) | (go_at_call 105; refine HC.out.mono ?_; rintro e w1 ⟨rfl, hb⟩; have HR1 := hide hb; clear hb))
        go_ret
        exact ⟨ret_i64' HF.out.symm, (HQ.out _ HR1.out).2.2⟩
      rw [bb] at HC
      have HE2 := hide (show E = (if (0 < rn ∧ (5 : Int) ≠ 2 ∧ (5 : Int) ≠ 3) ∨ (0 < tn ∧ (5 : Int) ≠ 2) then 1 else if 8 < rn then 2 else checkF ts) from by rw [HE.out, bb]; simp [b3])
      clear HE bb
      have HCH := hide (fun w => aclCheck_walk rA rn rc w)
      by_cases r8 : 8 < rn
      · rw [if_pos r8] at HCH
        go_wp2_with (first | (go_at_call 79; refine (nwithin_walk _ _ _ true hw).mono ?_; rintro e w1 ⟨rfl, rfl⟩) | (go_at_call 105; refine HC.out.mono ?_; rintro e w1 ⟨rfl, hb⟩; have HR1 := hide hb; clear hb; have y := (HQ.out _ HR1.out).1; obtain ⟨y0, y1, y2, y3, y4, y5, y6⟩ := y; clear HC) | (go_at_call 41; refine (HCH.out _).mono ?_; rintro e w2 ⟨rfl, rfl⟩))
        all_goals
          go_ret
          exact ⟨ret_i64' (by rw [HE2.out]; first | rw [if_pos (by omega)] | rw [if_neg (by omega), if_pos r8]), (HQ.out _ HR1.out).2.2⟩
      · rw [if_neg r8] at HCH
        go_wp2_with (first | (go_at_call 79; refine (nwithin_walk _ _ _ true hw).mono ?_; rintro e w1 ⟨rfl, rfl⟩) | (go_at_call 105; refine HC.out.mono ?_; rintro e w1 ⟨rfl, hb⟩; have HR1 := hide hb; clear hb; have y := (HQ.out _ HR1.out).1; obtain ⟨y0, y1, y2, y3, y4, y5, y6⟩ := y; clear HC) | (go_at_call 41; refine (HCH.out _).mono ?_; rintro e w2 ⟨rfl, rfl⟩) | (go_at_call 96; refine (HFB.out _ HR1.out).mono ?_; rintro e w3 ⟨rfl, hb⟩; have HR2 := hide (HR1.out.trans (hb.mono HR1.out.size)); clear hb))
        all_goals
          go_ret
          first
            | exact ⟨ret_i64' (by rw [HE2.out, if_pos (by omega)]), (HQ.out _ HR1.out).2.2⟩
            | exact ⟨ret_i64' (by rw [HE2.out, if_neg (by omega), if_neg r8]), (HQ.out _ HR2.out).2.2⟩
    · have p1 : ((pl : Int) != 0) = true := by simp; omega
      have p2 : ((pl : Int) == 0) = false := by simp; omega
      · have HF := hide (show devE (DevV.dev ⟨nm, 5, ad, pl, bA, bn, bc, bs, rA, rn, rc, rs, tA, tn, tc, ts⟩) = 1 from devE_one (by simp [DevV.dev]) (by show argP 5 ad pl = true; rw [argP_of rfl (show inA ad = true from hw) rfl (show ((pl != 0) != ((5 : Int) == 4)) = true from by simp [hp])]; rfl))
        generalize devE _ = E at *
        go_enter Try.func78, Try.ntmps78
        go_wp2_with (go_at_call 79; refine (nwithin_walk _ _ _ true hw).mono ?_; rintro e w1 ⟨rfl, rfl⟩)
        go_ret
        exact ⟨ret_i64' HF.out.symm, (HQ.out _ HR.out).2.2⟩
end Go.Proofs.Ytpfjjpihnibnhaa
