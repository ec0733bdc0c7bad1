/- A part of the proof: Ring1, Ring2, Ring3, RgF, DevOk. -/
import Derived.Test.YtpfjjpihnibnhaaRa13

set_option linter.unusedVariables false
set_option linter.unusedSimpArgs false
namespace Go.Proofs.Ytpfjjpihnibnhaa
open Go.RowKit

def oddKind (k : Int) : Bool := (k != 1) && (k != 2)
def plainE (ds : List Dev) (ls : List LinkV) : Int := if netE ds ls = 0 then (if ds.any (fun d => oddKind d.kind) then 1 else 0) else netE ds ls

set_option maxRecDepth 100000 in
theorem ringClos_walk (x : DevV) (w : World) : Calls Try.prog 52 (#[x.val] ++ #[]) w fun e W' => e = .returned (.bool (oddKind x.kind)) ∧ Below w.heap.size w W' := by
  obtain ⟨xn, xk, xa, xp, bA, bn, bc, bs, rA, rn, rc, rs, tA, tn, tc, ts⟩ := x
  show Calls Try.prog 52 #[.agg #[.string xn, .int .i64 xk, .int .i64 xa, .int .u8 xp, .slice bA bn bc, .slice rA rn rc, .slice tA tn tc]] w _
  have HB := hide (fun o => show Below w.heap.size w (w.alloc o) from (Below.refl _ _).alloc (Nat.le_refl _) _)
  cases e1 : (xk == 1)
  · have e1' : (xk != 1) = true := by simp [bne, e1]
    cases e2 : (xk == 2)
    · have e2' : (xk != 2) = true := by simp [bne, e2]
      go_enter Try.func52, Try.ntmps52
      go_wp2
      go_ret
      exact ⟨ret_bool (by simp [oddKind, e1', e2']), HB.out _⟩
    · obtain rfl : xk = 2 := by simpa using e2
      clear e1 e2 e1'
      go_enter Try.func52, Try.ntmps52
      go_wp2
      go_ret
      exact ⟨ret_bool (by simp [oddKind]), HB.out _⟩
  · obtain rfl : xk = 1 := by simpa using e1
    clear e1
    go_enter Try.func52, Try.ntmps52
    go_wp2
    go_ret
    exact ⟨ret_bool (by simp [oddKind]), HB.out _⟩

def NetBox (W W0 : World) (N : Nat) (n : NetV) : Prop := ∀ w', RowKit.Below W0.heap.size W0 w' → (w'.cell? ⟨N, 0, none⟩ = some (.slice n.dA n.dn n.dc) ∧ w'.cell? ⟨N, 1, none⟩ = some (.slice n.lA n.ln n.lc)) ∧ NetAt w' w'.heap.size n ∧ RowKit.Below W.heap.size W w'
theorem netBox_new {W : World} {n : NetV} (hn : NetAt W W.heap.size n) (t : TypeId) : NetBox W (W.alloc (.cells #[.slice n.dA n.dn n.dc, .slice n.lA n.ln n.lc] t)) W.heap.size n := fun w' hb => by
  have hz : (W.alloc (.cells #[.slice n.dA n.dn n.dc, .slice n.lA n.ln n.lc] t)).heap.size = W.heap.size + 1 := by simp
  have h1 : RowKit.Below W.heap.size W w' := ((RowKit.Below.refl _ _).alloc (Nat.le_refl _) _).trans (hb.mono (by omega))
  rw [hz] at hb
  exact ⟨⟨cell_new W _ _ rfl hb 0 _ rfl, cell_new W _ _ rfl hb 1 _ rfl⟩, hn.below h1 h1.size, h1⟩

theorem any_dev (ds : List DevV) : (ds.map DevV.dev).any (fun d => oddKind d.kind) = ds.any (fun d => oddKind d.kind) := by
  rw [List.any_map]; rfl

set_option maxRecDepth 100000 in
set_option maxHeartbeats 8000000 in
theorem ringCheck_walk (n : NetV) (W : World) (hn : NetAt W W.heap.size n) :
    Calls Try.prog 23 #[n.val] W fun e W' => e = .returned (.int .i64 (plainE n.devs n.ls)) ∧ RowKit.Below W.heap.size W W' := by
  have HQ := hide (netBox_new hn 25)
  have HCW := hide (fun (w : World) h => netCheck_walk n w h)
  have hm : n.dn ≤ 9223372036854775807 := by have h1 := hn.cd.1; have h2 := hn.cd.2; unfold maxLen at h2; omega
  have HP := hide (show plainE n.devs n.ls = if netE n.devs n.ls = 0 then (if n.ds.any (fun d => oddKind d.kind) then 1 else 0) else netE n.devs n.ls from by
    unfold plainE NetV.devs; rw [any_dev])
  have HR := hide (RowKit.Below.refl (W.alloc (.cells #[.slice n.dA n.dn n.dc, .slice n.lA n.ln n.lc] 25)).heap.size (W.alloc (.cells #[.slice n.dA n.dn n.dc, .slice n.lA n.ln n.lc] 25)))
  have HC := hide (HCW.out _ (HQ.out _ HR.out).2.1)
  clear hn HCW
  obtain ⟨dA, dn, dc, ds, lA, ln, lc, ls⟩ := n
  generalize plainE _ _ = PE at *
  generalize hE : netE _ _ = E at *
  clear hE
  simp only [NetV.val] at *
  go_enter Try.func23, Try.ntmps23
  go_wp2_with fail
  refine HC.out.mono ?_
  clear HC
  rintro e w1 ⟨rfl, hb⟩
  have HB1 := hide hb
  clear hb
  by_cases h0 : E = 0
  case neg =>
    have d1 : (E != 0) = true := by simpa using h0
    have d2 : (E == 0) = false := by simpa using h0
    have HF := hide (show PE = E from by rw [HP.out, if_neg h0])
    clear h0
    go_wp2
    go_ret
    exact ⟨ret_i64' HF.out.symm, (HQ.out _ HB1.out).2.2⟩
  subst h0
  obtain ⟨⟨x0, x1⟩, hna, _⟩ := HQ.out w1 HB1.out
  have HF := hide (show PE = if ds.any (fun d => oddKind d.kind) then 1 else 0 from by rw [HP.out]; simp)
  have HCT := hide (containsFuncDev_any ds dA dn dc 52 #[] (fun d => oddKind d.kind) w1 hm hna.ds (fun args w => by go_simp) (hide (fun r w' _ _ => ringClos_walk r w')))
  clear hna HP
  generalize ds.any (fun d => oddKind d.kind) = B at *
  go_wp2_with fail
  refine HCT.out.mono ?_
  clear HCT x0 x1
  rintro e w2 ⟨rfl, hb⟩
  have HB2 := hide (HB1.out.trans (hb.mono HB1.out.size))
  clear hb
  cases B
  all_goals
    go_wp2
    go_ret
    exact ⟨ret_i64' (by rw [HF.out]; rfl), (HQ.out _ HB2.out).2.2⟩

set_option maxRecDepth 100000 in
set_option maxHeartbeats 8000000 in
theorem refPlain_walk (n : NetV) (W : World) (hn : NetAt W W.heap.size n) :
    Calls Try.prog 7 #[n.val] W fun e W' => e = .returned (.int .i64 (plainE n.devs n.ls)) ∧ RowKit.Below W.heap.size W W' := by
  have HQ := hide (netBox_new hn 25)
  have HCW := hide (fun (w : World) h => refNet_walk n w h)
  have hm : n.dn ≤ 9223372036854775807 := by have h1 := hn.cd.1; have h2 := hn.cd.2; unfold maxLen at h2; omega
  have HP := hide (show plainE n.devs n.ls = if netE n.devs n.ls = 0 then (if n.ds.any (fun d => oddKind d.kind) then 1 else 0) else netE n.devs n.ls from by
    unfold plainE NetV.devs; rw [any_dev])
  have HR := hide (RowKit.Below.refl (W.alloc (.cells #[.slice n.dA n.dn n.dc, .slice n.lA n.ln n.lc] 25)).heap.size (W.alloc (.cells #[.slice n.dA n.dn n.dc, .slice n.lA n.ln n.lc] 25)))
  have HC := hide (HCW.out _ (HQ.out _ HR.out).2.1)
  have HDL := hide hn.dlen
  clear hn HCW
  obtain ⟨dA, dn, dc, ds, lA, ln, lc, ls⟩ := n
  generalize plainE _ _ = PE at *
  generalize hE : netE _ _ = E at *
  clear hE
  simp only [NetV.val] at *
  go_enter Try.func7, Try.ntmps7
  go_wp2_with fail
  refine HC.out.mono ?_
  clear HC
  rintro e w1 ⟨rfl, hb⟩
  have HB1 := hide hb
  clear hb
  by_cases h0 : E = 0
  case neg =>
    have d1 : (E != 0) = true := by simpa using h0
    have d2 : (E == 0) = false := by simpa using h0
    have HF := hide (show PE = E from by rw [HP.out, if_neg h0])
    clear h0
    go_wp2
    go_ret
    exact ⟨ret_i64' HF.out.symm, (HQ.out _ HB1.out).2.2⟩
  subst h0
  have HF := hide (show PE = if ds.any (fun d => oddKind d.kind) then 1 else 0 from by rw [HP.out]; simp)
  clear HP
  obtain ⟨⟨x0, x1⟩, hna, _⟩ := HQ.out w1 HB1.out
  have HNA := hide hna
  clear hna
  go_wp2
  go_loop [4] (fun i => ∃ k : Nat, k ≤ dn ∧ i = .int .i64 k ∧ Hid (∀ j d, j < k → ds[j]? = some d → oddKind d.kind = false)) (fun i => dn - (intOf i).toNat)
  case atStart => exact ⟨0, Nat.zero_le _, rfl, hide (fun j d h => absurd h (by omega))⟩
  case round =>
    obtain ⟨k, hk, rfl, HN⟩ := hrel
    by_cases hlt : k < dn
    · obtain ⟨r, hr⟩ : ∃ r, ds[k]? = some r := ⟨_, List.getElem?_eq_getElem (by have : ds.length = dn := HDL.out; omega)⟩
      obtain ⟨b, o, rfl, _, _⟩ := HNA.out.ds.2 (by show 0 < dn; omega)
      obtain ⟨hbB, _, q1, _⟩ := dev_get HNA.out.ds hr
      have HRK := hide hr
      clear hr
      generalize hkd : r.kind = kd at *
      have HKD := hide hkd
      clear hkd
      cases e : oddKind kd
      · have HNx := hide (show ∀ j d, j < k + 1 → ds[j]? = some d → oddKind d.kind = false from fun j d hj hd => by
          rcases (by omega : j < k ∨ j = k) with h | rfl
          · exact HN.out j d h hd
          · have h2 := HRK.out
            rw [h2] at hd
            cases hd
            rw [HKD.out]; exact e)
        have hk12 : kd = 1 ∨ kd = 2 := by
          simp only [oddKind, Bool.and_eq_false_iff, bne_eq_false_iff_eq] at e
          exact e
        clear e
        rcases hk12 with rfl | rfl
        all_goals
          go_wp2
          go_round
          case rel => exact ⟨k + 1, by omega, by go_num, HNx⟩
          case measure => simp [intOf]; omega
      · have HF2 := hide (show PE = 1 from by
          rw [HF.out, if_pos (List.any_eq_true.2 ⟨r, List.mem_of_getElem? HRK.out, by rw [HKD.out]; exact e⟩)])
        have hk12 : kd ≠ 1 ∧ kd ≠ 2 := by
          simpa [oddKind] using e
        have d1 : (kd == 1) = false := by simpa using hk12.1
        have d2 : (kd == 2) = false := by simpa using hk12.2
        have d3 : (kd != 1) = true := by simpa using hk12.1
        have d4 : (kd != 2) = true := by simpa using hk12.2
        clear e hk12
        go_wp2
        go_ret
        exact ⟨ret_i64' HF2.out.symm, (HQ.out _ HB1.out).2.2⟩
    · have HF2 := hide (show PE = 0 from by
        rw [HF.out, if_neg]
        rw [Bool.not_eq_true, List.any_eq_false]
        intro x hx
        obtain ⟨j, hj⟩ := List.getElem?_of_mem hx
        have hjl := (List.getElem?_eq_some_iff.1 hj).1
        simp [HN.out j x (by have : ds.length = dn := HDL.out; omega) hj])
      go_wp2
      go_ret
      exact ⟨ret_i64' HF2.out.symm, (HQ.out _ HB1.out).2.2⟩
end Go.Proofs.Ytpfjjpihnibnhaa

set_option linter.unusedVariables false
set_option linter.unusedSimpArgs false
namespace Go.Proofs.Ytpfjjpihnibnhaa
open Go.RowKit

theorem boxesL : ∀ (l : List (Array Value × TypeId)) (W : World) {W' : World}, RowKit.Below (W.heap.size + l.length) (l.foldl (fun w x => w.alloc (.cells x.1 x.2)) W) W' →
    (∀ (i : Nat) c t, l[i]? = some (c, t) → ∀ (o : Nat) (v : Value), c[o]? = some v → W'.cell? ⟨W.heap.size + i, o, none⟩ = some v) ∧ RowKit.Below W.heap.size W W' ∧ W.heap.size + l.length ≤ W'.heap.size := by
  intro l
  induction l with
  | nil =>
    intro W W' hb
    exact ⟨fun i c t h => by simp at h, by simpa using hb, by have := hb.size; simpa using this⟩
  | cons x l ih =>
    intro W W' hb
    have hz : (W.alloc (.cells x.1 x.2)).heap.size = W.heap.size + 1 := by simp
    obtain ⟨h1, h2, h3⟩ := ih (W.alloc (.cells x.1 x.2)) (W' := W') (by
      rw [hz]
      simp only [List.foldl_cons, List.length_cons] at hb
      rw [show W.heap.size + 1 + l.length = W.heap.size + (l.length + 1) by omega]
      exact hb)
    refine ⟨fun i c t hi o v hv => ?_, ((RowKit.Below.refl _ _).alloc (Nat.le_refl _) _).trans (h2.mono (by omega)), by rw [hz] at h3; simp only [List.length_cons]; omega⟩
    cases i with
    | zero =>
      cases hi
      rw [hz] at h2
      exact cell_new W _ _ rfl h2 o v hv
    | succ i =>
      have := h1 i c t (by simpa using hi) o v hv
      rw [hz] at this
      rw [show W.heap.size + (i + 1) = W.heap.size + 1 + i by omega]
      exact this
theorem le3 (n : Nat) : n ≤ n + 1 + 1 + 1 := by omega
def nextF (ls : List LinkV) (d : Dev) (i : Int) (p : P4) : Option Pl :=
  if (d.kind == 2) && decide (0 ≤ (outF p.dst d.routes).2) && letsB d.rules p then peerF ls (i, (outF p.dst d.routes).1) else none

end Go.Proofs.Ytpfjjpihnibnhaa

set_option linter.unusedVariables false
set_option linter.unusedSimpArgs false
namespace Go.Proofs.Ytpfjjpihnibnhaa
open Go.RowKit

def portsN (ds : List Dev) (i : Nat) : Nat := (portsF (kindAt ds (i : Int))).toNat
theorem portsF_range (k : Int) : 0 ≤ portsF k ∧ portsF k ≤ 4 := by
  unfold portsF
  repeat' split
  all_goals omega

def rowPl (i k : Nat) : List Pl := (List.range k).map fun (j : Nat) => ((i : Int), (j : Int))
def allPl (ds : List Dev) (n : Nat) : List Pl := (List.range n).flatMap fun (i : Nat) => rowPl i (portsN ds i)
theorem mem_allPl {ds : List Dev} {n : Nat} {x : Pl} : x ∈ allPl ds n ↔ (0 ≤ x.1 ∧ x.1 < n) ∧ 0 ≤ x.2 ∧ x.2 < portsF (kindAt ds x.1) := by
  obtain ⟨a, b⟩ := x
  simp only [allPl, rowPl, portsN, List.mem_flatMap, List.mem_range, List.mem_map, Prod.mk.injEq]
  constructor
  · rintro ⟨i, hi, j, hj, rfl, rfl⟩
    have := portsF_range (kindAt ds (i : Int))
    omega
  · rintro ⟨⟨h1, h2⟩, h3, h4⟩
    refine ⟨a.toNat, by omega, b.toNat, ?_, by omega, by omega⟩
    rw [show ((a.toNat : Nat) : Int) = a by omega]
    omega
theorem portsN_le (ds : List Dev) (i : Nat) : portsN ds i ≤ 4 := by
  have := portsF_range (kindAt ds (i : Int))
  unfold portsN
  omega
theorem allPl_len (ds : List Dev) (n : Nat) : (allPl ds n).length ≤ n * 4 := by
  induction n with
  | zero => simp [allPl]
  | succ n ih =>
    have e : allPl ds (n + 1) = allPl ds n ++ rowPl n (portsN ds n) := by rw [allPl, List.range_succ, List.flatMap_append]; simp [allPl]
    have h2 := portsN_le ds n
    rw [e, List.length_append]
    simp only [rowPl, List.length_map, List.length_range]
    omega

inductive WalkTo (nx : Pl → Option Pl) : List Pl → Pl → List Pl × Bool → Prop
  | stop {out at_} (h : nx at_ = none) : WalkTo nx out at_ (out, false)
  | round {out at_ to_} (h : nx at_ = some to_) (hm : to_ ∈ out) : WalkTo nx out at_ (out, true)
  | step {out at_ to_ r} (h : nx at_ = some to_) (hm : to_ ∉ out) (k : WalkTo nx (out ++ [to_]) to_ r) : WalkTo nx out at_ r
def nextAt (ds : List Dev) (ls : List LinkV) (p : P4) (x : Pl) : Option Pl := match ds[x.1.toNat]? with
  | some d => nextF ls d x.1 p
  | none => none
theorem nextAt_valid {ds : List Dev} {ls : List LinkV} {p : P4} (h : NetOk ds ls) {x y : Pl} (hx : nextAt ds ls p x = some y) : placeB ds y = true := by
  unfold nextAt at hx
  split at hx
  · unfold nextF at hx
    split at hx
    · exact h.pl _ (peerF_some h.nd hx).2.1
    · cases hx
  · cases hx
structure WayOk (ds : List Dev) (out : List Pl) (x : Pl) : Prop where
  nd : out.Nodup
  pl : ∀ y ∈ out, placeB ds y = true
  px : placeB ds x = true
theorem WayOk.len {ds : List Dev} {out : List Pl} {x : Pl} (h : WayOk ds out x) (hd : ds.length ≤ 10) : out.length ≤ 40 := by
  have h1 := length_le_of_subset' out (allPl ds ds.length) h.nd (fun y hy => mem_allPl.2 (placeB_iff.1 (h.pl y hy)))
  have h2 := allPl_len ds ds.length
  omega
theorem WayOk.step {ds : List Dev} {out : List Pl} {x y : Pl} (h : WayOk ds out x) (hm : y ∉ out) (hy : placeB ds y = true) : WayOk ds (out ++ [y]) y :=
  ⟨by rw [List.nodup_append]; exact ⟨h.nd, by simp, fun a ha b hb e => by simp at hb; subst hb; exact hm (e ▸ ha)⟩, fun z hz => by
    rw [List.mem_append, List.mem_singleton] at hz
    rcases hz with hz | rfl
    · exact h.pl z hz
    · exact hy, hy⟩

theorem plainE_ok {ds : List Dev} {ls : List LinkV} (h : plainE ds ls = 0) : NetOk ds ls := by
  unfold plainE at h
  split at h
  · exact netE_ok (by assumption)
  · contradiction

end Go.Proofs.Ytpfjjpihnibnhaa

set_option linter.unusedVariables false
set_option linter.unusedSimpArgs false
namespace Go.Proofs.Ytpfjjpihnibnhaa
open Go.RowKit Bdd

theorem dst_has (l : List RouteV) (port : Int) (c : Nat) (hc : c < 16384) : outs (partL 65535 (setTo (dstB l port) 16) 255 255) (asgOf c) = dstB l port (c / 64 % 16) := by
  rw [outs_has _ _ _ _ c hc]
  have h16 : ∀ i : Fin 16, Nat.testBit 65535 i.val = true := by decide +kernel
  have h8 : ∀ i : Fin 8, Nat.testBit 255 i.val = true := by decide +kernel
  have a := h16 ⟨c / 1024, by omega⟩
  have b := h8 ⟨c / 8 % 8, by omega⟩
  have d := h8 ⟨c % 8, by omega⟩
  simp only at a b d
  unfold hasAllB
  rw [a, b, d, setTo_bit]
  have : c / 64 % 16 < 16 := by omega
  simp [this]

theorem outStep_port (d : Int) (s : Int × Int) (r : RouteV) (h : 0 ≤ s.2 → 0 ≤ s.1 ∧ s.1 ≤ 3) : 0 ≤ (outStep d s r).2 → 0 ≤ (outStep d s r).1 ∧ (outStep d s r).1 ≤ 3 := by
  unfold outStep
  split
  · rename_i hh
    intro _
    simp only [outHit, routeB, Bool.and_eq_true, decide_eq_true_eq] at hh
    exact ⟨hh.1.1.1.1.1.2, hh.1.1.1.1.2⟩
  · exact h
theorem outF_port (d : Int) (l : List RouteV) : 0 ≤ (outF d l).2 → 0 ≤ (outF d l).1 ∧ (outF d l).1 ≤ 3 := by
  have : ∀ (l : List RouteV) (s : Int × Int), (0 ≤ s.2 → 0 ≤ s.1 ∧ s.1 ≤ 3) → 0 ≤ (l.foldl (outStep d) s).2 → 0 ≤ (l.foldl (outStep d) s).1 ∧ (l.foldl (outStep d) s).1 ≤ 3 := by
    intro l
    induction l with
    | nil => intro s h; exact h
    | cons r l ih => intro s h; exact ih _ (outStep_port d s r h)
  exact this l _ (fun h => absurd h (by simp))

structure StepT where
  src : Pl
  to_ : Pl
  fn : Bdd.Fn

def portF (l : List RouteV) (port : Int) : Bdd.Fn := outs (partL 65535 (setTo (dstB l port) 16) 255 255)
def inL (i : Nat) (to_ : Pl) (F : Bdd.Fn) (k : Nat) : List StepT := (List.range k).map fun (j : Nat) => ⟨((i : Int), (j : Int)), to_, F⟩
def portL (ls : List LinkV) (i : Nat) (ts : List RouteV) (rs : List RuleV) (k : Nat) : List StepT :=
  (List.range k).flatMap fun (port : Nat) => match peerF ls ((i : Int), (port : Int)) with
    | some to_ => inL i to_ (andF (portF ts (port : Int)) (aclF rs)) 4
    | none => []
def devL (ds : List Dev) (ls : List LinkV) (n : Nat) : List StepT :=
  (List.range n).flatMap fun (i : Nat) => match ds[i]? with
    | some d => if d.kind = 2 then portL ls i d.routes d.rules 4 else []
    | none => []

theorem inL_succ (i : Nat) (to_ : Pl) (F : Bdd.Fn) (k : Nat) : inL i to_ F (k + 1) = inL i to_ F k ++ [⟨((i : Int), (k : Int)), to_, F⟩] := by
  simp [inL, List.range_succ]
theorem portL_some {ls : List LinkV} {i : Nat} {ts : List RouteV} {rs : List RuleV} {k : Nat} {to_ : Pl} (h : peerF ls ((i : Int), (k : Int)) = some to_) : portL ls i ts rs (k + 1) = portL ls i ts rs k ++ inL i to_ (andF (portF ts (k : Int)) (aclF rs)) 4 := by
  simp [portL, List.range_succ, h]
theorem portL_none {ls : List LinkV} {i : Nat} {ts : List RouteV} {rs : List RuleV} {k : Nat} (h : peerF ls ((i : Int), (k : Int)) = none) : portL ls i ts rs (k + 1) = portL ls i ts rs k := by
  simp [portL, List.range_succ, h]
theorem devL_yes {ds : List Dev} {ls : List LinkV} {n : Nat} {d : Dev} (h : ds[n]? = some d) (hk : d.kind = 2) : devL ds ls (n + 1) = devL ds ls n ++ portL ls n d.routes d.rules 4 := by
  simp [devL, List.range_succ, h, hk]
theorem devL_no {ds : List Dev} {ls : List LinkV} {n : Nat} {d : Dev} (h : ds[n]? = some d) (hk : d.kind ≠ 2) : devL ds ls (n + 1) = devL ds ls n := by
  simp [devL, List.range_succ, h, hk]

theorem inL_len (i : Nat) (to_ : Pl) (F : Bdd.Fn) (k : Nat) : (inL i to_ F k).length = k := by simp [inL]
theorem portL_len (ls : List LinkV) (i : Nat) (ts : List RouteV) (rs : List RuleV) (k : Nat) : (portL ls i ts rs k).length ≤ k * 4 := by
  induction k with
  | zero => simp [portL]
  | succ k ih =>
    cases h : peerF ls ((i : Int), (k : Int)) with
    | none => rw [portL_none h]; omega
    | some to_ => rw [portL_some h, List.length_append, inL_len]; omega
theorem devL_len (ds : List Dev) (ls : List LinkV) (n : Nat) : (devL ds ls n).length ≤ n * 16 := by
  induction n with
  | zero => simp [devL]
  | succ n ih =>
    cases h : ds[n]? with
    | none =>
      have : devL ds ls (n + 1) = devL ds ls n := by simp [devL, List.range_succ, h]
      rw [this]; omega
    | some d =>
      by_cases hk : d.kind = 2
      · rw [devL_yes h hk, List.length_append]
        have := portL_len ls n d.routes d.rules 4
        omega
      · rw [devL_no h hk]; omega

theorem mem_devL {ds : List Dev} {ls : List LinkV} {n : Nat} {t : StepT} (h : t ∈ devL ds ls n) : ∃ (i port k : Nat) (d : Dev) (to_ : Pl), i < n ∧ ds[i]? = some d ∧ d.kind = 2 ∧ port < 4 ∧ k < 4 ∧ peerF ls ((i : Int), (port : Int)) = some to_ ∧ t = ⟨((i : Int), (k : Int)), to_, andF (portF d.routes (port : Int)) (aclF d.rules)⟩ := by
  simp only [devL, List.mem_flatMap, List.mem_range] at h
  obtain ⟨i, hi, h⟩ := h
  split at h
  · rename_i d hd
    split at h
    · rename_i hk
      simp only [portL, List.mem_flatMap, List.mem_range] at h
      obtain ⟨port, hp, h⟩ := h
      split at h
      · rename_i to_ hto
        simp only [inL, List.mem_map, List.mem_range] at h
        obtain ⟨k, hk4, rfl⟩ := h
        exact ⟨i, port, k, d, to_, hi, hd, hk, hp, hk4, hto, rfl⟩
      · simp at h
    · simp at h
  · simp at h
theorem devL_mem {ds : List Dev} {ls : List LinkV} {n i port k : Nat} {d : Dev} {to_ : Pl} (hi : i < n) (hd : ds[i]? = some d) (hk : d.kind = 2) (hp : port < 4) (hk4 : k < 4) (hto : peerF ls ((i : Int), (port : Int)) = some to_) :
    (⟨((i : Int), (k : Int)), to_, andF (portF d.routes (port : Int)) (aclF d.rules)⟩ : StepT) ∈ devL ds ls n := by
  simp only [devL, List.mem_flatMap, List.mem_range]
  refine ⟨i, hi, ?_⟩
  rw [hd]
  simp only [hk, if_true]
  simp only [portL, List.mem_flatMap, List.mem_range]
  refine ⟨port, hp, ?_⟩
  rw [hto]
  simp only [inL, List.mem_map, List.mem_range]
  exact ⟨k, hk4, rfl⟩

theorem andF_at (F G : Bdd.Fn) (x : Asg) : andF F G x = (F x && G x) := by unfold andF iteF; cases F x <;> simp
theorem orF_at (F G : Bdd.Fn) (x : Asg) : orF F G x = (F x || G x) := by unfold orF iteF; cases F x <;> simp

theorem step_fn {ts : List RouteV} {rs : List RuleV} {port : Int} {c : Nat} (hr : ∀ r ∈ rs, r.ok) (hc : c < 16384) : andF (portF ts port) (aclF rs) (asgOf c) = (dstB ts port (c / 64 % 16) && letsB rs (pk c)) := by
  rw [andF_at, portF, dst_has _ _ _ hc, aclF_lets _ hr _ hc]

theorem step_at {ds : List Dev} {ls : List LinkV} (hro : ∀ d ∈ ds, ∀ r ∈ d.rules, r.ok) {n c : Nat} {t : StepT} (h : t ∈ devL ds ls n) (hc : c < 16384) (hf : t.fn (asgOf c) = true) : nextAt ds ls (pk c) t.src = some t.to_ := by
  obtain ⟨i, port, k, d, to_, hi, hd, hk, hp, hk4, hto, rfl⟩ := mem_devL h
  simp only at hf ⊢
  rw [step_fn (hro d (List.mem_of_getElem? hd)) hc, Bool.and_eq_true, dstB, Bool.and_eq_true, decide_eq_true_eq, beq_iff_eq] at hf
  obtain ⟨⟨h1, h2⟩, h3⟩ := hf
  have hdd : ds[((i : Int)).toNat]? = some d := by simpa using hd
  unfold nextAt
  simp only [hdd]
  have e : (pk c).dst = ((c / 64 % 16 : Nat) : Int) := rfl
  have h1' : decide (0 ≤ (outF ((c / 64 % 16 : Nat) : Int) d.routes).2) = true := decide_eq_true h1
  rw [nextF, e, h3, h2, h1', hk, if_pos (by decide), hto]
theorem step_of {ds : List Dev} {ls : List LinkV} (hro : ∀ d ∈ ds, ∀ r ∈ d.rules, r.ok) {c : Nat} {x y : Pl} (hx : placeB ds x = true) (hc : c < 16384) (h : nextAt ds ls (pk c) x = some y) :
    ∃ t ∈ devL ds ls ds.length, t.src = x ∧ t.to_ = y ∧ t.fn (asgOf c) = true := by
  obtain ⟨⟨a1, a2⟩, a3, a4⟩ := placeB_iff.1 hx
  obtain ⟨i, k⟩ := x
  simp only at a1 a2 a3 a4
  unfold nextAt at h
  simp only at h
  split at h
  · rename_i d hd
    unfold nextF at h
    split at h
    · rename_i hh
      simp only [Bool.and_eq_true, beq_iff_eq, decide_eq_true_eq] at hh
      obtain ⟨⟨hk, ho⟩, hl⟩ := hh
      have e : (pk c).dst = ((c / 64 % 16 : Nat) : Int) := rfl
      rw [e] at ho h
      obtain ⟨p0, p3⟩ := outF_port _ _ ho
      have hka : kindAt ds i = 2 := by simp [kindAt, hd, hk]
      rw [hka] at a4
      have hp4 : portsF 2 = 4 := by decide
      obtain ⟨iN, rfl⟩ : ∃ j : Nat, i = (j : Int) := ⟨i.toNat, by omega⟩
      obtain ⟨kN, rfl⟩ : ∃ j : Nat, k = (j : Int) := ⟨k.toNat, by omega⟩
      generalize hq : (outF ((c / 64 % 16 : Nat) : Int) d.routes).1 = q at *
      obtain ⟨pN, rfl⟩ : ∃ j : Nat, q = (j : Int) := ⟨q.toNat, by omega⟩
      have hdd : ds[iN]? = some d := by simpa using hd
      refine ⟨_, devL_mem (by omega) hdd hk (by omega) (by omega) h, rfl, rfl, ?_⟩
      show andF (portF d.routes (pN : Int)) (aclF d.rules) (asgOf c) = true
      rw [step_fn (hro d (List.mem_of_getElem? hdd)) hc, dstB, hl, hq, decide_eq_true ho]
      simp
    · cases h
  · cases h

def shrinkF (L : List StepT) (S : Pl → Bdd.Fn) : Pl → Bdd.Fn := L.foldl (fun acc t x => if t.src = x then orF (acc x) (andF t.fn (S t.to_)) else acc x) (fun _ _ => false)
theorem shrinkF_snoc {L : List StepT} {k : Nat} {t : StepT} (h : L[k]? = some t) (S : Pl → Bdd.Fn) : shrinkF (L.take (k + 1)) S = fun x => if t.src = x then orF (shrinkF (L.take k) S x) (andF t.fn (S t.to_)) else shrinkF (L.take k) S x := by
  obtain ⟨hk, e⟩ := List.getElem?_eq_some_iff.1 h
  rw [List.take_succ_eq_append_getElem hk, e]
  simp only [shrinkF, List.foldl_append, List.foldl_cons, List.foldl_nil]
theorem shrink_gen (S : Pl → Bdd.Fn) (x : Pl) (a : Asg) : ∀ (L : List StepT) (acc : Pl → Bdd.Fn), (L.foldl (fun acc t x => if t.src = x then orF (acc x) (andF t.fn (S t.to_)) else acc x) acc) x a = true ↔ acc x a = true ∨ ∃ t ∈ L, t.src = x ∧ t.fn a = true ∧ S t.to_ a = true := by
  intro L
  induction L with
  | nil => intro acc; simp
  | cons t L ih =>
    intro acc
    rw [List.foldl_cons, ih]
    by_cases ht : t.src = x
    · simp only [ht, if_true, orF_at, andF_at, Bool.or_eq_true, Bool.and_eq_true, List.mem_cons, exists_eq_or_imp, true_and, or_assoc]
    · simp only [ht, if_false, List.mem_cons, exists_eq_or_imp, false_and, false_or]
theorem shrinkF_at (L : List StepT) (S : Pl → Bdd.Fn) (x : Pl) (a : Asg) : shrinkF L S x a = true ↔ ∃ t ∈ L, t.src = x ∧ t.fn a = true ∧ S t.to_ a = true := by
  unfold shrinkF
  rw [shrink_gen]
  simp

theorem portF_below (ts : List RouteV) (port : Int) : Bdd.Below 14 (portF ts port) := fun x y h => by
  have : ∀ s d p q, outs (partL s d p q) x = outs (partL s d p q) y := fun s d p q => ruleL_congr ⟨true, ⟨s, d, p, q⟩⟩ x y h
  exact this _ _ _ _
theorem devL_below {ds : List Dev} {ls : List LinkV} {n : Nat} {t : StepT} (h : t ∈ devL ds ls n) : Bdd.Below 14 t.fn := by
  obtain ⟨i, port, k, d, to_, _, _, _, _, _, _, rfl⟩ := mem_devL h
  intro x y hxy
  simp only [andF_at, portF_below _ _ x y hxy, aclF_congr _ x y hxy]

structure SInv (ds : List Dev) (ls : List LinkV) (S : Pl → Bdd.Fn) : Prop where
  below : ∀ x, Bdd.Below 14 (S x)
  dec : ∀ x a, shrinkF (devL ds ls ds.length) S x a = true → S x a = true
  big : ∀ c, c < 16384 → ∀ R : Pl → Prop, (∀ y, R y → placeB ds y = true ∧ ∃ z, nextAt ds ls (pk c) y = some z ∧ R z) → ∀ y, R y → S y (asgOf c) = true

def startF (L : List StepT) (x : Pl) : Bdd.Fn := fun _ => L.any fun t => t.src.1 == x.1 && t.src.2 == x.2
theorem startF_at (L : List StepT) (x : Pl) (a : Asg) : startF L x a = true ↔ ∃ t ∈ L, t.src = x := by
  simp only [startF, List.any_eq_true, Bool.and_eq_true, beq_iff_eq, Prod.ext_iff]

theorem SInv.start {ds : List Dev} {ls : List LinkV} (hro : ∀ d ∈ ds, ∀ r ∈ d.rules, r.ok) : SInv ds ls (startF (devL ds ls ds.length)) :=
  ⟨fun x a b _ => rfl, fun x a h => by
    obtain ⟨t, ht, e, _⟩ := (shrinkF_at _ _ _ _).1 h
    exact (startF_at _ _ _).2 ⟨t, ht, e⟩, fun c hc R hR y hy => by
    obtain ⟨hp, z, hz, _⟩ := hR y hy
    obtain ⟨t, ht, e, _⟩ := step_of hro hp hc hz
    exact (startF_at _ _ _).2 ⟨t, ht, e⟩⟩

theorem shrink_below {ds : List Dev} {ls : List LinkV} {n : Nat} {S : Pl → Bdd.Fn} (h : ∀ x, Bdd.Below 14 (S x)) (x : Pl) : Bdd.Below 14 (shrinkF (devL ds ls n) S x) := by
  intro a b hab
  rw [Bool.eq_iff_iff, shrinkF_at, shrinkF_at]
  constructor
  · rintro ⟨t, ht, e, h1, h2⟩
    exact ⟨t, ht, e, by rw [← devL_below ht a b hab]; exact h1, by rw [← h _ a b hab]; exact h2⟩
  · rintro ⟨t, ht, e, h1, h2⟩
    exact ⟨t, ht, e, by rw [devL_below ht a b hab]; exact h1, by rw [h _ a b hab]; exact h2⟩

theorem SInv.next {ds : List Dev} {ls : List LinkV} {S : Pl → Bdd.Fn} (hro : ∀ d ∈ ds, ∀ r ∈ d.rules, r.ok) (h : SInv ds ls S) : SInv ds ls (shrinkF (devL ds ls ds.length) S) :=
  ⟨fun x => shrink_below h.below x, fun x a hx => by
    obtain ⟨t, ht, e, h1, h2⟩ := (shrinkF_at _ _ _ _).1 hx
    exact (shrinkF_at _ _ _ _).2 ⟨t, ht, e, h1, h.dec _ _ h2⟩, fun c hc R hR y hy => by
    obtain ⟨hp, z, hz, hRz⟩ := hR y hy
    obtain ⟨t, ht, e, e2, h1⟩ := step_of hro hp hc hz
    exact (shrinkF_at _ _ _ _).2 ⟨t, ht, e, h1, by rw [e2]; exact h.big c hc R hR z hRz⟩⟩

theorem walk_stays {nx : Pl → Option Pl} {T : Pl → Prop} (hT : ∀ x, T x → ∃ y, nx x = some y ∧ T y) {out : List Pl} {x : Pl} {r : List Pl × Bool} (h : WalkTo nx out x r) (hx : T x) : r.2 = true := by
  induction h with
  | stop h =>
    obtain ⟨y, hy, _⟩ := hT _ hx
    rw [h] at hy; cases hy
  | round => rfl
  | step h _ _ ih =>
    obtain ⟨y, hy, hy2⟩ := hT _ hx
    rw [h] at hy; cases hy
    exact ih hy2

theorem walk_round {nx : Pl → Option Pl} {out : List Pl} {x : Pl} {r : List Pl × Bool} (h : WalkTo nx out x r) (hr : r.2 = true) (hx : x ∈ out) (ho : ∀ y ∈ out, y ≠ x → ∃ z, nx y = some z ∧ z ∈ out) :
    (∀ y ∈ out, y ∈ r.1) ∧ ∀ y ∈ r.1, ∃ z, nx y = some z ∧ z ∈ r.1 := by
  induction h with
  | stop h => cases hr
  | @round out x to_ h hm =>
    refine ⟨fun y hy => hy, fun y hy => ?_⟩
    by_cases e : y = x
    · subst e; exact ⟨_, h, hm⟩
    · exact ho y hy e
  | @step out x to_ r h hm _ ih =>
    obtain ⟨i1, i2⟩ := ih hr (by simp) (fun y hy hne => by
      rw [List.mem_append, List.mem_singleton] at hy
      rcases hy with hy | hy
      · by_cases e : y = x
        · subst e; exact ⟨_, h, by simp⟩
        · obtain ⟨z, hz, hz2⟩ := ho y hy e
          exact ⟨z, hz, by simp [hz2]⟩
      · exact absurd hy hne)
    exact ⟨fun y hy => i1 y (by simp [hy]), i2⟩

theorem walk_valid {ds : List Dev} {ls : List LinkV} {p : P4} (hn : NetOk ds ls) {out : List Pl} {x : Pl} {r : List Pl × Bool} (h : WalkTo (nextAt ds ls p) out x r) (ho : ∀ y ∈ out, placeB ds y = true) : ∀ y ∈ r.1, placeB ds y = true := by
  induction h with
  | stop => exact ho
  | round => exact ho
  | step h _ _ ih => exact ih (fun y hy => by
      rw [List.mem_append, List.mem_singleton] at hy
      rcases hy with hy | rfl
      · exact ho y hy
      · exact nextAt_valid hn h)

theorem SInv.last {ds : List Dev} {ls : List LinkV} {S : Pl → Bdd.Fn} (hn : NetOk ds ls) (hro : ∀ d ∈ ds, ∀ r ∈ d.rules, r.ok) (h : SInv ds ls S) (hs : ∀ x, shrinkF (devL ds ls ds.length) S x = S x)
    {c : Nat} (hc : c < 16384) {x : Pl} (hx : placeB ds x = true) {r : List Pl × Bool} (hw : WalkTo (nextAt ds ls (pk c)) [x] x r) : S x (asgOf c) = r.2 := by
  rw [Bool.eq_iff_iff]
  constructor
  · intro hS
    refine walk_stays (T := fun y => S y (asgOf c) = true) (fun y hy => ?_) hw hS
    rw [← hs y] at hy
    obtain ⟨t, ht, rfl, h1, h2⟩ := (shrinkF_at _ _ _ _).1 hy
    exact ⟨_, step_at hro ht hc h1, h2⟩
  · intro hr
    obtain ⟨h1, h2⟩ := walk_round hw hr (by simp) (fun y hy hne => by simp at hy; exact absurd hy hne)
    have h3 := walk_valid hn hw (fun y hy => by simp at hy; subst hy; exact hx)
    exact h.big c hc (fun y => y ∈ r.1) (fun y hy => ⟨h3 y hy, h2 y hy⟩) x (h1 x (by simp))

theorem countP_lt {p q : Nat → Bool} : ∀ {l : List Nat}, (∀ a ∈ l, p a = true → q a = true) → (∃ a ∈ l, q a = true ∧ p a = false) → l.countP p < l.countP q := by
  intro l
  induction l with
  | nil => rintro _ ⟨a, ha, _⟩; simp at ha
  | cons b l ih =>
    intro h hx
    have hle : l.countP p ≤ l.countP q := List.countP_mono_left (fun a ha => h a (by simp [ha]))
    have hb := h b (by simp)
    obtain ⟨a, ha, h1, h2⟩ := hx
    rw [List.countP_cons, List.countP_cons]
    rcases List.mem_cons.1 ha with rfl | ha'
    · rw [h1, h2]; simp; omega
    · have := ih (fun a ha => h a (by simp [ha])) ⟨a, ha', h1, h2⟩
      cases hp : p b
      · cases hq : q b <;> simp <;> omega
      · rw [hb hp]; simp; omega

def cntS (S : Pl → Bdd.Fn) (l : List Pl) : Nat := (l.map fun x => cntF 14 14 (S x)).sum
theorem cnt_le {F G : Bdd.Fn} (h : ∀ a, F a = true → G a = true) : cntF 14 14 F ≤ cntF 14 14 G := List.countP_mono_left (fun r _ => h _)
theorem cnt_lt {F G : Bdd.Fn} (hF : Bdd.Below 14 F) (hG : Bdd.Below 14 G) (h : ∀ a, F a = true → G a = true) (hne : F ≠ G) : cntF 14 14 F < cntF 14 14 G := by
  refine countP_lt (fun r _ => h _) ?_
  rcases Classical.em (∃ a, G a = true ∧ F a = false) with ⟨a, h1, h2⟩ | hno
  · have hcode : ∀ u, u < 14 → a u = asgV 14 (codeN a 14) u := fun u hu => (codeN_bit a 14 u hu).symm
    exact ⟨codeN a 14, List.mem_range.2 (codeN_lt a 14), by rw [← hG a _ hcode]; exact h1, by rw [← hF a _ hcode]; exact h2⟩
  · refine absurd (funext fun a => ?_) hne
    cases hf : F a
    · cases hg : G a
      · rfl
      · exact absurd ⟨a, hg, hf⟩ hno
    · rw [h a hf]
theorem cntS_le {S S' : Pl → Bdd.Fn} (h : ∀ x a, S' x a = true → S x a = true) : ∀ l, cntS S' l ≤ cntS S l := by
  intro l
  induction l with
  | nil => simp [cntS]
  | cons x l ih =>
    have := cnt_le (h x)
    simp only [cntS, List.map_cons, List.sum_cons] at *
    omega
theorem cntS_lt {S S' : Pl → Bdd.Fn} (hb : ∀ x, Bdd.Below 14 (S x)) (hb' : ∀ x, Bdd.Below 14 (S' x)) (h : ∀ x a, S' x a = true → S x a = true) {x : Pl} (hne : S' x ≠ S x) : ∀ l, x ∈ l → cntS S' l < cntS S l := by
  intro l
  induction l with
  | nil => intro hx; simp at hx
  | cons y l ih =>
    intro hx
    have h1 := cnt_le (h y)
    have h2 := cntS_le h l
    rcases List.mem_cons.1 hx with rfl | hx'
    · have := cnt_lt (hb' x) (hb x) (h x) hne
      simp only [cntS, List.map_cons, List.sum_cons] at *
      omega
    · have := ih hx'
      simp only [cntS, List.map_cons, List.sum_cons] at *
      omega
end Go.Proofs.Ytpfjjpihnibnhaa

set_option linter.unusedVariables false
set_option linter.unusedSimpArgs false
namespace Go.Proofs.Ytpfjjpihnibnhaa
open Go.RowKit Go.Maps

theorem devsE_all : ∀ (l pre : List Dev), devsE pre l = 0 → ∀ d ∈ l, devE d = 0
  | [], _, _, d, hd => by cases hd
  | a :: t, pre, h, d, hd => by
    unfold devsE at h
    by_cases h1 : namedB a.name = false
    · rw [if_pos h1] at h; cases h
    rw [if_neg h1] at h
    by_cases h2 : (pre.any (fun x => nameEq x.name a.name)) = true
    · rw [if_pos h2] at h; cases h
    rw [if_neg h2] at h
    by_cases h3 : devE a = 0
    · rw [if_pos h3] at h
      rcases List.mem_cons.1 hd with rfl | hd
      · exact h3
      · exact devsE_all t _ h d hd
    · rw [if_neg h3] at h; exact absurd h h3
structure DevOk (d : Dev) : Prop where
  k1 : 1 ≤ d.kind
  k5 : d.kind ≤ 5
  ar : (!(addrB d.kind && !(decide (0 ≤ d.addr) && decide (d.addr < 16))) && !(!addrB d.kind && (d.addr != 0)) && !((d.pool != 0) != (d.kind == 4))) = true
  bl : d.backs.length ≤ 3
  bb : backsB d = true
  rl : d.rules.length ≤ 8
  tc : checkF d.routes = 0
  tl : d.routes.length ≤ 8
theorem devE_ok {d : Dev} (h : devE d = 0) : DevOk d := by
  unfold devE at h
  by_cases h1 : (decide (d.kind < 1) || decide (5 < d.kind)) = true
  · rw [if_pos h1] at h; cases h
  rw [if_neg h1] at h
  by_cases h2 : ((addrB d.kind && !(decide (0 ≤ d.addr) && decide (d.addr < 16))) || (!addrB d.kind && (d.addr != 0)) || ((d.pool != 0) != (d.kind == 4))) = true
  · rw [if_pos h2] at h; cases h
  rw [if_neg h2] at h
  by_cases h3 : decide (3 < d.backs.length) = true
  · rw [if_pos h3] at h; cases h
  rw [if_neg h3] at h
  by_cases h4 : (!backsB d) = true
  · rw [if_pos h4] at h; cases h
  rw [if_neg h4] at h
  by_cases h5 : ((decide (0 < d.rules.length) && (d.kind != 2) && (d.kind != 3)) || (decide (0 < d.routes.length) && (d.kind != 2))) = true
  · rw [if_pos h5] at h; cases h
  rw [if_neg h5] at h
  by_cases h6 : decide (8 < d.rules.length) = true
  · rw [if_pos h6] at h; cases h
  rw [if_neg h6] at h
  simp only [Bool.or_eq_true, decide_eq_true_eq, not_or] at h1
  have hl : d.routes.length ≤ 8 := by
    unfold checkF at h
    by_cases h7 : 8 < d.routes.length
    · rw [if_pos h7] at h; cases h
    · omega
  refine ⟨by omega, by omega, ?_, by simpa using h3, by simpa using h4, by simpa using h6, h, hl⟩
  revert h2
  cases (addrB d.kind && !(decide (0 ≤ d.addr) && decide (d.addr < 16))) <;> cases (!addrB d.kind && (d.addr != 0)) <;> cases ((d.pool != 0) != (d.kind == 4)) <;> simp
theorem net_devs_ok {ds : List Dev} {ls : List LinkV} (h : netE ds ls = 0) : ∀ d ∈ ds, DevOk d := fun d hd => devE_ok (devsE_all ds [] (netE_ok h).de d hd)
end Go.Proofs.Ytpfjjpihnibnhaa
