/- AclDead: a list without a rule that is dead lets the same through; a rule behind one for all is dead. No condition. -/
import Derived.Test.YtoanimmlpfchjaaDeadLaw
import Derived.Test.YtoanimmlpfchjaaFibLongestLaw
import Derived.Deep.RegionHeld3
set_option linter.unusedVariables false
set_option linter.unusedSimpArgs false
namespace Go.Proofs.Ytoanimmlpfchjaa
open Go.ChangeShapes Go.WideShapes Go.ChangeAt Go.RowKit Go.Maps Bdd

theorem aclF_const : ∀ (l : List RuleV), (∀ r ∈ l, r.m = allM) → ∃ b, aclF l = fun _ => b := by
  intro l h
  match l with
  | [] => exact ⟨false, rfl⟩
  | ⟨b, m⟩ :: l =>
    obtain rfl : m = allM := h ⟨b, m⟩ (by simp)
    exact ⟨b, aclF_all b l⟩
theorem two_all : ∀ r ∈ twoL, r.m = allM := by
  intro r hr
  simp only [twoL, List.mem_cons, List.not_mem_nil, or_false] at hr
  rcases hr with rfl | rfl <;> rfl
theorem newA_acl {l : List RuleV} (h : ∀ r ∈ l, r.m = allM) {G : Bdd.Fn} (hG : Cof (aclF l) G) : NewA G := by
  obtain ⟨b, e⟩ := aclF_const l h
  rw [e] at hG
  exact .inr (cof_const hG)

theorem ints_one (N B : Nat) (hB : N < B) (i : Int) (hi : -9223372036854775808 ≤ i ∧ i ≤ 9223372036854775807) (t : TypeId) {w1 : World} (h : w1.heap[N]? = some (.cells #[.int .i64 i] t (0, 0))) :
    IntsAt w1 B (some ⟨N, 0, none⟩) 1 [i] := by
  refine ⟨rfl, fun x hx => ?_, fun _ => ⟨_, 0, rfl, hB, fun k x hx => ?_⟩⟩
  · simp only [List.mem_cons, List.mem_nil_iff, or_false] at hx
    rw [hx]; exact hi
  · rw [cell_of_row _ _ _ _ _ _ h]
    match k, hx with
    | 0, hx => cases hx; rfl

def twoBox : Array Value := #[.bool true, .int .u16 65535, .int .u16 65535, .int .u8 255, .int .u8 255, .bool false, .int .u16 65535, .int .u16 65535, .int .u8 255, .int .u8 255]
theorem two_rules {w' : World} {N : Nat} {t : TypeId} (h : w'.heap[N]? = some (.cells twoBox t (0, 0))) : RulesAt w' w'.heap.size (some ⟨N, 0, none⟩) 2 twoL := by
  have hc : ∀ o v, twoBox[o]? = some v → w'.cell? ⟨N, o, none⟩ = some v := fun o v hv => by rw [cell_of_row _ _ _ _ _ _ h]; exact hv
  refine ⟨rfl, fun r hr => ?_, fun _ => ⟨N, 0, rfl, (Array.getElem?_eq_some_iff.1 h).1, fun k r hr => ?_⟩⟩
  · have := two_all r hr
    show r.m.ok
    rw [this]; exact allM_ok
  · have hk : k < 2 := (List.getElem?_eq_some_iff.1 hr).1
    rcases (by omega : k = 0 ∨ k = 1) with rfl | rfl
    · cases hr
      exact ⟨hc 0 _ rfl, hc 1 _ rfl, hc 2 _ rfl, hc 3 _ rfl, hc 4 _ rfl⟩
    · cases hr
      exact ⟨hc 5 _ rfl, hc 6 _ rfl, hc 7 _ rfl, hc 8 _ rfl, hc 9 _ rfl⟩

set_option maxRecDepth 100000 in
set_option maxHeartbeats 16000000 in
theorem aclDead_walk (l : List RuleV) (ad : Option Addr) (n c : Nat) (p : P4) (W : World) (hn : n ≤ maxLen) (hp : p.ok) (hl : RulesAt W W.heap.size ad n l) :
    Calls Try.prog 14 #[.slice ad n c, .agg #[.int .i64 p.src, .int .i64 p.dst, .int .i64 p.sport, .int .i64 p.dport]] W fun e W' => e = .returned (.bool true) ∧ RowKit.Below W.heap.size W W' := by
  unfold maxLen at hn
  obtain ⟨x0, x1, x2, x3⟩ := p
  have HB0 := hide (show RowKit.Below W.heap.size W (W.alloc (.cells #[.int .i64 x0, .int .i64 x1, .int .i64 x2, .int .i64 x3] 29)) from (RowKit.Below.refl _ _).alloc (Nat.le_refl _) _)
  have HX0 := hide (PBox.new W x0 x1 x2 x3 29)
  have HSZ := hide (show (W.alloc (.cells #[.int .i64 x0, .int .i64 x1, .int .i64 x2, .int .i64 x3] 29)).heap.size = W.heap.size + 1 by simp)
  have HL := hide hl
  have HP := hide hp
  have HN : ∀ w1, Hid (Calls Try.prog 28 #[.int .i64 14, .int .i64 40000] w1 (NewP w1 14 40000)) := fun w1 => hide (new_walk w1 14 40000 (by omega) (by omega) (by omega) (by omega))
  clear hl hp
  go_enter Try.func14, Try.ntmps14
  go_wp2_with fail
  refine (HN _).out.mono ?_
  rintro e wa ⟨g, nb, kb, ib, rfl, ha, hb⟩
  have HA := hide ha
  have HBa := hide hb
  clear ha hb HN
  rw [HSZ.out] at HA HBa
  generalize W.alloc _ = W0 at *
  go_wp2_with fail
  refine (allRule_walk true _).mono ?_
  rintro e wb ⟨rfl, hb⟩
  have HBb := hide hb
  clear hb
  go_wp2_with fail
  refine (allRule_walk false _).mono ?_
  rintro e wc ⟨rfl, hb⟩
  have HBc := hide (HBb.out.trans (hb.mono HBb.out.size))
  clear hb HBb
  have HA1 := hide ((HA.out.below HBc.out).below ((RowKit.Below.refl _ wc).alloc (Nat.le_refl _) (.cells twoBox 35)))
  have HNF := hide (show ¬ Fp g nb kb ib wc.heap.size from fun hS => by
    obtain ⟨l1, l2, l3, l4, _⟩ := (HA.out.below HBc.out).lts
    rcases hS with e | e | e | e <;> omega)
  have hbx := heap_alloc_new wc (.cells twoBox 35)
  have HBX := hide hbx
  have HD1 := hide (dead_walk HA1.out rfl (Nat.le_refl 14) twoL (some ⟨wc.heap.size, 0, none⟩) 2 2 (by omega) rfl (fun w' hf => two_rules ((hf.block _ (by simp) HNF.out).trans HBX.out)) NewA
    (fun r hr G hG => by
      obtain ⟨b, m⟩ := r
      obtain rfl : m = allM := two_all _ hr
      exact newA_of hG)
    (fun k G hG => newA_acl (fun r hr => two_all r (List.mem_of_mem_drop hr)) hG)
    (fun i k G hG => newA_acl (fun r hr => two_all r (List.mem_of_mem_eraseIdx (List.mem_of_mem_drop hr))) hG))
  have HBd := hide (HBc.out.alloc HBc.out.size (.cells twoBox 35))
  clear hbx
  have e2 : (Obj.cells twoBox 35) = .cells #[.bool true, .int .u16 65535, .int .u16 65535, .int .u8 255, .int .u8 255, .bool false, .int .u16 65535, .int .u16 65535, .int .u8 255, .int .u8 255] 35 := rfl
  rw [e2] at HD1 HA1 HBd
  clear e2 HBX
  go_wp2_with fail
  refine HD1.out.mono ?_
  clear HD1
  generalize wc.alloc _ = wl at *
  rintro e wd ⟨nb2, cap2, A2, K2, T2, hs, hres⟩
  rcases hres with ⟨v, dl, rfl, hown, hdl⟩ | ⟨rfl, hfull⟩
  case inr =>
    have := newA_room hs.ext (fun j h1 h2 => hs.nw j h1 h2)
    have h40 : A2.most = 40000 := hs.ext.most
    omega
  obtain rfl := two_dead hdl
  have HS := hide hs
  have hsA : W.heap.size + 1 ≤ wa.heap.size := by have := HBa.out.size; rw [HSZ.out] at this; exact this
  have HBe := hide (HBa.out.trans ((HBd.out.mono hsA).trans (HS.out.belowB HA1.out)))
  obtain ⟨A', c', hv, _, hints⟩ := ints_of_own (dl := [1]) hown (by intro x hx; simp at hx; omega)
  have hv : v = .slice A' 1 c' := hv
  have HI := hide (show IntsAt wd wd.heap.size A' 1 [(1 : Int)] from hints)
  subst hv
  clear hs hown hdl hints hsA
  have hb1 : RowKit.Below wd.heap.size wd (wd.alloc (.cells #[.int .i64 1] 3)) := (RowKit.Below.refl _ _).alloc (Nat.le_refl _) _
  have HC := hide (equal_yes [(1 : Int)] A' (some ⟨wd.heap.size, 0, none⟩) 1 c' 1 (wd.alloc (.cells #[.int .i64 1] 3)) (by omega) (HI.out.below hb1 hb1.size) (ints_one wd.heap.size _ (by simp) 1 (by omega) 3 (heap_alloc_new wd _)))
  have HB1 := hide hb1
  clear hb1
  go_wp2_with fail
  refine HC.out.mono ?_
  clear HC
  rintro e we ⟨rfl, hb⟩
  have HBde := hide (HB1.out.trans (hb.mono HB1.out.size))
  have HSe := hide (HS.out.below HBde.out)
  have hs0 : W.heap.size + 1 ≤ wd.heap.size := by have := HBe.out.size; rw [HSZ.out] at this; exact this
  have HBf := hide (HBe.out.trans (HBde.out.mono hs0))
  clear hb HB1 HI HS HBe HBde hs0
  have HW : Hid (∀ w', RowKit.Below (W.heap.size + 1) W0 w' → RowKit.Below W.heap.size W w' ∧ PBox w' W.heap.size x0 x1 x2 x3 ∧ RulesAt w' w'.heap.size ad n l ∧ W.heap.size + 1 ≤ w'.heap.size) := hide (fun w' hb => by
    have h1 := HB0.out.trans (hb.mono (by omega))
    have h2 := hb.size
    rw [HSZ.out] at h2
    exact ⟨h1, HX0.out.below hb (by omega), HL.out.below h1 h1.size, h2⟩)
  by_cases hn8 : 8 < n
  · go_wp2_with fail
    refine (dead_large _ ad n c we hn8).mono ?_
    rintro e w' ⟨rfl, rfl⟩
    have HF := hide (HW.out _ HBf.out).1
    go_wp2
    go_ret
    exact ⟨rfl, HF.out⟩
  have HD2 := hide (dead_walk HSe.out.ar HSe.out.nf (by rw [HSe.out.ext.vars]; exact Nat.le_refl 14) l ad n c (by omega) HL.out.1 (fun w' hf => by
      have hb := HSe.out.ar.frmBelow hf
      exact (HW.out _ (HBf.out.trans hb)).2.2.1) (fun _ => True) (fun _ _ _ _ => trivial) (fun _ _ _ => trivial) (fun _ _ _ _ => trivial))
  go_wp2_with fail
  refine HD2.out.mono ?_
  clear HD2
  rintro e wf ⟨nb3, cap3, A3, K3, T3, hs, hres⟩
  have HBg := hide (HBf.out.trans (hs.belowB HSe.out.ar))
  rcases hres with ⟨v, dl, rfl, hown, hdl⟩ | ⟨rfl, hfull⟩
  case inr =>
    have HF := hide (HW.out _ HBg.out).1
    clear hs hfull
    go_wp2
    go_ret
    exact ⟨rfl, HF.out⟩
  have hn8' : n ≤ 8 := by omega
  have hlen : l.length = n := HL.out.1
  rw [hlen] at hdl
  have HMEM := hide (fun i => hdl.mem (by omega) i)
  obtain ⟨A2', c2', rfl, hmc, hints⟩ := ints_of_own hown (fun x hx => by have := ((HMEM.out x).1 hx).1; omega)
  have HI := hide hints
  have hdm : dl.length ≤ 8 := by
    have := hdl (fun i => @decide (aclF (l.eraseIdx i) = aclF l) (Classical.propDecidable _)) (fun i _ => by simp)
    rw [this]
    have := List.length_filter_le (fun i => @decide (aclF (l.eraseIdx i) = aclF l) (Classical.propDecidable _)) (List.range n)
    simp only [List.length_range] at this
    omega
  clear hs hown hdl hints HSe HBf hn8
  generalize hm : dl.length = m at *
  have HM := hide hm
  clear hm
  have HG : Hid (∀ w', RowKit.Below wf.heap.size wf w' → RowKit.Below W.heap.size W w' ∧ PBox w' W.heap.size x0 x1 x2 x3 ∧ RulesAt w' w'.heap.size ad n l ∧ IntsAt w' w'.heap.size A2' m (dl.map fun (k : Nat) => (k : Int)) ∧ W.heap.size + 1 ≤ w'.heap.size) := hide (fun w' hb => by
    have h2 := HBg.out.size
    rw [HSZ.out] at h2
    obtain ⟨a1, a2, a3, a4⟩ := HW.out w' (HBg.out.trans (hb.mono h2))
    exact ⟨a1, a2, a3, HI.out.below hb hb.size, a4⟩)
  clear HI HBg HW HL HX0 HB0 HBa HBc HBd HA HA1 HNF HSZ
  go_wp2
  go_loopw [49] (fun i wr => ∃ k : Nat, k ≤ m ∧ i = .int .i64 k ∧ RowKit.Below wf.heap.size wf wr) (fun i _ => m - (intOf i).toNat)
  case atStart => exact ⟨0, Nat.zero_le _, rfl, RowKit.Below.refl _ _⟩
  case round =>
    obtain ⟨k, hk, rfl, hb⟩ := hrel
    have HB := hide hb
    clear hb
    by_cases hlt : k < m
    · obtain ⟨x, hx⟩ : ∃ x, dl[k]? = some x := ⟨_, List.getElem?_eq_getElem (by have := HM.out; omega)⟩
      obtain ⟨hxn, hxe⟩ := (HMEM.out x).1 (List.mem_of_getElem? hx)
      obtain ⟨_, _, hrl, hints, hs0⟩ := HG.out wr HB.out
      obtain ⟨b, o, rfl, hbB, hg⟩ := hints.2.2 (by omega)
      have q0 := hg k (x : Int) (by rw [List.getElem?_map, hx]; rfl)
      have HOK := hide hrl.2.1
      have HXE := hide hxe
      clear hx hxe hrl hints hg
      cases hR : rightB ⟨x0, x1, x2, x3⟩
      · go_wp2_with fail
        refine wp_region_abs (by kernel_rfl) (by kernel_rfl) ?_
        intro T hT gt hg hgi
        have HGT := hide hg
        have HGI := hide hgi
        have hpb := (HG.out wr HB.out).2.1
        have hlW : W.heap.size < wr.heap.size := by omega
        have k0 : ∀ t, (gt t).cell? ⟨W.heap.size, 0, none⟩ = some (.int .i64 x0) := fun t => (hpb.below (HGT.out t) hlW).1
        have k1 : ∀ t, (gt t).cell? ⟨W.heap.size, 1, none⟩ = some (.int .i64 x1) := fun t => (hpb.below (HGT.out t) hlW).2.1
        have k2 : ∀ t, (gt t).cell? ⟨W.heap.size, 2, none⟩ = some (.int .i64 x2) := fun t => (hpb.below (HGT.out t) hlW).2.2.1
        have k3 : ∀ t, (gt t).cell? ⟨W.heap.size, 3, none⟩ = some (.int .i64 x3) := fun t => (hpb.below (HGT.out t) hlW).2.2.2.1
        have HBx := hide (fun t => HB.out.trans ((HGT.out t).mono HB.out.size))
        have HRI := hide (fun w1 => right_is ⟨x0, x1, x2, x3⟩ w1 false hR)
        clear hg hgi hpb
        repeat (go_big_quiet_step ((go_at_call 20; exact inAbs HGT.out HGI.out (HRI.out _))))
        refine wpQuiet_nil ?_
        intro _ hw'
        obtain ⟨t, rfl⟩ := hw'
        go_wp2
        go_roundw
        case rel => exact ⟨k + 1, by omega, by go_num, HBx.out t⟩
        case measure => simp [intOf]; omega
      · have HRI := hide (fun w1 => right_is ⟨x0, x1, x2, x3⟩ w1 true hR)
        have HEQ := hide (dead_lets HOK.out HXE.out ⟨x0, x1, x2, x3⟩ hR)
        have HQ := hide (fun w1 (hb : RowKit.Below wf.heap.size wf w1) => show w1.cell? ⟨W.heap.size, 0, none⟩ = some (.int .i64 x0) ∧ w1.cell? ⟨W.heap.size, 1, none⟩ = some (.int .i64 x1) ∧ w1.cell? ⟨W.heap.size, 2, none⟩ = some (.int .i64 x2) ∧ w1.cell? ⟨W.heap.size, 3, none⟩ = some (.int .i64 x3) from by
          have := (HG.out w1 hb).2.1
          exact ⟨this.1, this.2.1, this.2.2.1, this.2.2.2.1⟩)
        have HCL := hide (fun w1 (hb : RowKit.Below wf.heap.size wf w1) => cloneRule_walk l ad n c w1 (by omega) (HG.out w1 hb).2.2.1.sl)
        have HLE := hide (fun w1 (hb : RowKit.Below wf.heap.size wf w1) => lets_walk l ad n c ⟨x0, x1, x2, x3⟩ w1 (by omega) HP.out (HG.out w1 hb).2.2.1)
        have hs1 : IntKind.i64.wrap ((x : Int) + 1) = (x : Int) + 1 := by rw [IntKind.wrap_i64]; omega
        obtain ⟨p0, p1, p2, p3⟩ := HQ.out wr HB.out
        go_wp2_with fail
        generalize hLB : letsB l ⟨x0, x1, x2, x3⟩ = LB at *
        clear hLB
        go_region_held3 (fun w' => w'.cell? ⟨W.heap.size, 0, none⟩ = some (.int .i64 x0) ∧ w'.cell? ⟨W.heap.size, 1, none⟩ = some (.int .i64 x1) ∧ w'.cell? ⟨W.heap.size, 2, none⟩ = some (.int .i64 x2) ∧ w'.cell? ⟨W.heap.size, 3, none⟩ = some (.int .i64 x3)) (go_keep)
          (first
            | (go_at_call 20; refine (HRI.out _).mono ?_; rintro e w1 ⟨rfl, hb1⟩; have HB1 := hide (HB.out.drew.trans (hb1.mono HB.out.drew.size)); clear hb1 p0 p1 p2 p3; obtain ⟨p0, p1, p2, p3⟩ := HQ.out _ HB1.out)
            | (go_at_call 19; refine (HCL.out _ HB1.out).mono ?_; rintro e w2 ⟨v1, rfl, hown, hb2⟩; obtain ⟨g1, cap1, rfl, hg1, hg1l, hrow⟩ := RowAt.of_own hown hlen (by omega); have HROW := hide hrow; have HB2 := hide (HB1.out.trans (hb2.mono HB1.out.size)); have hg1f := Nat.le_trans HB1.out.size hg1; clear hown hb2 hrow p0 p1 p2 p3; obtain ⟨p0, p1, p2, p3⟩ := HQ.out _ HB2.out)
            | (go_at_call 69; refine (delRule_walk w2 g1 n cap1 x l HROW.out hxn).mono ?_; rintro e w3 ⟨rfl, hfr, hrules⟩; have HB3 := hide (HB2.out.trans (hfr.below (B := wf.heap.size) HB2.out.size (fun i hi => by omega))); have HR3 := hide (show RulesAt w3 w3.heap.size (some ⟨g1, 0, none⟩) (n - 1) (l.eraseIdx x) from ⟨by rw [List.length_eraseIdx, hlen, if_pos hxn], fun r hr => HOK.out r (List.mem_of_mem_eraseIdx hr), fun _ => ⟨g1, 0, rfl, Nat.lt_of_lt_of_le hg1l hfr.size, fun j r hr => by rw [Nat.zero_add]; exact hrules j r hr⟩⟩); clear hfr hrules p0 p1 p2 p3; obtain ⟨p0, p1, p2, p3⟩ := HQ.out _ HB3.out)
            | (go_at_call_of 17 (Value.slice ad n c); refine (HLE.out _ HB4.out).mono ?_; rintro e w5 ⟨rfl, hb5⟩; have HB5 := hide (HB4.out.trans (hb5.mono HB4.out.size)); clear hb5 p0 p1 p2 p3; obtain ⟨p0, p1, p2, p3⟩ := HQ.out _ HB5.out)
            | (go_at_call 17; refine (lets_walk (l.eraseIdx x) (some ⟨g1, 0, none⟩) (n - 1) cap1 ⟨x0, x1, x2, x3⟩ w3 (by omega) HP.out HR3.out).mono ?_; rintro e w4 ⟨rfl, hb4⟩; rw [HEQ.out]; have HB4 := hide (HB3.out.trans (hb4.mono HB3.out.size)); clear hb4 p0 p1 p2 p3; obtain ⟨p0, p1, p2, p3⟩ := HQ.out _ HB4.out))
        all_goals
          go_wp2
          go_roundw
          case rel => exact ⟨k + 1, by omega, by go_num, HB5.out⟩
          case measure => simp [intOf]; omega
    · have HIF := hide (fun w1 (hb : RowKit.Below wf.heap.size wf w1) (hcall : ∀ (args : Array Value) (w : World), (callFunc 71 args).run Try.prog w = .ok (.enter 71 args) w) => indexFuncRule_any l ad n c 71 #[] isAll w1 (by omega) (HG.out w1 hb).2.2.1 hcall (fun r w2 hr hw2 => deadClos_walk r w2 ((HG.out w1 hb).2.2.1.2.1 r hr)))
      go_wp2_with fail
      refine (HIF.out _ HB.out (fun args w => by go_simp)).mono ?_
      rintro e w6 ⟨rfl, hb6⟩
      have HB6 := hide (HB.out.trans (hb6.mono HB.out.size))
      clear hb6 HIF
      rcases idxF_cases isAll l with ⟨i0, r, hi0, hil, hir, hia, _⟩ | ⟨hi0, _⟩
      case inr =>
        rw [hi0]
        have HF := hide (HG.out w6 HB6.out).1
        go_wp2
        refine wp_loop_rounds 1 ?_
        rw [rounds_succ]
        go_wp2
        go_ret
        exact ⟨rfl, HF.out⟩
      rw [hi0]
      have HBA := hide (fun q (hq : i0 < q) => behind_all l i0 q r hir (isAll_eq hia) hq)
      clear hi0 hir hia
      have hi0n : i0 < n := by omega
      go_wp2
      go_loopw [13] (fun i wi => ∃ q : Nat, i0 < q ∧ q ≤ n ∧ i = .int .i64 q ∧ RowKit.Below wf.heap.size wf wi) (fun i _ => n - (intOf i).toNat)
      case atStart => exact ⟨i0 + 1, by omega, by omega, by go_num, HB6.out⟩
      case round =>
        clear HB HB6
        obtain ⟨q, hq1, hq2, rfl, hb⟩ := hrel
        have HB := hide hb
        clear hb
        by_cases hqn : q < n
        · have HCY := hide (contains_yes (dl.map fun (k : Nat) => (k : Int)) A2' m c2' (q : Int) wr (by omega) (HG.out wr HB.out).2.2.2.1 (List.mem_map.2 ⟨q, (HMEM.out q).2 ⟨hqn, HBA.out q hq1⟩, rfl⟩))
          go_wp2_with fail
          refine HCY.out.mono ?_
          rintro e w7 ⟨rfl, hb7⟩
          have HB7 := hide (HB.out.trans (hb7.mono HB.out.size))
          clear hb7 HCY
          go_wp2
          go_roundw
          case rel => exact ⟨q + 1, by omega, by omega, by go_num, HB7.out⟩
          case measure => simp [intOf]; omega
        · have HF := hide (HG.out wr HB.out).1
          go_wp2
          go_ret
          exact ⟨rfl, HF.out⟩

set_option maxRecDepth 100000 in
theorem aclDead_lifted (os : Os) (started : os.Started) (H : Type) (enc : TypeId × Value → H) :
    ReturnsInHanded {} Try.checked os 14 .any (Rows.aclDeadSpec.pre6 enc Try.prog Try.f14 Rows.aclDeadRow.domain false) (Rows.aclDeadSpec.post enc Try.prog Try.f14 false true false false) :=
  law_lifted (C := Try.checked) (tb := 4) Try.own started (by kernel_rfl) Try.func14 Try.laidOut (by kernel_rfl) rfl (by kernel_rfl) Try.underlying4
    (fun ds h => by
      match ds, h with
      | [_, _], _ => exact ⟨rfl, rfl, rfl⟩)
    (ChangeSpec.witness6 (enc := enc) (C := Try.checked) false ⟨#[], #[.slice none 0 0, .agg #[.int .i64 0, .int .i64 0, .int .i64 0, .int .i64 0]], []⟩ 8 (by kernel_rfl) (by kernel_rfl) (by kernel_rfl) (by kernel_rfl))
    (fun W base args ds p hval0 hA0 hlt hsz => by
      have hval : ∀ (j : Nat) t v, Try.f14.params[j]? = some t → args[j]? = some v → Value.okWide Try.prog W .any base t v := hval0
      have hA : DataW.TrodAll enc Try.prog W 0 (fun _ => true) true Try.f14.params.toList args.toList ds p := hA0
      rw [Try.params14] at hA hval
      obtain ⟨v0, vs0, d0, ds0, p0, q0, hargs, rfl, rfl, h0, r0⟩ := args_cons hA
      obtain ⟨v1, vs1, d1, ds1, p1, q1, rfl, rfl, rfl, h1, r1⟩ := args_cons r0
      obtain ⟨rfl, rfl, rfl⟩ := args_nil r1
      obtain rfl : args = #[v0, v1] := arr_eq hargs
      obtain ⟨A, n, c, l, rfl, hnc, hcm, hl, _⟩ := open_rules (hval 0 _ v0 rfl rfl) h0
      obtain ⟨x, y, z, u, rfl, hx, hy, hz, hu⟩ := open_packet (hval 1 _ v1 rfl rfl) h1
      exact aclDead_walk l A n c ⟨x, y, z, u⟩ W (Nat.le_trans hnc hcm) ⟨hx, hy, hz, hu⟩ hl)

theorem aclDead_holds : Rows.AclDeadSaid :=
  OpenClaim.holds_of_wide 14 Try.f14 rfl rfl rfl rfl rfl rfl rfl ⟨rfl, rfl, rfl, rfl, rfl⟩ rfl rfl rfl rfl rfl (by kernel_rfl) Try.func14 (by kernel_rfl)
    (of_decide_eq_true (by kernel_rfl)) (by unfold Func.isWrapper; first | (rw [if_pos (by decide +kernel)]; kernel_rfl) | (rw [if_neg (by decide +kernel)]; exact ⟨rfl, rfl⟩))
    (fun os started H enc _ => aclDead_lifted os started H enc)
end Go.Proofs.Ytoanimmlpfchjaa
