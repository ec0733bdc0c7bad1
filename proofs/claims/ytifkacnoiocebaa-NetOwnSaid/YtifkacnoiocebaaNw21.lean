/- A part of the proof: WorldG, No5, No6. -/
import Derived.Test.YtifkacnoiocebaaNw20
set_option linter.unusedVariables false
set_option linter.unusedSimpArgs false
set_option maxRecDepth 100000
set_option maxHeartbeats 8000000
namespace Go.Proofs.Ytifkacnoiocebaa
open Go.Maps Go.RowKit
structure L1 (W : World) (L : List (Nat × Array Value)) (F1 : Nat → Prop) (gw : Nat) (ds : List Dev) (ls : List LinkV) (Z : WldS) (k : Nat) (w : World) : Prop where
  box : BX W L w
  a : WorldS W w F1 gw ds ls Z k
  dl : ∀ x ∈ L, ¬ F1 x.1
section
variable {W w w' : World} {L : List (Nat × Array Value)} {F1 F' : Nat → Prop} {gw : Nat} {ds : List Dev} {ls : List LinkV} {Z Z' : WldS} {k k' : Nat}
theorem L1.below (h : L1 W L F1 gw ds ls Z k w) (hb : Below w.heap.size w w') : L1 W L F1 gw ds ls Z k w' := ⟨h.box.below hb, h.a.below hb, h.dl⟩
theorem L1.d (h : L1 W L F1 gw ds ls Z k w) : L1 W L F1 gw ds ls Z k w.drew := h.below (Below.refl _ _).drew
theorem L1.al (h : L1 W L F1 gw ds ls Z k w) (vs : Array Value) (t : TypeId) : L1 W ((w.heap.size, vs) :: L) F1 gw ds ls Z k (w.alloc (.cells vs t)) := by
  have q := h.below (below_alloc w (.cells vs t))
  refine ⟨(h.box.al vs t).done, q.a, fun x hx => ?_⟩
  rcases List.mem_cons.1 hx with rfl | hx
  · exact fun e => Nat.lt_irrefl _ (h.a.fo _ e).2
  · exact h.dl x hx
theorem L1.step (h : L1 W L F1 gw ds ls Z k w) (hw : WorldS W w' F' gw ds ls Z' k') (hn : Near F1 w.heap.size w w') (hF : ∀ j, F' j → F1 j ∨ w.heap.size ≤ j) : L1 W L F' gw ds ls Z' k' w' :=
  ⟨h.box.beside hn (fun x hx => h.dl x hx) (fun j e => (h.a.fo j e).1), hw, fun x hx => fun e => by
      rcases hF _ e with q | q
      · exact h.dl x hx q
      · have := (h.box.bx x hx).2; omega⟩
theorem L1.go (h : L1 W L F1 gw ds ls Z k w) (hE : netE ds ls = 0) (hG : GoodW ds Z) (x : ActV) (ho : x.ok) (hk : k < 100000) {R : Int × WldS} (hR : doS ds ls Z x = R) :
    Calls Try.prog 10 #[.pointer (some ⟨gw, 0, none⟩), .agg #[.int .i64 x.kind, .int .i64 x.dev, .int .i64 x.port, .int .i64 x.p.src, .int .i64 x.p.dst, .int .i64 x.p.sport, .int .i64 x.p.dport, .int .i64 x.ch]] w fun e w' => e = .returned (.int .i64 R.1) ∧ ∃ F', L1 W L F' gw ds ls R.2 (k + 1) w' ∧ Near F1 w.heap.size w w' ∧ ∀ j, F' j → F1 j ∨ w.heap.size ≤ j := by
  subst hR
  refine (worldDo_S h.a h.box.bl hE hG x ho hk).mono ?_
  rintro e w' ⟨he, F', hw, hn, hF⟩
  exact ⟨he, F', h.step hw hn hF, hn, hF⟩
end
def runP : P4 := ⟨1, 2, 0, 0⟩
def run1 : ActV := ⟨1, 0, 0, ⟨1, 2, 0, 0⟩, 0⟩
def run2 : ActV := ⟨2, 1, 0, ⟨1, 2, 0, 0⟩, 0⟩
def runA : ArrV := ⟨1, 0, ⟨1, 2, 0, 0⟩⟩
def runB : ArrV := ⟨2, 0, ⟨1, 2, 0, 0⟩⟩
theorem run1_ok : run1.ok := ⟨by simp [run1, i64ok], by simp [run1, i64ok], by simp [run1, i64ok], ⟨by simp [run1, i64ok], by simp [run1, i64ok], by simp [run1, i64ok], by simp [run1, i64ok]⟩, by simp [run1, i64ok]⟩
theorem run2_ok : run2.ok := ⟨by simp [run2, i64ok], by simp [run2, i64ok], by simp [run2, i64ok], ⟨by simp [run2, i64ok], by simp [run2, i64ok], by simp [run2, i64ok], by simp [run2, i64ok]⟩, by simp [run2, i64ok]⟩
theorem runB_ok : runB.ok := ⟨by simp [runB, i64ok], by simp [runB, i64ok], ⟨by simp [runB, i64ok], by simp [runB, i64ok], by simp [runB, i64ok], by simp [runB, i64ok]⟩⟩
theorem peer00 : peerF chainL (0, 0) = some (1, 0) := by decide
theorem run1_s : doS (chainD (fireD [allR true])) chainL ⟨MemS.empty, []⟩ run1 = (0, ⟨MemS.empty, [runA]⟩) := by
  have e : injS (chainD (fireD [allR true])) chainL [] 0 ⟨1, 2, 0, 0⟩ = (0, [runA]) := by
    rw [injS_some (r := ⟨⟨#[105, 110]⟩, 1, 1, 0, [], [], []⟩) (by rfl) (by rfl), injR_some rfl (by rfl) rfl peer00]
    rfl
  show ((injS (chainD (fireD [allR true])) chainL [] 0 ⟨1, 2, 0, 0⟩).1, (⟨MemS.empty, (injS (chainD (fireD [allR true])) chainL [] 0 ⟨1, 2, 0, 0⟩).2⟩ : WldS)) = _
  rw [e]
theorem run_lets : letsB [allR true] runP = true := by decide
theorem run2_s : ∃ M, doS (chainD (fireD [allR true])) chainL ⟨MemS.empty, [runA]⟩ run2 = (0, ⟨M, [runA, runB]⟩) := by
  have h : handS (chainD (fireD [allR true])) chainL MemS.empty 1 0 ⟨1, 2, 0, 0⟩ 0 = ⟨0, (2, 0), ⟨1, 2, 0, 0⟩, .flow (1, ⟨1, 2, 0, 0⟩)⟩ := by
    rw [fire_out_s _ _ _ _ (by rfl)]
    exact if_pos run_lets
  refine ⟨MemS.empty.learn (.flow (1, ⟨1, 2, 0, 0⟩)), ?_⟩
  have hm : (⟨run2.dev, run2.port, run2.p⟩ : ArrV) ∈ [runA] := by rw [List.mem_singleton]; rfl
  rw [doS, if_neg (show ¬ run2.kind = 1 by decide), if_pos (show run2.kind = 2 from rfl), if_pos hm]
  show ((handS (chainD (fireD [allR true])) chainL MemS.empty 1 0 ⟨1, 2, 0, 0⟩ 0).e, (⟨MemS.empty.learn (handS (chainD (fireD [allR true])) chainL MemS.empty 1 0 ⟨1, 2, 0, 0⟩ 0).kn, (handS (chainD (fireD [allR true])) chainL MemS.empty 1 0 ⟨1, 2, 0, 0⟩ 0).come [runA]⟩ : WldS)) = _
  rw [h]
  have hc : comeS [runA] runB = [runA, runB] := if_neg (by rw [List.mem_singleton]; intro e; have := congrArg ArrV.d e; simp [runA, runB] at this)
  show (0, (⟨_, comeS [runA] runB⟩ : WldS)) = _
  rw [hc]
theorem running_walk (W : World) : Calls Try.prog 4 #[] W fun e W' => e = .returned (.bool true) ∧ Below W.heap.size W W' := by
  go_enter Try.func4, Try.ntmps4
  go_wp2_with fail
  refine (allRule_walk true W).mono ?_
  rintro e w2 ⟨rfl, hb⟩
  have HB2 := hide hb
  clear hb
  have hx3 := BoxV.new w2 #[.bool true, .int .u16 65535, .int .u16 65535, .int .u8 255, .int .u8 255] 55
  have hb3 := below_alloc w2 (.cells #[.bool true, .int .u16 65535, .int .u16 65535, .int .u8 255, .int .u8 255] 55)
  have hl3 : w2.heap.size < (w2.alloc (.cells #[.bool true, .int .u16 65535, .int .u16 65535, .int .u8 255, .int .u8 255] 55)).heap.size := by simp
  have HB3 := hide (HB2.out.trans (hb3.mono HB2.out.size))
  have HCW := hide (chain_walk (fireW (some ⟨w2.heap.size, 0, none⟩) 1 1 [allR true]) _ (fireW_at (oneRule_at hx3 hl3) ⟨Nat.le_refl _, show 1 ≤ maxLen by unfold maxLen; omega⟩))
  clear hx3 hb3 hl3 HB2
  go_wp2_with fail
  refine HCW.out.mono ?_
  clear HCW
  rintro e w4 ⟨m, rfl, hm, hmd, hml, hb⟩
  have HB4 := hide (HB3.out.trans (hb.mono HB3.out.size))
  have hE := fire_net [allR true] (by simp)
  have HNW := hide (worldNew_S m w4 w4 (Nat.le_refl _) hm (net_on_below hm) (by rw [hmd, hml]; exact hE))
  rw [hmd, hml] at HNW
  have HE := hide hE
  clear hm hb HB3 hmd hml hE
  go_wp2_with fail
  refine HNW.out.mono ?_
  clear HNW
  rintro e w5 ⟨gw, F, rfl, hw, hb, hF⟩
  have HW5 := hide (show L1 w4 [] F gw (chainD (fireD [allR true])) chainL ⟨MemS.empty, []⟩ 0 w5 from ⟨⟨hb, fun x hx => by cases hx⟩, hw, fun x hx => by cases hx⟩)
  clear hw hb hF
  go_wp2_with fail
  have HG := hide (HW5.out.al #[.int .i64 1, .int .i64 2, .int .i64 0, .int .i64 0] 38)
  obtain ⟨N, hN⟩ : ∃ N, w5.heap.size = N := ⟨_, rfl⟩
  rw [hN] at HG
  rw [hN]
  clear hN HW5
  generalize World.alloc w5 _ = w6 at *
  obtain ⟨M, hM⟩ := run2_s
  have hg1 : GoodW (chainD (fireD [allR true])) ⟨MemS.empty, [runA]⟩ := by
    have q := (do_good HE.out (good_at HE.out [] 0) run1).1
    rw [show stS (chainD (fireD [allR true])) chainL [] 0 = ⟨MemS.empty, []⟩ from rfl, run1_s] at q
    exact q
  have HD1 := hide (fun (w' : World) (F : Nat → Prop) (h : L1 w4 [(N, #[.int .i64 1, .int .i64 2, .int .i64 0, .int .i64 0])] F gw (chainD (fireD [allR true])) chainL ⟨MemS.empty, []⟩ 0 w') => h.go HE.out (good_at HE.out [] 0) run1 run1_ok (by omega) run1_s)
  have HD2 := hide (fun (w' : World) (F : Nat → Prop) (h : L1 w4 [(N, #[.int .i64 1, .int .i64 2, .int .i64 0, .int .i64 0])] F gw (chainD (fireD [allR true])) chainL ⟨MemS.empty, [runA]⟩ 1 w') => h.go HE.out hg1 run2 run2_ok (by omega) hM)
  have HHS := hide (fun (w' : World) (F : Nat → Prop) (h : L1 w4 [(N, #[.int .i64 1, .int .i64 2, .int .i64 0, .int .i64 0])] F gw (chainD (fireD [allR true])) chainL ⟨M, [runA, runB]⟩ 2 w') => worldHas_S h.a runB runB_ok)
  have hin : decide (runB ∈ [runA, runB]) = true := by simp
  simp only [hin] at HHS
  simp only [run1, run2, runB] at HD1 HD2 HHS
  clear hg1 hM hin
  obtain ⟨b0, b1, b2, b3⟩ := cells4 (HG.out.box.get 0 rfl)
  go_region_held3 (fun w' => w'.cell? ⟨N, 0, none⟩ = some (.int .i64 1) ∧ w'.cell? ⟨N, 1, none⟩ = some (.int .i64 2) ∧ w'.cell? ⟨N, 2, none⟩ = some (.int .i64 0) ∧ w'.cell? ⟨N, 3, none⟩ = some (.int .i64 0)) (go_keep) (first | (go_at_call_of 10 (Value.agg #[.int .i64 1, .int .i64 0, .int .i64 0, .int .i64 1, .int .i64 2, .int .i64 0, .int .i64 0, .int .i64 0]); refine (HD1.out _ _ (by first | exact HG.out.d | exact HG.out)).mono ?_; rintro e wp ⟨rfl, F', hg, hn, hF⟩; have HG := hide hg; obtain ⟨b0, b1, b2, b3⟩ := cells4 (HG.out.box.get 0 rfl)) | (go_at_call_of 10 (Value.agg #[.int .i64 2, .int .i64 1, .int .i64 0, .int .i64 1, .int .i64 2, .int .i64 0, .int .i64 0, .int .i64 0]); refine (HD2.out _ _ (by first | exact HG.out.d | exact HG.out)).mono ?_; rintro e wp ⟨rfl, F', hg, hn, hF⟩; have HG := hide hg; obtain ⟨b0, b1, b2, b3⟩ := cells4 (HG.out.box.get 0 rfl)) | (go_at_call 16; refine (placeOf_walk 2 0 _).mono ?_; rintro e wp ⟨rfl, hb⟩; (first | have HG := hide (HG.out.d.below hb) | have HG := hide (HG.out.below hb)); obtain ⟨b0, b1, b2, b3⟩ := cells4 (HG.out.box.get 0 rfl)) | (go_at_call 15; refine (HHS.out _ _ (by first | exact HG.out.d | exact HG.out)).mono ?_; rintro e wp ⟨rfl, hb⟩; (first | have HG := hide (HG.out.d.below hb) | have HG := hide (HG.out.below hb)); obtain ⟨b0, b1, b2, b3⟩ := cells4 (HG.out.box.get 0 rfl)))
  have HZ := hide (HB4.out.trans (HG.out.box.bl.mono HB4.out.size))
  clear b0 b1 b2 b3 HG HD1 HD2 HHS
  go_wp2
  go_ret
  exact ⟨rfl, HZ.out⟩
open Classical in
noncomputable def reD (w : World) (d : DevV) : DevV := if h : OwnDev w 0 d then { d with bs := Classical.choose h.b, rs := Classical.choose h.r, ts := Classical.choose h.t } else d
theorem reD_cells (w : World) (d : DevV) : (reD w d).cells = d.cells := by
  unfold reD
  split <;> rfl
theorem reD_kind (w : World) (d : DevV) : (reD w d).dev.kind = d.dev.kind ∧ (reD w d).dev.addr = d.dev.addr := by
  unfold reD
  split <;> exact ⟨rfl, rfl⟩
theorem reD_on {w : World} {d : DevV} {p : Nat → Prop} (h : DevOn0 p d) : DevOn0 p (reD w d) := by
  unfold reD
  split
  · exact ⟨h.b, h.r, h.t⟩
  · exact h
theorem reD_at {w0 w : World} {B : Nat} {d : DevV} (h : DevAt w0 B d) (ho : OwnDev w 0 d) : DevAt w w.heap.size (reD w d) := by
  have hb := Classical.choose_spec ho.b
  have hr := Classical.choose_spec ho.r
  have ht := Classical.choose_spec ho.t
  have e : reD w d = { d with bs := Classical.choose ho.b, rs := Classical.choose ho.r, ts := Classical.choose ho.t } := by unfold reD; rw [dif_pos ho]
  rw [e]
  exact ⟨h.nm, h.kd, h.ad, h.pl, sl_ints (own_sl i64Cells_len hb.2.2 hb.1) hb.2.1, (own_sl RuleV.len hr.2.2 hr.1).rules hr.2.1, own_sl RouteV.len ht.2.2 ht.1, ht.2.1, h.cb, h.cr, h.ct⟩
noncomputable def reN (w : World) (n : NetV) : NetV := { n with ds := n.ds.map (reD w) }
theorem reN_at {w0 w : World} {B : Nat} {n : NetV} (h : NetAt w0 B n) (hd : SlAt DevV.cells 7 w w.heap.size n.dA n.dn n.ds) (hl : SlAt LinkV.cells 4 w w.heap.size n.lA n.ln n.ls) (ho : ∀ d ∈ n.ds, OwnDev w 0 d) : NetAt w w.heap.size (reN w n) := by
  refine ⟨⟨by show (n.ds.map (reD w)).length = n.dn; rw [List.length_map]; exact hd.1, fun h0 => ?_⟩, fun d hdd => ?_, hl, h.lok, h.cd, h.cl⟩
  · obtain ⟨b, o, e, hb, hg⟩ := hd.2 h0
    refine ⟨b, o, e, hb, fun k r hr j v hv => ?_⟩
    have hr2 : (n.ds.map (reD w))[k]? = some r := hr
    rw [List.getElem?_map] at hr2
    obtain ⟨d, hd', rfl⟩ := Option.map_eq_some_iff.1 hr2
    rw [reD_cells] at hv
    exact hg k d hd' j v hv
  · obtain ⟨d', hd', rfl⟩ := List.mem_map.1 hdd
    exact reD_at (h.dok d' hd') (ho d' hd')
theorem injR_same {ls : List LinkV} {S : List ArrV} {i : Int} {p : P4} {r r' : Dev} (h1 : r.kind = r'.kind) (h2 : r.addr = r'.addr) : injR ls S i p r = injR ls S i p r' := by
  unfold injR
  rw [h1, h2]
theorem reN_inj (w : World) (n : NetV) (ls : List LinkV) (S : List ArrV) (i : Int) (p : P4) : injS (reN w n).devs ls S i p = injS n.devs ls S i p := by
  have hl : (reN w n).devs.length = n.devs.length := by simp [reN, NetV.devs]
  have hg : (reN w n).devs[i.toNat]? = (n.ds[i.toNat]?).map fun d => (reD w d).dev := by
    show ((n.ds.map (reD w)).map DevV.dev)[i.toNat]? = _
    rw [List.getElem?_map, List.getElem?_map, Option.map_map]
    rfl
  have hg2 : n.devs[i.toNat]? = (n.ds[i.toNat]?).map DevV.dev := by simp [NetV.devs]
  unfold injS
  rw [hl, hg, hg2]
  cases n.ds[i.toNat]? with
  | none => rfl
  | some d =>
    simp only [Option.map_some]
    rw [injR_same (reD_kind w d).1 (reD_kind w d).2]
theorem InjOk.re {n : NetV} {ls : List LinkV} (h : InjOk n.devs ls) (w : World) : InjOk (reN w n).devs ls :=
  ⟨by have := h.dl; simp only [reN, NetV.devs, List.length_map] at this ⊢; exact this, h.ll, h.pl⟩
section
variable {W w w' : World} {F q : Nat → Prop} {g : Nat} {no : NetV} {gm : Nat} {nm : NetV} {f o b km : Nat} {A : Option Addr} {c : Nat} {Z : WldS} {k : Nat}
theorem WorldAt.spoilt (h : WorldAt W w F g no gm nm f o b km A c Z k) (hn : Near q w.heap.size w w') (hq : ∀ j, q j → j < W.heap.size) (hnm : NetOn W.heap.size nm) (hdA : ∀ a, no.dA = some a → W.heap.size ≤ a.block) (hlA : ∀ a, no.lA = some a → W.heap.size ≤ a.block)
    (hod : ∀ d ∈ no.ds, OwnDev w' 0 d) : WorldAt W w' F g (reN w' no) gm nm f o b km A c Z k := by
  have nq : ∀ j, F j → ¬ q j := fun j hj e => by have := hq j e; have := (h.fo j hj).1; omega
  have nq2 : ∀ j, W.heap.size ≤ j → ¬ q j := fun j hj e => by have := hq j e; omega
  have hc : ∀ j, w'.cell? ⟨g, j, none⟩ = w.cell? ⟨g, j, none⟩ := fun j => hn.cell (a := ⟨g, j, none⟩) (h.fo g h.fg).2 (nq g h.fg)
  refine ⟨(hc 0).trans h.c0, (hc 1).trans h.c1, (hc 2).trans h.c2, (hc 3).trans h.c3, (hc 4).trans h.c4, (hn.frozen (a := ⟨g, 3, none⟩) (h.fo g h.fg).2 (nq g h.fg)).trans h.fz,
    own_same h.own (fun j hj => hn.block j (h.own.lt j hj).2 (nq j (h.fa j (by rw [row_blk] at hj; exact hj)))), reN_at h.net (h.net.ds.stay0 (StayOn.of_near hn) (fun _ a e => nq2 _ (hdA a e)) hn.size) (h.net.ls.stay0 (StayOn.of_near hn) (fun _ a e => nq2 _ (hlA a e)) hn.size) hod,
    h.mem.apart hn (nq gm h.fm) (fun j hj => nq j (h.f3 j hj)) (hnm.on0.weak (fun j hj => nq2 j hj)), h.kn.same (hn.block km (h.fo km h.fk).2 (nq km h.fk)), h.fo.near hn,
    h.fg, h.fm, h.fk, h.f3, h.fa, h.gk, h.mt, h.g3, h.ga, ⟨h.on.d, h.on.l, fun x hx => ?_⟩, h.om, h.lk⟩
  obtain ⟨d, hd, rfl⟩ := List.mem_map.1 hx
  exact reD_on (h.on.o d hd)
theorem WorldAt.rebase {W' : World} (h : WorldAt W w F g no gm nm f o b km A c Z k) (hs : W'.heap.size = W.heap.size) : WorldAt W' w F g no gm nm f o b km A c Z k :=
  { h with fo := fun j hj => by rw [hs]; exact h.fo j hj, on := by rw [hs]; exact h.on, om := by rw [hs]; exact h.om }
end
def cutW (w : World) (N : Nat) : World := { w with heap := w.heap.extract 0 N }
theorem cutW_size {w : World} {N : Nat} (h : N ≤ w.heap.size) : (cutW w N).heap.size = N := by simp [cutW]; omega
theorem cutW_below {w : World} {N : Nat} (h : N ≤ w.heap.size) : Below (cutW w N).heap.size (cutW w N) w :=
  ⟨rfl, rfl, rfl, by rw [cutW_size h]; exact h, fun q hq => by
    rw [cutW_size h] at hq
    simp [cutW, Array.getElem?_extract, hq]
    intro h2
    omega⟩
def WorldQ (W w : World) (F : Nat → Prop) (g : Nat) (ds : List Dev) (ls : List LinkV) (Z : WldS) (k : Nat) : Prop :=
  ∃ no gm nm f o b km A c, WorldAt W w F g no gm nm f o b km A c Z k ∧ InjOk no.devs ls ∧ (∀ S i p, injS no.devs ls S i p = injS ds ls S i p) ∧ no.ls = ls ∧ nm.devs = ds ∧ nm.ls = ls
section
variable {W w w' : World} {F F' q : Nat → Prop} {g : Nat} {ds : List Dev} {ls : List LinkV} {Z : WldS} {k k' : Nat}
theorem WorldQ.stay (h : WorldQ W w F g ds ls Z k) (hn : Near q w.heap.size w w') (hq : ∀ j, q j → W.heap.size ≤ j ∧ ¬ F j) : WorldQ W w' F g ds ls Z k := by
  obtain ⟨no, gm, nm, f, o, b, km, A, c, h1, h2⟩ := h
  exact ⟨no, gm, nm, f, o, b, km, A, c, h1.stay hn hq, h2⟩
theorem WorldQ.below (h : WorldQ W w F g ds ls Z k) (hb : Below w.heap.size w w') : WorldQ W w' F g ds ls Z k :=
  h.stay (q := fun _ => False) (Near.of_below hb) (fun _ e => e.elim)
theorem WorldQ.fo (h : WorldQ W w F g ds ls Z k) : OwnB W w F := by
  obtain ⟨no, gm, nm, f, o, b, km, A, c, h1, h2⟩ := h
  exact h1.fo
theorem WorldQ.lk (h : WorldQ W w F g ds ls Z k) : Z.S.length ≤ k := by
  obtain ⟨no, gm, nm, f, o, b, km, A, c, h1, h2⟩ := h
  exact h1.lk
theorem worldDo_Q (h : WorldQ W w F g ds ls Z k) (hb0 : Below W.heap.size W w) (hE : netE ds ls = 0) (hG : GoodW ds Z) (x : ActV) (hx : x.ok) (hk : k < 100000) :
    Calls Try.prog 10 #[.pointer (some ⟨g, 0, none⟩), .agg #[.int .i64 x.kind, .int .i64 x.dev, .int .i64 x.port, .int .i64 x.p.src, .int .i64 x.p.dst, .int .i64 x.p.sport, .int .i64 x.p.dport, .int .i64 x.ch]] w fun e w' => e = .returned (.int .i64 (doS ds ls Z x).1) ∧ ∃ F', WorldQ W w' F' g ds ls (doS ds ls Z x).2 (k + 1) ∧ Near F w.heap.size w w' ∧ ∀ j, F' j → F j ∨ w.heap.size ≤ j := by
  obtain ⟨no, gm, nm, f, o, b, km, A, c, h1, h2, h3, h4, h5, h6⟩ := h
  refine (worldDo_walk2 h1 hb0 rfl h2 h3 h4 h5 h6 hE hG x hx hk).mono ?_
  rintro e w' ⟨he, A', c', F', hw, hn, hF⟩
  exact ⟨he, F', ⟨no, gm, nm, f, o, b, km, A', c', hw, h2, h3, h4, h5, h6⟩, hn, hF⟩
theorem seen_Q (h : WorldQ W w F g ds ls Z k) (hk : k < 100000) :
    Calls Try.prog 11 #[.pointer (some ⟨g, 0, none⟩)] w fun e w' => ∃ A' c', e = .returned (.slice A' Z.S.length c') ∧ Z.S.length ≤ c' ∧ w'.ownsRow w.heap.size 47 6 (.slice A' Z.S.length c') Z.S.length (Z.S.flatMap ArrV.cells) ∧ Below w.heap.size w w' := by
  obtain ⟨no, gm, nm, f, o, b, km, A, c, h1, h2⟩ := h
  exact seen_walk h1 hk
end
theorem worldNew_Q (n : NetV) (W : World) (hn : NetAt W W.heap.size n) (hE : netE n.devs n.ls = 0) :
    Calls Try.prog 6 #[n.val] W fun e W' => ∃ g F, e = .returned (.tuple #[.pointer (some ⟨g, 0, none⟩), .int .i64 0]) ∧ Below W.heap.size W W' ∧ (∀ j, F j → W.heap.size ≤ j ∧ j < W'.heap.size) ∧
      ∀ w w' q, Below W'.heap.size W' w → Near q w.heap.size w w' → (∀ j, q j → j < W.heap.size) → (∀ d ∈ n.ds, OwnDev w' 0 d) → WorldQ (cutW w' W.heap.size) w' F g n.devs n.ls ⟨MemS.empty, []⟩ 0 := by
  refine (worldNew_ok2 n W W (Nat.le_refl _) hn (net_on_below hn) hE).mono ?_
  rintro e W' ⟨g, F, no, gm, nm, f, o, b, km, he, hw, ⟨h1, h2, h3, h4⟩, hb, hF, h5, h6, h7, h8⟩
  refine ⟨g, F, he, hb, fun j hj => ⟨hF j hj, (hw.fo j hj).2⟩, fun w w' q hww hn2 hq hod => ?_⟩
  have hs : W.heap.size ≤ w'.heap.size := by have := hb.size; have := hww.size; have := hn2.size; omega
  refine ⟨reN w' no, gm, nm, f, o, b, km, none, 0, ((hw.below hww).spoilt hn2 hq h8 h6 h7 (by rw [h5]; exact hod)).rebase (cutW_size hs), InjOk.re (InjOk.of (by rw [h1]; exact hE)) w', fun S i p => ?_, h2, h3, h4⟩
  rw [reN_inj, h1]
section
variable {P : Program} {ops : Array Oper} {Q : Exit → Act → World → Prop} {md : Region.Mode} {S : World → Prop} {s : Nat}
end
theorem dis_step2 {F F' G : Nat → Prop} {B : Nat} (hd : ∀ j, F j → ¬ G j) (hF : ∀ j, F' j → F j ∨ B ≤ j) (hG : ∀ j, G j → j < B) : ∀ j, F' j → ¬ G j := fun j e g => by
  rcases hF j e with q | q
  · exact hd j q g
  · have := hG j g; omega
structure L2 (W Wc : World) (Fa Fb : Nat → Prop) (g1 g2 : Nat) (ds : List Dev) (ls : List LinkV) (Z1 : WldS) (k1 : Nat) (Z2 : WldS) (k2 : Nat) (w : World) : Prop where
  bl : Below W.heap.size W w
  bc : Below Wc.heap.size Wc w
  a : WorldQ Wc w Fa g1 ds ls Z1 k1
  b : WorldS W w Fb g2 ds ls Z2 k2
  dis : ∀ j, Fa j → ¬ Fb j
  le : W.heap.size ≤ Wc.heap.size
  f2 : ∀ j, Fb j → Wc.heap.size ≤ j
section
variable {W Wc w w' : World} {Fa Fb F' : Nat → Prop} {g1 g2 : Nat} {ds : List Dev} {ls : List LinkV} {Z1 Z2 Z' : WldS} {k1 k2 k' : Nat}
theorem L2.below (h : L2 W Wc Fa Fb g1 g2 ds ls Z1 k1 Z2 k2 w) (hb : Below w.heap.size w w') : L2 W Wc Fa Fb g1 g2 ds ls Z1 k1 Z2 k2 w' :=
  ⟨h.bl.trans (hb.mono h.bl.size), h.bc.trans (hb.mono h.bc.size), h.a.below hb, h.b.below hb, h.dis, h.le, h.f2⟩
theorem L2.stepA (h : L2 W Wc Fa Fb g1 g2 ds ls Z1 k1 Z2 k2 w) (hw : WorldQ Wc w' F' g1 ds ls Z' k') (hn : Near Fa w.heap.size w w') (hF : ∀ j, F' j → Fa j ∨ w.heap.size ≤ j) : L2 W Wc F' Fb g1 g2 ds ls Z' k' Z2 k2 w' := by
  have hle := h.le
  have hf : ∀ j, Fa j → Wc.heap.size ≤ j := fun j e => (h.a.fo j e).1
  exact ⟨h.bl.trans (hn.below h.bl.size (fun j e => Nat.le_trans hle (hf j e))), h.bc.trans (hn.below h.bc.size hf), hw, h.b.stay hn (fun j e => ⟨Nat.le_trans hle (hf j e), h.dis j e⟩), dis_step2 h.dis hF (fun j e => (h.b.fo j e).2), hle, h.f2⟩
theorem L2.stepB (h : L2 W Wc Fa Fb g1 g2 ds ls Z1 k1 Z2 k2 w) (hw : WorldS W w' F' g2 ds ls Z' k') (hn : Near Fb w.heap.size w w') (hF : ∀ j, F' j → Fb j ∨ w.heap.size ≤ j) : L2 W Wc Fa F' g1 g2 ds ls Z1 k1 Z' k' w' := by
  have hle := h.le
  exact ⟨h.bl.trans (hn.below h.bl.size (fun j e => Nat.le_trans hle (h.f2 j e))), h.bc.trans (hn.below h.bc.size h.f2), h.a.stay hn (fun j e => ⟨h.f2 j e, fun q => h.dis j q e⟩), hw, fun j e1 e2 => dis_step2 (F := Fb) (G := Fa) (fun j a b => h.dis j b a) hF (fun j e => (h.a.fo j e).2) j e2 e1, hle, fun j e => by
    rcases hF j e with q | q
    · exact h.f2 j q
    · have := h.bc.size; omega⟩
theorem L2.goA (h : L2 W Wc Fa Fb g1 g2 ds ls Z1 k1 Z2 k2 w) (hE : netE ds ls = 0) (hG : GoodW ds Z1) (x : ActV) (hx : x.ok) (hk : k1 < 100000) :
    Calls Try.prog 10 #[.pointer (some ⟨g1, 0, none⟩), .agg #[.int .i64 x.kind, .int .i64 x.dev, .int .i64 x.port, .int .i64 x.p.src, .int .i64 x.p.dst, .int .i64 x.p.sport, .int .i64 x.p.dport, .int .i64 x.ch]] w fun e w' => e = .returned (.int .i64 (doS ds ls Z1 x).1) ∧ ∃ F', L2 W Wc F' Fb g1 g2 ds ls (doS ds ls Z1 x).2 (k1 + 1) Z2 k2 w' ∧ Near Fa w.heap.size w w' := by
  refine (worldDo_Q h.a h.bc hE hG x hx hk).mono ?_
  rintro e w' ⟨he, F', hw, hn, hF⟩
  exact ⟨he, F', h.stepA hw hn hF, hn⟩
theorem L2.goB (h : L2 W Wc Fa Fb g1 g2 ds ls Z1 k1 Z2 k2 w) (hE : netE ds ls = 0) (hG : GoodW ds Z2) (x : ActV) (hx : x.ok) (hk : k2 < 100000) :
    Calls Try.prog 10 #[.pointer (some ⟨g2, 0, none⟩), .agg #[.int .i64 x.kind, .int .i64 x.dev, .int .i64 x.port, .int .i64 x.p.src, .int .i64 x.p.dst, .int .i64 x.p.sport, .int .i64 x.p.dport, .int .i64 x.ch]] w fun e w' => e = .returned (.int .i64 (doS ds ls Z2 x).1) ∧ ∃ F', L2 W Wc Fa F' g1 g2 ds ls Z1 k1 (doS ds ls Z2 x).2 (k2 + 1) w' ∧ Near Fb w.heap.size w w' := by
  refine (worldDo_S h.b h.bl hE hG x hx hk).mono ?_
  rintro e w' ⟨he, F', hw, hn, hF⟩
  exact ⟨he, F', h.stepB hw hn hF, hn⟩
end
def CapRow (w : World) (lo : Nat) (A : Option Addr) (c : Nat) : Prop := c ≤ maxLen ∧ (c = 0 ∨ ∃ g cur, A = some ⟨g, 0, none⟩ ∧ lo ≤ g ∧ w.heap[g]? = some (.cells cur 47 (0, 0)) ∧ cur.size = c * 6)
theorem CapRow.of {w : World} {lo n c : Nat} {A : Option Addr} {xs : List Value} (h : w.ownsRow lo 47 6 (.slice A n c) n xs) : CapRow w lo A c ∧ (A = none → n = 0 ∧ c = 0) := by
  rcases h.2 with ⟨h3, h4⟩ | ⟨g, cap, cur, hv, hlo, hh, hnc, hcm, hcs, _⟩
  · simp only [Value.slice.injEq] at h3
    exact ⟨⟨by rw [h3.2.2]; exact Nat.zero_le _, .inl h3.2.2⟩, fun _ => ⟨h4, h3.2.2⟩⟩
  · simp only [Value.slice.injEq] at hv
    obtain ⟨e1, _, e3⟩ := hv
    subst e3
    exact ⟨⟨hcm, .inr ⟨g, cur, e1, hlo, hh, hcs⟩⟩, fun e => by rw [e1] at e; cases e⟩
theorem CapRow.there {w : World} {lo c j : Nat} {A : Option Addr} (h : CapRow w lo A c) (hj : j < c) : ∃ g, A = some ⟨g, 0, none⟩ ∧ lo ≤ g ∧ w.there g (j * 6) 6 := by
  obtain ⟨_, h | ⟨g, cur, hA, hlo, hh, hs⟩⟩ := h
  · omega
  · refine ⟨g, hA, hlo, fun i hi => ⟨?_, frozen_of_row w g _ cur _ hh⟩⟩
    rw [cell_of_row w g _ cur _ _ hh, Array.getElem?_eq_getElem (by omega)]
    rfl
theorem CapRow.put {w : World} {lo c : Nat} {A : Option Addr} (h : CapRow w lo A c) {g : Nat} (hg : A = some ⟨g, 0, none⟩) : ∀ (vs : List Value) (i : Nat), CapRow (w.setCells g i vs) lo A c := by
  intro vs
  induction vs generalizing w with
  | nil => exact fun i => h
  | cons v vs ih =>
    intro i
    refine ih (w := w.setCell ⟨g, i, none⟩ v) ?_ (i + 1)
    obtain ⟨hm, h | ⟨g', cur, hA, hlo, hh, hs⟩⟩ := h
    · exact ⟨hm, .inl h⟩
    · rw [hg] at hA
      cases hA
      exact ⟨hm, .inr ⟨g, cur.setIfInBounds i v, hg, hlo, heap_setCell_same w g i cur _ v hh, by simpa using hs⟩⟩
theorem setCells_below (g lo : Nat) (hg : lo ≤ g) : ∀ (vs : List Value) (i : Nat) (w : World), Below lo w (w.setCells g i vs)
  | [], i, w => Below.refl _ _
  | v :: vs, i, w => ((Below.refl lo w).setCell (p := ⟨g, i, none⟩) hg v).trans (setCells_below g lo hg vs (i + 1) (w.setCell ⟨g, i, none⟩ v))
end Go.Proofs.Ytifkacnoiocebaa
