/- A part of the proof: WorldG, Rd12, Rd13, RdA. -/
import Derived.Test.YtohbafigjpoijaaGreatRs33
import Derived.Deep.LoopGhost
set_option linter.unusedVariables false
set_option linter.unusedSimpArgs false
set_option maxRecDepth 100000
set_option maxHeartbeats 8000000
namespace Go.Proofs.YtohbafigjpoijaaGreat
open Go.Maps Go.RowKit
structure L1 (W : World) (L : List (Nat × Array Value)) (F1 : Nat → Prop) (gw : Nat) (ds : List Dev) (ls : List LinkV) (Z : WldS) (k : Nat) (w : World) : Prop where
  box : BX W L w
  a : WorldS W w F1 gw ds ls Z k
  dl : ∀ x ∈ L, ¬ F1 x.1
section
variable {W w w' : World} {L : List (Nat × Array Value)} {F1 F' : Nat → Prop} {gw : Nat} {ds : List Dev} {ls : List LinkV} {Z Z' : WldS} {k k' : Nat}
theorem L1.below (h : L1 W L F1 gw ds ls Z k w) (hb : Below w.heap.size w w') : L1 W L F1 gw ds ls Z k w' := ⟨h.box.below hb, h.a.below hb, h.dl⟩
theorem L1.d (h : L1 W L F1 gw ds ls Z k w) : L1 W L F1 gw ds ls Z k w.drew := h.below (Below.refl _ _).drew
theorem L1.less {x : Nat × Array Value} (h : L1 W (x :: L) F1 gw ds ls Z k w) : L1 W L F1 gw ds ls Z k w := ⟨h.box.less, h.a, fun y hy => h.dl y (List.mem_cons_of_mem _ hy)⟩
theorem L1.al (h : L1 W L F1 gw ds ls Z k w) (vs : Array Value) (t : TypeId) : L1 W ((w.heap.size, vs) :: L) F1 gw ds ls Z k (w.alloc (.cells vs t)) := by
  have q := h.below (below_alloc w (.cells vs t))
  refine ⟨(h.box.al vs t).done, q.a, fun x hx => ?_⟩
  rcases List.mem_cons.1 hx with rfl | hx
  · exact fun e => Nat.lt_irrefl _ (h.a.fo _ e).2
  · exact h.dl x hx
theorem L1.step (h : L1 W L F1 gw ds ls Z k w) (hw : WorldS W w' F' gw ds ls Z' k') (hn : Near F1 w.heap.size w w') (hF : ∀ j, F' j → F1 j ∨ w.heap.size ≤ j) : L1 W L F' gw ds ls Z' k' w' :=
  ⟨h.box.beside hn (fun x hx => h.dl x hx) (fun j e => (h.a.fo j e).1), hw, fun x hx => fun e => by
      rcases hF _ e with q | q
      · exact h.dl x hx q
      · have := (h.box.bx x hx).2; omega⟩
theorem L1.go (h : L1 W L F1 gw ds ls Z k w) (hE : netE ds ls = 0) (hG : GoodW ds Z) (x : ActV) (ho : x.ok) (hk : k < 100000) {R : Int × WldS} (hR : doS ds ls Z x = R) :
    Calls Tryz.prog 21 #[.pointer (some ⟨gw, 0, none⟩), .agg #[.int .i64 x.kind, .int .i64 x.dev, .int .i64 x.port, .int .i64 x.p.src, .int .i64 x.p.dst, .int .i64 x.p.sport, .int .i64 x.p.dport, .int .i64 x.ch]] w fun e w' => e = .returned (.int .i64 R.1) ∧ ∃ F', L1 W L F' gw ds ls R.2 (k + 1) w' ∧ Near F1 w.heap.size w w' ∧ ∀ j, F' j → F1 j ∨ w.heap.size ≤ j := by
  subst hR
  refine (worldDo_S h.a h.box.bl hE hG x ho hk).mono ?_
  rintro e w' ⟨he, F', hw, hn, hF⟩
  exact ⟨he, F', h.step hw hn hF, hn, hF⟩
end
def runP : P4 := ⟨1, 2, 0, 0⟩
def run1 : ActV := ⟨1, 0, 0, ⟨1, 2, 0, 0⟩, 0⟩
def run2 : ActV := ⟨2, 1, 0, ⟨1, 2, 0, 0⟩, 0⟩
def runA : ArrV := ⟨1, 0, ⟨1, 2, 0, 0⟩⟩
def runB : ArrV := ⟨2, 0, ⟨1, 2, 0, 0⟩⟩
theorem run1_ok : run1.ok := ⟨by simp [run1, i64ok], by simp [run1, i64ok], by simp [run1, i64ok], ⟨by simp [run1, i64ok], by simp [run1, i64ok], by simp [run1, i64ok], by simp [run1, i64ok]⟩, by simp [run1, i64ok]⟩
theorem run2_ok : run2.ok := ⟨by simp [run2, i64ok], by simp [run2, i64ok], by simp [run2, i64ok], ⟨by simp [run2, i64ok], by simp [run2, i64ok], by simp [run2, i64ok], by simp [run2, i64ok]⟩, by simp [run2, i64ok]⟩
theorem runB_ok : runB.ok := ⟨by simp [runB, i64ok], by simp [runB, i64ok], ⟨by simp [runB, i64ok], by simp [runB, i64ok], by simp [runB, i64ok], by simp [runB, i64ok]⟩⟩
theorem peer00 : peerF chainL (0, 0) = some (1, 0) := by decide
theorem run1_s : doS (chainD (fireD [allR true])) chainL ⟨MemS.empty, []⟩ run1 = (0, ⟨MemS.empty, [runA]⟩) := by
  have e : injS (chainD (fireD [allR true])) chainL [] 0 ⟨1, 2, 0, 0⟩ = (0, [runA]) := by
    rw [injS_some (r := ⟨⟨#[105, 110]⟩, 1, 1, 0, [], [], []⟩) (by rfl) (by rfl), injR_some rfl (by rfl) rfl peer00]
    rfl
  show ((injS (chainD (fireD [allR true])) chainL [] 0 ⟨1, 2, 0, 0⟩).1, (⟨MemS.empty, (injS (chainD (fireD [allR true])) chainL [] 0 ⟨1, 2, 0, 0⟩).2⟩ : WldS)) = _
  rw [e]
theorem run_lets : letsB [allR true] runP = true := by decide
theorem run2_s : ∃ M, doS (chainD (fireD [allR true])) chainL ⟨MemS.empty, [runA]⟩ run2 = (0, ⟨M, [runA, runB]⟩) := by
  have h : handS (chainD (fireD [allR true])) chainL MemS.empty 1 0 ⟨1, 2, 0, 0⟩ 0 = ⟨0, (2, 0), ⟨1, 2, 0, 0⟩, .flow (1, ⟨1, 2, 0, 0⟩)⟩ := by
    rw [fire_out_s _ _ _ _ (by rfl)]
    exact if_pos run_lets
  refine ⟨MemS.empty.learn (.flow (1, ⟨1, 2, 0, 0⟩)), ?_⟩
  have hm : (⟨run2.dev, run2.port, run2.p⟩ : ArrV) ∈ [runA] := by rw [List.mem_singleton]; rfl
  rw [doS, if_neg (show ¬ run2.kind = 1 by decide), if_pos (show run2.kind = 2 from rfl), if_pos hm]
  show ((handS (chainD (fireD [allR true])) chainL MemS.empty 1 0 ⟨1, 2, 0, 0⟩ 0).e, (⟨MemS.empty.learn (handS (chainD (fireD [allR true])) chainL MemS.empty 1 0 ⟨1, 2, 0, 0⟩ 0).kn, (handS (chainD (fireD [allR true])) chainL MemS.empty 1 0 ⟨1, 2, 0, 0⟩ 0).come [runA]⟩ : WldS)) = _
  rw [h]
  have hc : comeS [runA] runB = [runA, runB] := if_neg (by rw [List.mem_singleton]; intro e; have := congrArg ArrV.d e; simp [runA, runB] at this)
  show (0, (⟨_, comeS [runA] runB⟩ : WldS)) = _
  rw [hc]
theorem running_walk (W : World) : Calls Tryz.prog 19 #[] W fun e W' => e = .returned (.bool true) ∧ Below W.heap.size W W' := by
  go_enter Tryz.func19, Tryz.ntmps19
  go_wp2_with fail
  refine (allRule_walk true W).mono ?_
  rintro e w2 ⟨rfl, hb⟩
  have HB2 := hide hb
  clear hb
  have hx3 := BoxV.new w2 #[.bool true, .int .u16 65535, .int .u16 65535, .int .u8 255, .int .u8 255] 122
  have hb3 := below_alloc w2 (.cells #[.bool true, .int .u16 65535, .int .u16 65535, .int .u8 255, .int .u8 255] 122)
  have hl3 : w2.heap.size < (w2.alloc (.cells #[.bool true, .int .u16 65535, .int .u16 65535, .int .u8 255, .int .u8 255] 122)).heap.size := by simp
  have HB3 := hide (HB2.out.trans (hb3.mono HB2.out.size))
  have HCW := hide (chain_walk (fireW (some ⟨w2.heap.size, 0, none⟩) 1 1 [allR true]) _ (fireW_at (oneRule_at hx3 hl3) ⟨Nat.le_refl _, show 1 ≤ maxLen by unfold maxLen; omega⟩))
  clear hx3 hb3 hl3 HB2
  go_wp2_with fail
  refine HCW.out.mono ?_
  clear HCW
  rintro e w4 ⟨m, rfl, hm, hmd, hml, hb⟩
  have HB4 := hide (HB3.out.trans (hb.mono HB3.out.size))
  have hE := fire_net [allR true] (by simp)
  have HNW := hide (worldNew_S m w4 w4 (Nat.le_refl _) hm (net_on_below hm) (by rw [hmd, hml]; exact hE))
  rw [hmd, hml] at HNW
  have HE := hide hE
  clear hm hb HB3 hmd hml hE
  go_wp2_with fail
  refine HNW.out.mono ?_
  clear HNW
  rintro e w5 ⟨gw, F, rfl, hw, hb, hF⟩
  have HW5 := hide (show L1 w4 [] F gw (chainD (fireD [allR true])) chainL ⟨MemS.empty, []⟩ 0 w5 from ⟨⟨hb, fun x hx => by cases hx⟩, hw, fun x hx => by cases hx⟩)
  clear hw hb hF
  go_wp2_with fail
  have HG := hide (HW5.out.al #[.int .i64 1, .int .i64 2, .int .i64 0, .int .i64 0] 29)
  obtain ⟨N, hN⟩ : ∃ N, w5.heap.size = N := ⟨_, rfl⟩
  rw [hN] at HG
  rw [hN]
  clear hN HW5
  generalize World.alloc w5 _ = w6 at *
  obtain ⟨M, hM⟩ := run2_s
  have hg1 : GoodW (chainD (fireD [allR true])) ⟨MemS.empty, [runA]⟩ := by
    have q := (do_good HE.out (good_at HE.out [] 0) run1).1
    rw [show stS (chainD (fireD [allR true])) chainL [] 0 = ⟨MemS.empty, []⟩ from rfl, run1_s] at q
    exact q
  have HD1 := hide (fun (w' : World) (F : Nat → Prop) (h : L1 w4 [(N, #[.int .i64 1, .int .i64 2, .int .i64 0, .int .i64 0])] F gw (chainD (fireD [allR true])) chainL ⟨MemS.empty, []⟩ 0 w') => h.go HE.out (good_at HE.out [] 0) run1 run1_ok (by omega) run1_s)
  have HD2 := hide (fun (w' : World) (F : Nat → Prop) (h : L1 w4 [(N, #[.int .i64 1, .int .i64 2, .int .i64 0, .int .i64 0])] F gw (chainD (fireD [allR true])) chainL ⟨MemS.empty, [runA]⟩ 1 w') => h.go HE.out hg1 run2 run2_ok (by omega) hM)
  have HHS := hide (fun (w' : World) (F : Nat → Prop) (h : L1 w4 [(N, #[.int .i64 1, .int .i64 2, .int .i64 0, .int .i64 0])] F gw (chainD (fireD [allR true])) chainL ⟨M, [runA, runB]⟩ 2 w') => worldHas_S h.a runB runB_ok)
  have hin : decide (runB ∈ [runA, runB]) = true := by simp
  simp only [hin] at HHS
  simp only [run1, run2, runB] at HD1 HD2 HHS
  clear hg1 hM hin
  obtain ⟨b0, b1, b2, b3⟩ := cells4 (HG.out.box.get 0 rfl)
  go_region_held3 (fun w' => w'.cell? ⟨N, 0, none⟩ = some (.int .i64 1) ∧ w'.cell? ⟨N, 1, none⟩ = some (.int .i64 2) ∧ w'.cell? ⟨N, 2, none⟩ = some (.int .i64 0) ∧ w'.cell? ⟨N, 3, none⟩ = some (.int .i64 0)) (go_keep) (first | (go_at_call_of 21 (Value.agg #[.int .i64 1, .int .i64 0, .int .i64 0, .int .i64 1, .int .i64 2, .int .i64 0, .int .i64 0, .int .i64 0]); refine (HD1.out _ _ (by first | exact HG.out.d | exact HG.out)).mono ?_; rintro e wp ⟨rfl, F', hg, hn, hF⟩; have HG := hide hg; obtain ⟨b0, b1, b2, b3⟩ := cells4 (HG.out.box.get 0 rfl)) | (go_at_call_of 21 (Value.agg #[.int .i64 2, .int .i64 1, .int .i64 0, .int .i64 1, .int .i64 2, .int .i64 0, .int .i64 0, .int .i64 0]); refine (HD2.out _ _ (by first | exact HG.out.d | exact HG.out)).mono ?_; rintro e wp ⟨rfl, F', hg, hn, hF⟩; have HG := hide hg; obtain ⟨b0, b1, b2, b3⟩ := cells4 (HG.out.box.get 0 rfl)) | (go_at_call 54; refine (placeOf_walk 2 0 _).mono ?_; rintro e wp ⟨rfl, hb⟩; (first | have HG := hide (HG.out.d.below hb) | have HG := hide (HG.out.below hb)); obtain ⟨b0, b1, b2, b3⟩ := cells4 (HG.out.box.get 0 rfl)) | (go_at_call 24; refine (HHS.out _ _ (by first | exact HG.out.d | exact HG.out)).mono ?_; rintro e wp ⟨rfl, hb⟩; (first | have HG := hide (HG.out.d.below hb) | have HG := hide (HG.out.below hb)); obtain ⟨b0, b1, b2, b3⟩ := cells4 (HG.out.box.get 0 rfl)))
  have HZ := hide (HB4.out.trans (HG.out.box.bl.mono HB4.out.size))
  clear b0 b1 b2 b3 HG HD1 HD2 HHS
  go_wp2
  go_ret
  exact ⟨rfl, HZ.out⟩
open Bdd
structure Ent where
  blk : Nat
  M : PoK → Option Value
  S : Pl → Bdd.Fn
structure MapE (A : St) (er : Nat) (M : PoK → Option Value) (S : Pl → Bdd.Fn) (ks : List Pl) : Prop where
  ints : Ints M
  keys : ∀ x, (M x).isSome = true → x ∈ ks
  isF : er = 0 → ∀ x, IsF A (numAt M x) (S x)
theorem MapE.ext {A A' : St} {er er' : Nat} {M : PoK → Option Value} {S : Pl → Bdd.Fn} {ks : List Pl} (h : MapE A er M S ks) (i : Inv A) (hx : Ext A A') (he : er' = 0 → er = 0) : MapE A' er' M S ks := ⟨h.ints, h.keys, fun h0 x => (h.isF (he h0) x).ext i hx⟩
theorem MapE.ok {A : St} {M : PoK → Option Value} {S : Pl → Bdd.Fn} {ks : List Pl} (h : MapE A 0 M S ks) : MapOk A M S ks := ⟨h.ints, h.keys, h.isF rfl⟩
structure Sums (wr : World) (B g : Nat) (A : St) (rb base : Nat) (v : Value) (L : List Ent) (ks : List Pl) (er : Nat) (more : List Nat) : Prop where
  sa : AS wr B g A (v.ownBlock.toList ++ (more ++ rb :: L.map Ent.blk))
  own : wr.ownsRow base 90 1 v L.length (L.map fun e => .map (some e.blk))
  ap : ∀ q, v.ownBlock = some q → q ∉ more ++ rb :: L.map Ent.blk
  bx : Bx wr rb #[v, .pointer (some ⟨g, 0, none⟩)] 85
  ents : ∀ e ∈ L, MapP wr e.blk e.M ∧ MapE A er e.M e.S ks
  ne : rb ∉ more ++ L.map Ent.blk
section
variable {wr w' : World} {B g rb base : Nat} {A A' : St} {v : Value} {L : List Ent} {ks : List Pl} {er er' : Nat} {more : List Nat}
theorem Sums.below (h : Sums wr B g A rb base v L ks er more) (hb : RowKit.Below wr.heap.size wr w') : Sums w' B g A rb base v L ks er more :=
  ⟨h.sa.below hb, own_below h.own hb, h.ap, h.bx.below hb, fun e he => ⟨(h.ents e he).1.same (hb.block _ (h.ents e he).1.lt), (h.ents e he).2⟩, h.ne⟩
theorem Sums.kept (h : Sums wr B g A rb base v L ks er more) (hsa : AS w' B g A' (v.ownBlock.toList ++ (more ++ rb :: L.map Ent.blk))) (hx : Ext A A') (hk : KP B (v.ownBlock.toList ++ (more ++ rb :: L.map Ent.blk)) wr w') (he : er' = 0 → er = 0) : Sums w' B g A' rb base v L ks er' more :=
  ⟨hsa, own_same h.own (fun q hq => hk.same q (by simp [hq])), h.ap, h.bx.same (hk.same rb (by simp)), fun e hm => ⟨(h.ents e hm).1.same (hk.same _ (by
    simp only [List.mem_append, List.mem_cons, List.mem_map]
    exact .inr (.inr (.inr ⟨e, hm, rfl⟩)))), (h.ents e hm).2.ext h.sa.inv hx he⟩, h.ne⟩
theorem Sums.less {more' : List Nat} (h : Sums wr B g A rb base v L ks er more) (hs : ∀ j ∈ more', j ∈ more) : Sums wr B g A rb base v L ks er more' := by
  have hsub : ∀ j, j ∈ more' ++ rb :: L.map Ent.blk → j ∈ more ++ rb :: L.map Ent.blk := fun j hj => by
    rcases List.mem_append.1 hj with a | a
    · exact List.mem_append_left _ (hs j a)
    · exact List.mem_append_right _ a
  refine ⟨h.sa.mono (fun j hj => ?_), h.own, fun q hq hm => h.ap q hq (hsub q hm), h.bx, h.ents, fun hm => h.ne ?_⟩
  · rcases List.mem_append.1 hj with a | a
    · exact List.mem_append_left _ a
    · exact List.mem_append_right _ (hsub j a)
  · rcases List.mem_append.1 hm with a | a
    · exact List.mem_append_left _ (hs rb a)
    · exact List.mem_append_right _ a
theorem Sums.grow {v5 : Value} {m : Nat} {ys : List Value} (h : Sums wr B g A rb base v L ks er more) (hown : w'.ownsRow base 90 1 v5 m ys) (hg : wr.grownBy w' v.ownBlock) (hat : v5.ownBlock = v.ownBlock ∨ v5.ownBlock = some wr.heap.size) : KP B (more ++ rb :: L.map Ent.blk) wr w' :=
  ((RowS.mk h.sa h.own h.ap : RowS wr B g A base _ 1 v L.length _ (more ++ rb :: L.map Ent.blk)).append hown hg hat).2
theorem Sums.push {v5 : Value} {e : Ent} (h : Sums wr B g A rb base v L ks er more) (hown : w'.ownsRow base 90 1 v5 (L.length + 1) ((L.map fun e => .map (some e.blk)) ++ [.map (some e.blk)])) (hg : wr.grownBy w' v.ownBlock) (hat : v5.ownBlock = v.ownBlock ∨ v5.ownBlock = some wr.heap.size)
    (he : e.blk ∈ more) (hm : MapP wr e.blk e.M) (hok : MapE A er e.M e.S ks) :
    Sums (w'.setCell ⟨rb, 0, none⟩ v5) B g A rb base v5 (L ++ [e]) ks er more ∧ KP B more wr (w'.setCell ⟨rb, 0, none⟩ v5) := by
  obtain ⟨r1, r2⟩ := (RowS.mk h.sa h.own h.ap : RowS wr B g A base _ 1 v L.length _ (more ++ rb :: L.map Ent.blk)).append hown hg hat
  have hne := h.ne
  simp only [List.mem_append, not_or] at hne
  have hs : (w'.setCell ⟨rb, 0, none⟩ v5).heap.size = w'.heap.size := size_setCell w' ⟨rb, 0, none⟩ v5
  have hc : ∀ i, i ≠ rb → (w'.setCell ⟨rb, 0, none⟩ v5).heap[i]? = w'.heap[i]? := fun i hi => RowKit.Below.heap_setCell _ _ _ _ hi
  have hrbB : B ≤ rb := (h.sa.lt rb (by simp)).1
  have hsa2 : AS (w'.setCell ⟨rb, 0, none⟩ v5) B g A (v5.ownBlock.toList ++ (more ++ rb :: L.map Ent.blk)) := r1.sa.turned (Nat.le_of_eq hs.symm) (fun i _ hn => hc i (fun e => hn (by simp [e])))
  have hkm : KP B more wr (w'.setCell ⟨rb, 0, none⟩ v5) := ⟨r2.low.trans ((RowKit.Below.refl _ _).setCell hrbB _), fun j hj => (hc j (fun e => hne.1 (e ▸ hj))).trans (r2.same j (by simp [hj]))⟩
  have hsub : ∀ j, j ∈ more ++ rb :: (L ++ [e]).map Ent.blk → j ∈ more ++ rb :: L.map Ent.blk := fun j hj => by
    rw [List.map_append] at hj
    rcases List.mem_append.1 hj with a | a
    · exact List.mem_append_left _ a
    · rcases List.mem_cons.1 a with a | a
      · simp [a]
      · rcases List.mem_append.1 a with a | a
        · exact List.mem_append_right _ (List.mem_cons_of_mem _ a)
        · rw [List.map_cons, List.map_nil, List.mem_singleton] at a
          exact List.mem_append_left _ (a ▸ he)
  refine ⟨⟨hsa2.mono (fun j hj => ?_), ?_, fun q hq hm => r1.ap q hq (hsub q hm), ?_, fun x hx => ?_, fun hm => ?_⟩, hkm⟩
  · rcases List.mem_append.1 hj with a | a
    · exact List.mem_append_left _ a
    · exact List.mem_append_right _ (hsub j a)
  · have e1 : (L ++ [e]).length = L.length + 1 := by simp
    have e2 : ((L ++ [e]).map fun e => (Value.map (some e.blk))) = (L.map fun e => .map (some e.blk)) ++ [.map (some e.blk)] := by simp
    rw [e1, e2]
    exact own_same r1.own (fun q hq => hc q (fun e => r1.ap q hq (by simp [e])))
  · exact (h.bx.same (r2.same rb (by simp))).set 0 v5
  · rcases List.mem_append.1 hx with a | a
    · obtain ⟨q1, q2⟩ := h.ents x a
      have hxb : x.blk ∈ L.map Ent.blk := List.mem_map_of_mem a
      exact ⟨q1.same ((hc _ (fun e => hne.2 (e ▸ hxb))).trans (r2.same _ (by simp only [List.mem_append, List.mem_cons]; exact .inr (.inr hxb)))), q2⟩
    · rw [List.mem_singleton] at a
      subst a
      exact ⟨hm.same (hkm.same _ he), hok⟩
  · rw [List.map_append] at hm
    rcases List.mem_append.1 hm with a | a
    · exact hne.1 a
    · rcases List.mem_append.1 a with a | a
      · exact hne.2 a
      · rw [List.map_cons, List.map_nil, List.mem_singleton] at a
        exact hne.1 (a ▸ he)
end
theorem Tryz.infoSum : (Tryz.prog.info? 90).map (fun i => (i.zero, i.size, i.bytes)) = some (some (.map none), 1, 8) := by kernel_rfl
theorem MapOk.empty {A : St} (i : Inv A) (ks : List Pl) : MapOk A (fun _ => none) (fun _ _ => false) ks :=
  ⟨fun a v h => by (cases h), fun x h => by (cases h), fun x => by rw [numAt_none rfl]; exact IsF.zero i⟩
theorem RD.start {w : World} {B g mk rd nm : Nat} {A : St} {bl : List Nat} {n : NetV} {wmV : Value} (hmk : MK w B g A (rd :: nm :: bl) mk 0) (hbx : Bx w rd #[.pointer (some ⟨mk, 0, none⟩), .slice n.dA n.dn n.dc, .slice n.lA n.ln n.lc, wmV, .map (some nm)] 92) {M : PoK → Option Value} {S : Pl → Bdd.Fn} (hm : MapP w nm M) (hok : MapOk A M S (endsOf n.ls)) (hne : rd ≠ nm ∧ rd ∉ bl ∧ nm ∉ bl) : RD w B g A bl mk 0 rd n wmV nm M S :=
  ⟨hmk, hbx, hm, hok.ints, hok.keys, fun _ x => hok.isF x, hne⟩
theorem new_boxes {w : World} {B g : Nat} {A : St} (h : AS w B g A []) (n : NetV) :
    RD ((((w.alloc (.cells #[.slice none 0 0, .pointer (some ⟨g, 0, none⟩)] 85)).alloc (.cells #[.pointer (some ⟨g, 0, none⟩), .int .i64 0] 89)).alloc (.map #[] 0)).alloc (.cells #[.pointer (some ⟨w.heap.size + 1, 0, none⟩), .slice n.dA n.dn n.dc, .slice n.lA n.ln n.lc, .map none, .map (some (w.heap.size + 1 + 1))] 92))
      B g A [w.heap.size] (w.heap.size + 1) 0 (w.heap.size + 1 + 1 + 1) n (.map none) (w.heap.size + 1 + 1) (fun _ => none) (fun _ _ => false) ∧
    Bx ((((w.alloc (.cells #[.slice none 0 0, .pointer (some ⟨g, 0, none⟩)] 85)).alloc (.cells #[.pointer (some ⟨g, 0, none⟩), .int .i64 0] 89)).alloc (.map #[] 0)).alloc (.cells #[.pointer (some ⟨w.heap.size + 1, 0, none⟩), .slice n.dA n.dn n.dc, .slice n.lA n.ln n.lc, .map none, .map (some (w.heap.size + 1 + 1))] 92))
      w.heap.size #[.slice none 0 0, .pointer (some ⟨g, 0, none⟩)] 85 ∧
    RowKit.Below w.heap.size w ((((w.alloc (.cells #[.slice none 0 0, .pointer (some ⟨g, 0, none⟩)] 85)).alloc (.cells #[.pointer (some ⟨g, 0, none⟩), .int .i64 0] 89)).alloc (.map #[] 0)).alloc (.cells #[.pointer (some ⟨w.heap.size + 1, 0, none⟩), .slice n.dA n.dn n.dc, .slice n.lA n.ln n.lc, .map none, .map (some (w.heap.size + 1 + 1))] 92)) := by
  have hinv := h.inv
  have h1 := h.alloc (.cells #[.slice none 0 0, .pointer (some ⟨g, 0, none⟩)] 85)
  have x1 := Bx.new w #[.slice none 0 0, .pointer (some ⟨g, 0, none⟩)] 85
  have b1 := below_alloc2 w (.cells #[.slice none 0 0, .pointer (some ⟨g, 0, none⟩)] 85)
  have s1 : (w.alloc (.cells #[.slice none 0 0, .pointer (some ⟨g, 0, none⟩)] 85)).heap.size = w.heap.size + 1 := by simp
  generalize World.alloc w _ = w3 at *
  have h2 := h1.alloc (.cells #[.pointer (some ⟨g, 0, none⟩), .int .i64 0] 89)
  have x2 := Bx.new w3 #[.pointer (some ⟨g, 0, none⟩), .int .i64 0] 89
  have b2 := below_alloc2 w3 (.cells #[.pointer (some ⟨g, 0, none⟩), .int .i64 0] 89)
  have s2 : (w3.alloc (.cells #[.pointer (some ⟨g, 0, none⟩), .int .i64 0] 89)).heap.size = w.heap.size + 1 + 1 := by simp [s1]
  rw [s1] at h2 x2
  have x1' := x1.below b2
  have b12 := b1.trans (b2.mono b1.size)
  generalize World.alloc w3 _ = w4 at *
  have h3 := h2.alloc (.map #[] 0)
  have x3 := MapIs.made (P := Tryz.prog) (kt := 27) (key := poVal) (dom := poDom) w4
  have b3 := below_alloc2 w4 (.map #[] 0)
  have s3 : (w4.alloc (.map #[] 0)).heap.size = w.heap.size + 1 + 1 + 1 := by simp [s2]
  rw [s2] at h3 x3
  have x1'' := x1'.below b3
  have x2' := x2.below b3
  have b13 := b12.trans (b3.mono b12.size)
  generalize World.alloc w4 _ = w5 at *
  have h4 := h3.alloc (.cells #[.pointer (some ⟨w.heap.size + 1, 0, none⟩), .slice n.dA n.dn n.dc, .slice n.lA n.ln n.lc, .map none, .map (some (w.heap.size + 1 + 1))] 92)
  have x4 := Bx.new w5 #[.pointer (some ⟨w.heap.size + 1, 0, none⟩), .slice n.dA n.dn n.dc, .slice n.lA n.ln n.lc, .map none, .map (some (w.heap.size + 1 + 1))] 92
  have b4 := below_alloc2 w5 (.cells #[.pointer (some ⟨w.heap.size + 1, 0, none⟩), .slice n.dA n.dn n.dc, .slice n.lA n.ln n.lc, .map none, .map (some (w.heap.size + 1 + 1))] 92)
  rw [s3] at h4 x4
  have b14 := b13.trans (b4.mono b13.size)
  have y3 := x3.same (b4.block _ x3.lt)
  generalize World.alloc w5 _ = w6 at *
  refine ⟨RD.start ⟨h4.mono (fun j hj => ?_), x2'.below b4, .inl rfl, ?_⟩ x4 y3 (MapOk.empty hinv _) ⟨by omega, ?_, ?_⟩, x1''.below b4, b14⟩
  · simp only [List.mem_cons, List.not_mem_nil, or_false] at hj ⊢
    omega
  · simp only [List.mem_cons, List.not_mem_nil, or_false]
    omega
  · simp only [List.mem_cons, List.not_mem_nil, or_false]
    omega
  · simp only [List.mem_cons, List.not_mem_nil, or_false]
    omega
theorem netLinks_ok {ds : List Dev} {ls : List LinkV} (h : netE ds ls = 0) : LinksOk ls := by
  have hn := netE_ok h
  refine ⟨hn.ll, fun x hx => ?_⟩
  have hv := hn.pl _ hx
  obtain ⟨⟨a1, a2⟩, a3, a4⟩ := placeB_iff.1 hv
  have hq := portsF_range (kindAt ds x.1)
  have hdl := hn.dl
  refine ⟨?_, ?_⟩ <;> (simp only [i64ok]; omega)
theorem next_box {w8 : World} {B g : Nat} {A : St} {N base : Nat} {v : Value} {L : List Ent} {er rd nm mk nb : Nat} {n : NetV} {Mn : PoK → Option Value} {S : Pl → Bdd.Fn} (h : Sums w8 B g A N base v L (endsOf n.ls) er [rd, nm, mk]) (ha : AS w8 B g A (nb :: (v.ownBlock.toList ++ ([rd, nm, mk] ++ N :: L.map Ent.blk)))) (hmk : Bx w8 mk #[.pointer (some ⟨g, 0, none⟩), .int .i64 (er : Int)] 89) (her : er = 0 ∨ (er = 6 ∧ A.len = A.most))
    (hmem : (⟨nm, Mn, S⟩ : Ent) ∈ L) (hm : MapP w8 nb Mn) (hne : nb ∉ v.ownBlock.toList ++ ([rd, nm, mk] ++ N :: L.map Ent.blk)) (h1 : mk ≠ rd) (h2 : mk ∉ L.map Ent.blk) :
    RD (w8.alloc (.cells #[.pointer (some ⟨mk, 0, none⟩), .slice n.dA n.dn n.dc, .slice n.lA n.ln n.lc, .map (some nm), .map (some nb)] 92)) B g A (rd :: (v.ownBlock.toList ++ N :: L.map Ent.blk)) mk er w8.heap.size n (.map (some nm)) nb Mn S ∧
    WasOk (w8.alloc (.cells #[.pointer (some ⟨mk, 0, none⟩), .slice n.dA n.dn n.dc, .slice n.lA n.ln n.lc, .map (some nm), .map (some nb)] 92)) A er (rd :: (v.ownBlock.toList ++ N :: L.map Ent.blk)) nm Mn S := by
  have hb := below_alloc2 w8 (.cells #[.pointer (some ⟨mk, 0, none⟩), .slice n.dA n.dn n.dc, .slice n.lA n.ln n.lc, .map (some nm), .map (some nb)] 92)
  have hlt := ha.lt
  have hent := h.ents _ hmem
  have hnN := h.ne
  simp only [List.mem_append, List.mem_cons, List.not_mem_nil, or_false, not_or] at hne hnN
  have hsub : ∀ j, j ∈ rd :: (v.ownBlock.toList ++ N :: L.map Ent.blk) → j ∈ v.ownBlock.toList ++ ([rd, nm, mk] ++ N :: L.map Ent.blk) := fun j hj => by
    simp only [List.mem_append, List.mem_cons, List.not_mem_nil, or_false] at hj ⊢
    rcases hj with a | a | a | a <;> simp [a]
  refine ⟨⟨⟨(ha.alloc _).mono (fun j hj => ?_), hmk.below hb, her, fun hj => ?_⟩, Bx.new _ _ _, hm.same (hb.block _ hm.lt), hent.2.ints, hent.2.keys, hent.2.isF, ?_, ?_, ?_⟩, ⟨?_, hent.1.same (hb.block _ hent.1.lt), hent.2.ints, hent.2.isF⟩⟩
  · simp only [List.mem_append, List.mem_cons, List.not_mem_nil, or_false] at hj ⊢
    rcases hj with a | a | a | a | a | a | a <;> simp [a]
  · have hl := (hlt mk (by simp)).2
    rcases List.mem_cons.1 hj with a | a
    · omega
    rcases List.mem_cons.1 a with a | a
    · exact hne.2.1.2.2 a.symm
    rcases List.mem_cons.1 a with a | a
    · exact h1 a
    rcases List.mem_append.1 a with a | a
    · exact h.ap mk (by simpa using a) (by simp)
    rcases List.mem_cons.1 a with a | a
    · exact hnN.1.2.2 a.symm
    · exact h2 a
  · have := (hlt nb (by simp)).2
    omega
  · intro hj
    have := (hlt _ (List.mem_cons_of_mem _ (hsub _ hj))).2
    omega
  · intro hj
    have := hsub _ hj
    simp only [List.mem_append, List.mem_cons, List.not_mem_nil, or_false] at this
    rcases this with a | a | a | a
    · exact hne.1 a
    · rcases a with a | a | a
      · exact hne.2.1.1 a
      · exact hne.2.1.2.1 a
      · exact hne.2.1.2.2 a
    · exact hne.2.2.1 a
    · exact hne.2.2.2 a
  · have : nm ∈ L.map Ent.blk := List.mem_map_of_mem (f := Ent.blk) hmem
    simp [this]
theorem reads_one {w : World} {N : Nat} {u : Value} {t : TypeId} (h : Bx w N #[u] t) : Reads w (N + 1) 1 (some ⟨N, 0, none⟩) 1 [u] :=
  ⟨rfl, fun _ => ⟨_, rfl, Nat.lt_succ_self _, fun j u' hu => by
    rw [addr_add, Nat.zero_add]
    exact h.get j u' (by simpa using hu)⟩⟩
structure NS (wr : World) (B g : Nat) (A : St) (N base : Nat) (v : Value) (L : List Ent) (k mk er rd : Nat) (n : NetV) (wmV : Value) (nm : Nat) (Mn : PoK → Option Value) : Prop where
  rnd : RD wr B g A (v.ownBlock.toList ++ N :: L.map Ent.blk) mk er rd n wmV nm Mn (roundS n.devs n.ls k)
  su : Sums wr B g A N base v L (endsOf n.ls) er [rd, nm, mk]
  ls : L.map Ent.S = (List.range k).map (roundS n.devs n.ls)
theorem NS.start {wr : World} {B g : Nat} {A : St} {N base mk er rd : Nat} {n : NetV} {nm : Nat} {Mn : PoK → Option Value} (h : RD wr B g A [N] mk er rd n (.map none) nm Mn (roundS n.devs n.ls 0)) (hx : Bx wr N #[.slice none 0 0, .pointer (some ⟨g, 0, none⟩)] 85) :
    NS wr B g A N base (.slice none 0 0) [] 0 mk er rd n (.map none) nm Mn := by
  obtain ⟨n1, n2, n3⟩ := h.ne
  have hmk := h.m.ap
  simp only [List.mem_cons, List.not_mem_nil, or_false, not_or] at n2 n3 hmk
  refine ⟨h, ⟨h.m.sa.mono (fun j hj => ?_), World.ownsRow_nil _ _ _ _, fun q hq => by (cases hq), hx, fun e he => by (cases he), ?_⟩, rfl⟩
  · simp only [Value.ownBlock, Option.map_none, Option.toList_none, List.nil_append, List.map_nil, List.mem_append, List.mem_cons, List.not_mem_nil, or_false] at hj ⊢
    omega
  · simp only [List.map_nil, List.append_nil, List.mem_cons, List.not_mem_nil, or_false, not_or]
    exact ⟨Ne.symm n2, Ne.symm n3, Ne.symm hmk.2.2⟩
structure ReachM (w : World) (N B g : Nat) (A : St) (sA sc : Nat) (L : List Ent) (ks : List Pl) : Prop where
  sa : AS w B g A []
  v : A.vars = 14
  b0 : w.cell? ⟨N, 0, none⟩ = some (.slice (some ⟨sA, 0, none⟩) L.length sc)
  b1 : w.cell? ⟨N, 1, none⟩ = some (.pointer (some ⟨g, 0, none⟩))
  lt : N < w.heap.size ∧ sA < w.heap.size
  el : ∀ k e, L[k]? = some e → w.cell? ⟨sA, k, none⟩ = some (.map (some e.blk)) ∧ MapP w e.blk e.M ∧ MapOk A e.M e.S ks
  ne : 0 < L.length ∧ L.length ≤ 491521
theorem ReachM.below {w w' : World} {N B g : Nat} {A : St} {sA sc : Nat} {L : List Ent} {ks : List Pl} (h : ReachM w N B g A sA sc L ks) (hb : RowKit.Below w.heap.size w w') : ReachM w' N B g A sA sc L ks :=
  ⟨h.sa.below hb, h.v, (hb.cell (p := ⟨N, 0, none⟩) h.lt.1).trans h.b0, (hb.cell (p := ⟨N, 1, none⟩) h.lt.1).trans h.b1, ⟨Nat.lt_of_lt_of_le h.lt.1 hb.size, Nat.lt_of_lt_of_le h.lt.2 hb.size⟩,
    fun k e he => ⟨(hb.cell (p := ⟨sA, k, none⟩) h.lt.2).trans (h.el k e he).1, (h.el k e he).2.1.same (hb.block _ (h.el k e he).2.1.lt), (h.el k e he).2.2⟩, h.ne⟩
theorem Sums.reach {wr : World} {B g rb base : Nat} {A : St} {v : Value} {L : List Ent} {ks : List Pl} {more : List Nat} (h : Sums wr B g A rb base v L ks 0 more) (hv : A.vars = 14) (h0 : 0 < L.length) (hL : L.length ≤ 491521) : ∃ sA sc, ReachM wr rb B g A sA sc L ks ∧ base ≤ sA ∧ B ≤ rb ∧ ∀ e ∈ L, B ≤ e.blk := by
  obtain ⟨sA, sc, rfl, hsb, _⟩ := h.own.form (by omega)
  refine ⟨sA, sc, ⟨h.sa.mono (fun j hj => by cases hj), hv, h.bx.get 0 _ rfl, h.bx.get 1 _ rfl, ⟨h.bx.lt, (h.own.lt sA rfl).2⟩, fun k e he => ?_, h0, hL⟩, hsb, (h.sa.lt rb (by simp)).1, fun e he => (h.sa.lt e.blk (by
    simp only [List.mem_append, List.mem_cons, List.mem_map]
    exact .inr (.inr (.inr ⟨e, he, rfl⟩)))).1⟩
  have hm := h.ents e (List.mem_of_getElem? he)
  have hc := h.own.cells (g := sA) rfl k (.map (some e.blk)) (by simp [he])
  rw [addr_add, Nat.zero_add] at hc
  exact ⟨hc, hm.1, hm.2.ok⟩
structure ReachAt (w : World) (N : Nat) (ds : List Dev) (ls : List LinkV) (K : Nat) : Prop where
  ex : ∃ B g A sA sc L, ReachM w N B g A sA sc L (endsOf ls) ∧ L.map Ent.S = (List.range (K + 1)).map (roundS ds ls)
  fix : roundS ds ls (K + 1) = roundS ds ls K
  up : ∀ k, k < K → roundS ds ls (k + 1) ≠ roundS ds ls k
theorem ReachAt.below {w w' : World} {N : Nat} {ds : List Dev} {ls : List LinkV} {K : Nat} (h : ReachAt w N ds ls K) (hb : RowKit.Below w.heap.size w w') : ReachAt w' N ds ls K := by
  obtain ⟨B, g, A, sA, sc, L, h1, h2⟩ := h.ex
  exact ⟨⟨B, g, A, sA, sc, L, h1.below hb, h2⟩, h.fix, h.up⟩
theorem AS.from_ {w w' : World} {B g : Nat} {A : St} (h : AS w B g A []) (hc : ∀ i, B ≤ i → i < w.heap.size → w'.heap[i]? = w.heap[i]?) : AS w' B g A [] := by
  obtain ⟨nb, kb, ib, cap, K, T, ha, hf⟩ := h.ar
  obtain ⟨l1, l2, l3, l4, l5⟩ := ha.lts
  obtain ⟨m1, m2, m3⟩ := ha.lo
  exact ⟨⟨nb, kb, ib, cap, K, T, ha.keep (hc g m1 l1) (hc nb l5 l2) (hc kb m2 l3) (hc ib m3 l4), fun j hj => by cases hj⟩, h.nf⟩
structure ReachLo (Lo : Nat) (w : World) (N : Nat) (ds : List Dev) (ls : List LinkV) (K : Nat) : Prop where
  ex : ∃ B g A sA sc L, ReachM w N B g A sA sc L (endsOf ls) ∧ L.map Ent.S = (List.range (K + 1)).map (roundS ds ls) ∧ Lo ≤ B ∧ Lo ≤ N ∧ Lo ≤ sA ∧ ∀ e ∈ L, Lo ≤ e.blk
  fix : roundS ds ls (K + 1) = roundS ds ls K
  up : ∀ k, k < K → roundS ds ls (k + 1) ≠ roundS ds ls k
theorem ReachLo.at_ {Lo : Nat} {w : World} {N : Nat} {ds : List Dev} {ls : List LinkV} {K : Nat} (h : ReachLo Lo w N ds ls K) : ReachAt w N ds ls K := by
  obtain ⟨B, g, A, sA, sc, L, h1, h2, _⟩ := h.ex
  exact ⟨⟨B, g, A, sA, sc, L, h1, h2⟩, h.fix, h.up⟩
theorem ReachLo.keep {Lo : Nat} {w w' : World} {N : Nat} {ds : List Dev} {ls : List LinkV} {K : Nat} (h : ReachLo Lo w N ds ls K) (hs : w.heap.size ≤ w'.heap.size) (hc : ∀ i, Lo ≤ i → i < w.heap.size → w'.heap[i]? = w.heap[i]?) : ReachLo Lo w' N ds ls K := by
  obtain ⟨B, g, A, sA, sc, L, h1, h2, l1, l2, l3, l4⟩ := h.ex
  refine ⟨⟨B, g, A, sA, sc, L, ⟨h1.sa.from_ (fun i hi hl => hc i (by omega) hl), h1.v, (World.cell?_of_block (a := ⟨N, 0, none⟩) (hc N l2 h1.lt.1)).trans h1.b0, (World.cell?_of_block (a := ⟨N, 1, none⟩) (hc N l2 h1.lt.1)).trans h1.b1, ⟨Nat.lt_of_lt_of_le h1.lt.1 hs, Nat.lt_of_lt_of_le h1.lt.2 hs⟩, fun k e he => ?_, h1.ne⟩, h2, l1, l2, l3, l4⟩, h.fix, h.up⟩
  obtain ⟨q1, q2, q3⟩ := h1.el k e he
  exact ⟨(World.cell?_of_block (a := ⟨sA, k, none⟩) (hc sA l3 h1.lt.2)).trans q1, q2.same (hc _ (l4 e (List.mem_of_getElem? he)) q2.lt), q3⟩
def ReachNewP (n : NetV) (most : Nat) (P : Bdd.Fn → Prop) (W : World) (e : Ending) (W' : World) : Prop := RowKit.Below W.heap.size W W' ∧
  ((∃ N K, e = .returned (.tuple #[.pointer (some ⟨N, 0, none⟩), .int .i64 0]) ∧ ReachLo W.heap.size W' N n.devs n.ls K) ∨
   (∃ A, e = .returned (.tuple #[.pointer none, .int .i64 6]) ∧ Ext (newSt 14 most) A ∧ NwP P (newSt 14 most) A ∧ A.len = A.most))
def scanI : List Bdd.Fn → Nat → Asg → Int
  | [], _, _ => -1
  | F :: t, k, a => if F a then (k : Int) else scanI t (k + 1) a
theorem scanI_some (l : List Bdd.Fn) (k : Nat) (a : Asg) : 0 ≤ scanI l k a ↔ ∃ F ∈ l, F a = true := by
  induction l generalizing k with
  | nil => simp [scanI]
  | cons F t ih =>
    simp only [scanI, List.mem_cons, exists_eq_or_imp]
    by_cases h : F a = true
    · rw [if_pos h]; exact ⟨fun _ => .inl h, fun _ => by omega⟩
    · rw [if_neg h, ih (k + 1)]
      exact ⟨.inr, fun hh => hh.resolve_left h⟩
theorem scanI_drop {l : List Bdd.Fn} {k j : Nat} {F : Bdd.Fn} (a : Asg) (h : l[k]? = some F) : scanI (l.drop k) j a = if F a then (j : Int) else scanI (l.drop (k + 1)) (j + 1) a := by
  obtain ⟨hk, e⟩ := List.getElem?_eq_some_iff.1 h
  rw [List.drop_eq_getElem_cons hk, e]
  rfl
def roundP (ds : List Dev) (ls : List LinkV) (K : Nat) (x : Pl) (p : P4) : Int := if rightB p then scanI ((List.range (K + 1)).map fun k => roundS ds ls k x) 0 (asgOf (codeP p)) else -1
theorem roundP_some (ds : List Dev) (ls : List LinkV) (K : Nat) (x : Pl) (p : P4) : 0 ≤ roundP ds ls K x p ↔ rightB p = true ∧ roundS ds ls K x (asgOf (codeP p)) = true := by
  unfold roundP
  by_cases h : rightB p = true
  · rw [if_pos h, scanI_some]
    constructor
    · rintro ⟨F, hF, hh⟩
      obtain ⟨k, hk, rfl⟩ := List.mem_map.1 hF
      refine ⟨h, ?_⟩
      rw [List.mem_range] at hk
      clear hF
      induction K with
      | zero => have : k = 0 := by omega
                subst this; exact hh
      | succ K ih =>
        by_cases e : k = K + 1
        · subst e; exact hh
        · exact le_round ds ls K x _ (ih (by omega))
    · rintro ⟨_, hh⟩
      exact ⟨_, List.mem_map.2 ⟨K, List.mem_range.2 (by omega), rfl⟩, hh⟩
  · rw [if_neg h]
    exact ⟨fun h0 => absurd h0 (by decide), fun h0 => absurd h0.1 h⟩
theorem rounds_walk (N : Nat) (ds : List Dev) (ls : List LinkV) (K : Nat) (W : World) (h : ReachAt W N ds ls K) : Calls Tryz.prog 11 #[.pointer (some ⟨N, 0, none⟩)] W fun e W' => e = .returned (.int .i64 (K : Int)) ∧ W = W' := by
  obtain ⟨B, g, A, sA, sc, L, hm, hL⟩ := h.ex
  have hlen : L.length = K + 1 := by have := congrArg List.length hL; simpa using this
  have b0 := hm.b0
  have hne := hm.ne.2
  rw [hlen] at b0 hne
  clear h hm hL hlen
  go_enter Tryz.func11, Tryz.ntmps11
  go_wp2
  go_ret
  exact ⟨by simp only [Ending.returned.injEq, Value.int.injEq, true_and]; go_num, rfl⟩
end Go.Proofs.YtohbafigjpoijaaGreat
