/- A part of the proof: RgSteps, KMap, StepKeys, RgMap, RgSame. -/
import Derived.Test.YtpfjjpihnibnhaaRa14
import Derived.Maps.RangeWalk

set_option linter.unusedVariables false
set_option linter.unusedSimpArgs false
namespace Go.Proofs.Ytpfjjpihnibnhaa
open Go.RowKit Go.Maps Bdd

theorem plain_netE {ds : List Dev} {ls : List LinkV} (h : plainE ds ls = 0) : netE ds ls = 0 := by
  unfold plainE at h
  split at h
  · assumption
  · contradiction
structure StepV where
  src : Pl
  to_ : Pl
  id : Nat
def StepV.cells (s : StepV) : List Value := [.int .i64 s.src.1, .int .i64 s.src.2, .int .i64 s.to_.1, .int .i64 s.to_.2, .int .i64 (s.id : Int)]
theorem StepV.len (s : StepV) : s.cells.length = 5 := rfl
theorem StepV.one (s : StepV) : ∀ u ∈ s.cells, u.oneCell' = true := by
  intro u hu
  simp only [StepV.cells, List.mem_cons, List.not_mem_nil, or_false] at hu
  rcases hu with rfl | rfl | rfl | rfl | rfl <;> rfl
def StepsOk (A : St) (l : List StepV) (L : List StepT) : Prop := l.length = L.length ∧ ∀ (k : Nat) (s : StepV) (t : StepT), l[k]? = some s → L[k]? = some t → s.src = t.src ∧ s.to_ = t.to_ ∧ IsF A s.id t.fn
theorem StepsOk.nil (A : St) : StepsOk A [] [] := ⟨rfl, fun k s t h => by simp at h⟩
theorem StepsOk.ext {A A' : St} {l : List StepV} {L : List StepT} (h : StepsOk A l L) (i : Inv A) (he : Ext A A') : StepsOk A' l L :=
  ⟨h.1, fun k s t h1 h2 => ⟨(h.2 k s t h1 h2).1, (h.2 k s t h1 h2).2.1, (h.2 k s t h1 h2).2.2.ext i he⟩⟩
theorem StepsOk.snoc {A : St} {l : List StepV} {L : List StepT} (h : StepsOk A l L) {s : StepV} {t : StepT} (h1 : s.src = t.src) (h2 : s.to_ = t.to_) (h3 : IsF A s.id t.fn) : StepsOk A (l ++ [s]) (L ++ [t]) := by
  refine ⟨by simp [h.1], fun k s' t' e1 e2 => ?_⟩
  rcases Nat.lt_trichotomy k l.length with hk | hk | hk
  · rw [List.getElem?_append_left hk] at e1
    rw [List.getElem?_append_left (by have := h.1; omega)] at e2
    exact h.2 k s' t' e1 e2
  · subst hk
    rw [List.getElem?_append_right (Nat.le_refl _)] at e1
    rw [h.1, List.getElem?_append_right (Nat.le_refl _)] at e2
    simp at e1 e2
    subst e1; subst e2
    exact ⟨h1, h2, h3⟩
  · have := List.getElem?_eq_none (l := l ++ [s]) (i := k) (by simp; omega)
    rw [this] at e1; cases e1

def StepsP (w : World) (B g : Nat) (A : St) (bl : List Nat) (ds : List Dev) (ls : List LinkV) (e : Ending) (w' : World) : Prop :=
  ∃ A', Ext A A' ∧ KP B bl w w' ∧ ((∃ (v : Value) (l : List StepV), e = .returned (.tuple #[v, .int .i64 0]) ∧ RowS w' B g A' w.heap.size 76 5 v l.length (l.flatMap StepV.cells) bl ∧ StepsOk A' l (devL ds ls ds.length)) ∨
    (e = .returned (.tuple #[.slice none 0 0, .int .i64 6]) ∧ AS w' B g A' bl))

structure SD (w : World) (B g : Nat) (A : St) (bl : List Nat) (n : NetV) (wr : World) (A2 : St) (v : Value) (l : List StepV) (L : List StepT) (more : List Nat) : Prop where
  row : RowS wr B g A2 w.heap.size 76 5 v l.length (l.flatMap StepV.cells) (more ++ w.heap.size :: bl)
  kp : KP B bl w wr
  ok : StepsOk A2 l L
  ext : Ext A A2
  box : Bx wr w.heap.size #[.slice n.dA n.dn n.dc, .slice n.lA n.ln n.lc] 25

section
variable {w : World} {B g : Nat} {A : St} {bl : List Nat} {n : NetV} {wr w' : World} {A2 : St} {v : Value} {l : List StepV} {L : List StepT} {more : List Nat}

theorem SD.below (h : SD w B g A bl n wr A2 v l L more) (hb : RowKit.Below wr.heap.size wr w') : SD w B g A bl n w' A2 v l L more :=
  ⟨h.row.below hb, h.kp.trans ((h.row.sa'.mono (fun j hj => by simp [hj])).kp hb), h.ok, h.ext, h.box.below hb⟩
theorem SD.alloc (h : SD w B g A bl n wr A2 v l L more) (o : Obj) : SD w B g A bl n (wr.alloc o) A2 v l L (wr.heap.size :: more) :=
  have hb : RowKit.Below wr.heap.size wr (wr.alloc o) := (RowKit.Below.refl _ _).alloc (Nat.le_refl _) o
  ⟨h.row.alloc o, (h.below hb).kp, h.ok, h.ext, h.box.below hb⟩
theorem SD.less {more' : List Nat} (h : SD w B g A bl n wr A2 v l L more) (hs : ∀ j ∈ more', j ∈ more) : SD w B g A bl n wr A2 v l L more' :=
  ⟨h.row.less (fun j hj => by
    rcases List.mem_append.1 hj with a | a
    · exact List.mem_append_left _ (hs j a)
    · exact List.mem_append_right _ a), h.kp, h.ok, h.ext, h.box⟩
theorem SD.call (h : SD w B g A bl n wr A2 v l L more) {F : Bdd.Fn} {en : Ending} (hq : AP wr B g A2 (v.ownBlock.toList ++ (more ++ w.heap.size :: bl)) F en w') :
    ∃ A3, SD w B g A bl n w' A3 v l L more ∧ Ext A2 A3 ∧ BRes A3 F en ∧ ∀ j ∈ more, w'.heap[j]? = wr.heap[j]? := by
  obtain ⟨A3, h1, h2, h3, h4⟩ := h.row.call hq
  exact ⟨A3, ⟨h1, h.kp.trans (h3.mono (fun j hj => by simp [hj])), h.ok.ext h.row.sa.inv h2, h.ext.trans h2, h.box.kp h3 (by simp)⟩, h2, h4, fun j hj => h3.same j (by simp [hj])⟩
theorem SD.append {v5 : Value} {s : StepV} {t : StepT} (h : SD w B g A bl n wr A2 v l L more) (hown : w'.ownsRow w.heap.size 76 5 v5 (l.length + 1) (l.flatMap StepV.cells ++ s.cells)) (hg : wr.grownBy w' v.ownBlock) (hat : v5.ownBlock = v.ownBlock ∨ v5.ownBlock = some wr.heap.size)
    (h1 : s.src = t.src) (h2 : s.to_ = t.to_) (h3 : IsF A2 s.id t.fn) : SD w B g A bl n w' A2 v5 (l ++ [s]) (L ++ [t]) more ∧ ∀ j ∈ more, w'.heap[j]? = wr.heap[j]? := by
  obtain ⟨r1, r2⟩ := h.row.append hown hg hat
  refine ⟨⟨?_, h.kp.trans (r2.mono (fun j hj => by simp [hj])), h.ok.snoc h1 h2 h3, h.ext, h.box.kp r2 (by simp)⟩, fun j hj => r2.same j (by simp [hj])⟩
  have e1 : (l ++ [s]).length = l.length + 1 := by simp
  have e2 : (l ++ [s]).flatMap StepV.cells = l.flatMap StepV.cells ++ s.cells := by simp
  rw [e1, e2]
  exact r1
theorem SD.start (h : AS w B g A bl) (n : NetV) : SD w B g A bl n (w.alloc (.cells #[.slice n.dA n.dn n.dc, .slice n.lA n.ln n.lc] 25)) A (.slice none 0 0) [] [] [] :=
  ⟨RowS.nil (h.alloc _) _ _ _, h.kp ((RowKit.Below.refl _ _).alloc (Nat.le_refl _) _), StepsOk.nil _, Ext.refl h.inv, Bx.new _ _ _⟩
theorem SD.low (h : SD w B g A bl n wr A2 v l L more) : RowKit.Below B w wr := h.kp.low
end

theorem Try.infoStep : (Try.prog.info? 76).map (fun i => (i.zero, i.size, i.bytes)) = some (some (.agg #[.int .i64 0, .int .i64 0, .int .i64 0, .int .i64 0, .int .i64 0]), 5, 40) := by kernel_rfl

theorem below_alloc2 (w : World) (o : Obj) : RowKit.Below w.heap.size w (w.alloc o) := (RowKit.Below.refl _ _).alloc (Nat.le_refl _) o
set_option maxRecDepth 100000 in
set_option maxHeartbeats 8000000 in
theorem steps_walk (w : World) (B g : Nat) (A : St) (bl : List Nat) (n : NetV) (h : AS w B g A bl) (hv : A.vars = 14) (hn : NetAt w B n) (hp : plainE n.devs n.ls = 0) :
    Calls Try.prog 25 #[n.val, .pointer (some ⟨g, 0, none⟩)] w (StepsP w B g A bl n.devs n.ls) := by
  obtain ⟨i0, hi0, hz0, hz1, hz2⟩ := info_parts Try.infoStep
  have HS0 := hide (SD.start h n)
  have HV := hide hv
  have HN := hide hn
  have HP := hide hp
  have hdl := hn.dlen
  clear h hv hn hp
  go_enter Try.func25, Try.ntmps25
  have HNA := hide (fun (w' : World) (hb : RowKit.Below B w w') => show NetAt w' B n from HN.out.below hb (Nat.le_refl _))
  have HDK := hide (fun (d : DevV) (hd : d ∈ n.ds) => net_devs_ok (plain_netE HP.out) d.dev (List.mem_map_of_mem hd))
  have HLL := hide (show n.ln ≤ 9223372036854775807 from by have := HN.out.cl; unfold maxLen at this; omega)
  have hd10 : n.dn ≤ 10 := by have := (netE_ok (plain_netE HP.out)).dl; simp only [NetV.devs, List.length_map] at this; omega
  obtain ⟨dA, dn, dc, ds, lA, ln, lc, ls⟩ := n
  simp only [NetV.val, NetV.devs] at *
  go_wp2_with fail
  generalize World.alloc w _ = w1 at *
  go_loopw [6, 20] (fun u i wr => ∃ (k : Nat) (A2 : St) (l : List StepV) (v : Value), k ≤ dn ∧ i = .int .i64 (k : Int) ∧ u = v ∧ l.length ≤ k * 16 ∧ Hid (SD w B g A bl ⟨dA, dn, dc, ds, lA, ln, lc, ls⟩ wr A2 v l (devL (ds.map DevV.dev) ls k) [])) (fun _ i _ => dn - (intOf i).toNat)
  case atStart => exact ⟨0, A, [], _, Nat.zero_le _, rfl, rfl, by simp, HS0⟩
  case round =>
    clear HS0
    obtain ⟨k, A2, l, v, hk, rfl, rfl, hll, HS⟩ := hrel
    generalize u6 = v at *
    by_cases hlt : k < dn
    · obtain ⟨r, hr⟩ : ∃ r, ds[k]? = some r := ⟨_, List.getElem?_eq_getElem (by omega)⟩
      have HR := hide hr
      have hdr : (ds.map DevV.dev)[k]? = some r.dev := by rw [List.getElem?_map, hr]; rfl
      have HDR := hide hdr
      obtain ⟨b, o, rfl, _, _⟩ := HN.out.ds.2 (by show 0 < dn; omega)
      obtain ⟨_, q0, q1, q2, q3, q4, q5, q6⟩ := dev_get (HNA.out wr HS.out.low).ds hr
      have hok := HDK.out r (List.mem_of_getElem? hr)
      have HOK := hide hok
      clear hr hdr hok
      obtain ⟨nm, kd, ad, pl, bA, bn, bc, bs, rA, rn, rc, rs, tA, tn, tc, ts⟩ := r
      simp only at q0 q1 q2 q3 q4 q5 q6
      have HSA := hide (HS.out.alloc (.cells #[.string nm, .int .i64 kd, .int .i64 ad, .int .u8 pl, .slice bA bn bc, .slice rA rn rc, .slice tA tn tc] 35))
      have HDX := hide (Bx.new wr #[.string nm, .int .i64 kd, .int .i64 ad, .int .u8 pl, .slice bA bn bc, .slice rA rn rc, .slice tA tn tc] 35)
      clear HS
      by_cases hk2 : kd = 2
      case neg =>
        go_wp2_with fail
        go_roundw
        case rel => exact ⟨k + 1, A2, l, v, by omega, by go_num, rfl, by omega, hide (by rw [devL_no HDR.out (by exact hk2)]; exact HSA.out.less (by simp))⟩
        case measure => simp [intOf]; omega
      subst hk2
      go_wp2_with fail
      clear q0 q1 q2 q3 q4 q5 q6
      generalize World.alloc wr _ = w2 at *
      generalize wr.heap.size = Nd at *
      have hrl := HOK.out.rl
      have htc := HOK.out.tc
      simp only [DevV.dev] at hrl htc
      have HTC := hide htc
      have hdn := (HNA.out w2 HSA.out.low).dok _ (List.mem_of_getElem? HR.out)
      have hrl2 := hdn.rs
      have HTN := hide (show tn ≤ 9223372036854775807 ∧ tn ≤ tc from by have := hdn.ct; unfold maxLen at this; simp only at this; omega)
      have HTK := hide hdn.tok
      simp only at hrl2
      have hrl3 : rn ≤ 8 := by have := hrl2.1; omega
      refine (as_acl HSA.out.row.sa (by rw [HSA.out.ext.vars, HV.out]; exact Nat.le_refl _) rs rA rn rc hrl3 hrl2).mono ?_
      clear hrl htc hrl2 hrl3 hdn
      rintro e w3 hq
      obtain ⟨A3, hs3, hx3, hres, hsm⟩ := HSA.out.call hq
      have HS3 := hide hs3
      have HD3 := hide (HDX.out.same (hsm Nd (by simp)))
      clear hq hs3 hx3 hsm HSA HDX
      rcases hres with ⟨ra, rfl, hisf⟩ | ⟨rfl, hfull⟩
      case inr =>
        clear hfull
        have HF := hide (show StepsP w B g A bl (ds.map DevV.dev) ls (.returned (.tuple #[.slice none 0 0, .int .i64 6])) w3 from ⟨_, HS3.out.ext, HS3.out.kp, .inr ⟨rfl, HS3.out.row.sa'.mono (fun j hj => by simp [hj])⟩⟩)
        go_wp2
        go_ret2
        exact HF.out
      have HRA := hide hisf
      clear hisf
      go_wp2_with fail
      go_loopw [6, 38] (fun u i wr => ∃ (q : Nat) (A4 : St) (l4 : List StepV) (v4 : Value), q ≤ 4 ∧ i = .int .i64 (q : Int) ∧ u = v4 ∧ l4.length ≤ k * 16 + q * 4 ∧ Hid (SD w B g A bl ⟨some ⟨b, o, none⟩, dn, dc, ds, lA, ln, lc, ls⟩ wr A4 v4 l4 (devL (ds.map DevV.dev) ls k ++ portL ls k ts rs q) [Nd]) ∧ Hid (IsF A4 ra (aclF rs)) ∧ Hid (Bx wr Nd #[.string nm, .int .i64 2, .int .i64 ad, .int .u8 pl, .slice bA bn bc, .slice rA rn rc, .slice tA tn tc] 35)) (fun _ i _ => 4 - (intOf i).toNat)
      case atStart => exact ⟨0, A3, l, v, by omega, rfl, rfl, by omega, hide (by simpa [portL] using HS3.out), HRA, HD3⟩
      case round =>
        clear HS3 HRA HD3
        obtain ⟨q, A4, l4, v4, hq4, rfl, rfl, hl4, HS, HRA, HDX⟩ := hrel
        generalize u6 = v4 at *
        by_cases hlt4 : q < 4
        · have c0 : wr.cell? ⟨w.heap.size, 0, none⟩ = some (.slice (some ⟨b, o, none⟩) dn dc) := HS.out.box.get 0 _ rfl
          have c1 : wr.cell? ⟨w.heap.size, 1, none⟩ = some (.slice lA ln lc) := HS.out.box.get 1 _ rfl
          obtain ⟨PE, hPE⟩ : ∃ PE, peerF ls ((k : Int), (q : Int)) = PE := ⟨_, rfl⟩
          have HPC := hide (peer_any (some ⟨b, o, none⟩) dn dc lA ln lc ls (k : Int) (q : Int) wr HLL.out (HN.out.below HS.out.low (Nat.le_of_lt HS.out.row.sa.hB)).ls)
          rw [hPE] at HPC
          have HPE := hide hPE
          clear hPE
          go_wp2_with fail
          refine HPC.out.mono ?_
          clear HPC c0 c1
          rintro e w5 ⟨rfl, hb⟩
          have HS5 := hide (HS.out.below hb)
          have HDX5 := hide (HDX.out.below hb)
          clear hb HS HDX
          cases PE with
          | none =>
            simp only [peerV]
            have HSB := hide (HS5.out.alloc (.cells #[.int .i64 0, .int .i64 0] 41))
            have HDB := hide (HDX5.out.below (below_alloc2 w5 (.cells #[.int .i64 0, .int .i64 0] 41)))
            clear HS5 HDX5
            go_wp2_with fail
            go_roundw
            case rel => exact ⟨q + 1, A4, l4, v4, by omega, by go_num, rfl, by omega, hide (by rw [portL_none HPE.out]; exact HSB.out.less (by simp)), HRA, HDB⟩
            case measure => simp [intOf]; omega
          | some to_ =>
            obtain ⟨t1, t2⟩ := to_
            simp only [peerV]
            have HSB := hide (HS5.out.alloc (.cells #[.int .i64 t1, .int .i64 t2] 41))
            have HDB := hide (HDX5.out.below (below_alloc2 w5 (.cells #[.int .i64 t1, .int .i64 t2] 41)))
            have HTB := hide (Bx.new w5 #[.int .i64 t1, .int .i64 t2] 41)
            have d6 := fun o' => (HDX5.out.below (below_alloc2 w5 o')).get 6 _ rfl
            clear HS5 HDX5
            go_wp2_with fail
            clear d6
            generalize World.alloc w5 _ = w6 at *
            generalize w5.heap.size = Nt at *
            refine (as_fib HSB.out.row.sa (by rw [HSB.out.ext.vars, HV.out]; exact Nat.le_refl _) ts tA tn tc (q : Int) HTN.out.1 HTN.out.2 ((HN.out.below HSB.out.low (Nat.le_of_lt HSB.out.row.sa.hB)).dok _ (List.mem_of_getElem? HR.out)).ts HTK.out HTC.out).mono ?_
            rintro e w7 hq
            obtain ⟨A5, hs3, hx3, hres, hsm⟩ := HSB.out.call hq
            have HS7 := hide hs3
            have HD7 := hide (HDB.out.same (hsm Nd (by simp)))
            have HT7 := hide (HTB.out.same (hsm Nt (by simp)))
            have HRA7 := hide (HRA.out.ext HSB.out.row.sa.inv hx3)
            clear hq hs3 hx3 hsm HSB HDB HTB HRA
            rcases hres with ⟨rf, rfl, hisf⟩ | ⟨rfl, hfull⟩
            case inr =>
              clear hfull
              have HF := hide (show StepsP w B g A bl (ds.map DevV.dev) ls (.returned (.tuple #[.slice none 0 0, .int .i64 6])) w7 from ⟨_, HS7.out.ext, HS7.out.kp, .inr ⟨rfl, HS7.out.row.sa'.mono (fun j hj => by simp [hj])⟩⟩)
              go_wp2
              go_ret2
              exact HF.out
            have HRF := hide hisf
            clear hisf
            go_wp2_with fail
            refine (as_and HS7.out.row.sa HRF.out HRA7.out).mono ?_
            rintro e w8 hq
            obtain ⟨A6, hs3, hx3, hres, hsm⟩ := HS7.out.call hq
            have HS8 := hide hs3
            have HD8 := hide (HD7.out.same (hsm Nd (by simp)))
            have HT8 := hide (HT7.out.same (hsm Nt (by simp)))
            have HRA8 := hide (HRA7.out.ext HS7.out.row.sa.inv hx3)
            clear hq hs3 hx3 hsm HS7 HD7 HT7 HRA7 HRF
            rcases hres with ⟨rg, rfl, hisf⟩ | ⟨rfl, hfull⟩
            case inr =>
              clear hfull
              have HF := hide (show StepsP w B g A bl (ds.map DevV.dev) ls (.returned (.tuple #[.slice none 0 0, .int .i64 6])) w8 from ⟨_, HS8.out.ext, HS8.out.kp, .inr ⟨rfl, HS8.out.row.sa'.mono (fun j hj => by simp [hj])⟩⟩)
              go_wp2
              go_ret2
              exact HF.out
            have HRG := hide hisf
            clear hisf
            go_wp2_with fail
            go_loopw [6, 72] (fun u i wr => ∃ (j : Nat) (l6 : List StepV) (v6 : Value), j ≤ 4 ∧ i = .int .i64 (j : Int) ∧ u = v6 ∧ l6.length ≤ k * 16 + q * 4 + j ∧ Hid (SD w B g A bl ⟨some ⟨b, o, none⟩, dn, dc, ds, lA, ln, lc, ls⟩ wr A6 v6 l6 ((devL (ds.map DevV.dev) ls k ++ portL ls k ts rs q) ++ inL k (t1, t2) (andF (portF ts (q : Int)) (aclF rs)) j) [Nt, Nd]) ∧ Hid (Bx wr Nd #[.string nm, .int .i64 2, .int .i64 ad, .int .u8 pl, .slice bA bn bc, .slice rA rn rc, .slice tA tn tc] 35) ∧ Hid (Bx wr Nt #[.int .i64 t1, .int .i64 t2] 41)) (fun _ i _ => 4 - (intOf i).toNat)
            case atStart => exact ⟨0, l4, v4, by omega, rfl, rfl, by omega, hide (by simpa [inL] using HS8.out), HD8, HT8⟩
            case round =>
              clear HS8 HD8 HT8
              obtain ⟨j, l6, v6, hj4, rfl, rfl, hl6, HS, HDX, HTX⟩ := hrel
              generalize u6 = v6 at *
              by_cases hltj : j < 4
              · have x0 : wr.cell? ⟨Nt, 0, none⟩ = some (.int .i64 t1) := HTX.out.get 0 _ rfl
                have x1 : wr.cell? ⟨Nt, 1, none⟩ = some (.int .i64 t2) := HTX.out.get 1 _ rfl
                have hb := below_alloc2 wr (.cells #[.int .i64 (k : Int), .int .i64 (j : Int), .int .i64 t1, .int .i64 t2, .int .i64 (rg : Int)] 76)
                have HSL := hide (HS.out.below hb)
                have HDL := hide (HDX.out.below hb)
                have HTL := hide (HTX.out.below hb)
                have HLIT := hide (show Reads (wr.alloc (.cells #[.int .i64 (k : Int), .int .i64 (j : Int), .int .i64 t1, .int .i64 t2, .int .i64 (rg : Int)] 76)) (wr.heap.size + 1) 5 (some ⟨wr.heap.size, 0, none⟩) 1 (StepV.cells ⟨((k : Int), (j : Int)), (t1, t2), rg⟩) from
                  ⟨rfl, fun _ => ⟨_, rfl, Nat.lt_succ_self _, fun j u hu => by
                    rw [addr_add, Nat.zero_add, cell_of_row _ _ _ _ _ _ (heap_alloc_new wr _)]
                    simpa [StepV.cells] using hu⟩⟩)
                have hbs := HS.out.kp.low.size
                clear hb HS HDX HTX
                go_wp2_with (at_builtin; refine wpList_append_any _ rfl (.tmp 75) (.tmp 82) 71 rfl w.heap.size 76 i0 _ 5 40 Try.underlying71 hi0 hz0 hz1 hz2 rfl (by omega) v6 l6.length (l6.flatMap StepV.cells) rfl HSL.out.row.own (wr.heap.size + 1) (some ⟨wr.heap.size, 0, none⟩) 1 1 (StepV.cells ⟨((k : Int), (j : Int)), (t1, t2), rg⟩) rfl HLIT.out (StepV.one _) (by simp only [maxLen]; omega) (by omega) (by simp; omega) ?_; intro v9 w9 hown9 hg9 hat9; have HT := hide (And.intro hown9 (And.intro hg9 hat9)); clear hown9 hg9 hat9)
                have HS9 := hide (SD.append (s := ⟨((k : Int), (j : Int)), (t1, t2), rg⟩) (t := ⟨((k : Int), (j : Int)), (t1, t2), andF (portF ts (q : Int)) (aclF rs)⟩) HSL.out HT.out.1 HT.out.2.1 HT.out.2.2 rfl rfl HRG.out)
                go_roundw
                case rel => exact ⟨j + 1, l6 ++ [⟨((k : Int), (j : Int)), (t1, t2), rg⟩], v9, by omega, by go_num, rfl, by simp; omega, hide (by rw [inL_succ, ← List.append_assoc]; exact HS9.out.1), hide (HDL.out.same (HS9.out.2 Nd (by simp))), hide (HTL.out.same (HS9.out.2 Nt (by simp)))⟩
                case measure => simp [intOf]; omega
              · obtain rfl : j = 4 := by omega
                go_wp2_with fail
                go_roundw
                case rel => exact ⟨q + 1, A6, l6, v6, by omega, by go_num, rfl, by omega, hide (by rw [portL_some HPE.out, ← List.append_assoc]; exact HS.out.less (by simp)), HRA8, HDX⟩
                case measure => simp [intOf]; omega
        · have hq5 : q = 4 := by omega
          subst hq5
          go_wp2_with fail
          go_roundw
          case rel => exact ⟨k + 1, A4, l4, v4, by omega, by go_num, rfl, by omega, hide (by rw [devL_yes HDR.out rfl]; exact HS.out.less (by simp))⟩
          case measure => simp [intOf]; omega
    · obtain rfl : k = dn := by omega
      have HF := hide (show StepsP w B g A bl (ds.map DevV.dev) ls (.returned (.tuple #[v, .int .i64 0])) wr from ⟨_, HS.out.ext, HS.out.kp, .inl ⟨v, l, rfl, HS.out.row.less (fun j hj => by simp [hj]), by have := HS.out.ok; rwa [show (ds.map DevV.dev).length = k from by simp [hdl]]⟩⟩)
      go_wp2
      go_ret2
      exact HF.out
end Go.Proofs.Ytpfjjpihnibnhaa

set_option linter.unusedVariables false
set_option linter.unusedSimpArgs false
namespace Go.Proofs.Ytpfjjpihnibnhaa
open Go.RowKit Go.Maps Go.WideElems

structure KeysAny {α : Type} (P : Program) (kt : TypeId) (key : α → Value) (dom : α → Prop) : Prop where
  law : Keyed P kt
  total : ∀ a, dom a → ∃ kl, keyOf P kt (key a) = some kl
  inj : ∀ a a', key a = key a' → a = a'

section
variable {α : Type} {P : Program} {kt : TypeId} {key : α → Value} {dom : α → Prop} {w w' : World} {b : Nat} {M : α → Option Value}

theorem MapIs.sizeA (h : MapIs P kt key dom w b M) (K : KeysAny P kt key dom) (L : List α) (hL : L.length < maxLen) (hall : ∀ a, dom a → (M a).isSome = true → a ∈ L) : ∃ D, w.ownsMap P kt heldR b (Maps.size D) D ∧ Maps.size D < maxLen ∧
    (∀ a, dom a → ∀ kl, keyOf P kt (key a) = some kl → Maps.has D kl = (M a).isSome ∧ ∀ z, D.atKey kl (.held z) = .held ((M a).getD z)) ∧
    (∀ kl, Maps.has D kl = true → ∃ a, dom a ∧ keyOf P kt (key a) = some kl) := by
  obtain ⟨D, h1, h2, h3⟩ := h
  refine ⟨D, h1, ?_, h2, h3⟩
  have ht := h1.tidy K.law
  obtain ⟨es, rfl, hp⟩ := ht
  have hk : ∀ p ∈ es, WideAt.IsKeyLit p.1 := by
    obtain ⟨es', clock, _, F, _, hD⟩ := h1
    simp only [DataW.map.injEq] at hD
    intro p hpm
    rw [hD] at hpm
    have hm := (Go.WideShapes.sorted_perm _).mem_iff.1 hpm
    obtain ⟨v, hv⟩ := fit_keys F p hm
    exact K.law.key hv
  have hsz : es.length ≤ (L.filterMap fun a => keyOf P kt (key a)).length := by
    have := length_le_of_subset' (es.map (·.1)) (L.filterMap fun a => keyOf P kt (key a)) (by
      rw [List.nodup_iff_pairwise_ne, List.pairwise_map]; exact hp) (fun kl hkl => by
      obtain ⟨p, hpm, rfl⟩ := List.mem_map.1 hkl
      have hh : Maps.has (.map es) p.1 = true := by
        rw [Maps.has_eq, List.any_eq_true]
        exact ⟨p, hpm, WideAt.sameKey_self (hk p hpm)⟩
      obtain ⟨a, ha, hka⟩ := h3 p.1 hh
      exact List.mem_filterMap.2 ⟨a, hall a ha ((h2 a ha _ hka).1.symm.trans hh), hka⟩)
    simpa using this
  have := List.length_filterMap_le (fun a => keyOf P kt (key a)) L
  show es.length < maxLen
  omega

theorem MapIs.lookA {t et : TypeId} (h : MapIs P kt key dom w b M) (K : KeysAny P kt key dom) (ht : P.underlying t = some (.map kt et)) {z : Value} (hz : (zeroValue et).run P w = .ok z w) {a : α} (ha : dom a) :
    (Instr.lookup t (.map (some b)) (key a) true).run P w = .ok (.tuple #[(M a).getD z, .bool (M a).isSome]) w ∧ (Instr.lookup t (.map (some b)) (key a) false).run P w = .ok ((M a).getD z) w := by
  obtain ⟨D, h1, h2, h3⟩ := h
  obtain ⟨kl, hkl⟩ := K.total a ha
  obtain ⟨e1, e2⟩ := h2 a ha kl hkl
  obtain ⟨v, ps, hrun, hv⟩ := h1.look_ok K.law ht hz (zd := .held z) (zp := []) rfl hkl
  obtain ⟨v', ps', hrun', hv'⟩ := h1.lookup K.law ht hz (zd := .held z) (zp := []) rfl hkl
  rw [e2 z] at hv hv'
  simp only [heldR, Option.some.injEq, Prod.mk.injEq, DataW.held.injEq] at hv hv'
  rw [hrun, hrun', e1, hv.1, hv'.1]
  exact ⟨rfl, rfl⟩

theorem MapIs.storeA [DecidableEq α] {t et : TypeId} (h : MapIs P kt key dom w b M) (K : KeysAny P kt key dom) (L : List α) (hL : L.length < maxLen) (hall : ∀ a, dom a → (M a).isSome = true → a ∈ L) (ht : P.underlying t = some (.map kt et)) {a : α} (ha : dom a) (v : Value) :
    ∃ w', (Instr.mapUpdate t (.map (some b)) (key a) v).run P w = .ok () w' ∧ MapIs P kt key dom w' b (putM M a v) ∧ w.mapTurned w' b := by
  obtain ⟨D, h1, hn, h2, h3⟩ := h.sizeA K L hL hall
  obtain ⟨kl, hkl⟩ := K.total a ha
  obtain ⟨w', hrun, r1, r2⟩ := h1.store K.law ht hn hkl (val := v) (d := .held v) (ps := []) rfl
  have hD : IsMap D := (h1.tidy K.law).isMap
  refine ⟨w', hrun, ⟨D.put kl (.held v), ownsMap_tight r1, ?_, ?_⟩, r2⟩
  · intro a' ha' kl' hkl'
    by_cases e : a' = a
    · subst e
      have : kl' = kl := Option.some.inj (hkl'.symm.trans hkl)
      subst this
      rw [putM_same]
      exact ⟨Maps.has_put_same hD (K.law.key hkl) _, fun z => Maps.atKey_put_same hD (K.law.key hkl) _ _⟩
    · rw [putM_other M v e]
      have hne : kl' ≠ kl := fun ek => by subst ek; exact e (K.inj _ _ (K.law.inj hkl' hkl))
      rw [Maps.has_put_other hne]
      obtain ⟨q1, q2⟩ := h2 a' ha' kl' hkl'
      exact ⟨q1, fun z => by rw [Maps.atKey_put_other hne]; exact q2 z⟩
  · intro kl' hkl'
    by_cases e : kl' = kl
    · subst e; exact ⟨a, ha, hkl⟩
    · rw [Maps.has_put_other e] at hkl'
      exact h3 kl' hkl'

end

section
variable {α : Type} {P : Program} {kt : TypeId} {key : α → Value} {dom : α → Prop} {b : Nat} {M : α → Option Value} (w : World)

end
end Go.Proofs.Ytpfjjpihnibnhaa

set_option linter.unusedVariables false
set_option linter.unusedSimpArgs false
namespace Go.Proofs.Ytpfjjpihnibnhaa
open Go.RowKit Go.Maps Go.WideElems

abbrev PoK := Int × Int
def poVal (k : PoK) : Value := .agg #[.int .i64 k.1, .int .i64 k.2]
def poDom (k : PoK) : Prop := i64ok k.1 ∧ i64ok k.2

theorem poVal_inj (a b : PoK) (h : poVal a = poVal b) : a = b := by
  obtain ⟨a0, a1⟩ := a
  obtain ⟨b0, b1⟩ := b
  simp only [poVal, Value.agg.injEq, Array.mk.injEq, List.cons.injEq, Value.int.injEq, true_and, and_true] at h
  obtain ⟨rfl, rfl⟩ := h
  rfl

theorem i64ok_wf {x : Int} (h : i64ok x) : (Lit.int .i64 x).wf = true := by
  have hx : -9223372036854775808 ≤ x ∧ x ≤ 9223372036854775807 := h
  simpa [Lit.wf, IntKind.min, IntKind.max, IntKind.signed, IntKind.bits] using hx

theorem pair_key {P : Program} {k i : TypeId} {f1 f2 : Field} (hu : P.underlying k = some (.struct #[f1, f2])) (h1 : f1.type = i ∧ f1.offset = 0 ∧ f1.name ≠ "_") (h2 : f2.type = i ∧ f2.offset = 1 ∧ f2.name ≠ "_")
    (hi : P.underlying i = some (.int .i64)) (hk : P.keyType k = true) (hc : P.cellsOf k = 2) (hci : P.cellsOf i = 1) (hm : ∃ m, P.types.size = m + 1) (t : PoK) (ht : poDom t) : ∃ kl, keyOf P k (poVal t) = some kl := by
  obtain ⟨a, b⟩ := t
  have w1 := i64ok_wf ht.1
  have w2 := i64ok_wf ht.2
  obtain ⟨m, hm⟩ := hm
  unfold keyOf
  rw [hu]
  simp [hk, Value.formed, hu, poVal, hc, Value.cells, hm, Program.keyLits, hci, hi, w1, w2, h1, h2]

end Go.Proofs.Ytpfjjpihnibnhaa

set_option linter.unusedVariables false
set_option linter.unusedSimpArgs false
namespace Go.Proofs.Ytpfjjpihnibnhaa
open Go.RowKit Go.Maps Go.WideElems

def RangeIs {α : Type} (P : Program) (kt : TypeId) (key : α → Value) (dom : α → Prop) (w : World) (b r : Nat) (M : α → Option Value) (left : α → Bool) (cnt : Nat) : Prop :=
  ∃ D lf, w.ranges P kt heldR b r (Maps.size D) D lf cnt ∧
    (∀ a, dom a → ∀ kl, keyOf P kt (key a) = some kl → Maps.has D kl = (M a).isSome ∧ ∀ z, D.atKey kl (.held z) = .held ((M a).getD z)) ∧
    (∀ kl, Maps.has D kl = true → ∃ a, dom a ∧ keyOf P kt (key a) = some kl) ∧
    (∀ a, dom a → ∀ kl, keyOf P kt (key a) = some kl → lf kl = left a) ∧ (∀ kl, lf kl = true → Maps.has D kl = true)

section
variable {α : Type} {P : Program} {kt : TypeId} {key : α → Value} {dom : α → Prop} {w w' : World} {b r cnt : Nat} {M : α → Option Value} {left : α → Bool}

theorem RangeIs.kept {row : Option Nat} (h : RangeIs P kt key dom w b r M left cnt) (hg : w.grownBy w' row) (hb : some b ≠ row) (hr : some r ≠ row) : RangeIs P kt key dom w' b r M left cnt := by
  obtain ⟨D, lf, h1, h2⟩ := h
  exact ⟨D, lf, h1.kept hg hb hr, h2⟩
theorem RangeIs.below (h : RangeIs P kt key dom w b r M left cnt) (hb : RowKit.Below w.heap.size w w') : RangeIs P kt key dom w' b r M left cnt :=
  h.kept (row := none) ⟨hb.os, hb.tape, hb.output, hb.size, fun k hk _ => hb.block k hk⟩ (by simp) (by simp)
theorem RangeIs.left_eq (h : RangeIs P kt key dom w b r M left cnt) : w.rangeLeft b r = cnt := by
  obtain ⟨D, lf, h1, h2⟩ := h
  exact h1.left_eq
theorem RangeIs.lt (h : RangeIs P kt key dom w b r M left cnt) : r < w.heap.size := by
  obtain ⟨D, lf, h1, h2⟩ := h
  exact h1.lt

theorem MapIs.range {t et : TypeId} (h : MapIs P kt key dom w b M) (K : KeysAny P kt key dom) (ht : P.underlying t = some (.map kt et)) :
    ∃ w' cnt, (Instr.range t (.map (some b))).run P w = .ok (.pointer (some ⟨w.heap.size, 0, none⟩)) w' ∧ RangeIs P kt key dom w' b w.heap.size M (fun a => (M a).isSome) cnt ∧ w.grownBy w' none ∧ w'.heap.size = w.heap.size + 1 := by
  obtain ⟨D, h1, h2, h3⟩ := h
  obtain ⟨w', hrun, hrg, hg, hs⟩ := h1.range K.law ht
  exact ⟨w', _, hrun, ⟨D, _, hrg, h2, h3, fun a ha kl hkl => (h2 a ha kl hkl).1, fun _ h => h⟩, hg, hs⟩

theorem RangeIs.next [DecidableEq α] (h : RangeIs P kt key dom w b r M left cnt) (K : KeysAny P kt key dom) (ty : TypeId) :
    (cnt = 0 ∧ (∀ a, dom a → left a = false) ∧ (Instr.next (.pointer (some ⟨r, 0, none⟩)) false ty).run P w = .ok (.tuple #[.bool false]) w) ∨
    ∃ a v w' cnt', dom a ∧ left a = true ∧ M a = some v ∧ (Instr.next (.pointer (some ⟨r, 0, none⟩)) false ty).run P w = .ok (.tuple #[.bool true, key a, v]) w' ∧
      RangeIs P kt key dom w' b r M (fun x => left x && decide (x ≠ a)) cnt' ∧ cnt' < cnt ∧ w.grownBy w' (some r) ∧ w'.heap.size = w.heap.size ∧ (Instr.entry (.pointer (some ⟨r, 0, none⟩))).run P w' = .ok (.tuple #[key a, v]) w' := by
  obtain ⟨D, lf, h1, h2, h3, h4, h5⟩ := h
  rcases h1.next K.law ty with ⟨e1, e2, e3⟩ | ⟨kv, v, kl, y, w', cnt', q1, q2, q3, q4, q5, q6, q7, q8, q9, q10⟩
  · refine .inl ⟨e1, fun a ha => ?_, e3⟩
    obtain ⟨kl, hkl⟩ := K.total a ha
    rw [← h4 a ha kl hkl, e2 kl]
  · obtain ⟨a, ha, hka⟩ := h3 kl (h5 kl q2)
    obtain rfl : kv = key a := K.law.inj q1 hka
    obtain ⟨r1, r2⟩ := h2 a ha kl hka
    have hM : (M a).isSome = true := by rw [← r1, h5 kl q2]
    obtain ⟨u, hu⟩ := Option.isSome_iff_exists.1 hM
    have hv : v = u := by
      have e1 := q4 (.held v)
      rw [r2 v, hu] at e1
      simp only [heldR, Option.some.injEq] at q3
      rw [← q3] at e1
      simp only [Option.getD_some, DataW.held.injEq] at e1
      exact e1.symm
    subst hv
    refine .inr ⟨a, v, w', cnt', ha, by rw [← h4 a ha kl hka]; exact q2, hu, q5, ⟨D, _, q6, h2, h3, fun x hx kx hkx => ?_, fun k hk => ?_⟩, q7, q8, q9, q10⟩
    · rw [h4 x hx kx hkx]
      congr 1
      by_cases e : x = a
      · subst e
        obtain rfl : kx = kl := Option.some.inj (hkx.symm.trans hka)
        simp [WideAt.sameKey_self (K.law.key hka)]
      · have hne : kx ≠ kl := fun ek => by subst ek; exact e (K.inj _ _ (K.law.inj hkx hka))
        cases hs : kx.sameKey kl
        · simp [e]
        · exact absurd (WideAt.sameKey_eq hs) hne
    · simp only [Bool.and_eq_true] at hk
      exact h5 k hk.1
end

section
variable {α : Type} {P : Program} {kt : TypeId} {key : α → Value} {dom : α → Prop} {b r cnt : Nat} {M : α → Option Value} {left : α → Bool} (w : World)

theorem wpList_rangeM {ops : Array Oper} {rest : List Oper} {o : Oper} {a : Act} {Q : Exit → Act → World → Prop} (hg : o.guard = none) (m : Operand) (t : TypeId) (hop : o.op = Op.range t m) (et : TypeId) (K : KeysAny P kt key dom) (ht : P.underlying t = some (.map kt et))
    (hm : a.eval m = .map (some b)) (h : MapIs P kt key dom w b M)
    (hK : ∀ w' cnt, RangeIs P kt key dom w' b w.heap.size M (fun a => (M a).isSome) cnt → w.grownBy w' none → w'.heap.size = w.heap.size + 1 → wpList P ops Q rest (a.put o.dst (.pointer (some ⟨w.heap.size, 0, none⟩))) w') :
    wpList P ops Q (o :: rest) a w := by
  refine wpList_plain hg fun K' hK' => ?_
  obtain ⟨w', cnt, hrun, r1, r2, r3⟩ := h.range K ht
  unfold Oper.wp
  simp [execOp, hop, hm, hrun, Result.andThen]
  exact hK' _ _ (hK w' cnt r1 r2 r3)

theorem wpList_nextM [DecidableEq α] {ops : Array Oper} {rest : List Oper} {o : Oper} {a : Act} {Q : Exit → Act → World → Prop} (hg : o.guard = none) (it : Operand) (hop : o.op = Op.next it false) (K : KeysAny P kt key dom) (hit : a.eval it = .pointer (some ⟨r, 0, none⟩))
    (h : RangeIs P kt key dom w b r M left cnt)
    (hDone : cnt = 0 → (∀ a, dom a → left a = false) → wpList P ops Q rest (a.put o.dst (.tuple #[.bool false])) w)
    (hMore : ∀ k v w' cnt', dom k → left k = true → M k = some v → RangeIs P kt key dom w' b r M (fun x => left x && decide (x ≠ k)) cnt' → cnt' < cnt → w.grownBy w' (some r) → w'.heap.size = w.heap.size →
      (Instr.entry (.pointer (some ⟨r, 0, none⟩))).run P w' = .ok (.tuple #[key k, v]) w' → wpList P ops Q rest (a.put o.dst (.tuple #[.bool true, key k, v])) w') :
    wpList P ops Q (o :: rest) a w := by
  refine wpList_plain hg fun K' hK' => ?_
  unfold Oper.wp
  rcases h.next K o.type with ⟨h0, hl, hrun⟩ | ⟨k, v, w', cnt', q1, q2, q3, hrun, q4, q5, q6, q7, q8⟩
  · simp [execOp, hop, hit, hrun, Result.andThen]
    exact hK' _ _ (hDone h0 hl)
  · simp [execOp, hop, hit, hrun, Result.andThen]
    exact hK' _ _ (hMore k v w' cnt' q1 q2 q3 q4 q5 q6 q7 q8)
end

theorem rowPlace : decide (41 < Try.prog.types.size) = true := by kernel_rfl
theorem atPlace : Try.prog.keyTypeAt 2 41 = true := by kernel_rfl
theorem keyPlace : Try.prog.keyType 41 = true := by kernel_rfl
theorem cellsPl2 : Try.prog.cellsOf 41 = 2 := by kernel_rfl
theorem lawPlace : Keyed Try.prog 41 := Keyed.of_law (deep_law_laid Try.laidOut (m := 2) (by omega) (of_decide_eq_true rowPlace) atPlace (by rw [Try.underlying41]))
theorem placeKeys : KeysAny Try.prog 41 poVal poDom :=
  ⟨lawPlace, pair_key Try.underlying41 ⟨rfl, rfl, by decide⟩ ⟨rfl, rfl, by decide⟩ Try.underlying3 keyPlace cellsPl2 cellsI types_succ, poVal_inj⟩
end Go.Proofs.Ytpfjjpihnibnhaa

set_option linter.unusedVariables false
set_option linter.unusedSimpArgs false
namespace Go.Proofs.Ytpfjjpihnibnhaa
open Go.RowKit Go.Maps Go.WideElems

def Ints (M : PoK → Option Value) : Prop := ∀ a v, M a = some v → poDom a ∧ ∃ n : Nat, v = .int .i64 (n : Int)
def numAt (M : PoK → Option Value) (a : PoK) : Nat := match M a with
  | some (.int .i64 n) => n.toNat
  | _ => 0
theorem numAt_some {M : PoK → Option Value} {a : PoK} {n : Nat} (h : M a = some (.int .i64 (n : Int))) : numAt M a = n := by unfold numAt; rw [h]; simp
theorem numAt_none {M : PoK → Option Value} {a : PoK} (h : M a = none) : numAt M a = 0 := by unfold numAt; rw [h]
theorem Ints.getD {M : PoK → Option Value} (h : Ints M) (a : PoK) : (M a).getD (.int .i64 0) = .int .i64 ((numAt M a : Nat) : Int) := by
  cases e : M a with
  | none => rw [numAt_none e]; rfl
  | some v =>
    obtain ⟨_, n, rfl⟩ := h a v e
    rw [numAt_some e]; rfl
theorem MapIs.lookN {w : World} {b : Nat} {M : PoK → Option Value} (h : MapIs Try.prog 41 poVal poDom w b M) (hM : Ints M) (x y : Int) (hx : i64ok x) (hy : i64ok y) :
    (Instr.lookup 74 (.map (some b)) (.agg #[.int .i64 x, .int .i64 y]) false).run Try.prog w = .ok (.int .i64 ((numAt M (x, y) : Nat) : Int)) w := by
  have := (h.lookA placeKeys Try.underlying74 (z := .int .i64 0) (by kernel_rfl) (a := (x, y)) ⟨hx, hy⟩).2
  rw [hM.getD] at this
  exact this

theorem below_alloc' (w : World) (o : Obj) : Below w.heap.size w (w.alloc o) := (Below.refl _ _).alloc (Nat.le_refl _) o
set_option maxRecDepth 100000 in
set_option maxHeartbeats 4000000 in
theorem same_walk (W : World) (a b : Nat) (Ma Mb : PoK → Option Value) (ha : MapIs Try.prog 41 poVal poDom W a Ma) (hb : MapIs Try.prog 41 poVal poDom W b Mb) (iA : Ints Ma) (iB : Ints Mb) :
    Calls Try.prog 27 #[.map (some a), .map (some b)] W fun e W' => RowKit.Below W.heap.size W W' ∧ ((e = .returned (.bool true) ∧ ∀ x, (Ma x).isSome = true → numAt Mb x = numAt Ma x) ∨ (e = .returned (.bool false) ∧ ∃ x, (Ma x).isSome = true ∧ numAt Mb x ≠ numAt Ma x)) := by
  have HA := hide ha
  have HB := hide hb
  have HI := hide (And.intro iA iB)
  clear ha hb iA iB
  go_enter Try.func27, Try.ntmps27
  go_wp2_with (first | (at_range; refine wpList_rangeM _ rfl _ 74 rfl 3 placeKeys Try.underlying74 rfl HA.out ?_; intro w0 cnt0 hrg0 hg0 hs0) | go_in)
  go_frame
  have HG0 := hide hg0
  have HS0 := hide hs0
  have HR0 := hide hrg0
  clear hg0 hs0 hrg0
  go_loopw [5] (fun _ wr => ∃ left cnt, Hid (RangeIs Try.prog 41 poVal poDom wr a W.heap.size Ma left cnt) ∧ Hid (RowKit.Below W.heap.size W wr) ∧ Hid (∀ x, poDom x → left x = false → (Ma x).isSome = true → numAt Mb x = numAt Ma x)) (fun _ wr => wr.rangeLeft a W.heap.size)
  case atStart =>
    exact ⟨_, cnt0, HR0, hide ⟨HG0.out.os, HG0.out.tape, HG0.out.output, HG0.out.size, fun i hi => HG0.out.block i hi (by simp)⟩, hide (fun x hx h1 h2 => by rw [h2] at h1; cases h1)⟩
  case round =>
    obtain ⟨left, cnt, HRG, HBW, HD⟩ := hrel
    clear HG0 HR0 HS0
    have hcnt := HRG.out.left_eq
    have HCN := hide hcnt
    clear hcnt
    go_wp2_with (first | (at_next; refine wpList_nextM _ rfl _ rfl placeKeys rfl HRG.out ?_ ?_) | go_in)
    · intro hc0 hl0
      have HL := hide hl0
      clear hl0 hc0
      go_wp2
      go_ret
      exact ⟨HBW.out, .inl ⟨rfl, fun x hx => by
        obtain ⟨v, hv⟩ := Option.isSome_iff_exists.1 hx
        have hd := (HI.out.1 x v hv).1
        exact HD.out x hd (HL.out x.1 x.2 hd) hx⟩⟩
    · rintro x y v w1 cnt1 hk hlk hM hrg1 hlt hg1 hs1 hen
      obtain ⟨hd, n, rfl⟩ := HI.out.1 _ _ hM
      simp only [poVal] at hen ⊢
      have HK := hide hk
      have HM := hide hM
      have HRG1 := hide hrg1
      have HLT := hide hlt
      have HS1 := hide hs1
      have hr := HRG.out.lt
      have hB1 : RowKit.Below W.heap.size W w1 := HBW.out.trans ⟨hg1.os, hg1.tape, hg1.output, hg1.size, fun i hi => hg1.block i (Nat.lt_of_lt_of_le hi HBW.out.size) (by simp; omega)⟩
      have HB1 := hide hB1
      have hlk : ∀ o, (Instr.lookup 74 (.map (some b)) (.agg #[.int .i64 x, .int .i64 y]) false).run Try.prog (w1.alloc o) = .ok (.int .i64 ((numAt Mb (x, y) : Nat) : Int)) (w1.alloc o) := fun o =>
        MapIs.lookN (HB.out.kept (row := none) ⟨hB1.os, hB1.tape, hB1.output, hB1.size, fun k hk _ => hB1.block k hk⟩ (by simp) |>.kept (World.grownBy_alloc w1 o none) (by simp)) HI.out.2 x y hk.1 hk.2
      clear hk hM hrg1 hlt hs1 hg1 hB1 hr hd
      go_wp2
      · go_ret
        exact ⟨HB1.out.alloc (by have := HB1.out.size; omega) _, .inr ⟨rfl, (x, y), by rw [HM.out]; rfl, by rw [numAt_some HM.out]; simp at *; omega⟩⟩
      · go_roundw
        case rel =>
          refine ⟨_, cnt1, hide (HRG1.out.below (below_alloc' _ _)), hide (HB1.out.alloc (by have := HB1.out.size; omega) _), hide (fun z hz h1 h2 => ?_)⟩
          by_cases e : z = (x, y)
          · subst e
            rw [numAt_some HM.out]; simp at *; omega
          · exact HD.out z hz (by simpa [e] using h1) h2
        case measure =>
          rw [(HRG1.out.below (below_alloc' _ _)).left_eq, HCN.out]
          exact HLT.out
end Go.Proofs.Ytpfjjpihnibnhaa
