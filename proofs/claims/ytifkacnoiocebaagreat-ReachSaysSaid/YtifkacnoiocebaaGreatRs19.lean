/- A part of the proof: Rd8, Rd9, RefNetP. -/
import Derived.Test.YtifkacnoiocebaaGreatRs18
import Derived.ChangeKeysEq
set_option linter.unusedVariables false
set_option linter.unusedSimpArgs false
set_option maxRecDepth 100000
set_option maxHeartbeats 8000000
namespace Go.Proofs.YtifkacnoiocebaaGreat
open Bdd Go.Maps Go.RowKit
structure RN (w0 : World) (B g : Nat) (A0 : St) (bl : List Nat) (mk e0 rd : Nat) (n : NetV) (wmV : Value) (nm : Nat) (P : Bdd.Fn → Prop) (wr : World) (A : St) (e : Nat) (Mn : PoK → Option Value) (Sn : Pl → Bdd.Fn) (more : List Nat) : Prop where
  rd : RD wr B g A (more ++ bl) mk e rd n wmV nm Mn Sn
  ext : Ext A0 A
  nw : NwP P A0 A
  kp : KP B bl w0 wr
  e0 : e = 0 → e0 = 0
section
variable {w0 wr w' : World} {B g mk e0 e rd nm : Nat} {A0 A : St} {bl more : List Nat} {n : NetV} {wmV : Value} {Mn : PoK → Option Value} {Sn : Pl → Bdd.Fn} {P : Bdd.Fn → Prop}
theorem RN.start (h : RD wr B g A bl mk e rd n wmV nm Mn Sn) (P : Bdd.Fn → Prop) : RN wr B g A bl mk e rd n wmV nm P wr A e Mn Sn [] := ⟨h, Ext.refl h.inv, NwP.refl _ _, KP.refl _ _ _, id⟩
theorem RN.below (h : RN w0 B g A0 bl mk e0 rd n wmV nm P wr A e Mn Sn more) (hb : RowKit.Below wr.heap.size wr w') : RN w0 B g A0 bl mk e0 rd n wmV nm P w' A e Mn Sn more :=
  ⟨h.rd.below hb, h.ext, h.nw, h.kp.trans ((h.rd.kp hb).mono (fun j hj => by simp [hj])), h.e0⟩
theorem RN.alloc (h : RN w0 B g A0 bl mk e0 rd n wmV nm P wr A e Mn Sn more) (o : Obj) : RN w0 B g A0 bl mk e0 rd n wmV nm P (wr.alloc o) A e Mn Sn (wr.heap.size :: more) :=
  have q := h.below (below_alloc2 wr o)
  ⟨h.rd.alloc o, h.ext, h.nw, q.kp, h.e0⟩
theorem RN.less {more' : List Nat} (h : RN w0 B g A0 bl mk e0 rd n wmV nm P wr A e Mn Sn more) (hs : ∀ j ∈ more', j ∈ more) : RN w0 B g A0 bl mk e0 rd n wmV nm P wr A e Mn Sn more' :=
  ⟨h.rd.less (fun j hj => by
    rcases List.mem_append.1 hj with a | a
    · exact List.mem_append_left _ (hs j a)
    · exact List.mem_append_right _ a), h.ext, h.nw, h.kp, h.e0⟩
theorem RN.call (h : RN w0 B g A0 bl mk e0 rd n wmV nm P wr A e Mn Sn more) {F : Bdd.Fn} {en : Ending} (hr : MR wr B g A (rd :: nm :: (more ++ bl)) mk e P F en w') :
    ∃ (A2 : St) (e2 r : Nat), en = .returned (.int .i64 (r : Int)) ∧ RN w0 B g A0 bl mk e0 rd n wmV nm P w' A2 e2 Mn Sn more ∧ Ext A A2 ∧ (e2 = 0 → e = 0 ∧ IsF A2 r F) ∧ (∀ j ∈ more, w'.heap[j]? = wr.heap[j]?) := by
  obtain ⟨A2, e2, r, h1, h2, h3, h4, h5, h6⟩ := h.rd.step hr
  exact ⟨A2, e2, r, h1, ⟨h2, h.ext.trans h3, h.nw.trans h4 h.rd.inv h3, h.kp.trans (h5.mono (fun j hj => by simp [hj])), fun he => h.e0 (h6 he).1⟩, h3, h6, fun j hj => h5.same j (by simp [hj])⟩
theorem RN.send (h : RN w0 B g A0 bl mk e0 rd n wmV nm P wr A e Mn Sn more) {Sn' : Pl → Bdd.Fn} (hr : RDP wr B g A (more ++ bl) mk e rd n wmV nm P Sn' w') :
    ∃ (A2 : St) (e2 : Nat) (Mn2 : PoK → Option Value), RN w0 B g A0 bl mk e0 rd n wmV nm P w' A2 e2 Mn2 Sn' more ∧ Ext A A2 ∧ (e2 = 0 → e = 0) ∧ (∀ j ∈ more, w'.heap[j]? = wr.heap[j]?) := by
  obtain ⟨A2, e2, Mn2, h2, h3, h4, h5, h6⟩ := hr
  exact ⟨A2, e2, Mn2, ⟨h2, h.ext.trans h3, h.nw.trans h4 h.rd.inv h3, h.kp.trans (h5.mono (fun j hj => by simp [hj])), fun he => h.e0 (h6 he)⟩, h3, h6, fun j hj => h5.same j (by simp [hj])⟩
theorem RN.out (h : RN w0 B g A0 bl mk e0 rd n wmV nm P wr A e Mn Sn more) : RDP w0 B g A0 bl mk e0 rd n wmV nm P Sn wr :=
  ⟨A, e, Mn, h.rd.less (fun j hj => by simp [hj]), h.ext, h.nw, h.kp, h.e0⟩
end
def hostS (ls : List LinkV) (i : Nat) (d : Dev) (Sn : Pl → Bdd.Fn) : Pl → Bdd.Fn := if d.kind = 1 then sendS ls ((i : Int), 0) (matchF (srcM d.addr.toNat)) Sn else Sn
def firstTo (ds : List Dev) (ls : List LinkV) (Sn : Pl → Bdd.Fn) : Nat → Pl → Bdd.Fn
  | 0 => Sn
  | k + 1 => match ds[k]? with
    | some d => hostS ls k d (firstTo ds ls Sn k)
    | none => firstTo ds ls Sn k
theorem firstTo_succ {ds : List Dev} {ls : List LinkV} {Sn : Pl → Bdd.Fn} {k : Nat} {d : Dev} (h : ds[k]? = some d) : firstTo ds ls Sn (k + 1) = hostS ls k d (firstTo ds ls Sn k) := by
  simp only [firstTo, h]
structure HostPC (P : Bdd.Fn → Prop) (ls : List LinkV) (i : Nat) (a : Nat) (Sn : Pl → Bdd.Fn) : Prop where
  m : MatchPC P (srcM a)
  s : SendPC P ls ((i : Int), 0) (matchF (srcM a)) Sn
def FirstPC (P : Bdd.Fn → Prop) (ds : List Dev) (ls : List LinkV) (Sn : Pl → Bdd.Fn) : Prop := ∀ k d, ds[k]? = some d → d.kind = 1 → HostPC P ls k d.addr.toNat (firstTo ds ls Sn k)
theorem first_round (w : World) (B g : Nat) (A : St) (bl : List Nat) (mk e rd : Nat) (n : NetV) (wmV : Value) (nm : Nat) (Mn : PoK → Option Value) (Sn : Pl → Bdd.Fn) (h : RD w B g A bl mk e rd n wmV nm Mn Sn) (hv : A.vars = 14) (hn : NetAt w B n) (hok : ∀ d ∈ n.devs, DevOk d) (hdl : n.dn ≤ 10) (hlk : LinksOk n.ls)
    (P : Bdd.Fn → Prop) (hP : FirstPC P n.devs n.ls Sn) :
    Calls Tryz.prog 24 #[.pointer (some ⟨rd, 0, none⟩)] w fun en w' => en = .returned (.tuple #[]) ∧ RDP w B g A bl mk e rd n wmV nm P (firstTo n.devs n.ls Sn n.dn) w' := by
  have HR0 := hide (RN.start h P)
  have HN := hide (fun (w' : World) (hb : RowKit.Below B w w') => show NetAt w' B n from hn.below hb (Nat.le_refl _))
  have HDK := hide (fun (d : DevV) (hd : d ∈ n.ds) => hok d.dev (List.mem_map_of_mem hd))
  have HLK := hide hlk
  have HP := hide hP
  have HV := hide hv
  have HD := hide hn
  have hdl2 := hn.dlen
  have r1 : w.cell? ⟨rd, 1, none⟩ = some (.slice n.dA n.dn n.dc) := h.bx.get 1 _ rfl
  clear h hn hok hlk hP hv
  obtain ⟨dA, dn, dc, ds, lA, ln, lc, ls⟩ := n
  simp only [NetV.devs] at *
  go_enter Tryz.func24, Tryz.ntmps24
  go_wp2_with fail
  clear r1
  go_loopw [10] (fun i wr => ∃ (k : Nat) (A2 : St) (e2 : Nat) (Mn2 : PoK → Option Value), k ≤ dn ∧ i = .int .i64 (k : Int) ∧ Hid (RN w B g A bl mk e rd ⟨dA, dn, dc, ds, lA, ln, lc, ls⟩ wmV nm P wr A2 e2 Mn2 (firstTo (ds.map DevV.dev) ls Sn k) [])) (fun i _ => dn - (intOf i).toNat)
  case atStart => exact ⟨0, A, e, Mn, Nat.zero_le _, rfl, HR0⟩
  case round =>
    clear HR0
    obtain ⟨k, A2, e2, Mn2, hkn, rfl, HR⟩ := hrel
    by_cases hlt : k < dn
    · obtain ⟨r, hr⟩ : ∃ r, ds[k]? = some r := ⟨_, List.getElem?_eq_getElem (by omega)⟩
      have hdr : (ds.map DevV.dev)[k]? = some r.dev := by rw [List.getElem?_map, hr]; rfl
      obtain ⟨b, o, rfl, _, _⟩ := HD.out.ds.2 (by show 0 < dn; omega)
      have HNW := HN.out wr HR.out.kp.low
      obtain ⟨_, q0, q1, q2, q3, q4, q5, q6⟩ := dev_get HNW.ds hr
      have HOK := hide (HDK.out r (List.mem_of_getElem? hr))
      have HPK := hide (HP.out k r.dev hdr)
      have HNX := hide (firstTo_succ (ls := ls) (Sn := Sn) hdr)
      clear hr hdr HNW
      obtain ⟨nm', kd, ad, pl, bA, bn, bc, bs, rA, rn, rc, rs, tA, tn, tc, ts⟩ := r
      simp only at q0 q1 q2 q3 q4 q5 q6
      have HBA := hide (below_alloc2 wr (.cells #[.string nm', .int .i64 kd, .int .i64 ad, .int .u8 pl, .slice bA bn bc, .slice rA rn rc, .slice tA tn tc] 81))
      by_cases hk : kd = 1
      case neg =>
        have hne : (kd == 1) = false := by simp [hk]
        have HNR := hide (show RN w B g A bl mk e rd ⟨some ⟨b, o, none⟩, dn, dc, ds, lA, ln, lc, ls⟩ wmV nm P _ A2 e2 Mn2 (firstTo (ds.map DevV.dev) ls Sn (k + 1)) [] from by
          rw [HNX.out]; unfold hostS; rw [if_neg (by exact hk)]; exact HR.out.below HBA.out)
        go_wp2_with fail
        go_roundw
        case rel => exact ⟨k + 1, A2, e2, Mn2, by omega, by go_num, HNR⟩
        case measure => simp [intOf]; omega
      subst hk
      have ha := HOK.out.addr16 (.inl rfl)
      simp only [DevV.dev] at ha
      obtain ⟨an, rfl⟩ : ∃ an : Nat, ad = (an : Int) := ⟨ad.toNat, by omega⟩
      have ha16 : an < 16 := by omega
      clear ha
      have HX := hide (Bx.new wr #[.string nm', .int .i64 1, .int .i64 (an : Int), .int .u8 pl, .slice bA bn bc, .slice rA rn rc, .slice tA tn tc] 81)
      have HR2 := hide (HR.out.alloc (.cells #[.string nm', .int .i64 1, .int .i64 (an : Int), .int .u8 pl, .slice bA bn bc, .slice rA rn rc, .slice tA tn tc] 81))
      clear HBA HR
      go_wp2_with fail
      clear q0 q1 q2 q3 q4 q5 q6
      generalize World.alloc wr _ = w2 at *
      generalize wr.heap.size = Nd at *
      have HQ := hide (fun (w' : World) (h1 : Bx w' rd #[.pointer (some ⟨mk, 0, none⟩), .slice (some ⟨b, o, none⟩) dn dc, .slice lA ln lc, wmV, .map (some nm)] 75) (h3 : Bx w' Nd #[.string nm', .int .i64 1, .int .i64 (an : Int), .int .u8 pl, .slice bA bn bc, .slice rA rn rc, .slice tA tn tc] 81) =>
        show w'.cell? ⟨rd, 0, none⟩ = some (.pointer (some ⟨mk, 0, none⟩)) ∧ w'.cell? ⟨Nd, 2, none⟩ = some (.int .i64 (an : Int)) from ⟨h1.get 0 _ rfl, h3.get 2 _ rfl⟩)
      have HR3 := hide (HR2.out.below (RowKit.Below.refl _ _).drew)
      have HX3 := hide (HX.out.below (RowKit.Below.refl _ _).drew)
      clear HR2 HX
      refine wp_region_E (fun w' => w'.cell? ⟨rd, 0, none⟩ = some (.pointer (some ⟨mk, 0, none⟩)) ∧ w'.cell? ⟨Nd, 2, none⟩ = some (.int .i64 (an : Int))) 10 (by kernel_rfl) (HQ.out _ HR3.out.rd.bx HX3.out) (fun hS => ?_)
      refine rP 0 hS ?_
      refine rP 1 hS ?_
      refine rP 2 hS ?_
      refine rP 3 hS ?_
      refine rP 4 hS ?_
      refine rL 5 [9, 10] rfl hS (by intro w hSw; obtain ⟨s0, s1⟩ := hSw; go_simp; try with_reducible rfl) ?_
      refine rP 6 hS ?_
      refine rL 7 [8, 9, 10] rfl hS (by intro w hSw; obtain ⟨s0, s1⟩ := hSw; go_simp; try with_reducible rfl) ?_
      intro inv
      refine rO 8 inv fun K hK => ?_
      go_simp
      clear hS
      refine (src_walk an _ ha16).mono ?_
      rintro en w4 ⟨rfl, hb⟩
      have HR4 := hide (HR3.out.below hb)
      have HX4 := hide (HX3.out.below hb)
      clear hb HR3 HX3
      have hS := HQ.out _ HR4.out.rd.bx HX4.out
      go_simp
      refine hK.out _ _ (fun _ => HQ.out _ HR4.out.rd.bx HX4.out) ?_
      clear hK K hS inv
      intro inv
      try simp only [Act.put, nrmA, nrmB, nrmC]
      have hS := HQ.out _ HR4.out.rd.bx HX4.out
      refine rO 9 inv fun K hK => ?_
      go_simp
      clear hS
      refine (mk_in w4 B g A2 (rd :: nm :: ([Nd] ++ bl)) mk e2 HR4.out.rd.m (srcM an) (srcM_ok ha16) P (by rw [HR4.out.ext.vars]; exact HV.out) (HPK.out rfl).m).mono ?_
      rintro en w5 hr
      obtain ⟨A5, e5, r5, rfl, hrf, hx, hF, hsm⟩ := HR4.out.call hr
      have HR5 := hide hrf
      have HX5 := hide (HX4.out.same (hsm Nd (by simp)))
      have HF5 := hide (fun h => (hF h).2)
      clear hr hrf hx hF hsm HR4 HX4
      have hS := HQ.out _ HR5.out.rd.bx HX5.out
      go_simp
      refine hK.out _ _ (fun _ => HQ.out _ HR5.out.rd.bx HX5.out) ?_
      clear hK K hS inv
      intro inv
      try simp only [Act.put, nrmA, nrmB, nrmC]
      have hS := HQ.out _ HR5.out.rd.bx HX5.out
      refine rT 10 inv fun K hK => ?_
      go_simp
      clear hS
      refine (send_walk w5 B g A5 ([Nd] ++ bl) mk e5 rd _ wmV nm Mn2 _ HR5.out.rd (HN.out _ HR5.out.kp.low).ls HLK.out P (k : Int) 0 r5 (matchF (srcM an)) HF5.out (HPK.out rfl).s).mono ?_
      rintro en w6 ⟨rfl, hr⟩
      obtain ⟨A6, e6, Mn6, hrf, hx6, he6, hsm6⟩ := HR5.out.send hr
      have HR6 := hide (show RN w B g A bl mk e rd ⟨some ⟨b, o, none⟩, dn, dc, ds, lA, ln, lc, ls⟩ wmV nm P w6 A6 e6 Mn6 (firstTo (ds.map DevV.dev) ls Sn (k + 1)) [] from by
        rw [HNX.out]; unfold hostS; rw [if_pos (by rfl)]; exact hrf.less (by simp))
      clear hr hrf hx6 he6 hsm6 HR5 HX5 HF5
      go_simp
      refine hK.out _ _ ?_
      clear hK K inv
      intro inv
      try simp only [Act.put, nrmA, nrmB, nrmC]
      refine rD ?_
      clear inv
      go_wp2_with fail
      go_roundw
      case rel => exact ⟨k + 1, A6, e6, Mn6, by omega, by go_num, HR6⟩
      case measure => simp [intOf]; omega
    · have HFN := hide (show RDP w B g A bl mk e rd ⟨dA, dn, dc, ds, lA, ln, lc, ls⟩ wmV nm P (firstTo (ds.map DevV.dev) ls Sn dn) wr from by
        have hk : k = dn := by omega
        have := HR.out.out; rw [hk] at this; exact this)
      go_wp2
      go_end0
      exact ⟨rfl, HFN.out⟩
end Go.Proofs.YtifkacnoiocebaaGreat
namespace Go.Proofs.YtifkacnoiocebaaGreat
open Go.Maps Go.RowKit Go.WideElems
def donePart (M : PoK → Option Value) (left : PoK → Bool) : PoK → Option Value := fun x => if left x then none else M x
theorem donePart_start (M : PoK → Option Value) : donePart M (fun a => (M a).isSome) = fun _ => none := by
  funext x
  unfold donePart
  cases h : M x <;> simp [h]
theorem donePart_step {M : PoK → Option Value} {left : PoK → Bool} {x : PoK} {v : Value} (h : M x = some v) : putM (donePart M left) x v = donePart M (fun z => left z && !decide (z = x)) := by
  funext z
  by_cases e : z = x
  · subst e
    rw [putM_same]
    unfold donePart
    simp [h]
  · rw [putM_other _ _ e]
    unfold donePart
    simp [e]
theorem donePart_end {M : PoK → Option Value} {left : PoK → Bool} (hi : Ints M) (h : ∀ x y, poDom (x, y) → left (x, y) = false) : donePart M left = M := by
  funext ⟨x, y⟩
  unfold donePart
  by_cases e : left (x, y) = true
  · rw [if_pos e]
    cases hM : M (x, y) with
    | none => rfl
    | some v => rw [h x y (hi _ v hM).1] at e; cases e
  · rw [if_neg e]
theorem donePart_keys {M : PoK → Option Value} {left : PoK → Bool} {x : PoK} (h : (donePart M left x).isSome = true) : (M x).isSome = true := by
  unfold donePart at h
  split at h
  · cases h
  · exact h
theorem copied_walk (W : World) (m : Nat) (M : PoK → Option Value) (h : MapIs Tryz.prog 27 poVal poDom W m M) (hi : Ints M) (L : List Pl) (hL : L.length < maxLen) (hk : ∀ x, (M x).isSome = true → x ∈ L) :
    Calls Tryz.prog 25 #[.map (some m)] W fun e W' => RowKit.Below W.heap.size W W' ∧ ∃ nb, W.heap.size ≤ nb ∧ e = .returned (.map (some nb)) ∧ MapIs Tryz.prog 27 poVal poDom W' nb M := by
  have H := hide h
  have HI := hide hi
  have HK := hide hk
  have HM0 := hide (MapIs.made (P := Tryz.prog) (kt := 27) (key := poVal) (dom := poDom) W)
  have HB0 := hide (below_alloc2 W (.map #[] 0))
  have hml := h.lt
  have HML := hide (show W.heap.size ≤ W.heap.size ∧ m ≠ W.heap.size from ⟨Nat.le_refl _, by omega⟩)
  clear h hi hk hml
  have hmm := @run_makeMap Tryz.prog
  go_enter Tryz.func25, Tryz.ntmps25
  go_wp2_with (first | (at_range; refine wpList_rangeM _ rfl _ 73 rfl 3 placeKeys Tryz.underlying73 rfl (H.out.kept (row := none) (World.grownBy_alloc W _ none) (by simp)) ?_; intro w0 cnt0 hrg0 hg0 hs0) | go_in)
  clear hmm
  go_frame
  have HS := hide (show RangeIs Tryz.prog 27 poVal poDom w0 m (W.alloc (.map #[] 0)).heap.size M (fun a => (M a).isSome) cnt0 ∧ MapIs Tryz.prog 27 poVal poDom w0 W.heap.size (donePart M (fun a => (M a).isSome)) ∧ RowKit.Below W.heap.size W w0 from
    ⟨hrg0, by rw [donePart_start]; exact HM0.out.kept (row := none) hg0 (by simp), HB0.out.trans ⟨hg0.os, hg0.tape, hg0.output, hg0.size, fun i hi => hg0.block i (Nat.lt_of_lt_of_le hi HB0.out.size) (by simp)⟩⟩)
  have HN := hide (show W.heap.size < (W.alloc (.map #[] 0)).heap.size from HM0.out.lt)
  clear hrg0 hg0 hs0 HM0 HB0
  generalize World.alloc W _ = W1 at *
  go_loopw [5] (fun _ wr => ∃ left cnt, Hid (RangeIs Tryz.prog 27 poVal poDom wr m W1.heap.size M left cnt ∧ MapIs Tryz.prog 27 poVal poDom wr W.heap.size (donePart M left) ∧ RowKit.Below W.heap.size W wr)) (fun _ wr => wr.rangeLeft m W1.heap.size)
  case atStart => exact ⟨_, cnt0, HS⟩
  case round =>
    clear HS
    obtain ⟨left, cnt, HRG⟩ := hrel
    have HCN := hide HRG.out.1.left_eq
    go_wp2_with (first | (at_next; refine wpList_nextM _ rfl _ rfl placeKeys rfl HRG.out.1 ?_ ?_) | go_in)
    · intro hc0 hl0
      have HL := hide hl0
      clear hl0 hc0
      go_wp2
      go_ret
      exact ⟨HRG.out.2.2, _, Nat.le_refl _, rfl, by rw [← donePart_end HI.out (fun x y hd => HL.out x y hd)]; exact HRG.out.2.1⟩
    · rintro x y v w1 cnt1 hk hlk hM hrg1 hlt hg1 hs1 hen
      obtain ⟨hd, n, rfl⟩ := HI.out _ _ hM
      simp only [poVal] at hen ⊢
      have HK1 := hide hk
      have HM := hide hM
      have HLT := hide hlt
      have hr := HRG.out.1.lt
      have hN := HN.out
      have HR1 := hide (show RangeIs Tryz.prog 27 poVal poDom w1 m W1.heap.size M (fun z => left z && !decide (z = (x, y))) cnt1 ∧ MapIs Tryz.prog 27 poVal poDom w1 W.heap.size (donePart M left) ∧ RowKit.Below W.heap.size W w1 from
        ⟨hrg1, HRG.out.2.1.kept hg1 (by simp; omega), HRG.out.2.2.trans ⟨hg1.os, hg1.tape, hg1.output, hg1.size, fun i hi => hg1.block i (Nat.lt_of_lt_of_le hi HRG.out.2.2.size) (by simp; omega)⟩⟩)
      clear hk hM hrg1 hlt hs1 hg1 hr hd hN hlk
      have hb2 := below_alloc2 w1 (.cells #[.int .i64 x, .int .i64 y] 27)
      have HB2 := hide hb2
      obtain ⟨w2, hrun, hm2, ht2⟩ := (HR1.out.2.1.same (hb2.block _ HR1.out.2.1.lt)).storeA placeKeys L hL (fun z _ hz => HK.out z (donePart_keys hz)) Tryz.underlying73 HK1.out (.int .i64 (n : Int))
      have hr1 := HR1.out.1.lt
      have hN := HN.out
      have hml := HR1.out.1.map.lt
      have hg2 := ht2.grown
      have HR2 := hide (show RangeIs Tryz.prog 27 poVal poDom w2 m W1.heap.size M (fun z => left z && !decide (z = (x, y))) cnt1 ∧ MapIs Tryz.prog 27 poVal poDom w2 W.heap.size (donePart M (fun z => left z && !decide (z = (x, y)))) ∧ RowKit.Below W.heap.size W w2 from
        ⟨(HR1.out.1.below hb2).kept hg2 (by simp; exact HML.out.2) (by simp; omega), by rw [← donePart_step HM.out]; exact hm2, (HR1.out.2.2.trans (hb2.mono HR1.out.2.2.size)).trans ⟨hg2.os, hg2.tape, hg2.output, hg2.size, fun i hi => hg2.block i (Nat.lt_of_lt_of_le hi (Nat.le_trans HR1.out.2.2.size hb2.size)) (by simp; omega)⟩⟩)
      simp only [poVal] at hrun
      clear hb2 hm2 ht2 hg2 hr1 hN hml HR1 HRG
      go_wp2_with fail
      go_roundw
      case rel => exact ⟨_, cnt1, HR2⟩
      case measure =>
        rw [HR2.out.1.left_eq, HCN.out]
        exact HLT.out
theorem same_round (W : World) (a b : Nat) (Ma Mb : PoK → Option Value) (ha : MapIs Tryz.prog 27 poVal poDom W a Ma) (hb : MapIs Tryz.prog 27 poVal poDom W b Mb) (iA : Ints Ma) (iB : Ints Mb) :
    Calls Tryz.prog 27 #[.map (some a), .map (some b)] W fun e W' => RowKit.Below W.heap.size W W' ∧ ((e = .returned (.bool true) ∧ ∀ x, (Mb x).isSome = true → numAt Ma x = numAt Mb x) ∨ (e = .returned (.bool false) ∧ ∃ x, (Mb x).isSome = true ∧ numAt Ma x ≠ numAt Mb x)) := by
  have HA := hide ha
  have HB := hide hb
  have HI := hide (And.intro iA iB)
  clear ha hb iA iB
  go_enter Tryz.func27, Tryz.ntmps27
  go_wp2_with (first | (at_range; refine wpList_rangeM _ rfl _ 73 rfl 3 placeKeys Tryz.underlying73 rfl HB.out ?_; intro w0 cnt0 hrg0 hg0 hs0) | go_in)
  go_frame
  have HG0 := hide hg0
  have HS0 := hide hs0
  have HR0 := hide hrg0
  clear hg0 hs0 hrg0
  go_loopw [6] (fun _ wr => ∃ left cnt, Hid (RangeIs Tryz.prog 27 poVal poDom wr b W.heap.size Mb left cnt) ∧ Hid (RowKit.Below W.heap.size W wr) ∧ Hid (∀ x, poDom x → left x = false → (Mb x).isSome = true → numAt Ma x = numAt Mb x)) (fun _ wr => wr.rangeLeft b W.heap.size)
  case atStart =>
    exact ⟨_, cnt0, HR0, hide ⟨HG0.out.os, HG0.out.tape, HG0.out.output, HG0.out.size, fun i hi => HG0.out.block i hi (by simp)⟩, hide (fun x hx h1 h2 => by rw [h2] at h1; cases h1)⟩
  case round =>
    obtain ⟨left, cnt, HRG, HBW, HD⟩ := hrel
    clear HG0 HR0 HS0
    have hcnt := HRG.out.left_eq
    have HCN := hide hcnt
    clear hcnt
    go_wp2_with (first | (at_next; refine wpList_nextM _ rfl _ rfl placeKeys rfl HRG.out ?_ ?_) | go_in)
    · intro hc0 hl0
      have HL := hide hl0
      clear hl0 hc0
      go_wp2
      go_ret
      exact ⟨HBW.out, .inl ⟨rfl, fun x hx => by
        obtain ⟨v, hv⟩ := Option.isSome_iff_exists.1 hx
        have hd := (HI.out.2 x v hv).1
        exact HD.out x hd (HL.out x.1 x.2 hd) hx⟩⟩
    · rintro x y v w1 cnt1 hk hlk hM hrg1 hlt hg1 hs1 hen
      obtain ⟨hd, n, rfl⟩ := HI.out.2 _ _ hM
      simp only [poVal] at hen ⊢
      have HK := hide hk
      have HM := hide hM
      have HRG1 := hide hrg1
      have HLT := hide hlt
      have HS1 := hide hs1
      have hr := HRG.out.lt
      have hB1 : RowKit.Below W.heap.size W w1 := HBW.out.trans ⟨hg1.os, hg1.tape, hg1.output, hg1.size, fun i hi => hg1.block i (Nat.lt_of_lt_of_le hi HBW.out.size) (by simp; omega)⟩
      have HB1 := hide hB1
      have hlk : ∀ o, (Instr.lookup 73 (.map (some a)) (.agg #[.int .i64 x, .int .i64 y]) false).run Tryz.prog (w1.alloc o) = .ok (.int .i64 ((numAt Ma (x, y) : Nat) : Int)) (w1.alloc o) := fun o =>
        MapIs.lookN (HA.out.kept (row := none) ⟨hB1.os, hB1.tape, hB1.output, hB1.size, fun k hk _ => hB1.block k hk⟩ (by simp) |>.kept (World.grownBy_alloc w1 o none) (by simp)) HI.out.1 x y hk.1 hk.2
      clear hk hM hrg1 hlt hs1 hg1 hB1 hr hd
      go_wp2
      · go_ret
        exact ⟨HB1.out.alloc (by have := HB1.out.size; omega) _, .inr ⟨rfl, (x, y), by rw [HM.out]; rfl, by rw [numAt_some HM.out]; simp at *; omega⟩⟩
      · go_roundw
        case rel =>
          refine ⟨_, cnt1, hide (HRG1.out.below (below_alloc' _ _)), hide (HB1.out.alloc (by have := HB1.out.size; omega) _), hide (fun z hz h1 h2 => ?_)⟩
          by_cases e : z = (x, y)
          · subst e
            rw [numAt_some HM.out]; simp at *; omega
          · exact HD.out z hz (by simpa [e] using h1) h2
        case measure =>
          rw [(HRG1.out.below (below_alloc' _ _)).left_eq, HCN.out]
          exact HLT.out
end Go.Proofs.YtifkacnoiocebaaGreat
namespace Go.Proofs.YtifkacnoiocebaaGreat
open Go.RowKit
theorem portsF_rng (k : Int) : 0 ≤ portsF k ∧ portsF k ≤ 4 := by
  unfold portsF
  repeat' split
  all_goals omega
theorem refPorts_walk (k : Int) (W : World) : Calls Tryz.prog 29 #[.int .i64 k] W fun e W' => e = .returned (.int .i64 (portsF k)) ∧ Below W.heap.size W W' := by
  cases h : inR k 1 5
  · have HF := hide (show portsF k = 0 from by
      simp only [inR, Bool.and_eq_false_iff, decide_eq_false_iff_not] at h
      unfold portsF
      rw [if_neg (by simp; omega), if_neg (by simp; omega), if_neg (by simp; omega), if_neg (by simp; omega), if_neg (by simp; omega)])
    rw [HF.out]
    go_enter Tryz.func29, Tryz.ntmps29
    go_wp2_with (go_at_call 7; refine (inR_is _ h).mono ?_; rintro e w1 ⟨rfl, rfl⟩)
    go_ret
    exact ⟨rfl, Below.refl _ _⟩
  · have h2 := h
    simp only [inR, Bool.and_eq_true, decide_eq_true_eq] at h2
    rcases (by omega : k = 1 ∨ k = 2 ∨ k = 3 ∨ k = 4 ∨ k = 5) with rfl | rfl | rfl | rfl | rfl
    all_goals
      clear h2
      go_enter Tryz.func29, Tryz.ntmps29
      go_wp2_with (go_at_call 7; refine (inR_is _ h).mono ?_; rintro e w1 ⟨rfl, rfl⟩)
      go_ret
      exact ⟨rfl, (Below.refl _ _).alloc (Nat.le_refl _) _⟩
theorem run_eqI (w : World) (d : Nat) (a b : Int) : (Op.equalIn (d + 1) 3 (.int .i64 a) (.int .i64 b)).run Tryz.prog w = .ok (a == b) w := by
  simp [Op.equalIn, run_underlying Tryz.underlying3]
theorem plainInt : Tryz.prog.plainKey 3 = true := by kernel_rfl
theorem run_eql_pair (w : World) (a b c d : Int) : (binOp .eql 86 (.agg #[.int .i64 a, .int .i64 b]) (.agg #[.int .i64 c, .int .i64 d])).run Tryz.prog w = .ok (.bool (eqP (a, b) (c, d))) w := by
  obtain ⟨i0, hi0, hz0, hz1, hz2⟩ := info_parts Tryz.infoInt
  have h := run_equalIn_array (P := Tryz.prog) w 9999 #[.int .i64 a, .int .i64 b] #[.int .i64 c, .int .i64 d] Tryz.underlying86 hi0
  have hr : List.range 2 = [0, 1] := rfl
  have p := fun (xs : Array Value) (off : Nat) (v : Value) (hx : xs[off]? = some v) => run_part_plain (P := Tryz.prog) w plainInt (xs := xs) (off := off) (v := v) hx
  have e := run_eqI w 9998
  generalize hd : (9999 : Nat) = D at *
  have hD : D = 9998 + 1 := hd.symm
  have key : (Op.eqItems D 3 1 #[.int .i64 a, .int .i64 b] #[.int .i64 c, .int .i64 d] [0, 1]).run Tryz.prog w = .ok (eqP (a, b) (c, d)) w := by
    simp only [Op.eqItems, Sem.run_bind]
    rw [p _ _ (.int .i64 a) rfl]
    simp only [Result.andThen_ok]
    rw [p _ _ (.int .i64 c) rfl]
    simp only [Result.andThen_ok]
    rw [hD, e]
    simp only [Result.andThen_ok]
    cases h1 : (a == c)
    · simp [eqP, h1]
    · simp only [Bool.not_true, Bool.false_eq_true, if_false, Sem.run_bind]
      rw [p _ _ (.int .i64 b) rfl]
      simp only [Result.andThen_ok]
      rw [p _ _ (.int .i64 d) rfl]
      simp only [Result.andThen_ok]
      rw [e]
      simp only [Result.andThen_ok]
      cases h2 : (b == d) <;> simp [eqP, h1, h2]
  rw [cellsI1, hr, key] at h
  simp only [binOp, Op.equal, Op.maxDepth, Sem.run_bind]
  rw [show (10000 : Nat) = D + 1 by rw [← hd], h]
  simp
theorem indexAr_walk (l : List Pl) (b o n c : Nat) (x y : Int) (W : World) (hn : n ≤ 9223372036854775807) (hl : SlAt plCells 2 W W.heap.size (some ⟨b, o, none⟩) n l) (h0 : 0 < n) :
    Calls Tryz.prog 63 #[.slice (some ⟨b, o, none⟩) n c, .agg #[.int .i64 x, .int .i64 y]] W fun e W' => e = .returned (.int .i64 (idxF (fun z => eqP (x, y) z) l)) ∧ RowKit.Below W.heap.size W W' := by
  have HL := hide hl
  clear hl
  have hb0 : Below W.heap.size W (W.alloc (.cells #[.int .i64 x, .int .i64 y] 86)) := (Below.refl _ _).alloc (Nat.le_refl _) _
  have HX0 := hide (Box2.new W x y 86)
  have hs0 : (W.alloc (.cells #[.int .i64 x, .int .i64 y] 86)).heap.size = W.heap.size + 1 := by simp
  have heq := fun w => run_eql_pair w
  go_enter Tryz.func63, Tryz.ntmps63
  go_wp2
  generalize W.alloc _ = W0 at *
  have HB0 := hide hb0
  clear hb0
  go_loopw [8] (fun i wr => ∃ k : Nat, k ≤ n ∧ i = .int .i64 k ∧ Hid (RowKit.Below W0.heap.size W0 wr) ∧ Hid (∀ j z, j < k → l[j]? = some z → eqP (x, y) z = false)) (fun i _ => n - (intOf i).toNat)
  case atStart => exact ⟨0, Nat.zero_le _, rfl, hide (RowKit.Below.refl _ _), hide (fun j r h => absurd h (by omega))⟩
  case round =>
    obtain ⟨k, hk, rfl, HB, HN⟩ := hrel
    have HBW := hide (HB0.out.trans (HB.out.mono HB0.out.size))
    by_cases hlt : k < n
    · obtain ⟨z, hz⟩ : ∃ r, l[k]? = some r := ⟨_, List.getElem?_eq_getElem (by have := HL.out.1; omega)⟩
      obtain ⟨hbB, hg⟩ := (HL.out.below HBW.out HBW.out.size).get hz
      have q0 := hg 0 _ rfl
      have q1 := hg 1 _ rfl
      obtain ⟨x0, x1, _, _⟩ := HX0.out.below HB.out (by omega)
      have HZ := hide hz
      clear hz hg
      obtain ⟨z1, z2⟩ := z
      rw [Nat.add_zero] at q0
      cases e1 : eqP (x, y) (z1, z2)
      · go_wp2
        go_quiet (fail)
        go_wp2
        go_roundw
        case rel => exact ⟨k + 1, by omega, by go_num, hide (HB.out.trans (below_drew _ _ _)), hide (fun j r hj hr => by
          rcases (by omega : j < k ∨ j = k) with h | rfl
          · exact HN.out j r h hr
          · have e := HZ.out; rw [e] at hr; cases hr; exact e1)⟩
        case measure => simp [intOf]; omega
      · have HF := hide (idxF_found (p := fun z => eqP (x, y) z) HZ.out e1 HN.out)
        go_wp2
        go_quiet (fail)
        go_wp2
        go_ret
        exact ⟨ret_i64 HF.out.symm, HBW.out.trans (below_drew _ _ _)⟩
    · have HF := hide (idxF_none (p := fun z => eqP (x, y) z) (l := l) (fun j r hj hr => HN.out j r (by have := HL.out.1; omega) hr))
      go_wp2
      go_ret
      exact ⟨ret_i64 HF.out.symm, HBW.out⟩
theorem indexAr_nil (A : Option Addr) (c : Nat) (x y : Int) (W : World) : Calls Tryz.prog 63 #[.slice A 0 c, .agg #[.int .i64 x, .int .i64 y]] W fun e W' => e = .returned (.int .i64 (-1)) ∧ RowKit.Below W.heap.size W W' := by
  go_enter Tryz.func63, Tryz.ntmps63
  go_wp2
  refine wp_loop_rounds 1 ?_
  rw [rounds_succ]
  go_wp2
  go_ret
  exact ⟨rfl, (Below.refl _ _).alloc (Nat.le_refl _) _⟩
theorem indexAr_any (l : List Pl) (A : Option Addr) (n c : Nat) (x y : Int) (W : World) (hn : n ≤ 9223372036854775807) (hl : SlAt plCells 2 W W.heap.size A n l) :
    Calls Tryz.prog 63 #[.slice A n c, .agg #[.int .i64 x, .int .i64 y]] W fun e W' => e = .returned (.int .i64 (idxF (fun z => eqP (x, y) z) l)) ∧ RowKit.Below W.heap.size W W' := by
  rcases Nat.eq_zero_or_pos n with rfl | h0
  · have : l = [] := List.eq_nil_of_length_eq_zero hl.1
    subst this
    exact indexAr_nil A c x y W
  · obtain ⟨b, o, rfl, hb, _⟩ := hl.2 h0
    exact indexAr_walk l b o n c x y W hn hl h0
theorem containsAr_any (l : List Pl) (A : Option Addr) (n c : Nat) (x y : Int) (W : World) (hn : n ≤ 9223372036854775807) (hl : SlAt plCells 2 W W.heap.size A n l) :
    Calls Tryz.prog 30 #[.slice A n c, .agg #[.int .i64 x, .int .i64 y]] W fun e W' => e = .returned (.bool (l.any fun z => eqP (x, y) z)) ∧ RowKit.Below W.heap.size W W' := by
  have hb0 : Below W.heap.size W (W.alloc (.cells #[.int .i64 x, .int .i64 y] 86)) := (Below.refl _ _).alloc (Nat.le_refl _) _
  have HC := hide (indexAr_any l A n c x y (W.alloc (.cells #[.int .i64 x, .int .i64 y] 86)) hn (hl.below hb0 hb0.size))
  have HB0 := hide hb0
  clear hl hb0
  rcases idxF_any (fun z => eqP (x, y) z) l with ⟨h1, k, h2⟩ | ⟨h1, h2⟩
  all_goals
    rw [h2] at HC
    rw [h1]
    clear h1 h2
    go_enter Tryz.func30, Tryz.ntmps30
    go_wp2_with fail
    refine HC.out.mono ?_
    rintro e w1 ⟨rfl, hb⟩
    have HB := hide (HB0.out.trans (hb.mono HB0.out.size))
    clear hb
    go_wp2
    go_ret
    exact ⟨rfl, HB.out⟩
end Go.Proofs.YtifkacnoiocebaaGreat
