/- A part of the proof: Rd8, Rd9, Ring2, Ring3, RgF, Rd10, RdM. -/
import Derived.Test.YtohbafigjpoijaaGreatRs17
import Derived.ChangeKeysEq
set_option linter.unusedVariables false
set_option linter.unusedSimpArgs false
set_option maxRecDepth 100000
set_option maxHeartbeats 8000000
namespace Go.Proofs.YtohbafigjpoijaaGreat
open Bdd Go.Maps Go.RowKit
structure RN (w0 : World) (B g : Nat) (A0 : St) (bl : List Nat) (mk e0 rd : Nat) (n : NetV) (wmV : Value) (nm : Nat) (P : Bdd.Fn → Prop) (wr : World) (A : St) (e : Nat) (Mn : PoK → Option Value) (Sn : Pl → Bdd.Fn) (more : List Nat) : Prop where
  rd : RD wr B g A (more ++ bl) mk e rd n wmV nm Mn Sn
  ext : Ext A0 A
  nw : NwP P A0 A
  kp : KP B bl w0 wr
  e0 : e = 0 → e0 = 0
section
variable {w0 wr w' : World} {B g mk e0 e rd nm : Nat} {A0 A : St} {bl more : List Nat} {n : NetV} {wmV : Value} {Mn : PoK → Option Value} {Sn : Pl → Bdd.Fn} {P : Bdd.Fn → Prop}
theorem RN.start (h : RD wr B g A bl mk e rd n wmV nm Mn Sn) (P : Bdd.Fn → Prop) : RN wr B g A bl mk e rd n wmV nm P wr A e Mn Sn [] := ⟨h, Ext.refl h.inv, NwP.refl _ _, KP.refl _ _ _, id⟩
theorem RN.below (h : RN w0 B g A0 bl mk e0 rd n wmV nm P wr A e Mn Sn more) (hb : RowKit.Below wr.heap.size wr w') : RN w0 B g A0 bl mk e0 rd n wmV nm P w' A e Mn Sn more :=
  ⟨h.rd.below hb, h.ext, h.nw, h.kp.trans ((h.rd.kp hb).mono (fun j hj => by simp [hj])), h.e0⟩
theorem RN.alloc (h : RN w0 B g A0 bl mk e0 rd n wmV nm P wr A e Mn Sn more) (o : Obj) : RN w0 B g A0 bl mk e0 rd n wmV nm P (wr.alloc o) A e Mn Sn (wr.heap.size :: more) :=
  have q := h.below (below_alloc2 wr o)
  ⟨h.rd.alloc o, h.ext, h.nw, q.kp, h.e0⟩
theorem RN.less {more' : List Nat} (h : RN w0 B g A0 bl mk e0 rd n wmV nm P wr A e Mn Sn more) (hs : ∀ j ∈ more', j ∈ more) : RN w0 B g A0 bl mk e0 rd n wmV nm P wr A e Mn Sn more' :=
  ⟨h.rd.less (fun j hj => by
    rcases List.mem_append.1 hj with a | a
    · exact List.mem_append_left _ (hs j a)
    · exact List.mem_append_right _ a), h.ext, h.nw, h.kp, h.e0⟩
theorem RN.call (h : RN w0 B g A0 bl mk e0 rd n wmV nm P wr A e Mn Sn more) {F : Bdd.Fn} {en : Ending} (hr : MR wr B g A (rd :: nm :: (more ++ bl)) mk e P F en w') :
    ∃ (A2 : St) (e2 r : Nat), en = .returned (.int .i64 (r : Int)) ∧ RN w0 B g A0 bl mk e0 rd n wmV nm P w' A2 e2 Mn Sn more ∧ Ext A A2 ∧ (e2 = 0 → e = 0 ∧ IsF A2 r F) ∧ (∀ j ∈ more, w'.heap[j]? = wr.heap[j]?) := by
  obtain ⟨A2, e2, r, h1, h2, h3, h4, h5, h6⟩ := h.rd.step hr
  exact ⟨A2, e2, r, h1, ⟨h2, h.ext.trans h3, h.nw.trans h4 h.rd.inv h3, h.kp.trans (h5.mono (fun j hj => by simp [hj])), fun he => h.e0 (h6 he).1⟩, h3, h6, fun j hj => h5.same j (by simp [hj])⟩
theorem RN.send (h : RN w0 B g A0 bl mk e0 rd n wmV nm P wr A e Mn Sn more) {Sn' : Pl → Bdd.Fn} (hr : RDP wr B g A (more ++ bl) mk e rd n wmV nm P Sn' w') :
    ∃ (A2 : St) (e2 : Nat) (Mn2 : PoK → Option Value), RN w0 B g A0 bl mk e0 rd n wmV nm P w' A2 e2 Mn2 Sn' more ∧ Ext A A2 ∧ (e2 = 0 → e = 0) ∧ (∀ j ∈ more, w'.heap[j]? = wr.heap[j]?) := by
  obtain ⟨A2, e2, Mn2, h2, h3, h4, h5, h6⟩ := hr
  exact ⟨A2, e2, Mn2, ⟨h2, h.ext.trans h3, h.nw.trans h4 h.rd.inv h3, h.kp.trans (h5.mono (fun j hj => by simp [hj])), fun he => h.e0 (h6 he)⟩, h3, h6, fun j hj => h5.same j (by simp [hj])⟩
theorem RN.out (h : RN w0 B g A0 bl mk e0 rd n wmV nm P wr A e Mn Sn more) : RDP w0 B g A0 bl mk e0 rd n wmV nm P Sn wr :=
  ⟨A, e, Mn, h.rd.less (fun j hj => by simp [hj]), h.ext, h.nw, h.kp, h.e0⟩
end
def hostS (ls : List LinkV) (i : Nat) (d : Dev) (Sn : Pl → Bdd.Fn) : Pl → Bdd.Fn := if d.kind = 1 then sendS ls ((i : Int), 0) (matchF (srcM d.addr.toNat)) Sn else Sn
def firstTo (ds : List Dev) (ls : List LinkV) (Sn : Pl → Bdd.Fn) : Nat → Pl → Bdd.Fn
  | 0 => Sn
  | k + 1 => match ds[k]? with
    | some d => hostS ls k d (firstTo ds ls Sn k)
    | none => firstTo ds ls Sn k
theorem firstTo_succ {ds : List Dev} {ls : List LinkV} {Sn : Pl → Bdd.Fn} {k : Nat} {d : Dev} (h : ds[k]? = some d) : firstTo ds ls Sn (k + 1) = hostS ls k d (firstTo ds ls Sn k) := by
  simp only [firstTo, h]
structure HostPC (P : Bdd.Fn → Prop) (ls : List LinkV) (i : Nat) (a : Nat) (Sn : Pl → Bdd.Fn) : Prop where
  m : MatchPC P (srcM a)
  s : SendPC P ls ((i : Int), 0) (matchF (srcM a)) Sn
def FirstPC (P : Bdd.Fn → Prop) (ds : List Dev) (ls : List LinkV) (Sn : Pl → Bdd.Fn) : Prop := ∀ k d, ds[k]? = some d → d.kind = 1 → HostPC P ls k d.addr.toNat (firstTo ds ls Sn k)
theorem first_round (w : World) (B g : Nat) (A : St) (bl : List Nat) (mk e rd : Nat) (n : NetV) (wmV : Value) (nm : Nat) (Mn : PoK → Option Value) (Sn : Pl → Bdd.Fn) (h : RD w B g A bl mk e rd n wmV nm Mn Sn) (hv : A.vars = 14) (hn : NetAt w B n) (hok : ∀ d ∈ n.devs, DevOk d) (hdl : n.dn ≤ 10) (hlk : LinksOk n.ls)
    (P : Bdd.Fn → Prop) (hP : FirstPC P n.devs n.ls Sn) :
    Calls Tryz.prog 33 #[.pointer (some ⟨rd, 0, none⟩)] w fun en w' => en = .returned (.tuple #[]) ∧ RDP w B g A bl mk e rd n wmV nm P (firstTo n.devs n.ls Sn n.dn) w' := by
  have HR0 := hide (RN.start h P)
  have HN := hide (fun (w' : World) (hb : RowKit.Below B w w') => show NetAt w' B n from hn.below hb (Nat.le_refl _))
  have HDK := hide (fun (d : DevV) (hd : d ∈ n.ds) => hok d.dev (List.mem_map_of_mem hd))
  have HLK := hide hlk
  have HP := hide hP
  have HV := hide hv
  have HD := hide hn
  have hdl2 := hn.dlen
  have r1 : w.cell? ⟨rd, 1, none⟩ = some (.slice n.dA n.dn n.dc) := h.bx.get 1 _ rfl
  clear h hn hok hlk hP hv
  obtain ⟨dA, dn, dc, ds, lA, ln, lc, ls⟩ := n
  simp only [NetV.devs] at *
  go_enter Tryz.func33, Tryz.ntmps33
  go_wp2_with fail
  clear r1
  go_loopw [10] (fun i wr => ∃ (k : Nat) (A2 : St) (e2 : Nat) (Mn2 : PoK → Option Value), k ≤ dn ∧ i = .int .i64 (k : Int) ∧ Hid (RN w B g A bl mk e rd ⟨dA, dn, dc, ds, lA, ln, lc, ls⟩ wmV nm P wr A2 e2 Mn2 (firstTo (ds.map DevV.dev) ls Sn k) [])) (fun i _ => dn - (intOf i).toNat)
  case atStart => exact ⟨0, A, e, Mn, Nat.zero_le _, rfl, HR0⟩
  case round =>
    clear HR0
    obtain ⟨k, A2, e2, Mn2, hkn, rfl, HR⟩ := hrel
    by_cases hlt : k < dn
    · obtain ⟨r, hr⟩ : ∃ r, ds[k]? = some r := ⟨_, List.getElem?_eq_getElem (by omega)⟩
      have hdr : (ds.map DevV.dev)[k]? = some r.dev := by rw [List.getElem?_map, hr]; rfl
      obtain ⟨b, o, rfl, _, _⟩ := HD.out.ds.2 (by show 0 < dn; omega)
      have HNW := HN.out wr HR.out.kp.low
      obtain ⟨_, q0, q1, q2, q3, q4, q5, q6⟩ := dev_get HNW.ds hr
      have HOK := hide (HDK.out r (List.mem_of_getElem? hr))
      have HPK := hide (HP.out k r.dev hdr)
      have HNX := hide (firstTo_succ (ls := ls) (Sn := Sn) hdr)
      clear hr hdr HNW
      obtain ⟨nm', kd, ad, pl, bA, bn, bc, bs, rA, rn, rc, rs, tA, tn, tc, ts⟩ := r
      simp only at q0 q1 q2 q3 q4 q5 q6
      have HBA := hide (below_alloc2 wr (.cells #[.string nm', .int .i64 kd, .int .i64 ad, .int .u8 pl, .slice bA bn bc, .slice rA rn rc, .slice tA tn tc] 98))
      by_cases hk : kd = 1
      case neg =>
        have hne : (kd == 1) = false := by simp [hk]
        have HNR := hide (show RN w B g A bl mk e rd ⟨some ⟨b, o, none⟩, dn, dc, ds, lA, ln, lc, ls⟩ wmV nm P _ A2 e2 Mn2 (firstTo (ds.map DevV.dev) ls Sn (k + 1)) [] from by
          rw [HNX.out]; unfold hostS; rw [if_neg (by exact hk)]; exact HR.out.below HBA.out)
        go_wp2_with fail
        go_roundw
        case rel => exact ⟨k + 1, A2, e2, Mn2, by omega, by go_num, HNR⟩
        case measure => simp [intOf]; omega
      subst hk
      have ha := HOK.out.addr16 (.inl rfl)
      simp only [DevV.dev] at ha
      obtain ⟨an, rfl⟩ : ∃ an : Nat, ad = (an : Int) := ⟨ad.toNat, by omega⟩
      have ha16 : an < 16 := by omega
      clear ha
      have HX := hide (Bx.new wr #[.string nm', .int .i64 1, .int .i64 (an : Int), .int .u8 pl, .slice bA bn bc, .slice rA rn rc, .slice tA tn tc] 98)
      have HR2 := hide (HR.out.alloc (.cells #[.string nm', .int .i64 1, .int .i64 (an : Int), .int .u8 pl, .slice bA bn bc, .slice rA rn rc, .slice tA tn tc] 98))
      clear HBA HR
      go_wp2_with fail
      clear q0 q1 q2 q3 q4 q5 q6
      generalize World.alloc wr _ = w2 at *
      generalize wr.heap.size = Nd at *
      have HQ := hide (fun (w' : World) (h1 : Bx w' rd #[.pointer (some ⟨mk, 0, none⟩), .slice (some ⟨b, o, none⟩) dn dc, .slice lA ln lc, wmV, .map (some nm)] 92) (h3 : Bx w' Nd #[.string nm', .int .i64 1, .int .i64 (an : Int), .int .u8 pl, .slice bA bn bc, .slice rA rn rc, .slice tA tn tc] 98) =>
        show w'.cell? ⟨rd, 0, none⟩ = some (.pointer (some ⟨mk, 0, none⟩)) ∧ w'.cell? ⟨Nd, 2, none⟩ = some (.int .i64 (an : Int)) from ⟨h1.get 0 _ rfl, h3.get 2 _ rfl⟩)
      have HR3 := hide (HR2.out.below (RowKit.Below.refl _ _).drew)
      have HX3 := hide (HX.out.below (RowKit.Below.refl _ _).drew)
      clear HR2 HX
      refine wp_region_E (fun w' => w'.cell? ⟨rd, 0, none⟩ = some (.pointer (some ⟨mk, 0, none⟩)) ∧ w'.cell? ⟨Nd, 2, none⟩ = some (.int .i64 (an : Int))) 10 (by kernel_rfl) (HQ.out _ HR3.out.rd.bx HX3.out) (fun hS inv => ?_)
      refine rP 0 rfl inv hS ?_; clear inv; intro inv; try simp only [Act.put, nrmA, nrmB, nrmC]
      refine rP 1 rfl inv hS ?_; clear inv; intro inv; try simp only [Act.put, nrmA, nrmB, nrmC]
      refine rP 2 rfl inv hS ?_; clear inv; intro inv; try simp only [Act.put, nrmA, nrmB, nrmC]
      refine rP 3 rfl inv hS ?_; clear inv; intro inv; try simp only [Act.put, nrmA, nrmB, nrmC]
      refine rP 4 rfl inv hS ?_; clear inv; intro inv; try simp only [Act.put, nrmA, nrmB, nrmC]
      refine rL 5 [9, 10] rfl inv hS (by intro w hSw; obtain ⟨s0, s1⟩ := hSw; go_simp; try with_reducible rfl) ?_; clear inv; intro inv; try simp only [Act.put, nrmA, nrmB, nrmC]
      refine rP 6 rfl inv hS ?_; clear inv; intro inv; try simp only [Act.put, nrmA, nrmB, nrmC]
      refine rL 7 [8, 9, 10] rfl inv hS (by intro w hSw; obtain ⟨s0, s1⟩ := hSw; go_simp; try with_reducible rfl) ?_; clear inv; intro inv; try simp only [Act.put, nrmA, nrmB, nrmC]
      refine wpAnyE_one (i := 8) rfl (by kernel_rfl) inv (fun K hK => ?_)
      go_simp
      clear hS
      refine (src_walk an _ ha16).mono ?_
      rintro en w4 ⟨rfl, hb⟩
      have HR4 := hide (HR3.out.below hb)
      have HX4 := hide (HX3.out.below hb)
      clear hb HR3 HX3
      have hS := HQ.out _ HR4.out.rd.bx HX4.out
      go_simp
      refine hK.out _ _ (fun _ => HQ.out _ HR4.out.rd.bx HX4.out) (fun inv2 => ?_)
      clear hK K hS
      clear inv
      have inv := inv2
      clear inv2
      try simp only [Act.put, nrmA, nrmB, nrmC]
      have hS := HQ.out _ HR4.out.rd.bx HX4.out
      refine wpAnyE_one (i := 9) rfl (by kernel_rfl) inv (fun K hK => ?_)
      go_simp
      clear hS
      refine (mk_in w4 B g A2 (rd :: nm :: ([Nd] ++ bl)) mk e2 HR4.out.rd.m (srcM an) (srcM_ok ha16) P (by rw [HR4.out.ext.vars]; exact HV.out) (HPK.out rfl).m).mono ?_
      rintro en w5 hr
      obtain ⟨A5, e5, r5, rfl, hrf, hx, hF, hsm⟩ := HR4.out.call hr
      have HR5 := hide hrf
      have HX5 := hide (HX4.out.same (hsm Nd (by simp)))
      have HF5 := hide (fun h => (hF h).2)
      clear hr hrf hx hF hsm HR4 HX4
      have hS := HQ.out _ HR5.out.rd.bx HX5.out
      go_simp
      refine hK.out _ _ (fun _ => HQ.out _ HR5.out.rd.bx HX5.out) (fun inv2 => ?_)
      clear hK K hS
      clear inv
      have inv := inv2
      clear inv2
      try simp only [Act.put, nrmA, nrmB, nrmC]
      have hS := HQ.out _ HR5.out.rd.bx HX5.out
      refine wpAnyE_late (i := 10) rfl (by kernel_rfl) inv (by kernel_rfl) (fun K hK => ?_)
      go_simp
      clear hS
      refine (send_walk w5 B g A5 ([Nd] ++ bl) mk e5 rd _ wmV nm Mn2 _ HR5.out.rd (HN.out _ HR5.out.kp.low).ls HLK.out P (k : Int) 0 r5 (matchF (srcM an)) HF5.out (HPK.out rfl).s).mono ?_
      rintro en w6 ⟨rfl, hr⟩
      obtain ⟨A6, e6, Mn6, hrf, hx6, he6, hsm6⟩ := HR5.out.send hr
      have HR6 := hide (show RN w B g A bl mk e rd ⟨some ⟨b, o, none⟩, dn, dc, ds, lA, ln, lc, ls⟩ wmV nm P w6 A6 e6 Mn6 (firstTo (ds.map DevV.dev) ls Sn (k + 1)) [] from by
        rw [HNX.out]; unfold hostS; rw [if_pos (by rfl)]; exact hrf.less (by simp))
      clear hr hrf hx6 he6 hsm6 HR5 HX5 HF5
      go_simp
      refine hK.out _ _ (fun inv2 => ?_)
      clear hK K
      clear inv
      have inv := inv2
      clear inv2
      try simp only [Act.put, nrmA, nrmB, nrmC]
      refine wpAnyE_done (by kernel_rfl) ?_ _
      clear inv
      go_wp2_with fail
      go_roundw
      case rel => exact ⟨k + 1, A6, e6, Mn6, by omega, by go_num, HR6⟩
      case measure => simp [intOf]; omega
    · have HFN := hide (show RDP w B g A bl mk e rd ⟨dA, dn, dc, ds, lA, ln, lc, ls⟩ wmV nm P (firstTo (ds.map DevV.dev) ls Sn dn) wr from by
        have hk : k = dn := by omega
        have := HR.out.out; rw [hk] at this; exact this)
      go_wp2
      go_end0
      exact ⟨rfl, HFN.out⟩
end Go.Proofs.YtohbafigjpoijaaGreat
namespace Go.Proofs.YtohbafigjpoijaaGreat
open Go.Maps Go.RowKit Go.WideElems
def donePart (M : PoK → Option Value) (left : PoK → Bool) : PoK → Option Value := fun x => if left x then none else M x
theorem donePart_start (M : PoK → Option Value) : donePart M (fun a => (M a).isSome) = fun _ => none := by
  funext x
  unfold donePart
  cases h : M x <;> simp [h]
theorem donePart_step {M : PoK → Option Value} {left : PoK → Bool} {x : PoK} {v : Value} (h : M x = some v) : putM (donePart M left) x v = donePart M (fun z => left z && !decide (z = x)) := by
  funext z
  by_cases e : z = x
  · subst e
    rw [putM_same]
    unfold donePart
    simp [h]
  · rw [putM_other _ _ e]
    unfold donePart
    simp [e]
theorem donePart_end {M : PoK → Option Value} {left : PoK → Bool} (hi : Ints M) (h : ∀ x y, poDom (x, y) → left (x, y) = false) : donePart M left = M := by
  funext ⟨x, y⟩
  unfold donePart
  by_cases e : left (x, y) = true
  · rw [if_pos e]
    cases hM : M (x, y) with
    | none => rfl
    | some v => rw [h x y (hi _ v hM).1] at e; cases e
  · rw [if_neg e]
theorem donePart_keys {M : PoK → Option Value} {left : PoK → Bool} {x : PoK} (h : (donePart M left x).isSome = true) : (M x).isSome = true := by
  unfold donePart at h
  split at h
  · cases h
  · exact h
theorem copied_walk (W : World) (m : Nat) (M : PoK → Option Value) (h : MapIs Tryz.prog 27 poVal poDom W m M) (hi : Ints M) (L : List Pl) (hL : L.length < maxLen) (hk : ∀ x, (M x).isSome = true → x ∈ L) :
    Calls Tryz.prog 34 #[.map (some m)] W fun e W' => RowKit.Below W.heap.size W W' ∧ ∃ nb, W.heap.size ≤ nb ∧ e = .returned (.map (some nb)) ∧ MapIs Tryz.prog 27 poVal poDom W' nb M := by
  have H := hide h
  have HI := hide hi
  have HK := hide hk
  have HM0 := hide (MapIs.made (P := Tryz.prog) (kt := 27) (key := poVal) (dom := poDom) W)
  have HB0 := hide (below_alloc2 W (.map #[] 0))
  have hml := h.lt
  have HML := hide (show W.heap.size ≤ W.heap.size ∧ m ≠ W.heap.size from ⟨Nat.le_refl _, by omega⟩)
  clear h hi hk hml
  have hmm := @run_makeMap Tryz.prog
  go_enter Tryz.func34, Tryz.ntmps34
  go_wp2_with (first | (at_range; refine wpList_rangeM _ rfl _ 90 rfl 3 placeKeys Tryz.underlying90 rfl (H.out.kept (row := none) (World.grownBy_alloc W _ none) (by simp)) ?_; intro w0 cnt0 hrg0 hg0 hs0) | go_in)
  clear hmm
  go_frame
  have HS := hide (show RangeIs Tryz.prog 27 poVal poDom w0 m (W.alloc (.map #[] 0)).heap.size M (fun a => (M a).isSome) cnt0 ∧ MapIs Tryz.prog 27 poVal poDom w0 W.heap.size (donePart M (fun a => (M a).isSome)) ∧ RowKit.Below W.heap.size W w0 from
    ⟨hrg0, by rw [donePart_start]; exact HM0.out.kept (row := none) hg0 (by simp), HB0.out.trans ⟨hg0.os, hg0.tape, hg0.output, hg0.size, fun i hi => hg0.block i (Nat.lt_of_lt_of_le hi HB0.out.size) (by simp)⟩⟩)
  have HN := hide (show W.heap.size < (W.alloc (.map #[] 0)).heap.size from HM0.out.lt)
  clear hrg0 hg0 hs0 HM0 HB0
  generalize World.alloc W _ = W1 at *
  go_loopw [5] (fun _ wr => ∃ left cnt, Hid (RangeIs Tryz.prog 27 poVal poDom wr m W1.heap.size M left cnt ∧ MapIs Tryz.prog 27 poVal poDom wr W.heap.size (donePart M left) ∧ RowKit.Below W.heap.size W wr)) (fun _ wr => wr.rangeLeft m W1.heap.size)
  case atStart => exact ⟨_, cnt0, HS⟩
  case round =>
    clear HS
    obtain ⟨left, cnt, HRG⟩ := hrel
    have HCN := hide HRG.out.1.left_eq
    go_wp2_with (first | (at_next; refine wpList_nextM _ rfl _ rfl placeKeys rfl HRG.out.1 ?_ ?_) | go_in)
    · intro hc0 hl0
      have HL := hide hl0
      clear hl0 hc0
      go_wp2
      go_ret
      exact ⟨HRG.out.2.2, _, Nat.le_refl _, rfl, by rw [← donePart_end HI.out (fun x y hd => HL.out x y hd)]; exact HRG.out.2.1⟩
    · rintro x y v w1 cnt1 hk hlk hM hrg1 hlt hg1 hs1 hen
      obtain ⟨hd, n, rfl⟩ := HI.out _ _ hM
      simp only [poVal] at hen ⊢
      have HK1 := hide hk
      have HM := hide hM
      have HLT := hide hlt
      have hr := HRG.out.1.lt
      have hN := HN.out
      have HR1 := hide (show RangeIs Tryz.prog 27 poVal poDom w1 m W1.heap.size M (fun z => left z && !decide (z = (x, y))) cnt1 ∧ MapIs Tryz.prog 27 poVal poDom w1 W.heap.size (donePart M left) ∧ RowKit.Below W.heap.size W w1 from
        ⟨hrg1, HRG.out.2.1.kept hg1 (by simp; omega), HRG.out.2.2.trans ⟨hg1.os, hg1.tape, hg1.output, hg1.size, fun i hi => hg1.block i (Nat.lt_of_lt_of_le hi HRG.out.2.2.size) (by simp; omega)⟩⟩)
      clear hk hM hrg1 hlt hs1 hg1 hr hd hN hlk
      have hb2 := below_alloc2 w1 (.cells #[.int .i64 x, .int .i64 y] 27)
      have HB2 := hide hb2
      obtain ⟨w2, hrun, hm2, ht2⟩ := (HR1.out.2.1.same (hb2.block _ HR1.out.2.1.lt)).storeA placeKeys L hL (fun z _ hz => HK.out z (donePart_keys hz)) Tryz.underlying90 HK1.out (.int .i64 (n : Int))
      have hr1 := HR1.out.1.lt
      have hN := HN.out
      have hml := HR1.out.1.map.lt
      have hg2 := ht2.grown
      have HR2 := hide (show RangeIs Tryz.prog 27 poVal poDom w2 m W1.heap.size M (fun z => left z && !decide (z = (x, y))) cnt1 ∧ MapIs Tryz.prog 27 poVal poDom w2 W.heap.size (donePart M (fun z => left z && !decide (z = (x, y)))) ∧ RowKit.Below W.heap.size W w2 from
        ⟨(HR1.out.1.below hb2).kept hg2 (by simp; exact HML.out.2) (by simp; omega), by rw [← donePart_step HM.out]; exact hm2, (HR1.out.2.2.trans (hb2.mono HR1.out.2.2.size)).trans ⟨hg2.os, hg2.tape, hg2.output, hg2.size, fun i hi => hg2.block i (Nat.lt_of_lt_of_le hi (Nat.le_trans HR1.out.2.2.size hb2.size)) (by simp; omega)⟩⟩)
      simp only [poVal] at hrun
      clear hb2 hm2 ht2 hg2 hr1 hN hml HR1 HRG
      go_wp2_with fail
      go_roundw
      case rel => exact ⟨_, cnt1, HR2⟩
      case measure =>
        rw [HR2.out.1.left_eq, HCN.out]
        exact HLT.out
theorem same_round (W : World) (a b : Nat) (Ma Mb : PoK → Option Value) (ha : MapIs Tryz.prog 27 poVal poDom W a Ma) (hb : MapIs Tryz.prog 27 poVal poDom W b Mb) (iA : Ints Ma) (iB : Ints Mb) :
    Calls Tryz.prog 36 #[.map (some a), .map (some b)] W fun e W' => RowKit.Below W.heap.size W W' ∧ ((e = .returned (.bool true) ∧ ∀ x, (Mb x).isSome = true → numAt Ma x = numAt Mb x) ∨ (e = .returned (.bool false) ∧ ∃ x, (Mb x).isSome = true ∧ numAt Ma x ≠ numAt Mb x)) := by
  have HA := hide ha
  have HB := hide hb
  have HI := hide (And.intro iA iB)
  clear ha hb iA iB
  go_enter Tryz.func36, Tryz.ntmps36
  go_wp2_with (first | (at_range; refine wpList_rangeM _ rfl _ 90 rfl 3 placeKeys Tryz.underlying90 rfl HB.out ?_; intro w0 cnt0 hrg0 hg0 hs0) | go_in)
  go_frame
  have HG0 := hide hg0
  have HS0 := hide hs0
  have HR0 := hide hrg0
  clear hg0 hs0 hrg0
  go_loopw [6] (fun _ wr => ∃ left cnt, Hid (RangeIs Tryz.prog 27 poVal poDom wr b W.heap.size Mb left cnt) ∧ Hid (RowKit.Below W.heap.size W wr) ∧ Hid (∀ x, poDom x → left x = false → (Mb x).isSome = true → numAt Ma x = numAt Mb x)) (fun _ wr => wr.rangeLeft b W.heap.size)
  case atStart =>
    exact ⟨_, cnt0, HR0, hide ⟨HG0.out.os, HG0.out.tape, HG0.out.output, HG0.out.size, fun i hi => HG0.out.block i hi (by simp)⟩, hide (fun x hx h1 h2 => by rw [h2] at h1; cases h1)⟩
  case round =>
    obtain ⟨left, cnt, HRG, HBW, HD⟩ := hrel
    clear HG0 HR0 HS0
    have hcnt := HRG.out.left_eq
    have HCN := hide hcnt
    clear hcnt
    go_wp2_with (first | (at_next; refine wpList_nextM _ rfl _ rfl placeKeys rfl HRG.out ?_ ?_) | go_in)
    · intro hc0 hl0
      have HL := hide hl0
      clear hl0 hc0
      go_wp2
      go_ret
      exact ⟨HBW.out, .inl ⟨rfl, fun x hx => by
        obtain ⟨v, hv⟩ := Option.isSome_iff_exists.1 hx
        have hd := (HI.out.2 x v hv).1
        exact HD.out x hd (HL.out x.1 x.2 hd) hx⟩⟩
    · rintro x y v w1 cnt1 hk hlk hM hrg1 hlt hg1 hs1 hen
      obtain ⟨hd, n, rfl⟩ := HI.out.2 _ _ hM
      simp only [poVal] at hen ⊢
      have HK := hide hk
      have HM := hide hM
      have HRG1 := hide hrg1
      have HLT := hide hlt
      have HS1 := hide hs1
      have hr := HRG.out.lt
      have hB1 : RowKit.Below W.heap.size W w1 := HBW.out.trans ⟨hg1.os, hg1.tape, hg1.output, hg1.size, fun i hi => hg1.block i (Nat.lt_of_lt_of_le hi HBW.out.size) (by simp; omega)⟩
      have HB1 := hide hB1
      have hlk : ∀ o, (Instr.lookup 90 (.map (some a)) (.agg #[.int .i64 x, .int .i64 y]) false).run Tryz.prog (w1.alloc o) = .ok (.int .i64 ((numAt Ma (x, y) : Nat) : Int)) (w1.alloc o) := fun o =>
        MapIs.lookN (HA.out.kept (row := none) ⟨hB1.os, hB1.tape, hB1.output, hB1.size, fun k hk _ => hB1.block k hk⟩ (by simp) |>.kept (World.grownBy_alloc w1 o none) (by simp)) HI.out.1 x y hk.1 hk.2
      clear hk hM hrg1 hlt hs1 hg1 hB1 hr hd
      go_wp2
      · go_ret
        exact ⟨HB1.out.alloc (by have := HB1.out.size; omega) _, .inr ⟨rfl, (x, y), by rw [HM.out]; rfl, by rw [numAt_some HM.out]; simp at *; omega⟩⟩
      · go_roundw
        case rel =>
          refine ⟨_, cnt1, hide (HRG1.out.below (below_alloc' _ _)), hide (HB1.out.alloc (by have := HB1.out.size; omega) _), hide (fun z hz h1 h2 => ?_)⟩
          by_cases e : z = (x, y)
          · subst e
            rw [numAt_some HM.out]; simp at *; omega
          · exact HD.out z hz (by simpa [e] using h1) h2
        case measure =>
          rw [(HRG1.out.below (below_alloc' _ _)).left_eq, HCN.out]
          exact HLT.out
end Go.Proofs.YtohbafigjpoijaaGreat
namespace Go.Proofs.YtohbafigjpoijaaGreat
open Go.RowKit
theorem boxesL : ∀ (l : List (Array Value × TypeId)) (W : World) {W' : World}, RowKit.Below (W.heap.size + l.length) (l.foldl (fun w x => w.alloc (.cells x.1 x.2)) W) W' →
    (∀ (i : Nat) c t, l[i]? = some (c, t) → ∀ (o : Nat) (v : Value), c[o]? = some v → W'.cell? ⟨W.heap.size + i, o, none⟩ = some v) ∧ RowKit.Below W.heap.size W W' ∧ W.heap.size + l.length ≤ W'.heap.size := by
  intro l
  induction l with
  | nil =>
    intro W W' hb
    exact ⟨fun i c t h => by simp at h, by simpa using hb, by have := hb.size; simpa using this⟩
  | cons x l ih =>
    intro W W' hb
    have hz : (W.alloc (.cells x.1 x.2)).heap.size = W.heap.size + 1 := by simp
    obtain ⟨h1, h2, h3⟩ := ih (W.alloc (.cells x.1 x.2)) (W' := W') (by
      rw [hz]
      simp only [List.foldl_cons, List.length_cons] at hb
      rw [show W.heap.size + 1 + l.length = W.heap.size + (l.length + 1) by omega]
      exact hb)
    refine ⟨fun i c t hi o v hv => ?_, ((RowKit.Below.refl _ _).alloc (Nat.le_refl _) _).trans (h2.mono (by omega)), by rw [hz] at h3; simp only [List.length_cons]; omega⟩
    cases i with
    | zero =>
      cases hi
      rw [hz] at h2
      exact cell_new W _ _ rfl h2 o v hv
    | succ i =>
      have := h1 i c t (by simpa using hi) o v hv
      rw [hz] at this
      rw [show W.heap.size + (i + 1) = W.heap.size + 1 + i by omega]
      exact this
theorem portsF_range (k : Int) : 0 ≤ portsF k ∧ portsF k ≤ 4 := by
  unfold portsF
  repeat' split
  all_goals omega
theorem wi16 (a : Int) : inR a 0 15 = (decide (0 ≤ a) && decide (a < 16)) := by
  unfold inR
  rw [Bool.eq_iff_iff]; simp; omega
theorem wi8 (a : Int) : inR a 0 7 = (decide (0 ≤ a) && decide (a < 8)) := by
  unfold inR
  rw [Bool.eq_iff_iff]; simp; omega
theorem packetCheck_walk (p : P4) (W : World) : Calls Tryz.prog 92 #[.agg #[.int .i64 p.src, .int .i64 p.dst, .int .i64 p.sport, .int .i64 p.dport]] W fun e W' => e = .returned (.int .i64 (if rightB p then 0 else 1)) ∧ RowKit.Below W.heap.size W W' := by
  obtain ⟨a, b, c, d⟩ := p
  have HB := hide (fun o => show RowKit.Below W.heap.size W (W.alloc o) from (RowKit.Below.refl _ _).alloc (Nat.le_refl _) o)
  have HR := hide (show rightB ⟨a, b, c, d⟩ = (inR a 0 15 && inR b 0 15 && inR c 0 7 && inR d 0 7) from rfl)
  generalize rightB _ = R at *
  cases e1 : inR a 0 15
  · have f1 := hide ((wi16 a).symm.trans e1)
    have HF := hide (show R = false from by rw [HR.out, e1]; rfl)
    rw [HF.out]
    go_enter Tryz.func92, Tryz.ntmps92
    go_wp2_with (first | (go_at_call_of 95 (Value.int .i64 a); refine (within_walk _ _ _ _ f1.out).mono ?_; rintro e w1 ⟨rfl, rfl⟩))
    go_ret
    exact ⟨rfl, HB.out _⟩
  have f1 := hide ((wi16 a).symm.trans e1)
  cases e2 : inR b 0 15
  · have f2 := hide ((wi16 b).symm.trans e2)
    have HF := hide (show R = false from by rw [HR.out, e1, e2]; rfl)
    rw [HF.out]
    go_enter Tryz.func92, Tryz.ntmps92
    go_wp2_with (first | (go_at_call_of 95 (Value.int .i64 a); refine (within_walk _ _ _ _ f1.out).mono ?_; rintro e w1 ⟨rfl, rfl⟩) | (go_at_call_of 95 (Value.int .i64 b); refine (within_walk _ _ _ _ f2.out).mono ?_; rintro e w1 ⟨rfl, rfl⟩))
    go_ret
    exact ⟨rfl, HB.out _⟩
  have f2 := hide ((wi16 b).symm.trans e2)
  cases e3 : inR c 0 7
  · have f3 := hide ((wi8 c).symm.trans e3)
    have HF := hide (show R = false from by rw [HR.out, e1, e2, e3]; rfl)
    rw [HF.out]
    go_enter Tryz.func92, Tryz.ntmps92
    go_wp2_with (first | (go_at_call_of 95 (Value.int .i64 a); refine (within_walk _ _ _ _ f1.out).mono ?_; rintro e w1 ⟨rfl, rfl⟩) | (go_at_call_of 95 (Value.int .i64 b); refine (within_walk _ _ _ _ f2.out).mono ?_; rintro e w1 ⟨rfl, rfl⟩) | (go_at_call_of 95 (Value.int .i64 c); refine (within_walk _ _ _ _ f3.out).mono ?_; rintro e w1 ⟨rfl, rfl⟩))
    go_ret
    exact ⟨rfl, HB.out _⟩
  have f3 := hide ((wi8 c).symm.trans e3)
  cases e4 : inR d 0 7
  · have f4 := hide ((wi8 d).symm.trans e4)
    have HF := hide (show R = false from by rw [HR.out, e1, e2, e3, e4]; rfl)
    rw [HF.out]
    go_enter Tryz.func92, Tryz.ntmps92
    go_wp2_with (first | (go_at_call_of 95 (Value.int .i64 a); refine (within_walk _ _ _ _ f1.out).mono ?_; rintro e w1 ⟨rfl, rfl⟩) | (go_at_call_of 95 (Value.int .i64 b); refine (within_walk _ _ _ _ f2.out).mono ?_; rintro e w1 ⟨rfl, rfl⟩) | (go_at_call_of 95 (Value.int .i64 c); refine (within_walk _ _ _ _ f3.out).mono ?_; rintro e w1 ⟨rfl, rfl⟩) | (go_at_call_of 95 (Value.int .i64 d); refine (within_walk _ _ _ _ f4.out).mono ?_; rintro e w1 ⟨rfl, rfl⟩))
    go_ret
    exact ⟨rfl, HB.out _⟩
  · have f4 := hide ((wi8 d).symm.trans e4)
    have HF := hide (show R = true from by rw [HR.out, e1, e2, e3, e4]; rfl)
    rw [HF.out]
    go_enter Tryz.func92, Tryz.ntmps92
    go_wp2_with (first | (go_at_call_of 95 (Value.int .i64 a); refine (within_walk _ _ _ _ f1.out).mono ?_; rintro e w1 ⟨rfl, rfl⟩) | (go_at_call_of 95 (Value.int .i64 b); refine (within_walk _ _ _ _ f2.out).mono ?_; rintro e w1 ⟨rfl, rfl⟩) | (go_at_call_of 95 (Value.int .i64 c); refine (within_walk _ _ _ _ f3.out).mono ?_; rintro e w1 ⟨rfl, rfl⟩) | (go_at_call_of 95 (Value.int .i64 d); refine (within_walk _ _ _ _ f4.out).mono ?_; rintro e w1 ⟨rfl, rfl⟩))
    go_ret
    exact ⟨rfl, HB.out _⟩
open Bdd
theorem dst_has (l : List RouteV) (port : Int) (c : Nat) (hc : c < 16384) : outs (partL 65535 (setTo (dstB l port) 16) 255 255) (asgOf c) = dstB l port (c / 64 % 16) := by
  rw [outs_has _ _ _ _ c hc]
  have h16 : ∀ i : Fin 16, Nat.testBit 65535 i.val = true := by decide +kernel
  have h8 : ∀ i : Fin 8, Nat.testBit 255 i.val = true := by decide +kernel
  have a := h16 ⟨c / 1024, by omega⟩
  have b := h8 ⟨c / 8 % 8, by omega⟩
  have d := h8 ⟨c % 8, by omega⟩
  simp only at a b d
  unfold hasAllB
  rw [a, b, d, setTo_bit]
  have : c / 64 % 16 < 16 := by omega
  simp [this]
theorem andF_at (F G : Bdd.Fn) (x : Asg) : andF F G x = (F x && G x) := by unfold andF iteF; cases F x <;> simp
theorem orF_at (F G : Bdd.Fn) (x : Asg) : orF F G x = (F x || G x) := by unfold orF iteF; cases F x <;> simp
theorem countP_lt {p q : Nat → Bool} : ∀ {l : List Nat}, (∀ a ∈ l, p a = true → q a = true) → (∃ a ∈ l, q a = true ∧ p a = false) → l.countP p < l.countP q := by
  intro l
  induction l with
  | nil => rintro _ ⟨a, ha, _⟩; simp at ha
  | cons b l ih =>
    intro h hx
    have hle : l.countP p ≤ l.countP q := List.countP_mono_left (fun a ha => h a (by simp [ha]))
    have hb := h b (by simp)
    obtain ⟨a, ha, h1, h2⟩ := hx
    rw [List.countP_cons, List.countP_cons]
    rcases List.mem_cons.1 ha with rfl | ha'
    · rw [h1, h2]; simp; omega
    · have := ih (fun a ha => h a (by simp [ha])) ⟨a, ha', h1, h2⟩
      cases hp : p b
      · cases hq : q b <;> simp <;> omega
      · rw [hb hp]; simp; omega
def cntS (S : Pl → Bdd.Fn) (l : List Pl) : Nat := (l.map fun x => cntF 14 14 (S x)).sum
theorem cnt_le {F G : Bdd.Fn} (h : ∀ a, F a = true → G a = true) : cntF 14 14 F ≤ cntF 14 14 G := List.countP_mono_left (fun r _ => h _)
theorem cnt_lt {F G : Bdd.Fn} (hF : Bdd.Below 14 F) (hG : Bdd.Below 14 G) (h : ∀ a, F a = true → G a = true) (hne : F ≠ G) : cntF 14 14 F < cntF 14 14 G := by
  refine countP_lt (fun r _ => h _) ?_
  rcases Classical.em (∃ a, G a = true ∧ F a = false) with ⟨a, h1, h2⟩ | hno
  · have hcode : ∀ u, u < 14 → a u = asgV 14 (codeN a 14) u := fun u hu => (codeN_bit a 14 u hu).symm
    exact ⟨codeN a 14, List.mem_range.2 (codeN_lt a 14), by rw [← hG a _ hcode]; exact h1, by rw [← hF a _ hcode]; exact h2⟩
  · refine absurd (funext fun a => ?_) hne
    cases hf : F a
    · cases hg : G a
      · rfl
      · exact absurd ⟨a, hg, hf⟩ hno
    · rw [h a hf]
theorem cntS_le {S S' : Pl → Bdd.Fn} (h : ∀ x a, S' x a = true → S x a = true) : ∀ l, cntS S' l ≤ cntS S l := by
  intro l
  induction l with
  | nil => simp [cntS]
  | cons x l ih =>
    have := cnt_le (h x)
    simp only [cntS, List.map_cons, List.sum_cons] at *
    omega
theorem cntS_lt {S S' : Pl → Bdd.Fn} (hb : ∀ x, Bdd.Below 14 (S x)) (hb' : ∀ x, Bdd.Below 14 (S' x)) (h : ∀ x a, S' x a = true → S x a = true) {x : Pl} (hne : S' x ≠ S x) : ∀ l, x ∈ l → cntS S' l < cntS S l := by
  intro l
  induction l with
  | nil => intro hx; simp at hx
  | cons y l ih =>
    intro hx
    have h1 := cnt_le (h y)
    have h2 := cntS_le h l
    rcases List.mem_cons.1 hx with rfl | hx'
    · have := cnt_lt (hb' x) (hb x) (h x) hne
      simp only [cntS, List.map_cons, List.sum_cons] at *
      omega
    · have := ih hx'
      simp only [cntS, List.map_cons, List.sum_cons] at *
      omega
open Go.Maps
def LeS (S S' : Pl → Bdd.Fn) : Prop := ∀ x a, S x a = true → S' x a = true
theorem LeS.refl (S : Pl → Bdd.Fn) : LeS S S := fun _ _ h => h
theorem LeS.trans {S S' S'' : Pl → Bdd.Fn} (h : LeS S S') (k : LeS S' S'') : LeS S S'' := fun x a hh => k x a (h x a hh)
theorem le_send (ls : List LinkV) (y : Pl) (F : Bdd.Fn) (S : Pl → Bdd.Fn) : LeS S (sendS ls y F S) := fun x a h => by
  unfold sendS
  cases peerF ls y with
  | none => exact h
  | some z =>
    show (if z = x then orF (S z) F else S x) a = true
    by_cases e : z = x
    · subst e
      rw [if_pos rfl, orF_at, h]
      rfl
    · rw [if_neg e]
      exact h
theorem le_rtOut (ls : List LinkV) (i : Nat) (ts : List RouteV) (F : Bdd.Fn) (S : Pl → Bdd.Fn) : ∀ o, LeS S (rtOut ls i ts F S o)
  | 0 => LeS.refl S
  | o + 1 => (le_rtOut ls i ts F S o).trans (le_send _ _ _ _)
theorem le_rtIn (ls : List LinkV) (i : Nat) (ts : List RouteV) (rs : List RuleV) (Sw S : Pl → Bdd.Fn) : ∀ k, LeS S (rtIn ls i ts rs Sw S k)
  | 0 => LeS.refl S
  | k + 1 => (le_rtIn ls i ts rs Sw S k).trans (le_rtOut _ _ _ _ _ 4)
theorem le_fire (ls : List LinkV) (i : Nat) (rs : List RuleV) (Sw S : Pl → Bdd.Fn) : LeS S (fireS ls i rs Sw S) := by
  unfold fireS
  split
  · exact (le_send _ _ _ _).trans (le_send _ _ _ _)
  · exact le_send _ _ _ _
theorem le_nat (ls : List LinkV) (i a pl : Nat) (Sw S : Pl → Bdd.Fn) : LeS S (natS ls i a pl Sw S) := by
  unfold natS
  split
  · exact (le_send _ _ _ _).trans (le_send _ _ _ _)
  · exact le_send _ _ _ _
theorem le_balStep (ls : List LinkV) (i a : Nat) (Sw : Pl → Bdd.Fn) (b : Nat) (S : Pl → Bdd.Fn) : LeS S (balStep ls i a Sw b S) := by
  unfold balStep
  split
  · exact (le_send _ _ _ _).trans (le_send _ _ _ _)
  · exact le_send _ _ _ _
theorem le_balFold (ls : List LinkV) (i a : Nat) (Sw : Pl → Bdd.Fn) : ∀ (l : List Int) (S : Pl → Bdd.Fn), LeS S (l.foldl (fun S b => balStep ls i a Sw b.toNat S) S)
  | [], S => LeS.refl S
  | b :: t, S => (le_balStep ls i a Sw b.toNat S).trans (le_balFold ls i a Sw t _)
theorem le_bal (ls : List LinkV) (i a : Nat) (bs : List Int) (Sw S : Pl → Bdd.Fn) : LeS S (balS ls i a bs Sw S) := by
  unfold balS balTo bal0
  exact ((le_send _ _ _ _).trans (le_send _ _ _ _)).trans (le_balFold _ _ _ _ _ _)
theorem le_dev (ls : List LinkV) (i : Nat) (d : Dev) (Sw S : Pl → Bdd.Fn) : LeS S (devS ls i d Sw S) := by
  unfold devS
  split
  · exact le_rtIn _ _ _ _ _ _ 4
  split
  · exact le_fire _ _ _ _ _
  split
  · exact le_nat _ _ _ _ _ _
  split
  · exact le_bal _ _ _ _ _ _
  · exact LeS.refl _
theorem le_next (ds : List Dev) (ls : List LinkV) (Sw S : Pl → Bdd.Fn) : ∀ k, LeS S (nextTo ds ls Sw S k)
  | 0 => LeS.refl S
  | k + 1 => (le_next ds ls Sw S k).trans (by
      simp only [nextTo]
      split
      · exact le_dev _ _ _ _ _
      · exact LeS.refl _)
def firstS (ds : List Dev) (ls : List LinkV) : Pl → Bdd.Fn := firstTo ds ls (fun _ _ => false) ds.length
def roundS (ds : List Dev) (ls : List LinkV) : Nat → Pl → Bdd.Fn
  | 0 => firstS ds ls
  | k + 1 => nextTo ds ls (roundS ds ls k) (roundS ds ls k) ds.length
theorem le_round (ds : List Dev) (ls : List LinkV) (k : Nat) : LeS (roundS ds ls k) (roundS ds ls (k + 1)) := le_next _ _ _ _ _
structure MapOk (A : St) (M : PoK → Option Value) (S : Pl → Bdd.Fn) (ks : List Pl) : Prop where
  ints : Ints M
  keys : ∀ x, (M x).isSome = true → x ∈ ks
  isF : ∀ x, IsF A (numAt M x) (S x)
theorem MapOk.same {A : St} {M M' : PoK → Option Value} {S S' : Pl → Bdd.Fn} {ks : List Pl} (h : MapOk A M S ks) (h' : MapOk A M' S' ks) (hle : LeS S S') (hs : ∀ x, (M' x).isSome = true → numAt M x = numAt M' x) (x : Pl) : S' x = S x := by
  cases e : M' x with
  | some v => rw [← (h.isF x).2, ← (h'.isF x).2, hs x (by rw [e]; rfl)]
  | none =>
    have h0 : S' x = fun _ => false := by rw [← (h'.isF x).2, numAt_none e, den_zero]
    rw [h0]
    funext a
    cases hb : S x a
    · rfl
    · have := hle x a hb
      rw [h0] at this
      cases this
theorem MapOk.diff {A : St} {M M' : PoK → Option Value} {S S' : Pl → Bdd.Fn} {ks : List Pl} (i : Inv A) (h : MapOk A M S ks) (h' : MapOk A M' S' ks) {x : Pl} (hx : (M' x).isSome = true) (hne : numAt M x ≠ numAt M' x) : x ∈ ks ∧ S x ≠ S' x :=
  ⟨h'.keys x hx, fun e => hne ((canon i.ok (h.isF x).1 (h'.isF x).1).1 (by rw [(h'.isF x).2, (h.isF x).2, e]))⟩
theorem cntS_max (S : Pl → Bdd.Fn) : ∀ l : List Pl, cntS S l ≤ l.length * 16384
  | [] => Nat.le_refl _
  | x :: l => by
    have h1 : cntF 14 14 (S x) ≤ 16384 := by
      have := List.countP_le_length (p := fun r => S x (asgV 14 r)) (l := List.range (2 ^ 14))
      simpa [cntF] using this
    have h2 := cntS_max S l
    simp only [cntS, List.map_cons, List.sum_cons, List.length_cons] at *
    omega
theorem existsF_at (F : Bdd.Fn) (i : Nat) (a : Asg) : existsF F i a = (F (upd a i false) || F (upd a i true)) := by
  unfold existsF iteF restr
  cases F (upd a i false) <;> simp
section
variable {ls' ls : List LinkV} {Sw Sw' S S' : Pl → Bdd.Fn} {F F' : Bdd.Fn}
end
end Go.Proofs.YtohbafigjpoijaaGreat
