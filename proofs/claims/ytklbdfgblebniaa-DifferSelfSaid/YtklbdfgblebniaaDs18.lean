/- A part of the proof: Rd7, Rd8, Rd9, Ring2. -/
import Derived.Test.YtklbdfgblebniaaDs17
import Derived.ChangeKeysEq

set_option linter.unusedVariables false
set_option linter.unusedSimpArgs false
namespace Go.Proofs.Ytklbdfgblebniaa
open Go.RowKit Go.Maps Bdd

def devS (ls : List LinkV) (i : Nat) (d : Dev) (Sw Sn : Pl → Bdd.Fn) : Pl → Bdd.Fn :=
  if d.kind = 2 then routerS ls i d.routes d.rules Sw Sn
  else if d.kind = 3 then fireS ls i d.rules Sw Sn
  else if d.kind = 4 then natS ls i d.addr.toNat d.pool Sw Sn
  else if d.kind = 5 then balS ls i d.addr.toNat d.backs Sw Sn
  else Sn
def nextTo (ds : List Dev) (ls : List LinkV) (Sw Sn : Pl → Bdd.Fn) : Nat → Pl → Bdd.Fn
  | 0 => Sn
  | k + 1 => match ds[k]? with
    | some d => devS ls k d Sw (nextTo ds ls Sw Sn k)
    | none => nextTo ds ls Sw Sn k
theorem nextTo_succ {ds : List Dev} {ls : List LinkV} {Sw Sn : Pl → Bdd.Fn} {k : Nat} {d : Dev} (h : ds[k]? = some d) : nextTo ds ls Sw Sn (k + 1) = devS ls k d Sw (nextTo ds ls Sw Sn k) := by
  simp only [nextTo, h]
structure DevPC (P : Bdd.Fn → Prop) (ls : List LinkV) (i : Nat) (d : Dev) (Sw Sn : Pl → Bdd.Fn) : Prop where
  r : d.kind = 2 → RouterPC P ls i d.routes d.rules Sw Sn
  f : d.kind = 3 → FirePC P ls i d.rules Sw Sn
  n : d.kind = 4 → NatPC P ls i d.addr.toNat d.pool Sw Sn
  b : d.kind = 5 → BalPC P ls i d.addr.toNat d.backs Sw Sn
def NextPC (P : Bdd.Fn → Prop) (ds : List Dev) (ls : List LinkV) (Sw Sn : Pl → Bdd.Fn) : Prop := ∀ k d, ds[k]? = some d → DevPC P ls k d Sw (nextTo ds ls Sw Sn k)

theorem backsOk_lt (a : Int) : ∀ (l pre : List Int), backsOk a pre l = true → ∀ b ∈ l, 0 ≤ b ∧ b < 16
  | [], _, _, b, hb => by cases hb
  | c :: t, pre, h, b, hb => by
    simp only [backsOk, Bool.and_eq_true, decide_eq_true_eq] at h
    rcases List.mem_cons.1 hb with rfl | hb
    · exact ⟨h.1.1.1.1, h.1.1.1.2⟩
    · exact backsOk_lt a t _ h.2 b hb
theorem DevOk.addr16 {d : Dev} (h : DevOk d) (hk : d.kind = 1 ∨ d.kind = 4 ∨ d.kind = 5) : 0 ≤ d.addr ∧ d.addr < 16 := by
  have h1 := h.ar
  have h2 : addrB d.kind = true := by
    unfold addrB
    rcases hk with e | e | e <;> rw [e] <;> rfl
  rw [h2] at h1
  simp only [Bool.true_and, Bool.not_not, Bool.not_true, Bool.false_and, Bool.not_false, Bool.and_true, Bool.and_eq_true, decide_eq_true_eq] at h1
  exact h1.1
theorem DevOk.backs16 {d : Dev} (h : DevOk d) : ∀ b ∈ d.backs, 0 ≤ b ∧ b < 16 := by
  have h1 := h.bb
  unfold backsB at h1
  rw [Bool.and_eq_true] at h1
  exact backsOk_lt _ _ _ h1.1

set_option maxRecDepth 100000 in
set_option maxHeartbeats 8000000 in
theorem next_round (w : World) (B g : Nat) (A : St) (bl : List Nat) (mk e rd : Nat) (n : NetV) (wm nm : Nat) (Mw Mn : PoK → Option Value) (Sw Sn : Pl → Bdd.Fn) (h : RD w B g A bl mk e rd n (.map (some wm)) nm Mn Sn) (hw : WasOk w A e bl wm Mw Sw) (hv : A.vars = 14) (hn : NetAt w B n) (hok : ∀ d ∈ n.devs, DevOk d) (hdl : n.dn ≤ 10) (hlk : LinksOk n.ls)
    (P : Bdd.Fn → Prop) (hP : NextPC P n.devs n.ls Sw Sn) :
    Calls Try.prog 21 #[.pointer (some ⟨rd, 0, none⟩)] w fun en w' => en = .returned (.tuple #[]) ∧ RDP w B g A bl mk e rd n (.map (some wm)) nm P (nextTo n.devs n.ls Sw Sn n.dn) w' := by
  have HR0 := hide (RF.start h hw P)
  have HN := hide (fun (w' : World) (hb : RowKit.Below B w w') => show NetAt w' B n from hn.below hb (Nat.le_refl _))
  have HDK := hide (fun (d : DevV) (hd : d ∈ n.ds) => hok d.dev (List.mem_map_of_mem hd))
  have HLK := hide hlk
  have HP := hide hP
  have HV := hide hv
  have HD := hide hn
  have hdl2 := hn.dlen
  have r1 : w.cell? ⟨rd, 1, none⟩ = some (.slice n.dA n.dn n.dc) := h.bx.get 1 _ rfl
  clear h hw hn hok hlk hP hv
  obtain ⟨dA, dn, dc, ds, lA, ln, lc, ls⟩ := n
  simp only [NetV.devs] at *
  go_enter Try.func21, Try.ntmps21
  go_wp2_with fail
  clear r1
  go_loopw [10] (fun i wr => ∃ (k : Nat) (A2 : St) (e2 : Nat) (Mn2 : PoK → Option Value), k ≤ dn ∧ i = .int .i64 (k : Int) ∧ Hid (RF w B g A bl mk e rd ⟨dA, dn, dc, ds, lA, ln, lc, ls⟩ wm nm Mw Sw P wr A2 e2 Mn2 (nextTo (ds.map DevV.dev) ls Sw Sn k) [])) (fun i _ => dn - (intOf i).toNat)
  case atStart => exact ⟨0, A, e, Mn, Nat.zero_le _, rfl, HR0⟩
  case round =>
    clear HR0
    obtain ⟨k, A2, e2, Mn2, hkn, rfl, HR⟩ := hrel
    by_cases hlt : k < dn
    · obtain ⟨r, hr⟩ : ∃ r, ds[k]? = some r := ⟨_, List.getElem?_eq_getElem (by omega)⟩
      have hdr : (ds.map DevV.dev)[k]? = some r.dev := by rw [List.getElem?_map, hr]; rfl
      have HDR := hide hdr
      obtain ⟨b, o, rfl, _, _⟩ := HD.out.ds.2 (by show 0 < dn; omega)
      have HNW := HN.out wr HR.out.kp.low
      obtain ⟨_, q0, q1, q2, q3, q4, q5, q6⟩ := dev_get HNW.ds hr
      have HOK := hide (HDK.out r (List.mem_of_getElem? hr))
      have HDA := hide (HNW.dok r (List.mem_of_getElem? hr))
      have HPK := hide (HP.out k r.dev hdr)
      have HNX := hide (nextTo_succ (ls := ls) (Sw := Sw) (Sn := Sn) hdr)
      clear hr hdr HNW
      obtain ⟨nm', kd, ad, pl, bA, bn, bc, bs, rA, rn, rc, rs, tA, tn, tc, ts⟩ := r
      simp only at q0 q1 q2 q3 q4 q5 q6
      have HBA := hide (below_alloc2 wr (.cells #[.string nm', .int .i64 kd, .int .i64 ad, .int .u8 pl, .slice bA bn bc, .slice rA rn rc, .slice tA tn tc] 34))
      have HX := hide (Bx.new wr #[.string nm', .int .i64 kd, .int .i64 ad, .int .u8 pl, .slice bA bn bc, .slice rA rn rc, .slice tA tn tc] 34)
      have hk1 := HOK.out.k1
      have hk5 := HOK.out.k5
      simp only [DevV.dev] at hk1 hk5
      rcases (show kd = 1 ∨ kd = 2 ∨ kd = 3 ∨ kd = 4 ∨ kd = 5 by omega) with e1 | e1 | e1 | e1 | e1
      all_goals clear hk1 hk5 -- cases
      all_goals subst e1
      · have HNR := hide (show RF w B g A bl mk e rd ⟨some ⟨b, o, none⟩, dn, dc, ds, lA, ln, lc, ls⟩ wm nm Mw Sw P _ A2 e2 Mn2 (nextTo (ds.map DevV.dev) ls Sw Sn (k + 1)) [] from by rw [HNX.out]; exact HR.out.below HBA.out)
        go_wp2_with fail
        go_roundw
        case rel => exact ⟨k + 1, A2, e2, Mn2, by omega, by go_num, HNR⟩
        case measure => simp [intOf]; omega
      · go_wp2_with fail
        have HR2 := hide (HR.out.below HBA.out)
        have HDA2 := hide (show DevAt _ B ⟨nm', 2, ad, pl, bA, bn, bc, bs, rA, rn, rc, rs, tA, tn, tc, ts⟩ from HDA.out.below (HBA.out.mono (Nat.le_of_lt HR.out.rd.m.sa.hB)) (Nat.le_refl _))
        clear q0 q1 q2 q3 q4 q5 q6 HBA HX HDA HR
        generalize World.alloc wr _ = w2 at *
        generalize wr.heap.size = Nd at *
        refine (router_walk w2 B g A2 bl mk e2 rd ⟨some ⟨b, o, none⟩, dn, dc, ds, lA, ln, lc, ls⟩ wm nm Mw Mn2 Sw _ HR2.out.rd HR2.out.was (by rw [HR2.out.ext.vars]; exact HV.out) (HN.out _ HR2.out.kp.low).ls HLK.out P k (by omega) ⟨nm', 2, ad, pl, bA, bn, bc, bs, rA, rn, rc, rs, tA, tn, tc, ts⟩ HDA2.out (by have := HDA2.out.rs.1; have := HOK.out.rl; simp only [DevV.dev] at *; omega) HOK.out.tc (HPK.out.r rfl)).mono ?_
        rintro en w3 ⟨rfl, hr⟩
        obtain ⟨A3, e3, Mn3, hrf, hx3, he3, hsm3⟩ := HR2.out.send hr
        have HR3 := hide (show RF w B g A bl mk e rd ⟨some ⟨b, o, none⟩, dn, dc, ds, lA, ln, lc, ls⟩ wm nm Mw Sw P w3 A3 e3 Mn3 (nextTo (ds.map DevV.dev) ls Sw Sn (k + 1)) [] from by rw [HNX.out]; exact hrf)
        clear hr hrf hx3 he3 hsm3 HR2 HDA2
        go_wp2_with fail
        go_roundw
        case rel => exact ⟨k + 1, A3, e3, Mn3, by omega, by go_num, HR3⟩
        case measure => simp [intOf]; omega
      · go_wp2_with fail
        have HR2 := hide (HR.out.below HBA.out)
        have HDA2 := hide (show DevAt _ B ⟨nm', 3, ad, pl, bA, bn, bc, bs, rA, rn, rc, rs, tA, tn, tc, ts⟩ from HDA.out.below (HBA.out.mono (Nat.le_of_lt HR.out.rd.m.sa.hB)) (Nat.le_refl _))
        clear q0 q1 q2 q3 q4 q5 q6 HBA HX HDA HR
        generalize World.alloc wr _ = w2 at *
        generalize wr.heap.size = Nd at *
        refine (fire_walk w2 B g A2 bl mk e2 rd ⟨some ⟨b, o, none⟩, dn, dc, ds, lA, ln, lc, ls⟩ wm nm Mw Mn2 Sw _ HR2.out.rd HR2.out.was (by rw [HR2.out.ext.vars]; exact HV.out) (HN.out _ HR2.out.kp.low).ls HLK.out P k (by omega) ⟨nm', 3, ad, pl, bA, bn, bc, bs, rA, rn, rc, rs, tA, tn, tc, ts⟩ HDA2.out (by have := HDA2.out.rs.1; have := HOK.out.rl; simp only [DevV.dev] at *; omega) (HPK.out.f rfl)).mono ?_
        rintro en w3 ⟨rfl, hr⟩
        obtain ⟨A3, e3, Mn3, hrf, hx3, he3, hsm3⟩ := HR2.out.send hr
        have HR3 := hide (show RF w B g A bl mk e rd ⟨some ⟨b, o, none⟩, dn, dc, ds, lA, ln, lc, ls⟩ wm nm Mw Sw P w3 A3 e3 Mn3 (nextTo (ds.map DevV.dev) ls Sw Sn (k + 1)) [] from by rw [HNX.out]; exact hrf)
        clear hr hrf hx3 he3 hsm3 HR2 HDA2
        go_wp2_with fail
        go_roundw
        case rel => exact ⟨k + 1, A3, e3, Mn3, by omega, by go_num, HR3⟩
        case measure => simp [intOf]; omega
      · have ha := HOK.out.addr16 (.inr (.inl rfl))
        simp only [DevV.dev] at ha
        obtain ⟨an, rfl⟩ : ∃ an : Nat, ad = (an : Int) := ⟨ad.toNat, by omega⟩
        have ha16 : an < 16 := by omega
        clear ha
        go_wp2_with fail
        have HR2 := hide (HR.out.below HBA.out)
        have HDA2 := hide (show DevAt _ B ⟨nm', 4, (an : Int), pl, bA, bn, bc, bs, rA, rn, rc, rs, tA, tn, tc, ts⟩ from HDA.out.below (HBA.out.mono (Nat.le_of_lt HR.out.rd.m.sa.hB)) (Nat.le_refl _))
        clear q0 q1 q2 q3 q4 q5 q6 HBA HX HDA HR
        generalize World.alloc wr _ = w2 at *
        generalize wr.heap.size = Nd at *
        refine (nat_walk w2 B g A2 bl mk e2 rd ⟨some ⟨b, o, none⟩, dn, dc, ds, lA, ln, lc, ls⟩ wm nm Mw Mn2 Sw _ HR2.out.rd HR2.out.was (by rw [HR2.out.ext.vars]; exact HV.out) (HN.out _ HR2.out.kp.low).ls HLK.out P k (by omega) ⟨nm', 4, (an : Int), pl, bA, bn, bc, bs, rA, rn, rc, rs, tA, tn, tc, ts⟩ an rfl rfl ha16 HDA2.out.pl (HPK.out.n rfl)).mono ?_
        rintro en w3 ⟨rfl, hr⟩
        obtain ⟨A3, e3, Mn3, hrf, hx3, he3, hsm3⟩ := HR2.out.send hr
        have HR3 := hide (show RF w B g A bl mk e rd ⟨some ⟨b, o, none⟩, dn, dc, ds, lA, ln, lc, ls⟩ wm nm Mw Sw P w3 A3 e3 Mn3 (nextTo (ds.map DevV.dev) ls Sw Sn (k + 1)) [] from by rw [HNX.out]; exact hrf)
        clear hr hrf hx3 he3 hsm3 HR2 HDA2
        go_wp2_with fail
        go_roundw
        case rel => exact ⟨k + 1, A3, e3, Mn3, by omega, by go_num, HR3⟩
        case measure => simp [intOf]; omega
      · have ha := HOK.out.addr16 (.inr (.inr rfl))
        simp only [DevV.dev] at ha
        obtain ⟨an, rfl⟩ : ∃ an : Nat, ad = (an : Int) := ⟨ad.toNat, by omega⟩
        have ha16 : an < 16 := by omega
        clear ha
        go_wp2_with fail
        have HR2 := hide (HR.out.below HBA.out)
        have HDA2 := hide (show DevAt _ B ⟨nm', 5, (an : Int), pl, bA, bn, bc, bs, rA, rn, rc, rs, tA, tn, tc, ts⟩ from HDA.out.below (HBA.out.mono (Nat.le_of_lt HR.out.rd.m.sa.hB)) (Nat.le_refl _))
        clear q0 q1 q2 q3 q4 q5 q6 HBA HX HDA HR
        generalize World.alloc wr _ = w2 at *
        generalize wr.heap.size = Nd at *
        refine (balancer_walk w2 B g A2 bl mk e2 rd ⟨some ⟨b, o, none⟩, dn, dc, ds, lA, ln, lc, ls⟩ wm nm Mw Mn2 Sw _ HR2.out.rd HR2.out.was (by rw [HR2.out.ext.vars]; exact HV.out) (HN.out _ HR2.out.kp.low).ls HLK.out P k (by omega) ⟨nm', 5, (an : Int), pl, bA, bn, bc, bs, rA, rn, rc, rs, tA, tn, tc, ts⟩ an rfl rfl ha16 HDA2.out.bs HOK.out.backs16 HOK.out.bl (HPK.out.b rfl)).mono ?_
        rintro en w3 ⟨rfl, hr⟩
        obtain ⟨A3, e3, Mn3, hrf, hx3, he3, hsm3⟩ := HR2.out.send hr
        have HR3 := hide (show RF w B g A bl mk e rd ⟨some ⟨b, o, none⟩, dn, dc, ds, lA, ln, lc, ls⟩ wm nm Mw Sw P w3 A3 e3 Mn3 (nextTo (ds.map DevV.dev) ls Sw Sn (k + 1)) [] from by rw [HNX.out]; exact hrf)
        clear hr hrf hx3 he3 hsm3 HR2 HDA2
        go_wp2_with fail
        go_roundw
        case rel => exact ⟨k + 1, A3, e3, Mn3, by omega, by go_num, HR3⟩
        case measure => simp [intOf]; omega
    · have HFN := hide (show RDP w B g A bl mk e rd ⟨dA, dn, dc, ds, lA, ln, lc, ls⟩ (.map (some wm)) nm P (nextTo (ds.map DevV.dev) ls Sw Sn dn) wr from by
        have hk : k = dn := by omega
        have := HR.out.out; rw [hk] at this; exact this)
      go_wp2
      go_end0
      exact ⟨rfl, HFN.out⟩
end Go.Proofs.Ytklbdfgblebniaa

set_option linter.unusedVariables false
set_option linter.unusedSimpArgs false
namespace Go.Proofs.Ytklbdfgblebniaa
open Go.RowKit Go.Maps Bdd

structure RN (w0 : World) (B g : Nat) (A0 : St) (bl : List Nat) (mk e0 rd : Nat) (n : NetV) (wmV : Value) (nm : Nat) (P : Bdd.Fn → Prop) (wr : World) (A : St) (e : Nat) (Mn : PoK → Option Value) (Sn : Pl → Bdd.Fn) (more : List Nat) : Prop where
  rd : RD wr B g A (more ++ bl) mk e rd n wmV nm Mn Sn
  ext : Ext A0 A
  nw : NwP P A0 A
  kp : KP B bl w0 wr
  e0 : e = 0 → e0 = 0
section
variable {w0 wr w' : World} {B g mk e0 e rd nm : Nat} {A0 A : St} {bl more : List Nat} {n : NetV} {wmV : Value} {Mn : PoK → Option Value} {Sn : Pl → Bdd.Fn} {P : Bdd.Fn → Prop}
theorem RN.start (h : RD wr B g A bl mk e rd n wmV nm Mn Sn) (P : Bdd.Fn → Prop) : RN wr B g A bl mk e rd n wmV nm P wr A e Mn Sn [] := ⟨h, Ext.refl h.inv, NwP.refl _ _, KP.refl _ _ _, id⟩
theorem RN.below (h : RN w0 B g A0 bl mk e0 rd n wmV nm P wr A e Mn Sn more) (hb : RowKit.Below wr.heap.size wr w') : RN w0 B g A0 bl mk e0 rd n wmV nm P w' A e Mn Sn more :=
  ⟨h.rd.below hb, h.ext, h.nw, h.kp.trans ((h.rd.kp hb).mono (fun j hj => by simp [hj])), h.e0⟩
theorem RN.alloc (h : RN w0 B g A0 bl mk e0 rd n wmV nm P wr A e Mn Sn more) (o : Obj) : RN w0 B g A0 bl mk e0 rd n wmV nm P (wr.alloc o) A e Mn Sn (wr.heap.size :: more) :=
  have q := h.below (below_alloc2 wr o)
  ⟨h.rd.alloc o, h.ext, h.nw, q.kp, h.e0⟩
theorem RN.less {more' : List Nat} (h : RN w0 B g A0 bl mk e0 rd n wmV nm P wr A e Mn Sn more) (hs : ∀ j ∈ more', j ∈ more) : RN w0 B g A0 bl mk e0 rd n wmV nm P wr A e Mn Sn more' :=
  ⟨h.rd.less (fun j hj => by
    rcases List.mem_append.1 hj with a | a
    · exact List.mem_append_left _ (hs j a)
    · exact List.mem_append_right _ a), h.ext, h.nw, h.kp, h.e0⟩
theorem RN.call (h : RN w0 B g A0 bl mk e0 rd n wmV nm P wr A e Mn Sn more) {F : Bdd.Fn} {en : Ending} (hr : MR wr B g A (rd :: nm :: (more ++ bl)) mk e P F en w') :
    ∃ (A2 : St) (e2 r : Nat), en = .returned (.int .i64 (r : Int)) ∧ RN w0 B g A0 bl mk e0 rd n wmV nm P w' A2 e2 Mn Sn more ∧ Ext A A2 ∧ (e2 = 0 → e = 0 ∧ IsF A2 r F) ∧ (∀ j ∈ more, w'.heap[j]? = wr.heap[j]?) := by
  obtain ⟨A2, e2, r, h1, h2, h3, h4, h5, h6⟩ := h.rd.step hr
  exact ⟨A2, e2, r, h1, ⟨h2, h.ext.trans h3, h.nw.trans h4 h.rd.inv h3, h.kp.trans (h5.mono (fun j hj => by simp [hj])), fun he => h.e0 (h6 he).1⟩, h3, h6, fun j hj => h5.same j (by simp [hj])⟩
theorem RN.send (h : RN w0 B g A0 bl mk e0 rd n wmV nm P wr A e Mn Sn more) {Sn' : Pl → Bdd.Fn} (hr : RDP wr B g A (more ++ bl) mk e rd n wmV nm P Sn' w') :
    ∃ (A2 : St) (e2 : Nat) (Mn2 : PoK → Option Value), RN w0 B g A0 bl mk e0 rd n wmV nm P w' A2 e2 Mn2 Sn' more ∧ Ext A A2 ∧ (e2 = 0 → e = 0) ∧ (∀ j ∈ more, w'.heap[j]? = wr.heap[j]?) := by
  obtain ⟨A2, e2, Mn2, h2, h3, h4, h5, h6⟩ := hr
  exact ⟨A2, e2, Mn2, ⟨h2, h.ext.trans h3, h.nw.trans h4 h.rd.inv h3, h.kp.trans (h5.mono (fun j hj => by simp [hj])), fun he => h.e0 (h6 he)⟩, h3, h6, fun j hj => h5.same j (by simp [hj])⟩
theorem RN.out (h : RN w0 B g A0 bl mk e0 rd n wmV nm P wr A e Mn Sn more) : RDP w0 B g A0 bl mk e0 rd n wmV nm P Sn wr :=
  ⟨A, e, Mn, h.rd.less (fun j hj => by simp [hj]), h.ext, h.nw, h.kp, h.e0⟩
end

def hostS (ls : List LinkV) (i : Nat) (d : Dev) (Sn : Pl → Bdd.Fn) : Pl → Bdd.Fn := if d.kind = 1 then sendS ls ((i : Int), 0) (matchF (srcM d.addr.toNat)) Sn else Sn
def firstTo (ds : List Dev) (ls : List LinkV) (Sn : Pl → Bdd.Fn) : Nat → Pl → Bdd.Fn
  | 0 => Sn
  | k + 1 => match ds[k]? with
    | some d => hostS ls k d (firstTo ds ls Sn k)
    | none => firstTo ds ls Sn k
theorem firstTo_succ {ds : List Dev} {ls : List LinkV} {Sn : Pl → Bdd.Fn} {k : Nat} {d : Dev} (h : ds[k]? = some d) : firstTo ds ls Sn (k + 1) = hostS ls k d (firstTo ds ls Sn k) := by
  simp only [firstTo, h]
structure HostPC (P : Bdd.Fn → Prop) (ls : List LinkV) (i : Nat) (a : Nat) (Sn : Pl → Bdd.Fn) : Prop where
  m : MatchPC P (srcM a)
  s : SendPC P ls ((i : Int), 0) (matchF (srcM a)) Sn
def FirstPC (P : Bdd.Fn → Prop) (ds : List Dev) (ls : List LinkV) (Sn : Pl → Bdd.Fn) : Prop := ∀ k d, ds[k]? = some d → d.kind = 1 → HostPC P ls k d.addr.toNat (firstTo ds ls Sn k)

set_option maxRecDepth 100000 in
set_option maxHeartbeats 8000000 in
theorem first_round (w : World) (B g : Nat) (A : St) (bl : List Nat) (mk e rd : Nat) (n : NetV) (wmV : Value) (nm : Nat) (Mn : PoK → Option Value) (Sn : Pl → Bdd.Fn) (h : RD w B g A bl mk e rd n wmV nm Mn Sn) (hv : A.vars = 14) (hn : NetAt w B n) (hok : ∀ d ∈ n.devs, DevOk d) (hdl : n.dn ≤ 10) (hlk : LinksOk n.ls)
    (P : Bdd.Fn → Prop) (hP : FirstPC P n.devs n.ls Sn) :
    Calls Try.prog 19 #[.pointer (some ⟨rd, 0, none⟩)] w fun en w' => en = .returned (.tuple #[]) ∧ RDP w B g A bl mk e rd n wmV nm P (firstTo n.devs n.ls Sn n.dn) w' := by
  have HR0 := hide (RN.start h P)
  have HN := hide (fun (w' : World) (hb : RowKit.Below B w w') => show NetAt w' B n from hn.below hb (Nat.le_refl _))
  have HDK := hide (fun (d : DevV) (hd : d ∈ n.ds) => hok d.dev (List.mem_map_of_mem hd))
  have HLK := hide hlk
  have HP := hide hP
  have HV := hide hv
  have HD := hide hn
  have hdl2 := hn.dlen
  have r1 : w.cell? ⟨rd, 1, none⟩ = some (.slice n.dA n.dn n.dc) := h.bx.get 1 _ rfl
  clear h hn hok hlk hP hv
  obtain ⟨dA, dn, dc, ds, lA, ln, lc, ls⟩ := n
  simp only [NetV.devs] at *
  go_enter Try.func19, Try.ntmps19
  go_wp2_with fail
  clear r1
  go_loopw [10] (fun i wr => ∃ (k : Nat) (A2 : St) (e2 : Nat) (Mn2 : PoK → Option Value), k ≤ dn ∧ i = .int .i64 (k : Int) ∧ Hid (RN w B g A bl mk e rd ⟨dA, dn, dc, ds, lA, ln, lc, ls⟩ wmV nm P wr A2 e2 Mn2 (firstTo (ds.map DevV.dev) ls Sn k) [])) (fun i _ => dn - (intOf i).toNat)
  case atStart => exact ⟨0, A, e, Mn, Nat.zero_le _, rfl, HR0⟩
  case round =>
    clear HR0
    obtain ⟨k, A2, e2, Mn2, hkn, rfl, HR⟩ := hrel
    by_cases hlt : k < dn
    · obtain ⟨r, hr⟩ : ∃ r, ds[k]? = some r := ⟨_, List.getElem?_eq_getElem (by omega)⟩
      have hdr : (ds.map DevV.dev)[k]? = some r.dev := by rw [List.getElem?_map, hr]; rfl
      obtain ⟨b, o, rfl, _, _⟩ := HD.out.ds.2 (by show 0 < dn; omega)
      have HNW := HN.out wr HR.out.kp.low
      obtain ⟨_, q0, q1, q2, q3, q4, q5, q6⟩ := dev_get HNW.ds hr
      have HOK := hide (HDK.out r (List.mem_of_getElem? hr))
      have HPK := hide (HP.out k r.dev hdr)
      have HNX := hide (firstTo_succ (ls := ls) (Sn := Sn) hdr)
      clear hr hdr HNW
      obtain ⟨nm', kd, ad, pl, bA, bn, bc, bs, rA, rn, rc, rs, tA, tn, tc, ts⟩ := r
      simp only at q0 q1 q2 q3 q4 q5 q6
      have HBA := hide (below_alloc2 wr (.cells #[.string nm', .int .i64 kd, .int .i64 ad, .int .u8 pl, .slice bA bn bc, .slice rA rn rc, .slice tA tn tc] 34))
      by_cases hk : kd = 1
      case neg =>
        have hne : (kd == 1) = false := by simp [hk]
        have HNR := hide (show RN w B g A bl mk e rd ⟨some ⟨b, o, none⟩, dn, dc, ds, lA, ln, lc, ls⟩ wmV nm P _ A2 e2 Mn2 (firstTo (ds.map DevV.dev) ls Sn (k + 1)) [] from by
          rw [HNX.out]; unfold hostS; rw [if_neg (by exact hk)]; exact HR.out.below HBA.out)
        go_wp2_with fail
        go_roundw
        case rel => exact ⟨k + 1, A2, e2, Mn2, by omega, by go_num, HNR⟩
        case measure => simp [intOf]; omega
      subst hk
      have ha := HOK.out.addr16 (.inl rfl)
      simp only [DevV.dev] at ha
      obtain ⟨an, rfl⟩ : ∃ an : Nat, ad = (an : Int) := ⟨ad.toNat, by omega⟩
      have ha16 : an < 16 := by omega
      clear ha
      have HX := hide (Bx.new wr #[.string nm', .int .i64 1, .int .i64 (an : Int), .int .u8 pl, .slice bA bn bc, .slice rA rn rc, .slice tA tn tc] 34)
      have HR2 := hide (HR.out.alloc (.cells #[.string nm', .int .i64 1, .int .i64 (an : Int), .int .u8 pl, .slice bA bn bc, .slice rA rn rc, .slice tA tn tc] 34))
      clear HBA HR
      go_wp2_with fail
      clear q0 q1 q2 q3 q4 q5 q6
      generalize World.alloc wr _ = w2 at *
      generalize wr.heap.size = Nd at *
      have HQ := hide (fun (w' : World) (h1 : Bx w' rd #[.pointer (some ⟨mk, 0, none⟩), .slice (some ⟨b, o, none⟩) dn dc, .slice lA ln lc, wmV, .map (some nm)] 73) (h3 : Bx w' Nd #[.string nm', .int .i64 1, .int .i64 (an : Int), .int .u8 pl, .slice bA bn bc, .slice rA rn rc, .slice tA tn tc] 34) =>
        show w'.cell? ⟨rd, 0, none⟩ = some (.pointer (some ⟨mk, 0, none⟩)) ∧ w'.cell? ⟨Nd, 2, none⟩ = some (.int .i64 (an : Int)) from ⟨h1.get 0 _ rfl, h3.get 2 _ rfl⟩)
      have HR3 := hide (HR2.out.below (RowKit.Below.refl _ _).drew)
      have HX3 := hide (HX.out.below (RowKit.Below.refl _ _).drew)
      clear HR2 HX
      refine wp_region_E (fun w' => w'.cell? ⟨rd, 0, none⟩ = some (.pointer (some ⟨mk, 0, none⟩)) ∧ w'.cell? ⟨Nd, 2, none⟩ = some (.int .i64 (an : Int))) 10 (by kernel_rfl) (HQ.out _ HR3.out.rd.bx HX3.out) (fun hS inv => ?_)
      refine wpAnyE_pure (i := 0) (v := ?_) rfl (by kernel_rfl) (by kernel_rfl) (by kernel_rfl) (by kernel_rfl) (fun _ _ _ h => h) inv (Or.inl ⟨by rfl, ?_⟩) (fun _ => hS) (fun inv2 => ?_)
      rotate_left
      · intro w _
        go_simp
        try with_reducible rfl
      clear inv
      have inv := inv2
      clear inv2
      try simp only [Act.put, nrmA, nrmB, nrmC]
      refine wpAnyE_pure (i := 1) (v := ?_) rfl (by kernel_rfl) (by kernel_rfl) (by kernel_rfl) (by kernel_rfl) (fun _ _ _ h => h) inv (Or.inl ⟨by rfl, ?_⟩) (fun _ => hS) (fun inv2 => ?_)
      rotate_left
      · intro w _
        go_simp
        try with_reducible rfl
      clear inv
      have inv := inv2
      clear inv2
      try simp only [Act.put, nrmA, nrmB, nrmC]
      refine wpAnyE_pure (i := 2) (v := ?_) rfl (by kernel_rfl) (by kernel_rfl) (by kernel_rfl) (by kernel_rfl) (fun _ _ _ h => h) inv (Or.inl ⟨by rfl, ?_⟩) (fun _ => hS) (fun inv2 => ?_)
      rotate_left
      · intro w _
        go_simp
        try with_reducible rfl
      clear inv
      have inv := inv2
      clear inv2
      try simp only [Act.put, nrmA, nrmB, nrmC]
      refine wpAnyE_pure (i := 3) (v := ?_) rfl (by kernel_rfl) (by kernel_rfl) (by kernel_rfl) (by kernel_rfl) (fun _ _ _ h => h) inv (Or.inl ⟨by rfl, ?_⟩) (fun _ => hS) (fun inv2 => ?_)
      rotate_left
      · intro w _
        go_simp
        try with_reducible rfl
      clear inv
      have inv := inv2
      clear inv2
      try simp only [Act.put, nrmA, nrmB, nrmC]
      refine wpAnyE_pure (i := 4) (v := ?_) rfl (by kernel_rfl) (by kernel_rfl) (by kernel_rfl) (by kernel_rfl) (fun _ _ _ h => h) inv (Or.inl ⟨by rfl, ?_⟩) (fun _ => hS) (fun inv2 => ?_)
      rotate_left
      · intro w _
        go_simp
        try with_reducible rfl
      clear inv
      have inv := inv2
      clear inv2
      try simp only [Act.put, nrmA, nrmB, nrmC]
      refine wpAnyE_load (i := 5) (v := ?_) [9, 10] rfl (by kernel_rfl) (by kernel_rfl) (by kernel_rfl) (by kernel_rfl) (fun _ _ _ h => h) inv (Or.inl ⟨by rfl, ?_⟩) hS (fun inv2 => ?_)
      rotate_left
      · intro w hSw
        obtain ⟨s0, s1⟩ := hSw
        go_simp
        try with_reducible rfl
      clear inv
      have inv := inv2
      clear inv2
      try simp only [Act.put, nrmA, nrmB, nrmC]
      refine wpAnyE_pure (i := 6) (v := ?_) rfl (by kernel_rfl) (by kernel_rfl) (by kernel_rfl) (by kernel_rfl) (fun _ _ _ h => h) inv (Or.inl ⟨by rfl, ?_⟩) (fun _ => hS) (fun inv2 => ?_)
      rotate_left
      · intro w _
        go_simp
        try with_reducible rfl
      clear inv
      have inv := inv2
      clear inv2
      try simp only [Act.put, nrmA, nrmB, nrmC]
      refine wpAnyE_load (i := 7) (v := ?_) [8, 9, 10] rfl (by kernel_rfl) (by kernel_rfl) (by kernel_rfl) (by kernel_rfl) (fun _ _ _ h => h) inv (Or.inl ⟨by rfl, ?_⟩) hS (fun inv2 => ?_)
      rotate_left
      · intro w hSw
        obtain ⟨s0, s1⟩ := hSw
        go_simp
        try with_reducible rfl
      clear inv
      have inv := inv2
      clear inv2
      try simp only [Act.put, nrmA, nrmB, nrmC]
      refine wpAnyE_one (i := 8) rfl (by kernel_rfl) inv (fun K hK => ?_)
      go_simp
      clear hS
      refine (src_walk an _ ha16).mono ?_
      rintro en w4 ⟨rfl, hb⟩
      have HR4 := hide (HR3.out.below hb)
      have HX4 := hide (HX3.out.below hb)
      clear hb HR3 HX3
      have hS := HQ.out _ HR4.out.rd.bx HX4.out
      go_simp
      refine hK.out _ _ (fun _ => HQ.out _ HR4.out.rd.bx HX4.out) (fun inv2 => ?_)
      clear hK K hS
      clear inv
      have inv := inv2
      clear inv2
      try simp only [Act.put, nrmA, nrmB, nrmC]
      have hS := HQ.out _ HR4.out.rd.bx HX4.out
      refine wpAnyE_one (i := 9) rfl (by kernel_rfl) inv (fun K hK => ?_)
      go_simp
      clear hS
      refine (mk_in w4 B g A2 (rd :: nm :: ([Nd] ++ bl)) mk e2 HR4.out.rd.m (srcM an) (srcM_ok ha16) P (by rw [HR4.out.ext.vars]; exact HV.out) (HPK.out rfl).m).mono ?_
      rintro en w5 hr
      obtain ⟨A5, e5, r5, rfl, hrf, hx, hF, hsm⟩ := HR4.out.call hr
      have HR5 := hide hrf
      have HX5 := hide (HX4.out.same (hsm Nd (by simp)))
      have HF5 := hide (fun h => (hF h).2)
      clear hr hrf hx hF hsm HR4 HX4
      have hS := HQ.out _ HR5.out.rd.bx HX5.out
      go_simp
      refine hK.out _ _ (fun _ => HQ.out _ HR5.out.rd.bx HX5.out) (fun inv2 => ?_)
      clear hK K hS
      clear inv
      have inv := inv2
      clear inv2
      try simp only [Act.put, nrmA, nrmB, nrmC]
      have hS := HQ.out _ HR5.out.rd.bx HX5.out
      refine wpAnyE_late (i := 10) rfl (by kernel_rfl) inv (by kernel_rfl) (fun K hK => ?_)
      go_simp
      clear hS
      refine (send_walk w5 B g A5 ([Nd] ++ bl) mk e5 rd _ wmV nm Mn2 _ HR5.out.rd (HN.out _ HR5.out.kp.low).ls HLK.out P (k : Int) 0 r5 (matchF (srcM an)) HF5.out (HPK.out rfl).s).mono ?_
      rintro en w6 ⟨rfl, hr⟩
      obtain ⟨A6, e6, Mn6, hrf, hx6, he6, hsm6⟩ := HR5.out.send hr
      have HR6 := hide (show RN w B g A bl mk e rd ⟨some ⟨b, o, none⟩, dn, dc, ds, lA, ln, lc, ls⟩ wmV nm P w6 A6 e6 Mn6 (firstTo (ds.map DevV.dev) ls Sn (k + 1)) [] from by
        rw [HNX.out]; unfold hostS; rw [if_pos (by rfl)]; exact hrf.less (by simp))
      clear hr hrf hx6 he6 hsm6 HR5 HX5 HF5
      go_simp
      refine hK.out _ _ (fun inv2 => ?_)
      clear hK K
      clear inv
      have inv := inv2
      clear inv2
      try simp only [Act.put, nrmA, nrmB, nrmC]
      refine wpAnyE_done (by kernel_rfl) ?_ _
      clear inv
      go_wp2_with fail
      go_roundw
      case rel => exact ⟨k + 1, A6, e6, Mn6, by omega, by go_num, HR6⟩
      case measure => simp [intOf]; omega
    · have HFN := hide (show RDP w B g A bl mk e rd ⟨dA, dn, dc, ds, lA, ln, lc, ls⟩ wmV nm P (firstTo (ds.map DevV.dev) ls Sn dn) wr from by
        have hk : k = dn := by omega
        have := HR.out.out; rw [hk] at this; exact this)
      go_wp2
      go_end0
      exact ⟨rfl, HFN.out⟩
end Go.Proofs.Ytklbdfgblebniaa

set_option linter.unusedVariables false
set_option linter.unusedSimpArgs false
namespace Go.Proofs.Ytklbdfgblebniaa
open Go.RowKit Go.Maps Go.WideElems

def donePart (M : PoK → Option Value) (left : PoK → Bool) : PoK → Option Value := fun x => if left x then none else M x
theorem donePart_start (M : PoK → Option Value) : donePart M (fun a => (M a).isSome) = fun _ => none := by
  funext x
  unfold donePart
  cases h : M x <;> simp [h]
theorem donePart_step {M : PoK → Option Value} {left : PoK → Bool} {x : PoK} {v : Value} (h : M x = some v) : putM (donePart M left) x v = donePart M (fun z => left z && !decide (z = x)) := by
  funext z
  by_cases e : z = x
  · subst e
    rw [putM_same]
    unfold donePart
    simp [h]
  · rw [putM_other _ _ e]
    unfold donePart
    simp [e]
theorem donePart_end {M : PoK → Option Value} {left : PoK → Bool} (hi : Ints M) (h : ∀ x y, poDom (x, y) → left (x, y) = false) : donePart M left = M := by
  funext ⟨x, y⟩
  unfold donePart
  by_cases e : left (x, y) = true
  · rw [if_pos e]
    cases hM : M (x, y) with
    | none => rfl
    | some v => rw [h x y (hi _ v hM).1] at e; cases e
  · rw [if_neg e]
theorem donePart_keys {M : PoK → Option Value} {left : PoK → Bool} {x : PoK} (h : (donePart M left x).isSome = true) : (M x).isSome = true := by
  unfold donePart at h
  split at h
  · cases h
  · exact h

set_option maxRecDepth 100000 in
set_option maxHeartbeats 4000000 in
theorem copied_walk (W : World) (m : Nat) (M : PoK → Option Value) (h : MapIs Try.prog 43 poVal poDom W m M) (hi : Ints M) (L : List Pl) (hL : L.length < maxLen) (hk : ∀ x, (M x).isSome = true → x ∈ L) :
    Calls Try.prog 20 #[.map (some m)] W fun e W' => RowKit.Below W.heap.size W W' ∧ ∃ nb, W.heap.size ≤ nb ∧ e = .returned (.map (some nb)) ∧ MapIs Try.prog 43 poVal poDom W' nb M := by
  have H := hide h
  have HI := hide hi
  have HK := hide hk
  have HM0 := hide (MapIs.made (P := Try.prog) (kt := 43) (key := poVal) (dom := poDom) W)
  have HB0 := hide (below_alloc2 W (.map #[] 0))
  have hml := h.lt
  have HML := hide (show W.heap.size ≤ W.heap.size ∧ m ≠ W.heap.size from ⟨Nat.le_refl _, by omega⟩)
  clear h hi hk hml
  have hmm := @run_makeMap Try.prog
  go_enter Try.func20, Try.ntmps20
  go_wp2_with (first | (at_range; refine wpList_rangeM _ rfl _ 71 rfl 3 placeKeys Try.underlying71 rfl (H.out.kept (row := none) (World.grownBy_alloc W _ none) (by simp)) ?_; intro w0 cnt0 hrg0 hg0 hs0) | go_in)
  clear hmm
  go_frame
  have HS := hide (show RangeIs Try.prog 43 poVal poDom w0 m (W.alloc (.map #[] 0)).heap.size M (fun a => (M a).isSome) cnt0 ∧ MapIs Try.prog 43 poVal poDom w0 W.heap.size (donePart M (fun a => (M a).isSome)) ∧ RowKit.Below W.heap.size W w0 from
    ⟨hrg0, by rw [donePart_start]; exact HM0.out.kept (row := none) hg0 (by simp), HB0.out.trans ⟨hg0.os, hg0.tape, hg0.output, hg0.size, fun i hi => hg0.block i (Nat.lt_of_lt_of_le hi HB0.out.size) (by simp)⟩⟩)
  have HN := hide (show W.heap.size < (W.alloc (.map #[] 0)).heap.size from HM0.out.lt)
  clear hrg0 hg0 hs0 HM0 HB0
  generalize World.alloc W _ = W1 at *
  go_loopw [5] (fun _ wr => ∃ left cnt, Hid (RangeIs Try.prog 43 poVal poDom wr m W1.heap.size M left cnt ∧ MapIs Try.prog 43 poVal poDom wr W.heap.size (donePart M left) ∧ RowKit.Below W.heap.size W wr)) (fun _ wr => wr.rangeLeft m W1.heap.size)
  case atStart => exact ⟨_, cnt0, HS⟩
  case round =>
    clear HS
    obtain ⟨left, cnt, HRG⟩ := hrel
    have HCN := hide HRG.out.1.left_eq
    go_wp2_with (first | (at_next; refine wpList_nextM _ rfl _ rfl placeKeys rfl HRG.out.1 ?_ ?_) | go_in)
    · intro hc0 hl0
      have HL := hide hl0
      clear hl0 hc0
      go_wp2
      go_ret
      exact ⟨HRG.out.2.2, _, Nat.le_refl _, rfl, by rw [← donePart_end HI.out (fun x y hd => HL.out x y hd)]; exact HRG.out.2.1⟩
    · rintro x y v w1 cnt1 hk hlk hM hrg1 hlt hg1 hs1 hen
      obtain ⟨hd, n, rfl⟩ := HI.out _ _ hM
      simp only [poVal] at hen ⊢
      have HK1 := hide hk
      have HM := hide hM
      have HLT := hide hlt
      have hr := HRG.out.1.lt
      have hN := HN.out
      have HR1 := hide (show RangeIs Try.prog 43 poVal poDom w1 m W1.heap.size M (fun z => left z && !decide (z = (x, y))) cnt1 ∧ MapIs Try.prog 43 poVal poDom w1 W.heap.size (donePart M left) ∧ RowKit.Below W.heap.size W w1 from
        ⟨hrg1, HRG.out.2.1.kept hg1 (by simp; omega), HRG.out.2.2.trans ⟨hg1.os, hg1.tape, hg1.output, hg1.size, fun i hi => hg1.block i (Nat.lt_of_lt_of_le hi HRG.out.2.2.size) (by simp; omega)⟩⟩)
      clear hk hM hrg1 hlt hs1 hg1 hr hd hN hlk
      have hb2 := below_alloc2 w1 (.cells #[.int .i64 x, .int .i64 y] 43)
      have HB2 := hide hb2
      obtain ⟨w2, hrun, hm2, ht2⟩ := (HR1.out.2.1.same (hb2.block _ HR1.out.2.1.lt)).storeA placeKeys L hL (fun z _ hz => HK.out z (donePart_keys hz)) Try.underlying71 HK1.out (.int .i64 (n : Int))
      have hr1 := HR1.out.1.lt
      have hN := HN.out
      have hml := HR1.out.1.map.lt
      have hg2 := ht2.grown
      have HR2 := hide (show RangeIs Try.prog 43 poVal poDom w2 m W1.heap.size M (fun z => left z && !decide (z = (x, y))) cnt1 ∧ MapIs Try.prog 43 poVal poDom w2 W.heap.size (donePart M (fun z => left z && !decide (z = (x, y)))) ∧ RowKit.Below W.heap.size W w2 from
        ⟨(HR1.out.1.below hb2).kept hg2 (by simp; exact HML.out.2) (by simp; omega), by rw [← donePart_step HM.out]; exact hm2, (HR1.out.2.2.trans (hb2.mono HR1.out.2.2.size)).trans ⟨hg2.os, hg2.tape, hg2.output, hg2.size, fun i hi => hg2.block i (Nat.lt_of_lt_of_le hi (Nat.le_trans HR1.out.2.2.size hb2.size)) (by simp; omega)⟩⟩)
      simp only [poVal] at hrun
      clear hb2 hm2 ht2 hg2 hr1 hN hml HR1 HRG
      go_wp2_with fail
      go_roundw
      case rel => exact ⟨_, cnt1, HR2⟩
      case measure =>
        rw [HR2.out.1.left_eq, HCN.out]
        exact HLT.out
set_option maxRecDepth 100000 in
set_option maxHeartbeats 4000000 in
theorem same_round (W : World) (a b : Nat) (Ma Mb : PoK → Option Value) (ha : MapIs Try.prog 43 poVal poDom W a Ma) (hb : MapIs Try.prog 43 poVal poDom W b Mb) (iA : Ints Ma) (iB : Ints Mb) :
    Calls Try.prog 22 #[.map (some a), .map (some b)] W fun e W' => RowKit.Below W.heap.size W W' ∧ ((e = .returned (.bool true) ∧ ∀ x, (Mb x).isSome = true → numAt Ma x = numAt Mb x) ∨ (e = .returned (.bool false) ∧ ∃ x, (Mb x).isSome = true ∧ numAt Ma x ≠ numAt Mb x)) := by
  have HA := hide ha
  have HB := hide hb
  have HI := hide (And.intro iA iB)
  clear ha hb iA iB
  go_enter Try.func22, Try.ntmps22
  go_wp2_with (first | (at_range; refine wpList_rangeM _ rfl _ 71 rfl 3 placeKeys Try.underlying71 rfl HB.out ?_; intro w0 cnt0 hrg0 hg0 hs0) | go_in)
  go_frame
  have HG0 := hide hg0
  have HS0 := hide hs0
  have HR0 := hide hrg0
  clear hg0 hs0 hrg0
  go_loopw [6] (fun _ wr => ∃ left cnt, Hid (RangeIs Try.prog 43 poVal poDom wr b W.heap.size Mb left cnt) ∧ Hid (RowKit.Below W.heap.size W wr) ∧ Hid (∀ x, poDom x → left x = false → (Mb x).isSome = true → numAt Ma x = numAt Mb x)) (fun _ wr => wr.rangeLeft b W.heap.size)
  case atStart =>
    exact ⟨_, cnt0, HR0, hide ⟨HG0.out.os, HG0.out.tape, HG0.out.output, HG0.out.size, fun i hi => HG0.out.block i hi (by simp)⟩, hide (fun x hx h1 h2 => by rw [h2] at h1; cases h1)⟩
  case round =>
    obtain ⟨left, cnt, HRG, HBW, HD⟩ := hrel
    clear HG0 HR0 HS0
    have hcnt := HRG.out.left_eq
    have HCN := hide hcnt
    clear hcnt
    go_wp2_with (first | (at_next; refine wpList_nextM _ rfl _ rfl placeKeys rfl HRG.out ?_ ?_) | go_in)
    · intro hc0 hl0
      have HL := hide hl0
      clear hl0 hc0
      go_wp2
      go_ret
      exact ⟨HBW.out, .inl ⟨rfl, fun x hx => by
        obtain ⟨v, hv⟩ := Option.isSome_iff_exists.1 hx
        have hd := (HI.out.2 x v hv).1
        exact HD.out x hd (HL.out x.1 x.2 hd) hx⟩⟩
    · rintro x y v w1 cnt1 hk hlk hM hrg1 hlt hg1 hs1 hen
      obtain ⟨hd, n, rfl⟩ := HI.out.2 _ _ hM
      simp only [poVal] at hen ⊢
      have HK := hide hk
      have HM := hide hM
      have HRG1 := hide hrg1
      have HLT := hide hlt
      have HS1 := hide hs1
      have hr := HRG.out.lt
      have hB1 : RowKit.Below W.heap.size W w1 := HBW.out.trans ⟨hg1.os, hg1.tape, hg1.output, hg1.size, fun i hi => hg1.block i (Nat.lt_of_lt_of_le hi HBW.out.size) (by simp; omega)⟩
      have HB1 := hide hB1
      have hlk : ∀ o, (Instr.lookup 71 (.map (some a)) (.agg #[.int .i64 x, .int .i64 y]) false).run Try.prog (w1.alloc o) = .ok (.int .i64 ((numAt Ma (x, y) : Nat) : Int)) (w1.alloc o) := fun o =>
        MapIs.lookN (HA.out.kept (row := none) ⟨hB1.os, hB1.tape, hB1.output, hB1.size, fun k hk _ => hB1.block k hk⟩ (by simp) |>.kept (World.grownBy_alloc w1 o none) (by simp)) HI.out.1 x y hk.1 hk.2
      clear hk hM hrg1 hlt hs1 hg1 hB1 hr hd
      go_wp2
      · go_ret
        exact ⟨HB1.out.alloc (by have := HB1.out.size; omega) _, .inr ⟨rfl, (x, y), by rw [HM.out]; rfl, by rw [numAt_some HM.out]; simp at *; omega⟩⟩
      · go_roundw
        case rel =>
          refine ⟨_, cnt1, hide (HRG1.out.below (below_alloc' _ _)), hide (HB1.out.alloc (by have := HB1.out.size; omega) _), hide (fun z hz h1 h2 => ?_)⟩
          by_cases e : z = (x, y)
          · subst e
            rw [numAt_some HM.out]; simp at *; omega
          · exact HD.out z hz (by simpa [e] using h1) h2
        case measure =>
          rw [(HRG1.out.below (below_alloc' _ _)).left_eq, HCN.out]
          exact HLT.out
end Go.Proofs.Ytklbdfgblebniaa

set_option linter.unusedVariables false
set_option linter.unusedSimpArgs false
namespace Go.Proofs.Ytklbdfgblebniaa
open Go.RowKit

theorem boxesL : ∀ (l : List (Array Value × TypeId)) (W : World) {W' : World}, RowKit.Below (W.heap.size + l.length) (l.foldl (fun w x => w.alloc (.cells x.1 x.2)) W) W' →
    (∀ (i : Nat) c t, l[i]? = some (c, t) → ∀ (o : Nat) (v : Value), c[o]? = some v → W'.cell? ⟨W.heap.size + i, o, none⟩ = some v) ∧ RowKit.Below W.heap.size W W' ∧ W.heap.size + l.length ≤ W'.heap.size := by
  intro l
  induction l with
  | nil =>
    intro W W' hb
    exact ⟨fun i c t h => by simp at h, by simpa using hb, by have := hb.size; simpa using this⟩
  | cons x l ih =>
    intro W W' hb
    have hz : (W.alloc (.cells x.1 x.2)).heap.size = W.heap.size + 1 := by simp
    obtain ⟨h1, h2, h3⟩ := ih (W.alloc (.cells x.1 x.2)) (W' := W') (by
      rw [hz]
      simp only [List.foldl_cons, List.length_cons] at hb
      rw [show W.heap.size + 1 + l.length = W.heap.size + (l.length + 1) by omega]
      exact hb)
    refine ⟨fun i c t hi o v hv => ?_, ((RowKit.Below.refl _ _).alloc (Nat.le_refl _) _).trans (h2.mono (by omega)), by rw [hz] at h3; simp only [List.length_cons]; omega⟩
    cases i with
    | zero =>
      cases hi
      rw [hz] at h2
      exact cell_new W _ _ rfl h2 o v hv
    | succ i =>
      have := h1 i c t (by simpa using hi) o v hv
      rw [hz] at this
      rw [show W.heap.size + (i + 1) = W.heap.size + 1 + i by omega]
      exact this
end Go.Proofs.Ytklbdfgblebniaa
