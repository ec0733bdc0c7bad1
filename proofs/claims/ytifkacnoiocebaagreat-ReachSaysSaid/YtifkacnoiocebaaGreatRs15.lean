/- A part of the proof: Rd3. -/
import Derived.Test.YtifkacnoiocebaaGreatRs14
set_option linter.unusedVariables false
set_option linter.unusedSimpArgs false
set_option maxRecDepth 100000
set_option maxHeartbeats 8000000
namespace Go.Proofs.YtifkacnoiocebaaGreat
open Bdd Go.Maps Go.RowKit
structure RF (w0 : World) (B g : Nat) (A0 : St) (bl : List Nat) (mk e0 rd : Nat) (n : NetV) (wm nm : Nat) (Mw : PoK → Option Value) (Sw : Pl → Bdd.Fn) (P : Bdd.Fn → Prop) (wr : World) (A : St) (e : Nat) (Mn : PoK → Option Value) (Sn : Pl → Bdd.Fn) (more : List Nat) : Prop where
  rd : RD wr B g A (more ++ bl) mk e rd n (.map (some wm)) nm Mn Sn
  was : WasOk wr A e bl wm Mw Sw
  ext : Ext A0 A
  nw : NwP P A0 A
  kp : KP B bl w0 wr
  e0 : e = 0 → e0 = 0
section
variable {w0 wr w' : World} {B g mk e0 e rd wm nm : Nat} {A0 A : St} {bl more : List Nat} {n : NetV} {Mw Mn : PoK → Option Value} {Sw Sn : Pl → Bdd.Fn} {P : Bdd.Fn → Prop}
theorem RF.start (h : RD wr B g A bl mk e rd n (.map (some wm)) nm Mn Sn) (hw : WasOk wr A e bl wm Mw Sw) (P : Bdd.Fn → Prop) : RF wr B g A bl mk e rd n wm nm Mw Sw P wr A e Mn Sn [] := ⟨h, hw, Ext.refl h.inv, NwP.refl _ _, KP.refl _ _ _, id⟩
theorem RF.below (h : RF w0 B g A0 bl mk e0 rd n wm nm Mw Sw P wr A e Mn Sn more) (hb : RowKit.Below wr.heap.size wr w') : RF w0 B g A0 bl mk e0 rd n wm nm Mw Sw P w' A e Mn Sn more :=
  ⟨h.rd.below hb, h.was.below hb, h.ext, h.nw, h.kp.trans ((h.rd.kp hb).mono (fun j hj => by simp [hj])), h.e0⟩
theorem RD.alloc {wmV : Value} (h : RD wr B g A bl mk e rd n wmV nm Mn Sn) (o : Obj) : RD (wr.alloc o) B g A (wr.heap.size :: bl) mk e rd n wmV nm Mn Sn := by
  have hb := below_alloc2 wr o
  exact ⟨⟨(h.m.sa.alloc _).mono (fun j hj => by simp only [List.mem_cons] at hj ⊢; rcases hj with a | a | a | a | a <;> simp [a]), h.m.bx.below hb, h.m.er, fun hj => by
        have := (h.m.sa.lt mk (by simp)).2
        have h9 := h.m.ap
        simp only [List.mem_cons, not_or] at hj h9
        rcases hj with a | a | a | a
        · exact h9.1 a
        · exact h9.2.1 a
        · omega
        · exact h9.2.2 a⟩, h.bx.below hb, h.mn.same (hb.block nm h.mn.lt), h.ints, h.keys, h.sn, h.ne.1, fun hj => by
        rcases List.mem_cons.1 hj with a | a
        · have := h.bx.lt; omega
        · exact h.ne.2.1 a, fun hj => by
        rcases List.mem_cons.1 hj with a | a
        · have := h.mn.lt; omega
        · exact h.ne.2.2 a⟩
theorem RD.less {wmV : Value} {bl' : List Nat} (h : RD wr B g A bl mk e rd n wmV nm Mn Sn) (hs : ∀ j ∈ bl', j ∈ bl) : RD wr B g A bl' mk e rd n wmV nm Mn Sn :=
  ⟨⟨h.m.sa.mono (fun j hj => by simp only [List.mem_cons] at hj ⊢; rcases hj with a | a | a | a <;> simp [a, hs]), h.m.bx, h.m.er, fun hj => h.m.ap (by simp only [List.mem_cons] at hj ⊢; rcases hj with a | a | a <;> simp [a, hs])⟩, h.bx, h.mn, h.ints, h.keys, h.sn, h.ne.1, fun hj => h.ne.2.1 (hs _ hj), fun hj => h.ne.2.2 (hs _ hj)⟩
theorem RF.alloc (h : RF w0 B g A0 bl mk e0 rd n wm nm Mw Sw P wr A e Mn Sn more) (o : Obj) : RF w0 B g A0 bl mk e0 rd n wm nm Mw Sw P (wr.alloc o) A e Mn Sn (wr.heap.size :: more) :=
  have q := h.below (below_alloc2 wr o)
  ⟨h.rd.alloc o, q.was, h.ext, h.nw, q.kp, h.e0⟩
theorem RF.less {more' : List Nat} (h : RF w0 B g A0 bl mk e0 rd n wm nm Mw Sw P wr A e Mn Sn more) (hs : ∀ j ∈ more', j ∈ more) : RF w0 B g A0 bl mk e0 rd n wm nm Mw Sw P wr A e Mn Sn more' :=
  ⟨h.rd.less (fun j hj => by
    rcases List.mem_append.1 hj with a | a
    · exact List.mem_append_left _ (hs j a)
    · exact List.mem_append_right _ a), h.was, h.ext, h.nw, h.kp, h.e0⟩
theorem RF.call (h : RF w0 B g A0 bl mk e0 rd n wm nm Mw Sw P wr A e Mn Sn more) {F : Bdd.Fn} {en : Ending} (hr : MR wr B g A (rd :: nm :: (more ++ bl)) mk e P F en w') :
    ∃ (A2 : St) (e2 r : Nat), en = .returned (.int .i64 (r : Int)) ∧ RF w0 B g A0 bl mk e0 rd n wm nm Mw Sw P w' A2 e2 Mn Sn more ∧ Ext A A2 ∧ (e2 = 0 → e = 0 ∧ IsF A2 r F) ∧ (∀ j ∈ more, w'.heap[j]? = wr.heap[j]?) := by
  obtain ⟨A2, e2, r, h1, h2, h3, h4, h5, h6⟩ := h.rd.step hr
  exact ⟨A2, e2, r, h1, ⟨h2, h.was.step h.rd.inv h3 (h5.mono (fun j hj => by simp [hj])) (fun he => (h6 he).1), h.ext.trans h3, h.nw.trans h4 h.rd.inv h3, h.kp.trans (h5.mono (fun j hj => by simp [hj])), fun he => h.e0 (h6 he).1⟩, h3, h6, fun j hj => h5.same j (by simp [hj])⟩
theorem RF.send (h : RF w0 B g A0 bl mk e0 rd n wm nm Mw Sw P wr A e Mn Sn more) {Sn' : Pl → Bdd.Fn} (hr : RDP wr B g A (more ++ bl) mk e rd n (.map (some wm)) nm P Sn' w') :
    ∃ (A2 : St) (e2 : Nat) (Mn2 : PoK → Option Value), RF w0 B g A0 bl mk e0 rd n wm nm Mw Sw P w' A2 e2 Mn2 Sn' more ∧ Ext A A2 ∧ (e2 = 0 → e = 0) ∧ (∀ j ∈ more, w'.heap[j]? = wr.heap[j]?) := by
  obtain ⟨A2, e2, Mn2, h2, h3, h4, h5, h6⟩ := hr
  exact ⟨A2, e2, Mn2, ⟨h2, h.was.step h.rd.inv h3 (h5.mono (fun j hj => by simp [hj])) h6, h.ext.trans h3, h.nw.trans h4 h.rd.inv h3, h.kp.trans (h5.mono (fun j hj => by simp [hj])), fun he => h.e0 (h6 he)⟩, h3, h6, fun j hj => h5.same j (by simp [hj])⟩
theorem RF.out (h : RF w0 B g A0 bl mk e0 rd n wm nm Mw Sw P wr A e Mn Sn more) : RDP w0 B g A0 bl mk e0 rd n (.map (some wm)) nm P Sn wr :=
  ⟨A, e, Mn, h.rd.less (fun j hj => by simp [hj]), h.ext, h.nw, h.kp, h.e0⟩
end
def fireS (ls : List LinkV) (i : Nat) (rs : List RuleV) (Sw Sn : Pl → Bdd.Fn) : Pl → Bdd.Fn :=
  if (peerF ls ((i : Int), 1)).isSome then sendS ls ((i : Int), 0) (andF (Sw ((i : Int), 1)) (flipF (andF (Sw ((i : Int), 0)) (aclF rs)))) (sendS ls ((i : Int), 1) (andF (Sw ((i : Int), 0)) (aclF rs)) Sn)
  else sendS ls ((i : Int), 1) (andF (Sw ((i : Int), 0)) (aclF rs)) Sn
def AclPC (P : Bdd.Fn → Prop) (rs : List RuleV) : Prop := (∀ r ∈ rs, ∀ G, NewB (ruleL r) G → P G) ∧ ∀ k G, Cof (aclF (rs.drop k)) G → P G
structure FirePC (P : Bdd.Fn → Prop) (ls : List LinkV) (i : Nat) (rs : List RuleV) (Sw Sn : Pl → Bdd.Fn) : Prop where
  acl : AclPC P rs
  out : PC P (andF (Sw ((i : Int), 0)) (aclF rs))
  s1 : SendPC P ls ((i : Int), 1) (andF (Sw ((i : Int), 0)) (aclF rs)) Sn
  fl : FlipPC P (andF (Sw ((i : Int), 0)) (aclF rs))
  bk : PC P (andF (Sw ((i : Int), 1)) (flipF (andF (Sw ((i : Int), 0)) (aclF rs))))
  s2 : SendPC P ls ((i : Int), 0) (andF (Sw ((i : Int), 1)) (flipF (andF (Sw ((i : Int), 0)) (aclF rs)))) (sendS ls ((i : Int), 1) (andF (Sw ((i : Int), 0)) (aclF rs)) Sn)
theorem fire_walk (w : World) (B g : Nat) (A : St) (bl : List Nat) (mk e rd : Nat) (n : NetV) (wm nm : Nat) (Mw Mn : PoK → Option Value) (Sw Sn : Pl → Bdd.Fn) (h : RD w B g A bl mk e rd n (.map (some wm)) nm Mn Sn) (hw : WasOk w A e bl wm Mw Sw) (hv : A.vars = 14) (hl : SlAt LinkV.cells 4 w B n.lA n.ln n.ls) (hlk : LinksOk n.ls)
    (P : Bdd.Fn → Prop) (i : Nat) (hi : i ≤ 1000) (r : DevV) (hr : DevAt w B r) (hrn : r.rn ≤ 8) (hP : FirePC P n.ls i r.rs Sw Sn) :
    Calls Tryz.prog 59 #[.pointer (some ⟨rd, 0, none⟩), .int .i64 (i : Int), r.val] w fun en w' => en = .returned (.tuple #[]) ∧ RDP w B g A bl mk e rd n (.map (some wm)) nm P (fireS n.ls i r.rs Sw Sn) w' := by
  have HR0 := hide ((RF.start h hw P).alloc (.cells #[.string r.name, .int .i64 r.kind, .int .i64 r.addr, .int .u8 r.pool, .slice r.bA r.bn r.bc, .slice r.rA r.rn r.rc, .slice r.tA r.tn r.tc] 81))
  have HX0 := hide (Bx.new w #[.string r.name, .int .i64 r.kind, .int .i64 r.addr, .int .u8 r.pool, .slice r.bA r.bn r.bc, .slice r.rA r.rn r.rc, .slice r.tA r.tn r.tc] 81)
  have HLL := hide (fun (w' : World) (hb : RowKit.Below B w w') => hl.below hb (Nat.le_refl _))
  have HLK := hide hlk
  have HRL := hide (fun (w' : World) (hb : RowKit.Below B w w') => hr.rs.below hb (Nat.le_refl _))
  have HP := hide hP
  have HV := hide hv
  clear h hw hl hlk hr hP hv
  obtain ⟨nm', kd, ad, pl, bA, bn, bc, bs, rA, rn, rc, rs, tA, tn, tc, ts⟩ := r
  simp only [DevV.val] at *
  go_enter Tryz.func59, Tryz.ntmps59
  go_wp2_with fail
  generalize World.alloc w _ = w0 at *
  generalize w.heap.size = Nd at *
  have HQ := hide (fun (w' : World) (h1 : Bx w' rd #[.pointer (some ⟨mk, 0, none⟩), .slice n.dA n.dn n.dc, .slice n.lA n.ln n.lc, .map (some wm), .map (some nm)] 75) (e' : Nat) (h2 : Bx w' mk #[.pointer (some ⟨g, 0, none⟩), .int .i64 (e' : Int)] 72) (h3 : Bx w' Nd #[.string nm', .int .i64 kd, .int .i64 ad, .int .u8 pl, .slice bA bn bc, .slice rA rn rc, .slice tA tn tc] 81) (h4 : MapP w' wm Mw) =>
    show (w'.cell? ⟨rd, 0, none⟩ = some (.pointer (some ⟨mk, 0, none⟩)) ∧ w'.cell? ⟨mk, 0, none⟩ = some (.pointer (some ⟨g, 0, none⟩)) ∧ w'.cell? ⟨Nd, 5, none⟩ = some (.slice rA rn rc)) ∧ (w'.cell? ⟨rd, 3, none⟩ = some (.map (some wm)) ∧ MapP w' wm Mw) from ⟨⟨h1.get 0 _ rfl, h2.get 0 _ rfl, h3.get 5 _ rfl⟩, h1.get 3 _ rfl, h4⟩)
  have HRD := hide (HR0.out.below (RowKit.Below.refl _ _).drew)
  have HXD := hide (HX0.out.below (RowKit.Below.refl _ _).drew)
  clear HR0 HX0
  refine wp_region_E (fun w' => (w'.cell? ⟨rd, 0, none⟩ = some (.pointer (some ⟨mk, 0, none⟩)) ∧ w'.cell? ⟨mk, 0, none⟩ = some (.pointer (some ⟨g, 0, none⟩)) ∧ w'.cell? ⟨Nd, 5, none⟩ = some (.slice rA rn rc)) ∧ (w'.cell? ⟨rd, 3, none⟩ = some (.map (some wm)) ∧ MapP w' wm Mw)) 24 (by kernel_rfl) (HQ.out _ HRD.out.rd.bx _ HRD.out.rd.m.bx HXD.out HRD.out.was.m) (fun hS => ?_)
  refine rP 0 hS ?_
  refine rP 1 hS ?_
  refine rP 2 hS ?_
  refine rL 3 [24] rfl hS (by intro w hSw; obtain ⟨⟨s0, s1, s2⟩, s3, s4⟩ := hSw; go_simp; try with_reducible rfl) ?_
  refine rP 4 hS ?_
  refine rP 5 hS ?_
  intro inv
  refine wpAnyE_quiet (i := 6) (v := .int .i64 ((numAt Mw ((i : Int), 0) : Nat) : Int)) [24] rfl (by kernel_rfl) (by kernel_rfl) (by kernel_rfl) (by kernel_rfl) (fun _ _ _ h => h) inv ⟨by rfl, ?_⟩ hS (fun inv2 => ?_)
  · intro w hSw
    obtain ⟨⟨s0, s1, s2⟩, s3, s4⟩ := hSw; exact ⟨92, _, by go_simp, at_walk w rd wm Mw s4 HRD.out.was.ints s3 (i : Int) 0 (by simp only [i64ok]; omega) i64ok_0⟩
  clear inv
  have inv := inv2
  clear inv2
  try simp only [Act.put, nrmA, nrmB, nrmC]
  revert inv
  refine rP 7 hS ?_
  refine rP 8 hS ?_
  refine rP 9 hS ?_
  refine rL 10 [23, 24] rfl hS (by intro w hSw; obtain ⟨⟨s0, s1, s2⟩, s3, s4⟩ := hSw; go_simp; try with_reducible rfl) ?_
  refine rP 11 hS ?_
  refine rP 12 hS ?_
  refine rP 13 hS ?_
  refine rL 14 [15, 16, 17, 20, 21, 23, 24] rfl hS (by intro w hSw; obtain ⟨⟨s0, s1, s2⟩, s3, s4⟩ := hSw; go_simp; try with_reducible rfl) ?_
  refine rP 15 hS ?_
  refine rP 16 hS ?_
  refine rL 17 [20, 21, 23, 24] rfl hS (by intro w hSw; obtain ⟨⟨s0, s1, s2⟩, s3, s4⟩ := hSw; go_simp; try with_reducible rfl) ?_
  refine rP 18 hS ?_
  refine rL 19 [20, 21, 23, 24] rfl hS (by intro w hSw; obtain ⟨⟨s0, s1, s2⟩, s3, s4⟩ := hSw; go_simp; try with_reducible rfl) ?_
  intro inv
  refine rO 20 inv fun K hK => ?_
  go_simp
  refine (aq_acl (P := P) HRD.out.rd.m.sa (by rw [HV.out]; exact Nat.le_refl _) rs rA rn rc hrn (HRL.out _ HRD.out.kp.low) HP.out.acl.1 HP.out.acl.2).mono ?_
  rintro en w1 hq
  obtain ⟨A1, r1, e1, rfl, hgot, hmk1, hk1⟩ := got_any HRD.out.rd.m hq
  have HGOT := hide hgot
  have hS1 := HQ.out _ (HRD.out.rd.bx.kp hk1 (by simp)) _ hmk1.bx (HXD.out.kp hk1 (by simp)) (HRD.out.was.m.same (hk1.same wm (by simp [HRD.out.was.mem])))
  clear hq hgot hmk1 hk1 hS
  have hS := hS1
  go_simp
  refine hK.out _ _ (fun _ => hS1) ?_
  clear hK K hS inv
  intro inv
  try simp only [Act.put, nrmA, nrmB, nrmC]
  have hS := hS1
  clear hS1
  revert inv
  refine rP 21 hS ?_
  refine rP 22 hS ?_
  intro inv
  refine rO 23 inv fun K hK => ?_
  go_simp
  refine HGOT.out.mono ?_
  rintro en w2 hr
  obtain ⟨A2, e2, r2, rfl, hrf, hx2, hF2, hsm2⟩ := HRD.out.call hr
  have HR2 := hide hrf
  have HF2 := hide (fun h => (hF2 h).2)
  have HX2 := hide (HXD.out.same (hsm2 Nd (by simp)))
  have hS2 := HQ.out _ HR2.out.rd.bx _ HR2.out.rd.m.bx HX2.out HR2.out.was.m
  clear hr hrf hx2 hF2 hsm2 hS HGOT HRD HXD
  have hS := hS2
  go_simp
  refine hK.out _ _ (fun _ => hS2) ?_
  clear hK K hS inv
  intro inv
  try simp only [Act.put, nrmA, nrmB, nrmC]
  have hS := hS2
  clear hS2
  refine rT 24 inv fun K hK => ?_
  go_simp
  refine (mk_and w2 B g A2 (rd :: nm :: ([Nd] ++ bl)) mk e2 HR2.out.rd.m (numAt Mw ((i : Int), 0)) r2 (Sw ((i : Int), 0)) (aclF rs) P (fun h => HR2.out.was.sw h _) HF2.out HP.out.out).mono ?_
  rintro en w3 hr
  obtain ⟨A3, e3, r3, rfl, hrf, hx3, hF3, hsm3⟩ := HR2.out.call hr
  have HR3 := hide hrf
  have HF3 := hide (fun h => (hF3 h).2)
  have HX3 := hide (HX2.out.same (hsm3 Nd (by simp)))
  clear hr hrf hx3 hF3 hsm3 hS HR2 HF2 HX2
  go_simp
  refine hK.out _ _ ?_
  clear hK K inv
  intro inv
  try simp only [Act.put, nrmA, nrmB, nrmC]
  refine rT 25 inv fun K hK => ?_
  go_simp
  refine hK.out _ _ ?_
  clear hK K inv
  intro inv
  try simp only [Act.put, nrmA, nrmB, nrmC]
  refine rD ?_
  clear inv
  go_wp2_with fail
  refine (send_walk w3 B g A3 ([Nd] ++ bl) mk e3 rd n (.map (some wm)) nm Mn Sn HR3.out.rd (HLL.out _ HR3.out.kp.low) HLK.out P (i : Int) 1 r3 (andF (Sw ((i : Int), 0)) (aclF rs)) HF3.out HP.out.s1).mono ?_
  rintro en w4 ⟨rfl, hr⟩
  obtain ⟨A4, e4, Mn4, hrf, hx4, he4, hsm4⟩ := HR3.out.send hr
  have HR4 := hide hrf
  have HF4 := hide (fun h => (HF3.out (he4 h)).ext HR3.out.rd.inv hx4)
  have HX4 := hide (HX3.out.same (hsm4 Nd (by simp)))
  clear hr hrf hx4 he4 hsm4 HR3 HF3 HX3
  have r1 : w4.cell? ⟨rd, 1, none⟩ = some (.slice n.dA n.dn n.dc) := HR4.out.rd.bx.get 1 _ rfl
  have r2 : w4.cell? ⟨rd, 2, none⟩ = some (.slice n.lA n.ln n.lc) := HR4.out.rd.bx.get 2 _ rfl
  go_wp2_with fail
  refine (open_walk w4 B rd n (Nat.le_of_lt HR4.out.rd.m.sa.hB) (HLL.out _ HR4.out.kp.low) HLK.out r1 r2 (i : Int) 1).mono ?_
  rintro en w5 ⟨rfl, hb⟩
  have HR5 := hide (HR4.out.below hb)
  have HX5 := hide (HX4.out.below hb)
  clear hb r1 r2 HR4 HX4
  obtain ⟨o1, ho1⟩ : ∃ o1, (peerF n.ls ((i : Int), 1)).isSome = o1 := ⟨_, rfl⟩
  rw [ho1]
  have HO := hide ho1
  clear ho1
  cases o1
  · have HFN := hide (show RDP w B g A bl mk e rd n (.map (some wm)) nm P (fireS n.ls i rs Sw Sn) w5 from by
      unfold fireS; rw [if_neg (by rw [HO.out]; simp)]; exact HR5.out.out)
    go_wp2
    go_end0
    exact ⟨rfl, HFN.out⟩
  go_wp2_with fail
  have HRD := hide (HR5.out.below (RowKit.Below.refl _ _).drew)
  have HXD := hide (HX5.out.below (RowKit.Below.refl _ _).drew)
  clear HR5 HX5
  refine wp_region_E (fun w' => (w'.cell? ⟨rd, 0, none⟩ = some (.pointer (some ⟨mk, 0, none⟩)) ∧ w'.cell? ⟨mk, 0, none⟩ = some (.pointer (some ⟨g, 0, none⟩)) ∧ w'.cell? ⟨Nd, 5, none⟩ = some (.slice rA rn rc)) ∧ (w'.cell? ⟨rd, 3, none⟩ = some (.map (some wm)) ∧ MapP w' wm Mw)) 16 (by kernel_rfl) (HQ.out _ HRD.out.rd.bx _ HRD.out.rd.m.bx HXD.out HRD.out.was.m) (fun hS => ?_)
  refine rP 0 hS ?_
  refine rP 1 hS ?_
  refine rP 2 hS ?_
  refine rP 3 hS ?_
  refine rP 4 hS ?_
  refine rL 5 [15, 16] rfl hS (by intro w hSw; obtain ⟨⟨s0, s1, s2⟩, s3, s4⟩ := hSw; go_simp; try with_reducible rfl) ?_
  refine rP 6 hS ?_
  refine rP 7 hS ?_
  intro inv
  refine wpAnyE_quiet (i := 8) (v := .int .i64 ((numAt Mw ((i : Int), 1) : Nat) : Int)) [15, 16] rfl (by kernel_rfl) (by kernel_rfl) (by kernel_rfl) (by kernel_rfl) (fun _ _ _ h => h) inv ⟨by rfl, ?_⟩ hS (fun inv2 => ?_)
  · intro w hSw
    obtain ⟨⟨s0, s1, s2⟩, s3, s4⟩ := hSw; exact ⟨92, _, by go_simp, at_walk w rd wm Mw s4 HRD.out.was.ints s3 (i : Int) 1 (by simp only [i64ok]; omega) (by simp only [i64ok]; omega)⟩
  clear inv
  have inv := inv2
  clear inv2
  try simp only [Act.put, nrmA, nrmB, nrmC]
  revert inv
  refine rP 9 hS ?_
  refine rP 10 hS ?_
  refine rP 11 hS ?_
  refine rL 12 [14, 15, 16] rfl hS (by intro w hSw; obtain ⟨⟨s0, s1, s2⟩, s3, s4⟩ := hSw; go_simp; try with_reducible rfl) ?_
  refine rP 13 hS ?_
  intro inv
  refine rO 14 inv fun K hK => ?_
  go_simp
  refine (mk_flip _ B g A4 (rd :: nm :: ([Nd] ++ bl)) mk e4 HRD.out.rd.m r3 (andF (Sw ((i : Int), 0)) (aclF rs)) P (by rw [HRD.out.ext.vars]; exact HV.out) HF4.out HP.out.fl).mono ?_
  rintro en w6 hr
  obtain ⟨A6, e6, r6, rfl, hrf, hx6, hF6, hsm6⟩ := HRD.out.call hr
  have HR6 := hide hrf
  have HF6 := hide (fun h => (hF6 h).2)
  have HX6 := hide (HXD.out.same (hsm6 Nd (by simp)))
  clear hr hrf hx6 hF6 hsm6 hS HRD HXD HF4
  have hS := HQ.out _ HR6.out.rd.bx _ HR6.out.rd.m.bx HX6.out HR6.out.was.m
  go_simp
  refine hK.out _ _ (fun _ => HQ.out _ HR6.out.rd.bx _ HR6.out.rd.m.bx HX6.out HR6.out.was.m) ?_
  clear hK K hS inv
  intro inv
  try simp only [Act.put, nrmA, nrmB, nrmC]
  have hS := HQ.out _ HR6.out.rd.bx _ HR6.out.rd.m.bx HX6.out HR6.out.was.m
  refine rO 15 inv fun K hK => ?_
  go_simp
  refine (mk_and w6 B g A6 (rd :: nm :: ([Nd] ++ bl)) mk e6 HR6.out.rd.m (numAt Mw ((i : Int), 1)) r6 (Sw ((i : Int), 1)) (flipF (andF (Sw ((i : Int), 0)) (aclF rs))) P (fun h => HR6.out.was.sw h _) HF6.out HP.out.bk).mono ?_
  rintro en w7 hr
  obtain ⟨A7, e7, r7, rfl, hrf, hx7, hF7, hsm7⟩ := HR6.out.call hr
  have HR7 := hide hrf
  have HF7 := hide (fun h => (hF7 h).2)
  have HX7 := hide (HX6.out.same (hsm7 Nd (by simp)))
  clear hr hrf hx7 hF7 hsm7 HR6 HX6 HF6
  go_simp
  refine hK.out _ _ (fun _ => HQ.out _ HR7.out.rd.bx _ HR7.out.rd.m.bx HX7.out HR7.out.was.m) ?_
  clear hK K hS inv
  intro inv
  try simp only [Act.put, nrmA, nrmB, nrmC]
  refine rT 16 inv fun K hK => ?_
  go_simp
  refine (send_walk w7 B g A7 ([Nd] ++ bl) mk e7 rd n (.map (some wm)) nm Mn4 _ HR7.out.rd (HLL.out _ HR7.out.kp.low) HLK.out P (i : Int) 0 r7 (andF (Sw ((i : Int), 1)) (flipF (andF (Sw ((i : Int), 0)) (aclF rs)))) HF7.out HP.out.s2).mono ?_
  rintro en w8 ⟨rfl, hr⟩
  obtain ⟨A8, e8, Mn8, hrf, hx8, he8, hsm8⟩ := HR7.out.send hr
  have HFN := hide (show RDP w B g A bl mk e rd n (.map (some wm)) nm P (fireS n.ls i rs Sw Sn) w8 from by
      unfold fireS; rw [if_pos (by rw [HO.out])]; exact hrf.out)
  clear hr hrf hx8 he8 hsm8 HR7 HX7 HF7
  go_simp
  refine hK.out _ _ ?_
  clear hK K inv
  intro inv
  try simp only [Act.put, nrmA, nrmB, nrmC]
  refine rD ?_
  clear inv
  go_wp2
  go_end0
  exact ⟨rfl, HFN.out⟩
end Go.Proofs.YtifkacnoiocebaaGreat
