/- A part of the proof: Rd6, Rd7. -/
import Derived.Test.YtifkacnoiocebaaGreatRs16
import Derived.Test.YtifkacnoiocebaaGreatRs17
set_option linter.unusedVariables false
set_option linter.unusedSimpArgs false
set_option maxRecDepth 100000
set_option maxHeartbeats 8000000
namespace Go.Proofs.YtifkacnoiocebaaGreat
open Bdd Go.Maps Go.RowKit
def rtP (ts : List RouteV) (port : Int) : Bdd.Fn := outs (partL 65535 (setTo (dstB ts port) 16) 255 255)
def rtOut (ls : List LinkV) (i : Nat) (ts : List RouteV) (F : Bdd.Fn) (S : Pl → Bdd.Fn) : Nat → Pl → Bdd.Fn
  | 0 => S
  | o + 1 => sendS ls ((i : Int), (o : Int)) (andF F (rtP ts (o : Int))) (rtOut ls i ts F S o)
def rtIn (ls : List LinkV) (i : Nat) (ts : List RouteV) (rs : List RuleV) (Sw S : Pl → Bdd.Fn) : Nat → Pl → Bdd.Fn
  | 0 => S
  | k + 1 => rtOut ls i ts (andF (Sw ((i : Int), (k : Int))) (aclF rs)) (rtIn ls i ts rs Sw S k) 4
def routerS (ls : List LinkV) (i : Nat) (ts : List RouteV) (rs : List RuleV) (Sw Sn : Pl → Bdd.Fn) : Pl → Bdd.Fn := rtIn ls i ts rs Sw Sn 4
structure RouterPC (P : Bdd.Fn → Prop) (ls : List LinkV) (i : Nat) (ts : List RouteV) (rs : List RuleV) (Sw Sn : Pl → Bdd.Fn) : Prop where
  acl : AclPC P rs
  f : ∀ (k : Nat), k < 4 → PC P (andF (Sw ((i : Int), (k : Int))) (aclF rs))
  p : ∀ (o : Nat), o < 4 → ∀ G, NewB (partL 65535 (setTo (dstB ts (o : Int)) 16) 255 255) G → P G
  a : ∀ (k o : Nat), k < 4 → o < 4 → PC P (andF (andF (Sw ((i : Int), (k : Int))) (aclF rs)) (rtP ts (o : Int)))
  s : ∀ (k o : Nat), k < 4 → o < 4 → SendPC P ls ((i : Int), (o : Int)) (andF (andF (Sw ((i : Int), (k : Int))) (aclF rs)) (rtP ts (o : Int))) (rtOut ls i ts (andF (Sw ((i : Int), (k : Int))) (aclF rs)) (rtIn ls i ts rs Sw Sn k) o)
theorem send_none (ls : List LinkV) (x : Pl) (G : Bdd.Fn) (S : Pl → Bdd.Fn) : sendS ls x (andF (fun _ => false) G) S = S := by
  unfold sendS
  split
  · funext z a
    split
    · rename_i h
      subst h
      simp [orF, andF, iteF]
    · rfl
  · rfl
theorem RF.any {w0 wr : World} {B g mk e0 e rd wm nm : Nat} {A0 A : St} {bl more : List Nat} {n : NetV} {Mw Mn : PoK → Option Value} {Sw Sn : Pl → Bdd.Fn} {P : Bdd.Fn → Prop} (h : RF w0 B g A0 bl mk e0 rd n wm nm Mw Sw P wr A e Mn Sn more) (he : e ≠ 0) (Sn' : Pl → Bdd.Fn) : RF w0 B g A0 bl mk e0 rd n wm nm Mw Sw P wr A e Mn Sn' more :=
  ⟨⟨h.rd.m, h.rd.bx, h.rd.mn, h.rd.ints, h.rd.keys, fun h0 => absurd h0 he, h.rd.ne⟩, h.was, h.ext, h.nw, h.kp, h.e0⟩
theorem router_walk (w : World) (B g : Nat) (A : St) (bl : List Nat) (mk e rd : Nat) (n : NetV) (wm nm : Nat) (Mw Mn : PoK → Option Value) (Sw Sn : Pl → Bdd.Fn) (h : RD w B g A bl mk e rd n (.map (some wm)) nm Mn Sn) (hw : WasOk w A e bl wm Mw Sw) (hv : A.vars = 14) (hl : SlAt LinkV.cells 4 w B n.lA n.ln n.ls) (hlk : LinksOk n.ls)
    (P : Bdd.Fn → Prop) (i : Nat) (hi : i ≤ 1000) (r : DevV) (hr : DevAt w B r) (hrn : r.rn ≤ 8) (htc : checkF r.ts = 0) (hP : RouterPC P n.ls i r.ts r.rs Sw Sn) :
    Calls Tryz.prog 58 #[.pointer (some ⟨rd, 0, none⟩), .int .i64 (i : Int), r.val] w fun en w' => en = .returned (.tuple #[]) ∧ RDP w B g A bl mk e rd n (.map (some wm)) nm P (routerS n.ls i r.ts r.rs Sw Sn) w' := by
  have hct := hr.ct
  have hrr := hr.rs
  have hts := hr.ts
  have htk := hr.tok
  obtain ⟨nm', kd, ad, pl, bA, bn, bc, bs, rA, rn, rc, rs, tA, tn, tc, ts⟩ := r
  simp only at hct hrr hts htk hrn htc hP
  have htn : tn ≤ 9223372036854775807 := by unfold maxLen at hct; omega
  have HR0 := hide ((RF.start h hw P).alloc (.cells #[.string nm', .int .i64 kd, .int .i64 ad, .int .u8 pl, .slice bA bn bc, .slice rA rn rc, .slice tA tn tc] 81))
  have HXd0 := hide (Bx.new w #[.string nm', .int .i64 kd, .int .i64 ad, .int .u8 pl, .slice bA bn bc, .slice rA rn rc, .slice tA tn tc] 81)
  have HLL := hide (fun (w' : World) (hb : RowKit.Below B w w') => hl.below hb (Nat.le_refl _))
  have HRL := hide (fun (w' : World) (hb : RowKit.Below B w w') => hrr.below hb (Nat.le_refl _))
  have HTS := hide (fun (w' : World) (hb : RowKit.Below B w w') (hB : B ≤ w'.heap.size) => hts.below hb hB)
  have HTK := hide (And.intro htk htc)
  have HLK := hide hlk
  have HP := hide hP
  have HV := hide hv
  clear h hw hl hlk hP hv hrr hts htk htc hr
  simp only [DevV.val] at *
  go_enter Tryz.func58, Tryz.ntmps58
  go_wp2_with fail
  generalize World.alloc w _ = w0 at *
  generalize w.heap.size = Nd at *
  have HQ := hide (fun (w' : World) (h1 : Bx w' rd #[.pointer (some ⟨mk, 0, none⟩), .slice n.dA n.dn n.dc, .slice n.lA n.ln n.lc, .map (some wm), .map (some nm)] 75) (e' : Nat) (h2 : Bx w' mk #[.pointer (some ⟨g, 0, none⟩), .int .i64 (e' : Int)] 72) (hbd : Bx w' Nd #[.string nm', .int .i64 kd, .int .i64 ad, .int .u8 pl, .slice bA bn bc, .slice rA rn rc, .slice tA tn tc] 81) (h4 : MapP w' wm Mw) => show (w'.cell? ⟨rd, 0, none⟩ = some (.pointer (some ⟨mk, 0, none⟩)) ∧ w'.cell? ⟨mk, 0, none⟩ = some (.pointer (some ⟨g, 0, none⟩)) ∧ w'.cell? ⟨rd, 3, none⟩ = some (.map (some wm)) ∧ MapP w' wm Mw) ∧ w'.cell? ⟨Nd, 0, none⟩ = some (.string nm') ∧ w'.cell? ⟨Nd, 1, none⟩ = some (.int .i64 kd) ∧ w'.cell? ⟨Nd, 2, none⟩ = some (.int .i64 ad) ∧ w'.cell? ⟨Nd, 3, none⟩ = some (.int .u8 pl) ∧ w'.cell? ⟨Nd, 4, none⟩ = some (.slice bA bn bc) ∧ w'.cell? ⟨Nd, 5, none⟩ = some (.slice rA rn rc) ∧ w'.cell? ⟨Nd, 6, none⟩ = some (.slice tA tn tc) from ⟨⟨h1.get 0 _ rfl, h2.get 0 _ rfl, h1.get 3 _ rfl, h4⟩, hbd.get 0 _ rfl, hbd.get 1 _ rfl, hbd.get 2 _ rfl, hbd.get 3 _ rfl, hbd.get 4 _ rfl, hbd.get 5 _ rfl, hbd.get 6 _ rfl⟩)
  have HR1 := hide (HR0.out.below (RowKit.Below.refl _ _).drew)
  have HXd1 := hide (HXd0.out.below (RowKit.Below.refl _ _).drew)
  clear HR0 HXd0
  refine wp_region_E (fun w' => (w'.cell? ⟨rd, 0, none⟩ = some (.pointer (some ⟨mk, 0, none⟩)) ∧ w'.cell? ⟨mk, 0, none⟩ = some (.pointer (some ⟨g, 0, none⟩)) ∧ w'.cell? ⟨rd, 3, none⟩ = some (.map (some wm)) ∧ MapP w' wm Mw) ∧ w'.cell? ⟨Nd, 0, none⟩ = some (.string nm') ∧ w'.cell? ⟨Nd, 1, none⟩ = some (.int .i64 kd) ∧ w'.cell? ⟨Nd, 2, none⟩ = some (.int .i64 ad) ∧ w'.cell? ⟨Nd, 3, none⟩ = some (.int .u8 pl) ∧ w'.cell? ⟨Nd, 4, none⟩ = some (.slice bA bn bc) ∧ w'.cell? ⟨Nd, 5, none⟩ = some (.slice rA rn rc) ∧ w'.cell? ⟨Nd, 6, none⟩ = some (.slice tA tn tc)) 16 (by kernel_rfl) (HQ.out _ HR1.out.rd.bx _ HR1.out.rd.m.bx HXd1.out HR1.out.was.m) (fun hS => ?_)
  refine rP 0 hS ?_
  refine rP 1 hS ?_
  refine rP 2 hS ?_
  refine rL 3 [16] rfl hS (by intro w hSw; obtain ⟨⟨s0, s1, s3, s4⟩, c0, c1, c2, c3, c4, c5, c6⟩ := hSw; go_simp; try with_reducible rfl) ?_
  refine rP 4 hS ?_
  refine rP 5 hS ?_
  refine rP 6 hS ?_
  refine rL 7 [8, 9, 10, 13, 14, 16] rfl hS (by intro w hSw; obtain ⟨⟨s0, s1, s3, s4⟩, c0, c1, c2, c3, c4, c5, c6⟩ := hSw; go_simp; try with_reducible rfl) ?_
  refine rP 8 hS ?_
  refine rP 9 hS ?_
  refine rL 10 [13, 14, 16] rfl hS (by intro w hSw; obtain ⟨⟨s0, s1, s3, s4⟩, c0, c1, c2, c3, c4, c5, c6⟩ := hSw; go_simp; try with_reducible rfl) ?_
  refine rP 11 hS ?_
  refine rL 12 [13, 14, 16] rfl hS (by intro w hSw; obtain ⟨⟨s0, s1, s3, s4⟩, c0, c1, c2, c3, c4, c5, c6⟩ := hSw; go_simp; try with_reducible rfl) ?_
  intro inv
  refine rO 13 inv fun K hK => ?_
  go_simp
  refine (aq_acl (P := P) HR1.out.rd.m.sa (by rw [HR1.out.ext.vars, HV.out]; exact Nat.le_refl _) rs rA rn rc hrn (HRL.out _ HR1.out.kp.low) HP.out.acl.1 HP.out.acl.2).mono ?_
  rintro en w1x hq
  obtain ⟨Aq, rq, eq, rfl, hgot, hmk1, hk1⟩ := got_any HR1.out.rd.m hq
  have HGOT := hide hgot
  have hS1 := HQ.out _ (HR1.out.rd.bx.kp hk1 (by simp)) _ hmk1.bx (HXd1.out.kp hk1 (by simp)) (HR1.out.was.m.same (hk1.same wm (by simp [HR1.out.was.mem])))
  clear hq hgot hmk1 hk1 hS
  have hS := hS1
  go_simp
  refine hK.out _ _ (fun _ => hS1) ?_
  clear hK K hS inv
  intro inv
  try simp only [Act.put, nrmA, nrmB, nrmC]
  have hS := hS1
  clear hS1
  revert inv
  refine rP 14 hS ?_
  refine rP 15 hS ?_
  intro inv
  refine rT 16 inv fun K hK => ?_
  go_simp
  clear hS
  refine HGOT.out.mono ?_
  rintro en w2 hr
  obtain ⟨A2, e2, r2, rfl, hrf, hx, hF, hsm⟩ := HR1.out.call hr
  have HR2 := hide hrf
  have HXd2 := hide (HXd1.out.same (hsm Nd (by simp)))
  have HFl2 := hide (fun h => (hF h).2)
  clear hr hrf hx hF hsm HR1 HXd1
  go_simp
  refine hK.out _ _ ?_
  clear hK K inv
  intro inv
  try simp only [Act.put, nrmA, nrmB, nrmC]
  refine rT 17 inv fun K hK => ?_
  go_simp
  refine hK.out _ _ ?_
  clear hK K inv
  intro inv
  try simp only [Act.put, nrmA, nrmB, nrmC]
  refine rD ?_
  clear inv
  go_wp2_with fail
  go_loopw [27] (fun u wr => ∃ (k : Nat) (A2 : St) (e2 : Nat) (Mn2 : PoK → Option Value), k ≤ 4 ∧ u = .int .i64 (k : Int) ∧ Hid (RF w B g A bl mk e rd n wm nm Mw Sw P wr A2 e2 Mn2 (rtIn n.ls i ts rs Sw Sn k) [Nd]) ∧ Hid (Bx wr Nd #[.string nm', .int .i64 kd, .int .i64 ad, .int .u8 pl, .slice bA bn bc, .slice rA rn rc, .slice tA tn tc] 81) ∧ Hid (e2 = 0 → IsF A2 r2 (aclF rs))) (fun u _ => 4 - (intOf u).toNat)
  case atStart => exact ⟨0, A2, e2, Mn, Nat.zero_le _, rfl, HR2, HXd2, HFl2⟩
  case round =>
    clear HR2 HXd2 HFl2
    obtain ⟨k, A2, e2, Mn2, hk, rfl, HR40, HXd40, HFl40⟩ := hrel
    by_cases hlt : k < 4
    · skip
      go_wp2_with fail
      have HR41 := hide (HR40.out.below (RowKit.Below.refl _ _).drew)
      have HXd41 := hide (HXd40.out.below (RowKit.Below.refl _ _).drew)
      have HFl41 := HFl40
      clear HR40 HXd40 HFl40
      refine wp_region_E (fun w' => (w'.cell? ⟨rd, 0, none⟩ = some (.pointer (some ⟨mk, 0, none⟩)) ∧ w'.cell? ⟨mk, 0, none⟩ = some (.pointer (some ⟨g, 0, none⟩)) ∧ w'.cell? ⟨rd, 3, none⟩ = some (.map (some wm)) ∧ MapP w' wm Mw) ∧ w'.cell? ⟨Nd, 0, none⟩ = some (.string nm') ∧ w'.cell? ⟨Nd, 1, none⟩ = some (.int .i64 kd) ∧ w'.cell? ⟨Nd, 2, none⟩ = some (.int .i64 ad) ∧ w'.cell? ⟨Nd, 3, none⟩ = some (.int .u8 pl) ∧ w'.cell? ⟨Nd, 4, none⟩ = some (.slice bA bn bc) ∧ w'.cell? ⟨Nd, 5, none⟩ = some (.slice rA rn rc) ∧ w'.cell? ⟨Nd, 6, none⟩ = some (.slice tA tn tc)) 9 (by kernel_rfl) (HQ.out _ HR41.out.rd.bx _ HR41.out.rd.m.bx HXd41.out HR41.out.was.m) (fun hS => ?_)
      refine rP 0 hS ?_
      refine rP 1 hS ?_
      refine rP 2 hS ?_
      refine rL 3 [9] rfl hS (by intro w hSw; obtain ⟨⟨s0, s1, s3, s4⟩, c0, c1, c2, c3, c4, c5, c6⟩ := hSw; go_simp; try with_reducible rfl) ?_
      refine rP 4 hS ?_
      refine rP 5 hS ?_
      refine rP 6 hS ?_
      refine rP 8 hS ?_
      intro inv
      refine wpAnyE_quiet (i := 7) (v := .int .i64 ((numAt Mw ((i : Int), (k : Int)) : Nat) : Int)) [9] rfl (by kernel_rfl) (by kernel_rfl) (by kernel_rfl) (by kernel_rfl) (fun _ _ _ h => h) inv ⟨by rfl, ?_⟩ hS (fun inv2 => ?_)
      · intro w hSw
        obtain ⟨⟨s0, s1, s3, s4⟩, c0, c1, c2, c3, c4, c5, c6⟩ := hSw; exact ⟨92, _, by go_simp, at_walk w rd wm Mw s4 HR41.out.was.ints s3 (i : Int) (k : Int) (by simp only [i64ok]; omega) (by simp only [i64ok]; omega)⟩
      clear inv
      have inv := inv2
      clear inv2
      try simp only [Act.put, nrmA, nrmB, nrmC]
      refine rT 9 inv fun K hK => ?_
      go_simp
      clear hS
      refine (mk_and _ B g A2 (rd :: nm :: ([Nd] ++ bl)) mk e2 HR41.out.rd.m (numAt Mw ((i : Int), (k : Int))) r2 (Sw ((i : Int), (k : Int))) (aclF rs) P (fun h => HR41.out.was.sw h _) HFl41.out (HP.out.f k hlt)).mono ?_
      rintro en w42 hr
      obtain ⟨A42, e42, r42, rfl, hrf, hx, hF, hsm⟩ := HR41.out.call hr
      have HR42 := hide hrf
      have HXd42 := hide (HXd41.out.same (hsm Nd (by simp)))
      have HFl42 := hide (fun h => (HFl41.out ((hF h).1)).ext HR41.out.rd.inv hx)
      have HFf42 := hide (fun h => (hF h).2)
      clear hr hrf hx hF hsm HR41 HXd41 HFl41
      go_simp
      refine hK.out _ _ ?_
      clear hK K inv
      intro inv
      try simp only [Act.put, nrmA, nrmB, nrmC]
      refine rT 10 inv fun K hK => ?_
      go_simp
      refine hK.out _ _ ?_
      clear hK K inv
      intro inv
      try simp only [Act.put, nrmA, nrmB, nrmC]
      refine rD ?_
      clear inv
      go_wp2_with fail
      go_loopw [40] (fun u wr => ∃ (o : Nat) (A3 : St) (e3 : Nat) (Mn3 : PoK → Option Value), o ≤ 4 ∧ u = .int .i64 (o : Int) ∧ Hid (RF w B g A bl mk e rd n wm nm Mw Sw P wr A3 e3 Mn3 (rtOut n.ls i ts (andF (Sw ((i : Int), (k : Int))) (aclF rs)) (rtIn n.ls i ts rs Sw Sn k) o) [Nd]) ∧ Hid (Bx wr Nd #[.string nm', .int .i64 kd, .int .i64 ad, .int .u8 pl, .slice bA bn bc, .slice rA rn rc, .slice tA tn tc] 81) ∧ Hid (e3 = 0 → IsF A3 r2 (aclF rs)) ∧ Hid (e3 = 0 → IsF A3 r42 (andF (Sw ((i : Int), (k : Int))) (aclF rs)))) (fun u _ => 4 - (intOf u).toNat)
      case atStart => exact ⟨0, A42, e42, Mn2, Nat.zero_le _, rfl, HR42, HXd42, HFl42, HFf42⟩
      case round =>
        clear HR42 HXd42 HFl42 HFf42
        obtain ⟨o, A3, e3, Mn3, ho, rfl, HR60, HXd60, HFl60, HFf60⟩ := hrel
        have m0 : wr.cell? ⟨rd, 0, none⟩ = some (.pointer (some ⟨mk, 0, none⟩)) := HR60.out.rd.bx.get 0 _ rfl
        have m1 : wr.cell? ⟨mk, 1, none⟩ = some (.int .i64 (e3 : Int)) := HR60.out.rd.m.bx.get 1 _ rfl
        by_cases hlto : o < 4
        · by_cases he3 : e3 = 0
          · by_cases hf0 : r42 = 0
            · have HN := hide (show rtOut n.ls i ts (andF (Sw ((i : Int), (k : Int))) (aclF rs)) (rtIn n.ls i ts rs Sw Sn k) (o + 1) = rtOut n.ls i ts (andF (Sw ((i : Int), (k : Int))) (aclF rs)) (rtIn n.ls i ts rs Sw Sn k) o from by
                have hq := (HFf60.out he3).2
                rw [hf0, den_zero] at hq
                show sendS _ _ (andF (andF (Sw ((i : Int), (k : Int))) (aclF rs)) _) _ = _
                rw [← hq, send_none]
                )
              have m2 : wr.cell? ⟨mk, 1, none⟩ = some (.int .i64 0) := by rw [m1, he3]; rfl
              clear m1 he3
              have hf1 : ((r42 : Int) != 0) = false := by simp; omega
              clear hf0
              go_wp2_with fail
              go_roundw
              case rel => exact ⟨o + 1, A3, e3, Mn3, by omega, by go_num, hide (by rw [HN.out]; exact HR60.out), HXd60, HFl60, HFf60⟩
              case measure => simp [intOf]; omega
            · have m2 : wr.cell? ⟨mk, 1, none⟩ = some (.int .i64 0) := by rw [m1, he3]; rfl
              clear m1 he3
              have hf1 : ((r42 : Int) != 0) = true := by simp; omega
              clear hf0
              go_wp2_with fail
              clear m0 m2 hf1
              have HR61 := hide (HR60.out.below (RowKit.Below.refl _ _).drew)
              have HXd61 := hide (HXd60.out.below (RowKit.Below.refl _ _).drew)
              have HFl61 := HFl60
              have HFf61 := HFf60
              clear HR60 HXd60 HFl60 HFf60
              refine wp_region_E (fun w' => (w'.cell? ⟨rd, 0, none⟩ = some (.pointer (some ⟨mk, 0, none⟩)) ∧ w'.cell? ⟨mk, 0, none⟩ = some (.pointer (some ⟨g, 0, none⟩)) ∧ w'.cell? ⟨rd, 3, none⟩ = some (.map (some wm)) ∧ MapP w' wm Mw) ∧ w'.cell? ⟨Nd, 0, none⟩ = some (.string nm') ∧ w'.cell? ⟨Nd, 1, none⟩ = some (.int .i64 kd) ∧ w'.cell? ⟨Nd, 2, none⟩ = some (.int .i64 ad) ∧ w'.cell? ⟨Nd, 3, none⟩ = some (.int .u8 pl) ∧ w'.cell? ⟨Nd, 4, none⟩ = some (.slice bA bn bc) ∧ w'.cell? ⟨Nd, 5, none⟩ = some (.slice rA rn rc) ∧ w'.cell? ⟨Nd, 6, none⟩ = some (.slice tA tn tc)) 27 (by kernel_rfl) (HQ.out _ HR61.out.rd.bx _ HR61.out.rd.m.bx HXd61.out HR61.out.was.m) (fun hS => ?_)
              refine rP 0 hS ?_
              refine rP 1 hS ?_
              refine rP 2 hS ?_
              refine rP 3 hS ?_
              refine rP 4 hS ?_
              refine rP 5 hS ?_
              refine rL 6 [26, 27] rfl hS (by intro w hSw; obtain ⟨⟨s0, s1, s3, s4⟩, c0, c1, c2, c3, c4, c5, c6⟩ := hSw; go_simp; try with_reducible rfl) ?_
              refine rP 7 hS ?_
              refine rP 8 hS ?_
              refine rP 9 hS ?_
              refine rP 10 hS ?_
              refine rL 11 [25, 26, 27] rfl hS (by intro w hSw; obtain ⟨⟨s0, s1, s3, s4⟩, c0, c1, c2, c3, c4, c5, c6⟩ := hSw; go_simp; try with_reducible rfl) ?_
              refine rP 12 hS ?_
              refine rP 13 hS ?_
              refine rP 14 hS ?_
              refine rL 15 [16, 17, 18, 22, 23, 25, 26, 27] rfl hS (by intro w hSw; obtain ⟨⟨s0, s1, s3, s4⟩, c0, c1, c2, c3, c4, c5, c6⟩ := hSw; go_simp; try with_reducible rfl) ?_
              refine rP 16 hS ?_
              refine rP 17 hS ?_
              refine rL 18 [22, 23, 25, 26, 27] rfl hS (by intro w hSw; obtain ⟨⟨s0, s1, s3, s4⟩, c0, c1, c2, c3, c4, c5, c6⟩ := hSw; go_simp; try with_reducible rfl) ?_
              refine rP 19 hS ?_
              refine rL 20 [22, 23, 25, 26, 27] rfl hS (by intro w hSw; obtain ⟨⟨s0, s1, s3, s4⟩, c0, c1, c2, c3, c4, c5, c6⟩ := hSw; go_simp; try with_reducible rfl) ?_
              refine rP 21 hS ?_
              intro inv
              refine rO 22 inv fun K hK => ?_
              go_simp
              refine (aq_fib (P := P) HR61.out.rd.m.sa (by rw [HR61.out.ext.vars, HV.out]; exact Nat.le_refl _) ts tA tn tc (o : Int) htn hct.1 (HTS.out _ HR61.out.kp.low (Nat.le_of_lt HR61.out.rd.m.sa.hB)) HTK.out.1 HTK.out.2 (HP.out.p o hlto)).mono ?_
              rintro en w61x hq
              obtain ⟨Aq, rq, eq, rfl, hgot, hmk1, hk1⟩ := got_any HR61.out.rd.m hq
              have HGOT := hide hgot
              have hS1 := HQ.out _ (HR61.out.rd.bx.kp hk1 (by simp)) _ hmk1.bx (HXd61.out.kp hk1 (by simp)) (HR61.out.was.m.same (hk1.same wm (by simp [HR61.out.was.mem])))
              clear hq hgot hmk1 hk1 hS
              have hS := hS1
              go_simp
              refine hK.out _ _ (fun _ => hS1) ?_
              clear hK K hS inv
              intro inv
              try simp only [Act.put, nrmA, nrmB, nrmC]
              have hS := hS1
              clear hS1
              revert inv
              refine rP 23 hS ?_
              refine rP 24 hS ?_
              intro inv
              refine rO 25 inv fun K hK => ?_
              go_simp
              clear hS
              refine HGOT.out.mono ?_
              rintro en w62 hr
              obtain ⟨A62, e62, r62, rfl, hrf, hx, hF, hsm⟩ := HR61.out.call hr
              have HR62 := hide hrf
              have HXd62 := hide (HXd61.out.same (hsm Nd (by simp)))
              have HFl62 := hide (fun h => (HFl61.out ((hF h).1)).ext HR61.out.rd.inv hx)
              have HFf62 := hide (fun h => (HFf61.out ((hF h).1)).ext HR61.out.rd.inv hx)
              have HFp62 := hide (fun h => (hF h).2)
              clear hr hrf hx hF hsm HR61 HXd61 HFl61 HFf61
              have hS := HQ.out _ HR62.out.rd.bx _ HR62.out.rd.m.bx HXd62.out HR62.out.was.m
              go_simp
              refine hK.out _ _ (fun _ => HQ.out _ HR62.out.rd.bx _ HR62.out.rd.m.bx HXd62.out HR62.out.was.m) ?_
              clear hK K hS inv
              intro inv
              try simp only [Act.put, nrmA, nrmB, nrmC]
              have hS := HQ.out _ HR62.out.rd.bx _ HR62.out.rd.m.bx HXd62.out HR62.out.was.m
              refine rO 26 inv fun K hK => ?_
              go_simp
              clear hS
              refine (mk_and _ B g A62 (rd :: nm :: ([Nd] ++ bl)) mk e62 HR62.out.rd.m r42 r62 (andF (Sw ((i : Int), (k : Int))) (aclF rs)) (rtP ts (o : Int)) P HFf62.out HFp62.out (HP.out.a k o hlt hlto)).mono ?_
              rintro en w63 hr
              obtain ⟨A63, e63, r63, rfl, hrf, hx, hF, hsm⟩ := HR62.out.call hr
              have HR63 := hide hrf
              have HXd63 := hide (HXd62.out.same (hsm Nd (by simp)))
              have HFl63 := hide (fun h => (HFl62.out ((hF h).1)).ext HR62.out.rd.inv hx)
              have HFf63 := hide (fun h => (HFf62.out ((hF h).1)).ext HR62.out.rd.inv hx)
              have HFx63 := hide (fun h => (hF h).2)
              clear hr hrf hx hF hsm HR62 HXd62 HFl62 HFf62 HFp62
              have hS := HQ.out _ HR63.out.rd.bx _ HR63.out.rd.m.bx HXd63.out HR63.out.was.m
              go_simp
              refine hK.out _ _ (fun _ => HQ.out _ HR63.out.rd.bx _ HR63.out.rd.m.bx HXd63.out HR63.out.was.m) ?_
              clear hK K hS inv
              intro inv
              try simp only [Act.put, nrmA, nrmB, nrmC]
              have hS := HQ.out _ HR63.out.rd.bx _ HR63.out.rd.m.bx HXd63.out HR63.out.was.m
              refine rT 27 inv fun K hK => ?_
              go_simp
              clear hS
              refine (send_walk _ B g A63 ([Nd] ++ bl) mk e63 rd n (.map (some wm)) nm Mn3 _ HR63.out.rd (HLL.out _ HR63.out.kp.low) HLK.out P (i : Int) (o : Int) r63 (andF (andF (Sw ((i : Int), (k : Int))) (aclF rs)) (rtP ts (o : Int))) HFx63.out (HP.out.s k o hlt hlto)).mono ?_
              rintro en w64 ⟨rfl, hr⟩
              obtain ⟨A64, e64, Mn64, hrf, hx, hF, hsm⟩ := HR63.out.send hr
              have HR64 := hide hrf
              have HXd64 := hide (HXd63.out.same (hsm Nd (by simp)))
              have HFl64 := hide (fun h => (HFl63.out (hF h)).ext HR63.out.rd.inv hx)
              have HFf64 := hide (fun h => (HFf63.out (hF h)).ext HR63.out.rd.inv hx)
              clear hr hrf hx hF hsm HR63 HXd63 HFl63 HFf63 HFx63
              go_simp
              refine hK.out _ _ ?_
              clear hK K inv
              intro inv
              try simp only [Act.put, nrmA, nrmB, nrmC]
              refine rD ?_
              clear inv
              go_wp2_with fail
              go_roundw
              case rel => exact ⟨o + 1, A64, e64, Mn64, by omega, by go_num, HR64, HXd64, HFl64, HFf64⟩
              case measure => simp [intOf]; omega
          · have he4 : ((e3 : Int) == 0) = false := by simp; omega
            have HN := hide (HR60.out.any he3 (rtOut n.ls i ts (andF (Sw ((i : Int), (k : Int))) (aclF rs)) (rtIn n.ls i ts rs Sw Sn k) (o + 1)))
            clear he3
            go_wp2_with fail
            go_roundw
            case rel => exact ⟨o + 1, A3, e3, Mn3, by omega, by go_num, HN, HXd60, HFl60, HFf60⟩
            case measure => simp [intOf]; omega
        · have ho4 : o = 4 := by omega
          have HN := hide (show RF w B g A bl mk e rd n wm nm Mw Sw P wr A3 e3 Mn3 (rtIn n.ls i ts rs Sw Sn (k + 1)) [Nd] from by have := HR60.out; rw [ho4] at this; exact this)
          clear ho4
          go_wp2_with fail
          go_roundw
          case rel => exact ⟨k + 1, A3, e3, Mn3, by omega, by go_num, HN, HXd60, HFl60⟩
          case measure => simp [intOf]; omega
    · have hk4 : k = 4 := by omega
      have HFN := hide (show RDP w B g A bl mk e rd n (.map (some wm)) nm P (routerS n.ls i ts rs Sw Sn) wr from by
        have := HR40.out.out; rw [hk4] at this; exact this)
      clear hk4
      go_wp2
      go_end0
      exact ⟨rfl, HFN.out⟩
def devS (ls : List LinkV) (i : Nat) (d : Dev) (Sw Sn : Pl → Bdd.Fn) : Pl → Bdd.Fn :=
  if d.kind = 2 then routerS ls i d.routes d.rules Sw Sn
  else if d.kind = 3 then fireS ls i d.rules Sw Sn
  else if d.kind = 4 then natS ls i d.addr.toNat d.pool Sw Sn
  else if d.kind = 5 then balS ls i d.addr.toNat d.backs Sw Sn
  else Sn
def nextTo (ds : List Dev) (ls : List LinkV) (Sw Sn : Pl → Bdd.Fn) : Nat → Pl → Bdd.Fn
  | 0 => Sn
  | k + 1 => match ds[k]? with
    | some d => devS ls k d Sw (nextTo ds ls Sw Sn k)
    | none => nextTo ds ls Sw Sn k
theorem nextTo_succ {ds : List Dev} {ls : List LinkV} {Sw Sn : Pl → Bdd.Fn} {k : Nat} {d : Dev} (h : ds[k]? = some d) : nextTo ds ls Sw Sn (k + 1) = devS ls k d Sw (nextTo ds ls Sw Sn k) := by
  simp only [nextTo, h]
structure DevPC (P : Bdd.Fn → Prop) (ls : List LinkV) (i : Nat) (d : Dev) (Sw Sn : Pl → Bdd.Fn) : Prop where
  r : d.kind = 2 → RouterPC P ls i d.routes d.rules Sw Sn
  f : d.kind = 3 → FirePC P ls i d.rules Sw Sn
  n : d.kind = 4 → NatPC P ls i d.addr.toNat d.pool Sw Sn
  b : d.kind = 5 → BalPC P ls i d.addr.toNat d.backs Sw Sn
def NextPC (P : Bdd.Fn → Prop) (ds : List Dev) (ls : List LinkV) (Sw Sn : Pl → Bdd.Fn) : Prop := ∀ k d, ds[k]? = some d → DevPC P ls k d Sw (nextTo ds ls Sw Sn k)
theorem backsOk_lt (a : Int) : ∀ (l pre : List Int), backsOk a pre l = true → ∀ b ∈ l, 0 ≤ b ∧ b < 16
  | [], _, _, b, hb => by cases hb
  | c :: t, pre, h, b, hb => by
    simp only [backsOk, Bool.and_eq_true, decide_eq_true_eq] at h
    rcases List.mem_cons.1 hb with rfl | hb
    · exact ⟨h.1.1.1.1, h.1.1.1.2⟩
    · exact backsOk_lt a t _ h.2 b hb
theorem DevOk.addr16 {d : Dev} (h : DevOk d) (hk : d.kind = 1 ∨ d.kind = 4 ∨ d.kind = 5) : 0 ≤ d.addr ∧ d.addr < 16 := by
  have h1 := h.ar
  have h2 : addrB d.kind = true := by
    unfold addrB
    rcases hk with e | e | e <;> rw [e] <;> rfl
  rw [h2] at h1
  simp only [Bool.true_and, Bool.not_not, Bool.not_true, Bool.false_and, Bool.not_false, Bool.and_true, Bool.and_eq_true, decide_eq_true_eq] at h1
  exact h1.1
theorem DevOk.backs16 {d : Dev} (h : DevOk d) : ∀ b ∈ d.backs, 0 ≤ b ∧ b < 16 := by
  have h1 := h.bb
  unfold backsB at h1
  rw [Bool.and_eq_true] at h1
  exact backsOk_lt _ _ _ h1.1
theorem next_round (w : World) (B g : Nat) (A : St) (bl : List Nat) (mk e rd : Nat) (n : NetV) (wm nm : Nat) (Mw Mn : PoK → Option Value) (Sw Sn : Pl → Bdd.Fn) (h : RD w B g A bl mk e rd n (.map (some wm)) nm Mn Sn) (hw : WasOk w A e bl wm Mw Sw) (hv : A.vars = 14) (hn : NetAt w B n) (hok : ∀ d ∈ n.devs, DevOk d) (hdl : n.dn ≤ 10) (hlk : LinksOk n.ls)
    (P : Bdd.Fn → Prop) (hP : NextPC P n.devs n.ls Sw Sn) :
    Calls Tryz.prog 26 #[.pointer (some ⟨rd, 0, none⟩)] w fun en w' => en = .returned (.tuple #[]) ∧ RDP w B g A bl mk e rd n (.map (some wm)) nm P (nextTo n.devs n.ls Sw Sn n.dn) w' := by
  have HR0 := hide (RF.start h hw P)
  have HN := hide (fun (w' : World) (hb : RowKit.Below B w w') => show NetAt w' B n from hn.below hb (Nat.le_refl _))
  have HDK := hide (fun (d : DevV) (hd : d ∈ n.ds) => hok d.dev (List.mem_map_of_mem hd))
  have HLK := hide hlk
  have HP := hide hP
  have HV := hide hv
  have HD := hide hn
  have hdl2 := hn.dlen
  have r1 : w.cell? ⟨rd, 1, none⟩ = some (.slice n.dA n.dn n.dc) := h.bx.get 1 _ rfl
  clear h hw hn hok hlk hP hv
  obtain ⟨dA, dn, dc, ds, lA, ln, lc, ls⟩ := n
  simp only [NetV.devs] at *
  go_enter Tryz.func26, Tryz.ntmps26
  go_wp2_with fail
  clear r1
  go_loopw [10] (fun i wr => ∃ (k : Nat) (A2 : St) (e2 : Nat) (Mn2 : PoK → Option Value), k ≤ dn ∧ i = .int .i64 (k : Int) ∧ Hid (RF w B g A bl mk e rd ⟨dA, dn, dc, ds, lA, ln, lc, ls⟩ wm nm Mw Sw P wr A2 e2 Mn2 (nextTo (ds.map DevV.dev) ls Sw Sn k) [])) (fun i _ => dn - (intOf i).toNat)
  case atStart => exact ⟨0, A, e, Mn, Nat.zero_le _, rfl, HR0⟩
  case round =>
    clear HR0
    obtain ⟨k, A2, e2, Mn2, hkn, rfl, HR⟩ := hrel
    by_cases hlt : k < dn
    · obtain ⟨r, hr⟩ : ∃ r, ds[k]? = some r := ⟨_, List.getElem?_eq_getElem (by omega)⟩
      have hdr : (ds.map DevV.dev)[k]? = some r.dev := by rw [List.getElem?_map, hr]; rfl
      have HDR := hide hdr
      obtain ⟨b, o, rfl, _, _⟩ := HD.out.ds.2 (by show 0 < dn; omega)
      have HNW := HN.out wr HR.out.kp.low
      obtain ⟨_, q0, q1, q2, q3, q4, q5, q6⟩ := dev_get HNW.ds hr
      have HOK := hide (HDK.out r (List.mem_of_getElem? hr))
      have HDA := hide (HNW.dok r (List.mem_of_getElem? hr))
      have HPK := hide (HP.out k r.dev hdr)
      have HNX := hide (nextTo_succ (ls := ls) (Sw := Sw) (Sn := Sn) hdr)
      clear hr hdr HNW
      obtain ⟨nm', kd, ad, pl, bA, bn, bc, bs, rA, rn, rc, rs, tA, tn, tc, ts⟩ := r
      simp only at q0 q1 q2 q3 q4 q5 q6
      have HBA := hide (below_alloc2 wr (.cells #[.string nm', .int .i64 kd, .int .i64 ad, .int .u8 pl, .slice bA bn bc, .slice rA rn rc, .slice tA tn tc] 81))
      have HX := hide (Bx.new wr #[.string nm', .int .i64 kd, .int .i64 ad, .int .u8 pl, .slice bA bn bc, .slice rA rn rc, .slice tA tn tc] 81)
      have hk1 := HOK.out.k1
      have hk5 := HOK.out.k5
      simp only [DevV.dev] at hk1 hk5
      rcases (show kd = 1 ∨ kd = 2 ∨ kd = 3 ∨ kd = 4 ∨ kd = 5 by omega) with e1 | e1 | e1 | e1 | e1
      all_goals clear hk1 hk5 -- cases
      all_goals subst e1
      · have HNR := hide (show RF w B g A bl mk e rd ⟨some ⟨b, o, none⟩, dn, dc, ds, lA, ln, lc, ls⟩ wm nm Mw Sw P _ A2 e2 Mn2 (nextTo (ds.map DevV.dev) ls Sw Sn (k + 1)) [] from by rw [HNX.out]; exact HR.out.below HBA.out)
        go_wp2_with fail
        go_roundw
        case rel => exact ⟨k + 1, A2, e2, Mn2, by omega, by go_num, HNR⟩
        case measure => simp [intOf]; omega
      · go_wp2_with fail
        have HR2 := hide (HR.out.below HBA.out)
        have HDA2 := hide (show DevAt _ B ⟨nm', 2, ad, pl, bA, bn, bc, bs, rA, rn, rc, rs, tA, tn, tc, ts⟩ from HDA.out.below (HBA.out.mono (Nat.le_of_lt HR.out.rd.m.sa.hB)) (Nat.le_refl _))
        clear q0 q1 q2 q3 q4 q5 q6 HBA HX HDA HR
        generalize World.alloc wr _ = w2 at *
        generalize wr.heap.size = Nd at *
        refine (router_walk w2 B g A2 bl mk e2 rd ⟨some ⟨b, o, none⟩, dn, dc, ds, lA, ln, lc, ls⟩ wm nm Mw Mn2 Sw _ HR2.out.rd HR2.out.was (by rw [HR2.out.ext.vars]; exact HV.out) (HN.out _ HR2.out.kp.low).ls HLK.out P k (by omega) ⟨nm', 2, ad, pl, bA, bn, bc, bs, rA, rn, rc, rs, tA, tn, tc, ts⟩ HDA2.out (by have := HDA2.out.rs.1; have := HOK.out.rl; simp only [DevV.dev] at *; omega) HOK.out.tc (HPK.out.r rfl)).mono ?_
        rintro en w3 ⟨rfl, hr⟩
        obtain ⟨A3, e3, Mn3, hrf, hx3, he3, hsm3⟩ := HR2.out.send hr
        have HR3 := hide (show RF w B g A bl mk e rd ⟨some ⟨b, o, none⟩, dn, dc, ds, lA, ln, lc, ls⟩ wm nm Mw Sw P w3 A3 e3 Mn3 (nextTo (ds.map DevV.dev) ls Sw Sn (k + 1)) [] from by rw [HNX.out]; exact hrf)
        clear hr hrf hx3 he3 hsm3 HR2 HDA2
        go_wp2_with fail
        go_roundw
        case rel => exact ⟨k + 1, A3, e3, Mn3, by omega, by go_num, HR3⟩
        case measure => simp [intOf]; omega
      · go_wp2_with fail
        have HR2 := hide (HR.out.below HBA.out)
        have HDA2 := hide (show DevAt _ B ⟨nm', 3, ad, pl, bA, bn, bc, bs, rA, rn, rc, rs, tA, tn, tc, ts⟩ from HDA.out.below (HBA.out.mono (Nat.le_of_lt HR.out.rd.m.sa.hB)) (Nat.le_refl _))
        clear q0 q1 q2 q3 q4 q5 q6 HBA HX HDA HR
        generalize World.alloc wr _ = w2 at *
        generalize wr.heap.size = Nd at *
        refine (fire_walk w2 B g A2 bl mk e2 rd ⟨some ⟨b, o, none⟩, dn, dc, ds, lA, ln, lc, ls⟩ wm nm Mw Mn2 Sw _ HR2.out.rd HR2.out.was (by rw [HR2.out.ext.vars]; exact HV.out) (HN.out _ HR2.out.kp.low).ls HLK.out P k (by omega) ⟨nm', 3, ad, pl, bA, bn, bc, bs, rA, rn, rc, rs, tA, tn, tc, ts⟩ HDA2.out (by have := HDA2.out.rs.1; have := HOK.out.rl; simp only [DevV.dev] at *; omega) (HPK.out.f rfl)).mono ?_
        rintro en w3 ⟨rfl, hr⟩
        obtain ⟨A3, e3, Mn3, hrf, hx3, he3, hsm3⟩ := HR2.out.send hr
        have HR3 := hide (show RF w B g A bl mk e rd ⟨some ⟨b, o, none⟩, dn, dc, ds, lA, ln, lc, ls⟩ wm nm Mw Sw P w3 A3 e3 Mn3 (nextTo (ds.map DevV.dev) ls Sw Sn (k + 1)) [] from by rw [HNX.out]; exact hrf)
        clear hr hrf hx3 he3 hsm3 HR2 HDA2
        go_wp2_with fail
        go_roundw
        case rel => exact ⟨k + 1, A3, e3, Mn3, by omega, by go_num, HR3⟩
        case measure => simp [intOf]; omega
      · have ha := HOK.out.addr16 (.inr (.inl rfl))
        simp only [DevV.dev] at ha
        obtain ⟨an, rfl⟩ : ∃ an : Nat, ad = (an : Int) := ⟨ad.toNat, by omega⟩
        have ha16 : an < 16 := by omega
        clear ha
        go_wp2_with fail
        have HR2 := hide (HR.out.below HBA.out)
        have HDA2 := hide (show DevAt _ B ⟨nm', 4, (an : Int), pl, bA, bn, bc, bs, rA, rn, rc, rs, tA, tn, tc, ts⟩ from HDA.out.below (HBA.out.mono (Nat.le_of_lt HR.out.rd.m.sa.hB)) (Nat.le_refl _))
        clear q0 q1 q2 q3 q4 q5 q6 HBA HX HDA HR
        generalize World.alloc wr _ = w2 at *
        generalize wr.heap.size = Nd at *
        refine (nat_walk w2 B g A2 bl mk e2 rd ⟨some ⟨b, o, none⟩, dn, dc, ds, lA, ln, lc, ls⟩ wm nm Mw Mn2 Sw _ HR2.out.rd HR2.out.was (by rw [HR2.out.ext.vars]; exact HV.out) (HN.out _ HR2.out.kp.low).ls HLK.out P k (by omega) ⟨nm', 4, (an : Int), pl, bA, bn, bc, bs, rA, rn, rc, rs, tA, tn, tc, ts⟩ an rfl rfl ha16 HDA2.out.pl (HPK.out.n rfl)).mono ?_
        rintro en w3 ⟨rfl, hr⟩
        obtain ⟨A3, e3, Mn3, hrf, hx3, he3, hsm3⟩ := HR2.out.send hr
        have HR3 := hide (show RF w B g A bl mk e rd ⟨some ⟨b, o, none⟩, dn, dc, ds, lA, ln, lc, ls⟩ wm nm Mw Sw P w3 A3 e3 Mn3 (nextTo (ds.map DevV.dev) ls Sw Sn (k + 1)) [] from by rw [HNX.out]; exact hrf)
        clear hr hrf hx3 he3 hsm3 HR2 HDA2
        go_wp2_with fail
        go_roundw
        case rel => exact ⟨k + 1, A3, e3, Mn3, by omega, by go_num, HR3⟩
        case measure => simp [intOf]; omega
      · have ha := HOK.out.addr16 (.inr (.inr rfl))
        simp only [DevV.dev] at ha
        obtain ⟨an, rfl⟩ : ∃ an : Nat, ad = (an : Int) := ⟨ad.toNat, by omega⟩
        have ha16 : an < 16 := by omega
        clear ha
        go_wp2_with fail
        have HR2 := hide (HR.out.below HBA.out)
        have HDA2 := hide (show DevAt _ B ⟨nm', 5, (an : Int), pl, bA, bn, bc, bs, rA, rn, rc, rs, tA, tn, tc, ts⟩ from HDA.out.below (HBA.out.mono (Nat.le_of_lt HR.out.rd.m.sa.hB)) (Nat.le_refl _))
        clear q0 q1 q2 q3 q4 q5 q6 HBA HX HDA HR
        generalize World.alloc wr _ = w2 at *
        generalize wr.heap.size = Nd at *
        refine (balancer_walk w2 B g A2 bl mk e2 rd ⟨some ⟨b, o, none⟩, dn, dc, ds, lA, ln, lc, ls⟩ wm nm Mw Mn2 Sw _ HR2.out.rd HR2.out.was (by rw [HR2.out.ext.vars]; exact HV.out) (HN.out _ HR2.out.kp.low).ls HLK.out P k (by omega) ⟨nm', 5, (an : Int), pl, bA, bn, bc, bs, rA, rn, rc, rs, tA, tn, tc, ts⟩ an rfl rfl ha16 HDA2.out.bs HOK.out.backs16 HOK.out.bl (HPK.out.b rfl)).mono ?_
        rintro en w3 ⟨rfl, hr⟩
        obtain ⟨A3, e3, Mn3, hrf, hx3, he3, hsm3⟩ := HR2.out.send hr
        have HR3 := hide (show RF w B g A bl mk e rd ⟨some ⟨b, o, none⟩, dn, dc, ds, lA, ln, lc, ls⟩ wm nm Mw Sw P w3 A3 e3 Mn3 (nextTo (ds.map DevV.dev) ls Sw Sn (k + 1)) [] from by rw [HNX.out]; exact hrf)
        clear hr hrf hx3 he3 hsm3 HR2 HDA2
        go_wp2_with fail
        go_roundw
        case rel => exact ⟨k + 1, A3, e3, Mn3, by omega, by go_num, HR3⟩
        case measure => simp [intOf]; omega
    · have HFN := hide (show RDP w B g A bl mk e rd ⟨dA, dn, dc, ds, lA, ln, lc, ls⟩ (.map (some wm)) nm P (nextTo (ds.map DevV.dev) ls Sw Sn dn) wr from by
        have hk : k = dn := by omega
        have := HR.out.out; rw [hk] at this; exact this)
      go_wp2
      go_end0
      exact ⟨rfl, HFN.out⟩
end Go.Proofs.YtifkacnoiocebaaGreat
