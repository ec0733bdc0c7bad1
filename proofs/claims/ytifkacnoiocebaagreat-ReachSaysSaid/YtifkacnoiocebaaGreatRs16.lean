/- A part of the proof: Rd4. -/
import Derived.Test.YtifkacnoiocebaaGreatRs15
set_option linter.unusedVariables false
set_option linter.unusedSimpArgs false
set_option maxRecDepth 100000
set_option maxHeartbeats 8000000
namespace Go.Proofs.YtifkacnoiocebaaGreat
open Bdd Go.Maps Go.RowKit
def natO (a pl : Nat) : M4 := ⟨2 ^ a, 65535, pl, 255⟩
def natI (a pl : Nat) : M4 := ⟨65535, 2 ^ a, 255, pl⟩
def natF (i : Nat) (Sw : Pl → Bdd.Fn) : Bdd.Fn := anyF (anyF (Sw ((i : Int), 0)) 0 4) 8 3
def natB (i a pl : Nat) (Sw : Pl → Bdd.Fn) : Bdd.Fn := anyF (anyF (andF (Sw ((i : Int), 1)) (matchF (natI a pl))) 4 4) 11 3
def natW (i : Nat) (Sw : Pl → Bdd.Fn) : Bdd.Fn := flipF (anyF (anyF (Sw ((i : Int), 0)) 4 4) 11 3)
def natS (ls : List LinkV) (i a pl : Nat) (Sw Sn : Pl → Bdd.Fn) : Pl → Bdd.Fn :=
  if (peerF ls ((i : Int), 1)).isSome then sendS ls ((i : Int), 0) (andF (natB i a pl Sw) (natW i Sw)) (sendS ls ((i : Int), 1) (andF (natF i Sw) (matchF (natO a pl))) Sn)
  else sendS ls ((i : Int), 1) (andF (natF i Sw) (matchF (natO a pl))) Sn
structure NatPC (P : Bdd.Fn → Prop) (ls : List LinkV) (i a pl : Nat) (Sw Sn : Pl → Bdd.Fn) : Prop where
  f1 : AnyPC P (Sw ((i : Int), 0)) 0 4
  f2 : AnyPC P (anyF (Sw ((i : Int), 0)) 0 4) 8 3
  m1 : MatchPC P (natO a pl)
  a1 : PC P (andF (natF i Sw) (matchF (natO a pl)))
  s1 : SendPC P ls ((i : Int), 1) (andF (natF i Sw) (matchF (natO a pl))) Sn
  m2 : MatchPC P (natI a pl)
  b1 : PC P (andF (Sw ((i : Int), 1)) (matchF (natI a pl)))
  b2 : AnyPC P (andF (Sw ((i : Int), 1)) (matchF (natI a pl))) 4 4
  b3 : AnyPC P (anyF (andF (Sw ((i : Int), 1)) (matchF (natI a pl))) 4 4) 11 3
  o1 : AnyPC P (Sw ((i : Int), 0)) 4 4
  o2 : AnyPC P (anyF (Sw ((i : Int), 0)) 4 4) 11 3
  o3 : FlipPC P (anyF (anyF (Sw ((i : Int), 0)) 4 4) 11 3)
  a2 : PC P (andF (natB i a pl Sw) (natW i Sw))
  s2 : SendPC P ls ((i : Int), 0) (andF (natB i a pl Sw) (natW i Sw)) (sendS ls ((i : Int), 1) (andF (natF i Sw) (matchF (natO a pl))) Sn)
theorem natO_ok {a pl : Nat} (h : a < 16) (hp : pl < 256) : (natO a pl).ok := ⟨pow_lt16 h, Nat.lt_succ_self 65535, hp, Nat.lt_succ_self 255⟩
theorem natI_ok {a pl : Nat} (h : a < 16) (hp : pl < 256) : (natI a pl).ok := ⟨Nat.lt_succ_self 65535, pow_lt16 h, Nat.lt_succ_self 255, hp⟩
theorem nat_walk (w : World) (B g : Nat) (A : St) (bl : List Nat) (mk e rd : Nat) (n : NetV) (wm nm : Nat) (Mw Mn : PoK → Option Value) (Sw Sn : Pl → Bdd.Fn) (h : RD w B g A bl mk e rd n (.map (some wm)) nm Mn Sn) (hw : WasOk w A e bl wm Mw Sw) (hv : A.vars = 14) (hl : SlAt LinkV.cells 4 w B n.lA n.ln n.ls) (hlk : LinksOk n.ls)
    (P : Bdd.Fn → Prop) (i : Nat) (hi : i ≤ 1000) (r : DevV) (ad : Nat) (hk : r.kind = 4) (had : r.addr = (ad : Int)) (ha16 : ad < 16) (hpl : r.pool < 256) (hP : NatPC P n.ls i ad r.pool Sw Sn) :
    Calls Tryz.prog 60 #[.pointer (some ⟨rd, 0, none⟩), .int .i64 (i : Int), r.val] w fun en w' => en = .returned (.tuple #[]) ∧ RDP w B g A bl mk e rd n (.map (some wm)) nm P (natS n.ls i ad r.pool Sw Sn) w' := by
  obtain ⟨nm', kd, ad', pl, bA, bn, bc, bs, rA, rn, rc, rs, tA, tn, tc, ts⟩ := r
  simp only at hk had hpl hP
  subst hk
  subst had
  have HR0 := hide ((RF.start h hw P).alloc (.cells #[.string nm', .int .i64 4, .int .i64 (ad : Int), .int .u8 pl, .slice bA bn bc, .slice rA rn rc, .slice tA tn tc] 81))
  have HXd0 := hide (Bx.new w #[.string nm', .int .i64 4, .int .i64 (ad : Int), .int .u8 pl, .slice bA bn bc, .slice rA rn rc, .slice tA tn tc] 81)
  have HLL := hide (fun (w' : World) (hb : RowKit.Below B w w') => hl.below hb (Nat.le_refl _))
  have HLK := hide hlk
  have HP := hide hP
  have HV := hide hv
  clear h hw hl hlk hP hv
  simp only [DevV.val] at *
  go_enter Tryz.func60, Tryz.ntmps60
  go_wp2_with fail
  generalize World.alloc w _ = w0 at *
  generalize w.heap.size = Nd at *
  refine (src_walk ad w0 ha16).mono ?_
  rintro en w1 ⟨rfl, hb⟩
  have HR1 := hide (HR0.out.below hb)
  have HXd1 := hide (HXd0.out.below hb)
  clear hb HR0 HXd0
  have hval : (srcM ad).val = .agg #[.int .u16 ((2 ^ ad : Nat) : Int), .int .u16 65535, .int .u8 255, .int .u8 255] := rfl
  rw [hval]
  clear hval
  have HPW := hide (show natO ad pl = ⟨2 ^ ad, 65535, pl, 255⟩ from rfl)
  have HPI := hide (show natI ad pl = ⟨65535, 2 ^ ad, 255, pl⟩ from rfl)
  generalize hpw : 2 ^ ad = sN at *
  have HPN := hide hpw
  clear hpw
  have d3 := fun o => ((HXd1.out.below (below_alloc2 w1 o)).get 3 _ rfl : (w1.alloc o).cell? ⟨Nd, 3, none⟩ = some (.int .u8 pl))
  go_wp2_with fail
  clear d3
  have HR2 := hide (HR1.out.alloc (.cells #[.int .u16 (sN : Int), .int .u16 65535, .int .u8 (pl : Int), .int .u8 255] 32))
  have HXd2 := hide (HXd1.out.below (below_alloc2 w1 (.cells #[.int .u16 (sN : Int), .int .u16 65535, .int .u8 (pl : Int), .int .u8 255] 32)))
  have HXm2 := hide (Bx.new w1 #[.int .u16 (sN : Int), .int .u16 65535, .int .u8 (pl : Int), .int .u8 255] 32)
  clear HR1 HXd1
  generalize World.alloc w1 _ = w2 at *
  generalize w1.heap.size = Nm at *
  have HQ := hide (fun (w' : World) (h1 : Bx w' rd #[.pointer (some ⟨mk, 0, none⟩), .slice n.dA n.dn n.dc, .slice n.lA n.ln n.lc, .map (some wm), .map (some nm)] 75) (e' : Nat) (h2 : Bx w' mk #[.pointer (some ⟨g, 0, none⟩), .int .i64 (e' : Int)] 72) (hbd : Bx w' Nd #[.string nm', .int .i64 4, .int .i64 (ad : Int), .int .u8 pl, .slice bA bn bc, .slice rA rn rc, .slice tA tn tc] 81) (hbm : Bx w' Nm #[.int .u16 (sN : Int), .int .u16 65535, .int .u8 (pl : Int), .int .u8 255] 32) (h4 : MapP w' wm Mw) => show (w'.cell? ⟨rd, 0, none⟩ = some (.pointer (some ⟨mk, 0, none⟩)) ∧ w'.cell? ⟨mk, 0, none⟩ = some (.pointer (some ⟨g, 0, none⟩)) ∧ w'.cell? ⟨rd, 3, none⟩ = some (.map (some wm)) ∧ MapP w' wm Mw) ∧ w'.cell? ⟨Nd, 0, none⟩ = some (.string nm') ∧ w'.cell? ⟨Nd, 1, none⟩ = some (.int .i64 4) ∧ w'.cell? ⟨Nd, 2, none⟩ = some (.int .i64 (ad : Int)) ∧ w'.cell? ⟨Nd, 3, none⟩ = some (.int .u8 pl) ∧ w'.cell? ⟨Nd, 4, none⟩ = some (.slice bA bn bc) ∧ w'.cell? ⟨Nd, 5, none⟩ = some (.slice rA rn rc) ∧ w'.cell? ⟨Nd, 6, none⟩ = some (.slice tA tn tc) ∧ w'.cell? ⟨Nm, 0, none⟩ = some (.int .u16 (sN : Int)) ∧ w'.cell? ⟨Nm, 1, none⟩ = some (.int .u16 65535) ∧ w'.cell? ⟨Nm, 2, none⟩ = some (.int .u8 (pl : Int)) ∧ w'.cell? ⟨Nm, 3, none⟩ = some (.int .u8 255) from ⟨⟨h1.get 0 _ rfl, h2.get 0 _ rfl, h1.get 3 _ rfl, h4⟩, hbd.get 0 _ rfl, hbd.get 1 _ rfl, hbd.get 2 _ rfl, hbd.get 3 _ rfl, hbd.get 4 _ rfl, hbd.get 5 _ rfl, hbd.get 6 _ rfl, hbm.get 0 _ rfl, hbm.get 1 _ rfl, hbm.get 2 _ rfl, hbm.get 3 _ rfl⟩)
  have HR3 := hide (HR2.out.below (RowKit.Below.refl _ _).drew)
  have HXd3 := hide (HXd2.out.below (RowKit.Below.refl _ _).drew)
  have HXm3 := hide (HXm2.out.below (RowKit.Below.refl _ _).drew)
  clear HR2 HXd2 HXm2
  refine wp_region_E (fun w' => (w'.cell? ⟨rd, 0, none⟩ = some (.pointer (some ⟨mk, 0, none⟩)) ∧ w'.cell? ⟨mk, 0, none⟩ = some (.pointer (some ⟨g, 0, none⟩)) ∧ w'.cell? ⟨rd, 3, none⟩ = some (.map (some wm)) ∧ MapP w' wm Mw) ∧ w'.cell? ⟨Nd, 0, none⟩ = some (.string nm') ∧ w'.cell? ⟨Nd, 1, none⟩ = some (.int .i64 4) ∧ w'.cell? ⟨Nd, 2, none⟩ = some (.int .i64 (ad : Int)) ∧ w'.cell? ⟨Nd, 3, none⟩ = some (.int .u8 pl) ∧ w'.cell? ⟨Nd, 4, none⟩ = some (.slice bA bn bc) ∧ w'.cell? ⟨Nd, 5, none⟩ = some (.slice rA rn rc) ∧ w'.cell? ⟨Nd, 6, none⟩ = some (.slice tA tn tc) ∧ w'.cell? ⟨Nm, 0, none⟩ = some (.int .u16 (sN : Int)) ∧ w'.cell? ⟨Nm, 1, none⟩ = some (.int .u16 65535) ∧ w'.cell? ⟨Nm, 2, none⟩ = some (.int .u8 (pl : Int)) ∧ w'.cell? ⟨Nm, 3, none⟩ = some (.int .u8 255)) 12 (by kernel_rfl) (HQ.out _ HR3.out.rd.bx _ HR3.out.rd.m.bx HXd3.out HXm3.out HR3.out.was.m) (fun hS => ?_)
  refine rP 0 hS ?_
  refine rP 1 hS ?_
  refine rP 2 hS ?_
  refine rL 3 [12] rfl hS (by intro w hSw; obtain ⟨⟨s0, s1, s3, s4⟩, c0, c1, c2, c3, c4, c5, c6, c7, c8, c9, c10⟩ := hSw; go_simp; try with_reducible rfl) ?_
  refine rP 4 hS ?_
  refine rP 5 hS ?_
  refine rP 6 hS ?_
  refine rL 7 [11, 12] rfl hS (by intro w hSw; obtain ⟨⟨s0, s1, s3, s4⟩, c0, c1, c2, c3, c4, c5, c6, c7, c8, c9, c10⟩ := hSw; go_simp; try with_reducible rfl) ?_
  refine rP 8 hS ?_
  refine rP 9 hS ?_
  intro inv
  refine wpAnyE_quiet (i := 10) (v := .int .i64 ((numAt Mw ((i : Int), 0) : Nat) : Int)) [11, 12] rfl (by kernel_rfl) (by kernel_rfl) (by kernel_rfl) (by kernel_rfl) (fun _ _ _ h => h) inv ⟨by rfl, ?_⟩ hS (fun inv2 => ?_)
  · intro w hSw
    obtain ⟨⟨s0, s1, s3, s4⟩, c0, c1, c2, c3, c4, c5, c6, c7, c8, c9, c10⟩ := hSw; exact ⟨92, _, by go_simp, at_walk w rd wm Mw s4 HR3.out.was.ints s3 (i : Int) 0 (by simp only [i64ok]; omega) (by simp only [i64ok]; omega)⟩
  clear inv
  have inv := inv2
  clear inv2
  try simp only [Act.put, nrmA, nrmB, nrmC]
  refine rO 11 inv fun K hK => ?_
  go_simp
  clear hS
  refine (CallsI (mk_any _ B g A (rd :: nm :: ([Nm, Nd] ++ bl)) mk e HR3.out.rd.m (numAt Mw ((i : Int), 0)) (Sw ((i : Int), 0)) P 0 4 4 rfl (by rw [HR3.out.ext.vars, HV.out]; omega) (by rw [HR3.out.ext.vars, HV.out]; omega) (fun h => HR3.out.was.sw h _) HP.out.f1) rfl).mono ?_
  rintro en w4 hr
  obtain ⟨A4, e4, r4, rfl, hrf, hx, hF, hsm⟩ := HR3.out.call hr
  have HR4 := hide hrf
  have HXd4 := hide (HXd3.out.same (hsm Nd (by simp)))
  have HXm4 := hide (HXm3.out.same (hsm Nm (by simp)))
  have HFa4 := hide (fun h => (hF h).2)
  clear hr hrf hx hF hsm HR3 HXd3 HXm3
  have hS := HQ.out _ HR4.out.rd.bx _ HR4.out.rd.m.bx HXd4.out HXm4.out HR4.out.was.m
  go_simp
  refine hK.out _ _ (fun _ => HQ.out _ HR4.out.rd.bx _ HR4.out.rd.m.bx HXd4.out HXm4.out HR4.out.was.m) ?_
  clear hK K hS inv
  intro inv
  try simp only [Act.put, nrmA, nrmB, nrmC]
  have hS := HQ.out _ HR4.out.rd.bx _ HR4.out.rd.m.bx HXd4.out HXm4.out HR4.out.was.m
  refine rT 12 inv fun K hK => ?_
  go_simp
  clear hS
  refine (CallsI (mk_any _ B g A4 (rd :: nm :: ([Nm, Nd] ++ bl)) mk e4 HR4.out.rd.m r4 (anyF (Sw ((i : Int), 0)) 0 4) P 8 3 11 rfl (by rw [HR4.out.ext.vars, HV.out]; omega) (by rw [HR4.out.ext.vars, HV.out]; omega) HFa4.out HP.out.f2) rfl).mono ?_
  rintro en w5 hr
  obtain ⟨A5, e5, r5, rfl, hrf, hx, hF, hsm⟩ := HR4.out.call hr
  have HR5 := hide hrf
  have HXd5 := hide (HXd4.out.same (hsm Nd (by simp)))
  have HXm5 := hide (HXm4.out.same (hsm Nm (by simp)))
  have HFf5 := hide (fun h => (hF h).2)
  clear hr hrf hx hF hsm HR4 HXd4 HXm4 HFa4
  go_simp
  refine hK.out _ _ ?_
  clear hK K inv
  intro inv
  try simp only [Act.put, nrmA, nrmB, nrmC]
  refine rT 13 inv fun K hK => ?_
  go_simp
  refine hK.out _ _ ?_
  clear hK K inv
  intro inv
  try simp only [Act.put, nrmA, nrmB, nrmC]
  refine rD ?_
  clear inv
  go_wp2_with fail
  have HR6 := hide (HR5.out.below (RowKit.Below.refl _ _).drew)
  have HXd6 := hide (HXd5.out.below (RowKit.Below.refl _ _).drew)
  have HXm6 := hide (HXm5.out.below (RowKit.Below.refl _ _).drew)
  have HFf6 := HFf5
  clear HR5 HXd5 HXm5 HFf5
  refine wp_region_E (fun w' => (w'.cell? ⟨rd, 0, none⟩ = some (.pointer (some ⟨mk, 0, none⟩)) ∧ w'.cell? ⟨mk, 0, none⟩ = some (.pointer (some ⟨g, 0, none⟩)) ∧ w'.cell? ⟨rd, 3, none⟩ = some (.map (some wm)) ∧ MapP w' wm Mw) ∧ w'.cell? ⟨Nd, 0, none⟩ = some (.string nm') ∧ w'.cell? ⟨Nd, 1, none⟩ = some (.int .i64 4) ∧ w'.cell? ⟨Nd, 2, none⟩ = some (.int .i64 (ad : Int)) ∧ w'.cell? ⟨Nd, 3, none⟩ = some (.int .u8 pl) ∧ w'.cell? ⟨Nd, 4, none⟩ = some (.slice bA bn bc) ∧ w'.cell? ⟨Nd, 5, none⟩ = some (.slice rA rn rc) ∧ w'.cell? ⟨Nd, 6, none⟩ = some (.slice tA tn tc) ∧ w'.cell? ⟨Nm, 0, none⟩ = some (.int .u16 (sN : Int)) ∧ w'.cell? ⟨Nm, 1, none⟩ = some (.int .u16 65535) ∧ w'.cell? ⟨Nm, 2, none⟩ = some (.int .u8 (pl : Int)) ∧ w'.cell? ⟨Nm, 3, none⟩ = some (.int .u8 255)) 14 (by kernel_rfl) (HQ.out _ HR6.out.rd.bx _ HR6.out.rd.m.bx HXd6.out HXm6.out HR6.out.was.m) (fun hS => ?_)
  refine rP 0 hS ?_
  refine rP 1 hS ?_
  refine rP 2 hS ?_
  refine rP 3 hS ?_
  refine rP 4 hS ?_
  refine rL 5 [13, 14] rfl hS (by intro w hSw; obtain ⟨⟨s0, s1, s3, s4⟩, c0, c1, c2, c3, c4, c5, c6, c7, c8, c9, c10⟩ := hSw; go_simp; try with_reducible rfl) ?_
  refine rP 6 hS ?_
  refine rP 7 hS ?_
  refine rP 8 hS ?_
  refine rP 9 hS ?_
  refine rL 10 [12, 13, 14] rfl hS (by intro w hSw; obtain ⟨⟨s0, s1, s3, s4⟩, c0, c1, c2, c3, c4, c5, c6, c7, c8, c9, c10⟩ := hSw; go_simp; try with_reducible rfl) ?_
  refine rL 11 [12, 13, 14] rfl hS (by intro w hSw; obtain ⟨⟨s0, s1, s3, s4⟩, c0, c1, c2, c3, c4, c5, c6, c7, c8, c9, c10⟩ := hSw; go_simp; try with_reducible rfl) ?_
  intro inv
  refine rO 12 inv fun K hK => ?_
  go_simp
  clear hS
  refine (mk_in _ B g A5 (rd :: nm :: ([Nm, Nd] ++ bl)) mk e5 HR6.out.rd.m ⟨sN, 65535, pl, 255⟩ (by rw [← HPW.out]; exact natO_ok ha16 hpl) P (by rw [HR6.out.ext.vars]; exact HV.out) (by rw [← HPW.out]; exact HP.out.m1)).mono ?_
  rintro en w7 hr
  obtain ⟨A7, e7, r7, rfl, hrf, hx, hF, hsm⟩ := HR6.out.call hr
  have HR7 := hide hrf
  have HXd7 := hide (HXd6.out.same (hsm Nd (by simp)))
  have HXm7 := hide (HXm6.out.same (hsm Nm (by simp)))
  have HFf7 := hide (fun h => (HFf6.out ((hF h).1)).ext HR6.out.rd.inv hx)
  have HFo7 := hide (fun h => (hF h).2)
  clear hr hrf hx hF hsm HR6 HXd6 HXm6 HFf6
  have hS := HQ.out _ HR7.out.rd.bx _ HR7.out.rd.m.bx HXd7.out HXm7.out HR7.out.was.m
  go_simp
  refine hK.out _ _ (fun _ => HQ.out _ HR7.out.rd.bx _ HR7.out.rd.m.bx HXd7.out HXm7.out HR7.out.was.m) ?_
  clear hK K hS inv
  intro inv
  try simp only [Act.put, nrmA, nrmB, nrmC]
  have hS := HQ.out _ HR7.out.rd.bx _ HR7.out.rd.m.bx HXd7.out HXm7.out HR7.out.was.m
  refine rO 13 inv fun K hK => ?_
  go_simp
  clear hS
  refine (mk_and _ B g A7 (rd :: nm :: ([Nm, Nd] ++ bl)) mk e7 HR7.out.rd.m r5 r7 (natF i Sw) (matchF ⟨sN, 65535, pl, 255⟩) P HFf7.out HFo7.out (by rw [← HPW.out]; exact HP.out.a1)).mono ?_
  rintro en w8 hr
  obtain ⟨A8, e8, r8, rfl, hrf, hx, hF, hsm⟩ := HR7.out.call hr
  have HR8 := hide hrf
  have HXd8 := hide (HXd7.out.same (hsm Nd (by simp)))
  have HXm8 := hide (HXm7.out.same (hsm Nm (by simp)))
  have HFfo8 := hide (fun h => (hF h).2)
  clear hr hrf hx hF hsm HR7 HXd7 HXm7 HFf7 HFo7
  have hS := HQ.out _ HR8.out.rd.bx _ HR8.out.rd.m.bx HXd8.out HXm8.out HR8.out.was.m
  go_simp
  refine hK.out _ _ (fun _ => HQ.out _ HR8.out.rd.bx _ HR8.out.rd.m.bx HXd8.out HXm8.out HR8.out.was.m) ?_
  clear hK K hS inv
  intro inv
  try simp only [Act.put, nrmA, nrmB, nrmC]
  have hS := HQ.out _ HR8.out.rd.bx _ HR8.out.rd.m.bx HXd8.out HXm8.out HR8.out.was.m
  refine rT 14 inv fun K hK => ?_
  go_simp
  clear hS
  refine (send_walk _ B g A8 ([Nm, Nd] ++ bl) mk e8 rd n (.map (some wm)) nm Mn _ HR8.out.rd (HLL.out _ HR8.out.kp.low) HLK.out P (i : Int) 1 r8 (andF (natF i Sw) (matchF ⟨sN, 65535, pl, 255⟩)) HFfo8.out (by rw [← HPW.out]; exact HP.out.s1)).mono ?_
  rintro en w9 ⟨rfl, hr⟩
  obtain ⟨A9, e9, Mn9, hrf, hx, hF, hsm⟩ := HR8.out.send hr
  have HR9 := hide hrf
  have HXd9 := hide (HXd8.out.same (hsm Nd (by simp)))
  have HXm9 := hide (HXm8.out.same (hsm Nm (by simp)))
  clear hr hrf hx hF hsm HR8 HXd8 HXm8 HFfo8
  go_simp
  refine hK.out _ _ ?_
  clear hK K inv
  intro inv
  try simp only [Act.put, nrmA, nrmB, nrmC]
  refine rD ?_
  clear inv
  go_wp2_with fail
  have r1 : w9.cell? ⟨rd, 1, none⟩ = some (.slice n.dA n.dn n.dc) := HR9.out.rd.bx.get 1 _ rfl
  have r2 : w9.cell? ⟨rd, 2, none⟩ = some (.slice n.lA n.ln n.lc) := HR9.out.rd.bx.get 2 _ rfl
  refine (open_walk w9 B rd n (Nat.le_of_lt HR9.out.rd.m.sa.hB) (HLL.out _ HR9.out.kp.low) HLK.out r1 r2 (i : Int) 1).mono ?_
  rintro en w10 ⟨rfl, hb⟩
  clear r1 r2
  have HR10 := hide (HR9.out.below hb)
  have HXd10 := hide (HXd9.out.below hb)
  have HXm10 := hide (HXm9.out.below hb)
  clear hb HR9 HXd9 HXm9
  obtain ⟨o1, ho1⟩ : ∃ o1, (peerF n.ls ((i : Int), 1)).isSome = o1 := ⟨_, rfl⟩
  rw [ho1]
  have HO := hide ho1
  clear ho1
  cases o1
  · have HFN := hide (show RDP w B g A bl mk e rd n (.map (some wm)) nm P (natS n.ls i ad pl Sw Sn) w10 from by
      unfold natS; rw [if_neg (by rw [HO.out]; simp), HPW.out]; exact HR10.out.out)
    go_wp2
    exact bodyPost_ret (results_none (by rfl) _ _ _) rfl ⟨rfl, HFN.out⟩
  have d2 : w10.cell? ⟨Nd, 2, none⟩ = some (.int .i64 (ad : Int)) := HXd10.out.get 2 _ rfl
  go_wp2_with fail
  clear d2
  refine (dst_walk ad w10 ha16).mono ?_
  rintro en w11 ⟨rfl, hb⟩
  have HR11 := hide (HR10.out.below hb)
  have HXd11 := hide (HXd10.out.below hb)
  have HXm11 := hide (HXm10.out.below hb)
  clear hb HR10 HXd10 HXm10
  have hval : (dstM ad).val = .agg #[.int .u16 65535, .int .u16 ((2 ^ ad : Nat) : Int), .int .u8 255, .int .u8 255] := rfl
  rw [hval, HPN.out]
  clear hval
  have d3 := fun o => ((HXd11.out.below (below_alloc2 w11 o)).get 3 _ rfl : (w11.alloc o).cell? ⟨Nd, 3, none⟩ = some (.int .u8 pl))
  go_wp2_with fail
  clear d3
  have HR12 := hide ((HR11.out.alloc (.cells #[.int .u16 65535, .int .u16 (sN : Int), .int .u8 255, .int .u8 (pl : Int)] 32)).less (more' := [w11.heap.size, Nd]) (fun j hj => by simp only [List.mem_cons] at hj ⊢; rcases hj with a | a | a <;> simp_all))
  have HXd12 := hide (HXd11.out.below (below_alloc2 w11 (.cells #[.int .u16 65535, .int .u16 (sN : Int), .int .u8 255, .int .u8 (pl : Int)] 32)))
  have HXm12 := hide (Bx.new w11 #[.int .u16 65535, .int .u16 (sN : Int), .int .u8 255, .int .u8 (pl : Int)] 32)
  clear HR11 HXd11 HXm11 HQ
  generalize World.alloc w11 _ = w12 at *
  generalize w11.heap.size = Nq at *
  have HQ := hide (fun (w' : World) (h1 : Bx w' rd #[.pointer (some ⟨mk, 0, none⟩), .slice n.dA n.dn n.dc, .slice n.lA n.ln n.lc, .map (some wm), .map (some nm)] 75) (e' : Nat) (h2 : Bx w' mk #[.pointer (some ⟨g, 0, none⟩), .int .i64 (e' : Int)] 72) (hbd : Bx w' Nd #[.string nm', .int .i64 4, .int .i64 (ad : Int), .int .u8 pl, .slice bA bn bc, .slice rA rn rc, .slice tA tn tc] 81) (hbm : Bx w' Nq #[.int .u16 65535, .int .u16 (sN : Int), .int .u8 255, .int .u8 (pl : Int)] 32) (h4 : MapP w' wm Mw) => show (w'.cell? ⟨rd, 0, none⟩ = some (.pointer (some ⟨mk, 0, none⟩)) ∧ w'.cell? ⟨mk, 0, none⟩ = some (.pointer (some ⟨g, 0, none⟩)) ∧ w'.cell? ⟨rd, 3, none⟩ = some (.map (some wm)) ∧ MapP w' wm Mw) ∧ w'.cell? ⟨Nd, 0, none⟩ = some (.string nm') ∧ w'.cell? ⟨Nd, 1, none⟩ = some (.int .i64 4) ∧ w'.cell? ⟨Nd, 2, none⟩ = some (.int .i64 (ad : Int)) ∧ w'.cell? ⟨Nd, 3, none⟩ = some (.int .u8 pl) ∧ w'.cell? ⟨Nd, 4, none⟩ = some (.slice bA bn bc) ∧ w'.cell? ⟨Nd, 5, none⟩ = some (.slice rA rn rc) ∧ w'.cell? ⟨Nd, 6, none⟩ = some (.slice tA tn tc) ∧ w'.cell? ⟨Nq, 0, none⟩ = some (.int .u16 65535) ∧ w'.cell? ⟨Nq, 1, none⟩ = some (.int .u16 (sN : Int)) ∧ w'.cell? ⟨Nq, 2, none⟩ = some (.int .u8 255) ∧ w'.cell? ⟨Nq, 3, none⟩ = some (.int .u8 (pl : Int)) from ⟨⟨h1.get 0 _ rfl, h2.get 0 _ rfl, h1.get 3 _ rfl, h4⟩, hbd.get 0 _ rfl, hbd.get 1 _ rfl, hbd.get 2 _ rfl, hbd.get 3 _ rfl, hbd.get 4 _ rfl, hbd.get 5 _ rfl, hbd.get 6 _ rfl, hbm.get 0 _ rfl, hbm.get 1 _ rfl, hbm.get 2 _ rfl, hbm.get 3 _ rfl⟩)
  have HR13 := hide (HR12.out.below (RowKit.Below.refl _ _).drew)
  have HXd13 := hide (HXd12.out.below (RowKit.Below.refl _ _).drew)
  have HXm13 := hide (HXm12.out.below (RowKit.Below.refl _ _).drew)
  clear HR12 HXd12 HXm12
  refine wp_region_E (fun w' => (w'.cell? ⟨rd, 0, none⟩ = some (.pointer (some ⟨mk, 0, none⟩)) ∧ w'.cell? ⟨mk, 0, none⟩ = some (.pointer (some ⟨g, 0, none⟩)) ∧ w'.cell? ⟨rd, 3, none⟩ = some (.map (some wm)) ∧ MapP w' wm Mw) ∧ w'.cell? ⟨Nd, 0, none⟩ = some (.string nm') ∧ w'.cell? ⟨Nd, 1, none⟩ = some (.int .i64 4) ∧ w'.cell? ⟨Nd, 2, none⟩ = some (.int .i64 (ad : Int)) ∧ w'.cell? ⟨Nd, 3, none⟩ = some (.int .u8 pl) ∧ w'.cell? ⟨Nd, 4, none⟩ = some (.slice bA bn bc) ∧ w'.cell? ⟨Nd, 5, none⟩ = some (.slice rA rn rc) ∧ w'.cell? ⟨Nd, 6, none⟩ = some (.slice tA tn tc) ∧ w'.cell? ⟨Nq, 0, none⟩ = some (.int .u16 65535) ∧ w'.cell? ⟨Nq, 1, none⟩ = some (.int .u16 (sN : Int)) ∧ w'.cell? ⟨Nq, 2, none⟩ = some (.int .u8 255) ∧ w'.cell? ⟨Nq, 3, none⟩ = some (.int .u8 (pl : Int))) 23 (by kernel_rfl) (HQ.out _ HR13.out.rd.bx _ HR13.out.rd.m.bx HXd13.out HXm13.out HR13.out.was.m) (fun hS => ?_)
  refine rP 0 hS ?_
  refine rP 1 hS ?_
  refine rP 2 hS ?_
  refine rL 3 [23] rfl hS (by intro w hSw; obtain ⟨⟨s0, s1, s3, s4⟩, c0, c1, c2, c3, c4, c5, c6, c7, c8, c9, c10⟩ := hSw; go_simp; try with_reducible rfl) ?_
  refine rP 4 hS ?_
  refine rP 5 hS ?_
  refine rP 6 hS ?_
  refine rL 7 [22, 23] rfl hS (by intro w hSw; obtain ⟨⟨s0, s1, s3, s4⟩, c0, c1, c2, c3, c4, c5, c6, c7, c8, c9, c10⟩ := hSw; go_simp; try with_reducible rfl) ?_
  refine rP 8 hS ?_
  refine rP 9 hS ?_
  refine rP 10 hS ?_
  refine rL 11 [21, 22, 23] rfl hS (by intro w hSw; obtain ⟨⟨s0, s1, s3, s4⟩, c0, c1, c2, c3, c4, c5, c6, c7, c8, c9, c10⟩ := hSw; go_simp; try with_reducible rfl) ?_
  refine rP 12 hS ?_
  refine rP 13 hS ?_
  refine rP 15 hS ?_
  refine rP 16 hS ?_
  refine rP 17 hS ?_
  refine rL 18 [20, 21, 22, 23] rfl hS (by intro w hSw; obtain ⟨⟨s0, s1, s3, s4⟩, c0, c1, c2, c3, c4, c5, c6, c7, c8, c9, c10⟩ := hSw; go_simp; try with_reducible rfl) ?_
  refine rL 19 [20, 21, 22, 23] rfl hS (by intro w hSw; obtain ⟨⟨s0, s1, s3, s4⟩, c0, c1, c2, c3, c4, c5, c6, c7, c8, c9, c10⟩ := hSw; go_simp; try with_reducible rfl) ?_
  intro inv
  refine wpAnyE_quiet (i := 14) (v := .int .i64 ((numAt Mw ((i : Int), 1) : Nat) : Int)) [21, 22, 23] rfl (by kernel_rfl) (by kernel_rfl) (by kernel_rfl) (by kernel_rfl) (fun _ _ _ h => h) inv ⟨by rfl, ?_⟩ hS (fun inv2 => ?_)
  · intro w hSw
    obtain ⟨⟨s0, s1, s3, s4⟩, c0, c1, c2, c3, c4, c5, c6, c7, c8, c9, c10⟩ := hSw; exact ⟨92, _, by go_simp, at_walk w rd wm Mw s4 HR13.out.was.ints s3 (i : Int) 1 (by simp only [i64ok]; omega) (by simp only [i64ok]; omega)⟩
  clear inv
  have inv := inv2
  clear inv2
  try simp only [Act.put, nrmA, nrmB, nrmC]
  refine rO 20 inv fun K hK => ?_
  go_simp
  clear hS
  refine (mk_in _ B g A9 (rd :: nm :: ([Nq, Nd] ++ bl)) mk e9 HR13.out.rd.m ⟨65535, sN, 255, pl⟩ (by rw [← HPI.out]; exact natI_ok ha16 hpl) P (by rw [HR13.out.ext.vars]; exact HV.out) (by rw [← HPI.out]; exact HP.out.m2)).mono ?_
  rintro en w14 hr
  obtain ⟨A14, e14, r14, rfl, hrf, hx, hF, hsm⟩ := HR13.out.call hr
  have HR14 := hide hrf
  have HXd14 := hide (HXd13.out.same (hsm Nd (by simp)))
  have HXm14 := hide (HXm13.out.same (hsm Nq (by simp)))
  have HFq14 := hide (fun h => (hF h).2)
  clear hr hrf hx hF hsm HR13 HXd13 HXm13
  have hS := HQ.out _ HR14.out.rd.bx _ HR14.out.rd.m.bx HXd14.out HXm14.out HR14.out.was.m
  go_simp
  refine hK.out _ _ (fun _ => HQ.out _ HR14.out.rd.bx _ HR14.out.rd.m.bx HXd14.out HXm14.out HR14.out.was.m) ?_
  clear hK K hS inv
  intro inv
  try simp only [Act.put, nrmA, nrmB, nrmC]
  have hS := HQ.out _ HR14.out.rd.bx _ HR14.out.rd.m.bx HXd14.out HXm14.out HR14.out.was.m
  refine rO 21 inv fun K hK => ?_
  go_simp
  clear hS
  refine (mk_and _ B g A14 (rd :: nm :: ([Nq, Nd] ++ bl)) mk e14 HR14.out.rd.m (numAt Mw ((i : Int), 1)) r14 (Sw ((i : Int), 1)) (matchF ⟨65535, sN, 255, pl⟩) P (fun h => HR14.out.was.sw h _) HFq14.out (by rw [← HPI.out]; exact HP.out.b1)).mono ?_
  rintro en w15 hr
  obtain ⟨A15, e15, r15, rfl, hrf, hx, hF, hsm⟩ := HR14.out.call hr
  have HR15 := hide hrf
  have HXd15 := hide (HXd14.out.same (hsm Nd (by simp)))
  have HXm15 := hide (HXm14.out.same (hsm Nq (by simp)))
  have HFx15 := hide (fun h => (hF h).2)
  clear hr hrf hx hF hsm HR14 HXd14 HXm14 HFq14
  have hS := HQ.out _ HR15.out.rd.bx _ HR15.out.rd.m.bx HXd15.out HXm15.out HR15.out.was.m
  go_simp
  refine hK.out _ _ (fun _ => HQ.out _ HR15.out.rd.bx _ HR15.out.rd.m.bx HXd15.out HXm15.out HR15.out.was.m) ?_
  clear hK K hS inv
  intro inv
  try simp only [Act.put, nrmA, nrmB, nrmC]
  have hS := HQ.out _ HR15.out.rd.bx _ HR15.out.rd.m.bx HXd15.out HXm15.out HR15.out.was.m
  refine rO 22 inv fun K hK => ?_
  go_simp
  clear hS
  refine (CallsI (mk_any _ B g A15 (rd :: nm :: ([Nq, Nd] ++ bl)) mk e15 HR15.out.rd.m r15 (andF (Sw ((i : Int), 1)) (matchF ⟨65535, sN, 255, pl⟩)) P 4 4 8 rfl (by rw [HR15.out.ext.vars, HV.out]; omega) (by rw [HR15.out.ext.vars, HV.out]; omega) HFx15.out (by rw [← HPI.out]; exact HP.out.b2)) rfl).mono ?_
  rintro en w16 hr
  obtain ⟨A16, e16, r16, rfl, hrf, hx, hF, hsm⟩ := HR15.out.call hr
  have HR16 := hide hrf
  have HXd16 := hide (HXd15.out.same (hsm Nd (by simp)))
  have HXm16 := hide (HXm15.out.same (hsm Nq (by simp)))
  have HFy16 := hide (fun h => (hF h).2)
  clear hr hrf hx hF hsm HR15 HXd15 HXm15 HFx15
  have hS := HQ.out _ HR16.out.rd.bx _ HR16.out.rd.m.bx HXd16.out HXm16.out HR16.out.was.m
  go_simp
  refine hK.out _ _ (fun _ => HQ.out _ HR16.out.rd.bx _ HR16.out.rd.m.bx HXd16.out HXm16.out HR16.out.was.m) ?_
  clear hK K hS inv
  intro inv
  try simp only [Act.put, nrmA, nrmB, nrmC]
  have hS := HQ.out _ HR16.out.rd.bx _ HR16.out.rd.m.bx HXd16.out HXm16.out HR16.out.was.m
  refine rT 23 inv fun K hK => ?_
  go_simp
  clear hS
  refine (CallsI (mk_any _ B g A16 (rd :: nm :: ([Nq, Nd] ++ bl)) mk e16 HR16.out.rd.m r16 (anyF (andF (Sw ((i : Int), 1)) (matchF ⟨65535, sN, 255, pl⟩)) 4 4) P 11 3 14 rfl (by rw [HR16.out.ext.vars, HV.out]; omega) (by rw [HR16.out.ext.vars, HV.out]; omega) HFy16.out (by rw [← HPI.out]; exact HP.out.b3)) rfl).mono ?_
  rintro en w17 hr
  obtain ⟨A17, e17, r17, rfl, hrf, hx, hF, hsm⟩ := HR16.out.call hr
  have HR17 := hide hrf
  have HXd17 := hide (HXd16.out.same (hsm Nd (by simp)))
  have HXm17 := hide (HXm16.out.same (hsm Nq (by simp)))
  have HFb17 := hide (fun h => (hF h).2)
  clear hr hrf hx hF hsm HR16 HXd16 HXm16 HFy16
  go_simp
  refine hK.out _ _ ?_
  clear hK K inv
  intro inv
  try simp only [Act.put, nrmA, nrmB, nrmC]
  refine rT 24 inv fun K hK => ?_
  go_simp
  refine hK.out _ _ ?_
  clear hK K inv
  intro inv
  try simp only [Act.put, nrmA, nrmB, nrmC]
  refine rD ?_
  clear inv
  go_wp2_with fail
  have HR18 := hide (HR17.out.below (RowKit.Below.refl _ _).drew)
  have HXd18 := hide (HXd17.out.below (RowKit.Below.refl _ _).drew)
  have HXm18 := hide (HXm17.out.below (RowKit.Below.refl _ _).drew)
  have HFb18 := HFb17
  clear HR17 HXd17 HXm17 HFb17
  refine wp_region_E (fun w' => (w'.cell? ⟨rd, 0, none⟩ = some (.pointer (some ⟨mk, 0, none⟩)) ∧ w'.cell? ⟨mk, 0, none⟩ = some (.pointer (some ⟨g, 0, none⟩)) ∧ w'.cell? ⟨rd, 3, none⟩ = some (.map (some wm)) ∧ MapP w' wm Mw) ∧ w'.cell? ⟨Nd, 0, none⟩ = some (.string nm') ∧ w'.cell? ⟨Nd, 1, none⟩ = some (.int .i64 4) ∧ w'.cell? ⟨Nd, 2, none⟩ = some (.int .i64 (ad : Int)) ∧ w'.cell? ⟨Nd, 3, none⟩ = some (.int .u8 pl) ∧ w'.cell? ⟨Nd, 4, none⟩ = some (.slice bA bn bc) ∧ w'.cell? ⟨Nd, 5, none⟩ = some (.slice rA rn rc) ∧ w'.cell? ⟨Nd, 6, none⟩ = some (.slice tA tn tc) ∧ w'.cell? ⟨Nq, 0, none⟩ = some (.int .u16 65535) ∧ w'.cell? ⟨Nq, 1, none⟩ = some (.int .u16 (sN : Int)) ∧ w'.cell? ⟨Nq, 2, none⟩ = some (.int .u8 255) ∧ w'.cell? ⟨Nq, 3, none⟩ = some (.int .u8 (pl : Int))) 17 (by kernel_rfl) (HQ.out _ HR18.out.rd.bx _ HR18.out.rd.m.bx HXd18.out HXm18.out HR18.out.was.m) (fun hS => ?_)
  refine rP 0 hS ?_
  refine rP 1 hS ?_
  refine rP 2 hS ?_
  refine rL 3 [17] rfl hS (by intro w hSw; obtain ⟨⟨s0, s1, s3, s4⟩, c0, c1, c2, c3, c4, c5, c6, c7, c8, c9, c10⟩ := hSw; go_simp; try with_reducible rfl) ?_
  refine rP 4 hS ?_
  refine rP 5 hS ?_
  refine rP 6 hS ?_
  refine rL 7 [16, 17] rfl hS (by intro w hSw; obtain ⟨⟨s0, s1, s3, s4⟩, c0, c1, c2, c3, c4, c5, c6, c7, c8, c9, c10⟩ := hSw; go_simp; try with_reducible rfl) ?_
  refine rP 8 hS ?_
  refine rP 9 hS ?_
  refine rP 10 hS ?_
  refine rL 11 [15, 16, 17] rfl hS (by intro w hSw; obtain ⟨⟨s0, s1, s3, s4⟩, c0, c1, c2, c3, c4, c5, c6, c7, c8, c9, c10⟩ := hSw; go_simp; try with_reducible rfl) ?_
  refine rP 12 hS ?_
  refine rP 13 hS ?_
  intro inv
  refine wpAnyE_quiet (i := 14) (v := .int .i64 ((numAt Mw ((i : Int), 0) : Nat) : Int)) [15, 16, 17] rfl (by kernel_rfl) (by kernel_rfl) (by kernel_rfl) (by kernel_rfl) (fun _ _ _ h => h) inv ⟨by rfl, ?_⟩ hS (fun inv2 => ?_)
  · intro w hSw
    obtain ⟨⟨s0, s1, s3, s4⟩, c0, c1, c2, c3, c4, c5, c6, c7, c8, c9, c10⟩ := hSw; exact ⟨92, _, by go_simp, at_walk w rd wm Mw s4 HR18.out.was.ints s3 (i : Int) 0 (by simp only [i64ok]; omega) (by simp only [i64ok]; omega)⟩
  clear inv
  have inv := inv2
  clear inv2
  try simp only [Act.put, nrmA, nrmB, nrmC]
  refine rO 15 inv fun K hK => ?_
  go_simp
  clear hS
  refine (CallsI (mk_any _ B g A17 (rd :: nm :: ([Nq, Nd] ++ bl)) mk e17 HR18.out.rd.m (numAt Mw ((i : Int), 0)) (Sw ((i : Int), 0)) P 4 4 8 rfl (by rw [HR18.out.ext.vars, HV.out]; omega) (by rw [HR18.out.ext.vars, HV.out]; omega) (fun h => HR18.out.was.sw h _) HP.out.o1) rfl).mono ?_
  rintro en w19 hr
  obtain ⟨A19, e19, r19, rfl, hrf, hx, hF, hsm⟩ := HR18.out.call hr
  have HR19 := hide hrf
  have HXd19 := hide (HXd18.out.same (hsm Nd (by simp)))
  have HXm19 := hide (HXm18.out.same (hsm Nq (by simp)))
  have HFb19 := hide (fun h => (HFb18.out ((hF h).1)).ext HR18.out.rd.inv hx)
  have HFu19 := hide (fun h => (hF h).2)
  clear hr hrf hx hF hsm HR18 HXd18 HXm18 HFb18
  have hS := HQ.out _ HR19.out.rd.bx _ HR19.out.rd.m.bx HXd19.out HXm19.out HR19.out.was.m
  go_simp
  refine hK.out _ _ (fun _ => HQ.out _ HR19.out.rd.bx _ HR19.out.rd.m.bx HXd19.out HXm19.out HR19.out.was.m) ?_
  clear hK K hS inv
  intro inv
  try simp only [Act.put, nrmA, nrmB, nrmC]
  have hS := HQ.out _ HR19.out.rd.bx _ HR19.out.rd.m.bx HXd19.out HXm19.out HR19.out.was.m
  refine rO 16 inv fun K hK => ?_
  go_simp
  clear hS
  refine (CallsI (mk_any _ B g A19 (rd :: nm :: ([Nq, Nd] ++ bl)) mk e19 HR19.out.rd.m r19 (anyF (Sw ((i : Int), 0)) 4 4) P 11 3 14 rfl (by rw [HR19.out.ext.vars, HV.out]; omega) (by rw [HR19.out.ext.vars, HV.out]; omega) HFu19.out HP.out.o2) rfl).mono ?_
  rintro en w20 hr
  obtain ⟨A20, e20, r20, rfl, hrf, hx, hF, hsm⟩ := HR19.out.call hr
  have HR20 := hide hrf
  have HXd20 := hide (HXd19.out.same (hsm Nd (by simp)))
  have HXm20 := hide (HXm19.out.same (hsm Nq (by simp)))
  have HFb20 := hide (fun h => (HFb19.out ((hF h).1)).ext HR19.out.rd.inv hx)
  have HFv20 := hide (fun h => (hF h).2)
  clear hr hrf hx hF hsm HR19 HXd19 HXm19 HFb19 HFu19
  have hS := HQ.out _ HR20.out.rd.bx _ HR20.out.rd.m.bx HXd20.out HXm20.out HR20.out.was.m
  go_simp
  refine hK.out _ _ (fun _ => HQ.out _ HR20.out.rd.bx _ HR20.out.rd.m.bx HXd20.out HXm20.out HR20.out.was.m) ?_
  clear hK K hS inv
  intro inv
  try simp only [Act.put, nrmA, nrmB, nrmC]
  have hS := HQ.out _ HR20.out.rd.bx _ HR20.out.rd.m.bx HXd20.out HXm20.out HR20.out.was.m
  refine rT 17 inv fun K hK => ?_
  go_simp
  clear hS
  refine (mk_flip _ B g A20 (rd :: nm :: ([Nq, Nd] ++ bl)) mk e20 HR20.out.rd.m r20 (anyF (anyF (Sw ((i : Int), 0)) 4 4) 11 3) P (by rw [HR20.out.ext.vars]; exact HV.out) HFv20.out HP.out.o3).mono ?_
  rintro en w21 hr
  obtain ⟨A21, e21, r21, rfl, hrf, hx, hF, hsm⟩ := HR20.out.call hr
  have HR21 := hide hrf
  have HXd21 := hide (HXd20.out.same (hsm Nd (by simp)))
  have HXm21 := hide (HXm20.out.same (hsm Nq (by simp)))
  have HFb21 := hide (fun h => (HFb20.out ((hF h).1)).ext HR20.out.rd.inv hx)
  have HFo21 := hide (fun h => (hF h).2)
  clear hr hrf hx hF hsm HR20 HXd20 HXm20 HFb20 HFv20
  go_simp
  refine hK.out _ _ ?_
  clear hK K inv
  intro inv
  try simp only [Act.put, nrmA, nrmB, nrmC]
  refine rT 18 inv fun K hK => ?_
  go_simp
  refine hK.out _ _ ?_
  clear hK K inv
  intro inv
  try simp only [Act.put, nrmA, nrmB, nrmC]
  refine rD ?_
  clear inv
  have m0 : w21.cell? ⟨rd, 0, none⟩ = some (.pointer (some ⟨mk, 0, none⟩)) := HR21.out.rd.bx.get 0 _ rfl
  go_wp2_with fail
  clear m0
  refine (mk_and _ B g A21 (rd :: nm :: ([Nq, Nd] ++ bl)) mk e21 HR21.out.rd.m r17 r21 (anyF (anyF (andF (Sw ((i : Int), 1)) (matchF ⟨65535, sN, 255, pl⟩)) 4 4) 11 3) (flipF (anyF (anyF (Sw ((i : Int), 0)) 4 4) 11 3)) P HFb21.out HFo21.out (by rw [← HPI.out]; exact HP.out.a2)).mono ?_
  rintro en w22 hr
  obtain ⟨A22, e22, r22, rfl, hrf, hx, hF, hsm⟩ := HR21.out.call hr
  have HR22 := hide hrf
  have HXd22 := hide (HXd21.out.same (hsm Nd (by simp)))
  have HXm22 := hide (HXm21.out.same (hsm Nq (by simp)))
  have HFz22 := hide (fun h => (hF h).2)
  clear hr hrf hx hF hsm HR21 HXd21 HXm21 HFb21 HFo21
  go_wp2_with fail
  refine (send_walk _ B g A22 ([Nq, Nd] ++ bl) mk e22 rd n (.map (some wm)) nm Mn9 _ HR22.out.rd (HLL.out _ HR22.out.kp.low) HLK.out P (i : Int) 0 r22 (andF (anyF (anyF (andF (Sw ((i : Int), 1)) (matchF ⟨65535, sN, 255, pl⟩)) 4 4) 11 3) (flipF (anyF (anyF (Sw ((i : Int), 0)) 4 4) 11 3))) HFz22.out (by rw [← HPI.out, ← HPW.out]; exact HP.out.s2)).mono ?_
  rintro en w23 ⟨rfl, hr⟩
  obtain ⟨A23, e23, Mn23, hrf, hx, hF, hsm⟩ := HR22.out.send hr
  have HFN := hide (show RDP w B g A bl mk e rd n (.map (some wm)) nm P (natS n.ls i ad pl Sw Sn) w23 from by
    unfold natS; rw [if_pos (by rw [HO.out])]
    have hq := hrf.out
    rw [← HPI.out, ← HPW.out] at hq
    exact hq)
  clear hr hrf hx hF hsm HR22 HXd22 HXm22 HFz22
  go_wp2
  go_end0
  exact ⟨rfl, HFN.out⟩
end Go.Proofs.YtifkacnoiocebaaGreat
