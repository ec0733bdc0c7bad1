/- A part of the proof: Rd5. -/
import Derived.Test.YtifkacnoiocebaaGreatRs15
set_option linter.unusedVariables false
set_option linter.unusedSimpArgs false
set_option maxRecDepth 100000
set_option maxHeartbeats 8000000
namespace Go.Proofs.YtifkacnoiocebaaGreat
open Bdd Go.Maps Go.RowKit
def balQ (i a : Nat) (Sw : Pl → Bdd.Fn) : Bdd.Fn := andF (Sw ((i : Int), 0)) (matchF (dstM a))
def bal0 (ls : List LinkV) (i a : Nat) (Sw Sn : Pl → Bdd.Fn) : Pl → Bdd.Fn := sendS ls ((i : Int), 0) (Sw ((i : Int), 1)) (sendS ls ((i : Int), 1) (andF (Sw ((i : Int), 0)) (notF (matchF (dstM a)))) Sn)
def balX (i a b : Nat) (Sw : Pl → Bdd.Fn) : Bdd.Fn := andF (Sw ((i : Int), 1)) (flipF (toF (balQ i a Sw) b))
def balStep (ls : List LinkV) (i a : Nat) (Sw : Pl → Bdd.Fn) (b : Nat) (Sn : Pl → Bdd.Fn) : Pl → Bdd.Fn :=
  if (peerF ls ((i : Int), 1)).isSome then sendS ls ((i : Int), 0) (fromF (balX i a b Sw) a) (sendS ls ((i : Int), 1) (toF (balQ i a Sw) b) Sn)
  else sendS ls ((i : Int), 1) (toF (balQ i a Sw) b) Sn
def balTo (ls : List LinkV) (i a : Nat) (bs : List Int) (Sw Sn : Pl → Bdd.Fn) (k : Nat) : Pl → Bdd.Fn := (bs.take k).foldl (fun S b => balStep ls i a Sw b.toNat S) (bal0 ls i a Sw Sn)
def balS (ls : List LinkV) (i a : Nat) (bs : List Int) (Sw Sn : Pl → Bdd.Fn) : Pl → Bdd.Fn := balTo ls i a bs Sw Sn bs.length
theorem balTo_succ {ls : List LinkV} {i a : Nat} {bs : List Int} {Sw Sn : Pl → Bdd.Fn} {k : Nat} {b : Int} (h : bs[k]? = some b) : balTo ls i a bs Sw Sn (k + 1) = balStep ls i a Sw b.toNat (balTo ls i a bs Sw Sn k) := by
  obtain ⟨hk, e⟩ := List.getElem?_eq_some_iff.1 h
  unfold balTo
  rw [List.take_succ_eq_append_getElem hk, e, List.foldl_append]
  rfl
structure BalPC (P : Bdd.Fn → Prop) (ls : List LinkV) (i a : Nat) (bs : List Int) (Sw Sn : Pl → Bdd.Fn) : Prop where
  m : MatchPC P (dstM a)
  q : PC P (balQ i a Sw)
  nn : PC P (notF (matchF (dstM a)))
  n1 : PC P (andF (Sw ((i : Int), 0)) (notF (matchF (dstM a))))
  s1 : SendPC P ls ((i : Int), 1) (andF (Sw ((i : Int), 0)) (notF (matchF (dstM a)))) Sn
  s2 : SendPC P ls ((i : Int), 0) (Sw ((i : Int), 1)) (sendS ls ((i : Int), 1) (andF (Sw ((i : Int), 0)) (notF (matchF (dstM a)))) Sn)
  t : ∀ (k : Nat) (b : Int), bs[k]? = some b → ToPC P (balQ i a Sw) b.toNat
  t1 : ∀ (k : Nat) (b : Int), bs[k]? = some b → SendPC P ls ((i : Int), 1) (toF (balQ i a Sw) b.toNat) (balTo ls i a bs Sw Sn k)
  fl : ∀ (k : Nat) (b : Int), bs[k]? = some b → FlipPC P (toF (balQ i a Sw) b.toNat)
  x : ∀ (k : Nat) (b : Int), bs[k]? = some b → PC P (balX i a b.toNat Sw)
  f : ∀ (k : Nat) (b : Int), bs[k]? = some b → FromPC P (balX i a b.toNat Sw) a
  s3 : ∀ (k : Nat) (b : Int), bs[k]? = some b → SendPC P ls ((i : Int), 0) (fromF (balX i a b.toNat Sw) a) (sendS ls ((i : Int), 1) (toF (balQ i a Sw) b.toNat) (balTo ls i a bs Sw Sn k))
theorem balancer_walk (w : World) (B g : Nat) (A : St) (bl : List Nat) (mk e rd : Nat) (n : NetV) (wm nm : Nat) (Mw Mn : PoK → Option Value) (Sw Sn : Pl → Bdd.Fn) (h : RD w B g A bl mk e rd n (.map (some wm)) nm Mn Sn) (hw : WasOk w A e bl wm Mw Sw) (hv : A.vars = 14) (hl : SlAt LinkV.cells 4 w B n.lA n.ln n.ls) (hlk : LinksOk n.ls)
    (P : Bdd.Fn → Prop) (i : Nat) (hi : i ≤ 1000) (r : DevV) (ad : Nat) (hk : r.kind = 5) (had : r.addr = (ad : Int)) (ha16 : ad < 16) (hbs : IntsAt w B r.bA r.bn r.bs) (hb16 : ∀ b ∈ r.bs, 0 ≤ b ∧ b < 16) (hb3 : r.bs.length ≤ 3) (hP : BalPC P n.ls i ad r.bs Sw Sn) :
    Calls Tryz.prog 61 #[.pointer (some ⟨rd, 0, none⟩), .int .i64 (i : Int), r.val] w fun en w' => en = .returned (.tuple #[]) ∧ RDP w B g A bl mk e rd n (.map (some wm)) nm P (balS n.ls i ad r.bs Sw Sn) w' := by
  obtain ⟨nm', kd, ad', pl, bA, bn, bc, bs, rA, rn, rc, rs, tA, tn, tc, ts⟩ := r
  simp only at hk had hbs hb16 hb3 hP
  subst hk
  subst had
  have HR0 := hide ((RF.start h hw P).alloc (.cells #[.string nm', .int .i64 5, .int .i64 (ad : Int), .int .u8 pl, .slice bA bn bc, .slice rA rn rc, .slice tA tn tc] 81))
  have HXd0 := hide (Bx.new w #[.string nm', .int .i64 5, .int .i64 (ad : Int), .int .u8 pl, .slice bA bn bc, .slice rA rn rc, .slice tA tn tc] 81)
  have HLL := hide (fun (w' : World) (hb : RowKit.Below B w w') => hl.below hb (Nat.le_refl _))
  have HBS := hide (fun (w' : World) (hb : RowKit.Below B w w') => hbs.below hb (Nat.le_refl _))
  have HB16 := hide hb16
  have hbl : bs.length = bn := hbs.1
  have HLK := hide hlk
  have HP := hide hP
  have HV := hide hv
  clear h hw hl hlk hP hv hbs hb16
  simp only [DevV.val] at *
  go_enter Tryz.func61, Tryz.ntmps61
  go_wp2_with fail
  generalize World.alloc w _ = w0 at *
  generalize w.heap.size = Nd at *
  have HQ := hide (fun (w' : World) (h1 : Bx w' rd #[.pointer (some ⟨mk, 0, none⟩), .slice n.dA n.dn n.dc, .slice n.lA n.ln n.lc, .map (some wm), .map (some nm)] 75) (e' : Nat) (h2 : Bx w' mk #[.pointer (some ⟨g, 0, none⟩), .int .i64 (e' : Int)] 72) (hbd : Bx w' Nd #[.string nm', .int .i64 5, .int .i64 (ad : Int), .int .u8 pl, .slice bA bn bc, .slice rA rn rc, .slice tA tn tc] 81) (h4 : MapP w' wm Mw) => show (w'.cell? ⟨rd, 0, none⟩ = some (.pointer (some ⟨mk, 0, none⟩)) ∧ w'.cell? ⟨mk, 0, none⟩ = some (.pointer (some ⟨g, 0, none⟩)) ∧ w'.cell? ⟨rd, 3, none⟩ = some (.map (some wm)) ∧ MapP w' wm Mw) ∧ w'.cell? ⟨Nd, 0, none⟩ = some (.string nm') ∧ w'.cell? ⟨Nd, 1, none⟩ = some (.int .i64 5) ∧ w'.cell? ⟨Nd, 2, none⟩ = some (.int .i64 (ad : Int)) ∧ w'.cell? ⟨Nd, 3, none⟩ = some (.int .u8 pl) ∧ w'.cell? ⟨Nd, 4, none⟩ = some (.slice bA bn bc) ∧ w'.cell? ⟨Nd, 5, none⟩ = some (.slice rA rn rc) ∧ w'.cell? ⟨Nd, 6, none⟩ = some (.slice tA tn tc) from ⟨⟨h1.get 0 _ rfl, h2.get 0 _ rfl, h1.get 3 _ rfl, h4⟩, hbd.get 0 _ rfl, hbd.get 1 _ rfl, hbd.get 2 _ rfl, hbd.get 3 _ rfl, hbd.get 4 _ rfl, hbd.get 5 _ rfl, hbd.get 6 _ rfl⟩)
  have HR1 := hide (HR0.out.below (RowKit.Below.refl _ _).drew)
  have HXd1 := hide (HXd0.out.below (RowKit.Below.refl _ _).drew)
  clear HR0 HXd0
  refine wp_region_E (fun w' => (w'.cell? ⟨rd, 0, none⟩ = some (.pointer (some ⟨mk, 0, none⟩)) ∧ w'.cell? ⟨mk, 0, none⟩ = some (.pointer (some ⟨g, 0, none⟩)) ∧ w'.cell? ⟨rd, 3, none⟩ = some (.map (some wm)) ∧ MapP w' wm Mw) ∧ w'.cell? ⟨Nd, 0, none⟩ = some (.string nm') ∧ w'.cell? ⟨Nd, 1, none⟩ = some (.int .i64 5) ∧ w'.cell? ⟨Nd, 2, none⟩ = some (.int .i64 (ad : Int)) ∧ w'.cell? ⟨Nd, 3, none⟩ = some (.int .u8 pl) ∧ w'.cell? ⟨Nd, 4, none⟩ = some (.slice bA bn bc) ∧ w'.cell? ⟨Nd, 5, none⟩ = some (.slice rA rn rc) ∧ w'.cell? ⟨Nd, 6, none⟩ = some (.slice tA tn tc)) 7 (by kernel_rfl) (HQ.out _ HR1.out.rd.bx _ HR1.out.rd.m.bx HXd1.out HR1.out.was.m) (fun hS => ?_)
  refine rP 0 hS ?_
  refine rP 1 hS ?_
  refine rP 2 hS ?_
  refine rL 3 [7] rfl hS (by intro w hSw; obtain ⟨⟨s0, s1, s3, s4⟩, c0, c1, c2, c3, c4, c5, c6⟩ := hSw; go_simp; try with_reducible rfl) ?_
  refine rP 4 hS ?_
  refine rL 5 [6, 7] rfl hS (by intro w hSw; obtain ⟨⟨s0, s1, s3, s4⟩, c0, c1, c2, c3, c4, c5, c6⟩ := hSw; go_simp; try with_reducible rfl) ?_
  intro inv
  refine rO 6 inv fun K hK => ?_
  go_simp
  clear hS
  refine (dst_walk ad _ ha16).mono ?_
  rintro en w2 ⟨rfl, hb⟩
  have HR2 := hide (HR1.out.below hb)
  have HXd2 := hide (HXd1.out.below hb)
  clear hb HR1 HXd1
  have hS := HQ.out _ HR2.out.rd.bx _ HR2.out.rd.m.bx HXd2.out HR2.out.was.m
  go_simp
  refine hK.out _ _ (fun _ => HQ.out _ HR2.out.rd.bx _ HR2.out.rd.m.bx HXd2.out HR2.out.was.m) ?_
  clear hK K hS inv
  intro inv
  try simp only [Act.put, nrmA, nrmB, nrmC]
  have hS := HQ.out _ HR2.out.rd.bx _ HR2.out.rd.m.bx HXd2.out HR2.out.was.m
  refine rT 7 inv fun K hK => ?_
  go_simp
  clear hS
  refine (mk_in _ B g A (rd :: nm :: ([Nd] ++ bl)) mk e HR2.out.rd.m (dstM ad) (dstM_ok ha16) P (by rw [HR2.out.ext.vars]; exact HV.out) HP.out.m).mono ?_
  rintro en w3 hr
  obtain ⟨A3, e3, r3, rfl, hrf, hx, hF, hsm⟩ := HR2.out.call hr
  have HR3 := hide hrf
  have HXd3 := hide (HXd2.out.same (hsm Nd (by simp)))
  have HFm3 := hide (fun h => (hF h).2)
  clear hr hrf hx hF hsm HR2 HXd2
  go_simp
  refine hK.out _ _ ?_
  clear hK K inv
  intro inv
  try simp only [Act.put, nrmA, nrmB, nrmC]
  refine rT 8 inv fun K hK => ?_
  go_simp
  refine hK.out _ _ ?_
  clear hK K inv
  intro inv
  try simp only [Act.put, nrmA, nrmB, nrmC]
  refine rD ?_
  clear inv
  go_wp2_with fail
  have HR4 := hide (HR3.out.below (RowKit.Below.refl _ _).drew)
  have HXd4 := hide (HXd3.out.below (RowKit.Below.refl _ _).drew)
  have HFm4 := HFm3
  clear HR3 HXd3 HFm3
  refine wp_region_E (fun w' => (w'.cell? ⟨rd, 0, none⟩ = some (.pointer (some ⟨mk, 0, none⟩)) ∧ w'.cell? ⟨mk, 0, none⟩ = some (.pointer (some ⟨g, 0, none⟩)) ∧ w'.cell? ⟨rd, 3, none⟩ = some (.map (some wm)) ∧ MapP w' wm Mw) ∧ w'.cell? ⟨Nd, 0, none⟩ = some (.string nm') ∧ w'.cell? ⟨Nd, 1, none⟩ = some (.int .i64 5) ∧ w'.cell? ⟨Nd, 2, none⟩ = some (.int .i64 (ad : Int)) ∧ w'.cell? ⟨Nd, 3, none⟩ = some (.int .u8 pl) ∧ w'.cell? ⟨Nd, 4, none⟩ = some (.slice bA bn bc) ∧ w'.cell? ⟨Nd, 5, none⟩ = some (.slice rA rn rc) ∧ w'.cell? ⟨Nd, 6, none⟩ = some (.slice tA tn tc)) 8 (by kernel_rfl) (HQ.out _ HR4.out.rd.bx _ HR4.out.rd.m.bx HXd4.out HR4.out.was.m) (fun hS => ?_)
  refine rP 0 hS ?_
  refine rP 1 hS ?_
  refine rP 2 hS ?_
  refine rL 3 [8] rfl hS (by intro w hSw; obtain ⟨⟨s0, s1, s3, s4⟩, c0, c1, c2, c3, c4, c5, c6⟩ := hSw; go_simp; try with_reducible rfl) ?_
  refine rP 4 hS ?_
  refine rP 5 hS ?_
  refine rP 7 hS ?_
  intro inv
  refine wpAnyE_quiet (i := 6) (v := .int .i64 ((numAt Mw ((i : Int), 0) : Nat) : Int)) [8] rfl (by kernel_rfl) (by kernel_rfl) (by kernel_rfl) (by kernel_rfl) (fun _ _ _ h => h) inv ⟨by rfl, ?_⟩ hS (fun inv2 => ?_)
  · intro w hSw
    obtain ⟨⟨s0, s1, s3, s4⟩, c0, c1, c2, c3, c4, c5, c6⟩ := hSw; exact ⟨92, _, by go_simp, at_walk w rd wm Mw s4 HR4.out.was.ints s3 (i : Int) 0 (by simp only [i64ok]; omega) (by simp only [i64ok]; omega)⟩
  clear inv
  have inv := inv2
  clear inv2
  try simp only [Act.put, nrmA, nrmB, nrmC]
  refine rT 8 inv fun K hK => ?_
  go_simp
  clear hS
  refine (mk_and _ B g A3 (rd :: nm :: ([Nd] ++ bl)) mk e3 HR4.out.rd.m (numAt Mw ((i : Int), 0)) r3 (Sw ((i : Int), 0)) (matchF (dstM ad)) P (fun h => HR4.out.was.sw h _) HFm4.out HP.out.q).mono ?_
  rintro en w5 hr
  obtain ⟨A5, e5, r5, rfl, hrf, hx, hF, hsm⟩ := HR4.out.call hr
  have HR5 := hide hrf
  have HXd5 := hide (HXd4.out.same (hsm Nd (by simp)))
  have HFm5 := hide (fun h => (HFm4.out ((hF h).1)).ext HR4.out.rd.inv hx)
  have HFq5 := hide (fun h => (hF h).2)
  clear hr hrf hx hF hsm HR4 HXd4 HFm4
  go_simp
  refine hK.out _ _ ?_
  clear hK K inv
  intro inv
  try simp only [Act.put, nrmA, nrmB, nrmC]
  refine rT 9 inv fun K hK => ?_
  go_simp
  refine hK.out _ _ ?_
  clear hK K inv
  intro inv
  try simp only [Act.put, nrmA, nrmB, nrmC]
  refine rD ?_
  clear inv
  go_wp2_with fail
  have HR6 := hide (HR5.out.below (RowKit.Below.refl _ _).drew)
  have HXd6 := hide (HXd5.out.below (RowKit.Below.refl _ _).drew)
  have HFm6 := HFm5
  have HFq6 := HFq5
  clear HR5 HXd5 HFm5 HFq5
  refine wp_region_E (fun w' => (w'.cell? ⟨rd, 0, none⟩ = some (.pointer (some ⟨mk, 0, none⟩)) ∧ w'.cell? ⟨mk, 0, none⟩ = some (.pointer (some ⟨g, 0, none⟩)) ∧ w'.cell? ⟨rd, 3, none⟩ = some (.map (some wm)) ∧ MapP w' wm Mw) ∧ w'.cell? ⟨Nd, 0, none⟩ = some (.string nm') ∧ w'.cell? ⟨Nd, 1, none⟩ = some (.int .i64 5) ∧ w'.cell? ⟨Nd, 2, none⟩ = some (.int .i64 (ad : Int)) ∧ w'.cell? ⟨Nd, 3, none⟩ = some (.int .u8 pl) ∧ w'.cell? ⟨Nd, 4, none⟩ = some (.slice bA bn bc) ∧ w'.cell? ⟨Nd, 5, none⟩ = some (.slice rA rn rc) ∧ w'.cell? ⟨Nd, 6, none⟩ = some (.slice tA tn tc)) 16 (by kernel_rfl) (HQ.out _ HR6.out.rd.bx _ HR6.out.rd.m.bx HXd6.out HR6.out.was.m) (fun hS => ?_)
  refine rP 0 hS ?_
  refine rP 1 hS ?_
  refine rP 2 hS ?_
  refine rP 3 hS ?_
  refine rP 4 hS ?_
  refine rL 5 [15, 16] rfl hS (by intro w hSw; obtain ⟨⟨s0, s1, s3, s4⟩, c0, c1, c2, c3, c4, c5, c6⟩ := hSw; go_simp; try with_reducible rfl) ?_
  refine rP 6 hS ?_
  refine rP 7 hS ?_
  refine rP 9 hS ?_
  refine rP 10 hS ?_
  refine rP 11 hS ?_
  refine rL 12 [14, 15, 16] rfl hS (by intro w hSw; obtain ⟨⟨s0, s1, s3, s4⟩, c0, c1, c2, c3, c4, c5, c6⟩ := hSw; go_simp; try with_reducible rfl) ?_
  refine rP 13 hS ?_
  intro inv
  refine wpAnyE_quiet (i := 8) (v := .int .i64 ((numAt Mw ((i : Int), 0) : Nat) : Int)) [15, 16] rfl (by kernel_rfl) (by kernel_rfl) (by kernel_rfl) (by kernel_rfl) (fun _ _ _ h => h) inv ⟨by rfl, ?_⟩ hS (fun inv2 => ?_)
  · intro w hSw
    obtain ⟨⟨s0, s1, s3, s4⟩, c0, c1, c2, c3, c4, c5, c6⟩ := hSw; exact ⟨92, _, by go_simp, at_walk w rd wm Mw s4 HR6.out.was.ints s3 (i : Int) 0 (by simp only [i64ok]; omega) (by simp only [i64ok]; omega)⟩
  clear inv
  have inv := inv2
  clear inv2
  try simp only [Act.put, nrmA, nrmB, nrmC]
  refine rO 14 inv fun K hK => ?_
  go_simp
  clear hS
  refine (mk_not _ B g A5 (rd :: nm :: ([Nd] ++ bl)) mk e5 HR6.out.rd.m r3 (matchF (dstM ad)) P HFm6.out HP.out.nn).mono ?_
  rintro en w7 hr
  obtain ⟨A7, e7, r7, rfl, hrf, hx, hF, hsm⟩ := HR6.out.call hr
  have HR7 := hide hrf
  have HXd7 := hide (HXd6.out.same (hsm Nd (by simp)))
  have HFq7 := hide (fun h => (HFq6.out ((hF h).1)).ext HR6.out.rd.inv hx)
  have HFn7 := hide (fun h => (hF h).2)
  clear hr hrf hx hF hsm HR6 HXd6 HFm6 HFq6
  have hS := HQ.out _ HR7.out.rd.bx _ HR7.out.rd.m.bx HXd7.out HR7.out.was.m
  go_simp
  refine hK.out _ _ (fun _ => HQ.out _ HR7.out.rd.bx _ HR7.out.rd.m.bx HXd7.out HR7.out.was.m) ?_
  clear hK K hS inv
  intro inv
  try simp only [Act.put, nrmA, nrmB, nrmC]
  have hS := HQ.out _ HR7.out.rd.bx _ HR7.out.rd.m.bx HXd7.out HR7.out.was.m
  refine rO 15 inv fun K hK => ?_
  go_simp
  clear hS
  refine (mk_and _ B g A7 (rd :: nm :: ([Nd] ++ bl)) mk e7 HR7.out.rd.m (numAt Mw ((i : Int), 0)) r7 (Sw ((i : Int), 0)) (notF (matchF (dstM ad))) P (fun h => HR7.out.was.sw h _) HFn7.out HP.out.n1).mono ?_
  rintro en w8 hr
  obtain ⟨A8, e8, r8, rfl, hrf, hx, hF, hsm⟩ := HR7.out.call hr
  have HR8 := hide hrf
  have HXd8 := hide (HXd7.out.same (hsm Nd (by simp)))
  have HFq8 := hide (fun h => (HFq7.out ((hF h).1)).ext HR7.out.rd.inv hx)
  have HFx8 := hide (fun h => (hF h).2)
  clear hr hrf hx hF hsm HR7 HXd7 HFq7 HFn7
  have hS := HQ.out _ HR8.out.rd.bx _ HR8.out.rd.m.bx HXd8.out HR8.out.was.m
  go_simp
  refine hK.out _ _ (fun _ => HQ.out _ HR8.out.rd.bx _ HR8.out.rd.m.bx HXd8.out HR8.out.was.m) ?_
  clear hK K hS inv
  intro inv
  try simp only [Act.put, nrmA, nrmB, nrmC]
  have hS := HQ.out _ HR8.out.rd.bx _ HR8.out.rd.m.bx HXd8.out HR8.out.was.m
  refine rT 16 inv fun K hK => ?_
  go_simp
  clear hS
  refine (send_walk _ B g A8 ([Nd] ++ bl) mk e8 rd n (.map (some wm)) nm Mn _ HR8.out.rd (HLL.out _ HR8.out.kp.low) HLK.out P (i : Int) 1 r8 (andF (Sw ((i : Int), 0)) (notF (matchF (dstM ad)))) HFx8.out HP.out.s1).mono ?_
  rintro en w9 ⟨rfl, hr⟩
  obtain ⟨A9, e9, Mn9, hrf, hx, hF, hsm⟩ := HR8.out.send hr
  have HR9 := hide hrf
  have HXd9 := hide (HXd8.out.same (hsm Nd (by simp)))
  have HFq9 := hide (fun h => (HFq8.out (hF h)).ext HR8.out.rd.inv hx)
  clear hr hrf hx hF hsm HR8 HXd8 HFq8 HFx8
  go_simp
  refine hK.out _ _ ?_
  clear hK K inv
  intro inv
  try simp only [Act.put, nrmA, nrmB, nrmC]
  refine rD ?_
  clear inv
  have s3 : w9.cell? ⟨rd, 3, none⟩ = some (.map (some wm)) := HR9.out.rd.bx.get 3 _ rfl
  go_wp2_with fail
  refine (at_walk w9 rd wm Mw HR9.out.was.m HR9.out.was.ints s3 (i : Int) 1 (by simp only [i64ok]; omega) (by simp only [i64ok]; omega)).mono ?_
  rintro en wx ⟨rfl, rfl⟩
  clear s3
  go_wp2_with fail
  refine (send_walk _ B g A9 ([Nd] ++ bl) mk e9 rd n (.map (some wm)) nm Mn9 _ HR9.out.rd (HLL.out _ HR9.out.kp.low) HLK.out P (i : Int) 0 (numAt Mw ((i : Int), 1)) (Sw ((i : Int), 1)) (fun h => HR9.out.was.sw h _) HP.out.s2).mono ?_
  rintro en w10 ⟨rfl, hr⟩
  obtain ⟨A10, e10, Mn10, hrf, hx, hF, hsm⟩ := HR9.out.send hr
  have HR10 := hide hrf
  have HXd10 := hide (HXd9.out.same (hsm Nd (by simp)))
  have HFq10 := hide (fun h => (HFq9.out (hF h)).ext HR9.out.rd.inv hx)
  clear hr hrf hx hF hsm HR9 HXd9 HFq9
  have c4 : w10.cell? ⟨Nd, 4, none⟩ = some (.slice bA bn bc) := HXd10.out.get 4 _ rfl
  go_wp2_with fail
  clear c4
  go_loopw [54] (fun u wr => ∃ (k : Nat) (A2 : St) (e2 : Nat) (Mn2 : PoK → Option Value), k ≤ bn ∧ u = .int .i64 (k : Int) ∧ Hid (RF w B g A bl mk e rd n wm nm Mw Sw P wr A2 e2 Mn2 (balTo n.ls i ad bs Sw Sn k) [Nd]) ∧ Hid (Bx wr Nd #[.string nm', .int .i64 5, .int .i64 (ad : Int), .int .u8 pl, .slice bA bn bc, .slice rA rn rc, .slice tA tn tc] 81) ∧ Hid (e2 = 0 → IsF A2 r5 (balQ i ad Sw))) (fun u _ => bn - (intOf u).toNat)
  case atStart => exact ⟨0, A10, e10, Mn10, Nat.zero_le _, rfl, HR10, HXd10, HFq10⟩
  case round =>
    clear HR10 HXd10 HFq10
    obtain ⟨k, A2, e2, Mn2, hk, rfl, HR40, HXd40, HFq40⟩ := hrel
    by_cases hlt : k < bn
    · obtain ⟨b, hb⟩ : ∃ b, bs[k]? = some b := ⟨_, List.getElem?_eq_getElem (by omega)⟩
      have hb2 := HB16.out b (List.mem_of_getElem? hb)
      have hia := HBS.out wr HR40.out.kp.low
      obtain ⟨bb, bo, rfl, _, hcl⟩ := hia.2.2 (by omega)
      have q0 := hcl k b hb
      obtain ⟨bN, hbN⟩ : ∃ bN : Nat, b = (bN : Int) := ⟨b.toNat, by omega⟩
      subst hbN
      have hb15 : bN < 16 := by omega
      have HBK := hide hb
      have m0 : wr.cell? ⟨rd, 0, none⟩ = some (.pointer (some ⟨mk, 0, none⟩)) := HR40.out.rd.bx.get 0 _ rfl
      clear hb hia hcl
      go_wp2_with fail
      clear q0 m0
      refine (mk_to _ B g A2 (rd :: nm :: ([Nd] ++ bl)) mk e2 HR40.out.rd.m r5 (balQ i ad Sw) P bN hb15 (by rw [HR40.out.ext.vars]; exact HV.out) HFq40.out (HP.out.t k (bN : Int) HBK.out)).mono ?_
      rintro en w41 hr
      obtain ⟨A41, e41, r41, rfl, hrf, hx, hF, hsm⟩ := HR40.out.call hr
      have HR41 := hide hrf
      have HXd41 := hide (HXd40.out.same (hsm Nd (by simp)))
      have HFq41 := hide (fun h => (HFq40.out ((hF h).1)).ext HR40.out.rd.inv hx)
      have HFt41 := hide (fun h => (hF h).2)
      clear hr hrf hx hF hsm HR40 HXd40 HFq40
      go_wp2_with fail
      refine (send_walk _ B g A41 ([Nd] ++ bl) mk e41 rd n (.map (some wm)) nm Mn2 _ HR41.out.rd (HLL.out _ HR41.out.kp.low) HLK.out P (i : Int) 1 r41 (toF (balQ i ad Sw) bN) HFt41.out (HP.out.t1 k (bN : Int) HBK.out)).mono ?_
      rintro en w42 ⟨rfl, hr⟩
      obtain ⟨A42, e42, Mn42, hrf, hx, hF, hsm⟩ := HR41.out.send hr
      have HR42 := hide hrf
      have HXd42 := hide (HXd41.out.same (hsm Nd (by simp)))
      have HFq42 := hide (fun h => (HFq41.out (hF h)).ext HR41.out.rd.inv hx)
      clear hr hrf hx hF hsm HR41 HXd41 HFq41 HFt41
      have r1 : w42.cell? ⟨rd, 1, none⟩ = some (.slice n.dA n.dn n.dc) := HR42.out.rd.bx.get 1 _ rfl
      have r2 : w42.cell? ⟨rd, 2, none⟩ = some (.slice n.lA n.ln n.lc) := HR42.out.rd.bx.get 2 _ rfl
      go_wp2_with fail
      refine (open_walk w42 B rd n (Nat.le_of_lt HR42.out.rd.m.sa.hB) (HLL.out _ HR42.out.kp.low) HLK.out r1 r2 (i : Int) 1).mono ?_
      rintro en wo ⟨rfl, hb⟩
      clear r1 r2
      have HR43 := hide (HR42.out.below hb)
      have HXd43 := hide (HXd42.out.below hb)
      have HFq43 := HFq42
      clear hb HR42 HXd42 HFq42
      obtain ⟨o1, ho1⟩ : ∃ o1, (peerF n.ls ((i : Int), 1)).isSome = o1 := ⟨_, rfl⟩
      rw [ho1]
      have HO := hide ho1
      clear ho1
      cases o1
      · have HST := hide (show balTo n.ls i ad bs Sw Sn (k + 1) = sendS n.ls ((i : Int), 1) (toF (balQ i ad Sw) bN) (balTo n.ls i ad bs Sw Sn k) from by
          rw [balTo_succ HBK.out]; unfold balStep; rw [if_neg (by rw [HO.out]; simp)]; rfl)
        go_wp2_with fail
        go_roundw
        case rel => exact ⟨k + 1, A42, e42, Mn42, by omega, by go_num, hide (by rw [HST.out]; exact HR43.out), HXd43, HFq43⟩
        case measure => simp [intOf]; omega
      go_wp2_with fail
      have HQ3 := hide (fun (w' : World) (h1 : Bx w' rd #[.pointer (some ⟨mk, 0, none⟩), .slice n.dA n.dn n.dc, .slice n.lA n.ln n.lc, .map (some wm), .map (some nm)] 75) (e' : Nat) (h2 : Bx w' mk #[.pointer (some ⟨g, 0, none⟩), .int .i64 (e' : Int)] 72) (hbd : Bx w' Nd #[.string nm', .int .i64 5, .int .i64 (ad : Int), .int .u8 pl, .slice (some ⟨bb, bo, none⟩) bn bc, .slice rA rn rc, .slice tA tn tc] 81) (h4 : MapP w' wm Mw) => show (w'.cell? ⟨rd, 0, none⟩ = some (.pointer (some ⟨mk, 0, none⟩)) ∧ w'.cell? ⟨mk, 0, none⟩ = some (.pointer (some ⟨g, 0, none⟩)) ∧ w'.cell? ⟨rd, 3, none⟩ = some (.map (some wm)) ∧ MapP w' wm Mw) ∧ w'.cell? ⟨Nd, 0, none⟩ = some (.string nm') ∧ w'.cell? ⟨Nd, 1, none⟩ = some (.int .i64 5) ∧ w'.cell? ⟨Nd, 2, none⟩ = some (.int .i64 (ad : Int)) ∧ w'.cell? ⟨Nd, 3, none⟩ = some (.int .u8 pl) ∧ w'.cell? ⟨Nd, 4, none⟩ = some (.slice (some ⟨bb, bo, none⟩) bn bc) ∧ w'.cell? ⟨Nd, 5, none⟩ = some (.slice rA rn rc) ∧ w'.cell? ⟨Nd, 6, none⟩ = some (.slice tA tn tc) from ⟨⟨h1.get 0 _ rfl, h2.get 0 _ rfl, h1.get 3 _ rfl, h4⟩, hbd.get 0 _ rfl, hbd.get 1 _ rfl, hbd.get 2 _ rfl, hbd.get 3 _ rfl, hbd.get 4 _ rfl, hbd.get 5 _ rfl, hbd.get 6 _ rfl⟩)
      have HR44 := hide (HR43.out.below (RowKit.Below.refl _ _).drew)
      have HXd44 := hide (HXd43.out.below (RowKit.Below.refl _ _).drew)
      have HFq44 := HFq43
      clear HR43 HXd43 HFq43
      refine wp_region_E (fun w' => (w'.cell? ⟨rd, 0, none⟩ = some (.pointer (some ⟨mk, 0, none⟩)) ∧ w'.cell? ⟨mk, 0, none⟩ = some (.pointer (some ⟨g, 0, none⟩)) ∧ w'.cell? ⟨rd, 3, none⟩ = some (.map (some wm)) ∧ MapP w' wm Mw) ∧ w'.cell? ⟨Nd, 0, none⟩ = some (.string nm') ∧ w'.cell? ⟨Nd, 1, none⟩ = some (.int .i64 5) ∧ w'.cell? ⟨Nd, 2, none⟩ = some (.int .i64 (ad : Int)) ∧ w'.cell? ⟨Nd, 3, none⟩ = some (.int .u8 pl) ∧ w'.cell? ⟨Nd, 4, none⟩ = some (.slice (some ⟨bb, bo, none⟩) bn bc) ∧ w'.cell? ⟨Nd, 5, none⟩ = some (.slice rA rn rc) ∧ w'.cell? ⟨Nd, 6, none⟩ = some (.slice tA tn tc)) 19 (by kernel_rfl) (HQ3.out _ HR44.out.rd.bx _ HR44.out.rd.m.bx HXd44.out HR44.out.was.m) (fun hS => ?_)
      refine rP 0 hS ?_
      refine rP 1 hS ?_
      refine rP 2 hS ?_
      refine rL 3 [19] rfl hS (by intro w hSw; obtain ⟨⟨s0, s1, s3, s4⟩, c0, c1, c2, c3, c4, c5, c6⟩ := hSw; go_simp; try with_reducible rfl) ?_
      refine rP 4 hS ?_
      refine rP 5 hS ?_
      refine rP 7 hS ?_
      refine rP 8 hS ?_
      refine rP 9 hS ?_
      refine rL 10 [18, 19] rfl hS (by intro w hSw; obtain ⟨⟨s0, s1, s3, s4⟩, c0, c1, c2, c3, c4, c5, c6⟩ := hSw; go_simp; try with_reducible rfl) ?_
      refine rP 11 hS ?_
      refine rP 12 hS ?_
      refine rP 13 hS ?_
      refine rL 14 [17, 18, 19] rfl hS (by intro w hSw; obtain ⟨⟨s0, s1, s3, s4⟩, c0, c1, c2, c3, c4, c5, c6⟩ := hSw; go_simp; try with_reducible rfl) ?_
      refine rP 15 hS ?_
      refine rP 16 hS ?_
      intro inv
      refine wpAnyE_quiet (i := 6) (v := .int .i64 ((numAt Mw ((i : Int), 1) : Nat) : Int)) [19] rfl (by kernel_rfl) (by kernel_rfl) (by kernel_rfl) (by kernel_rfl) (fun _ _ _ h => h) inv ⟨by rfl, ?_⟩ hS (fun inv2 => ?_)
      · intro w hSw
        obtain ⟨⟨s0, s1, s3, s4⟩, c0, c1, c2, c3, c4, c5, c6⟩ := hSw; exact ⟨92, _, by go_simp, at_walk w rd wm Mw s4 HR44.out.was.ints s3 (i : Int) 1 (by simp only [i64ok]; omega) (by simp only [i64ok]; omega)⟩
      clear inv
      have inv := inv2
      clear inv2
      try simp only [Act.put, nrmA, nrmB, nrmC]
      refine rO 17 inv fun K hK => ?_
      go_simp
      clear hS
      refine (mk_to _ B g A42 (rd :: nm :: ([Nd] ++ bl)) mk e42 HR44.out.rd.m r5 (balQ i ad Sw) P bN hb15 (by rw [HR44.out.ext.vars]; exact HV.out) HFq44.out (HP.out.t k (bN : Int) HBK.out)).mono ?_
      rintro en w45 hr
      obtain ⟨A45, e45, r45, rfl, hrf, hx, hF, hsm⟩ := HR44.out.call hr
      have HR45 := hide hrf
      have HXd45 := hide (HXd44.out.same (hsm Nd (by simp)))
      have HFq45 := hide (fun h => (HFq44.out ((hF h).1)).ext HR44.out.rd.inv hx)
      have HFt45 := hide (fun h => (hF h).2)
      clear hr hrf hx hF hsm HR44 HXd44 HFq44
      have hS := HQ3.out _ HR45.out.rd.bx _ HR45.out.rd.m.bx HXd45.out HR45.out.was.m
      go_simp
      refine hK.out _ _ (fun _ => HQ3.out _ HR45.out.rd.bx _ HR45.out.rd.m.bx HXd45.out HR45.out.was.m) ?_
      clear hK K hS inv
      intro inv
      try simp only [Act.put, nrmA, nrmB, nrmC]
      have hS := HQ3.out _ HR45.out.rd.bx _ HR45.out.rd.m.bx HXd45.out HR45.out.was.m
      refine rO 18 inv fun K hK => ?_
      go_simp
      clear hS
      refine (mk_flip _ B g A45 (rd :: nm :: ([Nd] ++ bl)) mk e45 HR45.out.rd.m r45 (toF (balQ i ad Sw) bN) P (by rw [HR45.out.ext.vars]; exact HV.out) HFt45.out (HP.out.fl k (bN : Int) HBK.out)).mono ?_
      rintro en w46 hr
      obtain ⟨A46, e46, r46, rfl, hrf, hx, hF, hsm⟩ := HR45.out.call hr
      have HR46 := hide hrf
      have HXd46 := hide (HXd45.out.same (hsm Nd (by simp)))
      have HFq46 := hide (fun h => (HFq45.out ((hF h).1)).ext HR45.out.rd.inv hx)
      have HFf46 := hide (fun h => (hF h).2)
      clear hr hrf hx hF hsm HR45 HXd45 HFq45 HFt45
      have hS := HQ3.out _ HR46.out.rd.bx _ HR46.out.rd.m.bx HXd46.out HR46.out.was.m
      go_simp
      refine hK.out _ _ (fun _ => HQ3.out _ HR46.out.rd.bx _ HR46.out.rd.m.bx HXd46.out HR46.out.was.m) ?_
      clear hK K hS inv
      intro inv
      try simp only [Act.put, nrmA, nrmB, nrmC]
      have hS := HQ3.out _ HR46.out.rd.bx _ HR46.out.rd.m.bx HXd46.out HR46.out.was.m
      refine rT 19 inv fun K hK => ?_
      go_simp
      clear hS
      refine (mk_and _ B g A46 (rd :: nm :: ([Nd] ++ bl)) mk e46 HR46.out.rd.m (numAt Mw ((i : Int), 1)) r46 (Sw ((i : Int), 1)) (flipF (toF (balQ i ad Sw) bN)) P (fun h => HR46.out.was.sw h _) HFf46.out (HP.out.x k (bN : Int) HBK.out)).mono ?_
      rintro en w47 hr
      obtain ⟨A47, e47, r47, rfl, hrf, hx, hF, hsm⟩ := HR46.out.call hr
      have HR47 := hide hrf
      have HXd47 := hide (HXd46.out.same (hsm Nd (by simp)))
      have HFq47 := hide (fun h => (HFq46.out ((hF h).1)).ext HR46.out.rd.inv hx)
      have HFx47 := hide (fun h => (hF h).2)
      clear hr hrf hx hF hsm HR46 HXd46 HFq46 HFf46
      go_simp
      refine hK.out _ _ ?_
      clear hK K inv
      intro inv
      try simp only [Act.put, nrmA, nrmB, nrmC]
      refine rT 20 inv fun K hK => ?_
      go_simp
      refine hK.out _ _ ?_
      clear hK K inv
      intro inv
      try simp only [Act.put, nrmA, nrmB, nrmC]
      refine rD ?_
      clear inv
      go_wp2_with fail
      have HR48 := hide (HR47.out.below (RowKit.Below.refl _ _).drew)
      have HXd48 := hide (HXd47.out.below (RowKit.Below.refl _ _).drew)
      have HFq48 := HFq47
      have HFx48 := HFx47
      clear HR47 HXd47 HFq47 HFx47
      refine wp_region_E (fun w' => (w'.cell? ⟨rd, 0, none⟩ = some (.pointer (some ⟨mk, 0, none⟩)) ∧ w'.cell? ⟨mk, 0, none⟩ = some (.pointer (some ⟨g, 0, none⟩)) ∧ w'.cell? ⟨rd, 3, none⟩ = some (.map (some wm)) ∧ MapP w' wm Mw) ∧ w'.cell? ⟨Nd, 0, none⟩ = some (.string nm') ∧ w'.cell? ⟨Nd, 1, none⟩ = some (.int .i64 5) ∧ w'.cell? ⟨Nd, 2, none⟩ = some (.int .i64 (ad : Int)) ∧ w'.cell? ⟨Nd, 3, none⟩ = some (.int .u8 pl) ∧ w'.cell? ⟨Nd, 4, none⟩ = some (.slice (some ⟨bb, bo, none⟩) bn bc) ∧ w'.cell? ⟨Nd, 5, none⟩ = some (.slice rA rn rc) ∧ w'.cell? ⟨Nd, 6, none⟩ = some (.slice tA tn tc)) 10 (by kernel_rfl) (HQ3.out _ HR48.out.rd.bx _ HR48.out.rd.m.bx HXd48.out HR48.out.was.m) (fun hS => ?_)
      refine rP 0 hS ?_
      refine rP 1 hS ?_
      refine rP 2 hS ?_
      refine rP 3 hS ?_
      refine rP 4 hS ?_
      refine rL 5 [9, 10] rfl hS (by intro w hSw; obtain ⟨⟨s0, s1, s3, s4⟩, c0, c1, c2, c3, c4, c5, c6⟩ := hSw; go_simp; try with_reducible rfl) ?_
      refine rP 6 hS ?_
      refine rP 7 hS ?_
      refine rL 8 [9, 10] rfl hS (by intro w hSw; obtain ⟨⟨s0, s1, s3, s4⟩, c0, c1, c2, c3, c4, c5, c6⟩ := hSw; go_simp; try with_reducible rfl) ?_
      intro inv
      refine rO 9 inv fun K hK => ?_
      go_simp
      clear hS
      refine (mk_from _ B g A47 (rd :: nm :: ([Nd] ++ bl)) mk e47 HR48.out.rd.m r47 (balX i ad bN Sw) P ad ha16 (by rw [HR48.out.ext.vars]; exact HV.out) HFx48.out (HP.out.f k (bN : Int) HBK.out)).mono ?_
      rintro en w49 hr
      obtain ⟨A49, e49, r49, rfl, hrf, hx, hF, hsm⟩ := HR48.out.call hr
      have HR49 := hide hrf
      have HXd49 := hide (HXd48.out.same (hsm Nd (by simp)))
      have HFq49 := hide (fun h => (HFq48.out ((hF h).1)).ext HR48.out.rd.inv hx)
      have HFz49 := hide (fun h => (hF h).2)
      clear hr hrf hx hF hsm HR48 HXd48 HFq48 HFx48
      have hS := HQ3.out _ HR49.out.rd.bx _ HR49.out.rd.m.bx HXd49.out HR49.out.was.m
      go_simp
      refine hK.out _ _ (fun _ => HQ3.out _ HR49.out.rd.bx _ HR49.out.rd.m.bx HXd49.out HR49.out.was.m) ?_
      clear hK K hS inv
      intro inv
      try simp only [Act.put, nrmA, nrmB, nrmC]
      have hS := HQ3.out _ HR49.out.rd.bx _ HR49.out.rd.m.bx HXd49.out HR49.out.was.m
      refine rT 10 inv fun K hK => ?_
      go_simp
      clear hS
      refine (send_walk _ B g A49 ([Nd] ++ bl) mk e49 rd n (.map (some wm)) nm Mn42 _ HR49.out.rd (HLL.out _ HR49.out.kp.low) HLK.out P (i : Int) 0 r49 (fromF (balX i ad bN Sw) ad) HFz49.out (HP.out.s3 k (bN : Int) HBK.out)).mono ?_
      rintro en w50 ⟨rfl, hr⟩
      obtain ⟨A50, e50, Mn50, hrf, hx, hF, hsm⟩ := HR49.out.send hr
      have HR50 := hide hrf
      have HXd50 := hide (HXd49.out.same (hsm Nd (by simp)))
      have HFq50 := hide (fun h => (HFq49.out (hF h)).ext HR49.out.rd.inv hx)
      clear hr hrf hx hF hsm HR49 HXd49 HFq49 HFz49
      go_simp
      refine hK.out _ _ ?_
      clear hK K inv
      intro inv
      try simp only [Act.put, nrmA, nrmB, nrmC]
      refine rD ?_
      clear inv
      have HST := hide (show balTo n.ls i ad bs Sw Sn (k + 1) = sendS n.ls ((i : Int), 0) (fromF (balX i ad bN Sw) ad) (sendS n.ls ((i : Int), 1) (toF (balQ i ad Sw) bN) (balTo n.ls i ad bs Sw Sn k)) from by
        rw [balTo_succ HBK.out]; unfold balStep; rw [if_pos (by rw [HO.out])]; rfl)
      go_wp2_with fail
      go_roundw
      case rel => exact ⟨k + 1, A50, e50, Mn50, by omega, by go_num, hide (by rw [HST.out]; exact HR50.out), HXd50, HFq50⟩
      case measure => simp [intOf]; omega
    · obtain rfl : k = bn := by omega
      have HFN := hide (show RDP w B g A bl mk e rd n (.map (some wm)) nm P (balS n.ls i ad bs Sw Sn) wr from by
        unfold balS; rw [hbl]; exact HR40.out.out)
      go_wp2
      go_end0
      exact ⟨rfl, HFN.out⟩
end Go.Proofs.YtifkacnoiocebaaGreat
