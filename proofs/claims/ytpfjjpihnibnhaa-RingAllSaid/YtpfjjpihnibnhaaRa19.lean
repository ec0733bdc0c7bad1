/- A part of the proof: HandP. -/
import Derived.Test.YtpfjjpihnibnhaaRa18

set_option linter.unusedVariables false
set_option linter.unusedSimpArgs false
namespace Go.Proofs.Ytpfjjpihnibnhaa
open Go.RowKit

def arrV (r : Option Pl) (p : P4) : Value := match r with
  | some x => .tuple #[.agg #[.int .i64 x.1, .int .i64 x.2, .int .i64 p.src, .int .i64 p.dst, .int .i64 p.sport, .int .i64 p.dport], .int .i64 0]
  | none => .tuple #[.agg #[.int .i64 0, .int .i64 0, .int .i64 0, .int .i64 0, .int .i64 0, .int .i64 0], .int .i64 7]

def Box6 (w : World) (N : Nat) (a b c d e f : Int) : Prop := (w.cell? ⟨N, 0, none⟩ = some (.int .i64 a) ∧ w.cell? ⟨N, 1, none⟩ = some (.int .i64 b) ∧ w.cell? ⟨N, 2, none⟩ = some (.int .i64 c) ∧ w.cell? ⟨N, 3, none⟩ = some (.int .i64 d) ∧ w.cell? ⟨N, 4, none⟩ = some (.int .i64 e) ∧ w.cell? ⟨N, 5, none⟩ = some (.int .i64 f)) ∧ ∀ o, w.frozen? ⟨N, o, none⟩ = false
theorem Box6.below {w w' : World} {B N : Nat} {a b c d e f : Int} (h : Box6 w N a b c d e f) (hB : Below B w w') (hN : N < B) : Box6 w' N a b c d e f := by
  have ee : ∀ o, w'.cell? ⟨N, o, none⟩ = w.cell? ⟨N, o, none⟩ := fun o => hB.cell (p := ⟨N, o, none⟩) hN
  have ff : ∀ o, w'.frozen? ⟨N, o, none⟩ = w.frozen? ⟨N, o, none⟩ := fun o => hB.frozen (p := ⟨N, o, none⟩) hN
  unfold Box6
  rw [ee, ee, ee, ee, ee, ee]
  exact ⟨h.1, fun o => (ff o).trans (h.2 o)⟩
theorem Box6.new (w : World) (a b c d e f : Int) (t : TypeId) : Box6 (w.alloc (.cells #[.int .i64 a, .int .i64 b, .int .i64 c, .int .i64 d, .int .i64 e, .int .i64 f] t)) w.heap.size a b c d e f := by
  have hbx := heap_alloc_new w (.cells #[.int .i64 a, .int .i64 b, .int .i64 c, .int .i64 d, .int .i64 e, .int .i64 f] t)
  refine ⟨⟨?_, ?_, ?_, ?_, ?_, ?_⟩, fun o => by unfold World.frozen?; rw [hbx]; simp⟩ <;> (rw [cell_of_row _ _ _ _ _ _ hbx]; rfl)

set_option maxRecDepth 100000 in
set_option maxHeartbeats 16000000 in
theorem handP_walk (g : Nat) (n : NetV) (i : Nat) (y : Int) (p : P4) (ch : Int) (r : DevV) (W : World) (hn : NetAt W W.heap.size n) (hr : n.ds[i]? = some r) (hk : r.kind = 1 ∨ r.kind = 2) (hy : 0 ≤ y ∧ y < portsF r.kind) (hp : p.ok) (hrp : rightB p = true)
    (hdn : n.dn ≤ 10) (hg : g < W.heap.size) (g0 : W.cell? ⟨g, 0, none⟩ = some (.slice n.dA n.dn n.dc)) (g1 : W.cell? ⟨g, 1, none⟩ = some (.slice n.lA n.ln n.lc)) :
    Calls Try.prog 30 #[.pointer (some ⟨g, 0, none⟩), .agg #[.int .i64 (i : Int), .int .i64 y], .agg #[.int .i64 p.src, .int .i64 p.dst, .int .i64 p.sport, .int .i64 p.dport], .int .i64 ch] W fun e W' => e = .returned (arrV (nextF n.ls r.dev (i : Int) p) p) ∧ RowKit.Below W.heap.size W W' := by
  have hm2 : n.ln ≤ 9223372036854775807 := by have h3 := hn.cl.1; have h4 := hn.cl.2; unfold maxLen at h4; omega
  have hil : i < n.dn := by have := (List.getElem?_eq_some_iff.1 hr).1; have := hn.dlen; omega
  have HNA := hide (fun (w' : World) (hb : RowKit.Below W.heap.size W w') => show (NetAt w' w'.heap.size n ∧ w'.cell? ⟨g, 0, none⟩ = some (.slice n.dA n.dn n.dc) ∧ w'.cell? ⟨g, 1, none⟩ = some (.slice n.lA n.ln n.lc)) from
    ⟨hn.below hb hb.size, (hb.cell (p := ⟨g, 0, none⟩) hg).trans g0, (hb.cell (p := ⟨g, 1, none⟩) hg).trans g1⟩)
  have HRR := hide hr
  have HNX := hide (show nextF n.ls r.dev (i : Int) p = if (r.kind == 2) && decide (0 ≤ (outF p.dst r.ts).2) && letsB r.rs p then peerF n.ls ((i : Int), (outF p.dst r.ts).1) else none from rfl)
  generalize nextF _ _ _ _ = NX at *
  have HP := hide (And.intro hp hrp)
  have hpf := portsF_rng r.kind
  have HY := hide (show inR y 0 (portsF r.kind - 1) = true from (inR_ltI y (portsF r.kind)).trans (by simp; omega))
  have HI := hide (show inR (i : Int) 0 ((n.dn : Int) - 1) = true from (inR_lt (i : Int) n.dn).trans (by simp; omega))
  have HPO := hide (fun w => refPorts_walk r.kind w)
  have y1 : -9 ≤ y := by omega
  have y2 : y ≤ 9 := by omega
  have hdok := hn.dok r (List.mem_of_getElem? hr)
  have htl := hdok.ct
  have hrl := hdok.cr
  have HTK := hide hdok.tok
  have HT := hide (show r.tn ≤ 9223372036854775807 ∧ r.rn ≤ 9223372036854775807 from by unfold maxLen at *; omega)
  clear hn hr hp hrp hdok htl hrl g0 g1 hy
  obtain ⟨dA, dn, dc, ds, lA, ln, lc, ls⟩ := n
  obtain ⟨b, o, rfl, _, _⟩ := (HNA.out W (RowKit.Below.refl _ _)).1.ds.2 (by have h : i < dn := hil; show 0 < dn; omega)
  have hdn : dn ≤ 10 := hdn
  have hil : i < dn := hil
  have i1 : (0 : Int) ≤ (i : Int) := by omega
  have i2 : (i : Int) < (dn : Int) := by omega
  have i3 : (0 : Int) ≤ (dn : Int) := by omega
  have i4 : (dn : Int) ≤ 10 := by omega
  simp only at HNA HNX HI HRR
  obtain ⟨pf1, pf2⟩ := hpf
  generalize portsF r.kind = PF at *
  go_enter Try.func30, Try.ntmps30
  go_wp2
  generalize hG : World.alloc (World.alloc (World.alloc (World.alloc W _) _) _) _ = W1
  have hz : W1.heap.size = W.heap.size + 4 := by rw [← hG]; simp
  have HQ := hide (fun (w' : World) (hb : RowKit.Below W1.heap.size W1 w') => show (w'.cell? ⟨W.heap.size, 0, none⟩ = some (.int .i64 (i : Int)) ∧ w'.cell? ⟨W.heap.size, 1, none⟩ = some (.int .i64 y)) ∧ PackAt w' (W.heap.size + 1) p ∧ Box6 w' (W.heap.size + 1 + 1 + 1) 0 0 0 0 0 0 ∧ RowKit.Below W.heap.size W w' from by
    have hbB : Box6 W1 (W.heap.size + 1 + 1 + 1) 0 0 0 0 0 0 := by
      rw [← hG]
      have := Box6.new (((W.alloc (.cells #[.int .i64 (i : Int), .int .i64 y] 41)).alloc (.cells #[.int .i64 p.src, .int .i64 p.dst, .int .i64 p.sport, .int .i64 p.dport] 43)).alloc (.cells #[.int .i64 ch] 3)) 0 0 0 0 0 0 87
      simpa using this
    have hbox := hbB.below hb (by omega)
    rw [hz, ← hG] at hb
    obtain ⟨c, h1, h2⟩ := boxesL [(#[.int .i64 (i : Int), .int .i64 y], 41), (#[.int .i64 p.src, .int .i64 p.dst, .int .i64 p.sport, .int .i64 p.dport], 43), (#[.int .i64 ch], 3), (#[.int .i64 0, .int .i64 0, .int .i64 0, .int .i64 0, .int .i64 0, .int .i64 0], 87)] W hb
    exact ⟨⟨c 0 _ _ rfl 0 _ rfl, c 0 _ _ rfl 1 _ rfl⟩, ⟨c 1 _ _ rfl 0 _ rfl, c 1 _ _ rfl 1 _ rfl, c 1 _ _ rfl 2 _ rfl, c 1 _ _ rfl 3 _ rfl⟩, hbox, h1⟩)
  have HZ := hide hz
  clear hG hz
  refine wp_region_abs (by kernel_rfl) (by kernel_rfl) ?_
  intro T hT gt hg1 hgi
  have HGT := hide hg1
  have HGI := hide hgi
  clear hg1 hgi
  have k0 := fun t => (HQ.out _ (HGT.out t)).1.1
  have k1 := fun t => (HQ.out _ (HGT.out t)).1.2
  have k2 := fun t => (HNA.out _ (HQ.out _ (HGT.out t)).2.2.2).2.1
  have k3 := fun t => (dev_get (HNA.out _ (HQ.out _ (HGT.out t)).2.2.2).1.ds HRR.out).2.2.1
  have HC1 := hide (fun t => inR_is (gt t) HI.out)
  have HC3 := hide (fun t => inR_is (gt t) HY.out)
  repeat (go_big_quiet_step (first | (go_at_call_of 8 (Value.int .i64 y); exact inAbsSame (HC3.out _)) | (go_at_call 8; exact inAbsSame (HC1.out _)) | (go_at_call 9; exact inAbs HGT.out HGI.out (HPO.out _))))
  refine wpQuiet_nil ?_
  intro _ hw'
  obtain ⟨t, rfl⟩ := hw'
  have HB1 := hide (HGT.out t)
  generalize gt t = w2 at *
  clear k0 k1 k2 k3 HGT HGI HC1 HC3 HPO HY HI
  obtain ⟨p0, p1, p2, p3⟩ := (HQ.out _ HB1.out).2.1
  go_wp2_with fail
  refine (right_is p w2 true HP.out.2).mono ?_
  rintro e w3 ⟨rfl, hb⟩
  have HB3 := hide (HB1.out.trans (hb.mono HB1.out.size))
  clear hb p0 p1 p2 p3 HB1
  go_wp2
  have HN3 := hide (HNA.out _ (HQ.out _ HB3.out).2.2.2)
  have k0 := (HQ.out _ HB3.out).1.1
  have k2 := HN3.out.2.1
  obtain ⟨_, q0, q1, q2, q3, q4, q5, q6⟩ := dev_get HN3.out.1.ds HRR.out
  have HDK := hide (fun (w' : World) (hb : RowKit.Below W.heap.size W w') => (HNA.out w' hb).1.dok r (List.mem_of_getElem? HRR.out))
  clear HRR
  obtain ⟨nm, kd, ad, pl, bA, bn, bc, bs, rA, rn, rc, rs, tA, tn, tc, ts⟩ := r
  simp only at hk HNX HDK HT HTK q0 q1 q2 q3 q4 q5 q6
  go_region_held3 (fun w' => w'.cell? ⟨W.heap.size, 0, none⟩ = some (.int .i64 (i : Int)) ∧ w'.cell? ⟨g, 0, none⟩ = some (.slice (some ⟨b, o, none⟩) dn dc) ∧ w'.cell? ⟨b, o + i * 7, none⟩ = some (.string nm) ∧ w'.cell? ⟨b, o + i * 7 + 1, none⟩ = some (.int .i64 kd) ∧ w'.cell? ⟨b, o + i * 7 + 2, none⟩ = some (.int .i64 ad) ∧ w'.cell? ⟨b, o + i * 7 + 3, none⟩ = some (.int .u8 pl) ∧ w'.cell? ⟨b, o + i * 7 + 4, none⟩ = some (.slice bA bn bc) ∧ w'.cell? ⟨b, o + i * 7 + 5, none⟩ = some (.slice rA rn rc) ∧ w'.cell? ⟨b, o + i * 7 + 6, none⟩ = some (.slice tA tn tc)) (go_keep) (fail)
  have hdb := DBox.new w3 ⟨nm, kd, ad, pl, bA, bn, bc, bs, rA, rn, rc, rs, tA, tn, tc, ts⟩ 35
  have hz4 : (w3.alloc (.cells #[.string nm, .int .i64 kd, .int .i64 ad, .int .u8 pl, .slice bA bn bc, .slice rA rn rc, .slice tA tn tc] 35)).heap.size = w3.heap.size + 1 := by simp
  have hb4 : RowKit.Below W1.heap.size W1 (w3.alloc (.cells #[.string nm, .int .i64 kd, .int .i64 ad, .int .u8 pl, .slice bA bn bc, .slice rA rn rc, .slice tA tn tc] 35)) := HB3.out.alloc HB3.out.size _
  have hM3 : W1.heap.size ≤ w3.heap.size := HB3.out.size
  obtain ⟨M, hM⟩ : ∃ M, w3.heap.size = M := ⟨_, rfl⟩
  rw [hM] at hdb hz4 hM3 ⊢
  clear k0 k2 q0 q1 q2 q3 q4 q5 q6 HN3
  generalize World.alloc w3 _ = w4 at *
  have HB4 := hide hb4
  have HD4 := hide (fun (w' : World) (hb : RowKit.Below w4.heap.size w4 w') => show DBox w' M ⟨nm, kd, ad, pl, bA, bn, bc, bs, rA, rn, rc, rs, tA, tn, tc, ts⟩ ∧ RowKit.Below W1.heap.size W1 w' from ⟨hdb.below hb (by omega), hb4.trans (hb.mono (by omega))⟩)
  have HZ4 := hide (And.intro hz4 hM3)
  clear hdb hz4 hb4 hM3 hM HB3
  have k1 := (HQ.out _ HB4.out).1.2
  go_wp2
  go_quiet (fail)
  generalize hw5 : World.drewN _ _ = w5
  have HB5 := hide (show RowKit.Below w4.heap.size w4 w5 from by rw [← hw5]; first | exact below_drew _ _ _ | exact ((RowKit.Below.refl _ _).drew).trans (below_drew _ _ _))
  clear hw5 k1
  obtain ⟨p0, p1, p2, p3⟩ := (HQ.out _ (HD4.out _ HB5.out).2).2.1
  have HA5 := hide (fun o => show RowKit.Below w4.heap.size w4 (w5.alloc o) from HB5.out.alloc HB5.out.size o)
  have x1 := fun o => (HD4.out _ (HA5.out o)).1.2.1
  simp only at x1
  have HQ6 := hide (fun o => HQ.out _ (HD4.out _ (HA5.out o)).2)
  have HBX := hide (fun (t : TypeId) => show PackAt (w5.alloc (.cells #[.int .i64 p.src, .int .i64 p.dst, .int .i64 p.sport, .int .i64 p.dport] t)) w5.heap.size p from by
    have hbx := heap_alloc_new w5 (.cells #[.int .i64 p.src, .int .i64 p.dst, .int .i64 p.sport, .int .i64 p.dport] t)
    exact ⟨by rw [cell_of_row _ _ _ _ _ _ hbx]; rfl, by rw [cell_of_row _ _ _ _ _ _ hbx]; rfl, by rw [cell_of_row _ _ _ _ _ _ hbx]; rfl, by rw [cell_of_row _ _ _ _ _ _ hbx]; rfl⟩)
  obtain ⟨M5, hM5⟩ : ∃ M5, w5.heap.size = M5 := ⟨_, rfl⟩
  have HM5 := hide (And.intro hM5 (show W1.heap.size ≤ M5 from by rw [← hM5]; exact (HD4.out _ HB5.out).2.size))
  have HZA := hide (fun o => show (w5.alloc o).heap.size = M5 + 1 from by rw [← hM5]; simp)
  clear hM5
  rcases hk with rfl | rfl
  · have HF := hide (show NX = none from by rw [HNX.out]; rfl)
    go_wp2
    have hx6 := HBX.out 43
    have hb6 := HA5.out (.cells #[.int .i64 p.src, .int .i64 p.dst, .int .i64 p.sport, .int .i64 p.dport] 43)
    have hz6 := HZA.out (.cells #[.int .i64 p.src, .int .i64 p.dst, .int .i64 p.sport, .int .i64 p.dport] 43)
    rw [HM5.out.1] at hx6 ⊢
    clear HBX HA5 HZA x1 HQ6
    generalize World.alloc w5 _ = w6 at *
    have HX6 := hide hx6
    have HW6 := hide hb6
    have HB6 := hide (HD4.out _ hb6).2
    have HZ6 := hide (show M5 + 1 ≤ w6.heap.size by omega)
    clear hx6 hb6 hz6
    have k0 := (HQ.out _ HB6.out).1.1
    have k1 := (HNA.out _ (HQ.out _ HB6.out).2.2.2).2.1
    have k2 := (HNA.out _ (HQ.out _ HB6.out).2.2.2).2.2
    have HBW6 := hide (HQ.out _ HB6.out).2.2.2
    have HPE := hide (fun (w' : World) (hb : RowKit.Below W.heap.size W w') => refPeer_any (some ⟨b, o, none⟩) dn dc lA ln lc ls (i : Int) (1 - y) w' hm2 (HNA.out w' hb).1.ls)
    obtain ⟨PR, hPR⟩ : ∃ PR, peerF ls ((i : Int), (1 - y)) = PR := ⟨_, rfl⟩
    simp only [hPR] at HPE
    have HPR := hide hPR
    clear hPR
    obtain ⟨PV, hPV⟩ : ∃ PV, peerV PR = PV := ⟨_, rfl⟩
    simp only [hPV] at HPE
    obtain ⟨t1, t2, tb, hPT, HPW⟩ : ∃ t1 t2 tb, PV = .tuple #[.agg #[.int .i64 t1, .int .i64 t2], .bool tb] ∧ Hid (PR = if tb then some (t1, t2) else none) := by
      rw [← hPV]
      cases PR with
      | none => exact ⟨0, 0, false, rfl, hide rfl⟩
      | some x => exact ⟨x.1, x.2, true, rfl, hide rfl⟩
    subst hPT
    clear hPV
    have n1 : W.heap.size ≠ w6.heap.size := by have := HB6.out.size; have := HZ.out; omega
    have n2 : g ≠ w6.heap.size := by have := HB6.out.size; have := HZ.out; omega
    have n3 := Ne.symm n1
    have n4 := Ne.symm n2
    go_region_held3 (fun w' => w'.cell? ⟨W.heap.size, 0, none⟩ = some (.int .i64 (i : Int)) ∧ w'.cell? ⟨g, 0, none⟩ = some (.slice (some ⟨b, o, none⟩) dn dc) ∧ w'.cell? ⟨g, 1, none⟩ = some (.slice lA ln lc)) (go_keep) ((go_at_call 73; refine (HPE.out _ (by first | exact HBW6.out.drew | exact (HBW6.out.alloc HBW6.out.size _).drew)).mono ?_; rintro e w7 ⟨rfl, hb7⟩; have HB7 := hide (show RowKit.Below w6.heap.size w6 w7 from by first | exact ((RowKit.Below.refl _ w6).drew).trans hb7 | exact (((RowKit.Below.refl _ w6).alloc (Nat.le_refl _) _).drew).trans (hb7.mono (by simp))); have k0 := (HQ.out _ (HB6.out.trans (HB7.out.mono HB6.out.size))).1.1; have k1 := (HNA.out _ (HQ.out _ (HB6.out.trans (HB7.out.mono HB6.out.size))).2.2.2).2.1; have k2 := (HNA.out _ (HQ.out _ (HB6.out.trans (HB7.out.mono HB6.out.size))).2.2.2).2.2; (try (obtain ⟨z0, z1, z2, z3⟩ := (show Box2 w7 w6.heap.size 0 0 from Box2.below (w := (w6.alloc (.cells #[.int .i64 0, .int .i64 0] 41)).drew) (Box2.new w6 0 0 41) hb7 (by simp))))))
    · have hb8 : RowKit.Below w6.heap.size w6 (w7.alloc (.cells #[.int .i64 t1, .int .i64 t2] 41)) := HB7.out.alloc HB7.out.size _
      have hx8 := Box2.new w7 t1 t2 41
      clear k0 k1 k2 n1 n2 n3 n4
      obtain ⟨Q, hQ⟩ : ∃ Q, w7.heap.size = Q := ⟨_, rfl⟩
      rw [hQ] at hx8 ⊢
      clear hQ
      generalize World.alloc w7 _ = w8 at *
      have HB8 := hide (HB6.out.trans (hb8.mono HB6.out.size))
      obtain ⟨⟨⟨r0, r1, r2, r3, r4, r5⟩, rf⟩, hb9⟩ := (HQ.out _ HB8.out).2.2
      have HBF := hide hb9
      clear hb8 hb9 hx8
      go_wp2
      refine bodyPost_ret (v := .tuple #[.agg #[.int .i64 0, .int .i64 0, .int .i64 0, .int .i64 0, .int .i64 0, .int .i64 0], .int .i64 7]) (by simp [results, Try.f30, go_sem, r0, r1, r2, r3, r4, r5]) rfl ⟨by rw [HF.out]; rfl, ?_⟩
      exact (((((HBF.out.setCell (le3 _) _).setCell (le3 _) _).setCell (le3 _) _).setCell (le3 _) _).setCell (le3 _) _).setCell (le3 _) _
    · have hb8 : RowKit.Below w6.heap.size w6 ((w7.setCell ⟨w6.heap.size, 0, none⟩ (.int .i64 t1)).setCell ⟨w6.heap.size, 1, none⟩ (.int .i64 t2)) := (HB7.out.setCell (Nat.le_refl _) _).setCell (Nat.le_refl _) _
      have hx8 : Box2 ((w7.setCell ⟨w6.heap.size, 0, none⟩ (.int .i64 t1)).setCell ⟨w6.heap.size, 1, none⟩ (.int .i64 t2)) w6.heap.size t1 t2 := by
        have c0 : (w7.setCell ⟨w6.heap.size, 0, none⟩ (.int .i64 t1)).cell? ⟨w6.heap.size, 1, none⟩ = some (.int .i64 0) := by
          rw [World.cell?_setCell_other _ _ _ _ (by simp)]; exact z1
        refine ⟨?_, ?_, ?_, ?_⟩
        · rw [World.cell?_setCell_other _ _ _ _ (by simp), World.cell?_setCell_same _ _ _ z0]
        · rw [World.cell?_setCell_same _ _ _ c0]
        · rw [World.frozen?_setCell, World.frozen?_setCell]; exact z2
        · rw [World.frozen?_setCell, World.frozen?_setCell]; exact z3
      clear k0 k1 k2 n1 n2 n3 n4 z0 z1 z2 z3
      generalize World.setCell (World.setCell w7 _ _) _ _ = w8 at *
      have HB8 := hide (HB6.out.trans (hb8.mono HB6.out.size))
      obtain ⟨⟨⟨r0, r1, r2, r3, r4, r5⟩, rf⟩, hb9⟩ := (HQ.out _ HB8.out).2.2
      have HBF := hide hb9
      clear hb8 hb9 hx8
      go_wp2
      refine bodyPost_ret (v := .tuple #[.agg #[.int .i64 0, .int .i64 0, .int .i64 0, .int .i64 0, .int .i64 0, .int .i64 0], .int .i64 7]) (by simp [results, Try.f30, go_sem, r0, r1, r2, r3, r4, r5]) rfl ⟨by rw [HF.out]; rfl, ?_⟩
      exact (((((HBF.out.setCell (le3 _) _).setCell (le3 _) _).setCell (le3 _) _).setCell (le3 _) _).setCell (le3 _) _).setCell (le3 _) _
  · have HLW := hide (fun (w' : World) (hb : RowKit.Below W.heap.size W w') => refLets_any rs rA rn rc p w' HT.out.2 (HDK.out w' hb).rs)
    have HOW := hide (fun (w' : World) (hb : RowKit.Below W.heap.size W w') => refOut_any ts tA tn tc p.dst w' HT.out.1 (HDK.out w' hb).ts HTK.out)
    unfold OutP at HOW
    generalize outF p.dst ts = OF at *
    generalize letsB rs p = LB at *
    obtain ⟨op, ob⟩ := OF
    simp only at HOW HNX
    have x6 := fun o => (HD4.out _ (HA5.out o)).1.2.2.2.2.2.2
    have x7 := fun o => (HQ6.out o).2.1.2.1
    simp only at x6
    go_wp2_with fail
    have hx6 := HBX.out 43
    have hb6 := HA5.out (.cells #[.int .i64 p.src, .int .i64 p.dst, .int .i64 p.sport, .int .i64 p.dport] 43)
    have hz6 := HZA.out (.cells #[.int .i64 p.src, .int .i64 p.dst, .int .i64 p.sport, .int .i64 p.dport] 43)
    rw [HM5.out.1] at hx6 ⊢
    clear HBX HA5 HZA x1 HQ6
    generalize World.alloc w5 _ = w6 at *
    have HX6 := hide hx6
    have HW6 := hide hb6
    have HB6 := hide (HD4.out _ hb6).2
    have HZ6 := hide (show M5 + 1 ≤ w6.heap.size by omega)
    clear hx6 hb6 hz6
    clear x6 x7
    refine (HOW.out w6 (HQ.out _ HB6.out).2.2.2).mono ?_
    rintro e w6 ⟨rfl, hb⟩
    have HX6' := hide (HX6.out.below hb (by have := HZ6.out; omega))
    have HW6' := hide (HW6.out.trans (hb.mono HW6.out.size))
    have HZ6' := hide (Nat.le_trans HZ6.out hb.size)
    clear HX6 HB6 HW6 HZ6 hb
    have HX6 := HX6'
    have HW6 := HW6'
    have HZ6 := HZ6'
    clear HX6' HW6' HZ6'
    have HB6 := hide (HD4.out _ HW6.out).2
    cases e2 : decide (0 ≤ ob)
    · have HF := hide (show NX = none from by rw [HNX.out]; simp [e2])
      clear e2
      go_wp2
      have k0 := (HQ.out _ HB6.out).1.1
      have k1 := (HNA.out _ (HQ.out _ HB6.out).2.2.2).2.1
      have k2 := (HNA.out _ (HQ.out _ HB6.out).2.2.2).2.2
      have HBW6 := hide (HQ.out _ HB6.out).2.2.2
      have HPE := hide (fun (w' : World) (hb : RowKit.Below W.heap.size W w') => refPeer_any (some ⟨b, o, none⟩) dn dc lA ln lc ls (i : Int) op w' hm2 (HNA.out w' hb).1.ls)
      obtain ⟨PR, hPR⟩ : ∃ PR, peerF ls ((i : Int), op) = PR := ⟨_, rfl⟩
      simp only [hPR] at HPE
      have HPR := hide hPR
      clear hPR
      obtain ⟨PV, hPV⟩ : ∃ PV, peerV PR = PV := ⟨_, rfl⟩
      simp only [hPV] at HPE
      obtain ⟨t1, t2, tb, hPT, HPW⟩ : ∃ t1 t2 tb, PV = .tuple #[.agg #[.int .i64 t1, .int .i64 t2], .bool tb] ∧ Hid (PR = if tb then some (t1, t2) else none) := by
        rw [← hPV]
        cases PR with
        | none => exact ⟨0, 0, false, rfl, hide rfl⟩
        | some x => exact ⟨x.1, x.2, true, rfl, hide rfl⟩
      subst hPT
      clear hPV
      have n1 : W.heap.size ≠ w6.heap.size := by have := HB6.out.size; have := HZ.out; omega
      have n2 : g ≠ w6.heap.size := by have := HB6.out.size; have := HZ.out; omega
      have n3 := Ne.symm n1
      have n4 := Ne.symm n2
      go_region_held3 (fun w' => w'.cell? ⟨W.heap.size, 0, none⟩ = some (.int .i64 (i : Int)) ∧ w'.cell? ⟨g, 0, none⟩ = some (.slice (some ⟨b, o, none⟩) dn dc) ∧ w'.cell? ⟨g, 1, none⟩ = some (.slice lA ln lc)) (go_keep) ((go_at_call 73; refine (HPE.out _ (by first | exact HBW6.out.drew | exact (HBW6.out.alloc HBW6.out.size _).drew)).mono ?_; rintro e w7 ⟨rfl, hb7⟩; have HB7 := hide (show RowKit.Below w6.heap.size w6 w7 from by first | exact ((RowKit.Below.refl _ w6).drew).trans hb7 | exact (((RowKit.Below.refl _ w6).alloc (Nat.le_refl _) _).drew).trans (hb7.mono (by simp))); have k0 := (HQ.out _ (HB6.out.trans (HB7.out.mono HB6.out.size))).1.1; have k1 := (HNA.out _ (HQ.out _ (HB6.out.trans (HB7.out.mono HB6.out.size))).2.2.2).2.1; have k2 := (HNA.out _ (HQ.out _ (HB6.out.trans (HB7.out.mono HB6.out.size))).2.2.2).2.2; (try (obtain ⟨z0, z1, z2, z3⟩ := (show Box2 w7 w6.heap.size 0 0 from Box2.below (w := (w6.alloc (.cells #[.int .i64 0, .int .i64 0] 41)).drew) (Box2.new w6 0 0 41) hb7 (by simp))))))
      · have hb8 : RowKit.Below w6.heap.size w6 (w7.alloc (.cells #[.int .i64 t1, .int .i64 t2] 41)) := HB7.out.alloc HB7.out.size _
        have hx8 := Box2.new w7 t1 t2 41
        clear k0 k1 k2 n1 n2 n3 n4
        obtain ⟨Q, hQ⟩ : ∃ Q, w7.heap.size = Q := ⟨_, rfl⟩
        rw [hQ] at hx8 ⊢
        clear hQ
        generalize World.alloc w7 _ = w8 at *
        have HB8 := hide (HB6.out.trans (hb8.mono HB6.out.size))
        obtain ⟨⟨⟨r0, r1, r2, r3, r4, r5⟩, rf⟩, hb9⟩ := (HQ.out _ HB8.out).2.2
        have HBF := hide hb9
        clear hb8 hb9 hx8
        go_wp2
        refine bodyPost_ret (v := .tuple #[.agg #[.int .i64 0, .int .i64 0, .int .i64 0, .int .i64 0, .int .i64 0, .int .i64 0], .int .i64 7]) (by simp [results, Try.f30, go_sem, r0, r1, r2, r3, r4, r5]) rfl ⟨by rw [HF.out]; rfl, ?_⟩
        exact (((((HBF.out.setCell (le3 _) _).setCell (le3 _) _).setCell (le3 _) _).setCell (le3 _) _).setCell (le3 _) _).setCell (le3 _) _
      · have hb8 : RowKit.Below w6.heap.size w6 ((w7.setCell ⟨w6.heap.size, 0, none⟩ (.int .i64 t1)).setCell ⟨w6.heap.size, 1, none⟩ (.int .i64 t2)) := (HB7.out.setCell (Nat.le_refl _) _).setCell (Nat.le_refl _) _
        have hx8 : Box2 ((w7.setCell ⟨w6.heap.size, 0, none⟩ (.int .i64 t1)).setCell ⟨w6.heap.size, 1, none⟩ (.int .i64 t2)) w6.heap.size t1 t2 := by
          have c0 : (w7.setCell ⟨w6.heap.size, 0, none⟩ (.int .i64 t1)).cell? ⟨w6.heap.size, 1, none⟩ = some (.int .i64 0) := by
            rw [World.cell?_setCell_other _ _ _ _ (by simp)]; exact z1
          refine ⟨?_, ?_, ?_, ?_⟩
          · rw [World.cell?_setCell_other _ _ _ _ (by simp), World.cell?_setCell_same _ _ _ z0]
          · rw [World.cell?_setCell_same _ _ _ c0]
          · rw [World.frozen?_setCell, World.frozen?_setCell]; exact z2
          · rw [World.frozen?_setCell, World.frozen?_setCell]; exact z3
        clear k0 k1 k2 n1 n2 n3 n4 z0 z1 z2 z3
        generalize World.setCell (World.setCell w7 _ _) _ _ = w8 at *
        have HB8 := hide (HB6.out.trans (hb8.mono HB6.out.size))
        obtain ⟨⟨⟨r0, r1, r2, r3, r4, r5⟩, rf⟩, hb9⟩ := (HQ.out _ HB8.out).2.2
        have HBF := hide hb9
        clear hb8 hb9 hx8
        go_wp2
        refine bodyPost_ret (v := .tuple #[.agg #[.int .i64 0, .int .i64 0, .int .i64 0, .int .i64 0, .int .i64 0, .int .i64 0], .int .i64 7]) (by simp [results, Try.f30, go_sem, r0, r1, r2, r3, r4, r5]) rfl ⟨by rw [HF.out]; rfl, ?_⟩
        exact (((((HBF.out.setCell (le3 _) _).setCell (le3 _) _).setCell (le3 _) _).setCell (le3 _) _).setCell (le3 _) _).setCell (le3 _) _
    have x5 := (HD4.out _ HW6.out).1.2.2.2.2.2.1
    simp only at x5
    obtain ⟨p0, p1, p2, p3⟩ := (HQ.out _ HB6.out).2.1
    go_wp2_with fail
    refine (HLW.out w6 (HQ.out _ HB6.out).2.2.2).mono ?_
    clear x5 p0 p1 p2 p3
    rintro e w6 ⟨rfl, hb⟩
    have HX6' := hide (HX6.out.below hb (by have := HZ6.out; omega))
    have HW6' := hide (HW6.out.trans (hb.mono HW6.out.size))
    have HZ6' := hide (Nat.le_trans HZ6.out hb.size)
    clear HX6 HB6 HW6 HZ6 hb
    have HX6 := HX6'
    have HW6 := HW6'
    have HZ6 := HZ6'
    clear HX6' HW6' HZ6'
    have HB6 := hide (HD4.out _ HW6.out).2
    cases LB
    · have HF := hide (show NX = none from by rw [HNX.out]; simp)
      clear e2
      go_wp2
      have k0 := (HQ.out _ HB6.out).1.1
      have k1 := (HNA.out _ (HQ.out _ HB6.out).2.2.2).2.1
      have k2 := (HNA.out _ (HQ.out _ HB6.out).2.2.2).2.2
      have HBW6 := hide (HQ.out _ HB6.out).2.2.2
      have HPE := hide (fun (w' : World) (hb : RowKit.Below W.heap.size W w') => refPeer_any (some ⟨b, o, none⟩) dn dc lA ln lc ls (i : Int) op w' hm2 (HNA.out w' hb).1.ls)
      obtain ⟨PR, hPR⟩ : ∃ PR, peerF ls ((i : Int), op) = PR := ⟨_, rfl⟩
      simp only [hPR] at HPE
      have HPR := hide hPR
      clear hPR
      obtain ⟨PV, hPV⟩ : ∃ PV, peerV PR = PV := ⟨_, rfl⟩
      simp only [hPV] at HPE
      obtain ⟨t1, t2, tb, hPT, HPW⟩ : ∃ t1 t2 tb, PV = .tuple #[.agg #[.int .i64 t1, .int .i64 t2], .bool tb] ∧ Hid (PR = if tb then some (t1, t2) else none) := by
        rw [← hPV]
        cases PR with
        | none => exact ⟨0, 0, false, rfl, hide rfl⟩
        | some x => exact ⟨x.1, x.2, true, rfl, hide rfl⟩
      subst hPT
      clear hPV
      have n1 : W.heap.size ≠ w6.heap.size := by have := HB6.out.size; have := HZ.out; omega
      have n2 : g ≠ w6.heap.size := by have := HB6.out.size; have := HZ.out; omega
      have n3 := Ne.symm n1
      have n4 := Ne.symm n2
      go_region_held3 (fun w' => w'.cell? ⟨W.heap.size, 0, none⟩ = some (.int .i64 (i : Int)) ∧ w'.cell? ⟨g, 0, none⟩ = some (.slice (some ⟨b, o, none⟩) dn dc) ∧ w'.cell? ⟨g, 1, none⟩ = some (.slice lA ln lc)) (go_keep) ((go_at_call 73; refine (HPE.out _ (by first | exact HBW6.out.drew | exact (HBW6.out.alloc HBW6.out.size _).drew)).mono ?_; rintro e w7 ⟨rfl, hb7⟩; have HB7 := hide (show RowKit.Below w6.heap.size w6 w7 from by first | exact ((RowKit.Below.refl _ w6).drew).trans hb7 | exact (((RowKit.Below.refl _ w6).alloc (Nat.le_refl _) _).drew).trans (hb7.mono (by simp))); have k0 := (HQ.out _ (HB6.out.trans (HB7.out.mono HB6.out.size))).1.1; have k1 := (HNA.out _ (HQ.out _ (HB6.out.trans (HB7.out.mono HB6.out.size))).2.2.2).2.1; have k2 := (HNA.out _ (HQ.out _ (HB6.out.trans (HB7.out.mono HB6.out.size))).2.2.2).2.2; (try (obtain ⟨z0, z1, z2, z3⟩ := (show Box2 w7 w6.heap.size 0 0 from Box2.below (w := (w6.alloc (.cells #[.int .i64 0, .int .i64 0] 41)).drew) (Box2.new w6 0 0 41) hb7 (by simp))))))
      · have hb8 : RowKit.Below w6.heap.size w6 (w7.alloc (.cells #[.int .i64 t1, .int .i64 t2] 41)) := HB7.out.alloc HB7.out.size _
        have hx8 := Box2.new w7 t1 t2 41
        clear k0 k1 k2 n1 n2 n3 n4
        obtain ⟨Q, hQ⟩ : ∃ Q, w7.heap.size = Q := ⟨_, rfl⟩
        rw [hQ] at hx8 ⊢
        clear hQ
        generalize World.alloc w7 _ = w8 at *
        have HB8 := hide (HB6.out.trans (hb8.mono HB6.out.size))
        obtain ⟨⟨⟨r0, r1, r2, r3, r4, r5⟩, rf⟩, hb9⟩ := (HQ.out _ HB8.out).2.2
        have HBF := hide hb9
        clear hb8 hb9 hx8
        go_wp2
        refine bodyPost_ret (v := .tuple #[.agg #[.int .i64 0, .int .i64 0, .int .i64 0, .int .i64 0, .int .i64 0, .int .i64 0], .int .i64 7]) (by simp [results, Try.f30, go_sem, r0, r1, r2, r3, r4, r5]) rfl ⟨by rw [HF.out]; rfl, ?_⟩
        exact (((((HBF.out.setCell (le3 _) _).setCell (le3 _) _).setCell (le3 _) _).setCell (le3 _) _).setCell (le3 _) _).setCell (le3 _) _
      · have hb8 : RowKit.Below w6.heap.size w6 ((w7.setCell ⟨w6.heap.size, 0, none⟩ (.int .i64 t1)).setCell ⟨w6.heap.size, 1, none⟩ (.int .i64 t2)) := (HB7.out.setCell (Nat.le_refl _) _).setCell (Nat.le_refl _) _
        have hx8 : Box2 ((w7.setCell ⟨w6.heap.size, 0, none⟩ (.int .i64 t1)).setCell ⟨w6.heap.size, 1, none⟩ (.int .i64 t2)) w6.heap.size t1 t2 := by
          have c0 : (w7.setCell ⟨w6.heap.size, 0, none⟩ (.int .i64 t1)).cell? ⟨w6.heap.size, 1, none⟩ = some (.int .i64 0) := by
            rw [World.cell?_setCell_other _ _ _ _ (by simp)]; exact z1
          refine ⟨?_, ?_, ?_, ?_⟩
          · rw [World.cell?_setCell_other _ _ _ _ (by simp), World.cell?_setCell_same _ _ _ z0]
          · rw [World.cell?_setCell_same _ _ _ c0]
          · rw [World.frozen?_setCell, World.frozen?_setCell]; exact z2
          · rw [World.frozen?_setCell, World.frozen?_setCell]; exact z3
        clear k0 k1 k2 n1 n2 n3 n4 z0 z1 z2 z3
        generalize World.setCell (World.setCell w7 _ _) _ _ = w8 at *
        have HB8 := hide (HB6.out.trans (hb8.mono HB6.out.size))
        obtain ⟨⟨⟨r0, r1, r2, r3, r4, r5⟩, rf⟩, hb9⟩ := (HQ.out _ HB8.out).2.2
        have HBF := hide hb9
        clear hb8 hb9 hx8
        go_wp2
        refine bodyPost_ret (v := .tuple #[.agg #[.int .i64 0, .int .i64 0, .int .i64 0, .int .i64 0, .int .i64 0, .int .i64 0], .int .i64 7]) (by simp [results, Try.f30, go_sem, r0, r1, r2, r3, r4, r5]) rfl ⟨by rw [HF.out]; rfl, ?_⟩
        exact (((((HBF.out.setCell (le3 _) _).setCell (le3 _) _).setCell (le3 _) _).setCell (le3 _) _).setCell (le3 _) _).setCell (le3 _) _
    have HN2 := hide (show NX = peerF ls ((i : Int), op) from by rw [HNX.out]; simp [e2])
    clear e2
    go_wp2
    have k0 := (HQ.out _ HB6.out).1.1
    have k1 := (HNA.out _ (HQ.out _ HB6.out).2.2.2).2.1
    have k2 := (HNA.out _ (HQ.out _ HB6.out).2.2.2).2.2
    have HBW6 := hide (HQ.out _ HB6.out).2.2.2
    have HPE := hide (fun (w' : World) (hb : RowKit.Below W.heap.size W w') => refPeer_any (some ⟨b, o, none⟩) dn dc lA ln lc ls (i : Int) op w' hm2 (HNA.out w' hb).1.ls)
    obtain ⟨PR, hPR⟩ : ∃ PR, peerF ls ((i : Int), op) = PR := ⟨_, rfl⟩
    simp only [hPR] at HPE
    have HPR := hide hPR
    clear hPR
    obtain ⟨PV, hPV⟩ : ∃ PV, peerV PR = PV := ⟨_, rfl⟩
    simp only [hPV] at HPE
    obtain ⟨t1, t2, tb, hPT, HPW⟩ : ∃ t1 t2 tb, PV = .tuple #[.agg #[.int .i64 t1, .int .i64 t2], .bool tb] ∧ Hid (PR = if tb then some (t1, t2) else none) := by
      rw [← hPV]
      cases PR with
      | none => exact ⟨0, 0, false, rfl, hide rfl⟩
      | some x => exact ⟨x.1, x.2, true, rfl, hide rfl⟩
    subst hPT
    clear hPV
    have n1 : W.heap.size ≠ w6.heap.size := by have := HB6.out.size; have := HZ.out; omega
    have n2 : g ≠ w6.heap.size := by have := HB6.out.size; have := HZ.out; omega
    have n3 := Ne.symm n1
    have n4 := Ne.symm n2
    go_region_held3 (fun w' => w'.cell? ⟨W.heap.size, 0, none⟩ = some (.int .i64 (i : Int)) ∧ w'.cell? ⟨g, 0, none⟩ = some (.slice (some ⟨b, o, none⟩) dn dc) ∧ w'.cell? ⟨g, 1, none⟩ = some (.slice lA ln lc)) (go_keep) ((go_at_call 73; refine (HPE.out _ (by first | exact HBW6.out.drew | exact (HBW6.out.alloc HBW6.out.size _).drew)).mono ?_; rintro e w7 ⟨rfl, hb7⟩; have HB7 := hide (show RowKit.Below w6.heap.size w6 w7 from by first | exact ((RowKit.Below.refl _ w6).drew).trans hb7 | exact (((RowKit.Below.refl _ w6).alloc (Nat.le_refl _) _).drew).trans (hb7.mono (by simp))); have k0 := (HQ.out _ (HB6.out.trans (HB7.out.mono HB6.out.size))).1.1; have k1 := (HNA.out _ (HQ.out _ (HB6.out.trans (HB7.out.mono HB6.out.size))).2.2.2).2.1; have k2 := (HNA.out _ (HQ.out _ (HB6.out.trans (HB7.out.mono HB6.out.size))).2.2.2).2.2; (try (obtain ⟨z0, z1, z2, z3⟩ := (show Box2 w7 w6.heap.size 0 0 from Box2.below (w := (w6.alloc (.cells #[.int .i64 0, .int .i64 0] 41)).drew) (Box2.new w6 0 0 41) hb7 (by simp))))))
    · have hb8 : RowKit.Below w6.heap.size w6 (w7.alloc (.cells #[.int .i64 t1, .int .i64 t2] 41)) := HB7.out.alloc HB7.out.size _
      have hx8 := Box2.new w7 t1 t2 41
      clear k0 k1 k2 n1 n2 n3 n4
      obtain ⟨Q, hQ⟩ : ∃ Q, w7.heap.size = Q := ⟨_, rfl⟩
      rw [hQ] at hx8 ⊢
      clear hQ
      generalize World.alloc w7 _ = w8 at *
      cases tb
      · have HF := hide (show NX = none from by rw [HN2.out, HPR.out, HPW.out]; rfl)
        have HB8 := hide (HB6.out.trans (hb8.mono HB6.out.size))
        obtain ⟨⟨⟨r0, r1, r2, r3, r4, r5⟩, rf⟩, hb9⟩ := (HQ.out _ HB8.out).2.2
        have HBF := hide hb9
        clear hb8 hb9 hx8
        go_wp2
        refine bodyPost_ret (v := .tuple #[.agg #[.int .i64 0, .int .i64 0, .int .i64 0, .int .i64 0, .int .i64 0, .int .i64 0], .int .i64 7]) (by simp [results, Try.f30, go_sem, r0, r1, r2, r3, r4, r5]) rfl ⟨by rw [HF.out]; rfl, ?_⟩
        exact (((((HBF.out.setCell (le3 _) _).setCell (le3 _) _).setCell (le3 _) _).setCell (le3 _) _).setCell (le3 _) _).setCell (le3 _) _
      · have HF := hide (show NX = some (t1, t2) from by rw [HN2.out, HPR.out, HPW.out]; rfl)
        have HB8 := hide (HB6.out.trans (hb8.mono HB6.out.size))
        go_wp2
        go_quiet (fail)
        generalize hw9 : World.drewN _ _ = w9
        have hb9 : RowKit.Below w8.heap.size w8 w9 := by rw [← hw9]; first | exact below_drew _ _ _ | exact ((RowKit.Below.refl _ _).drew).trans (below_drew _ _ _)
        have hx9 : Box2 w9 Q t1 t2 := by rw [← hw9]; first | exact Box2.below hx8 (below_drew _ _ _) (Nat.lt_succ_self _) | exact Box2.below hx8 (((RowKit.Below.refl _ _).drew).trans (below_drew _ _ _)) (Nat.lt_succ_self _)
        clear hw9
        obtain ⟨⟨⟨r0, r1, r2, r3, r4, r5⟩, rf⟩, hbz⟩ := (HQ.out _ (HB8.out.trans (hb9.mono HB8.out.size))).2.2
        have HBF := hide hbz
        obtain ⟨u0, u1, _, _⟩ := hx9
        obtain ⟨v0, v1, v2, v3⟩ := HX6.out.below (hb8.trans (hb9.mono hb8.size)) (by have := HZ6.out; omega)
        clear hb8 hb9 hbz hx8
        go_wp2
        refine bodyPost_ret (v := .tuple #[.agg #[.int .i64 t1, .int .i64 t2, .int .i64 p.src, .int .i64 p.dst, .int .i64 p.sport, .int .i64 p.dport], .int .i64 0]) (by simp [results, Try.f30, go_sem, r0, r1, r2, r3, r4, r5]) rfl ⟨by rw [HF.out]; rfl, ?_⟩
        exact (((((HBF.out.setCell (le3 _) _).setCell (le3 _) _).setCell (le3 _) _).setCell (le3 _) _).setCell (le3 _) _).setCell (le3 _) _
    · have hb8 : RowKit.Below w6.heap.size w6 ((w7.setCell ⟨w6.heap.size, 0, none⟩ (.int .i64 t1)).setCell ⟨w6.heap.size, 1, none⟩ (.int .i64 t2)) := (HB7.out.setCell (Nat.le_refl _) _).setCell (Nat.le_refl _) _
      have hx8 : Box2 ((w7.setCell ⟨w6.heap.size, 0, none⟩ (.int .i64 t1)).setCell ⟨w6.heap.size, 1, none⟩ (.int .i64 t2)) w6.heap.size t1 t2 := by
        have c0 : (w7.setCell ⟨w6.heap.size, 0, none⟩ (.int .i64 t1)).cell? ⟨w6.heap.size, 1, none⟩ = some (.int .i64 0) := by
          rw [World.cell?_setCell_other _ _ _ _ (by simp)]; exact z1
        refine ⟨?_, ?_, ?_, ?_⟩
        · rw [World.cell?_setCell_other _ _ _ _ (by simp), World.cell?_setCell_same _ _ _ z0]
        · rw [World.cell?_setCell_same _ _ _ c0]
        · rw [World.frozen?_setCell, World.frozen?_setCell]; exact z2
        · rw [World.frozen?_setCell, World.frozen?_setCell]; exact z3
      clear k0 k1 k2 n1 n2 n3 n4 z0 z1 z2 z3
      generalize World.setCell (World.setCell w7 _ _) _ _ = w8 at *
      cases tb
      · have HF := hide (show NX = none from by rw [HN2.out, HPR.out, HPW.out]; rfl)
        have HB8 := hide (HB6.out.trans (hb8.mono HB6.out.size))
        obtain ⟨⟨⟨r0, r1, r2, r3, r4, r5⟩, rf⟩, hb9⟩ := (HQ.out _ HB8.out).2.2
        have HBF := hide hb9
        clear hb8 hb9 hx8
        go_wp2
        refine bodyPost_ret (v := .tuple #[.agg #[.int .i64 0, .int .i64 0, .int .i64 0, .int .i64 0, .int .i64 0, .int .i64 0], .int .i64 7]) (by simp [results, Try.f30, go_sem, r0, r1, r2, r3, r4, r5]) rfl ⟨by rw [HF.out]; rfl, ?_⟩
        exact (((((HBF.out.setCell (le3 _) _).setCell (le3 _) _).setCell (le3 _) _).setCell (le3 _) _).setCell (le3 _) _).setCell (le3 _) _
      · have HF := hide (show NX = some (t1, t2) from by rw [HN2.out, HPR.out, HPW.out]; rfl)
        have HB8 := hide (HB6.out.trans (hb8.mono HB6.out.size))
        go_wp2
        go_quiet (fail)
        generalize hw9 : World.drewN _ _ = w9
        have hb9 : RowKit.Below w8.heap.size w8 w9 := by rw [← hw9]; first | exact below_drew _ _ _ | exact ((RowKit.Below.refl _ _).drew).trans (below_drew _ _ _)
        have hx9 : Box2 w9 w6.heap.size t1 t2 := by rw [← hw9]; first | exact Box2.below hx8 (below_drew _ _ _) (Nat.lt_succ_self _) | exact Box2.below hx8 (((RowKit.Below.refl _ _).drew).trans (below_drew _ _ _)) (Nat.lt_succ_self _)
        clear hw9
        obtain ⟨⟨⟨r0, r1, r2, r3, r4, r5⟩, rf⟩, hbz⟩ := (HQ.out _ (HB8.out.trans (hb9.mono HB8.out.size))).2.2
        have HBF := hide hbz
        obtain ⟨u0, u1, _, _⟩ := hx9
        obtain ⟨v0, v1, v2, v3⟩ := HX6.out.below (hb8.trans (hb9.mono hb8.size)) (by have := HZ6.out; omega)
        clear hb8 hb9 hbz hx8
        go_wp2
        refine bodyPost_ret (v := .tuple #[.agg #[.int .i64 t1, .int .i64 t2, .int .i64 p.src, .int .i64 p.dst, .int .i64 p.sport, .int .i64 p.dport], .int .i64 0]) (by simp [results, Try.f30, go_sem, r0, r1, r2, r3, r4, r5]) rfl ⟨by rw [HF.out]; rfl, ?_⟩
        exact (((((HBF.out.setCell (le3 _) _).setCell (le3 _) _).setCell (le3 _) _).setCell (le3 _) _).setCell (le3 _) _).setCell (le3 _) _
end Go.Proofs.Ytpfjjpihnibnhaa
