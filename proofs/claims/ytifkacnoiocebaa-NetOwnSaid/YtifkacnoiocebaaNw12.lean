/- A part of the proof: StepBalI. -/
import Derived.Test.YtifkacnoiocebaaNw9
set_option linter.unusedVariables false
set_option linter.unusedSimpArgs false
set_option maxRecDepth 100000
set_option maxHeartbeats 8000000
namespace Go.Proofs.Ytifkacnoiocebaa
open Go.Maps Go.RowKit
theorem bal_in (g : Nat) (n : NetV) (f o b : Nat) (M : MemS) (k : Nat) (i : Nat) (r : DevV) (p : P4) (ch : Int) (W : World) (hM : MemAt W g n f o b M k) (hr : n.ds[i]? = some r) (hn : n.dn ≤ 10) (hp : p.ok) :
    Calls Try.prog 61 #[.pointer (some ⟨g, 0, none⟩), .agg #[.int .i64 (i : Int), .int .i64 1], .agg #[.int .i64 p.src, .int .i64 p.dst, .int .i64 p.sport, .int .i64 p.dport], .int .i64 ch] W fun e W' =>
      e = .returned (.tuple #[goneV 0 (if M.B ((i : Int), ⟨p.dst, r.addr, p.dport, p.sport⟩) = some p.src then ⟨r.addr, p.dst, p.sport, p.dport⟩ else p) .nilFunc, .int .i64 0]) ∧ Below W.heap.size W W' := by
  have hia : i64ok (i : Int) := by have : i < n.dn := (by rw [← hM.net.dlen]; exact (List.getElem?_eq_some_iff.1 hr).1); unfold i64ok; omega
  have hra : i64ok r.addr := (hM.net.dok r (List.mem_of_getElem? hr)).ad
  obtain ⟨u, tb, hlk, hmb⟩ : ∃ u tb, (∀ w', MemAt w' g n f o b M k → (Instr.lookup 99 (.map (some b)) (.agg #[.int .i64 (i : Int), .int .i64 p.dst, .int .i64 r.addr, .int .i64 p.dport, .int .i64 p.sport]) true).run Try.prog w' = .ok (.tuple #[.int .i64 u, .bool tb]) w') ∧
      M.B ((i : Int), ⟨p.dst, r.addr, p.dport, p.sport⟩) = if tb then some u else none := by
    have hk : ofDom ((i : Int), (⟨p.dst, r.addr, p.dport, p.sport⟩ : P4)) := ⟨hia, hp.2.1, hra, hp.2.2.2, hp.2.2.1⟩
    cases hO : M.B ((i : Int), ⟨p.dst, r.addr, p.dport, p.sport⟩) with
    | none =>
      refine ⟨0, false, fun w' hm => ?_, rfl⟩
      have := hm.lookB _ hk; rw [hO] at this; exact this
    | some x =>
      refine ⟨x, true, fun w' hm => ?_, rfl⟩
      have := hm.lookB _ hk; rw [hO] at this; exact this
  rw [hmb]
  have HLK := hide hlk
  clear hlk hmb hia hra
  obtain ⟨q, hq⟩ : ∃ q : P4, (if (if tb then some u else none) = some p.src then (⟨r.addr, p.dst, p.sport, p.dport⟩ : P4) else p) = q := ⟨_, rfl⟩
  rw [hq]
  have HQQ := hide hq
  clear hq
  have HMA := hide (fun (w' : World) (hb : Below W.heap.size W w') => hM.below hb)
  have hin : i < n.dn := by rw [← hM.net.dlen]; exact (List.getElem?_eq_some_iff.1 hr).1
  clear hM
  obtain ⟨dA, dn, dc, ds, lA, ln, lc, ls⟩ := n
  simp only at hr hn hin
  obtain ⟨db, od, rfl, hdb, _⟩ := (HMA.out _ (Below.refl _ _)).net.ds.2 (by show 0 < dn; omega)
  have HRR := hide hr
  clear hr hdb
  have i1 : (0 : Int) ≤ (i : Int) := by omega
  have i2 : (i : Int) < (dn : Int) := by omega
  have i3 : (dn : Int) ≤ 10 := by omega
  go_enter Try.func61, Try.ntmps61
  go_wp2
  generalize hG : World.alloc (World.alloc (World.alloc (World.alloc W _) _) _) _ = W1
  have HW1 := hide (show W1.heap.size = W.heap.size + 4 from by rw [← hG]; simp)
  have HQ := hide (fun (B : Nat) (w' : World) (hb : Below B W1 w') => boxesV (B := B) [(#[.pointer (some ⟨g, 0, none⟩)], 72), (#[.int .i64 (i : Int), .int .i64 1], 45), (#[.int .i64 p.src, .int .i64 p.dst, .int .i64 p.sport, .int .i64 p.dport], 38), (#[.int .i64 0, .int .i64 0, .int .i64 0, .int .i64 0, .int .i64 0, .nilFunc], 110)] W (W' := w') (by rw [← hG] at hb; exact hb))
  clear hG
  have HBB := hide (fun (w' : World) (hb : Below W1.heap.size W1 w') => show Below W.heap.size W w' from (HQ.out _ w' hb).2 (by rw [HW1.out]; omega))
  have HF := hide (fun (w' : World) (hb : Below W1.heap.size W1 w') => show
      (w'.cell? ⟨W.heap.size, 0, none⟩ = some (.pointer (some ⟨g, 0, none⟩)) ∧ w'.cell? ⟨W.heap.size + 1, 0, none⟩ = some (.int .i64 (i : Int)) ∧
      w'.cell? ⟨g, 0, none⟩ = some (.slice (some ⟨db, od, none⟩) dn dc) ∧
      (w'.cell? ⟨db, od + i * 7, none⟩ = some (.string r.name) ∧ w'.cell? ⟨db, od + i * 7 + 1, none⟩ = some (.int .i64 r.kind) ∧ w'.cell? ⟨db, od + i * 7 + 2, none⟩ = some (.int .i64 r.addr) ∧ w'.cell? ⟨db, od + i * 7 + 3, none⟩ = some (.int .u8 r.pool) ∧
      w'.cell? ⟨db, od + i * 7 + 4, none⟩ = some (.slice r.bA r.bn r.bc) ∧ w'.cell? ⟨db, od + i * 7 + 5, none⟩ = some (.slice r.rA r.rn r.rc) ∧ w'.cell? ⟨db, od + i * 7 + 6, none⟩ = some (.slice r.tA r.tn r.tc))) from by
    have x0 := (HQ.out _ w' hb).1 0 _ _ rfl (by rw [HW1.out]; omega)
    have x1 := (HQ.out _ w' hb).1 1 _ _ rfl (by rw [HW1.out]; omega)
    have hm := HMA.out _ (HBB.out w' hb)
    obtain ⟨_, q0, q1, q2, q3, q4, q5, q6⟩ := dev_get hm.net.ds HRR.out
    exact ⟨x0.1 0 _ rfl, x1.1 0 _ rfl, hm.c0, q0, q1, q2, q3, q4, q5, q6⟩)
  refine wp_region_E (fun w' => Below W1.heap.size W1 w') 10 (by kernel_rfl) ((Below.refl _ _).drew) (fun hS => ?_)
  refine rL 0 [10] rfl hS (by intro w hSw; obtain ⟨s0, s1, s2, ⟨s3, s4, s5, s6, s7, s8, s9⟩⟩ := HF.out _ hSw; go_simp; try with_reducible rfl) ?_
  refine rP 1 hS ?_
  refine rP 2 hS ?_
  refine rP 3 hS ?_
  refine rL 4 [10] rfl hS (by intro w hSw; obtain ⟨s0, s1, s2, ⟨s3, s4, s5, s6, s7, s8, s9⟩⟩ := HF.out _ hSw; go_simp; try with_reducible rfl) ?_
  refine rP 5 hS ?_
  refine rL 6 [10] rfl hS (by intro w hSw; obtain ⟨s0, s1, s2, ⟨s3, s4, s5, s6, s7, s8, s9⟩⟩ := HF.out _ hSw; go_simp; try with_reducible rfl) ?_
  refine rP 7 hS ?_
  refine rL 8 [10] rfl hS (by intro w hSw; obtain ⟨s0, s1, s2, ⟨s3, s4, s5, s6, s7, s8, s9⟩⟩ := HF.out _ hSw; go_simp; try with_reducible rfl) ?_
  intro inv
  refine rO 9 inv fun K hK => ?_
  go_simp
  refine hK.out _ _ (fun _ => (hS.alloc hS.size _)) ?_
  clear hK K hS inv
  intro inv
  try simp only [Act.put, nrmA, nrmB, nrmC]
  have hxz : BoxV ((W1.alloc (.cells #[.string ⟨#[]⟩, .int .i64 0, .int .i64 0, .int .u8 0, .slice none 0 0, .slice none 0 0, .slice none 0 0] 61)).drew) W1.heap.size #[.string ⟨#[]⟩, .int .i64 0, .int .i64 0, .int .u8 0, .slice none 0 0, .slice none 0 0, .slice none 0 0] := (BoxV.new W1 _ _).below ((Below.refl (W1.heap.size + 1) _).drew) (Nat.lt_succ_self _)
  have hbz : Below W1.heap.size W1 ((W1.alloc (.cells #[.string ⟨#[]⟩, .int .i64 0, .int .i64 0, .int .u8 0, .slice none 0 0, .slice none 0 0, .slice none 0 0] 61)).drew) := ((Below.refl _ _).alloc (Nat.le_refl _) _).drew
  have HXZ := hide hxz
  clear hxz
  refine rT 10 inv fun K hK => ?_
  rw [if_pos (by rfl)]
  refine wp_store_mid _ _ _ rfl _ _ r.arr rfl rfl (HXZ.out.there (Nat.le_refl _)) info_device (by first | exact DevV.arr_one _ | simp [Value.oneCell']) ?_
  refine hK.out _ _ ?_
  clear hK K inv
  intro inv
  try simp only [Act.put, nrmA, nrmB, nrmC]
  refine rD ?_
  clear inv
  have hA : AtDev W g ⟨some ⟨db, od, none⟩, dn, dc, ds, lA, ln, lc, ls⟩ f o b M k i 1 p r W1.heap.size (((W1.alloc (.cells #[.string ⟨#[]⟩, .int .i64 0, .int .i64 0, .int .u8 0, .slice none 0 0, .slice none 0 0, .slice none 0 0] 61)).drew).setCells W1.heap.size 0 r.arr.toList) := by
    have hb2 := below_setCells (B := W1.heap.size) (Nat.le_refl _) r.arr.toList 0 _ hbz
    have h1 := HW1.out
    have hd := HXZ.out.all r.arr.toList rfl
    rw [Array.toArray_toList] at hd
    have hlt : W1.heap.size < (((W1.alloc (.cells #[.string ⟨#[]⟩, .int .i64 0, .int .i64 0, .int .u8 0, .slice none 0 0, .slice none 0 0, .slice none 0 0] 61)).drew).setCells W1.heap.size 0 r.arr.toList).heap.size := by
      have := (below_setCells (B := W1.heap.size) (Nat.le_refl _) r.arr.toList 0 ((W1.alloc (.cells #[.string ⟨#[]⟩, .int .i64 0, .int .i64 0, .int .u8 0, .slice none 0 0, .slice none 0 0, .slice none 0 0] 61)).drew) (Below.refl _ _)).size
      have e : ((W1.alloc (.cells #[.string ⟨#[]⟩, .int .i64 0, .int .i64 0, .int .u8 0, .slice none 0 0, .slice none 0 0, .slice none 0 0] 61)).drew).heap.size = W1.heap.size + 1 := by simp
      omega
    exact ⟨HMA.out, HBB.out _ hb2, (HQ.out _ _ hb2).1 0 _ _ rfl (by omega), (HQ.out _ _ hb2).1 1 _ _ rfl (by omega), (HQ.out _ _ hb2).1 2 _ _ rfl (by omega), (HQ.out _ _ hb2).1 3 _ _ rfl (by omega), hd, by omega, hlt⟩
  obtain ⟨G, hG⟩ : ∃ G, W1.heap.size = G := ⟨_, rfl⟩
  rw [hG] at hA ⊢
  clear hG hbz HXZ HF HQ HBB HMA HW1
  generalize World.setCells _ _ _ _ = w2 at *
  have HA := hide hA
  clear hA i1 i2 i3
  have k1 : w2.cell? ⟨W.heap.size + 1, 1, none⟩ = some (.int .i64 1) := HA.out.b1.1 1 _ rfl
  go_wp2
  clear k1
  have HA2 := hide (fun (w' : World) (hb : Below w2.heap.size w2 w') => HA.out.below hb)
  refine wp_region_E (fun w' => Below w2.heap.size w2 w') 20 (by kernel_rfl) ((Below.refl _ _).drew) (fun hS => ?_)
  refine rL 0 [20] rfl hS (by intro w hSw; have hx := HA2.out _ hSw; have t0 := hx.b0.1 0 _ rfl; have t1 := hx.b1.1 0 _ rfl; have t2 := hx.b2.1 1 _ rfl; have t5 := hx.b2.1 2 _ rfl; have t6 := hx.b2.1 3 _ rfl; have t7 : w.cell? ⟨G, 2, none⟩ = some (.int .i64 r.addr) := hx.bd.1 2 _ rfl; have t3 := hx.mem.c4; have t4 := HLK.out _ hx.mem; clear hx; go_simp; try with_reducible rfl) ?_
  refine rP 1 hS ?_
  refine rP 2 hS ?_
  refine rL 3 [20] rfl hS (by intro w hSw; have hx := HA2.out _ hSw; have t0 := hx.b0.1 0 _ rfl; have t1 := hx.b1.1 0 _ rfl; have t2 := hx.b2.1 1 _ rfl; have t5 := hx.b2.1 2 _ rfl; have t6 := hx.b2.1 3 _ rfl; have t7 : w.cell? ⟨G, 2, none⟩ = some (.int .i64 r.addr) := hx.bd.1 2 _ rfl; have t3 := hx.mem.c4; have t4 := HLK.out _ hx.mem; clear hx; go_simp; try with_reducible rfl) ?_
  refine rP 4 hS ?_
  refine rL 5 [20] rfl hS (by intro w hSw; have hx := HA2.out _ hSw; have t0 := hx.b0.1 0 _ rfl; have t1 := hx.b1.1 0 _ rfl; have t2 := hx.b2.1 1 _ rfl; have t5 := hx.b2.1 2 _ rfl; have t6 := hx.b2.1 3 _ rfl; have t7 : w.cell? ⟨G, 2, none⟩ = some (.int .i64 r.addr) := hx.bd.1 2 _ rfl; have t3 := hx.mem.c4; have t4 := HLK.out _ hx.mem; clear hx; go_simp; try with_reducible rfl) ?_
  refine rP 6 hS ?_
  refine rL 7 [20] rfl hS (by intro w hSw; have hx := HA2.out _ hSw; have t0 := hx.b0.1 0 _ rfl; have t1 := hx.b1.1 0 _ rfl; have t2 := hx.b2.1 1 _ rfl; have t5 := hx.b2.1 2 _ rfl; have t6 := hx.b2.1 3 _ rfl; have t7 : w.cell? ⟨G, 2, none⟩ = some (.int .i64 r.addr) := hx.bd.1 2 _ rfl; have t3 := hx.mem.c4; have t4 := HLK.out _ hx.mem; clear hx; go_simp; try with_reducible rfl) ?_
  refine rP 8 hS ?_
  refine rL 9 [20] rfl hS (by intro w hSw; have hx := HA2.out _ hSw; have t0 := hx.b0.1 0 _ rfl; have t1 := hx.b1.1 0 _ rfl; have t2 := hx.b2.1 1 _ rfl; have t5 := hx.b2.1 2 _ rfl; have t6 := hx.b2.1 3 _ rfl; have t7 : w.cell? ⟨G, 2, none⟩ = some (.int .i64 r.addr) := hx.bd.1 2 _ rfl; have t3 := hx.mem.c4; have t4 := HLK.out _ hx.mem; clear hx; go_simp; try with_reducible rfl) ?_
  refine rP 10 hS ?_
  refine rL 11 [20] rfl hS (by intro w hSw; have hx := HA2.out _ hSw; have t0 := hx.b0.1 0 _ rfl; have t1 := hx.b1.1 0 _ rfl; have t2 := hx.b2.1 1 _ rfl; have t5 := hx.b2.1 2 _ rfl; have t6 := hx.b2.1 3 _ rfl; have t7 : w.cell? ⟨G, 2, none⟩ = some (.int .i64 r.addr) := hx.bd.1 2 _ rfl; have t3 := hx.mem.c4; have t4 := HLK.out _ hx.mem; clear hx; go_simp; try with_reducible rfl) ?_
  refine rP 12 hS ?_
  refine rL 13 [20] rfl hS (by intro w hSw; have hx := HA2.out _ hSw; have t0 := hx.b0.1 0 _ rfl; have t1 := hx.b1.1 0 _ rfl; have t2 := hx.b2.1 1 _ rfl; have t5 := hx.b2.1 2 _ rfl; have t6 := hx.b2.1 3 _ rfl; have t7 : w.cell? ⟨G, 2, none⟩ = some (.int .i64 r.addr) := hx.bd.1 2 _ rfl; have t3 := hx.mem.c4; have t4 := HLK.out _ hx.mem; clear hx; go_simp; try with_reducible rfl) ?_
  refine rP 14 hS ?_
  refine rP 15 hS ?_
  refine rL 16 [20] rfl hS (by intro w hSw; have hx := HA2.out _ hSw; have t0 := hx.b0.1 0 _ rfl; have t1 := hx.b1.1 0 _ rfl; have t2 := hx.b2.1 1 _ rfl; have t5 := hx.b2.1 2 _ rfl; have t6 := hx.b2.1 3 _ rfl; have t7 : w.cell? ⟨G, 2, none⟩ = some (.int .i64 r.addr) := hx.bd.1 2 _ rfl; have t3 := hx.mem.c4; have t4 := HLK.out _ hx.mem; clear hx; go_simp; try with_reducible rfl) ?_
  refine rP 17 hS ?_
  refine rP 18 hS ?_
  refine rP 19 hS ?_
  intro inv
  refine rT 20 inv fun K hK => ?_
  go_simp
  refine hK.out _ _ ?_
  clear hK K inv
  intro inv
  try simp only [Act.put, nrmA, nrmB, nrmC]
  refine rT 21 inv fun K hK => ?_
  go_simp
  refine hK.out _ _ ?_
  clear hK K inv
  intro inv
  try simp only [Act.put, nrmA, nrmB, nrmC]
  refine rD ?_
  clear inv
  have ha3 := HA2.out w2.drew ((Below.refl _ _).drew)
  clear hS HA2 HA HLK
  generalize World.drew w2 = w3 at *
  have HA3 := hide ha3
  clear ha3
  obtain ⟨y0, y1, y2, y3⟩ : w3.cell? ⟨W.heap.size + 1 + 1, 0, none⟩ = some (.int .i64 p.src) ∧ w3.cell? ⟨W.heap.size + 1 + 1, 1, none⟩ = some (.int .i64 p.dst) ∧ w3.cell? ⟨W.heap.size + 1 + 1, 2, none⟩ = some (.int .i64 p.sport) ∧ w3.cell? ⟨W.heap.size + 1 + 1, 3, none⟩ = some (.int .i64 p.dport) := ⟨HA3.out.b2.1 0 _ rfl, HA3.out.b2.1 1 _ rfl, HA3.out.b2.1 2 _ rfl, HA3.out.b2.1 3 _ rfl⟩
  cases tb
  · have HN2 := hide (show (⟨p.src, p.dst, p.sport, p.dport⟩ : P4) = q from by rw [← HQQ.out]; rfl)
    clear HQQ
    go_wp2_with ((with_reducible show wpList _ _ _ (⟨none, .store 110 (.tmp 8) _, _, _, _, _⟩ :: _) _ _); refine wpList_store_mid rfl 110 (.tmp 8) (.tmp 59) rfl (W.heap.size + 1 + 1 + 1) 0 #[.int .i64 0, .int .i64 p.src, .int .i64 p.dst, .int .i64 p.sport, .int .i64 p.dport, .nilFunc] rfl rfl (HA3.out.b3.there (Nat.le_refl _)) info_gone (by simp [Value.oneCell']) ?_)
    have hx7 := BoxV.all HA3.out.b3 [.int .i64 0, .int .i64 p.src, .int .i64 p.dst, .int .i64 p.sport, .int .i64 p.dport, .nilFunc] rfl
    have hb7 := below_setCells (B := W.heap.size) (N := W.heap.size + 1 + 1 + 1) (by omega) [.int .i64 0, .int .i64 p.src, .int .i64 p.dst, .int .i64 p.sport, .int .i64 p.dport, .nilFunc] 0 _ HA3.out.bl
    generalize World.setCells _ _ _ _ = w7 at *
    obtain ⟨z0, z1, z2, z3, z4, z5⟩ : w7.cell? ⟨W.heap.size + 1 + 1 + 1, 0, none⟩ = some (.int .i64 0) ∧ w7.cell? ⟨W.heap.size + 1 + 1 + 1, 1, none⟩ = some (.int .i64 p.src) ∧ w7.cell? ⟨W.heap.size + 1 + 1 + 1, 2, none⟩ = some (.int .i64 p.dst) ∧ w7.cell? ⟨W.heap.size + 1 + 1 + 1, 3, none⟩ = some (.int .i64 p.sport) ∧ w7.cell? ⟨W.heap.size + 1 + 1 + 1, 4, none⟩ = some (.int .i64 p.dport) ∧ w7.cell? ⟨W.heap.size + 1 + 1 + 1, 5, none⟩ = some .nilFunc :=
      ⟨hx7.1 0 _ rfl, hx7.1 1 _ rfl, hx7.1 2 _ rfl, hx7.1 3 _ rfl, hx7.1 4 _ rfl, hx7.1 5 _ rfl⟩
    refine bodyPost_ret (v := .tuple #[goneV 0 ⟨p.src, p.dst, p.sport, p.dport⟩ .nilFunc, .int .i64 0]) (by simp [results, Try.f61, go_sem, z0, z1, z2, z3, z4, z5, goneV]) rfl ⟨by rw [← HN2.out], hb7⟩
  by_cases e1 : u = p.src
  · have HN2 := hide (show (⟨r.addr, p.dst, p.sport, p.dport⟩ : P4) = q from by rw [← HQQ.out, e1]; simp)
    have d1 : (u == p.src) = true := by simpa using e1
    have k2 : w3.cell? ⟨G, 2, none⟩ = some (.int .i64 r.addr) := HA3.out.bd.1 2 _ rfl
    have kf := HA3.out.b2.2
    clear HQQ e1
    go_wp2_with ((with_reducible show wpList _ _ _ (⟨none, .store 110 (.tmp 8) _, _, _, _, _⟩ :: _) _ _); refine wpList_store_mid rfl 110 (.tmp 8) (.tmp 59) rfl (W.heap.size + 1 + 1 + 1) 0 #[.int .i64 0, .int .i64 r.addr, .int .i64 p.dst, .int .i64 p.sport, .int .i64 p.dport, .nilFunc] rfl rfl ((HA3.out.b3.far ⟨W.heap.size + 1 + 1, 0, none⟩ (.int .i64 r.addr) (by show W.heap.size + 1 + 1 ≠ _; omega)).there (Nat.le_refl _)) info_gone (by simp [Value.oneCell']) ?_)
    have hx7 := BoxV.all (HA3.out.b3.far ⟨W.heap.size + 1 + 1, 0, none⟩ (.int .i64 r.addr) (by show W.heap.size + 1 + 1 ≠ _; omega)) [.int .i64 0, .int .i64 r.addr, .int .i64 p.dst, .int .i64 p.sport, .int .i64 p.dport, .nilFunc] rfl
    have hb7 := below_setCells (B := W.heap.size) (N := W.heap.size + 1 + 1 + 1) (by omega) [.int .i64 0, .int .i64 r.addr, .int .i64 p.dst, .int .i64 p.sport, .int .i64 p.dport, .nilFunc] 0 _ (HA3.out.bl.setCell (p := ⟨W.heap.size + 1 + 1, 0, none⟩) (by show W.heap.size ≤ W.heap.size + 1 + 1; omega) (.int .i64 r.addr))
    generalize World.setCells _ _ _ _ = w7 at *
    obtain ⟨z0, z1, z2, z3, z4, z5⟩ : w7.cell? ⟨W.heap.size + 1 + 1 + 1, 0, none⟩ = some (.int .i64 0) ∧ w7.cell? ⟨W.heap.size + 1 + 1 + 1, 1, none⟩ = some (.int .i64 r.addr) ∧ w7.cell? ⟨W.heap.size + 1 + 1 + 1, 2, none⟩ = some (.int .i64 p.dst) ∧ w7.cell? ⟨W.heap.size + 1 + 1 + 1, 3, none⟩ = some (.int .i64 p.sport) ∧ w7.cell? ⟨W.heap.size + 1 + 1 + 1, 4, none⟩ = some (.int .i64 p.dport) ∧ w7.cell? ⟨W.heap.size + 1 + 1 + 1, 5, none⟩ = some .nilFunc :=
      ⟨hx7.1 0 _ rfl, hx7.1 1 _ rfl, hx7.1 2 _ rfl, hx7.1 3 _ rfl, hx7.1 4 _ rfl, hx7.1 5 _ rfl⟩
    refine bodyPost_ret (v := .tuple #[goneV 0 ⟨r.addr, p.dst, p.sport, p.dport⟩ .nilFunc, .int .i64 0]) (by simp [results, Try.f61, go_sem, z0, z1, z2, z3, z4, z5, goneV]) rfl ⟨by rw [← HN2.out], hb7⟩
  · have HN2 := hide (show (⟨p.src, p.dst, p.sport, p.dport⟩ : P4) = q from by rw [← HQQ.out]; simp [e1])
    have d1 : (u == p.src) = false := by simpa using e1
    clear HQQ e1
    go_wp2_with ((with_reducible show wpList _ _ _ (⟨none, .store 110 (.tmp 8) _, _, _, _, _⟩ :: _) _ _); refine wpList_store_mid rfl 110 (.tmp 8) (.tmp 59) rfl (W.heap.size + 1 + 1 + 1) 0 #[.int .i64 0, .int .i64 p.src, .int .i64 p.dst, .int .i64 p.sport, .int .i64 p.dport, .nilFunc] rfl rfl (HA3.out.b3.there (Nat.le_refl _)) info_gone (by simp [Value.oneCell']) ?_)
    have hx7 := BoxV.all HA3.out.b3 [.int .i64 0, .int .i64 p.src, .int .i64 p.dst, .int .i64 p.sport, .int .i64 p.dport, .nilFunc] rfl
    have hb7 := below_setCells (B := W.heap.size) (N := W.heap.size + 1 + 1 + 1) (by omega) [.int .i64 0, .int .i64 p.src, .int .i64 p.dst, .int .i64 p.sport, .int .i64 p.dport, .nilFunc] 0 _ HA3.out.bl
    generalize World.setCells _ _ _ _ = w7 at *
    obtain ⟨z0, z1, z2, z3, z4, z5⟩ : w7.cell? ⟨W.heap.size + 1 + 1 + 1, 0, none⟩ = some (.int .i64 0) ∧ w7.cell? ⟨W.heap.size + 1 + 1 + 1, 1, none⟩ = some (.int .i64 p.src) ∧ w7.cell? ⟨W.heap.size + 1 + 1 + 1, 2, none⟩ = some (.int .i64 p.dst) ∧ w7.cell? ⟨W.heap.size + 1 + 1 + 1, 3, none⟩ = some (.int .i64 p.sport) ∧ w7.cell? ⟨W.heap.size + 1 + 1 + 1, 4, none⟩ = some (.int .i64 p.dport) ∧ w7.cell? ⟨W.heap.size + 1 + 1 + 1, 5, none⟩ = some .nilFunc :=
      ⟨hx7.1 0 _ rfl, hx7.1 1 _ rfl, hx7.1 2 _ rfl, hx7.1 3 _ rfl, hx7.1 4 _ rfl, hx7.1 5 _ rfl⟩
    refine bodyPost_ret (v := .tuple #[goneV 0 ⟨p.src, p.dst, p.sport, p.dport⟩ .nilFunc, .int .i64 0]) (by simp [results, Try.f61, go_sem, z0, z1, z2, z3, z4, z5, goneV]) rfl ⟨by rw [← HN2.out], hb7⟩
end Go.Proofs.Ytifkacnoiocebaa
