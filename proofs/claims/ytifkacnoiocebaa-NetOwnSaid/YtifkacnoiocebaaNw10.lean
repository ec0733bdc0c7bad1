/- A part of the proof: StepFire, StepMine, StepNatI. -/
import Derived.Test.YtifkacnoiocebaaNw9
set_option linter.unusedVariables false
set_option linter.unusedSimpArgs false
set_option maxRecDepth 100000
set_option maxHeartbeats 8000000
namespace Go.Proofs.Ytifkacnoiocebaa
open Go.Maps Go.RowKit
theorem fire_in (g : Nat) (n : NetV) (f o b : Nat) (M : MemS) (k : Nat) (i : Nat) (r : DevV) (p : P4) (W : World) (hM : MemAt W g n f o b M k) (hr : n.ds[i]? = some r) (hn : n.dn ≤ 10) (hp : p.ok) (hrn : r.rn ≤ 9223372036854775807) :
    Calls Try.prog 59 #[.pointer (some ⟨g, 0, none⟩), .agg #[.int .i64 (i : Int), .int .i64 0], .agg #[.int .i64 p.src, .int .i64 p.dst, .int .i64 p.sport, .int .i64 p.dport]] W fun e W' =>
      ∃ v, e = .returned (.tuple #[goneV 1 p v, .bool (letsB r.rs p)]) ∧ KnowAt W.heap.size W' g n f o b v (.flow ((i : Int), p)) ∧ Below W.heap.size W W' := by
  have HMA := hide (fun (w' : World) (hb : Below W.heap.size W w') => hM.below hb)
  have hin : i < n.dn := by rw [← hM.net.dlen]; exact (List.getElem?_eq_some_iff.1 hr).1
  have hgl := hM.glt
  clear hM
  obtain ⟨dA, dn, dc, ds, lA, ln, lc, ls⟩ := n
  simp only at hr hn hin
  obtain ⟨db, od, rfl, hdb, _⟩ := (HMA.out _ (Below.refl _ _)).net.ds.2 (by show 0 < dn; omega)
  have HRR := hide hr
  clear hr
  have i1 : (0 : Int) ≤ (i : Int) := by omega
  have i2 : (i : Int) < (dn : Int) := by omega
  have i3 : (dn : Int) ≤ 10 := by omega
  go_enter Try.func59, Try.ntmps59
  go_wp2
  generalize hG : World.alloc (World.alloc (World.alloc (World.alloc W _) _) _) _ = W1
  have HW1 := hide (show W1.heap.size = W.heap.size + 4 from by rw [← hG]; simp)
  have HQ := hide (fun (B : Nat) (w' : World) (hb : Below B W1 w') => boxesV (B := B) [(#[.pointer (some ⟨g, 0, none⟩)], 72), (#[.int .i64 (i : Int), .int .i64 0], 45), (#[.int .i64 p.src, .int .i64 p.dst, .int .i64 p.sport, .int .i64 p.dport], 38), (#[.int .i64 0, .int .i64 0, .int .i64 0, .int .i64 0, .int .i64 0, .nilFunc], 110)] W (W' := w') (by rw [← hG] at hb; exact hb))
  have HL := hide (fun (w' : World) (hb : Below W.heap.size W w') => lets_walk r.rs r.rA r.rn r.rc p w' hrn hp ((HMA.out _ hb).net.dok r (List.mem_of_getElem? HRR.out)).rs)
  clear hG
  have HBB := hide (fun (w' : World) (hb : Below (W.heap.size + 3) W1 w') => show Below W.heap.size W w' from (HQ.out _ w' hb).2 (by omega))
  have HF := hide (fun (w' : World) (hb : Below (W.heap.size + 3) W1 w') => show
      (w'.cell? ⟨W.heap.size, 0, none⟩ = some (.pointer (some ⟨g, 0, none⟩)) ∧ w'.cell? ⟨W.heap.size + 1, 0, none⟩ = some (.int .i64 (i : Int)) ∧
      (w'.cell? ⟨W.heap.size + 1 + 1, 0, none⟩ = some (.int .i64 p.src) ∧ w'.cell? ⟨W.heap.size + 1 + 1, 1, none⟩ = some (.int .i64 p.dst) ∧ w'.cell? ⟨W.heap.size + 1 + 1, 2, none⟩ = some (.int .i64 p.sport) ∧ w'.cell? ⟨W.heap.size + 1 + 1, 3, none⟩ = some (.int .i64 p.dport)) ∧
      w'.cell? ⟨g, 0, none⟩ = some (.slice (some ⟨db, od, none⟩) dn dc) ∧ w'.cell? ⟨db, od + i * 7 + 5, none⟩ = some (.slice r.rA r.rn r.rc)) from by
    have x0 := (HQ.out _ w' hb).1 0 _ _ rfl (by omega)
    have x1 := (HQ.out _ w' hb).1 1 _ _ rfl (by omega)
    have x2 := (HQ.out _ w' hb).1 2 _ _ rfl (by omega)
    have hm := HMA.out _ (HBB.out w' hb)
    exact ⟨x0.1 0 _ rfl, x1.1 0 _ rfl, ⟨x2.1 0 _ rfl, x2.1 1 _ rfl, x2.1 2 _ rfl, x2.1 3 _ rfl⟩, hm.c0, (dev_get hm.net.ds HRR.out).2.2.2.2.2.2.1⟩)
  have q3 := HQ.out (W.heap.size + 4) W1 (Below.refl _ _)
  have HX := hide (fun (w' : World) (hb : Below (W.heap.size + 4) W1 w') => show BoxV w' (W.heap.size + 1 + 1 + 1) #[.int .i64 0, .int .i64 0, .int .i64 0, .int .i64 0, .int .i64 0, .nilFunc] from (HQ.out _ w' hb).1 3 _ _ rfl (by omega))
  clear q3
  refine wp_region_E (fun w' => Below (W.heap.size + 4) W1 w') 15 (by kernel_rfl) ((Below.refl _ _).drew) (fun hS => ?_)
  refine rL 0 [15] rfl hS (by intro w hSw; obtain ⟨s0, s1, ⟨s2, s3, s4, s5⟩, s6, s7⟩ := HF.out _ (hSw.mono (by omega)); go_simp; try with_reducible rfl) ?_
  refine rP 1 hS ?_
  refine rP 2 hS ?_
  refine rL 3 [4, 5, 6, 7, 10, 11, 12, 14, 15] rfl hS (by intro w hSw; obtain ⟨s0, s1, ⟨s2, s3, s4, s5⟩, s6, s7⟩ := HF.out _ (hSw.mono (by omega)); go_simp; try with_reducible rfl) ?_
  refine rP 4 hS ?_
  refine rP 5 hS ?_
  refine rP 6 hS ?_
  refine rL 7 [10, 11, 12, 14, 15] rfl hS (by intro w hSw; obtain ⟨s0, s1, ⟨s2, s3, s4, s5⟩, s6, s7⟩ := HF.out _ (hSw.mono (by omega)); go_simp; try with_reducible rfl) ?_
  refine rP 8 hS ?_
  refine rL 9 [10, 11, 12, 14, 15] rfl hS (by intro w hSw; obtain ⟨s0, s1, ⟨s2, s3, s4, s5⟩, s6, s7⟩ := HF.out _ (hSw.mono (by omega)); go_simp; try with_reducible rfl) ?_
  refine rP 10 hS ?_
  refine rP 11 hS ?_
  refine rL 12 [14, 15] rfl hS (by intro w hSw; obtain ⟨s0, s1, ⟨s2, s3, s4, s5⟩, s6, s7⟩ := HF.out _ (hSw.mono (by omega)); go_simp; try with_reducible rfl) ?_
  refine rL 13 [14, 15] rfl hS (by intro w hSw; obtain ⟨s0, s1, ⟨s2, s3, s4, s5⟩, s6, s7⟩ := HF.out _ (hSw.mono (by omega)); go_simp; try with_reducible rfl) ?_
  intro inv
  refine rO 14 inv fun K hK => ?_
  go_simp
  go_at_call 58
  refine (HL.out _ (HBB.out _ (hS.mono (by omega)))).mono ?_
  rintro e w2 ⟨rfl, hb⟩
  have hS2 : Below (W.heap.size + 4) W1 w2 := hS.trans (hb.mono (by have := hS.size; have := HW1.out; omega))
  go_wp2_with fail
  refine hK.out _ _ (fun _ => hS2) ?_
  clear hK K hS inv
  intro inv
  try simp only [Act.put, nrmA, nrmB, nrmC]
  have HB2 := hide (show Below W.heap.size W w2 from HBB.out _ (hS2.mono (by omega)))
  have HX2 := hide (HX.out _ hS2)
  have HBS := hide (hS2.mono (B' := W.heap.size + 3) (by omega))
  clear hS2 hb
  refine rT 15 inv fun K hK => ?_
  rw [if_pos (by rfl)]
  refine wp_store_mid _ _ _ rfl _ _ #[.int .i64 1, .int .i64 p.src, .int .i64 p.dst, .int .i64 p.sport, .int .i64 p.dport, .func (.func 70) #[] #[.pointer (some ⟨W.heap.size, 0, none⟩), .pointer (some ⟨W.heap.size + 1, 0, none⟩), .pointer (some ⟨W.heap.size + 1 + 1, 0, none⟩)]] rfl rfl (HX2.out.there (Nat.le_refl _)) info_gone (by first | exact DevV.arr_one _ | simp [Value.oneCell']) ?_
  refine hK.out _ _ ?_
  clear hK K inv
  intro inv
  try simp only [Act.put, nrmA, nrmB, nrmC]
  refine rT 16 inv fun K hK => ?_
  go_simp
  refine hK.out _ _ ?_
  clear hK K inv
  intro inv
  try simp only [Act.put, nrmA, nrmB, nrmC]
  refine rD ?_
  clear inv
  go_wp2
  have hx3 := HX2.out.all [.int .i64 1, .int .i64 p.src, .int .i64 p.dst, .int .i64 p.sport, .int .i64 p.dport, .func (.func 70) #[] #[.pointer (some ⟨W.heap.size, 0, none⟩), .pointer (some ⟨W.heap.size + 1, 0, none⟩), .pointer (some ⟨W.heap.size + 1 + 1, 0, none⟩)]] rfl
  have hb3 := below_setCells (B := W.heap.size + 3) (N := W.heap.size + 1 + 1 + 1) (Nat.le_refl _) [.int .i64 1, .int .i64 p.src, .int .i64 p.dst, .int .i64 p.sport, .int .i64 p.dport, .func (.func 70) #[] #[.pointer (some ⟨W.heap.size, 0, none⟩), .pointer (some ⟨W.heap.size + 1, 0, none⟩), .pointer (some ⟨W.heap.size + 1 + 1, 0, none⟩)]] 0 w2 ((HBS.out))
  generalize World.setCells w2 _ _ _ = w3 at *
  obtain ⟨z0, z1, z2, z3, z4, z5⟩ : w3.cell? ⟨W.heap.size + 1 + 1 + 1, 0, none⟩ = some (.int .i64 1) ∧ w3.cell? ⟨W.heap.size + 1 + 1 + 1, 1, none⟩ = some (.int .i64 p.src) ∧ w3.cell? ⟨W.heap.size + 1 + 1 + 1, 2, none⟩ = some (.int .i64 p.dst) ∧ w3.cell? ⟨W.heap.size + 1 + 1 + 1, 3, none⟩ = some (.int .i64 p.sport) ∧ w3.cell? ⟨W.heap.size + 1 + 1 + 1, 4, none⟩ = some (.int .i64 p.dport) ∧ w3.cell? ⟨W.heap.size + 1 + 1 + 1, 5, none⟩ = some (.func (.func 70) #[] #[.pointer (some ⟨W.heap.size, 0, none⟩), .pointer (some ⟨W.heap.size + 1, 0, none⟩), .pointer (some ⟨W.heap.size + 1 + 1, 0, none⟩)]) :=
    ⟨hx3.1 0 _ rfl, hx3.1 1 _ rfl, hx3.1 2 _ rfl, hx3.1 3 _ rfl, hx3.1 4 _ rfl, hx3.1 5 _ rfl⟩
  refine bodyPost_ret (v := .tuple #[goneV 1 p (.func (.func 70) #[] #[.pointer (some ⟨W.heap.size, 0, none⟩), .pointer (some ⟨W.heap.size + 1, 0, none⟩), .pointer (some ⟨W.heap.size + 1 + 1, 0, none⟩)]), .bool (letsB r.rs p)]) (by simp [results, Try.f59, go_sem, z0, z1, z2, z3, z4, z5, goneV]) rfl ⟨_, rfl, .inr ⟨_, _, rfl, fire1_enters, fun M' k' w' hb hM' hk' => ?_⟩, HBB.out _ hb3⟩
  have h3 := hb3.size
  have h1 := HW1.out
  have q0 := ((HQ.out _ w3 hb3).1 0 _ _ rfl (by omega)).sameL hb (by omega) (by omega)
  have q1 := ((HQ.out _ w3 hb3).1 1 _ _ rfl (by omega)).sameL hb (by omega) (by omega)
  have q2 := ((HQ.out _ w3 hb3).1 2 _ _ rfl (by omega)).sameL hb (by omega) (by omega)
  exact fire1_walk g _ f o b M' k' W.heap.size (W.heap.size + 1) (W.heap.size + 1 + 1) (i : Int) 0 p w' hM' hk' q0 q1 q2 (by unfold i64ok; omega) hp
theorem fire_out (g : Nat) (n : NetV) (f o b : Nat) (M : MemS) (k : Nat) (i y : Int) (p : P4) (W : World) (hM : MemAt W g n f o b M k) (hi : i64ok i) (hy : y ≠ 0) (hp : p.ok) :
    Calls Try.prog 59 #[.pointer (some ⟨g, 0, none⟩), .agg #[.int .i64 i, .int .i64 y], .agg #[.int .i64 p.src, .int .i64 p.dst, .int .i64 p.sport, .int .i64 p.dport]] W fun e W' =>
      e = .returned (.tuple #[goneV 0 p .nilFunc, .bool (M.F (i, flipP p))]) ∧ Below W.heap.size W W' := by
  have HMA := hide (fun (w' : World) (hb : Below W.heap.size W w') => hM.below hb)
  have HLK := hide (fun (w' : World) (hb : Below W.heap.size W w') => show (Instr.lookup 97 (.map (some f)) (.agg #[.int .i64 i, .int .i64 p.dst, .int .i64 p.src, .int .i64 p.dport, .int .i64 p.sport]) false).run Try.prog w' = .ok (.bool (M.F (i, flipP p))) w' from
    (hM.below hb).lookF (i, flipP p) ⟨hi, ⟨hp.2.1, hp.1, hp.2.2.2, hp.2.2.1⟩⟩)
  have d0 : (y == 0) = false := by simpa using hy
  clear hM hy
  have HFL := hide (fun w => flip_walk p w)
  go_enter Try.func59, Try.ntmps59
  go_wp2
  clear d0
  generalize hG : World.alloc (World.alloc (World.alloc (World.alloc W _) _) _) _ = W1
  have HW1 := hide (show W1.heap.size = W.heap.size + 4 from by rw [← hG]; simp)
  have HQ := hide (fun (B : Nat) (w' : World) (hb : Below B W1 w') => boxesV (B := B) [(#[.pointer (some ⟨g, 0, none⟩)], 72), (#[.int .i64 i, .int .i64 y], 45), (#[.int .i64 p.src, .int .i64 p.dst, .int .i64 p.sport, .int .i64 p.dport], 38), (#[.int .i64 0, .int .i64 0, .int .i64 0, .int .i64 0, .int .i64 0, .nilFunc], 110)] W (W' := w') (by rw [← hG] at hb; exact hb))
  clear hG
  have HBB := hide (fun (w' : World) (hb : Below (W.heap.size + 3) W1 w') => show Below W.heap.size W w' from (HQ.out _ w' hb).2 (by omega))
  have HF := hide (fun (w' : World) (hb : Below (W.heap.size + 3) W1 w') => show
      (w'.cell? ⟨W.heap.size, 0, none⟩ = some (.pointer (some ⟨g, 0, none⟩)) ∧ w'.cell? ⟨W.heap.size + 1, 0, none⟩ = some (.int .i64 i) ∧
      (w'.cell? ⟨W.heap.size + 1 + 1, 0, none⟩ = some (.int .i64 p.src) ∧ w'.cell? ⟨W.heap.size + 1 + 1, 1, none⟩ = some (.int .i64 p.dst) ∧ w'.cell? ⟨W.heap.size + 1 + 1, 2, none⟩ = some (.int .i64 p.sport) ∧ w'.cell? ⟨W.heap.size + 1 + 1, 3, none⟩ = some (.int .i64 p.dport)) ∧
      w'.cell? ⟨g, 2, none⟩ = some (.map (some f))) from by
    have x0 := (HQ.out _ w' hb).1 0 _ _ rfl (by omega)
    have x1 := (HQ.out _ w' hb).1 1 _ _ rfl (by omega)
    have x2 := (HQ.out _ w' hb).1 2 _ _ rfl (by omega)
    have hm := HMA.out _ (HBB.out w' hb)
    exact ⟨x0.1 0 _ rfl, x1.1 0 _ rfl, ⟨x2.1 0 _ rfl, x2.1 1 _ rfl, x2.1 2 _ rfl, x2.1 3 _ rfl⟩, hm.c2⟩)
  have HX := hide (fun (w' : World) (hb : Below (W.heap.size + 4) W1 w') => show BoxV w' (W.heap.size + 1 + 1 + 1) #[.int .i64 0, .int .i64 0, .int .i64 0, .int .i64 0, .int .i64 0, .nilFunc] from (HQ.out _ w' hb).1 3 _ _ rfl (by omega))
  refine wp_region_E (fun w' => Below (W.heap.size + 3) W1 w') 13 (by kernel_rfl) ((Below.refl _ _).drew) (fun hS => ?_)
  refine rL 0 [13] rfl hS (by intro w hSw; obtain ⟨s0, s1, ⟨s2, s3, s4, s5⟩, s6⟩ := HF.out _ hSw; go_simp; try with_reducible rfl) ?_
  refine rP 1 hS ?_
  refine rL 2 [13] rfl hS (by intro w hSw; obtain ⟨s0, s1, ⟨s2, s3, s4, s5⟩, s6⟩ := HF.out _ hSw; go_simp; try with_reducible rfl) ?_
  refine rP 3 hS ?_
  refine rP 4 hS ?_
  refine rL 5 [13] rfl hS (by intro w hSw; obtain ⟨s0, s1, ⟨s2, s3, s4, s5⟩, s6⟩ := HF.out _ hSw; go_simp; try with_reducible rfl) ?_
  refine rP 6 hS ?_
  refine rL 7 [13] rfl hS (by intro w hSw; obtain ⟨s0, s1, ⟨s2, s3, s4, s5⟩, s6⟩ := HF.out _ hSw; go_simp; try with_reducible rfl) ?_
  refine rL 8 [13] rfl hS (by intro w hSw; obtain ⟨s0, s1, ⟨s2, s3, s4, s5⟩, s6⟩ := HF.out _ hSw; go_simp; try with_reducible rfl) ?_
  intro inv
  refine rO 9 inv fun K hK => ?_
  go_simp
  go_at_call 71
  refine (HFL.out _).mono ?_
  rintro e w2 ⟨rfl, hb⟩
  have hb4 : Below (W.heap.size + 4) W1 w2 := ((Below.refl _ _).drew).trans (hb.mono (by have := HW1.out; simp; omega))
  go_wp2_with fail
  refine hK.out _ _ (fun _ => (hb4.mono (by omega))) ?_
  clear hK K hS inv
  intro inv
  try simp only [Act.put, nrmA, nrmB, nrmC]
  have hS := hb4.mono (B' := W.heap.size + 3) (by omega)
  have HX2 := hide (HX.out _ hb4)
  have HBS := hide hS
  clear hb hb4
  revert inv
  refine rP 10 hS ?_
  refine rL 11 [13] rfl hS (by intro w hSw; obtain ⟨s0, s1, ⟨s2, s3, s4, s5⟩, s6⟩ := HF.out _ hSw; have s8 := HLK.out _ (HBB.out _ hSw); go_simp; try with_reducible rfl) ?_
  intro inv
  refine rO 12 inv fun K hK => ?_
  rw [if_pos (by rfl)]
  refine wp_store_mid _ _ _ rfl _ _ #[.int .i64 0, .int .i64 p.src, .int .i64 p.dst, .int .i64 p.sport, .int .i64 p.dport, .nilFunc] rfl rfl (HX2.out.there (Nat.le_refl _)) info_gone (by first | exact DevV.arr_one _ | simp [Value.oneCell']) ?_
  refine hK.out _ _ (fun _ => (below_setCells (Nat.le_refl _) _ _ _ HBS.out)) ?_
  clear hK K inv
  intro inv
  try simp only [Act.put, nrmA, nrmB, nrmC]
  clear hS
  refine rT 13 inv fun K hK => ?_
  go_simp
  refine hK.out _ _ ?_
  clear hK K inv
  intro inv
  try simp only [Act.put, nrmA, nrmB, nrmC]
  refine rD ?_
  clear inv
  go_wp2
  have hx3 := HX2.out.all [.int .i64 0, .int .i64 p.src, .int .i64 p.dst, .int .i64 p.sport, .int .i64 p.dport, .nilFunc] rfl
  have hb3 := below_setCells (B := W.heap.size + 3) (N := W.heap.size + 1 + 1 + 1) (Nat.le_refl _) [.int .i64 0, .int .i64 p.src, .int .i64 p.dst, .int .i64 p.sport, .int .i64 p.dport, .nilFunc] 0 w2 HBS.out
  generalize World.setCells w2 _ _ _ = w3 at *
  obtain ⟨z0, z1, z2, z3, z4, z5⟩ : w3.cell? ⟨W.heap.size + 1 + 1 + 1, 0, none⟩ = some (.int .i64 0) ∧ w3.cell? ⟨W.heap.size + 1 + 1 + 1, 1, none⟩ = some (.int .i64 p.src) ∧ w3.cell? ⟨W.heap.size + 1 + 1 + 1, 2, none⟩ = some (.int .i64 p.dst) ∧ w3.cell? ⟨W.heap.size + 1 + 1 + 1, 3, none⟩ = some (.int .i64 p.sport) ∧ w3.cell? ⟨W.heap.size + 1 + 1 + 1, 4, none⟩ = some (.int .i64 p.dport) ∧ w3.cell? ⟨W.heap.size + 1 + 1 + 1, 5, none⟩ = some .nilFunc :=
    ⟨hx3.1 0 _ rfl, hx3.1 1 _ rfl, hx3.1 2 _ rfl, hx3.1 3 _ rfl, hx3.1 4 _ rfl, hx3.1 5 _ rfl⟩
  exact bodyPost_ret (v := .tuple #[goneV 0 p .nilFunc, .bool (M.F (i, flipP p))]) (by simp [results, Try.f59, go_sem, z0, z1, z2, z3, z4, z5, goneV]) rfl ⟨rfl, HBB.out _ hb3⟩
theorem retI {a b : Int} (h : a = b) : Ending.returned (.int .i64 a) = Ending.returned (.int .i64 b) := by rw [h]
theorem mineG_step (M : MemS) (i : Int) (o : Int × Int) {k : Nat} (hk : k < 8) : mineG M i o (8 - k) k = if M.O (i, (k : Int)) = some o then (k : Int) else mineG M i o (8 - (k + 1)) (k + 1) := by
  obtain ⟨m, hm⟩ : ∃ m, 8 - k = m + 1 := ⟨7 - k, by omega⟩
  rw [hm, show 8 - (k + 1) = m by omega]
  rfl
theorem mine_ok (M : MemS) (i : Int) (o : Int × Int) : ∀ (m k : Nat), m + k ≤ 8 → i64ok (mineG M i o m k)
  | 0, _, _ => by simp [mineG, i64ok]
  | m + 1, k, h => by
    unfold mineG
    split
    · unfold i64ok; omega
    · exact mine_ok M i o m (k + 1) (by omega)
theorem mine_walk (g : Nat) (n : NetV) (f o b : Nat) (M : MemS) (N : Nat) (i a c : Int) (W : World) (hM : MemAt W g n f o b M N) (hi : i64ok i) :
    Calls Try.prog 72 #[.pointer (some ⟨g, 0, none⟩), .int .i64 i, .agg #[.int .i64 a, .int .i64 c]] W fun e W' => e = .returned (.int .i64 (mineF M i (a, c))) ∧ Below W.heap.size W W' := by
  have HMA := hide (fun (w' : World) (hb : Below W.heap.size W w') => hM.below hb)
  have hgl := hM.glt
  clear hM
  go_enter Try.func72, Try.ntmps72
  go_wp2
  have hb0 : Below W.heap.size W (W.alloc (.cells #[.int .i64 a, .int .i64 c] 120)) := (Below.refl _ _).alloc (Nat.le_refl _) _
  have hx0 := BoxV.new W #[.int .i64 a, .int .i64 c] 120
  have hz0 : (W.alloc (.cells #[.int .i64 a, .int .i64 c] 120)).heap.size = W.heap.size + 1 := by simp
  generalize World.alloc W _ = W0 at *
  have HX0 := hide (fun (w' : World) (hb : Below W0.heap.size W0 w') => show BoxV w' W.heap.size #[.int .i64 a, .int .i64 c] ∧ MemAt w' g n f o b M N ∧ Below W.heap.size W w' from
    ⟨hx0.below hb (by omega), HMA.out _ (hb0.trans (hb.mono (by omega))), hb0.trans (hb.mono (by omega))⟩)
  clear hb0 hx0 HMA
  go_loopw [10] (fun j wr => ∃ k : Nat, k ≤ 8 ∧ j = .int .i64 k ∧ Hid (Below W0.heap.size W0 wr) ∧ Hid (mineF M i (a, c) = mineG M i (a, c) (8 - k) k)) (fun j _ => 8 - (intOf j).toNat)
  case atStart => exact ⟨0, by omega, rfl, hide (Below.refl _ _), hide rfl⟩
  case round =>
    obtain ⟨k, hk, rfl, HB, HE⟩ := hrel
    by_cases hlt : k < 8
    · obtain ⟨hbx, hm, _⟩ := HX0.out _ HB.out
      have c3 := hm.c3
      have l3 := hm.lookO (i, (k : Int)) ⟨hi, by unfold i64ok; omega⟩
      have n1 : W.heap.size ≠ wr.heap.size := by have := HB.out.size; omega
      have n2 : g ≠ wr.heap.size := by have := HB.out.size; omega
      have y0 := fun o' => ((HX0.out _ (HB.out.alloc HB.out.size o')).1).1 0 _ rfl
      have y1 := fun o' => ((HX0.out _ (HB.out.alloc HB.out.size o')).1).1 1 _ rfl
      have HS := hide (HE.out.trans (mineG_step M i (a, c) hlt))
      have HA := hide (fun o' => HB.out.alloc HB.out.size o')
      clear hbx hm HE
      simp only [poVal, ownV] at l3
      cases hO : M.O (i, (k : Int)) with
      | none =>
        simp only [hO, Option.getD_none, Option.isSome_none] at l3
        have HN := hide (show mineF M i (a, c) = mineG M i (a, c) (8 - (k + 1)) (k + 1) from by rw [HS.out, if_neg (by rw [hO]; simp)])
        clear hO HS
        go_wp2
        go_roundw
        case rel => exact ⟨k + 1, by omega, by go_num, hide (HA.out _), HN⟩
        case measure => simp [intOf]; omega
      | some x =>
        obtain ⟨u, v⟩ := x
        simp only [hO, Option.getD_some, Option.isSome_some] at l3
        by_cases e1 : u = a
        · by_cases e2 : v = c
          · subst e1 e2
            have HN := hide (show mineF M i (u, v) = (k : Int) from by rw [HS.out, if_pos hO])
            clear hO HS
            go_wp2
            go_ret
            exact ⟨retI HN.out.symm, (HX0.out _ (HA.out _)).2.2⟩
          · have HN := hide (show mineF M i (a, c) = mineG M i (a, c) (8 - (k + 1)) (k + 1) from by rw [HS.out, if_neg (by rw [hO]; simp [e2])])
            have d2 : (v == c) = false := by simpa using e2
            subst e1
            clear hO HS
            go_wp2
            go_roundw
            case rel => exact ⟨k + 1, by omega, by go_num, hide (HA.out _), HN⟩
            case measure => simp [intOf]; omega
        · have HN := hide (show mineF M i (a, c) = mineG M i (a, c) (8 - (k + 1)) (k + 1) from by rw [HS.out, if_neg (by rw [hO]; simp [e1])])
          have d1 : (u == a) = false := by simpa using e1
          clear hO HS
          go_wp2
          go_roundw
          case rel => exact ⟨k + 1, by omega, by go_num, hide (HA.out _), HN⟩
          case measure => simp [intOf]; omega
    · obtain rfl : k = 8 := by omega
      go_wp2
      go_ret
      exact ⟨retI (by rw [HE.out]; rfl), (HX0.out _ HB.out).2.2⟩
theorem nat_in (g : Nat) (n : NetV) (f o b : Nat) (M : MemS) (k : Nat) (i : Nat) (r : DevV) (p : P4) (ch : Int) (W : World) (hM : MemAt W g n f o b M k) (hr : n.ds[i]? = some r) (hn : n.dn ≤ 10) (hp : p.ok) :
    Calls Try.prog 60 #[.pointer (some ⟨g, 0, none⟩), .agg #[.int .i64 (i : Int), .int .i64 1], .agg #[.int .i64 p.src, .int .i64 p.dst, .int .i64 p.sport, .int .i64 p.dport], .int .i64 ch] W fun e W' =>
      e = .returned (.tuple #[goneV (natH r.dev M i 1 p ch).1.port (natH r.dev M i 1 p ch).1.q .nilFunc, .bool (natH r.dev M i 1 p ch).2.1, .int .i64 (natH r.dev M i 1 p ch).2.2]) ∧ Below W.heap.size W W' := by
  obtain ⟨u, v, tb, hlk, hres⟩ : ∃ u v tb, (∀ w', MemAt w' g n f o b M k → (Instr.lookup 98 (.map (some o)) (.agg #[.int .i64 (i : Int), .int .i64 p.dport]) true).run Try.prog w' = .ok (.tuple #[.agg #[.int .i64 u, .int .i64 v], .bool tb]) w') ∧
      natH r.dev M i 1 p ch = if p.dst = r.addr ∧ tb = true then (⟨0, ⟨p.src, u, p.sport, v⟩, .nothing⟩, true, 0) else (.zero, false, 0) := by
    have hk : poDom ((i : Int), p.dport) := ⟨by have : i < n.dn := (by rw [← hM.net.dlen]; exact (List.getElem?_eq_some_iff.1 hr).1); unfold i64ok; omega, hp.2.2.2⟩
    cases hO : M.O ((i : Int), p.dport) with
    | none =>
      refine ⟨0, 0, false, fun w' hm => ?_, ?_⟩
      · have := hm.lookO _ hk; rw [hO] at this; exact this
      · simp [natH, hO, DevV.dev]
    | some x =>
      refine ⟨x.1, x.2, true, fun w' hm => ?_, ?_⟩
      · have := hm.lookO _ hk; rw [hO] at this; exact this
      · simp only [natH, hO, DevV.dev]
        by_cases e : p.dst = r.addr <;> simp [e]
  obtain ⟨NF, hNF⟩ : ∃ NF, natH r.dev M i 1 p ch = NF := ⟨_, rfl⟩
  rw [hNF] at hres ⊢
  have HNF := hide hres
  have HLK := hide hlk
  clear hres hlk hNF
  have HMA := hide (fun (w' : World) (hb : Below W.heap.size W w') => hM.below hb)
  have hin : i < n.dn := by rw [← hM.net.dlen]; exact (List.getElem?_eq_some_iff.1 hr).1
  clear hM
  obtain ⟨dA, dn, dc, ds, lA, ln, lc, ls⟩ := n
  simp only at hr hn hin
  obtain ⟨db, od, rfl, hdb, _⟩ := (HMA.out _ (Below.refl _ _)).net.ds.2 (by show 0 < dn; omega)
  have HRR := hide hr
  clear hr hdb
  have i1 : (0 : Int) ≤ (i : Int) := by omega
  have i2 : (i : Int) < (dn : Int) := by omega
  have i3 : (dn : Int) ≤ 10 := by omega
  go_enter Try.func60, Try.ntmps60
  go_wp2
  generalize hG : World.alloc (World.alloc (World.alloc (World.alloc W _) _) _) _ = W1
  have HW1 := hide (show W1.heap.size = W.heap.size + 4 from by rw [← hG]; simp)
  have HQ := hide (fun (B : Nat) (w' : World) (hb : Below B W1 w') => boxesV (B := B) [(#[.pointer (some ⟨g, 0, none⟩)], 72), (#[.int .i64 (i : Int), .int .i64 1], 45), (#[.int .i64 p.src, .int .i64 p.dst, .int .i64 p.sport, .int .i64 p.dport], 38), (#[.int .i64 0, .int .i64 0, .int .i64 0, .int .i64 0, .int .i64 0, .nilFunc], 110)] W (W' := w') (by rw [← hG] at hb; exact hb))
  clear hG
  have HBB := hide (fun (w' : World) (hb : Below W1.heap.size W1 w') => show Below W.heap.size W w' from (HQ.out _ w' hb).2 (by rw [HW1.out]; omega))
  have HF := hide (fun (w' : World) (hb : Below W1.heap.size W1 w') => show
      (w'.cell? ⟨W.heap.size, 0, none⟩ = some (.pointer (some ⟨g, 0, none⟩)) ∧ w'.cell? ⟨W.heap.size + 1, 0, none⟩ = some (.int .i64 (i : Int)) ∧
      w'.cell? ⟨g, 0, none⟩ = some (.slice (some ⟨db, od, none⟩) dn dc) ∧
      (w'.cell? ⟨db, od + i * 7, none⟩ = some (.string r.name) ∧ w'.cell? ⟨db, od + i * 7 + 1, none⟩ = some (.int .i64 r.kind) ∧ w'.cell? ⟨db, od + i * 7 + 2, none⟩ = some (.int .i64 r.addr) ∧ w'.cell? ⟨db, od + i * 7 + 3, none⟩ = some (.int .u8 r.pool) ∧
      w'.cell? ⟨db, od + i * 7 + 4, none⟩ = some (.slice r.bA r.bn r.bc) ∧ w'.cell? ⟨db, od + i * 7 + 5, none⟩ = some (.slice r.rA r.rn r.rc) ∧ w'.cell? ⟨db, od + i * 7 + 6, none⟩ = some (.slice r.tA r.tn r.tc))) from by
    have x0 := (HQ.out _ w' hb).1 0 _ _ rfl (by rw [HW1.out]; omega)
    have x1 := (HQ.out _ w' hb).1 1 _ _ rfl (by rw [HW1.out]; omega)
    have hm := HMA.out _ (HBB.out w' hb)
    obtain ⟨_, q0, q1, q2, q3, q4, q5, q6⟩ := dev_get hm.net.ds HRR.out
    exact ⟨x0.1 0 _ rfl, x1.1 0 _ rfl, hm.c0, q0, q1, q2, q3, q4, q5, q6⟩)
  refine wp_region_E (fun w' => Below W1.heap.size W1 w') 10 (by kernel_rfl) ((Below.refl _ _).drew) (fun hS => ?_)
  refine rL 0 [10] rfl hS (by intro w hSw; obtain ⟨s0, s1, s2, ⟨s3, s4, s5, s6, s7, s8, s9⟩⟩ := HF.out _ hSw; go_simp; try with_reducible rfl) ?_
  refine rP 1 hS ?_
  refine rP 2 hS ?_
  refine rP 3 hS ?_
  refine rL 4 [10] rfl hS (by intro w hSw; obtain ⟨s0, s1, s2, ⟨s3, s4, s5, s6, s7, s8, s9⟩⟩ := HF.out _ hSw; go_simp; try with_reducible rfl) ?_
  refine rP 5 hS ?_
  refine rL 6 [10] rfl hS (by intro w hSw; obtain ⟨s0, s1, s2, ⟨s3, s4, s5, s6, s7, s8, s9⟩⟩ := HF.out _ hSw; go_simp; try with_reducible rfl) ?_
  refine rP 7 hS ?_
  refine rL 8 [10] rfl hS (by intro w hSw; obtain ⟨s0, s1, s2, ⟨s3, s4, s5, s6, s7, s8, s9⟩⟩ := HF.out _ hSw; go_simp; try with_reducible rfl) ?_
  intro inv
  refine rO 9 inv fun K hK => ?_
  go_simp
  refine hK.out _ _ (fun _ => (hS.alloc hS.size _)) ?_
  clear hK K hS inv
  intro inv
  try simp only [Act.put, nrmA, nrmB, nrmC]
  have hxz : BoxV ((W1.alloc (.cells #[.string ⟨#[]⟩, .int .i64 0, .int .i64 0, .int .u8 0, .slice none 0 0, .slice none 0 0, .slice none 0 0] 61)).drew) W1.heap.size #[.string ⟨#[]⟩, .int .i64 0, .int .i64 0, .int .u8 0, .slice none 0 0, .slice none 0 0, .slice none 0 0] := (BoxV.new W1 _ _).below ((Below.refl (W1.heap.size + 1) _).drew) (Nat.lt_succ_self _)
  have hbz : Below W1.heap.size W1 ((W1.alloc (.cells #[.string ⟨#[]⟩, .int .i64 0, .int .i64 0, .int .u8 0, .slice none 0 0, .slice none 0 0, .slice none 0 0] 61)).drew) := ((Below.refl _ _).alloc (Nat.le_refl _) _).drew
  have HXZ := hide hxz
  clear hxz
  refine rT 10 inv fun K hK => ?_
  rw [if_pos (by rfl)]
  refine wp_store_mid _ _ _ rfl _ _ r.arr rfl rfl (HXZ.out.there (Nat.le_refl _)) info_device (by first | exact DevV.arr_one _ | simp [Value.oneCell']) ?_
  refine hK.out _ _ ?_
  clear hK K inv
  intro inv
  try simp only [Act.put, nrmA, nrmB, nrmC]
  refine rD ?_
  clear inv
  have hA : AtDev W g ⟨some ⟨db, od, none⟩, dn, dc, ds, lA, ln, lc, ls⟩ f o b M k i 1 p r W1.heap.size (((W1.alloc (.cells #[.string ⟨#[]⟩, .int .i64 0, .int .i64 0, .int .u8 0, .slice none 0 0, .slice none 0 0, .slice none 0 0] 61)).drew).setCells W1.heap.size 0 r.arr.toList) := by
    have hb2 := below_setCells (B := W1.heap.size) (Nat.le_refl _) r.arr.toList 0 _ hbz
    have h1 := HW1.out
    have hd := HXZ.out.all r.arr.toList rfl
    rw [Array.toArray_toList] at hd
    have hlt : W1.heap.size < (((W1.alloc (.cells #[.string ⟨#[]⟩, .int .i64 0, .int .i64 0, .int .u8 0, .slice none 0 0, .slice none 0 0, .slice none 0 0] 61)).drew).setCells W1.heap.size 0 r.arr.toList).heap.size := by
      have := (below_setCells (B := W1.heap.size) (Nat.le_refl _) r.arr.toList 0 ((W1.alloc (.cells #[.string ⟨#[]⟩, .int .i64 0, .int .i64 0, .int .u8 0, .slice none 0 0, .slice none 0 0, .slice none 0 0] 61)).drew) (Below.refl _ _)).size
      have e : ((W1.alloc (.cells #[.string ⟨#[]⟩, .int .i64 0, .int .i64 0, .int .u8 0, .slice none 0 0, .slice none 0 0, .slice none 0 0] 61)).drew).heap.size = W1.heap.size + 1 := by simp
      omega
    exact ⟨HMA.out, HBB.out _ hb2, (HQ.out _ _ hb2).1 0 _ _ rfl (by omega), (HQ.out _ _ hb2).1 1 _ _ rfl (by omega), (HQ.out _ _ hb2).1 2 _ _ rfl (by omega), (HQ.out _ _ hb2).1 3 _ _ rfl (by omega), hd, by omega, hlt⟩
  obtain ⟨G, hG⟩ : ∃ G, W1.heap.size = G := ⟨_, rfl⟩
  rw [hG] at hA ⊢
  clear hG hbz HXZ HF HQ HBB HMA HW1
  generalize World.setCells _ _ _ _ = w2 at *
  have HA := hide hA
  clear hA i1 i2 i3
  have k1 := HA.out.b1.1 1 _ rfl
  go_wp2
  clear k1
  have HA2 := hide (fun (w' : World) (hb : Below w2.heap.size w2 w') => HA.out.below hb)
  refine wp_region_E (fun w' => Below w2.heap.size w2 w') 14 (by kernel_rfl) ((Below.refl _ _).drew) (fun hS => ?_)
  refine rL 0 [14] rfl hS (by intro w hSw; have hx := HA2.out _ hSw; have t0 := hx.b0.1 0 _ rfl; have t1 := hx.b1.1 0 _ rfl; have t2 := hx.b2.1 3 _ rfl; have t3 := hx.mem.c3; have t4 := HLK.out _ hx.mem; clear hx; go_simp; try with_reducible rfl) ?_
  refine rP 1 hS ?_
  refine rP 2 hS ?_
  refine rL 3 [14] rfl hS (by intro w hSw; have hx := HA2.out _ hSw; have t0 := hx.b0.1 0 _ rfl; have t1 := hx.b1.1 0 _ rfl; have t2 := hx.b2.1 3 _ rfl; have t3 := hx.mem.c3; have t4 := HLK.out _ hx.mem; clear hx; go_simp; try with_reducible rfl) ?_
  refine rP 4 hS ?_
  refine rL 5 [14] rfl hS (by intro w hSw; have hx := HA2.out _ hSw; have t0 := hx.b0.1 0 _ rfl; have t1 := hx.b1.1 0 _ rfl; have t2 := hx.b2.1 3 _ rfl; have t3 := hx.mem.c3; have t4 := HLK.out _ hx.mem; clear hx; go_simp; try with_reducible rfl) ?_
  refine rP 6 hS ?_
  refine rL 7 [14] rfl hS (by intro w hSw; have hx := HA2.out _ hSw; have t0 := hx.b0.1 0 _ rfl; have t1 := hx.b1.1 0 _ rfl; have t2 := hx.b2.1 3 _ rfl; have t3 := hx.mem.c3; have t4 := HLK.out _ hx.mem; clear hx; go_simp; try with_reducible rfl) ?_
  refine rP 8 hS ?_
  refine rL 9 [14] rfl hS (by intro w hSw; have hx := HA2.out _ hSw; have t0 := hx.b0.1 0 _ rfl; have t1 := hx.b1.1 0 _ rfl; have t2 := hx.b2.1 3 _ rfl; have t3 := hx.mem.c3; have t4 := HLK.out _ hx.mem; clear hx; go_simp; try with_reducible rfl) ?_
  refine rP 10 hS ?_
  refine rP 11 hS ?_
  refine rP 12 hS ?_
  intro inv
  refine rO 13 inv fun K hK => ?_
  go_simp
  refine hK.out _ _ (fun _ => (hS.alloc hS.size _)) ?_
  clear hK K hS inv
  intro inv
  try simp only [Act.put, nrmA, nrmB, nrmC]
  have hbz : Below w2.heap.size w2 ((w2.alloc (.cells #[.int .i64 0, .int .i64 0] 120)).drew) := ((Below.refl _ _).alloc (Nat.le_refl _) _).drew
  have HXZ := hide (show BoxV ((w2.alloc (.cells #[.int .i64 0, .int .i64 0] 120)).drew) w2.heap.size #[.int .i64 0, .int .i64 0] from (BoxV.new w2 _ _).below ((Below.refl (w2.heap.size + 1) _).drew) (Nat.lt_succ_self _))
  refine rT 14 inv fun K hK => ?_
  rw [if_pos (by rfl)]
  refine wp_store_mid _ _ _ rfl _ _ #[.int .i64 u, .int .i64 v] rfl rfl (HXZ.out.there (Nat.le_refl _)) info_owner (by first | exact DevV.arr_one _ | simp [Value.oneCell']) ?_
  refine hK.out _ _ ?_
  clear hK K inv
  intro inv
  try simp only [Act.put, nrmA, nrmB, nrmC]
  refine rT 15 inv fun K hK => ?_
  go_simp
  refine hK.out _ _ ?_
  clear hK K inv
  intro inv
  try simp only [Act.put, nrmA, nrmB, nrmC]
  refine rD ?_
  clear inv
  have hx3 := HXZ.out.all [.int .i64 u, .int .i64 v] rfl
  have ha3 := HA2.out _ (below_setCells (B := w2.heap.size) (N := w2.heap.size) (Nat.le_refl _) [.int .i64 u, .int .i64 v] 0 _ hbz)
  have hsz : w2.heap.size < (((w2.alloc (.cells #[.int .i64 0, .int .i64 0] 120)).drew).setCells w2.heap.size 0 [.int .i64 u, .int .i64 v]).heap.size := by
    have := (below_setCells (B := w2.heap.size) (Nat.le_refl _) [.int .i64 u, .int .i64 v] 0 ((w2.alloc (.cells #[.int .i64 0, .int .i64 0] 120)).drew) (Below.refl _ _)).size
    have e : ((w2.alloc (.cells #[.int .i64 0, .int .i64 0] 120)).drew).heap.size = w2.heap.size + 1 := by simp
    omega
  have hg2 := HA.out.lt
  clear HXZ hbz HA2 HA
  generalize hH : w2.heap.size = H at *
  generalize World.setCells _ _ _ _ = w3 at *
  clear hH
  have HA3 := hide ha3
  have HX3 := hide hx3
  have HL3 := hide (And.intro hg2 hsz)
  clear ha3 hx3 hg2 hsz
  have k1 : w3.cell? ⟨W.heap.size + 1 + 1, 1, none⟩ = some (.int .i64 p.dst) := HA3.out.b2.1 1 _ rfl
  have k2 : w3.cell? ⟨G, 2, none⟩ = some (.int .i64 r.addr) := HA3.out.bd.1 2 _ rfl
  by_cases e1 : p.dst = r.addr
  · cases tb
    · have HN2 := hide (HNF.out.trans (if_neg (show ¬(p.dst = r.addr ∧ false = true) from fun h => by cases h.2)))
      have d1 : (p.dst != r.addr) = false := by simpa using e1
      clear e1
      go_wp2_with ((with_reducible show wpList _ _ _ (⟨none, .store 110 (.tmp 8) _, _, _, _, _⟩ :: _) _ _); refine wpList_store_mid rfl 110 (.tmp 8) (.tmp 52) rfl (W.heap.size + 1 + 1 + 1) 0 #[.int .i64 0, .int .i64 0, .int .i64 0, .int .i64 0, .int .i64 0, .nilFunc] rfl rfl (HA3.out.b3.there (Nat.le_refl _)) info_gone (by simp [Value.oneCell']) ?_)
      have hx4 := HA3.out.b3.all [.int .i64 0, .int .i64 0, .int .i64 0, .int .i64 0, .int .i64 0, .nilFunc] rfl
      have hb4 := below_setCells (B := W.heap.size) (N := W.heap.size + 1 + 1 + 1) (by omega) [.int .i64 0, .int .i64 0, .int .i64 0, .int .i64 0, .int .i64 0, .nilFunc] 0 _ HA3.out.bl
      generalize World.setCells w3 _ _ _ = w4 at *
      obtain ⟨z0, z1, z2, z3, z4, z5⟩ : w4.cell? ⟨W.heap.size + 1 + 1 + 1, 0, none⟩ = some (.int .i64 0) ∧ w4.cell? ⟨W.heap.size + 1 + 1 + 1, 1, none⟩ = some (.int .i64 0) ∧ w4.cell? ⟨W.heap.size + 1 + 1 + 1, 2, none⟩ = some (.int .i64 0) ∧ w4.cell? ⟨W.heap.size + 1 + 1 + 1, 3, none⟩ = some (.int .i64 0) ∧ w4.cell? ⟨W.heap.size + 1 + 1 + 1, 4, none⟩ = some (.int .i64 0) ∧ w4.cell? ⟨W.heap.size + 1 + 1 + 1, 5, none⟩ = some .nilFunc :=
        ⟨hx4.1 0 _ rfl, hx4.1 1 _ rfl, hx4.1 2 _ rfl, hx4.1 3 _ rfl, hx4.1 4 _ rfl, hx4.1 5 _ rfl⟩
      exact bodyPost_ret (v := .tuple #[goneV 0 ⟨0, 0, 0, 0⟩ .nilFunc, .bool false, .int .i64 0]) (by simp [results, Try.f60, go_sem, z0, z1, z2, z3, z4, z5, goneV]) rfl ⟨by rw [HN2.out]; all_goals rfl, hb4⟩
    · have HN2 := hide (HNF.out.trans (if_pos (show p.dst = r.addr ∧ true = true from ⟨e1, rfl⟩)))
      have d1 : (p.dst != r.addr) = false := by simpa using e1
      clear e1
      go_wp2
      clear d1 k1 k2
      refine wp_region_E (fun w' => BoxV w' H #[.int .i64 u, .int .i64 v]) 7 (by kernel_rfl) (HX3.out.below ((Below.refl (H + 1) _).drew) (Nat.lt_succ_self _)) (fun hS => ?_)
      refine rP 0 hS ?_
      refine rL 1 [7] rfl hS (by intro w hSw; have t0 := hSw.1 0 _ rfl; have t1 := hSw.1 1 _ rfl; go_simp; try with_reducible rfl) ?_
      refine rP 2 hS ?_
      refine rL 3 [7] rfl hS (by intro w hSw; have t0 := hSw.1 0 _ rfl; have t1 := hSw.1 1 _ rfl; go_simp; try with_reducible rfl) ?_
      refine rP 4 hS ?_
      intro inv
      have k1 : w3.cell? ⟨W.heap.size + 1 + 1, 1, none⟩ = some (.int .i64 p.dst) := HA3.out.b2.1 1 _ rfl
      have k3 : w3.cell? ⟨W.heap.size + 1 + 1, 3, none⟩ = some (.int .i64 p.dport) := HA3.out.b2.1 3 _ rfl
      have kf := HA3.out.b2.2
      refine rO 5 inv fun K hK => ?_
      go_simp
      refine hK.out _ _ (fun _ => ((hS.far _ _ (by show W.heap.size + 1 + 1 ≠ H; have := HA3.out.hg; have := HL3.out.1; omega)))) ?_
      clear hK K hS inv
      intro inv
      try simp only [Act.put, nrmA, nrmB, nrmC]
      have hS : BoxV (w3.drew.setCell ⟨W.heap.size + 1 + 1, 1, none⟩ (.int .i64 u)) H #[.int .i64 u, .int .i64 v] := (HX3.out.below ((Below.refl (H + 1) _).drew) (Nat.lt_succ_self _)).far _ _ (by show W.heap.size + 1 + 1 ≠ H; have := HA3.out.hg; have := HL3.out.1; omega)
      revert inv
      refine rP 6 hS ?_
      intro inv
      refine rT 7 inv fun K hK => ?_
      go_simp
      refine hK.out _ _ ?_
      clear hK K inv
      intro inv
      try simp only [Act.put, nrmA, nrmB, nrmC]
      refine rD ?_
      clear inv
      have h2 : BoxV (((w3.setCell ⟨W.heap.size + 1 + 1, 1, none⟩ (.int .i64 u)).setCell ⟨W.heap.size + 1 + 1, 3, none⟩ (.int .i64 v)).drew) (W.heap.size + 1 + 1) #[.int .i64 p.src, .int .i64 u, .int .i64 p.sport, .int .i64 v] := ((HA3.out.b2.set 1 (.int .i64 u)).set 3 (.int .i64 v)).below ((Below.refl (W.heap.size + 1 + 1 + 1) _).drew) (Nat.lt_succ_self _)
      have h3 : BoxV (((w3.setCell ⟨W.heap.size + 1 + 1, 1, none⟩ (.int .i64 u)).setCell ⟨W.heap.size + 1 + 1, 3, none⟩ (.int .i64 v)).drew) (W.heap.size + 1 + 1 + 1) #[.int .i64 0, .int .i64 0, .int .i64 0, .int .i64 0, .int .i64 0, .nilFunc] := ((HA3.out.b3.far _ _ (by show W.heap.size + 1 + 1 ≠ _; omega)).far _ _ (by show W.heap.size + 1 + 1 ≠ _; omega)).below ((Below.refl (W.heap.size + 1 + 1 + 1 + 1) _).drew) (Nat.lt_succ_self _)
      have hb5 : Below W.heap.size W (((w3.setCell ⟨W.heap.size + 1 + 1, 1, none⟩ (.int .i64 u)).setCell ⟨W.heap.size + 1 + 1, 3, none⟩ (.int .i64 v)).drew) := ((HA3.out.bl.setCell (by show W.heap.size ≤ W.heap.size + 1 + 1; omega) _).setCell (by show W.heap.size ≤ W.heap.size + 1 + 1; omega) _).drew
      clear k1 k3 kf
      generalize World.drew (World.setCell (World.setCell w3 _ _) _ _) = w5 at *
      have HB5 := hide hb5
      have HH3 := hide h3
      obtain ⟨y0, y1, y2, y3⟩ : w5.cell? ⟨W.heap.size + 1 + 1, 0, none⟩ = some (.int .i64 p.src) ∧ w5.cell? ⟨W.heap.size + 1 + 1, 1, none⟩ = some (.int .i64 u) ∧ w5.cell? ⟨W.heap.size + 1 + 1, 2, none⟩ = some (.int .i64 p.sport) ∧ w5.cell? ⟨W.heap.size + 1 + 1, 3, none⟩ = some (.int .i64 v) := ⟨h2.1 0 _ rfl, h2.1 1 _ rfl, h2.1 2 _ rfl, h2.1 3 _ rfl⟩
      clear h2 h3 hb5
      go_wp2_with ((with_reducible show wpList _ _ _ (⟨none, .store 110 (.tmp 8) _, _, _, _, _⟩ :: _) _ _); refine wpList_store_mid rfl 110 (.tmp 8) (.tmp 60) rfl (W.heap.size + 1 + 1 + 1) 0 #[.int .i64 0, .int .i64 p.src, .int .i64 u, .int .i64 p.sport, .int .i64 v, .nilFunc] rfl rfl (HH3.out.there (Nat.le_refl _)) info_gone (by simp [Value.oneCell']) ?_)
      have hx4 := HH3.out.all [.int .i64 0, .int .i64 p.src, .int .i64 u, .int .i64 p.sport, .int .i64 v, .nilFunc] rfl
      have hb4 := below_setCells (B := W.heap.size) (N := W.heap.size + 1 + 1 + 1) (by omega) [.int .i64 0, .int .i64 p.src, .int .i64 u, .int .i64 p.sport, .int .i64 v, .nilFunc] 0 _ HB5.out
      generalize World.setCells w5 _ _ _ = w4 at *
      obtain ⟨z0, z1, z2, z3, z4, z5⟩ : w4.cell? ⟨W.heap.size + 1 + 1 + 1, 0, none⟩ = some (.int .i64 0) ∧ w4.cell? ⟨W.heap.size + 1 + 1 + 1, 1, none⟩ = some (.int .i64 p.src) ∧ w4.cell? ⟨W.heap.size + 1 + 1 + 1, 2, none⟩ = some (.int .i64 u) ∧ w4.cell? ⟨W.heap.size + 1 + 1 + 1, 3, none⟩ = some (.int .i64 p.sport) ∧ w4.cell? ⟨W.heap.size + 1 + 1 + 1, 4, none⟩ = some (.int .i64 v) ∧ w4.cell? ⟨W.heap.size + 1 + 1 + 1, 5, none⟩ = some .nilFunc :=
        ⟨hx4.1 0 _ rfl, hx4.1 1 _ rfl, hx4.1 2 _ rfl, hx4.1 3 _ rfl, hx4.1 4 _ rfl, hx4.1 5 _ rfl⟩
      exact bodyPost_ret (v := .tuple #[goneV 0 ⟨p.src, u, p.sport, v⟩ .nilFunc, .bool true, .int .i64 0]) (by simp [results, Try.f60, go_sem, z0, z1, z2, z3, z4, z5, goneV]) rfl ⟨by rw [HN2.out]; all_goals rfl, hb4⟩
  · have HN2 := hide (HNF.out.trans (if_neg (show ¬(p.dst = r.addr ∧ tb = true) from fun h => e1 h.1)))
    have d1 : (p.dst != r.addr) = true := by simpa using e1
    clear e1
    go_wp2_with ((with_reducible show wpList _ _ _ (⟨none, .store 110 (.tmp 8) _, _, _, _, _⟩ :: _) _ _); refine wpList_store_mid rfl 110 (.tmp 8) (.tmp 52) rfl (W.heap.size + 1 + 1 + 1) 0 #[.int .i64 0, .int .i64 0, .int .i64 0, .int .i64 0, .int .i64 0, .nilFunc] rfl rfl (HA3.out.b3.there (Nat.le_refl _)) info_gone (by simp [Value.oneCell']) ?_)
    have hx4 := HA3.out.b3.all [.int .i64 0, .int .i64 0, .int .i64 0, .int .i64 0, .int .i64 0, .nilFunc] rfl
    have hb4 := below_setCells (B := W.heap.size) (N := W.heap.size + 1 + 1 + 1) (by omega) [.int .i64 0, .int .i64 0, .int .i64 0, .int .i64 0, .int .i64 0, .nilFunc] 0 _ HA3.out.bl
    generalize World.setCells w3 _ _ _ = w4 at *
    obtain ⟨z0, z1, z2, z3, z4, z5⟩ : w4.cell? ⟨W.heap.size + 1 + 1 + 1, 0, none⟩ = some (.int .i64 0) ∧ w4.cell? ⟨W.heap.size + 1 + 1 + 1, 1, none⟩ = some (.int .i64 0) ∧ w4.cell? ⟨W.heap.size + 1 + 1 + 1, 2, none⟩ = some (.int .i64 0) ∧ w4.cell? ⟨W.heap.size + 1 + 1 + 1, 3, none⟩ = some (.int .i64 0) ∧ w4.cell? ⟨W.heap.size + 1 + 1 + 1, 4, none⟩ = some (.int .i64 0) ∧ w4.cell? ⟨W.heap.size + 1 + 1 + 1, 5, none⟩ = some .nilFunc :=
      ⟨hx4.1 0 _ rfl, hx4.1 1 _ rfl, hx4.1 2 _ rfl, hx4.1 3 _ rfl, hx4.1 4 _ rfl, hx4.1 5 _ rfl⟩
    exact bodyPost_ret (v := .tuple #[goneV 0 ⟨0, 0, 0, 0⟩ .nilFunc, .bool false, .int .i64 0]) (by simp [results, Try.f60, go_sem, z0, z1, z2, z3, z4, z5, goneV]) rfl ⟨by rw [HN2.out]; all_goals rfl, hb4⟩
end Go.Proofs.Ytifkacnoiocebaa
