/- A part of the proof: StepFire, StepMine. -/
import Derived.Test.YthaiffjalgionaaWg7

set_option linter.unusedVariables false
set_option linter.unusedSimpArgs false
namespace Go.Proofs.Ythaiffjalgionaa
open Go.RowKit Go.Maps

set_option maxRecDepth 100000 in
set_option maxHeartbeats 8000000 in
theorem fire_in (g : Nat) (n : NetV) (f o b : Nat) (M : MS) (k : Nat) (i : Nat) (r : DevV) (p : P4) (W : World) (hM : MemAt W g n f o b M k) (hr : n.ds[i]? = some r) (hn : n.dn ≤ 10) (hp : p.ok) (hrn : r.rn ≤ 9223372036854775807) :
    Calls Try.prog 137 #[.pointer (some ⟨g, 0, none⟩), .agg #[.int .i64 (i : Int), .int .i64 0], .agg #[.int .i64 p.src, .int .i64 p.dst, .int .i64 p.sport, .int .i64 p.dport]] W fun e W' =>
      ∃ v, e = .returned (.tuple #[goneV 1 p v, .bool (letsB r.rs p)]) ∧ KnowAt W.heap.size W' g n f o b v (.flow ((i : Int), p)) ∧ Below W.heap.size W W' := by
  have HMA := hide (fun (w' : World) (hb : Below W.heap.size W w') => hM.below hb)
  have hin : i < n.dn := by rw [← hM.net.dlen]; exact (List.getElem?_eq_some_iff.1 hr).1
  have hgl := hM.glt
  clear hM
  obtain ⟨dA, dn, dc, ds, lA, ln, lc, ls⟩ := n
  simp only at hr hn hin
  obtain ⟨db, od, rfl, hdb, _⟩ := (HMA.out _ (Below.refl _ _)).net.ds.2 (by show 0 < dn; omega)
  have HRR := hide hr
  clear hr
  have i1 : (0 : Int) ≤ (i : Int) := by omega
  have i2 : (i : Int) < (dn : Int) := by omega
  have i3 : (dn : Int) ≤ 10 := by omega
  go_enter Try.func137, Try.ntmps137
  go_wp2
  generalize hG : World.alloc (World.alloc (World.alloc (World.alloc W _) _) _) _ = W1
  have HW1 := hide (show W1.heap.size = W.heap.size + 4 from by rw [← hG]; simp)
  have HQ := hide (fun (B : Nat) (w' : World) (hb : Below B W1 w') => boxesV (B := B) [(#[.pointer (some ⟨g, 0, none⟩)], 27), (#[.int .i64 (i : Int), .int .i64 0], 37), (#[.int .i64 p.src, .int .i64 p.dst, .int .i64 p.sport, .int .i64 p.dport], 39), (#[.int .i64 0, .int .i64 0, .int .i64 0, .int .i64 0, .int .i64 0, .nilFunc], 134)] W (W' := w') (by rw [← hG] at hb; exact hb))
  have HL := hide (fun (w' : World) (hb : Below W.heap.size W w') => lets_walk r.rs r.rA r.rn r.rc p w' hrn hp ((HMA.out _ hb).net.dok r (List.mem_of_getElem? HRR.out)).rs)
  clear hG
  have HBB := hide (fun (w' : World) (hb : Below (W.heap.size + 3) W1 w') => show Below W.heap.size W w' from (HQ.out _ w' hb).2 (by omega))
  have HF := hide (fun (w' : World) (hb : Below (W.heap.size + 3) W1 w') => show
      (w'.cell? ⟨W.heap.size, 0, none⟩ = some (.pointer (some ⟨g, 0, none⟩)) ∧ w'.cell? ⟨W.heap.size + 1, 0, none⟩ = some (.int .i64 (i : Int)) ∧
      (w'.cell? ⟨W.heap.size + 1 + 1, 0, none⟩ = some (.int .i64 p.src) ∧ w'.cell? ⟨W.heap.size + 1 + 1, 1, none⟩ = some (.int .i64 p.dst) ∧ w'.cell? ⟨W.heap.size + 1 + 1, 2, none⟩ = some (.int .i64 p.sport) ∧ w'.cell? ⟨W.heap.size + 1 + 1, 3, none⟩ = some (.int .i64 p.dport)) ∧
      w'.cell? ⟨g, 0, none⟩ = some (.slice (some ⟨db, od, none⟩) dn dc) ∧ w'.cell? ⟨db, od + i * 7 + 5, none⟩ = some (.slice r.rA r.rn r.rc)) from by
    have x0 := (HQ.out _ w' hb).1 0 _ _ rfl (by omega)
    have x1 := (HQ.out _ w' hb).1 1 _ _ rfl (by omega)
    have x2 := (HQ.out _ w' hb).1 2 _ _ rfl (by omega)
    have hm := HMA.out _ (HBB.out w' hb)
    exact ⟨x0.1 0 _ rfl, x1.1 0 _ rfl, ⟨x2.1 0 _ rfl, x2.1 1 _ rfl, x2.1 2 _ rfl, x2.1 3 _ rfl⟩, hm.c0, (dev_get hm.net.ds HRR.out).2.2.2.2.2.2.1⟩)
  have q3 := HQ.out (W.heap.size + 4) W1 (Below.refl _ _)
  have HX := hide (fun (w' : World) (hb : Below (W.heap.size + 4) W1 w') => show BoxV w' (W.heap.size + 1 + 1 + 1) #[.int .i64 0, .int .i64 0, .int .i64 0, .int .i64 0, .int .i64 0, .nilFunc] from (HQ.out _ w' hb).1 3 _ _ rfl (by omega))
  clear q3
  refine wp_region_E (fun w' => Below (W.heap.size + 4) W1 w') 15 (by kernel_rfl) ((Below.refl _ _).drew) (fun hS inv => ?_)
  refine wpAnyE_load (i := 0) (v := ?_) [15] rfl (by kernel_rfl) (by kernel_rfl) (by kernel_rfl) (by kernel_rfl) (fun _ _ _ h => h) inv (Or.inl ⟨by rfl, ?_⟩) hS (fun inv2 => ?_)
  rotate_left
  · intro w hSw
    obtain ⟨s0, s1, ⟨s2, s3, s4, s5⟩, s6, s7⟩ := HF.out _ (hSw.mono (by omega))
    go_simp
    try with_reducible rfl
  clear inv
  have inv := inv2
  clear inv2
  try simp only [Act.put, nrmA, nrmB, nrmC]
  refine wpAnyE_pure (i := 1) (v := ?_) rfl (by kernel_rfl) (by kernel_rfl) (by kernel_rfl) (by kernel_rfl) (fun _ _ _ h => h) inv (Or.inl ⟨by rfl, ?_⟩) (fun _ => hS) (fun inv2 => ?_)
  rotate_left
  · intro w _
    go_simp
    try with_reducible rfl
  clear inv
  have inv := inv2
  clear inv2
  try simp only [Act.put, nrmA, nrmB, nrmC]
  refine wpAnyE_pure (i := 2) (v := ?_) rfl (by kernel_rfl) (by kernel_rfl) (by kernel_rfl) (by kernel_rfl) (fun _ _ _ h => h) inv (Or.inl ⟨by rfl, ?_⟩) (fun _ => hS) (fun inv2 => ?_)
  rotate_left
  · intro w _
    go_simp
    try with_reducible rfl
  clear inv
  have inv := inv2
  clear inv2
  try simp only [Act.put, nrmA, nrmB, nrmC]
  refine wpAnyE_load (i := 3) (v := ?_) [4, 5, 6, 7, 10, 11, 12, 14, 15] rfl (by kernel_rfl) (by kernel_rfl) (by kernel_rfl) (by kernel_rfl) (fun _ _ _ h => h) inv (Or.inl ⟨by rfl, ?_⟩) hS (fun inv2 => ?_)
  rotate_left
  · intro w hSw
    obtain ⟨s0, s1, ⟨s2, s3, s4, s5⟩, s6, s7⟩ := HF.out _ (hSw.mono (by omega))
    go_simp
    try with_reducible rfl
  clear inv
  have inv := inv2
  clear inv2
  try simp only [Act.put, nrmA, nrmB, nrmC]
  refine wpAnyE_pure (i := 4) (v := ?_) rfl (by kernel_rfl) (by kernel_rfl) (by kernel_rfl) (by kernel_rfl) (fun _ _ _ h => h) inv (Or.inl ⟨by rfl, ?_⟩) (fun _ => hS) (fun inv2 => ?_)
  rotate_left
  · intro w _
    go_simp
    try with_reducible rfl
  clear inv
  have inv := inv2
  clear inv2
  try simp only [Act.put, nrmA, nrmB, nrmC]
  refine wpAnyE_pure (i := 5) (v := ?_) rfl (by kernel_rfl) (by kernel_rfl) (by kernel_rfl) (by kernel_rfl) (fun _ _ _ h => h) inv (Or.inl ⟨by rfl, ?_⟩) (fun _ => hS) (fun inv2 => ?_)
  rotate_left
  · intro w _
    go_simp
    try with_reducible rfl
  clear inv
  have inv := inv2
  clear inv2
  try simp only [Act.put, nrmA, nrmB, nrmC]
  refine wpAnyE_pure (i := 6) (v := ?_) rfl (by kernel_rfl) (by kernel_rfl) (by kernel_rfl) (by kernel_rfl) (fun _ _ _ h => h) inv (Or.inl ⟨by rfl, ?_⟩) (fun _ => hS) (fun inv2 => ?_)
  rotate_left
  · intro w _
    go_simp
    try with_reducible rfl
  clear inv
  have inv := inv2
  clear inv2
  try simp only [Act.put, nrmA, nrmB, nrmC]
  refine wpAnyE_load (i := 7) (v := ?_) [10, 11, 12, 14, 15] rfl (by kernel_rfl) (by kernel_rfl) (by kernel_rfl) (by kernel_rfl) (fun _ _ _ h => h) inv (Or.inl ⟨by rfl, ?_⟩) hS (fun inv2 => ?_)
  rotate_left
  · intro w hSw
    obtain ⟨s0, s1, ⟨s2, s3, s4, s5⟩, s6, s7⟩ := HF.out _ (hSw.mono (by omega))
    go_simp
    try with_reducible rfl
  clear inv
  have inv := inv2
  clear inv2
  try simp only [Act.put, nrmA, nrmB, nrmC]
  refine wpAnyE_pure (i := 8) (v := ?_) rfl (by kernel_rfl) (by kernel_rfl) (by kernel_rfl) (by kernel_rfl) (fun _ _ _ h => h) inv (Or.inl ⟨by rfl, ?_⟩) (fun _ => hS) (fun inv2 => ?_)
  rotate_left
  · intro w _
    go_simp
    try with_reducible rfl
  clear inv
  have inv := inv2
  clear inv2
  try simp only [Act.put, nrmA, nrmB, nrmC]
  refine wpAnyE_load (i := 9) (v := ?_) [10, 11, 12, 14, 15] rfl (by kernel_rfl) (by kernel_rfl) (by kernel_rfl) (by kernel_rfl) (fun _ _ _ h => h) inv (Or.inl ⟨by rfl, ?_⟩) hS (fun inv2 => ?_)
  rotate_left
  · intro w hSw
    obtain ⟨s0, s1, ⟨s2, s3, s4, s5⟩, s6, s7⟩ := HF.out _ (hSw.mono (by omega))
    go_simp
    try with_reducible rfl
  clear inv
  have inv := inv2
  clear inv2
  try simp only [Act.put, nrmA, nrmB, nrmC]
  refine wpAnyE_pure (i := 10) (v := ?_) rfl (by kernel_rfl) (by kernel_rfl) (by kernel_rfl) (by kernel_rfl) (fun _ _ _ h => h) inv (Or.inl ⟨by rfl, ?_⟩) (fun _ => hS) (fun inv2 => ?_)
  rotate_left
  · intro w _
    go_simp
    try with_reducible rfl
  clear inv
  have inv := inv2
  clear inv2
  try simp only [Act.put, nrmA, nrmB, nrmC]
  refine wpAnyE_pure (i := 11) (v := ?_) rfl (by kernel_rfl) (by kernel_rfl) (by kernel_rfl) (by kernel_rfl) (fun _ _ _ h => h) inv (Or.inl ⟨by rfl, ?_⟩) (fun _ => hS) (fun inv2 => ?_)
  rotate_left
  · intro w _
    go_simp
    try with_reducible rfl
  clear inv
  have inv := inv2
  clear inv2
  try simp only [Act.put, nrmA, nrmB, nrmC]
  refine wpAnyE_load (i := 12) (v := ?_) [14, 15] rfl (by kernel_rfl) (by kernel_rfl) (by kernel_rfl) (by kernel_rfl) (fun _ _ _ h => h) inv (Or.inl ⟨by rfl, ?_⟩) hS (fun inv2 => ?_)
  rotate_left
  · intro w hSw
    obtain ⟨s0, s1, ⟨s2, s3, s4, s5⟩, s6, s7⟩ := HF.out _ (hSw.mono (by omega))
    go_simp
    try with_reducible rfl
  clear inv
  have inv := inv2
  clear inv2
  try simp only [Act.put, nrmA, nrmB, nrmC]
  refine wpAnyE_load (i := 13) (v := ?_) [14, 15] rfl (by kernel_rfl) (by kernel_rfl) (by kernel_rfl) (by kernel_rfl) (fun _ _ _ h => h) inv (Or.inl ⟨by rfl, ?_⟩) hS (fun inv2 => ?_)
  rotate_left
  · intro w hSw
    obtain ⟨s0, s1, ⟨s2, s3, s4, s5⟩, s6, s7⟩ := HF.out _ (hSw.mono (by omega))
    go_simp
    try with_reducible rfl
  clear inv
  have inv := inv2
  clear inv2
  try simp only [Act.put, nrmA, nrmB, nrmC]
  refine wpAnyE_one (i := 14) rfl (by kernel_rfl) inv (fun K hK => ?_)
  go_simp
  go_at_call 51
  refine (HL.out _ (HBB.out _ (hS.mono (by omega)))).mono ?_
  rintro e w2 ⟨rfl, hb⟩
  have hS2 : Below (W.heap.size + 4) W1 w2 := hS.trans (hb.mono (by have := hS.size; have := HW1.out; omega))
  go_wp2_with fail
  refine hK.out _ _ (fun _ => hS2) (fun inv2 => ?_)
  clear hK K hS
  clear inv
  have inv := inv2
  clear inv2
  try simp only [Act.put, nrmA, nrmB, nrmC]
  have HB2 := hide (show Below W.heap.size W w2 from HBB.out _ (hS2.mono (by omega)))
  have HX2 := hide (HX.out _ hS2)
  have HBS := hide (hS2.mono (B' := W.heap.size + 3) (by omega))
  clear hS2 hb
  refine wpAnyE_late (i := 15) rfl (by kernel_rfl) inv (by kernel_rfl) (fun K hK => ?_)
  rw [if_pos (by rfl)]
  refine wp_store_mid _ _ _ rfl _ _ #[.int .i64 1, .int .i64 p.src, .int .i64 p.dst, .int .i64 p.sport, .int .i64 p.dport, .func (.func 162) #[] #[.pointer (some ⟨W.heap.size, 0, none⟩), .pointer (some ⟨W.heap.size + 1, 0, none⟩), .pointer (some ⟨W.heap.size + 1 + 1, 0, none⟩)]] rfl rfl (HX2.out.there (Nat.le_refl _)) info_gone (by first | exact DevV.arr_one _ | simp [Value.oneCell']) ?_
  refine hK.out _ _ (fun inv2 => ?_)
  clear hK K
  clear inv
  have inv := inv2
  clear inv2
  try simp only [Act.put, nrmA, nrmB, nrmC]
  refine wpAnyE_late (i := 16) rfl (by kernel_rfl) inv (by kernel_rfl) (fun K hK => ?_)
  go_simp
  refine hK.out _ _ (fun inv2 => ?_)
  clear hK K
  clear inv
  have inv := inv2
  clear inv2
  try simp only [Act.put, nrmA, nrmB, nrmC]
  refine wpAnyE_done (by kernel_rfl) ?_ _
  clear inv
  go_wp2
  have hx3 := HX2.out.all [.int .i64 1, .int .i64 p.src, .int .i64 p.dst, .int .i64 p.sport, .int .i64 p.dport, .func (.func 162) #[] #[.pointer (some ⟨W.heap.size, 0, none⟩), .pointer (some ⟨W.heap.size + 1, 0, none⟩), .pointer (some ⟨W.heap.size + 1 + 1, 0, none⟩)]] rfl
  have hb3 := below_setCells (B := W.heap.size + 3) (N := W.heap.size + 1 + 1 + 1) (Nat.le_refl _) [.int .i64 1, .int .i64 p.src, .int .i64 p.dst, .int .i64 p.sport, .int .i64 p.dport, .func (.func 162) #[] #[.pointer (some ⟨W.heap.size, 0, none⟩), .pointer (some ⟨W.heap.size + 1, 0, none⟩), .pointer (some ⟨W.heap.size + 1 + 1, 0, none⟩)]] 0 w2 ((HBS.out))
  generalize World.setCells w2 _ _ _ = w3 at *
  obtain ⟨z0, z1, z2, z3, z4, z5⟩ : w3.cell? ⟨W.heap.size + 1 + 1 + 1, 0, none⟩ = some (.int .i64 1) ∧ w3.cell? ⟨W.heap.size + 1 + 1 + 1, 1, none⟩ = some (.int .i64 p.src) ∧ w3.cell? ⟨W.heap.size + 1 + 1 + 1, 2, none⟩ = some (.int .i64 p.dst) ∧ w3.cell? ⟨W.heap.size + 1 + 1 + 1, 3, none⟩ = some (.int .i64 p.sport) ∧ w3.cell? ⟨W.heap.size + 1 + 1 + 1, 4, none⟩ = some (.int .i64 p.dport) ∧ w3.cell? ⟨W.heap.size + 1 + 1 + 1, 5, none⟩ = some (.func (.func 162) #[] #[.pointer (some ⟨W.heap.size, 0, none⟩), .pointer (some ⟨W.heap.size + 1, 0, none⟩), .pointer (some ⟨W.heap.size + 1 + 1, 0, none⟩)]) :=
    ⟨hx3.1 0 _ rfl, hx3.1 1 _ rfl, hx3.1 2 _ rfl, hx3.1 3 _ rfl, hx3.1 4 _ rfl, hx3.1 5 _ rfl⟩
  refine bodyPost_ret (v := .tuple #[goneV 1 p (.func (.func 162) #[] #[.pointer (some ⟨W.heap.size, 0, none⟩), .pointer (some ⟨W.heap.size + 1, 0, none⟩), .pointer (some ⟨W.heap.size + 1 + 1, 0, none⟩)]), .bool (letsB r.rs p)]) (by simp [results, Try.f137, go_sem, z0, z1, z2, z3, z4, z5, goneV]) rfl ⟨_, rfl, .inr ⟨_, _, rfl, fire1_enters, fun M' k' w' hb hM' hk' => ?_⟩, HBB.out _ hb3⟩
  have h3 := hb3.size
  have h1 := HW1.out
  have q0 := ((HQ.out _ w3 hb3).1 0 _ _ rfl (by omega)).sameL hb (by omega) (by omega)
  have q1 := ((HQ.out _ w3 hb3).1 1 _ _ rfl (by omega)).sameL hb (by omega) (by omega)
  have q2 := ((HQ.out _ w3 hb3).1 2 _ _ rfl (by omega)).sameL hb (by omega) (by omega)
  exact fire1_walk g _ f o b M' k' W.heap.size (W.heap.size + 1) (W.heap.size + 1 + 1) (i : Int) 0 p w' hM' hk' q0 q1 q2 (by unfold i64ok; omega) hp

set_option maxRecDepth 100000 in
set_option maxHeartbeats 8000000 in
theorem fire_out (g : Nat) (n : NetV) (f o b : Nat) (M : MS) (k : Nat) (i y : Int) (p : P4) (W : World) (hM : MemAt W g n f o b M k) (hi : i64ok i) (hy : y ≠ 0) (hp : p.ok) :
    Calls Try.prog 137 #[.pointer (some ⟨g, 0, none⟩), .agg #[.int .i64 i, .int .i64 y], .agg #[.int .i64 p.src, .int .i64 p.dst, .int .i64 p.sport, .int .i64 p.dport]] W fun e W' =>
      e = .returned (.tuple #[goneV 0 p .nilFunc, .bool (M.F (i, flipP p))]) ∧ Below W.heap.size W W' := by
  have HMA := hide (fun (w' : World) (hb : Below W.heap.size W w') => hM.below hb)
  have HLK := hide (fun (w' : World) (hb : Below W.heap.size W w') => show (Instr.lookup 124 (.map (some f)) (.agg #[.int .i64 i, .int .i64 p.dst, .int .i64 p.src, .int .i64 p.dport, .int .i64 p.sport]) false).run Try.prog w' = .ok (.bool (M.F (i, flipP p))) w' from
    (hM.below hb).lookF (i, flipP p) ⟨hi, ⟨hp.2.1, hp.1, hp.2.2.2, hp.2.2.1⟩⟩)
  have d0 : (y == 0) = false := by simpa using hy
  clear hM hy
  have HFL := hide (fun w => flip_walk p w)
  go_enter Try.func137, Try.ntmps137
  go_wp2
  clear d0
  generalize hG : World.alloc (World.alloc (World.alloc (World.alloc W _) _) _) _ = W1
  have HW1 := hide (show W1.heap.size = W.heap.size + 4 from by rw [← hG]; simp)
  have HQ := hide (fun (B : Nat) (w' : World) (hb : Below B W1 w') => boxesV (B := B) [(#[.pointer (some ⟨g, 0, none⟩)], 27), (#[.int .i64 i, .int .i64 y], 37), (#[.int .i64 p.src, .int .i64 p.dst, .int .i64 p.sport, .int .i64 p.dport], 39), (#[.int .i64 0, .int .i64 0, .int .i64 0, .int .i64 0, .int .i64 0, .nilFunc], 134)] W (W' := w') (by rw [← hG] at hb; exact hb))
  clear hG
  have HBB := hide (fun (w' : World) (hb : Below (W.heap.size + 3) W1 w') => show Below W.heap.size W w' from (HQ.out _ w' hb).2 (by omega))
  have HF := hide (fun (w' : World) (hb : Below (W.heap.size + 3) W1 w') => show
      (w'.cell? ⟨W.heap.size, 0, none⟩ = some (.pointer (some ⟨g, 0, none⟩)) ∧ w'.cell? ⟨W.heap.size + 1, 0, none⟩ = some (.int .i64 i) ∧
      (w'.cell? ⟨W.heap.size + 1 + 1, 0, none⟩ = some (.int .i64 p.src) ∧ w'.cell? ⟨W.heap.size + 1 + 1, 1, none⟩ = some (.int .i64 p.dst) ∧ w'.cell? ⟨W.heap.size + 1 + 1, 2, none⟩ = some (.int .i64 p.sport) ∧ w'.cell? ⟨W.heap.size + 1 + 1, 3, none⟩ = some (.int .i64 p.dport)) ∧
      w'.cell? ⟨g, 2, none⟩ = some (.map (some f))) from by
    have x0 := (HQ.out _ w' hb).1 0 _ _ rfl (by omega)
    have x1 := (HQ.out _ w' hb).1 1 _ _ rfl (by omega)
    have x2 := (HQ.out _ w' hb).1 2 _ _ rfl (by omega)
    have hm := HMA.out _ (HBB.out w' hb)
    exact ⟨x0.1 0 _ rfl, x1.1 0 _ rfl, ⟨x2.1 0 _ rfl, x2.1 1 _ rfl, x2.1 2 _ rfl, x2.1 3 _ rfl⟩, hm.c2⟩)
  have HX := hide (fun (w' : World) (hb : Below (W.heap.size + 4) W1 w') => show BoxV w' (W.heap.size + 1 + 1 + 1) #[.int .i64 0, .int .i64 0, .int .i64 0, .int .i64 0, .int .i64 0, .nilFunc] from (HQ.out _ w' hb).1 3 _ _ rfl (by omega))
  refine wp_region_E (fun w' => Below (W.heap.size + 3) W1 w') 13 (by kernel_rfl) ((Below.refl _ _).drew) (fun hS inv => ?_)
  refine wpAnyE_load (i := 0) (v := ?_) [13] rfl (by kernel_rfl) (by kernel_rfl) (by kernel_rfl) (by kernel_rfl) (fun _ _ _ h => h) inv (Or.inl ⟨by rfl, ?_⟩) hS (fun inv2 => ?_)
  rotate_left
  · intro w hSw
    obtain ⟨s0, s1, ⟨s2, s3, s4, s5⟩, s6⟩ := HF.out _ hSw
    go_simp
    try with_reducible rfl
  clear inv
  have inv := inv2
  clear inv2
  try simp only [Act.put, nrmA, nrmB, nrmC]
  refine wpAnyE_pure (i := 1) (v := ?_) rfl (by kernel_rfl) (by kernel_rfl) (by kernel_rfl) (by kernel_rfl) (fun _ _ _ h => h) inv (Or.inl ⟨by rfl, ?_⟩) (fun _ => hS) (fun inv2 => ?_)
  rotate_left
  · intro w _
    go_simp
    try with_reducible rfl
  clear inv
  have inv := inv2
  clear inv2
  try simp only [Act.put, nrmA, nrmB, nrmC]
  refine wpAnyE_load (i := 2) (v := ?_) [13] rfl (by kernel_rfl) (by kernel_rfl) (by kernel_rfl) (by kernel_rfl) (fun _ _ _ h => h) inv (Or.inl ⟨by rfl, ?_⟩) hS (fun inv2 => ?_)
  rotate_left
  · intro w hSw
    obtain ⟨s0, s1, ⟨s2, s3, s4, s5⟩, s6⟩ := HF.out _ hSw
    go_simp
    try with_reducible rfl
  clear inv
  have inv := inv2
  clear inv2
  try simp only [Act.put, nrmA, nrmB, nrmC]
  refine wpAnyE_pure (i := 3) (v := ?_) rfl (by kernel_rfl) (by kernel_rfl) (by kernel_rfl) (by kernel_rfl) (fun _ _ _ h => h) inv (Or.inl ⟨by rfl, ?_⟩) (fun _ => hS) (fun inv2 => ?_)
  rotate_left
  · intro w _
    go_simp
    try with_reducible rfl
  clear inv
  have inv := inv2
  clear inv2
  try simp only [Act.put, nrmA, nrmB, nrmC]
  refine wpAnyE_pure (i := 4) (v := ?_) rfl (by kernel_rfl) (by kernel_rfl) (by kernel_rfl) (by kernel_rfl) (fun _ _ _ h => h) inv (Or.inl ⟨by rfl, ?_⟩) (fun _ => hS) (fun inv2 => ?_)
  rotate_left
  · intro w _
    go_simp
    try with_reducible rfl
  clear inv
  have inv := inv2
  clear inv2
  try simp only [Act.put, nrmA, nrmB, nrmC]
  refine wpAnyE_load (i := 5) (v := ?_) [13] rfl (by kernel_rfl) (by kernel_rfl) (by kernel_rfl) (by kernel_rfl) (fun _ _ _ h => h) inv (Or.inl ⟨by rfl, ?_⟩) hS (fun inv2 => ?_)
  rotate_left
  · intro w hSw
    obtain ⟨s0, s1, ⟨s2, s3, s4, s5⟩, s6⟩ := HF.out _ hSw
    go_simp
    try with_reducible rfl
  clear inv
  have inv := inv2
  clear inv2
  try simp only [Act.put, nrmA, nrmB, nrmC]
  refine wpAnyE_pure (i := 6) (v := ?_) rfl (by kernel_rfl) (by kernel_rfl) (by kernel_rfl) (by kernel_rfl) (fun _ _ _ h => h) inv (Or.inl ⟨by rfl, ?_⟩) (fun _ => hS) (fun inv2 => ?_)
  rotate_left
  · intro w _
    go_simp
    try with_reducible rfl
  clear inv
  have inv := inv2
  clear inv2
  try simp only [Act.put, nrmA, nrmB, nrmC]
  refine wpAnyE_load (i := 7) (v := ?_) [13] rfl (by kernel_rfl) (by kernel_rfl) (by kernel_rfl) (by kernel_rfl) (fun _ _ _ h => h) inv (Or.inl ⟨by rfl, ?_⟩) hS (fun inv2 => ?_)
  rotate_left
  · intro w hSw
    obtain ⟨s0, s1, ⟨s2, s3, s4, s5⟩, s6⟩ := HF.out _ hSw
    go_simp
    try with_reducible rfl
  clear inv
  have inv := inv2
  clear inv2
  try simp only [Act.put, nrmA, nrmB, nrmC]
  refine wpAnyE_load (i := 8) (v := ?_) [13] rfl (by kernel_rfl) (by kernel_rfl) (by kernel_rfl) (by kernel_rfl) (fun _ _ _ h => h) inv (Or.inl ⟨by rfl, ?_⟩) hS (fun inv2 => ?_)
  rotate_left
  · intro w hSw
    obtain ⟨s0, s1, ⟨s2, s3, s4, s5⟩, s6⟩ := HF.out _ hSw
    go_simp
    try with_reducible rfl
  clear inv
  have inv := inv2
  clear inv2
  try simp only [Act.put, nrmA, nrmB, nrmC]
  refine wpAnyE_one (i := 9) rfl (by kernel_rfl) inv (fun K hK => ?_)
  go_simp
  go_at_call 163
  refine (HFL.out _).mono ?_
  rintro e w2 ⟨rfl, hb⟩
  have hb4 : Below (W.heap.size + 4) W1 w2 := ((Below.refl _ _).drew).trans (hb.mono (by have := HW1.out; simp; omega))
  go_wp2_with fail
  refine hK.out _ _ (fun _ => (hb4.mono (by omega))) (fun inv2 => ?_)
  clear hK K hS
  clear inv
  have inv := inv2
  clear inv2
  try simp only [Act.put, nrmA, nrmB, nrmC]
  have hS := hb4.mono (B' := W.heap.size + 3) (by omega)
  have HX2 := hide (HX.out _ hb4)
  have HBS := hide hS
  clear hb hb4
  refine wpAnyE_pure (i := 10) (v := ?_) rfl (by kernel_rfl) (by kernel_rfl) (by kernel_rfl) (by kernel_rfl) (fun _ _ _ h => h) inv (Or.inl ⟨by rfl, ?_⟩) (fun _ => hS) (fun inv2 => ?_)
  rotate_left
  · intro w _
    go_simp
    try with_reducible rfl
  clear inv
  have inv := inv2
  clear inv2
  try simp only [Act.put, nrmA, nrmB, nrmC]
  refine wpAnyE_load (i := 11) (v := ?_) [13] rfl (by kernel_rfl) (by kernel_rfl) (by kernel_rfl) (by kernel_rfl) (fun _ _ _ h => h) inv (Or.inl ⟨by rfl, ?_⟩) hS (fun inv2 => ?_)
  rotate_left
  · intro w hSw
    obtain ⟨s0, s1, ⟨s2, s3, s4, s5⟩, s6⟩ := HF.out _ hSw; have s8 := HLK.out _ (HBB.out _ hSw)
    go_simp
    try with_reducible rfl
  clear inv
  have inv := inv2
  clear inv2
  try simp only [Act.put, nrmA, nrmB, nrmC]
  refine wpAnyE_one (i := 12) rfl (by kernel_rfl) inv (fun K hK => ?_)
  rw [if_pos (by rfl)]
  refine wp_store_mid _ _ _ rfl _ _ #[.int .i64 0, .int .i64 p.src, .int .i64 p.dst, .int .i64 p.sport, .int .i64 p.dport, .nilFunc] rfl rfl (HX2.out.there (Nat.le_refl _)) info_gone (by first | exact DevV.arr_one _ | simp [Value.oneCell']) ?_
  refine hK.out _ _ (fun _ => (below_setCells (Nat.le_refl _) _ _ _ HBS.out)) (fun inv2 => ?_)
  clear hK K
  clear inv
  have inv := inv2
  clear inv2
  try simp only [Act.put, nrmA, nrmB, nrmC]
  clear hS
  refine wpAnyE_late (i := 13) rfl (by kernel_rfl) inv (by kernel_rfl) (fun K hK => ?_)
  go_simp
  refine hK.out _ _ (fun inv2 => ?_)
  clear hK K
  clear inv
  have inv := inv2
  clear inv2
  try simp only [Act.put, nrmA, nrmB, nrmC]
  refine wpAnyE_done (by kernel_rfl) ?_ _
  clear inv
  go_wp2
  have hx3 := HX2.out.all [.int .i64 0, .int .i64 p.src, .int .i64 p.dst, .int .i64 p.sport, .int .i64 p.dport, .nilFunc] rfl
  have hb3 := below_setCells (B := W.heap.size + 3) (N := W.heap.size + 1 + 1 + 1) (Nat.le_refl _) [.int .i64 0, .int .i64 p.src, .int .i64 p.dst, .int .i64 p.sport, .int .i64 p.dport, .nilFunc] 0 w2 HBS.out
  generalize World.setCells w2 _ _ _ = w3 at *
  obtain ⟨z0, z1, z2, z3, z4, z5⟩ : w3.cell? ⟨W.heap.size + 1 + 1 + 1, 0, none⟩ = some (.int .i64 0) ∧ w3.cell? ⟨W.heap.size + 1 + 1 + 1, 1, none⟩ = some (.int .i64 p.src) ∧ w3.cell? ⟨W.heap.size + 1 + 1 + 1, 2, none⟩ = some (.int .i64 p.dst) ∧ w3.cell? ⟨W.heap.size + 1 + 1 + 1, 3, none⟩ = some (.int .i64 p.sport) ∧ w3.cell? ⟨W.heap.size + 1 + 1 + 1, 4, none⟩ = some (.int .i64 p.dport) ∧ w3.cell? ⟨W.heap.size + 1 + 1 + 1, 5, none⟩ = some .nilFunc :=
    ⟨hx3.1 0 _ rfl, hx3.1 1 _ rfl, hx3.1 2 _ rfl, hx3.1 3 _ rfl, hx3.1 4 _ rfl, hx3.1 5 _ rfl⟩
  exact bodyPost_ret (v := .tuple #[goneV 0 p .nilFunc, .bool (M.F (i, flipP p))]) (by simp [results, Try.f137, go_sem, z0, z1, z2, z3, z4, z5, goneV]) rfl ⟨rfl, HBB.out _ hb3⟩
end Go.Proofs.Ythaiffjalgionaa

set_option linter.unusedVariables false
set_option linter.unusedSimpArgs false
namespace Go.Proofs.Ythaiffjalgionaa
open Go.RowKit Go.Maps

theorem retI {a b : Int} (h : a = b) : Ending.returned (.int .i64 a) = Ending.returned (.int .i64 b) := by rw [h]
theorem mineG_step (M : MS) (i : Int) (o : Int × Int) {k : Nat} (hk : k < 8) : mineG M i o (8 - k) k = if M.O (i, (k : Int)) = some o then (k : Int) else mineG M i o (8 - (k + 1)) (k + 1) := by
  obtain ⟨m, hm⟩ : ∃ m, 8 - k = m + 1 := ⟨7 - k, by omega⟩
  rw [hm, show 8 - (k + 1) = m by omega]
  rfl

theorem mine_ok (M : MS) (i : Int) (o : Int × Int) : ∀ (m k : Nat), m + k ≤ 8 → i64ok (mineG M i o m k)
  | 0, _, _ => by simp [mineG, i64ok]
  | m + 1, k, h => by
    unfold mineG
    split
    · unfold i64ok; omega
    · exact mine_ok M i o m (k + 1) (by omega)
set_option maxRecDepth 100000 in
set_option maxHeartbeats 8000000 in
theorem mine_walk (g : Nat) (n : NetV) (f o b : Nat) (M : MS) (N : Nat) (i a c : Int) (W : World) (hM : MemAt W g n f o b M N) (hi : i64ok i) :
    Calls Try.prog 164 #[.pointer (some ⟨g, 0, none⟩), .int .i64 i, .agg #[.int .i64 a, .int .i64 c]] W fun e W' => e = .returned (.int .i64 (mineF M i (a, c))) ∧ Below W.heap.size W W' := by
  have HMA := hide (fun (w' : World) (hb : Below W.heap.size W w') => hM.below hb)
  have hgl := hM.glt
  clear hM
  go_enter Try.func164, Try.ntmps164
  go_wp2
  have hb0 : Below W.heap.size W (W.alloc (.cells #[.int .i64 a, .int .i64 c] 154)) := (Below.refl _ _).alloc (Nat.le_refl _) _
  have hx0 := BoxV.new W #[.int .i64 a, .int .i64 c] 154
  have hz0 : (W.alloc (.cells #[.int .i64 a, .int .i64 c] 154)).heap.size = W.heap.size + 1 := by simp
  generalize World.alloc W _ = W0 at *
  have HX0 := hide (fun (w' : World) (hb : Below W0.heap.size W0 w') => show BoxV w' W.heap.size #[.int .i64 a, .int .i64 c] ∧ MemAt w' g n f o b M N ∧ Below W.heap.size W w' from
    ⟨hx0.below hb (by omega), HMA.out _ (hb0.trans (hb.mono (by omega))), hb0.trans (hb.mono (by omega))⟩)
  clear hb0 hx0 HMA
  go_loopw [10] (fun j wr => ∃ k : Nat, k ≤ 8 ∧ j = .int .i64 k ∧ Hid (Below W0.heap.size W0 wr) ∧ Hid (mineF M i (a, c) = mineG M i (a, c) (8 - k) k)) (fun j _ => 8 - (intOf j).toNat)
  case atStart => exact ⟨0, by omega, rfl, hide (Below.refl _ _), hide rfl⟩
  case round =>
    obtain ⟨k, hk, rfl, HB, HE⟩ := hrel
    by_cases hlt : k < 8
    · obtain ⟨hbx, hm, _⟩ := HX0.out _ HB.out
      have c3 := hm.c3
      have l3 := hm.lookO (i, (k : Int)) ⟨hi, by unfold i64ok; omega⟩
      have n1 : W.heap.size ≠ wr.heap.size := by have := HB.out.size; omega
      have n2 : g ≠ wr.heap.size := by have := HB.out.size; omega
      have y0 := fun o' => ((HX0.out _ (HB.out.alloc HB.out.size o')).1).1 0 _ rfl
      have y1 := fun o' => ((HX0.out _ (HB.out.alloc HB.out.size o')).1).1 1 _ rfl
      have HS := hide (HE.out.trans (mineG_step M i (a, c) hlt))
      have HA := hide (fun o' => HB.out.alloc HB.out.size o')
      clear hbx hm HE
      simp only [poVal, ownV] at l3
      cases hO : M.O (i, (k : Int)) with
      | none =>
        simp only [hO, Option.getD_none, Option.isSome_none] at l3
        have HN := hide (show mineF M i (a, c) = mineG M i (a, c) (8 - (k + 1)) (k + 1) from by rw [HS.out, if_neg (by rw [hO]; simp)])
        clear hO HS
        go_wp2
        go_roundw
        case rel => exact ⟨k + 1, by omega, by go_num, hide (HA.out _), HN⟩
        case measure => simp [intOf]; omega
      | some x =>
        obtain ⟨u, v⟩ := x
        simp only [hO, Option.getD_some, Option.isSome_some] at l3
        by_cases e1 : u = a
        · by_cases e2 : v = c
          · subst e1 e2
            have HN := hide (show mineF M i (u, v) = (k : Int) from by rw [HS.out, if_pos hO])
            clear hO HS
            go_wp2
            go_ret
            exact ⟨retI HN.out.symm, (HX0.out _ (HA.out _)).2.2⟩
          · have HN := hide (show mineF M i (a, c) = mineG M i (a, c) (8 - (k + 1)) (k + 1) from by rw [HS.out, if_neg (by rw [hO]; simp [e2])])
            have d2 : (v == c) = false := by simpa using e2
            subst e1
            clear hO HS
            go_wp2
            go_roundw
            case rel => exact ⟨k + 1, by omega, by go_num, hide (HA.out _), HN⟩
            case measure => simp [intOf]; omega
        · have HN := hide (show mineF M i (a, c) = mineG M i (a, c) (8 - (k + 1)) (k + 1) from by rw [HS.out, if_neg (by rw [hO]; simp [e1])])
          have d1 : (u == a) = false := by simpa using e1
          clear hO HS
          go_wp2
          go_roundw
          case rel => exact ⟨k + 1, by omega, by go_num, hide (HA.out _), HN⟩
          case measure => simp [intOf]; omega
    · obtain rfl : k = 8 := by omega
      go_wp2
      go_ret
      exact ⟨retI (by rw [HE.out]; rfl), (HX0.out _ HB.out).2.2⟩
end Go.Proofs.Ythaiffjalgionaa
