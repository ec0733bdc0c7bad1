/- A part of the proof: StepHand. -/
import Derived.Test.YtifkacnoiocebaaNw14
import Derived.Test.YtifkacnoiocebaaNw15
set_option linter.unusedVariables false
set_option linter.unusedSimpArgs false
set_option maxRecDepth 100000
set_option maxHeartbeats 16000000
namespace Go.Proofs.Ytifkacnoiocebaa
open Go.Maps Go.RowKit
theorem handS_place {ds : List Dev} {ls : List LinkV} {M : MemS} {i y : Int} {p : P4} {ch : Int} (h : placeB ds (i, y) = false) : handS ds ls M i y p ch = .bad 4 := by simp [handS, h]
theorem handS_right {ds : List Dev} {ls : List LinkV} {M : MemS} {i y : Int} {p : P4} {ch : Int} (h : placeB ds (i, y) = true) (h2 : rightB p = false) : handS ds ls M i y p ch = .bad 1 := by simp [handS, h, h2]
theorem handS_go {ds : List Dev} {ls : List LinkV} {M : MemS} {i y : Int} {p : P4} {ch : Int} (h : placeB ds (i, y) = true) (h2 : rightB p = true) {r : Dev} (hr : ds[i.toNat]? = some r) : handS ds ls M i y p ch = goS ls i (outS r M i y p ch) := by simp [handS, h, h2, hr]
theorem devs_len {w : World} {B : Nat} {n : NetV} (h : NetAt w B n) : n.devs.length = n.dn := by rw [NetV.devs, List.length_map, h.dlen]
theorem info_arrival : (Try.prog.info? 47).map (·.size) = some 6 := by kernel_rfl
theorem MemAt.to {W w9 w7 : World} {g : Nat} {n : NetV} {f o b : Nat} {M M' : MemS} {k k' : Nat} (hM : MemAt W g n f o b M k) (hN : Near (Is3 f o b) W.heap.size W w7) (h9 : MemAt w9 g n f o b M' k') (hb : Below W.heap.size w9 w7) : MemAt w7 g n f o b M' k' := by
  have st : StayOn (fun _ => True) W w7 := fun a v _ hv => hM.cell hN hv (cell_lt hv)
  exact ⟨st _ _ trivial hM.c0, st _ _ trivial hM.c1, st _ _ trivial hM.c2, st _ _ trivial hM.c3, st _ _ trivial hM.c4, hM.net.stay st (fun _ _ => trivial) (fun _ _ => trivial) (fun _ _ => ⟨fun _ _ => trivial, fun _ _ => trivial, fun _ _ => trivial⟩) hN.size,
    h9.mf.below hb hM.flt, h9.mo.below hb hM.olt, h9.mb.below hb hM.blt, h9.nfo, h9.nfb, h9.nob, h9.lf, h9.lo, h9.lb, h9.oo, h9.ob⟩
section
variable {P : Program}
theorem run_equalIn_func_nil (w : World) (d : Nat) (t : TypeId) {ps rs : Array TypeId} {va : Bool} (fn : Fn) (first cap : Array Value) (h : P.underlying t = some (.func ps rs va)) : (Op.equalIn (d + 1) t (.func fn first cap) .nilFunc).run P w = .ok false w := by
  simp [Op.equalIn, run_underlying h]
theorem run_equalIn_nil_nil (w : World) (d : Nat) (t : TypeId) {ps rs : Array TypeId} {va : Bool} (h : P.underlying t = some (.func ps rs va)) : (Op.equalIn (d + 1) t .nilFunc .nilFunc).run P w = .ok true w := by
  simp [Op.equalIn, run_underlying h]
theorem run_neq_func_nil (w : World) (t : TypeId) {ps rs : Array TypeId} {va : Bool} (fn : Fn) (first cap : Array Value) (h : P.underlying t = some (.func ps rs va)) : (binOp .neq t (.func fn first cap) .nilFunc).run P w = .ok (.bool true) w := by
  simp only [binOp]
  simp [Op.equal, Op.maxDepth, run_equalIn_func_nil w 9999 t fn first cap h]
theorem run_neq_nil_nil (w : World) (t : TypeId) {ps rs : Array TypeId} {va : Bool} (h : P.underlying t = some (.func ps rs va)) : (binOp .neq t .nilFunc .nilFunc).run P w = .ok (.bool false) w := by
  simp only [binOp]
  simp [Op.equal, Op.maxDepth, run_equalIn_nil_nil w 9999 t h]
end
theorem put_lt (w : World) (z cs : List Value) (t : TypeId) : w.heap.size < ((w.alloc (.cells z.toArray t)).setCells w.heap.size 0 cs).heap.size := by
  have := (below_setCells (B := w.heap.size) (Nat.le_refl _) cs 0 (w.alloc (.cells z.toArray t)) (Below.refl _ _)).size
  have e : (w.alloc (.cells z.toArray t)).heap.size = w.heap.size + 1 := by simp
  omega
theorem hand_walk (g : Nat) (n : NetV) (f o b : Nat) (M : MemS) (k : Nat) (i y : Int) (p : P4) (ch : Int) (W : World) (hM : MemAt W g n f o b M k) (hE : netE n.devs n.ls = 0) (hi : i64ok i) (hy : i64ok y) (hp : p.ok) (hch : i64ok ch) (hk : k < 1000000) :
    Calls Try.prog 32 #[.pointer (some ⟨g, 0, none⟩), .agg #[.int .i64 i, .int .i64 y], .agg #[.int .i64 p.src, .int .i64 p.dst, .int .i64 p.sport, .int .i64 p.dport], .int .i64 ch] W fun e W' =>
      e = .returned (handS n.devs n.ls M i y p ch).val ∧ MemAt W' g n f o b (M.learn (handS n.devs n.ls M i y p ch).kn) (k + 1) ∧ Near (Is3 f o b) W.heap.size W W' := by
  have hnet := hM.net
  have hok := netE_ok hE
  have hdv := net_devs_ok hE
  have hdl := devs_len hnet
  have hdn : n.dn ≤ 10 := by have h1 := hok.dl; omega
  have hln : n.ln ≤ 9223372036854775807 := by have h1 := hok.ll; rw [hnet.llen] at h1; omega
  obtain ⟨S, hS⟩ : ∃ S, handS n.devs n.ls M i y p ch = S := ⟨_, rfl⟩
  rw [hS]
  have HS0 := hide hS
  have HMA := hide (fun (w' : World) (hb : Below W.heap.size W w') => hM.below hb)
  have HLT := hide (And.intro hM.glt (And.intro hM.flt (And.intro hM.olt hM.blt)))
  have HDL := hide hdl
  have HDV := hide hdv
  have HP := hide hp
  have HCH := hide hch
  have HK := hide hk
  have d2 : (n.dn : Int) ≤ 10 := by omega
  clear hM hE hok hdv hS hp hch hk hnet hdl
  have hq1 : ∀ (w : World) (fn : Fn) (first cap : Array Value), (binOp .neq 1 (.func fn first cap) .nilFunc).run Try.prog w = .ok (.bool true) w := fun w fn first cap => run_neq_func_nil w _ fn first cap Try.underlying1
  have hq2 : ∀ (w : World), (binOp .neq 1 .nilFunc .nilFunc).run Try.prog w = .ok (.bool false) w := fun w => run_neq_nil_nil w _ Try.underlying1
  go_enter Try.func32, Try.ntmps32
  go_wp2
  generalize hG : World.alloc (World.alloc (World.alloc W _) _) _ = W1
  have HW1 := hide (show W1.heap.size = W.heap.size + 3 from by rw [← hG]; simp)
  have HQ := hide (fun (w' : World) (hb : Below W1.heap.size W1 w') => show BoxV w' W.heap.size #[.int .i64 i, .int .i64 y] ∧ BoxV w' (W.heap.size + 1) #[.int .i64 p.src, .int .i64 p.dst, .int .i64 p.sport, .int .i64 p.dport] ∧ BoxV w' (W.heap.size + 1 + 1) #[.int .i64 0, .int .i64 0, .int .i64 0, .int .i64 0, .int .i64 0, .int .i64 0] ∧ Below W.heap.size W w' from by
    have q := boxesV (B := W1.heap.size) [(#[.int .i64 i, .int .i64 y], 45), (#[.int .i64 p.src, .int .i64 p.dst, .int .i64 p.sport, .int .i64 p.dport], 38), (#[.int .i64 0, .int .i64 0, .int .i64 0, .int .i64 0, .int .i64 0, .int .i64 0], 47)] W (W' := w') (by rw [← hG] at hb ⊢; exact hb)
    have e := HW1.out
    exact ⟨q.1 0 _ _ rfl (by omega), q.1 1 _ _ rfl (by omega), q.1 2 _ _ rfl (by omega), q.2 (by omega)⟩)
  clear hG
  by_cases h1 : i < 0
  · have HS := hide (show S = .bad 4 from by rw [← HS0.out]; exact handS_place (by simp [placeB]; omega))
    clear HS0
    refine wp_region_abs (by kernel_rfl) (by kernel_rfl) ?_
    intro T hT gt hg1 hgi
    have HGT := hide hg1
    have HGI := hide hgi
    clear hg1 hgi
    have k0 : ∀ t, (gt t).cell? ⟨W.heap.size, 0, none⟩ = some (.int .i64 i) := fun t => (HQ.out _ (HGT.out t)).1.1 0 _ rfl
    have k1 : ∀ t, (gt t).cell? ⟨W.heap.size, 1, none⟩ = some (.int .i64 y) := fun t => (HQ.out _ (HGT.out t)).1.1 1 _ rfl
    have k2 : ∀ t, (gt t).cell? ⟨g, 0, none⟩ = some (.slice n.dA n.dn n.dc) := fun t => (HMA.out _ (HQ.out _ (HGT.out t)).2.2.2).c0
    repeat (go_big_quiet_step (fail))
    refine wpQuiet_nil ?_
    intro _ hw'
    obtain ⟨t, rfl⟩ := hw'
    have HB2 := hide (HGT.out t)
    generalize gt t = w2 at *
    clear k0 k1 k2 HGT HGI
    have hb3 := (HQ.out _ HB2.out).2.2.1
    have hbw := (HQ.out _ HB2.out).2.2.2
    go_wp2_with ((with_reducible show wpList _ _ _ (⟨none, .store 47 (.tmp 8) _, _, _, _, _⟩ :: _) _ _); refine wpList_store_mid rfl 47 (.tmp 8) (.tmp 51) rfl (W.heap.size + 1 + 1) 0 #[.int .i64 0, .int .i64 0, .int .i64 0, .int .i64 0, .int .i64 0, .int .i64 0] rfl rfl (hb3.there (Nat.le_refl _)) info_arrival (by simp [Value.oneCell']) ?_)
    have hx7 := hb3.all [.int .i64 0, .int .i64 0, .int .i64 0, .int .i64 0, .int .i64 0, .int .i64 0] rfl
    have hb7 := below_setCells (B := W.heap.size) (N := W.heap.size + 1 + 1) (by omega) [.int .i64 0, .int .i64 0, .int .i64 0, .int .i64 0, .int .i64 0, .int .i64 0] 0 _ hbw
    generalize World.setCells _ _ _ _ = w7 at *
    obtain ⟨z0, z1, z2, z3, z4, z5⟩ : w7.cell? ⟨W.heap.size + 1 + 1, 0, none⟩ = some (.int .i64 0) ∧ w7.cell? ⟨W.heap.size + 1 + 1, 1, none⟩ = some (.int .i64 0) ∧ w7.cell? ⟨W.heap.size + 1 + 1, 2, none⟩ = some (.int .i64 0) ∧ w7.cell? ⟨W.heap.size + 1 + 1, 3, none⟩ = some (.int .i64 0) ∧ w7.cell? ⟨W.heap.size + 1 + 1, 4, none⟩ = some (.int .i64 0) ∧ w7.cell? ⟨W.heap.size + 1 + 1, 5, none⟩ = some (.int .i64 0) :=
      ⟨hx7.1 0 _ rfl, hx7.1 1 _ rfl, hx7.1 2 _ rfl, hx7.1 3 _ rfl, hx7.1 4 _ rfl, hx7.1 5 _ rfl⟩
    refine bodyPost_ret (v := .tuple #[.agg #[.int .i64 0, .int .i64 0, .int .i64 0, .int .i64 0, .int .i64 0, .int .i64 0], .int .i64 4]) (by simp [results, Try.f32, go_sem, z0, z1, z2, z3, z4, z5]) rfl ⟨by rw [HS.out]; rfl, ?_, ?_⟩
    · rw [HS.out]; exact (HMA.out _ hb7).more (Nat.le_succ _)
    · exact Near.of_below hb7
  have i1 : (0 : Int) ≤ i := by omega
  have e1 : decide (i < 0) = false := by simp; omega
  by_cases h2 : (n.dn : Int) ≤ i
  · have HS := hide (show S = .bad 4 from by rw [← HS0.out]; exact handS_place (by have := HDL.out; simp [placeB]; omega))
    clear HS0
    refine wp_region_abs (by kernel_rfl) (by kernel_rfl) ?_
    intro T hT gt hg1 hgi
    have HGT := hide hg1
    have HGI := hide hgi
    clear hg1 hgi
    have k0 : ∀ t, (gt t).cell? ⟨W.heap.size, 0, none⟩ = some (.int .i64 i) := fun t => (HQ.out _ (HGT.out t)).1.1 0 _ rfl
    have k1 : ∀ t, (gt t).cell? ⟨W.heap.size, 1, none⟩ = some (.int .i64 y) := fun t => (HQ.out _ (HGT.out t)).1.1 1 _ rfl
    have k2 : ∀ t, (gt t).cell? ⟨g, 0, none⟩ = some (.slice n.dA n.dn n.dc) := fun t => (HMA.out _ (HQ.out _ (HGT.out t)).2.2.2).c0
    repeat (go_big_quiet_step (fail))
    refine wpQuiet_nil ?_
    intro _ hw'
    obtain ⟨t, rfl⟩ := hw'
    have HB2 := hide (HGT.out t)
    generalize gt t = w2 at *
    clear k0 k1 k2 HGT HGI
    have hb3 := (HQ.out _ HB2.out).2.2.1
    have hbw := (HQ.out _ HB2.out).2.2.2
    go_wp2_with ((with_reducible show wpList _ _ _ (⟨none, .store 47 (.tmp 8) _, _, _, _, _⟩ :: _) _ _); refine wpList_store_mid rfl 47 (.tmp 8) (.tmp 51) rfl (W.heap.size + 1 + 1) 0 #[.int .i64 0, .int .i64 0, .int .i64 0, .int .i64 0, .int .i64 0, .int .i64 0] rfl rfl (hb3.there (Nat.le_refl _)) info_arrival (by simp [Value.oneCell']) ?_)
    have hx7 := hb3.all [.int .i64 0, .int .i64 0, .int .i64 0, .int .i64 0, .int .i64 0, .int .i64 0] rfl
    have hb7 := below_setCells (B := W.heap.size) (N := W.heap.size + 1 + 1) (by omega) [.int .i64 0, .int .i64 0, .int .i64 0, .int .i64 0, .int .i64 0, .int .i64 0] 0 _ hbw
    generalize World.setCells _ _ _ _ = w7 at *
    obtain ⟨z0, z1, z2, z3, z4, z5⟩ : w7.cell? ⟨W.heap.size + 1 + 1, 0, none⟩ = some (.int .i64 0) ∧ w7.cell? ⟨W.heap.size + 1 + 1, 1, none⟩ = some (.int .i64 0) ∧ w7.cell? ⟨W.heap.size + 1 + 1, 2, none⟩ = some (.int .i64 0) ∧ w7.cell? ⟨W.heap.size + 1 + 1, 3, none⟩ = some (.int .i64 0) ∧ w7.cell? ⟨W.heap.size + 1 + 1, 4, none⟩ = some (.int .i64 0) ∧ w7.cell? ⟨W.heap.size + 1 + 1, 5, none⟩ = some (.int .i64 0) :=
      ⟨hx7.1 0 _ rfl, hx7.1 1 _ rfl, hx7.1 2 _ rfl, hx7.1 3 _ rfl, hx7.1 4 _ rfl, hx7.1 5 _ rfl⟩
    refine bodyPost_ret (v := .tuple #[.agg #[.int .i64 0, .int .i64 0, .int .i64 0, .int .i64 0, .int .i64 0, .int .i64 0], .int .i64 4]) (by simp [results, Try.f32, go_sem, z0, z1, z2, z3, z4, z5]) rfl ⟨by rw [HS.out]; rfl, ?_, ?_⟩
    · rw [HS.out]; exact (HMA.out _ hb7).more (Nat.le_succ _)
    · exact Near.of_below hb7
  obtain ⟨j, rfl⟩ : ∃ j : Nat, i = (j : Int) := ⟨i.toNat, by omega⟩
  have hjl : j < n.ds.length := by have := (HMA.out W (Below.refl _ _)).net.dlen; omega
  obtain ⟨r, hr⟩ : ∃ r, n.ds[j]? = some r := ⟨_, List.getElem?_eq_getElem hjl⟩
  obtain ⟨db, od, hdA, hdb0, hdb1⟩ := (HMA.out _ (Below.refl _ _)).net.ds.2 (by omega)
  clear hdb0 hdb1
  have HRR := hide hr
  have HKA := hide (show kindAt n.devs (j : Int) = r.kind from by simp [kindAt, NetV.devs, hr, DevV.dev])
  have i2 : (j : Int) < (n.dn : Int) := by omega
  have e2 : decide ((n.dn : Int) ≤ (j : Int)) = false := by simp; omega
  have HDA := hide (fun (w' : World) (hb : Below W.heap.size W w') => dev_get (b := db) (o := od) (w := w') (r := r) (k := j) (by have q := (HMA.out w' hb).net.ds; rw [hdA] at q; exact q) HRR.out)
  by_cases h3 : y < 0
  · have HS := hide (show S = .bad 4 from by rw [← HS0.out]; exact handS_place (by simp [placeB]; omega))
    clear HS0
    refine wp_region_abs (by kernel_rfl) (by kernel_rfl) ?_
    intro T hT gt hg1 hgi
    have HGT := hide hg1
    have HGI := hide hgi
    clear hg1 hgi
    have k0 : ∀ t, (gt t).cell? ⟨W.heap.size, 0, none⟩ = some (.int .i64 (j : Int)) := fun t => (HQ.out _ (HGT.out t)).1.1 0 _ rfl
    have k1 : ∀ t, (gt t).cell? ⟨W.heap.size, 1, none⟩ = some (.int .i64 y) := fun t => (HQ.out _ (HGT.out t)).1.1 1 _ rfl
    have k2 : ∀ t, (gt t).cell? ⟨g, 0, none⟩ = some (.slice n.dA n.dn n.dc) := fun t => (HMA.out _ (HQ.out _ (HGT.out t)).2.2.2).c0
    repeat (go_big_quiet_step (fail))
    refine wpQuiet_nil ?_
    intro _ hw'
    obtain ⟨t, rfl⟩ := hw'
    have HB2 := hide (HGT.out t)
    generalize gt t = w2 at *
    clear k0 k1 k2 HGT HGI
    have hb3 := (HQ.out _ HB2.out).2.2.1
    have hbw := (HQ.out _ HB2.out).2.2.2
    go_wp2_with ((with_reducible show wpList _ _ _ (⟨none, .store 47 (.tmp 8) _, _, _, _, _⟩ :: _) _ _); refine wpList_store_mid rfl 47 (.tmp 8) (.tmp 51) rfl (W.heap.size + 1 + 1) 0 #[.int .i64 0, .int .i64 0, .int .i64 0, .int .i64 0, .int .i64 0, .int .i64 0] rfl rfl (hb3.there (Nat.le_refl _)) info_arrival (by simp [Value.oneCell']) ?_)
    have hx7 := hb3.all [.int .i64 0, .int .i64 0, .int .i64 0, .int .i64 0, .int .i64 0, .int .i64 0] rfl
    have hb7 := below_setCells (B := W.heap.size) (N := W.heap.size + 1 + 1) (by omega) [.int .i64 0, .int .i64 0, .int .i64 0, .int .i64 0, .int .i64 0, .int .i64 0] 0 _ hbw
    generalize World.setCells _ _ _ _ = w7 at *
    obtain ⟨z0, z1, z2, z3, z4, z5⟩ : w7.cell? ⟨W.heap.size + 1 + 1, 0, none⟩ = some (.int .i64 0) ∧ w7.cell? ⟨W.heap.size + 1 + 1, 1, none⟩ = some (.int .i64 0) ∧ w7.cell? ⟨W.heap.size + 1 + 1, 2, none⟩ = some (.int .i64 0) ∧ w7.cell? ⟨W.heap.size + 1 + 1, 3, none⟩ = some (.int .i64 0) ∧ w7.cell? ⟨W.heap.size + 1 + 1, 4, none⟩ = some (.int .i64 0) ∧ w7.cell? ⟨W.heap.size + 1 + 1, 5, none⟩ = some (.int .i64 0) :=
      ⟨hx7.1 0 _ rfl, hx7.1 1 _ rfl, hx7.1 2 _ rfl, hx7.1 3 _ rfl, hx7.1 4 _ rfl, hx7.1 5 _ rfl⟩
    refine bodyPost_ret (v := .tuple #[.agg #[.int .i64 0, .int .i64 0, .int .i64 0, .int .i64 0, .int .i64 0, .int .i64 0], .int .i64 4]) (by simp [results, Try.f32, go_sem, z0, z1, z2, z3, z4, z5]) rfl ⟨by rw [HS.out]; rfl, ?_, ?_⟩
    · rw [HS.out]; exact (HMA.out _ hb7).more (Nat.le_succ _)
    · exact Near.of_below hb7
  have i3 : (0 : Int) ≤ y := by omega
  have e3 : decide (y < 0) = false := by simp; omega
  have HPO := hide (fun t => ports_walk r.kind t)
  obtain ⟨PF, hPF⟩ : ∃ PF, portsF r.kind = PF := ⟨_, rfl⟩
  have HPF := hide hPF
  simp only [hPF] at HPO
  clear hPF
  by_cases h4 : PF ≤ y
  · have HS := hide (show S = .bad 4 from by rw [← HS0.out]; exact handS_place (by simp [placeB, HKA.out, HPF.out]; omega))
    clear HS0
    refine wp_region_abs (by kernel_rfl) (by kernel_rfl) ?_
    intro T hT gt hg1 hgi
    have HGT := hide hg1
    have HGI := hide hgi
    clear hg1 hgi
    have k0 : ∀ t, (gt t).cell? ⟨W.heap.size, 0, none⟩ = some (.int .i64 (j : Int)) := fun t => (HQ.out _ (HGT.out t)).1.1 0 _ rfl
    have k1 : ∀ t, (gt t).cell? ⟨W.heap.size, 1, none⟩ = some (.int .i64 y) := fun t => (HQ.out _ (HGT.out t)).1.1 1 _ rfl
    have k2 : ∀ t, (gt t).cell? ⟨g, 0, none⟩ = some (.slice n.dA n.dn n.dc) := fun t => (HMA.out _ (HQ.out _ (HGT.out t)).2.2.2).c0
    rw [hdA] at k2
    have k3 : ∀ t, (gt t).cell? ⟨db, od + j * 7 + 1, none⟩ = some (.int .i64 r.kind) := fun t => by have q := HDA.out _ (HQ.out _ (HGT.out t)).2.2.2; exact q.2.2.1
    repeat (go_big_quiet_step ((go_at_call 43; exact inAbsSame (HPO.out _))))
    clear k3
    refine wpQuiet_nil ?_
    intro _ hw'
    obtain ⟨t, rfl⟩ := hw'
    have HB2 := hide (HGT.out t)
    generalize gt t = w2 at *
    clear k0 k1 k2 HGT HGI
    have hb3 := (HQ.out _ HB2.out).2.2.1
    have hbw := (HQ.out _ HB2.out).2.2.2
    go_wp2_with ((with_reducible show wpList _ _ _ (⟨none, .store 47 (.tmp 8) _, _, _, _, _⟩ :: _) _ _); refine wpList_store_mid rfl 47 (.tmp 8) (.tmp 51) rfl (W.heap.size + 1 + 1) 0 #[.int .i64 0, .int .i64 0, .int .i64 0, .int .i64 0, .int .i64 0, .int .i64 0] rfl rfl (hb3.there (Nat.le_refl _)) info_arrival (by simp [Value.oneCell']) ?_)
    have hx7 := hb3.all [.int .i64 0, .int .i64 0, .int .i64 0, .int .i64 0, .int .i64 0, .int .i64 0] rfl
    have hb7 := below_setCells (B := W.heap.size) (N := W.heap.size + 1 + 1) (by omega) [.int .i64 0, .int .i64 0, .int .i64 0, .int .i64 0, .int .i64 0, .int .i64 0] 0 _ hbw
    generalize World.setCells _ _ _ _ = w7 at *
    obtain ⟨z0, z1, z2, z3, z4, z5⟩ : w7.cell? ⟨W.heap.size + 1 + 1, 0, none⟩ = some (.int .i64 0) ∧ w7.cell? ⟨W.heap.size + 1 + 1, 1, none⟩ = some (.int .i64 0) ∧ w7.cell? ⟨W.heap.size + 1 + 1, 2, none⟩ = some (.int .i64 0) ∧ w7.cell? ⟨W.heap.size + 1 + 1, 3, none⟩ = some (.int .i64 0) ∧ w7.cell? ⟨W.heap.size + 1 + 1, 4, none⟩ = some (.int .i64 0) ∧ w7.cell? ⟨W.heap.size + 1 + 1, 5, none⟩ = some (.int .i64 0) :=
      ⟨hx7.1 0 _ rfl, hx7.1 1 _ rfl, hx7.1 2 _ rfl, hx7.1 3 _ rfl, hx7.1 4 _ rfl, hx7.1 5 _ rfl⟩
    refine bodyPost_ret (v := .tuple #[.agg #[.int .i64 0, .int .i64 0, .int .i64 0, .int .i64 0, .int .i64 0, .int .i64 0], .int .i64 4]) (by simp [results, Try.f32, go_sem, z0, z1, z2, z3, z4, z5]) rfl ⟨by rw [HS.out]; rfl, ?_, ?_⟩
    · rw [HS.out]; exact (HMA.out _ hb7).more (Nat.le_succ _)
    · exact Near.of_below hb7
  have e4 : decide (PF ≤ y) = false := by simp; omega
  have hpl : placeB n.devs ((j : Int), y) = true := by have := HDL.out; simp [placeB, HKA.out, HPF.out]; omega
  refine wp_region_abs (by kernel_rfl) (by kernel_rfl) ?_
  intro T hT gt hg1 hgi
  have HGT := hide hg1
  have HGI := hide hgi
  clear hg1 hgi
  have k0 : ∀ t, (gt t).cell? ⟨W.heap.size, 0, none⟩ = some (.int .i64 (j : Int)) := fun t => (HQ.out _ (HGT.out t)).1.1 0 _ rfl
  have k1 : ∀ t, (gt t).cell? ⟨W.heap.size, 1, none⟩ = some (.int .i64 y) := fun t => (HQ.out _ (HGT.out t)).1.1 1 _ rfl
  have k2 : ∀ t, (gt t).cell? ⟨g, 0, none⟩ = some (.slice n.dA n.dn n.dc) := fun t => (HMA.out _ (HQ.out _ (HGT.out t)).2.2.2).c0
  rw [hdA] at k2
  have k3 : ∀ t, (gt t).cell? ⟨db, od + j * 7 + 1, none⟩ = some (.int .i64 r.kind) := fun t => by have q := HDA.out _ (HQ.out _ (HGT.out t)).2.2.2; exact q.2.2.1
  repeat (go_big_quiet_step ((go_at_call 43; exact inAbsSame (HPO.out _))))
  clear k3
  refine wpQuiet_nil ?_
  intro _ hw'
  obtain ⟨t, rfl⟩ := hw'
  have HB2 := hide (HGT.out t)
  generalize gt t = w2 at *
  clear k0 k1 k2 HGT HGI
  obtain ⟨y0, y1, y2, y3⟩ : w2.cell? ⟨W.heap.size + 1, 0, none⟩ = some (.int .i64 p.src) ∧ w2.cell? ⟨W.heap.size + 1, 1, none⟩ = some (.int .i64 p.dst) ∧ w2.cell? ⟨W.heap.size + 1, 2, none⟩ = some (.int .i64 p.sport) ∧ w2.cell? ⟨W.heap.size + 1, 3, none⟩ = some (.int .i64 p.dport) := by
    have q := (HQ.out _ HB2.out).2.1
    exact ⟨q.1 0 _ rfl, q.1 1 _ rfl, q.1 2 _ rfl, q.1 3 _ rfl⟩
  go_wp2_with fail
  refine (packetCheck_walk p w2).mono ?_
  clear y0 y1 y2 y3
  rintro e w3 ⟨he, hb⟩
  have HB3 := hide (HB2.out.trans (hb.mono HB2.out.size))
  clear hb HB2
  cases hrb : rightB p
  · have HS := hide (show S = .bad 1 from by rw [← HS0.out]; exact handS_right hpl hrb)
    rw [hrb] at he
    obtain rfl : e = .returned (.int .i64 1) := he
    have hb3 := (HQ.out _ HB3.out).2.2.1
    have hbw := (HQ.out _ HB3.out).2.2.2
    clear HS0 hpl
    go_wp2_with ((with_reducible show wpList _ _ _ (⟨none, .store 47 (.tmp 8) _, _, _, _, _⟩ :: _) _ _); refine wpList_store_mid rfl 47 (.tmp 8) (.tmp 56) rfl (W.heap.size + 1 + 1) 0 #[.int .i64 0, .int .i64 0, .int .i64 0, .int .i64 0, .int .i64 0, .int .i64 0] rfl rfl (hb3.there (Nat.le_refl _)) info_arrival (by simp [Value.oneCell']) ?_)
    have hx7 := hb3.all [.int .i64 0, .int .i64 0, .int .i64 0, .int .i64 0, .int .i64 0, .int .i64 0] rfl
    have hb7 := below_setCells (B := W.heap.size) (N := W.heap.size + 1 + 1) (by omega) [.int .i64 0, .int .i64 0, .int .i64 0, .int .i64 0, .int .i64 0, .int .i64 0] 0 _ hbw
    generalize World.setCells _ _ _ _ = w7 at *
    obtain ⟨z0, z1, z2, z3, z4, z5⟩ : w7.cell? ⟨W.heap.size + 1 + 1, 0, none⟩ = some (.int .i64 0) ∧ w7.cell? ⟨W.heap.size + 1 + 1, 1, none⟩ = some (.int .i64 0) ∧ w7.cell? ⟨W.heap.size + 1 + 1, 2, none⟩ = some (.int .i64 0) ∧ w7.cell? ⟨W.heap.size + 1 + 1, 3, none⟩ = some (.int .i64 0) ∧ w7.cell? ⟨W.heap.size + 1 + 1, 4, none⟩ = some (.int .i64 0) ∧ w7.cell? ⟨W.heap.size + 1 + 1, 5, none⟩ = some (.int .i64 0) :=
      ⟨hx7.1 0 _ rfl, hx7.1 1 _ rfl, hx7.1 2 _ rfl, hx7.1 3 _ rfl, hx7.1 4 _ rfl, hx7.1 5 _ rfl⟩
    refine bodyPost_ret (v := .tuple #[.agg #[.int .i64 0, .int .i64 0, .int .i64 0, .int .i64 0, .int .i64 0, .int .i64 0], .int .i64 1]) (by simp [results, Try.f32, go_sem, z0, z1, z2, z3, z4, z5]) rfl ⟨by rw [HS.out]; rfl, ?_, ?_⟩
    · rw [HS.out]; exact (HMA.out _ hb7).more (Nat.le_succ _)
    · exact Near.of_below hb7
  rw [hrb] at he
  obtain rfl : e = .returned (.int .i64 0) := he
  have HS1 := hide (show S = goS n.ls (j : Int) (outS r.dev M (j : Int) y p ch) from by rw [← HS0.out]; exact handS_go hpl hrb (by simp [NetV.devs, HRR.out]))
  have HCA := hide (fun (w' : World) (hm : MemAt w' g n f o b M k) => outAll_walk g n f o b M k j y r p ch w' hm HRR.out hdn HP.out HCH.out (HDV.out _ (List.mem_map.2 ⟨r, List.mem_of_getElem? HRR.out, rfl⟩)).k1 (HDV.out _ (List.mem_map.2 ⟨r, List.mem_of_getElem? HRR.out, rfl⟩)).k5)
  clear HS0 hpl hrb HDA HKA HPO HPF e4 h4 e1 e2 e3 h1 h2 h3 hdA i1 i2 i3
  obtain ⟨X, hX⟩ : ∃ X, outS r.dev M (j : Int) y p ch = X := ⟨_, rfl⟩
  simp only [hX] at HCA HS1
  clear hX
  obtain ⟨⟨pt, ⟨qa, qb, qc, qd⟩, kn⟩, ok, er⟩ := X
  simp only at HCA
  obtain ⟨j0, j1⟩ : w3.cell? ⟨W.heap.size, 0, none⟩ = some (.int .i64 (j : Int)) ∧ w3.cell? ⟨W.heap.size, 1, none⟩ = some (.int .i64 y) := by
    have q := (HQ.out _ HB3.out).1
    exact ⟨q.1 0 _ rfl, q.1 1 _ rfl⟩
  obtain ⟨y0, y1, y2, y3⟩ : w3.cell? ⟨W.heap.size + 1, 0, none⟩ = some (.int .i64 p.src) ∧ w3.cell? ⟨W.heap.size + 1, 1, none⟩ = some (.int .i64 p.dst) ∧ w3.cell? ⟨W.heap.size + 1, 2, none⟩ = some (.int .i64 p.sport) ∧ w3.cell? ⟨W.heap.size + 1, 3, none⟩ = some (.int .i64 p.dport) := by
    have q := (HQ.out _ HB3.out).2.1
    exact ⟨q.1 0 _ rfl, q.1 1 _ rfl, q.1 2 _ rfl, q.1 3 _ rfl⟩
  go_wp2_with fail
  refine (HCA.out _ (HMA.out _ (HQ.out _ HB3.out).2.2.2)).mono ?_
  clear HCA j0 j1 y0 y1 y2 y3
  rintro e w4 ⟨v, rfl, hkn, hb⟩
  have HB4 := hide (HB3.out.trans (hb.mono HB3.out.size))
  have HKN := hide hkn
  have hv1 := hkn.one
  clear hb hkn
  simp only [goneV]
  by_cases her : er = 0
  · subst her
    go_wp2_with ((with_reducible show wpList _ _ _ (⟨none, .store 110 (.tmp 11) _, _, _, _, _⟩ :: _) _ _); refine wpList_store_mid rfl 110 (.tmp 11) (.tmp 64) rfl w4.heap.size 0 #[.int .i64 pt, .int .i64 qa, .int .i64 qb, .int .i64 qc, .int .i64 qd, v] rfl rfl ((BoxV.new w4 _ _).there (Nat.le_refl _)) info_gone (one6 hv1) ?_; obtain ⟨hb4, hx4⟩ := put_box w4 [.int .i64 0, .int .i64 0, .int .i64 0, .int .i64 0, .int .i64 0, .nilFunc] [.int .i64 pt, .int .i64 qa, .int .i64 qb, .int .i64 qc, .int .i64 qd, v] rfl 110; have HL6 := hide (put_lt w4 [.int .i64 0, .int .i64 0, .int .i64 0, .int .i64 0, .int .i64 0, .nilFunc] [.int .i64 pt, .int .i64 qa, .int .i64 qb, .int .i64 qc, .int .i64 qd, v] 110); generalize World.setCells _ _ _ _ = w6 at *; have HB6 := hide (HB4.out.trans (hb4.mono HB4.out.size)); have HX6 := hide hx4; have HK6 := hide (HKN.out.later (Same.of_below hb4) (Nat.le_refl _)); clear hx4 hb4 HKN)
    have k0 : w6.cell? ⟨W.heap.size, 0, none⟩ = some (.int .i64 (j : Int)) := (HQ.out _ HB6.out).1.1 0 _ rfl
    have hm6 := HMA.out _ (HQ.out _ HB6.out).2.2.2
    have k1 := hm6.c0
    have k2 := hm6.c1
    have k3 : w6.cell? ⟨w4.heap.size, 0, none⟩ = some (.int .i64 pt) := HX6.out.1 0 _ rfl
    clear hm6
    have HBW6 := hide (HQ.out _ HB6.out).2.2.2
    have HPE := hide (fun (w' : World) (hb : Below W.heap.size W w') => peer_any n.dA n.dn n.dc n.lA n.ln n.lc n.ls (j : Int) pt w' hln (HMA.out w' hb).net.ls)
    obtain ⟨PR, hPR⟩ : ∃ PR, peerF n.ls ((j : Int), pt) = PR := ⟨_, rfl⟩
    simp only [hPR] at HPE
    have HPR := hide hPR
    clear hPR
    obtain ⟨PV, hPV⟩ : ∃ PV, peerV PR = PV := ⟨_, rfl⟩
    simp only [hPV] at HPE
    obtain ⟨t1, t2, tb, hPT, HPW⟩ : ∃ t1 t2 tb, PV = .tuple #[.agg #[.int .i64 t1, .int .i64 t2], .bool tb] ∧ Hid (PR = if tb then some (t1, t2) else none) := by
      rw [← hPV]
      cases PR with
      | none => exact ⟨0, 0, false, rfl, hide rfl⟩
      | some x => exact ⟨x.1, x.2, true, rfl, hide rfl⟩
    subst hPT
    clear hPV
    have n1 : W.heap.size ≠ w6.heap.size := by have := HBW6.out.size; have := HB6.out.size; have := HW1.out; omega
    have n2 : g ≠ w6.heap.size := by have := HBW6.out.size; have := HLT.out.1; omega
    have n5 : w4.heap.size ≠ w6.heap.size := by have := HL6.out; omega
    have n3 := Ne.symm n1
    have n4 := Ne.symm n2
    have n6 := Ne.symm n5
    go_region_held3 (fun w' => w'.cell? ⟨W.heap.size, 0, none⟩ = some (.int .i64 (j : Int)) ∧ w'.cell? ⟨g, 0, none⟩ = some (.slice n.dA n.dn n.dc) ∧ w'.cell? ⟨g, 1, none⟩ = some (.slice n.lA n.ln n.lc) ∧ w'.cell? ⟨w4.heap.size, 0, none⟩ = some (.int .i64 pt)) (go_keep) ((go_at_call 42; refine (HPE.out _ (by first | exact HBW6.out.drew | exact (HBW6.out.alloc HBW6.out.size _).drew)).mono ?_; rintro e w7 ⟨rfl, hb7⟩; have HB7 := hide (show Below w6.heap.size w6 w7 from by first | exact ((Below.refl _ w6).drew).trans hb7 | exact (((Below.refl _ w6).alloc (Nat.le_refl _) _).drew).trans (hb7.mono (by simp))); have k0 : w7.cell? ⟨W.heap.size, 0, none⟩ = some (.int .i64 (j : Int)) := (HQ.out _ (HB6.out.trans (HB7.out.mono HB6.out.size))).1.1 0 _ rfl; have k1 := (HMA.out _ (HQ.out _ (HB6.out.trans (HB7.out.mono HB6.out.size))).2.2.2).c0; have k2 := (HMA.out _ (HQ.out _ (HB6.out.trans (HB7.out.mono HB6.out.size))).2.2.2).c1; have k3 : w7.cell? ⟨w4.heap.size, 0, none⟩ = some (.int .i64 pt) := (HX6.out.below HB7.out HL6.out).1 0 _ rfl; (try (have hz7 : BoxV w7 w6.heap.size #[.int .i64 0, .int .i64 0] := ((BoxV.new w6 #[.int .i64 0, .int .i64 0] 45).below ((Below.refl (w6.heap.size + 1) _).drew) (Nat.lt_succ_self _)).below hb7 (by simp); obtain ⟨z0, z1, z2, z3⟩ := (show Box2 w7 w6.heap.size 0 0 from Box2.below (w := (w6.alloc (.cells #[.int .i64 0, .int .i64 0] 45)).drew) (Box2.new w6 0 0 45) hb7 (by simp))))))
    · have hb8 : Below w6.heap.size w6 (w7.alloc (.cells #[.int .i64 t1, .int .i64 t2] 45)) := HB7.out.alloc HB7.out.size _
      have hx8 := BoxV.new w7 #[.int .i64 t1, .int .i64 t2] 45
      have hq8 : w6.heap.size ≤ w7.heap.size ∧ w7.heap.size < (w7.alloc (.cells #[.int .i64 t1, .int .i64 t2] 45)).heap.size := ⟨HB7.out.size, by simp⟩
      clear k0 k1 k2 k3 n1 n2 n3 n4 n5 n6
      obtain ⟨Q, hQ⟩ : ∃ Q, w7.heap.size = Q := ⟨_, rfl⟩
      rw [hQ] at hx8 hq8 ⊢
      clear hQ
      generalize World.alloc w7 _ = w8 at *
      have HB8 := hide (HB6.out.trans (hb8.mono HB6.out.size))
      have hb3 := (HQ.out _ HB8.out).2.2.1
      have hbw := (HQ.out _ HB8.out).2.2.2
      have hx4 := HX6.out.below hb8 HL6.out
      cases ok
      · have HS := hide (show S = .bad 7 from by rw [HS1.out]; simp only [goS, HPR.out, HPW.out]; cases tb <;> rfl)
        go_wp2_with ((with_reducible show wpList _ _ _ (⟨none, .store 47 (.tmp 8) _, _, _, _, _⟩ :: _) _ _); refine wpList_store_mid rfl 47 (.tmp 8) (.tmp 90) rfl (W.heap.size + 1 + 1) 0 #[.int .i64 0, .int .i64 0, .int .i64 0, .int .i64 0, .int .i64 0, .int .i64 0] rfl rfl (hb3.there (Nat.le_refl _)) info_arrival (by simp [Value.oneCell']) ?_)
        have hx7 := hb3.all [.int .i64 0, .int .i64 0, .int .i64 0, .int .i64 0, .int .i64 0, .int .i64 0] rfl
        have hb7 := below_setCells (B := W.heap.size) (N := W.heap.size + 1 + 1) (by omega) [.int .i64 0, .int .i64 0, .int .i64 0, .int .i64 0, .int .i64 0, .int .i64 0] 0 _ hbw
        generalize World.setCells _ _ _ _ = w7 at *
        obtain ⟨z0, z1, z2, z3, z4, z5⟩ : w7.cell? ⟨W.heap.size + 1 + 1, 0, none⟩ = some (.int .i64 0) ∧ w7.cell? ⟨W.heap.size + 1 + 1, 1, none⟩ = some (.int .i64 0) ∧ w7.cell? ⟨W.heap.size + 1 + 1, 2, none⟩ = some (.int .i64 0) ∧ w7.cell? ⟨W.heap.size + 1 + 1, 3, none⟩ = some (.int .i64 0) ∧ w7.cell? ⟨W.heap.size + 1 + 1, 4, none⟩ = some (.int .i64 0) ∧ w7.cell? ⟨W.heap.size + 1 + 1, 5, none⟩ = some (.int .i64 0) :=
          ⟨hx7.1 0 _ rfl, hx7.1 1 _ rfl, hx7.1 2 _ rfl, hx7.1 3 _ rfl, hx7.1 4 _ rfl, hx7.1 5 _ rfl⟩
        refine bodyPost_ret (v := .tuple #[.agg #[.int .i64 0, .int .i64 0, .int .i64 0, .int .i64 0, .int .i64 0, .int .i64 0], .int .i64 7]) (by simp [results, Try.f32, go_sem, z0, z1, z2, z3, z4, z5]) rfl ⟨by rw [HS.out]; rfl, ?_, ?_⟩
        · rw [HS.out]; exact (HMA.out _ hb7).more (Nat.le_succ _)
        · exact Near.of_below hb7
      cases tb
      · have HS := hide (show S = .bad 7 from by rw [HS1.out]; simp only [goS, HPR.out, HPW.out]; rfl)
        go_wp2_with ((with_reducible show wpList _ _ _ (⟨none, .store 47 (.tmp 8) _, _, _, _, _⟩ :: _) _ _); refine wpList_store_mid rfl 47 (.tmp 8) (.tmp 90) rfl (W.heap.size + 1 + 1) 0 #[.int .i64 0, .int .i64 0, .int .i64 0, .int .i64 0, .int .i64 0, .int .i64 0] rfl rfl (hb3.there (Nat.le_refl _)) info_arrival (by simp [Value.oneCell']) ?_)
        have hx7 := hb3.all [.int .i64 0, .int .i64 0, .int .i64 0, .int .i64 0, .int .i64 0, .int .i64 0] rfl
        have hb7 := below_setCells (B := W.heap.size) (N := W.heap.size + 1 + 1) (by omega) [.int .i64 0, .int .i64 0, .int .i64 0, .int .i64 0, .int .i64 0, .int .i64 0] 0 _ hbw
        generalize World.setCells _ _ _ _ = w7 at *
        obtain ⟨z0, z1, z2, z3, z4, z5⟩ : w7.cell? ⟨W.heap.size + 1 + 1, 0, none⟩ = some (.int .i64 0) ∧ w7.cell? ⟨W.heap.size + 1 + 1, 1, none⟩ = some (.int .i64 0) ∧ w7.cell? ⟨W.heap.size + 1 + 1, 2, none⟩ = some (.int .i64 0) ∧ w7.cell? ⟨W.heap.size + 1 + 1, 3, none⟩ = some (.int .i64 0) ∧ w7.cell? ⟨W.heap.size + 1 + 1, 4, none⟩ = some (.int .i64 0) ∧ w7.cell? ⟨W.heap.size + 1 + 1, 5, none⟩ = some (.int .i64 0) :=
          ⟨hx7.1 0 _ rfl, hx7.1 1 _ rfl, hx7.1 2 _ rfl, hx7.1 3 _ rfl, hx7.1 4 _ rfl, hx7.1 5 _ rfl⟩
        refine bodyPost_ret (v := .tuple #[.agg #[.int .i64 0, .int .i64 0, .int .i64 0, .int .i64 0, .int .i64 0, .int .i64 0], .int .i64 7]) (by simp [results, Try.f32, go_sem, z0, z1, z2, z3, z4, z5]) rfl ⟨by rw [HS.out]; rfl, ?_, ?_⟩
        · rw [HS.out]; exact (HMA.out _ hb7).more (Nat.le_succ _)
        · exact Near.of_below hb7
      have HS := hide (show S = ⟨0, (t1, t2), ⟨qa, qb, qc, qd⟩, kn⟩ from by rw [HS1.out]; simp only [goS, HPR.out, HPW.out]; rfl)
      have v5 : w8.cell? ⟨w4.heap.size, 5, none⟩ = some v := hx4.1 5 _ rfl
      rcases HK6.out.later (Same.of_below hb8) (Nat.le_refl _) with ⟨hkn, hv⟩ | ⟨F, cap, hv, hent, hcall⟩
      · subst hkn hv
        obtain ⟨u0, u1⟩ : w8.cell? ⟨Q, 0, none⟩ = some (.int .i64 t1) ∧ w8.cell? ⟨Q, 1, none⟩ = some (.int .i64 t2) := ⟨hx8.1 0 _ rfl, hx8.1 1 _ rfl⟩
        obtain ⟨v1, v2, v3, v4⟩ : w8.cell? ⟨w4.heap.size, 1, none⟩ = some (.int .i64 qa) ∧ w8.cell? ⟨w4.heap.size, 2, none⟩ = some (.int .i64 qb) ∧ w8.cell? ⟨w4.heap.size, 3, none⟩ = some (.int .i64 qc) ∧ w8.cell? ⟨w4.heap.size, 4, none⟩ = some (.int .i64 qd) := ⟨hx4.1 1 _ rfl, hx4.1 2 _ rfl, hx4.1 3 _ rfl, hx4.1 4 _ rfl⟩
        go_wp2_with ((with_reducible show wpList _ _ _ (⟨none, .store 47 (.tmp 8) _, _, _, _, _⟩ :: _) _ _); refine wpList_store_mid rfl 47 (.tmp 8) (.tmp 100) rfl (W.heap.size + 1 + 1) 0 #[.int .i64 t1, .int .i64 t2, .int .i64 qa, .int .i64 qb, .int .i64 qc, .int .i64 qd] rfl rfl (hb3.there (Nat.le_refl _)) info_arrival (by simp [Value.oneCell']) ?_)
        have hx7 := hb3.all [.int .i64 t1, .int .i64 t2, .int .i64 qa, .int .i64 qb, .int .i64 qc, .int .i64 qd] rfl
        have hb7 := below_setCells (B := W.heap.size) (N := W.heap.size + 1 + 1) (by omega) [.int .i64 t1, .int .i64 t2, .int .i64 qa, .int .i64 qb, .int .i64 qc, .int .i64 qd] 0 _ hbw
        generalize World.setCells _ _ _ _ = w7 at *
        obtain ⟨z0, z1, z2, z3, z4, z5⟩ : w7.cell? ⟨W.heap.size + 1 + 1, 0, none⟩ = some (.int .i64 t1) ∧ w7.cell? ⟨W.heap.size + 1 + 1, 1, none⟩ = some (.int .i64 t2) ∧ w7.cell? ⟨W.heap.size + 1 + 1, 2, none⟩ = some (.int .i64 qa) ∧ w7.cell? ⟨W.heap.size + 1 + 1, 3, none⟩ = some (.int .i64 qb) ∧ w7.cell? ⟨W.heap.size + 1 + 1, 4, none⟩ = some (.int .i64 qc) ∧ w7.cell? ⟨W.heap.size + 1 + 1, 5, none⟩ = some (.int .i64 qd) :=
          ⟨hx7.1 0 _ rfl, hx7.1 1 _ rfl, hx7.1 2 _ rfl, hx7.1 3 _ rfl, hx7.1 4 _ rfl, hx7.1 5 _ rfl⟩
        refine bodyPost_ret (v := .tuple #[.agg #[.int .i64 t1, .int .i64 t2, .int .i64 qa, .int .i64 qb, .int .i64 qc, .int .i64 qd], .int .i64 0]) (by simp [results, Try.f32, go_sem, z0, z1, z2, z3, z4, z5]) rfl ⟨by rw [HS.out]; rfl, ?_, ?_⟩
        · rw [HS.out]; exact (HMA.out _ hb7).more (Nat.le_succ _)
        · exact Near.of_below hb7
      · subst hv
        have HCC := hide (hcall M k w8 (Same.of_below (Below.refl _ _)) (HMA.out _ hbw) HK.out)
        clear hcall
        go_wp2_with fail
        refine HCC.out.mono ?_
        rintro e w9 ⟨rfl, hM9, hN9⟩
        have ha : ∀ K, W.heap.size ≤ K → ¬ Is3 f o b K := fun K hK e => by have q := HLT.out; rcases e with e | e | e <;> omega
        have hb3 := hb3.near (B := w8.heap.size) hN9 (by have := hbw.size; have := HB8.out.size; have := HW1.out; omega) (ha _ (by omega))
        have hx8 := hx8.near (B := w8.heap.size) hN9 hq8.2 (ha _ (by have := hq8.1; have := HB6.out.size; have := HW1.out; omega))
        have hx4 := hx4.near (B := w8.heap.size) hN9 (by have := hb8.size; have := HL6.out; omega) (ha _ (by have := HB4.out.size; have := HW1.out; omega))
        have HM9 := hide hM9
        have HN9 := hide ((Near.of_below (p := Is3 f o b) hbw).trans (hN9.mono hbw.size))
        clear hbw hM9 hN9 v5 HCC
        have hbw : Below W.heap.size w9 w9 := Below.refl _ _
        obtain ⟨u0, u1⟩ : w9.cell? ⟨Q, 0, none⟩ = some (.int .i64 t1) ∧ w9.cell? ⟨Q, 1, none⟩ = some (.int .i64 t2) := ⟨hx8.1 0 _ rfl, hx8.1 1 _ rfl⟩
        obtain ⟨v1, v2, v3, v4⟩ : w9.cell? ⟨w4.heap.size, 1, none⟩ = some (.int .i64 qa) ∧ w9.cell? ⟨w4.heap.size, 2, none⟩ = some (.int .i64 qb) ∧ w9.cell? ⟨w4.heap.size, 3, none⟩ = some (.int .i64 qc) ∧ w9.cell? ⟨w4.heap.size, 4, none⟩ = some (.int .i64 qd) := ⟨hx4.1 1 _ rfl, hx4.1 2 _ rfl, hx4.1 3 _ rfl, hx4.1 4 _ rfl⟩
        go_wp2_with ((with_reducible show wpList _ _ _ (⟨none, .store 47 (.tmp 8) _, _, _, _, _⟩ :: _) _ _); refine wpList_store_mid rfl 47 (.tmp 8) (.tmp 100) rfl (W.heap.size + 1 + 1) 0 #[.int .i64 t1, .int .i64 t2, .int .i64 qa, .int .i64 qb, .int .i64 qc, .int .i64 qd] rfl rfl (hb3.there (Nat.le_refl _)) info_arrival (by simp [Value.oneCell']) ?_)
        have hx7 := hb3.all [.int .i64 t1, .int .i64 t2, .int .i64 qa, .int .i64 qb, .int .i64 qc, .int .i64 qd] rfl
        have hb7 := below_setCells (B := W.heap.size) (N := W.heap.size + 1 + 1) (by omega) [.int .i64 t1, .int .i64 t2, .int .i64 qa, .int .i64 qb, .int .i64 qc, .int .i64 qd] 0 _ hbw
        generalize World.setCells _ _ _ _ = w7 at *
        obtain ⟨z0, z1, z2, z3, z4, z5⟩ : w7.cell? ⟨W.heap.size + 1 + 1, 0, none⟩ = some (.int .i64 t1) ∧ w7.cell? ⟨W.heap.size + 1 + 1, 1, none⟩ = some (.int .i64 t2) ∧ w7.cell? ⟨W.heap.size + 1 + 1, 2, none⟩ = some (.int .i64 qa) ∧ w7.cell? ⟨W.heap.size + 1 + 1, 3, none⟩ = some (.int .i64 qb) ∧ w7.cell? ⟨W.heap.size + 1 + 1, 4, none⟩ = some (.int .i64 qc) ∧ w7.cell? ⟨W.heap.size + 1 + 1, 5, none⟩ = some (.int .i64 qd) :=
          ⟨hx7.1 0 _ rfl, hx7.1 1 _ rfl, hx7.1 2 _ rfl, hx7.1 3 _ rfl, hx7.1 4 _ rfl, hx7.1 5 _ rfl⟩
        refine bodyPost_ret (v := .tuple #[.agg #[.int .i64 t1, .int .i64 t2, .int .i64 qa, .int .i64 qb, .int .i64 qc, .int .i64 qd], .int .i64 0]) (by simp [results, Try.f32, go_sem, z0, z1, z2, z3, z4, z5]) rfl ⟨by rw [HS.out]; rfl, ?_, ?_⟩
        · rw [HS.out]; exact MemAt.to (HMA.out W (Below.refl _ _)) (HN9.out.trans (Near.of_below hb7)) HM9.out hb7
        · exact HN9.out.trans (Near.of_below hb7)
    · have hb8 : Below w6.heap.size w6 ((w7.setCell ⟨w6.heap.size, 0, none⟩ (.int .i64 t1)).setCell ⟨w6.heap.size, 1, none⟩ (.int .i64 t2)) := (HB7.out.setCell (Nat.le_refl _) _).setCell (Nat.le_refl _) _
      have hx8 : BoxV ((w7.setCell ⟨w6.heap.size, 0, none⟩ (.int .i64 t1)).setCell ⟨w6.heap.size, 1, none⟩ (.int .i64 t2)) w6.heap.size #[.int .i64 t1, .int .i64 t2] := (hz7.set 0 _).set 1 _
      have hq8 : w6.heap.size ≤ w6.heap.size ∧ w6.heap.size < ((w7.setCell ⟨w6.heap.size, 0, none⟩ (.int .i64 t1)).setCell ⟨w6.heap.size, 1, none⟩ (.int .i64 t2)).heap.size := ⟨Nat.le_refl _, by have := cell_lt z0; simpa [World.setCell] using this⟩
      clear k0 k1 k2 k3 n1 n2 n3 n4 n5 n6 z0 z1 z2 z3 hz7
      generalize World.setCell (World.setCell w7 _ _) _ _ = w8 at *
      have HB8 := hide (HB6.out.trans (hb8.mono HB6.out.size))
      have hb3 := (HQ.out _ HB8.out).2.2.1
      have hbw := (HQ.out _ HB8.out).2.2.2
      have hx4 := HX6.out.below hb8 HL6.out
      cases ok
      · have HS := hide (show S = .bad 7 from by rw [HS1.out]; simp only [goS, HPR.out, HPW.out]; cases tb <;> rfl)
        go_wp2_with ((with_reducible show wpList _ _ _ (⟨none, .store 47 (.tmp 8) _, _, _, _, _⟩ :: _) _ _); refine wpList_store_mid rfl 47 (.tmp 8) (.tmp 90) rfl (W.heap.size + 1 + 1) 0 #[.int .i64 0, .int .i64 0, .int .i64 0, .int .i64 0, .int .i64 0, .int .i64 0] rfl rfl (hb3.there (Nat.le_refl _)) info_arrival (by simp [Value.oneCell']) ?_)
        have hx7 := hb3.all [.int .i64 0, .int .i64 0, .int .i64 0, .int .i64 0, .int .i64 0, .int .i64 0] rfl
        have hb7 := below_setCells (B := W.heap.size) (N := W.heap.size + 1 + 1) (by omega) [.int .i64 0, .int .i64 0, .int .i64 0, .int .i64 0, .int .i64 0, .int .i64 0] 0 _ hbw
        generalize World.setCells _ _ _ _ = w7 at *
        obtain ⟨z0, z1, z2, z3, z4, z5⟩ : w7.cell? ⟨W.heap.size + 1 + 1, 0, none⟩ = some (.int .i64 0) ∧ w7.cell? ⟨W.heap.size + 1 + 1, 1, none⟩ = some (.int .i64 0) ∧ w7.cell? ⟨W.heap.size + 1 + 1, 2, none⟩ = some (.int .i64 0) ∧ w7.cell? ⟨W.heap.size + 1 + 1, 3, none⟩ = some (.int .i64 0) ∧ w7.cell? ⟨W.heap.size + 1 + 1, 4, none⟩ = some (.int .i64 0) ∧ w7.cell? ⟨W.heap.size + 1 + 1, 5, none⟩ = some (.int .i64 0) :=
          ⟨hx7.1 0 _ rfl, hx7.1 1 _ rfl, hx7.1 2 _ rfl, hx7.1 3 _ rfl, hx7.1 4 _ rfl, hx7.1 5 _ rfl⟩
        refine bodyPost_ret (v := .tuple #[.agg #[.int .i64 0, .int .i64 0, .int .i64 0, .int .i64 0, .int .i64 0, .int .i64 0], .int .i64 7]) (by simp [results, Try.f32, go_sem, z0, z1, z2, z3, z4, z5]) rfl ⟨by rw [HS.out]; rfl, ?_, ?_⟩
        · rw [HS.out]; exact (HMA.out _ hb7).more (Nat.le_succ _)
        · exact Near.of_below hb7
      cases tb
      · have HS := hide (show S = .bad 7 from by rw [HS1.out]; simp only [goS, HPR.out, HPW.out]; rfl)
        go_wp2_with ((with_reducible show wpList _ _ _ (⟨none, .store 47 (.tmp 8) _, _, _, _, _⟩ :: _) _ _); refine wpList_store_mid rfl 47 (.tmp 8) (.tmp 90) rfl (W.heap.size + 1 + 1) 0 #[.int .i64 0, .int .i64 0, .int .i64 0, .int .i64 0, .int .i64 0, .int .i64 0] rfl rfl (hb3.there (Nat.le_refl _)) info_arrival (by simp [Value.oneCell']) ?_)
        have hx7 := hb3.all [.int .i64 0, .int .i64 0, .int .i64 0, .int .i64 0, .int .i64 0, .int .i64 0] rfl
        have hb7 := below_setCells (B := W.heap.size) (N := W.heap.size + 1 + 1) (by omega) [.int .i64 0, .int .i64 0, .int .i64 0, .int .i64 0, .int .i64 0, .int .i64 0] 0 _ hbw
        generalize World.setCells _ _ _ _ = w7 at *
        obtain ⟨z0, z1, z2, z3, z4, z5⟩ : w7.cell? ⟨W.heap.size + 1 + 1, 0, none⟩ = some (.int .i64 0) ∧ w7.cell? ⟨W.heap.size + 1 + 1, 1, none⟩ = some (.int .i64 0) ∧ w7.cell? ⟨W.heap.size + 1 + 1, 2, none⟩ = some (.int .i64 0) ∧ w7.cell? ⟨W.heap.size + 1 + 1, 3, none⟩ = some (.int .i64 0) ∧ w7.cell? ⟨W.heap.size + 1 + 1, 4, none⟩ = some (.int .i64 0) ∧ w7.cell? ⟨W.heap.size + 1 + 1, 5, none⟩ = some (.int .i64 0) :=
          ⟨hx7.1 0 _ rfl, hx7.1 1 _ rfl, hx7.1 2 _ rfl, hx7.1 3 _ rfl, hx7.1 4 _ rfl, hx7.1 5 _ rfl⟩
        refine bodyPost_ret (v := .tuple #[.agg #[.int .i64 0, .int .i64 0, .int .i64 0, .int .i64 0, .int .i64 0, .int .i64 0], .int .i64 7]) (by simp [results, Try.f32, go_sem, z0, z1, z2, z3, z4, z5]) rfl ⟨by rw [HS.out]; rfl, ?_, ?_⟩
        · rw [HS.out]; exact (HMA.out _ hb7).more (Nat.le_succ _)
        · exact Near.of_below hb7
      have HS := hide (show S = ⟨0, (t1, t2), ⟨qa, qb, qc, qd⟩, kn⟩ from by rw [HS1.out]; simp only [goS, HPR.out, HPW.out]; rfl)
      have v5 : w8.cell? ⟨w4.heap.size, 5, none⟩ = some v := hx4.1 5 _ rfl
      rcases HK6.out.later (Same.of_below hb8) (Nat.le_refl _) with ⟨hkn, hv⟩ | ⟨F, cap, hv, hent, hcall⟩
      · subst hkn hv
        obtain ⟨u0, u1⟩ : w8.cell? ⟨w6.heap.size, 0, none⟩ = some (.int .i64 t1) ∧ w8.cell? ⟨w6.heap.size, 1, none⟩ = some (.int .i64 t2) := ⟨hx8.1 0 _ rfl, hx8.1 1 _ rfl⟩
        obtain ⟨v1, v2, v3, v4⟩ : w8.cell? ⟨w4.heap.size, 1, none⟩ = some (.int .i64 qa) ∧ w8.cell? ⟨w4.heap.size, 2, none⟩ = some (.int .i64 qb) ∧ w8.cell? ⟨w4.heap.size, 3, none⟩ = some (.int .i64 qc) ∧ w8.cell? ⟨w4.heap.size, 4, none⟩ = some (.int .i64 qd) := ⟨hx4.1 1 _ rfl, hx4.1 2 _ rfl, hx4.1 3 _ rfl, hx4.1 4 _ rfl⟩
        go_wp2_with ((with_reducible show wpList _ _ _ (⟨none, .store 47 (.tmp 8) _, _, _, _, _⟩ :: _) _ _); refine wpList_store_mid rfl 47 (.tmp 8) (.tmp 100) rfl (W.heap.size + 1 + 1) 0 #[.int .i64 t1, .int .i64 t2, .int .i64 qa, .int .i64 qb, .int .i64 qc, .int .i64 qd] rfl rfl (hb3.there (Nat.le_refl _)) info_arrival (by simp [Value.oneCell']) ?_)
        have hx7 := hb3.all [.int .i64 t1, .int .i64 t2, .int .i64 qa, .int .i64 qb, .int .i64 qc, .int .i64 qd] rfl
        have hb7 := below_setCells (B := W.heap.size) (N := W.heap.size + 1 + 1) (by omega) [.int .i64 t1, .int .i64 t2, .int .i64 qa, .int .i64 qb, .int .i64 qc, .int .i64 qd] 0 _ hbw
        generalize World.setCells _ _ _ _ = w7 at *
        obtain ⟨z0, z1, z2, z3, z4, z5⟩ : w7.cell? ⟨W.heap.size + 1 + 1, 0, none⟩ = some (.int .i64 t1) ∧ w7.cell? ⟨W.heap.size + 1 + 1, 1, none⟩ = some (.int .i64 t2) ∧ w7.cell? ⟨W.heap.size + 1 + 1, 2, none⟩ = some (.int .i64 qa) ∧ w7.cell? ⟨W.heap.size + 1 + 1, 3, none⟩ = some (.int .i64 qb) ∧ w7.cell? ⟨W.heap.size + 1 + 1, 4, none⟩ = some (.int .i64 qc) ∧ w7.cell? ⟨W.heap.size + 1 + 1, 5, none⟩ = some (.int .i64 qd) :=
          ⟨hx7.1 0 _ rfl, hx7.1 1 _ rfl, hx7.1 2 _ rfl, hx7.1 3 _ rfl, hx7.1 4 _ rfl, hx7.1 5 _ rfl⟩
        refine bodyPost_ret (v := .tuple #[.agg #[.int .i64 t1, .int .i64 t2, .int .i64 qa, .int .i64 qb, .int .i64 qc, .int .i64 qd], .int .i64 0]) (by simp [results, Try.f32, go_sem, z0, z1, z2, z3, z4, z5]) rfl ⟨by rw [HS.out]; rfl, ?_, ?_⟩
        · rw [HS.out]; exact (HMA.out _ hb7).more (Nat.le_succ _)
        · exact Near.of_below hb7
      · subst hv
        have HCC := hide (hcall M k w8 (Same.of_below (Below.refl _ _)) (HMA.out _ hbw) HK.out)
        clear hcall
        go_wp2_with fail
        refine HCC.out.mono ?_
        rintro e w9 ⟨rfl, hM9, hN9⟩
        have ha : ∀ K, W.heap.size ≤ K → ¬ Is3 f o b K := fun K hK e => by have q := HLT.out; rcases e with e | e | e <;> omega
        have hb3 := hb3.near (B := w8.heap.size) hN9 (by have := hbw.size; have := HB8.out.size; have := HW1.out; omega) (ha _ (by omega))
        have hx8 := hx8.near (B := w8.heap.size) hN9 hq8.2 (ha _ (by have := hq8.1; have := HB6.out.size; have := HW1.out; omega))
        have hx4 := hx4.near (B := w8.heap.size) hN9 (by have := hb8.size; have := HL6.out; omega) (ha _ (by have := HB4.out.size; have := HW1.out; omega))
        have HM9 := hide hM9
        have HN9 := hide ((Near.of_below (p := Is3 f o b) hbw).trans (hN9.mono hbw.size))
        clear hbw hM9 hN9 v5 HCC
        have hbw : Below W.heap.size w9 w9 := Below.refl _ _
        obtain ⟨u0, u1⟩ : w9.cell? ⟨w6.heap.size, 0, none⟩ = some (.int .i64 t1) ∧ w9.cell? ⟨w6.heap.size, 1, none⟩ = some (.int .i64 t2) := ⟨hx8.1 0 _ rfl, hx8.1 1 _ rfl⟩
        obtain ⟨v1, v2, v3, v4⟩ : w9.cell? ⟨w4.heap.size, 1, none⟩ = some (.int .i64 qa) ∧ w9.cell? ⟨w4.heap.size, 2, none⟩ = some (.int .i64 qb) ∧ w9.cell? ⟨w4.heap.size, 3, none⟩ = some (.int .i64 qc) ∧ w9.cell? ⟨w4.heap.size, 4, none⟩ = some (.int .i64 qd) := ⟨hx4.1 1 _ rfl, hx4.1 2 _ rfl, hx4.1 3 _ rfl, hx4.1 4 _ rfl⟩
        go_wp2_with ((with_reducible show wpList _ _ _ (⟨none, .store 47 (.tmp 8) _, _, _, _, _⟩ :: _) _ _); refine wpList_store_mid rfl 47 (.tmp 8) (.tmp 100) rfl (W.heap.size + 1 + 1) 0 #[.int .i64 t1, .int .i64 t2, .int .i64 qa, .int .i64 qb, .int .i64 qc, .int .i64 qd] rfl rfl (hb3.there (Nat.le_refl _)) info_arrival (by simp [Value.oneCell']) ?_)
        have hx7 := hb3.all [.int .i64 t1, .int .i64 t2, .int .i64 qa, .int .i64 qb, .int .i64 qc, .int .i64 qd] rfl
        have hb7 := below_setCells (B := W.heap.size) (N := W.heap.size + 1 + 1) (by omega) [.int .i64 t1, .int .i64 t2, .int .i64 qa, .int .i64 qb, .int .i64 qc, .int .i64 qd] 0 _ hbw
        generalize World.setCells _ _ _ _ = w7 at *
        obtain ⟨z0, z1, z2, z3, z4, z5⟩ : w7.cell? ⟨W.heap.size + 1 + 1, 0, none⟩ = some (.int .i64 t1) ∧ w7.cell? ⟨W.heap.size + 1 + 1, 1, none⟩ = some (.int .i64 t2) ∧ w7.cell? ⟨W.heap.size + 1 + 1, 2, none⟩ = some (.int .i64 qa) ∧ w7.cell? ⟨W.heap.size + 1 + 1, 3, none⟩ = some (.int .i64 qb) ∧ w7.cell? ⟨W.heap.size + 1 + 1, 4, none⟩ = some (.int .i64 qc) ∧ w7.cell? ⟨W.heap.size + 1 + 1, 5, none⟩ = some (.int .i64 qd) :=
          ⟨hx7.1 0 _ rfl, hx7.1 1 _ rfl, hx7.1 2 _ rfl, hx7.1 3 _ rfl, hx7.1 4 _ rfl, hx7.1 5 _ rfl⟩
        refine bodyPost_ret (v := .tuple #[.agg #[.int .i64 t1, .int .i64 t2, .int .i64 qa, .int .i64 qb, .int .i64 qc, .int .i64 qd], .int .i64 0]) (by simp [results, Try.f32, go_sem, z0, z1, z2, z3, z4, z5]) rfl ⟨by rw [HS.out]; rfl, ?_, ?_⟩
        · rw [HS.out]; exact MemAt.to (HMA.out W (Below.refl _ _)) (HN9.out.trans (Near.of_below hb7)) HM9.out hb7
        · exact HN9.out.trans (Near.of_below hb7)
  · have HS := hide (show S = .bad er from by rw [HS1.out]; simp [goS, her])
    have d1 : (er != 0) = true := by simpa using her
    go_wp2_with (first | ((with_reducible show wpList _ _ _ (⟨none, .store 110 (.tmp 11) _, _, _, _, _⟩ :: _) _ _); refine wpList_store_mid rfl 110 (.tmp 11) (.tmp 64) rfl w4.heap.size 0 #[.int .i64 pt, .int .i64 qa, .int .i64 qb, .int .i64 qc, .int .i64 qd, v] rfl rfl ((BoxV.new w4 _ _).there (Nat.le_refl _)) info_gone (one6 hv1) ?_; obtain ⟨hb4, hx4⟩ := put_box w4 [.int .i64 0, .int .i64 0, .int .i64 0, .int .i64 0, .int .i64 0, .nilFunc] [.int .i64 pt, .int .i64 qa, .int .i64 qb, .int .i64 qc, .int .i64 qd, v] rfl 110; generalize World.setCells _ _ _ _ = w6 at *; have HB6 := hide (HB4.out.trans (hb4.mono HB4.out.size)); clear hx4 hb4; have hb3 := (HQ.out _ HB6.out).2.2.1; have hbw := (HQ.out _ HB6.out).2.2.2) | ((with_reducible show wpList _ _ _ (⟨none, .store 47 (.tmp 8) _, _, _, _, _⟩ :: _) _ _); refine wpList_store_mid rfl 47 (.tmp 8) (.tmp 69) rfl (W.heap.size + 1 + 1) 0 #[.int .i64 0, .int .i64 0, .int .i64 0, .int .i64 0, .int .i64 0, .int .i64 0] rfl rfl (hb3.there (Nat.le_refl _)) info_arrival (by simp [Value.oneCell']) ?_))
    have hx7 := hb3.all [.int .i64 0, .int .i64 0, .int .i64 0, .int .i64 0, .int .i64 0, .int .i64 0] rfl
    have hb7 := below_setCells (B := W.heap.size) (N := W.heap.size + 1 + 1) (by omega) [.int .i64 0, .int .i64 0, .int .i64 0, .int .i64 0, .int .i64 0, .int .i64 0] 0 _ hbw
    generalize World.setCells _ _ _ _ = w7 at *
    obtain ⟨z0, z1, z2, z3, z4, z5⟩ : w7.cell? ⟨W.heap.size + 1 + 1, 0, none⟩ = some (.int .i64 0) ∧ w7.cell? ⟨W.heap.size + 1 + 1, 1, none⟩ = some (.int .i64 0) ∧ w7.cell? ⟨W.heap.size + 1 + 1, 2, none⟩ = some (.int .i64 0) ∧ w7.cell? ⟨W.heap.size + 1 + 1, 3, none⟩ = some (.int .i64 0) ∧ w7.cell? ⟨W.heap.size + 1 + 1, 4, none⟩ = some (.int .i64 0) ∧ w7.cell? ⟨W.heap.size + 1 + 1, 5, none⟩ = some (.int .i64 0) :=
      ⟨hx7.1 0 _ rfl, hx7.1 1 _ rfl, hx7.1 2 _ rfl, hx7.1 3 _ rfl, hx7.1 4 _ rfl, hx7.1 5 _ rfl⟩
    refine bodyPost_ret (v := .tuple #[.agg #[.int .i64 0, .int .i64 0, .int .i64 0, .int .i64 0, .int .i64 0, .int .i64 0], .int .i64 er]) (by simp [results, Try.f32, go_sem, z0, z1, z2, z3, z4, z5]) rfl ⟨by rw [HS.out]; rfl, ?_, ?_⟩
    · rw [HS.out]; exact (HMA.out _ hb7).more (Nat.le_succ _)
    · exact Near.of_below hb7
end Go.Proofs.Ytifkacnoiocebaa
