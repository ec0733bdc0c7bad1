/- A part of the proof: WorldC. -/
import Derived.Test.YthaiffjalgionaaWp26

set_option linter.unusedVariables false
set_option linter.unusedSimpArgs false
namespace Go.Proofs.Ythaiffjalgionaa
open Go.RowKit Go.Maps

def ArrV.arr (x : ArrV) : Array Value := #[.int .i64 x.d, .int .i64 x.y, .int .i64 x.p.src, .int .i64 x.p.dst, .int .i64 x.p.sport, .int .i64 x.p.dport]
theorem reads_arr {w : World} {N : Nat} {x : ArrV} (h : BoxV w N x.arr) : Reads w (N + 1) 6 (some ⟨N, 0, none⟩) 1 x.cells :=
  ⟨rfl, fun _ => ⟨_, rfl, Nat.lt_succ_self _, fun j u hu => by
    rw [addr_add, Nat.zero_add]
    exact h.1 j u (by simpa [ArrV.cells, ArrV.arr] using hu)⟩⟩
theorem BX.none (W : World) : BX W [] W := ⟨Below.refl _ _, fun x hx => by cases hx⟩
theorem WorldAt.look {W w : World} {F : Nat → Prop} {g : Nat} {no : NetV} {gm : Nat} {nm : NetV} {f o b km : Nat} {A : Option Addr} {c : Nat} {Z : WS} {k : Nat} (h : WorldAt W w F g no gm nm f o b km A c Z k) (x : ArrV) (hx : x.ok) :
    (Instr.lookup 184 (.map (some km)) (.agg #[.int .i64 x.d, .int .i64 x.y, .int .i64 x.p.src, .int .i64 x.p.dst, .int .i64 x.p.sport, .int .i64 x.p.dport]) false).run Try.prog w = .ok (.bool (decide (x ∈ Z.S))) w := by
  have := (h.kn.lookA arKeys Try.underlying184 (z := .bool false) (by kernel_rfl) (a := x) hx).2
  simp only [ArrV.val] at this
  rw [this]
  simp only [knownV]
  by_cases e : x ∈ Z.S <;> simp [e]
theorem WorldAt.store {W w : World} {F : Nat → Prop} {g : Nat} {no : NetV} {gm : Nat} {nm : NetV} {f o b km : Nat} {A : Option Addr} {c : Nat} {Z : WS} {k : Nat} (h : WorldAt W w F g no gm nm f o b km A c Z k) (x : ArrV) (hx : x.ok) (hk : k < 1000000) :
    ∃ w', (Instr.mapUpdate 184 (.map (some km)) (.agg #[.int .i64 x.d, .int .i64 x.y, .int .i64 x.p.src, .int .i64 x.p.dst, .int .i64 x.p.sport, .int .i64 x.p.dport]) (.bool true)).run Try.prog w = .ok () w' ∧ MapIs Try.prog 43 ArrV.val arDom w' km (putM (knownV Z.S) x (.bool true)) ∧ w.mapTurned w' km := by
  have hl := h.lk
  exact h.kn.storeA arKeys Z.S (by unfold maxLen; omega) (fun a _ ha => by
    by_cases e : a ∈ Z.S
    · exact e
    · simp [knownV, e] at ha) Try.underlying184 (a := x) hx (.bool true)
theorem near_turned {w w' : World} {km : Nat} (h : w.mapTurned w' km) : Near (fun j => j = km) w.heap.size w w' := by
  have hg := h.grown
  exact ⟨hg.os, hg.tape, hg.output, hg.size, fun k hk hp => hg.block k hk (fun e => hp (Option.some.inj e))⟩

set_option maxRecDepth 100000 in
set_option maxHeartbeats 8000000 in
theorem comes_walk {W0 W : World} {F : Nat → Prop} {g : Nat} {no : NetV} {gm : Nat} {nm : NetV} {f o b km : Nat} {A : Option Addr} {c : Nat} {Z : WS} {k : Nat} (h : WorldAt W0 W F g no gm nm f o b km A c Z k) (x : ArrV) (hx : x.ok) (hl : Z.S.length + 1 ≤ k) (hk : k < 1000000) :
    Calls Try.prog 110 #[.pointer (some ⟨g, 0, none⟩), .agg #[.int .i64 x.d, .int .i64 x.y, .int .i64 x.p.src, .int .i64 x.p.dst, .int .i64 x.p.sport, .int .i64 x.p.dport]] W fun e W' => e = .returned (.tuple #[]) ∧ ∃ A' c' F', WorldAt W0 W' F' g no gm nm f o b km A' c' ⟨Z.M, comeS Z.S x⟩ k ∧ Near F W.heap.size W W' ∧ ∀ j, F' j → F j ∨ W.heap.size ≤ j := by
  have HW := hide h
  have hgl := (h.fo g h.fg).2
  have hkl := (h.fo km h.fk).2
  clear h
  go_enter Try.func110, Try.ntmps110
  go_wp2_with fail
  have HX1 := hide (((BX.none W).al #[.int .i64 x.d, .int .i64 x.y, .int .i64 x.p.src, .int .i64 x.p.dst, .int .i64 x.p.sport, .int .i64 x.p.dport] 43).done)
  have hs1 : (W.alloc (.cells #[.int .i64 x.d, .int .i64 x.y, .int .i64 x.p.src, .int .i64 x.p.dst, .int .i64 x.p.sport, .int .i64 x.p.dport] 43)).heap.size = W.heap.size + 1 := by simp
  generalize World.alloc W _ = W1 at *
  have HW1 := hide (HW.out.below HX1.out.bl)
  obtain ⟨B, hB⟩ : ∃ B, decide (x ∈ Z.S) = B := ⟨_, rfl⟩
  refine wp_region_abs (by kernel_rfl) (by kernel_rfl) ?_
  intro T1 hT gt hg1 hgi
  have HGT := hide hg1
  have HGI := hide hgi
  clear hg1 hgi
  have k4 : ∀ t, (gt t).cell? ⟨g, 4, none⟩ = some (.map (some km)) := fun t => (HW1.out.below (HGT.out t)).c4
  have x0 : ∀ t, (gt t).cell? ⟨W.heap.size, 0, none⟩ = some (.int .i64 x.d) := fun t => ((HX1.out.below (HGT.out t)).get 0 rfl).1 0 _ rfl
  have x1 : ∀ t, (gt t).cell? ⟨W.heap.size, 1, none⟩ = some (.int .i64 x.y) := fun t => ((HX1.out.below (HGT.out t)).get 0 rfl).1 1 _ rfl
  have x2 : ∀ t, (gt t).cell? ⟨W.heap.size, 2, none⟩ = some (.int .i64 x.p.src) := fun t => ((HX1.out.below (HGT.out t)).get 0 rfl).1 2 _ rfl
  have x3 : ∀ t, (gt t).cell? ⟨W.heap.size, 3, none⟩ = some (.int .i64 x.p.dst) := fun t => ((HX1.out.below (HGT.out t)).get 0 rfl).1 3 _ rfl
  have x4 : ∀ t, (gt t).cell? ⟨W.heap.size, 4, none⟩ = some (.int .i64 x.p.sport) := fun t => ((HX1.out.below (HGT.out t)).get 0 rfl).1 4 _ rfl
  have x5 : ∀ t, (gt t).cell? ⟨W.heap.size, 5, none⟩ = some (.int .i64 x.p.dport) := fun t => ((HX1.out.below (HGT.out t)).get 0 rfl).1 5 _ rfl
  have hlk : ∀ t, (Instr.lookup 184 (.map (some km)) (.agg #[.int .i64 x.d, .int .i64 x.y, .int .i64 x.p.src, .int .i64 x.p.dst, .int .i64 x.p.sport, .int .i64 x.p.dport]) false).run Try.prog (gt t) = .ok (.bool B) (gt t) := fun t => by rw [← hB]; exact (HW1.out.below (HGT.out t)).look x hx
  repeat (go_big_quiet_step (fail))
  refine wpQuiet_nil ?_
  intro _ hw'
  obtain ⟨t, rfl⟩ := hw'
  have HX2 := hide (HX1.out.below (HGT.out t))
  have HW2 := hide (HW1.out.below (HGT.out t))
  have hs2 := (HGT.out t).size
  generalize gt t = W2 at *
  clear k4 x0 x1 x2 x3 x4 x5 hlk HGT HGI HX1 HW1
  cases B
  case true =>
    have e : comeS Z.S x = Z.S := if_pos (by simpa using hB)
    go_wp2
    go_end0
    exact ⟨rfl, A, c, F, by rw [e]; exact HW2.out, Near.of_below HX2.out.bl, fun j e => Or.inl e⟩
  have hxS : x ∉ Z.S := by simpa using hB
  have HCE := hide (show comeS Z.S x = Z.S ++ [x] from if_neg hxS)
  go_wp2_with fail
  obtain ⟨W3, hrun, hm3, ht3⟩ := (HW2.out.below (Below.refl _ _).drew).store x hx hk
  have n3 : Near (fun j => j = km) W2.heap.size W2 W3 := (Near.of_below (Below.refl _ _).drew).trans (near_turned ht3)
  have HN3 := hide n3
  have HM3 := hide hm3
  have hnk : ¬ (W.heap.size = km) := by omega
  have hbx := HX2.out.get 0 rfl
  have hlt2 := (HX2.out.bx _ (List.mem_of_getElem? (i := 0) rfl)).2
  have HBX3 := hide (hbx.near n3 hlt2 hnk)
  obtain ⟨b0, b1, b2, b3, b4, b5⟩ := (cells6 hbx).1
  have c4 := HW2.out.c4
  clear n3 hm3 ht3 hbx
  go_still_tail 5, (by kernel_rfl)
  go_wp2_with fail
  clear b0 b1 b2 b3 b4 b5 c4 hrun
  obtain ⟨N, hN⟩ : ∃ N, W.heap.size = N := ⟨_, rfl⟩
  obtain ⟨S0, hS0⟩ : ∃ S0, Z.S = S0 := ⟨_, rfl⟩
  have HQ := hide (fun (w' : World) (hb : Below W3.heap.size W3 w') => show (w'.cell? ⟨g, 3, none⟩ = some (.slice A S0.length c) ∧ BoxV w' N #[.int .i64 x.d, .int .i64 x.y, .int .i64 x.p.src, .int .i64 x.p.dst, .int .i64 x.p.sport, .int .i64 x.p.dport] ∧ w'.ownsRow 0 43 6 (.slice A S0.length c) S0.length (S0.flatMap ArrV.cells) ∧ g < W3.heap.size ∧ ¬ (A.map (·.block) = some g) ∧ ¬ (A.map (·.block) = some N) ∧ w'.frozen? ⟨g, 3, none⟩ = false) from by
    have hs3 := HN3.out.size
    have hw := HW2.out
    have hAl : ∀ j, A.map (·.block) = some j → j < W2.heap.size := fun j e => (hw.fo j (hw.fa j e)).2
    have hAg : ¬ (A.map (·.block) = some g) := fun e => (hw.ga g e).1 rfl
    have hAN : ¬ (A.map (·.block) = some N) := fun e => by have := (HW.out.fo N (HW.out.fa N e)).2; omega
    have hgk : ¬ g = km := hw.gk
    refine ⟨?_, ?_, ?_, by omega, hAg, hAN, ?_⟩
    · exact (hb.cell (p := ⟨g, 3, none⟩) (by show g < _; omega)).trans ((HN3.out.cell (a := ⟨g, 3, none⟩) (by show g < _; omega) hgk).trans (by rw [← hS0]; exact hw.c3))
    · rw [← hN]; exact HBX3.out.below hb (by omega)
    · exact own_below (own_same (by rw [← hS0]; exact hw.own) (fun j hj => by
        rw [row_blk] at hj
        exact HN3.out.block j (hAl j hj) (fun e => (hw.ga j hj).2.1 e))) hb
    · exact (hb.frozen (p := ⟨g, 3, none⟩) (by show g < _; omega)).trans ((HN3.out.frozen (a := ⟨g, 3, none⟩) (by show g < _; omega) hgk).trans hw.fz))
  have hNl : N < W3.heap.size := by have := HN3.out.size; omega
  have hS0l : S0.length < 1000000 := by rw [← hS0]; omega
  rw [hN]
  -- R3
  obtain ⟨i0, hi0, hz0, hz1, hz2⟩ := info_parts Try.infoArrival
  refine wp_region_E (fun w' => w'.cell? ⟨g, 3, none⟩ = some (.slice A S0.length c) ∧ w'.cell? ⟨N, 0, none⟩ = some (.int .i64 x.d) ∧ w'.cell? ⟨N, 1, none⟩ = some (.int .i64 x.y) ∧ w'.cell? ⟨N, 2, none⟩ = some (.int .i64 x.p.src) ∧ w'.cell? ⟨N, 3, none⟩ = some (.int .i64 x.p.dst) ∧ w'.cell? ⟨N, 4, none⟩ = some (.int .i64 x.p.sport) ∧ w'.cell? ⟨N, 5, none⟩ = some (.int .i64 x.p.dport)) 10 (by kernel_rfl) ⟨(HQ.out _ (Below.refl _ _).drew).1, (HQ.out _ (Below.refl _ _).drew).2.1.1 0 _ rfl, (HQ.out _ (Below.refl _ _).drew).2.1.1 1 _ rfl, (HQ.out _ (Below.refl _ _).drew).2.1.1 2 _ rfl, (HQ.out _ (Below.refl _ _).drew).2.1.1 3 _ rfl, (HQ.out _ (Below.refl _ _).drew).2.1.1 4 _ rfl, (HQ.out _ (Below.refl _ _).drew).2.1.1 5 _ rfl⟩ (fun hS inv => ?_)
  refine wpAnyE_pure (i := 0) (v := ?_) rfl (by kernel_rfl) (by kernel_rfl) (by kernel_rfl) (by kernel_rfl) (fun _ _ _ h => h) inv (Or.inl ⟨by rfl, ?_⟩) (fun _ => hS) (fun inv2 => ?_)
  rotate_left
  · intro w _
    go_simp
    try with_reducible rfl
  clear inv
  have inv := inv2
  clear inv2
  try simp only [Act.put, nrmA, nrmB, nrmC]
  refine wpAnyE_pure (i := 1) (v := ?_) rfl (by kernel_rfl) (by kernel_rfl) (by kernel_rfl) (by kernel_rfl) (fun _ _ _ h => h) inv (Or.inl ⟨by rfl, ?_⟩) (fun _ => hS) (fun inv2 => ?_)
  rotate_left
  · intro w _
    go_simp
    try with_reducible rfl
  clear inv
  have inv := inv2
  clear inv2
  try simp only [Act.put, nrmA, nrmB, nrmC]
  refine wpAnyE_pure (i := 2) (v := ?_) rfl (by kernel_rfl) (by kernel_rfl) (by kernel_rfl) (by kernel_rfl) (fun _ _ _ h => h) inv (Or.inl ⟨by rfl, ?_⟩) (fun _ => hS) (fun inv2 => ?_)
  rotate_left
  · intro w _
    go_simp
    try with_reducible rfl
  clear inv
  have inv := inv2
  clear inv2
  try simp only [Act.put, nrmA, nrmB, nrmC]
  refine wpAnyE_pure (i := 3) (v := ?_) rfl (by kernel_rfl) (by kernel_rfl) (by kernel_rfl) (by kernel_rfl) (fun _ _ _ h => h) inv (Or.inl ⟨by rfl, ?_⟩) (fun _ => hS) (fun inv2 => ?_)
  rotate_left
  · intro w _
    go_simp
    try with_reducible rfl
  clear inv
  have inv := inv2
  clear inv2
  try simp only [Act.put, nrmA, nrmB, nrmC]
  refine wpAnyE_load (i := 4) (v := ?_) [10] rfl (by kernel_rfl) (by kernel_rfl) (by kernel_rfl) (by kernel_rfl) (fun _ _ _ h => h) inv (Or.inl ⟨by rfl, ?_⟩) hS (fun inv2 => ?_)
  rotate_left
  · intro w hSw
    obtain ⟨s0, s1, s2, s3, s4, s5, s6⟩ := hSw
    go_simp
    try with_reducible rfl
  clear inv
  have inv := inv2
  clear inv2
  try simp only [Act.put, nrmA, nrmB, nrmC]
  refine wpAnyE_load (i := 5) (v := ?_) [10] rfl (by kernel_rfl) (by kernel_rfl) (by kernel_rfl) (by kernel_rfl) (fun _ _ _ h => h) inv (Or.inl ⟨by rfl, ?_⟩) hS (fun inv2 => ?_)
  rotate_left
  · intro w hSw
    obtain ⟨s0, s1, s2, s3, s4, s5, s6⟩ := hSw
    go_simp
    try with_reducible rfl
  clear inv
  have inv := inv2
  clear inv2
  try simp only [Act.put, nrmA, nrmB, nrmC]
  refine wpAnyE_one (i := 6) rfl (by kernel_rfl) inv (fun K hK => ?_)
  go_simp
  have hb4 : Below W3.heap.size W3 (W3.alloc (.cells #[.int .i64 x.d, .int .i64 x.y, .int .i64 x.p.src, .int .i64 x.p.dst, .int .i64 x.p.sport, .int .i64 x.p.dport] 43)).drew := ((Below.refl _ _).alloc (Nat.le_refl _) _).drew
  have HB4 := hide hb4
  have HX4 := hide (show BoxV (W3.alloc (.cells #[.int .i64 x.d, .int .i64 x.y, .int .i64 x.p.src, .int .i64 x.p.dst, .int .i64 x.p.sport, .int .i64 x.p.dport] 43)).drew W3.heap.size (ArrV.arr x) from (BoxV.new W3 #[.int .i64 x.d, .int .i64 x.y, .int .i64 x.p.src, .int .i64 x.p.dst, .int .i64 x.p.sport, .int .i64 x.p.dport] 43).below (B := W3.heap.size + 1) ((Below.refl _ _).drew) (Nat.lt_succ_self _))
  have hs4 : (W3.alloc (.cells #[.int .i64 x.d, .int .i64 x.y, .int .i64 x.p.src, .int .i64 x.p.dst, .int .i64 x.p.sport, .int .i64 x.p.dport] 43)).drew.heap.size = W3.heap.size + 1 := by simp
  clear hb4
  refine hK.out _ _ (fun _ => ⟨(HQ.out _ HB4.out).1, (HQ.out _ HB4.out).2.1.1 0 _ rfl, (HQ.out _ HB4.out).2.1.1 1 _ rfl, (HQ.out _ HB4.out).2.1.1 2 _ rfl, (HQ.out _ HB4.out).2.1.1 3 _ rfl, (HQ.out _ HB4.out).2.1.1 4 _ rfl, (HQ.out _ HB4.out).2.1.1 5 _ rfl⟩) (fun inv2 => ?_)
  clear hK K hS
  clear inv
  have inv := inv2
  clear inv2
  try simp only [Act.put, nrmA, nrmB, nrmC]
  refine wpAnyE_one (i := 7) rfl (by kernel_rfl) inv (fun K hK => ?_)
  rw [if_pos (by rfl)]
  refine wp_append_any _ (.tmp 20) (.tmp 22) 80 rfl 0 43 i0 _ 6 48 Try.underlying80 hi0 hz0 hz1 hz2 rfl (by omega) (.slice A S0.length c) S0.length (S0.flatMap ArrV.cells) rfl (HQ.out _ HB4.out).2.2.1 (W3.heap.size + 1) (some ⟨W3.heap.size, 0, none⟩) 1 1 x.cells rfl (reads_arr HX4.out) x.one (by unfold maxLen; omega) (by omega) (Nat.zero_le _) ?_
  intro v5 w5 hown5 hg5 hat5
  obtain ⟨g5, c5, rfl, _⟩ := hown5.form (by omega)
  have HAD5 := hide (HW2.out.come (x := x) hl (HN3.out.trans ((Near.of_below HB4.out).mono HN3.out.size)) (HM3.out.below HB4.out HM3.out.lt) (by rw [hS0]; exact hown5) (by rw [hS0]; exact hg5) (by rw [hS0]; exact hat5))
  have hr5 := hg5
  rw [row_blk] at hr5
  have n5 := near_grown hr5
  have s0 : w5.cell? ⟨g, 3, none⟩ = some (.slice A S0.length c) := (n5.cell (a := ⟨g, 3, none⟩) (by show g < _; rw [hs4]; have := (HQ.out _ (Below.refl _ _)).2.2.2.1; omega) (HQ.out _ (Below.refl _ _)).2.2.2.2.1).trans (HQ.out _ HB4.out).1
  have fz5 : w5.frozen? ⟨g, 3, none⟩ = false := (n5.frozen (a := ⟨g, 3, none⟩) (by show g < _; rw [hs4]; have := (HQ.out _ (Below.refl _ _)).2.2.2.1; omega) (HQ.out _ (Below.refl _ _)).2.2.2.2.1).trans (HQ.out _ HB4.out).2.2.2.2.2.2
  have hbn := (HQ.out _ HB4.out).2.1.near n5 (by rw [hs4]; omega) (HQ.out _ (Below.refl _ _)).2.2.2.2.2.1
  clear hown5 hat5 hg5 hr5 n5
  have hS5 : w5.cell? ⟨g, 3, none⟩ = some (.slice A S0.length c) ∧ w5.cell? ⟨N, 0, none⟩ = some (.int .i64 x.d) ∧ w5.cell? ⟨N, 1, none⟩ = some (.int .i64 x.y) ∧ w5.cell? ⟨N, 2, none⟩ = some (.int .i64 x.p.src) ∧ w5.cell? ⟨N, 3, none⟩ = some (.int .i64 x.p.dst) ∧ w5.cell? ⟨N, 4, none⟩ = some (.int .i64 x.p.sport) ∧ w5.cell? ⟨N, 5, none⟩ = some (.int .i64 x.p.dport) := ⟨s0, hbn.1 0 _ rfl, hbn.1 1 _ rfl, hbn.1 2 _ rfl, hbn.1 3 _ rfl, hbn.1 4 _ rfl, hbn.1 5 _ rfl⟩
  refine hK.out _ _ (fun _ => hS5) (fun inv2 => ?_)
  clear hK K hbn
  clear inv
  have inv := inv2
  clear inv2
  try simp only [Act.put, nrmA, nrmB, nrmC]
  have hS := hS5
  clear hS5
  refine wpAnyE_pure (i := 8) (v := ?_) rfl (by kernel_rfl) (by kernel_rfl) (by kernel_rfl) (by kernel_rfl) (fun _ _ _ h => h) inv (Or.inl ⟨by rfl, ?_⟩) (fun _ => hS) (fun inv2 => ?_)
  rotate_left
  · intro w _
    go_simp
    try with_reducible rfl
  clear inv
  have inv := inv2
  clear inv2
  try simp only [Act.put, nrmA, nrmB, nrmC]
  refine wpAnyE_pure (i := 9) (v := ?_) rfl (by kernel_rfl) (by kernel_rfl) (by kernel_rfl) (by kernel_rfl) (fun _ _ _ h => h) inv (Or.inl ⟨by rfl, ?_⟩) (fun _ => hS) (fun inv2 => ?_)
  rotate_left
  · intro w _
    go_simp
    try with_reducible rfl
  clear inv
  have inv := inv2
  clear inv2
  try simp only [Act.put, nrmA, nrmB, nrmC]
  refine wpAnyE_late (i := 10) rfl (by kernel_rfl) inv (by kernel_rfl) (fun K hK => ?_)
  go_simp
  refine hK.out _ _ (fun inv2 => ?_)
  clear hK K
  clear inv
  have inv := inv2
  clear inv2
  try simp only [Act.put, nrmA, nrmB, nrmC]
  refine wpAnyE_done (by kernel_rfl) ?_ _
  clear inv
  clear s0 fz5 hS
  rw [hS0] at HAD5
  generalize World.setCell w5 _ _ = W6 at *
  go_wp2
  go_end0
  try rw [← hN]
  rw [hS0] at HCE
  try rw [hS0]
  rw [HCE.out]
  refine ⟨rfl, _, _, _, HAD5.out.1, (Near.of_below HX2.out.bl).trans (HAD5.out.2.mono HX2.out.bl.size), fun j e => ?_⟩
  rcases e with e | e
  · exact Or.inl e
  · right; have := HX2.out.bl.size; omega
set_option maxRecDepth 100000 in
set_option maxHeartbeats 8000000 in
theorem taleComes_walk {W0 W : World} {F : Nat → Prop} {gt0 g : Nat} {n : NetV} {A1 : Option Addr} {c1 : Nat} {A : Option Addr} {c : Nat} {T : TS} (h : TaleAt W0 W F gt0 g n A1 c1 A c T) (x : ArrV) (hl : T.S.length < 1000000) :
    Calls Try.prog 112 #[.pointer (some ⟨gt0, 0, none⟩), .agg #[.int .i64 x.d, .int .i64 x.y, .int .i64 x.p.src, .int .i64 x.p.dst, .int .i64 x.p.sport, .int .i64 x.p.dport]] W fun e W' => e = .returned (.tuple #[]) ∧ ∃ A' c' F', TaleAt W0 W' F' gt0 g n A1 c1 A' c' ⟨T.L, comeS T.S x⟩ ∧ Near F W.heap.size W W' ∧ ∀ j, F' j → F j ∨ W.heap.size ≤ j := by
  have HW := hide h
  have hgl := (h.fo gt0 h.ft).2
  clear h
  go_enter Try.func112, Try.ntmps112
  go_wp2_with fail
  have HX1 := hide (((BX.none W).al #[.int .i64 x.d, .int .i64 x.y, .int .i64 x.p.src, .int .i64 x.p.dst, .int .i64 x.p.sport, .int .i64 x.p.dport] 43).done)
  have hs1 : (W.alloc (.cells #[.int .i64 x.d, .int .i64 x.y, .int .i64 x.p.src, .int .i64 x.p.dst, .int .i64 x.p.sport, .int .i64 x.p.dport] 43)).heap.size = W.heap.size + 1 := by simp
  generalize World.alloc W _ = W1 at *
  have HW1 := hide (HW.out.below HX1.out.bl)
  obtain ⟨B, hB⟩ : ∃ B, (T.S.any fun z => eqA x z) = B := ⟨_, rfl⟩
  have HCT := hide (fun (w' : World) (hb : Below W1.heap.size W1 w') => containsArr_any T.S A T.S.length c x w' (by omega) (own_sl ArrV.len (HW1.out.below hb).own rfl))
  rw [hB] at HCT
  refine wp_region_abs (by kernel_rfl) (by kernel_rfl) ?_
  intro T1 hT gt hg1 hgi
  have HGT := hide hg1
  have HGI := hide hgi
  clear hg1 hgi
  have k4 : ∀ t, (gt t).cell? ⟨gt0, 1, none⟩ = some (.slice A T.S.length c) := fun t => (HW1.out.below (HGT.out t)).t1
  have x0 : ∀ t, (gt t).cell? ⟨W.heap.size, 0, none⟩ = some (.int .i64 x.d) := fun t => ((HX1.out.below (HGT.out t)).get 0 rfl).1 0 _ rfl
  have x1 : ∀ t, (gt t).cell? ⟨W.heap.size, 1, none⟩ = some (.int .i64 x.y) := fun t => ((HX1.out.below (HGT.out t)).get 0 rfl).1 1 _ rfl
  have x2 : ∀ t, (gt t).cell? ⟨W.heap.size, 2, none⟩ = some (.int .i64 x.p.src) := fun t => ((HX1.out.below (HGT.out t)).get 0 rfl).1 2 _ rfl
  have x3 : ∀ t, (gt t).cell? ⟨W.heap.size, 3, none⟩ = some (.int .i64 x.p.dst) := fun t => ((HX1.out.below (HGT.out t)).get 0 rfl).1 3 _ rfl
  have x4 : ∀ t, (gt t).cell? ⟨W.heap.size, 4, none⟩ = some (.int .i64 x.p.sport) := fun t => ((HX1.out.below (HGT.out t)).get 0 rfl).1 4 _ rfl
  have x5 : ∀ t, (gt t).cell? ⟨W.heap.size, 5, none⟩ = some (.int .i64 x.p.dport) := fun t => ((HX1.out.below (HGT.out t)).get 0 rfl).1 5 _ rfl
  repeat (go_big_quiet_step ((go_at_call 38; exact inAbs HGT.out HGI.out (HCT.out _ (HGT.out _)))))
  refine wpQuiet_nil ?_
  intro _ hw'
  obtain ⟨t, rfl⟩ := hw'
  have HX2 := hide (HX1.out.below (HGT.out t))
  have HW2 := hide (HW1.out.below (HGT.out t))
  have hs2 := (HGT.out t).size
  generalize gt t = W2 at *
  clear k4 x0 x1 x2 x3 x4 x5 HCT HGT HGI HX1 HW1
  rw [any_eqA] at hB
  cases B
  case true =>
    have e : comeS T.S x = T.S := if_pos (by simpa using hB)
    go_wp2
    go_end0
    exact ⟨rfl, A, c, F, by rw [e]; exact HW2.out, Near.of_below HX2.out.bl, fun j e => Or.inl e⟩
  have hxS : x ∉ T.S := by simpa using hB
  have HCE := hide (show comeS T.S x = T.S ++ [x] from if_neg hxS)
  obtain ⟨N, hN⟩ : ∃ N, W.heap.size = N := ⟨_, rfl⟩
  obtain ⟨S0, hS0⟩ : ∃ S0, T.S = S0 := ⟨_, rfl⟩
  have hNl : N < W2.heap.size := by omega
  have HQ := hide (fun (w' : World) (hb : Below W2.heap.size W2 w') => show (w'.cell? ⟨gt0, 1, none⟩ = some (.slice A S0.length c) ∧ BoxV w' N #[.int .i64 x.d, .int .i64 x.y, .int .i64 x.p.src, .int .i64 x.p.dst, .int .i64 x.p.sport, .int .i64 x.p.dport] ∧ w'.ownsRow 0 43 6 (.slice A S0.length c) S0.length (S0.flatMap ArrV.cells) ∧ gt0 < W2.heap.size ∧ ¬ (A.map (·.block) = some gt0) ∧ ¬ (A.map (·.block) = some N) ∧ w'.frozen? ⟨gt0, 1, none⟩ = false) from by
    have hw := HW2.out.below hb
    refine ⟨by rw [← hS0]; exact hw.t1, ?_, by rw [← hS0]; exact hw.own, by omega, hw.b1, fun e => ?_, hw.fz⟩
    · rw [← hN]; exact (HX2.out.below hb).get 0 rfl
    · have := (HW.out.fo N (HW.out.fb N e)).2; omega)
  have hS0l : S0.length < 1000000 := by rw [← hS0]; omega
  rw [hN]
  go_wp2_with fail
  -- R2
  obtain ⟨i0, hi0, hz0, hz1, hz2⟩ := info_parts Try.infoArrival
  refine wp_region_E (fun w' => w'.cell? ⟨gt0, 1, none⟩ = some (.slice A S0.length c) ∧ w'.cell? ⟨N, 0, none⟩ = some (.int .i64 x.d) ∧ w'.cell? ⟨N, 1, none⟩ = some (.int .i64 x.y) ∧ w'.cell? ⟨N, 2, none⟩ = some (.int .i64 x.p.src) ∧ w'.cell? ⟨N, 3, none⟩ = some (.int .i64 x.p.dst) ∧ w'.cell? ⟨N, 4, none⟩ = some (.int .i64 x.p.sport) ∧ w'.cell? ⟨N, 5, none⟩ = some (.int .i64 x.p.dport)) 10 (by kernel_rfl) ⟨(HQ.out _ (Below.refl _ _).drew).1, (HQ.out _ (Below.refl _ _).drew).2.1.1 0 _ rfl, (HQ.out _ (Below.refl _ _).drew).2.1.1 1 _ rfl, (HQ.out _ (Below.refl _ _).drew).2.1.1 2 _ rfl, (HQ.out _ (Below.refl _ _).drew).2.1.1 3 _ rfl, (HQ.out _ (Below.refl _ _).drew).2.1.1 4 _ rfl, (HQ.out _ (Below.refl _ _).drew).2.1.1 5 _ rfl⟩ (fun hS inv => ?_)
  refine wpAnyE_pure (i := 0) (v := ?_) rfl (by kernel_rfl) (by kernel_rfl) (by kernel_rfl) (by kernel_rfl) (fun _ _ _ h => h) inv (Or.inl ⟨by rfl, ?_⟩) (fun _ => hS) (fun inv2 => ?_)
  rotate_left
  · intro w _
    go_simp
    try with_reducible rfl
  clear inv
  have inv := inv2
  clear inv2
  try simp only [Act.put, nrmA, nrmB, nrmC]
  refine wpAnyE_pure (i := 1) (v := ?_) rfl (by kernel_rfl) (by kernel_rfl) (by kernel_rfl) (by kernel_rfl) (fun _ _ _ h => h) inv (Or.inl ⟨by rfl, ?_⟩) (fun _ => hS) (fun inv2 => ?_)
  rotate_left
  · intro w _
    go_simp
    try with_reducible rfl
  clear inv
  have inv := inv2
  clear inv2
  try simp only [Act.put, nrmA, nrmB, nrmC]
  refine wpAnyE_pure (i := 2) (v := ?_) rfl (by kernel_rfl) (by kernel_rfl) (by kernel_rfl) (by kernel_rfl) (fun _ _ _ h => h) inv (Or.inl ⟨by rfl, ?_⟩) (fun _ => hS) (fun inv2 => ?_)
  rotate_left
  · intro w _
    go_simp
    try with_reducible rfl
  clear inv
  have inv := inv2
  clear inv2
  try simp only [Act.put, nrmA, nrmB, nrmC]
  refine wpAnyE_pure (i := 3) (v := ?_) rfl (by kernel_rfl) (by kernel_rfl) (by kernel_rfl) (by kernel_rfl) (fun _ _ _ h => h) inv (Or.inl ⟨by rfl, ?_⟩) (fun _ => hS) (fun inv2 => ?_)
  rotate_left
  · intro w _
    go_simp
    try with_reducible rfl
  clear inv
  have inv := inv2
  clear inv2
  try simp only [Act.put, nrmA, nrmB, nrmC]
  refine wpAnyE_load (i := 4) (v := ?_) [10] rfl (by kernel_rfl) (by kernel_rfl) (by kernel_rfl) (by kernel_rfl) (fun _ _ _ h => h) inv (Or.inl ⟨by rfl, ?_⟩) hS (fun inv2 => ?_)
  rotate_left
  · intro w hSw
    obtain ⟨s0, s1, s2, s3, s4, s5, s6⟩ := hSw
    go_simp
    try with_reducible rfl
  clear inv
  have inv := inv2
  clear inv2
  try simp only [Act.put, nrmA, nrmB, nrmC]
  refine wpAnyE_load (i := 5) (v := ?_) [10] rfl (by kernel_rfl) (by kernel_rfl) (by kernel_rfl) (by kernel_rfl) (fun _ _ _ h => h) inv (Or.inl ⟨by rfl, ?_⟩) hS (fun inv2 => ?_)
  rotate_left
  · intro w hSw
    obtain ⟨s0, s1, s2, s3, s4, s5, s6⟩ := hSw
    go_simp
    try with_reducible rfl
  clear inv
  have inv := inv2
  clear inv2
  try simp only [Act.put, nrmA, nrmB, nrmC]
  refine wpAnyE_one (i := 6) rfl (by kernel_rfl) inv (fun K hK => ?_)
  go_simp
  have hb4 : Below W2.heap.size W2 (W2.alloc (.cells #[.int .i64 x.d, .int .i64 x.y, .int .i64 x.p.src, .int .i64 x.p.dst, .int .i64 x.p.sport, .int .i64 x.p.dport] 43)).drew := ((Below.refl _ _).alloc (Nat.le_refl _) _).drew
  have HB4 := hide hb4
  have HX4 := hide (show BoxV (W2.alloc (.cells #[.int .i64 x.d, .int .i64 x.y, .int .i64 x.p.src, .int .i64 x.p.dst, .int .i64 x.p.sport, .int .i64 x.p.dport] 43)).drew W2.heap.size (ArrV.arr x) from (BoxV.new W2 #[.int .i64 x.d, .int .i64 x.y, .int .i64 x.p.src, .int .i64 x.p.dst, .int .i64 x.p.sport, .int .i64 x.p.dport] 43).below (B := W2.heap.size + 1) ((Below.refl _ _).drew) (Nat.lt_succ_self _))
  have hs4 : (W2.alloc (.cells #[.int .i64 x.d, .int .i64 x.y, .int .i64 x.p.src, .int .i64 x.p.dst, .int .i64 x.p.sport, .int .i64 x.p.dport] 43)).drew.heap.size = W2.heap.size + 1 := by simp
  clear hb4
  refine hK.out _ _ (fun _ => ⟨(HQ.out _ HB4.out).1, (HQ.out _ HB4.out).2.1.1 0 _ rfl, (HQ.out _ HB4.out).2.1.1 1 _ rfl, (HQ.out _ HB4.out).2.1.1 2 _ rfl, (HQ.out _ HB4.out).2.1.1 3 _ rfl, (HQ.out _ HB4.out).2.1.1 4 _ rfl, (HQ.out _ HB4.out).2.1.1 5 _ rfl⟩) (fun inv2 => ?_)
  clear hK K hS
  clear inv
  have inv := inv2
  clear inv2
  try simp only [Act.put, nrmA, nrmB, nrmC]
  refine wpAnyE_one (i := 7) rfl (by kernel_rfl) inv (fun K hK => ?_)
  rw [if_pos (by rfl)]
  refine wp_append_any _ (.tmp 15) (.tmp 17) 80 rfl 0 43 i0 _ 6 48 Try.underlying80 hi0 hz0 hz1 hz2 rfl (by omega) (.slice A S0.length c) S0.length (S0.flatMap ArrV.cells) rfl (HQ.out _ HB4.out).2.2.1 (W2.heap.size + 1) (some ⟨W2.heap.size, 0, none⟩) 1 1 x.cells rfl (reads_arr HX4.out) x.one (by unfold maxLen; omega) (by omega) (Nat.zero_le _) ?_
  intro v5 w5 hown5 hg5 hat5
  obtain ⟨g5, c5, rfl, _⟩ := hown5.form (by omega)
  have HAD5 := hide (HW2.out.come (x := x) HB4.out (by rw [hS0]; exact hown5) (by rw [hS0]; exact hg5) (by rw [hS0]; exact hat5))
  have hr5 := hg5
  rw [row_blk] at hr5
  have n5 := near_grown hr5
  have s0 : w5.cell? ⟨gt0, 1, none⟩ = some (.slice A S0.length c) := (n5.cell (a := ⟨gt0, 1, none⟩) (by show gt0 < _; rw [hs4]; have := (HQ.out _ (Below.refl _ _)).2.2.2.1; omega) (HQ.out _ (Below.refl _ _)).2.2.2.2.1).trans (HQ.out _ HB4.out).1
  have fz5 : w5.frozen? ⟨gt0, 1, none⟩ = false := (n5.frozen (a := ⟨gt0, 1, none⟩) (by show gt0 < _; rw [hs4]; have := (HQ.out _ (Below.refl _ _)).2.2.2.1; omega) (HQ.out _ (Below.refl _ _)).2.2.2.2.1).trans (HQ.out _ HB4.out).2.2.2.2.2.2
  have hbn := (HQ.out _ HB4.out).2.1.near n5 (by rw [hs4]; omega) (HQ.out _ (Below.refl _ _)).2.2.2.2.2.1
  clear hown5 hat5 hg5 hr5 n5
  have hS5 : w5.cell? ⟨gt0, 1, none⟩ = some (.slice A S0.length c) ∧ w5.cell? ⟨N, 0, none⟩ = some (.int .i64 x.d) ∧ w5.cell? ⟨N, 1, none⟩ = some (.int .i64 x.y) ∧ w5.cell? ⟨N, 2, none⟩ = some (.int .i64 x.p.src) ∧ w5.cell? ⟨N, 3, none⟩ = some (.int .i64 x.p.dst) ∧ w5.cell? ⟨N, 4, none⟩ = some (.int .i64 x.p.sport) ∧ w5.cell? ⟨N, 5, none⟩ = some (.int .i64 x.p.dport) := ⟨s0, hbn.1 0 _ rfl, hbn.1 1 _ rfl, hbn.1 2 _ rfl, hbn.1 3 _ rfl, hbn.1 4 _ rfl, hbn.1 5 _ rfl⟩
  refine hK.out _ _ (fun _ => hS5) (fun inv2 => ?_)
  clear hK K hbn
  clear inv
  have inv := inv2
  clear inv2
  try simp only [Act.put, nrmA, nrmB, nrmC]
  have hS := hS5
  clear hS5
  refine wpAnyE_pure (i := 8) (v := ?_) rfl (by kernel_rfl) (by kernel_rfl) (by kernel_rfl) (by kernel_rfl) (fun _ _ _ h => h) inv (Or.inl ⟨by rfl, ?_⟩) (fun _ => hS) (fun inv2 => ?_)
  rotate_left
  · intro w _
    go_simp
    try with_reducible rfl
  clear inv
  have inv := inv2
  clear inv2
  try simp only [Act.put, nrmA, nrmB, nrmC]
  refine wpAnyE_pure (i := 9) (v := ?_) rfl (by kernel_rfl) (by kernel_rfl) (by kernel_rfl) (by kernel_rfl) (fun _ _ _ h => h) inv (Or.inl ⟨by rfl, ?_⟩) (fun _ => hS) (fun inv2 => ?_)
  rotate_left
  · intro w _
    go_simp
    try with_reducible rfl
  clear inv
  have inv := inv2
  clear inv2
  try simp only [Act.put, nrmA, nrmB, nrmC]
  refine wpAnyE_late (i := 10) rfl (by kernel_rfl) inv (by kernel_rfl) (fun K hK => ?_)
  go_simp
  refine hK.out _ _ (fun inv2 => ?_)
  clear hK K
  clear inv
  have inv := inv2
  clear inv2
  try simp only [Act.put, nrmA, nrmB, nrmC]
  refine wpAnyE_done (by kernel_rfl) ?_ _
  clear inv
  clear s0 fz5 hS
  rw [hS0] at HAD5
  generalize World.setCell w5 _ _ = W6 at *
  go_wp2
  go_end0
  try rw [← hN]
  rw [hS0] at HCE
  try rw [hS0]
  rw [HCE.out]
  refine ⟨rfl, _, _, _, HAD5.out.1, (Near.of_below HX2.out.bl).trans (HAD5.out.2.mono HX2.out.bl.size), fun j e => ?_⟩
  rcases e with e | e
  · exact Or.inl e
  · right; have := HX2.out.bl.size; omega
end Go.Proofs.Ythaiffjalgionaa
