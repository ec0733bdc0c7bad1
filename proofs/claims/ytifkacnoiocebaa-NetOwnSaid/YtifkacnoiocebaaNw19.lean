/- A part of the proof: WorldC, WorldN, PlayB. -/
import Derived.Test.YtifkacnoiocebaaNw18
set_option linter.unusedVariables false
set_option linter.unusedSimpArgs false
set_option maxRecDepth 100000
set_option maxHeartbeats 8000000
namespace Go.Proofs.Ytifkacnoiocebaa
open Go.Maps Go.RowKit
def ArrV.arr (x : ArrV) : Array Value := #[.int .i64 x.d, .int .i64 x.y, .int .i64 x.p.src, .int .i64 x.p.dst, .int .i64 x.p.sport, .int .i64 x.p.dport]
theorem reads_arr {w : World} {N : Nat} {x : ArrV} (h : BoxV w N x.arr) : Reads w (N + 1) 6 (some ⟨N, 0, none⟩) 1 x.cells :=
  ⟨rfl, fun _ => ⟨_, rfl, Nat.lt_succ_self _, fun j u hu => by
    rw [addr_add, Nat.zero_add]
    exact h.1 j u (by simpa [ArrV.cells, ArrV.arr] using hu)⟩⟩
theorem BX.none (W : World) : BX W [] W := ⟨Below.refl _ _, fun x hx => by cases hx⟩
theorem WorldAt.look {W w : World} {F : Nat → Prop} {g : Nat} {no : NetV} {gm : Nat} {nm : NetV} {f o b km : Nat} {A : Option Addr} {c : Nat} {Z : WldS} {k : Nat} (h : WorldAt W w F g no gm nm f o b km A c Z k) (x : ArrV) (hx : x.ok) :
    (Instr.lookup 76 (.map (some km)) (.agg #[.int .i64 x.d, .int .i64 x.y, .int .i64 x.p.src, .int .i64 x.p.dst, .int .i64 x.p.sport, .int .i64 x.p.dport]) false).run Try.prog w = .ok (.bool (decide (x ∈ Z.S))) w := by
  have := (h.kn.lookA arKeys Try.underlying76 (z := .bool false) (by kernel_rfl) (a := x) hx).2
  simp only [ArrV.val] at this
  rw [this]
  simp only [knownV]
  by_cases e : x ∈ Z.S <;> simp [e]
theorem WorldAt.store {W w : World} {F : Nat → Prop} {g : Nat} {no : NetV} {gm : Nat} {nm : NetV} {f o b km : Nat} {A : Option Addr} {c : Nat} {Z : WldS} {k : Nat} (h : WorldAt W w F g no gm nm f o b km A c Z k) (x : ArrV) (hx : x.ok) (hk : k < 1000000) :
    ∃ w', (Instr.mapUpdate 76 (.map (some km)) (.agg #[.int .i64 x.d, .int .i64 x.y, .int .i64 x.p.src, .int .i64 x.p.dst, .int .i64 x.p.sport, .int .i64 x.p.dport]) (.bool true)).run Try.prog w = .ok () w' ∧ MapIs Try.prog 47 ArrV.val arDom w' km (putM (knownV Z.S) x (.bool true)) ∧ w.mapTurned w' km := by
  have hl := h.lk
  exact h.kn.storeA arKeys Z.S (by unfold maxLen; omega) (fun a _ ha => by
    by_cases e : a ∈ Z.S
    · exact e
    · simp [knownV, e] at ha) Try.underlying76 (a := x) hx (.bool true)
theorem near_turned {w w' : World} {km : Nat} (h : w.mapTurned w' km) : Near (fun j => j = km) w.heap.size w w' := by
  have hg := h.grown
  exact ⟨hg.os, hg.tape, hg.output, hg.size, fun k hk hp => hg.block k hk (fun e => hp (Option.some.inj e))⟩
theorem comes_walk {W0 W : World} {F : Nat → Prop} {g : Nat} {no : NetV} {gm : Nat} {nm : NetV} {f o b km : Nat} {A : Option Addr} {c : Nat} {Z : WldS} {k : Nat} (h : WorldAt W0 W F g no gm nm f o b km A c Z k) (x : ArrV) (hx : x.ok) (hl : Z.S.length + 1 ≤ k) (hk : k < 1000000) :
    Calls Try.prog 33 #[.pointer (some ⟨g, 0, none⟩), .agg #[.int .i64 x.d, .int .i64 x.y, .int .i64 x.p.src, .int .i64 x.p.dst, .int .i64 x.p.sport, .int .i64 x.p.dport]] W fun e W' => e = .returned (.tuple #[]) ∧ ∃ A' c' F', WorldAt W0 W' F' g no gm nm f o b km A' c' ⟨Z.M, comeS Z.S x⟩ k ∧ Near F W.heap.size W W' ∧ ∀ j, F' j → F j ∨ W.heap.size ≤ j := by
  have HW := hide h
  have hgl := (h.fo g h.fg).2
  have hkl := (h.fo km h.fk).2
  clear h
  go_enter Try.func33, Try.ntmps33
  go_wp2_with fail
  have HX1 := hide (((BX.none W).al #[.int .i64 x.d, .int .i64 x.y, .int .i64 x.p.src, .int .i64 x.p.dst, .int .i64 x.p.sport, .int .i64 x.p.dport] 47).done)
  have hs1 : (W.alloc (.cells #[.int .i64 x.d, .int .i64 x.y, .int .i64 x.p.src, .int .i64 x.p.dst, .int .i64 x.p.sport, .int .i64 x.p.dport] 47)).heap.size = W.heap.size + 1 := by simp
  generalize World.alloc W _ = W1 at *
  have HW1 := hide (HW.out.below HX1.out.bl)
  obtain ⟨B, hB⟩ : ∃ B, decide (x ∈ Z.S) = B := ⟨_, rfl⟩
  refine wp_region_abs (by kernel_rfl) (by kernel_rfl) ?_
  intro T1 hT gt hg1 hgi
  have HGT := hide hg1
  have HGI := hide hgi
  clear hg1 hgi
  have k4 : ∀ t, (gt t).cell? ⟨g, 4, none⟩ = some (.map (some km)) := fun t => (HW1.out.below (HGT.out t)).c4
  have x0 : ∀ t, (gt t).cell? ⟨W.heap.size, 0, none⟩ = some (.int .i64 x.d) := fun t => ((HX1.out.below (HGT.out t)).get 0 rfl).1 0 _ rfl
  have x1 : ∀ t, (gt t).cell? ⟨W.heap.size, 1, none⟩ = some (.int .i64 x.y) := fun t => ((HX1.out.below (HGT.out t)).get 0 rfl).1 1 _ rfl
  have x2 : ∀ t, (gt t).cell? ⟨W.heap.size, 2, none⟩ = some (.int .i64 x.p.src) := fun t => ((HX1.out.below (HGT.out t)).get 0 rfl).1 2 _ rfl
  have x3 : ∀ t, (gt t).cell? ⟨W.heap.size, 3, none⟩ = some (.int .i64 x.p.dst) := fun t => ((HX1.out.below (HGT.out t)).get 0 rfl).1 3 _ rfl
  have x4 : ∀ t, (gt t).cell? ⟨W.heap.size, 4, none⟩ = some (.int .i64 x.p.sport) := fun t => ((HX1.out.below (HGT.out t)).get 0 rfl).1 4 _ rfl
  have x5 : ∀ t, (gt t).cell? ⟨W.heap.size, 5, none⟩ = some (.int .i64 x.p.dport) := fun t => ((HX1.out.below (HGT.out t)).get 0 rfl).1 5 _ rfl
  have hlk : ∀ t, (Instr.lookup 76 (.map (some km)) (.agg #[.int .i64 x.d, .int .i64 x.y, .int .i64 x.p.src, .int .i64 x.p.dst, .int .i64 x.p.sport, .int .i64 x.p.dport]) false).run Try.prog (gt t) = .ok (.bool B) (gt t) := fun t => by rw [← hB]; exact (HW1.out.below (HGT.out t)).look x hx
  repeat (go_big_quiet_step (fail))
  refine wpQuiet_nil ?_
  intro _ hw'
  obtain ⟨t, rfl⟩ := hw'
  have HX2 := hide (HX1.out.below (HGT.out t))
  have HW2 := hide (HW1.out.below (HGT.out t))
  have hs2 := (HGT.out t).size
  generalize gt t = W2 at *
  clear k4 x0 x1 x2 x3 x4 x5 hlk HGT HGI HX1 HW1
  cases B
  case true =>
    have e : comeS Z.S x = Z.S := if_pos (by simpa using hB)
    go_wp2
    go_end0
    exact ⟨rfl, A, c, F, by rw [e]; exact HW2.out, Near.of_below HX2.out.bl, fun j e => Or.inl e⟩
  have hxS : x ∉ Z.S := by simpa using hB
  have HCE := hide (show comeS Z.S x = Z.S ++ [x] from if_neg hxS)
  go_wp2_with fail
  obtain ⟨W3, hrun, hm3, ht3⟩ := (HW2.out.below (Below.refl _ _).drew).store x hx hk
  have n3 : Near (fun j => j = km) W2.heap.size W2 W3 := (Near.of_below (Below.refl _ _).drew).trans (near_turned ht3)
  have HN3 := hide n3
  have HM3 := hide hm3
  have hnk : ¬ (W.heap.size = km) := by omega
  have hbx := HX2.out.get 0 rfl
  have hlt2 := (HX2.out.bx _ (List.mem_of_getElem? (i := 0) rfl)).2
  have HBX3 := hide (hbx.near n3 hlt2 hnk)
  obtain ⟨b0, b1, b2, b3, b4, b5⟩ := (cells6 hbx).1
  have c4 := HW2.out.c4
  clear n3 hm3 ht3 hbx
  go_still_tail 5, (by kernel_rfl)
  go_wp2_with fail
  clear b0 b1 b2 b3 b4 b5 c4 hrun
  obtain ⟨N, hN⟩ : ∃ N, W.heap.size = N := ⟨_, rfl⟩
  obtain ⟨S0, hS0⟩ : ∃ S0, Z.S = S0 := ⟨_, rfl⟩
  have HQ := hide (fun (w' : World) (hb : Below W3.heap.size W3 w') => show (w'.cell? ⟨g, 3, none⟩ = some (.slice A S0.length c) ∧ BoxV w' N #[.int .i64 x.d, .int .i64 x.y, .int .i64 x.p.src, .int .i64 x.p.dst, .int .i64 x.p.sport, .int .i64 x.p.dport] ∧ w'.ownsRow 0 47 6 (.slice A S0.length c) S0.length (S0.flatMap ArrV.cells) ∧ g < W3.heap.size ∧ ¬ (A.map (·.block) = some g) ∧ ¬ (A.map (·.block) = some N) ∧ w'.frozen? ⟨g, 3, none⟩ = false) from by
    have hs3 := HN3.out.size
    have hw := HW2.out
    have hAl : ∀ j, A.map (·.block) = some j → j < W2.heap.size := fun j e => (hw.fo j (hw.fa j e)).2
    have hAg : ¬ (A.map (·.block) = some g) := fun e => (hw.ga g e).1 rfl
    have hAN : ¬ (A.map (·.block) = some N) := fun e => by have := (HW.out.fo N (HW.out.fa N e)).2; omega
    have hgk : ¬ g = km := hw.gk
    refine ⟨?_, ?_, ?_, by omega, hAg, hAN, ?_⟩
    · exact (hb.cell (p := ⟨g, 3, none⟩) (by show g < _; omega)).trans ((HN3.out.cell (a := ⟨g, 3, none⟩) (by show g < _; omega) hgk).trans (by rw [← hS0]; exact hw.c3))
    · rw [← hN]; exact HBX3.out.below hb (by omega)
    · exact own_below (own_same (by rw [← hS0]; exact hw.own) (fun j hj => by
        rw [row_blk] at hj
        exact HN3.out.block j (hAl j hj) (fun e => (hw.ga j hj).2.1 e))) hb
    · exact (hb.frozen (p := ⟨g, 3, none⟩) (by show g < _; omega)).trans ((HN3.out.frozen (a := ⟨g, 3, none⟩) (by show g < _; omega) hgk).trans hw.fz))
  have hNl : N < W3.heap.size := by have := HN3.out.size; omega
  have hS0l : S0.length < 1000000 := by rw [← hS0]; omega
  rw [hN]
  -- R3
  obtain ⟨i0, hi0, hz0, hz1, hz2⟩ := info_parts Try.infoArrival
  refine wp_region_E (fun w' => w'.cell? ⟨g, 3, none⟩ = some (.slice A S0.length c) ∧ w'.cell? ⟨N, 0, none⟩ = some (.int .i64 x.d) ∧ w'.cell? ⟨N, 1, none⟩ = some (.int .i64 x.y) ∧ w'.cell? ⟨N, 2, none⟩ = some (.int .i64 x.p.src) ∧ w'.cell? ⟨N, 3, none⟩ = some (.int .i64 x.p.dst) ∧ w'.cell? ⟨N, 4, none⟩ = some (.int .i64 x.p.sport) ∧ w'.cell? ⟨N, 5, none⟩ = some (.int .i64 x.p.dport)) 10 (by kernel_rfl) ⟨(HQ.out _ (Below.refl _ _).drew).1, (HQ.out _ (Below.refl _ _).drew).2.1.1 0 _ rfl, (HQ.out _ (Below.refl _ _).drew).2.1.1 1 _ rfl, (HQ.out _ (Below.refl _ _).drew).2.1.1 2 _ rfl, (HQ.out _ (Below.refl _ _).drew).2.1.1 3 _ rfl, (HQ.out _ (Below.refl _ _).drew).2.1.1 4 _ rfl, (HQ.out _ (Below.refl _ _).drew).2.1.1 5 _ rfl⟩ (fun hS => ?_)
  refine rP 0 hS ?_
  refine rP 1 hS ?_
  refine rP 2 hS ?_
  refine rP 3 hS ?_
  refine rL 4 [10] rfl hS (by intro w hSw; obtain ⟨s0, s1, s2, s3, s4, s5, s6⟩ := hSw; go_simp; try with_reducible rfl) ?_
  refine rL 5 [10] rfl hS (by intro w hSw; obtain ⟨s0, s1, s2, s3, s4, s5, s6⟩ := hSw; go_simp; try with_reducible rfl) ?_
  intro inv
  refine rO 6 inv fun K hK => ?_
  go_simp
  have hb4 : Below W3.heap.size W3 (W3.alloc (.cells #[.int .i64 x.d, .int .i64 x.y, .int .i64 x.p.src, .int .i64 x.p.dst, .int .i64 x.p.sport, .int .i64 x.p.dport] 47)).drew := ((Below.refl _ _).alloc (Nat.le_refl _) _).drew
  have HB4 := hide hb4
  have HX4 := hide (show BoxV (W3.alloc (.cells #[.int .i64 x.d, .int .i64 x.y, .int .i64 x.p.src, .int .i64 x.p.dst, .int .i64 x.p.sport, .int .i64 x.p.dport] 47)).drew W3.heap.size (ArrV.arr x) from (BoxV.new W3 #[.int .i64 x.d, .int .i64 x.y, .int .i64 x.p.src, .int .i64 x.p.dst, .int .i64 x.p.sport, .int .i64 x.p.dport] 47).below (B := W3.heap.size + 1) ((Below.refl _ _).drew) (Nat.lt_succ_self _))
  have hs4 : (W3.alloc (.cells #[.int .i64 x.d, .int .i64 x.y, .int .i64 x.p.src, .int .i64 x.p.dst, .int .i64 x.p.sport, .int .i64 x.p.dport] 47)).drew.heap.size = W3.heap.size + 1 := by simp
  clear hb4
  refine hK.out _ _ (fun _ => ⟨(HQ.out _ HB4.out).1, (HQ.out _ HB4.out).2.1.1 0 _ rfl, (HQ.out _ HB4.out).2.1.1 1 _ rfl, (HQ.out _ HB4.out).2.1.1 2 _ rfl, (HQ.out _ HB4.out).2.1.1 3 _ rfl, (HQ.out _ HB4.out).2.1.1 4 _ rfl, (HQ.out _ HB4.out).2.1.1 5 _ rfl⟩) ?_
  clear hK K hS inv
  intro inv
  try simp only [Act.put, nrmA, nrmB, nrmC]
  refine rO 7 inv fun K hK => ?_
  rw [if_pos (by rfl)]
  refine wp_append_any _ (.tmp 20) (.tmp 22) 42 rfl 0 47 i0 _ 6 48 Try.underlying42 hi0 hz0 hz1 hz2 rfl (by omega) (.slice A S0.length c) S0.length (S0.flatMap ArrV.cells) rfl (HQ.out _ HB4.out).2.2.1 (W3.heap.size + 1) (some ⟨W3.heap.size, 0, none⟩) 1 1 x.cells rfl (reads_arr HX4.out) x.one (by unfold maxLen; omega) (by omega) (Nat.zero_le _) ?_
  intro v5 w5 hown5 hg5 hat5
  obtain ⟨g5, c5, rfl, _⟩ := hown5.form (by omega)
  have HAD5 := hide (HW2.out.come (x := x) hl (HN3.out.trans ((Near.of_below HB4.out).mono HN3.out.size)) (HM3.out.below HB4.out HM3.out.lt) (by rw [hS0]; exact hown5) (by rw [hS0]; exact hg5) (by rw [hS0]; exact hat5))
  have hr5 := hg5
  rw [row_blk] at hr5
  have n5 := near_grown hr5
  have s0 : w5.cell? ⟨g, 3, none⟩ = some (.slice A S0.length c) := (n5.cell (a := ⟨g, 3, none⟩) (by show g < _; rw [hs4]; have := (HQ.out _ (Below.refl _ _)).2.2.2.1; omega) (HQ.out _ (Below.refl _ _)).2.2.2.2.1).trans (HQ.out _ HB4.out).1
  have fz5 : w5.frozen? ⟨g, 3, none⟩ = false := (n5.frozen (a := ⟨g, 3, none⟩) (by show g < _; rw [hs4]; have := (HQ.out _ (Below.refl _ _)).2.2.2.1; omega) (HQ.out _ (Below.refl _ _)).2.2.2.2.1).trans (HQ.out _ HB4.out).2.2.2.2.2.2
  have hbn := (HQ.out _ HB4.out).2.1.near n5 (by rw [hs4]; omega) (HQ.out _ (Below.refl _ _)).2.2.2.2.2.1
  clear hown5 hat5 hg5 hr5 n5
  have hS5 : w5.cell? ⟨g, 3, none⟩ = some (.slice A S0.length c) ∧ w5.cell? ⟨N, 0, none⟩ = some (.int .i64 x.d) ∧ w5.cell? ⟨N, 1, none⟩ = some (.int .i64 x.y) ∧ w5.cell? ⟨N, 2, none⟩ = some (.int .i64 x.p.src) ∧ w5.cell? ⟨N, 3, none⟩ = some (.int .i64 x.p.dst) ∧ w5.cell? ⟨N, 4, none⟩ = some (.int .i64 x.p.sport) ∧ w5.cell? ⟨N, 5, none⟩ = some (.int .i64 x.p.dport) := ⟨s0, hbn.1 0 _ rfl, hbn.1 1 _ rfl, hbn.1 2 _ rfl, hbn.1 3 _ rfl, hbn.1 4 _ rfl, hbn.1 5 _ rfl⟩
  refine hK.out _ _ (fun _ => hS5) (fun inv2 => ?_)
  clear hK K hbn
  clear inv
  have inv := inv2
  clear inv2
  try simp only [Act.put, nrmA, nrmB, nrmC]
  have hS := hS5
  clear hS5
  revert inv
  refine rP 8 hS ?_
  refine rP 9 hS ?_
  intro inv
  refine rT 10 inv fun K hK => ?_
  go_simp
  refine hK.out _ _ ?_
  clear hK K inv
  intro inv
  try simp only [Act.put, nrmA, nrmB, nrmC]
  refine rD ?_
  clear inv
  clear s0 fz5 hS
  rw [hS0] at HAD5
  generalize World.setCell w5 _ _ = W6 at *
  go_wp2
  go_end0
  try rw [← hN]
  rw [hS0] at HCE
  try rw [hS0]
  rw [HCE.out]
  refine ⟨rfl, _, _, _, HAD5.out.1, (Near.of_below HX2.out.bl).trans (HAD5.out.2.mono HX2.out.bl.size), fun j e => ?_⟩
  rcases e with e | e
  · exact Or.inl e
  · right; have := HX2.out.bl.size; omega
theorem MapIs.no_cell {α : Type} {P : Program} {kt : TypeId} {key : α → Value} {dom : α → Prop} {w : World} {b : Nat} {M : α → Option Value} (h : MapIs P kt key dom w b M) (a : Addr) (ha : a.block = b) : w.cell? a = none := by
  obtain ⟨D, ⟨es, clock, hh, _⟩, _⟩ := h
  simp [World.cell?, ha, hh]
theorem MemAt.no_cell {w : World} {g : Nat} {n : NetV} {f o b : Nat} {M : MemS} {k : Nat} (h : MemAt w g n f o b M k) {j : Nat} (hj : Is3 f o b j) (a : Addr) (ha : a.block = j) : w.cell? a = none := by
  rcases hj with e | e | e
  · exact h.mf.no_cell a (ha.trans e)
  · exact h.mo.no_cell a (ha.trans e)
  · exact h.mb.no_cell a (ha.trans e)
theorem MemAt.g_not3 {w : World} {g : Nat} {n : NetV} {f o b : Nat} {M : MemS} {k : Nat} (h : MemAt w g n f o b M k) : ¬ Is3 f o b g := fun e => by
  have := h.no_cell e ⟨g, 0, none⟩ rfl
  rw [h.c0] at this
  cases this
section
variable {w : World} {B n s : Nat} {A : Option Addr} {q : Nat → Prop}
theorem sl_on {α : Type} {cells : α → List Value} {l : List α} (h : SlAt cells s w B A n l) (hc : ∀ r, 0 < (cells r).length) (hq : ∀ j, q j → ∀ a : Addr, a.block = j → w.cell? a = none) : 0 < n → ∀ a, A = some a → ¬ q a.block := fun h0 a ha hj => by
  obtain ⟨b, o, e, _, hg⟩ := h.2 h0
  rw [ha] at e
  cases e
  have hl : 0 < l.length := by rw [h.1]; exact h0
  have := hg 0 _ (List.getElem?_eq_getElem hl) 0 _ (List.getElem?_eq_getElem (hc _))
  rw [hq b hj ⟨b, o + 0 * s + 0, none⟩ rfl] at this
  cases this
theorem ints_on {l : List Int} (h : IntsAt w B A n l) (hq : ∀ j, q j → ∀ a : Addr, a.block = j → w.cell? a = none) : 0 < n → ∀ a, A = some a → ¬ q a.block := fun h0 a ha hj => by
  obtain ⟨b, o, e, _, hg⟩ := h.2.2 h0
  rw [ha] at e
  cases e
  have hl : 0 < l.length := by rw [h.1]; exact h0
  have := hg 0 _ (List.getElem?_eq_getElem hl)
  rw [hq b hj ⟨b, o + 0, none⟩ rfl] at this
  cases this
theorem NetAt.off {m : NetV} (h : NetAt w B m) (hq : ∀ j, q j → ∀ a : Addr, a.block = j → w.cell? a = none) : NetOn0 (fun j => ¬ q j) m where
  d := sl_on h.ds (fun r => by rw [DevV.len]; omega) hq
  l := sl_on h.ls (fun r => by show 0 < 4; omega) hq
  o x hx := ⟨ints_on (h.dok x hx).bs hq, sl_on (h.dok x hx).rs.sl (fun r => by rw [RuleV.len]; omega) hq, sl_on (h.dok x hx).ts (fun r => by show 0 < 3; omega) hq⟩
theorem NetOn0.and {p q : Nat → Prop} {m : NetV} (h : NetOn0 p m) (h2 : NetOn0 q m) : NetOn0 (fun j => p j ∧ q j) m :=
  ⟨fun z a e => ⟨h.d z a e, h2.d z a e⟩, fun z a e => ⟨h.l z a e, h2.l z a e⟩, fun x hx => ⟨fun z a e => ⟨(h.o x hx).b z a e, (h2.o x hx).b z a e⟩, fun z a e => ⟨(h.o x hx).r z a e, (h2.o x hx).r z a e⟩, fun z a e => ⟨(h.o x hx).t z a e, (h2.o x hx).t z a e⟩⟩⟩
theorem NetOn.on0 {K : Nat} {m : NetV} (h : NetOn K m) : NetOn0 (fun j => K ≤ j) m :=
  ⟨fun _ a e => h.d a e, fun _ a e => h.l a e, fun x hx => ⟨fun _ a e => (h.o x hx).b a e, fun _ a e => (h.o x hx).r a e, fun _ a e => (h.o x hx).t a e⟩⟩
end
theorem knownV_none : knownV [] = fun _ => none := by funext a; simp [knownV]
theorem world_made {W0 w : World} {Wn : Nat} (h0 : W0.heap.size ≤ Wn) (h1 : Wn ≤ w.heap.size) {no : NetV} {gm : Nat} {nm : NetV} {f o b : Nat} (hn : NetAt w w.heap.size no) (hm : MemAt w gm nm f o b MemS.empty 0) (hs : Wn ≤ gm ∧ Wn ≤ f ∧ Wn ≤ o ∧ Wn ≤ b)
    (ho : NetOn0 (fun j => j < W0.heap.size ∨ (Wn ≤ j ∧ j < w.heap.size ∧ ¬ Is3 f o b j)) no) (ho2 : NetOn0 (fun j => j < W0.heap.size ∨ (Wn ≤ j ∧ j < w.heap.size ∧ ¬ Is3 f o b j)) nm) (t : TypeId) :
    WorldAt W0 ((w.alloc (.map #[] 0)).alloc (.cells #[.slice no.dA no.dn no.dc, .slice no.lA no.ln no.lc, .pointer (some ⟨gm, 0, none⟩), .slice none 0 0, .map (some w.heap.size)] t)) (fun j => Wn ≤ j ∧ j < w.heap.size + 2) (w.heap.size + 1) no gm nm f o b w.heap.size none 0 ⟨MemS.empty, []⟩ 0 := by
  have hs1 : (w.alloc (.map #[] 0)).heap.size = w.heap.size + 1 := by simp
  have hb : Below w.heap.size w ((w.alloc (.map #[] 0)).alloc (.cells #[.slice no.dA no.dn no.dc, .slice no.lA no.ln no.lc, .pointer (some ⟨gm, 0, none⟩), .slice none 0 0, .map (some w.heap.size)] t)) :=
    ((Below.refl _ _).alloc (Nat.le_refl _) _).alloc (by simp) _
  have hs2 : ((w.alloc (.map #[] 0)).alloc (.cells #[.slice no.dA no.dn no.dc, .slice no.lA no.ln no.lc, .pointer (some ⟨gm, 0, none⟩), .slice none 0 0, .map (some w.heap.size)] t)).heap.size = w.heap.size + 2 := by simp
  have hx := BoxV.new (w.alloc (.map #[] 0)) #[.slice no.dA no.dn no.dc, .slice no.lA no.ln no.lc, .pointer (some ⟨gm, 0, none⟩), .slice none 0 0, .map (some w.heap.size)] t
  rw [hs1] at hx
  have hgm := cell_lt hm.c0
  simp only at hgm
  have h3 : ∀ j, Is3 f o b j → j < w.heap.size := fun j e => by
    have := hm.flt
    have := hm.olt
    have := hm.blt
    rcases e with e | e | e <;> omega
  have hw : ∀ j, (j < W0.heap.size ∨ (Wn ≤ j ∧ j < w.heap.size ∧ ¬ Is3 f o b j)) → (j < W0.heap.size ∨ ((Wn ≤ j ∧ j < w.heap.size + 2) ∧ ¬ Tn (w.heap.size + 1) w.heap.size f o b none j)) := fun j e => by
    rcases e with e | ⟨e1, e2, e3⟩
    · exact Or.inl e
    · refine Or.inr ⟨⟨e1, by omega⟩, fun t => ?_⟩
      rcases t with t | t | t | t
      · omega
      · omega
      · exact e3 t
      · cases t
  refine ⟨hx.1 0 _ rfl, hx.1 1 _ rfl, hx.1 2 _ rfl, hx.1 3 _ rfl, hx.1 4 _ rfl, hx.2 3, World.ownsRow_nil _ _ _ _, hn.below hb hb.size, hm.below hb, ?_, fun j e => ⟨by omega, by rw [hs2]; exact e.2⟩, ⟨by omega, by omega⟩, ⟨by omega, by omega⟩, ⟨by omega, by omega⟩, fun j e => ⟨(by rcases e with e | e | e <;> omega), (by have := h3 j e; omega)⟩, fun j e => (by cases e), (by omega), fun t => ?_, fun j e => (by have := h3 j e; omega), fun j e => (by cases e), ho.weak hw, ho2.weak hw, Nat.le_refl _⟩
  · show MapIs _ _ _ _ _ _ (knownV [])
    rw [knownV_none]
    exact (MapIs.made w).below (B := w.heap.size + 1) ((Below.refl _ _).alloc (by simp) _) (by omega)
  · rcases t with t | t | t | t
    · omega
    · omega
    · exact hm.g_not3 t
    · cases t
structure NB (W : World) (L : List (Nat × Array Value)) (n : NetV) (D E : Option (Option Addr × Nat)) (Z : List (Nat × Array Value)) (w : World) : Prop where
  box : BX W L w
  d : ∀ x, D = some x → w.ownsRow W.heap.size 61 7 (.slice x.1 n.dn x.2) n.dn (n.ds.flatMap DevV.cells)
  e : ∀ x, E = some x → w.ownsRow W.heap.size 66 4 (.slice x.1 n.ln x.2) n.ln (n.ls.flatMap LinkV.cells)
  z : ∀ x ∈ Z, BoxV w x.1 x.2 ∧ x.1 < w.heap.size ∧ W.heap.size ≤ x.1 ∧ (∀ y, D = some y → y.1.map (·.block) ≠ some x.1) ∧ (∀ y, E = some y → y.1.map (·.block) ≠ some x.1) ∧ ∀ y ∈ L, y.1 ≠ x.1
section
variable {W w w' : World} {L Z : List (Nat × Array Value)} {n : NetV} {D E : Option (Option Addr × Nat)}
theorem NB.start (h : BX W L w) : NB W L n none none [] w := ⟨h, fun x e => (by cases e), fun x e => (by cases e), fun x hx => (by cases hx)⟩
theorem NB.below (h : NB W L n D E Z w) (hb : Below w.heap.size w w') : NB W L n D E Z w' :=
  ⟨h.box.below hb, fun x e => own_below (h.d x e) hb, fun x e => own_below (h.e x e) hb, fun x hx => ⟨(h.z x hx).1.below hb (h.z x hx).2.1, Nat.lt_of_lt_of_le (h.z x hx).2.1 hb.size, (h.z x hx).2.2⟩⟩
theorem NB.dr (h : NB W L n D E Z w) : NB W L n D E Z w.drew := h.below (Below.refl _ _).drew
theorem NB.dlt (h : NB W L n D E Z w) {x : Option Addr × Nat} (e : D = some x) : ∀ j, x.1.map (·.block) = some j → j < w.heap.size := fun j hj => ((h.d x e).lt j (by rw [row_blk]; exact hj)).2
theorem NB.elt (h : NB W L n D E Z w) {x : Option Addr × Nat} (e : E = some x) : ∀ j, x.1.map (·.block) = some j → j < w.heap.size := fun j hj => ((h.e x e).lt j (by rw [row_blk]; exact hj)).2
theorem NB.al (h : NB W L n D E Z w) (vs : Array Value) (t : TypeId) : NB W L n D E ((w.heap.size, vs) :: Z) (w.alloc (.cells vs t)) := by
  have q := h.below ((Below.refl _ _).alloc (Nat.le_refl _) (.cells vs t))
  refine ⟨q.box, q.d, q.e, fun x hx => ?_⟩
  rcases List.mem_cons.1 hx with rfl | hx
  · exact ⟨BoxV.new _ _ _, by simp, h.box.bl.size, fun y e e2 => Nat.lt_irrefl _ (h.dlt e _ e2), fun y e e2 => Nat.lt_irrefl _ (h.elt e _ e2), fun y hy => Nat.ne_of_lt (h.box.bx y hy).2⟩
  · exact q.z x hx
theorem NB.dev {x : Option Addr × Nat} (h : NB W L n none E Z w) (hb : Below w.heap.size w w') (ho : w'.ownsRow w.heap.size 61 7 (.slice x.1 n.dn x.2) n.dn (n.ds.flatMap DevV.cells)) : NB W L n (some x) E Z w' := by
  have q := h.below hb
  refine ⟨q.box, fun y e => ?_, q.e, fun z hz => ⟨(q.z z hz).1, (q.z z hz).2.1, (q.z z hz).2.2.1, fun y e e2 => ?_, (q.z z hz).2.2.2.2⟩⟩
  · cases e; exact ho.mono h.box.bl.size
  · cases e
    have := (ho.lt _ (by rw [row_blk]; exact e2)).1
    have := (h.z z hz).2.1
    omega
theorem NB.link {x : Option Addr × Nat} (h : NB W L n D none Z w) (hb : Below w.heap.size w w') (ho : w'.ownsRow w.heap.size 66 4 (.slice x.1 n.ln x.2) n.ln (n.ls.flatMap LinkV.cells)) : NB W L n D (some x) Z w' := by
  have q := h.below hb
  refine ⟨q.box, q.d, fun y e => ?_, fun z hz => ⟨(q.z z hz).1, (q.z z hz).2.1, (q.z z hz).2.2.1, (q.z z hz).2.2.2.1, fun y e e2 => ?_, (q.z z hz).2.2.2.2.2⟩⟩
  · cases e; exact ho.mono h.box.bl.size
  · cases e
    have := (ho.lt _ (by rw [row_blk]; exact e2)).1
    have := (h.z z hz).2.1
    omega
theorem NB.set {N : Nat} {vs : Array Value} (h : NB W L n D E ((N, vs) :: Z) w) (j : Nat) (v : Value) : NB W L n D E [(N, vs.setIfInBounds j v)] (w.setCell ⟨N, j, none⟩ v) := by
  obtain ⟨h1, h2, h3, h4, h5, h6⟩ := h.z (N, vs) List.mem_cons_self
  refine ⟨⟨h.box.bl.setCell h3 v, fun x hx => ⟨(h.box.bx x hx).1.far _ _ (fun e => h6 x hx e.symm), by simpa [World.setCell] using (h.box.bx x hx).2⟩⟩, fun x e => own_setCell (h.d x e) (fun k hk e2 => h4 x e (by rw [row_blk] at hk; rw [hk]; exact congrArg some e2)) _, fun x e => own_setCell (h.e x e) (fun k hk e2 => h5 x e (by rw [row_blk] at hk; rw [hk]; exact congrArg some e2)) _, fun x hx => ?_⟩
  obtain rfl := List.mem_singleton.1 hx
  exact ⟨h1.set j v, by simpa [World.setCell] using h2, h3, h4, h5, h6⟩
theorem NB.leaf {N : Nat} {vs : Array Value} {a c : Option Addr} {b d : Nat} (h : NB W L n (some (a, b)) (some (c, d)) ((N, vs) :: Z) w) : ∃ N' w', N = N' ∧ w = w' ∧ NB W L n (some (a, b)) (some (c, d)) [(N', vs)] w' :=
  ⟨_, _, rfl, rfl, h.box, h.d, h.e, fun x hx => by obtain rfl := List.mem_singleton.1 hx; exact h.z _ List.mem_cons_self⟩
end
theorem cut_region5 {P : Program} {c : Code} {Q : Exit → Act → World → Prop} {a : Act} {w : World} (A : Nat → Option Addr → Nat → Option Addr → Nat → Act) (C : Nat → Option Addr → Nat → Option Addr → Nat → World → Prop) (h1 : Shut (∀ N x1 x2 x3 x4 w', C N x1 x2 x3 x4 w' → Q .normal (A N x1 x2 x3 x4) w') → Code.wp P c Q a w) (h2 : ∀ N x1 x2 x3 x4 w', C N x1 x2 x3 x4 w' → Q .normal (A N x1 x2 x3 x4) w') : Code.wp P c Q a w := h1 h2
theorem worldNew_bad (n : NetV) (W : World) (hn : NetAt W W.heap.size n) (hE : netE n.devs n.ls ≠ 0) :
    Calls Try.prog 6 #[n.val] W fun e W' => e = .returned (.tuple #[.pointer none, .int .i64 (netE n.devs n.ls)]) ∧ Below W.heap.size W W' := by
  have HNW := hide (fun (w' : World) (hb : Below W.heap.size W w') => stepNew_bad n w' (hn.below hb hb.size) hE)
  obtain ⟨E, hEE⟩ : ∃ E, netE n.devs n.ls = E := ⟨_, rfl⟩
  rw [hEE] at HNW hE ⊢
  clear hEE hn
  have e1 : (E == 0) = false := by simpa using hE
  have e2 : (E != 0) = true := by simpa using hE
  clear hE
  show Calls _ _ #[.agg #[.slice n.dA n.dn n.dc, .slice n.lA n.ln n.lc]] W _
  go_enter Try.func6, Try.ntmps6
  go_wp2_with fail
  have HB1 := hide (show Below W.heap.size W (W.alloc (.cells #[.slice n.dA n.dn n.dc, .slice n.lA n.ln n.lc] 25)) from (Below.refl _ _).alloc (Nat.le_refl _) _)
  generalize World.alloc W _ = W1 at *
  refine (HNW.out W1 HB1.out).mono ?_
  rintro e w2 ⟨rfl, hb⟩
  have HB2 := hide (HB1.out.trans (hb.mono HB1.out.size))
  clear hb HNW
  go_wp2
  go_ret2
  exact ⟨rfl, HB2.out⟩
theorem worldNew_ok2 (n : NetV) (W0 W : World) (h0 : W0.heap.size ≤ W.heap.size) (hn : NetAt W W.heap.size n) (hnn : NetOn0 (fun j => j < W0.heap.size) n) (hE : netE n.devs n.ls = 0) :
    Calls Try.prog 6 #[n.val] W fun e W' => ∃ g F no gm nm f o b km, e = .returned (.tuple #[.pointer (some ⟨g, 0, none⟩), .int .i64 0]) ∧ WorldAt W0 W' F g no gm nm f o b km none 0 ⟨MemS.empty, []⟩ 0 ∧ (no.devs = n.devs ∧ no.ls = n.ls ∧ nm.devs = n.devs ∧ nm.ls = n.ls) ∧ Below W.heap.size W W' ∧ (∀ j, F j → W.heap.size ≤ j) ∧ no.ds = n.ds ∧ (∀ a, no.dA = some a → W.heap.size ≤ a.block) ∧ (∀ a, no.lA = some a → W.heap.size ≤ a.block) ∧ NetOn W.heap.size nm := by
  have hmm := @run_makeMap Try.prog
  have hdl := hn.dlen
  have hll := hn.llen
  have hdn : n.dn ≤ 10 := by rw [← devs_len hn]; exact (netE_ok hE).dl
  have hln : n.ln ≤ 15 := by have h1 := (netE_ok hE).ll; rw [hn.llen] at h1; exact h1
  have HNA := hide (fun (w' : World) (hb : Below W.heap.size W w') => show NetAt w' w'.heap.size n from hn.below hb hb.size)
  have HNW := hide (fun (w' : World) (hb : Below W.heap.size W w') => stepNew_ok2 n w' (hn.below hb hb.size) hE)
  have HNN := hide hnn
  have HDL := hide hdl
  have HLL := hide hll
  clear hn hE hnn hdl hll
  show Calls _ _ #[.agg #[.slice n.dA n.dn n.dc, .slice n.lA n.ln n.lc]] W _
  go_enter Try.func6, Try.ntmps6
  go_wp2_with fail
  have HX1 := hide (((BX.none W).al #[.slice n.dA n.dn n.dc, .slice n.lA n.ln n.lc] 25).done)
  generalize World.alloc W _ = W1 at *
  refine (HNW.out W1 HX1.out.bl).mono ?_
  clear HNW
  rintro e w2 ⟨gm, f, o, b, nm, rfl, hM, hd, hl, hs, hb, hon⟩
  have HX2 := hide (HX1.out.below hb)
  have HM := hide hM
  have HDD := hide (And.intro hd hl)
  have HS := hide (And.intro HX1.out.bl.size hs)
  have HON := hide hon
  clear hM hd hl hs hb hon HX1
  obtain ⟨c0, c1⟩ : w2.cell? ⟨W.heap.size, 0, none⟩ = some (.slice n.dA n.dn n.dc) ∧ w2.cell? ⟨W.heap.size, 1, none⟩ = some (.slice n.lA n.ln n.lc) := ⟨(HX2.out.get 0 rfl).1 0 _ rfl, (HX2.out.get 0 rfl).1 1 _ rfl⟩
  have n1 := Nat.ne_of_lt (HX2.out.bx _ (List.mem_of_getElem? (i := 0) rfl)).2
  have n2 := Ne.symm n1
  go_wp2_with fail
  have HXX := hide HX2.out
  have HX0 := hide (show BX w2 [] w2 from BX.none w2)
  have HC0 := hide (And.intro c0 c1)
  have HCD := hide (fun (w' : World) (hb : Below w2.heap.size w2 w') => cloneDev_walk n.ds n.dA n.dn n.dc w' (by omega) (HNA.out _ (HX2.out.bl.trans (hb.mono HX2.out.bl.size))).ds)
  have HCL := hide (fun (w' : World) (hb : Below w2.heap.size w2 w') => cloneLink_walk n.ls n.lA n.ln n.lc w' (by omega) (HNA.out _ (HX2.out.bl.trans (hb.mono HX2.out.bl.size))).ls)
  have HG := hide (NB.start (n := n) (show BX w2 [(W.heap.size, #[.slice n.dA n.dn n.dc, .slice n.lA n.ln n.lc])] w2 from ⟨Below.refl _ _, HX2.out.bx⟩))
  -- R4
  apply cut_region5 (C := fun N dA dc lA lc w' => NB w2 [(W.heap.size, #[.slice n.dA n.dn n.dc, .slice n.lA n.ln n.lc])] n (some (dA, dc)) (some (lA, lc)) [(N, #[.slice dA n.dn dc, .slice lA n.ln lc])] w')
  · intro HK
    go_region_held3 (fun w' => w'.cell? ⟨W.heap.size, 0, none⟩ = some (.slice n.dA n.dn n.dc) ∧ w'.cell? ⟨W.heap.size, 1, none⟩ = some (.slice n.lA n.ln n.lc)) (go_keep) (first | (go_at_call 22; (first | refine (HCD.out _ (HG.out.dr.box.bl)).mono ?_ | refine (HCD.out _ (HG.out.al _ _).dr.box.bl).mono ?_ | refine (HCD.out _ HG.out.box.bl).mono ?_ | refine (HCD.out _ (HG.out.al _ _).box.bl).mono ?_); rintro e wp ⟨v, rfl, hown, hb⟩; obtain ⟨dA, dc, rfl, _, _, _⟩ := SlAt.of_own DevV.len hown HDL.out; (first | have HG := hide (HG.out.dr.dev (x := (dA, dc)) hb hown) | have HG := hide ((HG.out.al _ _).dr.dev (x := (dA, dc)) hb hown) | have HG := hide (HG.out.dev (x := (dA, dc)) hb hown) | have HG := hide ((HG.out.al _ _).dev (x := (dA, dc)) hb hown)); obtain ⟨c0, c1⟩ : _ ∧ _ := ⟨(HG.out.box.get 0 rfl).1 0 _ rfl, (HG.out.box.get 0 rfl).1 1 _ rfl⟩; have n1 := Nat.ne_of_lt (HG.out.box.bx _ (List.mem_of_getElem? (i := 0) rfl)).2; have n2 := Ne.symm n1; (try obtain ⟨z0, z1, f0, f1⟩ : _ ∧ _ ∧ _ ∧ _ := ⟨(HG.out.z _ List.mem_cons_self).1.1 0 _ rfl, (HG.out.z _ List.mem_cons_self).1.1 1 _ rfl, (HG.out.z _ List.mem_cons_self).1.2 0, (HG.out.z _ List.mem_cons_self).1.2 1⟩)) | (go_at_call 17; (first | refine (HCL.out _ (HG.out.dr.box.bl)).mono ?_ | refine (HCL.out _ (HG.out.al _ _).dr.box.bl).mono ?_ | refine (HCL.out _ HG.out.box.bl).mono ?_ | refine (HCL.out _ (HG.out.al _ _).box.bl).mono ?_); rintro e wp ⟨v, rfl, hown, hb⟩; obtain ⟨lA, lc, rfl, _, _, _⟩ := SlAt.of_own LinkV.len hown HLL.out; (first | have HG := hide (HG.out.dr.link (x := (lA, lc)) hb hown) | have HG := hide ((HG.out.al _ _).dr.link (x := (lA, lc)) hb hown) | have HG := hide (HG.out.link (x := (lA, lc)) hb hown) | have HG := hide ((HG.out.al _ _).link (x := (lA, lc)) hb hown)); obtain ⟨c0, c1⟩ : _ ∧ _ := ⟨(HG.out.box.get 0 rfl).1 0 _ rfl, (HG.out.box.get 0 rfl).1 1 _ rfl⟩; have n1 := Nat.ne_of_lt (HG.out.box.bx _ (List.mem_of_getElem? (i := 0) rfl)).2; have n2 := Ne.symm n1; (try obtain ⟨z0, z1, f0, f1⟩ : _ ∧ _ ∧ _ ∧ _ := ⟨(HG.out.z _ List.mem_cons_self).1.1 0 _ rfl, (HG.out.z _ List.mem_cons_self).1.1 1 _ rfl, (HG.out.z _ List.mem_cons_self).1.2 0, (HG.out.z _ List.mem_cons_self).1.2 1⟩)))
    all_goals (first | (obtain ⟨N', w', e1, e2, q⟩ := (HG.out.al #[.slice dA n.dn dc, .slice lA n.ln lc] 25).leaf; rw [e2, e1]; exact HK.out _ _ _ _ _ _ q) | (obtain ⟨N', w', e1, e2, q⟩ := ((HG.out.set 0 (.slice dA n.dn dc)).set 1 (.slice lA n.ln lc)).leaf; rw [e2, e1]; exact HK.out _ _ _ _ _ _ q))
  clear HG HCD HCL c0 c1 n1 n2 HX0 HC0
  intro N dA dc lA lc w4 hNB
  have HNB := hide hNB
  obtain ⟨z0, z1⟩ : w4.cell? ⟨N, 0, none⟩ = some (.slice dA n.dn dc) ∧ w4.cell? ⟨N, 1, none⟩ = some (.slice lA n.ln lc) := ⟨(hNB.z _ List.mem_cons_self).1.1 0 _ rfl, (hNB.z _ List.mem_cons_self).1.1 1 _ rfl⟩
  clear hNB
  have HB4 := hide (HX2.out.bl.trans (HNB.out.box.bl.mono HX2.out.bl.size))
  have HX2W := hide (show W.heap.size ≤ W1.heap.size from HS.out.1)
  have HAL := hide (show (∀ a, dA = some a → W.heap.size ≤ a.block) ∧ (∀ a, lA = some a → W.heap.size ≤ a.block) from by
    have hs2 := HX2.out.bl.size
    have hd0 := HNB.out.d _ rfl
    have he0 := HNB.out.e _ rfl
    exact ⟨fun a e => by have := (hd0.lt a.block (by rw [row_blk]; show dA.map _ = _; rw [e]; rfl)).1; omega, fun a e => by have := (he0.lt a.block (by rw [row_blk]; show lA.map _ = _; rw [e]; rfl)).1; omega⟩)
  have HWM := hide (show WorldAt W0 ((w4.alloc (.map #[] 0)).alloc (.cells #[.slice dA n.dn dc, .slice lA n.ln lc, .pointer (some ⟨gm, 0, none⟩), .slice none 0 0, .map (some w4.heap.size)] 78)) (fun j => W.heap.size ≤ j ∧ j < w4.heap.size + 2) (w4.heap.size + 1) ⟨dA, n.dn, dc, n.ds, lA, n.ln, lc, n.ls⟩ gm nm f o b w4.heap.size none 0 ⟨MemS.empty, []⟩ 0 from by
    have hs4 := HNB.out.box.bl.size
    have hs2 := HX2.out.bl.size
    have hd0 := HNB.out.d _ rfl
    have he0 := HNB.out.e _ rfl
    obtain ⟨_, _, e1, hcd, hsd, had⟩ := SlAt.of_own DevV.len hd0 HDL.out
    cases e1
    obtain ⟨_, _, e1, hcl, hsl, hal⟩ := SlAt.of_own LinkV.len he0 HLL.out
    cases e1
    have hnb := HNA.out _ HB4.out
    have hm4 := HM.out.below HNB.out.box.bl
    have h3 : ∀ j, Is3 f o b j → j < w2.heap.size := fun j e => by
      have := HM.out.flt
      have := HM.out.olt
      have := HM.out.blt
      rcases e with e | e | e <;> omega
    have hsz := HS.out
    have hno : NetAt w4 w4.heap.size ⟨dA, n.dn, dc, n.ds, lA, n.ln, lc, n.ls⟩ := ⟨hsd, hnb.dok, hsl, hnb.lok, ⟨hcd, own_cap hd0⟩, ⟨hcl, own_cap he0⟩⟩
    refine world_made (by omega) (by omega) hno hm4 ⟨by omega, by omega, by omega, by omega⟩ ⟨fun z a e => ?_, fun z a e => ?_, fun x hx => ?_⟩ ?_ _
    · have h1 := had a e
      have h2 := (hd0.lt a.block (by rw [row_blk]; show dA.map _ = _; rw [show dA = some a from e]; rfl)).2
      exact Or.inr ⟨by omega, h2, fun e3 => by have := h3 _ e3; omega⟩
    · have h1 := hal a e
      have h2 := (he0.lt a.block (by rw [row_blk]; show lA.map _ = _; rw [show lA = some a from e]; rfl)).2
      exact Or.inr ⟨by omega, h2, fun e3 => by have := h3 _ e3; omega⟩
    · exact (HNN.out.o x hx).weak (fun j e => Or.inl e)
    · have q1 := (HM.out.net.on HON.out)
      have q2 := HM.out.net.off (q := Is3 f o b) (fun j hj a ha => HM.out.no_cell hj a ha)
      exact (q1.and q2).weak (fun j e => Or.inr ⟨by omega, by omega, e.2⟩))
  have HBB := hide (show Below W.heap.size W ((w4.alloc (.map #[] 0)).alloc (.cells #[.slice dA n.dn dc, .slice lA n.ln lc, .pointer (some ⟨gm, 0, none⟩), .slice none 0 0, .map (some w4.heap.size)] 78)) from (HB4.out.alloc HB4.out.size _).alloc (by have := HB4.out.size; simp; omega) _)
  go_wp2
  go_ret2
  exact ⟨_, _, _, _, _, _, _, _, _, rfl, HWM.out, ⟨rfl, rfl, HDD.out.1, HDD.out.2⟩, HBB.out, fun j e => e.1, rfl, HAL.out.1, HAL.out.2, HON.out.less HX2W.out⟩
theorem worldNew_ok (n : NetV) (W0 W : World) (h0 : W0.heap.size ≤ W.heap.size) (hn : NetAt W W.heap.size n) (hnn : NetOn0 (fun j => j < W0.heap.size) n) (hE : netE n.devs n.ls = 0) :
    Calls Try.prog 6 #[n.val] W fun e W' => ∃ g F no gm nm f o b km, e = .returned (.tuple #[.pointer (some ⟨g, 0, none⟩), .int .i64 0]) ∧ WorldAt W0 W' F g no gm nm f o b km none 0 ⟨MemS.empty, []⟩ 0 ∧ (no.devs = n.devs ∧ no.ls = n.ls ∧ nm.devs = n.devs ∧ nm.ls = n.ls) ∧ Below W.heap.size W W' ∧ ∀ j, F j → W.heap.size ≤ j := by
  refine (worldNew_ok2 n W0 W h0 hn hnn hE).mono ?_
  rintro e W' ⟨g, F, no, gm, nm, f, o, b, km, he, hw, h4, hb, hF, _⟩
  exact ⟨g, F, no, gm, nm, f, o, b, km, he, hw, h4, hb, hF⟩
end Go.Proofs.Ytifkacnoiocebaa
namespace Go.Proofs.Ytifkacnoiocebaa
open Go.RowKit
theorem hand_as (g : Nat) (n : NetV) (f o b : Nat) (M : MemS) (k : Nat) (x : ActV) (S : HandS) {ds : List Dev} {ls : List LinkV} (hd : n.devs = ds) (hl : n.ls = ls) (hE : netE ds ls = 0) (hx : x.ok) (hk : k < 1000000) (hS : handS ds ls M x.dev x.port x.p x.ch = S) (W : World) (hM : MemAt W g n f o b M k) :
    Calls Try.prog 32 #[.pointer (some ⟨g, 0, none⟩), .agg #[.int .i64 x.dev, .int .i64 x.port], .agg #[.int .i64 x.p.src, .int .i64 x.p.dst, .int .i64 x.p.sport, .int .i64 x.p.dport], .int .i64 x.ch] W fun e W' =>
      e = .returned S.val ∧ MemAt W' g n f o b (M.learn S.kn) (k + 1) ∧ Near (Is3 f o b) W.heap.size W W' := by
  subst hd hl hS
  exact hand_walk g n f o b M k x.dev x.port x.p x.ch W hM hE hx.d hx.y hx.p hx.c hk
theorem forget_as (g : Nat) (n : NetV) (f o b : Nat) (M : MemS) (k : Nat) (x : ActV) (R : Int) (M' : MemS) {ds : List Dev} (hd : n.devs = ds) (hn : n.dn ≤ 10) (hx : x.ok) (h1 : (forgetS ds M x.dev x.p x.ch).1 = R) (h2 : (forgetS ds M x.dev x.p x.ch).2 = M') (W : World) (hM : MemAt W g n f o b M k) :
    Calls Try.prog 34 #[.pointer (some ⟨g, 0, none⟩), .int .i64 x.dev, .agg #[.int .i64 x.p.src, .int .i64 x.p.dst, .int .i64 x.p.sport, .int .i64 x.p.dport], .int .i64 x.ch] W fun e W' =>
      e = .returned (.int .i64 R) ∧ MemAt W' g n f o b M' k ∧ Near (Is3 f o b) W.heap.size W W' := by
  subst hd h1 h2
  exact forget_walk g n f o b M k x.dev x.p x.ch W hM hn hx.d hx.p hx.c
theorem act_cells {w : World} {B b o n k : Nat} {l : List ActV} {x : ActV} (h : SlAt ActV.cells 8 w B (some ⟨b, o, none⟩) n l) (hx : l[k]? = some x) : w.cell? ⟨b, o + k * 8, none⟩ = some (.int .i64 x.kind) ∧ w.cell? ⟨b, o + k * 8 + 1, none⟩ = some (.int .i64 x.dev) ∧ w.cell? ⟨b, o + k * 8 + 2, none⟩ = some (.int .i64 x.port) ∧ w.cell? ⟨b, o + k * 8 + 3, none⟩ = some (.int .i64 x.p.src) ∧ w.cell? ⟨b, o + k * 8 + 4, none⟩ = some (.int .i64 x.p.dst) ∧ w.cell? ⟨b, o + k * 8 + 5, none⟩ = some (.int .i64 x.p.sport) ∧ w.cell? ⟨b, o + k * 8 + 6, none⟩ = some (.int .i64 x.p.dport) ∧ w.cell? ⟨b, o + k * 8 + 7, none⟩ = some (.int .i64 x.ch) := by
  obtain ⟨_, hg⟩ := h.get hx
  exact ⟨hg 0 _ rfl, hg 1 _ rfl, hg 2 _ rfl, hg 3 _ rfl, hg 4 _ rfl, hg 5 _ rfl, hg 6 _ rfl, hg 7 _ rfl⟩
end Go.Proofs.Ytifkacnoiocebaa
