/- A part of the proof: MindD, MindE, MindW, LawTwo. -/
import Derived.Test.YthaiffjalgionaaWp24
import Derived.Deep.DeepCutAuto
import Derived.Deep.CutBlock
import Derived.Shelf.SlMaps.Clone

set_option linter.unusedVariables false
set_option linter.unusedSimpArgs false
namespace Go.Proofs.Ythaiffjalgionaa
open Go.RowKit

set_option maxRecDepth 100000 in
set_option maxHeartbeats 16000000 in
theorem mindForget_bad (g : Nat) (n : NetV) (A : Option Addr) (c : Nat) (L : List FactV) (i : Int) (p : P4) (q : Int) (W : World) (hM : MindAt W g n A c L) (hn : n.dn ≤ 10) (hi : i64ok i) (hq : i64ok q) (hL : L.length ≤ 1000)
    (hno : (forgetM n.devs L i p q).1 ≠ 0) :
    Calls Try.prog 16 #[.pointer (some ⟨g, 0, none⟩), .int .i64 i, .agg #[.int .i64 p.src, .int .i64 p.dst, .int .i64 p.sport, .int .i64 p.dport], .int .i64 q] W fun e W' => e = .returned (.int .i64 (forgetM n.devs L i p q).1) ∧ (forgetM n.devs L i p q).2 = L ∧ Below W.heap.size W W' := by
  have HMW := hide hM
  have HMM := hide (fun (w' : World) (hb : Below W.heap.size W w') => hM.below hb)
  have hdl := devs_len hM.net
  have hgs := hM.glt
  have HDL := hide hdl
  have HLL := hide hL
  clear hM hL
  obtain ⟨i1, i2⟩ := hi
  obtain ⟨SR, hSR⟩ : ∃ SR, forgetM n.devs L i p q = SR := ⟨_, rfl⟩
  have HSR := hide hSR
  rw [hSR] at hno ⊢
  have HNO := hide hno
  clear hSR hno
  go_enter Try.func16, Try.ntmps16
  go_wp2
  generalize hG : World.alloc (World.alloc (World.alloc W _) _) _ = W1
  have HX1 := hide (show BX W [(W.heap.size, #[.int .i64 i]), (W.heap.size + 1, #[.int .i64 p.src, .int .i64 p.dst, .int .i64 p.sport, .int .i64 p.dport]), (W.heap.size + 1 + 1, #[.int .i64 q])] W1 from by
    have e := boxesV (B := W1.heap.size) [(#[.int .i64 i], 3), (#[.int .i64 p.src, .int .i64 p.dst, .int .i64 p.sport, .int .i64 p.dport], 39), (#[.int .i64 q], 3)] W (W' := W1) (by rw [← hG]; exact Below.refl _ _)
    have hs : W1.heap.size = W.heap.size + 3 := by rw [← hG]; simp
    refine ⟨e.2 (by omega), fun x hx => ?_⟩
    simp only [List.mem_cons, List.not_mem_nil, or_false] at hx
    rcases hx with rfl | rfl | rfl
    · exact ⟨e.1 0 _ _ rfl (by omega), by simp; omega⟩
    · exact ⟨e.1 1 _ _ rfl (by omega), by simp; omega⟩
    · exact ⟨e.1 2 _ _ rfl (by omega), by simp; omega⟩)
  clear hG
  have i3 : (0 : Int) ≤ (n.dn : Int) := by omega
  have i4 : (n.dn : Int) ≤ 10 := by omega
  cases hi1 : inR i 0 ((n.dn : Int) - 1)
  case false =>
    have HS := hide (show SR = (4, L) from by
      rw [← HSR.out]
      unfold forgetM
      rw [HDL.out, if_pos hi1])
    refine wp_region_abs (by kernel_rfl) (by kernel_rfl) ?_
    intro T hT gt hg1 hgi
    have HGT := hide hg1
    have HGI := hide hgi
    clear hg1 hgi
    have k0 : ∀ t, (gt t).cell? ⟨W.heap.size, 0, none⟩ = some (.int .i64 i) := fun t => ((HX1.out.below (HGT.out t)).get 0 rfl).1 0 _ rfl
    have k2 : ∀ t, (gt t).cell? ⟨g, 0, none⟩ = some (.slice n.dA n.dn n.dc) := fun t => (HMM.out _ (HX1.out.below (HGT.out t)).bl).c0
    have hc1 := hide (fun t => inR_is (gt t) hi1)
    repeat (go_big_quiet_step ((go_at_call 19; exact inAbsSame (hc1.out _))))
    refine wpQuiet_nil ?_
    intro _ hw'
    obtain ⟨t, rfl⟩ := hw'
    have HX2 := hide (HX1.out.below (HGT.out t))
    generalize gt t = w2 at *
    clear HGT HGI k0 k2 hc1
    go_wp2
    go_ret
    exact ⟨ret_i64' (by rw [HS.out]), by rw [HS.out], HX2.out.bl⟩
  obtain ⟨i', rfl⟩ : ∃ i' : Nat, i = (i' : Int) := ⟨i.toNat, by simp only [inR, Bool.and_eq_true, decide_eq_true_eq] at hi1; omega⟩
  have hil : i' < n.dn := by simp only [inR, Bool.and_eq_true, decide_eq_true_eq] at hi1; omega
  obtain ⟨r, hr⟩ : ∃ r, n.ds[i']? = some r := ⟨_, List.getElem?_eq_getElem (by rw [HMW.out.net.dlen]; exact hil)⟩
  have hrd : n.devs[i']? = some r.dev := by simp [NetV.devs, hr]
  have HRR := hide hr
  have HRD := hide hrd
  clear hr hrd
  obtain ⟨b, o, hdA, _, _⟩ := HMW.out.net.ds.2 (by omega)
  have j1 : (0 : Int) ≤ (i' : Int) := by omega
  have j2 : (i' : Int) < (n.dn : Int) := by omega
  have HS := hide (show SR = (if inR r.kind 3 5 = false then (4, L) else if idxF (fun x : FactV => x.d == (i' : Int) && ((r.kind == 4 && x.n == q) || (r.kind != 4 && eq4 x.p p))) L < 0 then (7, L) else (0, L.take (idxF (fun x : FactV => x.d == (i' : Int) && ((r.kind == 4 && x.n == q) || (r.kind != 4 && eq4 x.p p))) L).toNat ++ L.drop ((idxF (fun x : FactV => x.d == (i' : Int) && ((r.kind == 4 && x.n == q) || (r.kind != 4 && eq4 x.p p))) L).toNat + 1))) from by
    rw [← HSR.out]
    unfold forgetM
    rw [HDL.out, if_neg (by rw [hi1]; simp), Int.toNat_natCast, HRD.out]
    rfl)
  clear HSR
  refine wp_region_abs (by kernel_rfl) (by kernel_rfl) ?_
  intro T hT gt hg1 hgi
  have HGT := hide hg1
  have HGI := hide hgi
  clear hg1 hgi
  have k0 : ∀ t, (gt t).cell? ⟨W.heap.size, 0, none⟩ = some (.int .i64 (i' : Int)) := fun t => ((HX1.out.below (HGT.out t)).get 0 rfl).1 0 _ rfl
  have k2 : ∀ t, (gt t).cell? ⟨g, 0, none⟩ = some (.slice (some ⟨b, o, none⟩) n.dn n.dc) := fun t => by have q := (HMM.out _ (HX1.out.below (HGT.out t)).bl).c0; rw [hdA] at q; exact q
  have hc1 := hide (fun t => inR_is (gt t) hi1)
  repeat (go_big_quiet_step ((go_at_call 19; exact inAbsSame (hc1.out _))))
  refine wpQuiet_nil ?_
  intro _ hw'
  obtain ⟨t, rfl⟩ := hw'
  have HX2 := hide (HX1.out.below (HGT.out t))
  generalize gt t = w2 at *
  clear HGT HGI k0 k2 hc1 hi1
  go_wp2_with fail
  -- R3
  refine wp_region_E (fun w' => w'.cell? ⟨W.heap.size, 0, none⟩ = some (.int .i64 (i' : Int)) ∧ w'.cell? ⟨g, 0, none⟩ = some (.slice (some ⟨b, o, none⟩) n.dn n.dc) ∧ w'.cell? ⟨b, o + i' * 7 + 1, none⟩ = some (.int .i64 r.kind)) 10 (by kernel_rfl) ⟨(HX2.out.d.get 0 rfl).1 0 _ rfl, by have q := (HMM.out _ HX2.out.d.bl).c0; rw [hdA] at q; exact q, (dev_get (n := n.dn) (by have q := (HMM.out _ HX2.out.d.bl).net.ds; rw [hdA] at q; exact q) HRR.out).2.2.1⟩ (fun hS inv => ?_)
  refine wpAnyE_pure (i := 0) (v := ?_) rfl (by kernel_rfl) (by kernel_rfl) (by kernel_rfl) (by kernel_rfl) (fun _ _ _ h => h) inv (Or.inl ⟨by rfl, ?_⟩) (fun _ => hS) (fun inv2 => ?_)
  rotate_left
  · intro w _
    go_simp
    try with_reducible rfl
  clear inv
  have inv := inv2
  clear inv2
  try simp only [Act.put, nrmA, nrmB, nrmC]
  refine wpAnyE_pure (i := 1) (v := ?_) rfl (by kernel_rfl) (by kernel_rfl) (by kernel_rfl) (by kernel_rfl) (fun _ _ _ h => h) inv (Or.inl ⟨by rfl, ?_⟩) (fun _ => hS) (fun inv2 => ?_)
  rotate_left
  · intro w _
    go_simp
    try with_reducible rfl
  clear inv
  have inv := inv2
  clear inv2
  try simp only [Act.put, nrmA, nrmB, nrmC]
  refine wpAnyE_pure (i := 2) (v := ?_) rfl (by kernel_rfl) (by kernel_rfl) (by kernel_rfl) (by kernel_rfl) (fun _ _ _ h => h) inv (Or.inl ⟨by rfl, ?_⟩) (fun _ => hS) (fun inv2 => ?_)
  rotate_left
  · intro w _
    go_simp
    try with_reducible rfl
  clear inv
  have inv := inv2
  clear inv2
  try simp only [Act.put, nrmA, nrmB, nrmC]
  refine wpAnyE_pure (i := 3) (v := ?_) rfl (by kernel_rfl) (by kernel_rfl) (by kernel_rfl) (by kernel_rfl) (fun _ _ _ h => h) inv (Or.inl ⟨by rfl, ?_⟩) (fun _ => hS) (fun inv2 => ?_)
  rotate_left
  · intro w _
    go_simp
    try with_reducible rfl
  clear inv
  have inv := inv2
  clear inv2
  try simp only [Act.put, nrmA, nrmB, nrmC]
  refine wpAnyE_load (i := 4) (v := ?_) [10] rfl (by kernel_rfl) (by kernel_rfl) (by kernel_rfl) (by kernel_rfl) (fun _ _ _ h => h) inv (Or.inl ⟨by rfl, ?_⟩) hS (fun inv2 => ?_)
  rotate_left
  · intro w hSw
    obtain ⟨s0, s1, s2⟩ := hSw
    go_simp
    try with_reducible rfl
  clear inv
  have inv := inv2
  clear inv2
  try simp only [Act.put, nrmA, nrmB, nrmC]
  refine wpAnyE_load (i := 5) (v := ?_) [10] rfl (by kernel_rfl) (by kernel_rfl) (by kernel_rfl) (by kernel_rfl) (fun _ _ _ h => h) inv (Or.inl ⟨by rfl, ?_⟩) hS (fun inv2 => ?_)
  rotate_left
  · intro w hSw
    obtain ⟨s0, s1, s2⟩ := hSw
    go_simp
    try with_reducible rfl
  clear inv
  have inv := inv2
  clear inv2
  try simp only [Act.put, nrmA, nrmB, nrmC]
  refine wpAnyE_pure (i := 6) (v := ?_) rfl (by kernel_rfl) (by kernel_rfl) (by kernel_rfl) (by kernel_rfl) (fun _ _ _ h => h) inv (Or.inl ⟨by rfl, ?_⟩) (fun _ => hS) (fun inv2 => ?_)
  rotate_left
  · intro w _
    go_simp
    try with_reducible rfl
  clear inv
  have inv := inv2
  clear inv2
  try simp only [Act.put, nrmA, nrmB, nrmC]
  refine wpAnyE_pure (i := 7) (v := ?_) rfl (by kernel_rfl) (by kernel_rfl) (by kernel_rfl) (by kernel_rfl) (fun _ _ _ h => h) inv (Or.inl ⟨by rfl, ?_⟩) (fun _ => hS) (fun inv2 => ?_)
  rotate_left
  · intro w _
    go_simp
    try with_reducible rfl
  clear inv
  have inv := inv2
  clear inv2
  try simp only [Act.put, nrmA, nrmB, nrmC]
  refine wpAnyE_load (i := 8) (v := ?_) [10] rfl (by kernel_rfl) (by kernel_rfl) (by kernel_rfl) (by kernel_rfl) (fun _ _ _ h => h) inv (Or.inl ⟨by rfl, ?_⟩) hS (fun inv2 => ?_)
  rotate_left
  · intro w hSw
    obtain ⟨s0, s1, s2⟩ := hSw
    go_simp
    try with_reducible rfl
  clear inv
  have inv := inv2
  clear inv2
  try simp only [Act.put, nrmA, nrmB, nrmC]
  -- R3B
  refine wpAnyE_one (i := 9) rfl (by kernel_rfl) inv (fun K hK => ?_)
  go_simp
  have HN3 := hide (HX2.out.al #[.int .i64 0] 3).d
  refine hK.out _ _ (fun _ => ⟨(HN3.out.box.get 0 rfl).1 0 _ rfl, by have q := (HMM.out _ HN3.out.box.bl).c0; rw [hdA] at q; exact q, (dev_get (n := n.dn) (by have q := (HMM.out _ HN3.out.box.bl).net.ds; rw [hdA] at q; exact q) HRR.out).2.2.1⟩) (fun inv2 => ?_)
  clear hK K hS
  clear inv
  have inv := inv2
  clear inv2
  try simp only [Act.put, nrmA, nrmB, nrmC]
  -- R3C
  refine wpAnyE_late (i := 10) rfl (by kernel_rfl) inv (by kernel_rfl) (fun K hK => ?_)
  go_simp
  refine hK.out _ _ (fun inv2 => ?_)
  clear hK K
  clear inv
  have inv := inv2
  clear inv2
  try simp only [Act.put, nrmA, nrmB, nrmC]
  refine wpAnyE_done (by kernel_rfl) ?_ _
  clear inv
  have HX4 := hide (HX2.out.al #[.int .i64 r.kind] 3).done.d
  have hNK : W.heap.size ≤ w2.heap.size := HX2.out.bl.size
  obtain ⟨K0, hK0⟩ : ∃ K0, w2.heap.size = K0 := ⟨_, rfl⟩
  rw [hK0] at HX4 hNK
  rw [hK0]
  clear hK0 HN3 HX1 HX2
  generalize World.drew _ = w4 at *
  have k9 : w4.cell? ⟨K0, 0, none⟩ = some (.int .i64 r.kind) := (HX4.out.get 0 rfl).1 0 _ rfl
  cases hk3 : inR r.kind 3 5
  case false =>
    have hc1 := hide (fun w => inR_is w hk3)
    have HS2 := hide (show SR = (4, L) from by rw [HS.out, if_pos hk3])
    clear HS
    go_wp2_with (go_at_call 19; refine (hc1.out _).mono ?_; rintro e wq ⟨rfl, rfl⟩)
    go_ret
    exact ⟨ret_i64' (by rw [HS2.out]), by rw [HS2.out], HX4.out.bl⟩
  -- R6
  have hc1 := hide (fun w => inR_is w hk3)
  have HS2 := hide (HS.out.trans (if_neg (by rw [hk3]; simp)))
  clear HS hk3
  have hm8 : L.length ≤ 9223372036854775807 := by have := HLL.out; omega
  have HFW := hide (fun (w' : World) (h : BX W [(K0, #[.int .i64 r.kind]), (W.heap.size, #[.int .i64 (i' : Int)]), (W.heap.size + 1, #[.int .i64 p.src, .int .i64 p.dst, .int .i64 p.sport, .int .i64 p.dport]), (W.heap.size + 1 + 1, #[.int .i64 q])] w') => find_walk g A L.length c 80 #[.pointer (some ⟨W.heap.size, 0, none⟩), .pointer (some ⟨K0, 0, none⟩), .pointer (some ⟨W.heap.size + 1 + 1, 0, none⟩), .pointer (some ⟨W.heap.size + 1, 0, none⟩)] (fun x => x.d == (i' : Int) && ((r.kind == 4 && x.n == q) || (r.kind != 4 && eq4 x.p p))) L w' hm8 (HMM.out _ h.bl).c2 (HMM.out _ h.bl).sl mcf_enters (hide (fun x w _ hb => mcf_walk x _ _ _ _ (i' : Int) r.kind q p w ((h.below hb).get 1 rfl) ((h.below hb).get 0 rfl) ((h.below hb).get 3 rfl) ((h.below hb).get 2 rfl))))
  have hfc := idxF_cases (fun x : FactV => x.d == (i' : Int) && ((r.kind == 4 && x.n == q) || (r.kind != 4 && eq4 x.p p))) L
  generalize idxF (fun x : FactV => x.d == (i' : Int) && ((r.kind == 4 && x.n == q) || (r.kind != 4 && eq4 x.p p))) L = IX at *
  go_wp2_with (go_at_call 19; refine (hc1.out _).mono ?_; rintro e wq ⟨rfl, rfl⟩)
  -- R6B
  refine (HFW.out _ HX4.out).mono ?_
  rintro e w10 ⟨rfl, hb⟩
  have HX10 := hide (HX4.out.below hb)
  clear hb HFW
  rcases hfc with ⟨k, f, rfl, hkl, hLk, _, _⟩ | ⟨rfl, _⟩
  · exact absurd (by rw [HS2.out, if_neg (by omega)]) HNO.out
  have HS3 := hide (HS2.out.trans (if_pos (by omega)))
  clear HS2
  -- R7
  go_wp2
  go_ret
  exact ⟨ret_i64' (by rw [HS3.out]), by rw [HS3.out], HX10.out.bl⟩
end Go.Proofs.Ythaiffjalgionaa

set_option linter.unusedVariables false
set_option linter.unusedSimpArgs false
namespace Go.Proofs.Ythaiffjalgionaa
open Go.RowKit

theorem mind_cut {W w w5 w6 : World} {g : Nat} {n : NetV} {A A6 : Option Addr} {c c6 NL : Nat} {L L' : List FactV} {v5 : Value} (hNL : L'.length = NL) (hM : MindAt W g n A c L) (hb : Below W.heap.size W w) (hg5 : w.grownBy w5 none) (hat5 : v5.ownBlock = none ∨ v5.ownBlock = some w.heap.size) (hg6 : w5.grownBy w6 v5.ownBlock)
    (hown6 : w6.ownsRow (g + 1) 141 6 (.slice A6 NL c6) NL (L'.flatMap FactV.cells)) (hat6 : (Value.slice A6 NL c6).ownBlock = v5.ownBlock ∨ (Value.slice A6 NL c6).ownBlock = some w5.heap.size) :
    MindAt (w6.setCell ⟨g, 2, none⟩ (.slice A6 NL c6)) g n A6 c6 L' ∧ Near (fun k => k = g) W.heap.size W (w6.setCell ⟨g, 2, none⟩ (.slice A6 NL c6)) ∧ ∀ a, A6 = some a → W.heap.size ≤ a.block := by
  subst hNL
  have hMw := hM.below hb
  have hgl := hMw.glt
  have s5 := hg5.size
  have s6 := hg6.size
  have hsW := hb.size
  have hB6 : ∀ k, k < w.heap.size → w6.heap[k]? = w.heap[k]? := fun k hk => (hg6.block k (by omega) (fun e => by
    rcases hat5 with h | h
    · rw [h] at e; cases e
    · rw [h] at e; have := Option.some.inj e; omega)).trans (hg5.block k hk (fun e => by cases e))
  have n6 : Near (fun k => k = g) w.heap.size w w6 := ⟨hg6.os.trans hg5.os, hg6.tape.trans hg5.tape, hg6.output.trans hg5.output, by omega, fun k hk _ => hB6 k hk⟩
  have n7 : Near (fun k => k = g) w6.heap.size w6 (w6.setCell ⟨g, 2, none⟩ (.slice A6 L'.length c6)) := ⟨rfl, rfl, rfl, by simp [World.setCell], fun k _ hp => Below.heap_setCell _ _ _ k hp⟩
  have nn := n6.trans (n7.mono n6.size)
  have nW := (Near.of_below (p := fun k => k = g) hb).trans (nn.mono hsW)
  have hA6 : ∀ a, A6 = some a → w.heap.size ≤ a.block := fun a ha => by
    subst ha
    rcases hat6 with e | e
    · rcases hat5 with h | h
      · rw [h] at e; cases e
      · rw [h] at e
        have : a.block = w.heap.size := by simpa [Value.ownBlock] using e
        omega
    · have : a.block = w5.heap.size := by simpa [Value.ownBlock] using e
      omega
  refine ⟨⟨?_, ?_, ?_, ?_, ?_, ?_⟩, nW, fun a ha => Nat.le_trans hsW (hA6 a ha)⟩
  · rw [World.cell?_setCell_other _ _ _ _ (by simp)]; exact (World.cell?_of_block (hB6 g hgl)).trans hMw.c0
  · rw [World.cell?_setCell_other _ _ _ _ (by simp)]; exact (World.cell?_of_block (hB6 g hgl)).trans hMw.c1
  · have c2 : w6.cell? ⟨g, 2, none⟩ = some (.slice A L.length c) := (World.cell?_of_block (hB6 g hgl)).trans hMw.c2
    have := World.cell?_setCell_same w6 ⟨g, 2, none⟩ (.slice A6 L'.length c6) c2
    simpa using this
  · rw [World.frozen?_setCell]; exact (World.frozen?_of_block (hB6 g hgl)).trans hMw.fz
  · exact own_setCell hown6 (fun k hk => by have := (hown6.lt k hk).1; show k ≠ g; omega) _
  · exact hMw.net.below (B := g) ⟨nn.os, nn.tape, nn.output, nn.size, fun k hk => nn.block k (by omega) (by omega)⟩ (Nat.le_refl _)
theorem facts_one (l : List FactV) : ∀ u ∈ l.flatMap FactV.cells, u.oneCell' = true := fun u hu => by
  obtain ⟨x, _, h⟩ := List.mem_flatMap.1 hu
  exact x.one u h

set_option maxRecDepth 100000 in
set_option maxHeartbeats 16000000 in
theorem mindForget_good (g : Nat) (n : NetV) (A : Option Addr) (c : Nat) (L : List FactV) (i : Int) (p : P4) (q : Int) (W : World) (hM : MindAt W g n A c L) (hn : n.dn ≤ 10) (hi : i64ok i) (hq : i64ok q) (hL : L.length ≤ 1000)
    (hno : (forgetM n.devs L i p q).1 = 0) :
    Calls Try.prog 16 #[.pointer (some ⟨g, 0, none⟩), .int .i64 i, .agg #[.int .i64 p.src, .int .i64 p.dst, .int .i64 p.sport, .int .i64 p.dport], .int .i64 q] W fun e W' => e = .returned (.int .i64 0) ∧ ∃ A' c', MindAt W' g n A' c' (forgetM n.devs L i p q).2 ∧ Near (fun k => k = g) W.heap.size W W' ∧ ∀ a, A' = some a → W.heap.size ≤ a.block := by
  have HMW := hide hM
  have HMM := hide (fun (w' : World) (hb : Below W.heap.size W w') => hM.below hb)
  have hdl := devs_len hM.net
  have hgs := hM.glt
  have HDL := hide hdl
  have HLL := hide hL
  clear hM hL
  obtain ⟨i1, i2⟩ := hi
  obtain ⟨SR, hSR⟩ : ∃ SR, forgetM n.devs L i p q = SR := ⟨_, rfl⟩
  have HSR := hide hSR
  rw [hSR] at hno ⊢
  have HNO := hide hno
  clear hSR hno
  go_enter Try.func16, Try.ntmps16
  go_wp2
  generalize hG : World.alloc (World.alloc (World.alloc W _) _) _ = W1
  have HX1 := hide (show BX W [(W.heap.size, #[.int .i64 i]), (W.heap.size + 1, #[.int .i64 p.src, .int .i64 p.dst, .int .i64 p.sport, .int .i64 p.dport]), (W.heap.size + 1 + 1, #[.int .i64 q])] W1 from by
    have e := boxesV (B := W1.heap.size) [(#[.int .i64 i], 3), (#[.int .i64 p.src, .int .i64 p.dst, .int .i64 p.sport, .int .i64 p.dport], 39), (#[.int .i64 q], 3)] W (W' := W1) (by rw [← hG]; exact Below.refl _ _)
    have hs : W1.heap.size = W.heap.size + 3 := by rw [← hG]; simp
    refine ⟨e.2 (by omega), fun x hx => ?_⟩
    simp only [List.mem_cons, List.not_mem_nil, or_false] at hx
    rcases hx with rfl | rfl | rfl
    · exact ⟨e.1 0 _ _ rfl (by omega), by simp; omega⟩
    · exact ⟨e.1 1 _ _ rfl (by omega), by simp; omega⟩
    · exact ⟨e.1 2 _ _ rfl (by omega), by simp; omega⟩)
  clear hG
  have i3 : (0 : Int) ≤ (n.dn : Int) := by omega
  have i4 : (n.dn : Int) ≤ 10 := by omega
  cases hi1 : inR i 0 ((n.dn : Int) - 1)
  case false =>
    have HS := hide (show SR = (4, L) from by
      rw [← HSR.out]
      unfold forgetM
      rw [HDL.out, if_pos hi1])
    exact absurd (show SR.1 ≠ 0 from by rw [HS.out]; show (4 : Int) ≠ 0; decide) (fun e => e HNO.out)
  obtain ⟨i', rfl⟩ : ∃ i' : Nat, i = (i' : Int) := ⟨i.toNat, by simp only [inR, Bool.and_eq_true, decide_eq_true_eq] at hi1; omega⟩
  have hil : i' < n.dn := by simp only [inR, Bool.and_eq_true, decide_eq_true_eq] at hi1; omega
  obtain ⟨r, hr⟩ : ∃ r, n.ds[i']? = some r := ⟨_, List.getElem?_eq_getElem (by rw [HMW.out.net.dlen]; exact hil)⟩
  have hrd : n.devs[i']? = some r.dev := by simp [NetV.devs, hr]
  have HRR := hide hr
  have HRD := hide hrd
  clear hr hrd
  obtain ⟨b, o, hdA, _, _⟩ := HMW.out.net.ds.2 (by omega)
  have j1 : (0 : Int) ≤ (i' : Int) := by omega
  have j2 : (i' : Int) < (n.dn : Int) := by omega
  have HS := hide (show SR = (if inR r.kind 3 5 = false then (4, L) else if idxF (fun x : FactV => x.d == (i' : Int) && ((r.kind == 4 && x.n == q) || (r.kind != 4 && eq4 x.p p))) L < 0 then (7, L) else (0, L.take (idxF (fun x : FactV => x.d == (i' : Int) && ((r.kind == 4 && x.n == q) || (r.kind != 4 && eq4 x.p p))) L).toNat ++ L.drop ((idxF (fun x : FactV => x.d == (i' : Int) && ((r.kind == 4 && x.n == q) || (r.kind != 4 && eq4 x.p p))) L).toNat + 1))) from by
    rw [← HSR.out]
    unfold forgetM
    rw [HDL.out, if_neg (by rw [hi1]; simp), Int.toNat_natCast, HRD.out]
    rfl)
  clear HSR
  refine wp_region_abs (by kernel_rfl) (by kernel_rfl) ?_
  intro T hT gt hg1 hgi
  have HGT := hide hg1
  have HGI := hide hgi
  clear hg1 hgi
  have k0 : ∀ t, (gt t).cell? ⟨W.heap.size, 0, none⟩ = some (.int .i64 (i' : Int)) := fun t => ((HX1.out.below (HGT.out t)).get 0 rfl).1 0 _ rfl
  have k2 : ∀ t, (gt t).cell? ⟨g, 0, none⟩ = some (.slice (some ⟨b, o, none⟩) n.dn n.dc) := fun t => by have q := (HMM.out _ (HX1.out.below (HGT.out t)).bl).c0; rw [hdA] at q; exact q
  have hc1 := hide (fun t => inR_is (gt t) hi1)
  repeat (go_big_quiet_step ((go_at_call 19; exact inAbsSame (hc1.out _))))
  refine wpQuiet_nil ?_
  intro _ hw'
  obtain ⟨t, rfl⟩ := hw'
  have HX2 := hide (HX1.out.below (HGT.out t))
  generalize gt t = w2 at *
  clear HGT HGI k0 k2 hc1 hi1
  go_wp2_with fail
  -- R3
  refine wp_region_E (fun w' => w'.cell? ⟨W.heap.size, 0, none⟩ = some (.int .i64 (i' : Int)) ∧ w'.cell? ⟨g, 0, none⟩ = some (.slice (some ⟨b, o, none⟩) n.dn n.dc) ∧ w'.cell? ⟨b, o + i' * 7 + 1, none⟩ = some (.int .i64 r.kind)) 10 (by kernel_rfl) ⟨(HX2.out.d.get 0 rfl).1 0 _ rfl, by have q := (HMM.out _ HX2.out.d.bl).c0; rw [hdA] at q; exact q, (dev_get (n := n.dn) (by have q := (HMM.out _ HX2.out.d.bl).net.ds; rw [hdA] at q; exact q) HRR.out).2.2.1⟩ (fun hS inv => ?_)
  refine wpAnyE_pure (i := 0) (v := ?_) rfl (by kernel_rfl) (by kernel_rfl) (by kernel_rfl) (by kernel_rfl) (fun _ _ _ h => h) inv (Or.inl ⟨by rfl, ?_⟩) (fun _ => hS) (fun inv2 => ?_)
  rotate_left
  · intro w _
    go_simp
    try with_reducible rfl
  clear inv
  have inv := inv2
  clear inv2
  try simp only [Act.put, nrmA, nrmB, nrmC]
  refine wpAnyE_pure (i := 1) (v := ?_) rfl (by kernel_rfl) (by kernel_rfl) (by kernel_rfl) (by kernel_rfl) (fun _ _ _ h => h) inv (Or.inl ⟨by rfl, ?_⟩) (fun _ => hS) (fun inv2 => ?_)
  rotate_left
  · intro w _
    go_simp
    try with_reducible rfl
  clear inv
  have inv := inv2
  clear inv2
  try simp only [Act.put, nrmA, nrmB, nrmC]
  refine wpAnyE_pure (i := 2) (v := ?_) rfl (by kernel_rfl) (by kernel_rfl) (by kernel_rfl) (by kernel_rfl) (fun _ _ _ h => h) inv (Or.inl ⟨by rfl, ?_⟩) (fun _ => hS) (fun inv2 => ?_)
  rotate_left
  · intro w _
    go_simp
    try with_reducible rfl
  clear inv
  have inv := inv2
  clear inv2
  try simp only [Act.put, nrmA, nrmB, nrmC]
  refine wpAnyE_pure (i := 3) (v := ?_) rfl (by kernel_rfl) (by kernel_rfl) (by kernel_rfl) (by kernel_rfl) (fun _ _ _ h => h) inv (Or.inl ⟨by rfl, ?_⟩) (fun _ => hS) (fun inv2 => ?_)
  rotate_left
  · intro w _
    go_simp
    try with_reducible rfl
  clear inv
  have inv := inv2
  clear inv2
  try simp only [Act.put, nrmA, nrmB, nrmC]
  refine wpAnyE_load (i := 4) (v := ?_) [10] rfl (by kernel_rfl) (by kernel_rfl) (by kernel_rfl) (by kernel_rfl) (fun _ _ _ h => h) inv (Or.inl ⟨by rfl, ?_⟩) hS (fun inv2 => ?_)
  rotate_left
  · intro w hSw
    obtain ⟨s0, s1, s2⟩ := hSw
    go_simp
    try with_reducible rfl
  clear inv
  have inv := inv2
  clear inv2
  try simp only [Act.put, nrmA, nrmB, nrmC]
  refine wpAnyE_load (i := 5) (v := ?_) [10] rfl (by kernel_rfl) (by kernel_rfl) (by kernel_rfl) (by kernel_rfl) (fun _ _ _ h => h) inv (Or.inl ⟨by rfl, ?_⟩) hS (fun inv2 => ?_)
  rotate_left
  · intro w hSw
    obtain ⟨s0, s1, s2⟩ := hSw
    go_simp
    try with_reducible rfl
  clear inv
  have inv := inv2
  clear inv2
  try simp only [Act.put, nrmA, nrmB, nrmC]
  refine wpAnyE_pure (i := 6) (v := ?_) rfl (by kernel_rfl) (by kernel_rfl) (by kernel_rfl) (by kernel_rfl) (fun _ _ _ h => h) inv (Or.inl ⟨by rfl, ?_⟩) (fun _ => hS) (fun inv2 => ?_)
  rotate_left
  · intro w _
    go_simp
    try with_reducible rfl
  clear inv
  have inv := inv2
  clear inv2
  try simp only [Act.put, nrmA, nrmB, nrmC]
  refine wpAnyE_pure (i := 7) (v := ?_) rfl (by kernel_rfl) (by kernel_rfl) (by kernel_rfl) (by kernel_rfl) (fun _ _ _ h => h) inv (Or.inl ⟨by rfl, ?_⟩) (fun _ => hS) (fun inv2 => ?_)
  rotate_left
  · intro w _
    go_simp
    try with_reducible rfl
  clear inv
  have inv := inv2
  clear inv2
  try simp only [Act.put, nrmA, nrmB, nrmC]
  refine wpAnyE_load (i := 8) (v := ?_) [10] rfl (by kernel_rfl) (by kernel_rfl) (by kernel_rfl) (by kernel_rfl) (fun _ _ _ h => h) inv (Or.inl ⟨by rfl, ?_⟩) hS (fun inv2 => ?_)
  rotate_left
  · intro w hSw
    obtain ⟨s0, s1, s2⟩ := hSw
    go_simp
    try with_reducible rfl
  clear inv
  have inv := inv2
  clear inv2
  try simp only [Act.put, nrmA, nrmB, nrmC]
  -- R3B
  refine wpAnyE_one (i := 9) rfl (by kernel_rfl) inv (fun K hK => ?_)
  go_simp
  have HN3 := hide (HX2.out.al #[.int .i64 0] 3).d
  refine hK.out _ _ (fun _ => ⟨(HN3.out.box.get 0 rfl).1 0 _ rfl, by have q := (HMM.out _ HN3.out.box.bl).c0; rw [hdA] at q; exact q, (dev_get (n := n.dn) (by have q := (HMM.out _ HN3.out.box.bl).net.ds; rw [hdA] at q; exact q) HRR.out).2.2.1⟩) (fun inv2 => ?_)
  clear hK K hS
  clear inv
  have inv := inv2
  clear inv2
  try simp only [Act.put, nrmA, nrmB, nrmC]
  -- R3C
  refine wpAnyE_late (i := 10) rfl (by kernel_rfl) inv (by kernel_rfl) (fun K hK => ?_)
  go_simp
  refine hK.out _ _ (fun inv2 => ?_)
  clear hK K
  clear inv
  have inv := inv2
  clear inv2
  try simp only [Act.put, nrmA, nrmB, nrmC]
  refine wpAnyE_done (by kernel_rfl) ?_ _
  clear inv
  have HX4 := hide (HX2.out.al #[.int .i64 r.kind] 3).done.d
  have hNK : W.heap.size ≤ w2.heap.size := HX2.out.bl.size
  obtain ⟨K0, hK0⟩ : ∃ K0, w2.heap.size = K0 := ⟨_, rfl⟩
  rw [hK0] at HX4 hNK
  rw [hK0]
  clear hK0 HN3 HX1 HX2
  generalize World.drew _ = w4 at *
  have k9 : w4.cell? ⟨K0, 0, none⟩ = some (.int .i64 r.kind) := (HX4.out.get 0 rfl).1 0 _ rfl
  cases hk3 : inR r.kind 3 5
  case false =>
    exact absurd (show SR.1 ≠ 0 from by rw [HS.out, if_pos hk3]; show (4 : Int) ≠ 0; decide) (fun e => e HNO.out)
  -- R6
  have hc1 := hide (fun w => inR_is w hk3)
  have HS2 := hide (HS.out.trans (if_neg (by rw [hk3]; simp)))
  clear HS hk3
  have hm8 : L.length ≤ 9223372036854775807 := by have := HLL.out; omega
  have HFW := hide (fun (w' : World) (h : BX W [(K0, #[.int .i64 r.kind]), (W.heap.size, #[.int .i64 (i' : Int)]), (W.heap.size + 1, #[.int .i64 p.src, .int .i64 p.dst, .int .i64 p.sport, .int .i64 p.dport]), (W.heap.size + 1 + 1, #[.int .i64 q])] w') => find_walk g A L.length c 80 #[.pointer (some ⟨W.heap.size, 0, none⟩), .pointer (some ⟨K0, 0, none⟩), .pointer (some ⟨W.heap.size + 1 + 1, 0, none⟩), .pointer (some ⟨W.heap.size + 1, 0, none⟩)] (fun x => x.d == (i' : Int) && ((r.kind == 4 && x.n == q) || (r.kind != 4 && eq4 x.p p))) L w' hm8 (HMM.out _ h.bl).c2 (HMM.out _ h.bl).sl mcf_enters (hide (fun x w _ hb => mcf_walk x _ _ _ _ (i' : Int) r.kind q p w ((h.below hb).get 1 rfl) ((h.below hb).get 0 rfl) ((h.below hb).get 3 rfl) ((h.below hb).get 2 rfl))))
  have hfc := idxF_cases (fun x : FactV => x.d == (i' : Int) && ((r.kind == 4 && x.n == q) || (r.kind != 4 && eq4 x.p p))) L
  generalize idxF (fun x : FactV => x.d == (i' : Int) && ((r.kind == 4 && x.n == q) || (r.kind != 4 && eq4 x.p p))) L = IX at *
  go_wp2_with (go_at_call 19; refine (hc1.out _).mono ?_; rintro e wq ⟨rfl, rfl⟩)
  -- R6B
  refine (HFW.out _ HX4.out).mono ?_
  rintro e w10 ⟨rfl, hb⟩
  have HX10 := hide (HX4.out.below hb)
  clear hb HFW
  rcases hfc with ⟨k, f, rfl, hkl, hLk, _, _⟩ | ⟨rfl, _⟩
  case inr => exact absurd (show SR.1 ≠ 0 from by rw [HS2.out, if_pos (by omega)]; show (7 : Int) ≠ 0; decide) (fun e => e HNO.out)
  have HS3 := hide (show SR = (0, L.take k ++ L.drop (k + 1)) from HS2.out.trans ((if_neg (by omega)).trans (by rw [Int.toNat_natCast])))
  clear HS2
  obtain ⟨bL, oL, hAe, hbL, _⟩ := HMW.out.sl.2 (by omega)
  subst hAe
  have hkl' : (k : Int) < (L.length : Int) := by omega
  have hL8 : (L.length : Int) ≤ 1000 := by have := HLL.out; omega
  have hlc : L.length ≤ c := by
    rcases HMW.out.own.2 with ⟨_, h0⟩ | ⟨_, _, _, hv, _, _, hle, _⟩
    · omega
    · have := (Value.slice.inj hv).2.2; omega
  have hk0 : 0 ≤ (k : Int) := by omega
  -- R7
  go_wp2_with fail
  refine wp_region_E (fun w' => w'.cell? ⟨g, 2, none⟩ = some (.slice (some ⟨bL, oL, none⟩) L.length c)) 18 (by kernel_rfl) (HMM.out _ HX10.out.d.bl).c2 (fun hS inv => ?_)
  refine wpAnyE_pure (i := 0) (v := ?_) rfl (by kernel_rfl) (by kernel_rfl) (by kernel_rfl) (by kernel_rfl) (fun _ _ _ h => h) inv (Or.inl ⟨by rfl, ?_⟩) (fun _ => hS) (fun inv2 => ?_)
  rotate_left
  · intro w _
    go_simp
    try with_reducible rfl
  clear inv
  have inv := inv2
  clear inv2
  try simp only [Act.put, nrmA, nrmB, nrmC]
  refine wpAnyE_pure (i := 1) (v := ?_) rfl (by kernel_rfl) (by kernel_rfl) (by kernel_rfl) (by kernel_rfl) (fun _ _ _ h => h) inv (Or.inl ⟨by rfl, ?_⟩) (fun _ => hS) (fun inv2 => ?_)
  rotate_left
  · intro w _
    go_simp
    try with_reducible rfl
  clear inv
  have inv := inv2
  clear inv2
  try simp only [Act.put, nrmA, nrmB, nrmC]
  refine wpAnyE_pure (i := 2) (v := ?_) rfl (by kernel_rfl) (by kernel_rfl) (by kernel_rfl) (by kernel_rfl) (fun _ _ _ h => h) inv (Or.inl ⟨by rfl, ?_⟩) (fun _ => hS) (fun inv2 => ?_)
  rotate_left
  · intro w _
    go_simp
    try with_reducible rfl
  clear inv
  have inv := inv2
  clear inv2
  try simp only [Act.put, nrmA, nrmB, nrmC]
  refine wpAnyE_pure (i := 3) (v := ?_) rfl (by kernel_rfl) (by kernel_rfl) (by kernel_rfl) (by kernel_rfl) (fun _ _ _ h => h) inv (Or.inl ⟨by rfl, ?_⟩) (fun _ => hS) (fun inv2 => ?_)
  rotate_left
  · intro w _
    go_simp
    try with_reducible rfl
  clear inv
  have inv := inv2
  clear inv2
  try simp only [Act.put, nrmA, nrmB, nrmC]
  refine wpAnyE_load (i := 4) (v := ?_) [18] rfl (by kernel_rfl) (by kernel_rfl) (by kernel_rfl) (by kernel_rfl) (fun _ _ _ h => h) inv (Or.inl ⟨by rfl, ?_⟩) hS (fun inv2 => ?_)
  rotate_left
  · intro w hSw
    have s0 := hSw
    go_simp
    try with_reducible rfl
  clear inv
  have inv := inv2
  clear inv2
  try simp only [Act.put, nrmA, nrmB, nrmC]
  refine wpAnyE_pure (i := 5) (v := ?_) rfl (by kernel_rfl) (by kernel_rfl) (by kernel_rfl) (by kernel_rfl) (fun _ _ _ h => h) inv (Or.inl ⟨by rfl, ?_⟩) (fun _ => hS) (fun inv2 => ?_)
  rotate_left
  · intro w _
    go_simp
    try with_reducible rfl
  clear inv
  have inv := inv2
  clear inv2
  try simp only [Act.put, nrmA, nrmB, nrmC]
  -- R9A
  have hkc : k ≤ c := by omega
  have hkc1 : k + 1 ≤ L.length := by omega
  have hkc2 : (0 : Int) ≤ (k : Int) + 1 := by omega
  have hkc3 : (k : Int) + 1 ≤ (L.length : Int) := by omega
  refine wpAnyE_pure (i := 6) (v := ?_) rfl (by kernel_rfl) (by kernel_rfl) (by kernel_rfl) (by kernel_rfl) (fun _ _ _ h => h) inv (Or.inl ⟨by rfl, ?_⟩) (fun _ => hS) (fun inv2 => ?_)
  rotate_left
  · intro w _
    go_simp
    try with_reducible rfl
  clear inv
  have inv := inv2
  clear inv2
  try simp only [Act.put, nrmA, nrmB, nrmC]
  refine wpAnyE_pure (i := 8) (v := ?_) rfl (by kernel_rfl) (by kernel_rfl) (by kernel_rfl) (by kernel_rfl) (fun _ _ _ h => h) inv (Or.inl ⟨by rfl, ?_⟩) (fun _ => hS) (fun inv2 => ?_)
  rotate_left
  · intro w _
    go_simp
    try with_reducible rfl
  clear inv
  have inv := inv2
  clear inv2
  try simp only [Act.put, nrmA, nrmB, nrmC]
  refine wpAnyE_pure (i := 9) (v := ?_) rfl (by kernel_rfl) (by kernel_rfl) (by kernel_rfl) (by kernel_rfl) (fun _ _ _ h => h) inv (Or.inl ⟨by rfl, ?_⟩) (fun _ => hS) (fun inv2 => ?_)
  rotate_left
  · intro w _
    go_simp
    try with_reducible rfl
  clear inv
  have inv := inv2
  clear inv2
  try simp only [Act.put, nrmA, nrmB, nrmC]
  refine wpAnyE_pure (i := 10) (v := ?_) rfl (by kernel_rfl) (by kernel_rfl) (by kernel_rfl) (by kernel_rfl) (fun _ _ _ h => h) inv (Or.inl ⟨by rfl, ?_⟩) (fun _ => hS) (fun inv2 => ?_)
  rotate_left
  · intro w _
    go_simp
    try with_reducible rfl
  clear inv
  have inv := inv2
  clear inv2
  try simp only [Act.put, nrmA, nrmB, nrmC]
  refine wpAnyE_load (i := 11) (v := ?_) [18] rfl (by kernel_rfl) (by kernel_rfl) (by kernel_rfl) (by kernel_rfl) (fun _ _ _ h => h) inv (Or.inl ⟨by rfl, ?_⟩) hS (fun inv2 => ?_)
  rotate_left
  · intro w hSw
    have s0 := hSw
    go_simp
    try with_reducible rfl
  clear inv
  have inv := inv2
  clear inv2
  try simp only [Act.put, nrmA, nrmB, nrmC]
  refine wpAnyE_pure (i := 12) (v := ?_) rfl (by kernel_rfl) (by kernel_rfl) (by kernel_rfl) (by kernel_rfl) (fun _ _ _ h => h) inv (Or.inl ⟨by rfl, ?_⟩) (fun _ => hS) (fun inv2 => ?_)
  rotate_left
  · intro w _
    go_simp
    try with_reducible rfl
  clear inv
  have inv := inv2
  clear inv2
  try simp only [Act.put, nrmA, nrmB, nrmC]
  have hwr : IntKind.i64.wrap ((k : Int) + 1) = ((k + 1 : Nat) : Int) := by rw [IntKind.wrap_i64]; omega
  refine wpAnyE_pure (i := 13) (v := .int .i64 ((k + 1 : Nat) : Int)) rfl (by kernel_rfl) (by kernel_rfl) (by kernel_rfl) (by kernel_rfl) (fun _ _ _ h => h) inv (Or.inl ⟨by rfl, ?_⟩) (fun _ => hS) (fun inv2 => ?_)
  · intro w _
    go_simp
  clear inv
  have inv := inv2
  clear inv2
  try simp only [Act.put, nrmA, nrmB, nrmC]
  refine wpAnyE_pure (i := 14) (v := ?_) rfl (by kernel_rfl) (by kernel_rfl) (by kernel_rfl) (by kernel_rfl) (fun _ _ _ h => h) inv (Or.inl ⟨by rfl, ?_⟩) (fun _ => hS) (fun inv2 => ?_)
  rotate_left
  · intro w _
    go_simp
    try with_reducible rfl
  clear inv
  have inv := inv2
  clear inv2
  try simp only [Act.put, nrmA, nrmB, nrmC]
  have HXD := hide HX10.out.d
  have hLL := HLL.out
  obtain ⟨i0, hi0, hz0, hz1, hz2⟩ := info_parts Try.infoFact
  have hrA := (((HMM.out _ HXD.out.bl).sl).take (Nat.le_of_lt hkl)).reads FactV.len (by omega)
  have hoA : w10.drew.ownsRow (g + 1) 141 6 (.slice none 0 0) 0 [] := ⟨rfl, Or.inl ⟨rfl, rfl⟩⟩
  refine wpAnyE_one (i := 7) rfl (by kernel_rfl) inv (fun K hK => ?_)
  rw [if_pos (by rfl)]
  refine wp_append_any _ (.const (.slice none 0 0)) (.tmp 44) 33 rfl (g + 1) 141 i0 _ 6 48 Try.underlying33 hi0 hz0 hz1 hz2 rfl (by omega) (.slice none 0 0) 0 [] rfl hoA w10.drew.heap.size (some ⟨bL, oL, none⟩) k c ((L.take k).flatMap FactV.cells) rfl hrA (facts_one _) (by unfold maxLen; omega) (by omega) (by have := (HMM.out _ HXD.out.bl).glt; omega) ?_
  intro v5 w5 hown5 hg5 hat5
  have hS5 : w5.cell? ⟨g, 2, none⟩ = some (.slice (some ⟨bL, oL, none⟩) L.length c) := (World.cell?_of_block (hg5.block g (HMM.out _ HXD.out.bl).glt (by simp [Value.ownBlock]))).trans hS
  refine hK.out _ _ (fun _ => hS5) (fun inv2 => ?_)
  clear hK K
  clear inv
  have inv := inv2
  clear inv2
  try simp only [Act.put, nrmA, nrmB, nrmC]
  have hS := hS5
  clear hS5
  have hrB : Reads w5 w10.drew.heap.size 6 (if c = k + 1 then some ⟨bL, oL, none⟩ else some ⟨bL, oL + (k + 1) * 6, none⟩) (L.length - (k + 1)) ((L.drop (k + 1)).flatMap FactV.cells) := by
    have h1 := ((((HMM.out _ HXD.out.bl).sl).cut (k := k + 1) (cap := c) hkc1 hlc).reads FactV.len (by omega)).grown hg5 (Nat.le_refl _) (fun g' e => by cases e)
    have e : Option.map (fun x : Addr => x.add ((k + 1) * 6)) (some ⟨bL, oL, none⟩) = some ⟨bL, oL + (k + 1) * 6, none⟩ := by rw [Option.map_some, addr_add]
    rw [e] at h1
    exact h1
  refine wpAnyE_one (i := 15) rfl (by kernel_rfl) inv (fun K hK => ?_)
  rw [if_pos (by rfl)]
  refine wp_append_any _ (.tmp 45) (.tmp 52) 33 rfl (g + 1) 141 i0 _ 6 48 Try.underlying33 hi0 hz0 hz1 hz2 rfl (by omega) v5 (0 + k) ([] ++ (L.take k).flatMap FactV.cells) rfl hown5 w10.drew.heap.size _ (L.length - (k + 1)) (c - (k + 1)) ((L.drop (k + 1)).flatMap FactV.cells) rfl hrB (facts_one _) (by unfold maxLen; omega) (by omega) (by have := (HMM.out _ HXD.out.bl).glt; have := hg5.size; omega) ?_
  intro v6 w6 hown6 hg6 hat6
  have hv5g : v5.ownBlock ≠ some g := fun e => by
    have := (HMM.out _ HXD.out.bl).glt
    rcases hat5 with h | h
    · rw [h] at e; cases e
    · rw [h] at e; have := Option.some.inj e; omega
  have hS6 : w6.cell? ⟨g, 2, none⟩ = some (.slice (some ⟨bL, oL, none⟩) L.length c) := (World.cell?_of_block (hg6.block g (by have := (HMM.out _ HXD.out.bl).glt; have := hg5.size; omega) (Ne.symm hv5g))).trans hS
  have hfz6 : w6.frozen? ⟨g, 2, none⟩ = false := ((World.frozen?_of_block (hg6.block g (by have := (HMM.out _ HXD.out.bl).glt; have := hg5.size; omega) (Ne.symm hv5g))).trans (World.frozen?_of_block (hg5.block g (HMM.out _ HXD.out.bl).glt (by simp [Value.ownBlock])))).trans (HMM.out _ HXD.out.bl).fz
  refine hK.out _ _ (fun _ => hS6) (fun inv2 => ?_)
  clear hK K
  clear inv
  have inv := inv2
  clear inv2
  try simp only [Act.put, nrmA, nrmB, nrmC]
  have hS := hS6
  have hlen : (L.take k ++ L.drop (k + 1)).length = 0 + k + (L.length - (k + 1)) := by simp; omega
  have hfl : (L.take k ++ L.drop (k + 1)).flatMap FactV.cells = [] ++ (L.take k).flatMap FactV.cells ++ (L.drop (k + 1)).flatMap FactV.cells := by simp
  rw [← hfl] at hown6
  obtain ⟨NL, hNL⟩ : ∃ NL, 0 + k + (L.length - (k + 1)) = NL := ⟨_, rfl⟩
  rw [hNL] at hown6 hlen
  clear hNL
  obtain ⟨A6, c6, rfl⟩ : ∃ A6 c6, v6 = .slice A6 NL c6 := by
    rcases Joins.ownsRow_forms hown6 with ⟨e, h0⟩ | ⟨g6, cap, e⟩
    · exact ⟨none, 0, by rw [e, h0]⟩
    · exact ⟨_, _, e⟩
  have HFIN := hide (mind_cut hlen HMW.out HXD.out.bl hg5 hat5 hg6 hown6 hat6)
  clear hown6 hat6 hfl hlen
  refine wpAnyE_pure (i := 16) (v := ?_) rfl (by kernel_rfl) (by kernel_rfl) (by kernel_rfl) (by kernel_rfl) (fun _ _ _ h => h) inv (Or.inl ⟨by rfl, ?_⟩) (fun _ => hS) (fun inv2 => ?_)
  rotate_left
  · intro w _
    go_simp
    try with_reducible rfl
  clear inv
  have inv := inv2
  clear inv2
  try simp only [Act.put, nrmA, nrmB, nrmC]
  refine wpAnyE_pure (i := 17) (v := ?_) rfl (by kernel_rfl) (by kernel_rfl) (by kernel_rfl) (by kernel_rfl) (fun _ _ _ h => h) inv (Or.inl ⟨by rfl, ?_⟩) (fun _ => hS) (fun inv2 => ?_)
  rotate_left
  · intro w _
    go_simp
    try with_reducible rfl
  clear inv
  have inv := inv2
  clear inv2
  try simp only [Act.put, nrmA, nrmB, nrmC]
  refine wpAnyE_late (i := 18) rfl (by kernel_rfl) inv (by kernel_rfl) (fun K hK => ?_)
  go_simp
  refine hK.out _ _ (fun inv2 => ?_)
  clear hK K
  clear inv
  have inv := inv2
  clear inv2
  try simp only [Act.put, nrmA, nrmB, nrmC]
  refine wpAnyE_done (by kernel_rfl) ?_ _
  clear inv
  clear hS hS6 hfz6
  generalize World.setCell w6 _ _ = w7 at *
  go_wp2
  all_goals
    go_ret
    exact ⟨rfl, A6, ⟨c6, by rw [HS3.out]; exact HFIN.out.1⟩, HFIN.out.2.1, HFIN.out.2.2⟩
end Go.Proofs.Ythaiffjalgionaa

set_option linter.unusedVariables false
set_option linter.unusedSimpArgs false
namespace Go.Proofs.Ythaiffjalgionaa
open Go.RowKit

theorem mindForget_walk (g : Nat) (n : NetV) (A : Option Addr) (c : Nat) (L : List FactV) (i : Int) (p : P4) (q : Int) (W : World) (hM : MindAt W g n A c L) (hn : n.dn ≤ 10) (hi : i64ok i) (hq : i64ok q) (hL : L.length ≤ 1000) :
    Calls Try.prog 16 #[.pointer (some ⟨g, 0, none⟩), .int .i64 i, .agg #[.int .i64 p.src, .int .i64 p.dst, .int .i64 p.sport, .int .i64 p.dport], .int .i64 q] W fun e W' => e = .returned (.int .i64 (forgetM n.devs L i p q).1) ∧ ∃ A' c', MindAt W' g n A' c' (forgetM n.devs L i p q).2 ∧ Near (fun k => k = g ∨ A.map (·.block) = some k) W.heap.size W W' ∧ ∀ a, A' = some a → A.map (·.block) = some a.block ∨ W.heap.size ≤ a.block := by
  by_cases h : (forgetM n.devs L i p q).1 = 0
  · refine (mindForget_good g n A c L i p q W hM hn hi hq hL h).mono ?_
    rintro e W' ⟨he, A', c', h1, h2, h3⟩
    exact ⟨by rw [h]; exact he, A', c', h1, h2.weak (fun k e => Or.inl e), fun a ha => Or.inr (h3 a ha)⟩
  · refine (mindForget_bad g n A c L i p q W hM hn hi hq hL h).mono ?_
    rintro e W' ⟨he, h1, h2⟩
    exact ⟨he, A, c, by rw [h1]; exact hM.below h2, Near.of_below h2, fun a ha => Or.inl (by rw [ha]; rfl)⟩
end Go.Proofs.Ythaiffjalgionaa

set_option linter.unusedVariables false
set_option linter.unusedSimpArgs false
namespace Go.Proofs.Ythaiffjalgionaa
open Go.RowKit Go.Maps

theorem BX.beside {W w w' : World} {L : List (Nat × Array Value)} {p : Nat → Prop} (h : BX W L w) (hn : Near p w.heap.size w w') (ha : ∀ x ∈ L, ¬ p x.1) (hlo : ∀ j, p j → W.heap.size ≤ j) : BX W L w' :=
  ⟨((Near.of_below (p := p) h.bl).trans (hn.mono h.bl.size)).below (Nat.le_refl _) hlo, fun x hx => ⟨(h.bx x hx).1.near hn (h.bx x hx).2 (ha x hx), Nat.lt_of_lt_of_le (h.bx x hx).2 hn.size⟩⟩

structure F2 (W : World) (L : List (Nat × Array Value)) (ga : Nat) (na : NetV) (fa oa ba gb : Nat) (nb : NetV) (fb ob bb : Nat) (MA MB : MS) (k : Nat) (w : World) : Prop where
  box : BX W L w
  a : MemAt w ga na fa oa ba MA k
  b : MemAt w gb nb fb ob bb MB k
  d : ∀ j, Is3 fa oa ba j → ¬ Is3 fb ob bb j
  la : ∀ j, Is3 fa oa ba j → W.heap.size ≤ j
  lb : ∀ j, Is3 fb ob bb j → W.heap.size ≤ j
  pa : ∀ x ∈ L, ¬ Is3 fa oa ba x.1
  pb : ∀ x ∈ L, ¬ Is3 fb ob bb x.1
section
variable {W w w' : World} {L : List (Nat × Array Value)} {ga : Nat} {na : NetV} {fa oa ba gb : Nat} {nb : NetV} {fb ob bb : Nat} {MA MB MA' MB' : MS} {k k' : Nat}
end
theorem cells8 {w : World} {N : Nat} {a b c d e f g h : Int} (q : BoxV w N #[.int .i64 a, .int .i64 b, .int .i64 c, .int .i64 d, .int .i64 e, .int .i64 f, .int .i64 g, .int .i64 h]) : w.cell? ⟨N, 0, none⟩ = some (.int .i64 a) ∧ w.cell? ⟨N, 1, none⟩ = some (.int .i64 b) ∧ w.cell? ⟨N, 2, none⟩ = some (.int .i64 c) ∧ w.cell? ⟨N, 3, none⟩ = some (.int .i64 d) ∧ w.cell? ⟨N, 4, none⟩ = some (.int .i64 e) ∧ w.cell? ⟨N, 5, none⟩ = some (.int .i64 f) ∧ w.cell? ⟨N, 6, none⟩ = some (.int .i64 g) ∧ w.cell? ⟨N, 7, none⟩ = some (.int .i64 h) :=
  ⟨q.1 0 _ rfl, q.1 1 _ rfl, q.1 2 _ rfl, q.1 3 _ rfl, q.1 4 _ rfl, q.1 5 _ rfl, q.1 6 _ rfl, q.1 7 _ rfl⟩
end Go.Proofs.Ythaiffjalgionaa
