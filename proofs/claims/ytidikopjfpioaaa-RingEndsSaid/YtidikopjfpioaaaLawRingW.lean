/- wirekeep.RingEnds. -/
import Derived.Test.YtidikopjfpioaaaLawRing
import Derived.Test.YtidikopjfpioaaaOpens
import Derived.Deep.DeepCutAuto
set_option linter.unusedVariables false
set_option linter.unusedSimpArgs false
namespace Go.Proofs.Ytidikopjfpioaaa
open Go.RowKit Go.Maps

theorem one_rule {w : World} {N B : Nat} (h : BoxV w N #[.bool true, .int .u16 65535, .int .u16 65535, .int .u8 255, .int .u8 255]) (hN : N < B) : RulesAt w B (some ⟨N, 0, none⟩) 1 [allR true] :=
  (show SlAt RuleV.cells 5 w B (some ⟨N, 0, none⟩) [allR true].length [allR true] from slAt_box RuleV.len h hN).rules (fun r hr => by
    obtain rfl := List.mem_singleton.1 hr
    exact allR_ok _)
def rV (A B : Option Addr) : DevV := ⟨⟨#[114]⟩, 2, 0, 0, none, 0, 0, [], A, 1, 1, [allR true], B, 1, 1, [⟨0, 0, 1⟩]⟩
def rNet (N : Nat) : NetV := ⟨some ⟨N + 1 + 1, 0, none⟩, 1, 1, [rV (some ⟨N, 0, none⟩) (some ⟨N + 1, 0, none⟩)], some ⟨N + 1 + 1 + 1, 0, none⟩, 1, 1, [⟨0, 0, 0, 1⟩]⟩
theorem rNet_at {W w : World} {L : List (Nat × Array Value)} {N : Nat} (h : BX W ((N + 1 + 1 + 1, #[.int .i64 0, .int .i64 0, .int .i64 0, .int .i64 1]) :: (N + 1 + 1, #[.string ⟨#[114]⟩, .int .i64 2, .int .i64 0, .int .u8 0, .slice none 0 0, .slice (some ⟨N, 0, none⟩) 1 1, .slice (some ⟨N + 1, 0, none⟩) 1 1]) :: (N + 1, #[.int .i64 0, .int .i64 0, .int .i64 1]) :: (N, #[.bool true, .int .u16 65535, .int .u16 65535, .int .u8 255, .int .u8 255]) :: L) w) : NetAt w w.heap.size (rNet N) := by
  have h0 := h.bx _ (List.mem_of_getElem? (i := 0) rfl)
  have h1 := h.bx _ (List.mem_of_getElem? (i := 1) rfl)
  have h2 := h.bx _ (List.mem_of_getElem? (i := 2) rfl)
  have h3 := h.bx _ (List.mem_of_getElem? (i := 3) rfl)
  have m1 : (1 : Nat) ≤ maxLen := by unfold maxLen; omega
  refine ⟨slAt_box (l := [rV (some ⟨N, 0, none⟩) (some ⟨N + 1, 0, none⟩)]) DevV.len h1.1 h1.2, fun d hd => ?_, slAt_box (l := [(⟨0, 0, 0, 1⟩ : LinkV)]) LinkV.len h0.1 h0.2, fun x hx => ?_, ⟨Nat.le_refl _, m1⟩, ⟨Nat.le_refl _, m1⟩⟩
  · obtain rfl := List.mem_singleton.1 hd
    exact ⟨m1, by simp [rV, i64ok], by simp [rV, i64ok], by simp [rV], ⟨rfl, fun x hx => by simp [rV] at hx, fun h0 => absurd h0 (Nat.lt_irrefl _)⟩, one_rule h3.1 h3.2, slAt_box (l := [(⟨0, 0, 1⟩ : RouteV)]) RouteV.len h2.1 h2.2, fun r hr => by
      obtain rfl := List.mem_singleton.1 hr
      simp [RouteV.ok, i64ok], by simp [rV], ⟨Nat.le_refl _, m1⟩, ⟨Nat.le_refl _, m1⟩⟩
  · obtain rfl := List.mem_singleton.1 hx
    simp [LinkV.ok, i64ok]

set_option maxRecDepth 100000 in
set_option maxHeartbeats 16000000 in
theorem ringEnds_walk (n : NetV) (X Y : Int) (p : P4) (W : World) (hn : NetAt W W.heap.size n) (hp : p.ok) (hX : i64ok X) (hY : i64ok Y) :
    Calls Try.prog 12 #[n.val, .agg #[.int .i64 X, .int .i64 Y], .agg #[.int .i64 p.src, .int .i64 p.dst, .int .i64 p.sport, .int .i64 p.dport]] W fun e W' => e = .returned (.bool true) ∧ Below W.heap.size W W' := by
  have HNA := hide (fun (w' : World) (hb : Below W.heap.size W w') => show NetAt w' w'.heap.size n from hn.below hb hb.size)
  have HPO := hide hp
  have HX := hide hX
  have HY := hide hY
  have HWE := hide (show walkE n.devs n.ls (X, Y) p = if plainE n.devs n.ls = 0 then (if placeB n.devs (X, Y) = false then 4 else if rightB p = false then 1 else 0) else plainE n.devs n.ls from rfl)
  clear hn hp hX hY
  show Calls _ _ #[.agg #[.slice n.dA n.dn n.dc, .slice n.lA n.ln n.lc], _, _] W _
  go_enter Try.func12, Try.ntmps12
  go_wp2_with fail
  generalize hG : World.alloc (World.alloc (World.alloc W _) _) _ = W1
  have HX1 := hide (show BX W [(W.heap.size, #[.slice n.dA n.dn n.dc, .slice n.lA n.ln n.lc]), (W.heap.size + 1, #[.int .i64 X, .int .i64 Y]), (W.heap.size + 1 + 1, #[.int .i64 p.src, .int .i64 p.dst, .int .i64 p.sport, .int .i64 p.dport])] W1 from by
    have e := boxesV (B := W1.heap.size) [(#[.slice n.dA n.dn n.dc, .slice n.lA n.ln n.lc], 25), (#[.int .i64 X, .int .i64 Y], 34), (#[.int .i64 p.src, .int .i64 p.dst, .int .i64 p.sport, .int .i64 p.dport], 42)] W (W' := W1) (by rw [← hG]; exact Below.refl _ _)
    have hs : W1.heap.size = W.heap.size + 3 := by rw [← hG]; simp
    refine ⟨e.2 (by omega), fun x hx => ?_⟩
    simp only [List.mem_cons, List.not_mem_nil, or_false] at hx
    rcases hx with rfl | rfl | rfl
    · exact ⟨e.1 0 _ _ rfl (by omega), by simp; omega⟩
    · exact ⟨e.1 1 _ _ rfl (by omega), by simp; omega⟩
    · exact ⟨e.1 2 _ _ rfl (by omega), by simp; omega⟩)
  clear hG
  refine (allRule_walk true W1).mono ?_
  rintro e w2 ⟨rfl, hb⟩
  have HX2 := hide (HX1.out.below hb)
  clear hb HX1
  obtain ⟨N, hN⟩ : ∃ N, w2.heap.size = N := ⟨_, rfl⟩
  go_wp2_with fail
  skip
  generalize hG : World.alloc (World.alloc (World.alloc (World.alloc (World.alloc w2 _) _) _) _) _ = w3
  have HX3 := hide (show BX W ((N + 1 + 1 + 1, #[.int .i64 0, .int .i64 0, .int .i64 0, .int .i64 1]) :: (N + 1 + 1, #[.string ⟨#[114]⟩, .int .i64 2, .int .i64 0, .int .u8 0, .slice none 0 0, .slice (some ⟨N, 0, none⟩) 1 1, .slice (some ⟨N + 1, 0, none⟩) 1 1]) :: (N + 1, #[.int .i64 0, .int .i64 0, .int .i64 1]) :: (N, #[.bool true, .int .u16 65535, .int .u16 65535, .int .u8 255, .int .u8 255]) :: (N + 1 + 1 + 1 + 1, #[.slice (some ⟨N + 1 + 1, 0, none⟩) 1 1, .slice (some ⟨N + 1 + 1 + 1, 0, none⟩) 1 1]) :: [(W.heap.size, #[.slice n.dA n.dn n.dc, .slice n.lA n.ln n.lc]), (W.heap.size + 1, #[.int .i64 X, .int .i64 Y]), (W.heap.size + 1 + 1, #[.int .i64 p.src, .int .i64 p.dst, .int .i64 p.sport, .int .i64 p.dport])]) w3 from by
    have e := boxesV (B := w3.heap.size) [(#[.bool true, .int .u16 65535, .int .u16 65535, .int .u8 255, .int .u8 255], 105), (#[.int .i64 0, .int .i64 0, .int .i64 1], 120), (#[.string ⟨#[114]⟩, .int .i64 2, .int .i64 0, .int .u8 0, .slice none 0 0, .slice (some ⟨N, 0, none⟩) 1 1, .slice (some ⟨N + 1, 0, none⟩) 1 1], 30), (#[.int .i64 0, .int .i64 0, .int .i64 0, .int .i64 1], 32), (#[.slice (some ⟨N + 1 + 1, 0, none⟩) 1 1, .slice (some ⟨N + 1 + 1 + 1, 0, none⟩) 1 1], 25)] w2 (W' := w3) (by rw [← hG]; exact Below.refl _ _)
    have hs : w3.heap.size = N + 5 := by rw [← hG, ← hN]; simp
    have hb : Below w2.heap.size w2 w3 := e.2 (by omega)
    rw [hN] at e
    have q := HX2.out.below hb
    exact ((((q.more (Below.refl _ _) (e.1 4 _ _ rfl (by omega)) (by omega)).more (Below.refl _ _) (e.1 0 _ _ rfl (by omega)) (by omega)).more (Below.refl _ _) (e.1 1 _ _ rfl (by omega)) (by omega)).more (Below.refl _ _) (e.1 2 _ _ rfl (by omega)) (by omega)).more (Below.refl _ _) (e.1 3 _ _ rfl (by omega)) (by omega))
  clear hG hN HX2
  -- R2
  obtain ⟨c0, c1⟩ : w3.cell? ⟨N + 1 + 1 + 1 + 1, 0, none⟩ = some (.slice (some ⟨N + 1 + 1, 0, none⟩) 1 1) ∧ w3.cell? ⟨N + 1 + 1 + 1 + 1, 1, none⟩ = some (.slice (some ⟨N + 1 + 1 + 1, 0, none⟩) 1 1) := ⟨(HX3.out.get 4 rfl).1 0 _ rfl, (HX3.out.get 4 rfl).1 1 _ rfl⟩
  have HWK := hide (fun (w' : World) (h : BX W ((N + 1 + 1 + 1, #[.int .i64 0, .int .i64 0, .int .i64 0, .int .i64 1]) :: (N + 1 + 1, #[.string ⟨#[114]⟩, .int .i64 2, .int .i64 0, .int .u8 0, .slice none 0 0, .slice (some ⟨N, 0, none⟩) 1 1, .slice (some ⟨N + 1, 0, none⟩) 1 1]) :: (N + 1, #[.int .i64 0, .int .i64 0, .int .i64 1]) :: (N, #[.bool true, .int .u16 65535, .int .u16 65535, .int .u8 255, .int .u8 255]) :: (N + 1 + 1 + 1 + 1, #[.slice (some ⟨N + 1 + 1, 0, none⟩) 1 1, .slice (some ⟨N + 1 + 1 + 1, 0, none⟩) 1 1]) :: [(W.heap.size, #[.slice n.dA n.dn n.dc, .slice n.lA n.ln n.lc]), (W.heap.size + 1, #[.int .i64 X, .int .i64 Y]), (W.heap.size + 1 + 1, #[.int .i64 p.src, .int .i64 p.dst, .int .i64 p.sport, .int .i64 p.dport])]) w') => ringWalk_walk (rNet N) 0 2 ⟨0, 0, 0, 0⟩ w' (rNet_at h) (by simp [P4.ok, i64ok]) (by unfold i64ok; omega) (by unfold i64ok; omega))
  have HW2 := hide (show walkE (rNet N).devs (rNet N).ls (0, 2) ⟨0, 0, 0, 0⟩ = 0 from r_walk)
  have HG := HX3
  go_region_held3 (fun w' => w'.cell? ⟨N + 1 + 1 + 1 + 1, 0, none⟩ = some (.slice (some ⟨N + 1 + 1, 0, none⟩) 1 1) ∧ w'.cell? ⟨N + 1 + 1 + 1 + 1, 1, none⟩ = some (.slice (some ⟨N + 1 + 1 + 1, 0, none⟩) 1 1)) (go_keep) (first | (go_at_call 48; refine (placeOf_walk 0 2 _).mono ?_; rintro e wp ⟨rfl, hb⟩; (first | have HG := hide (HG.out.below hb) | have HG := hide ((HG.out.below (Below.refl _ _).drew).below hb)); obtain ⟨c0, c1⟩ : wp.cell? ⟨N + 1 + 1 + 1 + 1, 0, none⟩ = some (.slice (some ⟨N + 1 + 1, 0, none⟩) 1 1) ∧ wp.cell? ⟨N + 1 + 1 + 1 + 1, 1, none⟩ = some (.slice (some ⟨N + 1 + 1 + 1, 0, none⟩) 1 1) := ⟨(HG.out.get 4 rfl).1 0 _ rfl, (HG.out.get 4 rfl).1 1 _ rfl⟩) | (go_at_call 18; refine (HWK.out _ (by first | exact HG.out | exact HG.out.below (Below.refl _ _).drew)).mono ?_; rintro e wp ⟨hb, _, hR2⟩; obtain ⟨v, r, rfl, hWT, hO, hL⟩ := hR2 HW2.out; obtain rfl := r_way hWT; obtain ⟨A1, c1', rfl, _, hS, _⟩ := SlAt.of_own plCells_len hO rfl; have HS1 := hide hS; (first | have HG := hide (HG.out.below hb) | have HG := hide ((HG.out.below (Below.refl _ _).drew).below hb)); clear hb hR2 hWT hO hL hS; obtain ⟨c0, c1⟩ : wp.cell? ⟨N + 1 + 1 + 1 + 1, 0, none⟩ = some (.slice (some ⟨N + 1 + 1, 0, none⟩) 1 1) ∧ wp.cell? ⟨N + 1 + 1 + 1 + 1, 1, none⟩ = some (.slice (some ⟨N + 1 + 1 + 1, 0, none⟩) 1 1) := ⟨(HG.out.get 4 rfl).1 0 _ rfl, (HG.out.get 4 rfl).1 1 _ rfl⟩))
  clear c0 c1 HWK HW2 HX3
  have HG := hide HG.out.less.less.less.less.less
  go_wp2_with ((go_at_call 48; refine (placeOf_walk _ _ _).mono ?_; rintro e w6 ⟨rfl, hb⟩; have HG := hide (HG.out.below hb); have HS1 := hide (HS1.out.below hb hb.size); clear hb))
  refine (equalPl_yes [(0, 2), (0, 0)] A1 _ 2 c1' _ _ (by omega) (HS1.out.below ((Below.refl _ _).alloc (Nat.le_refl _) _) (by simp)) (slAt_box (l := [(0, 2), (0, 0)]) plCells_len (BoxV.new _ _ _) (by simp))).mono ?_
  rintro e w9 ⟨rfl, hb⟩
  have HX9 := hide ((HG.out.below ((Below.refl _ _).alloc (Nat.le_refl _) _)).below hb)
  clear hb HG HS1
  -- R5
  obtain ⟨c0, c1⟩ : w9.cell? ⟨W.heap.size, 0, none⟩ = some (.slice n.dA n.dn n.dc) ∧ w9.cell? ⟨W.heap.size, 1, none⟩ = some (.slice n.lA n.ln n.lc) := ⟨(HX9.out.get 0 rfl).1 0 _ rfl, (HX9.out.get 0 rfl).1 1 _ rfl⟩
  obtain ⟨b0, b1⟩ : w9.cell? ⟨W.heap.size + 1, 0, none⟩ = some (.int .i64 X) ∧ w9.cell? ⟨W.heap.size + 1, 1, none⟩ = some (.int .i64 Y) := ⟨(HX9.out.get 1 rfl).1 0 _ rfl, (HX9.out.get 1 rfl).1 1 _ rfl⟩
  obtain ⟨p0, p1, p2, p3⟩ := cells4 (HX9.out.get 2 rfl)
  have HWK := hide (ringWalk_walk n X Y p w9 (HNA.out _ HX9.out.bl) HPO.out HX.out HY.out)
  go_wp2_with fail
  refine HWK.out.mono ?_
  clear HWK c0 c1 b0 b1 p0 p1 p2 p3
  rintro e w10 ⟨hb, hR1, hR2⟩
  have HX10 := hide (HX9.out.below hb)
  clear HX9 hb
  obtain ⟨E, hE⟩ : ∃ E, walkE n.devs n.ls (X, Y) p = E := ⟨_, rfl⟩
  rw [hE] at hR1 hR2
  have HEE := hide hE
  clear hE
  by_cases h0 : E = 0
  case neg =>
    obtain rfl := hR1 h0
    have e1 : (E == 0) = false := by simpa using h0
    have e2 : (E != 0) = true := by simpa using h0
    clear hR1 hR2 h0
    go_wp2
    go_ret
    exact ⟨ret_bool (by simp), HX10.out.bl⟩
  subst h0
  obtain ⟨v, ⟨l, rb⟩, rfl, hWT, hO, h40⟩ := hR2 rfl
  simp only at hWT hO h40
  clear hR1 hR2
  obtain ⟨A, c, rfl, hc, hS, _⟩ := SlAt.of_own plCells_len hO rfl
  have hcm : c ≤ 9223372036854775807 := by have := own_cap hO; unfold maxLen at this; omega
  obtain ⟨hWI, more, hmo⟩ := walkTo_way hWT
  simp only at hWI hmo
  have hall : plainE n.devs n.ls = 0 ∧ placeB n.devs (X, Y) = true ∧ rightB p = true := by
    have q := HWE.out.symm.trans HEE.out
    by_cases h1 : plainE n.devs n.ls = 0
    · rw [if_pos h1] at q
      cases h2 : placeB n.devs (X, Y)
      · rw [h2] at q; cases q
      · rw [h2] at q
        cases h3 : rightB p
        · rw [h3] at q; cases q
        · exact ⟨h1, rfl, rfl⟩
    · rw [if_neg h1] at q; exact absurd q h1
  obtain ⟨len, hlen⟩ : ∃ len, l.length = len := ⟨_, rfl⟩
  have hl0 : 0 < len := by rw [← hlen, hmo]; simp
  rw [hlen] at hS h40 hc ⊢
  have HLL := hide hlen
  have HS := hide hS
  have HWI := hide hWI
  have HMO := hide hmo
  have HAL := hide hall
  have HVA := hide (way_valid hall.1 hWI hmo hall.2.1)
  clear hWT hO hS hWI hmo hall hlen HWE HEE
  obtain ⟨c0, c1⟩ : w10.cell? ⟨W.heap.size, 0, none⟩ = some (.slice n.dA n.dn n.dc) ∧ w10.cell? ⟨W.heap.size, 1, none⟩ = some (.slice n.lA n.ln n.lc) := ⟨(HX10.out.get 0 rfl).1 0 _ rfl, (HX10.out.get 0 rfl).1 1 _ rfl⟩
  have HNW := hide (stepNew_ok n w10 (HNA.out _ HX10.out.bl) (plain_net HAL.out.1))
  go_wp2_with fail
  refine HNW.out.mono ?_
  clear HNW c0 c1
  rintro e w11 ⟨g, f, o, b, m', rfl, hM, hd, hls, ⟨hg, hf, ho, hbb⟩, hb⟩
  have HF := hide (FA.new HX10.out hM ⟨hf, ho, hbb⟩ hb)
  have HS11 := hide (HS.out.below hb hb.size)
  have HN := hide (And.intro hd hls)
  clear HX10 hM hd hls hf ho hbb hb hg HS HNA
  obtain ⟨bA, oA, rfl, _, _⟩ := HS11.out.2 hl0
  -- R9
  go_wp2_with fail
  refine wp_region_abs (by kernel_rfl) (by kernel_rfl) ?_
  intro T hT gt hg1 hgi
  have HGT := hide hg1
  have HGI := hide hgi
  clear hg1 hgi
  have hx0 : l[0]? = some (X, Y) := by rw [HMO.out]; rfl
  have HX0 := hide hx0
  clear hx0
  have q0 : ∀ t, (gt t).cell? ⟨bA, oA, none⟩ = some (.int .i64 X) := fun t => by have := ((HS11.out.below (HGT.out t) (HGT.out t).size).get HX0.out).2 0 _ rfl; simpa using this
  have q1 : ∀ t, (gt t).cell? ⟨bA, oA + 1, none⟩ = some (.int .i64 Y) := fun t => by have := ((HS11.out.below (HGT.out t) (HGT.out t).size).get HX0.out).2 1 _ rfl; simpa using this
  have b0 : ∀ t, (gt t).cell? ⟨W.heap.size + 1, 0, none⟩ = some (.int .i64 X) := fun t => ((HF.out.below (HGT.out t)).box.get 1 rfl).1 0 _ rfl
  have b1 : ∀ t, (gt t).cell? ⟨W.heap.size + 1, 1, none⟩ = some (.int .i64 Y) := fun t => ((HF.out.below (HGT.out t)).box.get 1 rfl).1 1 _ rfl
  have z1 : ((len : Int) == 0) = false := by simp; omega
  repeat (go_big_quiet_step (fail))
  refine wpQuiet_nil ?_
  intro _ hw'
  obtain ⟨t, rfl⟩ := hw'
  have HF0 := hide (HF.out.below (HGT.out t))
  have HS0 := hide (HS11.out.below (HGT.out t) (HGT.out t).size)
  generalize gt t = w12 at *
  clear q0 q1 b0 b1 z1 HGT HGI HF HS11 HX0
  go_wp2_with fail
  -- LOOP
  go_loopw [89] (fun i wr => ∃ k : Nat, k ≤ len ∧ i = .int .i64 k ∧ Hid (FA W [(W.heap.size, #[.slice n.dA n.dn n.dc, .slice n.lA n.ln n.lc]), (W.heap.size + 1, #[.int .i64 X, .int .i64 Y]), (W.heap.size + 1 + 1, #[.int .i64 p.src, .int .i64 p.dst, .int .i64 p.sport, .int .i64 p.dport])] g m' f o b MS.empty k wr) ∧ Hid (SlAt plCells 2 wr wr.heap.size (some ⟨bA, oA, none⟩) len l)) (fun i _ => len - (intOf i).toNat)
  case atStart => exact ⟨0, Nat.zero_le _, rfl, HF0, HS0⟩
  case round =>
    clear HF0 HS0
    obtain ⟨k, hk, rfl, HF, HS⟩ := hrel
    by_cases hlt : k < len
    case neg =>
      go_wp2
      go_ret
      exact ⟨ret_bool (by simp), HF.out.box.bl⟩
    obtain ⟨x, hx⟩ : ∃ x, l[k]? = some x := ⟨_, List.getElem?_eq_getElem (by have := HLL.out; omega)⟩
    have hg := (HS.out.get hx).2
    have q0 := hg 0 _ rfl
    have q1 := hg 1 _ rfl
    rw [Nat.add_zero] at q0
    have hany := any_taken HWI.out.nd hx
    have hv := HVA.out k x hx
    have hhand := plain_hand HAL.out.1 MS.empty 0 hv HAL.out.2.2
    have hxo : i64ok x.1 ∧ i64ok x.2 := by
      have h1 := placeB_iff.1 hv
      have h2 := (plainE_ok HAL.out.1).dl
      have h3 := portsF_range (kindAt n.devs x.1)
      unfold i64ok; omega
    have HXX := hide hx
    have HAN := hide hany
    have HHD := hide hhand
    have HXO := hide hxo
    clear hg hx hany hv hhand hxo
    obtain ⟨x1, x2⟩ := x
    simp only at q0 q1 HAN HHD HXO
    obtain ⟨p0, p1, p2, p3⟩ := cells4 (HF.out.box.get 2 rfl)
    have hp4 : ∀ o', (wr.alloc o').cell? ⟨W.heap.size + 1 + 1, 0, none⟩ = some (.int .i64 p.src) ∧ (wr.alloc o').cell? ⟨W.heap.size + 1 + 1, 1, none⟩ = some (.int .i64 p.dst) ∧ (wr.alloc o').cell? ⟨W.heap.size + 1 + 1, 2, none⟩ = some (.int .i64 p.sport) ∧ (wr.alloc o').cell? ⟨W.heap.size + 1 + 1, 3, none⟩ = some (.int .i64 p.dport) := fun o' => cells4 ((HF.out.below ((Below.refl _ _).alloc (Nat.le_refl _) o')).box.get 2 rfl)
    have p0 := fun o' => (hp4 o').1
    have p1 := fun o' => (hp4 o').2.1
    have p2 := fun o' => (hp4 o').2.2.1
    have p3 := fun o' => (hp4 o').2.2.2
    clear hp4
    go_wp2_with fail
    have HF1 := hide (HF.out.start.al #[.int .i64 x1, .int .i64 x2] 34).done
    have hba : Below wr.heap.size wr (wr.alloc (.cells #[.int .i64 x1, .int .i64 x2] 34)) := (Below.refl _ _).alloc (Nat.le_refl _) _
    have HS1 := hide (HS.out.below hba hba.size)
    clear hba
    obtain ⟨N2, hN2⟩ : ∃ N2, wr.heap.size = N2 := ⟨_, rfl⟩
    rw [hN2] at HF1 ⊢
    clear hN2 HF HS q0 q1 p0 p1 p2 p3
    generalize World.alloc wr _ = w1 at *
    have HHW := hide (fun (S : HandS) (hS : handS m'.devs m'.ls MS.empty x1 x2 p 0 = S) => HF1.out.start.hand (i := x1) (y := x2) (p := p) (ch := 0) (by rw [HN.out.1, HN.out.2]; exact plain_net HAL.out.1) HXO.out.1 HXO.out.2 HPO.out (by unfold i64ok; omega) (by omega) hS)
    by_cases hk1 : k + 1 < len
    case pos =>
      obtain ⟨y, hy⟩ : ∃ y, l[k + 1]? = some y := ⟨_, List.getElem?_eq_getElem (by have := HLL.out; omega)⟩
      have hnx := HWI.out.next k _ y HXX.out hy
      have HYY := hide hy
      clear hy
      obtain ⟨y1, y2⟩ := y
      have hlast : ((k : Int) == (len : Int) - 1) = false := by simp; omega
      have HS2 := hide (show handS m'.devs m'.ls MS.empty x1 x2 p 0 = ⟨0, (y1, y2), p, .nothing⟩ from by rw [HN.out.1, HN.out.2]; rw [HHD.out, hnx])
      clear hnx
      have HH := hide (HHW.out _ HS2.out)
      simp only [HandS.val, HandS.bad, MS.learn] at HH
      clear HHW HS2
      refine HH.out.mono ?_
      rintro e w2 ⟨rfl, hB⟩
      have HSa := hide (HS1.out.stay (hB.f0.mem.stay hB.near) (fun _ _ => trivial) hB.near.size)
      have HF2 := hide hB.fa
      clear hB HF1 HS1 HH
      go_wp2_with fail
      have HF3 := hide (HF2.out.start.al #[.int .i64 y1, .int .i64 y2, .int .i64 p.src, .int .i64 p.dst, .int .i64 p.sport, .int .i64 p.dport] 91).done
      have hba : Below w2.heap.size w2 (w2.alloc (.cells #[.int .i64 y1, .int .i64 y2, .int .i64 p.src, .int .i64 p.dst, .int .i64 p.sport, .int .i64 p.dport] 91)) := (Below.refl _ _).alloc (Nat.le_refl _) _
      have HS3 := hide (HSa.out.below hba hba.size)
      clear hba
      obtain ⟨N3, hN3⟩ : ∃ N3, w2.heap.size = N3 := ⟨_, rfl⟩
      rw [hN3] at HF3
      rw [hN3]
      clear hN3 HF2 HSa
      generalize World.alloc w2 _ = w3 at *
      refine wp_region_abs (by kernel_rfl) (by kernel_rfl) ?_
      intro T hT gt hg1 hgi
      have HGT := hide hg1
      have HGI := hide hgi
      clear hg1 hgi
      have b0 : ∀ t, (gt t).cell? ⟨N2, 0, none⟩ = some (.int .i64 x1) := fun t => ((HF3.out.below (HGT.out t)).box.get 1 rfl).1 0 _ rfl
      have b1 : ∀ t, (gt t).cell? ⟨N2, 1, none⟩ = some (.int .i64 x2) := fun t => ((HF3.out.below (HGT.out t)).box.get 1 rfl).1 1 _ rfl
      have HC1 := hide (fun t => containsPl_any (l.take k) (some ⟨bA, oA, none⟩) k c x1 x2 (gt t) (by omega) ((HS3.out.below (HGT.out t) (HGT.out t).size).take (by omega)))
      simp only [HAN.out] at HC1
      have d0 : ∀ t, (gt t).cell? ⟨N3, 0, none⟩ = some (.int .i64 y1) := fun t => ((HF3.out.below (HGT.out t)).box.get 0 rfl).1 0 _ rfl
      have d1 : ∀ t, (gt t).cell? ⟨N3, 1, none⟩ = some (.int .i64 y2) := fun t => ((HF3.out.below (HGT.out t)).box.get 0 rfl).1 1 _ rfl
      have q0 : ∀ t, (gt t).cell? ⟨bA, oA + (k + 1) * 2, none⟩ = some (.int .i64 y1) := fun t => by have := ((HS3.out.below (HGT.out t) (HGT.out t).size).get HYY.out).2 0 _ rfl; simpa using this
      have q1 : ∀ t, (gt t).cell? ⟨bA, oA + (k + 1) * 2 + 1, none⟩ = some (.int .i64 y2) := fun t => ((HS3.out.below (HGT.out t) (HGT.out t).size).get HYY.out).2 1 _ rfl
      have i1 : (k : Int) + 1 < (len : Int) := by omega
      have i0 : 0 ≤ (k : Int) + 1 := by omega
      have i2 : ((k : Int) + 1).toNat = k + 1 := by omega
      have i3 : (k : Int) ≤ (c : Int) := by omega
      have i4 : 0 ≤ (k : Int) := by omega
      repeat (go_big_quiet_step ((go_at_call 58; exact inAbs HGT.out HGI.out (HC1.out _))))
      refine wpQuiet_nil ?_
      intro _ hw'
      obtain ⟨t, rfl⟩ := hw'
      have HF4 := hide (HF3.out.below (HGT.out t)).less.less
      have HS4 := hide (HS3.out.below (HGT.out t) (HGT.out t).size)
      generalize gt t = w4 at *
      clear b0 b1 HC1 HGT HGI HF3 HS3
      go_wp2
      go_roundw
      case rel => exact ⟨k + 1, by omega, by go_num, HF4, HS4⟩
      case measure => simp [intOf]; omega
    have hlast : ((k : Int) == (len : Int) - 1) = true := by simp; omega
    rcases HWI.out.last k _ HXX.out (by have := HLL.out; omega) with ⟨rfl, hnx⟩ | ⟨rfl, ⟨y1, y2⟩, hmem, hnx⟩
    case inl =>
      have HS2 := hide (show handS m'.devs m'.ls MS.empty x1 x2 p 0 = .bad 7 from by rw [HN.out.1, HN.out.2]; rw [HHD.out, hnx])
      clear hnx
      have HH := hide (HHW.out _ HS2.out)
      simp only [HandS.val, HandS.bad, MS.learn] at HH
      clear HHW HS2
      refine HH.out.mono ?_
      rintro e w2 ⟨rfl, hB⟩
      have HSa := hide (HS1.out.stay (hB.f0.mem.stay hB.near) (fun _ _ => trivial) hB.near.size)
      have HF2 := hide hB.fa
      clear hB HF1 HS1 HH
      go_wp2_with fail
      have HF3 := hide (HF2.out.start.al #[.int .i64 0, .int .i64 0, .int .i64 0, .int .i64 0, .int .i64 0, .int .i64 0] 91).done
      have hba : Below w2.heap.size w2 (w2.alloc (.cells #[.int .i64 0, .int .i64 0, .int .i64 0, .int .i64 0, .int .i64 0, .int .i64 0] 91)) := (Below.refl _ _).alloc (Nat.le_refl _) _
      have HS3 := hide (HSa.out.below hba hba.size)
      clear hba
      obtain ⟨N3, hN3⟩ : ∃ N3, w2.heap.size = N3 := ⟨_, rfl⟩
      rw [hN3] at HF3
      rw [hN3]
      clear hN3 HF2 HSa
      generalize World.alloc w2 _ = w3 at *
      refine wp_region_abs (by kernel_rfl) (by kernel_rfl) ?_
      intro T hT gt hg1 hgi
      have HGT := hide hg1
      have HGI := hide hgi
      clear hg1 hgi
      have b0 : ∀ t, (gt t).cell? ⟨N2, 0, none⟩ = some (.int .i64 x1) := fun t => ((HF3.out.below (HGT.out t)).box.get 1 rfl).1 0 _ rfl
      have b1 : ∀ t, (gt t).cell? ⟨N2, 1, none⟩ = some (.int .i64 x2) := fun t => ((HF3.out.below (HGT.out t)).box.get 1 rfl).1 1 _ rfl
      have HC1 := hide (fun t => containsPl_any (l.take k) (some ⟨bA, oA, none⟩) k c x1 x2 (gt t) (by omega) ((HS3.out.below (HGT.out t) (HGT.out t).size).take (by omega)))
      simp only [HAN.out] at HC1
      have i3 : (k : Int) ≤ (c : Int) := by omega
      have i4 : 0 ≤ (k : Int) := by omega
      repeat (go_big_quiet_step ((go_at_call 58; exact inAbs HGT.out HGI.out (HC1.out _))))
      refine wpQuiet_nil ?_
      intro _ hw'
      obtain ⟨t, rfl⟩ := hw'
      have HF4 := hide (HF3.out.below (HGT.out t)).less.less
      have HS4 := hide (HS3.out.below (HGT.out t) (HGT.out t).size)
      generalize gt t = w4 at *
      clear b0 b1 HC1 HGT HGI HF3 HS3
      go_wp2
      go_roundw
      case rel => exact ⟨k + 1, by omega, by go_num, HF4, HS4⟩
      case measure => simp [intOf]; omega
    case inr =>
      have HME := hide (any_mem hmem)
      clear hmem
      have HS2 := hide (show handS m'.devs m'.ls MS.empty x1 x2 p 0 = ⟨0, (y1, y2), p, .nothing⟩ from by rw [HN.out.1, HN.out.2]; rw [HHD.out, hnx])
      clear hnx
      have HH := hide (HHW.out _ HS2.out)
      simp only [HandS.val, HandS.bad, MS.learn] at HH
      clear HHW HS2
      refine HH.out.mono ?_
      rintro e w2 ⟨rfl, hB⟩
      have HSa := hide (HS1.out.stay (hB.f0.mem.stay hB.near) (fun _ _ => trivial) hB.near.size)
      have HF2 := hide hB.fa
      clear hB HF1 HS1 HH
      go_wp2_with fail
      have HF3 := hide (HF2.out.start.al #[.int .i64 y1, .int .i64 y2, .int .i64 p.src, .int .i64 p.dst, .int .i64 p.sport, .int .i64 p.dport] 91).done
      have hba : Below w2.heap.size w2 (w2.alloc (.cells #[.int .i64 y1, .int .i64 y2, .int .i64 p.src, .int .i64 p.dst, .int .i64 p.sport, .int .i64 p.dport] 91)) := (Below.refl _ _).alloc (Nat.le_refl _) _
      have HS3 := hide (HSa.out.below hba hba.size)
      clear hba
      obtain ⟨N3, hN3⟩ : ∃ N3, w2.heap.size = N3 := ⟨_, rfl⟩
      rw [hN3] at HF3
      rw [hN3]
      clear hN3 HF2 HSa
      generalize World.alloc w2 _ = w3 at *
      refine wp_region_abs (by kernel_rfl) (by kernel_rfl) ?_
      intro T hT gt hg1 hgi
      have HGT := hide hg1
      have HGI := hide hgi
      clear hg1 hgi
      have b0 : ∀ t, (gt t).cell? ⟨N2, 0, none⟩ = some (.int .i64 x1) := fun t => ((HF3.out.below (HGT.out t)).box.get 1 rfl).1 0 _ rfl
      have b1 : ∀ t, (gt t).cell? ⟨N2, 1, none⟩ = some (.int .i64 x2) := fun t => ((HF3.out.below (HGT.out t)).box.get 1 rfl).1 1 _ rfl
      have HC1 := hide (fun t => containsPl_any (l.take k) (some ⟨bA, oA, none⟩) k c x1 x2 (gt t) (by omega) ((HS3.out.below (HGT.out t) (HGT.out t).size).take (by omega)))
      simp only [HAN.out] at HC1
      have d0 : ∀ t, (gt t).cell? ⟨N3, 0, none⟩ = some (.int .i64 y1) := fun t => ((HF3.out.below (HGT.out t)).box.get 0 rfl).1 0 _ rfl
      have d1 : ∀ t, (gt t).cell? ⟨N3, 1, none⟩ = some (.int .i64 y2) := fun t => ((HF3.out.below (HGT.out t)).box.get 0 rfl).1 1 _ rfl
      have HC2 := hide (fun t => containsPl_any l (some ⟨bA, oA, none⟩) len c y1 y2 (gt t) (by omega) (HS3.out.below (HGT.out t) (HGT.out t).size))
      simp only [HME.out] at HC2
      have i3 : (k : Int) ≤ (c : Int) := by omega
      have i4 : 0 ≤ (k : Int) := by omega
      repeat (go_big_quiet_step ((go_at_call 58; first | exact inAbs HGT.out HGI.out (HC1.out _) | exact inAbs HGT.out HGI.out (HC2.out _))))
      refine wpQuiet_nil ?_
      intro _ hw'
      obtain ⟨t, rfl⟩ := hw'
      have HF4 := hide (HF3.out.below (HGT.out t)).less.less
      have HS4 := hide (HS3.out.below (HGT.out t) (HGT.out t).size)
      generalize gt t = w4 at *
      clear b0 b1 HC1 HGT HGI HF3 HS3
      go_wp2
      go_roundw
      case rel => exact ⟨k + 1, by omega, by go_num, HF4, HS4⟩
      case measure => simp [intOf]; omega
end Go.Proofs.Ytidikopjfpioaaa
