/- wireward/wirelaw.WorldPlays: whatever is handed in, it returns true, and leaves the input as it reads. -/
import Derived.Test.YthaiffjalgionaaWp37

set_option linter.unusedVariables false
set_option linter.unusedSimpArgs false
namespace Go.Proofs.Ythaiffjalgionaa
open Go.RowKit Go.Maps

set_option maxRecDepth 100000 in
set_option maxHeartbeats 16000000 in
theorem worldPlays_walk (n : NetV) (A : Option Addr) (nl c : Nat) (l : List ActV) (W : World) (hn : NetAt W W.heap.size n) (hl : SlAt ActV.cells 8 W W.heap.size A nl l) (hlo : ∀ r ∈ l, r.ok) (hlc : nl ≤ c ∧ c ≤ maxLen) :
    Calls Try.prog 6 #[n.val, .slice A nl c] W fun e W' => e = .returned (.bool true) ∧ Below W.heap.size W W' := by
  have HNA := hide (fun (w' : World) (hb : Below W.heap.size W w') => show NetAt w' w'.heap.size n from hn.below hb hb.size)
  have HON := hide (net_on_below hn)
  have HL := hide (fun (w' : World) (hb : Below W.heap.size W w') => hl.below hb hb.size)
  have HLN := hide hl.1
  have HLO := hide hlo
  have n3 : nl ≤ 9223372036854775807 := by have := hlc.1; have := hlc.2; unfold maxLen at *; omega
  have hc1 := hlc.1
  clear hn hl hlo hlc
  show Calls _ _ #[.agg #[.slice n.dA n.dn n.dc, .slice n.lA n.ln n.lc], _] W _
  go_enter Try.func6, Try.ntmps6
  go_wp2_with fail
  generalize hG : World.alloc W _ = W1
  have HX1 := hide (boxes1 hG).1
  clear hG
  obtain ⟨c0, c1⟩ : W1.cell? ⟨W.heap.size, 0, none⟩ = some (.slice n.dA n.dn n.dc) ∧ W1.cell? ⟨W.heap.size, 1, none⟩ = some (.slice n.lA n.ln n.lc) := ⟨(HX1.out.get 0 rfl).1 0 _ rfl, (HX1.out.get 0 rfl).1 1 _ rfl⟩
  by_cases hE : netE n.devs n.ls = 0
  case neg =>
    have HNW := hide (fun (w' : World) (h : NetAt w' w'.heap.size n) => worldNew_bad n w' h hE)
    have HRN := hide (fun (w' : World) (h : NetAt w' w'.heap.size n) => refNet_walk n w' h)
    obtain ⟨E, hEE⟩ : ∃ E, netE n.devs n.ls = E := ⟨_, rfl⟩
    rw [hEE] at HNW HRN hE
    clear hEE
    have e1 : (E == 0) = false := by simpa using hE
    have e2 : (E != 0) = true := by simpa using hE
    clear hE
    go_wp2_with fail
    refine (HNW.out W1 (HNA.out _ HX1.out.bl)).mono ?_
    rintro e w7 ⟨rfl, hb⟩
    have HX7 := hide (HX1.out.below hb)
    clear hb HX1 c0 c1
    obtain ⟨c0, c1⟩ : w7.cell? ⟨W.heap.size, 0, none⟩ = some (.slice n.dA n.dn n.dc) ∧ w7.cell? ⟨W.heap.size, 1, none⟩ = some (.slice n.lA n.ln n.lc) := ⟨(HX7.out.get 0 rfl).1 0 _ rfl, (HX7.out.get 0 rfl).1 1 _ rfl⟩
    go_wp2_with fail
    refine (HRN.out w7 (HNA.out _ HX7.out.bl)).mono ?_
    rintro e w8 ⟨rfl, hb⟩
    have HX8 := hide (HX7.out.below hb)
    clear hb HX7 c0 c1 HNW
    go_wp2
    go_ret
    exact ⟨ret_bool (by simp), HX8.out.bl⟩
  have HE := hide hE
  have HNW := hide (fun (w' : World) (hb : Below W.heap.size W w') => worldNew_S n W w' hb.size (HNA.out _ hb) HON.out HE.out)
  have HRN := hide (fun (w' : World) (h : NetAt w' w'.heap.size n) => refNet_walk n w' h)
  rw [hE] at HRN
  clear hE
  go_wp2_with fail
  refine (HNW.out W1 HX1.out.bl).mono ?_
  clear c0 c1
  rintro e w7 ⟨gw, F1, rfl, hw, hb1, hF1⟩
  have HX7 := hide (HX1.out.below hb1)
  have HWS := hide hw
  have HF1 := hide hF1
  have hs1 := hb1.size
  have hsW1 := HX1.out.bl.size
  have hx1l := (HX1.out.bx _ (List.mem_of_getElem? (i := 0) rfl)).2
  clear hw hb1 hF1 HNW
  obtain ⟨c0, c1⟩ : w7.cell? ⟨W.heap.size, 0, none⟩ = some (.slice n.dA n.dn n.dc) ∧ w7.cell? ⟨W.heap.size, 1, none⟩ = some (.slice n.lA n.ln n.lc) := ⟨(HX7.out.get 0 rfl).1 0 _ rfl, (HX7.out.get 0 rfl).1 1 _ rfl⟩
  go_wp2_with fail
  refine (HRN.out w7 (HNA.out _ HX7.out.bl)).mono ?_
  rintro e w8 ⟨rfl, hb⟩
  have HX8 := hide (HX7.out.below hb)
  have HW8 := hide (HWS.out.below hb)
  have hs8 := hb.size
  clear hb c0 c1 HX7
  obtain ⟨c0, c1⟩ : w8.cell? ⟨W.heap.size, 0, none⟩ = some (.slice n.dA n.dn n.dc) ∧ w8.cell? ⟨W.heap.size, 1, none⟩ = some (.slice n.lA n.ln n.lc) := ⟨(HX8.out.get 0 rfl).1 0 _ rfl, (HX8.out.get 0 rfl).1 1 _ rfl⟩
  by_cases hl80 : 80 < nl
  case pos =>
    have h1 : (80 : Int) < (nl : Int) := by omega
    go_wp2
    go_ret
    exact ⟨ret_bool (by simp), HX8.out.bl⟩
  have d1 : decide ((80 : Int) < (nl : Int)) = false := by simp; omega
  go_wp2_with fail
  clear d1 HRN
  -- R7
  have HNT := hide (fun (w' : World) (hb : Below W.heap.size W w') => newTale_walk n W w' hb.size (HNA.out _ hb) HON.out)
  have HNC := hide (fun (w' : World) (hb : Below w8.heap.size w8 w') => show w'.cell? ⟨W.heap.size, 0, none⟩ = some (.slice n.dA n.dn n.dc) ∧ w'.cell? ⟨W.heap.size, 1, none⟩ = some (.slice n.lA n.ln n.lc) from ⟨((HX8.out.below hb).get 0 rfl).1 0 _ rfl, ((HX8.out.below hb).get 0 rfl).1 1 _ rfl⟩)
  clear c0 c1
  refine wp_region_E (fun w' => w'.cell? ⟨W.heap.size, 0, none⟩ = some (.slice n.dA n.dn n.dc) ∧ w'.cell? ⟨W.heap.size, 1, none⟩ = some (.slice n.lA n.ln n.lc)) 3 (by kernel_rfl) (HNC.out _ (Below.refl _ _).drew) (fun hS inv => ?_)
  refine wpAnyE_load (i := 0) (v := ?_) [1, 3] rfl (by kernel_rfl) (by kernel_rfl) (by kernel_rfl) (by kernel_rfl) (fun _ _ _ h => h) inv (Or.inl ⟨by rfl, ?_⟩) hS (fun inv2 => ?_)
  rotate_left
  · intro w hSw
    obtain ⟨s0, s1⟩ := hSw
    go_simp
    try with_reducible rfl
  clear inv
  have inv := inv2
  clear inv2
  try simp only [Act.put, nrmA, nrmB, nrmC]
  refine wpAnyE_load (i := 2) (v := ?_) [3] rfl (by kernel_rfl) (by kernel_rfl) (by kernel_rfl) (by kernel_rfl) (fun _ _ _ h => h) inv (Or.inl ⟨by rfl, ?_⟩) hS (fun inv2 => ?_)
  rotate_left
  · intro w hSw
    obtain ⟨s0, s1⟩ := hSw
    go_simp
    try with_reducible rfl
  clear inv
  have inv := inv2
  clear inv2
  try simp only [Act.put, nrmA, nrmB, nrmC]
  refine wpAnyE_one (i := 1) rfl (by kernel_rfl) inv (fun K hK => ?_)
  go_simp
  refine (HNT.out _ HX8.out.bl.drew).mono ?_
  rintro e w9 ⟨g2, F2, rfl, ht, hb, hF2⟩
  have hb9 : Below w8.heap.size w8 w9 := (Below.refl _ _).drew.trans hb
  have HB9 := hide hb9
  have HT9 := hide ht
  have HF2 := hide hF2
  clear ht hb hb9 hF2
  go_wp2_with fail
  refine hK.out _ _ (fun _ => (HNC.out _ HB9.out)) (fun inv2 => ?_)
  clear hK K hS
  clear inv
  have inv := inv2
  clear inv2
  try simp only [Act.put, nrmA, nrmB, nrmC]
  refine wpAnyE_late (i := 3) rfl (by kernel_rfl) inv (by kernel_rfl) (fun K hK => ?_)
  go_simp
  refine (HNT.out _ (HX8.out.bl.trans (HB9.out.mono HX8.out.bl.size))).mono ?_
  rintro e w10 ⟨g3, F3, rfl, hu, hb, hF3⟩
  have HB10 := hide hb
  have HU := hide hu
  have HF3 := hide hF3
  clear hu hb hF3
  go_wp2_with fail
  refine hK.out _ _ (fun inv2 => ?_)
  clear hK K
  clear inv
  have inv := inv2
  clear inv2
  try simp only [Act.put, nrmA, nrmB, nrmC]
  refine wpAnyE_late (i := 4) rfl (by kernel_rfl) inv (by kernel_rfl) (fun K hK => ?_)
  go_simp
  refine hK.out _ _ (fun inv2 => ?_)
  clear hK K
  clear inv
  have inv := inv2
  clear inv2
  try simp only [Act.put, nrmA, nrmB, nrmC]
  refine wpAnyE_late (i := 5) rfl (by kernel_rfl) inv (by kernel_rfl) (fun K hK => ?_)
  go_simp
  refine hK.out _ _ (fun inv2 => ?_)
  clear hK K
  clear inv
  have inv := inv2
  clear inv2
  try simp only [Act.put, nrmA, nrmB, nrmC]
  refine wpAnyE_done (by kernel_rfl) ?_ _
  clear inv
  have HP := hide (show L3 W [(W.heap.size, #[.slice n.dA n.dn n.dc, .slice n.lA n.ln n.lc])] F1 F2 F3 gw g2 g3 n (stS n.devs n.ls l 0) 0 (stT n.devs n.ls l 0) (stT n.devs n.ls l 0) w10 from by
    have q9 := HB9.out.size
    have q10 := HB10.out.size
    have hf1 := HW8.out.fo
    have hf2 := HT9.out.fo
    exact ⟨(HX8.out.below HB9.out).below HB10.out, (HW8.out.below HB9.out).below HB10.out, HT9.out.below HB10.out, HU.out, fun j a b => by have := (hf1 j a).2; have := HF2.out j b; simp at *; omega, fun j a b => by have := (hf1 j a).2; have := HF3.out j b; omega, fun j a b => by have := (hf2 j a).2; have := HF3.out j b; omega, fun x hx => by
      obtain rfl := List.mem_singleton.1 hx
      refine ⟨fun e => by have := HF1.out _ e; simp only at this; omega, fun e => by have := HF2.out _ e; simp at *; omega, fun e => by have := HF3.out _ e; simp only at this; omega⟩⟩)
  clear HX1 HX8 HW8 HWS HF1 HF2 HF3 HT9 HU HB9 HB10 HNT HNC hs1 hsW1 hx1l hs8
  have hl81 : nl ≤ 80 := by omega
  clear hl80
  go_wp2_with fail
  -- LOOP1
  go_loopw [47] (fun i wr => ∃ (k : Nat) (F1 F2 : Nat → Prop), k ≤ nl ∧ i = .int .i64 k ∧ Hid (L3 W [(W.heap.size, #[.slice n.dA n.dn n.dc, .slice n.lA n.ln n.lc])] F1 F2 F3 gw g2 g3 n (stS n.devs n.ls l k) k (stT n.devs n.ls l k) (stT n.devs n.ls l 0) wr)) (fun i _ => nl - (intOf i).toNat)
  case atStart => exact ⟨0, F1, F2, Nat.zero_le _, rfl, HP⟩
  case round =>
    clear HP
    obtain ⟨k, F1, F2, hk, rfl, HP⟩ := hrel
    by_cases hlt : k < nl
    case pos =>
      obtain ⟨x, hx⟩ : ∃ x, l[k]? = some x := ⟨_, List.getElem?_eq_getElem (by have := HLN.out; omega)⟩
      have hsl := HL.out _ HP.out.box.bl
      obtain ⟨bA, oA, rfl, hbB, _⟩ := hsl.2 (by omega)
      obtain ⟨q0, q1, q2, q3, q4, q5, q6, q7⟩ := act_cells hsl hx
      have HXK := hide (HLO.out x (List.mem_of_getElem? hx))
      have HXL := hide hx
      clear hx hsl hbB
      go_wp2_with fail
      have HG := hide (HP.out.al #[.int .i64 x.kind, .int .i64 x.dev, .int .i64 x.port, .int .i64 x.p.src, .int .i64 x.p.dst, .int .i64 x.p.sport, .int .i64 x.p.dport, .int .i64 x.ch] 79)
      obtain ⟨N, hN⟩ : ∃ N, wr.heap.size = N := ⟨_, rfl⟩
      rw [hN] at HG
      rw [hN]
      clear hN HP q0 q1 q2 q3 q4 q5 q6 q7
      generalize World.alloc wr _ = w11 at *
      obtain ⟨R, hR⟩ : ∃ R, cdS n.devs n.ls l k = R := ⟨_, rfl⟩
      have HDA := hide (fun (w' : World) (F1 F2 : Nat → Prop) (T : TS) (h : L3 W ((N, #[.int .i64 x.kind, .int .i64 x.dev, .int .i64 x.port, .int .i64 x.p.src, .int .i64 x.p.dst, .int .i64 x.p.sport, .int .i64 x.p.dport, .int .i64 x.ch]) :: [(W.heap.size, #[.slice n.dA n.dn n.dc, .slice n.lA n.ln n.lc])]) F1 F2 F3 gw g2 g3 n (stS n.devs n.ls l k) k T (stT n.devs n.ls l 0) w') => h.doA HE.out HXL.out HXK.out (by omega))
      have HDT := hide (fun (w' : World) (F1 F2 : Nat → Prop) (Z : WS) (k' : Nat) (h : L3 W ((N, #[.int .i64 x.kind, .int .i64 x.dev, .int .i64 x.port, .int .i64 x.p.src, .int .i64 x.p.dst, .int .i64 x.p.sport, .int .i64 x.p.dport, .int .i64 x.ch]) :: [(W.heap.size, #[.slice n.dA n.dn n.dc, .slice n.lA n.ln n.lc])]) F1 F2 F3 gw g2 g3 n Z k' (stT n.devs n.ls l k) (stT n.devs n.ls l 0) w') => h.doT HE.out HXL.out HXK.out (by omega) (by have := stT_slen HE.out l k; omega))
      simp only [hR] at HDA HDT
      clear hR
      -- R11
      refine wp_region_E (fun w' => w'.cell? ⟨N, 0, none⟩ = some (.int .i64 x.kind) ∧ w'.cell? ⟨N, 1, none⟩ = some (.int .i64 x.dev) ∧ w'.cell? ⟨N, 2, none⟩ = some (.int .i64 x.port) ∧ w'.cell? ⟨N, 3, none⟩ = some (.int .i64 x.p.src) ∧ w'.cell? ⟨N, 4, none⟩ = some (.int .i64 x.p.dst) ∧ w'.cell? ⟨N, 5, none⟩ = some (.int .i64 x.p.sport) ∧ w'.cell? ⟨N, 6, none⟩ = some (.int .i64 x.p.dport) ∧ w'.cell? ⟨N, 7, none⟩ = some (.int .i64 x.ch)) 5 (by kernel_rfl) (cells8 (HG.out.d.box.get 0 rfl)) (fun hS inv => ?_)
      refine wpAnyE_pure (i := 0) (v := ?_) rfl (by kernel_rfl) (by kernel_rfl) (by kernel_rfl) (by kernel_rfl) (fun _ _ _ h => h) inv (Or.inl ⟨by rfl, ?_⟩) (fun _ => hS) (fun inv2 => ?_)
      rotate_left
      · intro w _
        go_simp
        try with_reducible rfl
      clear inv
      have inv := inv2
      clear inv2
      try simp only [Act.put, nrmA, nrmB, nrmC]
      refine wpAnyE_load (i := 1) (v := ?_) [2, 5] rfl (by kernel_rfl) (by kernel_rfl) (by kernel_rfl) (by kernel_rfl) (fun _ _ _ h => h) inv (Or.inl ⟨by rfl, ?_⟩) hS (fun inv2 => ?_)
      rotate_left
      · intro w hSw
        obtain ⟨s0, s1, s2, s3, s4, s5, s6, s7⟩ := hSw
        go_simp
        try with_reducible rfl
      clear inv
      have inv := inv2
      clear inv2
      try simp only [Act.put, nrmA, nrmB, nrmC]
      refine wpAnyE_pure (i := 3) (v := ?_) rfl (by kernel_rfl) (by kernel_rfl) (by kernel_rfl) (by kernel_rfl) (fun _ _ _ h => h) inv (Or.inl ⟨by rfl, ?_⟩) (fun _ => hS) (fun inv2 => ?_)
      rotate_left
      · intro w _
        go_simp
        try with_reducible rfl
      clear inv
      have inv := inv2
      clear inv2
      try simp only [Act.put, nrmA, nrmB, nrmC]
      refine wpAnyE_load (i := 4) (v := ?_) [5] rfl (by kernel_rfl) (by kernel_rfl) (by kernel_rfl) (by kernel_rfl) (fun _ _ _ h => h) inv (Or.inl ⟨by rfl, ?_⟩) hS (fun inv2 => ?_)
      rotate_left
      · intro w hSw
        obtain ⟨s0, s1, s2, s3, s4, s5, s6, s7⟩ := hSw
        go_simp
        try with_reducible rfl
      clear inv
      have inv := inv2
      clear inv2
      try simp only [Act.put, nrmA, nrmB, nrmC]
      refine wpAnyE_one (i := 2) rfl (by kernel_rfl) inv (fun K hK => ?_)
      go_simp
      refine (HDA.out _ _ _ _ HG.out.d).mono ?_
      rintro e w12 ⟨rfl, F1', hg⟩
      have HG := hide hg
      clear hg HDA
      go_wp2_with fail
      refine hK.out _ _ (fun _ => (cells8 (HG.out.box.get 0 rfl))) (fun inv2 => ?_)
      clear hK K hS
      clear inv
      have inv := inv2
      clear inv2
      try simp only [Act.put, nrmA, nrmB, nrmC]
      refine wpAnyE_late (i := 5) rfl (by kernel_rfl) inv (by kernel_rfl) (fun K hK => ?_)
      go_simp
      refine (HDT.out _ _ _ _ _ HG.out).mono ?_
      rintro e w13 ⟨rfl, F2', hg⟩
      have HG := hide hg
      clear hg HDT
      go_wp2_with fail
      refine hK.out _ _ (fun inv2 => ?_)
      clear hK K
      clear inv
      have inv := inv2
      clear inv2
      try simp only [Act.put, nrmA, nrmB, nrmC]
      obtain ⟨Z, hZ⟩ : ∃ Z, stS n.devs n.ls l (k + 1) = Z := ⟨_, rfl⟩
      obtain ⟨T, hT⟩ : ∃ T, stT n.devs n.ls l (k + 1) = T := ⟨_, rfl⟩
      have HST := hide (show Z.S = T.S from by rw [← hZ, ← hT]; exact (rel_at n.devs n.ls l (k + 1)).s)
      have HZT := hide (And.intro hZ hT)
      rw [hZ, hT] at HG
      clear hZ hT
      have hzl : Z.S.length ≤ k + 1 := HG.out.a.lk
      obtain ⟨A2, c2, t1, hsl2⟩ := HG.out.t.seen
      have HSL := hide hsl2
      have HT1 := hide (fun (w' : World) (hb : Below w13.heap.size w13 w') => show w'.cell? ⟨g2, 1, none⟩ = some (.slice A2 T.S.length c2) from (hb.cell (p := ⟨g2, 1, none⟩) (cell_lt t1)).trans t1)
      have HSE := hide (fun (w' : World) (hb : Below w13.heap.size w13 w') => seen_S (HG.out.below hb).a (by omega))
      clear t1 hsl2
      refine wpAnyE_switch _ _ _ _ (by kernel_rfl) (wpAny_of_E (S := fun w' => w'.cell? ⟨g2, 1, none⟩ = some (.slice A2 T.S.length c2)) (s := 14) _ _ _ _ ?_)
      have hS := HT1.out w13 (Below.refl _ _)
      refine wpAnyE_pure (i := 6) (v := ?_) rfl (by kernel_rfl) (by kernel_rfl) (by kernel_rfl) (by kernel_rfl) (fun _ _ _ h => h) inv (Or.inl ⟨by rfl, ?_⟩) (fun _ => hS) (fun inv2 => ?_)
      rotate_left
      · intro w _
        go_simp
        try with_reducible rfl
      clear inv
      have inv := inv2
      clear inv2
      try simp only [Act.put, nrmA, nrmB, nrmC]
      refine wpAnyE_pure (i := 7) (v := ?_) rfl (by kernel_rfl) (by kernel_rfl) (by kernel_rfl) (by kernel_rfl) (fun _ _ _ h => h) inv (Or.inl ⟨by rfl, ?_⟩) (fun _ => hS) (fun inv2 => ?_)
      rotate_left
      · intro w _
        go_simp
        try with_reducible rfl
      clear inv
      have inv := inv2
      clear inv2
      try simp only [Act.put, nrmA, nrmB, nrmC]
      refine wpAnyE_pure (i := 8) (v := ?_) rfl (by kernel_rfl) (by kernel_rfl) (by kernel_rfl) (by kernel_rfl) (fun _ _ _ h => h) inv (Or.inl ⟨by rfl, ?_⟩) (fun _ => hS) (fun inv2 => ?_)
      rotate_left
      · intro w _
        go_simp
        try with_reducible rfl
      clear inv
      have inv := inv2
      clear inv2
      try simp only [Act.put, nrmA, nrmB, nrmC]
      refine wpAnyE_pure (i := 10) (v := ?_) rfl (by kernel_rfl) (by kernel_rfl) (by kernel_rfl) (by kernel_rfl) (fun _ _ _ h => h) inv (Or.inl ⟨by rfl, ?_⟩) (fun _ => hS) (fun inv2 => ?_)
      rotate_left
      · intro w _
        go_simp
        try with_reducible rfl
      clear inv
      have inv := inv2
      clear inv2
      try simp only [Act.put, nrmA, nrmB, nrmC]
      refine wpAnyE_pure (i := 11) (v := ?_) rfl (by kernel_rfl) (by kernel_rfl) (by kernel_rfl) (by kernel_rfl) (fun _ _ _ h => h) inv (Or.inl ⟨by rfl, ?_⟩) (fun _ => hS) (fun inv2 => ?_)
      rotate_left
      · intro w _
        go_simp
        try with_reducible rfl
      clear inv
      have inv := inv2
      clear inv2
      try simp only [Act.put, nrmA, nrmB, nrmC]
      refine wpAnyE_pure (i := 12) (v := ?_) rfl (by kernel_rfl) (by kernel_rfl) (by kernel_rfl) (by kernel_rfl) (fun _ _ _ h => h) inv (Or.inl ⟨by rfl, ?_⟩) (fun _ => hS) (fun inv2 => ?_)
      rotate_left
      · intro w _
        go_simp
        try with_reducible rfl
      clear inv
      have inv := inv2
      clear inv2
      try simp only [Act.put, nrmA, nrmB, nrmC]
      refine wpAnyE_load (i := 13) (v := ?_) [14] rfl (by kernel_rfl) (by kernel_rfl) (by kernel_rfl) (by kernel_rfl) (fun _ _ _ h => h) inv (Or.inl ⟨by rfl, ?_⟩) hS (fun inv2 => ?_)
      rotate_left
      · intro w hSw
        have s0 := hSw
        go_simp
        try with_reducible rfl
      clear inv
      have inv := inv2
      clear inv2
      try simp only [Act.put, nrmA, nrmB, nrmC]
      refine wpAnyE_one (i := 9) rfl (by kernel_rfl) inv (fun K hK => ?_)
      rw [if_pos (by rfl)]
      go_simp
      refine (HSE.out w13 (Below.refl _ _)).mono ?_
      rintro e w14 ⟨A', c', rfl, hcc, hown, hb⟩
      have HB14 := hide hb
      have HOW := hide hown
      clear hb hown HSE
      go_wp2_with fail
      refine hK.out _ _ (fun _ => (HT1.out _ HB14.out)) (fun inv2 => ?_)
      clear hK K hS
      clear inv
      have inv := inv2
      clear inv2
      try simp only [Act.put, nrmA, nrmB, nrmC]
      have HEQ := hide (equalArr_yes T.S A' A2 T.S.length c' c2 w14 (by have e : T.S.length = Z.S.length := (by rw [HST.out]); omega) (by rw [← HST.out]; exact own_sl ArrV.len HOW.out rfl) (HSL.out.below HB14.out HB14.out.size))
      rw [← HST.out] at HEQ
      refine wpAnyE_late (i := 14) rfl (by kernel_rfl) inv (by kernel_rfl) (fun K hK => ?_)
      rw [if_pos (by rfl)]
      go_simp
      try rw [HST.out]
      try rw [HST.out] at HEQ
      refine HEQ.out.mono ?_
      rintro e w15 ⟨rfl, hb⟩
      have HB15 := hide (HB14.out.trans (hb.mono HB14.out.size))
      clear hb HEQ
      go_wp2_with fail
      refine hK.out _ _ (fun inv2 => ?_)
      clear hK K
      clear inv
      have inv := inv2
      clear inv2
      try simp only [Act.put, nrmA, nrmB, nrmC]
      refine wpAnyE_late (i := 15) rfl (by kernel_rfl) inv (by kernel_rfl) (fun K hK => ?_)
      go_simp
      refine hK.out _ _ (fun inv2 => ?_)
      clear hK K
      clear inv
      have inv := inv2
      clear inv2
      try simp only [Act.put, nrmA, nrmB, nrmC]
      refine wpAnyE_late (i := 16) rfl (by kernel_rfl) inv (by kernel_rfl) (fun K hK => ?_)
      go_simp
      refine hK.out _ _ (fun inv2 => ?_)
      clear hK K
      clear inv
      have inv := inv2
      clear inv2
      try simp only [Act.put, nrmA, nrmB, nrmC]
      refine wpAnyE_done (by kernel_rfl) ?_ _
      clear inv
      have HG5 := hide (HG.out.below HB15.out)
      clear HG HB14 HOW HB15 HT1 HSL hcc
      obtain ⟨b0, b1, b2, b3, b4, b5, b6, b7⟩ := cells8 (HG5.out.box.get 0 rfl)
      go_wp2_with fail
      -- R14
      have HG6 := hide (HG5.out.al #[.int .i64 x.dev, .int .i64 x.port] 37)
      obtain ⟨N2, hN2⟩ : ∃ N2, w15.heap.size = N2 := ⟨_, rfl⟩
      rw [hN2] at HG6
      rw [hN2]
      clear hN2 HG5 b0 b1 b2 b3 b4 b5 b6 b7
      generalize World.alloc w15 _ = w16 at *
      obtain ⟨B, hB⟩ : ∃ B, decide ((⟨x.dev, x.port, x.p⟩ : ArrV) ∈ Z.S) = B := ⟨_, rfl⟩
      have HHS := hide (fun (w' : World) (hb : Below w16.heap.size w16 w') => worldHas_S (HG6.out.below hb).a ⟨x.dev, x.port, x.p⟩ ⟨HXK.out.d, HXK.out.y, HXK.out.p⟩)
      rw [hB] at HHS
      obtain ⟨A3, c3, t1, hsl3⟩ := HG6.out.t.seen
      have HT1 := hide t1
      have HCT := hide (fun (w' : World) (hb : Below w16.heap.size w16 w') => containsArr_any T.S A3 T.S.length c3 (⟨x.dev, x.port, x.p⟩ : ArrV) w' (by have e : T.S.length = Z.S.length := (by rw [HST.out]); omega) (hsl3.below hb hb.size))
      rw [any_eqA, ← HST.out, hB] at HCT
      clear t1 hB
      refine wp_region_abs (by kernel_rfl) (by kernel_rfl) ?_
      intro T1 hT gt hg1 hgi
      have HGT := hide hg1
      have HGI := hide hgi
      clear hg1 hgi
      have b3 : ∀ t, (gt t).cell? ⟨N, 3, none⟩ = some (.int .i64 x.p.src) := fun t => ((HG6.out.below (HGT.out t)).box.get 1 rfl).1 3 _ rfl
      have b4 : ∀ t, (gt t).cell? ⟨N, 4, none⟩ = some (.int .i64 x.p.dst) := fun t => ((HG6.out.below (HGT.out t)).box.get 1 rfl).1 4 _ rfl
      have b5 : ∀ t, (gt t).cell? ⟨N, 5, none⟩ = some (.int .i64 x.p.sport) := fun t => ((HG6.out.below (HGT.out t)).box.get 1 rfl).1 5 _ rfl
      have b6 : ∀ t, (gt t).cell? ⟨N, 6, none⟩ = some (.int .i64 x.p.dport) := fun t => ((HG6.out.below (HGT.out t)).box.get 1 rfl).1 6 _ rfl
      have p0 : ∀ t, (gt t).cell? ⟨N2, 0, none⟩ = some (.int .i64 x.dev) := fun t => ((HG6.out.below (HGT.out t)).box.get 0 rfl).1 0 _ rfl
      have p1 : ∀ t, (gt t).cell? ⟨N2, 1, none⟩ = some (.int .i64 x.port) := fun t => ((HG6.out.below (HGT.out t)).box.get 0 rfl).1 1 _ rfl
      have t1 : ∀ t, (gt t).cell? ⟨g2, 1, none⟩ = some (.slice A3 Z.S.length c3) := fun t => by rw [HST.out]; exact ((HGT.out t).cell (p := ⟨g2, 1, none⟩) (cell_lt HT1.out)).trans HT1.out
      repeat (go_big_quiet_step ((first | (go_at_call 34; exact inAbs HGT.out HGI.out (HHS.out _ (HGT.out _))) | (go_at_call 38; exact inAbs HGT.out HGI.out (HCT.out _ (HGT.out _))))))
      refine wpQuiet_nil ?_
      intro _ hw'
      obtain ⟨t, rfl⟩ := hw'
      have HG7 := hide (HG6.out.below (HGT.out t)).less.less
      generalize gt t = w17 at *
      clear HGT HGI b3 b4 b5 b6 p0 p1 t1 HHS HCT HG6 HT1
      rw [← HZT.out.1, ← HZT.out.2] at HG7
      clear HZT HST hzl hsl3
      go_wp2
      go_roundw
      case rel => exact ⟨k + 1, F1', F2', by omega, by go_num, HG7⟩
      case measure => simp [intOf]; omega
    obtain rfl : k = nl := by omega
    -- R17
    have HRU := hide (worldRun_walk n A k c l wr (HNA.out _ HP.out.box.bl) HE.out (HL.out _ HP.out.box.bl) HLO.out (by omega))
    obtain ⟨c0, c1⟩ : wr.cell? ⟨W.heap.size, 0, none⟩ = some (.slice n.dA n.dn n.dc) ∧ wr.cell? ⟨W.heap.size, 1, none⟩ = some (.slice n.lA n.ln n.lc) := ⟨(HP.out.box.get 0 rfl).1 0 _ rfl, (HP.out.box.get 0 rfl).1 1 _ rfl⟩
    go_wp2_with fail
    refine HRU.out.mono ?_
    clear HRU c0 c1
    rintro e w20 ⟨hb, hcase⟩
    have HB20 := hide hb
    have HP2 := hide (HP.out.below hb)
    have HFU := hide (fun j (e : F3 j) => (HP.out.u.fo j e).2)
    clear hb HP hlt hk
    rcases hcase with ⟨i0, hi0, hc0, hci, rfl⟩ | ⟨hall, A', c', rfl, hsl, hal⟩
    · obtain ⟨E, hEE⟩ : ∃ E, cdS n.devs n.ls l i0 = E := ⟨_, rfl⟩
      rw [hEE] at hci
      rw [hEE]
      have HC0 := hide hc0
      have HEE := hide hEE
      have HCI := hide hci
      clear hc0 hEE hci
      go_wp2_with fail
      -- LOOP2
      go_loopw [98] (fun i wr => ∃ (k2 : Nat) (F3 : Nat → Prop), k2 ≤ i0 ∧ i = .int .i64 k2 ∧ Hid (L3 W [(W.heap.size, #[.slice n.dA n.dn n.dc, .slice n.lA n.ln n.lc])] F1 F2 F3 gw g2 g3 n (stS n.devs n.ls l k) k (stT n.devs n.ls l k) (stT n.devs n.ls l k2) wr)) (fun i _ => k - (intOf i).toNat)
      case atStart => exact ⟨0, F3, Nat.zero_le _, rfl, HP2⟩
      case round =>
        clear HP2
        obtain ⟨k2, F3, hk2, rfl, HP⟩ := hrel
        have hlt2 : k2 < k := by omega
        obtain ⟨x, hx⟩ : ∃ x, l[k2]? = some x := ⟨_, List.getElem?_eq_getElem (by have := HLN.out; omega)⟩
        have hsl0 := HL.out _ HP.out.box.bl
        obtain ⟨bA, oA, rfl, hbB, _⟩ := hsl0.2 (by omega)
        obtain ⟨q0, q1, q2, q3, q4, q5, q6, q7⟩ := act_cells hsl0 hx
        have HXK := hide (HLO.out x (List.mem_of_getElem? hx))
        have HXL := hide hx
        clear hx hsl0 hbB
        go_wp2_with fail
        have HG := hide (HP.out.al #[.int .i64 x.kind, .int .i64 x.dev, .int .i64 x.port, .int .i64 x.p.src, .int .i64 x.p.dst, .int .i64 x.p.sport, .int .i64 x.p.dport, .int .i64 x.ch] 79)
        have HBA := hide (below_alloc wr (.cells #[.int .i64 x.kind, .int .i64 x.dev, .int .i64 x.port, .int .i64 x.p.src, .int .i64 x.p.dst, .int .i64 x.p.sport, .int .i64 x.p.dport, .int .i64 x.ch] 79))
        clear HP q0 q1 q2 q3 q4 q5 q6 q7
        generalize World.alloc wr _ = w21 at *
        obtain ⟨R, hR⟩ : ∃ R, cdS n.devs n.ls l k2 = R := ⟨_, rfl⟩
        have HDU := hide (HG.out.doU HE.out HXL.out HXK.out (by omega) (by have := stT_slen HE.out l k2; omega))
        rw [hR] at HDU
        refine HDU.out.mono ?_
        rintro e w22 ⟨rfl, F3', hg, hn, hF⟩
        have HP3 := hide hg.less
        have HN3 := hide hn
        have HF3 := hide hF
        clear hg hn hF HDU HG
        by_cases hki : k2 < i0
        case pos =>
          have e0 : R = 0 := hR.symm.trans (HC0.out k2 hki)
          subst e0
          go_wp2
          go_roundw
          case rel => exact ⟨k2 + 1, F3', by omega, by go_num, HP3⟩
          case measure => simp [intOf]; omega
        obtain rfl : k2 = i0 := by omega
        obtain rfl : R = E := hR.symm.trans HEE.out
        have e1 : (R != 0) = true := by simpa using HCI.out
        clear hR
        go_wp2
        go_ret
        exact ⟨ret_bool (by simp), HP3.out.box.bl⟩
    · have HALL := hide hall
      have HSS := hide (And.intro hsl hal)
      have HSZ := hide (show (stS n.devs n.ls l k).S = (stT n.devs n.ls l k).S from (rel_at n.devs n.ls l k).s)
      have hzl : (stS n.devs n.ls l k).S.length ≤ k := doS_len HE.out l k
      obtain ⟨S, hS⟩ : ∃ S, (stS n.devs n.ls l k).S = S := ⟨_, rfl⟩
      rw [hS] at HSS HSZ hzl
      rw [hS]
      have HSA := hide (show SlAt ArrV.cells 6 w20 w20.heap.size A' S.length S ∧ ∀ a, A' = some a → ¬ F3 a.block ∧ a.block < w20.heap.size from ⟨HSS.out.1, fun a ha => ⟨fun e => by have := HFU.out _ e; have := (HSS.out.2 a ha).1; omega, (HSS.out.2 a ha).2⟩⟩)
      clear hall hsl hal HSS hS
      go_wp2_with fail
      -- LOOP2
      go_loopw [98] (fun i wr => ∃ (k2 : Nat) (F3 : Nat → Prop), k2 ≤ k ∧ i = .int .i64 k2 ∧ Hid (L3 W [(W.heap.size, #[.slice n.dA n.dn n.dc, .slice n.lA n.ln n.lc])] F1 F2 F3 gw g2 g3 n (stS n.devs n.ls l k) k (stT n.devs n.ls l k) (stT n.devs n.ls l k2) wr) ∧ Hid (SlAt ArrV.cells 6 wr wr.heap.size A' S.length S ∧ ∀ a, A' = some a → ¬ F3 a.block ∧ a.block < wr.heap.size)) (fun i _ => k - (intOf i).toNat)
      case atStart => exact ⟨0, F3, Nat.zero_le _, rfl, HP2, HSA⟩
      case round =>
        clear HP2
        clear HSA
        obtain ⟨k2, F3, hk2, rfl, HP, HSA⟩ := hrel
        by_cases hlt2 : k2 < k
        case neg =>
          obtain rfl : k2 = k := by omega
          obtain ⟨A2, c2, t1, hsl2⟩ := HP.out.u.seen
          rw [← HSZ.out] at t1 hsl2
          have HEQ := hide (equalArr_yes S A' A2 S.length c' c2 wr (by omega) HSA.out.1 hsl2)
          clear hsl2
          go_wp2_with fail
          refine HEQ.out.mono ?_
          clear HEQ t1
          rintro e w25 ⟨rfl, hb⟩
          have HBZ := hide (HP.out.box.bl.trans (hb.mono HP.out.box.bl.size))
          clear hb
          go_wp2
          go_ret
          exact ⟨ret_bool (by simp), HBZ.out⟩
        obtain ⟨x, hx⟩ : ∃ x, l[k2]? = some x := ⟨_, List.getElem?_eq_getElem (by have := HLN.out; omega)⟩
        have hsl0 := HL.out _ HP.out.box.bl
        obtain ⟨bA, oA, rfl, hbB, _⟩ := hsl0.2 (by omega)
        obtain ⟨q0, q1, q2, q3, q4, q5, q6, q7⟩ := act_cells hsl0 hx
        have HXK := hide (HLO.out x (List.mem_of_getElem? hx))
        have HXL := hide hx
        clear hx hsl0 hbB
        go_wp2_with fail
        have HG := hide (HP.out.al #[.int .i64 x.kind, .int .i64 x.dev, .int .i64 x.port, .int .i64 x.p.src, .int .i64 x.p.dst, .int .i64 x.p.sport, .int .i64 x.p.dport, .int .i64 x.ch] 79)
        have HBA := hide (below_alloc wr (.cells #[.int .i64 x.kind, .int .i64 x.dev, .int .i64 x.port, .int .i64 x.p.src, .int .i64 x.p.dst, .int .i64 x.p.sport, .int .i64 x.p.dport, .int .i64 x.ch] 79))
        clear HP q0 q1 q2 q3 q4 q5 q6 q7
        generalize World.alloc wr _ = w21 at *
        obtain ⟨R, hR⟩ : ∃ R, cdS n.devs n.ls l k2 = R := ⟨_, rfl⟩
        have HDU := hide (HG.out.doU HE.out HXL.out HXK.out (by omega) (by have := stT_slen HE.out l k2; omega))
        rw [hR] at HDU
        refine HDU.out.mono ?_
        rintro e w22 ⟨rfl, F3', hg, hn, hF⟩
        have HP3 := hide hg.less
        have HN3 := hide hn
        have HF3 := hide hF
        clear hg hn hF HDU HG
        have e0 : R = 0 := hR.symm.trans (HALL.out k2 hlt2)
        subst e0
        have HSB := hide (show SlAt ArrV.cells 6 w22 w22.heap.size A' S.length S ∧ ∀ a, A' = some a → ¬ F3' a.block ∧ a.block < w22.heap.size from by
          have s1 := HBA.out.size
          have s2 := HN3.out.size
          refine ⟨(HSA.out.1.below HBA.out HBA.out.size).stay0 (StayOn.of_near HN3.out) (fun _ a ha => (HSA.out.2 a ha).1) HN3.out.size, fun a ha => ⟨fun e => ?_, by have := (HSA.out.2 a ha).2; omega⟩⟩
          rcases HF3.out _ e with q | q
          · exact (HSA.out.2 a ha).1 q
          · have := (HSA.out.2 a ha).2; omega)
        go_wp2
        go_roundw
        case rel => exact ⟨k2 + 1, F3', by omega, by go_num, HP3, HSB⟩
        case measure => simp [intOf]; omega
end Go.Proofs.Ythaiffjalgionaa

set_option linter.unusedVariables false
set_option linter.unusedSimpArgs false
namespace Go.Proofs.Ythaiffjalgionaa
open Go.ChangeShapes Go.WideShapes Go.ChangeAt Go.RowKit
section
variable {H : Type} {enc : TypeId × Value → H} {w : World} {base : Nat} {spare : Nat → Bool} {held : Bool} {r : Reach} {b0 : Nat}
theorem Try.cellsEvent8 : Try.prog.cellsOf 79 = 8 := by kernel_rfl
set_option maxRecDepth 100000 in
theorem read_event {n : Nat} {cs : List Value} {y : DataW H × List MemPlace} (h : DataW.trod enc Try.prog w base spare held n 79 cs = some y) : ∃ x : ActV, x.ok ∧ cs = x.cells := by
  obtain ⟨xs, n', _, _, hlen, hxl, hf⟩ := DataW.trod_struct Try.underlying79 h
  rw [Try.cellsEvent8] at hlen
  match cs, hlen with
  | [c0, c1, c2, c3, c4, c5, c6, c7], _ =>
    have h0 := hf 0 _ rfl
    have h1 := hf 1 _ rfl
    have h2 := hf 2 _ rfl
    have h3 := hf 3 _ rfl
    have h4 := hf 4 _ rfl
    obtain ⟨y0, e0⟩ := get_some (xs := xs) (i := 0) (by rw [hxl]; decide)
    obtain ⟨y1, e1⟩ := get_some (xs := xs) (i := 1) (by rw [hxl]; decide)
    obtain ⟨y2, e2⟩ := get_some (xs := xs) (i := 2) (by rw [hxl]; decide)
    obtain ⟨y3, e3⟩ := get_some (xs := xs) (i := 3) (by rw [hxl]; decide)
    obtain ⟨y4, e4⟩ := get_some (xs := xs) (i := 4) (by rw [hxl]; decide)
    rw [e0] at h0
    rw [e1] at h1
    rw [e2] at h2
    rw [e3] at h3
    rw [e4] at h4
    simp [cellsI1, Try.cellsPacket4] at h0 h1 h2 h3 h4
    obtain ⟨a, rfl, ha⟩ := trod_i64 h0
    obtain ⟨b, rfl, hb⟩ := trod_i64 h1
    obtain ⟨c, rfl, hc⟩ := trod_i64 h2
    obtain ⟨q, hq, hm2⟩ := read_packet h3
    obtain ⟨d, rfl, hd⟩ := trod_i64 h4
    simp only [P4.cells, List.cons.injEq, and_true] at hm2
    obtain ⟨rfl, rfl, rfl, rfl⟩ := hm2
    exact ⟨⟨a, b, c, q, d⟩, ⟨ha, hb, hc, hq, hd⟩, rfl⟩
set_option maxRecDepth 100000 in
theorem open_events {v : Value} {d : DataW H} {p : List MemPlace} (hv : Value.okWide Try.prog w r b0 73 v) (h : DataW.Trod enc Try.prog w base spare held 73 v d p) :
    ∃ (A : Option Addr) (n c : Nat) (l : List ActV), v = .slice A n c ∧ n ≤ c ∧ c ≤ maxLen ∧ SlAt ActV.cells 8 w w.heap.size A n l ∧ (∀ r ∈ l, r.ok) ∧ (n = 0 ∨ ∃ elems sp, d = .slice elems sp ∧ elems.length = n) :=
  open_elems ActV.cells ActV.ok 8 Try.underlying73 Try.cellsEvent8 (by omega) ActV.len (fun _ _ _ h => read_event h) hv h
end
end Go.Proofs.Ythaiffjalgionaa

set_option linter.unusedVariables false
set_option linter.unusedSimpArgs false
namespace Go.Proofs.Ythaiffjalgionaa
open Go.ChangeShapes Go.WideShapes Go.ChangeAt Go.RowKit Go.Maps

set_option maxRecDepth 100000 in
theorem worldPlays_lifted (os : Os) (started : os.Started) (H : Type) (enc : TypeId × Value → H) :
    ReturnsInHanded {} Try.checked os 6 .any (Rows.worldPlaysSpec.pre6 enc Try.prog Try.f6 Rows.worldPlaysRow.domain false) (Rows.worldPlaysSpec.post enc Try.prog Try.f6 false true false false) :=
  law_lifted (C := Try.checked) (tb := 4) Try.own started (by kernel_rfl) Try.func6 Try.laidOut (by kernel_rfl) rfl (by kernel_rfl) Try.underlying4
    (fun ds h => by
      match ds, h with
      | [_, _], _ => exact ⟨rfl, rfl, rfl⟩)
    (ChangeSpec.witness6 (enc := enc) (C := Try.checked) false ⟨#[], #[.agg #[.slice none 0 0, .slice none 0 0], .slice none 0 0], []⟩ 8 (by kernel_rfl) (by kernel_rfl) (by kernel_rfl) (by kernel_rfl))
    (fun W base args ds p hval0 hA0 hlt hsz => by
      have hval : ∀ (j : Nat) t v, Try.f6.params[j]? = some t → args[j]? = some v → Value.okWide Try.prog W .any base t v := hval0
      have hA : DataW.TrodAll enc Try.prog W 0 (fun _ => true) true Try.f6.params.toList args.toList ds p := hA0
      rw [Try.params6] at hA hval
      obtain ⟨v0, vs0, d0, ds0, p0, q0, hargs, rfl, rfl, h0, r0⟩ := args_cons hA
      obtain ⟨v1, vs1, d1, ds1, p1, q1, rfl, rfl, rfl, h1, r1⟩ := args_cons r0
      obtain ⟨rfl, rfl, rfl⟩ := args_nil r1
      obtain rfl : args = #[v0, v1] := arr_eq hargs
      obtain ⟨n0, hn0, rfl⟩ := open_net (hval 0 _ v0 rfl rfl) h0
      obtain ⟨A1, n1, c1, l1, rfl, hnc1, hcm1, hl1, hok1, _⟩ := open_events (hval 1 _ v1 rfl rfl) h1
      exact worldPlays_walk n0 A1 n1 c1 l1 W hn0 hl1 hok1 ⟨hnc1, hcm1⟩)

theorem worldPlays_holds : Rows.WorldPlaysSaid :=
  OpenClaim.holds_of_wide 6 Try.f6 rfl rfl rfl rfl rfl rfl rfl ⟨rfl, rfl, rfl, rfl, rfl⟩ rfl rfl rfl rfl rfl (by kernel_rfl) Try.func6 (by kernel_rfl)
    (of_decide_eq_true (by kernel_rfl)) (by unfold Func.isWrapper; first | (rw [if_pos (by decide +kernel)]; kernel_rfl) | (rw [if_neg (by decide +kernel)]; exact ⟨rfl, rfl⟩))
    (fun os started H enc _ => worldPlays_lifted os started H enc)
end Go.Proofs.Ythaiffjalgionaa
