/- A part of the proof: Bp5. -/
import Derived.Test.YthaiffjalgionaaBd6

set_option linter.unusedVariables false
set_option linter.unusedSimpArgs false
namespace Go.Proofs.Ythaiffjalgionaa
open Go.RowKit Go.Maps Bdd Bq

theorem wpAnyE_pureL {P : Program} {md : Region.Mode} {ops : Array Oper} {Q : Exit → Act → World → Prop} {S : World → Prop} {s : Nat} {i : Nat} {oi : Oper} {v : Value} {fuel : Nat} {listed : Array Bool} {a : Act} {w : World} (hi0 : ops.toList[i]? = some oi) (hs : Region.noSelect ops = true) (hf : Region.free md ops listed i = true)
    (hr : (Region.ready md ops listed).contains i = true) (his : decide (i ≠ s) = true) (hQ : ∀ c a w, Q (.panic c) (a.put oi.dst v) w → Q (.panic c) a w) (inv : Shut (ClosedL md ops listed)) (hy : YieldsIf P ops (fun _ => True) oi v a) (hx : listed.getD s true = true)
    (h : Shut (ClosedL md ops (listed.setIfInBounds i true)) → wpAnyE P md ops Q S s fuel (listed.setIfInBounds i true) (a.put oi.dst v) w) : wpAnyE P md ops Q S s (fuel + 1) listed a w :=
  wpAnyE_pure hi0 hs hf hr his hQ inv hy (fun h => by rw [hx] at h; cases h) h
set_option maxRecDepth 100000 in
set_option maxHeartbeats 4000000 in
theorem asked0 {W : World} (g : Nat) {iv : Value} (xa xb xc : Int) (hI : IdsAt W iv []) (Post : World → Ending → World → Prop) (HP : Hid (∀ w e w', Post w e w' → ∃ r q : Int, e = .returned (.tuple #[.int .i64 r, .int .i64 q]))) (HC : Hid (∀ w1, Below W.heap.size W w1 → Calls Try.prog 95 #[.pointer (some ⟨g, 0, none⟩), .int .i64 xa] w1 (Post w1))) :
    Calls Try.prog 26 #[.pointer (some ⟨g, 0, none⟩), iv, .agg #[.int .i64 0, .int .i64 xa, .int .i64 xb, .int .i64 xc]] W fun e w' => ∃ w1, Below W.heap.size W w1 ∧ Post w1 e w' := by
  obtain ⟨A, m, c, rfl, hm, hc, hq⟩ := hI
  clear hm hc hq
  have HG := hide (fun (w1 : World) (h : Below W.heap.size W w1) => h)
  go_enter Try.func26, Try.ntmps26
  go_wp2_with fail
  generalize hG : World.alloc _ _ = W1
  have HX := hide (boxes1 hG).1
  have x1 : W1.cell? ⟨W.heap.size, 1, none⟩ = some (.int .i64 xa) := (HX.out.get 0 rfl).1 1 _ rfl
  have x2 : W1.cell? ⟨W.heap.size, 2, none⟩ = some (.int .i64 xb) := (HX.out.get 0 rfl).1 2 _ rfl
  have x3 : W1.cell? ⟨W.heap.size, 3, none⟩ = some (.int .i64 xc) := (HX.out.get 0 rfl).1 3 _ rfl
  have x0 : W1.cell? ⟨W.heap.size, 0, none⟩ = some (.int .i64 0) := (HX.out.get 0 rfl).1 0 _ rfl
  have HCC := hide (HC.out W1 HX.out.bl)
  clear hG
  go_wp2_with fail
  refine HCC.out.mono ?_
  rintro e w2 hp
  have HF := hide (show ∃ w1, Below W.heap.size W w1 ∧ Post w1 e w2 from ⟨_, HX.out.bl, hp⟩)
  obtain ⟨r, q, rfl⟩ := HP.out _ _ _ hp
  clear hp
  go_wp2
  go_ret2
  exact HF.out
set_option maxRecDepth 100000 in
set_option maxHeartbeats 4000000 in
theorem asked1 {W : World} (g : Nat) {iv : Value} (f0 : Nat) (xa xb xc : Int) (hI : IdsAt W iv [f0]) (Post : World → Ending → World → Prop) (HP : Hid (∀ w e w', Post w e w' → ∃ r q : Int, e = .returned (.tuple #[.int .i64 r, .int .i64 q]))) (HC : Hid (∀ w1, Below W.heap.size W w1 → Calls Try.prog 96 #[.pointer (some ⟨g, 0, none⟩), .int .i64 (f0 : Int)] w1 (Post w1))) :
    Calls Try.prog 26 #[.pointer (some ⟨g, 0, none⟩), iv, .agg #[.int .i64 1, .int .i64 xa, .int .i64 xb, .int .i64 xc]] W fun e w' => ∃ w1, Below W.heap.size W w1 ∧ Post w1 e w' := by
  obtain ⟨A, m, c, rfl, hm, hc, hq⟩ := hI
  obtain rfl : m = 1 := hm
  obtain ⟨N, rfl, hN, hx⟩ := hq (by omega)
  have k0 := hx 0 f0 rfl
  have HK := hide (fun (w1 : World) (hb : Below W.heap.size W w1) => show w1.cell? ⟨N, 0, none⟩ = some (.int .i64 (f0 : Int)) ∧ True from ⟨(hb.cell (p := ⟨N, 0, none⟩) hN).trans k0, trivial⟩)
  clear hc hq hx k0
  have HG := hide (fun (w1 : World) (h : Below W.heap.size W w1) => h)
  have hal : ∀ o, (W.alloc o).cell? ⟨N, 0, none⟩ = some (.int .i64 (f0 : Int)) := fun o => (HK.out _ ((Below.refl _ _).alloc (Nat.le_refl _) o)).1
  go_enter Try.func26, Try.ntmps26
  go_wp2_with fail
  generalize hG : World.alloc _ _ = W1
  have HX := hide (boxes1 hG).1
  have hk1 := HK.out W1 HX.out.bl
  obtain ⟨k0, _⟩ := hk1
  have x1 : W1.cell? ⟨W.heap.size, 1, none⟩ = some (.int .i64 xa) := (HX.out.get 0 rfl).1 1 _ rfl
  have x2 : W1.cell? ⟨W.heap.size, 2, none⟩ = some (.int .i64 xb) := (HX.out.get 0 rfl).1 2 _ rfl
  have x3 : W1.cell? ⟨W.heap.size, 3, none⟩ = some (.int .i64 xc) := (HX.out.get 0 rfl).1 3 _ rfl
  have x0 : W1.cell? ⟨W.heap.size, 0, none⟩ = some (.int .i64 1) := (HX.out.get 0 rfl).1 0 _ rfl
  have HCC := hide (HC.out W1 HX.out.bl)
  clear hG
  refine HCC.out.mono ?_
  rintro e w2 hp
  have HF := hide (show ∃ w1, Below W.heap.size W w1 ∧ Post w1 e w2 from ⟨_, HX.out.bl, hp⟩)
  obtain ⟨r, q, rfl⟩ := HP.out _ _ _ hp
  clear hp
  go_wp2
  go_ret2
  exact HF.out
set_option maxRecDepth 100000 in
set_option maxHeartbeats 4000000 in
theorem asked2 {W : World} (g : Nat) {iv : Value} (f0 f1 : Nat) (xa xb xc : Int) (hI : IdsAt W iv [f0, f1]) (Post : World → Ending → World → Prop) (HP : Hid (∀ w e w', Post w e w' → ∃ r q : Int, e = .returned (.tuple #[.int .i64 r, .int .i64 q]))) (HC : Hid (∀ w1, Below W.heap.size W w1 → Calls Try.prog 24 #[.pointer (some ⟨g, 0, none⟩), .int .i64 (f0 : Int), .int .i64 (f1 : Int)] w1 (Post w1))) :
    Calls Try.prog 26 #[.pointer (some ⟨g, 0, none⟩), iv, .agg #[.int .i64 2, .int .i64 xa, .int .i64 xb, .int .i64 xc]] W fun e w' => ∃ w1, Below W.heap.size W w1 ∧ Post w1 e w' := by
  obtain ⟨A, m, c, rfl, hm, hc, hq⟩ := hI
  obtain rfl : m = 2 := hm
  obtain ⟨N, rfl, hN, hx⟩ := hq (by omega)
  have k0 := hx 0 f0 rfl
  have k1 := hx 1 f1 rfl
  have HK := hide (fun (w1 : World) (hb : Below W.heap.size W w1) => show w1.cell? ⟨N, 0, none⟩ = some (.int .i64 (f0 : Int)) ∧ w1.cell? ⟨N, 1, none⟩ = some (.int .i64 (f1 : Int)) ∧ True from ⟨(hb.cell (p := ⟨N, 0, none⟩) hN).trans k0, (hb.cell (p := ⟨N, 1, none⟩) hN).trans k1, trivial⟩)
  clear hc hq hx k0 k1
  have HG := hide (fun (w1 : World) (h : Below W.heap.size W w1) => h)
  go_enter Try.func26, Try.ntmps26
  go_wp2_with fail
  generalize hG : World.alloc _ _ = W1
  have HX := hide (boxes1 hG).1
  have hk1 := HK.out W1 HX.out.bl
  obtain ⟨k0, k1, _⟩ := hk1
  have x1 : W1.cell? ⟨W.heap.size, 1, none⟩ = some (.int .i64 xa) := (HX.out.get 0 rfl).1 1 _ rfl
  have x2 : W1.cell? ⟨W.heap.size, 2, none⟩ = some (.int .i64 xb) := (HX.out.get 0 rfl).1 2 _ rfl
  have x3 : W1.cell? ⟨W.heap.size, 3, none⟩ = some (.int .i64 xc) := (HX.out.get 0 rfl).1 3 _ rfl
  have x0 : W1.cell? ⟨W.heap.size, 0, none⟩ = some (.int .i64 2) := (HX.out.get 0 rfl).1 0 _ rfl
  have HCC := hide (HC.out W1 HX.out.bl)
  clear hG
  go_wp2_with fail
  refine wp_region_E (fun w' => Below W1.heap.size W1 w') 7 (by kernel_rfl) ((Below.refl _ _).drew) (fun hS inv => ?_)
  refine wpAnyE_pure (i := 0) (v := ?_) rfl (by kernel_rfl) (by kernel_rfl) (by kernel_rfl) (by kernel_rfl) (fun _ _ _ h => h) inv (Or.inl ⟨by rfl, ?_⟩) (fun _ => hS) (fun inv2 => ?_)
  rotate_left
  · intro w _
    go_simp
    try with_reducible rfl
  clear inv
  have inv := inv2
  clear inv2
  try simp only [Act.put, nrmA, nrmB, nrmC]
  refine wpAnyE_pure (i := 1) (v := ?_) rfl (by kernel_rfl) (by kernel_rfl) (by kernel_rfl) (by kernel_rfl) (fun _ _ _ h => h) inv (Or.inl ⟨by rfl, ?_⟩) (fun _ => hS) (fun inv2 => ?_)
  rotate_left
  · intro w _
    go_simp
    try with_reducible rfl
  clear inv
  have inv := inv2
  clear inv2
  try simp only [Act.put, nrmA, nrmB, nrmC]
  refine wpAnyE_pure (i := 2) (v := ?_) rfl (by kernel_rfl) (by kernel_rfl) (by kernel_rfl) (by kernel_rfl) (fun _ _ _ h => h) inv (Or.inl ⟨by rfl, ?_⟩) (fun _ => hS) (fun inv2 => ?_)
  rotate_left
  · intro w _
    go_simp
    try with_reducible rfl
  clear inv
  have inv := inv2
  clear inv2
  try simp only [Act.put, nrmA, nrmB, nrmC]
  refine wpAnyE_load (i := 3) (v := ?_) [7] rfl (by kernel_rfl) (by kernel_rfl) (by kernel_rfl) (by kernel_rfl) (fun _ _ _ h => h) inv (Or.inl ⟨by rfl, ?_⟩) hS (fun inv2 => ?_)
  rotate_left
  · intro w hSw
    obtain ⟨k0, k1, _⟩ := HK.out w (HX.out.below hSw).bl
    go_simp
    try with_reducible rfl
  clear inv
  have inv := inv2
  clear inv2
  try simp only [Act.put, nrmA, nrmB, nrmC]
  refine wpAnyE_pure (i := 4) (v := ?_) rfl (by kernel_rfl) (by kernel_rfl) (by kernel_rfl) (by kernel_rfl) (fun _ _ _ h => h) inv (Or.inl ⟨by rfl, ?_⟩) (fun _ => hS) (fun inv2 => ?_)
  rotate_left
  · intro w _
    go_simp
    try with_reducible rfl
  clear inv
  have inv := inv2
  clear inv2
  try simp only [Act.put, nrmA, nrmB, nrmC]
  refine wpAnyE_pure (i := 5) (v := ?_) rfl (by kernel_rfl) (by kernel_rfl) (by kernel_rfl) (by kernel_rfl) (fun _ _ _ h => h) inv (Or.inl ⟨by rfl, ?_⟩) (fun _ => hS) (fun inv2 => ?_)
  rotate_left
  · intro w _
    go_simp
    try with_reducible rfl
  clear inv
  have inv := inv2
  clear inv2
  try simp only [Act.put, nrmA, nrmB, nrmC]
  refine wpAnyE_load (i := 6) (v := ?_) [7] rfl (by kernel_rfl) (by kernel_rfl) (by kernel_rfl) (by kernel_rfl) (fun _ _ _ h => h) inv (Or.inl ⟨by rfl, ?_⟩) hS (fun inv2 => ?_)
  rotate_left
  · intro w hSw
    obtain ⟨k0, k1, _⟩ := HK.out w (HX.out.below hSw).bl
    go_simp
    try with_reducible rfl
  clear inv
  have inv := inv2
  clear inv2
  try simp only [Act.put, nrmA, nrmB, nrmC]
  refine wpAnyE_late (i := 7) rfl (by kernel_rfl) inv (by kernel_rfl) (fun K hK => ?_)
  go_simp
  refine (HC.out _ ((HX.out.below hS).bl)).mono ?_
  rintro e w2 hp
  have HF := hide (show ∃ w1, Below W.heap.size W w1 ∧ Post w1 e w2 from ⟨_, (HX.out.below hS).bl, hp⟩)
  obtain ⟨r, q, rfl⟩ := HP.out _ _ _ hp
  clear hp
  refine hK.out _ _ (fun inv2 => ?_)
  clear hK K
  clear inv
  have inv := inv2
  clear inv2
  try simp only [Act.put, nrmA, nrmB, nrmC]
  refine wpAnyE_pureL (i := 8) (v := ?_) rfl (by kernel_rfl) (by kernel_rfl) (by kernel_rfl) (by kernel_rfl) (fun _ _ _ h => h) inv (Or.inl ⟨by rfl, ?_⟩) (by kernel_rfl) (fun inv2 => ?_)
  rotate_left
  · intro w _
    go_simp
    try with_reducible rfl
  clear inv
  have inv := inv2
  clear inv2
  try simp only [Act.put, nrmA, nrmB, nrmC]
  refine wpAnyE_pureL (i := 9) (v := ?_) rfl (by kernel_rfl) (by kernel_rfl) (by kernel_rfl) (by kernel_rfl) (fun _ _ _ h => h) inv (Or.inl ⟨by rfl, ?_⟩) (by kernel_rfl) (fun inv2 => ?_)
  rotate_left
  · intro w _
    go_simp
    try with_reducible rfl
  clear inv
  have inv := inv2
  clear inv2
  try simp only [Act.put, nrmA, nrmB, nrmC]
  refine wpAnyE_late (i := 10) rfl (by kernel_rfl) inv (by kernel_rfl) (fun K hK => ?_)
  go_simp
  refine hK.out _ _ (fun inv2 => ?_)
  clear hK K
  clear inv
  have inv := inv2
  clear inv2
  try simp only [Act.put, nrmA, nrmB, nrmC]
  refine wpAnyE_late (i := 11) rfl (by kernel_rfl) inv (by kernel_rfl) (fun K hK => ?_)
  go_simp
  refine hK.out _ _ (fun inv2 => ?_)
  clear hK K
  clear inv
  have inv := inv2
  clear inv2
  try simp only [Act.put, nrmA, nrmB, nrmC]
  refine wpAnyE_done (by kernel_rfl) ?_ _
  clear inv
  go_wp2
  go_ret2
  exact HF.out
set_option maxRecDepth 100000 in
set_option maxHeartbeats 4000000 in
theorem asked3 {W : World} (g : Nat) {iv : Value} (f0 f1 : Nat) (xa xb xc : Int) (hI : IdsAt W iv [f0, f1]) (Post : World → Ending → World → Prop) (HP : Hid (∀ w e w', Post w e w' → ∃ r q : Int, e = .returned (.tuple #[.int .i64 r, .int .i64 q]))) (HC : Hid (∀ w1, Below W.heap.size W w1 → Calls Try.prog 97 #[.pointer (some ⟨g, 0, none⟩), .int .i64 (f0 : Int), .int .i64 (f1 : Int)] w1 (Post w1))) :
    Calls Try.prog 26 #[.pointer (some ⟨g, 0, none⟩), iv, .agg #[.int .i64 3, .int .i64 xa, .int .i64 xb, .int .i64 xc]] W fun e w' => ∃ w1, Below W.heap.size W w1 ∧ Post w1 e w' := by
  obtain ⟨A, m, c, rfl, hm, hc, hq⟩ := hI
  obtain rfl : m = 2 := hm
  obtain ⟨N, rfl, hN, hx⟩ := hq (by omega)
  have k0 := hx 0 f0 rfl
  have k1 := hx 1 f1 rfl
  have HK := hide (fun (w1 : World) (hb : Below W.heap.size W w1) => show w1.cell? ⟨N, 0, none⟩ = some (.int .i64 (f0 : Int)) ∧ w1.cell? ⟨N, 1, none⟩ = some (.int .i64 (f1 : Int)) ∧ True from ⟨(hb.cell (p := ⟨N, 0, none⟩) hN).trans k0, (hb.cell (p := ⟨N, 1, none⟩) hN).trans k1, trivial⟩)
  clear hc hq hx k0 k1
  have HG := hide (fun (w1 : World) (h : Below W.heap.size W w1) => h)
  go_enter Try.func26, Try.ntmps26
  go_wp2_with fail
  generalize hG : World.alloc _ _ = W1
  have HX := hide (boxes1 hG).1
  have hk1 := HK.out W1 HX.out.bl
  obtain ⟨k0, k1, _⟩ := hk1
  have x1 : W1.cell? ⟨W.heap.size, 1, none⟩ = some (.int .i64 xa) := (HX.out.get 0 rfl).1 1 _ rfl
  have x2 : W1.cell? ⟨W.heap.size, 2, none⟩ = some (.int .i64 xb) := (HX.out.get 0 rfl).1 2 _ rfl
  have x3 : W1.cell? ⟨W.heap.size, 3, none⟩ = some (.int .i64 xc) := (HX.out.get 0 rfl).1 3 _ rfl
  have x0 : W1.cell? ⟨W.heap.size, 0, none⟩ = some (.int .i64 3) := (HX.out.get 0 rfl).1 0 _ rfl
  have HCC := hide (HC.out W1 HX.out.bl)
  clear hG
  go_wp2_with fail
  refine wp_region_E (fun w' => Below W1.heap.size W1 w') 7 (by kernel_rfl) ((Below.refl _ _).drew) (fun hS inv => ?_)
  refine wpAnyE_pure (i := 0) (v := ?_) rfl (by kernel_rfl) (by kernel_rfl) (by kernel_rfl) (by kernel_rfl) (fun _ _ _ h => h) inv (Or.inl ⟨by rfl, ?_⟩) (fun _ => hS) (fun inv2 => ?_)
  rotate_left
  · intro w _
    go_simp
    try with_reducible rfl
  clear inv
  have inv := inv2
  clear inv2
  try simp only [Act.put, nrmA, nrmB, nrmC]
  refine wpAnyE_pure (i := 1) (v := ?_) rfl (by kernel_rfl) (by kernel_rfl) (by kernel_rfl) (by kernel_rfl) (fun _ _ _ h => h) inv (Or.inl ⟨by rfl, ?_⟩) (fun _ => hS) (fun inv2 => ?_)
  rotate_left
  · intro w _
    go_simp
    try with_reducible rfl
  clear inv
  have inv := inv2
  clear inv2
  try simp only [Act.put, nrmA, nrmB, nrmC]
  refine wpAnyE_pure (i := 2) (v := ?_) rfl (by kernel_rfl) (by kernel_rfl) (by kernel_rfl) (by kernel_rfl) (fun _ _ _ h => h) inv (Or.inl ⟨by rfl, ?_⟩) (fun _ => hS) (fun inv2 => ?_)
  rotate_left
  · intro w _
    go_simp
    try with_reducible rfl
  clear inv
  have inv := inv2
  clear inv2
  try simp only [Act.put, nrmA, nrmB, nrmC]
  refine wpAnyE_load (i := 3) (v := ?_) [7] rfl (by kernel_rfl) (by kernel_rfl) (by kernel_rfl) (by kernel_rfl) (fun _ _ _ h => h) inv (Or.inl ⟨by rfl, ?_⟩) hS (fun inv2 => ?_)
  rotate_left
  · intro w hSw
    obtain ⟨k0, k1, _⟩ := HK.out w (HX.out.below hSw).bl
    go_simp
    try with_reducible rfl
  clear inv
  have inv := inv2
  clear inv2
  try simp only [Act.put, nrmA, nrmB, nrmC]
  refine wpAnyE_pure (i := 4) (v := ?_) rfl (by kernel_rfl) (by kernel_rfl) (by kernel_rfl) (by kernel_rfl) (fun _ _ _ h => h) inv (Or.inl ⟨by rfl, ?_⟩) (fun _ => hS) (fun inv2 => ?_)
  rotate_left
  · intro w _
    go_simp
    try with_reducible rfl
  clear inv
  have inv := inv2
  clear inv2
  try simp only [Act.put, nrmA, nrmB, nrmC]
  refine wpAnyE_pure (i := 5) (v := ?_) rfl (by kernel_rfl) (by kernel_rfl) (by kernel_rfl) (by kernel_rfl) (fun _ _ _ h => h) inv (Or.inl ⟨by rfl, ?_⟩) (fun _ => hS) (fun inv2 => ?_)
  rotate_left
  · intro w _
    go_simp
    try with_reducible rfl
  clear inv
  have inv := inv2
  clear inv2
  try simp only [Act.put, nrmA, nrmB, nrmC]
  refine wpAnyE_load (i := 6) (v := ?_) [7] rfl (by kernel_rfl) (by kernel_rfl) (by kernel_rfl) (by kernel_rfl) (fun _ _ _ h => h) inv (Or.inl ⟨by rfl, ?_⟩) hS (fun inv2 => ?_)
  rotate_left
  · intro w hSw
    obtain ⟨k0, k1, _⟩ := HK.out w (HX.out.below hSw).bl
    go_simp
    try with_reducible rfl
  clear inv
  have inv := inv2
  clear inv2
  try simp only [Act.put, nrmA, nrmB, nrmC]
  refine wpAnyE_late (i := 7) rfl (by kernel_rfl) inv (by kernel_rfl) (fun K hK => ?_)
  go_simp
  refine (HC.out _ ((HX.out.below hS).bl)).mono ?_
  rintro e w2 hp
  have HF := hide (show ∃ w1, Below W.heap.size W w1 ∧ Post w1 e w2 from ⟨_, (HX.out.below hS).bl, hp⟩)
  obtain ⟨r, q, rfl⟩ := HP.out _ _ _ hp
  clear hp
  refine hK.out _ _ (fun inv2 => ?_)
  clear hK K
  clear inv
  have inv := inv2
  clear inv2
  try simp only [Act.put, nrmA, nrmB, nrmC]
  refine wpAnyE_pureL (i := 8) (v := ?_) rfl (by kernel_rfl) (by kernel_rfl) (by kernel_rfl) (by kernel_rfl) (fun _ _ _ h => h) inv (Or.inl ⟨by rfl, ?_⟩) (by kernel_rfl) (fun inv2 => ?_)
  rotate_left
  · intro w _
    go_simp
    try with_reducible rfl
  clear inv
  have inv := inv2
  clear inv2
  try simp only [Act.put, nrmA, nrmB, nrmC]
  refine wpAnyE_pureL (i := 9) (v := ?_) rfl (by kernel_rfl) (by kernel_rfl) (by kernel_rfl) (by kernel_rfl) (fun _ _ _ h => h) inv (Or.inl ⟨by rfl, ?_⟩) (by kernel_rfl) (fun inv2 => ?_)
  rotate_left
  · intro w _
    go_simp
    try with_reducible rfl
  clear inv
  have inv := inv2
  clear inv2
  try simp only [Act.put, nrmA, nrmB, nrmC]
  refine wpAnyE_late (i := 10) rfl (by kernel_rfl) inv (by kernel_rfl) (fun K hK => ?_)
  go_simp
  refine hK.out _ _ (fun inv2 => ?_)
  clear hK K
  clear inv
  have inv := inv2
  clear inv2
  try simp only [Act.put, nrmA, nrmB, nrmC]
  refine wpAnyE_late (i := 11) rfl (by kernel_rfl) inv (by kernel_rfl) (fun K hK => ?_)
  go_simp
  refine hK.out _ _ (fun inv2 => ?_)
  clear hK K
  clear inv
  have inv := inv2
  clear inv2
  try simp only [Act.put, nrmA, nrmB, nrmC]
  refine wpAnyE_done (by kernel_rfl) ?_ _
  clear inv
  go_wp2
  go_ret2
  exact HF.out
set_option maxRecDepth 100000 in
set_option maxHeartbeats 4000000 in
theorem asked4 {W : World} (g : Nat) {iv : Value} (f0 f1 f2 : Nat) (xa xb xc : Int) (hI : IdsAt W iv [f0, f1, f2]) (Post : World → Ending → World → Prop) (HP : Hid (∀ w e w', Post w e w' → ∃ r q : Int, e = .returned (.tuple #[.int .i64 r, .int .i64 q]))) (HC : Hid (∀ w1, Below W.heap.size W w1 → Calls Try.prog 84 #[.pointer (some ⟨g, 0, none⟩), .int .i64 (f0 : Int), .int .i64 (f1 : Int), .int .i64 (f2 : Int)] w1 (Post w1))) :
    Calls Try.prog 26 #[.pointer (some ⟨g, 0, none⟩), iv, .agg #[.int .i64 4, .int .i64 xa, .int .i64 xb, .int .i64 xc]] W fun e w' => ∃ w1, Below W.heap.size W w1 ∧ Post w1 e w' := by
  obtain ⟨A, m, c, rfl, hm, hc, hq⟩ := hI
  obtain rfl : m = 3 := hm
  obtain ⟨N, rfl, hN, hx⟩ := hq (by omega)
  have k0 := hx 0 f0 rfl
  have k1 := hx 1 f1 rfl
  have k2 := hx 2 f2 rfl
  have HK := hide (fun (w1 : World) (hb : Below W.heap.size W w1) => show w1.cell? ⟨N, 0, none⟩ = some (.int .i64 (f0 : Int)) ∧ w1.cell? ⟨N, 1, none⟩ = some (.int .i64 (f1 : Int)) ∧ w1.cell? ⟨N, 2, none⟩ = some (.int .i64 (f2 : Int)) ∧ True from ⟨(hb.cell (p := ⟨N, 0, none⟩) hN).trans k0, (hb.cell (p := ⟨N, 1, none⟩) hN).trans k1, (hb.cell (p := ⟨N, 2, none⟩) hN).trans k2, trivial⟩)
  clear hc hq hx k0 k1 k2
  have HG := hide (fun (w1 : World) (h : Below W.heap.size W w1) => h)
  go_enter Try.func26, Try.ntmps26
  go_wp2_with fail
  generalize hG : World.alloc _ _ = W1
  have HX := hide (boxes1 hG).1
  have hk1 := HK.out W1 HX.out.bl
  obtain ⟨k0, k1, k2, _⟩ := hk1
  have x1 : W1.cell? ⟨W.heap.size, 1, none⟩ = some (.int .i64 xa) := (HX.out.get 0 rfl).1 1 _ rfl
  have x2 : W1.cell? ⟨W.heap.size, 2, none⟩ = some (.int .i64 xb) := (HX.out.get 0 rfl).1 2 _ rfl
  have x3 : W1.cell? ⟨W.heap.size, 3, none⟩ = some (.int .i64 xc) := (HX.out.get 0 rfl).1 3 _ rfl
  have x0 : W1.cell? ⟨W.heap.size, 0, none⟩ = some (.int .i64 4) := (HX.out.get 0 rfl).1 0 _ rfl
  have HCC := hide (HC.out W1 HX.out.bl)
  clear hG
  go_wp2_with fail
  refine wp_region_E (fun w' => Below W1.heap.size W1 w') 10 (by kernel_rfl) ((Below.refl _ _).drew) (fun hS inv => ?_)
  refine wpAnyE_pure (i := 0) (v := ?_) rfl (by kernel_rfl) (by kernel_rfl) (by kernel_rfl) (by kernel_rfl) (fun _ _ _ h => h) inv (Or.inl ⟨by rfl, ?_⟩) (fun _ => hS) (fun inv2 => ?_)
  rotate_left
  · intro w _
    go_simp
    try with_reducible rfl
  clear inv
  have inv := inv2
  clear inv2
  try simp only [Act.put, nrmA, nrmB, nrmC]
  refine wpAnyE_pure (i := 1) (v := ?_) rfl (by kernel_rfl) (by kernel_rfl) (by kernel_rfl) (by kernel_rfl) (fun _ _ _ h => h) inv (Or.inl ⟨by rfl, ?_⟩) (fun _ => hS) (fun inv2 => ?_)
  rotate_left
  · intro w _
    go_simp
    try with_reducible rfl
  clear inv
  have inv := inv2
  clear inv2
  try simp only [Act.put, nrmA, nrmB, nrmC]
  refine wpAnyE_pure (i := 2) (v := ?_) rfl (by kernel_rfl) (by kernel_rfl) (by kernel_rfl) (by kernel_rfl) (fun _ _ _ h => h) inv (Or.inl ⟨by rfl, ?_⟩) (fun _ => hS) (fun inv2 => ?_)
  rotate_left
  · intro w _
    go_simp
    try with_reducible rfl
  clear inv
  have inv := inv2
  clear inv2
  try simp only [Act.put, nrmA, nrmB, nrmC]
  refine wpAnyE_load (i := 3) (v := ?_) [10] rfl (by kernel_rfl) (by kernel_rfl) (by kernel_rfl) (by kernel_rfl) (fun _ _ _ h => h) inv (Or.inl ⟨by rfl, ?_⟩) hS (fun inv2 => ?_)
  rotate_left
  · intro w hSw
    obtain ⟨k0, k1, k2, _⟩ := HK.out w (HX.out.below hSw).bl
    go_simp
    try with_reducible rfl
  clear inv
  have inv := inv2
  clear inv2
  try simp only [Act.put, nrmA, nrmB, nrmC]
  refine wpAnyE_pure (i := 4) (v := ?_) rfl (by kernel_rfl) (by kernel_rfl) (by kernel_rfl) (by kernel_rfl) (fun _ _ _ h => h) inv (Or.inl ⟨by rfl, ?_⟩) (fun _ => hS) (fun inv2 => ?_)
  rotate_left
  · intro w _
    go_simp
    try with_reducible rfl
  clear inv
  have inv := inv2
  clear inv2
  try simp only [Act.put, nrmA, nrmB, nrmC]
  refine wpAnyE_pure (i := 5) (v := ?_) rfl (by kernel_rfl) (by kernel_rfl) (by kernel_rfl) (by kernel_rfl) (fun _ _ _ h => h) inv (Or.inl ⟨by rfl, ?_⟩) (fun _ => hS) (fun inv2 => ?_)
  rotate_left
  · intro w _
    go_simp
    try with_reducible rfl
  clear inv
  have inv := inv2
  clear inv2
  try simp only [Act.put, nrmA, nrmB, nrmC]
  refine wpAnyE_load (i := 6) (v := ?_) [10] rfl (by kernel_rfl) (by kernel_rfl) (by kernel_rfl) (by kernel_rfl) (fun _ _ _ h => h) inv (Or.inl ⟨by rfl, ?_⟩) hS (fun inv2 => ?_)
  rotate_left
  · intro w hSw
    obtain ⟨k0, k1, k2, _⟩ := HK.out w (HX.out.below hSw).bl
    go_simp
    try with_reducible rfl
  clear inv
  have inv := inv2
  clear inv2
  try simp only [Act.put, nrmA, nrmB, nrmC]
  refine wpAnyE_pure (i := 7) (v := ?_) rfl (by kernel_rfl) (by kernel_rfl) (by kernel_rfl) (by kernel_rfl) (fun _ _ _ h => h) inv (Or.inl ⟨by rfl, ?_⟩) (fun _ => hS) (fun inv2 => ?_)
  rotate_left
  · intro w _
    go_simp
    try with_reducible rfl
  clear inv
  have inv := inv2
  clear inv2
  try simp only [Act.put, nrmA, nrmB, nrmC]
  refine wpAnyE_pure (i := 8) (v := ?_) rfl (by kernel_rfl) (by kernel_rfl) (by kernel_rfl) (by kernel_rfl) (fun _ _ _ h => h) inv (Or.inl ⟨by rfl, ?_⟩) (fun _ => hS) (fun inv2 => ?_)
  rotate_left
  · intro w _
    go_simp
    try with_reducible rfl
  clear inv
  have inv := inv2
  clear inv2
  try simp only [Act.put, nrmA, nrmB, nrmC]
  refine wpAnyE_load (i := 9) (v := ?_) [10] rfl (by kernel_rfl) (by kernel_rfl) (by kernel_rfl) (by kernel_rfl) (fun _ _ _ h => h) inv (Or.inl ⟨by rfl, ?_⟩) hS (fun inv2 => ?_)
  rotate_left
  · intro w hSw
    obtain ⟨k0, k1, k2, _⟩ := HK.out w (HX.out.below hSw).bl
    go_simp
    try with_reducible rfl
  clear inv
  have inv := inv2
  clear inv2
  try simp only [Act.put, nrmA, nrmB, nrmC]
  refine wpAnyE_late (i := 10) rfl (by kernel_rfl) inv (by kernel_rfl) (fun K hK => ?_)
  go_simp
  refine (HC.out _ ((HX.out.below hS).bl)).mono ?_
  rintro e w2 hp
  have HF := hide (show ∃ w1, Below W.heap.size W w1 ∧ Post w1 e w2 from ⟨_, (HX.out.below hS).bl, hp⟩)
  obtain ⟨r, q, rfl⟩ := HP.out _ _ _ hp
  clear hp
  refine hK.out _ _ (fun inv2 => ?_)
  clear hK K
  clear inv
  have inv := inv2
  clear inv2
  try simp only [Act.put, nrmA, nrmB, nrmC]
  refine wpAnyE_pureL (i := 11) (v := ?_) rfl (by kernel_rfl) (by kernel_rfl) (by kernel_rfl) (by kernel_rfl) (fun _ _ _ h => h) inv (Or.inl ⟨by rfl, ?_⟩) (by kernel_rfl) (fun inv2 => ?_)
  rotate_left
  · intro w _
    go_simp
    try with_reducible rfl
  clear inv
  have inv := inv2
  clear inv2
  try simp only [Act.put, nrmA, nrmB, nrmC]
  refine wpAnyE_pureL (i := 12) (v := ?_) rfl (by kernel_rfl) (by kernel_rfl) (by kernel_rfl) (by kernel_rfl) (fun _ _ _ h => h) inv (Or.inl ⟨by rfl, ?_⟩) (by kernel_rfl) (fun inv2 => ?_)
  rotate_left
  · intro w _
    go_simp
    try with_reducible rfl
  clear inv
  have inv := inv2
  clear inv2
  try simp only [Act.put, nrmA, nrmB, nrmC]
  refine wpAnyE_late (i := 13) rfl (by kernel_rfl) inv (by kernel_rfl) (fun K hK => ?_)
  go_simp
  refine hK.out _ _ (fun inv2 => ?_)
  clear hK K
  clear inv
  have inv := inv2
  clear inv2
  try simp only [Act.put, nrmA, nrmB, nrmC]
  refine wpAnyE_late (i := 14) rfl (by kernel_rfl) inv (by kernel_rfl) (fun K hK => ?_)
  go_simp
  refine hK.out _ _ (fun inv2 => ?_)
  clear hK K
  clear inv
  have inv := inv2
  clear inv2
  try simp only [Act.put, nrmA, nrmB, nrmC]
  refine wpAnyE_done (by kernel_rfl) ?_ _
  clear inv
  go_wp2
  go_ret2
  exact HF.out
set_option maxRecDepth 100000 in
set_option maxHeartbeats 4000000 in
theorem asked5 {W : World} (g : Nat) {iv : Value} (f0 : Nat) (xa xb xc : Int) (hI : IdsAt W iv [f0]) (Post : World → Ending → World → Prop) (HP : Hid (∀ w e w', Post w e w' → ∃ r q : Int, e = .returned (.tuple #[.int .i64 r, .int .i64 q]))) (HC : Hid (∀ w1, Below W.heap.size W w1 → Calls Try.prog 98 #[.pointer (some ⟨g, 0, none⟩), .int .i64 (f0 : Int), .int .i64 xb] w1 (Post w1))) :
    Calls Try.prog 26 #[.pointer (some ⟨g, 0, none⟩), iv, .agg #[.int .i64 5, .int .i64 xa, .int .i64 xb, .int .i64 xc]] W fun e w' => ∃ w1, Below W.heap.size W w1 ∧ Post w1 e w' := by
  obtain ⟨A, m, c, rfl, hm, hc, hq⟩ := hI
  obtain rfl : m = 1 := hm
  obtain ⟨N, rfl, hN, hx⟩ := hq (by omega)
  have k0 := hx 0 f0 rfl
  have HK := hide (fun (w1 : World) (hb : Below W.heap.size W w1) => show w1.cell? ⟨N, 0, none⟩ = some (.int .i64 (f0 : Int)) ∧ True from ⟨(hb.cell (p := ⟨N, 0, none⟩) hN).trans k0, trivial⟩)
  clear hc hq hx k0
  have HG := hide (fun (w1 : World) (h : Below W.heap.size W w1) => h)
  go_enter Try.func26, Try.ntmps26
  go_wp2_with fail
  generalize hG : World.alloc _ _ = W1
  have HX := hide (boxes1 hG).1
  have hk1 := HK.out W1 HX.out.bl
  obtain ⟨k0, _⟩ := hk1
  have x1 : W1.cell? ⟨W.heap.size, 1, none⟩ = some (.int .i64 xa) := (HX.out.get 0 rfl).1 1 _ rfl
  have x2 : W1.cell? ⟨W.heap.size, 2, none⟩ = some (.int .i64 xb) := (HX.out.get 0 rfl).1 2 _ rfl
  have x3 : W1.cell? ⟨W.heap.size, 3, none⟩ = some (.int .i64 xc) := (HX.out.get 0 rfl).1 3 _ rfl
  have x0 : W1.cell? ⟨W.heap.size, 0, none⟩ = some (.int .i64 5) := (HX.out.get 0 rfl).1 0 _ rfl
  have HCC := hide (HC.out W1 HX.out.bl)
  clear hG
  go_wp2_with fail
  refine wp_region_E (fun w' => Below W1.heap.size W1 w') 6 (by kernel_rfl) ((Below.refl _ _).drew) (fun hS inv => ?_)
  refine wpAnyE_pure (i := 0) (v := ?_) rfl (by kernel_rfl) (by kernel_rfl) (by kernel_rfl) (by kernel_rfl) (fun _ _ _ h => h) inv (Or.inl ⟨by rfl, ?_⟩) (fun _ => hS) (fun inv2 => ?_)
  rotate_left
  · intro w _
    go_simp
    try with_reducible rfl
  clear inv
  have inv := inv2
  clear inv2
  try simp only [Act.put, nrmA, nrmB, nrmC]
  refine wpAnyE_pure (i := 1) (v := ?_) rfl (by kernel_rfl) (by kernel_rfl) (by kernel_rfl) (by kernel_rfl) (fun _ _ _ h => h) inv (Or.inl ⟨by rfl, ?_⟩) (fun _ => hS) (fun inv2 => ?_)
  rotate_left
  · intro w _
    go_simp
    try with_reducible rfl
  clear inv
  have inv := inv2
  clear inv2
  try simp only [Act.put, nrmA, nrmB, nrmC]
  refine wpAnyE_pure (i := 2) (v := ?_) rfl (by kernel_rfl) (by kernel_rfl) (by kernel_rfl) (by kernel_rfl) (fun _ _ _ h => h) inv (Or.inl ⟨by rfl, ?_⟩) (fun _ => hS) (fun inv2 => ?_)
  rotate_left
  · intro w _
    go_simp
    try with_reducible rfl
  clear inv
  have inv := inv2
  clear inv2
  try simp only [Act.put, nrmA, nrmB, nrmC]
  refine wpAnyE_load (i := 3) (v := ?_) [6] rfl (by kernel_rfl) (by kernel_rfl) (by kernel_rfl) (by kernel_rfl) (fun _ _ _ h => h) inv (Or.inl ⟨by rfl, ?_⟩) hS (fun inv2 => ?_)
  rotate_left
  · intro w hSw
    obtain ⟨k0, _⟩ := HK.out w (HX.out.below hSw).bl
    go_simp
    try with_reducible rfl
  clear inv
  have inv := inv2
  clear inv2
  try simp only [Act.put, nrmA, nrmB, nrmC]
  refine wpAnyE_pure (i := 4) (v := ?_) rfl (by kernel_rfl) (by kernel_rfl) (by kernel_rfl) (by kernel_rfl) (fun _ _ _ h => h) inv (Or.inl ⟨by rfl, ?_⟩) (fun _ => hS) (fun inv2 => ?_)
  rotate_left
  · intro w _
    go_simp
    try with_reducible rfl
  clear inv
  have inv := inv2
  clear inv2
  try simp only [Act.put, nrmA, nrmB, nrmC]
  refine wpAnyE_load (i := 5) (v := ?_) [6] rfl (by kernel_rfl) (by kernel_rfl) (by kernel_rfl) (by kernel_rfl) (fun _ _ _ h => h) inv (Or.inl ⟨by rfl, ?_⟩) hS (fun inv2 => ?_)
  rotate_left
  · intro w hSw
    have x1 : w.cell? ⟨W.heap.size, 2, none⟩ = some (.int .i64 xb) := ((HX.out.below hSw).get 0 rfl).1 2 _ rfl; have x2 : w.cell? ⟨W.heap.size, 3, none⟩ = some (.int .i64 xc) := ((HX.out.below hSw).get 0 rfl).1 3 _ rfl
    go_simp
    try with_reducible rfl
  clear inv
  have inv := inv2
  clear inv2
  try simp only [Act.put, nrmA, nrmB, nrmC]
  refine wpAnyE_late (i := 6) rfl (by kernel_rfl) inv (by kernel_rfl) (fun K hK => ?_)
  go_simp
  refine (HC.out _ ((HX.out.below hS).bl)).mono ?_
  rintro e w2 hp
  have HF := hide (show ∃ w1, Below W.heap.size W w1 ∧ Post w1 e w2 from ⟨_, (HX.out.below hS).bl, hp⟩)
  obtain ⟨r, q, rfl⟩ := HP.out _ _ _ hp
  clear hp
  refine hK.out _ _ (fun inv2 => ?_)
  clear hK K
  clear inv
  have inv := inv2
  clear inv2
  try simp only [Act.put, nrmA, nrmB, nrmC]
  refine wpAnyE_pureL (i := 7) (v := ?_) rfl (by kernel_rfl) (by kernel_rfl) (by kernel_rfl) (by kernel_rfl) (fun _ _ _ h => h) inv (Or.inl ⟨by rfl, ?_⟩) (by kernel_rfl) (fun inv2 => ?_)
  rotate_left
  · intro w _
    go_simp
    try with_reducible rfl
  clear inv
  have inv := inv2
  clear inv2
  try simp only [Act.put, nrmA, nrmB, nrmC]
  refine wpAnyE_pureL (i := 8) (v := ?_) rfl (by kernel_rfl) (by kernel_rfl) (by kernel_rfl) (by kernel_rfl) (fun _ _ _ h => h) inv (Or.inl ⟨by rfl, ?_⟩) (by kernel_rfl) (fun inv2 => ?_)
  rotate_left
  · intro w _
    go_simp
    try with_reducible rfl
  clear inv
  have inv := inv2
  clear inv2
  try simp only [Act.put, nrmA, nrmB, nrmC]
  refine wpAnyE_late (i := 9) rfl (by kernel_rfl) inv (by kernel_rfl) (fun K hK => ?_)
  go_simp
  refine hK.out _ _ (fun inv2 => ?_)
  clear hK K
  clear inv
  have inv := inv2
  clear inv2
  try simp only [Act.put, nrmA, nrmB, nrmC]
  refine wpAnyE_late (i := 10) rfl (by kernel_rfl) inv (by kernel_rfl) (fun K hK => ?_)
  go_simp
  refine hK.out _ _ (fun inv2 => ?_)
  clear hK K
  clear inv
  have inv := inv2
  clear inv2
  try simp only [Act.put, nrmA, nrmB, nrmC]
  refine wpAnyE_done (by kernel_rfl) ?_ _
  clear inv
  go_wp2
  go_ret2
  exact HF.out
set_option maxRecDepth 100000 in
set_option maxHeartbeats 4000000 in
theorem asked6 {W : World} (g : Nat) {iv : Value} (f0 : Nat) (xa xb xc : Int) (hI : IdsAt W iv [f0]) (Post : World → Ending → World → Prop) (HP : Hid (∀ w e w', Post w e w' → ∃ r q : Int, e = .returned (.tuple #[.int .i64 r, .int .i64 q]))) (HC : Hid (∀ w1, Below W.heap.size W w1 → Calls Try.prog 99 #[.pointer (some ⟨g, 0, none⟩), .int .i64 (f0 : Int), .int .i64 xb, .int .i64 xc] w1 (Post w1))) :
    Calls Try.prog 26 #[.pointer (some ⟨g, 0, none⟩), iv, .agg #[.int .i64 6, .int .i64 xa, .int .i64 xb, .int .i64 xc]] W fun e w' => ∃ w1, Below W.heap.size W w1 ∧ Post w1 e w' := by
  obtain ⟨A, m, c, rfl, hm, hc, hq⟩ := hI
  obtain rfl : m = 1 := hm
  obtain ⟨N, rfl, hN, hx⟩ := hq (by omega)
  have k0 := hx 0 f0 rfl
  have HK := hide (fun (w1 : World) (hb : Below W.heap.size W w1) => show w1.cell? ⟨N, 0, none⟩ = some (.int .i64 (f0 : Int)) ∧ True from ⟨(hb.cell (p := ⟨N, 0, none⟩) hN).trans k0, trivial⟩)
  clear hc hq hx k0
  have HG := hide (fun (w1 : World) (h : Below W.heap.size W w1) => h)
  go_enter Try.func26, Try.ntmps26
  go_wp2_with fail
  generalize hG : World.alloc _ _ = W1
  have HX := hide (boxes1 hG).1
  have hk1 := HK.out W1 HX.out.bl
  obtain ⟨k0, _⟩ := hk1
  have x1 : W1.cell? ⟨W.heap.size, 1, none⟩ = some (.int .i64 xa) := (HX.out.get 0 rfl).1 1 _ rfl
  have x2 : W1.cell? ⟨W.heap.size, 2, none⟩ = some (.int .i64 xb) := (HX.out.get 0 rfl).1 2 _ rfl
  have x3 : W1.cell? ⟨W.heap.size, 3, none⟩ = some (.int .i64 xc) := (HX.out.get 0 rfl).1 3 _ rfl
  have x0 : W1.cell? ⟨W.heap.size, 0, none⟩ = some (.int .i64 6) := (HX.out.get 0 rfl).1 0 _ rfl
  have HCC := hide (HC.out W1 HX.out.bl)
  clear hG
  go_wp2_with fail
  refine wp_region_E (fun w' => Below W1.heap.size W1 w') 8 (by kernel_rfl) ((Below.refl _ _).drew) (fun hS inv => ?_)
  refine wpAnyE_pure (i := 0) (v := ?_) rfl (by kernel_rfl) (by kernel_rfl) (by kernel_rfl) (by kernel_rfl) (fun _ _ _ h => h) inv (Or.inl ⟨by rfl, ?_⟩) (fun _ => hS) (fun inv2 => ?_)
  rotate_left
  · intro w _
    go_simp
    try with_reducible rfl
  clear inv
  have inv := inv2
  clear inv2
  try simp only [Act.put, nrmA, nrmB, nrmC]
  refine wpAnyE_pure (i := 1) (v := ?_) rfl (by kernel_rfl) (by kernel_rfl) (by kernel_rfl) (by kernel_rfl) (fun _ _ _ h => h) inv (Or.inl ⟨by rfl, ?_⟩) (fun _ => hS) (fun inv2 => ?_)
  rotate_left
  · intro w _
    go_simp
    try with_reducible rfl
  clear inv
  have inv := inv2
  clear inv2
  try simp only [Act.put, nrmA, nrmB, nrmC]
  refine wpAnyE_pure (i := 2) (v := ?_) rfl (by kernel_rfl) (by kernel_rfl) (by kernel_rfl) (by kernel_rfl) (fun _ _ _ h => h) inv (Or.inl ⟨by rfl, ?_⟩) (fun _ => hS) (fun inv2 => ?_)
  rotate_left
  · intro w _
    go_simp
    try with_reducible rfl
  clear inv
  have inv := inv2
  clear inv2
  try simp only [Act.put, nrmA, nrmB, nrmC]
  refine wpAnyE_load (i := 3) (v := ?_) [8] rfl (by kernel_rfl) (by kernel_rfl) (by kernel_rfl) (by kernel_rfl) (fun _ _ _ h => h) inv (Or.inl ⟨by rfl, ?_⟩) hS (fun inv2 => ?_)
  rotate_left
  · intro w hSw
    obtain ⟨k0, _⟩ := HK.out w (HX.out.below hSw).bl
    go_simp
    try with_reducible rfl
  clear inv
  have inv := inv2
  clear inv2
  try simp only [Act.put, nrmA, nrmB, nrmC]
  refine wpAnyE_pure (i := 4) (v := ?_) rfl (by kernel_rfl) (by kernel_rfl) (by kernel_rfl) (by kernel_rfl) (fun _ _ _ h => h) inv (Or.inl ⟨by rfl, ?_⟩) (fun _ => hS) (fun inv2 => ?_)
  rotate_left
  · intro w _
    go_simp
    try with_reducible rfl
  clear inv
  have inv := inv2
  clear inv2
  try simp only [Act.put, nrmA, nrmB, nrmC]
  refine wpAnyE_load (i := 5) (v := ?_) [8] rfl (by kernel_rfl) (by kernel_rfl) (by kernel_rfl) (by kernel_rfl) (fun _ _ _ h => h) inv (Or.inl ⟨by rfl, ?_⟩) hS (fun inv2 => ?_)
  rotate_left
  · intro w hSw
    have x1 : w.cell? ⟨W.heap.size, 2, none⟩ = some (.int .i64 xb) := ((HX.out.below hSw).get 0 rfl).1 2 _ rfl; have x2 : w.cell? ⟨W.heap.size, 3, none⟩ = some (.int .i64 xc) := ((HX.out.below hSw).get 0 rfl).1 3 _ rfl
    go_simp
    try with_reducible rfl
  clear inv
  have inv := inv2
  clear inv2
  try simp only [Act.put, nrmA, nrmB, nrmC]
  refine wpAnyE_pure (i := 6) (v := ?_) rfl (by kernel_rfl) (by kernel_rfl) (by kernel_rfl) (by kernel_rfl) (fun _ _ _ h => h) inv (Or.inl ⟨by rfl, ?_⟩) (fun _ => hS) (fun inv2 => ?_)
  rotate_left
  · intro w _
    go_simp
    try with_reducible rfl
  clear inv
  have inv := inv2
  clear inv2
  try simp only [Act.put, nrmA, nrmB, nrmC]
  refine wpAnyE_load (i := 7) (v := ?_) [8] rfl (by kernel_rfl) (by kernel_rfl) (by kernel_rfl) (by kernel_rfl) (fun _ _ _ h => h) inv (Or.inl ⟨by rfl, ?_⟩) hS (fun inv2 => ?_)
  rotate_left
  · intro w hSw
    have x1 : w.cell? ⟨W.heap.size, 2, none⟩ = some (.int .i64 xb) := ((HX.out.below hSw).get 0 rfl).1 2 _ rfl; have x2 : w.cell? ⟨W.heap.size, 3, none⟩ = some (.int .i64 xc) := ((HX.out.below hSw).get 0 rfl).1 3 _ rfl
    go_simp
    try with_reducible rfl
  clear inv
  have inv := inv2
  clear inv2
  try simp only [Act.put, nrmA, nrmB, nrmC]
  refine wpAnyE_late (i := 8) rfl (by kernel_rfl) inv (by kernel_rfl) (fun K hK => ?_)
  go_simp
  refine (HC.out _ ((HX.out.below hS).bl)).mono ?_
  rintro e w2 hp
  have HF := hide (show ∃ w1, Below W.heap.size W w1 ∧ Post w1 e w2 from ⟨_, (HX.out.below hS).bl, hp⟩)
  obtain ⟨r, q, rfl⟩ := HP.out _ _ _ hp
  clear hp
  refine hK.out _ _ (fun inv2 => ?_)
  clear hK K
  clear inv
  have inv := inv2
  clear inv2
  try simp only [Act.put, nrmA, nrmB, nrmC]
  refine wpAnyE_pureL (i := 9) (v := ?_) rfl (by kernel_rfl) (by kernel_rfl) (by kernel_rfl) (by kernel_rfl) (fun _ _ _ h => h) inv (Or.inl ⟨by rfl, ?_⟩) (by kernel_rfl) (fun inv2 => ?_)
  rotate_left
  · intro w _
    go_simp
    try with_reducible rfl
  clear inv
  have inv := inv2
  clear inv2
  try simp only [Act.put, nrmA, nrmB, nrmC]
  refine wpAnyE_pureL (i := 10) (v := ?_) rfl (by kernel_rfl) (by kernel_rfl) (by kernel_rfl) (by kernel_rfl) (fun _ _ _ h => h) inv (Or.inl ⟨by rfl, ?_⟩) (by kernel_rfl) (fun inv2 => ?_)
  rotate_left
  · intro w _
    go_simp
    try with_reducible rfl
  clear inv
  have inv := inv2
  clear inv2
  try simp only [Act.put, nrmA, nrmB, nrmC]
  refine wpAnyE_late (i := 11) rfl (by kernel_rfl) inv (by kernel_rfl) (fun K hK => ?_)
  go_simp
  refine hK.out _ _ (fun inv2 => ?_)
  clear hK K
  clear inv
  have inv := inv2
  clear inv2
  try simp only [Act.put, nrmA, nrmB, nrmC]
  refine wpAnyE_late (i := 12) rfl (by kernel_rfl) inv (by kernel_rfl) (fun K hK => ?_)
  go_simp
  refine hK.out _ _ (fun inv2 => ?_)
  clear hK K
  clear inv
  have inv := inv2
  clear inv2
  try simp only [Act.put, nrmA, nrmB, nrmC]
  refine wpAnyE_done (by kernel_rfl) ?_ _
  clear inv
  go_wp2
  go_ret2
  exact HF.out
end Go.Proofs.Ythaiffjalgionaa
