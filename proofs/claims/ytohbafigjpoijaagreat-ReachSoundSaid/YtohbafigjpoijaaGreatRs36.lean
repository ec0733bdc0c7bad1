/- A part of the proof: RdC, RdR, RdY, RdF, Sd3. -/
import Derived.Test.YtohbafigjpoijaaGreatRs35
import Derived.SizedLaws
set_option linter.unusedVariables false
set_option linter.unusedSimpArgs false
set_option maxRecDepth 100000
set_option maxHeartbeats 4000000
namespace Go.Proofs.YtohbafigjpoijaaGreat
open Bdd Go.Maps Go.RowKit
def cubeF (c : Nat → Option Bool) : Nat → Bdd.Fn
  | 0 => fun _ => true
  | n + 1 => fun x => cubeF c n x && (match c n with | none => true | some b => x n == b)
def cubesL : Nat → List Bdd.Fn
  | 0 => [fun _ => true]
  | n + 1 => cubesL n ++ ((cubesL n).map (fun F x => F x && (x n == true)) ++ (cubesL n).map (fun F x => F x && (x n == false)))
theorem cubesL_len : ∀ n, (cubesL n).length = 3 ^ n
  | 0 => rfl
  | n + 1 => by
    simp only [cubesL, List.length_append, List.length_map, cubesL_len n]
    omega
theorem cube_mem (c : Nat → Option Bool) : ∀ n, cubeF c n ∈ cubesL n
  | 0 => List.mem_singleton.2 rfl
  | n + 1 => by
    have ih := cube_mem c n
    simp only [cubesL, List.mem_append, List.mem_map]
    cases e : c n with
    | none => exact .inl (by simpa only [cubeF, e, Bool.and_true] using ih)
    | some b =>
      cases b
      · exact .inr (.inr ⟨_, ih, by simp only [cubeF, e]⟩)
      · exact .inr (.inl ⟨_, ih, by simp only [cubeF, e]⟩)
theorem cube_at (c : Nat → Option Bool) (x : Asg) : ∀ n, (cubeF c n x = true ↔ ∀ u, u < n → ∀ b, c u = some b → x u = b)
  | 0 => ⟨fun _ u hu => by omega, fun _ => rfl⟩
  | n + 1 => by
    have ih := cube_at c x n
    simp only [cubeF, Bool.and_eq_true, ih]
    constructor
    · rintro ⟨h1, h2⟩ u hu b hb
      by_cases e : u = n
      · subst e
        rw [hb] at h2
        simpa using h2
      · exact h1 u (by omega) b hb
    · intro h
      refine ⟨fun u hu b hb => h u (by omega) b hb, ?_⟩
      cases e : c n with
      | none => rfl
      | some b => simpa using h n (by omega) b e
def IsC (F : Bdd.Fn) : Prop := F = (fun _ => false) ∨ ∃ c, F = cubeF c 8
theorem IsC.of {F : Bdd.Fn} (Q : Nat → Bool → Prop) (hq : ∀ u b, Q u b → u < 8) (h : ∀ x, F x = true ↔ ∀ u b, Q u b → x u = b) : IsC F := by
  by_cases e : ∃ x0, F x0 = true
  · obtain ⟨x0, h0⟩ := e
    have hx0 := (h x0).1 h0
    refine .inr ⟨fun v => open Classical in if ∃ b, Q v b then some (x0 v) else none, ?_⟩
    funext x
    rw [Bool.eq_iff_iff, cube_at, h]
    constructor
    · intro hx u hu b hb
      split at hb
      · rename_i hex
        obtain ⟨b', hb'⟩ := hex
        cases hb
        rw [hx u b' hb', hx0 u b' hb']
      · cases hb
    · intro hx u b hb
      rw [hx u (hq u b hb) (x0 u) (if_pos ⟨b, hb⟩), hx0 u b hb]
  · left
    funext x
    cases hx : F x
    · rfl
    · exact absurd ⟨x, hx⟩ e
theorem IsC.no : IsC (fun _ => false) := .inl rfl
theorem IsC.yes : IsC (fun _ => true) := IsC.of (fun _ _ => False) (fun _ _ h => h.elim) (fun x => ⟨fun _ _ _ h => h.elim, fun _ => rfl⟩)
theorem IsC.one {F : Bdd.Fn} (e : F = fun _ => true) : IsC F := e ▸ IsC.yes
theorem IsC.const (b : Bool) : IsC (fun _ => b) := by cases b; exact IsC.no; exact IsC.yes
theorem IsC.sub {F G : Bdd.Fn} (h : IsC F) (σ : Nat → Bool ⊕ Nat) (hσ : ∀ u, u < 8 → ∀ v, σ u = .inr v → v < 8) (hG : ∀ x, G x = F (fun u => match σ u with | .inl b => b | .inr v => x v)) : IsC G := by
  rcases h with rfl | ⟨c, rfl⟩
  · left; funext x; rw [hG]
  · by_cases e : ∃ u b b0, u < 8 ∧ c u = some b ∧ σ u = .inl b0 ∧ b0 ≠ b
    · obtain ⟨u, b, b0, hu, hc, hs, hne⟩ := e
      left
      funext x
      rw [hG]
      cases hx : cubeF c 8 (fun u => match σ u with | .inl b => b | .inr v => x v)
      · rfl
      · have := (cube_at _ _ _).1 hx u hu b hc
        simp only [hs] at this
        exact absurd this hne
    · refine IsC.of (fun v b => ∃ u, u < 8 ∧ c u = some b ∧ σ u = .inr v) (fun v b ⟨u, hu, _, hs⟩ => hσ u hu v hs) (fun x => ?_)
      rw [hG, cube_at]
      constructor
      · rintro hx v b ⟨u, hu, hc, hs⟩
        have := hx u hu b hc
        simpa only [hs] using this
      · intro hx u hu b hc
        cases hs : σ u with
        | inl b0 =>
          simp only
          by_cases hne : b0 = b
          · exact hne
          · exact absurd ⟨u, b, b0, hu, hc, hs, hne⟩ e
        | inr v => exact hx v b ⟨u, hu, hc, hs⟩
theorem IsC.and {F G : Bdd.Fn} (h : IsC F) (k : IsC G) : IsC (andF F G) := by
  rcases h with rfl | ⟨c, rfl⟩
  · left; funext x; rw [andF_at]; rfl
  rcases k with rfl | ⟨d, rfl⟩
  · left; funext x; rw [andF_at, Bool.and_false]
  refine IsC.of (fun v b => v < 8 ∧ (c v = some b ∨ d v = some b)) (fun _ _ h => h.1) (fun x => ?_)
  rw [andF_at, Bool.and_eq_true, cube_at, cube_at]
  exact ⟨fun ⟨h1, h2⟩ v b ⟨hv, hb⟩ => hb.elim (h1 v hv b) (h2 v hv b), fun h => ⟨fun v hv b hb => h v b ⟨hv, .inl hb⟩, fun v hv b hb => h v b ⟨hv, .inr hb⟩⟩⟩
theorem IsC.cof {F G : Bdd.Fn} (h : IsC F) (hc : Cof F G) : IsC G := by
  obtain ⟨k, s, rfl⟩ := hc
  refine h.sub (fun u => if u < k then .inl (s u) else .inr u) (fun u hu v hv => ?_) (fun x => ?_)
  · split at hv
    · cases hv
    · cases hv; exact hu
  · congr 1
    funext u
    by_cases e : u < k <;> simp [e]
theorem IsC.restr {F : Bdd.Fn} (h : IsC F) (i : Nat) (b : Bool) : IsC (restr F i b) := by
  refine h.sub (fun u => if u = i then .inl b else .inr u) (fun u hu v hv => ?_) (fun x => ?_)
  · split at hv
    · cases hv
    · cases hv; exact hu
  · unfold Go.Proofs.YtohbafigjpoijaaGreat.restr
    congr 1
    funext u
    by_cases e : u = i <;> simp [upd, e]
theorem IsC.eight {F : Bdd.Fn} (h : IsC F) {x y : Asg} (hxy : ∀ u, u < 8 → x u = y u) : F x = F y := by
  rcases h with rfl | ⟨c, rfl⟩
  · rfl
  · rw [Bool.eq_iff_iff, cube_at, cube_at]
    exact ⟨fun h u hu b hb => by rw [← hxy u hu]; exact h u hu b hb, fun h u hu b hb => by rw [hxy u hu]; exact h u hu b hb⟩
def roomC : List Bdd.Fn := (fun _ => false) :: ((List.range 14).map (fun u => fun x : Asg => x u) ++ cubesL 8)
theorem roomC_len : roomC.length = 6576 := by
  simp only [roomC, List.length_cons, List.length_append, List.length_map, List.length_range, cubesL_len]
def PCh (G : Bdd.Fn) : Prop := Bdd.Below 14 G → G ∈ roomC
theorem PCh.of {G : Bdd.Fn} (h : IsC G) : PCh G := fun _ => by
  unfold roomC
  rcases h with rfl | ⟨c, rfl⟩
  · exact List.mem_cons_self
  · exact List.mem_cons_of_mem _ (List.mem_append_right _ (cube_mem c 8))
theorem PCh.pc {F : Bdd.Fn} (h : IsC F) : PC PCh F := fun G hG => PCh.of (h.cof hG)
theorem PCh.var (u : Nat) : PC PCh (fun x => x u) := by
  rintro G ⟨k, s, rfl⟩
  by_cases e : u < k
  · have : (fun x : Asg => if u < k then s u else x u) = fun _ => s u := by funext x; rw [if_pos e]
    rw [this]
    exact PCh.of (IsC.const _)
  · have hx : (fun x : Asg => if u < k then s u else x u) = fun x => x u := by funext x; rw [if_neg e]
    rw [hx]
    intro hb
    have hu : u < 14 := Nat.lt_of_not_le (fun hu => by
      have := hb (fun _ => false) (fun v => decide (v = u)) (fun v hv => by
        have : v ≠ u := by omega
        simp [this])
      simp at this)
    unfold roomC
    exact List.mem_cons_of_mem _ (List.mem_append_left _ (List.mem_map.2 ⟨u, List.mem_range.2 hu, rfl⟩))
theorem ite_var (i : Nat) (K : Bdd.Fn) (j : Nat) : iteF (fun x => x i) (Go.Proofs.YtohbafigjpoijaaGreat.restr K j true) (Go.Proofs.YtohbafigjpoijaaGreat.restr K j false) = fun x => K (upd x j (x i)) := by
  funext x
  show (if x i = true then K (upd x j true) else K (upd x j false)) = K (upd x j (x i))
  by_cases e : x i = true
  · rw [if_pos e, e]
  · rw [if_neg e, Bool.eq_false_iff.2 e]
theorem IsC.takes {F : Bdd.Fn} (h : IsC F) (i j : Nat) (hij : (i < 8 ∧ j < 8) ∨ (8 ≤ i ∧ 8 ≤ j)) : IsC (fun x => F (upd x j (x i))) := by
  rcases hij with ⟨h1, h2⟩ | ⟨h1, h2⟩
  · refine h.sub (fun u => if u = j then .inr i else .inr u) (fun u hu v hv => ?_) (fun x => ?_)
    · split at hv <;> cases hv <;> assumption
    · congr 1
      funext u
      by_cases e : u = j <;> simp [upd, e]
  · have : (fun x => F (upd x j (x i))) = F := by
      funext x
      exact h.eight (fun u hu => upd_other x _ (by omega))
    rw [this]; exact h
theorem IsC.swap {F : Bdd.Fn} (h : IsC F) (i j : Nat) (hij : (i < 8 ∧ j < 8) ∨ (8 ≤ i ∧ 8 ≤ j)) : IsC (swapF F i j) := by
  rcases hij with ⟨h1, h2⟩ | ⟨h1, h2⟩
  · refine h.sub (fun u => if u = i then .inr j else if u = j then .inr i else .inr u) (fun u hu v hv => ?_) (fun x => ?_)
    · split at hv
      · cases hv; exact h2
      · split at hv <;> cases hv <;> assumption
    · unfold swapF
      congr 1
      funext u
      by_cases e : u = i
      · simp [upd, e]
      · by_cases e2 : u = j
        · subst e2
          simp [upd, e]
        · simp [upd, e, e2]
  · have : swapF F i j = F := by
      funext x
      unfold swapF
      exact h.eight (fun u hu => by rw [upd_other _ _ (by omega), upd_other _ _ (by omega)])
    rw [this]; exact h
theorem swap_ite (F : Bdd.Fn) (i j : Nat) (hij : i ≠ j) : iteF (fun x => x j) (iteF (fun x => x i) (Go.Proofs.YtohbafigjpoijaaGreat.restr (Go.Proofs.YtohbafigjpoijaaGreat.restr F i true) j true) (Go.Proofs.YtohbafigjpoijaaGreat.restr (Go.Proofs.YtohbafigjpoijaaGreat.restr F i true) j false)) (iteF (fun x => x i) (Go.Proofs.YtohbafigjpoijaaGreat.restr (Go.Proofs.YtohbafigjpoijaaGreat.restr F i false) j true) (Go.Proofs.YtohbafigjpoijaaGreat.restr (Go.Proofs.YtohbafigjpoijaaGreat.restr F i false) j false)) = swapF F i j := by
  rw [ite_var, ite_var]
  funext x
  show (if x j = true then F (upd (upd x j (x i)) i true) else F (upd (upd x j (x i)) i false)) = F (upd (upd x j (x i)) i (x j))
  by_cases e : x j = true
  · rw [if_pos e, e]
  · rw [if_neg e, Bool.eq_false_iff.2 e]
theorem IsC.swapPC {F : Bdd.Fn} (h : IsC F) (i j : Nat) (hij : (i < 8 ∧ j < 8) ∨ (8 ≤ i ∧ 8 ≤ j)) (hne : i ≠ j) : SwapPC PCh F i j :=
  ⟨PCh.var _, PCh.var _, PCh.pc (h.restr _ _), PCh.pc (h.restr _ _), PCh.pc ((h.restr _ _).restr _ _), PCh.pc ((h.restr _ _).restr _ _), by rw [ite_var]; exact PCh.pc ((h.restr _ _).takes i j hij),
    PCh.pc ((h.restr _ _).restr _ _), PCh.pc ((h.restr _ _).restr _ _), by rw [ite_var]; exact PCh.pc ((h.restr _ _).takes i j hij), by rw [swap_ite F i j hne]; exact PCh.pc (h.swap i j hij)⟩
theorem IsC.flip4 {F : Bdd.Fn} (h : IsC F) : ∀ k, k ≤ 4 → IsC (flip4 F k)
  | 0, _ => h
  | k + 1, hk => (IsC.flip4 h k (by omega)).swap _ _ (.inl ⟨by omega, by omega⟩)
theorem IsC.flip3 {F : Bdd.Fn} (h : IsC F) : ∀ k, k ≤ 3 → IsC (flip3 F k)
  | 0, _ => h
  | k + 1, hk => (IsC.flip3 h k (by omega)).swap _ _ (.inr ⟨by omega, by omega⟩)
theorem IsC.flip {F : Bdd.Fn} (h : IsC F) : IsC (flipF F) := (h.flip4 4 (Nat.le_refl _)).flip3 3 (Nat.le_refl _)
theorem IsC.flipPC {F : Bdd.Fn} (h : IsC F) : FlipPC PCh F :=
  ⟨fun k hk => (h.flip4 k (by omega)).swapPC _ _ (.inl ⟨by omega, by omega⟩) (by omega), fun k hk => ((h.flip4 4 (Nat.le_refl _)).flip3 k (by omega)).swapPC _ _ (.inr ⟨by omega, by omega⟩) (by omega)⟩
theorem outs_c {l : List PartV} (h : ∀ x ∈ l, IsC x.fn) : ∀ (F : Bdd.Fn), IsC F → IsC (l.foldl (fun F x => iteF F x.fn (fun _ => false)) F) := by
  induction l with
  | nil => exact fun F hF => hF
  | cons x l ih => exact fun F hF => ih (fun y hy => h y (List.mem_cons_of_mem _ hy)) _ (hF.and (h x List.mem_cons_self))
theorem newB_c {l : List PartV} (h : ∀ x ∈ l, IsC x.fn) {G : Bdd.Fn} (hG : NewB l G) : PCh G := by
  rcases hG with ⟨u, hG⟩ | ⟨x, hx, hG⟩ | ⟨k, hk, hG⟩
  · exact PCh.var u G hG
  · exact PCh.pc (h x hx) G hG
  · exact PCh.pc (outs_c (fun x hx => h x (List.mem_of_mem_take hx)) _ IsC.yes) G hG
theorem bit_all (d : Nat) : ∀ (set v n : Nat), (∀ m, m < 2 ^ d → set.testBit (n * 2 ^ d + m) = true) → bitF set d v n = fun _ => true := by
  induction d with
  | zero => intro set v n h; funext x; simpa [bitF] using h 0 (by simp)
  | succ d ih =>
    intro set v n h
    have e : 2 ^ (d + 1) = 2 * 2 ^ d := by rw [Nat.pow_succ]; omega
    have h1 : bitF set d (v + 1) (n * 2 + 1) = fun _ => true := ih _ _ _ (fun m hm => by
      have := h (2 ^ d + m) (by omega)
      rwa [e, show n * (2 * 2 ^ d) + (2 ^ d + m) = (n * 2 + 1) * 2 ^ d + m from by rw [Nat.add_mul, Nat.mul_assoc]; omega] at this)
    have h2 : bitF set d (v + 1) (n * 2) = fun _ => true := ih _ _ _ (fun m hm => by
      have := h m (by omega)
      rwa [e, ← Nat.mul_assoc] at this)
    funext x
    simp only [bitF, iteF, h1, h2]
    split <;> rfl
theorem all16 : bitF 65535 4 0 0 = fun _ => true := bit_all 4 _ _ _ (by decide)
theorem all16d : bitF 65535 4 4 0 = fun _ => true := bit_all 4 _ _ _ (by decide)
theorem all8s : bitF 255 3 8 0 = fun _ => true := bit_all 3 _ _ _ (by decide)
theorem all8d : bitF 255 3 11 0 = fun _ => true := bit_all 3 _ _ _ (by decide)
theorem bit_src1 (x : Asg) : bitF (2 ^ 1) 4 0 0 x = (!x 0 && !x 1 && !x 2 && x 3) := by
  have key : ∀ a b c d : Bool, x 0 = a → x 1 = b → x 2 = c → x 3 = d → bitF (2 ^ 1) 4 0 0 x = (!x 0 && !x 1 && !x 2 && x 3) := by
    intro a b c d h0 h1 h2 h3
    simp only [bitF, iteF, Nat.zero_add, Nat.reduceAdd, h0, h1, h2, h3]
    cases a <;> cases b <;> cases c <;> cases d <;> decide
  exact key _ _ _ _ rfl rfl rfl rfl
theorem bit_src2 (x : Asg) : bitF (2 ^ 2) 4 0 0 x = (!x 0 && !x 1 && x 2 && !x 3) := by
  have key : ∀ a b c d : Bool, x 0 = a → x 1 = b → x 2 = c → x 3 = d → bitF (2 ^ 2) 4 0 0 x = (!x 0 && !x 1 && x 2 && !x 3) := by
    intro a b c d h0 h1 h2 h3
    simp only [bitF, iteF, Nat.zero_add, Nat.reduceAdd, h0, h1, h2, h3]
    cases a <;> cases b <;> cases c <;> cases d <;> decide
  exact key _ _ _ _ rfl rfl rfl rfl
theorem src1_c : IsC (bitF (2 ^ 1) 4 0 0) := IsC.of (fun u b => u < 4 ∧ b = decide (u = 3)) (fun u b h => by omega) (fun x => by
  rw [bit_src1]
  simp only [Bool.and_eq_true, Bool.not_eq_true']
  constructor
  · rintro ⟨⟨⟨h0, h1⟩, h2⟩, h3⟩ u b ⟨hu, rfl⟩
    rcases (show u = 0 ∨ u = 1 ∨ u = 2 ∨ u = 3 by omega) with rfl | rfl | rfl | rfl
    · exact h0
    · exact h1
    · exact h2
    · exact h3
  · intro h
    exact ⟨⟨⟨h 0 _ ⟨by omega, rfl⟩, h 1 _ ⟨by omega, rfl⟩⟩, h 2 _ ⟨by omega, rfl⟩⟩, h 3 _ ⟨by omega, rfl⟩⟩)
theorem src2_c : IsC (bitF (2 ^ 2) 4 0 0) := IsC.of (fun u b => u < 4 ∧ b = decide (u = 2)) (fun u b h => by omega) (fun x => by
  rw [bit_src2]
  simp only [Bool.and_eq_true, Bool.not_eq_true']
  constructor
  · rintro ⟨⟨⟨h0, h1⟩, h2⟩, h3⟩ u b ⟨hu, rfl⟩
    rcases (show u = 0 ∨ u = 1 ∨ u = 2 ∨ u = 3 by omega) with rfl | rfl | rfl | rfl
    · exact h0
    · exact h1
    · exact h2
    · exact h3
  · intro h
    exact ⟨⟨⟨h 0 _ ⟨by omega, rfl⟩, h 1 _ ⟨by omega, rfl⟩⟩, h 2 _ ⟨by omega, rfl⟩⟩, h 3 _ ⟨by omega, rfl⟩⟩)
theorem src_parts {a : Nat} (h : IsC (bitF (2 ^ a) 4 0 0)) : ∀ x ∈ partL (2 ^ a) 65535 255 255, IsC x.fn := by
  intro x hx
  simp only [partL, List.mem_cons, List.not_mem_nil, or_false] at hx
  rcases hx with rfl | rfl | rfl | rfl
  · exact h
  · exact IsC.one all8s
  · exact IsC.one all16d
  · exact IsC.one all8d
theorem all_parts : ∀ x ∈ partL 65535 65535 255 255, IsC x.fn := by
  intro x hx
  simp only [partL, List.mem_cons, List.not_mem_nil, or_false] at hx
  rcases hx with rfl | rfl | rfl | rfl
  · exact IsC.one all16
  · exact IsC.one all8s
  · exact IsC.one all16d
  · exact IsC.one all8d
theorem srcM_c {a : Nat} (h : IsC (bitF (2 ^ a) 4 0 0)) : IsC (matchF (srcM a)) := outs_c (src_parts h) _ IsC.yes
theorem srcM_pc {a : Nat} (h : IsC (bitF (2 ^ a) 4 0 0)) : MatchPC PCh (srcM a) := fun G hG => newB_c (src_parts h) hG
theorem aclAll : aclF [allR true] = fun _ => true := by
  have : outs (partL 65535 65535 255 255) = fun _ => true := by
    have e1 : (PartV.fn ⟨65535, 4, 0⟩) = fun _ => true := all16
    have e2 : (PartV.fn ⟨255, 3, 8⟩) = fun _ => true := all8s
    have e3 : (PartV.fn ⟨65535, 4, 4⟩) = fun _ => true := all16d
    have e4 : (PartV.fn ⟨255, 3, 11⟩) = fun _ => true := all8d
    simp only [outs, partL, List.foldl_cons, List.foldl_nil, e1, e2, e3, e4]
    funext x
    simp [iteF]
  funext x
  show iteF (outs (partL 65535 65535 255 255)) (fun _ => true) (fun _ => false) x = true
  rw [this]
  rfl
theorem aclAll_pc : AclPC PCh [allR true] := by
  refine ⟨fun r hr G hG => ?_, fun k G hG => ?_⟩
  · rw [List.mem_singleton] at hr
    subst hr
    exact newB_c all_parts hG
  · cases k with
    | zero => exact PCh.pc (by rw [List.drop_zero, aclAll]; exact IsC.yes) G hG
    | succ k => exact PCh.pc (by simp only [List.drop_succ_cons, List.drop_nil, aclF]; exact IsC.no) G hG
theorem orF_no (F : Bdd.Fn) : orF (fun _ => false) F = F := by funext x; rw [orF_at, Bool.false_or]
theorem orF_same (F : Bdd.Fn) : orF F F = F := by funext x; rw [orF_at, Bool.or_self]
theorem andF_yes (F : Bdd.Fn) : andF F (fun _ => true) = F := by funext x; rw [andF_at, Bool.and_true]
def chD : List Dev := chainD (fireD [allR true])
def cS (a : Nat) : Bdd.Fn := matchF (srcM a)
def cB : Bdd.Fn := andF (cS 2) (flipF (cS 1))
def cR0 : Pl → Bdd.Fn := fun x => if ((1, 0) : Pl) = x then cS 1 else if ((1, 1) : Pl) = x then cS 2 else fun _ => false
def cR1 : Pl → Bdd.Fn := fun x => if ((0, 0) : Pl) = x then cB else if ((2, 0) : Pl) = x then cS 1 else cR0 x
theorem cS1_c : IsC (cS 1) := srcM_c src1_c
theorem cS2_c : IsC (cS 2) := srcM_c src2_c
theorem cB_c : IsC cB := cS2_c.and cS1_c.flip
theorem send_some {ls : List LinkV} {x y : Pl} (h : peerF ls x = some y) (F : Bdd.Fn) (S : Pl → Bdd.Fn) : sendS ls x F S = fun z => if y = z then orF (S y) F else S z := by
  unfold sendS; rw [h]
theorem pc00 : peerF chainL (((0 : Nat) : Int), 0) = some (1, 0) := by decide
theorem pc20 : peerF chainL (((2 : Nat) : Int), 0) = some (1, 1) := by decide
theorem pc10 : peerF chainL (((1 : Nat) : Int), 0) = some (0, 0) := by decide
theorem pc11 : peerF chainL (((1 : Nat) : Int), 1) = some (2, 0) := by decide
def cH0 : Dev := ⟨⟨#[105, 110]⟩, 1, 1, 0, [], [], []⟩
def cH2 : Dev := ⟨⟨#[111, 117, 116]⟩, 1, 2, 0, [], [], []⟩
def cF1 : Dev := ⟨⟨#[100]⟩, 3, 0, 0, [], [allR true], []⟩
theorem chD0 : chD[0]? = some cH0 := rfl
theorem chD1 : chD[1]? = some cF1 := rfl
theorem chD2 : chD[2]? = some cH2 := rfl
theorem chD_get {k : Nat} {d : Dev} (h : chD[k]? = some d) : (k = 0 ∧ d = cH0) ∨ (k = 1 ∧ d = cF1) ∨ (k = 2 ∧ d = cH2) := by
  match k, h with
  | 0, h => left; rw [chD0] at h; cases h; exact ⟨rfl, rfl⟩
  | 1, h => right; left; rw [chD1] at h; cases h; exact ⟨rfl, rfl⟩
  | 2, h => right; right; rw [chD2] at h; cases h; exact ⟨rfl, rfl⟩
  | k + 3, h => rw [List.getElem?_eq_none (by show 3 ≤ k + 3; omega)] at h; cases h
def cE : Pl → Bdd.Fn := fun _ _ => false
theorem first1 : firstTo chD chainL cE 1 = fun z => if ((1, 0) : Pl) = z then cS 1 else fun _ => false := by
  rw [firstTo_succ chD0]
  show hostS chainL 0 cH0 cE = _
  unfold hostS
  rw [if_pos (show cH0.kind = 1 from rfl), send_some pc00]
  funext z
  by_cases h : ((1, 0) : Pl) = z
  · rw [if_pos h, if_pos h]; exact orF_no _
  · rw [if_neg h, if_neg h]; rfl
theorem first2 : firstTo chD chainL cE 2 = firstTo chD chainL cE 1 := by
  rw [firstTo_succ chD1]
  rfl
theorem first3 : firstTo chD chainL cE 3 = cR0 := by
  rw [firstTo_succ chD2, first2, first1]
  unfold hostS
  rw [if_pos (show cH2.kind = 1 from rfl), send_some pc20]
  funext z
  by_cases h : ((1, 1) : Pl) = z
  · subst h
    rw [if_pos rfl, if_neg (by decide)]
    exact orF_no _
  · rw [if_neg h]
    unfold cR0
    by_cases h1 : ((1, 0) : Pl) = z
    · rw [if_pos h1, if_pos h1]
    · rw [if_neg h1, if_neg h1, if_neg h]
theorem fire_chain {Sw Sn : Pl → Bdd.Fn} (h0 : Sw (((1 : Nat) : Int), 0) = cS 1) (h1 : Sw (((1 : Nat) : Int), 1) = cS 2) : fireS chainL 1 [allR true] Sw Sn = fun z => if ((0, 0) : Pl) = z then orF (Sn (0, 0)) cB else if ((2, 0) : Pl) = z then orF (Sn (2, 0)) (cS 1) else Sn z := by
  unfold fireS
  rw [if_pos (by rw [pc11]; rfl), aclAll, h0, h1, andF_yes, send_some pc10, send_some pc11]
  funext z
  by_cases e : ((0, 0) : Pl) = z
  · rw [if_pos e, if_pos e]
    show orF (if ((2, 0) : Pl) = (0, 0) then orF (Sn (2, 0)) (cS 1) else Sn (0, 0)) cB = _
    rw [if_neg (by decide)]
  · rw [if_neg e, if_neg e]
theorem next_chain {Sw Sn : Pl → Bdd.Fn} : nextTo chD chainL Sw Sn 3 = fireS chainL 1 [allR true] Sw Sn := by
  rw [nextTo_succ chD2, nextTo_succ chD1, nextTo_succ chD0]
  rfl
theorem cR0_00 : cR0 (0, 0) = fun _ => false := by unfold cR0; rw [if_neg (by decide), if_neg (by decide)]
theorem cR0_20 : cR0 (2, 0) = fun _ => false := by unfold cR0; rw [if_neg (by decide), if_neg (by decide)]
theorem cR0_10 : cR0 (((1 : Nat) : Int), 0) = cS 1 := by unfold cR0; rw [if_pos (by decide)]
theorem cR0_11 : cR0 (((1 : Nat) : Int), 1) = cS 2 := by unfold cR0; rw [if_neg (by decide), if_pos (by decide)]
theorem cR1_00 : cR1 (0, 0) = cB := by unfold cR1; rw [if_pos (by decide)]
theorem cR1_20 : cR1 (2, 0) = cS 1 := by unfold cR1; rw [if_neg (by decide), if_pos (by decide)]
theorem cR1_10 : cR1 (((1 : Nat) : Int), 0) = cS 1 := by unfold cR1; rw [if_neg (by decide), if_neg (by decide)]; exact cR0_10
theorem cR1_11 : cR1 (((1 : Nat) : Int), 1) = cS 2 := by unfold cR1; rw [if_neg (by decide), if_neg (by decide)]; exact cR0_11
theorem next0 : nextTo chD chainL cR0 cR0 3 = cR1 := by
  rw [next_chain, fire_chain cR0_10 cR0_11, cR0_00, cR0_20, orF_no, orF_no]
  rfl
theorem next1 : nextTo chD chainL cR1 cR1 3 = cR1 := by
  rw [next_chain, fire_chain cR1_10 cR1_11, cR1_00, cR1_20, orF_same, orF_same]
  funext z
  by_cases e : ((0, 0) : Pl) = z
  · subst e; rw [if_pos rfl, cR1_00]
  · rw [if_neg e]
    by_cases e2 : ((2, 0) : Pl) = z
    · subst e2; rw [if_pos rfl, cR1_20]
    · rw [if_neg e2]
theorem chain_round0 : roundS chD chainL 0 = cR0 := first3
theorem chain_round1 : ∀ k, roundS chD chainL (k + 1) = cR1
  | 0 => by
    show nextTo chD chainL (roundS chD chainL 0) (roundS chD chainL 0) 3 = cR1
    rw [chain_round0, next0]
  | k + 1 => by
    show nextTo chD chainL (roundS chD chainL (k + 1)) (roundS chD chainL (k + 1)) 3 = cR1
    rw [chain_round1 k, next1]
theorem send_pc {ls : List LinkV} {x y : Pl} (h : peerF ls x = some y) {F : Bdd.Fn} {S : Pl → Bdd.Fn} (hF : IsC F) (hS : S y = (fun _ => false) ∨ S y = F) : SendPC PCh ls x F S := by
  intro z hz
  rw [h] at hz
  cases hz
  rcases hS with e | e <;> rw [e]
  · rw [orF_no]; exact PCh.pc hF
  · rw [orF_same]; exact PCh.pc hF
theorem chain_firstPC : FirstPC PCh chD chainL cE := by
  intro k d hd hk
  rcases chD_get hd with ⟨rfl, rfl⟩ | ⟨rfl, rfl⟩ | ⟨rfl, rfl⟩
  · exact ⟨srcM_pc src1_c, send_pc pc00 cS1_c (.inl rfl)⟩
  · exact absurd hk (by decide)
  · refine ⟨srcM_pc src2_c, send_pc pc20 cS2_c (.inl ?_)⟩
    rw [first2, first1]
    exact if_neg (by decide)
theorem chain_firePC {Sw Sn : Pl → Bdd.Fn} (h0 : Sw (((1 : Nat) : Int), 0) = cS 1) (h1 : Sw (((1 : Nat) : Int), 1) = cS 2) (n0 : Sn (0, 0) = (fun _ => false) ∨ Sn (0, 0) = cB) (n2 : Sn (2, 0) = (fun _ => false) ∨ Sn (2, 0) = cS 1) : FirePC PCh chainL 1 [allR true] Sw Sn := by
  have e : andF (Sw (((1 : Nat) : Int), 0)) (aclF [allR true]) = cS 1 := by rw [h0, aclAll, andF_yes]
  refine ⟨aclAll_pc, ?_, ?_, ?_, ?_, ?_⟩
  · rw [e]; exact PCh.pc cS1_c
  · rw [e]; exact send_pc pc11 cS1_c n2
  · rw [e]; exact cS1_c.flipPC
  · rw [e, h1]; exact PCh.pc cB_c
  · rw [e, h1]
    refine send_pc pc10 cB_c ?_
    rw [send_some pc11]
    show (if ((2, 0) : Pl) = (0, 0) then orF (Sn (2, 0)) (cS 1) else Sn (0, 0)) = _ ∨ (if ((2, 0) : Pl) = (0, 0) then orF (Sn (2, 0)) (cS 1) else Sn (0, 0)) = _
    rw [if_neg (by decide)]
    exact n0
theorem chain_nextPC' {S : Pl → Bdd.Fn} (h0 : S (((1 : Nat) : Int), 0) = cS 1) (h1 : S (((1 : Nat) : Int), 1) = cS 2) (n0 : S (0, 0) = (fun _ => false) ∨ S (0, 0) = cB) (n2 : S (2, 0) = (fun _ => false) ∨ S (2, 0) = cS 1) : NextPC PCh chD chainL S S := by
  intro k d hd
  rcases chD_get hd with ⟨rfl, rfl⟩ | ⟨rfl, rfl⟩ | ⟨rfl, rfl⟩
  · exact ⟨fun h => absurd h (by decide), fun h => absurd h (by decide), fun h => absurd h (by decide), fun h => absurd h (by decide)⟩
  · refine ⟨fun h => absurd h (by decide), fun _ => ?_, fun h => absurd h (by decide), fun h => absurd h (by decide)⟩
    have e : nextTo chD chainL S S 1 = S := by rw [nextTo_succ chD0]; rfl
    rw [e]
    exact chain_firePC h0 h1 n0 n2
  · exact ⟨fun h => absurd h (by decide), fun h => absurd h (by decide), fun h => absurd h (by decide), fun h => absurd h (by decide)⟩
theorem chain_nextPC : ∀ k, NextPC PCh chD chainL (roundS chD chainL k) (roundS chD chainL k)
  | 0 => by rw [chain_round0]; exact chain_nextPC' cR0_10 cR0_11 (.inl cR0_00) (.inl cR0_20)
  | k + 1 => by rw [chain_round1]; exact chain_nextPC' cR1_10 cR1_11 (.inr cR1_00) (.inr cR1_20)
theorem cS1_at (x : Asg) : cS 1 x = (!x 0 && !x 1 && !x 2 && x 3) := by
  have e2 : (PartV.fn ⟨255, 3, 8⟩) = fun _ => true := all8s
  have e3 : (PartV.fn ⟨65535, 4, 4⟩) = fun _ => true := all16d
  have e4 : (PartV.fn ⟨255, 3, 11⟩) = fun _ => true := all8d
  have e1 : (PartV.fn ⟨2 ^ 1, 4, 0⟩) x = (!x 0 && !x 1 && !x 2 && x 3) := bit_src1 x
  simp only [cS, matchF, srcM, outs, partL, List.foldl_cons, List.foldl_nil, e2, e3, e4, iteF, e1]
  cases x 0 <;> cases x 1 <;> cases x 2 <;> cases x 3 <;> decide
theorem chain_room {A : St} {most : Nat} (he : Ext (newSt 14 most) A) (hm : 2 ≤ most) (hn : NwP PCh (newSt 14 most) A) : A.len ≤ 6578 := by
  have hi := newSt_inv 14 most (by omega) hm
  have hv : A.vars = 14 := he.vars
  have ok : Ok 14 A.ns := hv ▸ he.inv.ok
  obtain ⟨more, e⟩ := he.ns
  have ok' : Ok 14 ((newSt 14 most).ns ++ more) := e ▸ ok
  have := count_new hi.ok ok' roomC (fun j h1 h2 => by
    rw [← e] at h2 ⊢
    exact hn j h1 h2 (den_below ok j h2))
  rw [roomC_len] at this
  show A.ns.length ≤ _
  rw [e, List.length_append]
  have : (newSt 14 most).ns.length = 2 := rfl
  omega
theorem cnt1 : ∀ n, (List.range n).countP (fun c => decide (c / 1024 = 1)) = min (n - 1024) 1024 := by
  intro n
  induction n with
  | zero => rfl
  | succ n ih =>
    rw [List.range_succ, List.countP_append, ih, List.countP_singleton]
    split <;> rename_i h <;> simp only [decide_eq_true_eq] at h <;> omega
theorem cS1_code (c : Nat) (hc : c < 16384) : cS 1 (asgV 14 c) = decide (c / 1024 = 1) := by
  rw [show asgV 14 c = asgOf c from rfl, cS1_at]
  simp only [asgOf, tb]
  rw [Bool.eq_iff_iff]
  simp only [Bool.and_eq_true, Bool.not_eq_true', decide_eq_false_iff_not, decide_eq_true_eq]
  omega
theorem cS1_cnt : cntF 14 14 (cS 1) = 1024 := by
  unfold cntF
  rw [List.countP_congr (p := fun r => cS 1 (asgV 14 r)) (q := fun c => decide (c / 1024 = 1)) (fun c hc => by
    rw [cS1_code c (by simpa using hc)]), cnt1]
  rfl
theorem cB_yes : cB (asgOf 2112) = true := by decide
theorem cB_no : cB (asgOf 2240) = false := by decide
theorem chain_K {K : Nat} (hf : roundS chD chainL (K + 1) = roundS chD chainL K) (hu : ∀ k, k < K → roundS chD chainL (k + 1) ≠ roundS chD chainL k) : K = 1 := by
  have hd : roundS chD chainL (0 + 1) ≠ roundS chD chainL 0 := by
    intro e
    have e0 : cR1 = cR0 := (chain_round1 0).symm.trans (e.trans chain_round0)
    have h1 := congrFun (congrFun e0 (0, 0)) (asgOf 2112)
    rw [cR1_00, cR0_00, cB_yes] at h1
    cases h1
  have hne : K ≠ 0 := fun e => by
    subst e
    exact hd hf
  have h2 : ¬ 2 ≤ K := fun h => hu 1 h ((chain_round1 1).trans (chain_round1 0).symm)
  omega
theorem chain_cnt : cntF 14 14 (roundS chD chainL 1 (2, 0)) = 1024 := by rw [chain_round1, cR1_20, cS1_cnt]
theorem chain_scan (a : Asg) : scanI ((List.range (1 + 1)).map fun k => roundS chD chainL k (0, 0)) 0 a = if cB a then 1 else -1 := by
  have e : ((List.range (1 + 1)).map fun k => roundS chD chainL k (0, 0)) = [roundS chD chainL 0 (0, 0), roundS chD chainL 1 (0, 0)] := rfl
  rw [e, chain_round1, chain_round0, cR1_00, cR0_00]
  simp only [scanI]
  rfl
theorem chain_yes : roundP chD chainL 1 (0, 0) ⟨2, 1, 0, 0⟩ = 1 := by
  unfold roundP
  rw [if_pos (by decide), chain_scan, show codeP ⟨2, 1, 0, 0⟩ = 2112 from rfl, cB_yes]
  rfl
theorem chain_no : roundP chD chainL 1 (0, 0) ⟨2, 3, 0, 0⟩ = -1 := by
  unfold roundP
  rw [if_pos (by decide), chain_scan, show codeP ⟨2, 3, 0, 0⟩ = 2240 from rfl, cB_no]
  rfl
theorem ready_walk (W : World) : Calls Tryz.prog 18 #[] W fun e W' => e = .returned (.bool true) ∧ RowKit.Below W.heap.size W W' := by
  go_enter Tryz.func18, Tryz.ntmps18
  go_wp2_with fail
  refine (allRule_walk true W).mono ?_
  rintro e w2 ⟨rfl, hb⟩
  have hx3 := BoxV.new w2 #[.bool true, .int .u16 65535, .int .u16 65535, .int .u8 255, .int .u8 255] 122
  have hb3 := below_alloc2 w2 (.cells #[.bool true, .int .u16 65535, .int .u16 65535, .int .u8 255, .int .u8 255] 122)
  have hl3 : w2.heap.size < (w2.alloc (.cells #[.bool true, .int .u16 65535, .int .u16 65535, .int .u8 255, .int .u8 255] 122)).heap.size := by simp
  have HB3 := hide (hb.trans (hb3.mono hb.size))
  have HCW := hide (chain_walk (fireW (some ⟨w2.heap.size, 0, none⟩) 1 1 [allR true]) _ (fireW_at (oneRule_at hx3 hl3) ⟨Nat.le_refl _, show 1 ≤ maxLen by unfold maxLen; omega⟩))
  clear hx3 hb3 hl3 hb
  go_wp2_with fail
  refine HCW.out.mono ?_
  clear HCW
  rintro e w4 ⟨m, rfl, hm, hmd, hml, hb⟩
  have HB4 := hide (HB3.out.trans (hb.mono HB3.out.size))
  have hmd' : m.devs = chD := hmd
  have HNW := hide (reachNew_good m 40000 w4 hm (by rw [hmd', hml]; exact fire_net [allR true] (by simp)) (by omega) (by omega) PCh (by rw [hmd', hml]; exact chain_firstPC) (by rw [hmd', hml]; exact chain_nextPC))
  have HMD := hide (And.intro hmd' hml)
  clear hm hb HB3 hmd hml hmd'
  go_wp2_with fail
  refine HNW.out.mono ?_
  clear HNW
  rintro e w5 ⟨hb, ⟨N, K, rfl, hR⟩ | ⟨A, rfl, hx, hn, hf⟩⟩
  case inr =>
    have h1 := chain_room hx (by omega) hn
    have h2 : A.most = 40000 := hx.most
    omega
  have hR := hR.at_
  rw [HMD.out.1, HMD.out.2] at hR
  obtain rfl : K = 1 := chain_K hR.fix hR.up
  have HB5 := hide (HB4.out.trans (hb.mono HB4.out.size))
  have HR5 := hide hR
  clear hb hR HB4 HMD
  go_wp2_with fail
  refine (rounds_walk N chD chainL 1 w5 HR5.out).mono ?_
  rintro e w6 ⟨rfl, rfl⟩
  go_wp2_with fail
  refine (placeOf_walk 2 0 w5).mono ?_
  rintro e w7 ⟨rfl, hb⟩
  have HB7 := hide (HB5.out.trans (hb.mono HB5.out.size))
  have HR7 := hide (HR5.out.below hb)
  clear hb HB5 HR5
  go_wp2_with fail
  refine (reachCount_walk N chD chainL 1 (2, 0) ⟨by simp [i64ok], by simp [i64ok]⟩ w7 HR7.out).mono ?_
  rintro e w8 ⟨rfl, hb⟩
  have HB8 := hide (HB7.out.trans (hb.mono HB7.out.size))
  have HR8 := hide (HR7.out.below hb)
  clear hb HB7 HR7
  rw [chain_cnt]
  go_wp2_with fail
  refine (placeOf_walk 0 0 w8).mono ?_
  rintro e w9 ⟨rfl, hb⟩
  have HB9 := hide (HB8.out.trans (hb.mono HB8.out.size))
  have HR9 := hide (HR8.out.below hb)
  clear hb HB8 HR8
  go_wp2_with fail
  refine (reachRound_walk N chD chainL 1 (0, 0) ⟨by simp [i64ok], by simp [i64ok]⟩ ⟨2, 1, 0, 0⟩ w9 HR9.out).mono ?_
  rintro e w10 ⟨rfl, hb⟩
  have HB10 := hide (HB9.out.trans (hb.mono HB9.out.size))
  have HR10 := hide (HR9.out.below hb)
  clear hb HB9 HR9
  rw [chain_yes]
  go_wp2_with fail
  refine (placeOf_walk 0 0 w10).mono ?_
  rintro e w11 ⟨rfl, hb⟩
  have HB11 := hide (HB10.out.trans (hb.mono HB10.out.size))
  have HR11 := hide (HR10.out.below hb)
  clear hb HB10 HR10
  go_wp2_with fail
  refine (reachRound_walk N chD chainL 1 (0, 0) ⟨by simp [i64ok], by simp [i64ok]⟩ ⟨2, 3, 0, 0⟩ w11 HR11.out).mono ?_
  rintro e w12 ⟨rfl, hb⟩
  have HB12 := hide (HB11.out.trans (hb.mono HB11.out.size))
  clear hb HB11 HR11
  rw [chain_no]
  go_wp2
  go_ret
  exact ⟨rfl, HB12.out⟩
def AllT : Bdd.Fn → Prop := fun _ => True
theorem pcT (F : Bdd.Fn) : PC AllT F := fun _ _ => trivial
theorem sendT (ls : List LinkV) (x : Pl) (F : Bdd.Fn) (S : Pl → Bdd.Fn) : SendPC AllT ls x F S := fun _ _ _ _ => trivial
theorem anyT (F : Bdd.Fn) (a n : Nat) : AnyPC AllT F a n := fun _ _ => ⟨pcT _, pcT _, pcT _⟩
theorem matchT (m : M4) : MatchPC AllT m := fun _ _ => trivial
theorem swapT (F : Bdd.Fn) (i j : Nat) : SwapPC AllT F i j := ⟨pcT _, pcT _, pcT _, pcT _, pcT _, pcT _, pcT _, pcT _, pcT _, pcT _, pcT _⟩
theorem flipT (F : Bdd.Fn) : FlipPC AllT F := ⟨fun _ _ => swapT _ _ _, fun _ _ => swapT _ _ _⟩
theorem aclT (rs : List RuleV) : AclPC AllT rs := ⟨fun _ _ _ _ => trivial, fun _ _ _ => trivial⟩
theorem toT (F : Bdd.Fn) (a : Nat) : ToPC AllT F a := ⟨anyT _ _ _, matchT _, pcT _⟩
theorem fromT (F : Bdd.Fn) (a : Nat) : FromPC AllT F a := ⟨anyT _ _ _, matchT _, pcT _⟩
theorem firstT (ds : List Dev) (ls : List LinkV) (S : Pl → Bdd.Fn) : FirstPC AllT ds ls S := fun _ _ _ _ => ⟨matchT _, sendT _ _ _ _⟩
theorem nextT (ds : List Dev) (ls : List LinkV) (S S' : Pl → Bdd.Fn) : NextPC AllT ds ls S S' := fun _ _ _ =>
  ⟨fun _ => ⟨aclT _, fun _ _ => pcT _, fun _ _ _ _ => trivial, fun _ _ _ _ => pcT _, fun _ _ _ _ => sendT _ _ _ _⟩,
   fun _ => ⟨aclT _, pcT _, sendT _ _ _ _, flipT _, pcT _, sendT _ _ _ _⟩,
   fun _ => ⟨anyT _ _ _, anyT _ _ _, matchT _, pcT _, sendT _ _ _ _, matchT _, pcT _, anyT _ _ _, anyT _ _ _, anyT _ _ _, anyT _ _ _, flipT _, pcT _, sendT _ _ _ _⟩,
   fun _ => ⟨matchT _, pcT _, pcT _, pcT _, sendT _ _ _ _, sendT _ _ _ _, fun _ _ _ => toT _ _, fun _ _ _ => sendT _ _ _ _, fun _ _ _ => flipT _, fun _ _ _ => pcT _, fun _ _ _ => fromT _ _, fun _ _ _ => sendT _ _ _ _⟩⟩
theorem net_rules_ok {w : World} {B : Nat} {n : NetV} (h : NetAt w B n) : ∀ d ∈ n.devs, ∀ r ∈ d.rules, r.ok := fun d hd r hr => by
  obtain ⟨x, hx, rfl⟩ := List.mem_map.1 hd
  exact (h.dok x hx).rs.2.1 r hr
structure Rch (Lo : Nat) (wR w : World) (F : Nat → Prop) : Prop where
  hi : wR.heap.size ≤ w.heap.size
  blk : ∀ i, Lo ≤ i → i < wR.heap.size → w.heap[i]? = wR.heap[i]?
  off : ∀ j, F j → j < Lo ∨ wR.heap.size ≤ j
section
variable {Lo : Nat} {wR w w' : World} {F F' : Nat → Prop}
theorem Rch.below (h : Rch Lo wR w F) (hb : RowKit.Below w.heap.size w w') : Rch Lo wR w' F :=
  ⟨Nat.le_trans h.hi hb.size, fun i a b => (hb.block i (by have := h.hi; omega)).trans (h.blk i a b), h.off⟩
theorem Rch.step (h : Rch Lo wR w F) (hn : Near F w.heap.size w w') (hF : ∀ j, F' j → F j ∨ w.heap.size ≤ j) : Rch Lo wR w' F' :=
  ⟨Nat.le_trans h.hi hn.size, fun i a b => (hn.block i (by have := h.hi; omega) (fun e => by rcases h.off i e with q | q <;> omega)).trans (h.blk i a b), fun j e => by
    rcases hF j e with q | q
    · exact h.off j q
    · have := h.hi; right; omega⟩
theorem Rch.at_ {N : Nat} {ds : List Dev} {ls : List LinkV} {K : Nat} (h : Rch Lo wR w F) (hr : ReachLo Lo wR N ds ls K) : ReachAt w N ds ls K := (hr.keep h.hi h.blk).at_
end
theorem seen_in {ds : List Dev} {ls : List LinkV} {K : Nat} (hL : Last ds ls K) (l : List ActV) : ∀ k, SndW ds ls K (stS ds ls l k)
  | 0 => SndW.empty
  | k + 1 => by
    cases hx : l[k]? with
    | none => have e : stS ds ls l (k + 1) = stS ds ls l k := by simp [stS, hx]
              rw [e]; exact seen_in hL l k
    | some x => rw [stS_succ hx]; exact do_ok hL (seen_in hL l k) x
theorem InP.round {ds : List Dev} {ls : List LinkV} {K : Nat} {x : Pl} {p : P4} (h : InP ds ls K x p) : 0 ≤ roundP ds ls K x p := (roundP_some ds ls K x p).2 h
end Go.Proofs.YtohbafigjpoijaaGreat
