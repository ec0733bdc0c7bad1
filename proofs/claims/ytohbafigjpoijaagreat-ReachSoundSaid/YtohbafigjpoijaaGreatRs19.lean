/- A part of the proof: Pm1, Pm2, StepClone. -/
import Derived.Test.YtohbafigjpoijaaGreatRs18
set_option linter.unusedVariables false
set_option linter.unusedSimpArgs false
set_option maxRecDepth 100000
namespace Go.Proofs.YtohbafigjpoijaaGreat
open Bdd Go.Maps Go.RowKit
def code4 (a b s d : Nat) : Nat := a * 1024 + b * 64 + s * 8 + d
structure Fld (a b s d : Nat) : Prop where
  a : a < 16
  b : b < 16
  s : s < 8
  d : d < 8
theorem Fld.lt {a b s d : Nat} (h : Fld a b s d) : code4 a b s d < 16384 := by
  have := h.a; have := h.b; have := h.s; have := h.d
  unfold code4; omega
theorem Fld.parts {a b s d : Nat} (h : Fld a b s d) : code4 a b s d / 1024 = a ∧ code4 a b s d / 64 % 16 = b ∧ code4 a b s d / 8 % 8 = s ∧ code4 a b s d % 8 = d := by
  have := h.a; have := h.b; have := h.s; have := h.d
  unfold code4
  refine ⟨?_, ?_, ?_, ?_⟩ <;> omega
theorem bit_div (c j k : Nat) : (c / 2 ^ j).testBit k = c.testBit (j + k) := by rw [← Nat.shiftRight_eq_div_pow, Nat.testBit_shiftRight]
theorem bit_mod {c j k : Nat} (h : k < j) : (c % 2 ^ j).testBit k = c.testBit k := by rw [Nat.testBit_mod_two_pow]; simp [h]
theorem asg_at {a b s d : Nat} (h : Fld a b s d) (u : Nat) (hu : u < 14) : asgOf (code4 a b s d) u = if u < 4 then a.testBit (3 - u) else if u < 8 then b.testBit (7 - u) else if u < 11 then s.testBit (10 - u) else d.testBit (13 - u) := by
  obtain ⟨h1, h2, h3, h4⟩ := h.parts
  unfold asgOf
  generalize code4 a b s d = c at *
  split
  · rw [← h1, show (1024 : Nat) = 2 ^ 10 from rfl, bit_div]; congr 1; omega
  split
  · rw [← h2, show (64 : Nat) = 2 ^ 6 from rfl, show (16 : Nat) = 2 ^ 4 from rfl, bit_mod (by omega), bit_div]; congr 1; omega
  split
  · rw [← h3]
    show _ = (c / 2 ^ 3 % 2 ^ 3).testBit (10 - u)
    rw [bit_mod (by omega), bit_div]; congr 1; omega
  · rw [← h4]
    show _ = (c % 2 ^ 3).testBit (13 - u)
    rw [bit_mod (by omega)]
theorem any_iff (F : Bdd.Fn) (a : Nat) : ∀ (n : Nat) (x : Asg), anyF F a n x = true ↔ ∃ y : Asg, (∀ u, (u < a ∨ a + n ≤ u) → y u = x u) ∧ F y = true
  | 0, x => ⟨fun h => ⟨x, fun _ _ => rfl, h⟩, fun ⟨y, h1, h2⟩ => by
      have : y = x := funext fun u => h1 u (by omega)
      rw [← this]; exact h2⟩
  | n + 1, x => by
    show existsF (anyF F a n) (a + n) x = true ↔ _
    rw [existsF_at, Bool.or_eq_true, any_iff F a n, any_iff F a n]
    constructor
    · rintro (⟨y, h1, h2⟩ | ⟨y, h1, h2⟩)
      all_goals
        refine ⟨y, fun u hu => ?_, h2⟩
        rw [h1 u (by omega), upd_other _ _ (by omega)]
    · rintro ⟨y, h1, h2⟩
      have hy : ∀ b, y (a + n) = b → ∃ y', (∀ u, (u < a ∨ a + n ≤ u) → y' u = upd x (a + n) b u) ∧ F y' = true := fun b hb => ⟨y, fun u hu => by
        by_cases e : u = a + n
        · rw [e, upd_same]; exact hb
        · rw [upd_other _ _ e]; exact h1 u (by omega), h2⟩
      cases hb : y (a + n)
      · exact .inl (hy _ hb)
      · exact .inr (hy _ hb)
theorem any_gen {F : Bdd.Fn} (hF : Bdd.Below 14 F) {a n : Nat} (ha : a + n ≤ 14) {x : Asg} {z : Nat → Asg} (h1 : ∀ v, v < 2 ^ n → ∀ u, u < 14 → (u < a ∨ a + n ≤ u) → z v u = x u) (h2 : ∀ v, v < 2 ^ n → ∀ i, i < n → z v (a + i) = v.testBit (n - 1 - i)) :
    anyF F a n x = true ↔ ∃ v, v < 2 ^ n ∧ F (z v) = true := by
  rw [any_iff]
  constructor
  · rintro ⟨y, h3, h4⟩
    refine ⟨codeN (fun i => y (a + i)) n, codeN_lt _ _, ?_⟩
    rw [← h4]
    refine hF _ _ fun u hu => ?_
    by_cases e : a ≤ u ∧ u < a + n
    · obtain ⟨i, rfl⟩ : ∃ i, u = a + i := ⟨u - a, by omega⟩
      rw [h2 _ (codeN_lt _ _) i (by omega), codeN_bit _ n i (by omega)]
    · rw [h1 _ (codeN_lt _ _) u hu (by omega), h3 u (by omega)]
  · rintro ⟨v, hv, h4⟩
    refine ⟨fun u => if a ≤ u ∧ u < a + n then z v u else x u, fun u hu => ?_, ?_⟩
    · exact if_neg (by omega)
    · rw [← h4]
      refine hF _ _ fun u hu => ?_
      by_cases e : a ≤ u ∧ u < a + n
      · exact if_pos e
      · exact (if_neg e).trans (h1 v hv u hu (by omega)).symm
theorem any_src {F : Bdd.Fn} (hF : Bdd.Below 14 F) {a b s d : Nat} (h : Fld a b s d) : anyF F 0 4 (asgOf (code4 a b s d)) = true ↔ ∃ v, v < 16 ∧ F (asgOf (code4 v b s d)) = true :=
  any_gen hF (n := 4) (by omega) (z := fun v => asgOf (code4 v b s d)) (fun v hv u hu ho => by
    rw [asg_at ⟨hv, h.b, h.s, h.d⟩ u hu, asg_at h u hu, if_neg (show ¬ u < 4 by omega), if_neg (show ¬ u < 4 by omega)]) (fun v hv i hi => by
    rw [asg_at ⟨hv, h.b, h.s, h.d⟩ _ (by omega), if_pos (by omega)]; congr 1; omega)
theorem any_dst {F : Bdd.Fn} (hF : Bdd.Below 14 F) {a b s d : Nat} (h : Fld a b s d) : anyF F 4 4 (asgOf (code4 a b s d)) = true ↔ ∃ v, v < 16 ∧ F (asgOf (code4 a v s d)) = true :=
  any_gen hF (n := 4) (by omega) (z := fun v => asgOf (code4 a v s d)) (fun v hv u hu ho => by
    rw [asg_at ⟨h.a, hv, h.s, h.d⟩ u hu, asg_at h u hu]
    by_cases e : u < 4
    · rw [if_pos e, if_pos e]
    · rw [if_neg e, if_neg e, if_neg (show ¬ u < 8 by omega), if_neg (show ¬ u < 8 by omega)]) (fun v hv i hi => by
    rw [asg_at ⟨h.a, hv, h.s, h.d⟩ _ (by omega), if_neg (by omega), if_pos (by omega)]; congr 1; omega)
theorem any_spt {F : Bdd.Fn} (hF : Bdd.Below 14 F) {a b s d : Nat} (h : Fld a b s d) : anyF F 8 3 (asgOf (code4 a b s d)) = true ↔ ∃ v, v < 8 ∧ F (asgOf (code4 a b v d)) = true :=
  any_gen hF (n := 3) (by omega) (z := fun v => asgOf (code4 a b v d)) (fun v hv u hu ho => by
    rw [asg_at ⟨h.a, h.b, hv, h.d⟩ u hu, asg_at h u hu]
    by_cases e : u < 4
    · rw [if_pos e, if_pos e]
    by_cases e2 : u < 8
    · rw [if_neg e, if_neg e, if_pos e2, if_pos e2]
    · rw [if_neg e, if_neg e, if_neg e2, if_neg e2, if_neg (show ¬ u < 11 by omega), if_neg (show ¬ u < 11 by omega)]) (fun v hv i hi => by
    rw [asg_at ⟨h.a, h.b, hv, h.d⟩ _ (by omega), if_neg (by omega), if_neg (by omega), if_pos (by omega)]; congr 1; omega)
theorem any_dpt {F : Bdd.Fn} (hF : Bdd.Below 14 F) {a b s d : Nat} (h : Fld a b s d) : anyF F 11 3 (asgOf (code4 a b s d)) = true ↔ ∃ v, v < 8 ∧ F (asgOf (code4 a b s v)) = true :=
  any_gen hF (n := 3) (by omega) (z := fun v => asgOf (code4 a b s v)) (fun v hv u hu ho => by
    rw [asg_at ⟨h.a, h.b, h.s, hv⟩ u hu, asg_at h u hu]
    by_cases e : u < 4
    · rw [if_pos e, if_pos e]
    by_cases e2 : u < 8
    · rw [if_neg e, if_neg e, if_pos e2, if_pos e2]
    · rw [if_neg e, if_neg e, if_neg e2, if_neg e2, if_pos (show u < 11 by omega), if_pos (show u < 11 by omega)]) (fun v hv i hi => by
    rw [asg_at ⟨h.a, h.b, h.s, hv⟩ _ (by omega), if_neg (by omega), if_neg (by omega), if_neg (by omega)]; congr 1; omega)
theorem flip_at {F : Bdd.Fn} (hF : Bdd.Below 14 F) {a b s d : Nat} (h : Fld a b s d) : flipF F (asgOf (code4 a b s d)) = F (asgOf (code4 b a d s)) := by
  show F _ = _
  refine hF _ _ fun u hu => ?_
  rw [asg_at ⟨h.b, h.a, h.d, h.s⟩ u hu]
  have hx : ∀ v, v < 14 → asgOf (code4 a b s d) v = _ := fun v hv => asg_at h v hv
  rcases (by omega : u = 0 ∨ u = 1 ∨ u = 2 ∨ u = 3 ∨ u = 4 ∨ u = 5 ∨ u = 6 ∨ u = 7 ∨ u = 8 ∨ u = 9 ∨ u = 10 ∨ u = 11 ∨ u = 12 ∨ u = 13) with rfl | rfl | rfl | rfl | rfl | rfl | rfl | rfl | rfl | rfl | rfl | rfl | rfl | rfl <;> simp [upd, hx]
theorem b14_and {F G : Bdd.Fn} (hF : Bdd.Below 14 F) (hG : Bdd.Below 14 G) : Bdd.Below 14 (andF F G) := iteF_below hF hG (Bdd.Below.const _ _)
theorem b14_or {F G : Bdd.Fn} (hF : Bdd.Below 14 F) (hG : Bdd.Below 14 G) : Bdd.Below 14 (orF F G) := iteF_below hF (Bdd.Below.const _ _) hG
theorem b14_not {F : Bdd.Fn} (hF : Bdd.Below 14 F) : Bdd.Below 14 (notF F) := iteF_below hF (Bdd.Below.const _ _) (Bdd.Below.const _ _)
theorem b14_outs (s d p q : Nat) : Bdd.Below 14 (outs (partL s d p q)) := (outs_below s d p q).2.2.2
theorem b14_any {F : Bdd.Fn} (hF : Bdd.Below 14 F) (a : Nat) : ∀ n, Bdd.Below 14 (anyF F a n)
  | 0 => hF
  | n + 1 => fun x y h => by
    show existsF (anyF F a n) (a + n) x = existsF (anyF F a n) (a + n) y
    rw [existsF_at, existsF_at]
    have h2 : ∀ b, anyF F a n (upd x (a + n) b) = anyF F a n (upd y (a + n) b) := fun b => b14_any hF a n _ _ fun u hu => by
      by_cases e : u = a + n
      · rw [e, upd_same, upd_same]
      · rw [upd_other _ _ e, upd_other _ _ e]; exact h u hu
    rw [h2, h2]
theorem b14_swap {F : Bdd.Fn} (hF : Bdd.Below 14 F) {i j : Nat} (hi : i < 14) (hj : j < 14) : Bdd.Below 14 (swapF F i j) := fun x y h => by
  unfold swapF
  refine hF _ _ fun u hu => ?_
  rw [h i hi, h j hj]
  by_cases e : u = i
  · rw [e, upd_same, upd_same]
  · rw [upd_other _ _ e, upd_other _ _ e]
    by_cases e2 : u = j
    · rw [e2, upd_same, upd_same]
    · rw [upd_other _ _ e2, upd_other _ _ e2]; exact h u hu
theorem b14_flip4 {F : Bdd.Fn} (hF : Bdd.Below 14 F) : ∀ n, n ≤ 4 → Bdd.Below 14 (flip4 F n)
  | 0, _ => hF
  | n + 1, h => b14_swap (i := n) (j := n + 4) (b14_flip4 hF n (by omega)) (by omega) (by omega)
theorem b14_flip3 {F : Bdd.Fn} (hF : Bdd.Below 14 F) : ∀ n, n ≤ 3 → Bdd.Below 14 (flip3 F n)
  | 0, _ => hF
  | n + 1, h => b14_swap (i := n + 8) (j := n + 11) (b14_flip3 hF n (by omega)) (by omega) (by omega)
theorem b14_flip {F : Bdd.Fn} (hF : Bdd.Below 14 F) : Bdd.Below 14 (flipF F) := b14_flip3 (b14_flip4 hF 4 (by omega)) 3 (by omega)
theorem b14_acl : ∀ l, Bdd.Below 14 (aclF l)
  | [] => Bdd.Below.const _ _
  | r :: l => iteF_below (b14_outs _ _ _ _) (Bdd.Below.const _ _) (b14_acl l)
def S14 (S : Pl → Bdd.Fn) : Prop := ∀ x, Bdd.Below 14 (S x)
theorem S14.send {S : Pl → Bdd.Fn} (h : S14 S) (ls : List LinkV) (y : Pl) {F : Bdd.Fn} (hF : Bdd.Below 14 F) : S14 (sendS ls y F S) := fun x => by
  unfold sendS
  cases peerF ls y with
  | none => exact h x
  | some z =>
    show Bdd.Below 14 (if z = x then orF (S z) F else S x)
    split
    · exact b14_or (h z) hF
    · exact h x
theorem S14.dev {Sw S : Pl → Bdd.Fn} (hw : S14 Sw) (h : S14 S) (ls : List LinkV) (i : Nat) (d : Dev) : S14 (devS ls i d Sw S) := by
  unfold devS
  split
  · unfold routerS
    have hr : ∀ k o, S14 (rtIn ls i d.routes d.rules Sw S k) → S14 (rtOut ls i d.routes (andF (Sw ((i : Int), (k : Int))) (aclF d.rules)) (rtIn ls i d.routes d.rules Sw S k) o) := fun k o hk => by
      induction o with
      | zero => exact hk
      | succ o ih => exact ih.send _ _ (b14_and (b14_and (hw _) (b14_acl _)) (b14_outs _ _ _ _))
    have hi : ∀ k, S14 (rtIn ls i d.routes d.rules Sw S k) := fun k => by
      induction k with
      | zero => exact h
      | succ k ih => exact hr k 4 ih
    exact hi 4
  split
  · unfold fireS
    have h1 := b14_and (hw ((i : Int), 0)) (b14_acl d.rules)
    split
    · exact (h.send _ _ h1).send _ _ (b14_and (hw _) (b14_flip h1))
    · exact h.send _ _ h1
  split
  · unfold natS
    have h1 : Bdd.Below 14 (andF (natF i Sw) (matchF (natO d.addr.toNat d.pool))) := b14_and (b14_any (b14_any (hw _) _ _) _ _) (b14_outs _ _ _ _)
    split
    · exact (h.send _ _ h1).send _ _ (b14_and (b14_any (b14_any (b14_and (hw _) (b14_outs _ _ _ _)) _ _) _ _) (b14_flip (b14_any (b14_any (hw _) _ _) _ _)))
    · exact h.send _ _ h1
  split
  · unfold balS balTo
    have hq : Bdd.Below 14 (balQ i d.addr.toNat Sw) := b14_and (hw _) (b14_outs _ _ _ _)
    have ht : ∀ b, Bdd.Below 14 (toF (balQ i d.addr.toNat Sw) b) := fun b => b14_and (b14_any hq _ _) (b14_outs _ _ _ _)
    have h0 : S14 (bal0 ls i d.addr.toNat Sw S) := (h.send _ _ (b14_and (hw _) (b14_not (b14_outs _ _ _ _)))).send _ _ (hw _)
    have hs : ∀ b T, S14 T → S14 (balStep ls i d.addr.toNat Sw b T) := fun b T hT => by
      unfold balStep
      split
      · exact (hT.send _ _ (ht b)).send _ _ (b14_and (b14_any (b14_and (hw _) (b14_flip (ht b))) _ _) (b14_outs _ _ _ _))
      · exact hT.send _ _ (ht b)
    generalize List.take _ d.backs = l
    generalize bal0 ls i d.addr.toNat Sw S = T at h0
    induction l generalizing T with
    | nil => exact h0
    | cons b l ih => exact ih _ (hs _ _ h0)
  · exact h
theorem b14_match (m : M4) : Bdd.Below 14 (matchF m) := b14_outs _ _ _ _
theorem ones16 {a : Nat} (h : a < 16) : Nat.testBit 65535 a = true := by
  have : ∀ i : Fin 16, Nat.testBit 65535 i.val = true := by decide +kernel
  exact this ⟨a, h⟩
theorem ones8 {a : Nat} (h : a < 8) : Nat.testBit 255 a = true := by
  have : ∀ i : Fin 8, Nat.testBit 255 i.val = true := by decide +kernel
  exact this ⟨a, h⟩
theorem match_at (m : M4) {a b s t : Nat} (h : Fld a b s t) : matchF m (asgOf (code4 a b s t)) = (m.src.testBit a && m.dst.testBit b && m.sport.testBit s && m.dport.testBit t) := by
  unfold matchF
  rw [outs_has _ _ _ _ _ h.lt]
  obtain ⟨e1, e2, e3, e4⟩ := h.parts
  rw [e1, e2, e3, e4]
  rfl
theorem pow_bit (A a : Nat) : (2 ^ A).testBit a = decide (A = a) := Nat.testBit_two_pow
theorem m_dst {A a b s t : Nat} (h : Fld a b s t) : matchF (dstM A) (asgOf (code4 a b s t)) = decide (A = b) := by
  rw [match_at _ h]
  show (Nat.testBit 65535 a && (2 ^ A).testBit b && Nat.testBit 255 s && Nat.testBit 255 t) = _
  rw [ones16 h.a, ones8 h.s, ones8 h.d, pow_bit]
  simp
theorem m_src {A a b s t : Nat} (h : Fld a b s t) : matchF (srcM A) (asgOf (code4 a b s t)) = decide (A = a) := by
  rw [match_at _ h]
  show ((2 ^ A).testBit a && Nat.testBit 65535 b && Nat.testBit 255 s && Nat.testBit 255 t) = _
  rw [ones16 h.b, ones8 h.s, ones8 h.d, pow_bit]
  simp
theorem m_natO {A pl a b s t : Nat} (h : Fld a b s t) : matchF (natO A pl) (asgOf (code4 a b s t)) = (decide (A = a) && pl.testBit s) := by
  rw [match_at _ h]
  show ((2 ^ A).testBit a && Nat.testBit 65535 b && pl.testBit s && Nat.testBit 255 t) = _
  rw [ones16 h.b, ones8 h.d, pow_bit]
  simp
theorem m_natI {A pl a b s t : Nat} (h : Fld a b s t) : matchF (natI A pl) (asgOf (code4 a b s t)) = (decide (A = b) && pl.testBit t) := by
  rw [match_at _ h]
  show (Nat.testBit 65535 a && (2 ^ A).testBit b && Nat.testBit 255 s && pl.testBit t) = _
  rw [ones16 h.a, ones8 h.s, pow_bit]
  simp
theorem send_at (ls : List LinkV) (y : Pl) (F : Bdd.Fn) (S : Pl → Bdd.Fn) (x : Pl) (c : Asg) : sendS ls y F S x c = true ↔ S x c = true ∨ (peerF ls y = some x ∧ F c = true) := by
  unfold sendS
  cases e : peerF ls y with
  | none => simp
  | some z =>
    show (if z = x then orF (S z) F else S x) c = true ↔ _
    by_cases h : z = x
    · subst h
      rw [if_pos rfl, orF_at, Bool.or_eq_true]
      simp
    · rw [if_neg h]
      simp [h]
def TellR (d : Dev) (W : Nat → Nat → Bool) (o a b s t : Nat) : Prop := o < 4 ∧ (∃ k, k < 4 ∧ W k (code4 a b s t) = true) ∧ dstB d.routes (o : Int) b = true ∧ letsB d.rules (pk (code4 a b s t)) = true
def TellF (d : Dev) (opn : Bool) (W : Nat → Nat → Bool) (o a b s t : Nat) : Prop :=
  (o = 1 ∧ W 0 (code4 a b s t) = true ∧ letsB d.rules (pk (code4 a b s t)) = true) ∨ (opn = true ∧ o = 0 ∧ W 1 (code4 a b s t) = true ∧ W 0 (code4 b a t s) = true ∧ letsB d.rules (pk (code4 b a t s)) = true)
def TellN (d : Dev) (opn : Bool) (W : Nat → Nat → Bool) (o a b s t : Nat) : Prop :=
  (o = 1 ∧ (∃ y, y < 8 ∧ ∃ x, x < 16 ∧ W 0 (code4 x b y t) = true) ∧ d.addr.toNat = a ∧ d.pool.testBit s = true) ∨
  (opn = true ∧ o = 0 ∧ (∃ y, y < 8 ∧ ∃ x, x < 16 ∧ W 1 (code4 a x s y) = true ∧ d.addr.toNat = x ∧ d.pool.testBit y = true) ∧ ∃ y, y < 8 ∧ ∃ x, x < 16 ∧ W 0 (code4 b x t y) = true)
def TellB (d : Dev) (opn : Bool) (W : Nat → Nat → Bool) (o a b s t : Nat) : Prop :=
  (o = 1 ∧ W 0 (code4 a b s t) = true ∧ d.addr.toNat ≠ b) ∨ (o = 0 ∧ W 1 (code4 a b s t) = true) ∨
  ∃ x ∈ d.backs, (o = 1 ∧ W 0 (code4 a d.addr.toNat s t) = true ∧ x.toNat = b) ∨ (opn = true ∧ o = 0 ∧ W 1 (code4 x.toNat b s t) = true ∧ W 0 (code4 b d.addr.toNat t s) = true ∧ d.addr.toNat = a)
variable {ls : List LinkV} {i : Nat} {d : Dev} {Sw Sn : Pl → Bdd.Fn} {a b s t : Nat} {x : Pl}
theorem fire_tells (hw : S14 Sw) (hr : ∀ r ∈ d.rules, r.ok) (h : Fld a b s t) :
    fireS ls i d.rules Sw Sn x (asgOf (code4 a b s t)) = true ↔ Sn x (asgOf (code4 a b s t)) = true ∨ ∃ o : Nat, peerF ls ((i : Int), (o : Int)) = some x ∧ TellF d (peerF ls ((i : Int), 1)).isSome (fun k c => Sw ((i : Int), (k : Int)) (asgOf c)) o a b s t := by
  have h2 : Fld b a t s := ⟨h.b, h.a, h.d, h.s⟩
  have e1 : andF (Sw ((i : Int), 0)) (aclF d.rules) (asgOf (code4 a b s t)) = true ↔ Sw ((i : Int), 0) (asgOf (code4 a b s t)) = true ∧ letsB d.rules (pk (code4 a b s t)) = true := by
    rw [andF_at, aclF_lets _ hr _ h.lt, Bool.and_eq_true]
  have e2 : andF (Sw ((i : Int), 1)) (flipF (andF (Sw ((i : Int), 0)) (aclF d.rules))) (asgOf (code4 a b s t)) = true ↔ Sw ((i : Int), 1) (asgOf (code4 a b s t)) = true ∧ Sw ((i : Int), 0) (asgOf (code4 b a t s)) = true ∧ letsB d.rules (pk (code4 b a t s)) = true := by
    rw [andF_at, flip_at (b14_and (hw _) (b14_acl _)) h, andF_at, aclF_lets _ hr _ h2.lt, Bool.and_eq_true, Bool.and_eq_true]
  unfold fireS
  cases ho : (peerF ls ((i : Int), 1)).isSome
  · rw [if_neg (by simp), send_at, e1]
    constructor
    · rintro (q | ⟨q1, q2, q3⟩)
      · exact .inl q
      · exact .inr ⟨1, q1, .inl ⟨rfl, q2, q3⟩⟩
    · rintro (q | ⟨o, q1, ⟨rfl, q2, q3⟩ | ⟨q, _⟩⟩)
      · exact .inl q
      · exact .inr ⟨q1, q2, q3⟩
      · cases q
  · rw [if_pos rfl, send_at, send_at, e1, e2]
    constructor
    · rintro ((q | ⟨q1, q2, q3⟩) | ⟨q1, q2, q3, q4⟩)
      · exact .inl q
      · exact .inr ⟨1, q1, .inl ⟨rfl, q2, q3⟩⟩
      · exact .inr ⟨0, q1, .inr ⟨rfl, rfl, q2, q3, q4⟩⟩
    · rintro (q | ⟨o, q1, ⟨rfl, q2, q3⟩ | ⟨_, rfl, q2, q3, q4⟩⟩)
      · exact .inl (.inl q)
      · exact .inl (.inr ⟨q1, q2, q3⟩)
      · exact .inr ⟨q1, q2, q3, q4⟩
theorem nat_tells (hw : S14 Sw) (h : Fld a b s t) :
    natS ls i d.addr.toNat d.pool Sw Sn x (asgOf (code4 a b s t)) = true ↔ Sn x (asgOf (code4 a b s t)) = true ∨ ∃ o : Nat, peerF ls ((i : Int), (o : Int)) = some x ∧ TellN d (peerF ls ((i : Int), 1)).isSome (fun k c => Sw ((i : Int), (k : Int)) (asgOf c)) o a b s t := by
  have h2 : Fld b a t s := ⟨h.b, h.a, h.d, h.s⟩
  have e1 : andF (natF i Sw) (matchF (natO d.addr.toNat d.pool)) (asgOf (code4 a b s t)) = true ↔ (∃ y, y < 8 ∧ ∃ x, x < 16 ∧ Sw ((i : Int), 0) (asgOf (code4 x b y t)) = true) ∧ d.addr.toNat = a ∧ d.pool.testBit s = true := by
    rw [andF_at, m_natO h, Bool.and_eq_true, Bool.and_eq_true, decide_eq_true_eq]
    unfold natF
    rw [any_spt (b14_any (hw _) _ _) h]
    exact and_congr ⟨fun ⟨y, q1, q2⟩ => ⟨y, q1, (any_src (hw _) ⟨h.a, h.b, q1, h.d⟩).1 q2⟩, fun ⟨y, q1, q2⟩ => ⟨y, q1, (any_src (hw _) ⟨h.a, h.b, q1, h.d⟩).2 q2⟩⟩ Iff.rfl
  have e2 : andF (natB i d.addr.toNat d.pool Sw) (natW i Sw) (asgOf (code4 a b s t)) = true ↔ (∃ y, y < 8 ∧ ∃ x, x < 16 ∧ Sw ((i : Int), 1) (asgOf (code4 a x s y)) = true ∧ d.addr.toNat = x ∧ d.pool.testBit y = true) ∧ ∃ y, y < 8 ∧ ∃ x, x < 16 ∧ Sw ((i : Int), 0) (asgOf (code4 b x t y)) = true := by
    rw [andF_at, Bool.and_eq_true]
    unfold natB natW
    rw [flip_at (b14_any (b14_any (hw _) _ _) _ _) h, any_dpt (b14_any (hw _) _ _) h2, any_dpt (b14_any (b14_and (hw _) (b14_match _)) _ _) h]
    refine and_congr ?_ ?_
    · constructor
      · rintro ⟨y, q1, q2⟩
        obtain ⟨v, q3, q4⟩ := (any_dst (b14_and (hw _) (b14_match _)) ⟨h.a, h.b, h.s, q1⟩).1 q2
        rw [andF_at, m_natI ⟨h.a, q3, h.s, q1⟩, Bool.and_eq_true, Bool.and_eq_true, decide_eq_true_eq] at q4
        exact ⟨y, q1, v, q3, q4⟩
      · rintro ⟨y, q1, v, q3, q4⟩
        refine ⟨y, q1, (any_dst (b14_and (hw _) (b14_match _)) ⟨h.a, h.b, h.s, q1⟩).2 ⟨v, q3, ?_⟩⟩
        rw [andF_at, m_natI ⟨h.a, q3, h.s, q1⟩, Bool.and_eq_true, Bool.and_eq_true, decide_eq_true_eq]
        exact q4
    · exact ⟨fun ⟨y, q1, q2⟩ => ⟨y, q1, (any_dst (hw _) ⟨h.b, h.a, h.d, q1⟩).1 q2⟩, fun ⟨y, q1, q2⟩ => ⟨y, q1, (any_dst (hw _) ⟨h.b, h.a, h.d, q1⟩).2 q2⟩⟩
  unfold natS
  cases ho : (peerF ls ((i : Int), 1)).isSome
  · rw [if_neg (by simp), send_at, e1]
    constructor
    · rintro (q | ⟨q1, q2⟩)
      · exact .inl q
      · exact .inr ⟨1, q1, .inl ⟨rfl, q2⟩⟩
    · rintro (q | ⟨o, q1, ⟨rfl, q2⟩ | ⟨q, _⟩⟩)
      · exact .inl q
      · exact .inr ⟨q1, q2⟩
      · cases q
  · rw [if_pos rfl, send_at, send_at, e1, e2]
    constructor
    · rintro ((q | ⟨q1, q2⟩) | ⟨q1, q2⟩)
      · exact .inl q
      · exact .inr ⟨1, q1, .inl ⟨rfl, q2⟩⟩
      · exact .inr ⟨0, q1, .inr ⟨rfl, rfl, q2⟩⟩
    · rintro (q | ⟨o, q1, ⟨rfl, q2⟩ | ⟨_, rfl, q2⟩⟩)
      · exact .inl (.inl q)
      · exact .inl (.inr ⟨q1, q2⟩)
      · exact .inr ⟨q1, q2⟩
theorem router_tells (hw : S14 Sw) (hr : ∀ r ∈ d.rules, r.ok) (h : Fld a b s t) :
    routerS ls i d.routes d.rules Sw Sn x (asgOf (code4 a b s t)) = true ↔ Sn x (asgOf (code4 a b s t)) = true ∨ ∃ o : Nat, peerF ls ((i : Int), (o : Int)) = some x ∧ TellR d (fun k c => Sw ((i : Int), (k : Int)) (asgOf c)) o a b s t := by
  have ho : ∀ (F : Bdd.Fn) (S : Pl → Bdd.Fn) (n : Nat), rtOut ls i d.routes F S n x (asgOf (code4 a b s t)) = true ↔ S x (asgOf (code4 a b s t)) = true ∨ ∃ o : Nat, o < n ∧ peerF ls ((i : Int), (o : Int)) = some x ∧ F (asgOf (code4 a b s t)) = true ∧ dstB d.routes (o : Int) b = true := fun F S n => by
    induction n with
    | zero => exact ⟨.inl, fun q => q.elim id (fun ⟨o, q, _⟩ => absurd q (by omega))⟩
    | succ n ih =>
      have e : rtP d.routes (n : Int) (asgOf (code4 a b s t)) = dstB d.routes (n : Int) b := by
        unfold rtP
        rw [dst_has _ _ _ h.lt, h.parts.2.1]
      show sendS ls ((i : Int), (n : Int)) (andF F (rtP d.routes (n : Int))) (rtOut ls i d.routes F S n) x _ = true ↔ _
      rw [send_at, ih, andF_at, e, Bool.and_eq_true]
      constructor
      · rintro ((q | ⟨o, q1, q2⟩) | ⟨q1, q2⟩)
        · exact .inl q
        · exact .inr ⟨o, by omega, q2⟩
        · exact .inr ⟨n, by omega, q1, q2⟩
      · rintro (q | ⟨o, q1, q2⟩)
        · exact .inl (.inl q)
        · rcases Nat.lt_or_ge o n with hl | hl
          · exact .inl (.inr ⟨o, hl, q2⟩)
          · obtain rfl : o = n := by omega
            exact .inr q2
  have hi : ∀ n, rtIn ls i d.routes d.rules Sw Sn n x (asgOf (code4 a b s t)) = true ↔ Sn x (asgOf (code4 a b s t)) = true ∨ ∃ k : Nat, k < n ∧ ∃ o : Nat, o < 4 ∧ peerF ls ((i : Int), (o : Int)) = some x ∧ (Sw ((i : Int), (k : Int)) (asgOf (code4 a b s t)) = true ∧ letsB d.rules (pk (code4 a b s t)) = true) ∧ dstB d.routes (o : Int) b = true := fun n => by
    induction n with
    | zero => exact ⟨.inl, fun q => q.elim id (fun ⟨o, q, _⟩ => absurd q (by omega))⟩
    | succ n ih =>
      show rtOut ls i d.routes (andF (Sw ((i : Int), (n : Int))) (aclF d.rules)) (rtIn ls i d.routes d.rules Sw Sn n) 4 x _ = true ↔ _
      rw [ho, ih]
      simp only [andF_at, aclF_lets _ hr _ h.lt, Bool.and_eq_true]
      constructor
      · rintro ((q | ⟨k, q1, q2⟩) | q2)
        · exact .inl q
        · exact .inr ⟨k, by omega, q2⟩
        · exact .inr ⟨n, by omega, q2⟩
      · rintro (q | ⟨k, q1, q2⟩)
        · exact .inl (.inl q)
        · rcases Nat.lt_or_ge k n with hl | hl
          · exact .inl (.inr ⟨k, hl, q2⟩)
          · obtain rfl : k = n := by omega
            exact .inr q2
  refine (hi 4).trans (or_congr Iff.rfl ?_)
  constructor
  · rintro ⟨k, hk, o, ho, q1, ⟨q2, q3⟩, q4⟩
    exact ⟨o, q1, ho, ⟨k, hk, q2⟩, q4, q3⟩
  · rintro ⟨o, q1, ho, ⟨k, hk, q2⟩, q4, q3⟩
    exact ⟨k, hk, o, ho, q1, ⟨q2, q3⟩, q4⟩
theorem to_at (hw : S14 Sw) (A x : Nat) (hA : A < 16) (h : Fld a b s t) : toF (balQ i A Sw) x (asgOf (code4 a b s t)) = true ↔ Sw ((i : Int), 0) (asgOf (code4 a A s t)) = true ∧ x = b := by
  unfold toF balQ
  rw [andF_at, m_dst h, Bool.and_eq_true, decide_eq_true_eq, any_dst (b14_and (hw _) (b14_match _)) h]
  refine and_congr ?_ Iff.rfl
  constructor
  · rintro ⟨v, hv, q⟩
    rw [andF_at, m_dst ⟨h.a, hv, h.s, h.d⟩, Bool.and_eq_true, decide_eq_true_eq] at q
    rw [q.2]; exact q.1
  · intro q
    refine ⟨A, hA, ?_⟩
    rw [andF_at, m_dst ⟨h.a, hA, h.s, h.d⟩, Bool.and_eq_true, decide_eq_true_eq]
    exact ⟨q, rfl⟩
theorem from_at (hw : S14 Sw) (A x : Nat) (hA : A < 16) (hx : x < 16) (h : Fld a b s t) : fromF (balX i A x Sw) A (asgOf (code4 a b s t)) = true ↔ (Sw ((i : Int), 1) (asgOf (code4 x b s t)) = true ∧ Sw ((i : Int), 0) (asgOf (code4 b A t s)) = true) ∧ A = a := by
  have ht : Bdd.Below 14 (toF (balQ i A Sw) x) := b14_and (b14_any (b14_and (hw _) (b14_match _)) _ _) (b14_match _)
  unfold fromF balX
  rw [andF_at, m_src h, Bool.and_eq_true, decide_eq_true_eq, any_src (b14_and (hw _) (b14_flip ht)) h]
  refine and_congr ?_ Iff.rfl
  have e : ∀ v, v < 16 → (andF (Sw ((i : Int), 1)) (flipF (toF (balQ i A Sw) x)) (asgOf (code4 v b s t)) = true ↔ Sw ((i : Int), 1) (asgOf (code4 v b s t)) = true ∧ Sw ((i : Int), 0) (asgOf (code4 b A t s)) = true ∧ x = v) := fun v hv => by
    rw [andF_at, flip_at ht ⟨hv, h.b, h.s, h.d⟩, Bool.and_eq_true, to_at hw A x hA ⟨h.b, hv, h.d, h.s⟩]
  constructor
  · rintro ⟨v, hv, q⟩
    obtain ⟨q1, q2, rfl⟩ := (e v hv).1 q
    exact ⟨q1, q2⟩
  · rintro ⟨q1, q2⟩
    exact ⟨x, hx, (e x hx).2 ⟨q1, q2, rfl⟩⟩
theorem bal_tells (hw : S14 Sw) (hA : d.addr.toNat < 16) (hB : ∀ x ∈ d.backs, x.toNat < 16) (h : Fld a b s t) :
    balS ls i d.addr.toNat d.backs Sw Sn x (asgOf (code4 a b s t)) = true ↔ Sn x (asgOf (code4 a b s t)) = true ∨ ∃ o : Nat, peerF ls ((i : Int), (o : Int)) = some x ∧ TellB d (peerF ls ((i : Int), 1)).isSome (fun k c => Sw ((i : Int), (k : Int)) (asgOf c)) o a b s t := by
  have h0 : bal0 ls i d.addr.toNat Sw Sn x (asgOf (code4 a b s t)) = true ↔ Sn x (asgOf (code4 a b s t)) = true ∨ ∃ o : Nat, peerF ls ((i : Int), (o : Int)) = some x ∧ ((o = 1 ∧ Sw ((i : Int), 0) (asgOf (code4 a b s t)) = true ∧ d.addr.toNat ≠ b) ∨ (o = 0 ∧ Sw ((i : Int), 1) (asgOf (code4 a b s t)) = true)) := by
    unfold bal0
    rw [send_at, send_at, andF_at, Bool.and_eq_true]
    have e : notF (matchF (dstM d.addr.toNat)) (asgOf (code4 a b s t)) = true ↔ d.addr.toNat ≠ b := by
      unfold notF iteF
      rw [m_dst h]
      by_cases e : d.addr.toNat = b <;> simp [e]
    rw [e]
    constructor
    · rintro ((q | ⟨q1, q2⟩) | ⟨q1, q2⟩)
      · exact .inl q
      · exact .inr ⟨1, q1, .inl ⟨rfl, q2⟩⟩
      · exact .inr ⟨0, q1, .inr ⟨rfl, q2⟩⟩
    · rintro (q | ⟨o, q1, ⟨rfl, q2⟩ | ⟨rfl, q2⟩⟩)
      · exact .inl (.inl q)
      · exact .inl (.inr ⟨q1, q2⟩)
      · exact .inr ⟨q1, q2⟩
  have hs : ∀ (z : Int) (S : Pl → Bdd.Fn), z.toNat < 16 → (balStep ls i d.addr.toNat Sw z.toNat S x (asgOf (code4 a b s t)) = true ↔ S x (asgOf (code4 a b s t)) = true ∨ ∃ o : Nat, peerF ls ((i : Int), (o : Int)) = some x ∧
      ((o = 1 ∧ Sw ((i : Int), 0) (asgOf (code4 a d.addr.toNat s t)) = true ∧ z.toNat = b) ∨ ((peerF ls ((i : Int), 1)).isSome = true ∧ o = 0 ∧ Sw ((i : Int), 1) (asgOf (code4 z.toNat b s t)) = true ∧ Sw ((i : Int), 0) (asgOf (code4 b d.addr.toNat t s)) = true ∧ d.addr.toNat = a))) := fun z S hz => by
    unfold balStep
    cases ho : (peerF ls ((i : Int), 1)).isSome
    · rw [if_neg (by simp), send_at, to_at hw _ _ hA h]
      constructor
      · rintro (q | ⟨q1, q2⟩)
        · exact .inl q
        · exact .inr ⟨1, q1, .inl ⟨rfl, q2⟩⟩
      · rintro (q | ⟨o, q1, ⟨rfl, q2⟩ | ⟨q, _⟩⟩)
        · exact .inl q
        · exact .inr ⟨q1, q2⟩
        · cases q
    · rw [if_pos rfl, send_at, send_at, to_at hw _ _ hA h, from_at hw _ _ hA hz h]
      constructor
      · rintro ((q | ⟨q1, q2⟩) | ⟨q1, ⟨q2, q3⟩, q4⟩)
        · exact .inl q
        · exact .inr ⟨1, q1, .inl ⟨rfl, q2⟩⟩
        · exact .inr ⟨0, q1, .inr ⟨rfl, rfl, q2, q3, q4⟩⟩
      · rintro (q | ⟨o, q1, ⟨rfl, q2⟩ | ⟨_, rfl, q2, q3, q4⟩⟩)
        · exact .inl (.inl q)
        · exact .inl (.inr ⟨q1, q2⟩)
        · exact .inr ⟨q1, ⟨q2, q3⟩, q4⟩
  have hf : ∀ (l : List Int) (S : Pl → Bdd.Fn), (∀ z ∈ l, z.toNat < 16) → (l.foldl (fun S z => balStep ls i d.addr.toNat Sw z.toNat S) S x (asgOf (code4 a b s t)) = true ↔ S x (asgOf (code4 a b s t)) = true ∨ ∃ z ∈ l, ∃ o : Nat, peerF ls ((i : Int), (o : Int)) = some x ∧
      ((o = 1 ∧ Sw ((i : Int), 0) (asgOf (code4 a d.addr.toNat s t)) = true ∧ z.toNat = b) ∨ ((peerF ls ((i : Int), 1)).isSome = true ∧ o = 0 ∧ Sw ((i : Int), 1) (asgOf (code4 z.toNat b s t)) = true ∧ Sw ((i : Int), 0) (asgOf (code4 b d.addr.toNat t s)) = true ∧ d.addr.toNat = a))) := fun l => by
    induction l with
    | nil => exact fun S _ => ⟨.inl, fun q => q.elim id (fun ⟨z, q, _⟩ => by cases q)⟩
    | cons z l ih =>
      intro S hl
      rw [List.foldl_cons, ih _ (fun y hy => hl y (List.mem_cons_of_mem _ hy)), hs z S (hl z List.mem_cons_self)]
      constructor
      · rintro ((q | q) | ⟨y, hy, q⟩)
        · exact .inl q
        · exact .inr ⟨z, List.mem_cons_self, q⟩
        · exact .inr ⟨y, List.mem_cons_of_mem _ hy, q⟩
      · rintro (q | ⟨y, hy, q⟩)
        · exact .inl (.inl q)
        · rcases List.mem_cons.1 hy with rfl | hy
          · exact .inl (.inr q)
          · exact .inr ⟨y, hy, q⟩
  unfold balS balTo
  rw [List.take_length, hf _ _ hB, h0]
  constructor
  · rintro ((q | ⟨o, q1, q2 | q2⟩) | ⟨z, hz, o, q1, q2⟩)
    · exact .inl q
    · exact .inr ⟨o, q1, .inl q2⟩
    · exact .inr ⟨o, q1, .inr (.inl q2)⟩
    · exact .inr ⟨o, q1, .inr (.inr ⟨z, hz, q2⟩)⟩
  · rintro (q | ⟨o, q1, q2 | q2 | ⟨z, hz, q2⟩⟩)
    · exact .inl (.inl q)
    · exact .inl (.inr ⟨o, q1, .inl q2⟩)
    · exact .inl (.inr ⟨o, q1, .inr q2⟩)
    · exact .inr ⟨z, hz, o, q1, q2⟩
def Tells (d : Dev) (opn : Bool) (W : Nat → Nat → Bool) (o a b s t : Nat) : Prop :=
  (d.kind = 2 ∧ TellR d W o a b s t) ∨ (d.kind = 3 ∧ TellF d opn W o a b s t) ∨ (d.kind = 4 ∧ TellN d opn W o a b s t) ∨ (d.kind = 5 ∧ TellB d opn W o a b s t)
theorem dev_tells (hd : DevOk d) (hr : ∀ r ∈ d.rules, r.ok) (hw : S14 Sw) (h : Fld a b s t) :
    devS ls i d Sw Sn x (asgOf (code4 a b s t)) = true ↔ Sn x (asgOf (code4 a b s t)) = true ∨ ∃ o : Nat, peerF ls ((i : Int), (o : Int)) = some x ∧ Tells d (peerF ls ((i : Int), 1)).isSome (fun k c => Sw ((i : Int), (k : Int)) (asgOf c)) o a b s t := by
  unfold devS
  by_cases k2 : d.kind = 2
  · rw [if_pos k2, router_tells hw hr h]
    simp [Tells, k2]
  rw [if_neg k2]
  by_cases k3 : d.kind = 3
  · rw [if_pos k3, fire_tells hw hr h]
    simp [Tells, k3]
  rw [if_neg k3]
  by_cases k4 : d.kind = 4
  · rw [if_pos k4, nat_tells hw h]
    simp [Tells, k4]
  rw [if_neg k4]
  by_cases k5 : d.kind = 5
  · have h1 := hd.addr16 (.inr (.inr k5))
    rw [if_pos k5, bal_tells hw (by omega) (fun z hz => by
      have h1 := hd.bb
      unfold backsB at h1
      rw [Bool.and_eq_true] at h1
      have := backsOk_lt _ _ _ h1.1 z hz
      omega) h]
    simp [Tells, k5]
  · rw [if_neg k5]
    simp [Tells, k2, k3, k4, k5]
theorem S14.zero : S14 (fun _ _ => false) := fun _ => Bdd.Below.const _ _
theorem S14.next {Sw S : Pl → Bdd.Fn} (hw : S14 Sw) (h : S14 S) (ds : List Dev) (ls : List LinkV) : ∀ k, S14 (nextTo ds ls Sw S k)
  | 0 => h
  | k + 1 => by
    simp only [nextTo]
    split
    · exact S14.dev hw (S14.next hw h ds ls k) ls k _
    · exact S14.next hw h ds ls k
theorem S14.first {S : Pl → Bdd.Fn} (h : S14 S) (ds : List Dev) (ls : List LinkV) : ∀ k, S14 (firstTo ds ls S k)
  | 0 => h
  | k + 1 => by
    simp only [firstTo]
    split
    · unfold hostS
      split
      · exact (S14.first h ds ls k).send _ _ (b14_match _)
      · exact S14.first h ds ls k
    · exact S14.first h ds ls k
theorem S14.round (ds : List Dev) (ls : List LinkV) : ∀ k, S14 (roundS ds ls k)
  | 0 => S14.first S14.zero ds ls _
  | k + 1 => S14.next (S14.round ds ls k) (S14.round ds ls k) ds ls _
theorem next_tells {ds : List Dev} (hd : ∀ d ∈ ds, DevOk d) (hr : ∀ d ∈ ds, ∀ r ∈ d.rules, r.ok) (hw : S14 Sw) (h : Fld a b s t) : ∀ k, k ≤ ds.length → (nextTo ds ls Sw Sn k x (asgOf (code4 a b s t)) = true ↔ Sn x (asgOf (code4 a b s t)) = true ∨
    ∃ (i : Nat) (d : Dev) (o : Nat), i < k ∧ ds[i]? = some d ∧ peerF ls ((i : Int), (o : Int)) = some x ∧ Tells d (peerF ls ((i : Int), 1)).isSome (fun q c => Sw ((i : Int), (q : Int)) (asgOf c)) o a b s t) := by
  intro k
  induction k with
  | zero => exact fun _ => ⟨.inl, fun q => q.elim id (fun ⟨i, d, o, q, _⟩ => absurd q (by omega))⟩
  | succ k ih =>
    intro hk
    obtain ⟨d, hdk⟩ : ∃ d, ds[k]? = some d := ⟨ds[k], List.getElem?_eq_getElem hk⟩
    have hm := List.mem_of_getElem? hdk
    rw [nextTo_succ hdk, dev_tells (hd d hm) (hr d hm) hw h, ih (by omega)]
    constructor
    · rintro ((q | ⟨i, e, o, q1, q2⟩) | ⟨o, q⟩)
      · exact .inl q
      · exact .inr ⟨i, e, o, by omega, q2⟩
      · exact .inr ⟨k, d, o, by omega, hdk, q⟩
    · rintro (q | ⟨i, e, o, q1, q2, q3⟩)
      · exact .inl (.inl q)
      · rcases Nat.lt_or_ge i k with hl | hl
        · exact .inl (.inr ⟨i, e, o, hl, q2, q3⟩)
        · obtain rfl : i = k := by omega
          obtain rfl : d = e := Option.some.inj (hdk.symm.trans q2)
          exact .inr ⟨o, q3⟩
theorem first_tells {ds : List Dev} (h : Fld a b s t) : ∀ k, k ≤ ds.length → (firstTo ds ls (fun _ _ => false) k x (asgOf (code4 a b s t)) = true ↔
    ∃ (i : Nat) (d : Dev), i < k ∧ ds[i]? = some d ∧ d.kind = 1 ∧ peerF ls ((i : Int), 0) = some x ∧ d.addr.toNat = a) := by
  intro k
  induction k with
  | zero => exact fun _ => ⟨fun q => (by cases q), fun ⟨i, d, q, _⟩ => absurd q (by omega)⟩
  | succ k ih =>
    intro hk
    obtain ⟨d, hdk⟩ : ∃ d, ds[k]? = some d := ⟨ds[k], List.getElem?_eq_getElem hk⟩
    rw [firstTo_succ hdk]
    have hu : ∀ (i : Nat) (e : Dev), i < k + 1 → ds[i]? = some e → (i < k ∨ (i = k ∧ e = d)) := fun i e q1 q2 => by
      rcases Nat.lt_or_ge i k with hl | hl
      · exact .inl hl
      · obtain rfl : i = k := by omega
        exact .inr ⟨rfl, Option.some.inj (q2.symm.trans hdk)⟩
    unfold hostS
    by_cases e1 : d.kind = 1
    · rw [if_pos e1, send_at, ih (by omega), m_src h, decide_eq_true_eq]
      constructor
      · rintro (⟨i, e, q1, q2⟩ | q)
        · exact ⟨i, e, by omega, q2⟩
        · exact ⟨k, d, by omega, hdk, e1, q⟩
      · rintro ⟨i, e, q1, q2, q3⟩
        rcases hu i e q1 q2 with hl | ⟨rfl, rfl⟩
        · exact .inl ⟨i, e, hl, q2, q3⟩
        · exact .inr q3.2
    · rw [if_neg e1, ih (by omega)]
      constructor
      · rintro ⟨i, e, q1, q2⟩
        exact ⟨i, e, by omega, q2⟩
      · rintro ⟨i, e, q1, q2, q3⟩
        rcases hu i e q1 q2 with hl | ⟨rfl, rfl⟩
        · exact ⟨i, e, hl, q2, q3⟩
        · exact absurd q3.1 e1
def inR4 (ds : List Dev) (ls : List LinkV) (k : Nat) (x : Pl) (a b s t : Nat) : Prop := roundS ds ls k x (asgOf (code4 a b s t)) = true
theorem round_zero {ds : List Dev} (h : Fld a b s t) : inR4 ds ls 0 x a b s t ↔ ∃ (i : Nat) (d : Dev), ds[i]? = some d ∧ d.kind = 1 ∧ peerF ls ((i : Int), 0) = some x ∧ d.addr.toNat = a :=
  (first_tells h ds.length (Nat.le_refl _)).trans ⟨fun ⟨i, d, _, q⟩ => ⟨i, d, q⟩, fun ⟨i, d, q1, q2⟩ => ⟨i, d, (List.getElem?_eq_some_iff.1 q1).1, q1, q2⟩⟩
theorem round_succ {ds : List Dev} (hd : ∀ d ∈ ds, DevOk d) (hr : ∀ d ∈ ds, ∀ r ∈ d.rules, r.ok) (h : Fld a b s t) (k : Nat) : inR4 ds ls (k + 1) x a b s t ↔ inR4 ds ls k x a b s t ∨
    ∃ (i : Nat) (d : Dev) (o : Nat), ds[i]? = some d ∧ peerF ls ((i : Int), (o : Int)) = some x ∧ Tells d (peerF ls ((i : Int), 1)).isSome (fun q c => roundS ds ls k ((i : Int), (q : Int)) (asgOf c)) o a b s t :=
  (next_tells hd hr (S14.round ds ls k) h ds.length (Nat.le_refl _)).trans (or_congr Iff.rfl ⟨fun ⟨i, d, o, _, q⟩ => ⟨i, d, o, q⟩, fun ⟨i, d, o, q1, q2⟩ => ⟨i, d, o, (List.getElem?_eq_some_iff.1 q1).1, q1, q2⟩⟩)
end Go.Proofs.YtohbafigjpoijaaGreat
namespace Go.Proofs.YtohbafigjpoijaaGreat
open Go.ChangeAt Go.ChangeShapes Go.RowKit Go.WideShapes
theorem LinkV.one (r : LinkV) : ∀ u ∈ r.cells, u.oneCell' = true := by
  intro u hu
  simp only [LinkV.cells, List.mem_cons, List.not_mem_nil, or_false] at hu
  rcases hu with rfl | rfl | rfl | rfl <;> rfl
def i64Cells (k : Int) : List Value := [.int .i64 k]
theorem i64Cells_len (k : Int) : (i64Cells k).length = 1 := rfl
theorem i64Cells_one (k : Int) : ∀ u ∈ i64Cells k, u.oneCell' = true := by
  intro u hu
  simp only [i64Cells, List.mem_cons, List.not_mem_nil, or_false] at hu
  subst hu; rfl
theorem Tryz.infoLink : (Tryz.prog.info? 102).map (fun i => (i.zero, i.size, i.bytes)) = some (some (.agg #[.int .i64 0, .int .i64 0, .int .i64 0, .int .i64 0]), 4, 32) := by kernel_rfl
theorem Tryz.infoDevice : (Tryz.prog.info? 98).map (fun i => (i.zero, i.size, i.bytes)) = some (some (.agg #[.string ⟨#[]⟩, .int .i64 0, .int .i64 0, .int .u8 0, .slice none 0 0, .slice none 0 0, .slice none 0 0]), 7, 112) := by kernel_rfl
theorem cloneLink_walk (l : List LinkV) (A : Option Addr) (n c : Nat) (W : World) (hn : n ≤ 1048576) (hl : SlAt LinkV.cells 4 W W.heap.size A n l) :
    Calls Tryz.prog 57 #[.slice A n c] W fun e W' =>
      ∃ v, e = .returned v ∧ W'.ownsRow W.heap.size 102 4 v n (l.flatMap LinkV.cells) ∧ Below W.heap.size W W' := by
  obtain ⟨i0, hi0, hz0, hz1, hz2⟩ := info_parts Tryz.infoLink
  rcases A with _ | ad
  · have hn0 : n = 0 := by
      rcases Nat.eq_zero_or_pos n with h | h
      · exact h
      · obtain ⟨b, o, e, _⟩ := hl.2 h; cases e
    subst hn0
    have : l = [] := List.eq_nil_of_length_eq_zero hl.1
    subst this
    have heq := fun w => Lib.run_eql_slice_nil (P := Tryz.prog) w _ _ none 0 c 0 0 Tryz.underlying23
    go_enter Tryz.func57, Tryz.ntmps57
    go_wp2
    go_ret
    exact ⟨_, rfl, World.ownsRow_nil _ _ _ _, Below.refl _ _⟩
  · have HR := hide (hl.reads LinkV.len (by omega))
    clear hl
    have heq := fun w => Lib.run_eql_slice_nil (P := Tryz.prog) w _ _ (some ad) n c 0 0 Tryz.underlying23
    go_enter Tryz.func57, Tryz.ntmps57
    go_wp2_with (at_builtin; refine wpList_append_any _ rfl (.tmp 5) (.tmp 6) 23 rfl W.heap.size 102 i0 _ 4 32 Tryz.underlying23 hi0 hz0 hz1 hz2 rfl (by omega) (.slice (some ⟨W.heap.size, 0, none⟩) 0 0) 0 [] rfl (World.ownsRow_lit _ #[] 0 (Nat.le_refl _) (by decide) rfl) W.heap.size (some ad) n c _ rfl (HR.out.alloc (Nat.le_refl _) _) (flat_one LinkV.one l) (by simp only [maxLen]; omega) (by omega) (by simp) ?_; intro v1 w1 hown1 hg1 hat1)
    go_ret
    refine ⟨v1, rfl, by simpa using hown1, ((Below.refl _ _).alloc (Nat.le_refl _) _).grown hg1 (by simp) (fun k hk => ?_)⟩
    simp [Value.ownBlock] at hk
    omega
theorem cloneInt_walk (l : List Int) (A : Option Addr) (n c : Nat) (W : World) (hn : n ≤ 1048576) (hl : SlAt i64Cells 1 W W.heap.size A n l) :
    Calls Tryz.prog 134 #[.slice A n c] W fun e W' =>
      ∃ v, e = .returned v ∧ W'.ownsRow W.heap.size 3 1 v n (l.flatMap i64Cells) ∧ Below W.heap.size W W' := by
  obtain ⟨i0, hi0, hz0, hz1, hz2⟩ := info_parts Tryz.infoInt
  rcases A with _ | ad
  · have hn0 : n = 0 := by
      rcases Nat.eq_zero_or_pos n with h | h
      · exact h
      · obtain ⟨b, o, e, _⟩ := hl.2 h; cases e
    subst hn0
    have : l = [] := List.eq_nil_of_length_eq_zero hl.1
    subst this
    have heq := fun w => Lib.run_eql_slice_nil (P := Tryz.prog) w _ _ none 0 c 0 0 Tryz.underlying72
    go_enter Tryz.func134, Tryz.ntmps134
    go_wp2
    go_ret
    exact ⟨_, rfl, World.ownsRow_nil _ _ _ _, Below.refl _ _⟩
  · have HR := hide (hl.reads i64Cells_len (by omega))
    clear hl
    have heq := fun w => Lib.run_eql_slice_nil (P := Tryz.prog) w _ _ (some ad) n c 0 0 Tryz.underlying72
    go_enter Tryz.func134, Tryz.ntmps134
    go_wp2_with (at_builtin; refine wpList_append_any _ rfl (.tmp 5) (.tmp 6) 72 rfl W.heap.size 3 i0 _ 1 8 Tryz.underlying72 hi0 hz0 hz1 hz2 rfl (by omega) (.slice (some ⟨W.heap.size, 0, none⟩) 0 0) 0 [] rfl (World.ownsRow_lit _ #[] 0 (Nat.le_refl _) (by decide) rfl) W.heap.size (some ad) n c _ rfl (HR.out.alloc (Nat.le_refl _) _) (flat_one i64Cells_one l) (by simp only [maxLen]; omega) (by omega) (by simp) ?_; intro v1 w1 hown1 hg1 hat1)
    go_ret
    refine ⟨v1, rfl, by simpa using hown1, ((Below.refl _ _).alloc (Nat.le_refl _) _).grown hg1 (by simp) (fun k hk => ?_)⟩
    simp [Value.ownBlock] at hk
    omega
end Go.Proofs.YtohbafigjpoijaaGreat
