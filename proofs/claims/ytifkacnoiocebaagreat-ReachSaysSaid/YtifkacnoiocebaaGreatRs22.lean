/- A part of the proof: Rd10, RdM, Pm1. -/
import Derived.Test.YtifkacnoiocebaaGreatRs21
set_option linter.unusedVariables false
set_option linter.unusedSimpArgs false
set_option maxRecDepth 100000
namespace Go.Proofs.YtifkacnoiocebaaGreat
open Bdd Go.Maps Go.RowKit
def LeS (S S' : Pl → Bdd.Fn) : Prop := ∀ x a, S x a = true → S' x a = true
theorem LeS.refl (S : Pl → Bdd.Fn) : LeS S S := fun _ _ h => h
theorem LeS.trans {S S' S'' : Pl → Bdd.Fn} (h : LeS S S') (k : LeS S' S'') : LeS S S'' := fun x a hh => k x a (h x a hh)
theorem le_send (ls : List LinkV) (y : Pl) (F : Bdd.Fn) (S : Pl → Bdd.Fn) : LeS S (sendS ls y F S) := fun x a h => by
  unfold sendS
  cases peerF ls y with
  | none => exact h
  | some z =>
    show (if z = x then orF (S z) F else S x) a = true
    by_cases e : z = x
    · subst e
      rw [if_pos rfl, orF_at, h]
      rfl
    · rw [if_neg e]
      exact h
theorem le_rtOut (ls : List LinkV) (i : Nat) (ts : List RouteV) (F : Bdd.Fn) (S : Pl → Bdd.Fn) : ∀ o, LeS S (rtOut ls i ts F S o)
  | 0 => LeS.refl S
  | o + 1 => (le_rtOut ls i ts F S o).trans (le_send _ _ _ _)
theorem le_rtIn (ls : List LinkV) (i : Nat) (ts : List RouteV) (rs : List RuleV) (Sw S : Pl → Bdd.Fn) : ∀ k, LeS S (rtIn ls i ts rs Sw S k)
  | 0 => LeS.refl S
  | k + 1 => (le_rtIn ls i ts rs Sw S k).trans (le_rtOut _ _ _ _ _ 4)
theorem le_fire (ls : List LinkV) (i : Nat) (rs : List RuleV) (Sw S : Pl → Bdd.Fn) : LeS S (fireS ls i rs Sw S) := by
  unfold fireS
  split
  · exact (le_send _ _ _ _).trans (le_send _ _ _ _)
  · exact le_send _ _ _ _
theorem le_nat (ls : List LinkV) (i a pl : Nat) (Sw S : Pl → Bdd.Fn) : LeS S (natS ls i a pl Sw S) := by
  unfold natS
  split
  · exact (le_send _ _ _ _).trans (le_send _ _ _ _)
  · exact le_send _ _ _ _
theorem le_balStep (ls : List LinkV) (i a : Nat) (Sw : Pl → Bdd.Fn) (b : Nat) (S : Pl → Bdd.Fn) : LeS S (balStep ls i a Sw b S) := by
  unfold balStep
  split
  · exact (le_send _ _ _ _).trans (le_send _ _ _ _)
  · exact le_send _ _ _ _
theorem le_balFold (ls : List LinkV) (i a : Nat) (Sw : Pl → Bdd.Fn) : ∀ (l : List Int) (S : Pl → Bdd.Fn), LeS S (l.foldl (fun S b => balStep ls i a Sw b.toNat S) S)
  | [], S => LeS.refl S
  | b :: t, S => (le_balStep ls i a Sw b.toNat S).trans (le_balFold ls i a Sw t _)
theorem le_bal (ls : List LinkV) (i a : Nat) (bs : List Int) (Sw S : Pl → Bdd.Fn) : LeS S (balS ls i a bs Sw S) := by
  unfold balS balTo bal0
  exact ((le_send _ _ _ _).trans (le_send _ _ _ _)).trans (le_balFold _ _ _ _ _ _)
theorem le_dev (ls : List LinkV) (i : Nat) (d : Dev) (Sw S : Pl → Bdd.Fn) : LeS S (devS ls i d Sw S) := by
  unfold devS
  split
  · exact le_rtIn _ _ _ _ _ _ 4
  split
  · exact le_fire _ _ _ _ _
  split
  · exact le_nat _ _ _ _ _ _
  split
  · exact le_bal _ _ _ _ _ _
  · exact LeS.refl _
theorem le_next (ds : List Dev) (ls : List LinkV) (Sw S : Pl → Bdd.Fn) : ∀ k, LeS S (nextTo ds ls Sw S k)
  | 0 => LeS.refl S
  | k + 1 => (le_next ds ls Sw S k).trans (by
      simp only [nextTo]
      split
      · exact le_dev _ _ _ _ _
      · exact LeS.refl _)
def firstS (ds : List Dev) (ls : List LinkV) : Pl → Bdd.Fn := firstTo ds ls (fun _ _ => false) ds.length
def roundS (ds : List Dev) (ls : List LinkV) : Nat → Pl → Bdd.Fn
  | 0 => firstS ds ls
  | k + 1 => nextTo ds ls (roundS ds ls k) (roundS ds ls k) ds.length
theorem le_round (ds : List Dev) (ls : List LinkV) (k : Nat) : LeS (roundS ds ls k) (roundS ds ls (k + 1)) := le_next _ _ _ _ _
structure MapOk (A : St) (M : PoK → Option Value) (S : Pl → Bdd.Fn) (ks : List Pl) : Prop where
  ints : Ints M
  keys : ∀ x, (M x).isSome = true → x ∈ ks
  isF : ∀ x, IsF A (numAt M x) (S x)
theorem MapOk.same {A : St} {M M' : PoK → Option Value} {S S' : Pl → Bdd.Fn} {ks : List Pl} (h : MapOk A M S ks) (h' : MapOk A M' S' ks) (hle : LeS S S') (hs : ∀ x, (M' x).isSome = true → numAt M x = numAt M' x) (x : Pl) : S' x = S x := by
  cases e : M' x with
  | some v => rw [← (h.isF x).2, ← (h'.isF x).2, hs x (by rw [e]; rfl)]
  | none =>
    have h0 : S' x = fun _ => false := by rw [← (h'.isF x).2, numAt_none e, den_zero]
    rw [h0]
    funext a
    cases hb : S x a
    · rfl
    · have := hle x a hb
      rw [h0] at this
      cases this
theorem MapOk.diff {A : St} {M M' : PoK → Option Value} {S S' : Pl → Bdd.Fn} {ks : List Pl} (i : Inv A) (h : MapOk A M S ks) (h' : MapOk A M' S' ks) {x : Pl} (hx : (M' x).isSome = true) (hne : numAt M x ≠ numAt M' x) : x ∈ ks ∧ S x ≠ S' x :=
  ⟨h'.keys x hx, fun e => hne ((canon i.ok (h.isF x).1 (h'.isF x).1).1 (by rw [(h'.isF x).2, (h.isF x).2, e]))⟩
theorem cntS_max (S : Pl → Bdd.Fn) : ∀ l : List Pl, cntS S l ≤ l.length * 16384
  | [] => Nat.le_refl _
  | x :: l => by
    have h1 : cntF 14 14 (S x) ≤ 16384 := by
      have := List.countP_le_length (p := fun r => S x (asgV 14 r)) (l := List.range (2 ^ 14))
      simpa [cntF] using this
    have h2 := cntS_max S l
    simp only [cntS, List.map_cons, List.sum_cons, List.length_cons] at *
    omega
theorem existsF_at (F : Bdd.Fn) (i : Nat) (a : Asg) : existsF F i a = (F (upd a i false) || F (upd a i true)) := by
  unfold existsF iteF restr
  cases F (upd a i false) <;> simp
section
variable {ls' ls : List LinkV} {Sw Sw' S S' : Pl → Bdd.Fn} {F F' : Bdd.Fn}
end
def code4 (a b s d : Nat) : Nat := a * 1024 + b * 64 + s * 8 + d
structure Fld (a b s d : Nat) : Prop where
  a : a < 16
  b : b < 16
  s : s < 8
  d : d < 8
theorem Fld.lt {a b s d : Nat} (h : Fld a b s d) : code4 a b s d < 16384 := by
  have := h.a; have := h.b; have := h.s; have := h.d
  unfold code4; omega
theorem Fld.parts {a b s d : Nat} (h : Fld a b s d) : code4 a b s d / 1024 = a ∧ code4 a b s d / 64 % 16 = b ∧ code4 a b s d / 8 % 8 = s ∧ code4 a b s d % 8 = d := by
  have := h.a; have := h.b; have := h.s; have := h.d
  unfold code4
  refine ⟨?_, ?_, ?_, ?_⟩ <;> omega
theorem fld_of {c : Nat} (hc : c < 16384) : Fld (c / 1024) (c / 64 % 16) (c / 8 % 8) (c % 8) ∧ code4 (c / 1024) (c / 64 % 16) (c / 8 % 8) (c % 8) = c := by
  refine ⟨⟨by omega, by omega, by omega, by omega⟩, ?_⟩
  unfold code4; omega
theorem bit_div (c j k : Nat) : (c / 2 ^ j).testBit k = c.testBit (j + k) := by rw [← Nat.shiftRight_eq_div_pow, Nat.testBit_shiftRight]
theorem bit_mod {c j k : Nat} (h : k < j) : (c % 2 ^ j).testBit k = c.testBit k := by rw [Nat.testBit_mod_two_pow]; simp [h]
theorem asg_at {a b s d : Nat} (h : Fld a b s d) (u : Nat) (hu : u < 14) : asgOf (code4 a b s d) u = if u < 4 then a.testBit (3 - u) else if u < 8 then b.testBit (7 - u) else if u < 11 then s.testBit (10 - u) else d.testBit (13 - u) := by
  obtain ⟨h1, h2, h3, h4⟩ := h.parts
  unfold asgOf
  generalize code4 a b s d = c at *
  split
  · rw [← h1, show (1024 : Nat) = 2 ^ 10 from rfl, bit_div]; congr 1; omega
  split
  · rw [← h2, show (64 : Nat) = 2 ^ 6 from rfl, show (16 : Nat) = 2 ^ 4 from rfl, bit_mod (by omega), bit_div]; congr 1; omega
  split
  · rw [← h3]
    show _ = (c / 2 ^ 3 % 2 ^ 3).testBit (10 - u)
    rw [bit_mod (by omega), bit_div]; congr 1; omega
  · rw [← h4]
    show _ = (c % 2 ^ 3).testBit (13 - u)
    rw [bit_mod (by omega)]
theorem any_iff (F : Bdd.Fn) (a : Nat) : ∀ (n : Nat) (x : Asg), anyF F a n x = true ↔ ∃ y : Asg, (∀ u, (u < a ∨ a + n ≤ u) → y u = x u) ∧ F y = true
  | 0, x => ⟨fun h => ⟨x, fun _ _ => rfl, h⟩, fun ⟨y, h1, h2⟩ => by
      have : y = x := funext fun u => h1 u (by omega)
      rw [← this]; exact h2⟩
  | n + 1, x => by
    show existsF (anyF F a n) (a + n) x = true ↔ _
    rw [existsF_at, Bool.or_eq_true, any_iff F a n, any_iff F a n]
    constructor
    · rintro (⟨y, h1, h2⟩ | ⟨y, h1, h2⟩)
      all_goals
        refine ⟨y, fun u hu => ?_, h2⟩
        rw [h1 u (by omega), upd_other _ _ (by omega)]
    · rintro ⟨y, h1, h2⟩
      have hy : ∀ b, y (a + n) = b → ∃ y', (∀ u, (u < a ∨ a + n ≤ u) → y' u = upd x (a + n) b u) ∧ F y' = true := fun b hb => ⟨y, fun u hu => by
        by_cases e : u = a + n
        · rw [e, upd_same]; exact hb
        · rw [upd_other _ _ e]; exact h1 u (by omega), h2⟩
      cases hb : y (a + n)
      · exact .inl (hy _ hb)
      · exact .inr (hy _ hb)
theorem any_gen {F : Bdd.Fn} (hF : Bdd.Below 14 F) {a n : Nat} (ha : a + n ≤ 14) {x : Asg} {z : Nat → Asg} (h1 : ∀ v, v < 2 ^ n → ∀ u, u < 14 → (u < a ∨ a + n ≤ u) → z v u = x u) (h2 : ∀ v, v < 2 ^ n → ∀ i, i < n → z v (a + i) = v.testBit (n - 1 - i)) :
    anyF F a n x = true ↔ ∃ v, v < 2 ^ n ∧ F (z v) = true := by
  rw [any_iff]
  constructor
  · rintro ⟨y, h3, h4⟩
    refine ⟨codeN (fun i => y (a + i)) n, codeN_lt _ _, ?_⟩
    rw [← h4]
    refine hF _ _ fun u hu => ?_
    by_cases e : a ≤ u ∧ u < a + n
    · obtain ⟨i, rfl⟩ : ∃ i, u = a + i := ⟨u - a, by omega⟩
      rw [h2 _ (codeN_lt _ _) i (by omega), codeN_bit _ n i (by omega)]
    · rw [h1 _ (codeN_lt _ _) u hu (by omega), h3 u (by omega)]
  · rintro ⟨v, hv, h4⟩
    refine ⟨fun u => if a ≤ u ∧ u < a + n then z v u else x u, fun u hu => ?_, ?_⟩
    · exact if_neg (by omega)
    · rw [← h4]
      refine hF _ _ fun u hu => ?_
      by_cases e : a ≤ u ∧ u < a + n
      · exact if_pos e
      · exact (if_neg e).trans (h1 v hv u hu (by omega)).symm
theorem any_src {F : Bdd.Fn} (hF : Bdd.Below 14 F) {a b s d : Nat} (h : Fld a b s d) : anyF F 0 4 (asgOf (code4 a b s d)) = true ↔ ∃ v, v < 16 ∧ F (asgOf (code4 v b s d)) = true :=
  any_gen hF (n := 4) (by omega) (z := fun v => asgOf (code4 v b s d)) (fun v hv u hu ho => by
    rw [asg_at ⟨hv, h.b, h.s, h.d⟩ u hu, asg_at h u hu, if_neg (show ¬ u < 4 by omega), if_neg (show ¬ u < 4 by omega)]) (fun v hv i hi => by
    rw [asg_at ⟨hv, h.b, h.s, h.d⟩ _ (by omega), if_pos (by omega)]; congr 1; omega)
theorem any_dst {F : Bdd.Fn} (hF : Bdd.Below 14 F) {a b s d : Nat} (h : Fld a b s d) : anyF F 4 4 (asgOf (code4 a b s d)) = true ↔ ∃ v, v < 16 ∧ F (asgOf (code4 a v s d)) = true :=
  any_gen hF (n := 4) (by omega) (z := fun v => asgOf (code4 a v s d)) (fun v hv u hu ho => by
    rw [asg_at ⟨h.a, hv, h.s, h.d⟩ u hu, asg_at h u hu]
    by_cases e : u < 4
    · rw [if_pos e, if_pos e]
    · rw [if_neg e, if_neg e, if_neg (show ¬ u < 8 by omega), if_neg (show ¬ u < 8 by omega)]) (fun v hv i hi => by
    rw [asg_at ⟨h.a, hv, h.s, h.d⟩ _ (by omega), if_neg (by omega), if_pos (by omega)]; congr 1; omega)
theorem any_spt {F : Bdd.Fn} (hF : Bdd.Below 14 F) {a b s d : Nat} (h : Fld a b s d) : anyF F 8 3 (asgOf (code4 a b s d)) = true ↔ ∃ v, v < 8 ∧ F (asgOf (code4 a b v d)) = true :=
  any_gen hF (n := 3) (by omega) (z := fun v => asgOf (code4 a b v d)) (fun v hv u hu ho => by
    rw [asg_at ⟨h.a, h.b, hv, h.d⟩ u hu, asg_at h u hu]
    by_cases e : u < 4
    · rw [if_pos e, if_pos e]
    by_cases e2 : u < 8
    · rw [if_neg e, if_neg e, if_pos e2, if_pos e2]
    · rw [if_neg e, if_neg e, if_neg e2, if_neg e2, if_neg (show ¬ u < 11 by omega), if_neg (show ¬ u < 11 by omega)]) (fun v hv i hi => by
    rw [asg_at ⟨h.a, h.b, hv, h.d⟩ _ (by omega), if_neg (by omega), if_neg (by omega), if_pos (by omega)]; congr 1; omega)
theorem any_dpt {F : Bdd.Fn} (hF : Bdd.Below 14 F) {a b s d : Nat} (h : Fld a b s d) : anyF F 11 3 (asgOf (code4 a b s d)) = true ↔ ∃ v, v < 8 ∧ F (asgOf (code4 a b s v)) = true :=
  any_gen hF (n := 3) (by omega) (z := fun v => asgOf (code4 a b s v)) (fun v hv u hu ho => by
    rw [asg_at ⟨h.a, h.b, h.s, hv⟩ u hu, asg_at h u hu]
    by_cases e : u < 4
    · rw [if_pos e, if_pos e]
    by_cases e2 : u < 8
    · rw [if_neg e, if_neg e, if_pos e2, if_pos e2]
    · rw [if_neg e, if_neg e, if_neg e2, if_neg e2, if_pos (show u < 11 by omega), if_pos (show u < 11 by omega)]) (fun v hv i hi => by
    rw [asg_at ⟨h.a, h.b, h.s, hv⟩ _ (by omega), if_neg (by omega), if_neg (by omega), if_neg (by omega)]; congr 1; omega)
theorem flip_at {F : Bdd.Fn} (hF : Bdd.Below 14 F) {a b s d : Nat} (h : Fld a b s d) : flipF F (asgOf (code4 a b s d)) = F (asgOf (code4 b a d s)) := by
  show F _ = _
  refine hF _ _ fun u hu => ?_
  rw [asg_at ⟨h.b, h.a, h.d, h.s⟩ u hu]
  have hx : ∀ v, v < 14 → asgOf (code4 a b s d) v = _ := fun v hv => asg_at h v hv
  rcases (by omega : u = 0 ∨ u = 1 ∨ u = 2 ∨ u = 3 ∨ u = 4 ∨ u = 5 ∨ u = 6 ∨ u = 7 ∨ u = 8 ∨ u = 9 ∨ u = 10 ∨ u = 11 ∨ u = 12 ∨ u = 13) with rfl | rfl | rfl | rfl | rfl | rfl | rfl | rfl | rfl | rfl | rfl | rfl | rfl | rfl <;> simp [upd, hx]
theorem b14_and {F G : Bdd.Fn} (hF : Bdd.Below 14 F) (hG : Bdd.Below 14 G) : Bdd.Below 14 (andF F G) := iteF_below hF hG (Bdd.Below.const _ _)
theorem b14_or {F G : Bdd.Fn} (hF : Bdd.Below 14 F) (hG : Bdd.Below 14 G) : Bdd.Below 14 (orF F G) := iteF_below hF (Bdd.Below.const _ _) hG
theorem b14_not {F : Bdd.Fn} (hF : Bdd.Below 14 F) : Bdd.Below 14 (notF F) := iteF_below hF (Bdd.Below.const _ _) (Bdd.Below.const _ _)
theorem b14_outs (s d p q : Nat) : Bdd.Below 14 (outs (partL s d p q)) := (outs_below s d p q).2.2.2
theorem b14_any {F : Bdd.Fn} (hF : Bdd.Below 14 F) (a : Nat) : ∀ n, Bdd.Below 14 (anyF F a n)
  | 0 => hF
  | n + 1 => fun x y h => by
    show existsF (anyF F a n) (a + n) x = existsF (anyF F a n) (a + n) y
    rw [existsF_at, existsF_at]
    have h2 : ∀ b, anyF F a n (upd x (a + n) b) = anyF F a n (upd y (a + n) b) := fun b => b14_any hF a n _ _ fun u hu => by
      by_cases e : u = a + n
      · rw [e, upd_same, upd_same]
      · rw [upd_other _ _ e, upd_other _ _ e]; exact h u hu
    rw [h2, h2]
theorem b14_swap {F : Bdd.Fn} (hF : Bdd.Below 14 F) {i j : Nat} (hi : i < 14) (hj : j < 14) : Bdd.Below 14 (swapF F i j) := fun x y h => by
  unfold swapF
  refine hF _ _ fun u hu => ?_
  rw [h i hi, h j hj]
  by_cases e : u = i
  · rw [e, upd_same, upd_same]
  · rw [upd_other _ _ e, upd_other _ _ e]
    by_cases e2 : u = j
    · rw [e2, upd_same, upd_same]
    · rw [upd_other _ _ e2, upd_other _ _ e2]; exact h u hu
theorem b14_flip4 {F : Bdd.Fn} (hF : Bdd.Below 14 F) : ∀ n, n ≤ 4 → Bdd.Below 14 (flip4 F n)
  | 0, _ => hF
  | n + 1, h => b14_swap (i := n) (j := n + 4) (b14_flip4 hF n (by omega)) (by omega) (by omega)
theorem b14_flip3 {F : Bdd.Fn} (hF : Bdd.Below 14 F) : ∀ n, n ≤ 3 → Bdd.Below 14 (flip3 F n)
  | 0, _ => hF
  | n + 1, h => b14_swap (i := n + 8) (j := n + 11) (b14_flip3 hF n (by omega)) (by omega) (by omega)
theorem b14_flip {F : Bdd.Fn} (hF : Bdd.Below 14 F) : Bdd.Below 14 (flipF F) := b14_flip3 (b14_flip4 hF 4 (by omega)) 3 (by omega)
theorem b14_acl : ∀ l, Bdd.Below 14 (aclF l)
  | [] => Bdd.Below.const _ _
  | r :: l => iteF_below (b14_outs _ _ _ _) (Bdd.Below.const _ _) (b14_acl l)
def S14 (S : Pl → Bdd.Fn) : Prop := ∀ x, Bdd.Below 14 (S x)
theorem S14.send {S : Pl → Bdd.Fn} (h : S14 S) (ls : List LinkV) (y : Pl) {F : Bdd.Fn} (hF : Bdd.Below 14 F) : S14 (sendS ls y F S) := fun x => by
  unfold sendS
  cases peerF ls y with
  | none => exact h x
  | some z =>
    show Bdd.Below 14 (if z = x then orF (S z) F else S x)
    split
    · exact b14_or (h z) hF
    · exact h x
theorem S14.dev {Sw S : Pl → Bdd.Fn} (hw : S14 Sw) (h : S14 S) (ls : List LinkV) (i : Nat) (d : Dev) : S14 (devS ls i d Sw S) := by
  unfold devS
  split
  · unfold routerS
    have hr : ∀ k o, S14 (rtIn ls i d.routes d.rules Sw S k) → S14 (rtOut ls i d.routes (andF (Sw ((i : Int), (k : Int))) (aclF d.rules)) (rtIn ls i d.routes d.rules Sw S k) o) := fun k o hk => by
      induction o with
      | zero => exact hk
      | succ o ih => exact ih.send _ _ (b14_and (b14_and (hw _) (b14_acl _)) (b14_outs _ _ _ _))
    have hi : ∀ k, S14 (rtIn ls i d.routes d.rules Sw S k) := fun k => by
      induction k with
      | zero => exact h
      | succ k ih => exact hr k 4 ih
    exact hi 4
  split
  · unfold fireS
    have h1 := b14_and (hw ((i : Int), 0)) (b14_acl d.rules)
    split
    · exact (h.send _ _ h1).send _ _ (b14_and (hw _) (b14_flip h1))
    · exact h.send _ _ h1
  split
  · unfold natS
    have h1 : Bdd.Below 14 (andF (natF i Sw) (matchF (natO d.addr.toNat d.pool))) := b14_and (b14_any (b14_any (hw _) _ _) _ _) (b14_outs _ _ _ _)
    split
    · exact (h.send _ _ h1).send _ _ (b14_and (b14_any (b14_any (b14_and (hw _) (b14_outs _ _ _ _)) _ _) _ _) (b14_flip (b14_any (b14_any (hw _) _ _) _ _)))
    · exact h.send _ _ h1
  split
  · unfold balS balTo
    have hq : Bdd.Below 14 (balQ i d.addr.toNat Sw) := b14_and (hw _) (b14_outs _ _ _ _)
    have ht : ∀ b, Bdd.Below 14 (toF (balQ i d.addr.toNat Sw) b) := fun b => b14_and (b14_any hq _ _) (b14_outs _ _ _ _)
    have h0 : S14 (bal0 ls i d.addr.toNat Sw S) := (h.send _ _ (b14_and (hw _) (b14_not (b14_outs _ _ _ _)))).send _ _ (hw _)
    have hs : ∀ b T, S14 T → S14 (balStep ls i d.addr.toNat Sw b T) := fun b T hT => by
      unfold balStep
      split
      · exact (hT.send _ _ (ht b)).send _ _ (b14_and (b14_any (b14_and (hw _) (b14_flip (ht b))) _ _) (b14_outs _ _ _ _))
      · exact hT.send _ _ (ht b)
    generalize List.take _ d.backs = l
    generalize bal0 ls i d.addr.toNat Sw S = T at h0
    induction l generalizing T with
    | nil => exact h0
    | cons b l ih => exact ih _ (hs _ _ h0)
  · exact h
end Go.Proofs.YtifkacnoiocebaaGreat
