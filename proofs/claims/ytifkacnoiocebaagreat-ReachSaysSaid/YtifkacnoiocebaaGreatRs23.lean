/- A part of the proof: Pm2, Rd11, Rd12. -/
import Derived.Test.YtifkacnoiocebaaGreatRs22
set_option linter.unusedVariables false
set_option linter.unusedSimpArgs false
set_option maxRecDepth 100000
set_option maxHeartbeats 4000000
namespace Go.Proofs.YtifkacnoiocebaaGreat
open Bdd Go.Maps Go.RowKit
theorem b14_match (m : M4) : Bdd.Below 14 (matchF m) := b14_outs _ _ _ _
theorem ones16 {a : Nat} (h : a < 16) : Nat.testBit 65535 a = true := by
  have : ∀ i : Fin 16, Nat.testBit 65535 i.val = true := by decide +kernel
  exact this ⟨a, h⟩
theorem ones8 {a : Nat} (h : a < 8) : Nat.testBit 255 a = true := by
  have : ∀ i : Fin 8, Nat.testBit 255 i.val = true := by decide +kernel
  exact this ⟨a, h⟩
theorem match_at (m : M4) {a b s t : Nat} (h : Fld a b s t) : matchF m (asgOf (code4 a b s t)) = (m.src.testBit a && m.dst.testBit b && m.sport.testBit s && m.dport.testBit t) := by
  unfold matchF
  rw [outs_has _ _ _ _ _ h.lt]
  obtain ⟨e1, e2, e3, e4⟩ := h.parts
  rw [e1, e2, e3, e4]
  rfl
theorem pow_bit (A a : Nat) : (2 ^ A).testBit a = decide (A = a) := Nat.testBit_two_pow
theorem m_dst {A a b s t : Nat} (h : Fld a b s t) : matchF (dstM A) (asgOf (code4 a b s t)) = decide (A = b) := by
  rw [match_at _ h]
  show (Nat.testBit 65535 a && (2 ^ A).testBit b && Nat.testBit 255 s && Nat.testBit 255 t) = _
  rw [ones16 h.a, ones8 h.s, ones8 h.d, pow_bit]
  simp
theorem m_src {A a b s t : Nat} (h : Fld a b s t) : matchF (srcM A) (asgOf (code4 a b s t)) = decide (A = a) := by
  rw [match_at _ h]
  show ((2 ^ A).testBit a && Nat.testBit 65535 b && Nat.testBit 255 s && Nat.testBit 255 t) = _
  rw [ones16 h.b, ones8 h.s, ones8 h.d, pow_bit]
  simp
theorem m_natO {A pl a b s t : Nat} (h : Fld a b s t) : matchF (natO A pl) (asgOf (code4 a b s t)) = (decide (A = a) && pl.testBit s) := by
  rw [match_at _ h]
  show ((2 ^ A).testBit a && Nat.testBit 65535 b && pl.testBit s && Nat.testBit 255 t) = _
  rw [ones16 h.b, ones8 h.d, pow_bit]
  simp
theorem m_natI {A pl a b s t : Nat} (h : Fld a b s t) : matchF (natI A pl) (asgOf (code4 a b s t)) = (decide (A = b) && pl.testBit t) := by
  rw [match_at _ h]
  show (Nat.testBit 65535 a && (2 ^ A).testBit b && Nat.testBit 255 s && pl.testBit t) = _
  rw [ones16 h.a, ones8 h.s, pow_bit]
  simp
theorem send_at (ls : List LinkV) (y : Pl) (F : Bdd.Fn) (S : Pl → Bdd.Fn) (x : Pl) (c : Asg) : sendS ls y F S x c = true ↔ S x c = true ∨ (peerF ls y = some x ∧ F c = true) := by
  unfold sendS
  cases e : peerF ls y with
  | none => simp
  | some z =>
    show (if z = x then orF (S z) F else S x) c = true ↔ _
    by_cases h : z = x
    · subst h
      rw [if_pos rfl, orF_at, Bool.or_eq_true]
      simp
    · rw [if_neg h]
      simp [h]
def TellR (d : Dev) (W : Nat → Nat → Bool) (o a b s t : Nat) : Prop := o < 4 ∧ (∃ k, k < 4 ∧ W k (code4 a b s t) = true) ∧ dstB d.routes (o : Int) b = true ∧ letsB d.rules (pk (code4 a b s t)) = true
def TellF (d : Dev) (opn : Bool) (W : Nat → Nat → Bool) (o a b s t : Nat) : Prop :=
  (o = 1 ∧ W 0 (code4 a b s t) = true ∧ letsB d.rules (pk (code4 a b s t)) = true) ∨ (opn = true ∧ o = 0 ∧ W 1 (code4 a b s t) = true ∧ W 0 (code4 b a t s) = true ∧ letsB d.rules (pk (code4 b a t s)) = true)
def TellN (d : Dev) (opn : Bool) (W : Nat → Nat → Bool) (o a b s t : Nat) : Prop :=
  (o = 1 ∧ (∃ y, y < 8 ∧ ∃ x, x < 16 ∧ W 0 (code4 x b y t) = true) ∧ d.addr.toNat = a ∧ d.pool.testBit s = true) ∨
  (opn = true ∧ o = 0 ∧ (∃ y, y < 8 ∧ ∃ x, x < 16 ∧ W 1 (code4 a x s y) = true ∧ d.addr.toNat = x ∧ d.pool.testBit y = true) ∧ ∃ y, y < 8 ∧ ∃ x, x < 16 ∧ W 0 (code4 b x t y) = true)
def TellB (d : Dev) (opn : Bool) (W : Nat → Nat → Bool) (o a b s t : Nat) : Prop :=
  (o = 1 ∧ W 0 (code4 a b s t) = true ∧ d.addr.toNat ≠ b) ∨ (o = 0 ∧ W 1 (code4 a b s t) = true) ∨
  ∃ x ∈ d.backs, (o = 1 ∧ W 0 (code4 a d.addr.toNat s t) = true ∧ x.toNat = b) ∨ (opn = true ∧ o = 0 ∧ W 1 (code4 x.toNat b s t) = true ∧ W 0 (code4 b d.addr.toNat t s) = true ∧ d.addr.toNat = a)
variable {ls : List LinkV} {i : Nat} {d : Dev} {Sw Sn : Pl → Bdd.Fn} {a b s t : Nat} {x : Pl}
theorem fire_tells (hw : S14 Sw) (hr : ∀ r ∈ d.rules, r.ok) (h : Fld a b s t) :
    fireS ls i d.rules Sw Sn x (asgOf (code4 a b s t)) = true ↔ Sn x (asgOf (code4 a b s t)) = true ∨ ∃ o : Nat, peerF ls ((i : Int), (o : Int)) = some x ∧ TellF d (peerF ls ((i : Int), 1)).isSome (fun k c => Sw ((i : Int), (k : Int)) (asgOf c)) o a b s t := by
  have h2 : Fld b a t s := ⟨h.b, h.a, h.d, h.s⟩
  have e1 : andF (Sw ((i : Int), 0)) (aclF d.rules) (asgOf (code4 a b s t)) = true ↔ Sw ((i : Int), 0) (asgOf (code4 a b s t)) = true ∧ letsB d.rules (pk (code4 a b s t)) = true := by
    rw [andF_at, aclF_lets _ hr _ h.lt, Bool.and_eq_true]
  have e2 : andF (Sw ((i : Int), 1)) (flipF (andF (Sw ((i : Int), 0)) (aclF d.rules))) (asgOf (code4 a b s t)) = true ↔ Sw ((i : Int), 1) (asgOf (code4 a b s t)) = true ∧ Sw ((i : Int), 0) (asgOf (code4 b a t s)) = true ∧ letsB d.rules (pk (code4 b a t s)) = true := by
    rw [andF_at, flip_at (b14_and (hw _) (b14_acl _)) h, andF_at, aclF_lets _ hr _ h2.lt, Bool.and_eq_true, Bool.and_eq_true]
  unfold fireS
  cases ho : (peerF ls ((i : Int), 1)).isSome
  · rw [if_neg (by simp), send_at, e1]
    constructor
    · rintro (q | ⟨q1, q2, q3⟩)
      · exact .inl q
      · exact .inr ⟨1, q1, .inl ⟨rfl, q2, q3⟩⟩
    · rintro (q | ⟨o, q1, ⟨rfl, q2, q3⟩ | ⟨q, _⟩⟩)
      · exact .inl q
      · exact .inr ⟨q1, q2, q3⟩
      · cases q
  · rw [if_pos rfl, send_at, send_at, e1, e2]
    constructor
    · rintro ((q | ⟨q1, q2, q3⟩) | ⟨q1, q2, q3, q4⟩)
      · exact .inl q
      · exact .inr ⟨1, q1, .inl ⟨rfl, q2, q3⟩⟩
      · exact .inr ⟨0, q1, .inr ⟨rfl, rfl, q2, q3, q4⟩⟩
    · rintro (q | ⟨o, q1, ⟨rfl, q2, q3⟩ | ⟨_, rfl, q2, q3, q4⟩⟩)
      · exact .inl (.inl q)
      · exact .inl (.inr ⟨q1, q2, q3⟩)
      · exact .inr ⟨q1, q2, q3, q4⟩
theorem nat_tells (hw : S14 Sw) (h : Fld a b s t) :
    natS ls i d.addr.toNat d.pool Sw Sn x (asgOf (code4 a b s t)) = true ↔ Sn x (asgOf (code4 a b s t)) = true ∨ ∃ o : Nat, peerF ls ((i : Int), (o : Int)) = some x ∧ TellN d (peerF ls ((i : Int), 1)).isSome (fun k c => Sw ((i : Int), (k : Int)) (asgOf c)) o a b s t := by
  have h2 : Fld b a t s := ⟨h.b, h.a, h.d, h.s⟩
  have e1 : andF (natF i Sw) (matchF (natO d.addr.toNat d.pool)) (asgOf (code4 a b s t)) = true ↔ (∃ y, y < 8 ∧ ∃ x, x < 16 ∧ Sw ((i : Int), 0) (asgOf (code4 x b y t)) = true) ∧ d.addr.toNat = a ∧ d.pool.testBit s = true := by
    rw [andF_at, m_natO h, Bool.and_eq_true, Bool.and_eq_true, decide_eq_true_eq]
    unfold natF
    rw [any_spt (b14_any (hw _) _ _) h]
    exact and_congr ⟨fun ⟨y, q1, q2⟩ => ⟨y, q1, (any_src (hw _) ⟨h.a, h.b, q1, h.d⟩).1 q2⟩, fun ⟨y, q1, q2⟩ => ⟨y, q1, (any_src (hw _) ⟨h.a, h.b, q1, h.d⟩).2 q2⟩⟩ Iff.rfl
  have e2 : andF (natB i d.addr.toNat d.pool Sw) (natW i Sw) (asgOf (code4 a b s t)) = true ↔ (∃ y, y < 8 ∧ ∃ x, x < 16 ∧ Sw ((i : Int), 1) (asgOf (code4 a x s y)) = true ∧ d.addr.toNat = x ∧ d.pool.testBit y = true) ∧ ∃ y, y < 8 ∧ ∃ x, x < 16 ∧ Sw ((i : Int), 0) (asgOf (code4 b x t y)) = true := by
    rw [andF_at, Bool.and_eq_true]
    unfold natB natW
    rw [flip_at (b14_any (b14_any (hw _) _ _) _ _) h, any_dpt (b14_any (hw _) _ _) h2, any_dpt (b14_any (b14_and (hw _) (b14_match _)) _ _) h]
    refine and_congr ?_ ?_
    · constructor
      · rintro ⟨y, q1, q2⟩
        obtain ⟨v, q3, q4⟩ := (any_dst (b14_and (hw _) (b14_match _)) ⟨h.a, h.b, h.s, q1⟩).1 q2
        rw [andF_at, m_natI ⟨h.a, q3, h.s, q1⟩, Bool.and_eq_true, Bool.and_eq_true, decide_eq_true_eq] at q4
        exact ⟨y, q1, v, q3, q4⟩
      · rintro ⟨y, q1, v, q3, q4⟩
        refine ⟨y, q1, (any_dst (b14_and (hw _) (b14_match _)) ⟨h.a, h.b, h.s, q1⟩).2 ⟨v, q3, ?_⟩⟩
        rw [andF_at, m_natI ⟨h.a, q3, h.s, q1⟩, Bool.and_eq_true, Bool.and_eq_true, decide_eq_true_eq]
        exact q4
    · exact ⟨fun ⟨y, q1, q2⟩ => ⟨y, q1, (any_dst (hw _) ⟨h.b, h.a, h.d, q1⟩).1 q2⟩, fun ⟨y, q1, q2⟩ => ⟨y, q1, (any_dst (hw _) ⟨h.b, h.a, h.d, q1⟩).2 q2⟩⟩
  unfold natS
  cases ho : (peerF ls ((i : Int), 1)).isSome
  · rw [if_neg (by simp), send_at, e1]
    constructor
    · rintro (q | ⟨q1, q2⟩)
      · exact .inl q
      · exact .inr ⟨1, q1, .inl ⟨rfl, q2⟩⟩
    · rintro (q | ⟨o, q1, ⟨rfl, q2⟩ | ⟨q, _⟩⟩)
      · exact .inl q
      · exact .inr ⟨q1, q2⟩
      · cases q
  · rw [if_pos rfl, send_at, send_at, e1, e2]
    constructor
    · rintro ((q | ⟨q1, q2⟩) | ⟨q1, q2⟩)
      · exact .inl q
      · exact .inr ⟨1, q1, .inl ⟨rfl, q2⟩⟩
      · exact .inr ⟨0, q1, .inr ⟨rfl, rfl, q2⟩⟩
    · rintro (q | ⟨o, q1, ⟨rfl, q2⟩ | ⟨_, rfl, q2⟩⟩)
      · exact .inl (.inl q)
      · exact .inl (.inr ⟨q1, q2⟩)
      · exact .inr ⟨q1, q2⟩
theorem router_tells (hw : S14 Sw) (hr : ∀ r ∈ d.rules, r.ok) (h : Fld a b s t) :
    routerS ls i d.routes d.rules Sw Sn x (asgOf (code4 a b s t)) = true ↔ Sn x (asgOf (code4 a b s t)) = true ∨ ∃ o : Nat, peerF ls ((i : Int), (o : Int)) = some x ∧ TellR d (fun k c => Sw ((i : Int), (k : Int)) (asgOf c)) o a b s t := by
  have ho : ∀ (F : Bdd.Fn) (S : Pl → Bdd.Fn) (n : Nat), rtOut ls i d.routes F S n x (asgOf (code4 a b s t)) = true ↔ S x (asgOf (code4 a b s t)) = true ∨ ∃ o : Nat, o < n ∧ peerF ls ((i : Int), (o : Int)) = some x ∧ F (asgOf (code4 a b s t)) = true ∧ dstB d.routes (o : Int) b = true := fun F S n => by
    induction n with
    | zero => exact ⟨.inl, fun q => q.elim id (fun ⟨o, q, _⟩ => absurd q (by omega))⟩
    | succ n ih =>
      have e : rtP d.routes (n : Int) (asgOf (code4 a b s t)) = dstB d.routes (n : Int) b := by
        unfold rtP
        rw [dst_has _ _ _ h.lt, h.parts.2.1]
      show sendS ls ((i : Int), (n : Int)) (andF F (rtP d.routes (n : Int))) (rtOut ls i d.routes F S n) x _ = true ↔ _
      rw [send_at, ih, andF_at, e, Bool.and_eq_true]
      constructor
      · rintro ((q | ⟨o, q1, q2⟩) | ⟨q1, q2⟩)
        · exact .inl q
        · exact .inr ⟨o, by omega, q2⟩
        · exact .inr ⟨n, by omega, q1, q2⟩
      · rintro (q | ⟨o, q1, q2⟩)
        · exact .inl (.inl q)
        · rcases Nat.lt_or_ge o n with hl | hl
          · exact .inl (.inr ⟨o, hl, q2⟩)
          · obtain rfl : o = n := by omega
            exact .inr q2
  have hi : ∀ n, rtIn ls i d.routes d.rules Sw Sn n x (asgOf (code4 a b s t)) = true ↔ Sn x (asgOf (code4 a b s t)) = true ∨ ∃ k : Nat, k < n ∧ ∃ o : Nat, o < 4 ∧ peerF ls ((i : Int), (o : Int)) = some x ∧ (Sw ((i : Int), (k : Int)) (asgOf (code4 a b s t)) = true ∧ letsB d.rules (pk (code4 a b s t)) = true) ∧ dstB d.routes (o : Int) b = true := fun n => by
    induction n with
    | zero => exact ⟨.inl, fun q => q.elim id (fun ⟨o, q, _⟩ => absurd q (by omega))⟩
    | succ n ih =>
      show rtOut ls i d.routes (andF (Sw ((i : Int), (n : Int))) (aclF d.rules)) (rtIn ls i d.routes d.rules Sw Sn n) 4 x _ = true ↔ _
      rw [ho, ih]
      simp only [andF_at, aclF_lets _ hr _ h.lt, Bool.and_eq_true]
      constructor
      · rintro ((q | ⟨k, q1, q2⟩) | q2)
        · exact .inl q
        · exact .inr ⟨k, by omega, q2⟩
        · exact .inr ⟨n, by omega, q2⟩
      · rintro (q | ⟨k, q1, q2⟩)
        · exact .inl (.inl q)
        · rcases Nat.lt_or_ge k n with hl | hl
          · exact .inl (.inr ⟨k, hl, q2⟩)
          · obtain rfl : k = n := by omega
            exact .inr q2
  refine (hi 4).trans (or_congr Iff.rfl ?_)
  constructor
  · rintro ⟨k, hk, o, ho, q1, ⟨q2, q3⟩, q4⟩
    exact ⟨o, q1, ho, ⟨k, hk, q2⟩, q4, q3⟩
  · rintro ⟨o, q1, ho, ⟨k, hk, q2⟩, q4, q3⟩
    exact ⟨k, hk, o, ho, q1, ⟨q2, q3⟩, q4⟩
theorem to_at (hw : S14 Sw) (A x : Nat) (hA : A < 16) (h : Fld a b s t) : toF (balQ i A Sw) x (asgOf (code4 a b s t)) = true ↔ Sw ((i : Int), 0) (asgOf (code4 a A s t)) = true ∧ x = b := by
  unfold toF balQ
  rw [andF_at, m_dst h, Bool.and_eq_true, decide_eq_true_eq, any_dst (b14_and (hw _) (b14_match _)) h]
  refine and_congr ?_ Iff.rfl
  constructor
  · rintro ⟨v, hv, q⟩
    rw [andF_at, m_dst ⟨h.a, hv, h.s, h.d⟩, Bool.and_eq_true, decide_eq_true_eq] at q
    rw [q.2]; exact q.1
  · intro q
    refine ⟨A, hA, ?_⟩
    rw [andF_at, m_dst ⟨h.a, hA, h.s, h.d⟩, Bool.and_eq_true, decide_eq_true_eq]
    exact ⟨q, rfl⟩
theorem from_at (hw : S14 Sw) (A x : Nat) (hA : A < 16) (hx : x < 16) (h : Fld a b s t) : fromF (balX i A x Sw) A (asgOf (code4 a b s t)) = true ↔ (Sw ((i : Int), 1) (asgOf (code4 x b s t)) = true ∧ Sw ((i : Int), 0) (asgOf (code4 b A t s)) = true) ∧ A = a := by
  have ht : Bdd.Below 14 (toF (balQ i A Sw) x) := b14_and (b14_any (b14_and (hw _) (b14_match _)) _ _) (b14_match _)
  unfold fromF balX
  rw [andF_at, m_src h, Bool.and_eq_true, decide_eq_true_eq, any_src (b14_and (hw _) (b14_flip ht)) h]
  refine and_congr ?_ Iff.rfl
  have e : ∀ v, v < 16 → (andF (Sw ((i : Int), 1)) (flipF (toF (balQ i A Sw) x)) (asgOf (code4 v b s t)) = true ↔ Sw ((i : Int), 1) (asgOf (code4 v b s t)) = true ∧ Sw ((i : Int), 0) (asgOf (code4 b A t s)) = true ∧ x = v) := fun v hv => by
    rw [andF_at, flip_at ht ⟨hv, h.b, h.s, h.d⟩, Bool.and_eq_true, to_at hw A x hA ⟨h.b, hv, h.d, h.s⟩]
  constructor
  · rintro ⟨v, hv, q⟩
    obtain ⟨q1, q2, rfl⟩ := (e v hv).1 q
    exact ⟨q1, q2⟩
  · rintro ⟨q1, q2⟩
    exact ⟨x, hx, (e x hx).2 ⟨q1, q2, rfl⟩⟩
theorem bal_tells (hw : S14 Sw) (hA : d.addr.toNat < 16) (hB : ∀ x ∈ d.backs, x.toNat < 16) (h : Fld a b s t) :
    balS ls i d.addr.toNat d.backs Sw Sn x (asgOf (code4 a b s t)) = true ↔ Sn x (asgOf (code4 a b s t)) = true ∨ ∃ o : Nat, peerF ls ((i : Int), (o : Int)) = some x ∧ TellB d (peerF ls ((i : Int), 1)).isSome (fun k c => Sw ((i : Int), (k : Int)) (asgOf c)) o a b s t := by
  have h0 : bal0 ls i d.addr.toNat Sw Sn x (asgOf (code4 a b s t)) = true ↔ Sn x (asgOf (code4 a b s t)) = true ∨ ∃ o : Nat, peerF ls ((i : Int), (o : Int)) = some x ∧ ((o = 1 ∧ Sw ((i : Int), 0) (asgOf (code4 a b s t)) = true ∧ d.addr.toNat ≠ b) ∨ (o = 0 ∧ Sw ((i : Int), 1) (asgOf (code4 a b s t)) = true)) := by
    unfold bal0
    rw [send_at, send_at, andF_at, Bool.and_eq_true]
    have e : notF (matchF (dstM d.addr.toNat)) (asgOf (code4 a b s t)) = true ↔ d.addr.toNat ≠ b := by
      unfold notF iteF
      rw [m_dst h]
      by_cases e : d.addr.toNat = b <;> simp [e]
    rw [e]
    constructor
    · rintro ((q | ⟨q1, q2⟩) | ⟨q1, q2⟩)
      · exact .inl q
      · exact .inr ⟨1, q1, .inl ⟨rfl, q2⟩⟩
      · exact .inr ⟨0, q1, .inr ⟨rfl, q2⟩⟩
    · rintro (q | ⟨o, q1, ⟨rfl, q2⟩ | ⟨rfl, q2⟩⟩)
      · exact .inl (.inl q)
      · exact .inl (.inr ⟨q1, q2⟩)
      · exact .inr ⟨q1, q2⟩
  have hs : ∀ (z : Int) (S : Pl → Bdd.Fn), z.toNat < 16 → (balStep ls i d.addr.toNat Sw z.toNat S x (asgOf (code4 a b s t)) = true ↔ S x (asgOf (code4 a b s t)) = true ∨ ∃ o : Nat, peerF ls ((i : Int), (o : Int)) = some x ∧
      ((o = 1 ∧ Sw ((i : Int), 0) (asgOf (code4 a d.addr.toNat s t)) = true ∧ z.toNat = b) ∨ ((peerF ls ((i : Int), 1)).isSome = true ∧ o = 0 ∧ Sw ((i : Int), 1) (asgOf (code4 z.toNat b s t)) = true ∧ Sw ((i : Int), 0) (asgOf (code4 b d.addr.toNat t s)) = true ∧ d.addr.toNat = a))) := fun z S hz => by
    unfold balStep
    cases ho : (peerF ls ((i : Int), 1)).isSome
    · rw [if_neg (by simp), send_at, to_at hw _ _ hA h]
      constructor
      · rintro (q | ⟨q1, q2⟩)
        · exact .inl q
        · exact .inr ⟨1, q1, .inl ⟨rfl, q2⟩⟩
      · rintro (q | ⟨o, q1, ⟨rfl, q2⟩ | ⟨q, _⟩⟩)
        · exact .inl q
        · exact .inr ⟨q1, q2⟩
        · cases q
    · rw [if_pos rfl, send_at, send_at, to_at hw _ _ hA h, from_at hw _ _ hA hz h]
      constructor
      · rintro ((q | ⟨q1, q2⟩) | ⟨q1, ⟨q2, q3⟩, q4⟩)
        · exact .inl q
        · exact .inr ⟨1, q1, .inl ⟨rfl, q2⟩⟩
        · exact .inr ⟨0, q1, .inr ⟨rfl, rfl, q2, q3, q4⟩⟩
      · rintro (q | ⟨o, q1, ⟨rfl, q2⟩ | ⟨_, rfl, q2, q3, q4⟩⟩)
        · exact .inl (.inl q)
        · exact .inl (.inr ⟨q1, q2⟩)
        · exact .inr ⟨q1, ⟨q2, q3⟩, q4⟩
  have hf : ∀ (l : List Int) (S : Pl → Bdd.Fn), (∀ z ∈ l, z.toNat < 16) → (l.foldl (fun S z => balStep ls i d.addr.toNat Sw z.toNat S) S x (asgOf (code4 a b s t)) = true ↔ S x (asgOf (code4 a b s t)) = true ∨ ∃ z ∈ l, ∃ o : Nat, peerF ls ((i : Int), (o : Int)) = some x ∧
      ((o = 1 ∧ Sw ((i : Int), 0) (asgOf (code4 a d.addr.toNat s t)) = true ∧ z.toNat = b) ∨ ((peerF ls ((i : Int), 1)).isSome = true ∧ o = 0 ∧ Sw ((i : Int), 1) (asgOf (code4 z.toNat b s t)) = true ∧ Sw ((i : Int), 0) (asgOf (code4 b d.addr.toNat t s)) = true ∧ d.addr.toNat = a))) := fun l => by
    induction l with
    | nil => exact fun S _ => ⟨.inl, fun q => q.elim id (fun ⟨z, q, _⟩ => by cases q)⟩
    | cons z l ih =>
      intro S hl
      rw [List.foldl_cons, ih _ (fun y hy => hl y (List.mem_cons_of_mem _ hy)), hs z S (hl z List.mem_cons_self)]
      constructor
      · rintro ((q | q) | ⟨y, hy, q⟩)
        · exact .inl q
        · exact .inr ⟨z, List.mem_cons_self, q⟩
        · exact .inr ⟨y, List.mem_cons_of_mem _ hy, q⟩
      · rintro (q | ⟨y, hy, q⟩)
        · exact .inl (.inl q)
        · rcases List.mem_cons.1 hy with rfl | hy
          · exact .inl (.inr q)
          · exact .inr ⟨y, hy, q⟩
  unfold balS balTo
  rw [List.take_length, hf _ _ hB, h0]
  constructor
  · rintro ((q | ⟨o, q1, q2 | q2⟩) | ⟨z, hz, o, q1, q2⟩)
    · exact .inl q
    · exact .inr ⟨o, q1, .inl q2⟩
    · exact .inr ⟨o, q1, .inr (.inl q2)⟩
    · exact .inr ⟨o, q1, .inr (.inr ⟨z, hz, q2⟩)⟩
  · rintro (q | ⟨o, q1, q2 | q2 | ⟨z, hz, q2⟩⟩)
    · exact .inl (.inl q)
    · exact .inl (.inr ⟨o, q1, .inl q2⟩)
    · exact .inl (.inr ⟨o, q1, .inr q2⟩)
    · exact .inr ⟨z, hz, o, q1, q2⟩
def Tells (d : Dev) (opn : Bool) (W : Nat → Nat → Bool) (o a b s t : Nat) : Prop :=
  (d.kind = 2 ∧ TellR d W o a b s t) ∨ (d.kind = 3 ∧ TellF d opn W o a b s t) ∨ (d.kind = 4 ∧ TellN d opn W o a b s t) ∨ (d.kind = 5 ∧ TellB d opn W o a b s t)
theorem dev_tells (hd : DevOk d) (hr : ∀ r ∈ d.rules, r.ok) (hw : S14 Sw) (h : Fld a b s t) :
    devS ls i d Sw Sn x (asgOf (code4 a b s t)) = true ↔ Sn x (asgOf (code4 a b s t)) = true ∨ ∃ o : Nat, peerF ls ((i : Int), (o : Int)) = some x ∧ Tells d (peerF ls ((i : Int), 1)).isSome (fun k c => Sw ((i : Int), (k : Int)) (asgOf c)) o a b s t := by
  unfold devS
  by_cases k2 : d.kind = 2
  · rw [if_pos k2, router_tells hw hr h]
    simp [Tells, k2]
  rw [if_neg k2]
  by_cases k3 : d.kind = 3
  · rw [if_pos k3, fire_tells hw hr h]
    simp [Tells, k3]
  rw [if_neg k3]
  by_cases k4 : d.kind = 4
  · rw [if_pos k4, nat_tells hw h]
    simp [Tells, k4]
  rw [if_neg k4]
  by_cases k5 : d.kind = 5
  · have h1 := hd.addr16 (.inr (.inr k5))
    rw [if_pos k5, bal_tells hw (by omega) (fun z hz => by
      have h1 := hd.bb
      unfold backsB at h1
      rw [Bool.and_eq_true] at h1
      have := backsOk_lt _ _ _ h1.1 z hz
      omega) h]
    simp [Tells, k5]
  · rw [if_neg k5]
    simp [Tells, k2, k3, k4, k5]
theorem S14.zero : S14 (fun _ _ => false) := fun _ => Bdd.Below.const _ _
theorem S14.next {Sw S : Pl → Bdd.Fn} (hw : S14 Sw) (h : S14 S) (ds : List Dev) (ls : List LinkV) : ∀ k, S14 (nextTo ds ls Sw S k)
  | 0 => h
  | k + 1 => by
    simp only [nextTo]
    split
    · exact S14.dev hw (S14.next hw h ds ls k) ls k _
    · exact S14.next hw h ds ls k
theorem S14.first {S : Pl → Bdd.Fn} (h : S14 S) (ds : List Dev) (ls : List LinkV) : ∀ k, S14 (firstTo ds ls S k)
  | 0 => h
  | k + 1 => by
    simp only [firstTo]
    split
    · unfold hostS
      split
      · exact (S14.first h ds ls k).send _ _ (b14_match _)
      · exact S14.first h ds ls k
    · exact S14.first h ds ls k
theorem S14.round (ds : List Dev) (ls : List LinkV) : ∀ k, S14 (roundS ds ls k)
  | 0 => S14.first S14.zero ds ls _
  | k + 1 => S14.next (S14.round ds ls k) (S14.round ds ls k) ds ls _
theorem next_tells {ds : List Dev} (hd : ∀ d ∈ ds, DevOk d) (hr : ∀ d ∈ ds, ∀ r ∈ d.rules, r.ok) (hw : S14 Sw) (h : Fld a b s t) : ∀ k, k ≤ ds.length → (nextTo ds ls Sw Sn k x (asgOf (code4 a b s t)) = true ↔ Sn x (asgOf (code4 a b s t)) = true ∨
    ∃ (i : Nat) (d : Dev) (o : Nat), i < k ∧ ds[i]? = some d ∧ peerF ls ((i : Int), (o : Int)) = some x ∧ Tells d (peerF ls ((i : Int), 1)).isSome (fun q c => Sw ((i : Int), (q : Int)) (asgOf c)) o a b s t) := by
  intro k
  induction k with
  | zero => exact fun _ => ⟨.inl, fun q => q.elim id (fun ⟨i, d, o, q, _⟩ => absurd q (by omega))⟩
  | succ k ih =>
    intro hk
    obtain ⟨d, hdk⟩ : ∃ d, ds[k]? = some d := ⟨ds[k], List.getElem?_eq_getElem hk⟩
    have hm := List.mem_of_getElem? hdk
    rw [nextTo_succ hdk, dev_tells (hd d hm) (hr d hm) hw h, ih (by omega)]
    constructor
    · rintro ((q | ⟨i, e, o, q1, q2⟩) | ⟨o, q⟩)
      · exact .inl q
      · exact .inr ⟨i, e, o, by omega, q2⟩
      · exact .inr ⟨k, d, o, by omega, hdk, q⟩
    · rintro (q | ⟨i, e, o, q1, q2, q3⟩)
      · exact .inl (.inl q)
      · rcases Nat.lt_or_ge i k with hl | hl
        · exact .inl (.inr ⟨i, e, o, hl, q2, q3⟩)
        · obtain rfl : i = k := by omega
          obtain rfl : d = e := Option.some.inj (hdk.symm.trans q2)
          exact .inr ⟨o, q3⟩
theorem first_tells {ds : List Dev} (h : Fld a b s t) : ∀ k, k ≤ ds.length → (firstTo ds ls (fun _ _ => false) k x (asgOf (code4 a b s t)) = true ↔
    ∃ (i : Nat) (d : Dev), i < k ∧ ds[i]? = some d ∧ d.kind = 1 ∧ peerF ls ((i : Int), 0) = some x ∧ d.addr.toNat = a) := by
  intro k
  induction k with
  | zero => exact fun _ => ⟨fun q => (by cases q), fun ⟨i, d, q, _⟩ => absurd q (by omega)⟩
  | succ k ih =>
    intro hk
    obtain ⟨d, hdk⟩ : ∃ d, ds[k]? = some d := ⟨ds[k], List.getElem?_eq_getElem hk⟩
    rw [firstTo_succ hdk]
    have hu : ∀ (i : Nat) (e : Dev), i < k + 1 → ds[i]? = some e → (i < k ∨ (i = k ∧ e = d)) := fun i e q1 q2 => by
      rcases Nat.lt_or_ge i k with hl | hl
      · exact .inl hl
      · obtain rfl : i = k := by omega
        exact .inr ⟨rfl, Option.some.inj (q2.symm.trans hdk)⟩
    unfold hostS
    by_cases e1 : d.kind = 1
    · rw [if_pos e1, send_at, ih (by omega), m_src h, decide_eq_true_eq]
      constructor
      · rintro (⟨i, e, q1, q2⟩ | q)
        · exact ⟨i, e, by omega, q2⟩
        · exact ⟨k, d, by omega, hdk, e1, q⟩
      · rintro ⟨i, e, q1, q2, q3⟩
        rcases hu i e q1 q2 with hl | ⟨rfl, rfl⟩
        · exact .inl ⟨i, e, hl, q2, q3⟩
        · exact .inr q3.2
    · rw [if_neg e1, ih (by omega)]
      constructor
      · rintro ⟨i, e, q1, q2⟩
        exact ⟨i, e, by omega, q2⟩
      · rintro ⟨i, e, q1, q2, q3⟩
        rcases hu i e q1 q2 with hl | ⟨rfl, rfl⟩
        · exact ⟨i, e, hl, q2, q3⟩
        · exact absurd q3.1 e1
def inR4 (ds : List Dev) (ls : List LinkV) (k : Nat) (x : Pl) (a b s t : Nat) : Prop := roundS ds ls k x (asgOf (code4 a b s t)) = true
theorem round_zero {ds : List Dev} (h : Fld a b s t) : inR4 ds ls 0 x a b s t ↔ ∃ (i : Nat) (d : Dev), ds[i]? = some d ∧ d.kind = 1 ∧ peerF ls ((i : Int), 0) = some x ∧ d.addr.toNat = a :=
  (first_tells h ds.length (Nat.le_refl _)).trans ⟨fun ⟨i, d, _, q⟩ => ⟨i, d, q⟩, fun ⟨i, d, q1, q2⟩ => ⟨i, d, (List.getElem?_eq_some_iff.1 q1).1, q1, q2⟩⟩
theorem round_succ {ds : List Dev} (hd : ∀ d ∈ ds, DevOk d) (hr : ∀ d ∈ ds, ∀ r ∈ d.rules, r.ok) (h : Fld a b s t) (k : Nat) : inR4 ds ls (k + 1) x a b s t ↔ inR4 ds ls k x a b s t ∨
    ∃ (i : Nat) (d : Dev) (o : Nat), ds[i]? = some d ∧ peerF ls ((i : Int), (o : Int)) = some x ∧ Tells d (peerF ls ((i : Int), 1)).isSome (fun q c => roundS ds ls k ((i : Int), (q : Int)) (asgOf c)) o a b s t :=
  (next_tells hd hr (S14.round ds ls k) h ds.length (Nat.le_refl _)).trans (or_congr Iff.rfl ⟨fun ⟨i, d, o, _, q⟩ => ⟨i, d, o, q⟩, fun ⟨i, d, o, q1, q2⟩ => ⟨i, d, o, (List.getElem?_eq_some_iff.1 q1).1, q1, q2⟩⟩)
def badMostR (most : Int) : Prop := most < 2 ∨ 40000 < most
def badE (E : Int) : Int := if E = 0 then 1 else E
theorem badE_zero : badE 0 = 1 := rfl
theorem badE_no {E : Int} (h : E ≠ 0) : badE E = E := if_neg h
def NewBad (W : World) (E : Int) (e : Ending) (W' : World) : Prop := RowKit.Below W.heap.size W W' ∧ e = .returned (.tuple #[.pointer none, .int .i64 E])
theorem reachNew_bad (n : NetV) (most : Int) (W : World) (hn : NetAt W W.heap.size n) (h : netE n.devs n.ls ≠ 0 ∨ badMostR most) :
    Calls Tryz.prog 5 #[n.val, .int .i64 most] W (NewBad W (badE (netE n.devs n.ls))) := by
  have HN := hide hn
  clear hn
  obtain ⟨E, hE⟩ : ∃ E, netE n.devs n.ls = E := ⟨_, rfl⟩
  have HC := hide (fun (w' : World) (hb : RowKit.Below W.heap.size W w') => netCheck_walk n w' (HN.out.below hb hb.size))
  simp only [hE] at HC h
  rw [hE]
  clear hE
  obtain ⟨dA, dn, dc, ds, lA, ln, lc, ls⟩ := n
  simp only [NetV.val, NetV.devs] at *
  go_enter Tryz.func5, Tryz.ntmps5
  go_wp2_with fail
  have hb0 := below_alloc2 W (.cells #[.slice dA dn dc, .slice lA ln lc] 25)
  have HB0 := hide hb0
  refine (HC.out _ hb0).mono ?_
  rintro e w1 ⟨rfl, hb⟩
  have HB1 := hide (HB0.out.trans (hb.mono HB0.out.size))
  clear hb hb0
  by_cases h0 : E = 0
  · subst h0
    have hm : badMostR most := h.resolve_left (fun hh => hh rfl)
    have HM := hide hm
    clear h hm
    go_wp2_with fail
    refine (new_most_bad w1 14 most HM.out).mono ?_
    rintro e w2 ⟨rfl, hb⟩
    have HF := hide (show NewBad W (badE 0) (.returned (.tuple #[.pointer none, .int .i64 1])) w2 from ⟨HB1.out.trans (hb.mono HB1.out.size), rfl⟩)
    clear hb
    go_wp2
    go_ret2
    exact HF.out
  · have hE0 : (E != 0) = true := by simpa using h0
    have HF := hide (show NewBad W (badE E) (.returned (.tuple #[.pointer none, .int .i64 E])) w1 from ⟨HB1.out, by rw [badE_no h0]⟩)
    clear h h0
    go_wp2
    go_ret2
    exact HF.out
structure Ent where
  blk : Nat
  M : PoK → Option Value
  S : Pl → Bdd.Fn
structure MapE (A : St) (er : Nat) (M : PoK → Option Value) (S : Pl → Bdd.Fn) (ks : List Pl) : Prop where
  ints : Ints M
  keys : ∀ x, (M x).isSome = true → x ∈ ks
  isF : er = 0 → ∀ x, IsF A (numAt M x) (S x)
theorem MapE.ext {A A' : St} {er er' : Nat} {M : PoK → Option Value} {S : Pl → Bdd.Fn} {ks : List Pl} (h : MapE A er M S ks) (i : Inv A) (hx : Ext A A') (he : er' = 0 → er = 0) : MapE A' er' M S ks := ⟨h.ints, h.keys, fun h0 x => (h.isF (he h0) x).ext i hx⟩
theorem MapE.ok {A : St} {M : PoK → Option Value} {S : Pl → Bdd.Fn} {ks : List Pl} (h : MapE A 0 M S ks) : MapOk A M S ks := ⟨h.ints, h.keys, h.isF rfl⟩
structure Sums (wr : World) (B g : Nat) (A : St) (rb base : Nat) (v : Value) (L : List Ent) (ks : List Pl) (er : Nat) (more : List Nat) : Prop where
  sa : AS wr B g A (v.ownBlock.toList ++ (more ++ rb :: L.map Ent.blk))
  own : wr.ownsRow base 73 1 v L.length (L.map fun e => .map (some e.blk))
  ap : ∀ q, v.ownBlock = some q → q ∉ more ++ rb :: L.map Ent.blk
  bx : Bx wr rb #[v, .pointer (some ⟨g, 0, none⟩)] 68
  ents : ∀ e ∈ L, MapP wr e.blk e.M ∧ MapE A er e.M e.S ks
  ne : rb ∉ more ++ L.map Ent.blk
section
variable {wr w' : World} {B g rb base : Nat} {A A' : St} {v : Value} {L : List Ent} {ks : List Pl} {er er' : Nat} {more : List Nat}
theorem Sums.below (h : Sums wr B g A rb base v L ks er more) (hb : RowKit.Below wr.heap.size wr w') : Sums w' B g A rb base v L ks er more :=
  ⟨h.sa.below hb, own_below h.own hb, h.ap, h.bx.below hb, fun e he => ⟨(h.ents e he).1.same (hb.block _ (h.ents e he).1.lt), (h.ents e he).2⟩, h.ne⟩
theorem Sums.kept (h : Sums wr B g A rb base v L ks er more) (hsa : AS w' B g A' (v.ownBlock.toList ++ (more ++ rb :: L.map Ent.blk))) (hx : Ext A A') (hk : KP B (v.ownBlock.toList ++ (more ++ rb :: L.map Ent.blk)) wr w') (he : er' = 0 → er = 0) : Sums w' B g A' rb base v L ks er' more :=
  ⟨hsa, own_same h.own (fun q hq => hk.same q (by simp [hq])), h.ap, h.bx.same (hk.same rb (by simp)), fun e hm => ⟨(h.ents e hm).1.same (hk.same _ (by
    simp only [List.mem_append, List.mem_cons, List.mem_map]
    exact .inr (.inr (.inr ⟨e, hm, rfl⟩)))), (h.ents e hm).2.ext h.sa.inv hx he⟩, h.ne⟩
theorem Sums.less {more' : List Nat} (h : Sums wr B g A rb base v L ks er more) (hs : ∀ j ∈ more', j ∈ more) : Sums wr B g A rb base v L ks er more' := by
  have hsub : ∀ j, j ∈ more' ++ rb :: L.map Ent.blk → j ∈ more ++ rb :: L.map Ent.blk := fun j hj => by
    rcases List.mem_append.1 hj with a | a
    · exact List.mem_append_left _ (hs j a)
    · exact List.mem_append_right _ a
  refine ⟨h.sa.mono (fun j hj => ?_), h.own, fun q hq hm => h.ap q hq (hsub q hm), h.bx, h.ents, fun hm => h.ne ?_⟩
  · rcases List.mem_append.1 hj with a | a
    · exact List.mem_append_left _ a
    · exact List.mem_append_right _ (hsub j a)
  · rcases List.mem_append.1 hm with a | a
    · exact List.mem_append_left _ (hs rb a)
    · exact List.mem_append_right _ a
theorem Sums.grow {v5 : Value} {m : Nat} {ys : List Value} (h : Sums wr B g A rb base v L ks er more) (hown : w'.ownsRow base 73 1 v5 m ys) (hg : wr.grownBy w' v.ownBlock) (hat : v5.ownBlock = v.ownBlock ∨ v5.ownBlock = some wr.heap.size) : KP B (more ++ rb :: L.map Ent.blk) wr w' :=
  ((RowS.mk h.sa h.own h.ap : RowS wr B g A base _ 1 v L.length _ (more ++ rb :: L.map Ent.blk)).append hown hg hat).2
theorem Sums.push {v5 : Value} {e : Ent} (h : Sums wr B g A rb base v L ks er more) (hown : w'.ownsRow base 73 1 v5 (L.length + 1) ((L.map fun e => .map (some e.blk)) ++ [.map (some e.blk)])) (hg : wr.grownBy w' v.ownBlock) (hat : v5.ownBlock = v.ownBlock ∨ v5.ownBlock = some wr.heap.size)
    (he : e.blk ∈ more) (hm : MapP wr e.blk e.M) (hok : MapE A er e.M e.S ks) :
    Sums (w'.setCell ⟨rb, 0, none⟩ v5) B g A rb base v5 (L ++ [e]) ks er more ∧ KP B more wr (w'.setCell ⟨rb, 0, none⟩ v5) := by
  obtain ⟨r1, r2⟩ := (RowS.mk h.sa h.own h.ap : RowS wr B g A base _ 1 v L.length _ (more ++ rb :: L.map Ent.blk)).append hown hg hat
  have hne := h.ne
  simp only [List.mem_append, not_or] at hne
  have hs : (w'.setCell ⟨rb, 0, none⟩ v5).heap.size = w'.heap.size := size_setCell w' ⟨rb, 0, none⟩ v5
  have hc : ∀ i, i ≠ rb → (w'.setCell ⟨rb, 0, none⟩ v5).heap[i]? = w'.heap[i]? := fun i hi => RowKit.Below.heap_setCell _ _ _ _ hi
  have hrbB : B ≤ rb := (h.sa.lt rb (by simp)).1
  have hsa2 : AS (w'.setCell ⟨rb, 0, none⟩ v5) B g A (v5.ownBlock.toList ++ (more ++ rb :: L.map Ent.blk)) := r1.sa.turned (Nat.le_of_eq hs.symm) (fun i _ hn => hc i (fun e => hn (by simp [e])))
  have hkm : KP B more wr (w'.setCell ⟨rb, 0, none⟩ v5) := ⟨r2.low.trans ((RowKit.Below.refl _ _).setCell hrbB _), fun j hj => (hc j (fun e => hne.1 (e ▸ hj))).trans (r2.same j (by simp [hj]))⟩
  have hsub : ∀ j, j ∈ more ++ rb :: (L ++ [e]).map Ent.blk → j ∈ more ++ rb :: L.map Ent.blk := fun j hj => by
    rw [List.map_append] at hj
    rcases List.mem_append.1 hj with a | a
    · exact List.mem_append_left _ a
    · rcases List.mem_cons.1 a with a | a
      · simp [a]
      · rcases List.mem_append.1 a with a | a
        · exact List.mem_append_right _ (List.mem_cons_of_mem _ a)
        · rw [List.map_cons, List.map_nil, List.mem_singleton] at a
          exact List.mem_append_left _ (a ▸ he)
  refine ⟨⟨hsa2.mono (fun j hj => ?_), ?_, fun q hq hm => r1.ap q hq (hsub q hm), ?_, fun x hx => ?_, fun hm => ?_⟩, hkm⟩
  · rcases List.mem_append.1 hj with a | a
    · exact List.mem_append_left _ a
    · exact List.mem_append_right _ (hsub j a)
  · have e1 : (L ++ [e]).length = L.length + 1 := by simp
    have e2 : ((L ++ [e]).map fun e => (Value.map (some e.blk))) = (L.map fun e => .map (some e.blk)) ++ [.map (some e.blk)] := by simp
    rw [e1, e2]
    exact own_same r1.own (fun q hq => hc q (fun e => r1.ap q hq (by simp [e])))
  · exact (h.bx.same (r2.same rb (by simp))).set 0 v5
  · rcases List.mem_append.1 hx with a | a
    · obtain ⟨q1, q2⟩ := h.ents x a
      have hxb : x.blk ∈ L.map Ent.blk := List.mem_map_of_mem a
      exact ⟨q1.same ((hc _ (fun e => hne.2 (e ▸ hxb))).trans (r2.same _ (by simp only [List.mem_append, List.mem_cons]; exact .inr (.inr hxb)))), q2⟩
    · rw [List.mem_singleton] at a
      subst a
      exact ⟨hm.same (hkm.same _ he), hok⟩
  · rw [List.map_append] at hm
    rcases List.mem_append.1 hm with a | a
    · exact hne.1 a
    · rcases List.mem_append.1 a with a | a
      · exact hne.2 a
      · rw [List.map_cons, List.map_nil, List.mem_singleton] at a
        exact hne.1 (a ▸ he)
end
end Go.Proofs.YtifkacnoiocebaaGreat
