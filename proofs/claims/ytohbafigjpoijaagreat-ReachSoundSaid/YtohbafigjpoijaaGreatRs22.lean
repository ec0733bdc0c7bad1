/- A part of the proof: Sd1, Mind1, StepFire. -/
import Derived.Test.YtohbafigjpoijaaGreatRs21
set_option linter.unusedVariables false
set_option linter.unusedSimpArgs false
set_option maxRecDepth 100000
set_option maxHeartbeats 8000000
namespace Go.Proofs.YtohbafigjpoijaaGreat
open Bdd Go.Maps Go.RowKit
theorem pk_code4 {a b s t : Nat} (h : Fld a b s t) : pk (code4 a b s t) = ⟨(a : Int), (b : Int), (s : Int), (t : Int)⟩ := by
  obtain ⟨e1, e2, e3, e4⟩ := h.parts
  unfold pk
  rw [e1, e2, e3, e4]
theorem codeP4 (a b s t : Nat) : codeP ⟨(a : Int), (b : Int), (s : Int), (t : Int)⟩ = code4 a b s t := by simp [codeP, code4]
theorem rightF4 {a b s t : Nat} (h : Fld a b s t) : rightB ⟨(a : Int), (b : Int), (s : Int), (t : Int)⟩ = true := by
  have := h.a; have := h.b; have := h.s; have := h.d
  simp only [rightB, inR, Bool.and_eq_true, decide_eq_true_eq]
  omega
def InP (ds : List Dev) (ls : List LinkV) (K : Nat) (x : Pl) (p : P4) : Prop := rightB p = true ∧ roundS ds ls K x (asgOf (codeP p)) = true
structure Last (ds : List Dev) (ls : List LinkV) (K : Nat) : Prop where
  e : netE ds ls = 0
  r : ∀ d ∈ ds, ∀ r ∈ d.rules, r.ok
  f : roundS ds ls (K + 1) = roundS ds ls K
section
variable {ds : List Dev} {ls : List LinkV} {K : Nat}
theorem InP.fld {x : Pl} {p : P4} (h : InP ds ls K x p) : ∃ a b s t : Nat, p = ⟨(a : Int), (b : Int), (s : Int), (t : Int)⟩ ∧ Fld a b s t ∧ roundS ds ls K x (asgOf (code4 a b s t)) = true := by
  obtain ⟨a, b, s, t, rfl, h1, h2, h3, h4⟩ := right_nats h.1
  exact ⟨a, b, s, t, rfl, ⟨h1, h2, h3, h4⟩, by have := h.2; rwa [codeP4] at this⟩
theorem InP.of {x : Pl} {a b s t : Nat} (h : Fld a b s t) (hr : roundS ds ls K x (asgOf (code4 a b s t)) = true) : InP ds ls K x ⟨(a : Int), (b : Int), (s : Int), (t : Int)⟩ := ⟨rightF4 h, by rw [codeP4]; exact hr⟩
theorem Last.tell (h : Last ds ls K) {k o : Nat} {r : Dev} {x : Pl} (hk : ds[k]? = some r) (hp : peerF ls ((k : Int), (o : Int)) = some x) {a b s t : Nat} (hf : Fld a b s t)
    (ht : Tells r (peerF ls ((k : Int), 1)).isSome (fun q c => roundS ds ls K ((k : Int), (q : Int)) (asgOf c)) o a b s t) : InP ds ls K x ⟨(a : Int), (b : Int), (s : Int), (t : Int)⟩ := by
  have h1 : inR4 ds ls (K + 1) x a b s t := (round_succ (net_devs_ok h.e) h.r hf K).2 (.inr ⟨k, r, o, hk, hp, ht⟩)
  unfold inR4 at h1
  rw [h.f] at h1
  exact InP.of hf h1
structure Snd (ds : List Dev) (ls : List LinkV) (K : Nat) (M : MemS) : Prop where
  F : ∀ i p, M.F (i, p) = true → ∃ (k : Nat) (r : Dev), i = (k : Int) ∧ ds[k]? = some r ∧ r.kind = 3 ∧ InP ds ls K ((k : Int), 0) p ∧ letsB r.rules p = true ∧ (peerF ls ((k : Int), 1)).isSome = true
  O : ∀ i n o, M.O (i, n) = some o → ∃ (k : Nat) (r : Dev) (p : P4), i = (k : Int) ∧ ds[k]? = some r ∧ r.kind = 4 ∧ InP ds ls K ((k : Int), 0) p ∧ o = (p.src, p.sport) ∧ (0 ≤ n ∧ n < 8) ∧ r.pool.testBit n.toNat = true ∧ (peerF ls ((k : Int), 1)).isSome = true
  B : ∀ i p b, M.B (i, p) = some b → ∃ (k : Nat) (r : Dev), i = (k : Int) ∧ ds[k]? = some r ∧ r.kind = 5 ∧ InP ds ls K ((k : Int), 0) p ∧ p.dst = r.addr ∧ b ∈ r.backs ∧ (peerF ls ((k : Int), 1)).isSome = true
theorem Snd.empty : Snd ds ls K MemS.empty := ⟨fun _ _ h => (by cases h), fun _ _ _ h => (by cases h), fun _ _ _ h => (by cases h)⟩
theorem place_of_peer (h : Last ds ls K) {x y : Pl} (hp : peerF ls x = some y) : placeB ds x = true := by
  by_cases hm : x ∈ endsOf ls
  · exact (netE_ok h.e).pl x hm
  · rw [peerF_none hm] at hp; cases hp
theorem place_dev {i y : Int} (h : placeB ds (i, y) = true) {r : Dev} (hr : ds[i.toNat]? = some r) : ∃ k q : Nat, i = (k : Int) ∧ y = (q : Int) ∧ ds[k]? = some r ∧ (q : Int) < portsF r.kind := by
  obtain ⟨⟨h1, h2⟩, h3, h4⟩ := placeB_iff.1 h
  simp only at h1 h2 h3 h4
  refine ⟨i.toNat, y.toNat, (Int.toNat_of_nonneg h1).symm, (Int.toNat_of_nonneg h3).symm, hr, ?_⟩
  rw [Int.toNat_of_nonneg h3]
  unfold kindAt at h4
  rw [hr] at h4
  exact h4
def HandOk (ds : List Dev) (ls : List LinkV) (K : Nat) (M : MemS) (h : HandS) : Prop := (h.e = 0 → InP ds ls K h.to h.q) ∧ Snd ds ls K (M.learn h.kn)
theorem HandOk.bad {M : MemS} (h : Snd ds ls K M) (e : Int) (he : e ≠ 0) : HandOk ds ls K M (.bad e) := ⟨fun h => absurd h he, h⟩
theorem go_ok {M : MemS} (h : Snd ds ls K M) {i : Int} {x : GoneS × Bool × Int} (hx : x.2.2 = 0 → x.2.1 = true → ∀ to, peerF ls (i, x.1.port) = some to → InP ds ls K to x.1.q ∧ Snd ds ls K (M.learn x.1.kn)) : HandOk ds ls K M (goS ls i x) := by
  unfold goS
  by_cases h0 : x.2.2 = 0
  · rw [if_neg (by simpa using h0)]
    cases hp : peerF ls (i, x.1.port) with
    | none => exact HandOk.bad h 7 (by decide)
    | some to =>
      show HandOk ds ls K M (if x.2.1 = true then _ else _)
      by_cases h1 : x.2.1 = true
      · rw [if_pos h1]
        obtain ⟨q1, q2⟩ := hx h0 h1 to hp
        exact ⟨fun _ => q1, q2⟩
      · rw [if_neg h1]; exact HandOk.bad h 7 (by decide)
  · rw [if_pos (by simpa using h0)]
    exact HandOk.bad h _ h0
theorem Snd.flow {M : MemS} (h : Snd ds ls K M) {k : Nat} {r : Dev} {p : P4} (hk : ds[k]? = some r) (h3 : r.kind = 3) (hp : InP ds ls K ((k : Int), 0) p) (hl : letsB r.rules p = true) (ho : (peerF ls ((k : Int), 1)).isSome = true) : Snd ds ls K (M.learn (.flow ((k : Int), p))) :=
  ⟨fun i q hq => by
    simp only [MemS.learn] at hq
    by_cases e : (i, q) = ((k : Int), p)
    · cases e; exact ⟨k, r, rfl, hk, h3, hp, hl, ho⟩
    · rw [if_neg e] at hq; exact h.F i q hq, h.O, h.B⟩
theorem Snd.owner {M : MemS} (h : Snd ds ls K M) {k : Nat} {r : Dev} {p : P4} {n : Int} (hk : ds[k]? = some r) (h3 : r.kind = 4) (hp : InP ds ls K ((k : Int), 0) p) (hn : 0 ≤ n ∧ n < 8) (hb : r.pool.testBit n.toNat = true) (ho : (peerF ls ((k : Int), 1)).isSome = true) : Snd ds ls K (M.learn (.owner ((k : Int), n) (p.src, p.sport))) :=
  ⟨h.F, fun i q o hq => by
    simp only [MemS.learn] at hq
    by_cases e : (i, q) = ((k : Int), n)
    · rw [if_pos e] at hq
      cases e; cases hq
      exact ⟨k, r, p, rfl, hk, h3, hp, rfl, hn, hb, ho⟩
    · rw [if_neg e] at hq; exact h.O i q o hq, h.B⟩
theorem Snd.back {M : MemS} (h : Snd ds ls K M) {k : Nat} {r : Dev} {p : P4} {b : Int} (hk : ds[k]? = some r) (h3 : r.kind = 5) (hp : InP ds ls K ((k : Int), 0) p) (hd : p.dst = r.addr) (hb : b ∈ r.backs) (ho : (peerF ls ((k : Int), 1)).isSome = true) : Snd ds ls K (M.learn (.back ((k : Int), p) b)) :=
  ⟨h.F, h.O, fun i q o hq => by
    simp only [MemS.learn] at hq
    by_cases e : (i, q) = ((k : Int), p)
    · rw [if_pos e] at hq
      cases e; cases hq
      exact ⟨k, r, rfl, hk, h3, hp, hd, hb, ho⟩
    · rw [if_neg e] at hq; exact h.B i q o hq⟩
theorem rout_ok (hL : Last ds ls K) {M : MemS} (h : Snd ds ls K M) {k q : Nat} {r : Dev} (hk : ds[k]? = some r) (h2 : r.kind = 2) (hq : q < 4) {p : P4} (hp : InP ds ls K ((k : Int), (q : Int)) p) : HandOk ds ls K M (goS ls (k : Int) ((routF r p).1, (routF r p).2, 0)) := by
  obtain ⟨a, b, s, t, rfl, hf, hr⟩ := hp.fld
  refine go_ok h fun _ h1 to hto => ⟨?_, h⟩
  simp only [routF] at h1 hto ⊢
  rw [Bool.and_eq_true, decide_eq_true_eq] at h1
  have hpl := placeB_iff.1 (place_of_peer hL hto)
  have hpo : portsF (kindAt ds (k : Int)) = 4 := by
    unfold kindAt
    rw [Int.toNat_natCast, hk]
    show portsF r.kind = 4
    rw [h2]; rfl
  simp only [hpo] at hpl
  obtain ⟨o, ho⟩ : ∃ o : Nat, (outF (b : Int) r.routes).1 = (o : Int) := ⟨_, (Int.toNat_of_nonneg hpl.2.1).symm⟩
  rw [ho] at hto hpl
  refine hL.tell hk hto hf (.inl ⟨h2, by omega, ⟨q, hq, hr⟩, ?_, ?_⟩)
  · simp only [dstB, Bool.and_eq_true, decide_eq_true_eq, beq_iff_eq]
    exact ⟨h1.1, ho⟩
  · rw [pk_code4 hf]; exact h1.2
theorem fire_ok (hL : Last ds ls K) {M : MemS} (h : Snd ds ls K M) {k q : Nat} {r : Dev} (hk : ds[k]? = some r) (h3 : r.kind = 3) (hq : q < 2) {p : P4} (hp : InP ds ls K ((k : Int), (q : Int)) p) : HandOk ds ls K M (goS ls (k : Int) ((fireF r M (k : Int) (q : Int) p).1, (fireF r M (k : Int) (q : Int) p).2, 0)) := by
  obtain ⟨a, b, s, t, rfl, hf, hr⟩ := hp.fld
  refine go_ok h fun _ h1 to hto => ?_
  by_cases hq0 : q = 0
  · subst hq0
    simp only [fireF, Int.natCast_zero, if_pos] at h1 hto ⊢
    refine ⟨hL.tell (o := 1) hk hto hf (.inr (.inl ⟨h3, .inl ⟨rfl, hr, by rw [pk_code4 hf]; exact h1⟩⟩)), h.flow hk h3 hp h1 (by rw [hto]; rfl)⟩
  · obtain rfl : q = 1 := by omega
    have e1 : ¬ ((1 : Nat) : Int) = 0 := by omega
    simp only [fireF, if_neg e1] at h1 hto ⊢
    obtain ⟨k', r', hkk, hk', _, hin, hl, ho⟩ := h.F _ _ h1
    obtain rfl : k = k' := by omega
    obtain rfl : r = r' := Option.some.inj (hk.symm.trans hk')
    have hf2 : Fld b a t s := ⟨hf.b, hf.a, hf.d, hf.s⟩
    have hin2 := hin.2
    simp only [flipP] at hin2 hl
    rw [codeP4] at hin2
    refine ⟨hL.tell (o := 0) hk hto hf (.inr (.inl ⟨h3, .inr ⟨ho, rfl, hr, hin2, by rw [pk_code4 hf2]; exact hl⟩⟩)), h⟩
theorem nat_ok (hL : Last ds ls K) {M : MemS} (h : Snd ds ls K M) {k q : Nat} {r : Dev} (hk : ds[k]? = some r) (h4 : r.kind = 4) (hq : q < 2) {p : P4} (ch : Int) (hp : InP ds ls K ((k : Int), (q : Int)) p) : HandOk ds ls K M (goS ls (k : Int) (natH r M (k : Int) (q : Int) p ch)) := by
  obtain ⟨a, b, s, t, rfl, hf, hr⟩ := hp.fld
  have hd := net_devs_ok hL.e r (List.mem_of_getElem? hk)
  obtain ⟨ha0, ha1⟩ := hd.addr16 (.inr (.inl h4))
  obtain ⟨A, hA⟩ : ∃ A : Nat, r.addr = (A : Int) := ⟨_, (Int.toNat_of_nonneg ha0).symm⟩
  refine go_ok h fun h0 h1 to hto => ?_
  by_cases hq0 : q = 0
  · subst hq0
    have e0 : ¬ ((0 : Nat) : Int) = 1 := by omega
    have out : ∀ n : Int, 0 ≤ n → n < 8 → r.pool.testBit n.toNat = true → peerF ls ((k : Int), 1) = some to → InP ds ls K to ⟨r.addr, (b : Int), n, (t : Int)⟩ ∧ Snd ds ls K (M.learn (.owner ((k : Int), n) ((a : Int), (s : Int)))) := fun n n0 n8 hb hto => by
      obtain ⟨m, rfl⟩ : ∃ m : Nat, n = (m : Int) := ⟨_, (Int.toNat_of_nonneg n0).symm⟩
      rw [Int.toNat_natCast] at hb
      rw [hA]
      have hf2 : Fld A b m t := ⟨by omega, hf.b, by omega, hf.d⟩
      exact ⟨hL.tell (o := 1) hk hto hf2 (.inr (.inr (.inl ⟨h4, .inl ⟨rfl, ⟨s, hf.s, a, hf.a, hr⟩, by rw [hA, Int.toNat_natCast], hb⟩⟩))), h.owner hk h4 hp ⟨n0, n8⟩ (by rw [Int.toNat_natCast]; exact hb) (by rw [hto]; rfl)⟩
    unfold natH at h0 h1 hto ⊢
    rw [if_neg e0] at h0 h1 hto ⊢
    by_cases hm : 0 ≤ mineF M (k : Int) ((a : Int), (s : Int))
    · rw [if_pos hm] at h0 h1 hto ⊢
      rcases mineF_spec M (k : Int) ((a : Int), (s : Int)) with ⟨hm1, _⟩ | ⟨m0, m8, hO⟩
      · omega
      · obtain ⟨k', r', p', hkk, hk', _, _, _, _, hb, _⟩ := h.O _ _ _ hO
        obtain rfl : k = k' := by omega
        obtain rfl : r = r' := Option.some.inj (hk.symm.trans hk')
        exact out _ m0 m8 hb hto
    · rw [if_neg hm] at h0 h1 hto ⊢
      by_cases hc : ch < 0 ∨ 8 ≤ ch ∨ hasBit r.pool ch = false
      · rw [if_pos hc] at h1; cases h1
      · rw [if_neg hc] at h0 h1 hto ⊢
        by_cases ho : (M.O ((k : Int), ch)).isSome = true
        · rw [if_pos ho] at h1; cases h1
        · rw [if_neg ho] at h0 h1 hto ⊢
          have hb : r.pool.testBit ch.toNat = true := by
            cases hx : hasBit r.pool ch
            · exact absurd (.inr (.inr hx)) hc
            · exact hx
          exact out ch (by omega) (by omega) hb hto
  · obtain rfl : q = 1 := by omega
    have e1 : ((1 : Nat) : Int) = 1 := rfl
    unfold natH at h0 h1 hto ⊢
    rw [if_pos e1] at h0 h1 hto ⊢
    by_cases hd2 : (b : Int) ≠ r.addr
    · rw [if_pos hd2] at h1; cases h1
    · rw [if_neg hd2] at h0 h1 hto ⊢
      have hd3 : (b : Int) = r.addr := Classical.byContradiction hd2
      cases hO : M.O ((k : Int), (t : Int)) with
      | none => simp only [hO] at h1; cases h1
      | some o =>
        simp only [hO] at h0 h1 hto ⊢
        obtain ⟨k', r', p', hkk, hk', _, hin, ho, _, hb, hop⟩ := h.O _ _ _ hO
        obtain rfl : k = k' := by omega
        obtain rfl : r = r' := Option.some.inj (hk.symm.trans hk')
        obtain ⟨a', b', s', t', rfl, hf', hr'⟩ := hin.fld
        subst ho
        have hf2 : Fld a a' s s' := ⟨hf.a, hf'.a, hf.s, hf'.s⟩
        rw [Int.toNat_natCast] at hb
        exact ⟨hL.tell (o := 0) hk hto hf2 (.inr (.inr (.inl ⟨h4, .inr ⟨hop, rfl, ⟨t, hf.d, b, hf.b, hr, by omega, hb⟩, ⟨t', hf'.d, b', hf'.b, hr'⟩⟩⟩))), h⟩
theorem balS_ok (hL : Last ds ls K) {M : MemS} (h : Snd ds ls K M) {k q : Nat} {r : Dev} (hk : ds[k]? = some r) (h5 : r.kind = 5) (hq : q < 2) {p : P4} (ch : Int) (hp : InP ds ls K ((k : Int), (q : Int)) p) :
    HandOk ds ls K M (goS ls (k : Int) ((balF r M (k : Int) (q : Int) p ch).1, decide ((balF r M (k : Int) (q : Int) p ch).2 = 0), (balF r M (k : Int) (q : Int) p ch).2)) := by
  obtain ⟨a, b, s, t, rfl, hf, hr⟩ := hp.fld
  have hd := net_devs_ok hL.e r (List.mem_of_getElem? hk)
  obtain ⟨ha0, ha1⟩ := hd.addr16 (.inr (.inr h5))
  obtain ⟨A, hA⟩ : ∃ A : Nat, r.addr = (A : Int) := ⟨_, (Int.toNat_of_nonneg ha0).symm⟩
  have tell : ∀ {o : Nat} {to : Pl} {a' b' s' t' : Nat}, peerF ls ((k : Int), (o : Int)) = some to → Fld a' b' s' t' → TellB r (peerF ls ((k : Int), 1)).isSome (fun q c => roundS ds ls K ((k : Int), (q : Int)) (asgOf c)) o a' b' s' t' → InP ds ls K to ⟨(a' : Int), (b' : Int), (s' : Int), (t' : Int)⟩ :=
    fun hto hf2 ht => hL.tell hk hto hf2 (.inr (.inr (.inr ⟨h5, ht⟩)))
  refine go_ok h fun h0 h1 to hto => ?_
  by_cases hq0 : q = 0
  · subst hq0
    have e0 : ¬ ((0 : Nat) : Int) = 1 := by omega
    have out : ∀ x : Int, x ∈ r.backs → (b : Int) = r.addr → peerF ls ((k : Int), 1) = some to → InP ds ls K to ⟨(a : Int), x, (s : Int), (t : Int)⟩ ∧ Snd ds ls K (M.learn (.back ((k : Int), ⟨(a : Int), (b : Int), (s : Int), (t : Int)⟩) x)) := fun x hx hb hto => by
      obtain ⟨x0, x1⟩ := hd.backs16 x hx
      obtain ⟨m, rfl⟩ : ∃ m : Nat, x = (m : Int) := ⟨_, (Int.toNat_of_nonneg x0).symm⟩
      have hf2 : Fld a m s t := ⟨hf.a, by omega, hf.s, hf.d⟩
      refine ⟨tell (o := 1) hto hf2 (.inr (.inr ⟨(m : Int), hx, .inl ⟨rfl, ?_, Int.toNat_natCast m⟩⟩)), h.back hk h5 hp hb hx (by rw [hto]; rfl)⟩
      rw [show r.addr.toNat = b from by omega]
      exact hr
    unfold balF at h0 h1 hto ⊢
    rw [if_neg e0] at h0 h1 hto ⊢
    by_cases hd2 : (b : Int) ≠ r.addr
    · rw [if_pos hd2] at h0 h1 hto ⊢
      exact ⟨tell (o := 1) hto hf (.inl ⟨rfl, hr, by omega⟩), h⟩
    · rw [if_neg hd2] at h0 h1 hto ⊢
      have hd3 : (b : Int) = r.addr := Classical.byContradiction hd2
      cases hB : M.B ((k : Int), ⟨(a : Int), (b : Int), (s : Int), (t : Int)⟩) with
      | some x =>
        simp only [hB] at h0 h1 hto ⊢
        obtain ⟨k', r', hkk, hk', _, _, _, hx, _⟩ := h.B _ _ _ hB
        obtain rfl : k = k' := by omega
        obtain rfl : r = r' := Option.some.inj (hk.symm.trans hk')
        exact out x hx hd3 hto
      | none =>
        simp only [hB] at h0 h1 hto ⊢
        by_cases hc : ch < 0
        · rw [if_pos hc] at h0; cases h0
        · rw [if_neg hc] at h0 h1 hto ⊢
          cases hx : r.backs[ch.toNat]? with
          | none => simp only [hx] at h0; cases h0
          | some x =>
            simp only [hx] at h0 h1 hto ⊢
            exact out x (List.mem_of_getElem? hx) hd3 hto
  · obtain rfl : q = 1 := by omega
    have e1 : ((1 : Nat) : Int) = 1 := rfl
    unfold balF at h0 h1 hto ⊢
    rw [if_pos e1] at h0 h1 hto ⊢
    by_cases hB : M.B ((k : Int), ⟨(b : Int), r.addr, (t : Int), (s : Int)⟩) = some (a : Int)
    · simp only [if_pos hB] at h0 h1 hto ⊢
      obtain ⟨k', r', hkk, hk', _, hin, _, hx, hop⟩ := h.B _ _ _ hB
      obtain rfl : k = k' := by omega
      obtain rfl : r = r' := Option.some.inj (hk.symm.trans hk')
      have hin2 := hin.2
      rw [hA, codeP4] at hin2
      have hf2 : Fld A b s t := ⟨by omega, hf.b, hf.s, hf.d⟩
      rw [hA]
      refine ⟨tell (o := 0) hto hf2 (.inr (.inr ⟨(a : Int), hx, .inr ⟨hop, rfl, ?_, ?_, ?_⟩⟩)), h⟩
      · rw [Int.toNat_natCast]; exact hr
      · rw [hA, Int.toNat_natCast]; exact hin2
      · rw [hA, Int.toNat_natCast]
    · simp only [if_neg hB] at h0 h1 hto ⊢
      exact ⟨tell (o := 0) hto hf (.inr (.inl ⟨rfl, hr⟩)), h⟩
theorem hand_ok (hL : Last ds ls K) {M : MemS} (h : Snd ds ls K M) (i y : Int) (p : P4) (ch : Int) (hp : InP ds ls K (i, y) p) : HandOk ds ls K M (handS ds ls M i y p ch) := by
  unfold handS
  by_cases h1 : placeB ds (i, y) = false
  · rw [if_pos h1]; exact HandOk.bad h 4 (by decide)
  rw [if_neg h1, if_neg (by rw [hp.1]; simp)]
  cases hr : ds[i.toNat]? with
  | none => exact HandOk.bad h 4 (by decide)
  | some r =>
    obtain ⟨k, q, rfl, rfl, hk, hq⟩ := place_dev (by simpa using h1) hr
    show HandOk ds ls K M (goS ls (k : Int) (outS r M (k : Int) (q : Int) p ch))
    unfold outS
    by_cases k2 : r.kind = 2
    · rw [if_pos k2]
      rw [k2] at hq
      exact rout_ok hL h hk k2 (by have : portsF 2 = 4 := rfl; omega) hp
    rw [if_neg k2]
    by_cases k3 : r.kind = 3
    · rw [if_pos k3]
      rw [k3] at hq
      exact fire_ok hL h hk k3 (by have : portsF 3 = 2 := rfl; omega) hp
    rw [if_neg k3]
    by_cases k4 : r.kind = 4
    · rw [if_pos k4]
      rw [k4] at hq
      exact nat_ok hL h hk k4 (by have : portsF 4 = 2 := rfl; omega) ch hp
    rw [if_neg k4]
    by_cases k5 : r.kind = 5
    · rw [if_pos k5]
      rw [k5] at hq
      exact balS_ok hL h hk k5 (by have : portsF 5 = 2 := rfl; omega) ch hp
    rw [if_neg k5]
    exact go_ok h fun _ h1 => by cases h1
end
end Go.Proofs.YtohbafigjpoijaaGreat
namespace Go.Proofs.YtohbafigjpoijaaGreat
open Go.RowKit
structure FactV where
  d : Int
  p : P4
  n : Int
def eq4 (p q : P4) : Bool := p.src == q.src && p.dst == q.dst && p.sport == q.sport && p.dport == q.dport
theorem eq4_iff (p q : P4) : eq4 p q = true ↔ p = q := by
  obtain ⟨a, b, c, d⟩ := p
  obtain ⟨a', b', c', d'⟩ := q
  simp [eq4, and_assoc]
open Go.Maps
theorem fire_in (g : Nat) (n : NetV) (f o b : Nat) (M : MemS) (k : Nat) (i : Nat) (r : DevV) (p : P4) (W : World) (hM : MemAt W g n f o b M k) (hr : n.ds[i]? = some r) (hn : n.dn ≤ 10) (hp : p.ok) (hrn : r.rn ≤ 9223372036854775807) :
    Calls Tryz.prog 139 #[.pointer (some ⟨g, 0, none⟩), .agg #[.int .i64 (i : Int), .int .i64 0], .agg #[.int .i64 p.src, .int .i64 p.dst, .int .i64 p.sport, .int .i64 p.dport]] W fun e W' =>
      ∃ v, e = .returned (.tuple #[goneV 1 p v, .bool (letsB r.rs p)]) ∧ KnowAt W.heap.size W' g n f o b v (.flow ((i : Int), p)) ∧ Below W.heap.size W W' := by
  have HMA := hide (fun (w' : World) (hb : Below W.heap.size W w') => hM.below hb)
  have hin : i < n.dn := by rw [← hM.net.dlen]; exact (List.getElem?_eq_some_iff.1 hr).1
  have hgl := hM.glt
  clear hM
  obtain ⟨dA, dn, dc, ds, lA, ln, lc, ls⟩ := n
  simp only at hr hn hin
  obtain ⟨db, od, rfl, hdb, _⟩ := (HMA.out _ (Below.refl _ _)).net.ds.2 (by show 0 < dn; omega)
  have HRR := hide hr
  clear hr
  have i1 : (0 : Int) ≤ (i : Int) := by omega
  have i2 : (i : Int) < (dn : Int) := by omega
  have i3 : (dn : Int) ≤ 10 := by omega
  go_enter Tryz.func139, Tryz.ntmps139
  go_wp2
  generalize hG : World.alloc (World.alloc (World.alloc (World.alloc W _) _) _) _ = W1
  have HW1 := hide (show W1.heap.size = W.heap.size + 4 from by rw [← hG]; simp)
  have HQ := hide (fun (B : Nat) (w' : World) (hb : Below B W1 w') => boxesV (B := B) [(#[.pointer (some ⟨g, 0, none⟩)], 125), (#[.int .i64 (i : Int), .int .i64 0], 27), (#[.int .i64 p.src, .int .i64 p.dst, .int .i64 p.sport, .int .i64 p.dport], 29), (#[.int .i64 0, .int .i64 0, .int .i64 0, .int .i64 0, .int .i64 0, .nilFunc], 191)] W (W' := w') (by rw [← hG] at hb; exact hb))
  have HL := hide (fun (w' : World) (hb : Below W.heap.size W w') => lets_walk r.rs r.rA r.rn r.rc p w' hrn hp ((HMA.out _ hb).net.dok r (List.mem_of_getElem? HRR.out)).rs)
  clear hG
  have HBB := hide (fun (w' : World) (hb : Below (W.heap.size + 3) W1 w') => show Below W.heap.size W w' from (HQ.out _ w' hb).2 (by omega))
  have HF := hide (fun (w' : World) (hb : Below (W.heap.size + 3) W1 w') => show
      (w'.cell? ⟨W.heap.size, 0, none⟩ = some (.pointer (some ⟨g, 0, none⟩)) ∧ w'.cell? ⟨W.heap.size + 1, 0, none⟩ = some (.int .i64 (i : Int)) ∧
      (w'.cell? ⟨W.heap.size + 1 + 1, 0, none⟩ = some (.int .i64 p.src) ∧ w'.cell? ⟨W.heap.size + 1 + 1, 1, none⟩ = some (.int .i64 p.dst) ∧ w'.cell? ⟨W.heap.size + 1 + 1, 2, none⟩ = some (.int .i64 p.sport) ∧ w'.cell? ⟨W.heap.size + 1 + 1, 3, none⟩ = some (.int .i64 p.dport)) ∧
      w'.cell? ⟨g, 0, none⟩ = some (.slice (some ⟨db, od, none⟩) dn dc) ∧ w'.cell? ⟨db, od + i * 7 + 5, none⟩ = some (.slice r.rA r.rn r.rc)) from by
    have x0 := (HQ.out _ w' hb).1 0 _ _ rfl (by omega)
    have x1 := (HQ.out _ w' hb).1 1 _ _ rfl (by omega)
    have x2 := (HQ.out _ w' hb).1 2 _ _ rfl (by omega)
    have hm := HMA.out _ (HBB.out w' hb)
    exact ⟨x0.1 0 _ rfl, x1.1 0 _ rfl, ⟨x2.1 0 _ rfl, x2.1 1 _ rfl, x2.1 2 _ rfl, x2.1 3 _ rfl⟩, hm.c0, (dev_get hm.net.ds HRR.out).2.2.2.2.2.2.1⟩)
  have q3 := HQ.out (W.heap.size + 4) W1 (Below.refl _ _)
  have HX := hide (fun (w' : World) (hb : Below (W.heap.size + 4) W1 w') => show BoxV w' (W.heap.size + 1 + 1 + 1) #[.int .i64 0, .int .i64 0, .int .i64 0, .int .i64 0, .int .i64 0, .nilFunc] from (HQ.out _ w' hb).1 3 _ _ rfl (by omega))
  clear q3
  refine wp_region_E (fun w' => Below (W.heap.size + 4) W1 w') 15 (by kernel_rfl) ((Below.refl _ _).drew) (fun hS inv => ?_)
  refine rL 0 [15] rfl inv hS (by intro w hSw; obtain ⟨s0, s1, ⟨s2, s3, s4, s5⟩, s6, s7⟩ := HF.out _ (hSw.mono (by omega)); go_simp; try with_reducible rfl) ?_; clear inv; intro inv; try simp only [Act.put, nrmA, nrmB, nrmC]
  refine rP 1 rfl inv hS ?_; clear inv; intro inv; try simp only [Act.put, nrmA, nrmB, nrmC]
  refine rP 2 rfl inv hS ?_; clear inv; intro inv; try simp only [Act.put, nrmA, nrmB, nrmC]
  refine rL 3 [4, 5, 6, 7, 10, 11, 12, 14, 15] rfl inv hS (by intro w hSw; obtain ⟨s0, s1, ⟨s2, s3, s4, s5⟩, s6, s7⟩ := HF.out _ (hSw.mono (by omega)); go_simp; try with_reducible rfl) ?_; clear inv; intro inv; try simp only [Act.put, nrmA, nrmB, nrmC]
  refine rP 4 rfl inv hS ?_; clear inv; intro inv; try simp only [Act.put, nrmA, nrmB, nrmC]
  refine rP 5 rfl inv hS ?_; clear inv; intro inv; try simp only [Act.put, nrmA, nrmB, nrmC]
  refine rP 6 rfl inv hS ?_; clear inv; intro inv; try simp only [Act.put, nrmA, nrmB, nrmC]
  refine rL 7 [10, 11, 12, 14, 15] rfl inv hS (by intro w hSw; obtain ⟨s0, s1, ⟨s2, s3, s4, s5⟩, s6, s7⟩ := HF.out _ (hSw.mono (by omega)); go_simp; try with_reducible rfl) ?_; clear inv; intro inv; try simp only [Act.put, nrmA, nrmB, nrmC]
  refine rP 8 rfl inv hS ?_; clear inv; intro inv; try simp only [Act.put, nrmA, nrmB, nrmC]
  refine rL 9 [10, 11, 12, 14, 15] rfl inv hS (by intro w hSw; obtain ⟨s0, s1, ⟨s2, s3, s4, s5⟩, s6, s7⟩ := HF.out _ (hSw.mono (by omega)); go_simp; try with_reducible rfl) ?_; clear inv; intro inv; try simp only [Act.put, nrmA, nrmB, nrmC]
  refine rP 10 rfl inv hS ?_; clear inv; intro inv; try simp only [Act.put, nrmA, nrmB, nrmC]
  refine rP 11 rfl inv hS ?_; clear inv; intro inv; try simp only [Act.put, nrmA, nrmB, nrmC]
  refine rL 12 [14, 15] rfl inv hS (by intro w hSw; obtain ⟨s0, s1, ⟨s2, s3, s4, s5⟩, s6, s7⟩ := HF.out _ (hSw.mono (by omega)); go_simp; try with_reducible rfl) ?_; clear inv; intro inv; try simp only [Act.put, nrmA, nrmB, nrmC]
  refine rL 13 [14, 15] rfl inv hS (by intro w hSw; obtain ⟨s0, s1, ⟨s2, s3, s4, s5⟩, s6, s7⟩ := HF.out _ (hSw.mono (by omega)); go_simp; try with_reducible rfl) ?_; clear inv; intro inv; try simp only [Act.put, nrmA, nrmB, nrmC]
  refine wpAnyE_one (i := 14) rfl (by kernel_rfl) inv (fun K hK => ?_)
  go_simp
  go_at_call 138
  refine (HL.out _ (HBB.out _ (hS.mono (by omega)))).mono ?_
  rintro e w2 ⟨rfl, hb⟩
  have hS2 : Below (W.heap.size + 4) W1 w2 := hS.trans (hb.mono (by have := hS.size; have := HW1.out; omega))
  go_wp2_with fail
  refine hK.out _ _ (fun _ => hS2) (fun inv2 => ?_)
  clear hK K hS
  clear inv
  have inv := inv2
  clear inv2
  try simp only [Act.put, nrmA, nrmB, nrmC]
  have HB2 := hide (show Below W.heap.size W w2 from HBB.out _ (hS2.mono (by omega)))
  have HX2 := hide (HX.out _ hS2)
  have HBS := hide (hS2.mono (B' := W.heap.size + 3) (by omega))
  clear hS2 hb
  refine wpAnyE_late (i := 15) rfl (by kernel_rfl) inv (by kernel_rfl) (fun K hK => ?_)
  rw [if_pos (by rfl)]
  refine wp_store_mid _ _ _ rfl _ _ #[.int .i64 1, .int .i64 p.src, .int .i64 p.dst, .int .i64 p.sport, .int .i64 p.dport, .func (.func 172) #[] #[.pointer (some ⟨W.heap.size, 0, none⟩), .pointer (some ⟨W.heap.size + 1, 0, none⟩), .pointer (some ⟨W.heap.size + 1 + 1, 0, none⟩)]] rfl rfl (HX2.out.there (Nat.le_refl _)) info_gone (by first | exact DevV.arr_one _ | simp [Value.oneCell']) ?_
  refine hK.out _ _ (fun inv2 => ?_)
  clear hK K
  clear inv
  have inv := inv2
  clear inv2
  try simp only [Act.put, nrmA, nrmB, nrmC]
  refine wpAnyE_late (i := 16) rfl (by kernel_rfl) inv (by kernel_rfl) (fun K hK => ?_)
  go_simp
  refine hK.out _ _ (fun inv2 => ?_)
  clear hK K
  clear inv
  have inv := inv2
  clear inv2
  try simp only [Act.put, nrmA, nrmB, nrmC]
  refine wpAnyE_done (by kernel_rfl) ?_ _
  clear inv
  go_wp2
  have hx3 := HX2.out.all [.int .i64 1, .int .i64 p.src, .int .i64 p.dst, .int .i64 p.sport, .int .i64 p.dport, .func (.func 172) #[] #[.pointer (some ⟨W.heap.size, 0, none⟩), .pointer (some ⟨W.heap.size + 1, 0, none⟩), .pointer (some ⟨W.heap.size + 1 + 1, 0, none⟩)]] rfl
  have hb3 := below_setCells (B := W.heap.size + 3) (N := W.heap.size + 1 + 1 + 1) (Nat.le_refl _) [.int .i64 1, .int .i64 p.src, .int .i64 p.dst, .int .i64 p.sport, .int .i64 p.dport, .func (.func 172) #[] #[.pointer (some ⟨W.heap.size, 0, none⟩), .pointer (some ⟨W.heap.size + 1, 0, none⟩), .pointer (some ⟨W.heap.size + 1 + 1, 0, none⟩)]] 0 w2 ((HBS.out))
  generalize World.setCells w2 _ _ _ = w3 at *
  obtain ⟨z0, z1, z2, z3, z4, z5⟩ : w3.cell? ⟨W.heap.size + 1 + 1 + 1, 0, none⟩ = some (.int .i64 1) ∧ w3.cell? ⟨W.heap.size + 1 + 1 + 1, 1, none⟩ = some (.int .i64 p.src) ∧ w3.cell? ⟨W.heap.size + 1 + 1 + 1, 2, none⟩ = some (.int .i64 p.dst) ∧ w3.cell? ⟨W.heap.size + 1 + 1 + 1, 3, none⟩ = some (.int .i64 p.sport) ∧ w3.cell? ⟨W.heap.size + 1 + 1 + 1, 4, none⟩ = some (.int .i64 p.dport) ∧ w3.cell? ⟨W.heap.size + 1 + 1 + 1, 5, none⟩ = some (.func (.func 172) #[] #[.pointer (some ⟨W.heap.size, 0, none⟩), .pointer (some ⟨W.heap.size + 1, 0, none⟩), .pointer (some ⟨W.heap.size + 1 + 1, 0, none⟩)]) :=
    ⟨hx3.1 0 _ rfl, hx3.1 1 _ rfl, hx3.1 2 _ rfl, hx3.1 3 _ rfl, hx3.1 4 _ rfl, hx3.1 5 _ rfl⟩
  refine bodyPost_ret (v := .tuple #[goneV 1 p (.func (.func 172) #[] #[.pointer (some ⟨W.heap.size, 0, none⟩), .pointer (some ⟨W.heap.size + 1, 0, none⟩), .pointer (some ⟨W.heap.size + 1 + 1, 0, none⟩)]), .bool (letsB r.rs p)]) (by simp [results, Tryz.f139, go_sem, z0, z1, z2, z3, z4, z5, goneV]) rfl ⟨_, rfl, .inr ⟨_, _, rfl, fire1_enters, fun M' k' w' hb hM' hk' => ?_⟩, HBB.out _ hb3⟩
  have h3 := hb3.size
  have h1 := HW1.out
  have q0 := ((HQ.out _ w3 hb3).1 0 _ _ rfl (by omega)).sameL hb (by omega) (by omega)
  have q1 := ((HQ.out _ w3 hb3).1 1 _ _ rfl (by omega)).sameL hb (by omega) (by omega)
  have q2 := ((HQ.out _ w3 hb3).1 2 _ _ rfl (by omega)).sameL hb (by omega) (by omega)
  exact fire1_walk g _ f o b M' k' W.heap.size (W.heap.size + 1) (W.heap.size + 1 + 1) (i : Int) 0 p w' hM' hk' q0 q1 q2 (by unfold i64ok; omega) hp
theorem fire_out (g : Nat) (n : NetV) (f o b : Nat) (M : MemS) (k : Nat) (i y : Int) (p : P4) (W : World) (hM : MemAt W g n f o b M k) (hi : i64ok i) (hy : y ≠ 0) (hp : p.ok) :
    Calls Tryz.prog 139 #[.pointer (some ⟨g, 0, none⟩), .agg #[.int .i64 i, .int .i64 y], .agg #[.int .i64 p.src, .int .i64 p.dst, .int .i64 p.sport, .int .i64 p.dport]] W fun e W' =>
      e = .returned (.tuple #[goneV 0 p .nilFunc, .bool (M.F (i, flipP p))]) ∧ Below W.heap.size W W' := by
  have HMA := hide (fun (w' : World) (hb : Below W.heap.size W w') => hM.below hb)
  have HLK := hide (fun (w' : World) (hb : Below W.heap.size W w') => show (Instr.lookup 185 (.map (some f)) (.agg #[.int .i64 i, .int .i64 p.dst, .int .i64 p.src, .int .i64 p.dport, .int .i64 p.sport]) false).run Tryz.prog w' = .ok (.bool (M.F (i, flipP p))) w' from
    (hM.below hb).lookF (i, flipP p) ⟨hi, ⟨hp.2.1, hp.1, hp.2.2.2, hp.2.2.1⟩⟩)
  have d0 : (y == 0) = false := by simpa using hy
  clear hM hy
  have HFL := hide (fun w => flip_walk p w)
  go_enter Tryz.func139, Tryz.ntmps139
  go_wp2
  clear d0
  generalize hG : World.alloc (World.alloc (World.alloc (World.alloc W _) _) _) _ = W1
  have HW1 := hide (show W1.heap.size = W.heap.size + 4 from by rw [← hG]; simp)
  have HQ := hide (fun (B : Nat) (w' : World) (hb : Below B W1 w') => boxesV (B := B) [(#[.pointer (some ⟨g, 0, none⟩)], 125), (#[.int .i64 i, .int .i64 y], 27), (#[.int .i64 p.src, .int .i64 p.dst, .int .i64 p.sport, .int .i64 p.dport], 29), (#[.int .i64 0, .int .i64 0, .int .i64 0, .int .i64 0, .int .i64 0, .nilFunc], 191)] W (W' := w') (by rw [← hG] at hb; exact hb))
  clear hG
  have HBB := hide (fun (w' : World) (hb : Below (W.heap.size + 3) W1 w') => show Below W.heap.size W w' from (HQ.out _ w' hb).2 (by omega))
  have HF := hide (fun (w' : World) (hb : Below (W.heap.size + 3) W1 w') => show
      (w'.cell? ⟨W.heap.size, 0, none⟩ = some (.pointer (some ⟨g, 0, none⟩)) ∧ w'.cell? ⟨W.heap.size + 1, 0, none⟩ = some (.int .i64 i) ∧
      (w'.cell? ⟨W.heap.size + 1 + 1, 0, none⟩ = some (.int .i64 p.src) ∧ w'.cell? ⟨W.heap.size + 1 + 1, 1, none⟩ = some (.int .i64 p.dst) ∧ w'.cell? ⟨W.heap.size + 1 + 1, 2, none⟩ = some (.int .i64 p.sport) ∧ w'.cell? ⟨W.heap.size + 1 + 1, 3, none⟩ = some (.int .i64 p.dport)) ∧
      w'.cell? ⟨g, 2, none⟩ = some (.map (some f))) from by
    have x0 := (HQ.out _ w' hb).1 0 _ _ rfl (by omega)
    have x1 := (HQ.out _ w' hb).1 1 _ _ rfl (by omega)
    have x2 := (HQ.out _ w' hb).1 2 _ _ rfl (by omega)
    have hm := HMA.out _ (HBB.out w' hb)
    exact ⟨x0.1 0 _ rfl, x1.1 0 _ rfl, ⟨x2.1 0 _ rfl, x2.1 1 _ rfl, x2.1 2 _ rfl, x2.1 3 _ rfl⟩, hm.c2⟩)
  have HX := hide (fun (w' : World) (hb : Below (W.heap.size + 4) W1 w') => show BoxV w' (W.heap.size + 1 + 1 + 1) #[.int .i64 0, .int .i64 0, .int .i64 0, .int .i64 0, .int .i64 0, .nilFunc] from (HQ.out _ w' hb).1 3 _ _ rfl (by omega))
  refine wp_region_E (fun w' => Below (W.heap.size + 3) W1 w') 13 (by kernel_rfl) ((Below.refl _ _).drew) (fun hS inv => ?_)
  refine rL 0 [13] rfl inv hS (by intro w hSw; obtain ⟨s0, s1, ⟨s2, s3, s4, s5⟩, s6⟩ := HF.out _ hSw; go_simp; try with_reducible rfl) ?_; clear inv; intro inv; try simp only [Act.put, nrmA, nrmB, nrmC]
  refine rP 1 rfl inv hS ?_; clear inv; intro inv; try simp only [Act.put, nrmA, nrmB, nrmC]
  refine rL 2 [13] rfl inv hS (by intro w hSw; obtain ⟨s0, s1, ⟨s2, s3, s4, s5⟩, s6⟩ := HF.out _ hSw; go_simp; try with_reducible rfl) ?_; clear inv; intro inv; try simp only [Act.put, nrmA, nrmB, nrmC]
  refine rP 3 rfl inv hS ?_; clear inv; intro inv; try simp only [Act.put, nrmA, nrmB, nrmC]
  refine rP 4 rfl inv hS ?_; clear inv; intro inv; try simp only [Act.put, nrmA, nrmB, nrmC]
  refine rL 5 [13] rfl inv hS (by intro w hSw; obtain ⟨s0, s1, ⟨s2, s3, s4, s5⟩, s6⟩ := HF.out _ hSw; go_simp; try with_reducible rfl) ?_; clear inv; intro inv; try simp only [Act.put, nrmA, nrmB, nrmC]
  refine rP 6 rfl inv hS ?_; clear inv; intro inv; try simp only [Act.put, nrmA, nrmB, nrmC]
  refine rL 7 [13] rfl inv hS (by intro w hSw; obtain ⟨s0, s1, ⟨s2, s3, s4, s5⟩, s6⟩ := HF.out _ hSw; go_simp; try with_reducible rfl) ?_; clear inv; intro inv; try simp only [Act.put, nrmA, nrmB, nrmC]
  refine rL 8 [13] rfl inv hS (by intro w hSw; obtain ⟨s0, s1, ⟨s2, s3, s4, s5⟩, s6⟩ := HF.out _ hSw; go_simp; try with_reducible rfl) ?_; clear inv; intro inv; try simp only [Act.put, nrmA, nrmB, nrmC]
  refine wpAnyE_one (i := 9) rfl (by kernel_rfl) inv (fun K hK => ?_)
  go_simp
  go_at_call 143
  refine (HFL.out _).mono ?_
  rintro e w2 ⟨rfl, hb⟩
  have hb4 : Below (W.heap.size + 4) W1 w2 := ((Below.refl _ _).drew).trans (hb.mono (by have := HW1.out; simp; omega))
  go_wp2_with fail
  refine hK.out _ _ (fun _ => (hb4.mono (by omega))) (fun inv2 => ?_)
  clear hK K hS
  clear inv
  have inv := inv2
  clear inv2
  try simp only [Act.put, nrmA, nrmB, nrmC]
  have hS := hb4.mono (B' := W.heap.size + 3) (by omega)
  have HX2 := hide (HX.out _ hb4)
  have HBS := hide hS
  clear hb hb4
  refine rP 10 rfl inv hS ?_; clear inv; intro inv; try simp only [Act.put, nrmA, nrmB, nrmC]
  refine rL 11 [13] rfl inv hS (by intro w hSw; obtain ⟨s0, s1, ⟨s2, s3, s4, s5⟩, s6⟩ := HF.out _ hSw; have s8 := HLK.out _ (HBB.out _ hSw); go_simp; try with_reducible rfl) ?_; clear inv; intro inv; try simp only [Act.put, nrmA, nrmB, nrmC]
  refine wpAnyE_one (i := 12) rfl (by kernel_rfl) inv (fun K hK => ?_)
  rw [if_pos (by rfl)]
  refine wp_store_mid _ _ _ rfl _ _ #[.int .i64 0, .int .i64 p.src, .int .i64 p.dst, .int .i64 p.sport, .int .i64 p.dport, .nilFunc] rfl rfl (HX2.out.there (Nat.le_refl _)) info_gone (by first | exact DevV.arr_one _ | simp [Value.oneCell']) ?_
  refine hK.out _ _ (fun _ => (below_setCells (Nat.le_refl _) _ _ _ HBS.out)) (fun inv2 => ?_)
  clear hK K
  clear inv
  have inv := inv2
  clear inv2
  try simp only [Act.put, nrmA, nrmB, nrmC]
  clear hS
  refine wpAnyE_late (i := 13) rfl (by kernel_rfl) inv (by kernel_rfl) (fun K hK => ?_)
  go_simp
  refine hK.out _ _ (fun inv2 => ?_)
  clear hK K
  clear inv
  have inv := inv2
  clear inv2
  try simp only [Act.put, nrmA, nrmB, nrmC]
  refine wpAnyE_done (by kernel_rfl) ?_ _
  clear inv
  go_wp2
  have hx3 := HX2.out.all [.int .i64 0, .int .i64 p.src, .int .i64 p.dst, .int .i64 p.sport, .int .i64 p.dport, .nilFunc] rfl
  have hb3 := below_setCells (B := W.heap.size + 3) (N := W.heap.size + 1 + 1 + 1) (Nat.le_refl _) [.int .i64 0, .int .i64 p.src, .int .i64 p.dst, .int .i64 p.sport, .int .i64 p.dport, .nilFunc] 0 w2 HBS.out
  generalize World.setCells w2 _ _ _ = w3 at *
  obtain ⟨z0, z1, z2, z3, z4, z5⟩ : w3.cell? ⟨W.heap.size + 1 + 1 + 1, 0, none⟩ = some (.int .i64 0) ∧ w3.cell? ⟨W.heap.size + 1 + 1 + 1, 1, none⟩ = some (.int .i64 p.src) ∧ w3.cell? ⟨W.heap.size + 1 + 1 + 1, 2, none⟩ = some (.int .i64 p.dst) ∧ w3.cell? ⟨W.heap.size + 1 + 1 + 1, 3, none⟩ = some (.int .i64 p.sport) ∧ w3.cell? ⟨W.heap.size + 1 + 1 + 1, 4, none⟩ = some (.int .i64 p.dport) ∧ w3.cell? ⟨W.heap.size + 1 + 1 + 1, 5, none⟩ = some .nilFunc :=
    ⟨hx3.1 0 _ rfl, hx3.1 1 _ rfl, hx3.1 2 _ rfl, hx3.1 3 _ rfl, hx3.1 4 _ rfl, hx3.1 5 _ rfl⟩
  exact bodyPost_ret (v := .tuple #[goneV 0 p .nilFunc, .bool (M.F (i, flipP p))]) (by simp [results, Tryz.f139, go_sem, z0, z1, z2, z3, z4, z5, goneV]) rfl ⟨rfl, HBB.out _ hb3⟩
end Go.Proofs.YtohbafigjpoijaaGreat
