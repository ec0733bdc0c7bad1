/- The nat's chain, plainly; a law's own map of numbers beside a memory. -/
import Derived.Test.YtidikopjfpioaaaLawFB
set_option linter.unusedVariables false
set_option linter.unusedSimpArgs false
namespace Go.Proofs.Ytidikopjfpioaaa
open Go.RowKit Go.Maps

def intKey (k : Int) : Value := .int .i64 k
theorem intKeys : KeysAny Try.prog 3 intKey i64ok :=
  ⟨int_keyed Try.underlying3, fun a ha => ⟨.int .i64 a, by have := i64ok_wf ha; simp [keyOf, mapKey, Try.underlying3, intKey, this]⟩, fun a b h => by simpa [intKey] using h⟩
section
variable {w w' : World} {b : Nat} {M : Int → Option Value}
theorem MapIs.near {α : Type} {P : Program} {kt : TypeId} {key : α → Value} {dom : α → Prop} {w w' : World} {b : Nat} {M : α → Option Value} {p : Nat → Prop} {B : Nat} (h : MapIs P kt key dom w b M) (hn : Near p B w w') (hb : b < B) (hp : ¬ p b) : MapIs P kt key dom w' b M := h.same (hn.block b hb hp)
/-- How many entries a map has: none, just if it is empty. -/
theorem MapIs.len {α : Type} {P : Program} {kt : TypeId} {key : α → Value} {dom : α → Prop} {w : World} {b : Nat} {M : α → Option Value} (h : MapIs P kt key dom w b M) (K : KeysAny P kt key dom) {t e : TypeId} (ht : P.underlying t = some (.map kt e)) :
    ∃ n : Nat, (∀ ty, (Builtin.len_ #[t] ty #[.map (some b)]).run P w = .ok (.int .i64 n) w) ∧ (0 < n ∨ n = 0 ∧ ∀ a, dom a → M a = none) := by
  obtain ⟨D, h1, h2, h3⟩ := h
  refine ⟨Maps.size D, fun ty => h1.len ht ty, ?_⟩
  by_cases hz : 0 < Maps.size D
  · exact Or.inl hz
  · refine Or.inr ⟨by omega, fun a ha => ?_⟩
    obtain ⟨kl, hkl⟩ := K.total a ha
    have e := (h2 a ha kl hkl).1
    have ht := h1.tidy K.law
    obtain ⟨es, rfl, hp⟩ := ht
    have hes : es = [] := List.eq_nil_of_length_eq_zero (by have : Maps.size (.map es) = es.length := rfl; omega)
    subst hes
    cases hM : M a with
    | none => rfl
    | some v => rw [hM] at e; simp [Maps.has_eq] at e
end
theorem FB.leafN {W w w0 : World} {L Z : List (Nat × Array Value)} {g : Nat} {n : NetV} {f o b : Nat} {M M' : MS} {k k' : Nat} {N : Nat} {vs : Array Value} (h : FB W L g n f o b M k w0 ((N, vs) :: Z) M' k' w) : ∃ N' w', N = N' ∧ w = w' ∧ FA W ((N', vs) :: L) g n f o b M' k' w' ∧ Near (Is3 f o b) w0.heap.size w0 w' := ⟨_, _, rfl, rfl, h.done, h.near⟩
/-- A memory stands beside a change of a map of the law's own. -/
theorem FA.turned {W w w' : World} {L : List (Nat × Array Value)} {g : Nat} {n : NetV} {f o b : Nat} {M : MS} {k c : Nat} (h : FA W L g n f o b M k w) (ht : w.mapTurned w' c) (h3 : ¬ Is3 f o b c) (hc : W.heap.size ≤ c) : FA W L g n f o b M k w' := by
  have st := StayOn.of_turned ht
  have hn : Near (fun x => x = c) w.heap.size w w' := Near.of_turned ht rfl
  have m := h.mem
  refine ⟨⟨((Near.of_below (p := fun x => x = c) h.box.bl).trans (hn.mono h.box.bl.size)).below (Nat.le_refl _) (fun x e => by rw [e]; exact hc), fun x hx => ⟨?_, Nat.lt_of_lt_of_le (h.box.bx x hx).2 hn.size⟩⟩,
    ⟨st _ _ trivial m.c0, st _ _ trivial m.c1, st _ _ trivial m.c2, st _ _ trivial m.c3, st _ _ trivial m.c4, ?_, m.mf.turned ht (fun e => h3 (Or.inl e.symm)), m.mo.turned ht (fun e => h3 (Or.inr (Or.inl e.symm))), m.mb.turned ht (fun e => h3 (Or.inr (Or.inr e.symm))), m.nfo, m.nfb, m.nob, m.lf, m.lo, m.lb, m.oo, m.ob⟩, h.ap, h.lo⟩
  · refine ⟨fun j v hv => st _ _ trivial ((h.box.bx x hx).1.1 j v hv), fun q => ?_⟩
    by_cases e : x.1 = c
    · obtain ⟨es, clock, es', clock', hb, rfl⟩ := ht
      have hb2 : (ChangeMaps.setBlock w c (Obj.map es' clock')).heap[c]? = some (.map es' clock') := (MapKept.heap_set (o' := .map es' clock') hb).1
      rw [e]
      simp [World.frozen?, hb2]
    · rw [hn.frozen (a := ⟨x.1, q, none⟩) (h.box.bx x hx).2 e]; exact (h.box.bx x hx).1.2 q
  · exact m.net.stay st (fun _ _ => trivial) (fun _ _ => trivial) (fun _ _ => ⟨fun _ _ => trivial, fun _ _ => trivial, fun _ _ => trivial⟩) ht.grown.size

/-! ### the nat's chain -/
def natD (ad : Int) (pl : Nat) : Dev := ⟨⟨#[]⟩, 4, ad, pl, [], [], []⟩
def natV (ad : Int) (pl : Nat) : DevV := ⟨⟨#[]⟩, 4, ad, pl, none, 0, 0, [], none, 0, 0, [], none, 0, 0, []⟩
theorem natAt (w : World) (B : Nat) (ad : Int) (pl : Nat) (had : i64ok ad) (hp : pl < 256) : DevAt w B (natV ad pl) :=
  ⟨Nat.zero_le _, by simp [natV, i64ok], had, hp, ⟨rfl, fun x hx => by simp [natV] at hx, fun h0 => absurd h0 (Nat.lt_irrefl _)⟩, ⟨rfl, fun r hr => by simp [natV] at hr, fun h0 => absurd h0 (Nat.lt_irrefl _)⟩, ⟨rfl, fun h0 => absurd h0 (Nat.lt_irrefl _)⟩, fun r hr => by simp [natV] at hr, by simp [natV], by simp [natV], by simp [natV]⟩
theorem nat_net {ad : Int} {pl : Nat} (h0 : 0 ≤ ad) (h1 : ad < 16) (hp : pl ≠ 0) : netE (chainD (natD ad pl)) chainL = 0 :=
  chain_net (natD ad pl) (by
    have e1 : (decide (0 ≤ ad) && decide (ad < 16)) = true := by simp [h0, h1]
    have e2 : ((pl != 0) != ((4 : Int) == 4)) = false := by simp [hp]
    simp [devE, natD, addrB, e1, e2, backsB, backsOk, checkF, chkF, hp, h0, h1]) rfl
def packV (u : Int × Int) : Value := .agg #[.int .i64 u.1, .int .i64 0, .int .i64 u.2, .int .i64 0]
structure NInv (M : MS) (Ow : Int → Option Value) (pl : Nat) : Prop where
  o : ∀ k u, M.O (1, k) = some u → 0 ≤ k ∧ k < 8 ∧ pl.testBit k.toNat = true ∧ Ow k = some (packV u)
  w : ∀ k v, Ow k = some v → ∃ u, M.O (1, k) = some u
theorem NInv.empty (pl : Nat) : NInv MS.empty (fun _ => none) pl := ⟨fun k u h => by simp [MS.empty] at h, fun k v h => by simp at h⟩
theorem MapIs.packs {ob : Nat} {Ow : Int → Option Value} {kk : Int} (u : Int × Int) (hk : i64ok kk) (h : Ow kk = none ∨ Ow kk = some (packV u)) :
    ∃ u1 u2 tb, (∀ w', MapIs Try.prog 3 intKey i64ok w' ob Ow → (Instr.lookup 88 (.map (some ob)) (.int .i64 kk) true).run Try.prog w' = .ok (.tuple #[.agg #[.int .i64 u1, .int .i64 0, .int .i64 u2, .int .i64 0], .bool tb]) w') ∧ (tb = true → u1 = u.1 ∧ u2 = u.2) := by
  have look := fun (w' : World) (hm : MapIs Try.prog 3 intKey i64ok w' ob Ow) => (hm.lookA intKeys Try.underlying88 (z := packV (0, 0)) (by kernel_rfl) hk).1
  rcases h with h | h
  · exact ⟨0, 0, false, fun w' hm => by have := look w' hm; rw [h] at this; exact this, fun e => by cases e⟩
  · exact ⟨u.1, u.2, true, fun w' hm => by have := look w' hm; rw [h] at this; exact this, fun _ => ⟨rfl, rfl⟩⟩
theorem NInv.keys {M : MS} {Ow : Int → Option Value} {pl : Nat} (h : NInv M Ow pl) : ∀ a, i64ok a → (Ow a).isSome = true → a ∈ ([0, 1, 2, 3, 4, 5, 6, 7] : List Int) := fun a _ ha => by
  obtain ⟨v, hv⟩ := Option.isSome_iff_exists.1 ha
  obtain ⟨u, hu⟩ := h.w a v hv
  obtain ⟨h0, h8, _, _⟩ := h.o a u hu
  simp only [List.mem_cons, List.not_mem_nil, or_false]
  omega
theorem mineG_spec (M : MS) (i : Int) (o : Int × Int) : ∀ (m k : Nat), (mineG M i o m k = -1 ∧ ∀ j : Nat, k ≤ j → j < k + m → M.O (i, (j : Int)) ≠ some o) ∨ ∃ j : Nat, k ≤ j ∧ j < k + m ∧ mineG M i o m k = (j : Int) ∧ M.O (i, (j : Int)) = some o
  | 0, k => Or.inl ⟨rfl, fun j h1 h2 => absurd h2 (by omega)⟩
  | m + 1, k => by
    by_cases h : M.O (i, (k : Int)) = some o
    · exact Or.inr ⟨k, Nat.le_refl _, by omega, by simp [mineG, h], h⟩
    · have e : mineG M i o (m + 1) k = mineG M i o m (k + 1) := by simp [mineG, h]
      rw [e]
      rcases mineG_spec M i o m (k + 1) with ⟨h1, h2⟩ | ⟨j, h1, h2, h3, h4⟩
      · refine Or.inl ⟨h1, fun j j1 j2 => ?_⟩
        by_cases hj : j = k
        · subst hj; exact h
        · exact h2 j (by omega) (by omega)
      · exact Or.inr ⟨j, by omega, by omega, h3, h4⟩
theorem mineF_spec (M : MS) (i : Int) (o : Int × Int) : (mineF M i o = -1 ∧ ∀ j : Int, 0 ≤ j → j < 8 → M.O (i, j) ≠ some o) ∨ (0 ≤ mineF M i o ∧ mineF M i o < 8 ∧ M.O (i, mineF M i o) = some o) := by
  rcases mineG_spec M i o 8 0 with ⟨h1, h2⟩ | ⟨j, h1, h2, h3, h4⟩
  · refine Or.inl ⟨h1, fun j j0 j1 => ?_⟩
    have := h2 j.toNat (by omega) (by omega)
    rwa [Int.toNat_of_nonneg j0] at this
  · refine Or.inr ⟨?_, ?_, ?_⟩
    · show 0 ≤ mineG M i o 8 0; omega
    · show mineG M i o 8 0 < 8; omega
    · show M.O (i, mineG M i o 8 0) = some o; rw [h3]; exact h4
/-- What goes out through the nat. -/
theorem nat_goes {ad : Int} {pl : Nat} {M : MS} {Ow : Int → Option Value} (hI : NInv M Ow pl) {p : P4} {ch : Int} (hp : rightB p = true) :
    (∃ e, e ≠ 0 ∧ handS (chainD (natD ad pl)) chainL M 1 0 p ch = .bad e) ∨
    ∃ k, 0 ≤ k ∧ k < 8 ∧ pl.testBit k.toNat = true ∧ handS (chainD (natD ad pl)) chainL M 1 0 p ch = ⟨0, (2, 0), ⟨ad, p.dst, k, p.dport⟩, .owner (1, k) (p.src, p.sport)⟩ ∧ (Ow k = none ∨ Ow k = some (packV (p.src, p.sport))) ∧
      NInv (M.learn (.owner (1, k) (p.src, p.sport))) (putM Ow k (packV (p.src, p.sport))) pl := by
  have step : ∀ k, 0 ≤ k → k < 8 → pl.testBit k.toNat = true → NInv (M.learn (.owner (1, k) (p.src, p.sport))) (putM Ow k (packV (p.src, p.sport))) pl := fun k h0 h8 hb =>
    ⟨fun j u hj => by
      simp only [MS.learn] at hj
      by_cases e : j = k
      · subst e
        rw [if_pos rfl] at hj
        obtain rfl := Option.some.inj hj
        exact ⟨h0, h8, hb, by simp [putM]⟩
      · rw [if_neg (by simp [e])] at hj
        obtain ⟨a, b, c, d⟩ := hI.o j u hj
        exact ⟨a, b, c, by simp [putM, e, d]⟩, fun j v hj => by
      by_cases e : j = k
      · subst e
        exact ⟨(p.src, p.sport), by simp [MS.learn]⟩
      · have : Ow j = some v := by simpa [putM, e] using hj
        obtain ⟨u, hu⟩ := hI.w j v this
        exact ⟨u, by simp [MS.learn, e, hu]⟩⟩
  rw [chain_hand _ _ _ _ _ (by simp [natD, portsF]) hp]
  have hout : outS ⟨⟨#[100]⟩, (natD ad pl).kind, (natD ad pl).addr, (natD ad pl).pool, (natD ad pl).backs, (natD ad pl).rules, (natD ad pl).routes⟩ M 1 0 p ch = natF ⟨⟨#[100]⟩, 4, ad, pl, [], [], []⟩ M 1 0 p ch := rfl
  rw [hout]
  rcases mineF_spec M 1 (p.src, p.sport) with ⟨h1, h2⟩ | ⟨h1, h2, h3⟩
  · by_cases hc : ch < 0 ∨ 8 ≤ ch ∨ hasBit pl ch = false
    · have e : natF ⟨⟨#[100]⟩, 4, ad, pl, [], [], []⟩ M 1 0 p ch = (.zero, false, 1) := by
        unfold natF
        rw [if_neg (by decide), if_neg (by omega), if_pos hc]
      rw [e]
      exact Or.inl ⟨1, by decide, by simp [goS]⟩
    · by_cases ht : (M.O (1, ch)).isSome = true
      · have e : natF ⟨⟨#[100]⟩, 4, ad, pl, [], [], []⟩ M 1 0 p ch = (.zero, false, 6) := by
          unfold natF
          rw [if_neg (by decide), if_neg (by omega), if_neg hc, if_pos ht]
        rw [e]
        exact Or.inl ⟨6, by decide, by simp [goS]⟩
      · have e : natF ⟨⟨#[100]⟩, 4, ad, pl, [], [], []⟩ M 1 0 p ch = (⟨1, ⟨ad, p.dst, ch, p.dport⟩, .owner (1, ch) (p.src, p.sport)⟩, true, 0) := by
          unfold natF
          rw [if_neg (by decide), if_neg (by omega), if_neg hc, if_neg ht]
        rw [e]
        simp only [not_or] at hc
        have hb : pl.testBit ch.toNat = true := by have := hc.2.2; simpa [hasBit] using this
        refine Or.inr ⟨ch, by omega, by omega, hb, by simp [goS, peer1], Or.inl ?_, step ch (by omega) (by omega) hb⟩
        cases hO : Ow ch with
        | none => rfl
        | some v =>
          obtain ⟨u, hu⟩ := hI.w ch v hO
          rw [hu] at ht
          simp at ht
  · have e : natF ⟨⟨#[100]⟩, 4, ad, pl, [], [], []⟩ M 1 0 p ch = (⟨1, ⟨ad, p.dst, mineF M 1 (p.src, p.sport), p.dport⟩, .owner (1, mineF M 1 (p.src, p.sport)) (p.src, p.sport)⟩, true, 0) := by
      unfold natF
      rw [if_neg (by decide), if_pos h1]
    rw [e]
    obtain ⟨_, _, hb, hw⟩ := hI.o _ _ h3
    exact Or.inr ⟨mineF M 1 (p.src, p.sport), h1, h2, hb, by simp [goS, peer1], Or.inr hw, step _ h1 h2 hb⟩
/-- What comes back through it. -/
theorem nat_comes {ad : Int} {pl : Nat} {M : MS} {k : Int} {p : P4} {ch : Int} {u : Int × Int} (hq : rightB ⟨p.dst, ad, p.dport, k⟩ = true) (hM : M.O (1, k) = some u) :
    handS (chainD (natD ad pl)) chainL M 1 1 ⟨p.dst, ad, p.dport, k⟩ ch = ⟨0, (0, 0), ⟨p.dst, u.1, p.dport, u.2⟩, .nothing⟩ := by
  rw [chain_hand _ _ _ _ _ (by simp [natD, portsF]) hq]
  simp [outS, natD, natF, goS, hM, peer0]
/-- The first one out. -/
theorem nat_first {ad : Int} {pl : Nat} {M : MS} {Ow : Int → Option Value} (hI : NInv M Ow pl) (hO : ∀ a, i64ok a → Ow a = none) (hb : pl.testBit 0 = true) :
    handS (chainD (natD ad pl)) chainL M 1 0 ⟨0, 0, 0, 0⟩ 0 = ⟨0, (2, 0), ⟨ad, 0, 0, 0⟩, .owner (1, 0) (0, 0)⟩ := by
  have hN : ∀ k, M.O (1, k) = none := fun k => by
    cases h : M.O (1, k) with
    | none => rfl
    | some u =>
      obtain ⟨a, b, _, d⟩ := hI.o k u h
      rw [hO k (by unfold i64ok; omega)] at d
      cases d
  rw [chain_hand _ _ _ _ _ (by simp [natD, portsF]) (by decide)]
  have hm : mineF M 1 (0, 0) = -1 := by
    rcases mineF_spec M 1 (0, 0) with ⟨h1, _⟩ | ⟨_, _, h3⟩
    · exact h1
    · rw [hN] at h3; cases h3
  simp [outS, natD, natF, goS, hm, hasBit, hb, hN, peer1]
end Go.Proofs.Ytidikopjfpioaaa
