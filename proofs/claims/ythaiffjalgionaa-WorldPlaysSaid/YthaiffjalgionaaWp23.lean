/- A part of the proof: LawSet, MindR, MindR2, MindR3. -/
import Derived.Test.YthaiffjalgionaaWp22

set_option linter.unusedVariables false
set_option linter.unusedSimpArgs false
namespace Go.Proofs.Ythaiffjalgionaa
open Go.RowKit Go.Maps

theorem BX.set {W w : World} {L : List (Nat × Array Value)} (h : BX W L w) (i : Nat) {N : Nat} {vs : Array Value} (hx : L[i]? = some (N, vs)) (hnd : ∀ j x, L[j]? = some x → j ≠ i → x.1 ≠ N) (hN : W.heap.size ≤ N) (j : Nat) (v : Value) :
    BX W (L.set i (N, vs.setIfInBounds j v)) (w.setCell ⟨N, j, none⟩ v) := by
  refine ⟨h.bl.setCell hN v, fun x hm => ?_⟩
  obtain ⟨q, hq⟩ := List.mem_iff_getElem?.1 hm
  have hsz : (w.setCell ⟨N, j, none⟩ v).heap.size = w.heap.size := by simp [World.setCell]
  by_cases e : q = i
  · subst e
    have hl : q < L.length := (List.getElem?_eq_some_iff.1 hx).1
    rw [List.getElem?_set_self hl] at hq
    obtain rfl := Option.some.inj hq
    obtain ⟨h1, h2⟩ := h.bx _ (List.mem_of_getElem? hx)
    exact ⟨h1.set j v, by rw [hsz]; exact h2⟩
  · rw [List.getElem?_set_ne (Ne.symm e)] at hq
    obtain ⟨h1, h2⟩ := h.bx _ (List.mem_of_getElem? hq)
    exact ⟨h1.far _ _ (Ne.symm (hnd q x hq e)), by rw [hsz]; exact h2⟩

theorem backsOk_mem : ∀ (l : List Int) (ad : Int) (pre : List Int), backsOk ad pre l = true → ∀ b ∈ l, 0 ≤ b ∧ b < 16
  | [], _, _, _, b, hb => by cases hb
  | x :: t, ad, pre, h, b, hb => by
    simp only [backsOk, Bool.and_eq_true, decide_eq_true_eq] at h
    rcases List.mem_cons.1 hb with rfl | hb
    · exact ⟨h.1.1.1.1, h.1.1.1.2⟩
    · exact backsOk_mem t ad _ h.2 b hb
end Go.Proofs.Ythaiffjalgionaa

set_option linter.unusedVariables false
set_option linter.unusedSimpArgs false
namespace Go.Proofs.Ythaiffjalgionaa
open Go.RowKit

theorem mem_addF {L : List FactV} {f x : FactV} : x ∈ addF L (some f) ↔ x ∈ L ∨ x = f := by
  simp only [addF]
  by_cases h : (L.any fun z => eqF f z) = true
  · rw [if_pos h]
    obtain ⟨z, hz, e⟩ := List.any_eq_true.1 h
    have := (eqF_iff f z).1 e
    subst this
    exact ⟨Or.inl, fun e => e.elim id (fun e => e ▸ hz)⟩
  · rw [if_neg h]; simp
theorem nodup_addF {L : List FactV} {f : FactV} (h : L.Nodup) : (addF L (some f)).Nodup := by
  simp only [addF]
  by_cases h1 : (L.any fun z => eqF f z) = true
  · rw [if_pos h1]; exact h
  · rw [if_neg h1, List.nodup_append]
    refine ⟨h, by simp, fun a ha b hb e => ?_⟩
    simp at hb
    subst hb
    subst e
    exact h1 (List.any_eq_true.2 ⟨a, ha, (eqF_iff _ _).2 rfl⟩)
theorem addF_len (L : List FactV) (k : Option FactV) : (addF L k).length ≤ L.length + 1 := by
  cases k with
  | none => simp [addF]
  | some f => simp only [addF]; split <;> simp
section
variable {ds : List Dev} {M : MS} {L : List FactV} {i : Int} {r : Dev}
theorem fnd_iff (q : FactV → Bool) (L : List FactV) : (fnd q L).isSome = true ↔ ∃ x ∈ L, q x = true := by
  rcases fnd_cases q L with ⟨k, f, _, _, hf, hq, e⟩ | ⟨_, hno, e⟩
  · rw [e]; exact ⟨fun _ => ⟨f, List.mem_of_getElem? hf, hq⟩, fun _ => rfl⟩
  · rw [e]; exact ⟨fun h => by simp at h, fun ⟨x, hx, hq⟩ => by rw [hno x hx] at hq; cases hq⟩
theorem fnd_some {q : FactV → Bool} {L : List FactV} {f : FactV} (h : fnd q L = some f) : f ∈ L ∧ q f = true := by
  rcases fnd_cases q L with ⟨k, f', _, _, hf, hq, e⟩ | ⟨_, _, e⟩
  · rw [e] at h; obtain rfl := Option.some.inj h; exact ⟨List.mem_of_getElem? hf, hq⟩
  · rw [e] at h; cases h
theorem fnd_none {q : FactV → Bool} {L : List FactV} (h : fnd q L = none) : ∀ x ∈ L, q x = false := by
  rcases fnd_cases q L with ⟨k, f', _, _, hf, hq, e⟩ | ⟨_, hno, e⟩
  · rw [e] at h; cases h
  · exact hno
theorem Rel.other (hi : 0 ≤ i) (hr : ds[i.toNat]? = some r) {j : Int} {s : Dev} (hj : 0 ≤ j) (hs : ds[j.toNat]? = some s) (hk : s.kind ≠ r.kind) : j ≠ i := fun e => by
  subst e
  rw [hr] at hs
  obtain rfl := Option.some.inj hs
  exact hk rfl
theorem Rel.flow (h : Rel ds M L) (hi : 0 ≤ i) (hr : ds[i.toNat]? = some r) (hk : r.kind = 3) (p : P4) : Rel ds (M.learn (.flow (i, p))) (addF L (some ⟨i, p, 0⟩)) where
  f j s hj hs hks q := by
    simp only [MS.learn]
    by_cases e : (j, q) = (i, p)
    · rw [if_pos e]
      simp only [Prod.mk.injEq] at e
      obtain ⟨rfl, rfl⟩ := e
      exact ⟨fun _ => ⟨0, mem_addF.2 (Or.inr rfl)⟩, fun _ => rfl⟩
    · rw [if_neg e, h.f j s hj hs hks q]
      exact ⟨fun ⟨n, hn⟩ => ⟨n, mem_addF.2 (Or.inl hn)⟩, fun ⟨n, hn⟩ => by
        rcases mem_addF.1 hn with hn | hn
        · exact ⟨n, hn⟩
        · simp only [FactV.mk.injEq] at hn
          exact absurd (by rw [hn.1, hn.2.1]) e⟩
  o j s hj hs hks k u := by
    have hne := Rel.other hi hr hj hs (by omega)
    simp only [MS.learn]
    rw [h.o j s hj hs hks k u, mem_addF]
    exact ⟨Or.inl, fun e => e.elim id (fun e => by simp only [FactV.mk.injEq] at e; exact absurd e.1 hne)⟩
  o2 j s hj hs hks x hx hxd := by
    have hne := Rel.other hi hr hj hs (by omega)
    rcases mem_addF.1 hx with hx | hx
    · exact h.o2 j s hj hs hks x hx hxd
    · rw [hx] at hxd; exact absurd hxd.symm hne
  ou j s hj hs hks k k' u := h.ou j s hj hs hks k k' u
  b j s hj hs hks q u := by
    have hne := Rel.other hi hr hj hs (by omega)
    simp only [MS.learn]
    rw [h.b j s hj hs hks q u, mem_addF]
    exact ⟨Or.inl, fun e => e.elim id (fun e => by simp only [FactV.mk.injEq] at e; exact absurd e.1 hne)⟩
  fz j s hj hs hks x hx hxd := by
    rcases mem_addF.1 hx with hx | hx
    · exact h.fz j s hj hs hks x hx hxd
    · rw [hx]
  nd := nodup_addF h.nd
theorem Rel.owner (h : Rel ds M L) (hi : 0 ≤ i) (hr : ds[i.toNat]? = some r) (hk : r.kind = 4) {k : Int} {o : Int × Int} (h0 : 0 ≤ k) (h8 : k < 8) (hfree : M.O (i, k) = none ∨ M.O (i, k) = some o) (huni : ∀ k', M.O (i, k') = some o → k' = k) : Rel ds (M.learn (.owner (i, k) o)) (addF L (some ⟨i, ⟨o.1, 0, o.2, 0⟩, k⟩)) where
  f j s hj hs hks q := by
    have hne := Rel.other hi hr hj hs (by omega)
    simp only [MS.learn]
    rw [h.f j s hj hs hks q]
    exact ⟨fun ⟨n, hn⟩ => ⟨n, mem_addF.2 (Or.inl hn)⟩, fun ⟨n, hn⟩ => by
      rcases mem_addF.1 hn with hn | hn
      · exact ⟨n, hn⟩
      · simp only [FactV.mk.injEq] at hn; exact absurd hn.1 hne⟩
  o j s hj hs hks k' u := by
    simp only [MS.learn]
    by_cases e : (j, k') = (i, k)
    · rw [if_pos e]
      simp only [Prod.mk.injEq] at e
      obtain ⟨rfl, rfl⟩ := e
      refine ⟨fun e => ?_, fun hm => ?_⟩
      · obtain rfl := Option.some.inj e; exact mem_addF.2 (Or.inr rfl)
      · rcases mem_addF.1 hm with hm | hm
        · have := (h.o j s hj hs hks k' u).2 hm
          rcases hfree with e | e
          · rw [e] at this; cases this
          · rw [e] at this; exact this
        · simp only [FactV.mk.injEq, P4.mk.injEq, true_and, and_true] at hm
          obtain ⟨h1, h2⟩ := hm
          rw [show u = o from Prod.ext h1 h2]
    · rw [if_neg e, h.o j s hj hs hks k' u, mem_addF]
      exact ⟨Or.inl, fun e2 => e2.elim id (fun e2 => by simp only [FactV.mk.injEq] at e2; exact absurd (by rw [e2.1, e2.2.2]) e)⟩
  o2 j s hj hs hks x hx hxd := by
    rcases mem_addF.1 hx with hx | hx
    · exact h.o2 j s hj hs hks x hx hxd
    · rw [hx]; exact ⟨rfl, rfl, h0, h8⟩
  ou j s hj hs hks a b u ha hb := by
    simp only [MS.learn] at ha hb
    by_cases e1 : (j, a) = (i, k) <;> by_cases e2 : (j, b) = (i, k)
    · simp only [Prod.mk.injEq] at e1 e2; omega
    · rw [if_pos e1] at ha
      rw [if_neg e2] at hb
      obtain rfl := Option.some.inj ha
      simp only [Prod.mk.injEq] at e1
      obtain ⟨rfl, rfl⟩ := e1
      exact (huni b hb).symm
    · rw [if_neg e1] at ha
      rw [if_pos e2] at hb
      obtain rfl := Option.some.inj hb
      simp only [Prod.mk.injEq] at e2
      obtain ⟨rfl, rfl⟩ := e2
      exact huni a ha
    · rw [if_neg e1] at ha
      rw [if_neg e2] at hb
      exact h.ou j s hj hs hks a b u ha hb
  b j s hj hs hks q u := by
    have hne := Rel.other hi hr hj hs (by omega)
    simp only [MS.learn]
    rw [h.b j s hj hs hks q u, mem_addF]
    exact ⟨Or.inl, fun e => e.elim id (fun e => by simp only [FactV.mk.injEq] at e; exact absurd e.1 hne)⟩
  fz j s hj hs hks x hx hxd := by
    have hne := Rel.other hi hr hj hs (by omega)
    rcases mem_addF.1 hx with hx | hx
    · exact h.fz j s hj hs hks x hx hxd
    · rw [hx] at hxd; exact absurd hxd.symm hne
  nd := nodup_addF h.nd
theorem Rel.back (h : Rel ds M L) (hi : 0 ≤ i) (hr : ds[i.toNat]? = some r) (hk : r.kind = 5) {p : P4} {b : Int} (hfree : M.B (i, p) = none ∨ M.B (i, p) = some b) : Rel ds (M.learn (.back (i, p) b)) (addF L (some ⟨i, p, b⟩)) where
  f j s hj hs hks q := by
    have hne := Rel.other hi hr hj hs (by omega)
    simp only [MS.learn]
    rw [h.f j s hj hs hks q]
    exact ⟨fun ⟨n, hn⟩ => ⟨n, mem_addF.2 (Or.inl hn)⟩, fun ⟨n, hn⟩ => by
      rcases mem_addF.1 hn with hn | hn
      · exact ⟨n, hn⟩
      · simp only [FactV.mk.injEq] at hn; exact absurd hn.1 hne⟩
  o j s hj hs hks k u := by
    have hne := Rel.other hi hr hj hs (by omega)
    simp only [MS.learn]
    rw [h.o j s hj hs hks k u, mem_addF]
    exact ⟨Or.inl, fun e => e.elim id (fun e => by simp only [FactV.mk.injEq] at e; exact absurd e.1 hne)⟩
  o2 j s hj hs hks x hx hxd := by
    have hne := Rel.other hi hr hj hs (by omega)
    rcases mem_addF.1 hx with hx | hx
    · exact h.o2 j s hj hs hks x hx hxd
    · rw [hx] at hxd; exact absurd hxd.symm hne
  ou j s hj hs hks k k' u := h.ou j s hj hs hks k k' u
  b j s hj hs hks q u := by
    simp only [MS.learn]
    by_cases e : (j, q) = (i, p)
    · rw [if_pos e]
      simp only [Prod.mk.injEq] at e
      obtain ⟨rfl, rfl⟩ := e
      refine ⟨fun e => ?_, fun hm => ?_⟩
      · obtain rfl := Option.some.inj e; exact mem_addF.2 (Or.inr rfl)
      · rcases mem_addF.1 hm with hm | hm
        · have := (h.b j s hj hs hks q u).2 hm
          rcases hfree with e | e
          · rw [e] at this; cases this
          · rw [e] at this; exact this
        · simp only [FactV.mk.injEq, true_and] at hm
          rw [hm]
    · rw [if_neg e, h.b j s hj hs hks q u, mem_addF]
      exact ⟨Or.inl, fun e2 => e2.elim id (fun e2 => by simp only [FactV.mk.injEq] at e2; exact absurd (by rw [e2.1, e2.2.1]) e)⟩
  fz j s hj hs hks x hx hxd := by
    have hne := Rel.other hi hr hj hs (by omega)
    rcases mem_addF.1 hx with hx | hx
    · exact h.fz j s hj hs hks x hx hxd
    · rw [hx] at hxd; exact absurd hxd.symm hne
  nd := nodup_addF h.nd
end
end Go.Proofs.Ythaiffjalgionaa

set_option linter.unusedVariables false
set_option linter.unusedSimpArgs false
namespace Go.Proofs.Ythaiffjalgionaa
open Go.RowKit

structure Step (ds : List Dev) (M : MS) (L : List FactV) (x : GoneS × Bool × Int) (X : MG) : Prop where
  e : X.e = x.2.2
  ok : x.2.2 = 0 → X.ok = x.2.1
  go : x.2.2 = 0 → x.2.1 = true → X.port = x.1.port ∧ X.q = x.1.q ∧ Rel ds (M.learn x.1.kn) (addF L X.kn)
theorem Step.hand {ds : List Dev} {ls : List LinkV} {M : MS} {L : List FactV} {x : GoneS × Bool × Int} {X : MG} {i : Int} (h : Step ds M L x X) (hR : Rel ds M L) : (mGo ls L i X).1.val = (goS ls i x).val ∧ Rel ds (M.learn (goS ls i x).kn) (mGo ls L i X).2 := by
  unfold mGo goS
  rw [h.e]
  by_cases he : x.2.2 = 0
  · rw [if_neg (by simpa using he), if_neg (by simpa using he)]
    cases hok : x.2.1
    · have hX : X.ok = false := (h.ok he).trans hok
      rw [hX]
      cases peerF ls (i, X.port) <;> cases peerF ls (i, x.1.port) <;> exact ⟨rfl, hR⟩
    · have hX : X.ok = true := (h.ok he).trans hok
      obtain ⟨h1, h2, h3⟩ := h.go he hok
      rw [hX, h1, h2]
      cases peerF ls (i, x.1.port) with
      | none => exact ⟨rfl, hR⟩
      | some to => exact ⟨rfl, h3⟩
  · rw [if_pos (by simpa using he), if_pos (by simpa using he)]
    exact ⟨rfl, hR⟩
theorem and_eq {d i : Int} {a b : P4} : ((d == i && eq4 a b) = true) ↔ d = i ∧ a = b := by simp [eq4_iff]
theorem and_n {d i a b : Int} : ((d == i && a == b) = true) ↔ d = i ∧ a = b := by simp
section
variable {ds : List Dev} {M : MS} {L : List FactV} {i y : Int} {r : Dev} {p : P4} {ch : Int}
theorem step_fire (h : Rel ds M L) (hi : 0 ≤ i) (hr : ds[i.toNat]? = some r) (hk : r.kind = 3) (hy : y = 0 ∨ y = 1) : Step ds M L ((fireF r M i y p).1, (fireF r M i y p).2, 0) (mFire r L i y p) := by
  rcases hy with rfl | rfl
  · refine ⟨rfl, fun _ => rfl, fun _ _ => ⟨rfl, rfl, h.flow hi hr hk p⟩⟩
  · refine ⟨rfl, fun _ => ?_, fun _ _ => ⟨rfl, rfl, h⟩⟩
    show (fnd (fun x => x.d == i && eq4 x.p (flipP p)) L).isSome = M.F (i, flipP p)
    rw [Bool.eq_iff_iff, fnd_iff, h.f i r hi hr hk]
    exact ⟨fun ⟨x, hx, e⟩ => ⟨x.n, by obtain ⟨e1, e2⟩ := and_eq.1 e; obtain ⟨a, b, c⟩ := x; simp only at e1 e2; subst e1 e2; exact hx⟩, fun ⟨n, hn⟩ => ⟨_, hn, and_eq.2 ⟨rfl, rfl⟩⟩⟩
theorem own_iff (h : Rel ds M L) (hi : 0 ≤ i) (hr : ds[i.toNat]? = some r) (hk : r.kind = 4) {f : FactV} (hf : f ∈ L) (hd : f.d = i) : M.O (i, f.n) = some (f.p.src, f.p.sport) := by
  obtain ⟨h1, h2, _, _⟩ := h.o2 i r hi hr hk f hf hd
  rw [h.o i r hi hr hk]
  obtain ⟨d, ⟨a, b, c, e⟩, n⟩ := f
  simp only at h1 h2 hd ⊢
  subst h1 h2 hd
  exact hf
theorem step_nat1 (h : Rel ds M L) (hi : 0 ≤ i) (hr : ds[i.toNat]? = some r) (hk : r.kind = 4) : Step ds M L (natF r M i 1 p ch) (mNat r L i 1 p ch) := by
  unfold natF mNat
  rw [if_pos rfl, if_pos rfl]
  cases hf : fnd (fun x => x.d == i && x.n == p.dport) L with
  | some f =>
    obtain ⟨hm, hq⟩ := fnd_some hf
    obtain ⟨e1, e2⟩ := and_n.1 hq
    have ho := own_iff h hi hr hk hm e1
    rw [e2] at ho
    simp only [ho]
    by_cases hd : p.dst = r.addr
    · rw [if_pos hd, if_neg (by simpa using hd)]
      exact ⟨rfl, fun _ => rfl, fun _ _ => ⟨rfl, rfl, h⟩⟩
    · rw [if_neg hd, if_pos hd]
      exact ⟨rfl, fun _ => rfl, fun _ e => by cases e⟩
  | none =>
    have hno := fnd_none hf
    have ho : M.O (i, p.dport) = none := by
      cases hO : M.O (i, p.dport) with
      | none => rfl
      | some u =>
        have := hno _ ((h.o i r hi hr hk _ _).1 hO)
        simp at this
    simp only [ho]
    split
    · exact ⟨rfl, fun _ => rfl, fun _ e => by cases e⟩
    · exact ⟨rfl, fun _ => rfl, fun _ e => by cases e⟩
theorem step_nat0 (h : Rel ds M L) (hi : 0 ≤ i) (hr : ds[i.toNat]? = some r) (hk : r.kind = 4) : Step ds M L (natF r M i 0 p ch) (mNat r L i 0 p ch) := by
  unfold natF mNat
  rw [if_neg (show ¬ (0 : Int) = 1 by decide), if_neg (show ¬ (0 : Int) = 1 by decide)]
  cases hf : fnd (fun x => x.d == i && eq4 x.p ⟨p.src, 0, p.sport, 0⟩) L with
  | some f =>
    obtain ⟨hm, hq⟩ := fnd_some hf
    obtain ⟨e1, e2⟩ := and_eq.1 hq
    have ho := own_iff h hi hr hk hm e1
    obtain ⟨_, _, g0, g8⟩ := h.o2 i r hi hr hk f hm e1
    rw [e2] at ho
    simp only at ho
    rcases mineF_spec M i (p.src, p.sport) with ⟨h1, h2⟩ | ⟨h1, h2, h3⟩
    · exact absurd ho (h2 f.n g0 g8)
    · have e3 : mineF M i (p.src, p.sport) = f.n := h.ou i r hi hr hk _ _ _ h3 ho
      rw [if_pos h1, e3]
      exact ⟨rfl, fun _ => rfl, fun _ _ => ⟨rfl, rfl, h.owner hi hr hk g0 g8 (Or.inr ho) (fun k' hk' => h.ou i r hi hr hk _ _ _ hk' ho)⟩⟩
  | none =>
    have hno := fnd_none hf
    have hnone : ∀ k, M.O (i, k) ≠ some (p.src, p.sport) := fun k hO => by
      have := hno _ ((h.o i r hi hr hk _ _).1 hO)
      simp [eq4] at this
    rcases mineF_spec M i (p.src, p.sport) with ⟨h1, h2⟩ | ⟨h1, h2, h3⟩
    · rw [if_neg (by omega)]
      simp only
      by_cases hin : inR ch 0 7 = false
      · rw [if_pos hin, if_pos (by simp only [inR, Bool.and_eq_false_iff, decide_eq_false_iff_not] at hin; omega)]
        exact ⟨rfl, fun e => (by cases e), fun e => (by cases e)⟩
      · rw [if_neg hin]
        have hin2 : 0 ≤ ch ∧ ch < 8 := by simp only [inR, Bool.not_eq_false, Bool.and_eq_true, decide_eq_true_eq] at hin; omega
        have hbb : hasB r.pool ch = hasBit r.pool ch := by
          have a1 : decide (0 ≤ ch) = true := by simpa using hin2.1
          have a2 : decide (ch < 16) = true := by simp; omega
          simp [hasB, hasBit, a1, a2]
        by_cases hb : hasB r.pool ch = false
        · rw [if_pos hb, if_pos (Or.inr (Or.inr (hbb ▸ hb)))]
          exact ⟨rfl, fun e => (by cases e), fun e => (by cases e)⟩
        · rw [if_neg hb, if_neg (by rw [← hbb]; rintro (e | e | e); omega; omega; exact hb e)]
          have hiff : (fnd (fun x => x.d == i && x.n == ch) L).isSome = (M.O (i, ch)).isSome := by
            rw [Bool.eq_iff_iff, fnd_iff]
            constructor
            · rintro ⟨x, hx, e⟩
              obtain ⟨e1, e2⟩ := and_n.1 e
              have := own_iff h hi hr hk hx e1
              rw [e2] at this
              rw [this]; rfl
            · intro e
              obtain ⟨u, hu⟩ := Option.isSome_iff_exists.1 e
              exact ⟨_, (h.o i r hi hr hk _ _).1 hu, by simp⟩
          rw [hiff]
          cases hO : (M.O (i, ch)).isSome
          · rw [if_neg (by simp), if_neg (by simp)]
            refine ⟨rfl, fun _ => rfl, fun _ _ => ⟨rfl, rfl, h.owner hi hr hk hin2.1 hin2.2 (Or.inl (by simpa using hO)) (fun k' hk' => absurd hk' (hnone k'))⟩⟩
          · rw [if_pos rfl, if_pos rfl]
            exact ⟨rfl, fun e => (by cases e), fun e => (by cases e)⟩
    · exact absurd h3 (hnone _)
theorem back_iff (h : Rel ds M L) (hi : 0 ≤ i) (hr : ds[i.toNat]? = some r) (hk : r.kind = 5) {f : FactV} (hf : f ∈ L) (hd : f.d = i) : M.B (i, f.p) = some f.n := by
  rw [h.b i r hi hr hk]
  obtain ⟨d, q, n⟩ := f
  simp only at hd ⊢
  subst hd
  exact hf
theorem step_bal1 (h : Rel ds M L) (hi : 0 ≤ i) (hr : ds[i.toNat]? = some r) (hk : r.kind = 5) : Step ds M L ((balF r M i 1 p ch).1, decide ((balF r M i 1 p ch).2 = 0), (balF r M i 1 p ch).2) (mBal r L i 1 p ch) := by
  have hiff : (fnd (fun x => x.d == i && (eq4 x.p ⟨p.dst, r.addr, p.dport, p.sport⟩ && x.n == p.src)) L).isSome = decide (M.B (i, ⟨p.dst, r.addr, p.dport, p.sport⟩) = some p.src) := by
    rw [Bool.eq_iff_iff, fnd_iff, decide_eq_true_eq]
    constructor
    · rintro ⟨x, hx, e⟩
      simp only [Bool.and_eq_true, beq_iff_eq, eq4_iff] at e
      have := back_iff h hi hr hk hx e.1
      rw [e.2.1, e.2.2] at this
      exact this
    · intro e
      exact ⟨_, (h.b i r hi hr hk _ _).1 e, by simp [eq4]⟩
  unfold balF mBal
  rw [if_pos rfl, if_pos rfl, hiff]
  by_cases e : M.B (i, ⟨p.dst, r.addr, p.dport, p.sport⟩) = some p.src
  · simp only [e, decide_true, if_true]
    exact ⟨rfl, fun _ => by simp, fun _ _ => ⟨rfl, rfl, h⟩⟩
  · simp only [e, decide_false, Bool.false_eq_true, if_false]
    exact ⟨rfl, fun _ => by simp, fun _ _ => ⟨rfl, rfl, h⟩⟩
theorem step_bal0 (h : Rel ds M L) (hi : 0 ≤ i) (hr : ds[i.toNat]? = some r) (hk : r.kind = 5) : Step ds M L ((balF r M i 0 p ch).1, decide ((balF r M i 0 p ch).2 = 0), (balF r M i 0 p ch).2) (mBal r L i 0 p ch) := by
  unfold balF mBal
  rw [if_neg (show ¬ (0 : Int) = 1 by decide), if_neg (show ¬ (0 : Int) = 1 by decide)]
  by_cases hd : p.dst ≠ r.addr
  · rw [if_pos hd, if_pos hd]
    exact ⟨rfl, fun _ => by simp, fun _ _ => ⟨rfl, rfl, h⟩⟩
  · rw [if_neg hd, if_neg hd]
    cases hf : fnd (fun x => x.d == i && eq4 x.p p) L with
    | some f =>
      obtain ⟨hm, hq⟩ := fnd_some hf
      obtain ⟨e1, e2⟩ := and_eq.1 hq
      have hb := back_iff h hi hr hk hm e1
      rw [e2] at hb
      simp only [hb]
      exact ⟨rfl, fun _ => by simp, fun _ _ => ⟨rfl, rfl, h.back hi hr hk (Or.inr hb)⟩⟩
    | none =>
      have hno := fnd_none hf
      have hb : M.B (i, p) = none := by
        cases hB : M.B (i, p) with
        | none => rfl
        | some u =>
          have := hno _ ((h.b i r hi hr hk _ _).1 hB)
          simp [eq4] at this
      simp only [hb]
      have hsel : (if inR ch 0 ((r.backs.length : Int) - 1) = false then none else r.backs[ch.toNat]?) = (if ch < 0 then none else r.backs[ch.toNat]?) := by
        by_cases h0 : ch < 0
        · rw [if_pos h0, if_pos (by simp [inR]; omega)]
        · rw [if_neg h0]
          by_cases h1 : ch < r.backs.length
          · rw [if_neg (by simp [inR]; omega)]
          · rw [if_pos (by simp [inR]; omega), List.getElem?_eq_none (by omega)]
      rw [hsel]
      cases hs : (if ch < 0 then none else r.backs[ch.toNat]?) with
      | some bk => exact ⟨rfl, fun _ => by simp, fun _ _ => ⟨rfl, rfl, h.back hi hr hk (Or.inl hb)⟩⟩
      | none => exact ⟨rfl, fun e => (by cases e), fun e => (by cases e)⟩
theorem rel_hand {ls : List LinkV} (h : Rel ds M L) : (mindS ds ls L i y p ch).1.val = (handS ds ls M i y p ch).val ∧ Rel ds (M.learn (handS ds ls M i y p ch).kn) (mindS ds ls L i y p ch).2 := by
  cases hpl : placeB ds (i, y)
  · rw [mindS_place hpl, handS_place hpl]; exact ⟨rfl, h⟩
  cases hrp : rightB p
  · rw [mindS_right hpl hrp, handS_right hpl hrp]; exact ⟨rfl, h⟩
  have h1 := placeB_iff.1 hpl
  simp only at h1
  obtain ⟨r, hr⟩ : ∃ r, ds[i.toNat]? = some r := ⟨_, List.getElem?_eq_getElem (by omega)⟩
  rw [mindS_go hpl hrp hr, handS_go hpl hrp hr]
  have hka : kindAt ds i = r.kind := by simp [kindAt, hr]
  rw [hka] at h1
  have hi := h1.1.1
  have two : r.kind = 3 ∨ r.kind = 4 ∨ r.kind = 5 → y = 0 ∨ y = 1 := fun e => by
    have : portsF r.kind = 2 := by rcases e with e | e | e <;> rw [e] <;> rfl
    omega
  refine Step.hand ?_ h
  unfold mS outS
  by_cases k2 : r.kind = 2
  · rw [if_pos k2, if_pos k2]
    exact ⟨rfl, fun _ => rfl, fun _ _ => ⟨rfl, rfl, h⟩⟩
  rw [if_neg k2, if_neg k2]
  by_cases k3 : r.kind = 3
  · rw [if_pos k3, if_pos k3]
    exact step_fire h hi hr k3 (two (Or.inl k3))
  rw [if_neg k3, if_neg k3]
  by_cases k4 : r.kind = 4
  · rw [if_pos k4, if_pos k4]
    rcases two (Or.inr (Or.inl k4)) with rfl | rfl
    · exact step_nat0 h hi hr k4
    · exact step_nat1 h hi hr k4
  rw [if_neg k4, if_neg k4]
  by_cases k5 : r.kind = 5
  · rw [if_pos k5, if_pos k5]
    rcases two (Or.inr (Or.inr k5)) with rfl | rfl
    · exact step_bal0 h hi hr k5
    · exact step_bal1 h hi hr k5
  rw [if_neg k5, if_neg k5]
  exact ⟨rfl, fun _ => rfl, fun _ e => by cases e⟩
end
end Go.Proofs.Ythaiffjalgionaa

set_option linter.unusedVariables false
set_option linter.unusedSimpArgs false
namespace Go.Proofs.Ythaiffjalgionaa
open Go.RowKit

def cutL (L : List FactV) (k : Nat) : List FactV := L.take k ++ L.drop (k + 1)
theorem cutL_cons {x : FactV} {L : List FactV} {k : Nat} : cutL (x :: L) (k + 1) = x :: cutL L k := by simp [cutL]
theorem cutL_zero {x : FactV} {L : List FactV} : cutL (x :: L) 0 = L := by simp [cutL]
theorem mem_cutL {L : List FactV} {k : Nat} {f : FactV} (hn : L.Nodup) (hf : L[k]? = some f) (x : FactV) : x ∈ cutL L k ↔ x ∈ L ∧ x ≠ f := by
  induction L generalizing k with
  | nil => simp at hf
  | cons a L ih =>
    have hn2 := List.nodup_cons.1 hn
    cases k with
    | zero =>
      have e : a = f := by simpa using hf
      subst e
      rw [cutL_zero, List.mem_cons]
      exact ⟨fun h => ⟨Or.inr h, fun e => hn2.1 (e ▸ h)⟩, fun ⟨h, e⟩ => h.resolve_left e⟩
    | succ k =>
      have hf2 : L[k]? = some f := by simpa using hf
      have hfm : f ∈ L := List.mem_of_getElem? hf2
      rw [cutL_cons, List.mem_cons, ih hn2.2 hf2, List.mem_cons]
      constructor
      · rintro (e | ⟨h, e⟩)
        · exact ⟨Or.inl e, fun e2 => hn2.1 (by rw [← e, e2]; exact hfm)⟩
        · exact ⟨Or.inr h, e⟩
      · rintro ⟨e | h, e2⟩
        · exact Or.inl e
        · exact Or.inr ⟨h, e2⟩
theorem nodup_cutL {L : List FactV} {k : Nat} (hn : L.Nodup) : (cutL L k).Nodup := by
  induction L generalizing k with
  | nil => simp [cutL]
  | cons a L ih =>
    have hn2 := List.nodup_cons.1 hn
    cases k with
    | zero => rw [cutL_zero]; exact hn2.2
    | succ k =>
      rw [cutL_cons]
      refine List.nodup_cons.2 ⟨fun h => hn2.1 ?_, ih hn2.2⟩
      rcases List.mem_append.1 h with h | h
      · exact List.mem_of_mem_take h
      · exact List.mem_of_mem_drop h
section
variable {ds : List Dev} {M : MS} {L L' : List FactV} {i q : Int} {r : Dev} {p : P4}
theorem Rel.dropF (h : Rel ds M L) (hi : 0 ≤ i) (hr : ds[i.toNat]? = some r) (hk : r.kind = 3) (hm : ∀ x, x ∈ L' ↔ x ∈ L ∧ ¬ (x.d = i ∧ x.p = p)) (hn : L'.Nodup) : Rel ds (M.drop (.flow (i, p))) L' where
  f j s hj hs hks u := by
    simp only [MS.drop]
    by_cases e : (j, u) = (i, p)
    · rw [if_pos e]
      simp only [Prod.mk.injEq] at e
      exact ⟨fun c => (by cases c), fun ⟨n, hn⟩ => absurd e ((hm _).1 hn).2⟩
    · rw [if_neg e, h.f j s hj hs hks u]
      exact ⟨fun ⟨n, hn⟩ => ⟨n, (hm _).2 ⟨hn, fun c => e (Prod.mk.injEq _ _ _ _ ▸ c)⟩⟩, fun ⟨n, hn⟩ => ⟨n, ((hm _).1 hn).1⟩⟩
  o j s hj hs hks k u := by
    have hne := Rel.other hi hr hj hs (by omega)
    simp only [MS.drop]
    rw [h.o j s hj hs hks k u, hm]
    exact ⟨fun e => ⟨e, fun c => hne c.1⟩, fun e => e.1⟩
  o2 j s hj hs hks x hx hxd := h.o2 j s hj hs hks x ((hm x).1 hx).1 hxd
  ou j s hj hs hks k k' u := h.ou j s hj hs hks k k' u
  b j s hj hs hks u v := by
    have hne := Rel.other hi hr hj hs (by omega)
    simp only [MS.drop]
    rw [h.b j s hj hs hks u v, hm]
    exact ⟨fun e => ⟨e, fun c => hne c.1⟩, fun e => e.1⟩
  fz j s hj hs hks x hx hxd := h.fz j s hj hs hks x ((hm x).1 hx).1 hxd
  nd := hn
theorem Rel.dropO (h : Rel ds M L) (hi : 0 ≤ i) (hr : ds[i.toNat]? = some r) (hk : r.kind = 4) (hm : ∀ x, x ∈ L' ↔ x ∈ L ∧ ¬ (x.d = i ∧ x.n = q)) (hn : L'.Nodup) : Rel ds (M.drop (.owner (i, q))) L' where
  f j s hj hs hks u := by
    have hne := Rel.other hi hr hj hs (by omega)
    simp only [MS.drop]
    rw [h.f j s hj hs hks u]
    exact ⟨fun ⟨n, hn⟩ => ⟨n, (hm _).2 ⟨hn, fun c => hne c.1⟩⟩, fun ⟨n, hn⟩ => ⟨n, ((hm _).1 hn).1⟩⟩
  o j s hj hs hks k u := by
    simp only [MS.drop]
    by_cases e : (j, k) = (i, q)
    · rw [if_pos e]
      simp only [Prod.mk.injEq] at e
      exact ⟨fun c => (by cases c), fun hn => absurd e ((hm _).1 hn).2⟩
    · rw [if_neg e, h.o j s hj hs hks k u, hm]
      exact ⟨fun c => ⟨c, fun c2 => e (by simpa using c2)⟩, fun c => c.1⟩
  o2 j s hj hs hks x hx hxd := h.o2 j s hj hs hks x ((hm x).1 hx).1 hxd
  ou j s hj hs hks k k' u h1 h2 := by
    simp only [MS.drop] at h1 h2
    by_cases e : (j, k) = (i, q)
    · rw [if_pos e] at h1; cases h1
    · by_cases e2 : (j, k') = (i, q)
      · rw [if_pos e2] at h2; cases h2
      · rw [if_neg e] at h1; rw [if_neg e2] at h2
        exact h.ou j s hj hs hks k k' u h1 h2
  b j s hj hs hks u v := by
    have hne := Rel.other hi hr hj hs (by omega)
    simp only [MS.drop]
    rw [h.b j s hj hs hks u v, hm]
    exact ⟨fun e => ⟨e, fun c => hne c.1⟩, fun e => e.1⟩
  fz j s hj hs hks x hx hxd := h.fz j s hj hs hks x ((hm x).1 hx).1 hxd
  nd := hn
theorem Rel.dropB (h : Rel ds M L) (hi : 0 ≤ i) (hr : ds[i.toNat]? = some r) (hk : r.kind = 5) (hm : ∀ x, x ∈ L' ↔ x ∈ L ∧ ¬ (x.d = i ∧ x.p = p)) (hn : L'.Nodup) : Rel ds (M.drop (.back (i, p))) L' where
  f j s hj hs hks u := by
    have hne := Rel.other hi hr hj hs (by omega)
    simp only [MS.drop]
    rw [h.f j s hj hs hks u]
    exact ⟨fun ⟨n, hn⟩ => ⟨n, (hm _).2 ⟨hn, fun c => hne c.1⟩⟩, fun ⟨n, hn⟩ => ⟨n, ((hm _).1 hn).1⟩⟩
  o j s hj hs hks k u := by
    have hne := Rel.other hi hr hj hs (by omega)
    simp only [MS.drop]
    rw [h.o j s hj hs hks k u, hm]
    exact ⟨fun e => ⟨e, fun c => hne c.1⟩, fun e => e.1⟩
  o2 j s hj hs hks x hx hxd := h.o2 j s hj hs hks x ((hm x).1 hx).1 hxd
  ou j s hj hs hks k k' u := h.ou j s hj hs hks k k' u
  b j s hj hs hks u v := by
    simp only [MS.drop]
    by_cases e : (j, u) = (i, p)
    · rw [if_pos e]
      simp only [Prod.mk.injEq] at e
      exact ⟨fun c => (by cases c), fun hn => absurd e ((hm _).1 hn).2⟩
    · rw [if_neg e, h.b j s hj hs hks u v, hm]
      exact ⟨fun c => ⟨c, fun c2 => e (by simpa using c2)⟩, fun c => c.1⟩
  fz j s hj hs hks x hx hxd := h.fz j s hj hs hks x ((hm x).1 hx).1 hxd
  nd := hn
theorem rel_forget (h : Rel ds M L) : (forgetM ds L i p q).1 = (forgetS ds M i p q).1 ∧ Rel ds (forgetS ds M i p q).2 (forgetM ds L i p q).2 := by
  unfold forgetM forgetS
  by_cases h0 : i < 0
  · rw [if_pos h0, if_pos (by simp only [inR, Bool.and_eq_false_iff, decide_eq_false_iff_not]; omega)]
    exact ⟨rfl, h⟩
  rw [if_neg h0]
  have hi : 0 ≤ i := by omega
  by_cases h1 : inR i 0 ((ds.length : Int) - 1) = false
  · rw [if_pos h1, List.getElem?_eq_none (by simp only [inR, Bool.and_eq_false_iff, decide_eq_false_iff_not] at h1; omega)]
    exact ⟨rfl, h⟩
  rw [if_neg h1]
  cases hr : ds[i.toNat]? with
  | none => exact ⟨rfl, h⟩
  | some r =>
    simp only
    by_cases k3 : r.kind = 3
    · rw [if_pos k3, if_neg (by rw [k3]; decide)]
      rcases idxF_cases (fun x : FactV => x.d == i && ((r.kind == 4 && x.n == q) || (r.kind != 4 && eq4 x.p p))) L with ⟨k, f, e, hk, hf, hq, _⟩ | ⟨e, hno⟩
      · rw [e, if_neg (by omega)]
        have hm := List.mem_of_getElem? hf
        obtain ⟨d1, d2⟩ : f.d = i ∧ f.p = p := by simpa [k3, eq4_iff] using hq
        have hF : M.F (i, p) = true := (h.f i r hi hr k3 p).2 ⟨f.n, by rw [← d1, ← d2]; exact hm⟩
        rw [if_pos hF]
        refine ⟨rfl, h.dropF hi hr k3 (fun x => ?_) (nodup_cutL (k := k) h.nd)⟩
        refine (mem_cutL h.nd hf x).trans ⟨fun ⟨a, b⟩ => ⟨a, fun c => b ?_⟩, fun ⟨a, b⟩ => ⟨a, fun c => b (by rw [c]; exact ⟨d1, d2⟩)⟩⟩
        have z1 := h.fz i r hi hr k3 x a c.1
        have z2 := h.fz i r hi hr k3 f hm d1
        obtain ⟨x1, x2, x3⟩ := x
        obtain ⟨f1, f2, f3⟩ := f
        simp only at z1 z2 d1 d2 c
        rw [z1, z2, d1, d2, c.1, c.2]
      · rw [e, if_pos (by omega)]
        have hp : ∀ x ∈ L, ¬ (x.d = i ∧ x.p = p) := fun x hx c => by
          have := hno x hx
          simp [k3, c.1, c.2, show eq4 p p = true from (eq4_iff p p).2 rfl] at this
        have hF : M.F (i, p) ≠ true := fun c => by
          obtain ⟨n, hn⟩ := (h.f i r hi hr k3 p).1 c
          exact hp _ hn ⟨rfl, rfl⟩
        rw [if_neg hF]
        exact ⟨rfl, h.dropF hi hr k3 (fun x => ⟨fun a => ⟨a, hp x a⟩, fun a => a.1⟩) h.nd⟩
    rw [if_neg k3]
    by_cases k4 : r.kind = 4
    · rw [if_pos k4, if_neg (by rw [k4]; decide)]
      rcases idxF_cases (fun x : FactV => x.d == i && ((r.kind == 4 && x.n == q) || (r.kind != 4 && eq4 x.p p))) L with ⟨k, f, e, hk, hf, hq, _⟩ | ⟨e, hno⟩
      · rw [e, if_neg (by omega)]
        have hm := List.mem_of_getElem? hf
        obtain ⟨d1, d2⟩ : f.d = i ∧ f.n = q := by simpa [k4] using hq
        have hO := own_iff h hi hr k4 hm d1
        rw [d2] at hO
        rw [if_pos (by rw [hO]; rfl)]
        refine ⟨rfl, h.dropO hi hr k4 (fun x => ?_) (nodup_cutL (k := k) h.nd)⟩
        refine (mem_cutL h.nd hf x).trans ⟨fun ⟨a, b⟩ => ⟨a, fun c => b ?_⟩, fun ⟨a, b⟩ => ⟨a, fun c => b (by rw [c]; exact ⟨d1, d2⟩)⟩⟩
        have hO2 := own_iff h hi hr k4 a c.1
        rw [c.2, hO] at hO2
        obtain ⟨z1, z2, _⟩ := h.o2 i r hi hr k4 x a c.1
        obtain ⟨z3, z4, _⟩ := h.o2 i r hi hr k4 f hm d1
        obtain ⟨x1, ⟨xa, xb, xc, xd⟩, x3⟩ := x
        obtain ⟨f1, ⟨fa, fb, fc, fd⟩, f3⟩ := f
        simp only [Option.some.injEq, Prod.mk.injEq] at z1 z2 z3 z4 d1 d2 c hO2
        rw [z1, z2, z3, z4, d1, d2, c.1, c.2, hO2.1, hO2.2]
      · rw [e, if_pos (by omega)]
        have hp : ∀ x ∈ L, ¬ (x.d = i ∧ x.n = q) := fun x hx c => by
          have := hno x hx
          simp [k4, c.1, c.2] at this
        have hO : ¬ (M.O (i, q)).isSome = true := fun c => by
          obtain ⟨u, hu⟩ := Option.isSome_iff_exists.1 c
          exact hp _ ((h.o i r hi hr k4 _ _).1 hu) ⟨rfl, rfl⟩
        rw [if_neg hO]
        exact ⟨rfl, h.dropO hi hr k4 (fun x => ⟨fun a => ⟨a, hp x a⟩, fun a => a.1⟩) h.nd⟩
    rw [if_neg k4]
    by_cases k5 : r.kind = 5
    · rw [if_pos k5, if_neg (by rw [k5]; decide)]
      rcases idxF_cases (fun x : FactV => x.d == i && ((r.kind == 4 && x.n == q) || (r.kind != 4 && eq4 x.p p))) L with ⟨k, f, e, hk, hf, hq, _⟩ | ⟨e, hno⟩
      · rw [e, if_neg (by omega)]
        have hm := List.mem_of_getElem? hf
        obtain ⟨d1, d2⟩ : f.d = i ∧ f.p = p := by simpa [k5, eq4_iff] using hq
        have hB := back_iff h hi hr k5 hm d1
        rw [d2] at hB
        rw [if_pos (by rw [hB]; rfl)]
        refine ⟨rfl, h.dropB hi hr k5 (fun x => ?_) (nodup_cutL (k := k) h.nd)⟩
        refine (mem_cutL h.nd hf x).trans ⟨fun ⟨a, b⟩ => ⟨a, fun c => b ?_⟩, fun ⟨a, b⟩ => ⟨a, fun c => b (by rw [c]; exact ⟨d1, d2⟩)⟩⟩
        have hB2 := back_iff h hi hr k5 a c.1
        rw [c.2, hB] at hB2
        obtain ⟨x1, x2, x3⟩ := x
        obtain ⟨f1, f2, f3⟩ := f
        simp only [Option.some.injEq] at d1 d2 c hB2
        rw [d1, d2, c.1, c.2, hB2]
      · rw [e, if_pos (by omega)]
        have hp : ∀ x ∈ L, ¬ (x.d = i ∧ x.p = p) := fun x hx c => by
          have := hno x hx
          simp [k5, c.1, c.2, show eq4 p p = true from (eq4_iff p p).2 rfl] at this
        have hB : ¬ (M.B (i, p)).isSome = true := fun c => by
          obtain ⟨u, hu⟩ := Option.isSome_iff_exists.1 c
          exact hp _ ((h.b i r hi hr k5 _ _).1 hu) ⟨rfl, rfl⟩
        rw [if_neg hB]
        exact ⟨rfl, h.dropB hi hr k5 (fun x => ⟨fun a => ⟨a, hp x a⟩, fun a => a.1⟩) h.nd⟩
    rw [if_neg k5, if_pos (by simp only [inR, Bool.and_eq_false_iff, decide_eq_false_iff_not]; omega)]
    exact ⟨rfl, h⟩
end
end Go.Proofs.Ythaiffjalgionaa
