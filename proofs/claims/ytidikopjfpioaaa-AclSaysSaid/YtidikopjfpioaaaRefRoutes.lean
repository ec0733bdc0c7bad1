/- wireref's routes: top, rightRoute, Routes, Out: what they answer. -/
import Derived.Test.YtidikopjfpioaaaFibLongest
set_option linter.unusedVariables false
set_option linter.unusedSimpArgs false
namespace Go.Proofs.Ytidikopjfpioaaa
open Go.ChangeShapes Go.WideShapes Go.ChangeAt Go.RowKit

/-! ### plain -/
def topI (d : Int) (b : Nat) : Int := d / 2 ^ (4 - b) * 2 ^ (4 - b)

theorem fin165 (P : Int → Nat → Prop) [∀ d b, Decidable (P d b)] (h : ∀ (i : Fin 16) (j : Fin 5), P (i.val : Int) j.val) (d : Int) (b : Nat) (h0 : 0 ≤ d) (h1 : d ≤ 15) (hb : b ≤ 4) : P d b := by
  have := h ⟨d.toNat, by omega⟩ ⟨b, by omega⟩
  simpa [Int.toNat_of_nonneg h0] using this

theorem top_takes (d : Int) (b : Nat) (h0 : 0 ≤ d) (h1 : d ≤ 15) (hb : b ≤ 4) : bits .andNot .i64 d (15 / 2 ^ b) = topI d b :=
  fin165 (fun d b => bits .andNot .i64 d (15 / 2 ^ b) = topI d b) (by decide +kernel) d b h0 h1 hb
theorem top_mask (d : Int) (b : Nat) (h0 : 0 ≤ d) (h1 : d ≤ 15) (hb : b ≤ 4) : (topI d b == d) = maskB d b := by
  have := fin165 (fun d b => (topI d b == d) = (bits .and .i64 d (15 / 2 ^ b) == 0)) (by decide +kernel) d b h0 h1 hb
  rw [this, maskB]; simp

/-- A route that is right, of b bits, and takes d. -/
def hitR (d : Int) (b : Nat) (r : RouteV) : Bool := routeB r.v r.b r.p && (r.b == (b : Int)) && (topI d b == r.v)

theorem hitR_takes {d : Int} {b : Nat} {r : RouteV} (h0 : 0 ≤ d) (h1 : d ≤ 15) (hb : b ≤ 4) : hitR d b r = (routeB r.v r.b r.p && (r.b == (b : Int)) && takesB d r.v r.b) := by
  unfold hitR
  by_cases e : r.b = (b : Int)
  · rw [e]
    unfold takesB
    rw [show ((b : Int)).toNat = b by omega, top_takes d b h0 h1 hb]
  · have : (r.b == (b : Int)) = false := by simpa using e
    rw [this]; simp

theorem outHit_eq {d : Int} {r : RouteV} {s : Int} (h0 : 0 ≤ d) (h1 : d ≤ 15) : outHit d r s = true ↔ s < r.b ∧ ∃ b : Nat, b ≤ 4 ∧ r.b = b ∧ hitR d b r = true := by
  have e1 : decide (0 ≤ d) = true := by simpa using h0
  have e2 : decide (d < 16) = true := by simp; omega
  constructor
  · intro h
    simp only [outHit, Bool.and_eq_true, decide_eq_true_eq] at h
    obtain ⟨⟨⟨⟨hr, _⟩, _⟩, ht⟩, hs⟩ := h
    have hr' := hr
    simp only [routeB, Bool.and_eq_true, decide_eq_true_eq] at hr'
    obtain ⟨b, hb⟩ : ∃ b : Nat, r.b = (b : Int) := ⟨r.b.toNat, by omega⟩
    refine ⟨hs, b, by omega, hb, ?_⟩
    rw [hitR_takes h0 h1 (by omega), hr, ht, hb]; simp
  · rintro ⟨hs, b, hb, e, hh⟩
    rw [hitR_takes h0 h1 hb] at hh
    simp only [Bool.and_eq_true] at hh
    simp only [outHit, e1, e2, hh.1.1, hh.2, Bool.and_eq_true, decide_eq_true_eq]
    exact ⟨⟨⟨⟨trivial, trivial⟩, trivial⟩, trivial⟩, hs⟩

theorem fold_out {d : Int} (h0 : 0 ≤ d) (h1 : d ≤ 15) : ∀ (l : List RouteV) (s : Int × Int),
    (∀ r ∈ l, outHit d r s.2 = false) → l.foldl (outStep d) s = s := by
  intro l
  induction l with
  | nil => intro s _; rfl
  | cons a l ih =>
    intro s h
    have : outStep d s a = s := by unfold outStep; rw [h a (by simp)]; rfl
    rw [List.foldl_cons, this]
    exact ih s (fun r hr => h r (by simp [hr]))

theorem outF_none' {d : Int} {l : List RouteV} (h : ∀ b : Nat, b ≤ 4 → ∀ r ∈ l, hitR d b r = false) (h0 : 0 ≤ d) (h1 : d ≤ 15) : outF d l = (0, -1) := by
  refine fold_out h0 h1 l _ (fun r hr => ?_)
  cases e : outHit d r (-1)
  · rfl
  · obtain ⟨_, b, hb, _, hh⟩ := (outHit_eq h0 h1).1 e
    rw [h b hb r hr] at hh; cases hh
theorem outF_out {d : Int} {l : List RouteV} (h : d < 0 ∨ 15 < d) : outF d l = (0, -1) := by
  have : ∀ (l : List RouteV) (s : Int × Int), l.foldl (outStep d) s = s := by
    intro l
    induction l with
    | nil => intro s; rfl
    | cons a l ih =>
      intro s
      have : outStep d s a = s := by
        unfold outStep
        rw [if_neg]
        simp only [outHit, Bool.and_eq_true, decide_eq_true_eq]
        omega
      rw [List.foldl_cons, this]; exact ih s
  exact this l _

theorem outF_lead' {d : Int} (h0 : 0 ≤ d) (h1 : d ≤ 15) {b : Nat} (hb : b ≤ 4) {r : RouteV} : ∀ (l : List RouteV) (s : Int × Int) (i : Nat), s.2 < b → l[i]? = some r → hitR d b r = true → (∀ j x, j < i → l[j]? = some x → hitR d b x = false) →
    (∀ b' : Nat, b < b' → b' ≤ 4 → ∀ x ∈ l, hitR d b' x = false) → l.foldl (outStep d) s = (r.p, (b : Int)) := by
  intro l
  induction l with
  | nil => intro s i _ h; simp at h
  | cons a l ih =>
    intro s i hs hi hr hj hbig
    rw [List.foldl_cons]
    have hrb : r.b = (b : Int) := by
      simp only [hitR, Bool.and_eq_true, beq_iff_eq] at hr
      exact hr.1.2
    match i, hi with
    | 0, hi =>
      have : a = r := by simpa using hi
      subst this
      have e : outStep d s a = (a.p, (b : Int)) := by
        unfold outStep
        rw [(outHit_eq h0 h1).2 ⟨by omega, b, hb, hrb, hr⟩, hrb]; rfl
      rw [e]
      refine fold_out h0 h1 l _ (fun x hx => ?_)
      cases ex : outHit d x (b : Int)
      · rfl
      · obtain ⟨hlt, b', hb', e', hh⟩ := (outHit_eq h0 h1).1 ex
        rw [hbig b' (by omega) hb' x (by simp [hx])] at hh; cases hh
    | i + 1, hi =>
      refine ih _ i ?_ (by simpa using hi) hr (fun j x hjx hx => hj (j + 1) x (by omega) (by simpa using hx)) (fun b' h2 h3 x hx => hbig b' h2 h3 x (by simp [hx]))
      unfold outStep
      split
      · rename_i hh
        obtain ⟨_, b', hb', e', hh⟩ := (outHit_eq h0 h1).1 hh
        rcases Nat.lt_trichotomy b' b with h | h | h
        · show a.b < b; omega
        · subst h
          rw [hj 0 a (by omega) (by simp)] at hh; cases hh
        · rw [hbig b' h hb' a (by simp)] at hh; cases hh
      · exact hs

theorem outF_lead {d : Int} (h0 : 0 ≤ d) (h1 : d ≤ 15) {b : Nat} (hb : b ≤ 4) {r : RouteV} {l : List RouteV} {i : Nat} (hi : l[i]? = some r) (hr : hitR d b r = true) (hj : ∀ j x, j < i → l[j]? = some x → hitR d b x = false)
    (hbig : ∀ b' : Nat, b < b' → b' ≤ 4 → ∀ x ∈ l, hitR d b' x = false) : outF d l = (r.p, (b : Int)) := outF_lead' h0 h1 hb l (0, -1) i (by show (-1 : Int) < b; omega) hi hr hj hbig
end Go.Proofs.Ytidikopjfpioaaa
