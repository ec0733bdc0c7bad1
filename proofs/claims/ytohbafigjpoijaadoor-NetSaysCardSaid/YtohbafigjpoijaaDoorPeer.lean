/- net.Peer of any net; what holds of a net that is checked. -/
import Derived.Test.YtohbafigjpoijaaDoorNetCheck
set_option linter.unusedVariables false
set_option linter.unusedSimpArgs false
namespace Go.Proofs.YtohbafigjpoijaaDoor
open Go.RowKit

set_option maxRecDepth 100000 in
theorem peer_nil (lA dA : Option Addr) (dn dc lc : Nat) (x y : Int) (W : World) :
    Calls Tryd.prog 32 #[.agg #[.slice dA dn dc, .slice lA 0 lc], .agg #[.int .i64 x, .int .i64 y]] W fun e W' => e = .returned (peerV none) ∧ Below W.heap.size W W' := by
  have HB := hide (fun o0 o1 o2 => show Below W.heap.size W (((W.alloc o0).alloc o1).alloc o2) from (((Below.refl _ _).alloc (Nat.le_refl _) _).alloc (by simp) _).alloc (by simp; omega) _)
  go_enter Tryd.func32, Tryd.ntmps32
  go_wp2
  refine wp_loop_rounds 1 ?_
  rw [rounds_succ]
  go_wp2
  refine bodyPost_ret (v := .tuple #[.agg #[.int .i64 0, .int .i64 0], .bool false]) (by simp [results, Tryd.results32, go_sem]) rfl ⟨rfl, ?_⟩
  first | exact HB.out _ _ _ | exact ((HB.out _ _ _).setCell (le2 _) _).setCell (le2 _) _

theorem peer_any (dA : Option Addr) (dn dc : Nat) (lA : Option Addr) (ln lc : Nat) (ls : List LinkV) (x y : Int) (W : World) (hn : ln ≤ 9223372036854775807) (hl : SlAt LinkV.cells 4 W W.heap.size lA ln ls) :
    Calls Tryd.prog 32 #[.agg #[.slice dA dn dc, .slice lA ln lc], .agg #[.int .i64 x, .int .i64 y]] W fun e W' => e = .returned (peerV (peerF ls (x, y))) ∧ Below W.heap.size W W' := by
  rcases Nat.eq_zero_or_pos ln with rfl | h0
  · have : ls = [] := List.eq_nil_of_length_eq_zero hl.1
    subst this
    exact peer_nil lA dA dn dc lc x y W
  · obtain ⟨b, o, rfl, _, _⟩ := hl.2 h0
    exact peer_walk ls (.slice dA dn dc) b o ln lc x y W hn hl h0 dA dn dc rfl

/-! ### plainly -/
def endsOf (ls : List LinkV) : List Pl := ls.flatMap fun l => [l.e1, l.e2]
theorem takenB_false {ends : List Pl} {l : LinkV} (h : takenB ends l = false) : l.e1 ≠ l.e2 ∧ l.e1 ∉ ends ∧ l.e2 ∉ ends := by
  simp only [takenB, Bool.or_eq_false_iff, List.any_eq_false] at h
  refine ⟨fun e => ?_, fun hm => h.1.2 _ hm ((eqP_iff _ _).2 rfl), fun hm => h.2 _ hm ((eqP_iff _ _).2 rfl)⟩
  have := (eqP_iff l.e1 l.e2).2 e
  rw [h.1.1] at this
  cases this

theorem linksE_ok {ds : List Dev} : ∀ (ls : List LinkV) (ends : List Pl), ends.Nodup → (∀ x ∈ ends, placeB ds x = true) → linksE ds ends ls = 0 → (ends ++ endsOf ls).Nodup ∧ ∀ x ∈ ends ++ endsOf ls, placeB ds x = true := by
  intro ls
  induction ls with
  | nil => intro ends hn hp _; exact ⟨by simpa [endsOf] using hn, by simpa [endsOf] using hp⟩
  | cons l ls ih =>
    intro ends hn hp h
    simp only [linksE] at h
    by_cases h1 : placeB ds l.e1 = false
    · rw [if_pos h1] at h; cases h
    rw [if_neg h1] at h
    by_cases h2 : placeB ds l.e2 = false
    · rw [if_pos h2] at h; cases h
    rw [if_neg h2] at h
    cases h3 : takenB ends l
    case true => rw [h3] at h; simp at h
    rw [h3] at h
    obtain ⟨t1, t2, t3⟩ := takenB_false h3
    have h := ih (ends ++ [l.e1, l.e2]) (by
      rw [List.nodup_append]
      refine ⟨hn, by simp [t1], fun a ha b hb => ?_⟩
      simp only [List.mem_cons, List.not_mem_nil, or_false] at hb
      rcases hb with rfl | rfl
      · exact fun e => t2 (e ▸ ha)
      · exact fun e => t3 (e ▸ ha)) (by
      intro x hx
      simp only [List.mem_append, List.mem_cons, List.not_mem_nil, or_false] at hx
      rcases hx with hx | rfl | rfl
      · exact hp x hx
      · simpa using h1
      · simpa using h2) (by simpa using h)
    have e : ends ++ [l.e1, l.e2] ++ endsOf ls = ends ++ endsOf (l :: ls) := by simp [endsOf]
    rw [e] at h
    exact h

structure NetOk (ds : List Dev) (ls : List LinkV) : Prop where
  dl : ds.length ≤ 10
  ll : ls.length ≤ 15
  nd : (endsOf ls).Nodup
  pl : ∀ x ∈ endsOf ls, placeB ds x = true
  de : devsE [] ds = 0

theorem netE_ok {ds : List Dev} {ls : List LinkV} (h : netE ds ls = 0) : NetOk ds ls := by
  unfold netE at h
  by_cases h1 : 10 < ds.length ∨ 15 < ls.length
  · rw [if_pos h1] at h; cases h
  rw [if_neg h1] at h
  by_cases h2 : devsE [] ds = 0
  · rw [if_pos h2] at h
    obtain ⟨a, b⟩ := linksE_ok ls [] (by simp) (by simp) h
    exact ⟨by omega, by omega, by simpa using a, by simpa using b, h2⟩
  · rw [if_neg h2] at h; exact absurd h h2

theorem mem_endsOf {ls : List LinkV} {x : Pl} : x ∈ endsOf ls ↔ ∃ l ∈ ls, x = l.e1 ∨ x = l.e2 := by
  simp [endsOf]

theorem peerF_none {ls : List LinkV} {x : Pl} (h : x ∉ endsOf ls) : peerF ls x = none := by
  induction ls with
  | nil => rfl
  | cons l ls ih =>
    simp only [endsOf, List.flatMap_cons, List.mem_append, List.mem_cons, List.not_mem_nil, or_false, not_or] at h
    have h1 : eqP x l.e1 = false := by cases e : eqP x l.e1; rfl; exact absurd ((eqP_iff _ _).1 e) h.1.1
    have h2 : eqP x l.e2 = false := by cases e : eqP x l.e2; rfl; exact absurd ((eqP_iff _ _).1 e) h.1.2
    simp only [peerF, h1, h2, Bool.false_eq_true, if_false]
    exact ih h.2
theorem eqP_ne {x y : Pl} (h : x ≠ y) : eqP x y = false := by cases e : eqP x y; rfl; exact absurd ((eqP_iff _ _).1 e) h
theorem eqP_self (x : Pl) : eqP x x = true := (eqP_iff x x).2 rfl

/-- The other end of the other end. -/
theorem peerF_back {ls : List LinkV} (hn : (endsOf ls).Nodup) {x : Pl} (h : x ∈ endsOf ls) : ∃ y, peerF ls x = some y ∧ peerF ls y = some x ∧ y ∈ endsOf ls := by
  induction ls with
  | nil => simp [endsOf] at h
  | cons l ls ih =>
    have e : endsOf (l :: ls) = l.e1 :: l.e2 :: endsOf ls := by simp [endsOf]
    rw [e] at hn h ⊢
    have hn1 := List.nodup_cons.1 hn
    have hn2 := List.nodup_cons.1 hn1.2
    have h12 : l.e1 ≠ l.e2 := fun e => hn1.1 (by rw [e]; simp)
    have h1n : l.e1 ∉ endsOf ls := fun hm => hn1.1 (by simp [hm])
    simp only [List.mem_cons] at h
    rcases h with rfl | rfl | h
    · exact ⟨l.e2, by simp [peerF, eqP_self], by simp [peerF, eqP_self, eqP_ne (Ne.symm h12)], by simp⟩
    · exact ⟨l.e1, by simp [peerF, eqP_self, eqP_ne (Ne.symm h12)], by simp [peerF, eqP_self], by simp⟩
    · obtain ⟨y, h3, h4, h5⟩ := ih hn2.2 h
      have hx1 : x ≠ l.e1 := fun e => h1n (e ▸ h)
      have hx2 : x ≠ l.e2 := fun e => hn2.1 (e ▸ h)
      have hy1 : y ≠ l.e1 := fun e => h1n (e ▸ h5)
      have hy2 : y ≠ l.e2 := fun e => hn2.1 (e ▸ h5)
      exact ⟨y, by simp [peerF, eqP_ne hx1, eqP_ne hx2, h3], by simp [peerF, eqP_ne hy1, eqP_ne hy2, h4], by simp [h5]⟩
theorem peerF_some {ls : List LinkV} (hn : (endsOf ls).Nodup) {x y : Pl} (h : peerF ls x = some y) : x ∈ endsOf ls ∧ y ∈ endsOf ls ∧ peerF ls y = some x := by
  by_cases hx : x ∈ endsOf ls
  · obtain ⟨z, h1, h2, h3⟩ := peerF_back hn hx
    rw [h] at h1
    cases h1
    exact ⟨hx, h3, h2⟩
  · rw [peerF_none hx] at h; cases h
theorem endsOf_len (ls : List LinkV) : (endsOf ls).length = 2 * ls.length := by
  induction ls with
  | nil => rfl
  | cons l ls ih =>
    have e : endsOf (l :: ls) = l.e1 :: l.e2 :: endsOf ls := by simp [endsOf]
    rw [e]; simp only [List.length_cons, ih]; omega
end Go.Proofs.YtohbafigjpoijaaDoor
