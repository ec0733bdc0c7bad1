/- FibLongest: what is told is told by a route with the most bits. No condition. -/
import Derived.Test.YtidikopjfpioaaaFibOut
import Derived.Test.YtidikopjfpioaaaFibCheck
import Derived.Test.YtidikopjfpioaaaAclFirst
set_option linter.unusedVariables false
set_option linter.unusedSimpArgs false
namespace Go.Proofs.Ytidikopjfpioaaa
open Go.ChangeShapes Go.WideShapes Go.ChangeAt Go.RowKit

theorem fin16 (P : Int → Prop) [DecidablePred P] (h : ∀ i : Fin 16, P (i.val : Int)) (d : Int) (h0 : 0 ≤ d) (h1 : d ≤ 15) : P d := by
  have := h ⟨d.toNat, by omega⟩
  simpa [Int.toNat_of_nonneg h0] using this
theorem fin4 (P : Int → Prop) [DecidablePred P] (h : ∀ i : Fin 4, P (i.val : Int)) (d : Int) (h0 : 0 ≤ d) (h1 : d ≤ 3) : P d := by
  have := h ⟨d.toNat, by omega⟩
  simpa [Int.toNat_of_nonneg h0] using this

theorem mask4 (d : Int) (h0 : 0 ≤ d) (h1 : d ≤ 15) : maskB d 4 = true := fin16 (fun d => maskB d 4 = true) (by decide +kernel) d h0 h1
theorem takes4 (d : Int) (h0 : 0 ≤ d) (h1 : d ≤ 15) : takesB d d 4 = true := fin16 (fun d => takesB d d 4 = true) (by decide +kernel) d h0 h1
theorem takes0 (d : Int) (h0 : 0 ≤ d) (h1 : d ≤ 15) : takesB d 0 0 = true := fin16 (fun d => takesB d 0 0 = true) (by decide +kernel) d h0 h1
theorem mask0 : maskB 0 0 = true := by decide +kernel

theorem outF_ahead (d k : Int) (l : List RouteV) (h0 : 0 ≤ d) (h1 : d ≤ 15) (hk0 : 0 ≤ k) (hk3 : k ≤ 3) : outF d (⟨d, 4, k⟩ :: l) = (k, 4) := by
  have h : ∀ l : List RouteV, l.foldl (outStep d) (k, 4) = (k, 4) := by
    intro l
    induction l with
    | nil => rfl
    | cons r l ih =>
      rw [List.foldl_cons]
      have : outStep d (k, 4) r = (k, 4) := by
        unfold outStep
        rw [if_neg]
        simp only [outHit, routeB, Bool.and_eq_true, decide_eq_true_eq]
        omega
      rw [this]; exact ih
  show List.foldl (outStep d) (outStep d (0, -1) ⟨d, 4, k⟩) l = _
  have : outStep d (0, -1) ⟨d, 4, k⟩ = (k, 4) := by
    unfold outStep
    rw [if_pos]
    simp [outHit, routeB, mask4 d h0 h1, takes4 d h0 h1]
    omega
  rw [this]; exact h l

theorem outF_last (d k : Int) (l : List RouteV) (h0 : 0 ≤ d) (h1 : d ≤ 15) (hk0 : 0 ≤ k) (hk3 : k ≤ 3) : outF d (l ++ [⟨0, 0, k⟩]) = if (outF d l).2 < 0 then (k, 0) else outF d l := by
  rw [outF, List.foldl_append]
  show outStep d (outF d l) ⟨0, 0, k⟩ = _
  unfold outStep
  have e : outHit d ⟨0, 0, k⟩ (outF d l).2 = decide ((outF d l).2 < 0) := by
    have a1 : decide (d < 16) = true := by simp; omega
    simp [outHit, routeB, mask0, takes0 d h0 h1, h0, hk0, hk3, a1]
  rw [e]
  by_cases h : (outF d l).2 < 0 <;> simp [h]

theorem rest_eq (n m : Int) (hm : 0 < m) : -m < n.tmod m ∧ n.tmod m < m ∧ n % m = if n.tmod m < 0 then n.tmod m + m else n.tmod m := by
  have e := Int.tmod_eq_emod (a := n) (b := m)
  have h0 := Int.emod_nonneg n (show m ≠ 0 by omega)
  have h1 := Int.emod_lt_of_pos n hm
  have hab : (m.natAbs : Int) = m := by omega
  by_cases hc : 0 ≤ n ∨ m ∣ n
  · rw [if_pos hc] at e
    refine ⟨by omega, by omega, ?_⟩
    rw [if_neg (by omega)]; omega
  · rw [if_neg hc, hab] at e
    have : n % m ≠ 0 := fun h => hc (.inr (Int.dvd_of_emod_eq_zero h))
    refine ⟨by omega, by omega, ?_⟩
    rw [if_pos (by omega)]; omega

theorem rest_walk (n m : Int) (W : World) (hn : i64ok n) (hm : 0 < m) (hm2 : m ≤ 1073741824) : Calls Try.prog 43 #[.int .i64 n, .int .i64 m] W fun e W' => e = .returned (.int .i64 (n % m)) ∧ W = W' := by
  obtain ⟨h1, h2⟩ := hn
  obtain ⟨t1, t2, e⟩ := rest_eq n m hm
  have E := hide e
  clear e
  have hm0 : (m == 0) = false := by simp; omega
  by_cases h : n.tmod m < 0
  · go_enter Try.func43, Try.ntmps43
    go_wp2
    go_ret
    exact ⟨ret_i64' (by rw [E.out, if_pos h]), rfl⟩
  · go_enter Try.func43, Try.ntmps43
    go_wp2
    go_ret
    exact ⟨ret_i64' (by rw [E.out, if_neg (by omega)]), rfl⟩

theorem Try.infoRoute : (Try.prog.info? 120).map (fun i => (i.zero, i.size, i.bytes)) = some (some (.agg #[.int .i64 0, .int .i64 0, .int .i64 0]), 3, 24) := by kernel_rfl

set_option maxRecDepth 100000 in
theorem cloneRoute_walk (l : List RouteV) (A : Option Addr) (n c : Nat) (W : World) (hn : n ≤ 1048576) (hl : SlAt RouteV.cells 3 W W.heap.size A n l) :
    Calls Try.prog 135 #[.slice A n c] W fun e W' =>
      ∃ v, e = .returned v ∧ W'.ownsRow W.heap.size 120 3 v n (l.flatMap RouteV.cells) ∧ Below W.heap.size W W' := by
  obtain ⟨i0, hi0, hz0, hz1, hz2⟩ := info_parts Try.infoRoute
  rcases A with _ | ad
  · have hn0 : n = 0 := by
      rcases Nat.eq_zero_or_pos n with h | h
      · exact h
      · obtain ⟨b, o, e, _⟩ := hl.2 h; cases e
    subst hn0
    have : l = [] := List.eq_nil_of_length_eq_zero hl.1
    subst this
    have heq := fun w => Lib.run_eql_slice_nil (P := Try.prog) w _ _ none 0 c 0 0 Try.underlying28
    go_enter Try.func135, Try.ntmps135
    go_wp2
    go_ret
    exact ⟨_, rfl, World.ownsRow_nil _ _ _ _, Below.refl _ _⟩
  · have HR := hide (hl.reads RouteV.len (by omega))
    clear hl
    have heq := fun w => Lib.run_eql_slice_nil (P := Try.prog) w _ _ (some ad) n c 0 0 Try.underlying28
    go_enter Try.func135, Try.ntmps135
    go_wp2_with (at_builtin; refine wpList_append_any _ rfl (.tmp 5) (.tmp 6) 28 rfl W.heap.size 120 i0 _ 3 24 Try.underlying28 hi0 hz0 hz1 hz2 rfl (by omega) (.slice (some ⟨W.heap.size, 0, none⟩) 0 0) 0 [] rfl (World.ownsRow_lit _ #[] 0 (Nat.le_refl _) (by decide) rfl) W.heap.size (some ad) n c _ rfl (HR.out.alloc (Nat.le_refl _) _) (flat_one RouteV.one l) (by simp only [maxLen]; omega) (by omega) (by simp) ?_; intro v1 w1 hown1 hg1 hat1)
    go_ret
    refine ⟨v1, rfl, by simpa using hown1, ((Below.refl _ _).alloc (Nat.le_refl _) _).grown hg1 (by simp) (fun k hk => ?_)⟩
    simp [Value.ownBlock] at hk
    omega
end Go.Proofs.Ytidikopjfpioaaa
