/- A packet's text and back, plainly. -/
import Derived.Test.YtohbafigjpoijaaDoorSt3
import Derived.Test.YtohbafigjpoijaaDoorPkCode
set_option linter.unusedVariables false
set_option linter.unusedSimpArgs false
set_option maxRecDepth 100000
namespace Go.Proofs.YtohbafigjpoijaaDoor
open Go.RowKit

theorem ends_endT (a p : Nat) (ha : a < 16) (hp : p < 8) : endsF (endT a p) = ((a : Int), (p : Int)) := by
  rw [endsF, endT, cutB_at 58 _ _ (not_dec a 58 (by decide))]
  simp only
  rw [num_dec a 16 (by omega) (by omega), num_dec p 8 (by omega) (by omega)]
theorem not_endT (a p : Nat) : (62 : UInt8) ∉ endT a p := by
  intro h
  rcases List.mem_append.1 h with h | h
  · exact not_dec a 62 (by decide) h
  · rcases List.mem_cons.1 h with h | h
    · exact absurd h (by decide)
    · exact not_dec p 62 (by decide) h
theorem parse_print {p : P4} (h : rightB p = true) : parseF (packT p) = (p, 0) := by
  obtain ⟨a, b, c, d, rfl, h1, h2, h3, h4⟩ := right_nats h
  have e : packT ⟨(a : Int), (b : Int), (c : Int), (d : Int)⟩ = endT a c ++ 62 :: endT b d := by simp [packT]
  rw [e, parseF, cutB_at 62 _ _ (not_endT a c)]
  simp only
  rw [ends_endT a c h1 h3, ends_endT b d h2 h4]
  have hg : (goodE ((a : Int), (c : Int)) && goodE ((b : Int), (d : Int))) = true := by simp [goodE]
  rw [if_pos hg]
theorem cutB_join {b : UInt8} {l : List UInt8} (h : (cutB b l).2 ≠ []) : l = (cutB b l).1 ++ b :: (cutB b l).2 := by
  by_cases hb : b ∈ l
  · obtain ⟨u, v, rfl, hu⟩ := split_first hb
    rw [cutB_at b u v hu]
  · rw [cutB_not b l hb] at h; exact absurd rfl h
theorem good_ends {l : List UInt8} (h : goodE (endsF l) = true) : ∃ a p : Nat, endsF l = ((a : Int), (p : Int)) ∧ a < 16 ∧ p < 8 ∧ l = endT a p := by
  have h : 0 ≤ numF (cutB 58 l).1 16 ∧ 0 ≤ numF (cutB 58 l).2 8 := by
    have h0 := Bool.and_eq_true_iff.1 h
    exact ⟨of_decide_eq_true h0.1, of_decide_eq_true h0.2⟩
  obtain ⟨n1, e1⟩ := numF_some h.1
  obtain ⟨n2, e2⟩ := numF_some h.2
  have l1 := numF_lt _ _ h.1
  have l2 := numF_lt _ _ h.2
  refine ⟨digs (cutB 58 l).1, digs (cutB 58 l).2, by rw [endsF, e1, e2], by omega, by omega, ?_⟩
  rw [endT, numeral_dec n1, numeral_dec n2]
  exact cutB_join (fun e => by rw [e] at n2; simp [numeral] at n2)
theorem print_parse {l : List UInt8} (h : (parseF l).2 = 0) : rightB (parseF l).1 = true ∧ packT (parseF l).1 = l := by
  unfold parseF at *
  split at h
  · rename_i hg
    rw [if_pos hg]
    simp only [Bool.and_eq_true] at hg
    obtain ⟨a, p, e1, h1, h2, q1⟩ := good_ends hg.1
    obtain ⟨b, r, e2, h3, h4, q2⟩ := good_ends hg.2
    rw [e1, e2]
    refine ⟨by simp only [rightB, inR]; simp; omega, ?_⟩
    simp only [packT, Int.toNat_natCast]
    rw [← q1, ← q2]
    refine (cutB_join (fun e => ?_)).symm
    rw [e] at q2
    have : endT b r ≠ [] := by simp [endT]
    exact this q2.symm
  · exact absurd h (by decide)
theorem parse_err (l : List UInt8) : (parseF l).2 = 0 ∨ (parseF l) = (⟨0, 0, 0, 0⟩, 3) := by
  unfold parseF; split <;> simp
theorem ends_i64 (l : List UInt8) : i64ok (endsF l).1 ∧ i64ok (endsF l).2 := by
  have h1 := numF_ge (cutB 58 l).1 16
  have h2 := numF_ge (cutB 58 l).2 8
  have h3 := numF_lt (cutB 58 l).1 16
  have h4 := numF_lt (cutB 58 l).2 8
  simp only [endsF, i64ok]
  by_cases q1 : 0 ≤ numF (cutB 58 l).1 16
  · have := h3 q1
    by_cases q2 : 0 ≤ numF (cutB 58 l).2 8
    · have := h4 q2; omega
    · omega
  · by_cases q2 : 0 ≤ numF (cutB 58 l).2 8
    · have := h4 q2; omega
    · omega
end Go.Proofs.YtohbafigjpoijaaDoor
