/- MatchMeets: a packet is in what two matches have in common just if it is in both. No condition. -/
import Derived.Test.YtidikopjfpioaaaMatchIn
import Derived.Test.YtidikopjfpioaaaFam
import Derived.Test.YtidikopjfpioaaaOpen
set_option linter.unusedVariables false
namespace Go.Proofs.Ytidikopjfpioaaa
open Go.ChangeShapes Go.WideShapes Go.ChangeAt Go.RowKit

theorem all_walk (W : World) : Calls Try.prog 99 #[] W fun e W' =>
      e = .returned (.agg #[.int .u16 65535, .int .u16 65535, .int .u8 255, .int .u8 255]) ∧ Below W.heap.size W W' := by
  go_enter Try.func99, Try.ntmps99
  go_wp2
  exact bodyPost_ret (v := .agg #[.int .u16 65535, .int .u16 65535, .int .u8 255, .int .u8 255]) (by simp [results, Try.results99, go_sem]) rfl ⟨rfl, ((Below.refl _ _).alloc (Nat.le_refl _) _)⟩

theorem hasB_and (s t : Nat) (n : Int) : hasB (s &&& t) n = (hasB s n && hasB t n) := by
  simp only [hasB, Nat.testBit_and]
  cases decide (0 ≤ n) <;> cases decide (n < 16) <;> cases s.testBit n.toNat <;> cases t.testBit n.toNat <;> rfl
theorem hasB_full (s : Nat) (n : Int) (h : hasB s n = true) : hasB 65535 n = true := by
  simp only [hasB, Bool.and_eq_true, decide_eq_true_eq] at h ⊢
  refine ⟨h.1, ?_⟩
  have h16 : n.toNat < 16 := by omega
  rw [show (65535 : Nat) = 2 ^ 16 - 1 from rfl, Nat.testBit_two_pow_sub_one]
  simpa using h16
theorem hasB_full8 (s : Nat) (n : Int) (hs : s < 256) (h : hasB s n = true) : hasB 255 n = true := by
  simp only [hasB, Bool.and_eq_true, decide_eq_true_eq] at h ⊢
  refine ⟨h.1, ?_⟩
  rw [show (255 : Nat) = 2 ^ 8 - 1 from rfl, Nat.testBit_two_pow_sub_one]
  rcases Nat.lt_or_ge n.toNat 8 with h8 | h8
  · simpa using h8
  · have := Nat.testBit_lt_two_pow (x := s) (i := n.toNat) (Nat.lt_of_lt_of_le hs (Nat.pow_le_pow_right (n := 2) (by omega) h8))
    rw [this] at h
    cases h.2

theorem in_is (a b c d x y z u : Int) (W : World) (B : Bool) (ha : 0 ≤ a ∧ a < 65536) (hb : 0 ≤ b ∧ b < 65536) (hc : 0 ≤ c ∧ c < 256) (hd : 0 ≤ d ∧ d < 256) (hx : i64ok x) (hy : i64ok y) (hz : i64ok z) (hu : i64ok u)
    (h : inB ⟨a.toNat, b.toNat, c.toNat, d.toNat⟩ ⟨x, y, z, u⟩ = B) :
    Calls Try.prog 86 #[.agg #[.int .u16 a, .int .u16 b, .int .u8 c, .int .u8 d], .agg #[.int .i64 x, .int .i64 y, .int .i64 z, .int .i64 u]] W fun e W' =>
      e = .returned (.bool B) ∧ Below W.heap.size W W' := h ▸ in_any a b c d x y z u W ha hb hc hd hx hy hz hu

theorem inB_and (a b c d a' b' c' d' : Nat) (p : P4) : inB ⟨a &&& a', b &&& b', c &&& c', d &&& d'⟩ p = (inB ⟨a, b, c, d⟩ p && inB ⟨a', b', c', d'⟩ p) := by
  simp only [inB, hasB_and]
  cases hasB a p.src <;> cases hasB a' p.src <;> cases hasB b p.dst <;> cases hasB b' p.dst <;> cases hasB c p.sport <;> cases hasB c' p.sport <;> simp
theorem inB_full (a b c d : Nat) (p : P4) (hc : c < 256) (hd : d < 256) (h : inB ⟨a, b, c, d⟩ p = true) : inB ⟨65535, 65535, 255, 255⟩ p = true := by
  simp only [inB, Bool.and_eq_true] at h ⊢
  exact ⟨⟨⟨hasB_full _ _ h.1.1.1, hasB_full _ _ h.1.1.2⟩, hasB_full8 _ _ hc h.1.2⟩, hasB_full8 _ _ hd h.2⟩

end Go.Proofs.Ytidikopjfpioaaa
