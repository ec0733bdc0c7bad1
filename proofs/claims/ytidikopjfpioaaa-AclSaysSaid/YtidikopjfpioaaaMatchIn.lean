/- match.In: what it answers. -/
import Derived.Test.YtidikopjfpioaaaLaw
import Derived.WalkKit
import Derived.Outline
import Derived.BigQuiet
import Derived.Lib.Hide
import Derived.WalkLawsBesides
import Derived.Test.YtidikopjfpioaaaBits
set_option linter.unusedVariables false
namespace Go.Proofs.Ytidikopjfpioaaa
open Go.ChangeShapes Go.WideShapes Go.ChangeAt Go.RowKit

def hasB (s : Nat) (n : Int) : Bool := decide (0 ≤ n) && decide (n < 16) && s.testBit n.toNat

theorem in1_any (s : Nat) (hs : s < 65536) (n : Int) (W : World) (h1 : -9223372036854775808 ≤ n) (h2 : n ≤ 9223372036854775807) :
    Calls Try.prog 130 #[.int .u16 s, .int .i64 n] W fun e W' => e = .returned (.bool (hasB s n)) ∧ W = W' := by
  by_cases h0 : 0 ≤ n
  · by_cases h16 : n < 16
    · go_enter Try.func130, Try.ntmps130
      go_wp2
      go_ret
      exact ⟨by rw [bit_u16 s n.toNat hs]; simp [hasB, h0, h16], rfl⟩
    · have e16 : decide (n < 16) = false := by simpa using h16
      go_enter Try.func130, Try.ntmps130
      go_wp2
      go_ret
      exact ⟨by simp [hasB, e16], rfl⟩
  · have e0 : decide (0 ≤ n) = false := by simpa using h0
    go_enter Try.func130, Try.ntmps130
    go_wp2
    go_ret
    exact ⟨by simp [hasB, e0], rfl⟩

/-- A match's four sets, a packet's four numbers. -/
structure M4 where
  src : Nat
  dst : Nat
  sport : Nat
  dport : Nat
structure P4 where
  src : Int
  dst : Int
  sport : Int
  dport : Int
def M4.ok (m : M4) : Prop := m.src < 65536 ∧ m.dst < 65536 ∧ m.sport < 256 ∧ m.dport < 256
def i64ok (n : Int) : Prop := -9223372036854775808 ≤ n ∧ n ≤ 9223372036854775807
def P4.ok (p : P4) : Prop := i64ok p.src ∧ i64ok p.dst ∧ i64ok p.sport ∧ i64ok p.dport
def M4.val (m : M4) : Value := .agg #[.int .u16 m.src, .int .u16 m.dst, .int .u8 m.sport, .int .u8 m.dport]
def P4.val (p : P4) : Value := .agg #[.int .i64 p.src, .int .i64 p.dst, .int .i64 p.sport, .int .i64 p.dport]
def inB (m : M4) (p : P4) : Bool := hasB m.src p.src && hasB m.dst p.dst && hasB m.sport p.sport && hasB m.dport p.dport

set_option maxHeartbeats 4000000 in
theorem in_walk (a b c d : Nat) (x y z u : Int) (W : World) (ha : a < 65536) (hb : b < 65536) (hc : c < 256) (hd : d < 256) (hx : i64ok x) (hy : i64ok y) (hz : i64ok z) (hu : i64ok u) :
    Calls Try.prog 86 #[.agg #[.int .u16 a, .int .u16 b, .int .u8 c, .int .u8 d], .agg #[.int .i64 x, .int .i64 y, .int .i64 z, .int .i64 u]] W fun e W' =>
      e = .returned (.bool (hasB a x && hasB b y && hasB c z && hasB d u)) ∧ Below W.heap.size W W' := by
  obtain ⟨x1, x2⟩ := hx
  obtain ⟨y1, y2⟩ := hy
  obtain ⟨z1, z2⟩ := hz
  obtain ⟨u1, u2⟩ := hu
  cases e1 : hasB a x
  · go_enter Try.func86, Try.ntmps86
    go_wp2_with (go_at_call 130; refine (in1_any _ ?_ _ _ ?_ ?_).mono ?_ <;> (try omega); rintro e w' ⟨rfl, rfl⟩)
    go_ret
    exact ⟨by simp, ((Below.refl _ _).alloc (Nat.le_refl _) _).alloc (by simp) _⟩
  cases e2 : hasB b y
  · go_enter Try.func86, Try.ntmps86
    go_wp2_with (go_at_call 130; refine (in1_any _ ?_ _ _ ?_ ?_).mono ?_ <;> (try omega); rintro e w' ⟨rfl, rfl⟩)
    go_ret
    exact ⟨by simp, ((Below.refl _ _).alloc (Nat.le_refl _) _).alloc (by simp) _⟩
  cases e3 : hasB c z
  · go_enter Try.func86, Try.ntmps86
    go_wp2_with (go_at_call 130; refine (in1_any _ ?_ _ _ ?_ ?_).mono ?_ <;> (try omega); rintro e w' ⟨rfl, rfl⟩)
    go_ret
    exact ⟨by simp, ((Below.refl _ _).alloc (Nat.le_refl _) _).alloc (by simp) _⟩
  cases e4 : hasB d u
  · go_enter Try.func86, Try.ntmps86
    go_wp2_with (go_at_call 130; refine (in1_any _ ?_ _ _ ?_ ?_).mono ?_ <;> (try omega); rintro e w' ⟨rfl, rfl⟩)
    go_ret
    exact ⟨by simp, ((Below.refl _ _).alloc (Nat.le_refl _) _).alloc (by simp) _⟩
  · go_enter Try.func86, Try.ntmps86
    go_wp2_with (go_at_call 130; refine (in1_any _ ?_ _ _ ?_ ?_).mono ?_ <;> (try omega); rintro e w' ⟨rfl, rfl⟩)
    go_ret
    exact ⟨by simp, ((Below.refl _ _).alloc (Nat.le_refl _) _).alloc (by simp) _⟩

/-- The same, for whatever integers stand at the call. -/
theorem in_any (a b c d x y z u : Int) (W : World) (ha : 0 ≤ a ∧ a < 65536) (hb : 0 ≤ b ∧ b < 65536) (hc : 0 ≤ c ∧ c < 256) (hd : 0 ≤ d ∧ d < 256) (hx : i64ok x) (hy : i64ok y) (hz : i64ok z) (hu : i64ok u) :
    Calls Try.prog 86 #[.agg #[.int .u16 a, .int .u16 b, .int .u8 c, .int .u8 d], .agg #[.int .i64 x, .int .i64 y, .int .i64 z, .int .i64 u]] W fun e W' =>
      e = .returned (.bool (inB ⟨a.toNat, b.toNat, c.toNat, d.toNat⟩ ⟨x, y, z, u⟩)) ∧ Below W.heap.size W W' := by
  obtain ⟨a, rfl⟩ := Int.eq_ofNat_of_zero_le ha.1
  obtain ⟨b, rfl⟩ := Int.eq_ofNat_of_zero_le hb.1
  obtain ⟨c, rfl⟩ := Int.eq_ofNat_of_zero_le hc.1
  obtain ⟨d, rfl⟩ := Int.eq_ofNat_of_zero_le hd.1
  exact in_walk a b c d x y z u W (by omega) (by omega) (by omega) (by omega) hx hy hz hu
end Go.Proofs.Ytidikopjfpioaaa
