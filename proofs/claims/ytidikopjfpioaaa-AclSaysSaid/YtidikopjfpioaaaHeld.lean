/- wireref.Packet, Has; wirelaw.held -/
import Derived.Test.YtidikopjfpioaaaEval
import Derived.Test.YtidikopjfpioaaaRight
import Derived.WalkLawsBesides
set_option linter.unusedVariables false
set_option linter.unusedSimpArgs false
namespace Go.Proofs.Ytidikopjfpioaaa
open Go.RowKit

def packVal (c : Nat) : Value := .agg #[.int .i64 ((c / 1024 : Nat) : Int), .int .i64 ((c / 64 % 16 : Nat) : Int), .int .i64 ((c / 8 % 8 : Nat) : Int), .int .i64 ((c % 8 : Nat) : Int)]

set_option maxRecDepth 100000 in
theorem packet_walk (w : World) (c : Nat) (hc : c < 16384) :
    Calls Try.prog 91 #[.int .i64 c] w fun e W' => e = .returned (packVal c) ∧ Below w.heap.size w W' := by
  go_enter Try.func91, Try.ntmps91
  go_wp2
  refine bodyPost_ret (results_cell_row rfl _ _ w.heap.size 42 _ (0, 0) _ rfl (heap_alloc_new w _) Try.underlying42 rfl (by kernel_rfl)) rfl ?_
  have e1 : ((c / 1024 : Nat) : Int) = (c : Int) / 1024 := by omega
  have e2 : ((c / 64 % 16 : Nat) : Int) = (c : Int) / 64 % 16 := by omega
  have e3 : ((c / 8 % 8 : Nat) : Int) = (c : Int) / 8 % 8 := by omega
  have e4 : ((c % 8 : Nat) : Int) = (c : Int) % 8 := by omega
  exact ⟨by rw [packVal, e1, e2, e3, e4], (Below.refl _ _).alloc (Nat.le_refl _) _⟩

theorem has_bit (set n : Nat) : (((set : Int) / 2 ^ n).tmod 2 == 1) = set.testBit n := by
  rw [div_pow_cast]
  have h := testBit_div set n
  rw [Nat.and_one_is_mod] at h
  rw [← h]
  have e : ((set / 2 ^ n : Nat) : Int).tmod 2 = ((set / 2 ^ n % 2 : Nat) : Int) := by
    generalize set / 2 ^ n = m
    rw [Int.tmod_eq_emod_of_nonneg (by omega)]; omega
  rw [e]
  rcases Nat.mod_two_eq_zero_or_one (set / 2 ^ n) with h0 | h0 <;> rw [h0] <;> rfl

set_option maxRecDepth 100000 in
theorem has_walk (w : World) (set n : Nat) (hs : set < 65536) (hn : n < 16) (B : Bool) (hB : set.testBit n = B) :
    Calls Try.prog 108 #[.int .i64 set, .int .i64 n] w fun e W' => e = .returned (.bool B) ∧ w = W' := by
  have h1 : inR n 0 15 = true := by simp [inR]; omega
  have hb := hide ((has_bit set n).trans hB)
  clear hB
  go_enter Try.func108, Try.ntmps108
  go_wp2_with fail
  refine (inR_walk _ _ _ _).mono ?_
  rintro e w' ⟨rfl, rfl⟩
  rw [h1]
  go_wp2
  go_ret
  refine ⟨?_, rfl⟩
  rw [← hb.out]; rfl

def hasAllB (s d p q a b x y : Nat) : Bool := s.testBit a && d.testBit b && p.testBit x && q.testBit y

set_option maxRecDepth 100000 in
set_option maxHeartbeats 4000000 in
theorem hasAll_walk (w : World) (s d p q a b x y : Nat) (hs : s < 65536) (hd : d < 65536) (hp : p < 256) (hq : q < 256) (ha : a < 16) (hb : b < 16) (hx : x < 16) (hy : y < 16) :
    Calls Try.prog 87 #[.agg #[.int .u16 s, .int .u16 d, .int .u8 p, .int .u8 q], .agg #[.int .i64 a, .int .i64 b, .int .i64 x, .int .i64 y]] w fun e W' => e = .returned (.bool (hasAllB s d p q a b x y)) ∧ Below w.heap.size w W' := by
  have HB : Hid (∀ o0 o1, Below w.heap.size w ((w.alloc o0).alloc o1)) := hide (fun o0 o1 => ((Below.refl _ _).alloc (Nat.le_refl _) o0).alloc (by simp) o1)
  cases e1 : s.testBit a
  · go_enter Try.func87, Try.ntmps87
    go_wp2_with (go_at_call 108; refine (has_walk _ _ _ (by omega) (by omega) _ rfl).mono ?_; rintro e w' ⟨rfl, rfl⟩)
    go_ret
    exact ⟨by simp [hasAllB, *], HB.out _ _⟩
  cases e2 : d.testBit b
  · go_enter Try.func87, Try.ntmps87
    go_wp2_with (go_at_call 108; refine (has_walk _ _ _ (by omega) (by omega) _ rfl).mono ?_; rintro e w' ⟨rfl, rfl⟩)
    go_ret
    exact ⟨by simp [hasAllB, *], HB.out _ _⟩
  cases e3 : p.testBit x
  · go_enter Try.func87, Try.ntmps87
    go_wp2_with (go_at_call 108; refine (has_walk _ _ _ (by omega) (by omega) _ rfl).mono ?_; rintro e w' ⟨rfl, rfl⟩)
    go_ret
    exact ⟨by simp [hasAllB, *], HB.out _ _⟩
  cases e4 : q.testBit y
  · go_enter Try.func87, Try.ntmps87
    go_wp2_with (go_at_call 108; refine (has_walk _ _ _ (by omega) (by omega) _ rfl).mono ?_; rintro e w' ⟨rfl, rfl⟩)
    go_ret
    exact ⟨by simp [hasAllB, *], HB.out _ _⟩
  · go_enter Try.func87, Try.ntmps87
    go_wp2_with (go_at_call 108; refine (has_walk _ _ _ (by omega) (by omega) _ rfl).mono ?_; rintro e w' ⟨rfl, rfl⟩)
    go_ret
    exact ⟨by simp [hasAllB, *], HB.out _ _⟩
end Go.Proofs.Ytidikopjfpioaaa
