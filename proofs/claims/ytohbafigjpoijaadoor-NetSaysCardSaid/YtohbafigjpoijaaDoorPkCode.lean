/- packet.Code. -/
import Derived.Test.YtohbafigjpoijaaDoorPkChk
import Derived.Test.YtohbafigjpoijaaDoorG5
set_option linter.unusedVariables false
set_option linter.unusedSimpArgs false
namespace Go.Proofs.YtohbafigjpoijaaDoor
open Go.RowKit Go.Maps

/-- A packet's number. -/
def codeP (p : P4) : Nat := p.src.toNat * 1024 + p.dst.toNat * 64 + p.sport.toNat * 8 + p.dport.toNat
theorem right_nats {p : P4} (h : rightB p = true) : ∃ a b c d : Nat, p = ⟨(a : Int), (b : Int), (c : Int), (d : Int)⟩ ∧ a < 16 ∧ b < 16 ∧ c < 8 ∧ d < 8 := by
  obtain ⟨a, b, c, d⟩ := p
  simp only [rightB, inR, Bool.and_eq_true, decide_eq_true_eq] at h
  refine ⟨a.toNat, b.toNat, c.toNat, d.toNat, ?_, by omega, by omega, by omega, by omega⟩
  simp only [P4.mk.injEq]
  omega
theorem code_lt {p : P4} (h : rightB p = true) : codeP p < 16384 := by
  obtain ⟨a, b, c, d, rfl, h1, h2, h3, h4⟩ := right_nats h
  simp only [codeP, Int.toNat_natCast]
  omega
theorem pk_code {p : P4} (h : rightB p = true) : pk (codeP p) = p := by
  obtain ⟨a, b, c, d, rfl, h1, h2, h3, h4⟩ := right_nats h
  simp only [codeP, pk, Int.toNat_natCast, P4.mk.injEq]
  omega
theorem or_parts (a b k : Nat) (hb : b < 2 ^ k) : a * 2 ^ k ||| b = a * 2 ^ k + b := by
  rw [Nat.mul_comm, Nat.two_pow_add_eq_or_of_lt hb]
theorem or_code1 (a b : Nat) (ha : a < 16) (hb : b < 16) : Go.bits .or .i64 ((a * 1024 : Nat) : Int) ((b * 64 : Nat) : Int) = ((a * 1024 + b * 64 : Nat) : Int) := by
  rw [i64_or _ _ (by omega) (by omega)]
  have : a * 1024 ||| b * 64 = a * 1024 + b * 64 := or_parts a (b * 64) 10 (by omega)
  rw [this]
theorem or_code2 (a b c : Nat) (ha : a < 16) (hb : b < 16) (hc : c < 8) : Go.bits .or .i64 ((a * 1024 + b * 64 : Nat) : Int) ((c * 8 : Nat) : Int) = ((a * 1024 + b * 64 + c * 8 : Nat) : Int) := by
  rw [i64_or _ _ (by omega) (by omega)]
  have := or_parts (a * 16 + b) (c * 8) 6 (by omega)
  have e : (a * 16 + b) * 2 ^ 6 = a * 1024 + b * 64 := by omega
  rw [e] at this
  rw [this]
theorem or_code3 (a b c d : Nat) (ha : a < 16) (hb : b < 16) (hc : c < 8) (hd : d < 8) : Go.bits .or .i64 ((a * 1024 + b * 64 + c * 8 : Nat) : Int) (d : Int) = ((a * 1024 + b * 64 + c * 8 + d : Nat) : Int) := by
  rw [i64_or _ _ (by omega) (by omega)]
  have := or_parts (a * 128 + b * 8 + c) d 3 (by omega)
  have e : (a * 128 + b * 8 + c) * 2 ^ 3 = a * 1024 + b * 64 + c * 8 := by omega
  rw [e] at this
  rw [this]
set_option maxRecDepth 100000 in
set_option maxHeartbeats 4000000 in
theorem code_walk (p : P4) (W : World) : Calls Tryd.prog 14 #[.agg #[.int .i64 p.src, .int .i64 p.dst, .int .i64 p.sport, .int .i64 p.dport]] W fun e W' => e = .returned (.tuple #[.int .i64 (if rightB p then (codeP p : Int) else 0), .int .i64 (if rightB p then 0 else 1)]) ∧ RowKit.Below W.heap.size W W' := by
  have HC := hide (fun (w : World) => packetCheck_walk p w)
  cases hR : rightB p with
  | false =>
    simp only [hR] at HC
    obtain ⟨a, b, c, d⟩ := p
    clear hR
    go_enter Tryd.func14, Tryd.ntmps14
    go_wp2_with fail
    have hb0 := (RowKit.Below.refl W.heap.size W).alloc (Nat.le_refl _) (.cells #[.int .i64 a, .int .i64 b, .int .i64 c, .int .i64 d] 23)
    refine (HC.out _).mono ?_
    rintro e w1 ⟨rfl, hb⟩
    have HB := hide (hb0.trans (hb.mono hb0.size))
    clear hb hb0
    go_wp2
    go_ret2
    exact ⟨rfl, HB.out⟩
  | true =>
    simp only [hR] at HC
    obtain ⟨a, b, c, d, rfl, h1, h2, h3, h4⟩ := right_nats hR
    have e0 : codeP ⟨(a : Int), (b : Int), (c : Int), (d : Int)⟩ = a * 1024 + b * 64 + c * 8 + d := by simp only [codeP, Int.toNat_natCast]
    rw [e0]
    have q1 := or_code1 a b h1 h2
    have q2 := or_code2 a b c h1 h2 h3
    have q3 := or_code3 a b c d h1 h2 h3 h4
    have q4 : Go.bits .or .i64 (Go.bits .or .i64 (Go.bits .or .i64 ((a : Int) * 1024) ((b : Int) * 64)) ((c : Int) * 8)) (d : Int) = ((a * 1024 + b * 64 + c * 8 + d : Nat) : Int) := by
      rw [show ((a : Int) * 1024) = ((a * 1024 : Nat) : Int) by omega, show ((b : Int) * 64) = ((b * 64 : Nat) : Int) by omega, show ((c : Int) * 8) = ((c * 8 : Nat) : Int) by omega, q1, q2, q3]
    have HQ := hide q4
    clear hR e0 q1 q2 q3 q4
    go_enter Tryd.func14, Tryd.ntmps14
    go_wp2_with fail
    have hb0 := (RowKit.Below.refl W.heap.size W).alloc (Nat.le_refl _) (.cells #[.int .i64 (a : Int), .int .i64 (b : Int), .int .i64 (c : Int), .int .i64 (d : Int)] 23)
    have HX0 := hide (heap_alloc_new W (.cells #[.int .i64 (a : Int), .int .i64 (b : Int), .int .i64 (c : Int), .int .i64 (d : Int)] 23))
    refine (HC.out _).mono ?_
    rintro e w1 ⟨rfl, hb⟩
    have HB := hide (hb0.trans (hb.mono hb0.size))
    have hx := (hb.block W.heap.size (by simp)).trans HX0.out
    have x0 : w1.cell? ⟨W.heap.size, 0, none⟩ = some (.int .i64 (a : Int)) := by rw [cell_of_row _ _ _ _ _ _ hx]; rfl
    have x1 : w1.cell? ⟨W.heap.size, 1, none⟩ = some (.int .i64 (b : Int)) := by rw [cell_of_row _ _ _ _ _ _ hx]; rfl
    have x2 : w1.cell? ⟨W.heap.size, 2, none⟩ = some (.int .i64 (c : Int)) := by rw [cell_of_row _ _ _ _ _ _ hx]; rfl
    have x3 : w1.cell? ⟨W.heap.size, 3, none⟩ = some (.int .i64 (d : Int)) := by rw [cell_of_row _ _ _ _ _ _ hx]; rfl
    clear hb hb0 hx HX0
    go_wp2
    go_ret2
    refine ⟨?_, HB.out⟩
    show Ending.returned (.tuple #[.int .i64 (Go.bits .or .i64 (Go.bits .or .i64 (Go.bits .or .i64 ((a : Int) * 1024) ((b : Int) * 64)) ((c : Int) * 8)) (d : Int)), .int .i64 0]) = _
    rw [HQ.out]
    rfl
end Go.Proofs.YtohbafigjpoijaaDoor
