/- Arguments opened: matches, packets, integers. -/
import Derived.Test.YtidikopjfpioaaaMatchIn
import Derived.Lib.SmallJoins
import Derived.OpenShut
set_option linter.unusedVariables false
namespace Go.Proofs.Ytidikopjfpioaaa
open Go.ChangeShapes Go.WideShapes Go.ChangeAt Go.RowKit Go.Joins

theorem Try.cellsMatch : Try.prog.cellsOf 103 = 4 := by kernel_rfl
theorem Try.cellsPacket : Try.prog.cellsOf 42 = 4 := by kernel_rfl

section
variable {H : Type} {enc : TypeId × Value → H} {w : World} {base : Nat} {spare : Nat → Bool} {held : Bool} {r : Reach} {b0 : Nat}

theorem wf_nat_u16 {k : Int} (h : (Lit.int .u16 k).wf = true) : ∃ n : Nat, k = n ∧ n < 65536 := by
  have hx : 0 ≤ k ∧ k ≤ 65535 := by simpa [Lit.wf, IntKind.min, IntKind.max, IntKind.signed, IntKind.bits] using h
  exact ⟨k.toNat, by omega, by omega⟩
theorem wf_nat_u8 {k : Int} (h : (Lit.int .u8 k).wf = true) : ∃ n : Nat, k = n ∧ n < 256 := by
  have hx : 0 ≤ k ∧ k ≤ 255 := by simpa [Lit.wf, IntKind.min, IntKind.max, IntKind.signed, IntKind.bits] using h
  exact ⟨k.toNat, by omega, by omega⟩
theorem wf_i64ok {k : Int} (h : (Lit.int .i64 k).wf = true) : i64ok k := by
  have hx : -9223372036854775808 ≤ k ∧ k ≤ 9223372036854775807 := by simpa [Lit.wf, IntKind.min, IntKind.max, IntKind.signed, IntKind.bits] using h
  exact hx

theorem trod_u16 {n : Nat} {v : Value} {y : DataW H × List MemPlace} (h : DataW.trod enc Try.prog w base spare held n 101 [v] = some y) : ∃ k : Nat, v = .int .u16 k ∧ k < 65536 := by
  obtain ⟨a, e0, rfl, wa⟩ := DataW.trod_int Try.underlying101 h
  obtain ⟨k, rfl, hk⟩ := wf_nat_u16 wa
  exact ⟨k, by simpa using e0, hk⟩
theorem trod_u8 {n : Nat} {v : Value} {y : DataW H × List MemPlace} (h : DataW.trod enc Try.prog w base spare held n 5 [v] = some y) : ∃ k : Nat, v = .int .u8 k ∧ k < 256 := by
  obtain ⟨a, e0, rfl, wa⟩ := DataW.trod_int Try.underlying5 h
  obtain ⟨k, rfl, hk⟩ := wf_nat_u8 wa
  exact ⟨k, by simpa using e0, hk⟩
theorem trod_i64 {n : Nat} {v : Value} {y : DataW H × List MemPlace} (h : DataW.trod enc Try.prog w base spare held n 3 [v] = some y) : ∃ k : Int, v = .int .i64 k ∧ i64ok k := by
  obtain ⟨a, e0, rfl, wa⟩ := DataW.trod_int Try.underlying3 h
  exact ⟨a, by simpa using e0, wf_i64ok wa⟩

set_option maxRecDepth 100000 in
theorem open_match {v : Value} {d : DataW H} {p : List MemPlace} (hv : Value.okWide Try.prog w r b0 103 v) (h : DataW.Trod enc Try.prog w base spare held 103 v d p) :
    ∃ a b c d : Nat, v = .agg #[.int .u16 a, .int .u16 b, .int .u8 c, .int .u8 d] ∧ a < 65536 ∧ b < 65536 ∧ c < 256 ∧ d < 256 := by
  obtain ⟨c0, c1, c2, c3, y0, y1, y2, y3, m, rfl, rfl, rfl, h0, h1, h2, h3⟩ := open_agg4 Try.underlying103 (by kernel_rfl) Try.cellsMatch hv h
  obtain ⟨a, rfl, ha⟩ := trod_u16 h0
  obtain ⟨b, rfl, hb⟩ := trod_u16 h1
  obtain ⟨c, rfl, hc⟩ := trod_u8 h2
  obtain ⟨d, rfl, hd⟩ := trod_u8 h3
  exact ⟨a, b, c, d, rfl, ha, hb, hc, hd⟩

set_option maxRecDepth 100000 in
theorem open_packet {v : Value} {d : DataW H} {p : List MemPlace} (hv : Value.okWide Try.prog w r b0 42 v) (h : DataW.Trod enc Try.prog w base spare held 42 v d p) :
    ∃ x y z u : Int, v = .agg #[.int .i64 x, .int .i64 y, .int .i64 z, .int .i64 u] ∧ i64ok x ∧ i64ok y ∧ i64ok z ∧ i64ok u := by
  obtain ⟨c0, c1, c2, c3, y0, y1, y2, y3, m, rfl, rfl, rfl, h0, h1, h2, h3⟩ := open_agg4 Try.underlying42 (by kernel_rfl) Try.cellsPacket hv h
  obtain ⟨a, rfl, ha⟩ := trod_i64 h0
  obtain ⟨b, rfl, hb⟩ := trod_i64 h1
  obtain ⟨c, rfl, hc⟩ := trod_i64 h2
  obtain ⟨d, rfl, hd⟩ := trod_i64 h3
  exact ⟨a, b, c, d, rfl, ha, hb, hc, hd⟩
end

/-- The arguments of a call, one by one. -/
theorem args_nil {H : Type} {enc : TypeId × Value → H} {P : Program} {w : World} {base : Nat} {sp : Nat → Bool} {hd : Bool} {vs : List Value} {ds : List (DataW H)} {p : List MemPlace} (h : DataW.TrodAll enc P w base sp hd [] vs ds p) : vs = [] ∧ ds = [] ∧ p = [] := by
  cases vs <;> cases ds <;> first | exact ⟨rfl, rfl, h⟩ | exact h.elim
theorem args_cons {H : Type} {enc : TypeId × Value → H} {P : Program} {w : World} {base : Nat} {sp : Nat → Bool} {hd : Bool} {t : TypeId} {ts : List TypeId} {vs : List Value} {ds : List (DataW H)} {p : List MemPlace} (h : DataW.TrodAll enc P w base sp hd (t :: ts) vs ds p) :
    ∃ v vs' d ds' p0 q, vs = v :: vs' ∧ ds = d :: ds' ∧ p = p0 ++ q ∧ DataW.Trod enc P w base sp hd t v d p0 ∧ DataW.TrodAll enc P w base sp hd ts vs' ds' q := by
  match vs, ds, h with
  | v :: vs, d :: ds, h =>
    obtain ⟨p0, q, h1, h2, rfl⟩ := h
    exact ⟨v, vs, d, ds, p0, q, rfl, rfl, rfl, h1, h2⟩
theorem arr_eq {a b : Array Value} (h : a.toList = b.toList) : a = b := by cases a; cases b; simp_all
end Go.Proofs.Ytidikopjfpioaaa
