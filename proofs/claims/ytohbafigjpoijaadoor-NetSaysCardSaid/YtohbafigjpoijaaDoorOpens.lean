/- Arguments opened: places, numbers, packets, acts. -/
import Derived.Test.YtohbafigjpoijaaDoorDevs
set_option linter.unusedVariables false
set_option linter.unusedSimpArgs false
namespace Go.Proofs.YtohbafigjpoijaaDoor
open Go.ChangeShapes Go.WideShapes Go.ChangeAt Go.RowKit

def P4.cells (p : P4) : List Value := [.int .i64 p.src, .int .i64 p.dst, .int .i64 p.sport, .int .i64 p.dport]
theorem P4.len (p : P4) : p.cells.length = 4 := rfl
/-- An act: its kind, its place, its packet, its choice. -/
structure ActV where
  kind : Int
  dev : Int
  port : Int
  p : P4
  ch : Int
def ActV.cells (x : ActV) : List Value := [.int .i64 x.kind, .int .i64 x.dev, .int .i64 x.port, .int .i64 x.p.src, .int .i64 x.p.dst, .int .i64 x.p.sport, .int .i64 x.p.dport, .int .i64 x.ch]
theorem ActV.len (x : ActV) : x.cells.length = 8 := rfl
structure ActV.ok (x : ActV) : Prop where
  k : i64ok x.kind
  d : i64ok x.dev
  y : i64ok x.port
  p : x.p.ok
  c : i64ok x.ch

section
variable {H : Type} {enc : TypeId × Value → H} {w : World} {base : Nat} {spare : Nat → Bool} {held : Bool} {r : Reach} {b0 : Nat}
theorem Tryd.cellsPlace2 : Tryd.prog.cellsOf 55 = 2 := by kernel_rfl
theorem Tryd.cellsPacket4 : Tryd.prog.cellsOf 23 = 4 := by kernel_rfl
set_option maxRecDepth 100000 in
theorem read_place {n : Nat} {cs : List Value} {y : DataW H × List MemPlace} (h : DataW.trod enc Tryd.prog w base spare held n 55 cs = some y) : ∃ a b : Int, (i64ok a ∧ i64ok b) ∧ cs = [.int .i64 a, .int .i64 b] := by
  obtain ⟨xs, n', _, _, hlen, hxl, hf⟩ := DataW.trod_struct Tryd.underlying55 h
  rw [Tryd.cellsPlace2] at hlen
  match cs, hlen with
  | [c0, c1], _ =>
    have h0 := hf 0 _ rfl
    have h1 := hf 1 _ rfl
    obtain ⟨y0, e0⟩ := get_some (xs := xs) (i := 0) (by rw [hxl]; decide)
    obtain ⟨y1, e1⟩ := get_some (xs := xs) (i := 1) (by rw [hxl]; decide)
    rw [e0] at h0
    rw [e1] at h1
    simp [cellsI1] at h0 h1
    obtain ⟨a, rfl, ha⟩ := trod_i64 h0
    obtain ⟨b, rfl, hb⟩ := trod_i64 h1
    exact ⟨a, b, ⟨ha, hb⟩, rfl⟩
set_option maxRecDepth 100000 in
theorem read_packet {n : Nat} {cs : List Value} {y : DataW H × List MemPlace} (h : DataW.trod enc Tryd.prog w base spare held n 23 cs = some y) : ∃ p : P4, p.ok ∧ cs = p.cells := by
  obtain ⟨xs, n', _, _, hlen, hxl, hf⟩ := DataW.trod_struct Tryd.underlying23 h
  rw [Tryd.cellsPacket4] at hlen
  match cs, hlen with
  | [c0, c1, c2, c3], _ =>
    have h0 := hf 0 _ rfl
    have h1 := hf 1 _ rfl
    have h2 := hf 2 _ rfl
    have h3 := hf 3 _ rfl
    obtain ⟨y0, e0⟩ := get_some (xs := xs) (i := 0) (by rw [hxl]; decide)
    obtain ⟨y1, e1⟩ := get_some (xs := xs) (i := 1) (by rw [hxl]; decide)
    obtain ⟨y2, e2⟩ := get_some (xs := xs) (i := 2) (by rw [hxl]; decide)
    obtain ⟨y3, e3⟩ := get_some (xs := xs) (i := 3) (by rw [hxl]; decide)
    rw [e0] at h0
    rw [e1] at h1
    rw [e2] at h2
    rw [e3] at h3
    simp [cellsI1] at h0 h1 h2 h3
    obtain ⟨a, rfl, ha⟩ := trod_i64 h0
    obtain ⟨b, rfl, hb⟩ := trod_i64 h1
    obtain ⟨c, rfl, hc⟩ := trod_i64 h2
    obtain ⟨d, rfl, hd⟩ := trod_i64 h3
    exact ⟨⟨a, b, c, d⟩, ⟨ha, hb, hc, hd⟩, rfl⟩
set_option maxRecDepth 100000 in
theorem open_place {v : Value} {d : DataW H} {p : List MemPlace} (hv : Value.okWide Tryd.prog w r b0 55 v) (h : DataW.Trod enc Tryd.prog w base spare held 55 v d p) : ∃ x y : Int, v = .agg #[.int .i64 x, .int .i64 y] ∧ i64ok x ∧ i64ok y := by
  obtain ⟨cs, rfl, hsz⟩ := okWide_struct Tryd.underlying55 hv
  obtain ⟨fuel, hf⟩ := h
  obtain ⟨a, b, hok, hc⟩ := read_place (cs := cs.toList) hf
  refine ⟨a, b, ?_, hok⟩
  have : cs = #[.int .i64 a, .int .i64 b] := by rw [← Array.toList_inj]; exact hc
  rw [this]
set_option maxRecDepth 100000 in
theorem open_ints {v : Value} {d : DataW H} {p : List MemPlace} (hv : Value.okWide Tryd.prog w r b0 67 v) (h : DataW.Trod enc Tryd.prog w base spare held 67 v d p) :
    ∃ (A : Option Addr) (n c : Nat) (l : List Int), v = .slice A n c ∧ n ≤ c ∧ c ≤ maxLen ∧ IntsAt w w.heap.size A n l ∧ (n = 0 ∨ ∃ elems sp, d = .slice elems sp ∧ elems.length = n) := by
  obtain ⟨A, n, c, l, e, h1, h2, h3, h4, h5⟩ := open_elems (fun k => [Value.int .i64 k]) i64ok 1 Tryd.underlying67 cellsI1 (by omega) (fun _ => rfl) (fun _ _ _ h => read_int h) hv h
  exact ⟨A, n, c, l, e, h1, h2, h3.ints h4, h5⟩
end
end Go.Proofs.YtohbafigjpoijaaDoor
