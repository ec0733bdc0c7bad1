/- FibLongest: the statement. -/
import Derived.Test.YtoanimmlpfchjaaFibLongestW
import Derived.Test.YtoanimmlpfchjaaOpenSl
set_option linter.unusedVariables false
set_option linter.unusedSimpArgs false
namespace Go.Proofs.Ytoanimmlpfchjaa
open Go.ChangeShapes Go.WideShapes Go.ChangeAt Go.RowKit

theorem Try.cellsRoute : Try.prog.cellsOf 45 = 3 := by kernel_rfl
theorem Try.cellsInt : Try.prog.cellsOf 3 = 1 := by kernel_rfl

section
variable {H : Type} {enc : TypeId × Value → H} {w : World} {base : Nat} {spare : Nat → Bool} {held : Bool} {r : Reach} {b0 : Nat}
set_option maxRecDepth 100000 in
theorem read_route {n : Nat} {cs : List Value} {y : DataW H × List MemPlace} (h : DataW.trod enc Try.prog w base spare held n 45 cs = some y) : ∃ r : RouteV, r.ok ∧ cs = r.cells := by
  obtain ⟨xs, n', _, _, hlen, hxl, hf⟩ := DataW.trod_struct Try.underlying45 h
  rw [Try.cellsRoute] at hlen
  match cs, hlen with
  | [c0, c1, c2], _ =>
    have h0 := hf 0 _ rfl
    have h1 := hf 1 _ rfl
    have h2 := hf 2 _ rfl
    obtain ⟨y0, e0⟩ := get_some (xs := xs) (i := 0) (by rw [hxl]; decide)
    obtain ⟨y1, e1⟩ := get_some (xs := xs) (i := 1) (by rw [hxl]; decide)
    obtain ⟨y2, e2⟩ := get_some (xs := xs) (i := 2) (by rw [hxl]; decide)
    rw [e0] at h0
    rw [e1] at h1
    rw [e2] at h2
    simp [Try.cellsInt] at h0 h1 h2
    obtain ⟨a, rfl, ha⟩ := trod_i64 h0
    obtain ⟨b, rfl, hb⟩ := trod_i64 h1
    obtain ⟨c, rfl, hc⟩ := trod_i64 h2
    exact ⟨⟨a, b, c⟩, ⟨ha, hb, hc⟩, rfl⟩
set_option maxRecDepth 100000 in
theorem open_routes {v : Value} {d : DataW H} {p : List MemPlace} (hv : Value.okWide Try.prog w r b0 41 v) (h : DataW.Trod enc Try.prog w base spare held 41 v d p) :
    ∃ (A : Option Addr) (n c : Nat) (l : List RouteV), v = .slice A n c ∧ n ≤ c ∧ c ≤ maxLen ∧ SlAt RouteV.cells 3 w w.heap.size A n l ∧ (∀ r ∈ l, r.ok) ∧ (n = 0 ∨ ∃ elems sp, d = .slice elems sp ∧ elems.length = n) :=
  open_elems RouteV.cells RouteV.ok 3 Try.underlying41 Try.cellsRoute (by omega) RouteV.len (fun _ _ _ h => read_route h) hv h
set_option maxRecDepth 100000 in
theorem open_i64 {v : Value} {d : DataW H} {p : List MemPlace} (hv : Value.okWide Try.prog w r b0 3 v) (h : DataW.Trod enc Try.prog w base spare held 3 v d p) : ∃ x : Int, v = .int .i64 x ∧ i64ok x := by
  obtain ⟨x, rfl, rfl, rfl, wx⟩ := open_int Try.underlying3 hv h
  exact ⟨x, rfl, wf_i64ok wx⟩
end

set_option maxRecDepth 100000 in
theorem fibLongest_lifted (os : Os) (started : os.Started) (H : Type) (enc : TypeId × Value → H) :
    ReturnsInHanded {} Try.checked os 6 .any (Rows.fibLongestSpec.pre6 enc Try.prog Try.f6 Rows.fibLongestRow.domain false) (Rows.fibLongestSpec.post enc Try.prog Try.f6 false true false false) :=
  law_lifted (C := Try.checked) (tb := 4) Try.own started (by kernel_rfl) Try.func6 Try.laidOut (by kernel_rfl) rfl (by kernel_rfl) Try.underlying4
    (fun ds h => by
      match ds, h with
      | [_, _, _], _ => exact ⟨rfl, rfl, rfl⟩)
    (ChangeSpec.witness6 (enc := enc) (C := Try.checked) false ⟨#[], #[.slice none 0 0, .int .i64 0, .int .i64 0], []⟩ 8 (by kernel_rfl) (by kernel_rfl) (by kernel_rfl) (by kernel_rfl))
    (fun W base args ds p hval0 hA0 hlt hsz => by
      have hval : ∀ (j : Nat) t v, Try.f6.params[j]? = some t → args[j]? = some v → Value.okWide Try.prog W .any base t v := hval0
      have hA : DataW.TrodAll enc Try.prog W 0 (fun _ => true) true Try.f6.params.toList args.toList ds p := hA0
      rw [Try.params6] at hA hval
      obtain ⟨v0, vs0, d0, ds0, p0, q0, hargs, rfl, rfl, h0, r0⟩ := args_cons hA
      obtain ⟨v1, vs1, d1, ds1, p1, q1, rfl, rfl, rfl, h1, r1⟩ := args_cons r0
      obtain ⟨v2, vs2, d2, ds2, p2, q2, rfl, rfl, rfl, h2, r2⟩ := args_cons r1
      obtain ⟨rfl, rfl, rfl⟩ := args_nil r2
      obtain rfl : args = #[v0, v1, v2] := arr_eq hargs
      obtain ⟨A, n, c, l, rfl, hnc, hcm, hl, hok, _⟩ := open_routes (hval 0 _ v0 rfl rfl) h0
      obtain ⟨x, rfl, hx⟩ := open_i64 (hval 1 _ v1 rfl rfl) h1
      obtain ⟨y, rfl, hy⟩ := open_i64 (hval 2 _ v2 rfl rfl) h2
      exact fibLongest_walk l A n c x y W (Nat.le_trans hnc hcm) hnc hx hy hl hok)

theorem fibLongest_holds : Rows.FibLongestSaid :=
  OpenClaim.holds_of_wide 6 Try.f6 rfl rfl rfl rfl rfl rfl rfl ⟨rfl, rfl, rfl, rfl, rfl⟩ rfl rfl rfl rfl rfl (by kernel_rfl) Try.func6 (by kernel_rfl)
    (of_decide_eq_true (by kernel_rfl)) (by unfold Func.isWrapper; first | (rw [if_pos (by decide +kernel)]; kernel_rfl) | (rw [if_neg (by decide +kernel)]; exact ⟨rfl, rfl⟩))
    (fun os started H enc _ => fibLongest_lifted os started H enc)
end Go.Proofs.Ytoanimmlpfchjaa
