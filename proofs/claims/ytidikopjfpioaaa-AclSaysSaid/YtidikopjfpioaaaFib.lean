/- Routes: fib.right, fib.Out, fib.Check: what they answer. -/
import Derived.Test.YtidikopjfpioaaaClone
import Derived.Test.YtidikopjfpioaaaLaw
import Derived.Test.YtidikopjfpioaaaFam
import Derived.Outline
import Derived.BigQuiet
set_option linter.unusedVariables false
set_option linter.unusedSimpArgs false
namespace Go.Proofs.Ytidikopjfpioaaa
open Go.ChangeShapes Go.WideShapes Go.ChangeAt Go.RowKit

structure RouteV where
  v : Int
  b : Int
  p : Int
def RouteV.ok (r : RouteV) : Prop := i64ok r.v ∧ i64ok r.b ∧ i64ok r.p
def RouteV.cells (r : RouteV) : List Value := [.int .i64 r.v, .int .i64 r.b, .int .i64 r.p]
def RouteV.val (r : RouteV) : Value := .agg #[.int .i64 r.v, .int .i64 r.b, .int .i64 r.p]
theorem RouteV.len (r : RouteV) : r.cells.length = 3 := rfl
theorem RouteV.one (r : RouteV) : ∀ u ∈ r.cells, u.oneCell' = true := by
  intro u hu
  simp only [RouteV.cells, List.mem_cons, List.not_mem_nil, or_false] at hu
  rcases hu with rfl | rfl | rfl <;> rfl

def maskB (v b : Int) : Bool := bits .and .i64 v (15 / 2 ^ b.toNat) == 0
def takesB (d v b : Int) : Bool := bits .andNot .i64 d (15 / 2 ^ b.toNat) == v
def routeB (v b p : Int) : Bool := decide (0 ≤ b) && decide (b ≤ 4) && decide (0 ≤ v) && decide (v < 16) && maskB v b && decide (0 ≤ p) && decide (p ≤ 3)

set_option maxRecDepth 100000 in
set_option maxHeartbeats 4000000 in
theorem right75_walk (v b p : Int) (W : World) (hv : i64ok v) (hb : i64ok b) (hp : i64ok p) : Calls Try.prog 146 #[.agg #[.int .i64 v, .int .i64 b, .int .i64 p]] W fun e W' => e = .returned (.bool (routeB v b p)) ∧ Below W.heap.size W W' := by
  obtain ⟨hv1, hv2⟩ := hv
  obtain ⟨hb1, hb2⟩ := hb
  obtain ⟨hp1, hp2⟩ := hp
  by_cases h1 : 0 ≤ b
  case neg =>
    have h1' : decide (0 ≤ b) = false := by simpa using h1
    go_enter Try.func146, Try.ntmps146
    go_wp2
    go_quiet (fail)
    go_wp2
    go_ret
    exact ⟨by simp [routeB, h1'], ((Below.refl _ _).alloc (Nat.le_refl _) _).trans ⟨rfl, rfl, rfl, Nat.le_refl _, fun _ _ => rfl⟩⟩
  by_cases h2 : b ≤ 4
  case neg =>
    have h2' : decide (b ≤ 4) = false := by simpa using h2
    go_enter Try.func146, Try.ntmps146
    go_wp2
    go_quiet (fail)
    go_wp2
    go_ret
    exact ⟨by simp [routeB, h2'], ((Below.refl _ _).alloc (Nat.le_refl _) _).trans ⟨rfl, rfl, rfl, Nat.le_refl _, fun _ _ => rfl⟩⟩
  by_cases h3 : 0 ≤ v
  case neg =>
    have h3' : decide (0 ≤ v) = false := by simpa using h3
    go_enter Try.func146, Try.ntmps146
    go_wp2
    go_quiet (fail)
    go_wp2
    go_ret
    exact ⟨by simp [routeB, h3'], ((Below.refl _ _).alloc (Nat.le_refl _) _).trans ⟨rfl, rfl, rfl, Nat.le_refl _, fun _ _ => rfl⟩⟩
  by_cases h4 : v < 16
  case neg =>
    have h4' : decide (v < 16) = false := by simpa using h4
    go_enter Try.func146, Try.ntmps146
    go_wp2
    go_quiet (fail)
    go_wp2
    go_ret
    exact ⟨by simp [routeB, h4'], ((Below.refl _ _).alloc (Nat.le_refl _) _).trans ⟨rfl, rfl, rfl, Nat.le_refl _, fun _ _ => rfl⟩⟩
  cases h5 : (bits .and .i64 v (15 / 2 ^ b.toNat) == 0)
  · go_enter Try.func146, Try.ntmps146
    go_wp2
    go_quiet (fail)
    go_wp2
    go_ret
    exact ⟨by simp [routeB, maskB, h5], ((Below.refl _ _).alloc (Nat.le_refl _) _).trans ⟨rfl, rfl, rfl, Nat.le_refl _, fun _ _ => rfl⟩⟩
  by_cases h6 : 0 ≤ p
  case neg =>
    have h6' : decide (0 ≤ p) = false := by simpa using h6
    go_enter Try.func146, Try.ntmps146
    go_wp2
    go_quiet (fail)
    go_wp2
    go_ret
    exact ⟨by simp [routeB, h6'], ((Below.refl _ _).alloc (Nat.le_refl _) _).trans ⟨rfl, rfl, rfl, Nat.le_refl _, fun _ _ => rfl⟩⟩
  cases h7 : decide (p ≤ 3)
  · go_enter Try.func146, Try.ntmps146
    go_wp2
    go_quiet (fail)
    go_wp2
    go_ret
    exact ⟨by simp [routeB, h7], ((Below.refl _ _).alloc (Nat.le_refl _) _).trans ⟨rfl, rfl, rfl, Nat.le_refl _, fun _ _ => rfl⟩⟩
  · have h8 : p ≤ 3 := by simpa using h7
    go_enter Try.func146, Try.ntmps146
    go_wp2
    go_quiet (fail)
    go_wp2
    go_ret
    exact ⟨by simp [routeB, maskB, h1, h2, h3, h4, h5, h6, h8], ((Below.refl _ _).alloc (Nat.le_refl _) _).trans ⟨rfl, rfl, rfl, Nat.le_refl _, fun _ _ => rfl⟩⟩

def RouteAt (w : World) (b o : Nat) (r : RouteV) : Prop :=
  w.cell? ⟨b, o, none⟩ = some (.int .i64 r.v) ∧ w.cell? ⟨b, o + 1, none⟩ = some (.int .i64 r.b) ∧ w.cell? ⟨b, o + 2, none⟩ = some (.int .i64 r.p)
theorem RouteAt.below {w w' : World} {B b o : Nat} {r : RouteV} (h : RouteAt w b o r) (hB : Below B w w') (hb : b < B) : RouteAt w' b o r := by
  unfold RouteAt at *
  have e : ∀ o, w'.cell? ⟨b, o, none⟩ = w.cell? ⟨b, o, none⟩ := fun o => hB.cell (p := ⟨b, o, none⟩) hb
  rw [e, e, e]
  exact h
theorem route_get {w : World} {B b o n k : Nat} {l : List RouteV} {r : RouteV} (h : SlAt RouteV.cells 3 w B (some ⟨b, o, none⟩) n l) (hr : l[k]? = some r) : b < B ∧ RouteAt w b (o + k * 3) r :=
  ⟨(h.get hr).1, (h.get hr).2 0 _ rfl, (h.get hr).2 1 _ rfl, (h.get hr).2 2 _ rfl⟩

/-! ### fib.Out -/
def outHit (d : Int) (r : RouteV) (bits : Int) : Bool := routeB r.v r.b r.p && decide (0 ≤ d) && decide (d < 16) && takesB d r.v r.b && decide (bits < r.b)
def outStep (d : Int) (s : Int × Int) (r : RouteV) : Int × Int := if outHit d r s.2 then (r.p, r.b) else s
def outF (d : Int) (l : List RouteV) : Int × Int := l.foldl (outStep d) (0, -1)

theorem right75_is (v b p : Int) (W : World) (B : Bool) (hv : i64ok v) (hb : i64ok b) (hp : i64ok p) (h : routeB v b p = B) : Calls Try.prog 146 #[.agg #[.int .i64 v, .int .i64 b, .int .i64 p]] W fun e W' => e = .returned (.bool B) ∧ Below W.heap.size W W' :=
  h ▸ right75_walk v b p W hv hb hp

theorem outF_snoc (d : Int) (l : List RouteV) {k : Nat} {r : RouteV} (hr : l[k]? = some r) : outF d (l.take (k + 1)) = outStep d (outF d (l.take k)) r := by
  have hk := List.getElem?_eq_some_iff.1 hr
  obtain ⟨hk1, hk2⟩ := hk
  rw [outF, List.take_succ_eq_append_getElem hk1, List.foldl_append, hk2]
  rfl
end Go.Proofs.Ytidikopjfpioaaa
