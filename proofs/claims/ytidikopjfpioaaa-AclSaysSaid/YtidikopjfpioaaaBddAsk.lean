/- The arena's inner calls: ask. -/
import Derived.Test.YtidikopjfpioaaaBddNew
import Derived.WalkLawsBesides
set_option linter.unusedVariables false
set_option linter.unusedSimpArgs false
namespace Go.Proofs.Ytidikopjfpioaaa
open Go.RowKit Go.Maps Bdd

/-- A slice of numbers in memory. -/
def IntsAt (w : World) (B : Nat) (A : Option Addr) (n : Nat) (l : List Int) : Prop :=
  l.length = n ∧ (∀ x ∈ l, -9223372036854775808 ≤ x ∧ x ≤ 9223372036854775807) ∧ (0 < n → ∃ b o, A = some ⟨b, o, none⟩ ∧ b < B ∧ ∀ (k : Nat) (x : Int), l[k]? = some x → w.cell? ⟨b, o + k, none⟩ = some (.int .i64 x))
theorem IntsAt.nil (w : World) (B : Nat) (A : Option Addr) : IntsAt w B A 0 [] := ⟨rfl, fun x hx => (by cases hx), fun h => by omega⟩
theorem IntsAt.below {w w' : World} {B B' n : Nat} {A : Option Addr} {l : List Int} (h : IntsAt w B A n l) (hB : RowKit.Below B w w') (hB' : B ≤ B') : IntsAt w' B' A n l :=
  ⟨h.1, h.2.1, fun h0 => by
    obtain ⟨b, o, e, hb, hg⟩ := h.2.2 h0
    exact ⟨b, o, e, by omega, fun k x hx => (hB.cell (p := ⟨b, o + k, none⟩) hb).trans (hg k x hx)⟩⟩

def AskOk (A : St) (fs vs : List Int) : Prop := (∀ x ∈ fs, 0 ≤ x ∧ x < A.ns.length) ∧ ∀ x ∈ vs, 0 ≤ x ∧ x < A.vars
def AskP (A : St) (fs vs : List Int) (w : World) (e : Ending) (W' : World) : Prop :=
  (AskOk A fs vs → e = .returned (.int .i64 0)) ∧ (¬ AskOk A fs vs → e = .returned (.int .i64 1)) ∧ RowKit.Below w.heap.size w W'

theorem ask_upto {P : Int → Prop} {l : List Int} {n k : Nat} (hn : l.length = n) (hk : k = n) (h : ∀ j x, j < k → l[j]? = some x → P x) : ∀ x ∈ l, P x := fun x hx => by
  obtain ⟨j, hj⟩ := List.getElem?_of_mem hx
  exact h j x (by have := (List.getElem?_eq_some_iff.1 hj).1; omega) hj

theorem ask_next {P : Int → Prop} {l : List Int} {k : Nat} {y : Int} (hy : l[k]? = some y) (hp : P y) (h : ∀ j x, j < k → l[j]? = some x → P x) : ∀ j x, j < k + 1 → l[j]? = some x → P x := fun j x hj hx => by
  rcases (by omega : j < k ∨ j = k) with h' | rfl
  · exact h j x h' hx
  · rw [hy] at hx; cases hx; exact hp

set_option maxRecDepth 100000 in
set_option maxHeartbeats 4000000 in
theorem ask_walk {w : World} {B g nb kb ib cap : Nat} {A : St} {K T : Tri → Option Value} (h : ArenaAt w B g nb kb ib cap A K T) (fs vs : List Int) (a1 a2 : Option Addr) (n1 n2 c1 c2 : Nat) (hn1 : n1 ≤ 9223372036854775807) (hn2 : n2 ≤ 9223372036854775807)
    (h1 : IntsAt w w.heap.size a1 n1 fs) (h2 : IntsAt w w.heap.size a2 n2 vs) :
    Calls Try.prog 123 #[.pointer (some ⟨g, 0, none⟩), .slice a1 n1 c1, .slice a2 n2 c2] w (AskP A fs vs w) := by
  have H := hide h
  have H1 := hide h1
  have H2 := hide h2
  have hlen := h.lenle
  have hvs := h.vs
  obtain ⟨l1, _, _, _, _⟩ := h.lts
  clear h h1 h2
  go_enter Try.func123, Try.ntmps123
  go_wp2
  go_loopw [13] (fun i wr => ∃ k : Nat, k ≤ n1 ∧ i = .int .i64 k ∧ RowKit.Below w.heap.size w wr ∧ Hid (∀ j x, j < k → fs[j]? = some x → 0 ≤ x ∧ x < (A.ns.length : Int))) (fun i _ => n1 - (intOf i).toNat)
  case atStart => exact ⟨0, Nat.zero_le _, rfl, RowKit.Below.refl _ _, hide (fun j r h => by omega)⟩
  case round =>
    obtain ⟨k, hk, rfl, hb, HN⟩ := hrel
    have HB := hide hb
    by_cases hlt : k < n1
    · obtain ⟨y, hy⟩ : ∃ r, fs[k]? = some r := ⟨_, List.getElem?_eq_getElem (by have := H1.out.1; omega)⟩
      obtain ⟨b, o, rfl, hbB, hg⟩ := H1.out.2.2 (by omega)
      have q0 := (hb.cell (p := ⟨b, o + k, none⟩) hbB).trans (hg k y hy)
      obtain ⟨hy1, hy2⟩ := H1.out.2.1 y (List.mem_of_getElem? hy)
      have cc := (hb.cell (p := ⟨g, 2, none⟩) l1).trans H.out.c2
      have HY := hide hy
      clear hb hg hy
      by_cases hx : y < 0
      · have HF := hide (show ¬ AskOk A fs vs from fun hok => by have := (hok.1 y (List.mem_of_getElem? HY.out)).1; omega)
        go_wp2
        go_ret
        exact ⟨fun hh => absurd hh HF.out, fun _ => rfl, HB.out⟩
      · have hx' : decide (y < 0) = false := by simpa using hx
        by_cases hz : (A.ns.length : Int) ≤ y
        · have HF := hide (show ¬ AskOk A fs vs from fun hok => by have := (hok.1 y (List.mem_of_getElem? HY.out)).2; omega)
          go_wp2
          go_ret
          exact ⟨fun hh => absurd hh HF.out, fun _ => rfl, HB.out⟩
        · have hz' : decide ((A.ns.length : Int) ≤ y) = false := by simpa using hz
          go_wp2
          go_roundw
          case rel => exact ⟨k + 1, by omega, by go_num, HB.out, hide (ask_next HY.out ⟨by omega, by omega⟩ HN.out)⟩
          case measure => simp [intOf]; omega
    · have hkn : k = n1 := by omega
      have HA := hide (ask_upto H1.out.1 hkn HN.out)
      clear hb HN
      go_wp2
      go_loopw [31] (fun i wr => ∃ k : Nat, k ≤ n2 ∧ i = .int .i64 k ∧ RowKit.Below w.heap.size w wr ∧ Hid (∀ j x, j < k → vs[j]? = some x → 0 ≤ x ∧ x < (A.vars : Int))) (fun i _ => n2 - (intOf i).toNat)
      case atStart => exact ⟨0, Nat.zero_le _, rfl, HB.out, hide (fun j r h => by omega)⟩
      case round =>
        clear HB
        obtain ⟨k2, hk2, rfl, hb, HN⟩ := hrel
        have HB := hide hb
        by_cases hlt2 : k2 < n2
        · obtain ⟨y, hy⟩ : ∃ r, vs[k2]? = some r := ⟨_, List.getElem?_eq_getElem (by have := H2.out.1; omega)⟩
          obtain ⟨b, o, rfl, hbB, hg⟩ := H2.out.2.2 (by omega)
          have q0 := (hb.cell (p := ⟨b, o + k2, none⟩) hbB).trans (hg k2 y hy)
          obtain ⟨hy1, hy2⟩ := H2.out.2.1 y (List.mem_of_getElem? hy)
          have cc := (hb.cell (p := ⟨g, 0, none⟩) l1).trans H.out.c0
          have HY := hide hy
          clear hb hg hy
          by_cases hx : y < 0
          · have HF := hide (show ¬ AskOk A fs vs from fun hok => by have := (hok.2 y (List.mem_of_getElem? HY.out)).1; omega)
            go_wp2
            go_ret
            exact ⟨fun hh => absurd hh HF.out, fun _ => rfl, HB.out⟩
          · have hx' : decide (y < 0) = false := by simpa using hx
            by_cases hz : (A.vars : Int) ≤ y
            · have HF := hide (show ¬ AskOk A fs vs from fun hok => by have := (hok.2 y (List.mem_of_getElem? HY.out)).2; omega)
              go_wp2
              go_ret
              exact ⟨fun hh => absurd hh HF.out, fun _ => rfl, HB.out⟩
            · have hz' : decide ((A.vars : Int) ≤ y) = false := by simpa using hz
              go_wp2
              go_roundw
              case rel => exact ⟨k2 + 1, by omega, by go_num, HB.out, hide (ask_next HY.out ⟨by omega, by omega⟩ HN.out)⟩
              case measure => simp [intOf]; omega
        · have hkn2 : k2 = n2 := by omega
          have HA2 := hide (ask_upto H2.out.1 hkn2 HN.out)
          clear hb HN
          go_wp2
          go_ret
          exact ⟨fun _ => rfl, fun hh => absurd ⟨HA.out, HA2.out⟩ hh, HB.out⟩
end Go.Proofs.Ytidikopjfpioaaa
