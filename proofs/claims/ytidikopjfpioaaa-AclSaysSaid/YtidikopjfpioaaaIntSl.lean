/- slices.Index, Contains, Equal of numbers. -/
import Derived.Test.YtidikopjfpioaaaDead
set_option linter.unusedVariables false
set_option linter.unusedSimpArgs false
namespace Go.Proofs.Ytidikopjfpioaaa
open Go.RowKit Go.Maps Bdd

theorem ints_of_own {w : World} {base : Nat} {v : Value} {dl : List Nat} (h : w.ownsRow base 3 1 v dl.length (intCells dl)) (hb : ∀ x ∈ dl, x < 4611686018427387904) :
    ∃ A c, v = .slice A dl.length c ∧ dl.length ≤ c ∧ IntsAt w w.heap.size A dl.length (dl.map fun (k : Nat) => (k : Int)) := by
  rcases h.2 with ⟨rfl, h0⟩ | ⟨g, cap, cur, rfl, hg, hh, hnc, _⟩
  · have : dl = [] := List.eq_nil_of_length_eq_zero h0
    subst this
    exact ⟨none, 0, rfl, Nat.le_refl _, IntsAt.nil _ _ _⟩
  · refine ⟨_, cap, rfl, hnc, ⟨by simp, fun x hx => ?_, fun _ => ⟨g, 0, rfl, (Array.getElem?_eq_some_iff.1 hh).1, fun k x hx => ?_⟩⟩⟩
    · obtain ⟨k, hk, rfl⟩ := List.mem_map.1 hx
      have := hb k hk
      omega
    · have := h.cells (g := g) rfl k (.int .i64 x) (by
        rw [List.getElem?_map] at hx
        cases e : dl[k]? with
        | none => rw [e] at hx; cases hx
        | some y => rw [e] at hx; cases hx; simp [intCells, e])
      rw [addr_add] at this
      exact this

set_option maxRecDepth 100000 in
set_option maxHeartbeats 4000000 in
theorem index_walk (l : List Int) (b o n c : Nat) (x : Int) (W : World) (hn : n ≤ 9223372036854775807) (hl : IntsAt W W.heap.size (some ⟨b, o, none⟩) n l) (h0 : 0 < n) :
    Calls Try.prog 95 #[.slice (some ⟨b, o, none⟩) n c, .int .i64 x] W fun e W' => e = .returned (.int .i64 (idxF (fun y => x == y) l)) ∧ RowKit.Below W.heap.size W W' := by
  have HL := hide hl
  clear hl
  go_enter Try.func95, Try.ntmps95
  go_wp2
  go_loopw [8] (fun i wr => ∃ k : Nat, k ≤ n ∧ i = .int .i64 k ∧ RowKit.Below W.heap.size W wr ∧ Hid (∀ j y, j < k → l[j]? = some y → (x == y) = false)) (fun i _ => n - (intOf i).toNat)
  case atStart => exact ⟨0, Nat.zero_le _, rfl, RowKit.Below.refl _ _, hide (fun j r h => absurd h (by omega))⟩
  case round =>
    obtain ⟨k, hk, rfl, hb, HN⟩ := hrel
    have HB := hide hb
    by_cases hlt : k < n
    · obtain ⟨y, hy⟩ : ∃ r, l[k]? = some r := ⟨_, List.getElem?_eq_getElem (by have := HL.out.1; omega)⟩
      obtain ⟨b', o', e, hbB, hg⟩ := HL.out.2.2 (by omega)
      cases e
      have q0 := (hb.cell (p := ⟨b, o + k, none⟩) hbB).trans (hg k y hy)
      have HY := hide hy
      clear hb hg hy
      cases hxy : (x == y)
      · go_wp2
        go_roundw
        case rel => exact ⟨k + 1, by omega, by go_num, HB.out, hide (fun j z hj hz => by
          rcases (by omega : j < k ∨ j = k) with h | rfl
          · exact HN.out j z h hz
          · have e := HY.out; rw [e] at hz; cases hz; exact hxy)⟩
        case measure => simp [intOf]; omega
      · have HF := hide (idxF_found (p := fun y => x == y) HY.out hxy HN.out)
        go_wp2
        go_ret
        exact ⟨ret_i64 HF.out.symm, HB.out⟩
    · have HF := hide (idxF_none (p := fun y => x == y) (l := l) (fun j r hj hr => HN.out j r (by have := HL.out.1; omega) hr))
      go_wp2
      go_ret
      exact ⟨ret_i64 HF.out.symm, HB.out⟩

set_option maxRecDepth 100000 in
theorem contains_yes (l : List Int) (A : Option Addr) (n c : Nat) (x : Int) (W : World) (hn : n ≤ 9223372036854775807) (hl : IntsAt W W.heap.size A n l) (hx : x ∈ l) :
    Calls Try.prog 50 #[.slice A n c, .int .i64 x] W fun e W' => e = .returned (.bool true) ∧ RowKit.Below W.heap.size W W' := by
  have h0 : 0 < n := by have := List.length_pos_of_mem hx; have := hl.1; omega
  obtain ⟨b, o, rfl, _, _⟩ := hl.2.2 h0
  have HC := hide (index_walk l b o n c x W hn hl h0)
  obtain ⟨k, hk⟩ : ∃ k : Nat, idxF (fun y => x == y) l = k := by
    rcases idxF_cases (fun y => x == y) l with ⟨k, r, hk, _⟩ | ⟨_, hno⟩
    · exact ⟨k, hk⟩
    · have := hno x hx; simp at this
  rw [hk] at HC
  clear hl hx hk
  go_enter Try.func50, Try.ntmps50
  go_wp2_with fail
  refine HC.out.mono ?_
  rintro e w1 ⟨rfl, hb⟩
  have HB := hide hb
  clear hb
  go_wp2
  go_ret
  exact ⟨rfl, HB.out⟩

set_option maxRecDepth 100000 in
set_option maxHeartbeats 4000000 in
theorem equal_yes (l : List Int) (A1 A2 : Option Addr) (n c1 c2 : Nat) (W : World) (hn : n ≤ 9223372036854775807) (h1 : IntsAt W W.heap.size A1 n l) (h2 : IntsAt W W.heap.size A2 n l) :
    Calls Try.prog 41 #[.slice A1 n c1, .slice A2 n c2] W fun e W' => e = .returned (.bool true) ∧ RowKit.Below W.heap.size W W' := by
  have H1 := hide h1
  have H2 := hide h2
  clear h1 h2
  go_enter Try.func41, Try.ntmps41
  go_wp2
  go_loopw [13] (fun i wr => ∃ k : Nat, k ≤ n ∧ i = .int .i64 k ∧ RowKit.Below W.heap.size W wr) (fun i _ => n - (intOf i).toNat)
  case atStart => exact ⟨0, Nat.zero_le _, rfl, RowKit.Below.refl _ _⟩
  case round =>
    obtain ⟨k, hk, rfl, hb⟩ := hrel
    have HB := hide hb
    by_cases hlt : k < n
    · obtain ⟨y, hy⟩ : ∃ r, l[k]? = some r := ⟨_, List.getElem?_eq_getElem (by have := H1.out.1; omega)⟩
      obtain ⟨b, o, rfl, hbB, hg⟩ := H1.out.2.2 (by omega)
      obtain ⟨b', o', rfl, hbB', hg'⟩ := H2.out.2.2 (by omega)
      have q0 := (hb.cell (p := ⟨b, o + k, none⟩) hbB).trans (hg k y hy)
      have q1 := (hb.cell (p := ⟨b', o' + k, none⟩) hbB').trans (hg' k y hy)
      clear hb hg hg' hy
      go_wp2
      go_quiet (fail)
      go_wp2
      go_roundw
      case rel => exact ⟨k + 1, by omega, by go_num, HB.out.trans ⟨rfl, rfl, rfl, Nat.le_refl _, fun _ _ => rfl⟩⟩
      case measure => simp [intOf]; omega
    · go_wp2
      go_ret
      exact ⟨rfl, HB.out⟩
end Go.Proofs.Ytidikopjfpioaaa
