/- net.named, net.backs, net.device. -/
import Derived.Test.YtohbafigjpoijaaDoorDevs
import Derived.Test.YtohbafigjpoijaaDoorG4
import Derived.Test.YtohbafigjpoijaaDoorG6
set_option linter.unusedVariables false
set_option linter.unusedSimpArgs false
namespace Go.Proofs.YtohbafigjpoijaaDoor
open Go.RowKit

/-! ### plainly -/
def nameByte (b : UInt8) : Bool := (decide (97 ≤ b.toNat) && decide (b.toNat ≤ 122)) || (decide (48 ≤ b.toNat) && decide (b.toNat ≤ 57))
def namedB (s : ByteArray) : Bool := s.data.toList.all nameByte && decide (1 ≤ s.size) && decide (s.size ≤ 8)
def backsOk (addr : Int) : List Int → List Int → Bool
  | _, [] => true
  | pre, b :: t => decide (0 ≤ b) && decide (b < 16) && (b != addr) && !pre.contains b && backsOk addr (pre ++ [b]) t
def backsB (d : Dev) : Bool := backsOk d.addr [] d.backs && ((decide (0 < d.backs.length)) == (d.kind == 5))
def addrB (k : Int) : Bool := (k == 1) || (k == 4) || (k == 5)
def devE (d : Dev) : Int :=
  if decide (d.kind < 1) || decide (5 < d.kind) then 1
  else if (addrB d.kind && !(decide (0 ≤ d.addr) && decide (d.addr < 16))) || (!addrB d.kind && (d.addr != 0)) || ((d.pool != 0) != (d.kind == 4)) then 1
  else if decide (3 < d.backs.length) then 2
  else if !backsB d then 1
  else if (decide (0 < d.rules.length) && (d.kind != 2) && (d.kind != 3)) || (decide (0 < d.routes.length) && (d.kind != 2)) then 1
  else if decide (8 < d.rules.length) then 2
  else checkF d.routes

theorem backsOk_step {addr : Int} {l : List Int} {k : Nat} {b : Int} (h : l[k]? = some b) : backsOk addr (l.take k) (l.drop k) = (decide (0 ≤ b) && decide (b < 16) && (b != addr) && !(l.take k).contains b && backsOk addr (l.take (k + 1)) (l.drop (k + 1))) := by
  obtain ⟨hk, e⟩ := List.getElem?_eq_some_iff.1 h
  rw [List.drop_eq_getElem_cons hk, e, List.take_succ_eq_append_getElem hk, e]; rfl

/-! ### named -/
theorem named_bad {s : ByteArray} {b : UInt8} (hm : b ∈ s.data.toList) (h : nameByte b = false) : namedB s = false := by
  have : s.data.toList.all nameByte = false := by
    rw [List.all_eq_false]
    exact ⟨b, hm, by simp [h]⟩
  simp [namedB, this]
theorem named_end {s : ByteArray} {k : Nat} (hk : s.size ≤ k) (h : ∀ b ∈ s.data.toList.take k, nameByte b = true) : namedB s = (decide (1 ≤ s.size) && decide (s.size ≤ 8)) := by
  have : s.data.toList.all nameByte = true := by
    rw [List.all_eq_true]
    rw [List.take_of_length_le (by simpa using hk)] at h
    exact h
  simp [namedB, this]

set_option maxRecDepth 100000 in
set_option maxHeartbeats 4000000 in
theorem named_walk (s : ByteArray) (W : World) (hs : s.size ≤ maxLen) : Calls Tryd.prog 64 #[.string s] W fun e W' => e = .returned (.bool (namedB s)) ∧ W = W' := by
  unfold maxLen at hs
  go_enter Tryd.func64, Tryd.ntmps64
  go_wp2
  go_loop [7] (fun i => ∃ k : Nat, k ≤ s.size ∧ i = .int .i64 k ∧ Hid (∀ b ∈ s.data.toList.take k, nameByte b = true)) (fun i => s.size - (intOf i).toNat)
  case atStart => exact ⟨0, Nat.zero_le _, rfl, hide (fun b hb => by simp at hb)⟩
  case round =>
    obtain ⟨k, hk, rfl, HN⟩ := hrel
    by_cases hlt : k < s.size
    · have HT := hide (show s.data.toList.take (k + 1) = s.data.toList.take k ++ [s[k]] from by rw [List.take_succ_eq_append_getElem (by simpa using hlt)]; rfl)
      have HM := hide (show s[k] ∈ s.data.toList from List.getElem_mem (by simpa using hlt))
      go_wp2
      all_goals first
        | (go_round
           case rel => exact ⟨k + 1, by omega, by go_num, hide (by
            intro b hb
            rw [HT.out, List.mem_append, List.mem_singleton] at hb
            rcases hb with hb | rfl
            · exact HN.out b hb
            · simp [nameByte]; omega)⟩
           case measure => simp [intOf]; omega)
        | (go_ret
           exact ⟨ret_bool (named_bad HM.out (by simp [nameByte]; omega)).symm, rfl⟩)
    · have HE := hide (named_end (by omega) HN.out)
      cases h1 : decide (1 ≤ s.size)
      · have h1' : ¬ 1 ≤ s.size := by simpa using h1
        go_wp2
        go_ret
        exact ⟨ret_bool (by rw [HE.out, h1]; rfl), rfl⟩
      · have h1' : 1 ≤ s.size := by simpa using h1
        by_cases h2 : s.size ≤ 8
        · have HF := hide (show namedB s = true from by rw [HE.out, h1]; simpa using h2)
          clear h1
          go_wp2
          go_ret
          exact ⟨ret_bool (by rw [HF.out]; simp <;> omega), rfl⟩
        · have HF := hide (show namedB s = false from by rw [HE.out, h1]; simpa using h2)
          clear h1
          go_wp2
          go_ret
          exact ⟨ret_bool (by rw [HF.out]; simp <;> omega), rfl⟩

/-! ### backs -/
set_option maxRecDepth 100000 in
theorem index_nil (A : Option Addr) (c : Nat) (x : Int) (W : World) : Calls Tryd.prog 131 #[.slice A 0 c, .int .i64 x] W fun e W' => e = .returned (.int .i64 (-1)) ∧ W = W' := by
  go_enter Tryd.func131, Tryd.ntmps131
  go_wp2
  refine wp_loop_rounds 1 ?_
  rw [rounds_succ]
  go_wp2
  go_ret
  exact ⟨rfl, rfl⟩
set_option maxRecDepth 100000 in
theorem contains_is (l : List Int) (A : Option Addr) (n c : Nat) (x : Int) (W : World) (hn : n ≤ 9223372036854775807) (hl : IntsAt W W.heap.size A n l) :
    Calls Tryd.prog 110 #[.slice A n c, .int .i64 x] W fun e W' => e = .returned (.bool (l.contains x)) ∧ RowKit.Below W.heap.size W W' := by
  by_cases hx : x ∈ l
  · have : l.contains x = true := by simpa using hx
    rw [this]
    exact contains_yes l A n c x W hn hl hx
  · have hc : l.contains x = false := by simpa using hx
    rw [hc]
    rcases Nat.eq_zero_or_pos n with rfl | h0
    · go_enter Tryd.func110, Tryd.ntmps110
      go_wp2_with fail
      refine (index_nil _ _ _ _).mono ?_
      rintro e w1 ⟨rfl, rfl⟩
      go_wp2
      go_ret
      exact ⟨rfl, RowKit.Below.refl _ _⟩
    · obtain ⟨b, o, rfl, _, _⟩ := hl.2.2 h0
      have HC := hide (index_walk l b o n c x W hn hl h0)
      have : idxF (fun y => x == y) l = -1 := by
        rcases idxF_cases (fun y => x == y) l with ⟨k, r, hk, _, hr, hy, _⟩ | ⟨hk, _⟩
        · have e : x = r := by simpa using hy
          exact absurd (e ▸ List.mem_of_getElem? hr) hx
        · exact hk
      rw [this] at HC
      clear hl hx hc
      go_enter Tryd.func110, Tryd.ntmps110
      go_wp2_with fail
      refine HC.out.mono ?_
      rintro e w1 ⟨rfl, hb⟩
      have HB := hide hb
      clear hb
      go_wp2
      go_ret
      exact ⟨rfl, HB.out⟩
end Go.Proofs.YtohbafigjpoijaaDoor
