/- MatchBuilds: the walk. -/
import Derived.Test.YtoanimmlpfchjaaBuildBad
import Derived.WalkLawsBesides
set_option linter.unusedVariables false
set_option linter.unusedSimpArgs false
namespace Go.Proofs.Ytoanimmlpfchjaa
open Go.RowKit Go.Maps Bdd

set_option maxRecDepth 100000 in
theorem clos_walk (w : World) (k : Nat) (s d p q c : Nat) (hs : s < 65536) (hd : d < 65536) (hp : p < 256) (hq : q < 256) (hc : c < 16384) (hk : k < w.heap.size)
    (x0 : w.cell? ⟨k, 0, none⟩ = some (.int .u16 s)) (x1 : w.cell? ⟨k, 1, none⟩ = some (.int .u16 d)) (x2 : w.cell? ⟨k, 2, none⟩ = some (.int .u8 p)) (x3 : w.cell? ⟨k, 3, none⟩ = some (.int .u8 q)) :
    Calls Try.prog 31 (#[packVal c] ++ #[.pointer (some ⟨k, 0, none⟩)]) w fun e W' => e = .returned (.bool (hasAllB s d p q (c / 1024) (c / 64 % 16) (c / 8 % 8) (c % 8))) ∧ RowKit.Below w.heap.size w W' := by
  have hne : k ≠ w.heap.size := by omega
  show Calls Try.prog 31 #[packVal c, .pointer (some ⟨k, 0, none⟩)] w _
  have HA : Hid (∀ w1, Calls Try.prog 32 #[.agg #[.int .u16 s, .int .u16 d, .int .u8 p, .int .u8 q], packVal c] w1 fun e W' => e = .returned (.bool (hasAllB s d p q (c / 1024) (c / 64 % 16) (c / 8 % 8) (c % 8))) ∧ RowKit.Below w1.heap.size w1 W') :=
    hide (fun w1 => hasAll_walk w1 s d p q _ _ _ _ hs hd hp hq (by omega) (by omega) (by omega) (by omega))
  unfold packVal at HA ⊢
  go_enter Try.func31, Try.ntmps31
  go_wp2_with fail
  refine (HA.out _).mono ?_
  rintro e w1 ⟨rfl, hb⟩
  go_wp2
  go_ret
  first
    | exact ⟨rfl, hb⟩
    | exact ⟨rfl, ((RowKit.Below.refl _ _).alloc (Nat.le_refl _) _).trans (hb.mono (by simp))⟩
end Go.Proofs.Ytoanimmlpfchjaa
