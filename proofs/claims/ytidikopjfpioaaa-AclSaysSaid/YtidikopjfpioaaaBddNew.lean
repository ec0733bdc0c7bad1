/- The arena's inner calls: New. -/
import Derived.Test.YtidikopjfpioaaaBddIte
import Derived.WalkLawsBesides
import Derived.Laws.OwnMore
set_option linter.unusedVariables false
set_option linter.unusedSimpArgs false
namespace Go.Proofs.Ytidikopjfpioaaa
open Go.RowKit Go.Maps Bdd

def newSt (vars most : Nat) : St := ⟨vars, most, [⟨vars, 0, 0⟩, ⟨vars, 0, 0⟩], false⟩

theorem newSt_inv (vars most : Nat) (hv : 1 ≤ vars) (hm : 2 ≤ most) : Inv (newSt vars most) := by
  have hlt : ∀ (i : Nat) (n : Bdd.Node), (newSt vars most).ns[i]? = some n → i < 2 := fun i n h => by
    have := (List.getElem?_eq_some_iff.1 h).1; simpa [newSt] using this
  refine ⟨⟨by simp [newSt], rfl, rfl, fun i n h h2 => by have := hlt i n h; omega, fun i j n h2 _ h _ => by have := hlt i n h; omega⟩, hm, fun h => by cases h⟩

theorem new_at (w : World) (vars most : Nat) (hv : 1 ≤ vars) (hv2 : vars ≤ 16) (hm : 2 ≤ most) (hm2 : most ≤ 40000) (o0 : Obj) :
    ArenaAt (((((w.alloc o0).alloc (.cells #[.int .i64 vars, .int .i64 0, .int .i64 0, .int .i64 vars, .int .i64 0, .int .i64 0] 129)).alloc (.map #[] 0)).alloc (.map #[] 0)).alloc
      (.cells #[.int .i64 vars, .int .i64 most, .slice (some ⟨w.heap.size + 1, 0, none⟩) 2 2, .map (some (w.heap.size + 1 + 1)), .map (some (w.heap.size + 1 + 1 + 1)), .bool false] 134))
      w.heap.size (w.heap.size + 1 + 1 + 1 + 1) (w.heap.size + 1) (w.heap.size + 1 + 1) (w.heap.size + 1 + 1 + 1) 2 (newSt vars most) (fun _ => none) (fun _ => none) := by
  have hs : (w.alloc o0).heap.size = w.heap.size + 1 := by simp
  have h1 := World.ownsRow_lit (base := w.heap.size) (e := 129) (size := 3) (w.alloc o0) #[.int .i64 vars, .int .i64 0, .int .i64 0, .int .i64 vars, .int .i64 0, .int .i64 0] 2 (by rw [hs]; omega) (by simp [maxLen]) (by simp)
  rw [hs] at h1
  generalize hw1 : (w.alloc o0).alloc _ = w1 at *
  have s1 : w1.heap.size = w.heap.size + 1 + 1 := by rw [← hw1]; simp
  have h2 := MapIs.made (P := Try.prog) (kt := 129) (key := triVal) (dom := triDom) w1
  rw [s1] at h2
  have h2' := h1.alloc (.map #[] 0)
  generalize hw2 : w1.alloc _ = w2 at *
  have s2 : w2.heap.size = w.heap.size + 1 + 1 + 1 := by rw [← hw2]; simp [s1]
  have h3 := MapIs.made (P := Try.prog) (kt := 214) (key := triVal) (dom := triDom) w2
  rw [s2] at h3
  have h3' := h2'.alloc (.map #[] 0)
  have h3k := h2.same (w' := w2.alloc (.map #[] 0)) (RowKit.Below.heap_alloc _ _ _ (by omega))
  generalize hw3 : w2.alloc _ = w3 at *
  have s3 : w3.heap.size = w.heap.size + 1 + 1 + 1 + 1 := by rw [← hw3]; simp [s2]
  have hb := heap_alloc_new w3 (.cells #[.int .i64 vars, .int .i64 most, .slice (some ⟨w.heap.size + 1, 0, none⟩) 2 2, .map (some (w.heap.size + 1 + 1)), .map (some (w.heap.size + 1 + 1 + 1)), .bool false] 134)
  rw [s3] at hb
  refine ⟨by rw [cell_of_row _ _ _ _ _ _ hb]; rfl, by rw [cell_of_row _ _ _ _ _ _ hb]; rfl, by rw [cell_of_row _ _ _ _ _ _ hb]; rfl, by rw [cell_of_row _ _ _ _ _ _ hb]; rfl, by rw [cell_of_row _ _ _ _ _ _ hb]; rfl, by rw [cell_of_row _ _ _ _ _ _ hb]; rfl, fun o => ?_,
    h3'.alloc _, h3k.same (RowKit.Below.heap_alloc _ _ _ (by omega)), h3.same (RowKit.Below.heap_alloc _ _ _ (by omega)), newSt_inv vars most hv hm, ⟨hv, hv2⟩, hm2, ?_, fun f g h x hx => (by cases hx), ⟨by omega, by omega⟩, ⟨by omega, by omega, by omega⟩⟩
  · unfold World.frozen?; rw [hb]; simp
  · intro v lo hi x
    constructor
    · intro h; cases h
    · rintro ⟨i, hi2, hin, _⟩
      have := (List.getElem?_eq_some_iff.1 hin).1
      simp [newSt] at this
      omega

/-- What New leaves. -/
def NewP (w : World) (vars most : Nat) (e : Ending) (W' : World) : Prop :=
  ∃ g nb kb ib : Nat, e = .returned (.tuple #[.pointer (some ⟨g, 0, none⟩), .int .i64 0]) ∧ ArenaAt W' w.heap.size g nb kb ib 2 (newSt vars most) (fun _ => none) (fun _ => none) ∧ RowKit.Below w.heap.size w W'

set_option maxRecDepth 100000 in
set_option maxHeartbeats 4000000 in
theorem new_walk (w : World) (vars most : Nat) (hv : 1 ≤ vars) (hv2 : vars ≤ 16) (hm : 2 ≤ most) (hm2 : most ≤ 40000) :
    Calls Try.prog 24 #[.int .i64 vars, .int .i64 most] w (NewP w vars most) := by
  have HN := hide (fun o0 => new_at w vars most hv hv2 hm hm2 o0)
  have HB : Hid (∀ o0 o1 o2 o3 o4, RowKit.Below w.heap.size w (((((w.alloc o0).alloc o1).alloc o2).alloc o3).alloc o4)) := hide (fun o0 o1 o2 o3 o4 => by
    have hz : ∀ (w' : World) o, w.heap.size ≤ w'.heap.size → w.heap.size ≤ (w'.alloc o).heap.size := fun w' o h => by simp; omega
    exact (((((RowKit.Below.refl _ _).alloc (Nat.le_refl _) o0).alloc (hz _ _ (Nat.le_refl _)) o1).alloc (hz _ _ (hz _ _ (Nat.le_refl _))) o2).alloc (hz _ _ (hz _ _ (hz _ _ (Nat.le_refl _)))) o3).alloc (hz _ _ (hz _ _ (hz _ _ (hz _ _ (Nat.le_refl _))))) o4)
  have hmm := @run_makeMap Try.prog
  go_enter Try.func24, Try.ntmps24
  go_wp2
  go_ret2
  exact ⟨_, _, _, _, rfl, HN.out _, HB.out _ _ _ _ _⟩

set_option maxRecDepth 100000 in
set_option maxHeartbeats 4000000 in
theorem new_bad (w : World) (vars most : Int) (hb : vars < 1 ∨ 16 < vars) :
    Calls Try.prog 24 #[.int .i64 vars, .int .i64 most] w fun e W' => e = .returned (.tuple #[.pointer none, .int .i64 1]) ∧ RowKit.Below w.heap.size w W' := by
  have HB : Hid (∀ o0, RowKit.Below w.heap.size w (w.alloc o0)) := hide (fun o0 => (RowKit.Below.refl _ _).alloc (Nat.le_refl _) o0)
  have hmm := @run_makeMap Try.prog
  rcases hb with h | h
  all_goals
    go_enter Try.func24, Try.ntmps24
    go_wp2
    go_ret2
    exact ⟨rfl, RowKit.Below.refl _ _⟩
end Go.Proofs.Ytidikopjfpioaaa
