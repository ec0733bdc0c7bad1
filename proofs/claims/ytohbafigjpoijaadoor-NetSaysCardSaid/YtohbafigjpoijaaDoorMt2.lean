/- strings.Split and strings.Join at one byte; wireref.Joined. -/
import Derived.Test.YtohbafigjpoijaaDoorMt1
import Derived.Test.YtohbafigjpoijaaDoorSt6
import Derived.Lib.SplitLaws
set_option linter.unusedVariables false
set_option linter.unusedSimpArgs false
set_option maxRecDepth 100000
set_option maxHeartbeats 4000000
namespace Go.Proofs.YtohbafigjpoijaaDoor
open Go.RowKit

theorem split_walk (l : List UInt8) (b : UInt8) (w : World) (hs : l.length ≤ 1048576) (hm : MaxAt w) :
    Calls Tryd.prog 48 #[.string ⟨l.toArray⟩, .string ⟨#[b]⟩] w fun e w' =>
      e = .returned (.slice (some ⟨w.heap.size, 0, none⟩) (pieces b l).length (pieces b l).length) ∧ StrsAt w' w.heap.size w.heap.size (pieces b l).length (pieces b l).length (pieces b l) ∧ Below w.heap.size w w' := by
  obtain ⟨_, m, hm⟩ := hm
  refine (Tryd.strings_Split ⟨l.toArray⟩ ⟨#[b]⟩ m w (by rw [← sz_list]; simp; omega) hm (Nat.le_refl 1)).mono ?_
  rintro e w' ⟨rfl, rfl⟩
  have hd := Lib.splitB_data ⟨#[b]⟩ 0 (Lib.countB ⟨l.toArray⟩ ⟨#[b]⟩) ⟨l.toArray⟩
  have hk : Lib.splitK [b] 0 (Lib.countB ⟨l.toArray⟩ ⟨#[b]⟩) l = pieces b l := split_pieces b l
  have hd2 : (Lib.splitB ⟨#[b]⟩ 0 (Lib.countB ⟨l.toArray⟩ ⟨#[b]⟩) ⟨l.toArray⟩).map (·.data.toList) = pieces b l := hd.trans hk
  have hlen := Lib.splitB_all ⟨#[b]⟩ (Nat.le_refl 1) 0 _ ⟨l.toArray⟩ rfl
  have hn : (pieces b l).length = Lib.countB ⟨l.toArray⟩ ⟨#[b]⟩ + 1 := by rw [← hd2, List.length_map, hlen]
  have hv : (Lib.splitB ⟨#[b]⟩ 0 (Lib.countB ⟨l.toArray⟩ ⟨#[b]⟩) ⟨l.toArray⟩).map Value.string = (pieces b l).map strV := by
    rw [← hd2, List.map_map]
    exact List.map_congr_left (fun x _ => (strV_of x).symm)
  rw [hn, hv]
  refine ⟨rfl, ⟨?_, hn⟩, (Below.refl _ _).alloc (Nat.le_refl _) _⟩
  have hle := pieces_len b l
  have := World.ownsRow_lit (e := 9) (size := 1) w ((pieces b l).map strV).toArray (Lib.countB ⟨l.toArray⟩ ⟨#[b]⟩ + 1) (Nat.le_refl _) (by rw [← hn]; unfold maxLen; omega) (by simp [hn])
  simpa using this

theorem join_walk (ps : List (List UInt8)) (b : UInt8) (base g n cap : Nat) (w : World) (hps : StrsAt w base g n cap ps) (hlen : (joinF [b] ps).length ≤ 1048576) (hn : n ≤ 1048576) (hcap : n ≤ cap) :
    Calls Tryd.prog 56 #[.slice (some ⟨g, 0, none⟩) n cap, .string ⟨#[b]⟩] w fun e w' => e = .returned (.string ⟨(joinF [b] ps).toArray⟩) ∧ Below w.heap.size w w' := by
  have hmap : (ps.map (fun x => (⟨x.toArray⟩ : ByteArray))).map (·.data.toList) = ps := by
    rw [List.map_map]; simp [Function.comp_def]
  have hj := join_lib [b] ps
  have := Tryd.strings_Join g 0 cap (ps.map (fun x => (⟨x.toArray⟩ : ByteArray))) ⟨#[b]⟩ w (fun j x hx => by
    rw [List.getElem?_map] at hx
    cases e : ps[j]? with
    | none => rw [e] at hx; cases hx
    | some y => rw [e] at hx; cases hx; rw [Nat.zero_add]; exact hps.get e) hps.lt.2 (by rw [List.length_map, hps.len]; omega) (by rw [List.length_map, hps.len]; exact hcap)
    (by rw [hmap]; show (Lib.join ps [b]).length ≤ _; rw [hj]; omega)
  rw [hmap, List.length_map, hps.len] at this
  refine this.mono ?_
  rintro e w' ⟨rfl, hb⟩
  refine ⟨?_, hb⟩
  show Ending.returned (.string ⟨(Lib.join ps [b]).toArray⟩) = _
  rw [hj]

theorem joinF_take (b : UInt8) (ps : List (List UInt8)) (k : Nat) (x : List UInt8) (hx : ps[k]? = some x) : joinF [b] (ps.take (k + 1)) = if k = 0 then x else joinF [b] (ps.take k) ++ b :: x := by
  have ht : ps.take (k + 1) = ps.take k ++ [x] := by rw [List.take_add_one, hx]; rfl
  rw [ht]
  split
  · rename_i h; subst h; rfl
  · rename_i h
    rw [join_snoc [b] _ x (by
      have : k < ps.length := (List.getElem?_eq_some_iff.1 hx).1
      intro e; have h2 := congrArg List.length e; rw [List.length_take] at h2; simp only [List.length_nil] at h2; omega)]
    simp
theorem joinF_take_len (b : UInt8) (ps : List (List UInt8)) (k : Nat) : (joinF [b] (ps.take k)).length ≤ (joinF [b] ps).length := by
  have key : ∀ (xs ys : List (List UInt8)), (joinF [b] xs).length ≤ (joinF [b] (xs ++ ys)).length := by
    intro xs
    induction xs with
    | nil => intro ys; simp [joinF]
    | cons x xs ih =>
      intro ys
      cases xs with
      | nil => cases ys <;> simp [joinF]
      | cons y r =>
        have := ih ys
        simp only [List.cons_append, joinF, List.length_append] at this ⊢
        omega
  have := key (ps.take k) (ps.drop k)
  rwa [List.take_append_drop] at this

theorem joined_walk (ps : List (List UInt8)) (b : UInt8) (base g n cap : Nat) (w : World) (hps : StrsAt w base g n cap ps) (hlen : (joinF [b] ps).length ≤ 900000) (hn : n ≤ 1048576) :
    Calls Tryd.prog 84 #[.slice (some ⟨g, 0, none⟩) n cap, .string ⟨#[b]⟩] w fun e w' => e = .returned (.string ⟨(joinF [b] ps).toArray⟩) ∧ w = w' := by
  have HP := hide hps
  clear hps
  go_enter Tryd.func84, Tryd.ntmps84
  go_wp2_with fail
  go_loopw [5, 6] (fun v i wr => ∃ k : Nat, k ≤ n ∧ i = .int .i64 (k : Int) ∧ v = .string ⟨(joinF [b] (ps.take k)).toArray⟩ ∧ wr = w) (fun _ i _ => n - (intOf i).toNat)
  case atStart => exact ⟨0, Nat.zero_le _, rfl, rfl, rfl⟩
  case round =>
    obtain ⟨k, hk, rfl, rfl, rfl⟩ := hrel
    by_cases hlt : k < n
    case pos =>
      obtain ⟨x, hx⟩ : ∃ x, ps[k]? = some x := ⟨_, List.getElem?_eq_getElem (by have := HP.out.len; omega)⟩
      have c0 := HP.out.get hx
      have HT := hide (joinF_take b ps k x hx)
      have hl0 := joinF_take_len b ps k
      have hl1 := joinF_take_len b ps (k + 1)
      by_cases h0 : k = 0
      · subst h0
        rw [if_pos rfl] at HT
        have e2 : ∀ w', (Op.stringOp .add ⟨#[]⟩ ⟨x.toArray⟩).run Tryd.prog w' = .ok (.string ⟨x.toArray⟩) w' := fun w' => by
          have := add_run [] x (by simp) (by rw [HT.out] at hl1; omega) w'
          simpa using this
        have HJ : joinF [b] (ps.take 0) = [] := rfl
        rw [HJ]
        clear hl0 hl1 HJ hx
        go_wp2_with fail
        go_roundw
        case rel => exact ⟨1, by omega, by go_num, by rw [HT.out], trivial⟩
        case measure => simp [intOf]; omega
      · rw [if_neg h0] at HT
        have hkp : (0 : Int) < (k : Int) := by omega
        rw [HT.out] at hl1
        simp only [List.length_append, List.length_cons] at hl1
        generalize joinF [b] (ps.take k) = J at *
        have e1 : ∀ w', (Op.stringOp .add ⟨J.toArray⟩ ⟨#[b]⟩).run Tryd.prog w' = .ok (.string ⟨(J ++ [b]).toArray⟩) w' := add_run J [b] (by omega) (by simp)
        have e2 : ∀ w', (Op.stringOp .add ⟨(J ++ [b]).toArray⟩ ⟨x.toArray⟩).run Tryd.prog w' = .ok (.string ⟨(J ++ b :: x).toArray⟩) w' := fun w' => by
          have := add_run (J ++ [b]) x (by simp; omega) (by omega) w'
          simpa using this
        clear hl0 hl1 hx
        go_wp2_with fail
        go_roundw
        case rel => exact ⟨k + 1, by omega, by go_num, by rw [HT.out], trivial⟩
        case measure => simp [intOf]; omega
    case neg =>
      obtain rfl : k = n := by omega
      have hall : ps.take k = ps := List.take_of_length_le (by have := HP.out.len; omega)
      rw [hall]
      go_wp2
      go_ret
      exact ⟨rfl, rfl⟩
end Go.Proofs.YtohbafigjpoijaaDoor
