/- match.Build into an arena of too few variables; wirelaw.held. -/
import Derived.Test.YtidikopjfpioaaaBuildRoom
import Derived.WalkLawsBesides
set_option linter.unusedVariables false
set_option linter.unusedSimpArgs false
namespace Go.Proofs.Ytidikopjfpioaaa
open Go.RowKit Go.Maps Bdd

set_option maxRecDepth 100000 in
set_option maxHeartbeats 4000000 in
theorem var13_bad {w : World} {B g nb kb ib cap : Nat} {A : St} {K T : Tri → Option Value} (h : ArenaAt w B g nb kb ib cap A K T) (hv : A.vars < 14) :
    Calls Try.prog 76 #[.pointer (some ⟨g, 0, none⟩), .int .i64 13] w fun e W' => e = .returned (.tuple #[.int .i64 0, .int .i64 1]) ∧ RowKit.Below w.heap.size w W' := by
  have hb0 : RowKit.Below w.heap.size w (w.alloc (.cells #[.int .i64 13] 3)) := (RowKit.Below.refl _ _).alloc (Nat.le_refl _) _
  have HA := hide (h.below hb0)
  have HI1 := hide (ints1 w (w.alloc (.cells #[.int .i64 13] 3)).heap.size (by simp) 13 (by omega) 3 (heap_alloc_new w _))
  have HOK := hide (show ¬ AskOk A [] [(13 : Int)] from fun hk => by have := (hk.2 13 (by simp)).2; omega)
  have HB0 := hide hb0
  clear h hb0
  go_enter Try.func76, Try.ntmps76
  go_wp2_with fail
  refine (ask_walk HA.out [] [(13 : Int)] none _ 0 1 0 1 (by omega) (by omega) (IntsAt.nil _ _ _) HI1.out).mono ?_
  rintro e wa ⟨_, he, hb⟩
  obtain rfl := he HOK.out
  have HB := hide (HB0.out.trans (hb.mono HB0.out.size))
  clear hb he
  go_wp2
  go_ret2
  exact ⟨rfl, HB.out⟩

set_option maxRecDepth 100000 in
set_option maxHeartbeats 4000000 in
theorem build_bad {w : World} {B g nb kb ib cap : Nat} {A : St} {K T : Tri → Option Value} (h : ArenaAt w B g nb kb ib cap A K T) (hv : A.vars < 14) (s d p q : Nat) :
    Calls Try.prog 88 #[.pointer (some ⟨g, 0, none⟩), .agg #[.int .u16 s, .int .u16 d, .int .u8 p, .int .u8 q]] w fun e W' => e = .returned (.tuple #[.int .i64 0, .int .i64 1]) ∧ RowKit.Below w.heap.size w W' := by
  have hb0 : RowKit.Below w.heap.size w (w.alloc (.cells #[.int .u16 s, .int .u16 d, .int .u8 p, .int .u8 q] 103)) := (RowKit.Below.refl _ _).alloc (Nat.le_refl _) _
  have HA := hide (h.below hb0)
  have HB0 := hide hb0
  clear h hb0
  go_enter Try.func88, Try.ntmps88
  go_wp2_with fail
  refine (var13_bad HA.out hv).mono ?_
  rintro e wa ⟨rfl, hb⟩
  have HB := hide (HB0.out.trans (hb.mono HB0.out.size))
  clear hb
  go_wp2
  go_ret2
  exact ⟨rfl, HB.out⟩

set_option maxRecDepth 100000 in
set_option maxHeartbeats 4000000 in
theorem held_walk {w : World} {B g nb kb ib cap : Nat} {A : St} {K T : Tri → Option Value} (h : ArenaAt w B g nb kb ib cap A K T) (hv : A.vars = 14) (f fid : Nat) (hf : f < A.ns.length) (cap0 : Array Value) (F : Nat → Bool)
    (hF : ∀ c, c < 16384 → den A.ns f (asgOf c) = F c)
    (hcall : ∀ (args : Array Value) (w : World), (callFunc fid args).run Try.prog w = .ok (.enter fid args) w)
    (hf2 : Hid (∀ c (w' : World), c < 16384 → RowKit.Below w.heap.size w w' → Calls Try.prog fid (#[packVal c] ++ cap0) w' fun e w'' => e = .returned (.bool (F c)) ∧ RowKit.Below w'.heap.size w' w'')) :
    Calls Try.prog 39 #[.pointer (some ⟨g, 0, none⟩), .int .i64 f, .func (.func fid) #[] cap0] w fun e W' => e = .returned (.bool true) ∧ RowKit.Below w.heap.size w W' := by
  have H := hide h
  have HF := hide hF
  have hlen := h.lenle
  clear h hF
  go_enter Try.func39, Try.ntmps39
  go_wp2
  go_loopw [10] (fun i wr => ∃ k : Nat, k ≤ 16384 ∧ i = .int .i64 k ∧ RowKit.Below w.heap.size w wr) (fun i _ => 16384 - (intOf i).toNat)
  case atStart => exact ⟨0, Nat.zero_le _, rfl, RowKit.Below.refl _ _⟩
  case round =>
    obtain ⟨k, hk, rfl, hb⟩ := hrel
    have HB := hide hb
    clear hb
    by_cases hlt : k < 16384
    · have HE := hide (show den A.ns f (fun u => k.testBit (A.vars - 1 - u)) = F k by rw [hv]; exact HF.out k hlt)
      have hp : k < 2 ^ A.vars := by rw [hv]; exact hlt
      go_wp2_with fail
      refine (eval_walk (H.out.below HB.out) f k hf hp).mono ?_
      rintro e wa ⟨rfl, hba⟩
      rw [HE.out]
      have HB2 := hide (HB.out.trans (hba.mono HB.out.size))
      clear hba HE hp
      go_wp2_with fail
      refine (packet_walk wa k hlt).mono ?_
      rintro e wb ⟨rfl, hbb⟩
      have HB3 := hide (HB2.out.trans (hbb.mono HB2.out.size))
      clear hbb
      go_wp2_with fail
      refine (hf2.out k _ hlt HB3.out).mono ?_
      rintro e wc ⟨rfl, hbc⟩
      have HB4 := hide (HB3.out.trans (hbc.mono HB3.out.size))
      clear hbc
      cases hfk : F k
      all_goals
        go_wp2
        go_roundw
        case rel => exact ⟨k + 1, by omega, by go_num, HB4.out⟩
        case measure => simp [intOf]; omega
    · go_wp2
      go_ret
      exact ⟨rfl, HB.out⟩
end Go.Proofs.Ytidikopjfpioaaa
