/- slices.Clone of rules, and rules as cells. -/
import Derived.Test.YtidikopjfpioaaaSl
import Derived.Test.YtidikopjfpioaaaRules
import Derived.WalkSpells
set_option linter.unusedVariables false
namespace Go.Proofs.Ytidikopjfpioaaa
open Go.ChangeShapes Go.WideShapes Go.ChangeAt Go.RowKit

theorem RuleV.len (r : RuleV) : r.cells.length = 5 := rfl
theorem RuleV.one (r : RuleV) : ∀ u ∈ r.cells, u.oneCell' = true := by
  intro u hu
  simp only [RuleV.cells, List.mem_cons, List.not_mem_nil, or_false] at hu
  rcases hu with rfl | rfl | rfl | rfl | rfl <;> rfl

theorem RulesAt.sl {w : World} {B n : Nat} {A : Option Addr} {l : List RuleV} (h : RulesAt w B A n l) : SlAt RuleV.cells 5 w B A n l :=
  ⟨h.1, fun h0 => by
    obtain ⟨b, o, e, hb, hg⟩ := h.2.2 h0
    refine ⟨b, o, e, hb, fun k r hr j v hv => ?_⟩
    obtain ⟨q0, q1, q2, q3, q4⟩ := hg k r hr
    match j, hv with
    | 0, hv => cases hv; exact q0
    | 1, hv => cases hv; exact q1
    | 2, hv => cases hv; exact q2
    | 3, hv => cases hv; exact q3
    | 4, hv => cases hv; exact q4⟩
theorem SlAt.rules {w : World} {B n : Nat} {A : Option Addr} {l : List RuleV} (h : SlAt RuleV.cells 5 w B A n l) (hok : ∀ r ∈ l, r.ok) : RulesAt w B A n l :=
  ⟨h.1, hok, fun h0 => by
    obtain ⟨b, o, e, hb, hg⟩ := h.2 h0
    exact ⟨b, o, e, hb, fun k r hr => ⟨hg k r hr 0 _ rfl, hg k r hr 1 _ rfl, hg k r hr 2 _ rfl, hg k r hr 3 _ rfl, hg k r hr 4 _ rfl⟩⟩⟩

theorem flat_one {α : Type} {cells : α → List Value} (h1 : ∀ r, ∀ u ∈ cells r, u.oneCell' = true) (l : List α) : ∀ u ∈ l.flatMap cells, u.oneCell' = true := by
  intro u hu
  obtain ⟨r, _, hr⟩ := List.mem_flatMap.1 hu
  exact h1 r u hr

theorem Try.infoRule : (Try.prog.info? 105).map (fun i => (i.zero, i.size, i.bytes)) = some (some (.agg #[.bool false, .int .u16 0, .int .u16 0, .int .u8 0, .int .u8 0]), 5, 8) := by kernel_rfl

set_option maxRecDepth 100000 in
theorem cloneRule_walk (l : List RuleV) (A : Option Addr) (n c : Nat) (W : World) (hn : n ≤ 17592186044416) (hl : SlAt RuleV.cells 5 W W.heap.size A n l) :
    Calls Try.prog 90 #[.slice A n c] W fun e W' =>
      ∃ v, e = .returned v ∧ W'.ownsRow W.heap.size 105 5 v n (l.flatMap RuleV.cells) ∧ Below W.heap.size W W' := by
  obtain ⟨i0, hi0, hz0, hz1, hz2⟩ := info_parts Try.infoRule
  rcases A with _ | ad
  · have hn0 : n = 0 := by
      rcases Nat.eq_zero_or_pos n with h | h
      · exact h
      · obtain ⟨b, o, e, _⟩ := hl.2 h; cases e
    subst hn0
    have : l = [] := List.eq_nil_of_length_eq_zero hl.1
    subst this
    have heq := fun w => Lib.run_eql_slice_nil (P := Try.prog) w _ _ none 0 c 0 0 Try.underlying27
    go_enter Try.func90, Try.ntmps90
    go_wp2
    go_ret
    exact ⟨_, rfl, World.ownsRow_nil _ _ _ _, Below.refl _ _⟩
  · have HR := hide (hl.reads RuleV.len (by omega))
    clear hl
    have heq := fun w => Lib.run_eql_slice_nil (P := Try.prog) w _ _ (some ad) n c 0 0 Try.underlying27
    go_enter Try.func90, Try.ntmps90
    go_wp2_with (at_builtin; refine wpList_append_any _ rfl (.tmp 5) (.tmp 6) 27 rfl W.heap.size 105 i0 _ 5 8 Try.underlying27 hi0 hz0 hz1 hz2 rfl (by omega) (.slice (some ⟨W.heap.size, 0, none⟩) 0 0) 0 [] rfl (World.ownsRow_lit _ #[] 0 (Nat.le_refl _) (by decide) rfl) W.heap.size (some ad) n c _ rfl (HR.out.alloc (Nat.le_refl _) _) (flat_one RuleV.one l) (by simp only [maxLen]; omega) (by omega) (by simp) ?_; intro v1 w1 hown1 hg1 hat1)
    go_ret
    refine ⟨v1, rfl, by simpa using hown1, ((Below.refl _ _).alloc (Nat.le_refl _) _).grown hg1 (by simp) (fun k hk => ?_)⟩
    simp [Value.ownBlock] at hk
    omega
end Go.Proofs.Ytidikopjfpioaaa
