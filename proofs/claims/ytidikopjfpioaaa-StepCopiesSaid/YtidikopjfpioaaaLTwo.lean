/- wireward/wirekeep.StepCopies: whatever is handed in, it returns true, and leaves the input as it reads. -/
import Derived.Test.YtidikopjfpioaaaLawTwoW
import Derived.Test.YtidikopjfpioaaaOpens
set_option linter.unusedVariables false
set_option linter.unusedSimpArgs false
namespace Go.Proofs.Ytidikopjfpioaaa
open Go.ChangeShapes Go.WideShapes Go.ChangeAt Go.RowKit Go.Maps

set_option maxRecDepth 100000 in
theorem stepCopies_lifted (os : Os) (started : os.Started) (H : Type) (enc : TypeId × Value → H) :
    ReturnsInHanded {} Try.checked os 11 .any (Rows.stepCopiesSpec.pre6 enc Try.prog Try.f11 Rows.stepCopiesRow.domain false) (Rows.stepCopiesSpec.post enc Try.prog Try.f11 false true false false) :=
  law_lifted (C := Try.checked) (tb := 4) Try.own started (by kernel_rfl) Try.func11 Try.laidOut (by kernel_rfl) rfl (by kernel_rfl) Try.underlying4
    (fun ds h => by
      match ds, h with
      | [_, _, _], _ => exact ⟨rfl, rfl, rfl⟩)
    (ChangeSpec.witness6 (enc := enc) (C := Try.checked) false ⟨#[], #[.agg #[.slice none 0 0, .slice none 0 0], .slice none 0 0, .slice none 0 0], []⟩ 8 (by kernel_rfl) (by kernel_rfl) (by kernel_rfl) (by kernel_rfl))
    (fun W base args ds p hval0 hA0 hlt hsz => by
      have hval : ∀ (j : Nat) t v, Try.f11.params[j]? = some t → args[j]? = some v → Value.okWide Try.prog W .any base t v := hval0
      have hA : DataW.TrodAll enc Try.prog W 0 (fun _ => true) true Try.f11.params.toList args.toList ds p := hA0
      rw [Try.params11] at hA hval
      obtain ⟨v0, vs0, d0, ds0, p0, q0, hargs, rfl, rfl, h0, r0⟩ := args_cons hA
      obtain ⟨v1, vs1, d1, ds1, p1, q1, rfl, rfl, rfl, h1, r1⟩ := args_cons r0
      obtain ⟨v2, vs2, d2, ds2, p2, q2, rfl, rfl, rfl, h2, r2⟩ := args_cons r1
      obtain ⟨rfl, rfl, rfl⟩ := args_nil r2
      obtain rfl : args = #[v0, v1, v2] := arr_eq hargs
      obtain ⟨n0, hn0, rfl⟩ := open_net (hval 0 _ v0 rfl rfl) h0
      obtain ⟨A1, n1, c1, l1, rfl, hnc1, hcm1, hl1, hok1, _⟩ := open_acts (hval 1 _ v1 rfl rfl) h1
      obtain ⟨A2, n2, c2, l2, rfl, hnc2, hcm2, hl2, hok2, _⟩ := open_acts (hval 2 _ v2 rfl rfl) h2
      exact stepCopies_walk n0 A1 n1 c1 l1 A2 n2 c2 l2 W hn0 hl1 hok1 ⟨hnc1, hcm1⟩ hl2 hok2 ⟨hnc2, hcm2⟩)

theorem stepCopies_holds : Rows.StepCopiesSaid :=
  OpenClaim.holds_of_wide 11 Try.f11 rfl rfl rfl rfl rfl rfl rfl ⟨rfl, rfl, rfl, rfl, rfl⟩ rfl rfl rfl rfl rfl (by kernel_rfl) Try.func11 (by kernel_rfl)
    (of_decide_eq_true (by kernel_rfl)) (by unfold Func.isWrapper; first | (rw [if_pos (by decide +kernel)]; kernel_rfl) | (rw [if_neg (by decide +kernel)]; exact ⟨rfl, rfl⟩))
    (fun os started H enc _ => stepCopies_lifted os started H enc)
end Go.Proofs.Ytidikopjfpioaaa
