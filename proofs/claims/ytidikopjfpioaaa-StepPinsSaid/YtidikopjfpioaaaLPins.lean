/- wireward/wirekeep.StepPins: whatever is handed in, it returns true, and leaves the input as it reads. -/
import Derived.Test.YtidikopjfpioaaaLawPins
import Derived.Test.YtidikopjfpioaaaOpens
set_option linter.unusedVariables false
set_option linter.unusedSimpArgs false
namespace Go.Proofs.Ytidikopjfpioaaa
open Go.ChangeShapes Go.WideShapes Go.ChangeAt Go.RowKit Go.Maps

set_option maxRecDepth 100000 in
theorem stepPins_lifted (os : Os) (started : os.Started) (H : Type) (enc : TypeId × Value → H) :
    ReturnsInHanded {} Try.checked os 8 .any (Rows.stepPinsSpec.pre6 enc Try.prog Try.f8 Rows.stepPinsRow.domain false) (Rows.stepPinsSpec.post enc Try.prog Try.f8 false true false false) :=
  law_lifted (C := Try.checked) (tb := 4) Try.own started (by kernel_rfl) Try.func8 Try.laidOut (by kernel_rfl) rfl (by kernel_rfl) Try.underlying4
    (fun ds h => by
      match ds, h with
      | [_, _, _, _, _], _ => exact ⟨rfl, rfl, rfl⟩)
    (ChangeSpec.witness6 (enc := enc) (C := Try.checked) false ⟨#[], #[.int .i64 0, .slice none 0 0, .agg #[.int .i64 0, .int .i64 0, .int .i64 0, .int .i64 0], .int .i64 0, .int .i64 0], []⟩ 8 (by kernel_rfl) (by kernel_rfl) (by kernel_rfl) (by kernel_rfl))
    (fun W base args ds p hval0 hA0 hlt hsz => by
      have hval : ∀ (j : Nat) t v, Try.f8.params[j]? = some t → args[j]? = some v → Value.okWide Try.prog W .any base t v := hval0
      have hA : DataW.TrodAll enc Try.prog W 0 (fun _ => true) true Try.f8.params.toList args.toList ds p := hA0
      rw [Try.params8] at hA hval
      obtain ⟨v0, vs0, d0, ds0, p0, q0, hargs, rfl, rfl, h0, r0⟩ := args_cons hA
      obtain ⟨v1, vs1, d1, ds1, p1, q1, rfl, rfl, rfl, h1, r1⟩ := args_cons r0
      obtain ⟨v2, vs2, d2, ds2, p2, q2, rfl, rfl, rfl, h2, r2⟩ := args_cons r1
      obtain ⟨v3, vs3, d3, ds3, p3, q3, rfl, rfl, rfl, h3, r3⟩ := args_cons r2
      obtain ⟨v4, vs4, d4, ds4, p4, q4, rfl, rfl, rfl, h4, r4⟩ := args_cons r3
      obtain ⟨rfl, rfl, rfl⟩ := args_nil r4
      obtain rfl : args = #[v0, v1, v2, v3, v4] := arr_eq hargs
      obtain ⟨x0, rfl, hx0⟩ := open_i64 (hval 0 _ v0 rfl rfl) h0
      obtain ⟨A1, n1, c1, l1, rfl, hnc1, hcm1, hl1, _⟩ := open_ints (hval 1 _ v1 rfl rfl) h1
      obtain ⟨a2, b2, c2, e2, rfl, ha2, hb2, hc2, he2⟩ := open_packet (hval 2 _ v2 rfl rfl) h2
      obtain ⟨x3, rfl, hx3⟩ := open_i64 (hval 3 _ v3 rfl rfl) h3
      obtain ⟨x4, rfl, hx4⟩ := open_i64 (hval 4 _ v4 rfl rfl) h4
      exact stepPins_walk x0 A1 n1 c1 l1 ⟨a2, b2, c2, e2⟩ x3 x4 W hl1 ⟨hnc1, hcm1⟩ ⟨ha2, hb2, hc2, he2⟩ hx0 hx3 hx4)

theorem stepPins_holds : Rows.StepPinsSaid :=
  OpenClaim.holds_of_wide 8 Try.f8 rfl rfl rfl rfl rfl rfl rfl ⟨rfl, rfl, rfl, rfl, rfl⟩ rfl rfl rfl rfl rfl (by kernel_rfl) Try.func8 (by kernel_rfl)
    (of_decide_eq_true (by kernel_rfl)) (by unfold Func.isWrapper; first | (rw [if_pos (by decide +kernel)]; kernel_rfl) | (rw [if_neg (by decide +kernel)]; exact ⟨rfl, rfl⟩))
    (fun os started H enc _ => stepPins_lifted os started H enc)
end Go.Proofs.Ytidikopjfpioaaa
