/- wireward/wirekeep.StepNat: whatever is handed in, it returns true, and leaves the input as it reads. -/
import Derived.Test.YtidikopjfpioaaaLawNatW
import Derived.Test.YtidikopjfpioaaaOpens
set_option linter.unusedVariables false
set_option linter.unusedSimpArgs false
namespace Go.Proofs.Ytidikopjfpioaaa
open Go.ChangeShapes Go.WideShapes Go.ChangeAt Go.RowKit Go.Maps

set_option maxRecDepth 100000 in
theorem stepNat_lifted (os : Os) (started : os.Started) (H : Type) (enc : TypeId × Value → H) :
    ReturnsInHanded {} Try.checked os 7 .any (Rows.stepNatSpec.pre6 enc Try.prog Try.f7 Rows.stepNatRow.domain false) (Rows.stepNatSpec.post enc Try.prog Try.f7 false true false false) :=
  law_lifted (C := Try.checked) (tb := 4) Try.own started (by kernel_rfl) Try.func7 Try.laidOut (by kernel_rfl) rfl (by kernel_rfl) Try.underlying4
    (fun ds h => by
      match ds, h with
      | [_, _, _, _], _ => exact ⟨rfl, rfl, rfl⟩)
    (ChangeSpec.witness6 (enc := enc) (C := Try.checked) false ⟨#[], #[.int .i64 0, .int .u8 0, .slice none 0 0, .slice none 0 0], []⟩ 8 (by kernel_rfl) (by kernel_rfl) (by kernel_rfl) (by kernel_rfl))
    (fun W base args ds p hval0 hA0 hlt hsz => by
      have hval : ∀ (j : Nat) t v, Try.f7.params[j]? = some t → args[j]? = some v → Value.okWide Try.prog W .any base t v := hval0
      have hA : DataW.TrodAll enc Try.prog W 0 (fun _ => true) true Try.f7.params.toList args.toList ds p := hA0
      rw [Try.params7] at hA hval
      obtain ⟨v0, vs0, d0, ds0, p0, q0, hargs, rfl, rfl, h0, r0⟩ := args_cons hA
      obtain ⟨v1, vs1, d1, ds1, p1, q1, rfl, rfl, rfl, h1, r1⟩ := args_cons r0
      obtain ⟨v2, vs2, d2, ds2, p2, q2, rfl, rfl, rfl, h2, r2⟩ := args_cons r1
      obtain ⟨v3, vs3, d3, ds3, p3, q3, rfl, rfl, rfl, h3, r3⟩ := args_cons r2
      obtain ⟨rfl, rfl, rfl⟩ := args_nil r3
      obtain rfl : args = #[v0, v1, v2, v3] := arr_eq hargs
      obtain ⟨x0, rfl, hx0⟩ := open_i64 (hval 0 _ v0 rfl rfl) h0
      obtain ⟨x1, rfl, hx1⟩ := open_u8 (hval 1 _ v1 rfl rfl) h1
      obtain ⟨A2, n2, c2, l2, rfl, hnc2, hcm2, hl2, hok2, _⟩ := open_packets (hval 2 _ v2 rfl rfl) h2
      obtain ⟨A3, n3, c3, l3, rfl, hnc3, hcm3, hl3, _⟩ := open_ints (hval 3 _ v3 rfl rfl) h3
      exact stepNat_walk x0 x1 A2 n2 c2 l2 A3 n3 c3 l3 W hl2 hok2 hl3 ⟨hnc2, hcm2⟩ ⟨hnc3, hcm3⟩ hx0 hx1)

theorem stepNat_holds : Rows.StepNatSaid :=
  OpenClaim.holds_of_wide 7 Try.f7 rfl rfl rfl rfl rfl rfl rfl ⟨rfl, rfl, rfl, rfl, rfl⟩ rfl rfl rfl rfl rfl (by kernel_rfl) Try.func7 (by kernel_rfl)
    (of_decide_eq_true (by kernel_rfl)) (by unfold Func.isWrapper; first | (rw [if_pos (by decide +kernel)]; kernel_rfl) | (rw [if_neg (by decide +kernel)]; exact ⟨rfl, rfl⟩))
    (fun os started H enc _ => stepNat_lifted os started H enc)
end Go.Proofs.Ytidikopjfpioaaa
