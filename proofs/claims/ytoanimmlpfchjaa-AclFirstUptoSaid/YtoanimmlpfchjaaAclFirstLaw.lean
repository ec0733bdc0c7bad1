/- AclFirst: the statement of the second form. -/
import Derived.Test.YtoanimmlpfchjaaAclFirst
import Derived.Test.YtoanimmlpfchjaaOpenSl
import Derived.Test.YtoanimmlpfchjaaLawUpto
set_option linter.unusedVariables false
namespace Go.Proofs.Ytoanimmlpfchjaa
open Go.ChangeShapes Go.WideShapes Go.ChangeAt Go.RowKit

set_option maxRecDepth 100000 in
theorem aclFirst_lifted (os : Os) (started : os.Started) (H : Type) (enc : TypeId × Value → H) (F : Stop.Interp) :
    ReturnsInHanded {} Try.checked os 5 .any ((Rows.OpenSpec.upto Rows.aclFirstSpec).pre6 enc Try.prog Try.f5 Rows.aclFirstUptoRow.domain false) (((Rows.OpenSpec.upto Rows.aclFirstSpec).at F).post enc Try.prog Try.f5 false true false false) := by
  refine returnsInHanded_of_cond (C := Try.checked) (s := Rows.OpenSpec.upto Rows.aclFirstSpec) (k := Rows.uptoSmall) rfl Try.own started (by kernel_rfl) Try.func5
    (OpenSpec.witness (enc := enc) (C := Try.checked) (s := Rows.OpenSpec.upto Rows.aclFirstSpec) (k := Rows.uptoSmall) rfl false ⟨#[], #[.slice none 0 0, .slice none 0 0, .agg #[.bool false, .int .u16 0, .int .u16 0, .int .u8 0, .int .u8 0], .agg #[.int .i64 0, .int .i64 0, .int .i64 0, .int .i64 0]], []⟩ 8 (by kernel_rfl) (by kernel_rfl) (by kernel_rfl)
      (x := ([.nil, .nil, .agg [.lit (.bool false), .agg [.lit (.int .u16 0), .lit (.int .u16 0), .lit (.int .u8 0), .lit (.int .u8 0)]], .agg [.lit (.int .i64 0), .lit (.int .i64 0), .lit (.int .i64 0), .lit (.int .i64 0)]], [], [])) (by kernel_rfl) rfl (by kernel_rfl)) ?_
  intro W base args ds gs before hval0 hW _ hk _
  refine law_contract (fn := Try.f5) (s := Rows.aclFirstSpec) (tb := 4) Try.laidOut (by kernel_rfl) rfl (by kernel_rfl) Try.underlying4
    (fun ds h => by
      match ds, h with
      | [_, _, _, _], _ => exact ⟨rfl, rfl, rfl⟩) hW ?_
  intro p hgs hA0 hlt
  subst hgs
  have hval : ∀ (j : Nat) t v, Try.f5.params[j]? = some t → args[j]? = some v → Value.okWide Try.prog W .any base t v := hval0
  have hA : DataW.TrodAll enc Try.prog W 0 (fun _ => true) true Try.f5.params.toList args.toList ds p := hA0
  rw [Try.params5] at hA hval
  obtain ⟨v0, vs0, d0, ds0, p0, q0, hargs, rfl, rfl, h0, r0⟩ := args_cons hA
  obtain ⟨v1, vs1, d1, ds1, p1, q1, rfl, rfl, rfl, h1, r1⟩ := args_cons r0
  obtain ⟨v2, vs2, d2, ds2, p2, q2, rfl, rfl, rfl, h2, r2⟩ := args_cons r1
  obtain ⟨v3, vs3, d3, ds3, p3, q3, rfl, rfl, rfl, h3, r3⟩ := args_cons r2
  obtain ⟨rfl, rfl, rfl⟩ := args_nil r3
  obtain rfl : args = #[v0, v1, v2, v3] := arr_eq hargs
  obtain ⟨A, n, c, l, rfl, _, _, hl, hn⟩ := open_rules (hval 0 _ v0 rfl rfl) h0
  obtain ⟨A', n', c', l', rfl, _, _, hl', hn'⟩ := open_rules (hval 1 _ v1 rfl rfl) h1
  obtain ⟨r, hr, rfl⟩ := open_rule (hval 2 _ v2 rfl rfl) h2
  obtain ⟨x, y, z, u, rfl, hx, hy, hz, hu⟩ := open_packet (hval 3 _ v3 rfl rfl) h3
  exact aclFirst_walk l l' A A' n c n' c' r ⟨x, y, z, u⟩ W (bulk_arg hk (by simp) hn) (bulk_arg hk (by simp) hn') hr ⟨hx, hy, hz, hu⟩ hl hl'

theorem aclFirst_holds : Rows.AclFirstUptoSaid :=
  OpenClaim.holds_of_cond 5 Try.f5 rfl rfl rfl rfl rfl rfl rfl ⟨rfl, rfl, rfl, rfl, rfl⟩ rfl rfl rfl rfl rfl (by kernel_rfl) Try.func5 (by kernel_rfl)
    (of_decide_eq_true (by kernel_rfl)) (by unfold Func.isWrapper; first | (rw [if_pos (by decide +kernel)]; kernel_rfl) | (rw [if_neg (by decide +kernel)]; exact ⟨rfl, rfl⟩))
    (fun os started H enc _ F => aclFirst_lifted os started H enc F)
end Go.Proofs.Ytoanimmlpfchjaa
