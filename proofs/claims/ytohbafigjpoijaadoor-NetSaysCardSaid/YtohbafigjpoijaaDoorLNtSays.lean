/- wireward/wirelaw.NetSays: whatever is handed in, it returns true, and leaves the input as it reads; the tables that it names read as the program's text lays them. -/
import Derived.Test.YtohbafigjpoijaaDoorNt6
import Derived.Test.YtohbafigjpoijaaDoorOpens
import Derived.Test.YtohbafigjpoijaaDoorCards
import Derived.Test.YtohbafigjpoijaaDoorTie
import Derived.Test.YtohbafigjpoijaaDoorCardB
import Derived.Lay
set_option linter.unusedVariables false
set_option linter.unusedSimpArgs false
set_option maxRecDepth 100000
namespace Go.Proofs.YtohbafigjpoijaaDoor
open Go.ChangeShapes Go.WideShapes Go.ChangeAt Go.RowKit Go.Maps

theorem netSays_met (os : Os) : laidMet Tryd.prog Rows.netSaysRow.laid (((lw os).forCall (fun _ _ => 0) ⟨#[], #[.agg #[.slice none 0 0, .slice none 0 0], .agg #[.int .i64 0, .int .i64 0], .int .i64 0], []⟩).memory) :=
  laidMet_of_run' 8 (by kernel_rfl) (by kernel_rfl)
theorem netSays_reads (os : Os) {H : Type} (enc : TypeId × Value → H) : ∃ places, DataW.whole enc Tryd.prog (((lw os).forCall (fun _ _ => 0) ⟨#[], #[.agg #[.slice none 0 0, .slice none 0 0], .agg #[.int .i64 0, .int .i64 0], .int .i64 0], []⟩).memory) Tryd.f7.params.toList Rows.netSaysSpec.vars false (show Array Value from #[.agg #[.slice none 0 0, .slice none 0 0], .agg #[.int .i64 0, .int .i64 0], .int .i64 0]).toList 8 = some ([.agg [.nil, .nil], .agg [.lit (.int .i64 0), .lit (.int .i64 0)], .lit (.int .i64 0)], [], places) :=
  ⟨[], by kernel_rfl⟩

theorem netSays_lifted (os : Os) (started : os.Started) (H : Type) (enc : TypeId × Value → H) (F : Stop.Interp) :
    ReturnsInHanded {} Tryd.checked os 7 .any ((OpenSpec.ofChange Rows.netSaysSpec).preRow enc Tryd.prog Tryd.f7 Rows.netSaysRow.domain false Rows.netSaysRow.laid) (((OpenSpec.ofChange Rows.netSaysSpec).at F).post enc Tryd.prog Tryd.f7 false true false false) := by
  obtain ⟨places, hx⟩ := netSays_reads os enc
  refine returnsInHanded_of_row (C := Tryd.checked) (s := OpenSpec.ofChange Rows.netSaysSpec) Tryd.own started (by kernel_rfl) Tryd.func7
    (witness_row_at (enc := enc) (C := Tryd.checked) false (lw os) #[.agg #[.slice none 0 0, .slice none 0 0], .agg #[.int .i64 0, .int .i64 0], .int .i64 0] (rfl) (by kernel_rfl) (by kernel_rfl) (by kernel_rfl)
      (OpenSpec.preRow_of_cond 8 hx (by kernel_rfl) (fun k hk => by cases hk) (by kernel_rfl) (netSays_met os))) ?_
  intro W base args ds gs before hval0 hW _ hcond hsz _ hsh _
  refine law_contract (P := Tryd.prog) (f := 7) (fn := Tryd.f7) (s := Rows.netSaysSpec) (tb := 4) Tryd.laidOut (by kernel_rfl) rfl (by kernel_rfl) Tryd.underlying4 ?_ hW ?_
  · intro ds h
    match ds, h with
    | [_, _, _], _ => exact ⟨rfl, rfl, rfl⟩
  · intro p hg hA0 hlt
    have hval : ∀ (j : Nat) t v, Tryd.f7.params[j]? = some t → args[j]? = some v → Value.okWide Tryd.prog W .any base t v := hval0
    have hA : DataW.TrodAll enc Tryd.prog W 0 (fun _ => true) true Tryd.f7.params.toList args.toList ds p := hA0
    subst hg
    rw [Tryd.params7] at hA hval
    obtain ⟨v0, vs0, d0, ds0, p0, q0, hargs, rfl, rfl, h0, r0⟩ := args_cons hA
    obtain ⟨v1, vs1, d1, ds1, p1, q1, rfl, rfl, rfl, h1, r1⟩ := args_cons r0
    obtain ⟨v2, vs2, d2, ds2, p2, q2, rfl, rfl, rfl, h2, r2⟩ := args_cons r1
    obtain ⟨rfl, rfl, rfl⟩ := args_nil r2
    obtain rfl : args = #[v0, v1, v2] := arr_eq hargs
    obtain ⟨n0, hn0, rfl⟩ := open_net (hval 0 _ v0 rfl rfl) h0
    obtain ⟨a1, b1, rfl, ha1, hb1⟩ := open_place (hval 1 _ v1 rfl rfl) h1
    obtain ⟨x2, rfl, hx2⟩ := open_i64 (hval 2 _ v2 rfl rfl) h2
    exact netSays_walk n0 a1 b1 x2 W hn0 ha1 hb1

theorem netSays_said : Rows.NetSaysSaid :=
  OpenClaim.holds_of_cond 7 Tryd.f7 rfl rfl rfl rfl rfl rfl rfl ⟨rfl, rfl, rfl, rfl, rfl⟩ rfl rfl rfl rfl rfl (by kernel_rfl) Tryd.func7 (by kernel_rfl)
    (of_decide_eq_true (by kernel_rfl)) (by unfold Func.isWrapper; first | (rw [if_pos (by decide +kernel)]; kernel_rfl) | (rw [if_neg (by decide +kernel)]; exact ⟨rfl, rfl⟩))
    (fun os started H enc _ F => by rw [OpenClaim.pre_eq_preRow]; exact netSays_lifted os started H enc F)

/-- No parameter wants a stand-in; the program's own looks are off. -/
theorem netSays_plain (f : FuncId) (fn : Func) (hf : Tryd.pinned.checked.prog.funcNamed "wireward/wirelaw.NetSays" = some f) (hfn : Tryd.pinned.checked.prog.funcs[f]? = some fn) :
    false = Tryd.pinned.checked.prog.looks [] ∧ ∀ (j : Nat) t, fn.params[j]? = some t → Tryd.pinned.checked.prog.wantsStandIn t = false := by
  obtain rfl : f = 7 := Option.some.inj ((show Tryd.prog.funcNamed "wireward/wirelaw.NetSays" = some 7 by kernel_rfl).symm.trans hf) |>.symm
  obtain rfl : fn = Tryd.f7 := (Option.some.inj (Tryd.func7.symm.trans hfn)).symm
  refine ⟨by kernel_rfl, fun j t ht => ?_⟩
  rw [Tryd.params7] at ht
  have hm := Array.mem_of_getElem? ht
  simp only [List.mem_toArray, List.mem_cons, List.not_mem_nil, or_false] at hm
  rcases hm with rfl | rfl | rfl
  · exact (show Tryd.prog.wantsStandIn 53 = false by kernel_rfl)
  · exact (show Tryd.prog.wantsStandIn 55 = false by kernel_rfl)
  · exact (show Tryd.prog.wantsStandIn 3 = false by kernel_rfl)

theorem netSays_card : Rows.NetSaysCardSaid :=
  Claim7.holds_tied_plain_at .later [] _ _ _ _ netSays_said (fun _ h => by cases h) (by kernel_rfl) (fun _ h => by cases h) netSays_row_tie rfl ⟨rfl, rfl⟩ (by kernel_rfl) rfl netSays_plain (by kernel_rfl)
end Go.Proofs.YtohbafigjpoijaaDoor
