/- wireward/wirelaw.MatchSays: whatever is handed in, it returns true, and leaves the input as it reads; the tables that it names read as the program's text lays them. -/
import Derived.Test.YtohbafigjpoijaaDoorMs7
import Derived.Test.YtohbafigjpoijaaDoorCards
import Derived.Test.YtohbafigjpoijaaDoorTie
import Derived.Lay
set_option linter.unusedVariables false
set_option linter.unusedSimpArgs false
set_option maxRecDepth 100000
namespace Go.Proofs.YtohbafigjpoijaaDoor
open Go.ChangeAt Go.ChangeShapes Go.Maps Go.RowKit Go.WideShapes
/-- A world in which the tables lie, Go's own great one as well. -/
noncomputable def matchSays_world (os : Os) : World := World.laidAll Tryd.prog os Rows.matchSaysRow.laid
theorem matchSays_met (os : Os) : laidMet Tryd.prog Rows.matchSaysRow.laid (((matchSays_world os).forCall (fun _ _ => 0) ⟨#[], #[.agg #[.int .u16 0, .int .u16 0, .int .u8 0, .int .u8 0], .agg #[.int .i64 0, .int .i64 0, .int .i64 0, .int .i64 0], .string ⟨#[]⟩], []⟩).memory) :=
  laidMet_laidAll _ (by kernel_rfl) (by kernel_rfl)
theorem matchSays_reads (os : Os) {H : Type} (enc : TypeId × Value → H) : ∃ places, DataW.whole enc Tryd.prog (((matchSays_world os).forCall (fun _ _ => 0) ⟨#[], #[.agg #[.int .u16 0, .int .u16 0, .int .u8 0, .int .u8 0], .agg #[.int .i64 0, .int .i64 0, .int .i64 0, .int .i64 0], .string ⟨#[]⟩], []⟩).memory) Tryd.f5.params.toList Rows.matchSaysSpec.vars false (show Array Value from #[.agg #[.int .u16 0, .int .u16 0, .int .u8 0, .int .u8 0], .agg #[.int .i64 0, .int .i64 0, .int .i64 0, .int .i64 0], .string ⟨#[]⟩]).toList 8 = some ([.agg [.lit (.int .u16 0), .lit (.int .u16 0), .lit (.int .u8 0), .lit (.int .u8 0)], .agg [.lit (.int .i64 0), .lit (.int .i64 0), .lit (.int .i64 0), .lit (.int .i64 0)], .lit (.string [])], [], places) :=
  ⟨[], by kernel_rfl⟩
theorem matchSays_lifted (os : Os) (started : os.Started) (H : Type) (enc : TypeId × Value → H) (F : Stop.Interp) :
    ReturnsInHanded {} Tryd.checked os 5 .any ((OpenSpec.ofChange Rows.matchSaysSpec).preRow enc Tryd.prog Tryd.f5 Rows.matchSaysRow.domain false Rows.matchSaysRow.laid) (((OpenSpec.ofChange Rows.matchSaysSpec).at F).post enc Tryd.prog Tryd.f5 false true false false) := by
  obtain ⟨places, hx⟩ := matchSays_reads os enc
  refine returnsInHanded_of_row (C := Tryd.checked) (s := OpenSpec.ofChange Rows.matchSaysSpec) Tryd.own started (by kernel_rfl) Tryd.func5
    (witness_row_at (enc := enc) (C := Tryd.checked) false (matchSays_world os) #[.agg #[.int .u16 0, .int .u16 0, .int .u8 0, .int .u8 0], .agg #[.int .i64 0, .int .i64 0, .int .i64 0, .int .i64 0], .string ⟨#[]⟩] (World.laidAll_os _ _ _) (by kernel_rfl) (by kernel_rfl) (by kernel_rfl)
      (OpenSpec.preRow_of_cond 8 hx (by kernel_rfl) (fun k hk => by cases hk) (by kernel_rfl) (matchSays_met os))) ?_
  intro W base args ds gs before hval0 hW _ hcond hsz _ hsh _
  refine law_contract (P := Tryd.prog) (f := 5) (fn := Tryd.f5) (s := Rows.matchSaysSpec) (tb := 4) Tryd.laidOut (by kernel_rfl) rfl (by kernel_rfl) Tryd.underlying4 ?_ hW ?_
  · intro ds h
    match ds, h with
    | [_, _, _], _ => exact ⟨rfl, rfl, rfl⟩
  · intro p hg hA0 hlt
    have hval : ∀ (j : Nat) t v, Tryd.f5.params[j]? = some t → args[j]? = some v → Value.okWide Tryd.prog W .any base t v := hval0
    have hA : DataW.TrodAll enc Tryd.prog W 0 (fun _ => true) true Tryd.f5.params.toList args.toList ds p := hA0
    subst hg
    rw [Tryd.params5] at hA hval
    obtain ⟨v0, vs0, d0, ds0, p0, q0, hargs, rfl, rfl, h0, r0⟩ := args_cons hA
    obtain ⟨v1, vs1, d1, ds1, p1, q1, rfl, rfl, rfl, h1, r1⟩ := args_cons r0
    obtain ⟨v2, vs2, d2, ds2, p2, q2, rfl, rfl, rfl, h2, r2⟩ := args_cons r1
    obtain ⟨rfl, rfl, rfl⟩ := args_nil r2
    obtain rfl : args = #[v0, v1, v2] := arr_eq hargs
    obtain ⟨a0, b0, c0, e0, rfl, ha0, hb0, hc0, he0⟩ := open_match (hval 0 _ v0 rfl rfl) h0
    obtain ⟨a1, b1, c1, e1, rfl, ha1, hb1, hc1, he1⟩ := open_packet (hval 1 _ v1 rfl rfl) h1
    obtain ⟨s2, rfl, rfl, _, hs2⟩ := Go.ChangeMaps.open_string Tryd.underlying9 (hval 2 _ v2 rfl rfl) h2
    exact matchSays_walk ⟨a0, b0, c0, e0⟩ ⟨ha0, hb0, hc0, he0⟩ ⟨a1, b1, c1, e1⟩ ⟨ha1, hb1, hc1, he1⟩ s2.data.toList W (by have : s2.data.toList.length = s2.size := Array.length_toList; unfold maxLen at hs2; omega) (maxAt_shaped hsh)
theorem matchSays_said : Rows.MatchSaysSaid :=
  OpenClaim.holds_of_cond 5 Tryd.f5 rfl rfl rfl rfl rfl rfl rfl ⟨rfl, rfl, rfl, rfl, rfl⟩ rfl rfl rfl rfl rfl (by kernel_rfl) Tryd.func5 (by kernel_rfl)
    (of_decide_eq_true (by kernel_rfl)) (by unfold Func.isWrapper; first | (rw [if_pos (by decide +kernel)]; kernel_rfl) | (rw [if_neg (by decide +kernel)]; exact ⟨rfl, rfl⟩))
    (fun os started H enc _ F => by rw [OpenClaim.pre_eq_preRow]; exact matchSays_lifted os started H enc F)
/-- No parameter wants a stand-in; the program's own looks are off. -/
theorem matchSays_plain (f : FuncId) (fn : Func) (hf : Tryd.pinned.checked.prog.funcNamed "wireward/wirelaw.MatchSays" = some f) (hfn : Tryd.pinned.checked.prog.funcs[f]? = some fn) :
    false = Tryd.pinned.checked.prog.looks [] ∧ ∀ (j : Nat) t, fn.params[j]? = some t → Tryd.pinned.checked.prog.wantsStandIn t = false := by
  obtain rfl : f = 5 := Option.some.inj ((show Tryd.prog.funcNamed "wireward/wirelaw.MatchSays" = some 5 by kernel_rfl).symm.trans hf) |>.symm
  obtain rfl : fn = Tryd.f5 := (Option.some.inj (Tryd.func5.symm.trans hfn)).symm
  refine ⟨by kernel_rfl, fun j t ht => ?_⟩
  rw [Tryd.params5] at ht
  have hm := Array.mem_of_getElem? ht
  simp only [List.mem_toArray, List.mem_cons, List.not_mem_nil, or_false] at hm
  rcases hm with rfl | rfl | rfl
  · exact (show Tryd.prog.wantsStandIn 42 = false by kernel_rfl)
  · exact (show Tryd.prog.wantsStandIn 23 = false by kernel_rfl)
  · exact (show Tryd.prog.wantsStandIn 9 = false by kernel_rfl)
theorem matchSays_card : Rows.MatchSaysCardSaid :=
  Claim7.holds_tied_plain_at .later [] _ _ _ _ matchSays_said (fun _ h => by cases h) (by kernel_rfl) (fun _ h => by cases h) matchSays_row_tie rfl ⟨rfl, rfl⟩ (by kernel_rfl) rfl matchSays_plain (by kernel_rfl)
end Go.Proofs.YtohbafigjpoijaaDoor
