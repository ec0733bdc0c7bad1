/- wireward/wirelaw.NetReads: whatever is handed in, it returns true, and leaves the input as it reads; the tables that it names read as the program's text lays them. -/
import Derived.Test.YtifkacnoiocebaaDoorNz29
import Derived.Test.YtifkacnoiocebaaDoorCards
import Derived.Test.YtifkacnoiocebaaDoorTie
import Derived.Lay
set_option linter.unusedVariables false
set_option linter.unusedSimpArgs false
set_option maxRecDepth 100000
namespace Go.Proofs.YtifkacnoiocebaaDoor
open Go.ChangeAt Go.ChangeShapes Go.Maps Go.RowKit Go.WideShapes
/-- A world in which the tables lie, Go's own great one as well. -/
noncomputable def nk (os:Os):World:=World.laidAll Tryd.prog os Rows.netReadsRow.laid
theorem yt (os:Os):laidMet Tryd.prog Rows.netReadsRow.laid (((nk os).forCall (fun _ _=>0) ⟨#[],#[.string ⟨#[]⟩],[]⟩).memory):=
 laidMet_laidAll _ (by kernel_rfl) (by kernel_rfl)
theorem uQ (os:Os) {H:Type} (enc:TypeId×Value→H):∃places,DataW.whole enc Tryd.prog (((nk os).forCall (fun _ _=>0) ⟨#[],#[.string ⟨#[]⟩],[]⟩).memory) Tryd.f3.params.toList Rows.netReadsSpec.vars false (show Array Value from #[.string ⟨#[]⟩]).toList 8=some ([.lit (.string [])],[],places):=
 ⟨[],by kernel_rfl⟩
theorem uw (os:Os) (started:os.Started) (H:Type) (enc:TypeId×Value→H) (F:Stop.Interp):
  ReturnsInHanded {} Tryd.checked os 3 .any ((OpenSpec.ofChange Rows.netReadsSpec).preRow enc Tryd.prog Tryd.f3 Rows.netReadsRow.domain false Rows.netReadsRow.laid) (((OpenSpec.ofChange Rows.netReadsSpec).at F).post enc Tryd.prog Tryd.f3 false true false false):=by
 obtain⟨places,hx⟩:=uQ os enc
 refine returnsInHanded_of_row (C:=Tryd.checked) (s:=OpenSpec.ofChange Rows.netReadsSpec) Tryd.own started (by kernel_rfl) Tryd.func3
  (witness_row_at (enc:=enc) (C:=Tryd.checked) false (nk os) #[.string ⟨#[]⟩] (World.laidAll_os _ _ _) (by kernel_rfl) (by kernel_rfl) (by kernel_rfl)
   (OpenSpec.preRow_of_cond 8 hx (by kernel_rfl) (fun k hk=>by cases hk) (by kernel_rfl) (yt os))) ?_
 intro W base args ds gs before hval0 hW _ hcond hsz _ hsh _
 refine wu (P:=Tryd.prog) (f:=3) (fn:=Tryd.f3) (s:=Rows.netReadsSpec) (tb:=4) Tryd.laidOut (by kernel_rfl) rfl (by kernel_rfl) Tryd.underlying4 ?_ hW ?_
 ·intro ds h
  match ds,h with
  |[_],_=>exact⟨rfl,rfl,rfl⟩
 ·intro p hg hA0 hlt
  have hval:∀(j:Nat) t v,Tryd.f3.params[j]?=some t→args[j]?=some v→Value.okWide Tryd.prog W .any base t v:=hval0
  have hA:DataW.TrodAll enc Tryd.prog W 0 (fun _=>true) true Tryd.f3.params.toList args.toList ds p:=hA0
  subst hg
  rw[Tryd.params3]at hA hval
  obtain⟨v0,IJ,d0,ds0,p0,q0,hargs,rfl,rfl,h0,r0⟩:=Ad hA
  obtain⟨rfl,rfl,rfl⟩:=Br r0
  obtain rfl:args=#[v0]:=Di hargs
  obtain⟨s0,rfl,rfl,_,hs0⟩:=Go.ChangeMaps.open_string Tryd.underlying9 (hval 0 _ v0 rfl rfl) h0
  exact vW s0.data.toList W (by have:s0.data.toList.length=s0.size:=Array.length_toList;unfold maxLen at hs0;omega) (yh hsh)
theorem vX:Rows.NetReadsSaid:=
 OpenClaim.holds_of_cond 3 Tryd.f3 rfl rfl rfl rfl rfl rfl rfl ⟨rfl,rfl,rfl,rfl,rfl⟩ rfl rfl rfl rfl rfl (by kernel_rfl) Tryd.func3 (by kernel_rfl)
  (of_decide_eq_true (by kernel_rfl)) (by unfold Func.isWrapper;first | (rw[if_pos (by decide+kernel)];kernel_rfl) | (rw[if_neg (by decide+kernel)];exact⟨rfl,rfl⟩))
  (fun os started H enc _ F=>by rw[OpenClaim.pre_eq_preRow];exact uw os started H enc F)
/-- No parameter wants a stand-in; the program's own looks are off. -/
theorem uR (f:FuncId) (fn:Func) (hf:Tryd.pinned.checked.prog.funcNamed "wireward/wirelaw.NetReads" =some f) (hfn:Tryd.pinned.checked.prog.funcs[f]?=some fn):
  false=Tryd.pinned.checked.prog.looks []∧∀(j:Nat) t,fn.params[j]?=some t→Tryd.pinned.checked.prog.wantsStandIn t=false:=by
 obtain rfl:f=3:=Option.some.inj ((show Tryd.prog.funcNamed "wireward/wirelaw.NetReads" =some 3 by kernel_rfl).symm.trans hf) |>.symm
 obtain rfl:fn=Tryd.f3:=(Option.some.inj (Tryd.func3.symm.trans hfn)).symm
 refine⟨by kernel_rfl,fun j t ht=>?_⟩
 rw[Tryd.params3]at ht
 have hm:=Array.mem_of_getElem? ht
 simp only[List.mem_toArray,List.mem_cons,List.not_mem_nil,or_false]at hm
 subst hm
 ·exact(show Tryd.prog.wantsStandIn 9=false by kernel_rfl)
theorem netReads_card:Rows.NetReadsCardSaid:=
 Claim7.holds_tied_plain_at .later [] _ _ _ _ vX (fun _ h=>by cases h) (by kernel_rfl) (fun _ h=>by cases h) netReads_row_tie rfl ⟨rfl,rfl⟩ (by kernel_rfl) rfl uR (by kernel_rfl)
end Go.Proofs.YtifkacnoiocebaaDoor
