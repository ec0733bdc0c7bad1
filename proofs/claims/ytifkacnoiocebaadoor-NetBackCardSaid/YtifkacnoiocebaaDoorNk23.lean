/- wireward/wirekeep.NetBack: whatever is handed in, it returns true, and leaves the input as it reads; the tables that it names read as the program's text lays them. -/
import Derived.Test.YtifkacnoiocebaaDoorNk22
import Derived.Test.YtifkacnoiocebaaDoorCards
import Derived.Test.YtifkacnoiocebaaDoorTie
import Derived.Lay
set_option linter.unusedVariables false
set_option linter.unusedSimpArgs false
set_option maxRecDepth 100000
namespace Go.Proofs.YtifkacnoiocebaaDoor
open Go.ChangeAt Go.ChangeShapes Go.Maps Go.RowKit Go.WideShapes
/-- A world in which the tables lie, Go's own great one as well. -/
noncomputable def mI (os:Os):World:=World.laidAll Tryd.prog os Rows.netBackRow.laid
theorem yY (os:Os):laidMet Tryd.prog Rows.netBackRow.laid (((mI os).forCall (fun _ _=>0) ⟨#[],#[.agg #[.slice none 0 0,.slice none 0 0],.string ⟨#[]⟩],[]⟩).memory):=
 laidMet_laidAll _ (by kernel_rfl) (by kernel_rfl)
theorem wD (os:Os) {H:Type} (enc:TypeId×Value→H):∃places,DataW.whole enc Tryd.prog (((mI os).forCall (fun _ _=>0) ⟨#[],#[.agg #[.slice none 0 0,.slice none 0 0],.string ⟨#[]⟩],[]⟩).memory) Tryd.f4.params.toList Rows.netBackSpec.vars false (show Array Value from #[.agg #[.slice none 0 0,.slice none 0 0],.string ⟨#[]⟩]).toList 8=some ([.agg [.nil,.nil],.lit (.string [])],[],places):=
 ⟨[],by kernel_rfl⟩
theorem uR (os:Os) (started:os.Started) (H:Type) (enc:TypeId×Value→H) (F:Stop.Interp):
  ReturnsInHanded {} Tryd.checked os 4 .any ((OpenSpec.ofChange Rows.netBackSpec).preRow enc Tryd.prog Tryd.f4 Rows.netBackRow.domain false Rows.netBackRow.laid) (((OpenSpec.ofChange Rows.netBackSpec).at F).post enc Tryd.prog Tryd.f4 false true false false):=by
 obtain⟨places,hx⟩:=wD os enc
 refine returnsInHanded_of_row (C:=Tryd.checked) (s:=OpenSpec.ofChange Rows.netBackSpec) Tryd.own started (by kernel_rfl) Tryd.func4
  (witness_row_at (enc:=enc) (C:=Tryd.checked) false (mI os) #[.agg #[.slice none 0 0,.slice none 0 0],.string ⟨#[]⟩] (World.laidAll_os _ _ _) (by kernel_rfl) (by kernel_rfl) (by kernel_rfl)
   (OpenSpec.preRow_of_cond 8 hx (by kernel_rfl) (fun k hk=>by cases hk) (by kernel_rfl) (yY os))) ?_
 intro W base args ds gs before hval0 hW _ hcond hsz _ hsh _
 refine wJ (P:=Tryd.prog) (f:=4) (fn:=Tryd.f4) (s:=Rows.netBackSpec) (tb:=4) Tryd.laidOut (by kernel_rfl) rfl (by kernel_rfl) Tryd.underlying4 ?_ hW ?_
 ·intro ds h
  match ds,h with
  |[_,_],_=>exact⟨rfl,rfl,rfl⟩
 ·intro p hg hA0 hlt
  have hval:∀(j:Nat) t v,Tryd.f4.params[j]?=some t→args[j]?=some v→Value.okWide Tryd.prog W .any base t v:=hval0
  have hA:DataW.TrodAll enc Tryd.prog W 0 (fun _=>true) true Tryd.f4.params.toList args.toList ds p:=hA0
  subst hg
  rw[Tryd.params4]at hA hval
  obtain⟨v0,JJ,d0,ds0,p0,q0,hargs,rfl,rfl,h0,r0⟩:=uT hA
  obtain⟨v1,vs1,d1,ds1,p1,q1,rfl,rfl,rfl,h1,r1⟩:=uT r0
  obtain⟨rfl,rfl,rfl⟩:=Cg r1
  obtain rfl:args=#[v0,v1]:=AR hargs
  obtain⟨n0,hn0,rfl⟩:=CX (hval 0 _ v0 rfl rfl) h0
  obtain⟨s1,rfl,rfl,_,hs1⟩:=Go.ChangeMaps.open_string Tryd.underlying9 (hval 1 _ v1 rfl rfl) h1
  exact xK n0 s1.data.toList W hn0 (by have:s1.data.toList.length=s1.size:=Array.length_toList;unfold maxLen at hs1;omega) (xO hsh)
theorem xP:Rows.NetBackSaid:=
 OpenClaim.holds_of_cond 4 Tryd.f4 rfl rfl rfl rfl rfl rfl rfl ⟨rfl,rfl,rfl,rfl,rfl⟩ rfl rfl rfl rfl rfl (by kernel_rfl) Tryd.func4 (by kernel_rfl)
  (of_decide_eq_true (by kernel_rfl)) (by unfold Func.isWrapper;first | (rw[if_pos (by decide+kernel)];kernel_rfl) | (rw[if_neg (by decide+kernel)];exact⟨rfl,rfl⟩))
  (fun os started H enc _ F=>by rw[OpenClaim.pre_eq_preRow];exact uR os started H enc F)
/-- No parameter wants a stand-in; the program's own looks are off. -/
theorem wE (f:FuncId) (fn:Func) (hf:Tryd.pinned.checked.prog.funcNamed "wireward/wirekeep.NetBack" =some f) (hfn:Tryd.pinned.checked.prog.funcs[f]?=some fn):
  false=Tryd.pinned.checked.prog.looks []∧∀(j:Nat) t,fn.params[j]?=some t→Tryd.pinned.checked.prog.wantsStandIn t=false:=by
 obtain rfl:f=4:=Option.some.inj ((show Tryd.prog.funcNamed "wireward/wirekeep.NetBack" =some 4 by kernel_rfl).symm.trans hf) |>.symm
 obtain rfl:fn=Tryd.f4:=(Option.some.inj (Tryd.func4.symm.trans hfn)).symm
 refine⟨by kernel_rfl,fun j t ht=>?_⟩
 rw[Tryd.params4]at ht
 have hm:=Array.mem_of_getElem? ht
 simp only[List.mem_toArray,List.mem_cons,List.not_mem_nil,or_false]at hm
 rcases hm with rfl | rfl
 ·exact(show Tryd.prog.wantsStandIn 25=false by kernel_rfl)
 ·exact(show Tryd.prog.wantsStandIn 9=false by kernel_rfl)
theorem netBack_card:Rows.NetBackCardSaid:=
 Claim7.holds_tied_plain_at .later [] _ _ _ _ xP (fun _ h=>by cases h) (by kernel_rfl) (fun _ h=>by cases h) netBack_row_tie rfl ⟨rfl,rfl⟩ (by kernel_rfl) rfl wE (by kernel_rfl)
end Go.Proofs.YtifkacnoiocebaaDoor
