/- A part of the proof: RegE, NetAt. -/
import Derived.Test.YtifkacnoiocebaaGreatDz5
import Derived.Deep.RegionHeld3
import Derived.BigRegion
import Derived.ChangeAlike
set_option linter.unusedVariables false
set_option linter.unusedSimpArgs false
set_option maxRecDepth 100000
set_option maxHeartbeats 8000000
namespace Go.Proofs.YtifkacnoiocebaaGreat
structure bV (md:Region.Mode) (ops:Array Oper) (listed:Array Bool):Prop where
 size:listed.size=ops.size
 closed:∀j oj,ops[j]?=some oj→listed.getD j false=true→∀e∈oj.after,Region.binds md e=true→listed.getD e.on false=true
def uD (md:Region.Mode) (ops:Array Oper):List Nat→Bool
 |i::j::r=>Region.waitsFor md ops j i && uD md ops (j::r)
 |_=>true
section
variable {P:Program} {ops:Array Oper} {Q:Exit→Act→World→Prop} {md:Region.Mode} {S:World→Prop} {s:Nat}
theorem bV.set {i:Nat} {listed:Array Bool} (inv:bV md ops listed) (hi:i∈Region.ready md ops listed):bV md ops (listed.setIfInBounds i true):=by
 obtain⟨_,oi,hoi,hall⟩:=mem_ready.1 hi
 refine⟨by simp[inv.size],fun j oj hj hl e he hb=>?_⟩
 by_cases hij:i=j
 ·subst hij
  have:oj=oi:=Option.some.inj (hj.symm.trans hoi)
  subst this
  exact getD_set_true (hall e he hb)
 ·rw[getD_set_ne false hij]at hl
  exact getD_set_true (inv.closed j oj hj hl e he hb)
theorem FU {listed:Array Bool} (inv:bV md ops listed):∀(c:List Nat) (i s:Nat),uD md ops (i::c)=true→(i::c).getLast? =some s→listed.getD s false=true→listed.getD i false=true
 |[],i,s,_,hl,h=>by simp at hl;rw[hl];exact h
 |j::r,i,s,hc,hl,h=>by
  simp only[uD,Bool.and_eq_true]at hc
  have h1:=FU inv r j s hc.2 (by simpa using hl) h
  obtain⟨oj,hoj,e,he,hb,hon⟩:=Region.waitsFor_spec hc.1
  have:=inv.closed j oj hoj h1 e he hb
  rwa [hon]at this
theorem yX {listed:Array Bool} (inv:bV md ops listed) {c:List Nat} {i:Nat} (hc:uD md ops (i::c)=true) (hl:(i::c).getLast? =some s) (hs:s<ops.size) (hi:listed.getD i true=false):listed.getD s true=false:=by
 cases h:listed.getD s false with
 |true=>have:=FU inv c i s hc hl h;rw[getD_both hi]at this;cases this
 |false=>exact getD_in (by rw[inv.size];exact hs) h
def dN (P:Program) (md:Region.Mode) (ops:Array Oper) (Q:Exit→Act→World→Prop) (S:World→Prop) (s:Nat):Nat→Array Bool→Act→World→Prop
 |0,listed,a,w=>Region.ready md ops listed=[]∧Q .normal a w
 |fuel+1,listed,a,w=>
  (Region.ready md ops listed=[]→Q .normal a w)∧
  ∀i∈Region.ready md ops listed,wpOp P ops Q i (fun a' w'=>((listed.setIfInBounds i true).getD s true=false→S w')∧dN P md ops Q S s fuel (listed.setIfInBounds i true) a' w') a w
theorem FV:∀(fuel:Nat) (listed:Array Bool) (a:Act) (w:World),dN P md ops Q S s fuel listed a w→wpAny P md ops Q fuel listed a w
 |0,_,_,_,h=>h
 |fuel+1,_,_,_,h=>⟨h.1,fun i hi=>wpOp_mono (fun a' w' h'=>FV fuel _ a' w' h'.2) (h.2 i hi)⟩
theorem Cg {i:Nat} {oi:Oper} {v:Value} {S':World→Prop} (hi:ops[i]?=some oi) (hsel:∀(j:Nat) (o:Oper) cs b,ops[j]?=some o→o.op≠ .select cs b) (his:i≠s)
  (hS':∀(listed:Array Bool) (w:World),bV md ops listed→listed.getD i true=false→(listed.getD s true=false→S w)→S' w)
  (hQ:∀c a w,Q (.panic c) (a.put oi.dst v) w→Q (.panic c) a w):
  ∀(fuel:Nat) (listed:Array Bool) (a:Act) (w:World),bV md ops listed→
   (∀j oj,ops[j]?=some oj→j≠i→listed.getD j true=false→(∀e∈oj.after,Region.binds md e=true→e.on≠i)→oi.apart ops oj=true)→
   i∈Region.ready md ops listed→YieldsIf P ops S' oi v a→(listed.getD s true=false→S w)→
   dN P md ops Q S s fuel (listed.setIfInBounds i true) (a.put oi.dst v) w→dN P md ops Q S s (fuel+1) listed a w:=by
 have same:∀(l:Array Bool),(l.setIfInBounds i true).getD s true=l.getD s true:=fun l=>getD_set_ne true his
 intro fuel
 induction fuel with
 |zero=>
  intro listed a w inv _ hr hy hS H
  have hun:=(mem_ready.1 hr).1
  refine⟨fun h=>(by rw[h]at hr;cases hr),fun j hj=>?_⟩
  by_cases hji:j=i
  ·subst hji;exact hy.wpOp hi (hS' listed w inv hun hS) ⟨fun h=>hS (by rwa [same]at h),H⟩
  ·have:=ready_mono hj hji
   rw[H.1]at this
   cases this
 |succ fuel ih=>
  intro listed a w inv hfree hr hy hS H
  have hun:=(mem_ready.1 hr).1
  refine⟨fun h=>(by rw[h]at hr;cases hr),fun j hj=>?_⟩
  by_cases hji:j=i
  ·subst hji;exact hy.wpOp hi (hS' listed w inv hun hS) ⟨fun h=>hS (by rwa [same]at h),H⟩
  ·have h1:=H.2 j (ready_mono hj hji)
   obtain⟨hjun,oj,hoj,hall⟩:=mem_ready.1 hj
   have hnot:∀e∈oj.after,Region.binds md e=true→e.on≠i:=fun e he hb heq=>by
    have h1:=hall e he hb
    rw[heq,getD_both hun]at h1
    cases h1
   have h2:=wpOp_putIf hoj (hfree j oj hoj hji hjun hnot) (fun cs b=>hsel i oi cs b hi) (fun cs b=>hsel j oj cs b hoj) hQ hy h1
   have hfree':∀k ok,ops[k]?=some ok→k≠i→(listed.setIfInBounds j true).getD k true=false→
     (∀e∈ok.after,Region.binds md e=true→e.on≠i)→oi.apart ops ok=true:=fun k ok hk hki hun hno=>by
    refine hfree k ok hk hki ?_ hno
    by_cases hjk:j=k
    ·subst hjk;exact hjun
    ·rw[getD_set_ne true hjk]at hun;exact hun
   refine wpOp_mono (fun a' w' h3=>?_) h2
   have hS2:(listed.setIfInBounds j true).getD s true=false→S w':=fun h=>h3.2.1 (by rw[Array.setIfInBounds_comm _ _ (Ne.symm hji),same];exact h)
   refine⟨hS2,ih (listed.setIfInBounds j true) a' w' (inv.set hj) hfree' (ready_mono hr (Ne.symm hji)) h3.1 hS2 ?_⟩
   rw[Array.setIfInBounds_comm _ _ hji]
   exact h3.2.2
theorem uK {i:Nat} {oi:Oper} {v:Value} {fuel:Nat} {listed:Array Bool} {a:Act} {w:World} (c:List Nat) (hi0:ops.toList[i]?=some oi) (hs:Region.noSelect ops=true) (hf:Region.free md ops listed i=true)
  (hr:(Region.ready md ops listed).contains i=true) (his:decide (i≠s) && decide (s<ops.size) && uD md ops (i::c) && decide ((i::c).getLast? =some s)=true) (hQ:∀c a w,Q (.panic c) (a.put oi.dst v) w→Q (.panic c) a w) (inv:Shut (bV md ops listed)) (hy:YieldsIf P ops S oi v a) (hS:S w)
  (h:Shut (bV md ops (listed.setIfInBounds i true))→dN P md ops Q S s fuel (listed.setIfInBounds i true) (a.put oi.dst v) w):dN P md ops Q S s (fuel+1) listed a w:=by
 have hi:ops[i]?=some oi:=by simpa using hi0
 simp only[Bool.and_eq_true,decide_eq_true_eq]at his
 have hr':i∈Region.ready md ops listed:=by simpa using hr
 exact Cg hi (Region.noSelect_spec hs) his.1.1.1 (fun l w inv hun hS=>hS (yX inv his.1.2 his.2 his.1.1.2 hun)) hQ fuel listed a w inv.out (Region.free_spec hi hf) hr' hy (fun _=>hS) (h (inv.out.set hr'))
theorem nW {i:Nat} {oi:Oper} {v:Value} {fuel:Nat} {listed:Array Bool} {a:Act} {w:World} (hi0:ops.toList[i]?=some oi) (hs:Region.noSelect ops=true) (hf:Region.free md ops listed i=true)
  (hr:(Region.ready md ops listed).contains i=true) (his:decide (i≠s)=true) (hQ:∀c a w,Q (.panic c) (a.put oi.dst v) w→Q (.panic c) a w) (inv:Shut (bV md ops listed)) (hy:YieldsIf P ops (fun _=>True) oi v a) (hS:listed.getD s true=false→S w)
  (h:Shut (bV md ops (listed.setIfInBounds i true))→dN P md ops Q S s fuel (listed.setIfInBounds i true) (a.put oi.dst v) w):dN P md ops Q S s (fuel+1) listed a w:=by
 have hi:ops[i]?=some oi:=by simpa using hi0
 have hr':i∈Region.ready md ops listed:=by simpa using hr
 exact Cg hi (Region.noSelect_spec hs) (by simpa using his) (fun _ _ _ _ _=>trivial) hQ fuel listed a w inv.out (Region.free_spec hi hf) hr' hy hS (h (inv.out.set hr'))
theorem Pb {i:Nat} {o:Oper} {fuel:Nat} {listed:Array Bool} {a:Act} {w:World} (ho0:ops.toList[i]?=some o) (hr:Region.ready md ops listed=[i]) (inv:Shut (bV md ops listed))
  (h:∀K':Act→World→Prop,Shut (∀a w,((listed.setIfInBounds i true).getD s true=false→S w)→(Shut (bV md ops (listed.setIfInBounds i true))→dN P md ops Q S s fuel (listed.setIfInBounds i true) a w)→K' a w)→if Region.wanted o (yielded ops a.tmps)=true then Oper.wp P o a w K' Q else K' (a.put o.dst undef) w):
  dN P md ops Q S s (fuel+1) listed a w:=by
 have ho:ops[i]?=some o:=by simpa using ho0
 have hi:i∈Region.ready md ops listed:=by rw[hr];simp
 refine⟨fun h0=>(by rw[h0]at hr;cases hr),fun j hj=>?_⟩
 rw[hr]at hj
 have:j=i:=by simpa using hj
 subst this
 exact wpOp_step ho (fun K hK=>h K (fun a w hS hW=>hK a w ⟨hS,hW (inv.out.set hi)⟩))
theorem LG {i:Nat} {o:Oper} {fuel:Nat} {listed:Array Bool} {a:Act} {w:World} (ho0:ops.toList[i]?=some o) (hr:Region.ready md ops listed=[i]) (inv:Shut (bV md ops listed)) (hx:(listed.setIfInBounds i true).getD s true=true)
  (h:∀K':Act→World→Prop,Shut (∀a w,(Shut (bV md ops (listed.setIfInBounds i true))→dN P md ops Q S s fuel (listed.setIfInBounds i true) a w)→K' a w)→if Region.wanted o (yielded ops a.tmps)=true then Oper.wp P o a w K' Q else K' (a.put o.dst undef) w):
  dN P md ops Q S s (fuel+1) listed a w:=by
 have ho:ops[i]?=some o:=by simpa using ho0
 have hi:i∈Region.ready md ops listed:=by rw[hr];simp
 refine⟨fun h0=>(by rw[h0]at hr;cases hr),fun j hj=>?_⟩
 rw[hr]at hj
 have:j=i:=by simpa using hj
 subst this
 exact wpOp_step ho (fun K hK=>h K (fun a w hW=>hK a w ⟨fun h=>(by rw[hx]at h;cases h),hW (inv.out.set hi)⟩))
theorem LH {listed:Array Bool} {a:Act} {w:World} (hr:Region.ready md ops listed=[]) (h:Q .normal a w):∀fuel,dN P md ops Q S s fuel listed a w
 |0=>⟨hr,h⟩
 |_+1=>⟨fun _=>h,by rw[hr];simp⟩
theorem aY {id:Nat} {a:Act} {w:World} (S:World→Prop) (s:Nat) (hm:P.follows .mixedOrders =true) (hS:S w.drew)
  (h:S w.drew→Shut (bV .any ops (Array.replicate ops.size false))→dN P .any ops Q S s ops.size (Array.replicate ops.size false) a w.drew):(Code.region id ops true).wp P Q a w:=
 wp_region_any hm (FV _ _ _ _ (h hS (show bV .any ops (Array.replicate ops.size false)from⟨by simp,fun j oj _ hl=>(by rw[getD_replicate_false]at hl;cases hl)⟩)))
end
section
variable {P:Program} {ops:Array Oper} {Q:Exit→Act→World→Prop} {md:Region.Mode} {S:World→Prop} {s:Nat} {fuel:Nat} {listed l:Array Bool} {a b:Act} {w:World} {oi:Oper} {v:Value}
theorem rP (i:Nat) (hS:S w) (h:Shut (bV md ops l)→dN P md ops Q S s fuel l b w)
  (hi0:ops.toList[i]?=some oi:=by rfl)
  (q0:Region.noSelect ops=true:=by kernel_rfl) (q1:Region.free md ops listed i=true:=by kernel_rfl) (q2:(Region.ready md ops listed).contains i=true:=by kernel_rfl) (q3:decide (i≠s)=true:=by kernel_rfl)
  (q4:Region.wanted oi (yielded ops a.tmps)=true:=by rfl)
  (hy:∀w,True→(execOp a.eval oi).run P w= .ok (.value v) w:=by intro w _;go_simp;try with_reducible rfl)
  (hQ:∀c a w,Q (.panic c) (a.put oi.dst v) w→Q (.panic c) a w:=by exact fun _ _ _ h=>h)
  (hl:listed.setIfInBounds i true=l:=by first | (simp only[aK,aL,aM];exact rfl) | exact rfl)
  (hb:a.put oi.dst v=b:=by first | (simp only[Act.put,aK,aL,aM];exact rfl) | exact rfl):Shut (bV md ops listed)→dN P md ops Q S s (fuel+1) listed a w:=
 fun inv=>nW hi0 q0 q1 q2 q3 hQ inv (.inl ⟨q4,hy⟩) (fun _=>hS) (by rw[hl,hb];exact h)
theorem rK (i:Nat) (hS:S w) (h:Shut (bV md ops l)→dN P md ops Q S s fuel l b w)
  (hi0:ops.toList[i]?=some oi:=by rfl)
  (q0:Region.noSelect ops=true:=by kernel_rfl) (q1:Region.free md ops listed i=true:=by kernel_rfl) (q2:(Region.ready md ops listed).contains i=true:=by kernel_rfl) (q3:decide (i≠s)=true:=by kernel_rfl)
  (q4:Region.wanted oi (yielded ops a.tmps)=false:=by rfl)
  (hQ:∀c a w,Q (.panic c) (a.put oi.dst undef) w→Q (.panic c) a w:=by exact fun _ _ _ h=>h)
  (hl:listed.setIfInBounds i true=l:=by first | (simp only[aK,aL,aM];exact rfl) | exact rfl)
  (hb:a.put oi.dst undef=b:=by first | (simp only[Act.put,aK,aL,aM];exact rfl) | exact rfl):Shut (bV md ops listed)→dN P md ops Q S s (fuel+1) listed a w:=
 fun inv=>nW hi0 q0 q1 q2 q3 hQ inv (.inr ⟨q4,rfl⟩) (fun _=>hS) (by rw[hl,hb];exact h)
theorem rL (i:Nat) (c:List Nat) (hi0:ops.toList[i]?=some oi) (hS:S w)
  (hy:∀w,S w→(execOp a.eval oi).run P w= .ok (.value v) w)
  (h:Shut (bV md ops l)→dN P md ops Q S s fuel l b w)
  (q0:Region.noSelect ops=true:=by kernel_rfl) (q1:Region.free md ops listed i=true:=by kernel_rfl) (q2:(Region.ready md ops listed).contains i=true:=by kernel_rfl) (q3:decide (i≠s) && decide (s<ops.size) && uD md ops (i::c) && decide ((i::c).getLast? =some s)=true:=by kernel_rfl)
  (q4:Region.wanted oi (yielded ops a.tmps)=true:=by rfl)
  (hQ:∀c a w,Q (.panic c) (a.put oi.dst v) w→Q (.panic c) a w:=by exact fun _ _ _ h=>h)
  (hl:listed.setIfInBounds i true=l:=by first | (simp only[aK,aL,aM];exact rfl) | exact rfl)
  (hb:a.put oi.dst v=b:=by first | (simp only[Act.put,aK,aL,aM];exact rfl) | exact rfl):Shut (bV md ops listed)→dN P md ops Q S s (fuel+1) listed a w:=
 fun inv=>uK c hi0 q0 q1 q2 q3 hQ inv (.inl ⟨q4,hy⟩) hS (by rw[hl,hb];exact h)
theorem rT (i:Nat) (inv:Shut (bV md ops listed))
  (h:∀K':Act→World→Prop,Shut (∀a w,(Shut (bV md ops (listed.setIfInBounds i true))→dN P md ops Q S s fuel (listed.setIfInBounds i true) a w)→K' a w)→if Region.wanted oi (yielded ops a.tmps)=true then Oper.wp P oi a w K' Q else K' (a.put oi.dst undef) w)
  (hi0:ops.toList[i]?=some oi:=by rfl) (hr:Region.ready md ops listed=[i]:=by kernel_rfl) (hx:(listed.setIfInBounds i true).getD s true=true:=by kernel_rfl):dN P md ops Q S s (fuel+1) listed a w:=
 LG hi0 hr inv hx h
theorem rO (i:Nat) (inv:Shut (bV md ops listed))
  (h:∀K':Act→World→Prop,Shut (∀a w,((listed.setIfInBounds i true).getD s true=false→S w)→(Shut (bV md ops (listed.setIfInBounds i true))→dN P md ops Q S s fuel (listed.setIfInBounds i true) a w)→K' a w)→if Region.wanted oi (yielded ops a.tmps)=true then Oper.wp P oi a w K' Q else K' (a.put oi.dst undef) w)
  (hi0:ops.toList[i]?=some oi:=by rfl) (hr:Region.ready md ops listed=[i]:=by kernel_rfl):dN P md ops Q S s (fuel+1) listed a w:=
 Pb hi0 hr inv h
theorem rD (h:Q .normal a w) (hr:Region.ready md ops listed=[]:=by kernel_rfl):dN P md ops Q S s fuel listed a w:=
 LH hr h fuel
end
open Go.RowKit
structure ah where
 a:Int
 p:Int
 b:Int
 q:Int
def ah.ok (l:ah):Prop:=aO l.a∧aO l.p∧aO l.b∧aO l.q
def ah.cells (l:ah):List Value:=[.int .i64 l.a,.int .i64 l.p,.int .i64 l.b,.int .i64 l.q]
theorem ah.len (l:ah):l.cells.length=4:=rfl
theorem oM {w:World} {B b o n k:Nat} {l:List ah} {r:ah} (h:bD ah.cells 4 w B (some ⟨b,o,none⟩) n l) (hr:l[k]?=some r):b<B∧
  w.cell? ⟨b,o+k*4,none⟩=some (.int .i64 r.a)∧w.cell? ⟨b,o+k*4+1,none⟩=some (.int .i64 r.p)∧w.cell? ⟨b,o+k*4+2,none⟩=some (.int .i64 r.b)∧w.cell? ⟨b,o+k*4+3,none⟩=some (.int .i64 r.q):=
 ⟨(h.get hr).1,(h.get hr).2 0 _ rfl,(h.get hr).2 1 _ rfl,(h.get hr).2 2 _ rfl,(h.get hr).2 3 _ rfl⟩
abbrev Pl:=Int×Int
def ah.e1 (l:ah):Pl:=(l.a,l.p)
def ah.e2 (l:ah):Pl:=(l.b,l.q)
def dh (x y:Pl):Bool:=(x.1 ==y.1) && (x.2 ==y.2)
theorem wu (x y:Pl):dh x y=true↔x=y:=by
 obtain⟨a,b⟩:=x
 obtain⟨c,d⟩:=y
 simp[dh]
def aD (l:List ah) (x:Pl):Option Pl:=
 match l with
 |[]=>none
 |a::l=>if dh x a.e1 then some a.e2 else if dh x a.e2 then some a.e1 else aD l x
theorem Fv {l:List ah} {k:Nat} {r:ah} (h:l[k]?=some r) (x:Pl):aD (l.drop k) x=if dh x r.e1 then some r.e2 else if dh x r.e2 then some r.e1 else aD (l.drop (k+1)) x:=by
 obtain⟨hk,e⟩:=List.getElem?_eq_some_iff.1 h
 rw[List.drop_eq_getElem_cons hk,e];rfl
def pJ (r:Option Pl):Value:=match r with
 |some x=>.tuple #[.agg #[.int .i64 x.1,.int .i64 x.2],.bool true]
 |none=>.tuple #[.agg #[.int .i64 0,.int .i64 0],.bool false]
def jQ (w:World) (N:Nat) (a b:Int):Prop:=w.cell? ⟨N,0,none⟩=some (.int .i64 a)∧w.cell? ⟨N,1,none⟩=some (.int .i64 b)∧w.frozen? ⟨N,0,none⟩=false∧w.frozen? ⟨N,1,none⟩=false
theorem jQ.below {w w':World} {B N:Nat} {a b:Int} (h:jQ w N a b) (hB:Below B w w') (hN:N<B):jQ w' N a b:=by
 have e:∀o,w'.cell? ⟨N,o,none⟩=w.cell? ⟨N,o,none⟩:=fun o=>hB.cell (p:=⟨N,o,none⟩) hN
 have f:∀o,w'.frozen? ⟨N,o,none⟩=w.frozen? ⟨N,o,none⟩:=fun o=>hB.frozen (p:=⟨N,o,none⟩) hN
 unfold jQ
 rw[e,e,f,f]
 exact h
theorem jQ.new (w:World) (a b:Int) (t:TypeId):jQ (w.alloc (.cells #[.int .i64 a,.int .i64 b] t)) w.heap.size a b:=by
 have hbx:=heap_alloc_new w (.cells #[.int .i64 a,.int .i64 b] t)
 have f:∀o,(w.alloc (.cells #[.int .i64 a,.int .i64 b] t)).frozen? ⟨w.heap.size,o,none⟩=false:=fun o=>by unfold World.frozen?;rw[hbx];simp
 exact⟨by rw[cell_of_row _ _ _ _ _ _ hbx];rfl,by rw[cell_of_row _ _ _ _ _ _ hbx];rfl,f 0,f 1⟩
theorem bF (n m:Int) (W:World) (B:Bool) (h:(decide (0≤n) && decide (n<m))=B):Calls Tryz.prog 52 #[.int .i64 n,.int .i64 m] W fun e W'=>e= .returned (.bool B)∧W=W':=by
 cases h1:decide (0≤n)
 ·have e1:¬ 0≤n:=by simpa using h1
  have HF:=hide (show false=B by rw[← h,h1];rfl)
  clear h
  go_enter Tryz.func52,Tryz.ntmps52
  go_wp2
  go_ret
  exact⟨bX HF.out,rfl⟩
 ·have HF:=hide (show decide (n<m)=B by rw[← h,h1];rfl)
  clear h
  go_enter Tryz.func52,Tryz.ntmps52
  go_wp2
  go_ret
  exact⟨bX HF.out,rfl⟩
theorem jG (n:Nat):n≤n+1+1:=by omega
def aN (k:Int):Int:=if k ==1 then 1 else if k ==2 then 4 else if k ==3 then 2 else if k ==4 then 2 else if k ==5 then 2 else 0
theorem En (k:Int) (W:World):Calls Tryz.prog 53 #[.int .i64 k] W fun e W'=>e= .returned (.int .i64 (aN k))∧W=W':=by
 cases h1:(k ==1)
 case true=>
  have HF:=hide (show aN k=1 from by simp[aN,h1])
  rw[HF.out]
  go_enter Tryz.func53,Tryz.ntmps53
  go_wp2
  go_ret
  exact⟨rfl,rfl⟩
 cases h2:(k ==2)
 case true=>
  have HF:=hide (show aN k=4 from by simp[aN,h1,h2])
  rw[HF.out]
  go_enter Tryz.func53,Tryz.ntmps53
  go_wp2
  go_ret
  exact⟨rfl,rfl⟩
 cases h3:(k ==3)
 case true=>
  have HF:=hide (show aN k=2 from by simp[aN,h1,h2,h3])
  rw[HF.out]
  go_enter Tryz.func53,Tryz.ntmps53
  go_wp2
  go_ret
  exact⟨rfl,rfl⟩
 cases h4:(k ==4)
 case true=>
  have HF:=hide (show aN k=2 from by simp[aN,h1,h2,h3,h4])
  rw[HF.out]
  go_enter Tryz.func53,Tryz.ntmps53
  go_wp2
  go_ret
  exact⟨rfl,rfl⟩
 cases h5:(k ==5)
 case true=>
  have HF:=hide (show aN k=2 from by simp[aN,h1,h2,h3,h4,h5])
  rw[HF.out]
  go_enter Tryz.func53,Tryz.ntmps53
  go_wp2
  go_ret
  exact⟨rfl,rfl⟩
 ·have HF:=hide (show aN k=0 from by simp[aN,h1,h2,h3,h4,h5])
  rw[HF.out]
  go_enter Tryz.func53,Tryz.ntmps53
  go_wp2
  go_ret
  exact⟨rfl,rfl⟩
theorem P5 (l:List ah) (D:Value) (b o n c:Nat) (x y:Int) (W:World) (hn:n≤9223372036854775807) (hl:bD ah.cells 4 W W.heap.size (some ⟨b,o,none⟩) n l) (h0:0<n)
  (dA:Option Addr) (dn dc:Nat) (hD:D= .slice dA dn dc):
  Calls Tryz.prog 85 #[.agg #[.slice dA dn dc,.slice (some ⟨b,o,none⟩) n c],.agg #[.int .i64 x,.int .i64 y]] W fun e W'=>e= .returned (pJ (aD l (x,y)))∧Below W.heap.size W W':=by
 have HL:=hide hl
 have HB0:=hide (fun o0 o1 o2=>show Below W.heap.size W (((W.alloc o0).alloc o1).alloc o2)from(((Below.refl _ _).alloc (Nat.le_refl _) _).alloc (by simp) _).alloc (by simp;omega) _)
 clear hl hD
 go_enter Tryz.func85,Tryz.ntmps85
 go_wp2
 have hw0:(((W.alloc (.cells #[.slice dA dn dc,.slice (some ⟨b,o,none⟩) n c] 25)).alloc (.cells #[.int .i64 x,.int .i64 y] 27)).alloc (.cells #[.int .i64 0,.int .i64 0] 27)).heap.size =W.heap.size+3:=by simp
 have HX0:=hide (show jQ (((W.alloc (.cells #[.slice dA dn dc,.slice (some ⟨b,o,none⟩) n c] 25)).alloc (.cells #[.int .i64 x,.int .i64 y] 27)).alloc (.cells #[.int .i64 0,.int .i64 0] 27)) (W.heap.size+1) x y from by
  have:=(jQ.new (W.alloc (.cells #[.slice dA dn dc,.slice (some ⟨b,o,none⟩) n c] 25)) x y 27).below ((Below.refl _ _).alloc (Nat.le_refl _) (.cells #[.int .i64 0,.int .i64 0] 27)) (by simp)
  simpa using this)
 have HZ0:=hide (show jQ (((W.alloc (.cells #[.slice dA dn dc,.slice (some ⟨b,o,none⟩) n c] 25)).alloc (.cells #[.int .i64 x,.int .i64 y] 27)).alloc (.cells #[.int .i64 0,.int .i64 0] 27)) (W.heap.size+1+1) 0 0 from by
  have:=(jQ.new ((W.alloc (.cells #[.slice dA dn dc,.slice (some ⟨b,o,none⟩) n c] 25)).alloc (.cells #[.int .i64 x,.int .i64 y] 27)) 0 0 27)
  simpa using this)
 have HB1:=hide (HB0.out (.cells #[.slice dA dn dc,.slice (some ⟨b,o,none⟩) n c] 25) (.cells #[.int .i64 x,.int .i64 y] 27) (.cells #[.int .i64 0,.int .i64 0] 27))
 generalize World.alloc _ _=w0 at*
 go_loopw [13] (fun i wr=>∃k:Nat,k≤n∧i= .int .i64 k∧Below W.heap.size W wr∧Hid (jQ wr (W.heap.size+1) x y)∧Hid (jQ wr (W.heap.size+1+1) 0 0)∧W.heap.size+3≤wr.heap.size∧Hid (aD l (x,y)=aD (l.drop k) (x,y))) (fun i _=>n - (intOf i).toNat)
 case atStart=>exact⟨0,Nat.zero_le _,rfl,HB1.out,HX0,HZ0,by omega,hide rfl⟩
 case round=>
  clear HX0 HZ0 HB1 hw0 HB0
  obtain⟨k,hk,rfl,hb,HX,HZ,hsz,HE⟩:=hrel
  have HB:=hide hb
  clear hb
  by_cases hlt:k<n
  ·obtain⟨r,hr⟩:∃r,l[k]?=some r:=⟨_,List.getElem?_eq_getElem (by have:=HL.out.1;omega)⟩
   obtain⟨kD,q0,q1,q2,q3⟩:=oM (HL.out.below HB.out HB.out.size) hr
   have HS:=hide (Fv hr (x,y))
   obtain⟨ra,rp,rb,rq⟩:=r
   have hx1:=fun(o1 o2 o3:Obj)=>(World.cell?_alloc_lt ((wr.alloc o1).alloc o2) o3 ⟨W.heap.size+1,0,none⟩ (by simp;omega)).trans ((World.cell?_alloc_lt (wr.alloc o1) o2 ⟨W.heap.size+1,0,none⟩ (by simp;omega)).trans ((World.cell?_alloc_lt wr o1 ⟨W.heap.size+1,0,none⟩ (by simp;omega)).trans HX.out.1))
   have hx2:=fun(o1 o2 o3:Obj)=>(World.cell?_alloc_lt ((wr.alloc o1).alloc o2) o3 ⟨W.heap.size+1,1,none⟩ (by simp;omega)).trans ((World.cell?_alloc_lt (wr.alloc o1) o2 ⟨W.heap.size+1,1,none⟩ (by simp;omega)).trans ((World.cell?_alloc_lt wr o1 ⟨W.heap.size+1,1,none⟩ (by simp;omega)).trans HX.out.2.1))
   clear hr
   go_wp2
   clear q0 q1 q2 q3
   obtain⟨N,hN⟩:∃N,wr.heap.size=N:=⟨_,rfl⟩
   have hbx:=heap_alloc_new wr (.cells #[.int .i64 ra,.int .i64 rp,.int .i64 rb,.int .i64 rq] 85)
   have hsx:(wr.alloc (.cells #[.int .i64 ra,.int .i64 rp,.int .i64 rb,.int .i64 rq] 85)).heap.size =wr.heap.size+1:=by simp
   have oq:=hide (HB.out.alloc HB.out.size (.cells #[.int .i64 ra,.int .i64 rp,.int .i64 rb,.int .i64 rq] 85))
   rw[hN]at hbx hsx hsz ⊢
   have HXw:=hide (HX.out.below ((Below.refl _ wr).alloc (Nat.le_refl _) (.cells #[.int .i64 ra,.int .i64 rp,.int .i64 rb,.int .i64 rq] 85)) (by omega))
   have HZw:=hide (HZ.out.below ((Below.refl _ wr).alloc (Nat.le_refl _) (.cells #[.int .i64 ra,.int .i64 rp,.int .i64 rb,.int .i64 rq] 85)) (by omega))
   generalize wr.alloc _=wx at*
   have y0:wx.cell? ⟨N,0,none⟩=some (.int .i64 ra):=by rw[cell_of_row _ _ _ _ _ _ hbx];rfl
   have y1:wx.cell? ⟨N,1,none⟩=some (.int .i64 rp):=by rw[cell_of_row _ _ _ _ _ _ hbx];rfl
   have y2:wx.cell? ⟨N,2,none⟩=some (.int .i64 rb):=by rw[cell_of_row _ _ _ _ _ _ hbx];rfl
   have y3:wx.cell? ⟨N,3,none⟩=some (.int .i64 rq):=by rw[cell_of_row _ _ _ _ _ _ hbx];rfl
   clear hbx hx1 hx2 hN
   have hNx:N<wx.heap.size:=by omega
   have hWx:W.heap.size+3≤wx.heap.size:=by omega
   have ng:Hid (∀(u v:Pl),Below wx.heap.size wx ((wx.alloc (.cells #[.int .i64 u.1,.int .i64 u.2] 27)).alloc (.cells #[.int .i64 v.1,.int .i64 v.2] 27))∧((wx.alloc (.cells #[.int .i64 u.1,.int .i64 u.2] 27)).alloc (.cells #[.int .i64 v.1,.int .i64 v.2] 27)).heap.size =N+3∧
     jQ ((wx.alloc (.cells #[.int .i64 u.1,.int .i64 u.2] 27)).alloc (.cells #[.int .i64 v.1,.int .i64 v.2] 27)) (N+1) u.1 u.2∧jQ ((wx.alloc (.cells #[.int .i64 u.1,.int .i64 u.2] 27)).alloc (.cells #[.int .i64 v.1,.int .i64 v.2] 27)) (N+1+1) v.1 v.2):=hide (fun u v=>by
    have hb1:Below wx.heap.size wx (wx.alloc (.cells #[.int .i64 u.1,.int .i64 u.2] 27)):=(Below.refl _ _).alloc (Nat.le_refl _) _
    have hs:(wx.alloc (.cells #[.int .i64 u.1,.int .i64 u.2] 27)).heap.size =N+1+1:=by rw[← hsx];simp
    have b1:=jQ.new wx u.1 u.2 27
    have b2:=jQ.new (wx.alloc (.cells #[.int .i64 u.1,.int .i64 u.2] 27)) v.1 v.2 27
    rw[hsx]at b1
    rw[hs]at b2
    refine⟨hb1.alloc hb1.size _,by simp;omega,b1.below ((Below.refl _ _).alloc (Nat.le_refl _) _) (by omega),b2⟩)
   go_region_held3 (fun w'=>w'.cell? ⟨N,0,none⟩=some (.int .i64 ra)∧w'.cell? ⟨N,1,none⟩=some (.int .i64 rp)∧w'.cell? ⟨N,2,none⟩=some (.int .i64 rb)∧w'.cell? ⟨N,3,none⟩=some (.int .i64 rq)) (go_keep) (fail)
   ·obtain⟨hbz,ada,b1,b2⟩:=ng.out (ra,rp) (rb,rq)
    have jT:=hide (oq.out.trans (hbz.mono (by have:=oq.out.size;omega)))
    have Ch:=hide (HXw.out.below hbz (by omega))
    have xD:=hide (HZw.out.below hbz (by omega))
    generalize World.alloc (World.alloc wx _) _=wz at*
    have hsz':W.heap.size+3≤wz.heap.size:=by omega
    obtain⟨u0,u1,_,_⟩:=b1
    obtain⟨v0,v1,_,_⟩:=b2
    obtain⟨x0,x1,_,_⟩:=Ch.out
    clear hbz ng
    cases e1:(x ==ra)
    ·cases e3:(x ==rb)
     ·have HN:=hide (show aD l (x,y)=aD (l.drop (k+1)) (x,y)from by rw[HE.out,HS.out];simp[dh,ah.e1,ah.e2,e1,e3])
      go_wp2
      go_roundw
      case rel=>exact⟨k+1,by omega,by go_num,jT.out.drew,Ch,xD,hsz',HN⟩
      case measure=>simp[intOf];omega
     ·cases e4:(y ==rq)
      ·have HN:=hide (show aD l (x,y)=aD (l.drop (k+1)) (x,y)from by rw[HE.out,HS.out];simp[dh,ah.e1,ah.e2,e1,e3,e4])
       go_wp2
       go_roundw
       case rel=>exact⟨k+1,by omega,by go_num,jT.out.drew,Ch,xD,hsz',HN⟩
       case measure=>simp[intOf];omega
      ·have HN:=hide (show aD l (x,y)=some (ra,rp)from by rw[HE.out,HS.out];simp[dh,ah.e1,ah.e2,e1,e3,e4])
       obtain⟨z0,z1,z2,z3⟩:=xD.out
       go_wp2
       refine bodyPost_ret (v:=.tuple #[.agg #[.int .i64 ra,.int .i64 rp],.bool true]) (by simp[results,Tryz.results85,go_sem,z0,z1]) rfl ⟨by rw[HN.out];rfl,?_⟩
       first | exact((jT.out.setCell (jG _) _).setCell (jG _) _).drew | exact((jT.out.drew.setCell (jG _) _).setCell (jG _) _)
    ·cases e2:(y ==rp)
     ·cases e3:(x ==rb)
      ·have HN:=hide (show aD l (x,y)=aD (l.drop (k+1)) (x,y)from by rw[HE.out,HS.out];simp[dh,ah.e1,ah.e2,e1,e2,e3])
       go_wp2
       go_roundw
       case rel=>exact⟨k+1,by omega,by go_num,jT.out.drew,Ch,xD,hsz',HN⟩
       case measure=>simp[intOf];omega
      ·cases e4:(y ==rq)
       ·have HN:=hide (show aD l (x,y)=aD (l.drop (k+1)) (x,y)from by rw[HE.out,HS.out];simp[dh,ah.e1,ah.e2,e1,e2,e3,e4])
        go_wp2
        go_roundw
        case rel=>exact⟨k+1,by omega,by go_num,jT.out.drew,Ch,xD,hsz',HN⟩
        case measure=>simp[intOf];omega
       ·have HN:=hide (show aD l (x,y)=some (ra,rp)from by rw[HE.out,HS.out];simp[dh,ah.e1,ah.e2,e1,e2,e3,e4])
        obtain⟨z0,z1,z2,z3⟩:=xD.out
        go_wp2
        refine bodyPost_ret (v:=.tuple #[.agg #[.int .i64 ra,.int .i64 rp],.bool true]) (by simp[results,Tryz.results85,go_sem,z0,z1]) rfl ⟨by rw[HN.out];rfl,?_⟩
        first | exact((jT.out.setCell (jG _) _).setCell (jG _) _).drew | exact((jT.out.drew.setCell (jG _) _).setCell (jG _) _)
     ·have HN:=hide (show aD l (x,y)=some (rb,rq)from by rw[HE.out,HS.out];simp[dh,ah.e1,ah.e2,e1,e2])
      obtain⟨z0,z1,z2,z3⟩:=xD.out
      go_wp2
      refine bodyPost_ret (v:=.tuple #[.agg #[.int .i64 rb,.int .i64 rq],.bool true]) (by simp[results,Tryz.results85,go_sem,z0,z1]) rfl ⟨by rw[HN.out];rfl,?_⟩
      first | exact((jT.out.setCell (jG _) _).setCell (jG _) _).drew | exact((jT.out.drew.setCell (jG _) _).setCell (jG _) _)
   ·obtain⟨hbz,ada,b1,b2⟩:=ng.out (rb,rq) (ra,rp)
    have jT:=hide (oq.out.trans (hbz.mono (by have:=oq.out.size;omega)))
    have Ch:=hide (HXw.out.below hbz (by omega))
    have xD:=hide (HZw.out.below hbz (by omega))
    generalize World.alloc (World.alloc wx _) _=wz at*
    have hsz':W.heap.size+3≤wz.heap.size:=by omega
    obtain⟨u0,u1,_,_⟩:=b1
    obtain⟨v0,v1,_,_⟩:=b2
    obtain⟨x0,x1,_,_⟩:=Ch.out
    clear hbz ng
    cases e1:(x ==ra)
    ·cases e3:(x ==rb)
     ·have HN:=hide (show aD l (x,y)=aD (l.drop (k+1)) (x,y)from by rw[HE.out,HS.out];simp[dh,ah.e1,ah.e2,e1,e3])
      go_wp2
      go_roundw
      case rel=>exact⟨k+1,by omega,by go_num,jT.out.drew,Ch,xD,hsz',HN⟩
      case measure=>simp[intOf];omega
     ·cases e4:(y ==rq)
      ·have HN:=hide (show aD l (x,y)=aD (l.drop (k+1)) (x,y)from by rw[HE.out,HS.out];simp[dh,ah.e1,ah.e2,e1,e3,e4])
       go_wp2
       go_roundw
       case rel=>exact⟨k+1,by omega,by go_num,jT.out.drew,Ch,xD,hsz',HN⟩
       case measure=>simp[intOf];omega
      ·have HN:=hide (show aD l (x,y)=some (ra,rp)from by rw[HE.out,HS.out];simp[dh,ah.e1,ah.e2,e1,e3,e4])
       obtain⟨z0,z1,z2,z3⟩:=xD.out
       go_wp2
       refine bodyPost_ret (v:=.tuple #[.agg #[.int .i64 ra,.int .i64 rp],.bool true]) (by simp[results,Tryz.results85,go_sem,z0,z1]) rfl ⟨by rw[HN.out];rfl,?_⟩
       first | exact((jT.out.setCell (jG _) _).setCell (jG _) _).drew | exact((jT.out.drew.setCell (jG _) _).setCell (jG _) _)
    ·cases e2:(y ==rp)
     ·cases e3:(x ==rb)
      ·have HN:=hide (show aD l (x,y)=aD (l.drop (k+1)) (x,y)from by rw[HE.out,HS.out];simp[dh,ah.e1,ah.e2,e1,e2,e3])
       go_wp2
       go_roundw
       case rel=>exact⟨k+1,by omega,by go_num,jT.out.drew,Ch,xD,hsz',HN⟩
       case measure=>simp[intOf];omega
      ·cases e4:(y ==rq)
       ·have HN:=hide (show aD l (x,y)=aD (l.drop (k+1)) (x,y)from by rw[HE.out,HS.out];simp[dh,ah.e1,ah.e2,e1,e2,e3,e4])
        go_wp2
        go_roundw
        case rel=>exact⟨k+1,by omega,by go_num,jT.out.drew,Ch,xD,hsz',HN⟩
        case measure=>simp[intOf];omega
       ·have HN:=hide (show aD l (x,y)=some (ra,rp)from by rw[HE.out,HS.out];simp[dh,ah.e1,ah.e2,e1,e2,e3,e4])
        obtain⟨z0,z1,z2,z3⟩:=xD.out
        go_wp2
        refine bodyPost_ret (v:=.tuple #[.agg #[.int .i64 ra,.int .i64 rp],.bool true]) (by simp[results,Tryz.results85,go_sem,z0,z1]) rfl ⟨by rw[HN.out];rfl,?_⟩
        first | exact((jT.out.setCell (jG _) _).setCell (jG _) _).drew | exact((jT.out.drew.setCell (jG _) _).setCell (jG _) _)
     ·have HN:=hide (show aD l (x,y)=some (rb,rq)from by rw[HE.out,HS.out];simp[dh,ah.e1,ah.e2,e1,e2])
      obtain⟨z0,z1,z2,z3⟩:=xD.out
      go_wp2
      refine bodyPost_ret (v:=.tuple #[.agg #[.int .i64 rb,.int .i64 rq],.bool true]) (by simp[results,Tryz.results85,go_sem,z0,z1]) rfl ⟨by rw[HN.out];rfl,?_⟩
      first | exact((jT.out.setCell (jG _) _).setCell (jG _) _).drew | exact((jT.out.drew.setCell (jG _) _).setCell (jG _) _)
  ·have HN:=hide (show aD l (x,y)=none from by rw[HE.out,List.drop_of_length_le (by have:=HL.out.1;omega)];rfl)
   obtain⟨z0,z1,z2,z3⟩:=HZ.out
   go_wp2
   refine bodyPost_ret (v:=.tuple #[.agg #[.int .i64 0,.int .i64 0],.bool false]) (by simp[results,Tryz.results85,go_sem,z0,z1]) rfl ⟨by rw[HN.out];rfl,?_⟩
   exact(HB.out.setCell (jG _) _).setCell (jG _) _
end Go.Proofs.YtifkacnoiocebaaGreat
