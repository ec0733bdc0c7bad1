/- A part of the proof: Nr5, RegE. -/
import Derived.Test.YtifkacnoiocebaaDoorNk12
set_option linter.unusedVariables false
set_option linter.unusedSimpArgs false
set_option maxRecDepth 100000
set_option maxHeartbeats 8000000
namespace Go.Proofs.YtifkacnoiocebaaDoor
open Go.RowKit
structure dO (S:dH) (k:Nat):Prop where
 d:S.ds.length≤k
 l:S.ls.length≤k
 r:∀d∈S.ds,d.rules.length≤k
 t:∀d∈S.ds,d.routes.length≤k
structure mF (ws:List (List UInt8)):Prop where
 len:ws.length≤5000
 each:∀x∈ws,x.length≤5000
 join:(aS [32] (ws.drop 1)).length ≤100000
def kY (cs:Value→Value→List au→Array Value) (T:TypeId) (w:World) (R:Nat) (S:dH):Prop:=
 ∃(ds:List ah) (V L:Value),Bx w R (cs V L S.ls) T∧NG w (R+1) ds S.ls V L∧ds.map ah.dev=S.ds
def iZ (V L:Value) (ls:List au):Array Value:=#[V,L,.bool (!ls.isEmpty)]
def kZ (cs:Value→Value→List au→Array Value) (T:TypeId) (R:Nat) (r:Option dH) (W:World) (e:Ending) (W':World):Prop:=
 Below R W W'∧((r=none∧e= .returned (.bool false))∨∃S,r=some S∧e= .returned (.bool true)∧kY cs T W' R S)
theorem kY.below {cs:Value→Value→List au→Array Value} {T:TypeId} {w w':World} {R:Nat} {S:dH} (h:kY cs T w R S) (hb:Below w.heap.size w w'):kY cs T w' R S:=by
 obtain⟨ds,V,L,h1,h2,h3⟩:=h
 exact⟨ds,V,L,h1.below hb,h2.below hb,h3⟩
theorem kY.lt {cs:Value→Value→List au→Array Value} {T:TypeId} {w:World} {R:Nat} {S:dH} (h:kY cs T w R S):R<w.heap.size:=by
 obtain⟨ds,V,L,h1,h2,h3⟩:=h
 exact h1.lt
def pG (w:World) (A:Option Addr) (n:Nat) (ps:List (List UInt8)):Prop:=
 ps.length=n∧(0<n→∃g o,A=some ⟨g,o,none⟩∧g<w.heap.size∧∀(j:Nat) x,ps[j]?=some x→w.cell? ⟨g,o+j,none⟩=some (.string ⟨x.toArray⟩))
theorem pG.below {w w':World} {A:Option Addr} {n:Nat} {ps:List (List UInt8)} (h:pG w A n ps) (hb:Below w.heap.size w w'):pG w' A n ps:=
 ⟨h.1,fun h0=>by
  obtain⟨g,o,e,hg,hc⟩:=h.2 h0
  exact⟨g,o,e,Nat.lt_of_lt_of_le hg hb.size,fun j x hx=>(hb.cell (p:=⟨g,o+j,none⟩) hg).trans (hc j x hx)⟩⟩
theorem bR.rest {w:World} {base g n cap:Nat} {ps:List (List UInt8)} (h:bR w base g n cap ps):pG w (some ⟨g,1,none⟩) (n - 1) (ps.drop 1):=
 ⟨by rw[List.length_drop,h.len],fun h0=>⟨g,1,rfl,h.lt.2,fun j x hx=>h.get (by rw[← hx,List.getElem?_drop])⟩⟩
theorem bR.Dp {w:World} {base g n cap:Nat} {ps:List (List UInt8)} (h:bR w base g n cap ps) (h0:n≤1) (A:Option Addr):pG w A (n - 1) (ps.drop 1):=
 ⟨by rw[List.length_drop,h.len],fun h1=>by omega⟩
theorem wS (ps:List (List UInt8)) (b:UInt8) (A:Option Addr) (n cap:Nat) (w:World) (hps:pG w A n ps) (hlen:(aS [b] ps).length ≤1048576) (hn:n≤1048576) (hcap:n≤cap):
  Calls Tryd.prog 59 #[.slice A n cap,.string ⟨#[b]⟩] w fun e w'=>e= .returned (.string ⟨(aS [b] ps).toArray⟩)∧Below w.heap.size w w':=by
 rcases Nat.eq_zero_or_pos n with h0 | h0
 ·subst h0
  have:ps=[]:=List.eq_nil_of_length_eq_zero hps.1
  subst this
  refine(Tryd.strings_Join_none A cap ⟨#[b]⟩ w).mono ?_
  rintro e w' ⟨rfl,rfl⟩
  exact⟨rfl,Below.refl _ _⟩
 obtain⟨g,o,rfl,hg,hc⟩:=hps.2 h0
 have hmap:(ps.map (fun x=>(⟨x.toArray⟩:ByteArray))).map (·.data.toList)=ps:=by
  rw[List.map_map];simp[Function.comp_def]
 have hj:=sF [b] ps
 have:=Tryd.strings_Join g o cap (ps.map (fun x=>(⟨x.toArray⟩:ByteArray))) ⟨#[b]⟩ w (fun j x hx=>by
  rw[List.getElem?_map]at hx
  cases e:ps[j]? with
  |none=>rw[e]at hx;cases hx
  |some y=>rw[e]at hx;cases hx;exact hc j y e) hg (by rw[List.length_map,hps.1];omega) (by rw[List.length_map,hps.1];exact hcap)
  (by rw[hmap];show(Lib.join ps [b]).length ≤_;rw[hj];omega)
 rw[hmap,List.length_map,hps.1]at this
 refine this.mono ?_
 rintro e w' ⟨rfl,hb⟩
 refine⟨?_,hb⟩
 show Ending.returned (.string ⟨(Lib.join ps [b]).toArray⟩)=_
 rw[hj]
theorem uI {ds:List ah} {l:List Dev} (h:ds.map ah.dev=l):(ds=[]∧l=[]∧l.getLast? =none)∨∃ds0 x,ds=ds0++[x]∧l.dropLast=ds0.map ah.dev∧l.getLast? =some x.dev∧x.dev∈l:=by
 rcases List.eq_nil_or_concat ds with rfl | ⟨ds0,x,rfl⟩
 ·subst h
  exact .inl ⟨rfl,rfl,rfl⟩
 ·refine .inr ⟨ds0,x,by simp,?_,?_,?_⟩
  ·rw[← h];simp
  ·rw[← h];simp
  ·rw[← h];simp
theorem tF {S:dH} {f:Dev→Dev} (h:S.ds=[]∨S.ls≠[]):jH S f=none:=by
 unfold jH
 by_cases hl:S.ls≠[]
 ·rw[if_pos hl]
 ·rw[if_neg hl]
  rcases h with h | h
  ·rw[h];rfl
  ·exact absurd h hl
theorem rR {S:dH} {f:Dev→Dev} {ds0:List ah} {x:ah} (hl:S.ls=[]) (h1:S.ds.dropLast=ds0.map ah.dev) (h2:S.ds.getLast? =some x.dev):jH S f=some ⟨ds0.map ah.dev++[f x.dev],[]⟩:=by
 unfold jH
 rw[if_neg (by simp[hl]),h2,h1,hl]
end Go.Proofs.YtifkacnoiocebaaDoor
namespace Go.Proofs.YtifkacnoiocebaaDoor
structure cK (md:Region.Mode) (ops:Array Oper) (listed:Array Bool):Prop where
 size:listed.size=ops.size
 closed:∀j oj,ops[j]?=some oj→listed.getD j false=true→∀e∈oj.after,Region.binds md e=true→listed.getD e.on false=true
def mX (md:Region.Mode) (ops:Array Oper):List Nat→Bool
 |i::j::r=>Region.waitsFor md ops j i && mX md ops (j::r)
 |_=>true
section
variable {P:Program} {ops:Array Oper} {Q:Exit→Act→World→Prop} {md:Region.Mode} {S:World→Prop} {s:Nat}
theorem cK.set {i:Nat} {listed:Array Bool} (inv:cK md ops listed) (hi:i∈Region.ready md ops listed):cK md ops (listed.setIfInBounds i true):=by
 obtain⟨_,oi,hoi,hall⟩:=mem_ready.1 hi
 refine⟨by simp[inv.size],fun j oj hj hl e he hb=>?_⟩
 by_cases hij:i=j
 ·subst hij
  have:oj=oi:=Option.some.inj (hj.symm.trans hoi)
  subst this
  exact getD_set_true (hall e he hb)
 ·rw[getD_set_ne false hij]at hl
  exact getD_set_true (inv.closed j oj hj hl e he hb)
theorem tH {listed:Array Bool} (inv:cK md ops listed):∀(c:List Nat) (i s:Nat),mX md ops (i::c)=true→(i::c).getLast? =some s→listed.getD s false=true→listed.getD i false=true
 |[],i,s,_,hl,h=>by simp at hl;rw[hl];exact h
 |j::r,i,s,hc,hl,h=>by
  simp only[mX,Bool.and_eq_true]at hc
  have h1:=tH inv r j s hc.2 (by simpa using hl) h
  obtain⟨oj,hoj,e,he,hb,hon⟩:=Region.waitsFor_spec hc.1
  have:=inv.closed j oj hoj h1 e he hb
  rwa [hon]at this
theorem uJ {listed:Array Bool} (inv:cK md ops listed) {c:List Nat} {i:Nat} (hc:mX md ops (i::c)=true) (hl:(i::c).getLast? =some s) (hs:s<ops.size) (hi:listed.getD i true=false):listed.getD s true=false:=by
 cases h:listed.getD s false with
 |true=>have:=tH inv c i s hc hl h;rw[getD_both hi]at this;cases this
 |false=>exact getD_in (by rw[inv.size];exact hs) h
def dW (P:Program) (md:Region.Mode) (ops:Array Oper) (Q:Exit→Act→World→Prop) (S:World→Prop) (s:Nat):Nat→Array Bool→Act→World→Prop
 |0,listed,a,w=>Region.ready md ops listed=[]∧Q .normal a w
 |fuel+1,listed,a,w=>
  (Region.ready md ops listed=[]→Q .normal a w)∧
  ∀i∈Region.ready md ops listed,wpOp P ops Q i (fun a' w'=>((listed.setIfInBounds i true).getD s true=false→S w')∧dW P md ops Q S s fuel (listed.setIfInBounds i true) a' w') a w
theorem tJ:∀(fuel:Nat) (listed:Array Bool) (a:Act) (w:World),dW P md ops Q S s fuel listed a w→wpAny P md ops Q fuel listed a w
 |0,_,_,_,h=>h
 |fuel+1,_,_,_,h=>⟨h.1,fun i hi=>wpOp_mono (fun a' w' h'=>tJ fuel _ a' w' h'.2) (h.2 i hi)⟩
theorem qG {i:Nat} {oi:Oper} {v:Value} {S':World→Prop} (hi:ops[i]?=some oi) (hsel:∀(j:Nat) (o:Oper) cs b,ops[j]?=some o→o.op≠ .select cs b) (his:i≠s)
  (hS':∀(listed:Array Bool) (w:World),cK md ops listed→listed.getD i true=false→(listed.getD s true=false→S w)→S' w)
  (hQ:∀c a w,Q (.panic c) (a.put oi.dst v) w→Q (.panic c) a w):
  ∀(fuel:Nat) (listed:Array Bool) (a:Act) (w:World),cK md ops listed→
   (∀j oj,ops[j]?=some oj→j≠i→listed.getD j true=false→(∀e∈oj.after,Region.binds md e=true→e.on≠i)→oi.apart ops oj=true)→
   i∈Region.ready md ops listed→YieldsIf P ops S' oi v a→(listed.getD s true=false→S w)→
   dW P md ops Q S s fuel (listed.setIfInBounds i true) (a.put oi.dst v) w→dW P md ops Q S s (fuel+1) listed a w:=by
 have same:∀(l:Array Bool),(l.setIfInBounds i true).getD s true=l.getD s true:=fun l=>getD_set_ne true his
 intro fuel
 induction fuel with
 |zero=>
  intro listed a w inv _ hr hy hS H
  have hun:=(mem_ready.1 hr).1
  refine⟨fun h=>(by rw[h]at hr;cases hr),fun j hj=>?_⟩
  by_cases hji:j=i
  ·subst hji;exact hy.wpOp hi (hS' listed w inv hun hS) ⟨fun h=>hS (by rwa [same]at h),H⟩
  ·have:=ready_mono hj hji
   rw[H.1]at this
   cases this
 |succ fuel ih=>
  intro listed a w inv hfree hr hy hS H
  have hun:=(mem_ready.1 hr).1
  refine⟨fun h=>(by rw[h]at hr;cases hr),fun j hj=>?_⟩
  by_cases hji:j=i
  ·subst hji;exact hy.wpOp hi (hS' listed w inv hun hS) ⟨fun h=>hS (by rwa [same]at h),H⟩
  ·have h1:=H.2 j (ready_mono hj hji)
   obtain⟨hjun,oj,hoj,hall⟩:=mem_ready.1 hj
   have hnot:∀e∈oj.after,Region.binds md e=true→e.on≠i:=fun e he hb heq=>by
    have h1:=hall e he hb
    rw[heq,getD_both hun]at h1
    cases h1
   have h2:=wpOp_putIf hoj (hfree j oj hoj hji hjun hnot) (fun cs b=>hsel i oi cs b hi) (fun cs b=>hsel j oj cs b hoj) hQ hy h1
   have hfree':∀k ok,ops[k]?=some ok→k≠i→(listed.setIfInBounds j true).getD k true=false→
     (∀e∈ok.after,Region.binds md e=true→e.on≠i)→oi.apart ops ok=true:=fun k ok hk hki hun hno=>by
    refine hfree k ok hk hki ?_ hno
    by_cases hjk:j=k
    ·subst hjk;exact hjun
    ·rw[getD_set_ne true hjk]at hun;exact hun
   refine wpOp_mono (fun a' w' h3=>?_) h2
   have hS2:(listed.setIfInBounds j true).getD s true=false→S w':=fun h=>h3.2.1 (by rw[Array.setIfInBounds_comm _ _ (Ne.symm hji),same];exact h)
   refine⟨hS2,ih (listed.setIfInBounds j true) a' w' (inv.set hj) hfree' (ready_mono hr (Ne.symm hji)) h3.1 hS2 ?_⟩
   rw[Array.setIfInBounds_comm _ _ hji]
   exact h3.2.2
theorem yH {i:Nat} {oi:Oper} {v:Value} {fuel:Nat} {listed:Array Bool} {a:Act} {w:World} (c:List Nat) (hi0:ops.toList[i]?=some oi) (hs:Region.noSelect ops=true) (hf:Region.free md ops listed i=true)
  (hr:(Region.ready md ops listed).contains i=true) (his:decide (i≠s) && decide (s<ops.size) && mX md ops (i::c) && decide ((i::c).getLast? =some s)=true) (hQ:∀c a w,Q (.panic c) (a.put oi.dst v) w→Q (.panic c) a w) (inv:Shut (cK md ops listed)) (hy:YieldsIf P ops S oi v a) (hS:S w)
  (h:Shut (cK md ops (listed.setIfInBounds i true))→dW P md ops Q S s fuel (listed.setIfInBounds i true) (a.put oi.dst v) w):dW P md ops Q S s (fuel+1) listed a w:=by
 have hi:ops[i]?=some oi:=by simpa using hi0
 simp only[Bool.and_eq_true,decide_eq_true_eq]at his
 have hr':i∈Region.ready md ops listed:=by simpa using hr
 exact qG hi (Region.noSelect_spec hs) his.1.1.1 (fun l w inv hun hS=>hS (uJ inv his.1.2 his.2 his.1.1.2 hun)) hQ fuel listed a w inv.out (Region.free_spec hi hf) hr' hy (fun _=>hS) (h (inv.out.set hr'))
theorem yI {i:Nat} {oi:Oper} {v:Value} {fuel:Nat} {listed:Array Bool} {a:Act} {w:World} (hi0:ops.toList[i]?=some oi) (hs:Region.noSelect ops=true) (hf:Region.free md ops listed i=true)
  (hr:(Region.ready md ops listed).contains i=true) (his:decide (i≠s)=true) (hQ:∀c a w,Q (.panic c) (a.put oi.dst v) w→Q (.panic c) a w) (inv:Shut (cK md ops listed)) (hy:YieldsIf P ops (fun _=>True) oi v a) (hS:listed.getD s true=false→S w)
  (h:Shut (cK md ops (listed.setIfInBounds i true))→dW P md ops Q S s fuel (listed.setIfInBounds i true) (a.put oi.dst v) w):dW P md ops Q S s (fuel+1) listed a w:=by
 have hi:ops[i]?=some oi:=by simpa using hi0
 have hr':i∈Region.ready md ops listed:=by simpa using hr
 exact qG hi (Region.noSelect_spec hs) (by simpa using his) (fun _ _ _ _ _=>trivial) hQ fuel listed a w inv.out (Region.free_spec hi hf) hr' hy hS (h (inv.out.set hr'))
theorem zW {i:Nat} {o:Oper} {fuel:Nat} {listed:Array Bool} {a:Act} {w:World} (ho0:ops.toList[i]?=some o) (hr:Region.ready md ops listed=[i]) (inv:Shut (cK md ops listed))
  (h:∀K':Act→World→Prop,Shut (∀a w,((listed.setIfInBounds i true).getD s true=false→S w)→(Shut (cK md ops (listed.setIfInBounds i true))→dW P md ops Q S s fuel (listed.setIfInBounds i true) a w)→K' a w)→if Region.wanted o (yielded ops a.tmps)=true then Oper.wp P o a w K' Q else K' (a.put o.dst undef) w):
  dW P md ops Q S s (fuel+1) listed a w:=by
 have ho:ops[i]?=some o:=by simpa using ho0
 have hi:i∈Region.ready md ops listed:=by rw[hr];simp
 refine⟨fun h0=>(by rw[h0]at hr;cases hr),fun j hj=>?_⟩
 rw[hr]at hj
 have:j=i:=by simpa using hj
 subst this
 exact wpOp_step ho (fun K hK=>h K (fun a w hS hW=>hK a w ⟨hS,hW (inv.out.set hi)⟩))
theorem yJ {i:Nat} {o:Oper} {fuel:Nat} {listed:Array Bool} {a:Act} {w:World} (ho0:ops.toList[i]?=some o) (hr:Region.ready md ops listed=[i]) (inv:Shut (cK md ops listed)) (hx:(listed.setIfInBounds i true).getD s true=true)
  (h:∀K':Act→World→Prop,Shut (∀a w,(Shut (cK md ops (listed.setIfInBounds i true))→dW P md ops Q S s fuel (listed.setIfInBounds i true) a w)→K' a w)→if Region.wanted o (yielded ops a.tmps)=true then Oper.wp P o a w K' Q else K' (a.put o.dst undef) w):
  dW P md ops Q S s (fuel+1) listed a w:=by
 have ho:ops[i]?=some o:=by simpa using ho0
 have hi:i∈Region.ready md ops listed:=by rw[hr];simp
 refine⟨fun h0=>(by rw[h0]at hr;cases hr),fun j hj=>?_⟩
 rw[hr]at hj
 have:j=i:=by simpa using hj
 subst this
 exact wpOp_step ho (fun K hK=>h K (fun a w hW=>hK a w ⟨fun h=>(by rw[hx]at h;cases h),hW (inv.out.set hi)⟩))
theorem yK {listed:Array Bool} {a:Act} {w:World} (hr:Region.ready md ops listed=[]) (h:Q .normal a w):∀fuel,dW P md ops Q S s fuel listed a w
 |0=>⟨hr,h⟩
 |_+1=>⟨fun _=>h,by rw[hr];simp⟩
theorem dz {id:Nat} {a:Act} {w:World} (S:World→Prop) (s:Nat) (hm:P.follows .mixedOrders =true) (hS:S w.drew)
  (h:S w.drew→Shut (cK .any ops (Array.replicate ops.size false))→dW P .any ops Q S s ops.size (Array.replicate ops.size false) a w.drew):(Code.region id ops true).wp P Q a w:=
 wp_region_any hm (tJ _ _ _ _ (h hS (show cK .any ops (Array.replicate ops.size false)from⟨by simp,fun j oj _ hl=>(by rw[getD_replicate_false]at hl;cases hl)⟩)))
end
section
variable {P:Program} {ops:Array Oper} {Q:Exit→Act→World→Prop} {md:Region.Mode} {S:World→Prop} {s:Nat} {fuel:Nat} {listed l:Array Bool} {a b:Act} {w:World} {oi:Oper} {v:Value}
theorem rP (i:Nat) (hS:S w) (h:Shut (cK md ops l)→dW P md ops Q S s fuel l b w)
  (hi0:ops.toList[i]?=some oi:=by rfl)
  (q0:Region.noSelect ops=true:=by kernel_rfl) (q1:Region.free md ops listed i=true:=by kernel_rfl) (q2:(Region.ready md ops listed).contains i=true:=by kernel_rfl) (q3:decide (i≠s)=true:=by kernel_rfl)
  (q4:Region.wanted oi (yielded ops a.tmps)=true:=by rfl)
  (hy:∀w,True→(execOp a.eval oi).run P w= .ok (.value v) w:=by intro w _;go_simp;try with_reducible rfl)
  (hQ:∀c a w,Q (.panic c) (a.put oi.dst v) w→Q (.panic c) a w:=by exact fun _ _ _ h=>h)
  (hl:listed.setIfInBounds i true=l:=by first | (simp only[aJ,aK,aL];exact rfl) | exact rfl)
  (hb:a.put oi.dst v=b:=by first | (simp only[Act.put,aJ,aK,aL];exact rfl) | exact rfl):Shut (cK md ops listed)→dW P md ops Q S s (fuel+1) listed a w:=
 fun inv=>yI hi0 q0 q1 q2 q3 hQ inv (.inl ⟨q4,hy⟩) (fun _=>hS) (by rw[hl,hb];exact h)
theorem rL (i:Nat) (c:List Nat) (hi0:ops.toList[i]?=some oi) (hS:S w)
  (hy:∀w,S w→(execOp a.eval oi).run P w= .ok (.value v) w)
  (h:Shut (cK md ops l)→dW P md ops Q S s fuel l b w)
  (q0:Region.noSelect ops=true:=by kernel_rfl) (q1:Region.free md ops listed i=true:=by kernel_rfl) (q2:(Region.ready md ops listed).contains i=true:=by kernel_rfl) (q3:decide (i≠s) && decide (s<ops.size) && mX md ops (i::c) && decide ((i::c).getLast? =some s)=true:=by kernel_rfl)
  (q4:Region.wanted oi (yielded ops a.tmps)=true:=by rfl)
  (hQ:∀c a w,Q (.panic c) (a.put oi.dst v) w→Q (.panic c) a w:=by exact fun _ _ _ h=>h)
  (hl:listed.setIfInBounds i true=l:=by first | (simp only[aJ,aK,aL];exact rfl) | exact rfl)
  (hb:a.put oi.dst v=b:=by first | (simp only[Act.put,aJ,aK,aL];exact rfl) | exact rfl):Shut (cK md ops listed)→dW P md ops Q S s (fuel+1) listed a w:=
 fun inv=>yH c hi0 q0 q1 q2 q3 hQ inv (.inl ⟨q4,hy⟩) hS (by rw[hl,hb];exact h)
theorem rT (i:Nat) (inv:Shut (cK md ops listed))
  (h:∀K':Act→World→Prop,Shut (∀a w,(Shut (cK md ops (listed.setIfInBounds i true))→dW P md ops Q S s fuel (listed.setIfInBounds i true) a w)→K' a w)→if Region.wanted oi (yielded ops a.tmps)=true then Oper.wp P oi a w K' Q else K' (a.put oi.dst undef) w)
  (hi0:ops.toList[i]?=some oi:=by rfl) (hr:Region.ready md ops listed=[i]:=by kernel_rfl) (hx:(listed.setIfInBounds i true).getD s true=true:=by kernel_rfl):dW P md ops Q S s (fuel+1) listed a w:=
 yJ hi0 hr inv hx h
theorem rO (i:Nat) (inv:Shut (cK md ops listed))
  (h:∀K':Act→World→Prop,Shut (∀a w,((listed.setIfInBounds i true).getD s true=false→S w)→(Shut (cK md ops (listed.setIfInBounds i true))→dW P md ops Q S s fuel (listed.setIfInBounds i true) a w)→K' a w)→if Region.wanted oi (yielded ops a.tmps)=true then Oper.wp P oi a w K' Q else K' (a.put oi.dst undef) w)
  (hi0:ops.toList[i]?=some oi:=by rfl) (hr:Region.ready md ops listed=[i]:=by kernel_rfl):dW P md ops Q S s (fuel+1) listed a w:=
 zW hi0 hr inv h
theorem rD (h:Q .normal a w) (hr:Region.ready md ops listed=[]:=by kernel_rfl):dW P md ops Q S s fuel listed a w:=
 yK hr h fuel
end
end Go.Proofs.YtifkacnoiocebaaDoor
