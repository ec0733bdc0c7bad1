/- A part of the proof: RegE, StepFire, StepMine. -/
import Derived.Test.YtlhmdcgckocidaaGreatHr10
set_option linter.unusedVariables false
set_option linter.unusedSimpArgs false
set_option maxRecDepth 100000
set_option maxHeartbeats 8000000
namespace Go.Proofs.YtlhmdcgckocidaaGreat
structure dJ (md:Region.Mode) (ops:Array Oper) (listed:Array Bool):Prop where
 size:listed.size=ops.size
 closed:∀j oj,ops[j]?=some oj→listed.getD j false=true→∀e∈oj.after,Region.binds md e=true→listed.getD e.on false=true
def tN (md:Region.Mode) (ops:Array Oper):List Nat→Bool
 |i::j::r=>Region.waitsFor md ops j i && tN md ops (j::r)
 |_=>true
section
variable {P:Program} {ops:Array Oper} {Q:Exit→Act→World→Prop} {md:Region.Mode} {S:World→Prop} {s:Nat}
theorem dJ.set {i:Nat} {listed:Array Bool} (inv:dJ md ops listed) (hi:i∈Region.ready md ops listed):dJ md ops (listed.setIfInBounds i true):=by
 obtain⟨_,oi,hoi,hall⟩:=mem_ready.1 hi
 refine⟨by simp[inv.size],fun j oj hj hl e he hb=>?_⟩
 by_cases hij:i=j
 ·subst hij
  have:oj=oi:=Option.some.inj (hj.symm.trans hoi)
  subst this
  exact getD_set_true (hall e he hb)
 ·rw[getD_set_ne false hij]at hl
  exact getD_set_true (inv.closed j oj hj hl e he hb)
theorem Ei {listed:Array Bool} (inv:dJ md ops listed):∀(c:List Nat) (i s:Nat),tN md ops (i::c)=true→(i::c).getLast? =some s→listed.getD s false=true→listed.getD i false=true
 |[],i,s,_,hl,h=>by simp at hl;rw[hl];exact h
 |j::r,i,s,hc,hl,h=>by
  simp only[tN,Bool.and_eq_true]at hc
  have h1:=Ei inv r j s hc.2 (by simpa using hl) h
  obtain⟨oj,hoj,e,he,hb,hon⟩:=Region.waitsFor_spec hc.1
  have:=inv.closed j oj hoj h1 e he hb
  rwa [hon]at this
theorem yR {listed:Array Bool} (inv:dJ md ops listed) {c:List Nat} {i:Nat} (hc:tN md ops (i::c)=true) (hl:(i::c).getLast? =some s) (hs:s<ops.size) (hi:listed.getD i true=false):listed.getD s true=false:=by
 cases h:listed.getD s false with
 |true=>have:=Ei inv c i s hc hl h;rw[getD_both hi]at this;cases this
 |false=>exact getD_in (by rw[inv.size];exact hs) h
def eP (P:Program) (md:Region.Mode) (ops:Array Oper) (Q:Exit→Act→World→Prop) (S:World→Prop) (s:Nat):Nat→Array Bool→Act→World→Prop
 |0,listed,a,w=>Region.ready md ops listed=[]∧Q .normal a w
 |fuel+1,listed,a,w=>
  (Region.ready md ops listed=[]→Q .normal a w)∧
  ∀i∈Region.ready md ops listed,wpOp P ops Q i (fun a' w'=>((listed.setIfInBounds i true).getD s true=false→S w')∧eP P md ops Q S s fuel (listed.setIfInBounds i true) a' w') a w
theorem Ej:∀(fuel:Nat) (listed:Array Bool) (a:Act) (w:World),eP P md ops Q S s fuel listed a w→wpAny P md ops Q fuel listed a w
 |0,_,_,_,h=>h
 |fuel+1,_,_,_,h=>⟨h.1,fun i hi=>wpOp_mono (fun a' w' h'=>Ej fuel _ a' w' h'.2) (h.2 i hi)⟩
theorem Ba {i:Nat} {oi:Oper} {v:Value} {S':World→Prop} (hi:ops[i]?=some oi) (hsel:∀(j:Nat) (o:Oper) cs b,ops[j]?=some o→o.op≠ .select cs b) (his:i≠s)
  (hS':∀(listed:Array Bool) (w:World),dJ md ops listed→listed.getD i true=false→(listed.getD s true=false→S w)→S' w)
  (hQ:∀c a w,Q (.panic c) (a.put oi.dst v) w→Q (.panic c) a w):
  ∀(fuel:Nat) (listed:Array Bool) (a:Act) (w:World),dJ md ops listed→
   (∀j oj,ops[j]?=some oj→j≠i→listed.getD j true=false→(∀e∈oj.after,Region.binds md e=true→e.on≠i)→oi.apart ops oj=true)→
   i∈Region.ready md ops listed→YieldsIf P ops S' oi v a→(listed.getD s true=false→S w)→
   eP P md ops Q S s fuel (listed.setIfInBounds i true) (a.put oi.dst v) w→eP P md ops Q S s (fuel+1) listed a w:=by
 have same:∀(l:Array Bool),(l.setIfInBounds i true).getD s true=l.getD s true:=fun l=>getD_set_ne true his
 intro fuel
 induction fuel with
 |zero=>
  intro listed a w inv _ hr hy hS H
  have hun:=(mem_ready.1 hr).1
  refine⟨fun h=>(by rw[h]at hr;cases hr),fun j hj=>?_⟩
  by_cases hji:j=i
  ·subst hji;exact hy.wpOp hi (hS' listed w inv hun hS) ⟨fun h=>hS (by rwa [same]at h),H⟩
  ·have:=ready_mono hj hji
   rw[H.1]at this
   cases this
 |succ fuel ih=>
  intro listed a w inv hfree hr hy hS H
  have hun:=(mem_ready.1 hr).1
  refine⟨fun h=>(by rw[h]at hr;cases hr),fun j hj=>?_⟩
  by_cases hji:j=i
  ·subst hji;exact hy.wpOp hi (hS' listed w inv hun hS) ⟨fun h=>hS (by rwa [same]at h),H⟩
  ·have h1:=H.2 j (ready_mono hj hji)
   obtain⟨hjun,oj,hoj,hall⟩:=mem_ready.1 hj
   have hnot:∀e∈oj.after,Region.binds md e=true→e.on≠i:=fun e he hb heq=>by
    have h1:=hall e he hb
    rw[heq,getD_both hun]at h1
    cases h1
   have h2:=wpOp_putIf hoj (hfree j oj hoj hji hjun hnot) (fun cs b=>hsel i oi cs b hi) (fun cs b=>hsel j oj cs b hoj) hQ hy h1
   have hfree':∀k ok,ops[k]?=some ok→k≠i→(listed.setIfInBounds j true).getD k true=false→
     (∀e∈ok.after,Region.binds md e=true→e.on≠i)→oi.apart ops ok=true:=fun k ok hk hki hun hno=>by
    refine hfree k ok hk hki ?_ hno
    by_cases hjk:j=k
    ·subst hjk;exact hjun
    ·rw[getD_set_ne true hjk]at hun;exact hun
   refine wpOp_mono (fun a' w' h3=>?_) h2
   have hS2:(listed.setIfInBounds j true).getD s true=false→S w':=fun h=>h3.2.1 (by rw[Array.setIfInBounds_comm _ _ (Ne.symm hji),same];exact h)
   refine⟨hS2,ih (listed.setIfInBounds j true) a' w' (inv.set hj) hfree' (ready_mono hr (Ne.symm hji)) h3.1 hS2 ?_⟩
   rw[Array.setIfInBounds_comm _ _ hji]
   exact h3.2.2
theorem uH {i:Nat} {oi:Oper} {v:Value} {fuel:Nat} {listed:Array Bool} {a:Act} {w:World} (c:List Nat) (hi0:ops.toList[i]?=some oi) (hs:Region.noSelect ops=true) (hf:Region.free md ops listed i=true)
  (hr:(Region.ready md ops listed).contains i=true) (his:decide (i≠s) && decide (s<ops.size) && tN md ops (i::c) && decide ((i::c).getLast? =some s)=true) (hQ:∀c a w,Q (.panic c) (a.put oi.dst v) w→Q (.panic c) a w) (inv:Shut (dJ md ops listed)) (hy:YieldsIf P ops S oi v a) (hS:S w)
  (h:Shut (dJ md ops (listed.setIfInBounds i true))→eP P md ops Q S s fuel (listed.setIfInBounds i true) (a.put oi.dst v) w):eP P md ops Q S s (fuel+1) listed a w:=by
 have hi:ops[i]?=some oi:=by simpa using hi0
 simp only[Bool.and_eq_true,decide_eq_true_eq]at his
 have hr':i∈Region.ready md ops listed:=by simpa using hr
 exact Ba hi (Region.noSelect_spec hs) his.1.1.1 (fun l w inv hun hS=>hS (yR inv his.1.2 his.2 his.1.1.2 hun)) hQ fuel listed a w inv.out (Region.free_spec hi hf) hr' hy (fun _=>hS) (h (inv.out.set hr'))
theorem nR {i:Nat} {oi:Oper} {v:Value} {fuel:Nat} {listed:Array Bool} {a:Act} {w:World} (hi0:ops.toList[i]?=some oi) (hs:Region.noSelect ops=true) (hf:Region.free md ops listed i=true)
  (hr:(Region.ready md ops listed).contains i=true) (his:decide (i≠s)=true) (hQ:∀c a w,Q (.panic c) (a.put oi.dst v) w→Q (.panic c) a w) (inv:Shut (dJ md ops listed)) (hy:YieldsIf P ops (fun _=>True) oi v a) (hS:listed.getD s true=false→S w)
  (h:Shut (dJ md ops (listed.setIfInBounds i true))→eP P md ops Q S s fuel (listed.setIfInBounds i true) (a.put oi.dst v) w):eP P md ops Q S s (fuel+1) listed a w:=by
 have hi:ops[i]?=some oi:=by simpa using hi0
 have hr':i∈Region.ready md ops listed:=by simpa using hr
 exact Ba hi (Region.noSelect_spec hs) (by simpa using his) (fun _ _ _ _ _=>trivial) hQ fuel listed a w inv.out (Region.free_spec hi hf) hr' hy hS (h (inv.out.set hr'))
theorem OP {i:Nat} {o:Oper} {fuel:Nat} {listed:Array Bool} {a:Act} {w:World} (ho0:ops.toList[i]?=some o) (hr:Region.ready md ops listed=[i]) (inv:Shut (dJ md ops listed))
  (h:∀K':Act→World→Prop,Shut (∀a w,((listed.setIfInBounds i true).getD s true=false→S w)→(Shut (dJ md ops (listed.setIfInBounds i true))→eP P md ops Q S s fuel (listed.setIfInBounds i true) a w)→K' a w)→if Region.wanted o (yielded ops a.tmps)=true then Oper.wp P o a w K' Q else K' (a.put o.dst undef) w):
  eP P md ops Q S s (fuel+1) listed a w:=by
 have ho:ops[i]?=some o:=by simpa using ho0
 have hi:i∈Region.ready md ops listed:=by rw[hr];simp
 refine⟨fun h0=>(by rw[h0]at hr;cases hr),fun j hj=>?_⟩
 rw[hr]at hj
 have:j=i:=by simpa using hj
 subst this
 exact wpOp_step ho (fun K hK=>h K (fun a w hS hW=>hK a w ⟨hS,hW (inv.out.set hi)⟩))
theorem Ms {i:Nat} {o:Oper} {fuel:Nat} {listed:Array Bool} {a:Act} {w:World} (ho0:ops.toList[i]?=some o) (hr:Region.ready md ops listed=[i]) (inv:Shut (dJ md ops listed)) (hx:(listed.setIfInBounds i true).getD s true=true)
  (h:∀K':Act→World→Prop,Shut (∀a w,(Shut (dJ md ops (listed.setIfInBounds i true))→eP P md ops Q S s fuel (listed.setIfInBounds i true) a w)→K' a w)→if Region.wanted o (yielded ops a.tmps)=true then Oper.wp P o a w K' Q else K' (a.put o.dst undef) w):
  eP P md ops Q S s (fuel+1) listed a w:=by
 have ho:ops[i]?=some o:=by simpa using ho0
 have hi:i∈Region.ready md ops listed:=by rw[hr];simp
 refine⟨fun h0=>(by rw[h0]at hr;cases hr),fun j hj=>?_⟩
 rw[hr]at hj
 have:j=i:=by simpa using hj
 subst this
 exact wpOp_step ho (fun K hK=>h K (fun a w hW=>hK a w ⟨fun h=>(by rw[hx]at h;cases h),hW (inv.out.set hi)⟩))
theorem Mt {listed:Array Bool} {a:Act} {w:World} (hr:Region.ready md ops listed=[]) (h:Q .normal a w):∀fuel,eP P md ops Q S s fuel listed a w
 |0=>⟨hr,h⟩
 |_+1=>⟨fun _=>h,by rw[hr];simp⟩
theorem aI {id:Nat} {a:Act} {w:World} (S:World→Prop) (s:Nat) (hm:P.follows .mixedOrders =true) (hS:S w.drew)
  (h:S w.drew→Shut (dJ .any ops (Array.replicate ops.size false))→eP P .any ops Q S s ops.size (Array.replicate ops.size false) a w.drew):(Code.region id ops true).wp P Q a w:=
 wp_region_any hm (Ej _ _ _ _ (h hS (show dJ .any ops (Array.replicate ops.size false)from⟨by simp,fun j oj _ hl=>(by rw[getD_replicate_false]at hl;cases hl)⟩)))
end
section
variable {P:Program} {ops:Array Oper} {Q:Exit→Act→World→Prop} {md:Region.Mode} {S:World→Prop} {s:Nat} {fuel:Nat} {listed l:Array Bool} {a b:Act} {w:World} {oi:Oper} {v:Value}
theorem rP (i:Nat) (hS:S w) (h:Shut (dJ md ops l)→eP P md ops Q S s fuel l b w)
  (hi0:ops.toList[i]?=some oi:=by rfl)
  (q0:Region.noSelect ops=true:=by kernel_rfl) (q1:Region.free md ops listed i=true:=by kernel_rfl) (q2:(Region.ready md ops listed).contains i=true:=by kernel_rfl) (q3:decide (i≠s)=true:=by kernel_rfl)
  (q4:Region.wanted oi (yielded ops a.tmps)=true:=by rfl)
  (hy:∀w,True→(execOp a.eval oi).run P w= .ok (.value v) w:=by intro w _;go_simp;try with_reducible rfl)
  (hQ:∀c a w,Q (.panic c) (a.put oi.dst v) w→Q (.panic c) a w:=by exact fun _ _ _ h=>h)
  (hl:listed.setIfInBounds i true=l:=by first | (simp only[aD,aF,aG];exact rfl) | exact rfl)
  (hb:a.put oi.dst v=b:=by first | (simp only[Act.put,aD,aF,aG];exact rfl) | exact rfl):Shut (dJ md ops listed)→eP P md ops Q S s (fuel+1) listed a w:=
 fun inv=>nR hi0 q0 q1 q2 q3 hQ inv (.inl ⟨q4,hy⟩) (fun _=>hS) (by rw[hl,hb];exact h)
theorem rK (i:Nat) (hS:S w) (h:Shut (dJ md ops l)→eP P md ops Q S s fuel l b w)
  (hi0:ops.toList[i]?=some oi:=by rfl)
  (q0:Region.noSelect ops=true:=by kernel_rfl) (q1:Region.free md ops listed i=true:=by kernel_rfl) (q2:(Region.ready md ops listed).contains i=true:=by kernel_rfl) (q3:decide (i≠s)=true:=by kernel_rfl)
  (q4:Region.wanted oi (yielded ops a.tmps)=false:=by rfl)
  (hQ:∀c a w,Q (.panic c) (a.put oi.dst undef) w→Q (.panic c) a w:=by exact fun _ _ _ h=>h)
  (hl:listed.setIfInBounds i true=l:=by first | (simp only[aD,aF,aG];exact rfl) | exact rfl)
  (hb:a.put oi.dst undef=b:=by first | (simp only[Act.put,aD,aF,aG];exact rfl) | exact rfl):Shut (dJ md ops listed)→eP P md ops Q S s (fuel+1) listed a w:=
 fun inv=>nR hi0 q0 q1 q2 q3 hQ inv (.inr ⟨q4,rfl⟩) (fun _=>hS) (by rw[hl,hb];exact h)
theorem rL (i:Nat) (c:List Nat) (hi0:ops.toList[i]?=some oi) (hS:S w)
  (hy:∀w,S w→(execOp a.eval oi).run P w= .ok (.value v) w)
  (h:Shut (dJ md ops l)→eP P md ops Q S s fuel l b w)
  (q0:Region.noSelect ops=true:=by kernel_rfl) (q1:Region.free md ops listed i=true:=by kernel_rfl) (q2:(Region.ready md ops listed).contains i=true:=by kernel_rfl) (q3:decide (i≠s) && decide (s<ops.size) && tN md ops (i::c) && decide ((i::c).getLast? =some s)=true:=by kernel_rfl)
  (q4:Region.wanted oi (yielded ops a.tmps)=true:=by rfl)
  (hQ:∀c a w,Q (.panic c) (a.put oi.dst v) w→Q (.panic c) a w:=by exact fun _ _ _ h=>h)
  (hl:listed.setIfInBounds i true=l:=by first | (simp only[aD,aF,aG];exact rfl) | exact rfl)
  (hb:a.put oi.dst v=b:=by first | (simp only[Act.put,aD,aF,aG];exact rfl) | exact rfl):Shut (dJ md ops listed)→eP P md ops Q S s (fuel+1) listed a w:=
 fun inv=>uH c hi0 q0 q1 q2 q3 hQ inv (.inl ⟨q4,hy⟩) hS (by rw[hl,hb];exact h)
theorem rT (i:Nat) (inv:Shut (dJ md ops listed))
  (h:∀K':Act→World→Prop,Shut (∀a w,(Shut (dJ md ops (listed.setIfInBounds i true))→eP P md ops Q S s fuel (listed.setIfInBounds i true) a w)→K' a w)→if Region.wanted oi (yielded ops a.tmps)=true then Oper.wp P oi a w K' Q else K' (a.put oi.dst undef) w)
  (hi0:ops.toList[i]?=some oi:=by rfl) (hr:Region.ready md ops listed=[i]:=by kernel_rfl) (hx:(listed.setIfInBounds i true).getD s true=true:=by kernel_rfl):eP P md ops Q S s (fuel+1) listed a w:=
 Ms hi0 hr inv hx h
theorem rO (i:Nat) (inv:Shut (dJ md ops listed))
  (h:∀K':Act→World→Prop,Shut (∀a w,((listed.setIfInBounds i true).getD s true=false→S w)→(Shut (dJ md ops (listed.setIfInBounds i true))→eP P md ops Q S s fuel (listed.setIfInBounds i true) a w)→K' a w)→if Region.wanted oi (yielded ops a.tmps)=true then Oper.wp P oi a w K' Q else K' (a.put oi.dst undef) w)
  (hi0:ops.toList[i]?=some oi:=by rfl) (hr:Region.ready md ops listed=[i]:=by kernel_rfl):eP P md ops Q S s (fuel+1) listed a w:=
 OP hi0 hr inv h
theorem rD (h:Q .normal a w) (hr:Region.ready md ops listed=[]:=by kernel_rfl):eP P md ops Q S s fuel listed a w:=
 Mt hr h fuel
end
open Go.Maps Go.RowKit
theorem Yy (g:Nat) (n:aH) (f o b:Nat) (M:aK) (k:Nat) (i:Nat) (r:aA) (p:P4) (W:World) (hM:aM W g n f o b M k) (hr:n.ds[i]?=some r) (hn:n.dn≤10) (hp:p.ok) (hrn:r.rn≤9223372036854775807):
  Calls Tryz.prog 163 #[.pointer (some ⟨g,0,none⟩),.agg #[.int .i64 (i:Int),.int .i64 0],.agg #[.int .i64 p.src,.int .i64 p.dst,.int .i64 p.ah,.int .i64 p.aj]] W fun e W'=>
   ∃v,e= .returned (.tuple #[bq 1 p v,.bool (kM r.rs p)])∧jG W.heap.size W' g n f o b v (.flow ((i:Int),p))∧Below W.heap.size W W':=by
 have bZ:=hide (fun(w':World) (hb:Below W.heap.size W w')=>hM.below hb)
 have hin:i<n.dn:=by rw[← hM.net.eZ];exact(List.getElem?_eq_some_iff.1 hr).1
 have hgl:=hM.WE
 clear hM
 obtain⟨dA,dn,dc,ds,lA,ln,lc,ls⟩:=n
 simp only at hr hn hin
 obtain⟨db,od,rfl,hdb,_⟩:=(bZ.out _ (Below.refl _ _)).net.ds.2 (by show 0<dn;omega)
 have HRR:=hide hr
 clear hr
 have i1:(0:Int)≤(i:Int):=by omega
 have i2:(i:Int)<(dn:Int):=by omega
 have i3:(dn:Int)≤10:=by omega
 go_enter Tryz.func163,Tryz.ntmps163
 go_wp2
 generalize hG:World.alloc (World.alloc (World.alloc (World.alloc W _) _) _) _=W1
 have HW1:=hide (show W1.heap.size=W.heap.size+4 from by rw[← hG];simp)
 have HQ:=hide (fun(B:Nat) (w':World) (hb:Below B W1 w')=>gU (B:=B) [(#[.pointer (some ⟨g,0,none⟩)],148),(#[.int .i64 (i:Int),.int .i64 0],27),(#[.int .i64 p.src,.int .i64 p.dst,.int .i64 p.ah,.int .i64 p.aj],29),(#[.int .i64 0,.int .i64 0,.int .i64 0,.int .i64 0,.int .i64 0,.nilFunc],217)] W (W':=w') (by rw[← hG]at hb;exact hb))
 have HL:=hide (fun(w':World) (hb:Below W.heap.size W w')=>uS r.rs r.rA r.rn r.rc p w' hrn hp ((bZ.out _ hb).net.gy r (List.mem_of_getElem? HRR.out)).rs)
 clear hG
 have gB:=hide (fun(w':World) (hb:Below (W.heap.size+3) W1 w')=>show Below W.heap.size W w' from(HQ.out _ w' hb).2 (by omega))
 have HF:=hide (fun(w':World) (hb:Below (W.heap.size+3) W1 w')=>show
   (w'.cell? ⟨W.heap.size,0,none⟩=some (.pointer (some ⟨g,0,none⟩))∧w'.cell? ⟨W.heap.size+1,0,none⟩=some (.int .i64 (i:Int))∧
   (w'.cell? ⟨W.heap.size+1+1,0,none⟩=some (.int .i64 p.src)∧w'.cell? ⟨W.heap.size+1+1,1,none⟩=some (.int .i64 p.dst)∧w'.cell? ⟨W.heap.size+1+1,2,none⟩=some (.int .i64 p.ah)∧w'.cell? ⟨W.heap.size+1+1,3,none⟩=some (.int .i64 p.aj))∧
   w'.cell? ⟨g,0,none⟩=some (.slice (some ⟨db,od,none⟩) dn dc)∧w'.cell? ⟨db,od+i*7+5,none⟩=some (.slice r.rA r.rn r.rc))from by
  have x0:=(HQ.out _ w' hb).1 0 _ _ rfl (by omega)
  have x1:=(HQ.out _ w' hb).1 1 _ _ rfl (by omega)
  have x2:=(HQ.out _ w' hb).1 2 _ _ rfl (by omega)
  have hm:=bZ.out _ (gB.out w' hb)
  exact⟨x0.1 0 _ rfl,x1.1 0 _ rfl,⟨x2.1 0 _ rfl,x2.1 1 _ rfl,x2.1 2 _ rfl,x2.1 3 _ rfl⟩,hm.c0,(dF hm.net.ds HRR.out).2.2.2.2.2.2.1⟩)
 have q3:=HQ.out (W.heap.size+4) W1 (Below.refl _ _)
 have HX:=hide (fun(w':World) (hb:Below (W.heap.size+4) W1 w')=>show aB w' (W.heap.size+1+1+1) #[.int .i64 0,.int .i64 0,.int .i64 0,.int .i64 0,.int .i64 0,.nilFunc]from(HQ.out _ w' hb).1 3 _ _ rfl (by omega))
 clear q3
 refine aI (fun w'=>Below (W.heap.size+4) W1 w') 15 (by kernel_rfl) ((Below.refl _ _).drew) (fun hS=>?_)
 refine rL 0 [15] rfl hS (by intro w hSw;obtain⟨s0,s1,⟨s2,s3,s4,s5⟩,s6,s7⟩:=HF.out _ (hSw.mono (by omega));go_simp;try with_reducible rfl) ?_
 refine rP 1 hS ?_
 refine rP 2 hS ?_
 refine rL 3 [4,5,6,7,10,11,12,14,15] rfl hS (by intro w hSw;obtain⟨s0,s1,⟨s2,s3,s4,s5⟩,s6,s7⟩:=HF.out _ (hSw.mono (by omega));go_simp;try with_reducible rfl) ?_
 refine rP 4 hS ?_
 refine rP 5 hS ?_
 refine rP 6 hS ?_
 refine rL 7 [10,11,12,14,15] rfl hS (by intro w hSw;obtain⟨s0,s1,⟨s2,s3,s4,s5⟩,s6,s7⟩:=HF.out _ (hSw.mono (by omega));go_simp;try with_reducible rfl) ?_
 refine rP 8 hS ?_
 refine rL 9 [10,11,12,14,15] rfl hS (by intro w hSw;obtain⟨s0,s1,⟨s2,s3,s4,s5⟩,s6,s7⟩:=HF.out _ (hSw.mono (by omega));go_simp;try with_reducible rfl) ?_
 refine rP 10 hS ?_
 refine rP 11 hS ?_
 refine rL 12 [14,15] rfl hS (by intro w hSw;obtain⟨s0,s1,⟨s2,s3,s4,s5⟩,s6,s7⟩:=HF.out _ (hSw.mono (by omega));go_simp;try with_reducible rfl) ?_
 refine rL 13 [14,15] rfl hS (by intro w hSw;obtain⟨s0,s1,⟨s2,s3,s4,s5⟩,s6,s7⟩:=HF.out _ (hSw.mono (by omega));go_simp;try with_reducible rfl) ?_
 intro inv
 refine rO 14 inv fun K hK=>?_
 go_simp
 go_at_call 159
 refine(HL.out _ (gB.out _ (hS.mono (by omega)))).mono ?_
 rintro e w2 ⟨rfl,hb⟩
 have hS2:Below (W.heap.size+4) W1 w2:=hS.trans (hb.mono (by have:=hS.size;have:=HW1.out;omega))
 go_wp2_with fail
 refine hK.out _ _ (fun _=>hS2) ?_
 clear hK K hS inv
 intro inv
 try simp only[Act.put,aD,aF,aG]
 have HB2:=hide (show Below W.heap.size W w2 from gB.out _ (hS2.mono (by omega)))
 have bO:=hide (HX.out _ hS2)
 have vO:=hide (hS2.mono (B':=W.heap.size+3) (by omega))
 clear hS2 hb
 refine rT 15 inv fun K hK=>?_
 rw[if_pos (by rfl)]
 refine wp_store_mid _ _ _ rfl _ _ #[.int .i64 1,.int .i64 p.src,.int .i64 p.dst,.int .i64 p.ah,.int .i64 p.aj,.func (.func 190) #[] #[.pointer (some ⟨W.heap.size,0,none⟩),.pointer (some ⟨W.heap.size+1,0,none⟩),.pointer (some ⟨W.heap.size+1+1,0,none⟩)]] rfl rfl (bO.out.there (Nat.le_refl _)) bX (by first | exact aA.dO _ | simp[Value.oneCell']) ?_
 refine hK.out _ _ ?_
 clear hK K inv
 intro inv
 try simp only[Act.put,aD,aF,aG]
 refine rT 16 inv fun K hK=>?_
 go_simp
 refine hK.out _ _ ?_
 clear hK K inv
 intro inv
 try simp only[Act.put,aD,aF,aG]
 refine rD ?_
 clear inv
 go_wp2
 have hx3:=bO.out.all [.int .i64 1,.int .i64 p.src,.int .i64 p.dst,.int .i64 p.ah,.int .i64 p.aj,.func (.func 190) #[] #[.pointer (some ⟨W.heap.size,0,none⟩),.pointer (some ⟨W.heap.size+1,0,none⟩),.pointer (some ⟨W.heap.size+1+1,0,none⟩)]] rfl
 have hb3:=below_setCells (B:=W.heap.size+3) (N:=W.heap.size+1+1+1) (Nat.le_refl _) [.int .i64 1,.int .i64 p.src,.int .i64 p.dst,.int .i64 p.ah,.int .i64 p.aj,.func (.func 190) #[] #[.pointer (some ⟨W.heap.size,0,none⟩),.pointer (some ⟨W.heap.size+1,0,none⟩),.pointer (some ⟨W.heap.size+1+1,0,none⟩)]] 0 w2 ((vO.out))
 generalize World.setCells w2 _ _ _=w3 at*
 obtain⟨z0,z1,z2,z3,z4,z5⟩:w3.cell? ⟨W.heap.size+1+1+1,0,none⟩=some (.int .i64 1)∧w3.cell? ⟨W.heap.size+1+1+1,1,none⟩=some (.int .i64 p.src)∧w3.cell? ⟨W.heap.size+1+1+1,2,none⟩=some (.int .i64 p.dst)∧w3.cell? ⟨W.heap.size+1+1+1,3,none⟩=some (.int .i64 p.ah)∧w3.cell? ⟨W.heap.size+1+1+1,4,none⟩=some (.int .i64 p.aj)∧w3.cell? ⟨W.heap.size+1+1+1,5,none⟩=some (.func (.func 190) #[] #[.pointer (some ⟨W.heap.size,0,none⟩),.pointer (some ⟨W.heap.size+1,0,none⟩),.pointer (some ⟨W.heap.size+1+1,0,none⟩)]):=
  ⟨hx3.1 0 _ rfl,hx3.1 1 _ rfl,hx3.1 2 _ rfl,hx3.1 3 _ rfl,hx3.1 4 _ rfl,hx3.1 5 _ rfl⟩
 refine bodyPost_ret (v:=.tuple #[bq 1 p (.func (.func 190) #[] #[.pointer (some ⟨W.heap.size,0,none⟩),.pointer (some ⟨W.heap.size+1,0,none⟩),.pointer (some ⟨W.heap.size+1+1,0,none⟩)]),.bool (kM r.rs p)]) (by simp[results,Tryz.f163,go_sem,z0,z1,z2,z3,z4,z5,bq]) rfl ⟨_,rfl,.inr ⟨_,_,rfl,Jr,fun M' k' w' hb hM' hk'=>?_⟩,gB.out _ hb3⟩
 have h3:=hb3.size
 have h1:=HW1.out
 have q0:=((HQ.out _ w3 hb3).1 0 _ _ rfl (by omega)).jS hb (by omega) (by omega)
 have q1:=((HQ.out _ w3 hb3).1 1 _ _ rfl (by omega)).jS hb (by omega) (by omega)
 have q2:=((HQ.out _ w3 hb3).1 2 _ _ rfl (by omega)).jS hb (by omega) (by omega)
 exact OL g _ f o b M' k' W.heap.size (W.heap.size+1) (W.heap.size+1+1) (i:Int) 0 p w' hM' hk' q0 q1 q2 (by unfold ay;omega) hp
theorem UD (g:Nat) (n:aH) (f o b:Nat) (M:aK) (k:Nat) (i y:Int) (p:P4) (W:World) (hM:aM W g n f o b M k) (hi:ay i) (hy:y≠0) (hp:p.ok):
  Calls Tryz.prog 163 #[.pointer (some ⟨g,0,none⟩),.agg #[.int .i64 i,.int .i64 y],.agg #[.int .i64 p.src,.int .i64 p.dst,.int .i64 p.ah,.int .i64 p.aj]] W fun e W'=>
   e= .returned (.tuple #[bq 0 p .nilFunc,.bool (M.F (i,qy p))])∧Below W.heap.size W W':=by
 have bZ:=hide (fun(w':World) (hb:Below W.heap.size W w')=>hM.below hb)
 have dV:=hide (fun(w':World) (hb:Below W.heap.size W w')=>show(Instr.lookup 211 (.map (some f)) (.agg #[.int .i64 i,.int .i64 p.dst,.int .i64 p.src,.int .i64 p.aj,.int .i64 p.ah]) false).run Tryz.prog w'= .ok (.bool (M.F (i,qy p))) w' from
  (hM.below hb).acd (i,qy p) ⟨hi,⟨hp.2.1,hp.1,hp.2.2.2,hp.2.2.1⟩⟩)
 have d0:(y ==0)=false:=by simpa using hy
 clear hM hy
 have Jw:=hide (fun w=>GJ p w)
 go_enter Tryz.func163,Tryz.ntmps163
 go_wp2
 clear d0
 generalize hG:World.alloc (World.alloc (World.alloc (World.alloc W _) _) _) _=W1
 have HW1:=hide (show W1.heap.size=W.heap.size+4 from by rw[← hG];simp)
 have HQ:=hide (fun(B:Nat) (w':World) (hb:Below B W1 w')=>gU (B:=B) [(#[.pointer (some ⟨g,0,none⟩)],148),(#[.int .i64 i,.int .i64 y],27),(#[.int .i64 p.src,.int .i64 p.dst,.int .i64 p.ah,.int .i64 p.aj],29),(#[.int .i64 0,.int .i64 0,.int .i64 0,.int .i64 0,.int .i64 0,.nilFunc],217)] W (W':=w') (by rw[← hG]at hb;exact hb))
 clear hG
 have gB:=hide (fun(w':World) (hb:Below (W.heap.size+3) W1 w')=>show Below W.heap.size W w' from(HQ.out _ w' hb).2 (by omega))
 have HF:=hide (fun(w':World) (hb:Below (W.heap.size+3) W1 w')=>show
   (w'.cell? ⟨W.heap.size,0,none⟩=some (.pointer (some ⟨g,0,none⟩))∧w'.cell? ⟨W.heap.size+1,0,none⟩=some (.int .i64 i)∧
   (w'.cell? ⟨W.heap.size+1+1,0,none⟩=some (.int .i64 p.src)∧w'.cell? ⟨W.heap.size+1+1,1,none⟩=some (.int .i64 p.dst)∧w'.cell? ⟨W.heap.size+1+1,2,none⟩=some (.int .i64 p.ah)∧w'.cell? ⟨W.heap.size+1+1,3,none⟩=some (.int .i64 p.aj))∧
   w'.cell? ⟨g,2,none⟩=some (.map (some f)))from by
  have x0:=(HQ.out _ w' hb).1 0 _ _ rfl (by omega)
  have x1:=(HQ.out _ w' hb).1 1 _ _ rfl (by omega)
  have x2:=(HQ.out _ w' hb).1 2 _ _ rfl (by omega)
  have hm:=bZ.out _ (gB.out w' hb)
  exact⟨x0.1 0 _ rfl,x1.1 0 _ rfl,⟨x2.1 0 _ rfl,x2.1 1 _ rfl,x2.1 2 _ rfl,x2.1 3 _ rfl⟩,hm.c2⟩)
 have HX:=hide (fun(w':World) (hb:Below (W.heap.size+4) W1 w')=>show aB w' (W.heap.size+1+1+1) #[.int .i64 0,.int .i64 0,.int .i64 0,.int .i64 0,.int .i64 0,.nilFunc]from(HQ.out _ w' hb).1 3 _ _ rfl (by omega))
 refine aI (fun w'=>Below (W.heap.size+3) W1 w') 13 (by kernel_rfl) ((Below.refl _ _).drew) (fun hS=>?_)
 refine rL 0 [13] rfl hS (by intro w hSw;obtain⟨s0,s1,⟨s2,s3,s4,s5⟩,s6⟩:=HF.out _ hSw;go_simp;try with_reducible rfl) ?_
 refine rP 1 hS ?_
 refine rL 2 [13] rfl hS (by intro w hSw;obtain⟨s0,s1,⟨s2,s3,s4,s5⟩,s6⟩:=HF.out _ hSw;go_simp;try with_reducible rfl) ?_
 refine rP 3 hS ?_
 refine rP 4 hS ?_
 refine rL 5 [13] rfl hS (by intro w hSw;obtain⟨s0,s1,⟨s2,s3,s4,s5⟩,s6⟩:=HF.out _ hSw;go_simp;try with_reducible rfl) ?_
 refine rP 6 hS ?_
 refine rL 7 [13] rfl hS (by intro w hSw;obtain⟨s0,s1,⟨s2,s3,s4,s5⟩,s6⟩:=HF.out _ hSw;go_simp;try with_reducible rfl) ?_
 refine rL 8 [13] rfl hS (by intro w hSw;obtain⟨s0,s1,⟨s2,s3,s4,s5⟩,s6⟩:=HF.out _ hSw;go_simp;try with_reducible rfl) ?_
 intro inv
 refine rO 9 inv fun K hK=>?_
 go_simp
 go_at_call 48
 refine(Jw.out _).mono ?_
 rintro e w2 ⟨rfl,hb⟩
 have hb4:Below (W.heap.size+4) W1 w2:=((Below.refl _ _).drew).trans (hb.mono (by have:=HW1.out;simp;omega))
 go_wp2_with fail
 refine hK.out _ _ (fun _=>(hb4.mono (by omega))) ?_
 clear hK K hS inv
 intro inv
 try simp only[Act.put,aD,aF,aG]
 have hS:=hb4.mono (B':=W.heap.size+3) (by omega)
 have bO:=hide (HX.out _ hb4)
 have vO:=hide hS
 clear hb hb4
 revert inv
 refine rP 10 hS ?_
 refine rL 11 [13] rfl hS (by intro w hSw;obtain⟨s0,s1,⟨s2,s3,s4,s5⟩,s6⟩:=HF.out _ hSw;have s8:=dV.out _ (gB.out _ hSw);go_simp;try with_reducible rfl) ?_
 intro inv
 refine rO 12 inv fun K hK=>?_
 rw[if_pos (by rfl)]
 refine wp_store_mid _ _ _ rfl _ _ #[.int .i64 0,.int .i64 p.src,.int .i64 p.dst,.int .i64 p.ah,.int .i64 p.aj,.nilFunc] rfl rfl (bO.out.there (Nat.le_refl _)) bX (by first | exact aA.dO _ | simp[Value.oneCell']) ?_
 refine hK.out _ _ (fun _=>(below_setCells (Nat.le_refl _) _ _ _ vO.out)) ?_
 clear hK K inv
 intro inv
 try simp only[Act.put,aD,aF,aG]
 clear hS
 refine rT 13 inv fun K hK=>?_
 go_simp
 refine hK.out _ _ ?_
 clear hK K inv
 intro inv
 try simp only[Act.put,aD,aF,aG]
 refine rD ?_
 clear inv
 go_wp2
 have hx3:=bO.out.all [.int .i64 0,.int .i64 p.src,.int .i64 p.dst,.int .i64 p.ah,.int .i64 p.aj,.nilFunc] rfl
 have hb3:=below_setCells (B:=W.heap.size+3) (N:=W.heap.size+1+1+1) (Nat.le_refl _) [.int .i64 0,.int .i64 p.src,.int .i64 p.dst,.int .i64 p.ah,.int .i64 p.aj,.nilFunc] 0 w2 vO.out
 generalize World.setCells w2 _ _ _=w3 at*
 obtain⟨z0,z1,z2,z3,z4,z5⟩:w3.cell? ⟨W.heap.size+1+1+1,0,none⟩=some (.int .i64 0)∧w3.cell? ⟨W.heap.size+1+1+1,1,none⟩=some (.int .i64 p.src)∧w3.cell? ⟨W.heap.size+1+1+1,2,none⟩=some (.int .i64 p.dst)∧w3.cell? ⟨W.heap.size+1+1+1,3,none⟩=some (.int .i64 p.ah)∧w3.cell? ⟨W.heap.size+1+1+1,4,none⟩=some (.int .i64 p.aj)∧w3.cell? ⟨W.heap.size+1+1+1,5,none⟩=some .nilFunc :=
  ⟨hx3.1 0 _ rfl,hx3.1 1 _ rfl,hx3.1 2 _ rfl,hx3.1 3 _ rfl,hx3.1 4 _ rfl,hx3.1 5 _ rfl⟩
 exact bodyPost_ret (v:=.tuple #[bq 0 p .nilFunc,.bool (M.F (i,qy p))]) (by simp[results,Tryz.f163,go_sem,z0,z1,z2,z3,z4,z5,bq]) rfl ⟨rfl,gB.out _ hb3⟩
theorem Zw {a b:Int} (h:a=b):Ending.returned (.int .i64 a)=Ending.returned (.int .i64 b):=by rw[h]
theorem OQ (M:aK) (i:Int) (o:Int×Int) {k:Nat} (hk:k<8):jJ M i o (8 - k) k=if M.O (i,(k:Int))=some o then(k:Int)else jJ M i o (8 - (k+1)) (k+1):=by
 obtain⟨m,hm⟩:∃m,8 - k=m+1:=⟨7 - k,by omega⟩
 rw[hm,show 8 - (k+1)=m by omega]
 rfl
theorem Nu (M:aK) (i:Int) (o:Int×Int):∀(m k:Nat),m+k≤8→ay (jJ M i o m k)
 |0,_,_=>by simp[jJ,ay]
 |m+1,k,h=>by
  unfold jJ
  split
  ·unfold ay;omega
  ·exact Nu M i o m (k+1) (by omega)
theorem Q9 (g:Nat) (n:aH) (f o b:Nat) (M:aK) (N:Nat) (i a c:Int) (W:World) (hM:aM W g n f o b M N) (hi:ay i):
  Calls Tryz.prog 191 #[.pointer (some ⟨g,0,none⟩),.int .i64 i,.agg #[.int .i64 a,.int .i64 c]] W fun e W'=>e= .returned (.int .i64 (nk M i (a,c)))∧Below W.heap.size W W':=by
 have bZ:=hide (fun(w':World) (hb:Below W.heap.size W w')=>hM.below hb)
 have hgl:=hM.WE
 clear hM
 go_enter Tryz.func191,Tryz.ntmps191
 go_wp2
 have hb0:Below W.heap.size W (W.alloc (.cells #[.int .i64 a,.int .i64 c] 227)):=(Below.refl _ _).alloc (Nat.le_refl _) _
 have hx0:=aB.new W #[.int .i64 a,.int .i64 c] 227
 have hz0:(W.alloc (.cells #[.int .i64 a,.int .i64 c] 227)).heap.size =W.heap.size+1:=by simp
 generalize World.alloc W _=W0 at*
 have HX0:=hide (fun(w':World) (hb:Below W0.heap.size W0 w')=>show aB w' W.heap.size #[.int .i64 a,.int .i64 c]∧aM w' g n f o b M N∧Below W.heap.size W w' from
  ⟨hx0.below hb (by omega),bZ.out _ (hb0.trans (hb.mono (by omega))),hb0.trans (hb.mono (by omega))⟩)
 clear hb0 hx0 bZ
 go_loopw [10] (fun j wr=>∃k:Nat,k≤8∧j= .int .i64 k∧Hid (Below W0.heap.size W0 wr)∧Hid (nk M i (a,c)=jJ M i (a,c) (8 - k) k)) (fun j _=>8 - (intOf j).toNat)
 case atStart=>exact⟨0,by omega,rfl,hide (Below.refl _ _),hide rfl⟩
 case round=>
  obtain⟨k,hk,rfl,HB,HE⟩:=hrel
  by_cases hlt:k<8
  ·obtain⟨hbx,hm,_⟩:=HX0.out _ HB.out
   have c3:=hm.c3
   have l3:=hm.lookO (i,(k:Int)) ⟨hi,by unfold ay;omega⟩
   have n1:W.heap.size≠wr.heap.size:=by have:=HB.out.size;omega
   have n2:g≠wr.heap.size:=by have:=HB.out.size;omega
   have y0:=fun o'=>((HX0.out _ (HB.out.alloc HB.out.size o')).1).1 0 _ rfl
   have y1:=fun o'=>((HX0.out _ (HB.out.alloc HB.out.size o')).1).1 1 _ rfl
   have HS:=hide (HE.out.trans (OQ M i (a,c) hlt))
   have HA:=hide (fun o'=>HB.out.alloc HB.out.size o')
   clear hbx hm HE
   simp only[dS,yD]at l3
   cases hO:M.O (i,(k:Int))with
   |none=>
    simp only[hO,Option.getD_none,Option.isSome_none]at l3
    have HN:=hide (show nk M i (a,c)=jJ M i (a,c) (8 - (k+1)) (k+1)from by rw[HS.out,if_neg (by rw[hO];simp)])
    clear hO HS
    go_wp2
    go_roundw
    case rel=>exact⟨k+1,by omega,by go_num,hide (HA.out _),HN⟩
    case measure=>simp[intOf];omega
   |some x=>
    obtain⟨u,v⟩:=x
    simp only[hO,Option.getD_some,Option.isSome_some]at l3
    by_cases e1:u=a
    ·by_cases e2:v=c
     ·subst e1 e2
      have HN:=hide (show nk M i (u,v)=(k:Int)from by rw[HS.out,if_pos hO])
      clear hO HS
      go_wp2
      go_ret
      exact⟨Zw HN.out.symm,(HX0.out _ (HA.out _)).2.2⟩
     ·have HN:=hide (show nk M i (a,c)=jJ M i (a,c) (8 - (k+1)) (k+1)from by rw[HS.out,if_neg (by rw[hO];simp[e2])])
      have d2:(v ==c)=false:=by simpa using e2
      subst e1
      clear hO HS
      go_wp2
      go_roundw
      case rel=>exact⟨k+1,by omega,by go_num,hide (HA.out _),HN⟩
      case measure=>simp[intOf];omega
    ·have HN:=hide (show nk M i (a,c)=jJ M i (a,c) (8 - (k+1)) (k+1)from by rw[HS.out,if_neg (by rw[hO];simp[e1])])
     have d1:(u ==a)=false:=by simpa using e1
     clear hO HS
     go_wp2
     go_roundw
     case rel=>exact⟨k+1,by omega,by go_num,hide (HA.out _),HN⟩
     case measure=>simp[intOf];omega
  ·obtain rfl:k=8:=by omega
   go_wp2
   go_ret
   exact⟨Zw (by rw[HE.out];rfl),(HX0.out _ HB.out).2.2⟩
end Go.Proofs.YtlhmdcgckocidaaGreat
