/- A part of the proof: RegE, Nr6. -/
import Derived.Test.YtifkacnoiocebaaDoorNz13
set_option linter.unusedVariables false
set_option linter.unusedSimpArgs false
set_option maxRecDepth 100000
set_option maxHeartbeats 8000000
namespace Go.Proofs.YtifkacnoiocebaaDoor
structure dF (md:Region.Mode) (ops:Array Oper) (listed:Array Bool):Prop where
 size:listed.size=ops.size
 closed:∀j oj,ops[j]?=some oj→listed.getD j false=true→∀e∈oj.after,Region.binds md e=true→listed.getD e.on false=true
def mZ (md:Region.Mode) (ops:Array Oper):List Nat→Bool
 |i::j::r=>Region.waitsFor md ops j i && mZ md ops (j::r)
 |_=>true
section
variable {P:Program} {ops:Array Oper} {Q:Exit→Act→World→Prop} {md:Region.Mode} {S:World→Prop} {s:Nat}
theorem dF.set {i:Nat} {listed:Array Bool} (inv:dF md ops listed) (hi:i∈Region.ready md ops listed):dF md ops (listed.setIfInBounds i true):=by
 obtain⟨_,oi,hoi,hall⟩:=mem_ready.1 hi
 refine⟨by simp[inv.size],fun j oj hj hl e he hb=>?_⟩
 by_cases hij:i=j
 ·subst hij
  have:oj=oi:=Option.some.inj (hj.symm.trans hoi)
  subst this
  exact getD_set_true (hall e he hb)
 ·rw[getD_set_ne false hij]at hl
  exact getD_set_true (inv.closed j oj hj hl e he hb)
theorem tQ {listed:Array Bool} (inv:dF md ops listed):∀(c:List Nat) (i s:Nat),mZ md ops (i::c)=true→(i::c).getLast? =some s→listed.getD s false=true→listed.getD i false=true
 |[],i,s,_,hl,h=>by simp at hl;rw[hl];exact h
 |j::r,i,s,hc,hl,h=>by
  simp only[mZ,Bool.and_eq_true]at hc
  have h1:=tQ inv r j s hc.2 (by simpa using hl) h
  obtain⟨oj,hoj,e,he,hb,hon⟩:=Region.waitsFor_spec hc.1
  have:=inv.closed j oj hoj h1 e he hb
  rwa [hon]at this
theorem pO {listed:Array Bool} (inv:dF md ops listed) {c:List Nat} {i:Nat} (hc:mZ md ops (i::c)=true) (hl:(i::c).getLast? =some s) (hs:s<ops.size) (hi:listed.getD i true=false):listed.getD s true=false:=by
 cases h:listed.getD s false with
 |true=>have:=tQ inv c i s hc hl h;rw[getD_both hi]at this;cases this
 |false=>exact getD_in (by rw[inv.size];exact hs) h
def dZ (P:Program) (md:Region.Mode) (ops:Array Oper) (Q:Exit→Act→World→Prop) (S:World→Prop) (s:Nat):Nat→Array Bool→Act→World→Prop
 |0,listed,a,w=>Region.ready md ops listed=[]∧Q .normal a w
 |fuel+1,listed,a,w=>
  (Region.ready md ops listed=[]→Q .normal a w)∧
  ∀i∈Region.ready md ops listed,wpOp P ops Q i (fun a' w'=>((listed.setIfInBounds i true).getD s true=false→S w')∧dZ P md ops Q S s fuel (listed.setIfInBounds i true) a' w') a w
theorem tT:∀(fuel:Nat) (listed:Array Bool) (a:Act) (w:World),dZ P md ops Q S s fuel listed a w→wpAny P md ops Q fuel listed a w
 |0,_,_,_,h=>h
 |fuel+1,_,_,_,h=>⟨h.1,fun i hi=>wpOp_mono (fun a' w' h'=>tT fuel _ a' w' h'.2) (h.2 i hi)⟩
theorem qJ {i:Nat} {oi:Oper} {v:Value} {S':World→Prop} (hi:ops[i]?=some oi) (hsel:∀(j:Nat) (o:Oper) cs b,ops[j]?=some o→o.op≠ .select cs b) (his:i≠s)
  (hS':∀(listed:Array Bool) (w:World),dF md ops listed→listed.getD i true=false→(listed.getD s true=false→S w)→S' w)
  (hQ:∀c a w,Q (.panic c) (a.put oi.dst v) w→Q (.panic c) a w):
  ∀(fuel:Nat) (listed:Array Bool) (a:Act) (w:World),dF md ops listed→
   (∀j oj,ops[j]?=some oj→j≠i→listed.getD j true=false→(∀e∈oj.after,Region.binds md e=true→e.on≠i)→oi.apart ops oj=true)→
   i∈Region.ready md ops listed→YieldsIf P ops S' oi v a→(listed.getD s true=false→S w)→
   dZ P md ops Q S s fuel (listed.setIfInBounds i true) (a.put oi.dst v) w→dZ P md ops Q S s (fuel+1) listed a w:=by
 have same:∀(l:Array Bool),(l.setIfInBounds i true).getD s true=l.getD s true:=fun l=>getD_set_ne true his
 intro fuel
 induction fuel with
 |zero=>
  intro listed a w inv _ hr hy hS H
  have hun:=(mem_ready.1 hr).1
  refine⟨fun h=>(by rw[h]at hr;cases hr),fun j hj=>?_⟩
  by_cases hji:j=i
  ·subst hji;exact hy.wpOp hi (hS' listed w inv hun hS) ⟨fun h=>hS (by rwa [same]at h),H⟩
  ·have:=ready_mono hj hji
   rw[H.1]at this
   cases this
 |succ fuel ih=>
  intro listed a w inv hfree hr hy hS H
  have hun:=(mem_ready.1 hr).1
  refine⟨fun h=>(by rw[h]at hr;cases hr),fun j hj=>?_⟩
  by_cases hji:j=i
  ·subst hji;exact hy.wpOp hi (hS' listed w inv hun hS) ⟨fun h=>hS (by rwa [same]at h),H⟩
  ·have h1:=H.2 j (ready_mono hj hji)
   obtain⟨hjun,oj,hoj,hall⟩:=mem_ready.1 hj
   have hnot:∀e∈oj.after,Region.binds md e=true→e.on≠i:=fun e he hb heq=>by
    have h1:=hall e he hb
    rw[heq,getD_both hun]at h1
    cases h1
   have h2:=wpOp_putIf hoj (hfree j oj hoj hji hjun hnot) (fun cs b=>hsel i oi cs b hi) (fun cs b=>hsel j oj cs b hoj) hQ hy h1
   have hfree':∀k ok,ops[k]?=some ok→k≠i→(listed.setIfInBounds j true).getD k true=false→
     (∀e∈ok.after,Region.binds md e=true→e.on≠i)→oi.apart ops ok=true:=fun k ok hk hki hun hno=>by
    refine hfree k ok hk hki ?_ hno
    by_cases hjk:j=k
    ·subst hjk;exact hjun
    ·rw[getD_set_ne true hjk]at hun;exact hun
   refine wpOp_mono (fun a' w' h3=>?_) h2
   have hS2:(listed.setIfInBounds j true).getD s true=false→S w':=fun h=>h3.2.1 (by rw[Array.setIfInBounds_comm _ _ (Ne.symm hji),same];exact h)
   refine⟨hS2,ih (listed.setIfInBounds j true) a' w' (inv.set hj) hfree' (ready_mono hr (Ne.symm hji)) h3.1 hS2 ?_⟩
   rw[Array.setIfInBounds_comm _ _ hji]
   exact h3.2.2
theorem yG {i:Nat} {oi:Oper} {v:Value} {fuel:Nat} {listed:Array Bool} {a:Act} {w:World} (c:List Nat) (hi0:ops.toList[i]?=some oi) (hs:Region.noSelect ops=true) (hf:Region.free md ops listed i=true)
  (hr:(Region.ready md ops listed).contains i=true) (his:decide (i≠s) && decide (s<ops.size) && mZ md ops (i::c) && decide ((i::c).getLast? =some s)=true) (hQ:∀c a w,Q (.panic c) (a.put oi.dst v) w→Q (.panic c) a w) (inv:Shut (dF md ops listed)) (hy:YieldsIf P ops S oi v a) (hS:S w)
  (h:Shut (dF md ops (listed.setIfInBounds i true))→dZ P md ops Q S s fuel (listed.setIfInBounds i true) (a.put oi.dst v) w):dZ P md ops Q S s (fuel+1) listed a w:=by
 have hi:ops[i]?=some oi:=by simpa using hi0
 simp only[Bool.and_eq_true,decide_eq_true_eq]at his
 have hr':i∈Region.ready md ops listed:=by simpa using hr
 exact qJ hi (Region.noSelect_spec hs) his.1.1.1 (fun l w inv hun hS=>hS (pO inv his.1.2 his.2 his.1.1.2 hun)) hQ fuel listed a w inv.out (Region.free_spec hi hf) hr' hy (fun _=>hS) (h (inv.out.set hr'))
theorem yH {i:Nat} {oi:Oper} {v:Value} {fuel:Nat} {listed:Array Bool} {a:Act} {w:World} (hi0:ops.toList[i]?=some oi) (hs:Region.noSelect ops=true) (hf:Region.free md ops listed i=true)
  (hr:(Region.ready md ops listed).contains i=true) (his:decide (i≠s)=true) (hQ:∀c a w,Q (.panic c) (a.put oi.dst v) w→Q (.panic c) a w) (inv:Shut (dF md ops listed)) (hy:YieldsIf P ops (fun _=>True) oi v a) (hS:listed.getD s true=false→S w)
  (h:Shut (dF md ops (listed.setIfInBounds i true))→dZ P md ops Q S s fuel (listed.setIfInBounds i true) (a.put oi.dst v) w):dZ P md ops Q S s (fuel+1) listed a w:=by
 have hi:ops[i]?=some oi:=by simpa using hi0
 have hr':i∈Region.ready md ops listed:=by simpa using hr
 exact qJ hi (Region.noSelect_spec hs) (by simpa using his) (fun _ _ _ _ _=>trivial) hQ fuel listed a w inv.out (Region.free_spec hi hf) hr' hy hS (h (inv.out.set hr'))
theorem zH {i:Nat} {o:Oper} {fuel:Nat} {listed:Array Bool} {a:Act} {w:World} (ho0:ops.toList[i]?=some o) (hr:Region.ready md ops listed=[i]) (inv:Shut (dF md ops listed))
  (h:∀K':Act→World→Prop,Shut (∀a w,((listed.setIfInBounds i true).getD s true=false→S w)→(Shut (dF md ops (listed.setIfInBounds i true))→dZ P md ops Q S s fuel (listed.setIfInBounds i true) a w)→K' a w)→if Region.wanted o (yielded ops a.tmps)=true then Oper.wp P o a w K' Q else K' (a.put o.dst undef) w):
  dZ P md ops Q S s (fuel+1) listed a w:=by
 have ho:ops[i]?=some o:=by simpa using ho0
 have hi:i∈Region.ready md ops listed:=by rw[hr];simp
 refine⟨fun h0=>(by rw[h0]at hr;cases hr),fun j hj=>?_⟩
 rw[hr]at hj
 have:j=i:=by simpa using hj
 subst this
 exact wpOp_step ho (fun K hK=>h K (fun a w hS hW=>hK a w ⟨hS,hW (inv.out.set hi)⟩))
theorem yI {i:Nat} {o:Oper} {fuel:Nat} {listed:Array Bool} {a:Act} {w:World} (ho0:ops.toList[i]?=some o) (hr:Region.ready md ops listed=[i]) (inv:Shut (dF md ops listed)) (hx:(listed.setIfInBounds i true).getD s true=true)
  (h:∀K':Act→World→Prop,Shut (∀a w,(Shut (dF md ops (listed.setIfInBounds i true))→dZ P md ops Q S s fuel (listed.setIfInBounds i true) a w)→K' a w)→if Region.wanted o (yielded ops a.tmps)=true then Oper.wp P o a w K' Q else K' (a.put o.dst undef) w):
  dZ P md ops Q S s (fuel+1) listed a w:=by
 have ho:ops[i]?=some o:=by simpa using ho0
 have hi:i∈Region.ready md ops listed:=by rw[hr];simp
 refine⟨fun h0=>(by rw[h0]at hr;cases hr),fun j hj=>?_⟩
 rw[hr]at hj
 have:j=i:=by simpa using hj
 subst this
 exact wpOp_step ho (fun K hK=>h K (fun a w hW=>hK a w ⟨fun h=>(by rw[hx]at h;cases h),hW (inv.out.set hi)⟩))
theorem yJ {listed:Array Bool} {a:Act} {w:World} (hr:Region.ready md ops listed=[]) (h:Q .normal a w):∀fuel,dZ P md ops Q S s fuel listed a w
 |0=>⟨hr,h⟩
 |_+1=>⟨fun _=>h,by rw[hr];simp⟩
theorem bF {id:Nat} {a:Act} {w:World} (S:World→Prop) (s:Nat) (hm:P.follows .mixedOrders =true) (hS:S w.drew)
  (h:S w.drew→Shut (dF .any ops (Array.replicate ops.size false))→dZ P .any ops Q S s ops.size (Array.replicate ops.size false) a w.drew):(Code.region id ops true).wp P Q a w:=
 wp_region_any hm (tT _ _ _ _ (h hS (show dF .any ops (Array.replicate ops.size false)from⟨by simp,fun j oj _ hl=>(by rw[getD_replicate_false]at hl;cases hl)⟩)))
end
section
variable {P:Program} {ops:Array Oper} {Q:Exit→Act→World→Prop} {md:Region.Mode} {S:World→Prop} {s:Nat} {fuel:Nat} {listed l:Array Bool} {a b:Act} {w:World} {oi:Oper} {v:Value}
theorem rP (i:Nat) (hS:S w) (h:Shut (dF md ops l)→dZ P md ops Q S s fuel l b w)
  (hi0:ops.toList[i]?=some oi:=by rfl)
  (q0:Region.noSelect ops=true:=by kernel_rfl) (q1:Region.free md ops listed i=true:=by kernel_rfl) (q2:(Region.ready md ops listed).contains i=true:=by kernel_rfl) (q3:decide (i≠s)=true:=by kernel_rfl)
  (q4:Region.wanted oi (yielded ops a.tmps)=true:=by rfl)
  (hy:∀w,True→(execOp a.eval oi).run P w= .ok (.value v) w:=by intro w _;go_simp;try with_reducible rfl)
  (hQ:∀c a w,Q (.panic c) (a.put oi.dst v) w→Q (.panic c) a w:=by exact fun _ _ _ h=>h)
  (hl:listed.setIfInBounds i true=l:=by first | (simp only[aB,aC,aD];exact rfl) | exact rfl)
  (hb:a.put oi.dst v=b:=by first | (simp only[Act.put,aB,aC,aD];exact rfl) | exact rfl):Shut (dF md ops listed)→dZ P md ops Q S s (fuel+1) listed a w:=
 fun inv=>yH hi0 q0 q1 q2 q3 hQ inv (.inl ⟨q4,hy⟩) (fun _=>hS) (by rw[hl,hb];exact h)
theorem rL (i:Nat) (c:List Nat) (hi0:ops.toList[i]?=some oi) (hS:S w)
  (hy:∀w,S w→(execOp a.eval oi).run P w= .ok (.value v) w)
  (h:Shut (dF md ops l)→dZ P md ops Q S s fuel l b w)
  (q0:Region.noSelect ops=true:=by kernel_rfl) (q1:Region.free md ops listed i=true:=by kernel_rfl) (q2:(Region.ready md ops listed).contains i=true:=by kernel_rfl) (q3:decide (i≠s) && decide (s<ops.size) && mZ md ops (i::c) && decide ((i::c).getLast? =some s)=true:=by kernel_rfl)
  (q4:Region.wanted oi (yielded ops a.tmps)=true:=by rfl)
  (hQ:∀c a w,Q (.panic c) (a.put oi.dst v) w→Q (.panic c) a w:=by exact fun _ _ _ h=>h)
  (hl:listed.setIfInBounds i true=l:=by first | (simp only[aB,aC,aD];exact rfl) | exact rfl)
  (hb:a.put oi.dst v=b:=by first | (simp only[Act.put,aB,aC,aD];exact rfl) | exact rfl):Shut (dF md ops listed)→dZ P md ops Q S s (fuel+1) listed a w:=
 fun inv=>yG c hi0 q0 q1 q2 q3 hQ inv (.inl ⟨q4,hy⟩) hS (by rw[hl,hb];exact h)
theorem rT (i:Nat) (inv:Shut (dF md ops listed))
  (h:∀K':Act→World→Prop,Shut (∀a w,(Shut (dF md ops (listed.setIfInBounds i true))→dZ P md ops Q S s fuel (listed.setIfInBounds i true) a w)→K' a w)→if Region.wanted oi (yielded ops a.tmps)=true then Oper.wp P oi a w K' Q else K' (a.put oi.dst undef) w)
  (hi0:ops.toList[i]?=some oi:=by rfl) (hr:Region.ready md ops listed=[i]:=by kernel_rfl) (hx:(listed.setIfInBounds i true).getD s true=true:=by kernel_rfl):dZ P md ops Q S s (fuel+1) listed a w:=
 yI hi0 hr inv hx h
theorem rO (i:Nat) (inv:Shut (dF md ops listed))
  (h:∀K':Act→World→Prop,Shut (∀a w,((listed.setIfInBounds i true).getD s true=false→S w)→(Shut (dF md ops (listed.setIfInBounds i true))→dZ P md ops Q S s fuel (listed.setIfInBounds i true) a w)→K' a w)→if Region.wanted oi (yielded ops a.tmps)=true then Oper.wp P oi a w K' Q else K' (a.put oi.dst undef) w)
  (hi0:ops.toList[i]?=some oi:=by rfl) (hr:Region.ready md ops listed=[i]:=by kernel_rfl):dZ P md ops Q S s (fuel+1) listed a w:=
 zH hi0 hr inv h
theorem rD (h:Q .normal a w) (hr:Region.ready md ops listed=[]:=by kernel_rfl):dZ P md ops Q S s fuel listed a w:=
 yJ hr h fuel
end
open Go.RowKit
theorem zI (R:Nat) (S:dJ) (x:List UInt8) (rest:List (List UInt8)) (base g n cap:Nat) (W:World) (hm:eP W) (hR:iV jV 41 W R S) (hS:cK S 10000) (hw:cB W base g n cap (x::rest)) (hwo:iX (x::rest)) (hgR:R<g) (b:Bool) (hb:(x ==[112,101,114,109,105,116])=b):
  Calls Tryd.prog 28 #[.pointer (some ⟨R,0,none⟩),.slice (some ⟨g,0,none⟩) n cap] W (gU jV 41 R (eF S b rest) W):=by
 obtain⟨ds,V,L,hbx,aR,hds⟩:=hR
 have hn:=hw.len
 simp only[List.length_cons]at hn
 have hcap:=(dY hw.own)
 have iM:=hwo.len
 have hj:=hwo.join
 simp only[List.length_cons,List.drop_succ_cons,List.drop_zero]at iM hj
 obtain⟨lr,hlr⟩:∃lr,dO [32] rest=lr:=⟨_,rfl⟩
 have HJ:=hide (fun(A:Option Addr) (m c:Nat) (w:World) (h:ny w A m rest) (h1:m≤5000) (h2:m≤c)=>(xu rest 32 A m c w h (by omega) (by omega) h2))
 have hRl:=hbx.lt
 simp only[hlr]at HJ hj
 have fG:=hide (fun w (h:eP w)=>tV lr w (by omega) h)
 have HW:=hide hw
 have HM:=hide hm
 have hgl:=hw.lt.2
 have bC:Hid (((aU lr).2≠0∨S.ds=[]∨S.ls≠[])→eF S b rest=none):=hide (fun h=>by
  unfold eF
  rw[hlr]
  split
  ·rename_i h0
   exact nN (h.resolve_left (fun h1=>h1 h0))
  ·rfl)
 have gH:Hid (∀ds0 x0,ds=ds0++[x0]→S.ls=[]→(aU lr).2=0→eF S b rest=some ⟨ds0.map ah.dev++[{ x0.dev with rules:=x0.dev.rules++[⟨b,(aU lr).1⟩] }],[]⟩):=hide (fun ds0 x0 e hl h0=>by
  unfold eF
  rw[hlr,if_pos h0]
  rcases lZ hds with⟨h1,_⟩ | ⟨d0,x1,h1,h2,h3,_⟩
  ·rw[h1]at e;simp at e
  ·rw[h1]at e
   obtain⟨rfl,e2⟩:=List.append_inj' e rfl
   cases e2
   rw[lC hl h2 h3])
 obtain⟨r,hr⟩:∃r,eF S b rest=r:=⟨_,rfl⟩
 simp only[hr]at bC gH ⊢
 have hpo:=qA (l:=lr)
 have oM:dL lr= .tuple #[.agg #[.int .u16 ((aU lr).1.src :Int),.int .u16 ((aU lr).1.dst :Int),.int .u8 ((aU lr).1.oG :Int),.int .u8 ((aU lr).1.oH :Int)],.int .i64 (aU lr).2]:=rfl
 have qh:(aU lr).2=0∨(aU lr).2=2∨(aU lr).2=3:=by
  unfold aU
  split
  ·exact .inr (.inl rfl)
  ·split
   ·split
    ·exact .inl rfl
    ·exact .inr (.inr rfl)
   ·exact .inr (.inr rfl)
 obtain⟨⟨ms,md,mp,mq⟩,hpm⟩:∃m,(aU lr).1=m:=⟨_,rfl⟩
 obtain⟨pe,hpe⟩:∃pe,(aU lr).2=pe:=⟨_,rfl⟩
 rw[hpm]at hpo oM
 rw[hpe]at oM qh
 simp only[hpm,hpe]at bC gH
 rw[oM]at fG
 have aL:Bx W R #[V,L,.bool (!S.ls.isEmpty)] 41:=hbx
 clear oM hpm hpe hr hlr hbx
 have HE:=hide qh
 by_cases hbad:S.ds=[]∨S.ls≠[]
 ·have HF:=hide (bC.out (.inr hbad))
  have gY:Hid (Calls Tryd.prog 57 #[.pointer (some ⟨R,0,none⟩)] W fun e W'=>e= .returned (.pointer none)∧W=W'):=by
   obtain⟨A,c,rfl,_⟩:=bD.dw ah.len aR.d rfl
   refine hide (uZ R _ A _ c L W aL ?_ (by have:=hS.d;rw[← hds,List.length_map]at this;omega))
   rcases hbad with h | h
   ·left;rw[h]at hds;simpa using hds
   ·right;simpa using h
  have eT:=hide hw.rest
  have eU:=hide (fun(h:n≤1) (A:Option Addr)=>hw.vZ h A)
  simp only[List.drop_succ_cons,List.drop_zero]at eT eU
  clear bC gH aR aL hds hS hwo hw hm hbad hpo qh
  go_enter Tryd.func28,Tryd.ntmps28
  go_wp2_with fail
  refine gY.out.mono ?_
  rintro e w1 ⟨rfl,rfl⟩
  clear gY
  go_wp2_with fail
  ·refine(HJ.out (some ⟨g,0,none⟩) (n - 1) (0) W (eU.out (by omega) _) (by omega) (by omega)).mono ?_
   rintro e w2 ⟨rfl,hb2⟩
   have HB2:=hide hb2
   have oN:=hide (HM.out.below hb2)
   clear eU eT HJ hb2 HM
   go_wp2_with fail
   refine(fG.out _ oN.out).mono ?_
   rintro e w3 ⟨rfl,hb3⟩
   have HB3:=hide ((HB2.out.trans (hb3.mono HB2.out.size)))
   have gy:R≤w3.heap.size:=by have:=HB3.out.size;omega
   clear fG oN HB2 hb3
   go_wp2_with fail
   go_ret
   exact⟨(HB3.out.mono (by omega)).alloc gy _,.inl ⟨HF.out,rfl⟩⟩
  ·refine(HJ.out (some ⟨g,1,none⟩) (n - 1) (cap - 1) W (eT.out) (by omega) (by omega)).mono ?_
   rintro e w2 ⟨rfl,hb2⟩
   have HB2:=hide hb2
   have oN:=hide (HM.out.below hb2)
   clear eU eT HJ hb2 HM
   go_wp2_with fail
   refine(fG.out _ oN.out).mono ?_
   rintro e w3 ⟨rfl,hb3⟩
   have HB3:=hide ((HB2.out.trans (hb3.mono HB2.out.size)))
   have gy:R≤w3.heap.size:=by have:=HB3.out.size;omega
   clear fG oN HB2 hb3
   go_wp2_with fail
   go_ret
   exact⟨(HB3.out.mono (by omega)).alloc gy _,.inl ⟨HF.out,rfl⟩⟩
 ·have hls:S.ls=[]:=by
   by_cases h:S.ls=[]
   ·exact h
   ·exact absurd (Or.inr h) hbad
  rcases lZ hds with⟨_,h1,_⟩ | ⟨ds0,x0,rfl,h2,h3,hxm⟩
  ·exact absurd (Or.inl h1) hbad
  have HF:=hide (gH.out ds0 x0 rfl hls)
  have jP:x0∈ds0++[x0]:=List.mem_append_right _ (List.mem_singleton.2 rfl)
  obtain⟨gd,cd,rfl,_⟩:=aR.d.form (by simp)
  have hlen:(ds0++[x0]).length =ds0.length+1:=by simp
  obtain⟨k,hk⟩:∃k,ds0.length=k:=⟨_,rfl⟩
  have Cx:k≤9999:=by have:=hS.d;rw[← hds,List.length_map,hlen,hk]at this;omega
  rw[hls]at aR
  have iq:Bx W R #[.slice (some ⟨gd,0,none⟩) (k+1) cd,L,.bool false] 41:=by
   rw[hlen,hk]at aL
   rw[hls]at aL
   exact aL
  have gY:=hide (u7 R gd k cd L W iq (by omega))
  have hrn:x0.rs.length≤10000:=hS.r _ hxm
  have hrl:=(aR.r x0 jP).2
  have hgd:=aR.d.lt gd rfl
  have hxc:W.cell? ⟨gd,k*7+5,none⟩=some (.slice x0.rA x0.rn x0.rc):=by
   have:=aR.d.cells (g:=gd) rfl (k*7+5) (.slice x0.rA x0.rn x0.rc) (flat_get ah.len _ k x0 5 _ (by rw[← hk,List.getElem?_append_right (Nat.le_refl _),Nat.sub_self];rfl) rfl)
   rwa [addr_add,Nat.zero_add]at this
  have hfz:W.frozen? ⟨gd,k*7+5,none⟩=false:=aR.d.frozenAt _
  have fO:=hide aR
  have fq:=hide iq
  have hxg:W.cell? ⟨g,0,none⟩=some (.string ⟨x.toArray⟩):=hw.get (k:=0) rfl
  have HQ:=hide (fun(w':World) (hb:Below W.heap.size W w')=>show w'.cell? ⟨gd,k*7+5,none⟩=some (.slice x0.rA x0.rn x0.rc)∧w'.cell? ⟨g,0,none⟩=some (.string ⟨x.toArray⟩)∧w'.frozen? ⟨gd,k*7+5,none⟩=false from
   ⟨(hb.cell (p:=⟨gd,k*7+5,none⟩) hgd.2).trans hxc,(hb.cell (p:=⟨g,0,none⟩) hgl).trans hxg,(hb.frozen (p:=⟨gd,k*7+5,none⟩) hgd.2).trans hfz⟩)
  have eT:=hide hw.rest
  have eU:=hide (fun(h:n≤1) (A:Option Addr)=>hw.vZ h A)
  simp only[List.drop_succ_cons,List.drop_zero]at eT eU
  have hmo:(⟨b,⟨ms,md,mp,mq⟩⟩:bN).ok :=hpo
  have vo:=hide hmo
  clear gH aR aL iq hds hS hwo hw hm hbad hpo qh hxc hxg hfz jP hxm h2 h3 hls hmo
  go_enter Tryd.func28,Tryd.ntmps28
  go_wp2_with fail
  refine gY.out.mono ?_
  rintro e w1 ⟨rfl,hb1⟩
  have HB1:=hide hb1
  have nW:=hide (HM.out.below hb1)
  have eT:=hide (eT.out.below hb1)
  have eU:=hide (fun h A=>(eU.out h A).below hb1)
  clear gY hb1 HM
  go_wp2_with fail
  ·refine(HJ.out (some ⟨g,0,none⟩) (n - 1) (0) w1 (eU.out (by omega) _) (by omega) (by omega)).mono ?_
   rintro e w2 ⟨rfl,hb2⟩
   have HB2:=hide (HB1.out.trans (hb2.mono HB1.out.size))
   have oN:=hide (nW.out.below hb2)
   clear eU eT HJ hb2 nW HB1
   go_wp2_with fail
   refine(fG.out _ oN.out).mono ?_
   rintro e w3 ⟨rfl,hb3⟩
   have HB3:=hide ((HB2.out.trans (hb3.mono HB2.out.size)))
   have gy:R≤w3.heap.size:=by have:=HB3.out.size;omega
   clear fG oN HB2 hb3
   rcases HE.out with rfl | rfl | rfl
   ·obtain⟨M,hM⟩:∃M,w3.heap.size=M:=⟨_,rfl⟩
    have aK:=hide (HB3.out.alloc (Nat.le_trans HB3.out.size (Nat.le_refl _)) (.cells #[.int .u16 (ms:Int),.int .u16 (md:Int),.int .u8 (mp:Int),.int .u8 (mq:Int)] 61))
    have bJ:=hide (Bx.new w3 #[.int .u16 (ms:Int),.int .u16 (md:Int),.int .u8 (mp:Int),.int .u8 (mq:Int)] 61)
    have qK:(w3.alloc (.cells #[.int .u16 (ms:Int),.int .u16 (md:Int),.int .u8 (mp:Int),.int .u8 (mq:Int)] 61)).heap.size =M+1:=by simp[hM]
    rw[hM]at bJ gy
    have hn0:(0:Int)<(n:Int):=by omega
    have hn1:0<n:=by omega
    have nX:=hide (HF.out rfl)
    clear bC HF HE eT eU
    go_wp2_with fail
    generalize World.alloc w3 _=w4 at*
    have HS:=hide (fun(w':World) (h:Below w4.heap.size w4 w')=>show w'.cell? ⟨gd,k*7+5,none⟩=some (.slice x0.rA x0.rn x0.rc)∧w'.cell? ⟨g,0,none⟩=some (.string ⟨x.toArray⟩)∧w'.cell? ⟨M,0,none⟩=some (.int .u16 (ms:Int))∧w'.cell? ⟨M,1,none⟩=some (.int .u16 (md:Int))∧w'.cell? ⟨M,2,none⟩=some (.int .u8 (mp:Int))∧w'.cell? ⟨M,3,none⟩=some (.int .u8 (mq:Int))from
     ⟨(HQ.out w' (aK.out.trans (h.mono aK.out.size))).1,(HQ.out w' (aK.out.trans (h.mono aK.out.size))).2.1,(bJ.out.below h).get 0 _ rfl,(bJ.out.below h).get 1 _ rfl,(bJ.out.below h).get 2 _ rfl,(bJ.out.below h).get 3 _ rfl⟩)
    refine bF (fun w'=>w'.cell? ⟨gd,k*7+5,none⟩=some (.slice x0.rA x0.rn x0.rc)∧w'.cell? ⟨g,0,none⟩=some (.string ⟨x.toArray⟩)∧w'.cell? ⟨M,0,none⟩=some (.int .u16 (ms:Int))∧w'.cell? ⟨M,1,none⟩=some (.int .u16 (md:Int))∧w'.cell? ⟨M,2,none⟩=some (.int .u8 (mp:Int))∧w'.cell? ⟨M,3,none⟩=some (.int .u8 (mq:Int))) 12 (by kernel_rfl) (HS.out _ (Below.refl _ _).drew) (fun hS inv=>?_)
    have bK:=hide (aK.out.drew)
    have iA:=hide (show Below w4.heap.size w4 w4.drew from(Below.refl _ _).drew)
    have hsz5:w4.drew.heap.size=M+1:=qK
    generalize World.drew w4=wd at*
    revert inv
    refine rP 0 hS ?_
    refine rP 1 hS ?_
    refine rP 2 hS ?_
    refine rP 3 hS ?_
    refine rL 4 [12] rfl hS (by intro w hSw;obtain⟨s0,s1,s2,s3,s4,s5⟩:=hSw;go_simp;try with_reducible rfl) ?_
    refine rP 5 hS ?_
    refine rP 6 hS ?_
    refine rL 7 [8,10,11,12] rfl hS (by intro w hSw;obtain⟨s0,s1,s2,s3,s4,s5⟩:=hSw;go_simp;try with_reducible rfl) ?_
    refine rP 8 hS ?_
    refine rL 9 [10,11,12] rfl hS (by intro w hSw;obtain⟨s0,s1,s2,s3,s4,s5⟩:=hSw;go_simp;try with_reducible rfl) ?_
    refine rP 10 hS ?_
    intro inv
    refine rO 11 inv fun K hK=>?_
    go_simp
    have ak:=below_alloc2 wd (.cells #[.bool b,.int .u16 (ms:Int),.int .u16 (md:Int),.int .u8 (mp:Int),.int .u8 (mq:Int)] 63)
    have aO:=hide (Bx.new wd #[.bool b,.int .u16 (ms:Int),.int .u16 (md:Int),.int .u8 (mp:Int),.int .u8 (mq:Int)] 63)
    have bW:=hide (HS.out _ (iA.out.trans (ak.mono (by omega))))
    have aS:=hide (bK.out.trans (ak.mono bK.out.size))
    have iD:(wd.alloc (.cells #[.bool b,.int .u16 (ms:Int),.int .u16 (md:Int),.int .u8 (mp:Int),.int .u8 (mq:Int)] 63)).heap.size =M+2:=by simp;omega
    rw[hsz5]at aO
    clear ak bK iA hS
    generalize World.alloc wd _=aA at*
    have hS:=bW.out
    refine hK.out _ _ (fun _=>hS) ?_
    clear hK K hS inv
    intro inv
    try simp only[Act.put,aB,aC,aD]
    refine rT 12 inv fun K hK=>?_
    rw[if_pos (by rfl)]
    obtain⟨i0,hi0,hz0,hz1,hz2⟩:=info_parts Tryd.infoRule
    have hxm:x0∈ds0++[x0]:=List.mem_append_right _ (List.mem_singleton.2 rfl)
    have au:=hide (fO.out.below aS.out)
    have oO:W.heap.size≤M:=by have:=HB3.out.size;omega
    have Aw:R+1≤M:=by omega
    refine aZ _ (.tmp 27) (.tmp 34) 34 rfl (R+1) 63 i0 _ 5 8 Tryd.underlying34 hi0 hz0 hz1 hz2 rfl (by omega) (.slice x0.rA x0.rn x0.rc) x0.rn (x0.rs.flatMap bN.cells) rfl (au.out.r x0 hxm).1 (M+2) (some ⟨M+1,0,none⟩) 1 1 (bN.cells ⟨b,⟨ms,md,mp,mq⟩⟩) (by simp[Act.eval,Act.put,hsz5]) ⟨rfl,fun _=>⟨_,rfl,Nat.lt_succ_self _,fun j' u hu=>by
     rw[addr_add,Nat.zero_add]
     exact aO.out.get j' u (by simpa[bN.cells]using hu)⟩⟩ (bN.one _) (by simp only[maxLen];omega) (by omega) (by omega) ?_
    intro v9 w9 aH aN bX
    obtain⟨g9,c9,rfl,_⟩:=aH.form (by omega)
    have lJ:(Value.slice x0.rA x0.rn x0.rc).ownBlock ≠some gd:=jd au.out.d (au.out.r x0 hxm).1 (by decide) rfl
    have dh:=hide (au.out.mY vo.out aH aN bX)
    have aT:=hide (show Bx w9 R #[.slice (some ⟨gd,0,none⟩) (k+1) cd,L,.bool false] 41 from(fq.out.below aS.out).same (aY aN (by omega) (fun e=>by have:=((au.out.r x0 hxm).1.lt _ e).1;omega)))
    have bS:=hide (show Below R W w9 from(aS.out.mono (by omega)).grown aN (by omega) (fun q hq=>by have:=((au.out.r x0 hxm).1.lt _ hq).1;omega))
    have s0:w9.cell? ⟨gd,k*7+5,none⟩=some (.slice x0.rA x0.rn x0.rc):=(World.cell?_of_block (a:=⟨gd,k*7+5,none⟩) (aY aN (by show gd<_;omega) lJ)).trans bW.out.1
    have f0:w9.frozen? ⟨gd,k*7+5,none⟩=false:=(bV au.out.d (au.out.r x0 hxm).1 (by decide) aN).frozenAt _
    clear aH aN bX au
    refine hK.out _ _ ?_
    clear hK K inv
    intro inv
    try simp only[Act.put,aB,aC,aD]
    refine rT 13 inv fun K hK=>?_
    go_simp
    refine hK.out _ _ ?_
    clear hK K inv
    intro inv
    try simp only[Act.put,aB,aC,aD]
    refine rT 14 inv fun K hK=>?_
    go_simp
    refine hK.out _ _ ?_
    clear hK K inv
    intro inv
    try simp only[Act.put,aB,aC,aD]
    refine rT 15 inv fun K hK=>?_
    go_simp
    refine hK.out _ _ ?_
    clear hK K inv
    intro inv
    try simp only[Act.put,aB,aC,aD]
    refine rD ?_
    clear inv
    clear s0 f0
    rw[hk]at dh
    generalize hW:World.setCell w9 _ _=fH at*
    go_wp2_with fail
    go_ret
    refine⟨?_,.inr ⟨_,nX.out,rfl,_,_,_,?_,dh.out,by simp[ah.dev]⟩⟩
    ·rw[← hW];exact bS.out.setCell (by show R≤gd;omega) _
    ·rw[← hW,hlen,hk]
     exact(aT.out.far _ _ (by show R≠gd;omega))
   ·have HF:=hide (bC.out (.inl (by omega)))
    go_wp2_with fail
    go_ret
    exact⟨(HB3.out.mono (by omega)).alloc gy _,.inl ⟨HF.out,rfl⟩⟩
   ·have HF:=hide (bC.out (.inl (by omega)))
    go_wp2_with fail
    go_ret
    exact⟨(HB3.out.mono (by omega)).alloc gy _,.inl ⟨HF.out,rfl⟩⟩
  ·refine(HJ.out (some ⟨g,1,none⟩) (n - 1) (cap - 1) w1 (eT.out) (by omega) (by omega)).mono ?_
   rintro e w2 ⟨rfl,hb2⟩
   have HB2:=hide (HB1.out.trans (hb2.mono HB1.out.size))
   have oN:=hide (nW.out.below hb2)
   clear eU eT HJ hb2 nW HB1
   go_wp2_with fail
   refine(fG.out _ oN.out).mono ?_
   rintro e w3 ⟨rfl,hb3⟩
   have HB3:=hide ((HB2.out.trans (hb3.mono HB2.out.size)))
   have gy:R≤w3.heap.size:=by have:=HB3.out.size;omega
   clear fG oN HB2 hb3
   rcases HE.out with rfl | rfl | rfl
   ·obtain⟨M,hM⟩:∃M,w3.heap.size=M:=⟨_,rfl⟩
    have aK:=hide (HB3.out.alloc (Nat.le_trans HB3.out.size (Nat.le_refl _)) (.cells #[.int .u16 (ms:Int),.int .u16 (md:Int),.int .u8 (mp:Int),.int .u8 (mq:Int)] 61))
    have bJ:=hide (Bx.new w3 #[.int .u16 (ms:Int),.int .u16 (md:Int),.int .u8 (mp:Int),.int .u8 (mq:Int)] 61)
    have qK:(w3.alloc (.cells #[.int .u16 (ms:Int),.int .u16 (md:Int),.int .u8 (mp:Int),.int .u8 (mq:Int)] 61)).heap.size =M+1:=by simp[hM]
    rw[hM]at bJ gy
    have hn0:(0:Int)<(n:Int):=by omega
    have hn1:0<n:=by omega
    have nX:=hide (HF.out rfl)
    clear bC HF HE eT eU
    go_wp2_with fail
    generalize World.alloc w3 _=w4 at*
    have HS:=hide (fun(w':World) (h:Below w4.heap.size w4 w')=>show w'.cell? ⟨gd,k*7+5,none⟩=some (.slice x0.rA x0.rn x0.rc)∧w'.cell? ⟨g,0,none⟩=some (.string ⟨x.toArray⟩)∧w'.cell? ⟨M,0,none⟩=some (.int .u16 (ms:Int))∧w'.cell? ⟨M,1,none⟩=some (.int .u16 (md:Int))∧w'.cell? ⟨M,2,none⟩=some (.int .u8 (mp:Int))∧w'.cell? ⟨M,3,none⟩=some (.int .u8 (mq:Int))from
     ⟨(HQ.out w' (aK.out.trans (h.mono aK.out.size))).1,(HQ.out w' (aK.out.trans (h.mono aK.out.size))).2.1,(bJ.out.below h).get 0 _ rfl,(bJ.out.below h).get 1 _ rfl,(bJ.out.below h).get 2 _ rfl,(bJ.out.below h).get 3 _ rfl⟩)
    refine bF (fun w'=>w'.cell? ⟨gd,k*7+5,none⟩=some (.slice x0.rA x0.rn x0.rc)∧w'.cell? ⟨g,0,none⟩=some (.string ⟨x.toArray⟩)∧w'.cell? ⟨M,0,none⟩=some (.int .u16 (ms:Int))∧w'.cell? ⟨M,1,none⟩=some (.int .u16 (md:Int))∧w'.cell? ⟨M,2,none⟩=some (.int .u8 (mp:Int))∧w'.cell? ⟨M,3,none⟩=some (.int .u8 (mq:Int))) 12 (by kernel_rfl) (HS.out _ (Below.refl _ _).drew) (fun hS inv=>?_)
    have bK:=hide (aK.out.drew)
    have iA:=hide (show Below w4.heap.size w4 w4.drew from(Below.refl _ _).drew)
    have hsz5:w4.drew.heap.size=M+1:=qK
    generalize World.drew w4=wd at*
    revert inv
    refine rP 0 hS ?_
    refine rP 1 hS ?_
    refine rP 2 hS ?_
    refine rP 3 hS ?_
    refine rL 4 [12] rfl hS (by intro w hSw;obtain⟨s0,s1,s2,s3,s4,s5⟩:=hSw;go_simp;try with_reducible rfl) ?_
    refine rP 5 hS ?_
    refine rP 6 hS ?_
    refine rL 7 [8,10,11,12] rfl hS (by intro w hSw;obtain⟨s0,s1,s2,s3,s4,s5⟩:=hSw;go_simp;try with_reducible rfl) ?_
    refine rP 8 hS ?_
    refine rL 9 [10,11,12] rfl hS (by intro w hSw;obtain⟨s0,s1,s2,s3,s4,s5⟩:=hSw;go_simp;try with_reducible rfl) ?_
    refine rP 10 hS ?_
    intro inv
    refine rO 11 inv fun K hK=>?_
    go_simp
    have ak:=below_alloc2 wd (.cells #[.bool b,.int .u16 (ms:Int),.int .u16 (md:Int),.int .u8 (mp:Int),.int .u8 (mq:Int)] 63)
    have aO:=hide (Bx.new wd #[.bool b,.int .u16 (ms:Int),.int .u16 (md:Int),.int .u8 (mp:Int),.int .u8 (mq:Int)] 63)
    have bW:=hide (HS.out _ (iA.out.trans (ak.mono (by omega))))
    have aS:=hide (bK.out.trans (ak.mono bK.out.size))
    have iD:(wd.alloc (.cells #[.bool b,.int .u16 (ms:Int),.int .u16 (md:Int),.int .u8 (mp:Int),.int .u8 (mq:Int)] 63)).heap.size =M+2:=by simp;omega
    rw[hsz5]at aO
    clear ak bK iA hS
    generalize World.alloc wd _=aA at*
    have hS:=bW.out
    refine hK.out _ _ (fun _=>hS) ?_
    clear hK K hS inv
    intro inv
    try simp only[Act.put,aB,aC,aD]
    refine rT 12 inv fun K hK=>?_
    rw[if_pos (by rfl)]
    obtain⟨i0,hi0,hz0,hz1,hz2⟩:=info_parts Tryd.infoRule
    have hxm:x0∈ds0++[x0]:=List.mem_append_right _ (List.mem_singleton.2 rfl)
    have au:=hide (fO.out.below aS.out)
    have oO:W.heap.size≤M:=by have:=HB3.out.size;omega
    have Aw:R+1≤M:=by omega
    refine aZ _ (.tmp 27) (.tmp 34) 34 rfl (R+1) 63 i0 _ 5 8 Tryd.underlying34 hi0 hz0 hz1 hz2 rfl (by omega) (.slice x0.rA x0.rn x0.rc) x0.rn (x0.rs.flatMap bN.cells) rfl (au.out.r x0 hxm).1 (M+2) (some ⟨M+1,0,none⟩) 1 1 (bN.cells ⟨b,⟨ms,md,mp,mq⟩⟩) (by simp[Act.eval,Act.put,hsz5]) ⟨rfl,fun _=>⟨_,rfl,Nat.lt_succ_self _,fun j' u hu=>by
     rw[addr_add,Nat.zero_add]
     exact aO.out.get j' u (by simpa[bN.cells]using hu)⟩⟩ (bN.one _) (by simp only[maxLen];omega) (by omega) (by omega) ?_
    intro v9 w9 aH aN bX
    obtain⟨g9,c9,rfl,_⟩:=aH.form (by omega)
    have lJ:(Value.slice x0.rA x0.rn x0.rc).ownBlock ≠some gd:=jd au.out.d (au.out.r x0 hxm).1 (by decide) rfl
    have dh:=hide (au.out.mY vo.out aH aN bX)
    have aT:=hide (show Bx w9 R #[.slice (some ⟨gd,0,none⟩) (k+1) cd,L,.bool false] 41 from(fq.out.below aS.out).same (aY aN (by omega) (fun e=>by have:=((au.out.r x0 hxm).1.lt _ e).1;omega)))
    have bS:=hide (show Below R W w9 from(aS.out.mono (by omega)).grown aN (by omega) (fun q hq=>by have:=((au.out.r x0 hxm).1.lt _ hq).1;omega))
    have s0:w9.cell? ⟨gd,k*7+5,none⟩=some (.slice x0.rA x0.rn x0.rc):=(World.cell?_of_block (a:=⟨gd,k*7+5,none⟩) (aY aN (by show gd<_;omega) lJ)).trans bW.out.1
    have f0:w9.frozen? ⟨gd,k*7+5,none⟩=false:=(bV au.out.d (au.out.r x0 hxm).1 (by decide) aN).frozenAt _
    clear aH aN bX au
    refine hK.out _ _ ?_
    clear hK K inv
    intro inv
    try simp only[Act.put,aB,aC,aD]
    refine rT 13 inv fun K hK=>?_
    go_simp
    refine hK.out _ _ ?_
    clear hK K inv
    intro inv
    try simp only[Act.put,aB,aC,aD]
    refine rT 14 inv fun K hK=>?_
    go_simp
    refine hK.out _ _ ?_
    clear hK K inv
    intro inv
    try simp only[Act.put,aB,aC,aD]
    refine rT 15 inv fun K hK=>?_
    go_simp
    refine hK.out _ _ ?_
    clear hK K inv
    intro inv
    try simp only[Act.put,aB,aC,aD]
    refine rD ?_
    clear inv
    clear s0 f0
    rw[hk]at dh
    generalize hW:World.setCell w9 _ _=fH at*
    go_wp2_with fail
    go_ret
    refine⟨?_,.inr ⟨_,nX.out,rfl,_,_,_,?_,dh.out,by simp[ah.dev]⟩⟩
    ·rw[← hW];exact bS.out.setCell (by show R≤gd;omega) _
    ·rw[← hW,hlen,hk]
     exact(aT.out.far _ _ (by show R≠gd;omega))
   ·have HF:=hide (bC.out (.inl (by omega)))
    go_wp2_with fail
    go_ret
    exact⟨(HB3.out.mono (by omega)).alloc gy _,.inl ⟨HF.out,rfl⟩⟩
   ·have HF:=hide (bC.out (.inl (by omega)))
    go_wp2_with fail
    go_ret
    exact⟨(HB3.out.mono (by omega)).alloc gy _,.inl ⟨HF.out,rfl⟩⟩
end Go.Proofs.YtifkacnoiocebaaDoor
