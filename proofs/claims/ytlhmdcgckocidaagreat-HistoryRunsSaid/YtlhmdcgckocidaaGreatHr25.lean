/- A part of the proof: G7. -/
import Derived.Test.YtlhmdcgckocidaaGreatHr3
import Derived.Deep.RegionHeld3
import Derived.IntWalk
set_option linter.unusedVariables false
set_option linter.unusedSimpArgs false
set_option maxRecDepth 100000
set_option maxHeartbeats 8000000
namespace Go.Proofs.YtlhmdcgckocidaaGreat
open ak Go.Maps Go.RowKit
def lW (vars c:Nat):gP:=fun u=>c.testBit (vars - 1 - u)
def aT (F:ak.Fn) (i:Nat) (b:Bool):ak.Fn:=fun x=>F (upd x i b)
theorem Kq (x:gP) {u v:Nat} (a b:Bool) (h:u≠v):upd (upd x u a) v b=upd (upd x v b) u a:=by
 funext w;simp only[upd]
 by_cases e1:w=v
 ·subst e1;simp[Ne.symm h]
 ·by_cases e2:w=u
  ·subst e2;simp[h]
  ·simp[e1,e2]
theorem MS {vars:Nat} {ns:List ak.Node} (ok:Ok vars ns) {f i:Nat} (hf:f<ns.length) (hi:i<var ns f) (b:Bool):aT (den ns f) i b=den ns f:=by
 funext x
 exact indep ok f hf _ _ (fun u hu=>jH x b (by omega))
theorem Dc {vars:Nat} {ns:List ak.Node} (ok:Ok vars ns) {f k:Nat} (hf:f<ns.length) (hk:k≤var ns f) (i:Nat) (b:Bool):∀x y:gP,(∀u,k≤u→x u=y u)→aT (den ns f) i b x=aT (den ns f) i b y:=fun x y h=>by
 refine oJ ok hf hk _ _ (fun u hu=>?_)
 simp only[upd]
 split
 ·rfl
 ·exact h u hu
theorem Vf {vars:Nat} {ns:List ak.Node} (ok:Ok vars ns) {f:Nat} {n:ak.Node} (hn:ns[f]?=some n) (h2:2≤f) {i:Nat} (b:Bool) (hi:n.v≠i):aT (den ns n.lo) i b=fun x=>aT (den ns f) i b (upd x n.v false):=by
 funext x
 simp only[aT]
 rw[Kq x false b hi,y8 ok hn h2]
theorem Vg {vars:Nat} {ns:List ak.Node} (ok:Ok vars ns) {f:Nat} {n:ak.Node} (hn:ns[f]?=some n) (h2:2≤f) {i:Nat} (b:Bool) (hi:n.v≠i):aT (den ns n.hi) i b=fun x=>aT (den ns f) i b (upd x n.v true):=by
 funext x
 simp only[aT]
 rw[Kq x true b hi,y7 ok hn h2]
def qm (a:Nat):Value:=.int .i64 (a:Int)
def nN (a:Nat):Prop:=a<65536
theorem Y2:∃L:List Nat,L.length<9223372036854775807∧∀a,nN a→a∈L:=⟨List.range 65536,by simp,fun a ha=>List.mem_range.2 ha⟩
theorem Cw:wS Tryz.prog 3 qm nN:=
 ⟨int_keyed Tryz.underlying3,fun a ha=>⟨_,keyOf_int_mk Tryz.underlying3 (Ew a ha)⟩,fun a b h=>by simp[qm]at h;omega,Y2⟩
def wZ (A:St) (S:Nat→Option Value) (i:Nat) (b:Bool):Prop:=
 ∀f x,S f=some x→∃r:Nat,x= .int .i64 (r:Int)∧(A.full=false→f<A.ns.length∧r<A.ns.length∧den A.ns r=aT (den A.ns f) i b)
theorem wZ.ext {A A':St} {S:Nat→Option Value} {i:Nat} {b:Bool} (h:wZ A S i b) (he:Ext A A') (hi:Inv A):wZ A' S i b:=fun f x hx=>by
 obtain⟨r,e,h1⟩:=h f x hx
 refine⟨r,e,fun hf=>?_⟩
 obtain⟨h2,h3,h4⟩:=h1 (he.qV hf)
 exact⟨Nat.lt_of_lt_of_le h2 he.len,Nat.lt_of_lt_of_le h3 he.len,by rw[he.den hi h3,he.den hi h2,h4]⟩
def Fs (g nb kb ib sb:Nat) (k:Nat):Prop:=Fp g nb kb ib k∨k=sb
structure WS (w:World) (B g nb kb ib sb:Nat) (T:bC→Option Value) (i:Nat) (b:Bool) (w1:World) (bg aZ:Nat) (A1:St) (K1:bC→Option Value) (S1:Nat→Option Value):Prop where
 ar:aN w1 B g bg kb ib aZ A1 K1 T
 jc:bg=nb∨w.heap.size≤bg
 fm:dX (Fs g nb kb ib sb) w w1
 sm:aS Tryz.prog 3 qm nN w1 sb S1
 sk:wZ A1 S1 i b
def zW (w:World) (B g nb kb ib sb:Nat) (A:St) (T:bC→Option Value) (i:Nat) (b:Bool) (F:ak.Fn) (k:Nat) (e:Ending) (W':World):Prop:=
 ∃(r nb' cap':Nat) (A':St) (K':bC→Option Value) (S':Nat→Option Value),e= .returned (.int .i64 (r:Int))∧nL A A' r F k∧WS w B g nb kb ib sb T i b W' nb' cap' A' K' S'
theorem WS.trans {w:World} {B g nb kb ib sb:Nat} {T:bC→Option Value} {i:Nat} {b:Bool} {w1 w2:World} {bg aZ dw cap2:Nat} {A1 A2:St} {K1 K2:bC→Option Value} {S1 S2:Nat→Option Value}
  (hlt:nb<w.heap.size) (h:WS w B g nb kb ib sb T i b w1 bg aZ A1 K1 S1) (h2:WS w1 B g bg kb ib sb T i b w2 dw cap2 A2 K2 S2):WS w B g nb kb ib sb T i b w2 dw cap2 A2 K2 S2:=by
 have hs:=h.fm.size
 refine⟨h2.ar,?_,h.fm.trans h2.fm (fun k hk hS=>?_),h2.sm,h2.sk⟩
 ·rcases h2.jc with e | e
  ·rw[e];exact h.jc
  ·exact .inr (by omega)
 ·rcases hS with(e | e | e | e) | e
  ·exact .inl (.inl e)
  ·rcases h.jc with e' | e'
   ·exact .inl (.inr (.inl (e.trans e')))
   ·omega
  ·exact .inl (.inr (.inr (.inl e)))
  ·exact .inl (.inr (.inr (.inr e)))
  ·exact .inr e
theorem WS.start {w:World} {B g nb kb ib sb cap:Nat} {A:St} {K T:bC→Option Value} {S:Nat→Option Value} {i:Nat} {b:Bool} (h:aN w B g nb kb ib cap A K T) (hs:aS Tryz.prog 3 qm nN w sb S) (hk:wZ A S i b):WS w B g nb kb ib sb T i b w nb cap A K S:=
 ⟨h,.inl rfl,dX.refl _ _,hs,hk⟩
theorem WS.below {w:World} {B g nb kb ib sb:Nat} {T:bC→Option Value} {i:Nat} {b:Bool} {w1 w2:World} {bg aZ:Nat} {A1:St} {K1:bC→Option Value} {S1:Nat→Option Value}
  (h:WS w B g nb kb ib sb T i b w1 bg aZ A1 K1 S1) (hb:RowKit.Below w1.heap.size w1 w2):WS w B g nb kb ib sb T i b w2 bg aZ A1 K1 S1:=
 ⟨h.ar.below hb,h.jc,h.fm.trans (dX.of_below hb) (fun _ _ h=>h),h.sm.same (hb.block _ h.sm.lt),h.sk⟩
theorem WS.base {w w0:World} {B g nb kb ib sb:Nat} {T:bC→Option Value} {i:Nat} {b:Bool} {w1:World} {bg aZ:Nat} {A1:St} {K1:bC→Option Value} {S1:Nat→Option Value}
  (hb:RowKit.Below w.heap.size w w0) (h:WS w0 B g nb kb ib sb T i b w1 bg aZ A1 K1 S1):WS w B g nb kb ib sb T i b w1 bg aZ A1 K1 S1:=
 ⟨h.ar,h.jc.imp id (fun h=>by have:=hb.size;omega),(dX.of_below hb).trans h.fm (fun _ _ h=>h),h.sm,h.sk⟩
theorem WS.block {w:World} {B g nb kb ib sb:Nat} {T:bC→Option Value} {i:Nat} {b:Bool} {w1:World} {bg aZ:Nat} {A1:St} {K1:bC→Option Value} {S1:Nat→Option Value}
  (h:WS w B g nb kb ib sb T i b w1 bg aZ A1 K1 S1) {N:Nat} (hN:N<w.heap.size) (hn:¬Fs g nb kb ib sb N):w1.heap[N]?=w.heap[N]?:=h.fm.block N hN hn
theorem EM {m:Nat} {i:Nat} {b:Bool}
  (ih:∀(w:World) (B g nb kb ib sb cap:Nat) (A:St) (K T:bC→Option Value) (S:Nat→Option Value) (h:aN w B g nb kb ib cap A K T) (hs:aS Tryz.prog 3 qm nN w sb S) (hk:wZ A S i b) (hsb:¬Fp g nb kb ib sb) (f:Nat) (hf:f<A.ns.length) (hi:i<A.vars) (hm:f<m),
   Calls Tryz.prog 205 #[.pointer (some ⟨g,0,none⟩),.int .i64 f,.int .i64 i,.bool b,.map (some sb)] w (zW w B g nb kb ib sb A T i b (aT (den A.ns f) i b) (var A.ns f)))
  {w:World} {B g nb kb ib sb:Nat} {T:bC→Option Value} {w1:World} {bg aZ:Nat} {A A1:St} {K1:bC→Option Value} {S1:Nat→Option Value} (hlt:nb<w.heap.size) (hsl:sb<w.heap.size) (hsb:¬Fp g nb kb ib sb)
  (h:WS w B g nb kb ib sb T i b w1 bg aZ A1 K1 S1) (hA:Inv A) (he:Ext A A1) (f:Nat) (hf:f<A.ns.length) (hi:i<A.vars) (hm:f<m):
  Calls Tryz.prog 205 #[.pointer (some ⟨g,0,none⟩),.int .i64 f,.int .i64 i,.bool b,.map (some sb)] w1
   (fun e w2=>∃(r dw cap2:Nat) (A2:St) (K2:bC→Option Value) (S2:Nat→Option Value),e= .returned (.int .i64 (r:Int))∧nL A1 A2 r (aT (den A.ns f) i b) (var A.ns f)∧WS w B g nb kb ib sb T i b w2 dw cap2 A2 K2 S2):=by
 have aeY:¬Fp g bg kb ib sb:=fun hS=>by
  rcases hS with e | e | e | e
  ·exact hsb (.inl e)
  ·rcases h.jc with e' | e'
   ·exact hsb (.inr (.inl (e.trans e')))
   ·omega
  ·exact hsb (.inr (.inr (.inl e)))
  ·exact hsb (.inr (.inr (.inr e)))
 refine(ih w1 B g bg kb ib sb aZ A1 K1 T S1 h.ar h.sm h.sk aeY f (Nat.lt_of_lt_of_le hf he.len) (by rw[he.vars];exact hi) hm).mono ?_
 rintro e w2 ⟨r,dw,cap2,A2,K2,S2,he2,hr,hws⟩
 rw[he.den hA hf,he.var hf]at hr
 exact⟨r,dw,cap2,A2,K2,S2,he2,hr,h.trans hlt hws⟩
theorem Y3 {w:World} {B g nb kb ib sb:Nat} {T:bC→Option Value} {i:Nat} {b:Bool} {w1:World} {bg aZ:Nat} {A A1 A2:St} {K1:bC→Option Value} {S1:Nat→Option Value} {F L H:ak.Fn} {v lo hi:Nat} (hlt:nb<w.heap.size) (hsl:sb<w.heap.size) (hsb:¬Fp g nb kb ib sb)
  (h:WS w B g nb kb ib sb T i b w1 bg aZ A2 K1 S1) (hA:Inv A) (hv:v<A.vars) (hF:∀x y:gP,(∀u,v≤u→x u=y u)→F x=F y) (hL:L=fun x=>F (upd x v false)) (hH:H=fun x=>F (upd x v true)) (r1:nL A A1 lo L (v+1)) (r2:nL A1 A2 hi H (v+1)):
  Calls Tryz.prog 201 #[.pointer (some ⟨g,0,none⟩),.int .i64 v,.int .i64 lo,.int .i64 hi] w1
   (fun e w2=>∃(r dw cap2:Nat) (A3:St) (K2:bC→Option Value),e= .returned (.int .i64 (r:Int))∧nL A A3 r F v∧WS w B g nb kb ib sb T i b w2 dw cap2 A3 K2 S1):=by
 have e1:=r1.ext.vars
 have e2:=r2.ext.vars
 have l1:=r1.lt
 have l2:=r2.lt
 have WK:=r2.ext.len
 have g1:=r1.ge
 have g2:=r2.ge
 rw[← r2.ext.var l1]at g1
 simp only[St.len]at l1 l2 WK
 refine(xZ h.ar v lo hi (by omega) (by omega) l2 (by omega) (by omega)).mono ?_
 rintro e w2 ⟨x,dw,cap2,A3,K2,rfl,qD,har,hnb,hfm⟩
 have hres:=zM hA hv hF hL hH r1 r2 qD
 have hx3:Ext A2 A3:=qD.ext r2.ext.inv (by omega) (by simp only[St.len];omega) (by simp only[St.len];omega) (by omega) (by omega)
 have hsl1:=h.sm.lt
 have hsn:¬Fp g bg kb ib sb:=fun hS=>by
  rcases hS with e | e | e | e
  ·exact hsb (.inl e)
  ·rcases h.jc with e' | e'
   ·exact hsb (.inr (.inl (e.trans e')))
   ·omega
  ·exact hsb (.inr (.inr (.inl e)))
  ·exact hsb (.inr (.inr (.inr e)))
 exact⟨x,dw,cap2,A3,K2,rfl,hres,h.trans hlt ⟨har,hnb,hfm.mono (fun _ _ h=>.inl h),h.sm.same (hfm.block _ hsl1 hsn),h.sk.ext hx3 h.ar.inv⟩⟩
theorem Vh {w:World} {B g nb kb ib sb:Nat} {T:bC→Option Value} {i:Nat} {b:Bool} {u w7:World} {bg aZ:Nat} {A A1:St} {K1:bC→Option Value} {S1:Nat→Option Value} {f r k:Nat} (hsl:sb<w.heap.size) (hsb:¬Fp g nb kb ib sb)
  (h:WS w B g nb kb ib sb T i b u bg aZ A1 K1 S1) (hA:Inv A) (hf:f<A.ns.length) (hr:nL A A1 r (aT (den A.ns f) i b) k)
  (h7:aS Tryz.prog 3 qm nN w7 sb (iT S1 f (.int .i64 (r:Int)))) (hg:u.grownBy w7 (some sb)):WS w B g nb kb ib sb T i b w7 bg aZ A1 K1 (iT S1 f (.int .i64 (r:Int))):=by
 have hs:=h.fm.size
 obtain⟨l1,l2,l3,l4,_⟩:=h.ar.pO
 have hbk:∀j,j<u.heap.size→j≠sb→w7.heap[j]?=u.heap[j]?:=fun j hj hn=>hg.block j hj (fun e=>hn (Option.some.inj e))
 have n1:g≠sb:=fun e=>hsb (.inl e.symm)
 have n2:bg≠sb:=fun e=>by
  rcases h.jc with e' | e'
  ·exact hsb (.inr (.inl (by omega)))
  ·omega
 have n3:kb≠sb:=fun e=>hsb (.inr (.inr (.inl e.symm)))
 have n4:ib≠sb:=fun e=>hsb (.inr (.inr (.inr e.symm)))
 refine⟨h.ar.keep (hbk g l1 n1) (hbk bg l2 n2) (hbk kb l3 n3) (hbk ib l4 n4),h.jc,h.fm.trans (dX.oH (S:=Fs g nb kb ib sb) hg (fun k hk _=>by cases hk;exact .inr rfl)) (fun _ _ h=>h),h7,?_⟩
 intro f' x hx
 by_cases e:f'=f
 ·subst e
  rw[lJ]at hx
  cases hx
  exact⟨r,rfl,fun hnf=>⟨Nat.lt_of_lt_of_le hf hr.ext.len,hr.lt,by rw[hr.eq hnf,hr.ext.den hA hf]⟩⟩
 ·rw[jD _ _ e]at hx
  exact h.sk f' x hx
theorem Sj (w:World):(zeroValue 3).run Tryz.prog w= .ok (.int .i64 0) w:=by kernel_rfl
theorem Sl (i:Nat) (b:Bool) (m:Nat):∀(w:World) (B g nb kb ib sb cap:Nat) (A:St) (K T:bC→Option Value) (S:Nat→Option Value) (h:aN w B g nb kb ib cap A K T) (hs:aS Tryz.prog 3 qm nN w sb S) (hk:wZ A S i b) (hsb:¬Fp g nb kb ib sb) (f:Nat) (hf:f<A.ns.length) (hi:i<A.vars) (hm:f<m),
  Calls Tryz.prog 205 #[.pointer (some ⟨g,0,none⟩),.int .i64 f,.int .i64 i,.bool b,.map (some sb)] w (zW w B g nb kb ib sb A T i b (aT (den A.ns f) i b) (var A.ns f)):=by
 induction m with
 |zero=>intro w B g nb kb ib sb cap A K T S h hs hk hsb f hf hi hm;omega
 |succ m ih=>
  intro w B g nb kb ib sb cap A K T S h hs hk hsb f hf hi hm
  have IH:=hide ih
  clear ih
  have ok:=h.inv.ok
  have hlen:=h.qC
  have hvs:=h.vs
  obtain⟨l1,l2,l3,l4,l5⟩:=h.pO
  have ls:=hs.lt
  obtain⟨n,hn⟩:=eF hf
  have hvf:var A.ns f=n.v:=eu hn
  have aeZ:=Eu ok hf
  have c2:=h.c2
  have c5:=h.c5
  obtain⟨d0,d1,d2⟩:=h.node hn
  have hb0:RowKit.Below w.heap.size w (w.alloc (.cells #[.int .i64 n.v,.int .i64 n.lo,.int .i64 n.hi] 179)):=(RowKit.Below.refl _ _).alloc (Nat.le_refl _) _
  have HW0:=hide (WS.start h hs hk)
  have HW1:=hide ((WS.start h hs hk).below hb0)
  have HB0:=hide hb0
  have jV:=hide (And.intro l2 (And.intro ls hsb))
  rw[hvf]
  have HVF:=hide hvf
  have HH:=hide h
  cases hfull:A.full
  case true=>
   rw[hfull]at c5
   have HF:=hide (show zW w B g nb kb ib sb A T i b (aT (den A.ns f) i b) n.v (.returned (.int .i64 ((0:Nat):Int))) (w.alloc (.cells #[.int .i64 n.v,.int .i64 n.lo,.int .i64 n.hi] 179))from
    ⟨0,nb,cap,A,K,S,rfl,UN h.inv hfull (by omega),HW1.out⟩)
   clear h hs hk hsb ok hvf
   go_enter Tryz.func205,Tryz.ntmps205
   go_wp2
   go_ret
   exact HF.out
  rw[hfull]at c5
  have c5':∀ob,(w.alloc ob).cell? ⟨g,5,none⟩=some (.bool false):=fun ob=>(World.cell?_alloc_lt _ _ _ (by show g<_;omega)).trans c5
  by_cases h1:i<n.v
  ·have h1':decide ((i:Int)<(n.v:Int))=true:=by simp;omega
   have HF:=hide (show zW w B g nb kb ib sb A T i b (aT (den A.ns f) i b) n.v (.returned (.int .i64 (f:Int))) (w.alloc (.cells #[.int .i64 n.v,.int .i64 n.lo,.int .i64 n.hi] 179))from
    ⟨f,nb,cap,A,K,S,rfl,lI h.inv hf (by omega) (fun _=>(MS ok hf (by omega) b).symm),HW1.out⟩)
   clear h hs hk hsb ok hvf
   go_enter Tryz.func205,Tryz.ntmps205
   go_wp2
   go_ret
   exact HF.out
  have h1':decide ((i:Int)<(n.v:Int))=false:=by simp;omega
  by_cases h2:n.v=i
  ·have h2':((n.v:Int)==(i:Int))=true:=by simp;omega
   obtain⟨r,hr⟩:∃r,ak.part A.ns f i b=r:=⟨_,rfl⟩
   have hlt:=Cr ok hf hi b
   have hpv:=zN ok hf hi (by omega) b
   have hpd:=zO ok hf hi (by omega) b
   rw[hr]at hlt hpv hpd
   have HF:=hide (fun w' (hb:RowKit.Below (w.alloc (.cells #[.int .i64 n.v,.int .i64 n.lo,.int .i64 n.hi] 179)).heap.size (w.alloc (.cells #[.int .i64 n.v,.int .i64 n.lo,.int .i64 n.hi] 179)) w')=>show zW w B g nb kb ib sb A T i b (aT (den A.ns f) i b) n.v (.returned (.int .i64 (r:Int))) w' from
    ⟨r,nb,cap,A,K,S,rfl,lI h.inv hlt (by omega) (fun _=>by rw[hpd];rfl),HW1.out.below hb⟩)
   have HP:=hide (NN (HW1.out.ar) f i b hf hr)
   clear h hs hk hsb ok hvf hpd hr h2
   go_enter Tryz.func205,Tryz.ntmps205
   go_wp2_with fail
   refine HP.out.mono ?_
   rintro e w' ⟨rfl,hb⟩
   have qY:=hide (HF.out _ hb)
   clear hb
   go_wp2
   go_ret
   exact qY.out
  have h2':((n.v:Int)==(i:Int))=false:=by simp;omega
  have hdom:nN f:=by show f<_;omega
  have him:=fun(ob:Obj)=>((hs.same (w':=w.alloc ob) (RowKit.Below.heap_alloc _ _ _ ls)).look Cw Tryz.underlying201 (Sj _) hdom).1
  cases ek:S f with
  |some x=>
   obtain⟨r,rfl,hr⟩:=hk f x ek
   obtain⟨_,hrl,hrd⟩:=hr hfull
   have hlk:∀ob,(Instr.lookup 201 (.map (some sb)) (.int .i64 f) true).run Tryz.prog (w.alloc ob)= .ok (.tuple #[.int .i64 r,.bool true]) (w.alloc ob):=fun ob=>by
    have:=him ob
    rw[ek]at this
    exact this
   have HF:=hide (show zW w B g nb kb ib sb A T i b (aT (den A.ns f) i b) n.v (.returned (.int .i64 (r:Int))) (w.alloc (.cells #[.int .i64 n.v,.int .i64 n.lo,.int .i64 n.hi] 179))from
    ⟨r,nb,cap,A,K,S,rfl,lI h.inv hrl (Rq ok hrl (by omega) (fun x y hxy=>by rw[hrd];exact Dc ok hf (by omega) i b x y hxy)) (fun _=>hrd),HW1.out⟩)
   clear h hs hk hsb ok hvf him ek hr hrd
   go_enter Tryz.func205,Tryz.ntmps205
   go_wp2
   go_ret
   exact HF.out
  |none=>
   have hlk:∀ob,(Instr.lookup 201 (.map (some sb)) (.int .i64 f) true).run Tryz.prog (w.alloc ob)= .ok (.tuple #[.int .i64 0,.bool false]) (w.alloc ob):=fun ob=>by
    have:=him ob
    rw[ek]at this
    exact this
   have hf2:2≤f:=(iR ok hf).1 (by omega)
   obtain⟨hv,hl,hh,hne,g1,g2⟩:=ok.node f n hn hf2
   have HR1:=hide (Vf ok hn hf2 b h2)
   have HR2:=hide (Vg ok hn hf2 b h2)
   have HRI:=hide (Dc ok hf (show n.v≤var A.ns f by omega) i b)
   have qU:=hide (show n.v<A.vars∧n.lo<f∧n.hi<f∧n.v+1≤var A.ns n.lo∧n.v+1≤var A.ns n.hi from⟨hv,hl,hh,g1,g2⟩)
   have fI:=hide (And.intro hf (And.intro hi (And.intro hm hdom)))
   have HN:=hide hn
   obtain⟨nv,nlo,nhi⟩:=n
   simp only at*
   have hbx:=heap_alloc_new w (.cells #[.int .i64 nv,.int .i64 nlo,.int .i64 nhi] 179)
   have Sm:¬Fs g nb kb ib sb w.heap.size:=fun hS=>by
    rcases hS with(e | e | e | e) | e<;>omega
   have Kr:w.heap.size<(w.alloc (.cells #[.int .i64 nv,.int .i64 nlo,.int .i64 nhi] 179)).heap.size :=by simp
   have iq:=hide (And.intro hbx (And.intro Sm Kr))
   have Gm:=hide h.inv
   clear h hs hk hsb ok hvf him ek hbx Sm hi hm hdom hn
   go_enter Tryz.func205,Tryz.ntmps205
   go_wp2
   clear hf c2 c5 c5' d0 d1 d2 hlk hfull h1 h2 h1' h2' hv hl hh hne g1 g2 hf2
   generalize hw0:w.alloc _=w0 at*
   obtain⟨N,hN⟩:∃N,w.heap.size=N:=⟨_,rfl⟩
   rw[hN]at iq Kr ⊢
   clear hN hw0
   have x0:w0.cell? ⟨N,0,none⟩=some (.int .i64 nv):=by rw[cell_of_row _ _ _ _ _ _ iq.out.1];rfl
   have x1:w0.cell? ⟨N,1,none⟩=some (.int .i64 nlo):=by rw[cell_of_row _ _ _ _ _ _ iq.out.1];rfl
   have x2:w0.cell? ⟨N,2,none⟩=some (.int .i64 nhi):=by rw[cell_of_row _ _ _ _ _ _ iq.out.1];rfl
   have NP:Hid (WS w0 B g nb kb ib sb T i b w0 nb cap A K S):=hide (WS.start HW1.out.ar HW1.out.sm HW1.out.sk)
   have Vi:nb<w0.heap.size:=Nat.lt_of_lt_of_le jV.out.1 HB0.out.size
   have Pw:sb<w0.heap.size:=Nat.lt_of_lt_of_le jV.out.2.1 HB0.out.size
   have kJ:=hide (fun w1 (hb:RowKit.Below w0.heap.size w0 w1)=>EM IH.out Vi Pw jV.out.2.2 (NP.out.below hb) Gm.out (Ext.refl Gm.out) nlo (by have:=qU.out;have:=fI.out.1;omega) fI.out.2.1 (by have:=qU.out;have:=fI.out;omega))
   have zX:=hide (fun(w1:World) bg aZ A1 K1 S1 (hws:WS w0 B g nb kb ib sb T i b w1 bg aZ A1 K1 S1)=>show w1.cell? ⟨N,0,none⟩=some (.int .i64 nv)∧w1.cell? ⟨N,1,none⟩=some (.int .i64 nlo)∧w1.cell? ⟨N,2,none⟩=some (.int .i64 nhi)from by
    have e:=(hws.block iq.out.2.2 iq.out.2.1).trans iq.out.1
    exact⟨by rw[cell_of_row _ _ _ _ _ _ e];rfl,by rw[cell_of_row _ _ _ _ _ _ e];rfl,by rw[cell_of_row _ _ _ _ _ _ e];rfl⟩)
   go_region_held3 (fun w'=>w'.cell? ⟨N,0,none⟩=some (.int .i64 nv)∧w'.cell? ⟨N,1,none⟩=some (.int .i64 nlo)∧w'.cell? ⟨N,2,none⟩=some (.int .i64 nhi)) (go_keep)
    (first
     |(go_at_call_of 205 (Value.int IntKind.i64 (nlo:Int));refine(kJ.out _ (by exact⟨rfl,rfl,rfl,Nat.le_refl _,fun _ _=>rfl⟩)).mono ?_;rintro e wa ⟨lo',bg,aZ,A1,K1,S1,rfl,hr1,hw1⟩;have aah:=hide hw1;have HRa:=hide hr1;have Sq:=hide (fun w1 (hb:RowKit.Below wa.heap.size wa w1)=>EM IH.out Vi Pw jV.out.2.2 (aah.out.below hb) Gm.out HRa.out.ext nhi (by have:=qU.out;have:=fI.out.1;omega) fI.out.2.1 (by have:=qU.out;have:=fI.out;omega));clear hw1 hr1 x0 x1 x2;obtain⟨x0,x1,x2⟩:=zX.out _ _ _ _ _ _ aah.out)
     |(go_at_call_of 205 (Value.int IntKind.i64 (nhi:Int));refine(Sq.out _ (by first | exact RowKit.Below.refl _ _ | exact⟨rfl,rfl,rfl,Nat.le_refl _,fun _ _=>rfl⟩)).mono ?_;rintro e wb ⟨hi',dw,cap2,A2,K2,S2,rfl,hr2,hw2⟩;have HW2:=hide hw2;have HRb:=hide hr2;clear hw2 hr2 x0 x1 x2;obtain⟨x0,x1,x2⟩:=zX.out _ _ _ _ _ _ HW2.out)
     |(go_at_call 201;have NQ:=hide (fun w1 (hb:RowKit.Below wb.heap.size wb w1)=>Y3 Vi Pw jV.out.2.2 (HW2.out.below hb) Gm.out qU.out.1 HRI.out rfl rfl ((HR1.out▸HRa.out).mono qU.out.2.2.2.1) ((HR2.out▸(HRb.out)).mono qU.out.2.2.2.2));refine(NQ.out _ (by first | exact RowKit.Below.refl _ _ | exact⟨rfl,rfl,rfl,Nat.le_refl _,fun _ _=>rfl⟩)).mono ?_;rintro e wc ⟨r,x9,vI,A3,K3,rfl,hr3,hw3⟩;have HW3:=hide hw3;have HRc:=hide hr3;clear hw3 hr3 x0 x1 x2 NQ;obtain⟨x0,x1,x2⟩:=zX.out _ _ _ _ _ _ HW3.out))
   all_goals
    clear x0 x1 x2
    go_wp2_with (at_mapUpdate;refine jO _ rfl (.tmp 69) (.tmp 70) (.tmp 71) 201 rfl 3 Cw Tryz.underlying201 rfl (HW3.out.sm.same (w':=_) rfl) f fI.out.2.2.2 rfl (.int .i64 (r:Int)) rfl ?_;intro w7 mY eY)
    have HE:=hide (show zW w B g nb kb ib sb A T i b (aT (den A.ns f) i b) nv (.returned (.int .i64 (r:Int))) w7 from
     ⟨r,x9,vI,A3,K3,_,rfl,HRc.out,(Vh Pw jV.out.2.2 HW3.out Gm.out fI.out.1 HRc.out mY ⟨eY.os,eY.tape,eY.output,eY.size,eY.block⟩).base HB0.out⟩)
    clear mY eY
    go_wp2
    go_ret
    exact HE.out
def WF (A:St) (r:Nat) (F:ak.Fn):Prop:=r<A.ns.length∧(A.full=false→den A.ns r=F)
theorem WF.ext {A A':St} {r:Nat} {F:ak.Fn} (h:WF A r F) (i:Inv A) (he:Ext A A'):WF A' r F:=
 ⟨Nat.lt_of_lt_of_le h.1 he.len,fun hf=>(he.den i h.1).trans (h.2 (he.qV hf))⟩
theorem WF.of {A:St} {r:Nat} {F:ak.Fn} (h:dM A r F):WF A r F:=⟨h.1,fun _=>h.2⟩
section
variable {w:World} {B g nb kb ib:Nat} {A:St} {c:Nat} {w1 w2:World} {bg aZ:Nat} {A1:St} {K1 T1:bC→Option Value}
end
theorem Vj {w:World} {B g nb kb ib cap:Nat} {A:St} {K T:bC→Option Value} (h:aN w B g nb kb ib cap A K T) (f i:Nat) (b:Bool) (hf:f<A.ns.length) (hi:i<A.vars):
  Calls Tryz.prog 203 #[.pointer (some ⟨g,0,none⟩),.int .i64 f,.int .i64 i,.bool b] w (tQ w B g nb kb ib A (aT (den A.ns f) i b) (var A.ns f)):=by
 obtain⟨l1,l2,l3,l4,_⟩:=h.pO
 have hb0:RowKit.Below w.heap.size w (w.alloc (.map #[] 0)):=(RowKit.Below.refl _ _).alloc (Nat.le_refl _) _
 have hsb:¬Fp g nb kb ib w.heap.size:=fun hS=>by rcases hS with e | e | e | e<;>omega
 have HC:=hide (Sl i b (f+1) _ B g nb kb ib w.heap.size cap A K T (fun _=>none) (h.below hb0) (aS.made w) (fun f x hx=>by cases hx) hsb f hf hi (Nat.lt_succ_self _))
 have HB0:=hide hb0
 have hmm:=@run_makeMap Tryz.prog
 clear h hb0 hsb hf hi
 go_enter Tryz.func203,Tryz.ntmps203
 go_wp2_with fail
 refine HC.out.mono ?_
 rintro e w2 ⟨r,nb',cap',A',K',S',rfl,hr,hws⟩
 have HF:=hide (show tQ w B g nb kb ib A (aT (den A.ns f) i b) (var A.ns f) (.returned (.int .i64 (r:Int))) w2 from
  ⟨r,nb',cap',A',K',T,rfl,hr,hws.ar,hws.jc.imp id (fun h=>by have:=HB0.out.size;omega),(dX.of_below HB0.out).trans hws.fm (fun k hk hS=>by
   rcases hS with hS | e
   ·exact hS
   ·omega)⟩)
 clear hr hws
 go_wp2
 go_ret
 exact HF.out
section
variable {w:World} {B g nb kb ib:Nat} {A:St} {c:Nat} {w1 w2:World} {bg aZ:Nat} {A1:St} {K1 T1:bC→Option Value}
end
theorem Sr {A:St} (h:A.full=false):oI A=A:=by cases A;simp_all [oI]
def wH (F:ak.Fn) (i:Nat):ak.Fn:=bH (aT F i false) (fun _=>true) (aT F i true)
def sj (F:ak.Fn) (i j:Nat):ak.Fn:=fun x=>F (upd (upd x j (x i)) i (x j))
theorem acp (w:World) (B N:Nat) (hB:N<B) (i j:Int) (hi: -9223372036854775808≤i∧i≤9223372036854775807) (hj: -9223372036854775808≤j∧j≤9223372036854775807) (t:TypeId) {w1:World} (h:w1.heap[N]?=some (.cells #[.int .i64 i,.int .i64 j] t (0,0))):
  dz w1 B (some ⟨N,0,none⟩) 2 [i,j]:=by
 refine⟨rfl,fun x hx=>?_,fun _=>⟨_,0,rfl,hB,fun k x hx=>?_⟩⟩
 ·simp only[List.mem_cons,List.mem_nil_iff,or_false]at hx
  rcases hx with rfl | rfl
  ·exact hi
  ·exact hj
 ·rw[cell_of_row _ _ _ _ _ _ h]
  match k,hx with
  |0,hx=>cases hx;rfl
  |1,hx=>cases hx;rfl
theorem Kt (N B:Nat) (hB:N<B) (i:Int) (hi: -9223372036854775808≤i∧i≤9223372036854775807) (t:TypeId) {w1:World} (h:w1.heap[N]?=some (.cells #[.int .i64 i] t (0,0))):
  dz w1 B (some ⟨N,0,none⟩) 1 [i]:=by
 refine⟨rfl,fun x hx=>?_,fun _=>⟨_,0,rfl,hB,fun k x hx=>?_⟩⟩
 ·simp only[List.mem_cons,List.mem_nil_iff,or_false]at hx
  rw[hx];exact hi
 ·rw[cell_of_row _ _ _ _ _ _ h]
  match k,hx with
  |0,hx=>cases hx;rfl
theorem aai {w:World} {B g nb kb ib cap:Nat} {A:St} {K T:bC→Option Value} (h:aN w B g nb kb ib cap A K T) (o0 o1:Obj):RowKit.Below w.heap.size w ((w.alloc o0).alloc o1)∧aN ((w.alloc o0).alloc o1) B g nb kb ib cap A K T:=by
 have hb:RowKit.Below w.heap.size w ((w.alloc o0).alloc o1):=((RowKit.Below.refl _ _).alloc (Nat.le_refl _) _).alloc (by simp) _
 exact⟨hb,h.below hb⟩
def cntF (vars m:Nat) (F:ak.Fn):Nat:=(List.range (2 ^ m)).countP (fun r=>F (lW vars r))
theorem NT (vars m:Nat) (F:ak.Fn):cntF vars m F≤2 ^ m:=by
 have:=List.countP_le_length (p:=fun r=>F (lW vars r)) (l:=List.range (2 ^ m))
 simpa[cntF]using this
theorem Px (vars m:Nat):cntF vars m (fun _=>false)=0:=by simp[cntF]
theorem Sv (vars m:Nat):cntF vars m (fun _=>true)=2 ^ m:=by simp[cntF]
theorem Hz (vars m:Nat) (F:ak.Fn):cntF vars (m+1) F=cntF vars m F+(List.range (2 ^ m)).countP (fun r=>F (lW vars (2 ^ m+r))):=by
 have:2 ^ (m+1)=2 ^ m+2 ^ m:=by rw[Nat.pow_succ];omega
 rw[cntF,this,List.range_add,List.countP_append,List.countP_map]
 rfl
theorem NU {vars m r u:Nat} (hm:m+1≤vars) (hr:r<2 ^ m) (hu:vars - m≤u) (hu2:u<vars):lW vars (2 ^ m+r) u=lW vars r u:=by
 unfold lW
 rw[Nat.testBit_two_pow_add_gt (by omega)]
theorem Bq {l:List Nat} {p q:Nat→Bool} (h:∀r∈l,p r=q r):l.countP p=l.countP q:=List.countP_congr (fun r hr=>by rw[h r hr])
theorem Py {vars m:Nat} {F:ak.Fn} (hm:m+1≤vars) (hB:ak.Below vars F) (hF:∀x y:gP,(∀u,vars - m≤u→x u=y u)→F x=F y):cntF vars (m+1) F=2*cntF vars m F:=by
 rw[Hz,Nat.two_mul]
 congr 1
 refine Bq (fun r hr=>?_)
 have hr:=List.mem_range.1 hr
 have e1:=hB (lW vars (2 ^ m+r)) (fun u=>if u<vars then lW vars (2 ^ m+r) u else lW vars r u) (fun u hu=>by simp[hu])
 rw[e1]
 refine hF _ _ (fun u hu=>?_)
 by_cases h:u<vars
 ·simp only[h,if_true];exact NU hm hr hu h
 ·simp[h]
theorem MV {vars k:Nat} {F:ak.Fn} (hB:ak.Below vars F) (hF:∀x y:gP,(∀u,k≤u→x u=y u)→F x=F y) (hk:k≤vars):∀d,d≤k→cntF vars (vars - k+d) F=cntF vars (vars - k) F*2 ^ d:=by
 intro d
 induction d with
 |zero=>intro _;simp
 |succ d ih=>
  intro hd
  rw[← Nat.add_assoc,Py (by omega) hB (fun x y h=>hF x y (fun u hu=>h u (by omega))),ih (by omega),Nat.pow_succ,Nat.mul_left_comm,Nat.mul_comm 2]
theorem Sy {vars:Nat} {ns:List ak.Node} (ok:Ok vars ns) {f:Nat} {n:ak.Node} (hf:f<ns.length) (hn:ns[f]?=some n) (h2:2≤f):
  cntF vars (vars - n.v) (den ns f)=cntF vars (vars - (n.v+1)) (den ns n.lo)+cntF vars (vars - (n.v+1)) (den ns n.hi):=by
 obtain⟨hv,hl,hh,hne,g1,g2⟩:=ok.node f n hn h2
 obtain⟨m,hm⟩:∃m,vars - n.v=m+1:=⟨vars - n.v - 1,by omega⟩
 have hm':vars - (n.v+1)=m:=by omega
 rw[hm,hm',Hz]
 have hlt:n.lo<ns.length:=by omega
 have hht:n.hi<ns.length:=by omega
 congr 1
 ·refine Bq (fun r hr=>?_)
  have hr:=List.mem_range.1 hr
  rw[kF ok hn h2]
  have:lW vars r n.v=false:=by
   show r.testBit (vars - 1 - n.v)=false
   rw[show vars - 1 - n.v=m by omega]
   exact Nat.testBit_lt_two_pow hr
  rw[this];rfl
 ·refine Bq (fun r hr=>?_)
  have hr:=List.mem_range.1 hr
  rw[kF ok hn h2]
  have:lW vars (2 ^ m+r) n.v=true:=by
   show(2 ^ m+r).testBit (vars - 1 - n.v)=true
   rw[show vars - 1 - n.v=m by omega,Nat.testBit_two_pow_add_eq,Nat.testBit_lt_two_pow hr];rfl
  rw[this]
  show den ns n.hi (lW vars (2 ^ m+r))=den ns n.hi (lW vars r)
  have hB:=xX ok _ hht
  have e1:=hB (lW vars (2 ^ m+r)) (fun u=>if u<vars then lW vars (2 ^ m+r) u else lW vars r u) (fun u hu=>by simp[hu])
  rw[e1]
  refine indep ok n.hi hht _ _ (fun u hu=>?_)
  by_cases h:u<vars
  ·simp only[h,if_true];exact NU (by omega) hr (by omega) h
  ·simp[h]
def WW (A:St) (S:Nat→Option Value):Prop:=∀f x,S f=some x→2≤f∧f<A.ns.length∧x= .int .i64 ((cntF A.vars (A.vars - var A.ns f) (den A.ns f):Nat):Int)
structure CS (w:World) (sb:Nat) (A:St) (w1:World) (S1:Nat→Option Value):Prop where
 sm:aS Tryz.prog 3 qm nN w1 sb S1
 sk:WW A S1
 fm:dX (fun k=>k=sb) w w1
def Ku (w:World) (sb:Nat) (A:St) (c:Nat) (e:Ending) (W':World):Prop:=e= .returned (.int .i64 (c:Int))∧∃S',CS w sb A W' S'
theorem CS.trans {w w1 w2:World} {sb:Nat} {A:St} {S1 S2:Nat→Option Value} (h:CS w sb A w1 S1) (h2:CS w1 sb A w2 S2):CS w sb A w2 S2:=⟨h2.sm,h2.sk,h.fm.trans h2.fm (fun _ _ h=>h)⟩
theorem CS.below {w w1 w2:World} {sb:Nat} {A:St} {S1:Nat→Option Value} (h:CS w sb A w1 S1) (hb:RowKit.Below w1.heap.size w1 w2):CS w sb A w2 S1:=
 ⟨h.sm.same (hb.block _ h.sm.lt),h.sk,h.fm.trans (dX.of_below hb) (fun _ _ h=>h)⟩
theorem CS.base {w w0 w1:World} {sb:Nat} {A:St} {S1:Nat→Option Value} (hb:RowKit.Below w.heap.size w w0) (h:CS w0 sb A w1 S1):CS w sb A w1 S1:=⟨h.sm,h.sk,(dX.of_below hb).trans h.fm (fun _ _ h=>h)⟩
theorem CS.arena {w w1:World} {B g nb kb ib sb cap:Nat} {A:St} {K T:bC→Option Value} {S1:Nat→Option Value} (h:CS w sb A w1 S1) (ha:aN w B g nb kb ib cap A K T) (hsb:¬Fp g nb kb ib sb):aN w1 B g nb kb ib cap A K T:=
 ha.frm h.fm (fun k hk hF=>by subst hk;exact hsb hF)
theorem CS.store {w u w7:World} {sb f:Nat} {A:St} {S1:Nat→Option Value} (h:CS w sb A u S1) (hf2:2≤f) (hf:f<A.ns.length) (mY:aS Tryz.prog 3 qm nN w7 sb (iT S1 f (.int .i64 ((cntF A.vars (A.vars - var A.ns f) (den A.ns f):Nat):Int)))) (hg:u.grownBy w7 (some sb)):
  CS w sb A w7 (iT S1 f (.int .i64 ((cntF A.vars (A.vars - var A.ns f) (den A.ns f):Nat):Int))):=by
 refine⟨mY,fun f' x hx=>?_,h.fm.trans (dX.oH (S:=fun k=>k=sb) hg (fun k hk _=>by cases hk;rfl)) (fun _ _ h=>h)⟩
 by_cases e:f'=f
 ·subst e
  rw[lJ]at hx
  cases hx
  exact⟨hf2,hf,rfl⟩
 ·rw[jD _ _ e]at hx
  exact h.sk f' x hx
theorem Y4 (c d:Nat) (h:c*2 ^ d≤65536):wrap64 ((c:Int)*2 ^ d)=((c*2 ^ d:Nat):Int):=by
 have e:(c:Int)*2 ^ d=((c*2 ^ d:Nat):Int):=by simp
 rw[e]
 generalize c*2 ^ d=x at*
 unfold wrap64;omega
theorem Kv {m:Nat} (h:m≤16):2 ^ m≤65536:=(Nat.pow_le_pow_right (by omega) h:2 ^ m≤2 ^ 16)
theorem Pz (m:Nat):∀(w:World) (B g nb kb ib sb cap:Nat) (A:St) (K T:bC→Option Value) (S:Nat→Option Value) (h:aN w B g nb kb ib cap A K T) (hs:aS Tryz.prog 3 qm nN w sb S) (hk:WW A S) (hsb:¬Fp g nb kb ib sb) (f v:Nat) (hf:f<A.ns.length) (hv:v≤var A.ns f) (hm:f<m),
  Calls Tryz.prog 117 #[.pointer (some ⟨g,0,none⟩),.int .i64 f,.int .i64 v,.map (some sb)] w (Ku w sb A (cntF A.vars (A.vars - v) (den A.ns f))):=by
 induction m with
 |zero=>intro w B g nb kb ib sb cap A K T S h hs hk hsb f v hf hv hm;omega
 |succ m ih=>
  intro w B g nb kb ib sb cap A K T S h hs hk hsb f v hf hv hm
  have IH:=hide ih
  clear ih
  have ok:=h.inv.ok
  have hlen:=h.qC
  have hvs:=h.vs
  obtain⟨l1,l2,l3,l4,l5⟩:=h.pO
  have ls:=hs.lt
  obtain⟨n,hn⟩:=eF hf
  have hvf:var A.ns f=n.v:=eu hn
  have aeZ:=Eu ok hf
  have c2:=h.c2
  have c0:=h.c0
  obtain⟨d0,d1,d2⟩:=h.node hn
  have hb0:RowKit.Below w.heap.size w (w.alloc (.cells #[.int .i64 n.v,.int .i64 n.lo,.int .i64 n.hi] 179)):=(RowKit.Below.refl _ _).alloc (Nat.le_refl _) _
  have HW1:=hide (CS.below (CS.mk hs hk (dX.refl _ _)) hb0)
  have HB0:=hide hb0
  by_cases e0:f=0
  ·subst e0
   have HF:=hide (show Ku w sb A (cntF A.vars (A.vars - v) (den A.ns 0)) (.returned (.int .i64 0)) (w.alloc (.cells #[.int .i64 n.v,.int .i64 n.lo,.int .i64 n.hi] 179))from
    ⟨by rw[iQ,Px];rfl,S,HW1.out⟩)
   clear h hs hk hsb ok hvf
   go_enter Tryz.func117,Tryz.ntmps117
   go_wp2
   go_ret
   exact HF.out
  have e0':((f:Int)==0)=false:=by simp;omega
  by_cases e1:f=1
  ·subst e1
   have c0':∀ob,(w.alloc ob).cell? ⟨g,0,none⟩=some (.int .i64 A.vars):=fun ob=>(World.cell?_alloc_lt _ _ _ (by show g<_;omega)).trans c0
   have hvv:v≤A.vars:=by rw[Cq ok]at hv;exact hv
   have htn:((A.vars:Int) - (v:Int)).toNat =A.vars - v:=by omega
   have HF:=hide (show Ku w sb A (cntF A.vars (A.vars - v) (den A.ns 1)) (.returned (.int .i64 (wrap64 (2 ^ (A.vars - v))))) (w.alloc (.cells #[.int .i64 n.v,.int .i64 n.lo,.int .i64 n.hi] 179))from
    ⟨by rw[mM,Sv,Kw _ (by omega)];simp,S,HW1.out⟩)
   clear h hs hk hsb ok hvf
   go_enter Tryz.func117,Tryz.ntmps117
   go_wp2
   go_ret
   exact HF.out
  have Ap:((f:Int)==1)=false:=by simp;omega
  have hf2:2≤f:=by omega
  obtain⟨Nz,hl,hh,hne,g1,g2⟩:=ok.node f n hn hf2
  have HC:=hide (Sy ok hf hn hf2)
  have ae0:=NT A.vars (A.vars - n.v) (den A.ns f)
  have hpw:=Kv (m:=A.vars - n.v) (by omega)
  have ae1:=Kv (m:=A.vars - v) (by omega)
  have hcv:=NT A.vars (A.vars - v) (den A.ns f)
  have HWD:=hide (show cntF A.vars (A.vars - v) (den A.ns f)=cntF A.vars (A.vars - n.v) (den A.ns f)*2 ^ (n.v - v)from by
   have:=MV (vars:=A.vars) (k:=n.v) (F:=den A.ns f) (xX ok f hf) (fun x y hxy=>indep ok f hf x y (fun u hu=>hxy u (by omega))) (by omega) (n.v - v) (by omega)
   rw[show A.vars - n.v+(n.v - v)=A.vars - v by omega]at this
   exact this)
  have HSH:=hide (Y4 (cntF A.vars (A.vars - n.v) (den A.ns f)) (n.v - v) (by rw[← HWD.out];omega))
  have htn:((n.v:Int) - (v:Int)).toNat =n.v - v:=by omega
  have ahR:v≤n.v:=by omega
  have hdom:nN f:=by show f<_;omega
  have him:=fun(ob:Obj)=>((hs.same (w':=w.alloc ob) (RowKit.Below.heap_alloc _ _ _ ls)).look Cw Tryz.underlying201 (Sj _) hdom).1
  cases ek:S f with
  |some x=>
   obtain⟨_,_,rfl⟩:=hk f x ek
   rw[hvf]at ek
   have hlk:∀ob,(Instr.lookup 201 (.map (some sb)) (.int .i64 f) true).run Tryz.prog (w.alloc ob)= .ok (.tuple #[.int .i64 (cntF A.vars (A.vars - n.v) (den A.ns f):Nat),.bool true]) (w.alloc ob):=fun ob=>by
    have:=him ob
    rw[ek]at this
    exact this
   have HF:=hide (show Ku w sb A (cntF A.vars (A.vars - v) (den A.ns f)) (.returned (.int .i64 (wrap64 ((cntF A.vars (A.vars - n.v) (den A.ns f):Nat)*2 ^ (n.v - v))))) (w.alloc (.cells #[.int .i64 n.v,.int .i64 n.lo,.int .i64 n.hi] 179))from
    ⟨by rw[HSH.out,HWD.out],S,HW1.out⟩)
   clear h hs hk hsb ok hvf him ek
   generalize cntF A.vars (A.vars - n.v) (den A.ns f)=cc at*
   go_enter Tryz.func117,Tryz.ntmps117
   go_wp2
   go_ret
   exact HF.out
  |none=>
   have hlk:∀ob,(Instr.lookup 201 (.map (some sb)) (.int .i64 f) true).run Tryz.prog (w.alloc ob)= .ok (.tuple #[.int .i64 0,.bool false]) (w.alloc ob):=fun ob=>by
    have:=him ob
    rw[ek]at this
    exact this
   obtain⟨nv,nlo,nhi⟩:=n
   simp only at*
   generalize ha:cntF A.vars (A.vars - (nv+1)) (den A.ns nlo)=ca at*
   generalize hb:cntF A.vars (A.vars - (nv+1)) (den A.ns nhi)=cb at*
   have hab:ca+cb≤65536:=by rw[← HC.out];omega
   have hbx:=heap_alloc_new w (.cells #[.int .i64 nv,.int .i64 nlo,.int .i64 nhi] 179)
   have Kr:w.heap.size<(w.alloc (.cells #[.int .i64 nv,.int .i64 nlo,.int .i64 nhi] 179)).heap.size :=by simp
   have iq:=hide (And.intro hbx (And.intro (show w.heap.size≠sb by omega) Kr))
   have Z9:=hide (h.below hb0)
   have fI:=hide (And.intro hf (And.intro hf2 (And.intro hm (And.intro hdom hsb))))
   have aak:=hide (And.intro ha hb)
   have HVF:=hide hvf
   have HNV:=hide (And.intro g1 g2)
   have hl':nlo<f:=hl
   have hh':nhi<f:=hh
   clear h hs hk hsb ok hvf him ek hbx hm hdom hn ha hb hb0 ae0 hpw ae1 hcv g1 g2 hl hh
   go_enter Tryz.func117,Tryz.ntmps117
   go_wp2
   clear c2 c0 d0 d1 d2 hlk e0 e1 e0' Ap
   generalize hw0:w.alloc _=w0 at*
   obtain⟨N,hN⟩:∃N,w.heap.size=N:=⟨_,rfl⟩
   rw[hN]at iq Kr ⊢
   clear hN hw0
   have x0:w0.cell? ⟨N,0,none⟩=some (.int .i64 nv):=by rw[cell_of_row _ _ _ _ _ _ iq.out.1];rfl
   have x1:w0.cell? ⟨N,1,none⟩=some (.int .i64 nlo):=by rw[cell_of_row _ _ _ _ _ _ iq.out.1];rfl
   have x2:w0.cell? ⟨N,2,none⟩=some (.int .i64 nhi):=by rw[cell_of_row _ _ _ _ _ _ iq.out.1];rfl
   have NP:Hid (CS w0 sb A w0 S):=hide ⟨HW1.out.sm,HW1.out.sk,dX.refl _ _⟩
   have hc1:((nv+1:Nat):Int)=(nv:Int)+1:=by omega
   have NV:=hide (fun(x:Nat) (c:Nat) (hx:x<f) (hxv:nv+1≤var A.ns x) (hcc:cntF A.vars (A.vars - (nv+1)) (den A.ns x)=c) (wa:World) (S1:Nat→Option Value) (hcs:CS w0 sb A wa S1)=>
    show Calls Tryz.prog 117 #[.pointer (some ⟨g,0,none⟩),.int .i64 x,.int .i64 ((nv:Int)+1),.map (some sb)] wa (fun e w2=>e= .returned (.int .i64 (c:Int))∧∃S',CS w0 sb A w2 S')from
    hcc▸hc1▸(IH.out wa B g nb kb ib sb cap A K T S1 (hcs.arena Z9.out fI.out.2.2.2.2) hcs.sm hcs.sk fI.out.2.2.2.2 x (nv+1) (by have:=fI.out.1;omega) hxv (by have:=fI.out.2.2.1;omega)).mono (fun e w2 ⟨he,S',hS⟩=>⟨he,S',hcs.trans hS⟩))
   have zX:=hide (fun(w1:World) S1 (hws:CS w0 sb A w1 S1)=>show w1.cell? ⟨N,0,none⟩=some (.int .i64 nv)∧w1.cell? ⟨N,1,none⟩=some (.int .i64 nlo)∧w1.cell? ⟨N,2,none⟩=some (.int .i64 nhi)from by
    have e:=(hws.fm.block N iq.out.2.2 iq.out.2.1).trans iq.out.1
    exact⟨by rw[cell_of_row _ _ _ _ _ _ e];rfl,by rw[cell_of_row _ _ _ _ _ _ e];rfl,by rw[cell_of_row _ _ _ _ _ _ e];rfl⟩)
   have Ay:=hide (NV.out nlo ca hl' HNV.out.1 aak.out.1)
   have Ky:=hide (NV.out nhi cb hh' HNV.out.2 aak.out.2)
   clear hc1
   have s1:IntKind.i64.wrap ((nv:Int)+1)=(nv:Int)+1:=IntWalk.i64_in _ (by omega)
   have s2:IntKind.i64.wrap ((ca:Int)+(cb:Int))=(ca:Int)+(cb:Int):=IntWalk.i64_in _ (by omega)
   go_region_held3 (fun w'=>w'.cell? ⟨N,0,none⟩=some (.int .i64 nv)∧w'.cell? ⟨N,1,none⟩=some (.int .i64 nlo)∧w'.cell? ⟨N,2,none⟩=some (.int .i64 nhi)) (go_keep)
    (first
     |(go_at_call_of 117 (Value.int IntKind.i64 (nlo:Int));refine(Ay.out _ S (by exact NP.out.below ⟨rfl,rfl,rfl,Nat.le_refl _,fun _ _=>rfl⟩)).mono ?_;rintro e wa ⟨rfl,S1,hcs1⟩;have fH:=hide hcs1;clear hcs1 x0 x1 x2;obtain⟨x0,x1,x2⟩:=zX.out _ _ fH.out)
     |(go_at_call_of 117 (Value.int IntKind.i64 (nhi:Int));refine(Ky.out _ S1 (by exact fH.out.below ⟨rfl,rfl,rfl,Nat.le_refl _,fun _ _=>rfl⟩)).mono ?_;rintro e wb ⟨rfl,S2,hcs2⟩;have HS2:=hide hcs2;clear hcs2 x0 x1 x2;obtain⟨x0,x1,x2⟩:=zX.out _ _ HS2.out))
   all_goals
    clear x0 x1 x2 s1 s2
    have HVV:=hide (show Value.int .i64 ((cntF A.vars (A.vars - var A.ns f) (den A.ns f):Nat):Int)= .int .i64 ((ca:Int)+(cb:Int))from by rw[HVF.out,HC.out];simp)
    go_wp2_with (at_mapUpdate;refine jO _ rfl (.tmp 55) (.tmp 56) (.tmp 57) 201 rfl 3 Cw Tryz.underlying201 rfl (HS2.out.sm.same (w':=_) rfl) f fI.out.2.2.2.1 rfl (.int .i64 ((ca:Int)+(cb:Int))) rfl ?_;intro w7 mY eY;have qW:=hide (HS2.out.store fI.out.2.1 fI.out.1 (HVV.out.symm▸mY) ⟨eY.os,eY.tape,eY.output,eY.size,eY.block⟩);clear mY eY;obtain⟨x0,x1,x2⟩:=zX.out _ _ qW.out)
    have HE:=hide (show Ku w sb A (cntF A.vars (A.vars - v) (den A.ns f)) (.returned (.int .i64 (wrap64 (((ca:Int)+(cb:Int))*2 ^ (nv - v))))) w7 from
     ⟨by rw[HWD.out,← HSH.out,HC.out];simp,_,qW.out.base HB0.out⟩)
    go_ret
    exact HE.out
theorem Kz {w:World} {B g nb kb ib cap:Nat} {A:St} {K T:bC→Option Value} (h:aN w B g nb kb ib cap A K T) (f:Nat) (hf:f<A.ns.length):
  Calls Tryz.prog 71 #[.pointer (some ⟨g,0,none⟩),.int .i64 f] w fun e W'=>e= .returned (.tuple #[.int .i64 (cntF A.vars A.vars (den A.ns f):Nat),.int .i64 0])∧RowKit.Below w.heap.size w W':=by
 have hlen:=h.qC
 obtain⟨l1,l2,l3,l4,l5⟩:=h.pO
 have hb0:RowKit.Below w.heap.size w (w.alloc (.cells #[.int .i64 f] 3)):=(RowKit.Below.refl _ _).alloc (Nat.le_refl _) _
 have zk:=hide (h.below hb0)
 have HI:=hide (Pj w (w.alloc (.cells #[.int .i64 f] 3)).heap.size (by simp) f (by omega) 3 (heap_alloc_new w _))
 have fM:=hide (show qE A [(f:Int)] []from⟨fun x hx=>by
  simp only[List.mem_cons,List.mem_nil_iff,or_false]at hx
  rw[hx];omega,fun x hx=>(by cases hx)⟩)
 have HB0:=hide hb0
 have HC:=hide (fun(w1:World) (hb:RowKit.Below w.heap.size w w1)=>by
  have hs:=hb.size
  have hb1:RowKit.Below w1.heap.size w1 (w1.alloc (.map #[] 0)):=(RowKit.Below.refl _ _).alloc (Nat.le_refl _) _
  have hsb:¬Fp g nb kb ib w1.heap.size:=fun hS=>by rcases hS with e | e | e | e<;>omega
  exact(Pz (f+1) (w1.alloc (.map #[] 0)) B g nb kb ib w1.heap.size cap A K T (fun _=>none) ((h.below hb).below hb1) (aS.made w1) (fun f x hx=>by cases hx) hsb f 0 hf (Nat.zero_le _) (Nat.lt_succ_self _)))
 have hmm:=@run_makeMap Tryz.prog
 clear h hf hb0
 go_enter Tryz.func71,Tryz.ntmps71
 go_wp2_with fail
 refine(tT zk.out [(f:Int)] [] _ none 1 0 1 0 (by omega) (by omega) HI.out (dz.nil _ _ _)).mono ?_
 rintro e wa ⟨he,_,hb⟩
 obtain rfl:=he fM.out
 have HB:=hide (HB0.out.trans (hb.mono HB0.out.size))
 have hsa:=HB.out.size
 clear he hb HI zk
 go_wp2_with fail
 refine(HC.out _ HB.out).mono ?_
 rintro e wb ⟨rfl,S',hS⟩
 have HF:=hide (HB.out.trans (((RowKit.Below.refl _ wa).alloc (Nat.le_refl _) (.map #[] 0)).trans (hS.fm.below (B:=wa.heap.size) (by simp) (fun i hi=>by omega)) |>.mono hsa))
 clear hS
 go_wp2
 go_ret2
 exact⟨rfl,HF.out⟩
end Go.Proofs.YtlhmdcgckocidaaGreat
