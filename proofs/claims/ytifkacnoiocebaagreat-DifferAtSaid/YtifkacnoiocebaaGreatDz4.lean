/- A part of the proof: G7, OpsQ, FibBuild. -/
import Derived.Test.YtifkacnoiocebaaGreatDz3
import Derived.Deep.RegionHeld3
import Derived.IntWalk
set_option linter.unusedVariables false
set_option linter.unusedSimpArgs false
set_option maxRecDepth 100000
set_option maxHeartbeats 8000000
namespace Go.Proofs.YtifkacnoiocebaaGreat
open aj Go.Maps Go.RowKit
def Sv (vars c:Nat):iq:=fun u=>c.testBit (vars - 1 - u)
def aW (F:aj.Fn) (i:Nat) (b:Bool):aj.Fn:=fun x=>F (upd x i b)
theorem KF (x:iq) {u v:Nat} (a b:Bool) (h:u≠v):upd (upd x u a) v b=upd (upd x v b) u a:=by
 funext w;simp only[upd]
 by_cases e1:w=v
 ·subst e1;simp[Ne.symm h]
 ·by_cases e2:w=u
  ·subst e2;simp[h]
  ·simp[e1,e2]
theorem Ls {vars:Nat} {ns:List aj.Node} (ok:Ok vars ns) {f i:Nat} (hf:f<ns.length) (hi:i<var ns f) (b:Bool):aW (den ns f) i b=den ns f:=by
 funext x
 exact indep ok f hf _ _ (fun u hu=>gy x b (by omega))
theorem Dr {vars:Nat} {ns:List aj.Node} (ok:Ok vars ns) {f k:Nat} (hf:f<ns.length) (hk:k≤var ns f) (i:Nat) (b:Bool):∀x y:iq,(∀u,k≤u→x u=y u)→aW (den ns f) i b x=aW (den ns f) i b y:=fun x y h=>by
 refine oJ ok hf hk _ _ (fun u hu=>?_)
 simp only[upd]
 split
 ·rfl
 ·exact h u hu
theorem Uf {vars:Nat} {ns:List aj.Node} (ok:Ok vars ns) {f:Nat} {n:aj.Node} (hn:ns[f]?=some n) (h2:2≤f) {i:Nat} (b:Bool) (hi:n.v≠i):aW (den ns n.lo) i b=fun x=>aW (den ns f) i b (upd x n.v false):=by
 funext x
 simp only[aW]
 rw[KF x false b hi,yC ok hn h2]
theorem Ug {vars:Nat} {ns:List aj.Node} (ok:Ok vars ns) {f:Nat} {n:aj.Node} (hn:ns[f]?=some n) (h2:2≤f) {i:Nat} (b:Bool) (hi:n.v≠i):aW (den ns n.hi) i b=fun x=>aW (den ns f) i b (upd x n.v true):=by
 funext x
 simp only[aW]
 rw[KF x true b hi,yB ok hn h2]
def xu (a:Nat):Value:=.int .i64 (a:Int)
def vC (a:Nat):Prop:=a<65536
theorem Xz:∃L:List Nat,L.length<9223372036854775807∧∀a,vC a→a∈L:=⟨List.range 65536,by simp,fun a ha=>List.mem_range.2 ha⟩
theorem MW:wG Tryz.prog 3 xu vC:=
 ⟨int_keyed Tryz.underlying3,fun a ha=>⟨_,keyOf_int_mk Tryz.underlying3 (Ed a ha)⟩,fun a b h=>by simp[xu]at h;omega,Xz⟩
def xw (A:St) (S:Nat→Option Value) (i:Nat) (b:Bool):Prop:=
 ∀f x,S f=some x→∃r:Nat,x= .int .i64 (r:Int)∧(A.full=false→f<A.ns.length∧r<A.ns.length∧den A.ns r=aW (den A.ns f) i b)
theorem xw.ext {A A':St} {S:Nat→Option Value} {i:Nat} {b:Bool} (h:xw A S i b) (he:Ext A A') (hi:Inv A):xw A' S i b:=fun f x hx=>by
 obtain⟨r,e,h1⟩:=h f x hx
 refine⟨r,e,fun hf=>?_⟩
 obtain⟨h2,h3,h4⟩:=h1 (he.qQ hf)
 exact⟨Nat.lt_of_lt_of_le h2 he.len,Nat.lt_of_lt_of_le h3 he.len,by rw[he.den hi h3,he.den hi h2,h4]⟩
def Fs (g nb kb ib sb:Nat) (k:Nat):Prop:=Fp g nb kb ib k∨k=sb
structure WS (w:World) (B g nb kb ib sb:Nat) (T:bC→Option Value) (i:Nat) (b:Bool) (w1:World) (aU aQ:Nat) (A1:St) (K1:bC→Option Value) (S1:Nat→Option Value):Prop where
 ar:aI w1 B g aU kb ib aQ A1 K1 T
 jr:aU=nb∨w.heap.size≤aU
 fm:eO (Fs g nb kb ib sb) w w1
 sm:aV Tryz.prog 3 xu vC w1 sb S1
 sk:xw A1 S1 i b
def Ag (w:World) (B g nb kb ib sb:Nat) (A:St) (T:bC→Option Value) (i:Nat) (b:Bool) (F:aj.Fn) (k:Nat) (e:Ending) (W':World):Prop:=
 ∃(r nb' cap':Nat) (A':St) (K':bC→Option Value) (S':Nat→Option Value),e= .returned (.int .i64 (r:Int))∧nQ A A' r F k∧WS w B g nb kb ib sb T i b W' nb' cap' A' K' S'
theorem WS.trans {w:World} {B g nb kb ib sb:Nat} {T:bC→Option Value} {i:Nat} {b:Bool} {w1 w2:World} {aU aQ bR cap2:Nat} {A1 A2:St} {K1 K2:bC→Option Value} {S1 S2:Nat→Option Value}
  (hlt:nb<w.heap.size) (h:WS w B g nb kb ib sb T i b w1 aU aQ A1 K1 S1) (h2:WS w1 B g aU kb ib sb T i b w2 bR cap2 A2 K2 S2):WS w B g nb kb ib sb T i b w2 bR cap2 A2 K2 S2:=by
 have hs:=h.fm.size
 refine⟨h2.ar,?_,h.fm.trans h2.fm (fun k hk hS=>?_),h2.sm,h2.sk⟩
 ·rcases h2.jr with e | e
  ·rw[e];exact h.jr
  ·exact .inr (by omega)
 ·rcases hS with(e | e | e | e) | e
  ·exact .inl (.inl e)
  ·rcases h.jr with e' | e'
   ·exact .inl (.inr (.inl (e.trans e')))
   ·omega
  ·exact .inl (.inr (.inr (.inl e)))
  ·exact .inl (.inr (.inr (.inr e)))
  ·exact .inr e
theorem WS.start {w:World} {B g nb kb ib sb cap:Nat} {A:St} {K T:bC→Option Value} {S:Nat→Option Value} {i:Nat} {b:Bool} (h:aI w B g nb kb ib cap A K T) (hs:aV Tryz.prog 3 xu vC w sb S) (hk:xw A S i b):WS w B g nb kb ib sb T i b w nb cap A K S:=
 ⟨h,.inl rfl,eO.refl _ _,hs,hk⟩
theorem WS.below {w:World} {B g nb kb ib sb:Nat} {T:bC→Option Value} {i:Nat} {b:Bool} {w1 w2:World} {aU aQ:Nat} {A1:St} {K1:bC→Option Value} {S1:Nat→Option Value}
  (h:WS w B g nb kb ib sb T i b w1 aU aQ A1 K1 S1) (hb:RowKit.Below w1.heap.size w1 w2):WS w B g nb kb ib sb T i b w2 aU aQ A1 K1 S1:=
 ⟨h.ar.below hb,h.jr,h.fm.trans (eO.of_below hb) (fun _ _ h=>h),h.sm.same (hb.block _ h.sm.lt),h.sk⟩
theorem WS.base {w w0:World} {B g nb kb ib sb:Nat} {T:bC→Option Value} {i:Nat} {b:Bool} {w1:World} {aU aQ:Nat} {A1:St} {K1:bC→Option Value} {S1:Nat→Option Value}
  (hb:RowKit.Below w.heap.size w w0) (h:WS w0 B g nb kb ib sb T i b w1 aU aQ A1 K1 S1):WS w B g nb kb ib sb T i b w1 aU aQ A1 K1 S1:=
 ⟨h.ar,h.jr.imp id (fun h=>by have:=hb.size;omega),(eO.of_below hb).trans h.fm (fun _ _ h=>h),h.sm,h.sk⟩
theorem WS.block {w:World} {B g nb kb ib sb:Nat} {T:bC→Option Value} {i:Nat} {b:Bool} {w1:World} {aU aQ:Nat} {A1:St} {K1:bC→Option Value} {S1:Nat→Option Value}
  (h:WS w B g nb kb ib sb T i b w1 aU aQ A1 K1 S1) {N:Nat} (hN:N<w.heap.size) (hn:¬Fs g nb kb ib sb N):w1.heap[N]?=w.heap[N]?:=h.fm.block N hN hn
theorem FK {m:Nat} {i:Nat} {b:Bool}
  (ih:∀(w:World) (B g nb kb ib sb cap:Nat) (A:St) (K T:bC→Option Value) (S:Nat→Option Value) (h:aI w B g nb kb ib cap A K T) (hs:aV Tryz.prog 3 xu vC w sb S) (hk:xw A S i b) (hsb:¬Fp g nb kb ib sb) (f:Nat) (hf:f<A.ns.length) (hi:i<A.vars) (hm:f<m),
   Calls Tryz.prog 144 #[.pointer (some ⟨g,0,none⟩),.int .i64 f,.int .i64 i,.bool b,.map (some sb)] w (Ag w B g nb kb ib sb A T i b (aW (den A.ns f) i b) (var A.ns f)))
  {w:World} {B g nb kb ib sb:Nat} {T:bC→Option Value} {w1:World} {aU aQ:Nat} {A A1:St} {K1:bC→Option Value} {S1:Nat→Option Value} (hlt:nb<w.heap.size) (hsl:sb<w.heap.size) (hsb:¬Fp g nb kb ib sb)
  (h:WS w B g nb kb ib sb T i b w1 aU aQ A1 K1 S1) (hA:Inv A) (he:Ext A A1) (f:Nat) (hf:f<A.ns.length) (hi:i<A.vars) (hm:f<m):
  Calls Tryz.prog 144 #[.pointer (some ⟨g,0,none⟩),.int .i64 f,.int .i64 i,.bool b,.map (some sb)] w1
   (fun e w2=>∃(r bR cap2:Nat) (A2:St) (K2:bC→Option Value) (S2:Nat→Option Value),e= .returned (.int .i64 (r:Int))∧nQ A1 A2 r (aW (den A.ns f) i b) (var A.ns f)∧WS w B g nb kb ib sb T i b w2 bR cap2 A2 K2 S2):=by
 have ac7:¬Fp g aU kb ib sb:=fun hS=>by
  rcases hS with e | e | e | e
  ·exact hsb (.inl e)
  ·rcases h.jr with e' | e'
   ·exact hsb (.inr (.inl (e.trans e')))
   ·omega
  ·exact hsb (.inr (.inr (.inl e)))
  ·exact hsb (.inr (.inr (.inr e)))
 refine(ih w1 B g aU kb ib sb aQ A1 K1 T S1 h.ar h.sm h.sk ac7 f (Nat.lt_of_lt_of_le hf he.len) (by rw[he.vars];exact hi) hm).mono ?_
 rintro e w2 ⟨r,bR,cap2,A2,K2,S2,he2,hr,hws⟩
 rw[he.den hA hf,he.var hf]at hr
 exact⟨r,bR,cap2,A2,K2,S2,he2,hr,h.trans hlt hws⟩
theorem XA {w:World} {B g nb kb ib sb:Nat} {T:bC→Option Value} {i:Nat} {b:Bool} {w1:World} {aU aQ:Nat} {A A1 A2:St} {K1:bC→Option Value} {S1:Nat→Option Value} {F L H:aj.Fn} {v lo hi:Nat} (hlt:nb<w.heap.size) (hsl:sb<w.heap.size) (hsb:¬Fp g nb kb ib sb)
  (h:WS w B g nb kb ib sb T i b w1 aU aQ A2 K1 S1) (hA:Inv A) (hv:v<A.vars) (hF:∀x y:iq,(∀u,v≤u→x u=y u)→F x=F y) (hL:L=fun x=>F (upd x v false)) (hH:H=fun x=>F (upd x v true)) (r1:nQ A A1 lo L (v+1)) (r2:nQ A1 A2 hi H (v+1)):
  Calls Tryz.prog 139 #[.pointer (some ⟨g,0,none⟩),.int .i64 v,.int .i64 lo,.int .i64 hi] w1
   (fun e w2=>∃(r bR cap2:Nat) (A3:St) (K2:bC→Option Value),e= .returned (.int .i64 (r:Int))∧nQ A A3 r F v∧WS w B g nb kb ib sb T i b w2 bR cap2 A3 K2 S1):=by
 have e1:=r1.ext.vars
 have e2:=r2.ext.vars
 have l1:=r1.lt
 have l2:=r2.lt
 have UA:=r2.ext.len
 have g1:=r1.ge
 have g2:=r2.ge
 rw[← r2.ext.var l1]at g1
 simp only[St.len]at l1 l2 UA
 refine(xI h.ar v lo hi (by omega) (by omega) l2 (by omega) (by omega)).mono ?_
 rintro e w2 ⟨x,bR,cap2,A3,K2,rfl,qB,har,hnb,hfm⟩
 have hres:=zx hA hv hF hL hH r1 r2 qB
 have hx3:Ext A2 A3:=qB.ext r2.ext.inv (by omega) (by simp only[St.len];omega) (by simp only[St.len];omega) (by omega) (by omega)
 have hsl1:=h.sm.lt
 have hsn:¬Fp g aU kb ib sb:=fun hS=>by
  rcases hS with e | e | e | e
  ·exact hsb (.inl e)
  ·rcases h.jr with e' | e'
   ·exact hsb (.inr (.inl (e.trans e')))
   ·omega
  ·exact hsb (.inr (.inr (.inl e)))
  ·exact hsb (.inr (.inr (.inr e)))
 exact⟨x,bR,cap2,A3,K2,rfl,hres,h.trans hlt ⟨har,hnb,hfm.mono (fun _ _ h=>.inl h),h.sm.same (hfm.block _ hsl1 hsn),h.sk.ext hx3 h.ar.inv⟩⟩
theorem Uh {w:World} {B g nb kb ib sb:Nat} {T:bC→Option Value} {i:Nat} {b:Bool} {u w7:World} {aU aQ:Nat} {A A1:St} {K1:bC→Option Value} {S1:Nat→Option Value} {f r k:Nat} (hsl:sb<w.heap.size) (hsb:¬Fp g nb kb ib sb)
  (h:WS w B g nb kb ib sb T i b u aU aQ A1 K1 S1) (hA:Inv A) (hf:f<A.ns.length) (hr:nQ A A1 r (aW (den A.ns f) i b) k)
  (h7:aV Tryz.prog 3 xu vC w7 sb (mI S1 f (.int .i64 (r:Int)))) (hg:u.grownBy w7 (some sb)):WS w B g nb kb ib sb T i b w7 aU aQ A1 K1 (mI S1 f (.int .i64 (r:Int))):=by
 have hs:=h.fm.size
 obtain⟨l1,l2,l3,l4,_⟩:=h.ar.qR
 have hbk:∀j,j<u.heap.size→j≠sb→w7.heap[j]?=u.heap[j]?:=fun j hj hn=>hg.block j hj (fun e=>hn (Option.some.inj e))
 have n1:g≠sb:=fun e=>hsb (.inl e.symm)
 have n2:aU≠sb:=fun e=>by
  rcases h.jr with e' | e'
  ·exact hsb (.inr (.inl (by omega)))
  ·omega
 have n3:kb≠sb:=fun e=>hsb (.inr (.inr (.inl e.symm)))
 have n4:ib≠sb:=fun e=>hsb (.inr (.inr (.inr e.symm)))
 refine⟨h.ar.keep (hbk g l1 n1) (hbk aU l2 n2) (hbk kb l3 n3) (hbk ib l4 n4),h.jr,h.fm.trans (eO.l7 (S:=Fs g nb kb ib sb) hg (fun k hk _=>by cases hk;exact .inr rfl)) (fun _ _ h=>h),h7,?_⟩
 intro f' x hx
 by_cases e:f'=f
 ·subst e
  rw[lG]at hx
  cases hx
  exact⟨r,rfl,fun hnf=>⟨Nat.lt_of_lt_of_le hf hr.ext.len,hr.lt,by rw[hr.eq hnf,hr.ext.den hA hf]⟩⟩
 ·rw[jc _ _ e]at hx
  exact h.sk f' x hx
theorem ZC (w:World):(zeroValue 3).run Tryz.prog w= .ok (.int .i64 0) w:=by kernel_rfl
theorem Rt (i:Nat) (b:Bool) (m:Nat):∀(w:World) (B g nb kb ib sb cap:Nat) (A:St) (K T:bC→Option Value) (S:Nat→Option Value) (h:aI w B g nb kb ib cap A K T) (hs:aV Tryz.prog 3 xu vC w sb S) (hk:xw A S i b) (hsb:¬Fp g nb kb ib sb) (f:Nat) (hf:f<A.ns.length) (hi:i<A.vars) (hm:f<m),
  Calls Tryz.prog 144 #[.pointer (some ⟨g,0,none⟩),.int .i64 f,.int .i64 i,.bool b,.map (some sb)] w (Ag w B g nb kb ib sb A T i b (aW (den A.ns f) i b) (var A.ns f)):=by
 induction m with
 |zero=>intro w B g nb kb ib sb cap A K T S h hs hk hsb f hf hi hm;omega
 |succ m ih=>
  intro w B g nb kb ib sb cap A K T S h hs hk hsb f hf hi hm
  have IH:=hide ih
  clear ih
  have ok:=h.inv.ok
  have hlen:=h.uJ
  have hvs:=h.vs
  obtain⟨l1,l2,l3,l4,l5⟩:=h.qR
  have ls:=hs.lt
  obtain⟨n,hn⟩:=eD hf
  have hvf:var A.ns f=n.v:=dX hn
  have afN:=I9 ok hf
  have c2:=h.c2
  have c5:=h.c5
  obtain⟨d0,d1,d2⟩:=h.node hn
  have hb0:RowKit.Below w.heap.size w (w.alloc (.cells #[.int .i64 n.v,.int .i64 n.lo,.int .i64 n.hi] 117)):=(RowKit.Below.refl _ _).alloc (Nat.le_refl _) _
  have HW0:=hide (WS.start h hs hk)
  have HW1:=hide ((WS.start h hs hk).below hb0)
  have HB0:=hide hb0
  have kJ:=hide (And.intro l2 (And.intro ls hsb))
  rw[hvf]
  have HVF:=hide hvf
  have HH:=hide h
  cases hfull:A.full
  case true=>
   rw[hfull]at c5
   have HF:=hide (show Ag w B g nb kb ib sb A T i b (aW (den A.ns f) i b) n.v (.returned (.int .i64 ((0:Nat):Int))) (w.alloc (.cells #[.int .i64 n.v,.int .i64 n.lo,.int .i64 n.hi] 117))from
    ⟨0,nb,cap,A,K,S,rfl,R6 h.inv hfull (by omega),HW1.out⟩)
   clear h hs hk hsb ok hvf
   go_enter Tryz.func144,Tryz.ntmps144
   go_wp2
   go_ret
   exact HF.out
  rw[hfull]at c5
  have c5':∀ob,(w.alloc ob).cell? ⟨g,5,none⟩=some (.bool false):=fun ob=>(World.cell?_alloc_lt _ _ _ (by show g<_;omega)).trans c5
  by_cases h1:i<n.v
  ·have h1':decide ((i:Int)<(n.v:Int))=true:=by simp;omega
   have HF:=hide (show Ag w B g nb kb ib sb A T i b (aW (den A.ns f) i b) n.v (.returned (.int .i64 (f:Int))) (w.alloc (.cells #[.int .i64 n.v,.int .i64 n.lo,.int .i64 n.hi] 117))from
    ⟨f,nb,cap,A,K,S,rfl,lF h.inv hf (by omega) (fun _=>(Ls ok hf (by omega) b).symm),HW1.out⟩)
   clear h hs hk hsb ok hvf
   go_enter Tryz.func144,Tryz.ntmps144
   go_wp2
   go_ret
   exact HF.out
  have h1':decide ((i:Int)<(n.v:Int))=false:=by simp;omega
  by_cases h2:n.v=i
  ·have h2':((n.v:Int)==(i:Int))=true:=by simp;omega
   obtain⟨r,hr⟩:∃r,aj.part A.ns f i b=r:=⟨_,rfl⟩
   have hlt:=Ci ok hf hi b
   have hpv:=zy ok hf hi (by omega) b
   have ZE:=zA ok hf hi (by omega) b
   rw[hr]at hlt hpv ZE
   have HF:=hide (fun w' (hb:RowKit.Below (w.alloc (.cells #[.int .i64 n.v,.int .i64 n.lo,.int .i64 n.hi] 117)).heap.size (w.alloc (.cells #[.int .i64 n.v,.int .i64 n.lo,.int .i64 n.hi] 117)) w')=>show Ag w B g nb kb ib sb A T i b (aW (den A.ns f) i b) n.v (.returned (.int .i64 (r:Int))) w' from
    ⟨r,nb,cap,A,K,S,rfl,lF h.inv hlt (by omega) (fun _=>by rw[ZE];rfl),HW1.out.below hb⟩)
   have HP:=hide (MO (HW1.out.ar) f i b hf hr)
   clear h hs hk hsb ok hvf ZE hr h2
   go_enter Tryz.func144,Tryz.ntmps144
   go_wp2_with fail
   refine HP.out.mono ?_
   rintro e w' ⟨rfl,hb⟩
   have yT:=hide (HF.out _ hb)
   clear hb
   go_wp2
   go_ret
   exact yT.out
  have h2':((n.v:Int)==(i:Int))=false:=by simp;omega
  have hdom:vC f:=by show f<_;omega
  have him:=fun(ob:Obj)=>((hs.same (w':=w.alloc ob) (RowKit.Below.heap_alloc _ _ _ ls)).look MW Tryz.underlying142 (ZC _) hdom).1
  cases ek:S f with
  |some x=>
   obtain⟨r,rfl,hr⟩:=hk f x ek
   obtain⟨_,hrl,hrd⟩:=hr hfull
   have hlk:∀ob,(Instr.lookup 142 (.map (some sb)) (.int .i64 f) true).run Tryz.prog (w.alloc ob)= .ok (.tuple #[.int .i64 r,.bool true]) (w.alloc ob):=fun ob=>by
    have:=him ob
    rw[ek]at this
    exact this
   have HF:=hide (show Ag w B g nb kb ib sb A T i b (aW (den A.ns f) i b) n.v (.returned (.int .i64 (r:Int))) (w.alloc (.cells #[.int .i64 n.v,.int .i64 n.lo,.int .i64 n.hi] 117))from
    ⟨r,nb,cap,A,K,S,rfl,lF h.inv hrl (Pq ok hrl (by omega) (fun x y hxy=>by rw[hrd];exact Dr ok hf (by omega) i b x y hxy)) (fun _=>hrd),HW1.out⟩)
   clear h hs hk hsb ok hvf him ek hr hrd
   go_enter Tryz.func144,Tryz.ntmps144
   go_wp2
   go_ret
   exact HF.out
  |none=>
   have hlk:∀ob,(Instr.lookup 142 (.map (some sb)) (.int .i64 f) true).run Tryz.prog (w.alloc ob)= .ok (.tuple #[.int .i64 0,.bool false]) (w.alloc ob):=fun ob=>by
    have:=him ob
    rw[ek]at this
    exact this
   have hf2:2≤f:=(iZ ok hf).1 (by omega)
   obtain⟨hv,hl,hh,hne,g1,g2⟩:=ok.node f n hn hf2
   have HR1:=hide (Uf ok hn hf2 b h2)
   have HR2:=hide (Ug ok hn hf2 b h2)
   have Wu:=hide (Dr ok hf (show n.v≤var A.ns f by omega) i b)
   have KG:=hide (show n.v<A.vars∧n.lo<f∧n.hi<f∧n.v+1≤var A.ns n.lo∧n.v+1≤var A.ns n.hi from⟨hv,hl,hh,g1,g2⟩)
   have gI:=hide (And.intro hf (And.intro hi (And.intro hm hdom)))
   have HN:=hide hn
   obtain⟨nv,nlo,nhi⟩:=n
   simp only at*
   have hbx:=heap_alloc_new w (.cells #[.int .i64 nv,.int .i64 nlo,.int .i64 nhi] 117)
   have QO:¬Fs g nb kb ib sb w.heap.size:=fun hS=>by
    rcases hS with(e | e | e | e) | e<;>omega
   have ZF:w.heap.size<(w.alloc (.cells #[.int .i64 nv,.int .i64 nlo,.int .i64 nhi] 117)).heap.size :=by simp
   have lI:=hide (And.intro hbx (And.intro QO ZF))
   have Gb:=hide h.inv
   clear h hs hk hsb ok hvf him ek hbx QO hi hm hdom hn
   go_enter Tryz.func144,Tryz.ntmps144
   go_wp2
   clear hf c2 c5 c5' d0 d1 d2 hlk hfull h1 h2 h1' h2' hv hl hh hne g1 g2 hf2
   generalize hw0:w.alloc _=w0 at*
   obtain⟨N,hN⟩:∃N,w.heap.size=N:=⟨_,rfl⟩
   rw[hN]at lI ZF ⊢
   clear hN hw0
   have x0:w0.cell? ⟨N,0,none⟩=some (.int .i64 nv):=by rw[cell_of_row _ _ _ _ _ _ lI.out.1];rfl
   have x1:w0.cell? ⟨N,1,none⟩=some (.int .i64 nlo):=by rw[cell_of_row _ _ _ _ _ _ lI.out.1];rfl
   have x2:w0.cell? ⟨N,2,none⟩=some (.int .i64 nhi):=by rw[cell_of_row _ _ _ _ _ _ lI.out.1];rfl
   have dY:Hid (WS w0 B g nb kb ib sb T i b w0 nb cap A K S):=hide (WS.start HW1.out.ar HW1.out.sm HW1.out.sk)
   have Ui:nb<w0.heap.size:=Nat.lt_of_lt_of_le kJ.out.1 HB0.out.size
   have OX:sb<w0.heap.size:=Nat.lt_of_lt_of_le kJ.out.2.1 HB0.out.size
   have iw:=hide (fun w1 (hb:RowKit.Below w0.heap.size w0 w1)=>FK IH.out Ui OX kJ.out.2.2 (dY.out.below hb) Gb.out (Ext.refl Gb.out) nlo (by have:=KG.out;have:=gI.out.1;omega) gI.out.2.1 (by have:=KG.out;have:=gI.out;omega))
   have OY:=hide (fun(w1:World) aU aQ A1 K1 S1 (hws:WS w0 B g nb kb ib sb T i b w1 aU aQ A1 K1 S1)=>show w1.cell? ⟨N,0,none⟩=some (.int .i64 nv)∧w1.cell? ⟨N,1,none⟩=some (.int .i64 nlo)∧w1.cell? ⟨N,2,none⟩=some (.int .i64 nhi)from by
    have e:=(hws.block lI.out.2.2 lI.out.2.1).trans lI.out.1
    exact⟨by rw[cell_of_row _ _ _ _ _ _ e];rfl,by rw[cell_of_row _ _ _ _ _ _ e];rfl,by rw[cell_of_row _ _ _ _ _ _ e];rfl⟩)
   go_region_held3 (fun w'=>w'.cell? ⟨N,0,none⟩=some (.int .i64 nv)∧w'.cell? ⟨N,1,none⟩=some (.int .i64 nlo)∧w'.cell? ⟨N,2,none⟩=some (.int .i64 nhi)) (go_keep)
    (first
     |(go_at_call_of 144 (Value.int IntKind.i64 (nlo:Int));refine(iw.out _ (by exact⟨rfl,rfl,rfl,Nat.le_refl _,fun _ _=>rfl⟩)).mono ?_;rintro e wa ⟨lo',aU,aQ,A1,K1,S1,rfl,hr1,hw1⟩;have ZG:=hide hw1;have HRa:=hide hr1;have vN:=hide (fun w1 (hb:RowKit.Below wa.heap.size wa w1)=>FK IH.out Ui OX kJ.out.2.2 (ZG.out.below hb) Gb.out HRa.out.ext nhi (by have:=KG.out;have:=gI.out.1;omega) gI.out.2.1 (by have:=KG.out;have:=gI.out;omega));clear hw1 hr1 x0 x1 x2;obtain⟨x0,x1,x2⟩:=OY.out _ _ _ _ _ _ ZG.out)
     |(go_at_call_of 144 (Value.int IntKind.i64 (nhi:Int));refine(vN.out _ (by first | exact RowKit.Below.refl _ _ | exact⟨rfl,rfl,rfl,Nat.le_refl _,fun _ _=>rfl⟩)).mono ?_;rintro e wb ⟨hi',bR,cap2,A2,K2,S2,rfl,hr2,hw2⟩;have HW2:=hide hw2;have HRb:=hide hr2;clear hw2 hr2 x0 x1 x2;obtain⟨x0,x1,x2⟩:=OY.out _ _ _ _ _ _ HW2.out)
     |(go_at_call 139;have CO:=hide (fun w1 (hb:RowKit.Below wb.heap.size wb w1)=>XA Ui OX kJ.out.2.2 (HW2.out.below hb) Gb.out KG.out.1 Wu.out rfl rfl ((HR1.out▸HRa.out).mono KG.out.2.2.2.1) ((HR2.out▸(HRb.out)).mono KG.out.2.2.2.2));refine(CO.out _ (by first | exact RowKit.Below.refl _ _ | exact⟨rfl,rfl,rfl,Nat.le_refl _,fun _ _=>rfl⟩)).mono ?_;rintro e wc ⟨r,xJ,vF,A3,K3,rfl,hr3,hw3⟩;have HW3:=hide hw3;have HRc:=hide hr3;clear hw3 hr3 x0 x1 x2 CO;obtain⟨x0,x1,x2⟩:=OY.out _ _ _ _ _ _ HW3.out))
   all_goals
    clear x0 x1 x2
    go_wp2_with (at_mapUpdate;refine kU _ rfl (.tmp 69) (.tmp 70) (.tmp 71) 142 rfl 3 MW Tryz.underlying142 rfl (HW3.out.sm.same (w':=_) rfl) f gI.out.2.2.2 rfl (.int .i64 (r:Int)) rfl ?_;intro w7 qj fZ)
    have HE:=hide (show Ag w B g nb kb ib sb A T i b (aW (den A.ns f) i b) nv (.returned (.int .i64 (r:Int))) w7 from
     ⟨r,xJ,vF,A3,K3,_,rfl,HRc.out,(Uh OX kJ.out.2.2 HW3.out Gb.out gI.out.1 HRc.out qj ⟨fZ.os,fZ.tape,fZ.output,fZ.size,fZ.block⟩).base HB0.out⟩)
    clear qj fZ
    go_wp2
    go_ret
    exact HE.out
def WF (A:St) (r:Nat) (F:aj.Fn):Prop:=r<A.ns.length∧(A.full=false→den A.ns r=F)
theorem WF.ext {A A':St} {r:Nat} {F:aj.Fn} (h:WF A r F) (i:Inv A) (he:Ext A A'):WF A' r F:=
 ⟨Nat.lt_of_lt_of_le h.1 he.len,fun hf=>(he.den i h.1).trans (h.2 (he.qQ hf))⟩
theorem WF.of {A:St} {r:Nat} {F:aj.Fn} (h:dF A r F):WF A r F:=⟨h.1,fun _=>h.2⟩
section
variable {w:World} {B g nb kb ib:Nat} {A:St} {c:Nat} {w1 w2:World} {aU aQ:Nat} {A1:St} {K1 T1:bC→Option Value}
end
theorem SQ {w:World} {B g nb kb ib cap:Nat} {A:St} {K T:bC→Option Value} (h:aI w B g nb kb ib cap A K T) (f i:Nat) (b:Bool) (hf:f<A.ns.length) (hi:i<A.vars):
  Calls Tryz.prog 141 #[.pointer (some ⟨g,0,none⟩),.int .i64 f,.int .i64 i,.bool b] w (uo w B g nb kb ib A (aW (den A.ns f) i b) (var A.ns f)):=by
 obtain⟨l1,l2,l3,l4,_⟩:=h.qR
 have hb0:RowKit.Below w.heap.size w (w.alloc (.map #[] 0)):=(RowKit.Below.refl _ _).alloc (Nat.le_refl _) _
 have hsb:¬Fp g nb kb ib w.heap.size:=fun hS=>by rcases hS with e | e | e | e<;>omega
 have HC:=hide (Rt i b (f+1) _ B g nb kb ib w.heap.size cap A K T (fun _=>none) (h.below hb0) (aV.made w) (fun f x hx=>by cases hx) hsb f hf hi (Nat.lt_succ_self _))
 have HB0:=hide hb0
 have hmm:=@run_makeMap Tryz.prog
 clear h hb0 hsb hf hi
 go_enter Tryz.func141,Tryz.ntmps141
 go_wp2_with fail
 refine HC.out.mono ?_
 rintro e w2 ⟨r,nb',cap',A',K',S',rfl,hr,hws⟩
 have HF:=hide (show uo w B g nb kb ib A (aW (den A.ns f) i b) (var A.ns f) (.returned (.int .i64 (r:Int))) w2 from
  ⟨r,nb',cap',A',K',T,rfl,hr,hws.ar,hws.jr.imp id (fun h=>by have:=HB0.out.size;omega),(eO.of_below HB0.out).trans hws.fm (fun k hk hS=>by
   rcases hS with hS | e
   ·exact hS
   ·omega)⟩)
 clear hr hws
 go_wp2
 go_ret
 exact HF.out
section
variable {w:World} {B g nb kb ib:Nat} {A:St} {c:Nat} {w1 w2:World} {aU aQ:Nat} {A1:St} {K1 T1:bC→Option Value}
end
theorem Qq {A:St} (h:A.full=false):oI A=A:=by cases A;simp_all [oI]
def mP (F:aj.Fn) (i:Nat):aj.Fn:=bE (aW F i false) (fun _=>true) (aW F i true)
def xO (F:aj.Fn) (i j:Nat):aj.Fn:=fun x=>F (upd (upd x j (x i)) i (x j))
theorem aal (w:World) (B N:Nat) (hB:N<B) (i j:Int) (hi: -9223372036854775808≤i∧i≤9223372036854775807) (hj: -9223372036854775808≤j∧j≤9223372036854775807) (t:TypeId) {w1:World} (h:w1.heap[N]?=some (.cells #[.int .i64 i,.int .i64 j] t (0,0))):
  cu w1 B (some ⟨N,0,none⟩) 2 [i,j]:=by
 refine⟨rfl,fun x hx=>?_,fun _=>⟨_,0,rfl,hB,fun k x hx=>?_⟩⟩
 ·simp only[List.mem_cons,List.mem_nil_iff,or_false]at hx
  rcases hx with rfl | rfl
  ·exact hi
  ·exact hj
 ·rw[cell_of_row _ _ _ _ _ _ h]
  match k,hx with
  |0,hx=>cases hx;rfl
  |1,hx=>cases hx;rfl
theorem JE (N B:Nat) (hB:N<B) (i:Int) (hi: -9223372036854775808≤i∧i≤9223372036854775807) (t:TypeId) {w1:World} (h:w1.heap[N]?=some (.cells #[.int .i64 i] t (0,0))):
  cu w1 B (some ⟨N,0,none⟩) 1 [i]:=by
 refine⟨rfl,fun x hx=>?_,fun _=>⟨_,0,rfl,hB,fun k x hx=>?_⟩⟩
 ·simp only[List.mem_cons,List.mem_nil_iff,or_false]at hx
  rw[hx];exact hi
 ·rw[cell_of_row _ _ _ _ _ _ h]
  match k,hx with
  |0,hx=>cases hx;rfl
theorem X7 {w:World} {B g nb kb ib cap:Nat} {A:St} {K T:bC→Option Value} (h:aI w B g nb kb ib cap A K T) (o0 o1:Obj):RowKit.Below w.heap.size w ((w.alloc o0).alloc o1)∧aI ((w.alloc o0).alloc o1) B g nb kb ib cap A K T:=by
 have hb:RowKit.Below w.heap.size w ((w.alloc o0).alloc o1):=((RowKit.Below.refl _ _).alloc (Nat.le_refl _) _).alloc (by simp) _
 exact⟨hb,h.below hb⟩
def cntF (vars m:Nat) (F:aj.Fn):Nat:=(List.range (2 ^ m)).countP (fun r=>F (Sv vars r))
def qh (F:aj.Fn):aj.Fn:=bE F (fun _=>false) (fun _=>true)
def bf (F G:aj.Fn):aj.Fn:=bE F G (fun _=>false)
def vO (F G:aj.Fn):aj.Fn:=bE F (fun _=>true) G
def fD (P:Nat→Bool):Nat→Nat
 |0=>0
 |k+1=>if P k then fD P k ||| 2 ^ k else fD P k
theorem Uj (P:Nat→Bool):∀k,fD P k<2 ^ k:=by
 intro k
 induction k with
 |zero=>simp[fD]
 |succ k ih=>
  have:fD P k<2 ^ (k+1):=Nat.lt_of_lt_of_le ih (Nat.pow_le_pow_right (by omega) (by omega))
  unfold fD
  split
  ·exact Nat.or_lt_two_pow this (Nat.pow_lt_pow_right (by omega) (by omega))
  ·exact this
theorem P9 (P:Nat→Bool):∀k j,(fD P k).testBit j=(decide (j<k) && P j):=by
 intro k
 induction k with
 |zero=>intro j;simp[fD]
 |succ k ih=>
  intro j
  unfold fD
  by_cases hj:j=k
  ·subst hj
   cases hP:P j
   ·simp[ih]
   ·simp[Nat.testBit_or,ih,Nat.testBit_two_pow]
  ·have e1:decide (j<k+1)=decide (j<k):=by
    by_cases h:j<k
    ·simp[h];omega
    ·simp[h];omega
   split
   ·rw[Nat.testBit_or,ih,e1,Nat.testBit_two_pow]
    have:decide (k=j)=false:=by simp;omega
    rw[this];simp
   ·rw[ih,e1]
theorem FL (P:Nat→Bool) {k:Nat} (hk:k≤16):fD P k<65536:=Nat.lt_of_lt_of_le (Uj P k) (Nat.pow_le_pow_right (by omega) hk:2 ^ k≤2 ^ 16)
def je (l:List aG) (port:Int) (k:Nat):Bool:=decide (0≤(jE (k:Int) l).2) && ((jE (k:Int) l).1==port)
def qN (w:World) (N d:Nat):Prop:=w.cell? ⟨N,0,none⟩=some (.int .u16 65535)∧w.cell? ⟨N,1,none⟩=some (.int .u16 d)∧w.cell? ⟨N,2,none⟩=some (.int .u8 255)∧w.cell? ⟨N,3,none⟩=some (.int .u8 255)∧w.frozen? ⟨N,1,none⟩=false
theorem qN.below {w w':World} {B N d:Nat} (h:qN w N d) (hB:RowKit.Below B w w') (hN:N<B):qN w' N d:=by
 have e:∀o,w'.cell? ⟨N,o,none⟩=w.cell? ⟨N,o,none⟩:=fun o=>hB.cell (p:=⟨N,o,none⟩) hN
 unfold qN
 rw[e,e,e,e,hB.frozen (p:=⟨N,1,none⟩) hN]
 exact h
theorem qN.drew {w:World} {N d:Nat} (h:qN w N d):qN w.drew N d:=h
theorem qN.set {w:World} {N d d':Nat} (h:qN w N d):qN (w.setCell ⟨N,1,none⟩ (.int .u16 d')) N d':=by
 have ho:∀o,o≠1→(w.setCell ⟨N,1,none⟩ (.int .u16 (d':Int))).cell? ⟨N,o,none⟩=w.cell? ⟨N,o,none⟩:=fun o ho=>World.cell?_setCell_other w _ _ _ (fun e=>by simp only[Addr.mk.injEq]at e;omega)
 obtain⟨h0,h1,h2,h3,h4⟩:=h
 exact⟨by rw[ho 0 (by omega)];exact h0,World.cell?_setCell_same w ⟨N,1,none⟩ _ h1,by rw[ho 2 (by omega)];exact h2,by rw[ho 3 (by omega)];exact h3,by rw[World.frozen?_setCell];exact h4⟩
theorem qN.set' {w:World} {N d d':Nat} {x:Int} (h:qN w N d) (hx:x=(d':Int)):qN (w.setCell ⟨N,1,none⟩ (.int .u16 x)) N d':=hx▸h.set
theorem BP.base {w w1:World} {B g nb kb ib:Nat} {A:St} {F:aj.Fn} {P:aj.Fn→Prop} {e:Ending} {W':World} (hb:RowKit.Below w.heap.size w w1) (h:BP w1 B g nb kb ib A F P e W'):BP w B g nb kb ib A F P e W':=by
 obtain⟨bR,cap2,A2,K2,T2,h1,h2,h3,h4,h5,h6,h7⟩:=h
 exact⟨bR,cap2,A2,K2,T2,h1,h2,h3,h4,h5.imp id (fun h=>by have:=hb.size;omega),(eO.of_below hb).trans h6 (fun _ _ h=>h),h7⟩
theorem ZH (s k:Nat) (hs:s<65536) (hk:k<16):Go.bits .or .u16 (s:Int) (IntKind.u16.wrap (2 ^ k))=((s ||| 2 ^ k:Nat):Int):=by
 have h2:(2:Nat) ^ k<65536:=Nat.pow_lt_pow_right (by omega) hk
 have e:IntKind.u16.wrap ((2:Int) ^ k)=((2 ^ k:Nat):Int):=by
  have:∀i:Fin 16,IntKind.u16.wrap ((2:Int) ^ i.val)=((2 ^ i.val:Nat):Int):=by decide+kernel
  exact this ⟨k,hk⟩
 rw[e];exact u16_or s (2 ^ k) hs h2
theorem Iw {w:World} {B g nb kb ib cap:Nat} {A:St} {K T:bC→Option Value} (h:aI w B g nb kb ib cap A K T) (hA:A.full=false) (hv:14≤A.vars) (l:List aG) (a:Option Addr) (n c:Nat) (port:Int)
  (hn:n≤9223372036854775807) (hnc:n≤c) (hl:bD aG.cells 3 w w.heap.size a n l) (hok:∀r∈l,r.ok) (hc:cB l=0):
  Calls Tryz.prog 93 #[.pointer (some ⟨g,0,none⟩),.slice a n c,.int .i64 port] w (BP w B g nb kb ib A (outs (bU 65535 (fD (je l port) 16) 255 255)) (mR (bU 65535 (fD (je l port) 16) 255 255))):=by
 have HC:=hide (fun w1 (hb:RowKit.Below w.heap.size w w1)=>nX l a n c w1 hnc (hl.below hb hb.size) hok)
 have HO:=hide (fun w1 (k:Nat) (hk:k<16) (hb:RowKit.Below w.heap.size w w1)=>W9 l a n c (k:Int) w1 hn ⟨by omega,by omega⟩ (hl.below hb hb.size) hok)
 have HE:=hide hc
 have H:=hide h
 have HAV:=hide (And.intro hA hv)
 clear hl hok hc h hA hv
 go_enter Tryz.func93,Tryz.ntmps93
 go_wp2_with fail
 refine(HC.out _ (RowKit.Below.refl _ _)).mono ?_
 rintro e w1 ⟨rfl,hb1⟩
 rw[HE.out]
 have HB:=hide hb1
 clear hb1
 go_wp2_with fail
 refine(Dx _).mono ?_
 rintro e w2 ⟨rfl,hb2⟩
 have HB2:=hide (HB.out.trans (hb2.mono HB.out.size))
 clear hb2
 have hsz2:=HB2.out.size
 go_wp2
 have hbx:=heap_alloc_new w2 (.cells #[.int .u16 65535,.int .u16 0,.int .u8 255,.int .u8 255] 32)
 have yP:Hid (qN (w2.alloc (.cells #[.int .u16 65535,.int .u16 0,.int .u8 255,.int .u8 255] 32)) w2.heap.size (fD (je l port) 0)):=hide
  ⟨by rw[cell_of_row _ _ _ _ _ _ hbx];rfl,by rw[cell_of_row _ _ _ _ _ _ hbx];rfl,by rw[cell_of_row _ _ _ _ _ _ hbx];rfl,by rw[cell_of_row _ _ _ _ _ _ hbx];rfl,by unfold World.frozen?;rw[hbx];simp⟩
 clear hbx
 obtain⟨N,hN⟩:∃N,w2.heap.size=N:=⟨_,rfl⟩
 have HB3:=hide (HB2.out.alloc hsz2 (.cells #[.int .u16 65535,.int .u16 0,.int .u8 255,.int .u8 255] 32))
 have hN3:N<(w2.alloc (.cells #[.int .u16 65535,.int .u16 0,.int .u8 255,.int .u8 255] 32)).heap.size :=by simp;omega
 rw[hN]at yP hsz2 ⊢
 generalize w2.alloc _=w3 at*
 clear hN HB2 HB
 go_loopw [20] (fun i wr=>∃k:Nat,k≤16∧i= .int .i64 k∧Hid (qN wr N (fD (je l port) k))∧RowKit.Below w.heap.size w wr∧N<wr.heap.size) (fun i _=>16 - (intOf i).toNat)
 case atStart=>exact⟨0,Nat.zero_le _,rfl,yP,HB3.out,hN3⟩
 case round=>
  clear yP HB3 hN3
  obtain⟨k,hk,rfl,HM,hb,ZI⟩:=hrel
  have MZ:=hide hb
  clear hb
  by_cases hlt:k<16
  ·go_wp2_with fail
   refine(HO.out _ k hlt MZ.out).mono ?_
   rintro e w4 ⟨rfl,hb4⟩
   have ug:=hide (HM.out.below hb4 ZI)
   have dM:=hide (MZ.out.trans (hb4.mono MZ.out.size))
   have ZJ:N<w4.heap.size:=Nat.lt_of_lt_of_le ZI hb4.size
   clear hb4 MZ HM ZI
   cases hp1:decide (0≤(jE (k:Int) l).2)
   ·have HS:=hide (show fD (je l port) (k+1)=fD (je l port) k from by simp only[fD,je,hp1];simp)
    go_wp2
    go_roundw
    case rel=>exact⟨k+1,by omega,by go_num,HS.out.symm▸ug,dM.out,ZJ⟩
    case measure=>simp[intOf];omega
   cases hp2:((jE (k:Int) l).1==port)
   ·have HS:=hide (show fD (je l port) (k+1)=fD (je l port) k from by simp only[fD,je,hp1,hp2];simp)
    go_wp2
    go_roundw
    case rel=>exact⟨k+1,by omega,by go_num,HS.out.symm▸ug,dM.out,ZJ⟩
    case measure=>simp[intOf];omega
   have HS:=hide (show fD (je l port) (k+1)=fD (je l port) k ||| 2 ^ k from by simp only[fD,je,hp1,hp2];simp)
   have HX:=hide (ZH (fD (je l port) k) k (FL _ hk) hlt)
   obtain⟨y0,y1,y2,y3,y4⟩:=ug.out
   go_wp2
   go_region
   all_goals
    go_wp2
    go_roundw
    case rel=>exact⟨k+1,by omega,by go_num,hide (by rw[HS.out];exact(ug.out.set' HX.out).drew),(dM.out.setCell hsz2 _).drew,by simp[World.setCell];exact ZJ⟩
    case measure=>simp[intOf];omega
  ·have ac8:k=16:=by omega
   subst ac8
   obtain⟨y0,y1,y2,y3,y4⟩:=HM.out
   have gD:Hid (Calls Tryz.prog 88 #[.pointer (some ⟨g,0,none⟩),.agg #[.int .u16 65535,.int .u16 (fD (je l port) 16:Nat),.int .u8 255,.int .u8 255]] wr (BP wr B g nb kb ib A (outs (bU 65535 (fD (je l port) 16) 255 255)) (mR (bU 65535 (fD (je l port) 16) 255 255)))):=
    hide (zJ (H.out.below MZ.out) HAV.out.1 HAV.out.2 65535 (fD (je l port) 16) 255 255 (by omega) (FL _ (Nat.le_refl _)) (by omega) (by omega))
   go_wp2_with fail
   refine gD.out.mono ?_
   rintro e w5 hbp
   have HF:=hide (hbp.base MZ.out)
   obtain⟨_,_,_,_,_,_,_,_,_,_,_,hres⟩:=hbp
   clear gD
   rcases hres with⟨r,rfl,_,_⟩ | ⟨rfl,_⟩
   all_goals
    go_wp2
    go_ret2
    exact HF.out
end Go.Proofs.YtifkacnoiocebaaGreat
