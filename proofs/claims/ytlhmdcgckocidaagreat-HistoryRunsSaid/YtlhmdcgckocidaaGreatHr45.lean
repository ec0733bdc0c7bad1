/- A part of the proof: RdC, RdR, RdY, RdF, Sd3. -/
import Derived.Test.YtlhmdcgckocidaaGreatHr44
set_option linter.unusedVariables false
set_option linter.unusedSimpArgs false
set_option maxRecDepth 100000
set_option maxHeartbeats 4000000
namespace Go.Proofs.YtlhmdcgckocidaaGreat
open ak Go.Maps Go.RowKit
def wF (c:Nat→Option Bool):Nat→ak.Fn
 |0=>fun _=>true
 |n+1=>fun x=>wF c n x && (match c n with | none=>true | some b=>x n ==b)
def vC:Nat→List ak.Fn
 |0=>[fun _=>true]
 |n+1=>vC n++((vC n).map (fun F x=>F x && (x n ==true))++(vC n).map (fun F x=>F x && (x n ==false)))
theorem FZ:∀n,(vC n).length =3 ^ n
 |0=>rfl
 |n+1=>by
  simp only[vC,List.length_append,List.length_map,FZ n]
  omega
theorem LP (c:Nat→Option Bool):∀n,wF c n∈vC n
 |0=>List.mem_singleton.2 rfl
 |n+1=>by
  have ih:=LP c n
  simp only[vC,List.mem_append,List.mem_map]
  cases e:c n with
  |none=>exact .inl (by simpa only[wF,e,Bool.and_true]using ih)
  |some b=>
   cases b
   ·exact .inr (.inr ⟨_,ih,by simp only[wF,e]⟩)
   ·exact .inr (.inl ⟨_,ih,by simp only[wF,e]⟩)
theorem ru (c:Nat→Option Bool) (x:gP):∀n,(wF c n x=true↔∀u,u<n→∀b,c u=some b→x u=b)
 |0=>⟨fun _ u hu=>by omega,fun _=>rfl⟩
 |n+1=>by
  have ih:=ru c x n
  simp only[wF,Bool.and_eq_true,ih]
  constructor
  ·rintro⟨h1,h2⟩ u hu b hb
   by_cases e:u=n
   ·subst e
    rw[hb]at h2
    simpa using h2
   ·exact h1 u (by omega) b hb
  ·intro h
   refine⟨fun u hu b hb=>h u (by omega) b hb,?_⟩
   cases e:c n with
   |none=>rfl
   |some b=>simpa using h n (by omega) b e
def dh (F:ak.Fn):Prop:=F=(fun _=>false)∨∃c,F=wF c 8
theorem dh.of {F:ak.Fn} (Q:Nat→Bool→Prop) (hq:∀u b,Q u b→u<8) (h:∀x,F x=true↔∀u b,Q u b→x u=b):dh F:=by
 by_cases e:∃x0,F x0=true
 ·obtain⟨x0,h0⟩:=e
  have hx0:=(h x0).1 h0
  refine .inr ⟨fun v=>open Classical in if∃b,Q v b then some (x0 v)else none,?_⟩
  funext x
  rw[Bool.eq_iff_iff,ru,h]
  constructor
  ·intro hx u hu b hb
   split at hb
   ·rename_i hex
    obtain⟨b',hb'⟩:=hex
    cases hb
    rw[hx u b' hb',hx0 u b' hb']
   ·cases hb
  ·intro hx u b hb
   rw[hx u (hq u b hb) (x0 u) (if_pos ⟨b,hb⟩),hx0 u b hb]
 ·left
  funext x
  cases hx:F x
  ·rfl
  ·exact absurd ⟨x,hx⟩ e
theorem dh.no:dh (fun _=>false):=.inl rfl
theorem dh.yes:dh (fun _=>true):=dh.of (fun _ _=>False) (fun _ _ h=>h.elim) (fun x=>⟨fun _ _ _ h=>h.elim,fun _=>rfl⟩)
theorem dh.one {F:ak.Fn} (e:F=fun _=>true):dh F:=e▸dh.yes
theorem dh.const (b:Bool):dh (fun _=>b):=by cases b;exact dh.no;exact dh.yes
theorem dh.sub {F G:ak.Fn} (h:dh F) (σ:Nat→Bool⊕Nat) (hσ:∀u,u<8→∀v,σ u= .inr v→v<8) (hG:∀x,G x=F (fun u=>match σ u with | .inl b=>b | .inr v=>x v)):dh G:=by
 rcases h with rfl | ⟨c,rfl⟩
 ·left;funext x;rw[hG]
 ·by_cases e:∃u b b0,u<8∧c u=some b∧σ u= .inl b0∧b0≠b
  ·obtain⟨u,b,b0,hu,hc,hs,hne⟩:=e
   left
   funext x
   rw[hG]
   cases hx:wF c 8 (fun u=>match σ u with | .inl b=>b | .inr v=>x v)
   ·rfl
   ·have:=(ru _ _ _).1 hx u hu b hc
    simp only[hs]at this
    exact absurd this hne
  ·refine dh.of (fun v b=>∃u,u<8∧c u=some b∧σ u= .inr v) (fun v b ⟨u,hu,_,hs⟩=>hσ u hu v hs) (fun x=>?_)
   rw[hG,ru]
   constructor
   ·rintro hx v b ⟨u,hu,hc,hs⟩
    have:=hx u hu b hc
    simpa only[hs]using this
   ·intro hx u hu b hc
    cases hs:σ u with
    |inl b0=>
     simp only
     by_cases hne:b0=b
     ·exact hne
     ·exact absurd ⟨u,b,b0,hu,hc,hs,hne⟩ e
    |inr v=>exact hx v b ⟨u,hu,hc,hs⟩
theorem dh.and {F G:ak.Fn} (h:dh F) (k:dh G):dh (bL F G):=by
 rcases h with rfl | ⟨c,rfl⟩
 ·left;funext x;rw[CG];rfl
 rcases k with rfl | ⟨d,rfl⟩
 ·left;funext x;rw[CG,Bool.and_false]
 refine dh.of (fun v b=>v<8∧(c v=some b∨d v=some b)) (fun _ _ h=>h.1) (fun x=>?_)
 rw[CG,Bool.and_eq_true,ru,ru]
 exact⟨fun⟨h1,h2⟩ v b ⟨hv,hb⟩=>hb.elim (h1 v hv b) (h2 v hv b),fun h=>⟨fun v hv b hb=>h v b ⟨hv,.inl hb⟩,fun v hv b hb=>h v b ⟨hv,.inr hb⟩⟩⟩
theorem dh.cof {F G:ak.Fn} (h:dh F) (hc:kS F G):dh G:=by
 obtain⟨k,s,rfl⟩:=hc
 refine h.sub (fun u=>if u<k then .inl (s u)else .inr u) (fun u hu v hv=>?_) (fun x=>?_)
 ·split at hv
  ·cases hv
  ·cases hv;exact hu
 ·congr 1
  funext u
  by_cases e:u<k<;>simp[e]
theorem dh.aT {F:ak.Fn} (h:dh F) (i:Nat) (b:Bool):dh (aT F i b):=by
 refine h.sub (fun u=>if u=i then .inl b else .inr u) (fun u hu v hv=>?_) (fun x=>?_)
 ·split at hv
  ·cases hv
  ·cases hv;exact hu
 ·unfold Go.Proofs.YtlhmdcgckocidaaGreat.aT
  congr 1
  funext u
  by_cases e:u=i<;>simp[upd,e]
theorem dh.eight {F:ak.Fn} (h:dh F) {x y:gP} (hxy:∀u,u<8→x u=y u):F x=F y:=by
 rcases h with rfl | ⟨c,rfl⟩
 ·rfl
 ·rw[Bool.eq_iff_iff,ru,ru]
  exact⟨fun h u hu b hb=>by rw[← hxy u hu];exact h u hu b hb,fun h u hu b hb=>by rw[hxy u hu];exact h u hu b hb⟩
def CJ:List ak.Fn:=(fun _=>false)::((List.range 14).map (fun u=>fun x:gP=>x u)++vC 8)
theorem TL:CJ.length=6576:=by
 simp only[CJ,List.length_cons,List.length_append,List.length_map,List.length_range,FZ]
def iO (G:ak.Fn):Prop:=ak.Below 14 G→G∈CJ
theorem iO.of {G:ak.Fn} (h:dh G):iO G:=fun _=>by
 unfold CJ
 rcases h with rfl | ⟨c,rfl⟩
 ·exact List.mem_cons_self
 ·exact List.mem_cons_of_mem _ (List.mem_append_right _ (LP c 8))
theorem iO.pc {F:ak.Fn} (h:dh F):PC iO F:=fun G hG=>iO.of (h.cof hG)
theorem iO.var (u:Nat):PC iO (fun x=>x u):=by
 rintro G ⟨k,s,rfl⟩
 by_cases e:u<k
 ·have:(fun x:gP=>if u<k then s u else x u)=fun _=>s u:=by funext x;rw[if_pos e]
  rw[this]
  exact iO.of (dh.const _)
 ·have hx:(fun x:gP=>if u<k then s u else x u)=fun x=>x u:=by funext x;rw[if_neg e]
  rw[hx]
  intro hb
  have hu:u<14:=Nat.lt_of_not_le (fun hu=>by
   have:=hb (fun _=>false) (fun v=>decide (v=u)) (fun v hv=>by
    have:v≠u:=by omega
    simp[this])
   simp at this)
  unfold CJ
  exact List.mem_cons_of_mem _ (List.mem_append_left _ (List.mem_map.2 ⟨u,List.mem_range.2 hu,rfl⟩))
theorem CK (i:Nat) (K:ak.Fn) (j:Nat):bH (fun x=>x i) (Go.Proofs.YtlhmdcgckocidaaGreat.aT K j true) (Go.Proofs.YtlhmdcgckocidaaGreat.aT K j false)=fun x=>K (upd x j (x i)):=by
 funext x
 show(if x i=true then K (upd x j true)else K (upd x j false))=K (upd x j (x i))
 by_cases e:x i=true
 ·rw[if_pos e,e]
 ·rw[if_neg e,Bool.eq_false_iff.2 e]
theorem dh.takes {F:ak.Fn} (h:dh F) (i j:Nat) (hij:(i<8∧j<8)∨(8≤i∧8≤j)):dh (fun x=>F (upd x j (x i))):=by
 rcases hij with⟨h1,h2⟩ | ⟨h1,h2⟩
 ·refine h.sub (fun u=>if u=j then .inr i else .inr u) (fun u hu v hv=>?_) (fun x=>?_)
  ·split at hv<;>cases hv<;>assumption
  ·congr 1
   funext u
   by_cases e:u=j<;>simp[upd,e]
 ·have:(fun x=>F (upd x j (x i)))=F:=by
   funext x
   exact h.eight (fun u hu=>jH x _ (by omega))
  rw[this];exact h
theorem dh.swap {F:ak.Fn} (h:dh F) (i j:Nat) (hij:(i<8∧j<8)∨(8≤i∧8≤j)):dh (sj F i j):=by
 rcases hij with⟨h1,h2⟩ | ⟨h1,h2⟩
 ·refine h.sub (fun u=>if u=i then .inr j else if u=j then .inr i else .inr u) (fun u hu v hv=>?_) (fun x=>?_)
  ·split at hv
   ·cases hv;exact h2
   ·split at hv<;>cases hv<;>assumption
  ·unfold sj
   congr 1
   funext u
   by_cases e:u=i
   ·simp[upd,e]
   ·by_cases e2:u=j
    ·subst e2
     simp[upd,e]
    ·simp[upd,e,e2]
 ·have:sj F i j=F:=by
   funext x
   unfold sj
   exact h.eight (fun u hu=>by rw[jH _ _ (by omega),jH _ _ (by omega)])
  rw[this];exact h
theorem Wm (F:ak.Fn) (i j:Nat) (hij:i≠j):bH (fun x=>x j) (bH (fun x=>x i) (Go.Proofs.YtlhmdcgckocidaaGreat.aT (Go.Proofs.YtlhmdcgckocidaaGreat.aT F i true) j true) (Go.Proofs.YtlhmdcgckocidaaGreat.aT (Go.Proofs.YtlhmdcgckocidaaGreat.aT F i true) j false)) (bH (fun x=>x i) (Go.Proofs.YtlhmdcgckocidaaGreat.aT (Go.Proofs.YtlhmdcgckocidaaGreat.aT F i false) j true) (Go.Proofs.YtlhmdcgckocidaaGreat.aT (Go.Proofs.YtlhmdcgckocidaaGreat.aT F i false) j false))=sj F i j:=by
 rw[CK,CK]
 funext x
 show(if x j=true then F (upd (upd x j (x i)) i true)else F (upd (upd x j (x i)) i false))=F (upd (upd x j (x i)) i (x j))
 by_cases e:x j=true
 ·rw[if_pos e,e]
 ·rw[if_neg e,Bool.eq_false_iff.2 e]
theorem dh.TM {F:ak.Fn} (h:dh F) (i j:Nat) (hij:(i<8∧j<8)∨(8≤i∧8≤j)) (hne:i≠j):zl iO F i j:=
 ⟨iO.var _,iO.var _,iO.pc (h.aT _ _),iO.pc (h.aT _ _),iO.pc ((h.aT _ _).aT _ _),iO.pc ((h.aT _ _).aT _ _),by rw[CK];exact iO.pc ((h.aT _ _).takes i j hij),
  iO.pc ((h.aT _ _).aT _ _),iO.pc ((h.aT _ _).aT _ _),by rw[CK];exact iO.pc ((h.aT _ _).takes i j hij),by rw[Wm F i j hne];exact iO.pc (h.swap i j hij)⟩
theorem dh.lS {F:ak.Fn} (h:dh F):∀k,k≤4→dh (lS F k)
 |0,_=>h
 |k+1,hk=>(dh.lS h k (by omega)).swap _ _ (.inl ⟨by omega,by omega⟩)
theorem dh.sF {F:ak.Fn} (h:dh F):∀k,k≤3→dh (sF F k)
 |0,_=>h
 |k+1,hk=>(dh.sF h k (by omega)).swap _ _ (.inr ⟨by omega,by omega⟩)
theorem dh.flip {F:ak.Fn} (h:dh F):dh (oh F):=(h.lS 4 (Nat.le_refl _)).sF 3 (Nat.le_refl _)
theorem dh.abQ {F:ak.Fn} (h:dh F):zn iO F:=
 ⟨fun k hk=>(h.lS k (by omega)).TM _ _ (.inl ⟨by omega,by omega⟩) (by omega),fun k hk=>((h.lS 4 (Nat.le_refl _)).sF k (by omega)).TM _ _ (.inr ⟨by omega,by omega⟩) (by omega)⟩
theorem TN {l:List jN} (h:∀x∈l,dh x.fn):∀(F:ak.Fn),dh F→dh (l.foldl (fun F x=>bH F x.fn (fun _=>false)) F):=by
 induction l with
 |nil=>exact fun F hF=>hF
 |cons x l ih=>exact fun F hF=>ih (fun y hy=>h y (List.mem_cons_of_mem _ hy)) _ (hF.and (h x List.mem_cons_self))
theorem TP {l:List jN} (h:∀x∈l,dh x.fn) {G:ak.Fn} (hG:lX l G):iO G:=by
 rcases hG with⟨u,hG⟩ | ⟨x,hx,hG⟩ | ⟨k,hk,hG⟩
 ·exact iO.var u G hG
 ·exact iO.pc (h x hx) G hG
 ·exact iO.pc (TN (fun x hx=>h x (List.mem_of_mem_take hx)) _ dh.yes) G hG
theorem CO (d:Nat):∀(set v n:Nat),(∀m,m<2 ^ d→set.testBit (n*2 ^ d+m)=true)→dZ set d v n=fun _=>true:=by
 induction d with
 |zero=>intro set v n h;funext x;simpa[dZ]using h 0 (by simp)
 |succ d ih=>
  intro set v n h
  have e:2 ^ (d+1)=2*2 ^ d:=by rw[Nat.pow_succ];omega
  have h1:dZ set d (v+1) (n*2+1)=fun _=>true:=ih _ _ _ (fun m hm=>by
   have:=h (2 ^ d+m) (by omega)
   rwa [e,show n*(2*2 ^ d)+(2 ^ d+m)=(n*2+1)*2 ^ d+m from by rw[Nat.add_mul,Nat.mul_assoc];omega]at this)
  have h2:dZ set d (v+1) (n*2)=fun _=>true:=ih _ _ _ (fun m hm=>by
   have:=h m (by omega)
   rwa [e,← Nat.mul_assoc]at this)
  funext x
  simp only[dZ,bH,h1,h2]
  split<;>rfl
theorem Yk:dZ 65535 4 0 0=fun _=>true:=CO 4 _ _ _ (by decide)
theorem F3:dZ 65535 4 4 0=fun _=>true:=CO 4 _ _ _ (by decide)
theorem Jf:dZ 255 3 8 0=fun _=>true:=CO 3 _ _ _ (by decide)
theorem Jg:dZ 255 3 11 0=fun _=>true:=CO 3 _ _ _ (by decide)
theorem LQ (x:gP):dZ (2 ^ 1) 4 0 0 x=(!x 0 && !x 1 && !x 2 && x 3):=by
 have key:∀a b c d:Bool,x 0=a→x 1=b→x 2=c→x 3=d→dZ (2 ^ 1) 4 0 0 x=(!x 0 && !x 1 && !x 2 && x 3):=by
  intro a b c d h0 h1 h2 h3
  simp only[dZ,bH,Nat.zero_add,Nat.reduceAdd,h0,h1,h2,h3]
  cases a<;>cases b<;>cases c<;>cases d<;>decide
 exact key _ _ _ _ rfl rfl rfl rfl
theorem Wo (x:gP):dZ (2 ^ 2) 4 0 0 x=(!x 0 && !x 1 && x 2 && !x 3):=by
 have key:∀a b c d:Bool,x 0=a→x 1=b→x 2=c→x 3=d→dZ (2 ^ 2) 4 0 0 x=(!x 0 && !x 1 && x 2 && !x 3):=by
  intro a b c d h0 h1 h2 h3
  simp only[dZ,bH,Nat.zero_add,Nat.reduceAdd,h0,h1,h2,h3]
  cases a<;>cases b<;>cases c<;>cases d<;>decide
 exact key _ _ _ _ rfl rfl rfl rfl
theorem TQ:dh (dZ (2 ^ 1) 4 0 0):=dh.of (fun u b=>u<4∧b=decide (u=3)) (fun u b h=>by omega) (fun x=>by
 rw[LQ]
 simp only[Bool.and_eq_true,Bool.not_eq_true']
 constructor
 ·rintro⟨⟨⟨h0,h1⟩,h2⟩,h3⟩ u b ⟨hu,rfl⟩
  rcases(show u=0∨u=1∨u=2∨u=3 by omega)with rfl | rfl | rfl | rfl
  ·exact h0
  ·exact h1
  ·exact h2
  ·exact h3
 ·intro h
  exact⟨⟨⟨h 0 _ ⟨by omega,rfl⟩,h 1 _ ⟨by omega,rfl⟩⟩,h 2 _ ⟨by omega,rfl⟩⟩,h 3 _ ⟨by omega,rfl⟩⟩)
theorem TR:dh (dZ (2 ^ 2) 4 0 0):=dh.of (fun u b=>u<4∧b=decide (u=2)) (fun u b h=>by omega) (fun x=>by
 rw[Wo]
 simp only[Bool.and_eq_true,Bool.not_eq_true']
 constructor
 ·rintro⟨⟨⟨h0,h1⟩,h2⟩,h3⟩ u b ⟨hu,rfl⟩
  rcases(show u=0∨u=1∨u=2∨u=3 by omega)with rfl | rfl | rfl | rfl
  ·exact h0
  ·exact h1
  ·exact h2
  ·exact h3
 ·intro h
  exact⟨⟨⟨h 0 _ ⟨by omega,rfl⟩,h 1 _ ⟨by omega,rfl⟩⟩,h 2 _ ⟨by omega,rfl⟩⟩,h 3 _ ⟨by omega,rfl⟩⟩)
theorem Iu {a:Nat} (h:dh (dZ (2 ^ a) 4 0 0)):∀x∈dQ (2 ^ a) 65535 255 255,dh x.fn:=by
 intro x hx
 simp only[dQ,List.mem_cons,List.not_mem_nil,or_false]at hx
 rcases hx with rfl | rfl | rfl | rfl
 ·exact h
 ·exact dh.one Jf
 ·exact dh.one F3
 ·exact dh.one Jg
theorem TT:∀x∈dQ 65535 65535 255 255,dh x.fn:=by
 intro x hx
 simp only[dQ,List.mem_cons,List.not_mem_nil,or_false]at hx
 rcases hx with rfl | rfl | rfl | rfl
 ·exact dh.one Yk
 ·exact dh.one Jf
 ·exact dh.one F3
 ·exact dh.one Jg
theorem TU {a:Nat} (h:dh (dZ (2 ^ a) 4 0 0)):dh (dx (oU a)):=TN (Iu h) _ dh.yes
theorem Ov {a:Nat} (h:dh (dZ (2 ^ a) 4 0 0)):pG iO (oU a):=fun G hG=>TP (Iu h) hG
theorem LU:dU [iy true]=fun _=>true:=by
 have:outs (dQ 65535 65535 255 255)=fun _=>true:=by
  have e1:(jN.fn ⟨65535,4,0⟩)=fun _=>true:=Yk
  have e2:(jN.fn ⟨255,3,8⟩)=fun _=>true:=Jf
  have e3:(jN.fn ⟨65535,4,4⟩)=fun _=>true:=F3
  have e4:(jN.fn ⟨255,3,11⟩)=fun _=>true:=Jg
  simp only[outs,dQ,List.foldl_cons,List.foldl_nil,e1,e2,e3,e4]
  funext x
  simp[bH]
 funext x
 show bH (outs (dQ 65535 65535 255 255)) (fun _=>true) (fun _=>false) x=true
 rw[this]
 rfl
theorem TV:Jc iO [iy true]:=by
 refine⟨fun r hr G hG=>?_,fun k G hG=>?_⟩
 ·rw[List.mem_singleton]at hr
  subst hr
  exact TP TT hG
 ·cases k with
  |zero=>exact iO.pc (by rw[List.drop_zero,LU];exact dh.yes) G hG
  |succ k=>exact iO.pc (by simp only[List.drop_succ_cons,List.drop_nil,dU];exact dh.no) G hG
theorem Ce (F:ak.Fn):pU (fun _=>false) F=F:=by funext x;rw[KX,Bool.false_or]
theorem D8 (F:ak.Fn):pU F F=F:=by funext x;rw[KX,Bool.or_self]
theorem LV (F:ak.Fn):bL F (fun _=>true)=F:=by funext x;rw[CG,Bool.and_true]
def iE:List Dev:=d9 (jA [iy true])
def cS (a:Nat):ak.Fn:=dx (oU a)
def cB:ak.Fn:=bL (cS 2) (oh (cS 1))
def xL:Pl→ak.Fn:=fun x=>if((1,0):Pl)=x then cS 1 else if((1,1):Pl)=x then cS 2 else fun _=>false
def vT:Pl→ak.Fn:=fun x=>if((0,0):Pl)=x then cB else if((2,0):Pl)=x then cS 1 else xL x
theorem F4:dh (cS 1):=TU TQ
theorem Yl:dh (cS 2):=TU TR
theorem abR:dh cB:=Yl.and F4.flip
theorem vD {ls:List av} {x y:Pl} (h:aP ls x=some y) (F:ak.Fn) (S:Pl→ak.Fn):fO ls x F S=fun z=>if y=z then pU (S y) F else S z:=by
 unfold fO;rw[h]
theorem abS:aP aX (((0:Nat):Int),0)=some (1,0):=by decide
theorem abT:aP aX (((2:Nat):Int),0)=some (1,1):=by decide
theorem abU:aP aX (((1:Nat):Int),0)=some (0,0):=by decide
theorem QG:aP aX (((1:Nat):Int),1)=some (2,0):=by decide
def Ym:Dev:=⟨⟨#[105,110]⟩,1,1,0,[],[],[]⟩
def cH2:Dev:=⟨⟨#[111,117,116]⟩,1,2,0,[],[],[]⟩
def cF1:Dev:=⟨⟨#[100]⟩,3,0,0,[],[iy true],[]⟩
theorem QH:iE[0]?=some Ym:=rfl
theorem Wq:iE[1]?=some cF1:=rfl
theorem Ws:iE[2]?=some cH2:=rfl
theorem Ow {k:Nat} {d:Dev} (h:iE[k]?=some d):(k=0∧d=Ym)∨(k=1∧d=cF1)∨(k=2∧d=cH2):=by
 match k,h with
 |0,h=>left;rw[QH]at h;cases h;exact⟨rfl,rfl⟩
 |1,h=>right;left;rw[Wq]at h;cases h;exact⟨rfl,rfl⟩
 |2,h=>right;right;rw[Ws]at h;cases h;exact⟨rfl,rfl⟩
 |k+3,h=>rw[List.getElem?_eq_none (by show 3≤k+3;omega)]at h;cases h
def cE:Pl→ak.Fn:=fun _ _=>false
theorem TW:iL iE aX cE 1=fun z=>if((1,0):Pl)=z then cS 1 else fun _=>false:=by
 rw[sS QH]
 show Af aX 0 Ym cE=_
 unfold Af
 rw[if_pos (show Ym.kind=1 from rfl),vD abS]
 funext z
 by_cases h:((1,0):Pl)=z
 ·rw[if_pos h,if_pos h];exact Ce _
 ·rw[if_neg h,if_neg h];rfl
theorem TY:iL iE aX cE 2=iL iE aX cE 1:=by
 rw[sS Wq]
 rfl
theorem abW:iL iE aX cE 3=xL:=by
 rw[sS Ws,TY,TW]
 unfold Af
 rw[if_pos (show cH2.kind=1 from rfl),vD abT]
 funext z
 by_cases h:((1,1):Pl)=z
 ·subst h
  rw[if_pos rfl,if_neg (by decide)]
  exact Ce _
 ·rw[if_neg h]
  unfold xL
  by_cases h1:((1,0):Pl)=z
  ·rw[if_pos h1,if_pos h1]
  ·rw[if_neg h1,if_neg h1,if_neg h]
theorem F5 {Sw Sn:Pl→ak.Fn} (h0:Sw (((1:Nat):Int),0)=cS 1) (h1:Sw (((1:Nat):Int),1)=cS 2):sG aX 1 [iy true] Sw Sn=fun z=>if((0,0):Pl)=z then pU (Sn (0,0)) cB else if((2,0):Pl)=z then pU (Sn (2,0)) (cS 1)else Sn z:=by
 unfold sG
 rw[if_pos (by rw[QG];rfl),LU,h0,h1,LV,vD abU,vD QG]
 funext z
 by_cases e:((0,0):Pl)=z
 ·rw[if_pos e,if_pos e]
  show pU (if((2,0):Pl)=(0,0)then pU (Sn (2,0)) (cS 1)else Sn (0,0)) cB=_
  rw[if_neg (by decide)]
 ·rw[if_neg e,if_neg e]
theorem F6 {Sw Sn:Pl→ak.Fn} :gF iE aX Sw Sn 3=sG aX 1 [iy true] Sw Sn:=by
 rw[qp Ws,qp Wq,qp QH]
 rfl
theorem F7:xL (0,0)=fun _=>false:=by unfold xL;rw[if_neg (by decide),if_neg (by decide)]
theorem Ua:xL (2,0)=fun _=>false:=by unfold xL;rw[if_neg (by decide),if_neg (by decide)]
theorem LW:xL (((1:Nat):Int),0)=cS 1:=by unfold xL;rw[if_pos (by decide)]
theorem LX:xL (((1:Nat):Int),1)=cS 2:=by unfold xL;rw[if_neg (by decide),if_pos (by decide)]
theorem Cg:vT (0,0)=cB:=by unfold vT;rw[if_pos (by decide)]
theorem F8:vT (2,0)=cS 1:=by unfold vT;rw[if_neg (by decide),if_pos (by decide)]
theorem Ub:vT (((1:Nat):Int),0)=cS 1:=by unfold vT;rw[if_neg (by decide),if_neg (by decide)];exact LW
theorem Uc:vT (((1:Nat):Int),1)=cS 2:=by unfold vT;rw[if_neg (by decide),if_neg (by decide)];exact LX
theorem acF:gF iE aX xL xL 3=vT:=by
 rw[F6,F5 LW LX,F7,Ua,Ce,Ce]
 rfl
theorem acG:gF iE aX vT vT 3=vT:=by
 rw[F6,F5 Ub Uc,Cg,F8,D8,D8]
 funext z
 by_cases e:((0,0):Pl)=z
 ·subst e;rw[if_pos rfl,Cg]
 ·rw[if_neg e]
  by_cases e2:((2,0):Pl)=z
  ·subst e2;rw[if_pos rfl,F8]
  ·rw[if_neg e2]
theorem tq:aR iE aX 0=xL:=abW
theorem kL:∀k,aR iE aX (k+1)=vT
 |0=>by
  show gF iE aX (aR iE aX 0) (aR iE aX 0) 3=vT
  rw[tq,acF]
 |k+1=>by
  show gF iE aX (aR iE aX (k+1)) (aR iE aX (k+1)) 3=vT
  rw[kL k,acG]
theorem CQ {ls:List av} {x y:Pl} (h:aP ls x=some y) {F:ak.Fn} {S:Pl→ak.Fn} (hF:dh F) (hS:S y=(fun _=>false)∨S y=F):mU iO ls x F S:=by
 intro z hz
 rw[h]at hz
 cases hz
 rcases hS with e | e<;>rw[e]
 ·rw[Ce];exact iO.pc hF
 ·rw[D8];exact iO.pc hF
theorem I8:CF iO iE aX cE:=by
 intro k d hd hk
 rcases Ow hd with⟨rfl,rfl⟩ | ⟨rfl,rfl⟩ | ⟨rfl,rfl⟩
 ·exact⟨Ov TQ,CQ abS F4 (.inl rfl)⟩
 ·exact absurd hk (by decide)
 ·refine⟨Ov TR,CQ abT Yl (.inl ?_)⟩
  rw[TY,TW]
  exact if_neg (by decide)
theorem LY {Sw Sn:Pl→ak.Fn} (h0:Sw (((1:Nat):Int),0)=cS 1) (h1:Sw (((1:Nat):Int),1)=cS 2) (n0:Sn (0,0)=(fun _=>false)∨Sn (0,0)=cB) (n2:Sn (2,0)=(fun _=>false)∨Sn (2,0)=cS 1):KJ iO aX 1 [iy true] Sw Sn:=by
 have e:bL (Sw (((1:Nat):Int),0)) (dU [iy true])=cS 1:=by rw[h0,LU,LV]
 refine⟨TV,?_,?_,?_,?_,?_⟩
 ·rw[e];exact iO.pc F4
 ·rw[e];exact CQ QG F4 n2
 ·rw[e];exact F4.abQ
 ·rw[e,h1];exact iO.pc abR
 ·rw[e,h1]
  refine CQ abU abR ?_
  rw[vD QG]
  show(if((2,0):Pl)=(0,0)then pU (Sn (2,0)) (cS 1)else Sn (0,0))=_∨(if((2,0):Pl)=(0,0)then pU (Sn (2,0)) (cS 1)else Sn (0,0))=_
  rw[if_neg (by decide)]
  exact n0
theorem AO {S:Pl→ak.Fn} (h0:S (((1:Nat):Int),0)=cS 1) (h1:S (((1:Nat):Int),1)=cS 2) (n0:S (0,0)=(fun _=>false)∨S (0,0)=cB) (n2:S (2,0)=(fun _=>false)∨S (2,0)=cS 1):BU iO iE aX S S:=by
 intro k d hd
 rcases Ow hd with⟨rfl,rfl⟩ | ⟨rfl,rfl⟩ | ⟨rfl,rfl⟩
 ·exact⟨fun h=>absurd h (by decide),fun h=>absurd h (by decide),fun h=>absurd h (by decide),fun h=>absurd h (by decide)⟩
 ·refine⟨fun h=>absurd h (by decide),fun _=>?_,fun h=>absurd h (by decide),fun h=>absurd h (by decide)⟩
  have e:gF iE aX S S 1=S:=by rw[qp QH];rfl
  rw[e]
  exact LY h0 h1 n0 n2
 ·exact⟨fun h=>absurd h (by decide),fun h=>absurd h (by decide),fun h=>absurd h (by decide),fun h=>absurd h (by decide)⟩
theorem LZ:∀k,BU iO iE aX (aR iE aX k) (aR iE aX k)
 |0=>by rw[tq];exact AO LW LX (.inl F7) (.inl Ua)
 |k+1=>by rw[kL];exact AO Ub Uc (.inr Cg) (.inr F8)
theorem abX (x:gP):cS 1 x=(!x 0 && !x 1 && !x 2 && x 3):=by
 have e2:(jN.fn ⟨255,3,8⟩)=fun _=>true:=Jf
 have e3:(jN.fn ⟨65535,4,4⟩)=fun _=>true:=F3
 have e4:(jN.fn ⟨255,3,11⟩)=fun _=>true:=Jg
 have e1:(jN.fn ⟨2 ^ 1,4,0⟩) x=(!x 0 && !x 1 && !x 2 && x 3):=LQ x
 simp only[cS,dx,oU,outs,dQ,List.foldl_cons,List.foldl_nil,e2,e3,e4,bH,e1]
 cases x 0<;>cases x 1<;>cases x 2<;>cases x 3<;>decide
theorem QI {A:St} {most:Nat} (he:Ext (lM 14 most) A) (hm:2≤most) (hn:pV iO (lM 14 most) A):A.len≤6578:=by
 have hi:=G9 14 most (by omega) hm
 have hv:A.vars=14:=he.vars
 have ok:Ok 14 A.ns:=hv▸he.inv.ok
 obtain⟨more,e⟩:=he.ns
 have ok':Ok 14 ((lM 14 most).ns ++more):=e▸ok
 have:=Rs hi.ok ok' CJ (fun j h1 h2=>by
  rw[← e]at h2 ⊢
  exact hn j h1 h2 (xX ok j h2))
 rw[TL]at this
 show A.ns.length≤_
 rw[e,List.length_append]
 have:(lM 14 most).ns.length =2:=rfl
 omega
theorem cnt1:∀n,(List.range n).countP (fun c=>decide (c / 1024=1))=min (n - 1024) 1024:=by
 intro n
 induction n with
 |zero=>rfl
 |succ n ih=>
  rw[List.range_succ,List.countP_append,ih,List.countP_singleton]
  split<;>rename_i h<;>simp only[decide_eq_true_eq]at h<;>omega
theorem Wt (c:Nat) (hc:c<16384):cS 1 (lW 14 c)=decide (c / 1024=1):=by
 rw[show lW 14 c=kQ c from rfl,abX]
 simp only[kQ,tb]
 rw[Bool.eq_iff_iff]
 simp only[Bool.and_eq_true,Bool.not_eq_true',decide_eq_false_iff_not,decide_eq_true_eq]
 omega
theorem Zn:cntF 14 14 (cS 1)=1024:=by
 unfold cntF
 rw[List.countP_congr (p:=fun r=>cS 1 (lW 14 r)) (q:=fun c=>decide (c / 1024=1)) (fun c hc=>by
  rw[Wt c (by simpa using hc)]),cnt1]
 rfl
theorem Ud:cB (kQ 2112)=true:=by decide
theorem acH:cB (kQ 2240)=false:=by decide
theorem Zo {K:Nat} (hf:aR iE aX (K+1)=aR iE aX K) (hu:∀k,k<K→aR iE aX (k+1)≠aR iE aX k):K=1:=by
 have hd:aR iE aX (0+1)≠aR iE aX 0:=by
  intro e
  have e0:vT=xL:=(kL 0).symm.trans (e.trans tq)
  have h1:=congrFun (congrFun e0 (0,0)) (kQ 2112)
  rw[Cg,F7,Ud]at h1
  cases h1
 have hne:K≠0:=fun e=>by
  subst e
  exact hd hf
 have h2:¬ 2≤K:=fun h=>hu 1 h ((kL 1).trans (kL 0).symm)
 omega
theorem Ue:cntF 14 14 (aR iE aX 1 (2,0))=1024:=by rw[kL,F8,Zn]
theorem F9 (a:gP):lT ((List.range (1+1)).map fun k=>aR iE aX k (0,0)) 0 a=if cB a then 1 else -1:=by
 have e:((List.range (1+1)).map fun k=>aR iE aX k (0,0))=[aR iE aX 0 (0,0),aR iE aX 1 (0,0)]:=rfl
 rw[e,kL,tq,Cg,F7]
 simp only[lT]
 rfl
theorem Uf:aJ iE aX 1 (0,0) ⟨2,1,0,0⟩=1:=by
 unfold aJ
 rw[if_pos (by decide),F9,show nH ⟨2,1,0,0⟩=2112 from rfl,Ud]
 rfl
theorem Wu:aJ iE aX 1 (0,0) ⟨2,3,0,0⟩= -1:=by
 unfold aJ
 rw[if_pos (by decide),F9,show nH ⟨2,3,0,0⟩=2240 from rfl,acH]
 rfl
theorem QJ (W:World):Calls Tryz.prog 24 #[] W fun e W'=>e= .returned (.bool true)∧RowKit.Below W.heap.size W W':=by
 go_enter Tryz.func24,Tryz.ntmps24
 go_wp2_with fail
 refine(AX true W).mono ?_
 rintro e w2 ⟨rfl,hb⟩
 have hx3:=aB.new w2 #[.bool true,.int .u16 65535,.int .u16 65535,.int .u8 255,.int .u8 255] 81
 have hb3:=below_alloc2 w2 (.cells #[.bool true,.int .u16 65535,.int .u16 65535,.int .u8 255,.int .u8 255] 81)
 have hl3:w2.heap.size<(w2.alloc (.cells #[.bool true,.int .u16 65535,.int .u16 65535,.int .u8 255,.int .u8 255] 81)).heap.size :=by simp
 have HB3:=hide (hb.trans (hb3.mono hb.size))
 have Sg:=hide (Ee (uG (some ⟨w2.heap.size,0,none⟩) 1 1 [iy true]) _ (Ju (Ef hx3 hl3) ⟨Nat.le_refl _,show 1≤maxLen by unfold maxLen;omega⟩))
 clear hx3 hb3 hl3 hb
 go_wp2_with fail
 refine Sg.out.mono ?_
 clear Sg
 rintro e w4 ⟨m,rfl,hm,hmd,hml,hb⟩
 have bJ:=hide (HB3.out.trans (hb.mono HB3.out.size))
 have L6:m.au=iE:=hmd
 have pQ:=hide (AJ m 40000 w4 hm (by rw[L6,hml];exact Jt [iy true] (by simp)) (by omega) (by omega) iO (by rw[L6,hml];exact I8) (by rw[L6,hml];exact LZ))
 have HMD:=hide (And.intro L6 hml)
 clear hm hb HB3 hmd hml L6
 go_wp2_with fail
 refine pQ.out.mono ?_
 clear pQ
 rintro e w5 ⟨hb,⟨N,K,rfl,hR⟩ | ⟨A,rfl,hx,hn,hf⟩⟩
 case inr=>
  have h1:=QI hx (by omega) hn
  have h2:A.most=40000:=hx.most
  omega
 have hR:=hR.at_
 rw[HMD.out.1,HMD.out.2]at hR
 obtain rfl:K=1:=Zo hR.fix hR.up
 have pI:=hide (bJ.out.trans (hb.mono bJ.out.size))
 have lN:=hide hR
 clear hb hR bJ HMD
 go_wp2_with fail
 refine(Dm N iE aX 1 w5 lN.out).mono ?_
 rintro e w6 ⟨rfl,rfl⟩
 go_wp2_with fail
 refine(rE 2 0 w5).mono ?_
 rintro e w7 ⟨rfl,hb⟩
 have kE:=hide (pI.out.trans (hb.mono pI.out.size))
 have gY:=hide (lN.out.below hb)
 clear hb pI lN
 go_wp2_with fail
 refine(FP N iE aX 1 (2,0) ⟨by simp[ay],by simp[ay]⟩ w7 gY.out).mono ?_
 rintro e w8 ⟨rfl,hb⟩
 have rH:=hide (kE.out.trans (hb.mono kE.out.size))
 have iW:=hide (gY.out.below hb)
 clear hb kE gY
 rw[Ue]
 go_wp2_with fail
 refine(rE 0 0 w8).mono ?_
 rintro e w9 ⟨rfl,hb⟩
 have AL:=hide (rH.out.trans (hb.mono rH.out.size))
 have mQ:=hide (iW.out.below hb)
 clear hb rH iW
 go_wp2_with fail
 refine(iZ N iE aX 1 (0,0) ⟨by simp[ay],by simp[ay]⟩ ⟨2,1,0,0⟩ w9 mQ.out).mono ?_
 rintro e ng ⟨rfl,hb⟩
 have Aj:=hide (AL.out.trans (hb.mono AL.out.size))
 have qL:=hide (mQ.out.below hb)
 clear hb AL mQ
 rw[Uf]
 go_wp2_with fail
 refine(rE 0 0 ng).mono ?_
 rintro e xg ⟨rfl,hb⟩
 have Gy:=hide (Aj.out.trans (hb.mono Aj.out.size))
 have Bz:=hide (qL.out.below hb)
 clear hb Aj qL
 go_wp2_with fail
 refine(iZ N iE aX 1 (0,0) ⟨by simp[ay],by simp[ay]⟩ ⟨2,3,0,0⟩ xg Bz.out).mono ?_
 rintro e w12 ⟨rfl,hb⟩
 have afn:=hide (Gy.out.trans (hb.mono Gy.out.size))
 clear hb Gy Bz
 rw[Wu]
 go_wp2
 go_ret
 exact⟨rfl,afn.out⟩
def vM:ak.Fn→Prop:=fun _=>True
theorem mW (F:ak.Fn):PC vM F:=fun _ _=>trivial
theorem uR (ls:List av) (x:Pl) (F:ak.Fn) (S:Pl→ak.Fn):mU vM ls x F S:=fun _ _ _ _=>trivial
theorem Ch (F:ak.Fn) (a n:Nat):uQ vM F a n:=fun _ _=>⟨mW _,mW _,mW _⟩
theorem zA (m:M4):pG vM m:=fun _ _=>trivial
theorem swapT (F:ak.Fn) (i j:Nat):zl vM F i j:=⟨mW _,mW _,mW _,mW _,mW _,mW _,mW _,mW _,mW _,mW _,mW _⟩
theorem QK (F:ak.Fn):zn vM F:=⟨fun _ _=>swapT _ _ _,fun _ _=>swapT _ _ _⟩
theorem abZ (rs:List aY):Jc vM rs:=⟨fun _ _ _ _=>trivial,fun _ _ _=>trivial⟩
theorem toT (F:ak.Fn) (a:Nat):Vs vM F a:=⟨Ch _ _ _,zA _,mW _⟩
theorem acI (F:ak.Fn) (a:Nat):KH vM F a:=⟨Ch _ _ _,zA _,mW _⟩
theorem firstT (ds:List Dev) (ls:List av) (S:Pl→ak.Fn):CF vM ds ls S:=fun _ _ _ _=>⟨zA _,uR _ _ _ _⟩
theorem acJ (ds:List Dev) (ls:List av) (S S':Pl→ak.Fn):BU vM ds ls S S':=fun _ _ _=>
 ⟨fun _=>⟨abZ _,fun _ _=>mW _,fun _ _ _ _=>trivial,fun _ _ _ _=>mW _,fun _ _ _ _=>uR _ _ _ _⟩,
  fun _=>⟨abZ _,mW _,uR _ _ _ _,QK _,mW _,uR _ _ _ _⟩,
  fun _=>⟨Ch _ _ _,Ch _ _ _,zA _,mW _,uR _ _ _ _,zA _,mW _,Ch _ _ _,Ch _ _ _,Ch _ _ _,Ch _ _ _,QK _,mW _,uR _ _ _ _⟩,
  fun _=>⟨zA _,mW _,mW _,mW _,uR _ _ _ _,uR _ _ _ _,fun _ _ _=>toT _ _,fun _ _ _=>uR _ _ _ _,fun _ _ _=>QK _,fun _ _ _=>mW _,fun _ _ _=>acI _ _,fun _ _ _=>uR _ _ _ _⟩⟩
theorem L8 {w:World} {B:Nat} {n:aH} (h:bf w B n):∀d∈n.au,∀r∈d.rules,r.ok:=fun d hd r hr=>by
 obtain⟨x,hx,rfl⟩:=List.mem_map.1 hd
 exact(h.gy x hx).rs.2.1 r hr
section
variable {Lo:Nat} {wR w w':World} {F F':Nat→Prop}
end
end Go.Proofs.YtlhmdcgckocidaaGreat
