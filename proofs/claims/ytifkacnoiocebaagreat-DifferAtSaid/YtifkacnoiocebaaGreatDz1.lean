/- A part of the proof: G2. -/
import Derived.Test.YtifkacnoiocebaaGreatDz0
import Derived.Maps.OwnOps
import Derived.Maps.OwnSet
import Derived.Maps.Ext
import Derived.DeepKeys5
import Derived.Deep.RegionLaw
import Derived.StillTailTactics
set_option linter.unusedVariables false
set_option linter.unusedSimpArgs false
set_option maxRecDepth 100000
set_option maxHeartbeats 8000000
namespace Go.Proofs.YtifkacnoiocebaaGreat.aj
abbrev iq:=Nat→Bool
abbrev Fn:=iq→Bool
structure Node where
 v:Nat
 lo:Nat
 hi:Nat
theorem Node.ext' {a b:Node} (h1:a.v=b.v) (h2:a.lo=b.lo) (h3:a.hi=b.hi):a=b:=by
 cases a;cases b;simp_all
def oH (ns:List Node):Nat→Nat→Fn
 |0,_=>fun _=>false
 |k+1,f=>fun x=>if f=0 then false else if f=1 then true else
   match ns[f]? with
   |none=>false
   |some n=>if x n.v then oH ns k n.hi x else oH ns k n.lo x
def den (ns:List Node) (f:Nat):Fn:=oH ns (f+1) f
def var (ns:List Node) (f:Nat):Nat:=
 match ns[f]? with
 |some n=>n.v
 |none=>0
theorem dX {ns:List Node} {f:Nat} {n:Node} (h:ns[f]?=some n):var ns f=n.v:=by
 simp[var,h]
structure Ok (vars:Nat) (ns:List Node):Prop where
 two:2≤ns.length
 zero:ns[0]?=some ⟨vars,0,0⟩
 one:ns[1]?=some ⟨vars,0,0⟩
 node:∀(i:Nat) (n:Node),ns[i]?=some n→2≤i→n.v<vars∧n.lo<i∧n.hi<i∧n.lo≠n.hi∧n.v<var ns n.lo∧n.v<var ns n.hi
 inj:∀(i j:Nat) (n:Node),2≤i→2≤j→ns[i]?=some n→ns[j]?=some n→i=j
section
variable {vars:Nat} {ns:List Node}
theorem AU {f:Nat} {n:Node} (h:ns[f]?=some n):f<ns.length:=by
 rcases Nat.lt_or_ge f ns.length with h1 | h1
 ·exact h1
 ·rw[List.getElem?_eq_none h1]at h;cases h
theorem eD {f:Nat} (h:f<ns.length):∃n,ns[f]?=some n:=⟨ns[f],List.getElem?_eq_getElem h⟩
theorem jB:den ns 0=fun _=>false:=by
 funext x;simp[den,oH]
theorem nV:den ns 1=fun _=>true:=by
 funext x;simp[den,oH]
theorem CG (ok:Ok vars ns):∀(k f:Nat),f<k→f<ns.length→oH ns k f=oH ns (f+1) f:=by
 intro k
 induction k using Nat.strongRecOn with
 |ind k ih=>
  intro f hk hf
  match k,hk with
  |k+1,hk=>
   funext x
   obtain⟨n,hn⟩:=eD hf
   by_cases h0:f=0
   ·subst h0;simp[oH]
   by_cases h1:f=1
   ·subst h1;simp[oH]
   have hb:=ok.node f n hn (by omega)
   have e1:=ih k (by omega) n.hi (by omega) (by omega)
   have e2:=ih k (by omega) n.lo (by omega) (by omega)
   have e3:=ih f (by omega) n.hi (by omega) (by omega)
   have e4:=ih f (by omega) n.lo (by omega) (by omega)
   simp only[oH,h0,h1,hn,if_false]
   rw[e1,e2,e3,e4]
theorem nD (ok:Ok vars ns) {f:Nat} {n:Node} (hn:ns[f]?=some n) (h2:2≤f) (x:iq):
  den ns f x=if x n.v then den ns n.hi x else den ns n.lo x:=by
 have hf:=AU hn
 have hb:=ok.node f n hn h2
 have e3:=CG ok f n.hi (by omega) (by omega)
 have e4:=CG ok f n.lo (by omega) (by omega)
 have h0:f≠0:=by omega
 have h1:f≠1:=by omega
 show oH ns (f+1) f x=_
 simp only[oH,h0,h1,hn,if_false]
 rw[e3,e4]
 rfl
theorem um (ok:Ok vars ns):var ns 0=vars:=dX ok.zero
theorem F3 (ok:Ok vars ns):var ns 1=vars:=dX ok.one
theorem I9 (ok:Ok vars ns) {f:Nat} (hf:f<ns.length):var ns f≤vars:=by
 obtain⟨n,hn⟩:=eD hf
 rw[dX hn]
 by_cases h2:2≤f
 ·exact Nat.le_of_lt (ok.node f n hn h2).1
 ·have:f=0∨f=1:=by omega
  rcases this with rfl | rfl
  ·have:=ok.zero;rw[hn]at this;cases this;exact Nat.le_refl _
  ·have:=ok.one;rw[hn]at this;cases this;exact Nat.le_refl _
theorem iZ (ok:Ok vars ns) {f:Nat} (hf:f<ns.length):var ns f<vars↔2≤f:=by
 obtain⟨n,hn⟩:=eD hf
 constructor
 ·intro h
  by_cases h2:2≤f
  ·exact h2
  ·have:f=0∨f=1:=by omega
   rcases this with rfl | rfl
   ·rw[um ok]at h;omega
   ·rw[F3 ok]at h;omega
 ·intro h2
  rw[dX hn];exact(ok.node f n hn h2).1
theorem indep (ok:Ok vars ns):∀(f:Nat),f<ns.length→∀x y:iq,(∀u,var ns f≤u→x u=y u)→den ns f x=den ns f y:=by
 intro f
 induction f using Nat.strongRecOn with
 |ind f ih=>
  intro hf x y hxy
  by_cases h0:f=0
  ·subst h0;simp[jB]
  by_cases h1:f=1
  ·subst h1;simp[nV]
  obtain⟨n,hn⟩:=eD hf
  have hb:=ok.node f n hn (by omega)
  have hv:var ns f=n.v:=dX hn
  rw[nD ok hn (by omega),nD ok hn (by omega),hxy n.v (by omega),
   ih n.hi (by omega) (by omega) x y (fun u hu=>hxy u (by omega)),ih n.lo (by omega) (by omega) x y (fun u hu=>hxy u (by omega))]
def upd (x:iq) (v:Nat) (b:Bool):iq:=fun u=>if u=v then b else x u
theorem upd_same (x:iq) (v:Nat) (b:Bool):upd x v b v=b:=by simp[upd]
theorem gy (x:iq) {u v:Nat} (b:Bool) (h:u≠v):upd x v b u=x u:=by simp[upd,h]
theorem yB (ok:Ok vars ns) {f:Nat} {n:Node} (hn:ns[f]?=some n) (h2:2≤f) (x:iq):den ns f (upd x n.v true)=den ns n.hi x:=by
 have hf:=AU hn
 have hb:=ok.node f n hn h2
 rw[nD ok hn h2,upd_same,if_pos rfl]
 exact indep ok n.hi (by omega) _ _ (fun u hu=>gy _ _ (by omega))
theorem yC (ok:Ok vars ns) {f:Nat} {n:Node} (hn:ns[f]?=some n) (h2:2≤f) (x:iq):den ns f (upd x n.v false)=den ns n.lo x:=by
 have hf:=AU hn
 have hb:=ok.node f n hn h2
 rw[nD ok hn h2,upd_same,if_neg (by simp)]
 exact indep ok n.lo (by omega) _ _ (fun u hu=>gy _ _ (by omega))
theorem Pp (ok:Ok vars ns):∀(k f g:Nat),f<k→g<k→f<ns.length→g<ns.length→den ns f=den ns g→f=g:=by
 intro k
 induction k with
 |zero=>intro f g h;omega
 |succ k ih=>
  -- where the first one's variable is ahead of the other's: it would not hang on it
  have main:∀f g,f<k+1→f<ns.length→g<ns.length→den ns f=den ns g→¬var ns f<var ns g:=by
   intro f g hfk hf hg he hlt
   have h2:2≤f:=(iZ ok hf).1 (Nat.lt_of_lt_of_le hlt (I9 ok hg))
   obtain⟨n,hn⟩:=eD hf
   have hb:=ok.node f n hn h2
   have hv:var ns f=n.v:=dX hn
   refine hb.2.2.2.1 (ih n.lo n.hi (by omega) (by omega) (by omega) (by omega) ?_)
   funext x
   rw[← yC ok hn h2,← yB ok hn h2,he]
   exact indep ok g hg _ _ (fun u hu=>by rw[gy _ _ (by omega),gy _ _ (by omega)])
  intro f g hfk XJ hf hg he
  have hv:var ns f=var ns g:=by
   have h1:=main f g hfk hf hg he
   have h2:=main g f XJ hg hf he.symm
   omega
  by_cases h2:2≤f
  ·have hg2:2≤g:=by
    have:=(iZ ok hf).2 h2
    exact(iZ ok hg).1 (by omega)
   obtain⟨n,hn⟩:=eD hf
   obtain⟨m,hm⟩:=eD hg
   have hb:=ok.node f n hn h2
   have hc:=ok.node g m hm hg2
   have e:n.v=m.v:=by rw[← dX hn,← dX hm];exact hv
   have e1:n.lo=m.lo:=ih n.lo m.lo (by omega) (by omega) (by omega) (by omega) (by
    funext x;rw[← yC ok hn h2,← yC ok hm hg2,he,e])
   have e2:n.hi=m.hi:=ih n.hi m.hi (by omega) (by omega) (by omega) (by omega) (by
    funext x;rw[← yB ok hn h2,← yB ok hm hg2,he,e])
   have enm:n=m:=Node.ext' e e1 e2
   subst enm
   exact ok.inj f g n h2 hg2 hn hm
  ·have hg2:¬ 2≤g:=by
    intro hg2
    have:=(iZ ok hg).2 hg2
    exact h2 ((iZ ok hf).1 (by omega))
   have hne:den ns 0≠den ns 1:=by
    rw[jB,nV];intro h;have:=congrFun h (fun _=>false);cases this
   have hf':f=0∨f=1:=by omega
   have hg':g=0∨g=1:=by omega
   rcases hf' with rfl | rfl<;>rcases hg' with rfl | rfl
   ·rfl
   ·exact absurd he hne
   ·exact absurd he.symm hne
   ·rfl
theorem canon (ok:Ok vars ns) {f g:Nat} (hf:f<ns.length) (hg:g<ns.length):den ns f=den ns g↔f=g:=
 ⟨fun h=>Pp ok (max f g+1) f g (by omega) (by omega) hf hg h,fun h=>by rw[h]⟩
theorem Pq (ok:Ok vars ns) {f k:Nat} (hf:f<ns.length) (hk:k≤vars) (h:∀x y:iq,(∀u,k≤u→x u=y u)→den ns f x=den ns f y):k≤var ns f:=by
 rcases Nat.lt_or_ge (var ns f) k with hlt | hge
 ·exfalso
  have h2:2≤f:=(iZ ok hf).1 (by omega)
  obtain⟨n,hn⟩:=eD hf
  have hb:=ok.node f n hn h2
  have hv:var ns f=n.v:=dX hn
  refine hb.2.2.2.1 ((canon ok (by omega) (by omega)).1 ?_)
  funext x
  rw[← yC ok hn h2,← yB ok hn h2]
  exact h _ _ (fun u hu=>by rw[gy _ _ (by omega),gy _ _ (by omega)])
 ·exact hge
theorem get_append {f:Nat} (more:List Node) (hf:f<ns.length):(ns++more)[f]?=ns[f]?:=List.getElem?_append_left hf
theorem rJ {f:Nat} (more:List Node) (hf:f<ns.length):var (ns++more) f=var ns f:=by
 simp only[var,get_append more hf]
theorem KW (ok:Ok vars ns) (more:List Node):∀(k f:Nat),f<ns.length→oH (ns++more) k f=oH ns k f:=by
 intro k
 induction k with
 |zero=>intro f _;rfl
 |succ k ih=>
  intro f hf
  funext x
  by_cases h0:f=0
  ·subst h0;simp[oH]
  by_cases h1:f=1
  ·subst h1;simp[oH]
  obtain⟨n,hn⟩:=eD hf
  have hb:=ok.node f n hn (by omega)
  simp only[oH,h0,h1,get_append more hf,hn,if_false]
  rw[ih n.hi (by omega),ih n.lo (by omega)]
theorem rM (ok:Ok vars ns) (more:List Node) {f:Nat} (hf:f<ns.length):den (ns++more) f=den ns f:=
 KW ok more (f+1) f hf
theorem Ok.push (ok:Ok vars ns) {n:Node} (hv:n.v<vars) (hlo:n.lo<ns.length) (hhi:n.hi<ns.length) (hne:n.lo≠n.hi) (h1:n.v<var ns n.lo) (h2:n.v<var ns n.hi)
  (hnew:∀i,2≤i→ns[i]?≠some n):Ok vars (ns++[n]):=by
 have h2l:=ok.two
 have old:∀i m,(ns++[n])[i]?=some m→(i<ns.length∧ns[i]?=some m)∨(i=ns.length∧m=n):=by
  intro i m hm
  rcases Nat.lt_or_ge i ns.length with hi | hi
  ·rw[get_append _ hi]at hm;exact .inl ⟨hi,hm⟩
  ·right
   have hlt:=AU hm
   simp at hlt
   have:i=ns.length:=by omega
   subst this
   simp at hm
   exact⟨rfl,hm.symm⟩
 refine⟨by simp;omega,by rw[get_append _ (by omega)];exact ok.zero,by rw[get_append _ (by omega)];exact ok.one,?_,?_⟩
 ·intro i m hm hi
  rcases old i m hm with⟨hl,hm'⟩ | ⟨rfl,rfl⟩
  ·have hb:=ok.node i m hm' hi
   rw[rJ _ (by omega),rJ _ (by omega)]
   exact hb
  ·rw[rJ _ hlo,rJ _ hhi]
   exact⟨hv,hlo,hhi,hne,h1,h2⟩
 ·intro i j m hi hj him hjm
  rcases old i m him with⟨hl,hm'⟩ | ⟨rfl,rfl⟩<;>rcases old j m hjm with⟨hl2,hm2⟩ | ⟨rfl,e⟩
  ·exact ok.inj i j m hi hj hm' hm2
  ·exact absurd (e▸hm') (hnew i hi)
  ·exact absurd hm2 (hnew j hj)
  ·rfl
theorem Ja (n:Node):(ns++[n])[ns.length]?=some n:=by simp
def lD (F G:Fn):Prop:=∃(k:Nat) (s:iq),G=fun x=>F (fun u=>if u<k then s u else x u)
theorem lD.self (F:Fn):lD F F:=⟨0,fun _=>false,by funext x;simp⟩
theorem lD.trans {F G K:Fn} (h:lD F G) (h':lD G K):lD F K:=by
 obtain⟨k,s,rfl⟩:=h
 obtain⟨k',s',rfl⟩:=h'
 refine⟨max k k',fun u=>if u<k then s u else s' u,?_⟩
 funext x
 refine congrArg F ?_
 funext u
 by_cases h1:u<k<;>by_cases h2:u<k'<;>simp[h1,h2]<;>omega
theorem lD.upd {F:Fn} {v:Nat} (h:∀x y:iq,(∀u,v≤u→x u=y u)→F x=F y) (b:Bool):lD F (fun x=>F (upd x v b)):=by
 refine⟨v+1,fun _=>b,?_⟩
 funext x
 refine h _ _ (fun u hu=>?_)
 by_cases e:u=v
 ·subst e;simp[aj.upd]
 ·simp[aj.upd,e];omega
end
end Go.Proofs.YtifkacnoiocebaaGreat.aj
namespace Go.Proofs.YtifkacnoiocebaaGreat.aj
def Below (K:Nat) (F:Fn):Prop:=∀x y:iq,(∀u,u<K→x u=y u)→F x=F y
theorem Below.mono {K K':Nat} {F:Fn} (h:Below K F) (hk:K≤K'):Below K' F:=fun x y hxy=>h x y fun u hu=>hxy u (by omega)
theorem Below.const (b:Bool) (K:Nat):Below K (fun _=>b):=fun _ _ _=>rfl
section
variable {vars:Nat} {ns:List Node}
end
structure St where
 vars:Nat
 most:Nat
 ns:List Node
 full:Bool
abbrev St.len (A:St):Nat:=A.ns.length
structure Inv (A:St):Prop where
 ok:Ok A.vars A.ns
 bound:A.len≤A.most
 full:A.full=true→A.len=A.most
structure Ext (A A':St):Prop where
 vars:A'.vars=A.vars
 most:A'.most=A.most
 ns:∃more,A'.ns=A.ns++more
 full:A.full=true→A'.full=true
 inv:Inv A'
theorem Ext.refl {A:St} (h:Inv A):Ext A A:=⟨rfl,rfl,⟨[],by simp⟩,id,h⟩
theorem Ext.trans {A B C:St} (h:Ext A B) (k:Ext B C):Ext A C:=by
 obtain⟨m1,e1⟩:=h.ns
 obtain⟨m2,e2⟩:=k.ns
 exact⟨k.vars.trans h.vars,k.most.trans h.most,⟨m1++m2,by rw[e2,e1,List.append_assoc]⟩,fun hf=>k.full (h.full hf),k.inv⟩
theorem Ext.len {A A':St} (h:Ext A A'):A.len≤A'.len:=by
 obtain⟨m,e⟩:=h.ns
 simp[St.len,e]
theorem Ext.den {A A':St} (h:Ext A A') (i:Inv A) {f:Nat} (hf:f<A.len):den A'.ns f=den A.ns f:=by
 obtain⟨m,e⟩:=h.ns
 rw[e];exact rM i.ok m hf
theorem Ext.var {A A':St} (h:Ext A A') {f:Nat} (hf:f<A.len):var A'.ns f=var A.ns f:=by
 obtain⟨m,e⟩:=h.ns
 rw[e];exact rJ m hf
theorem Ext.get {A A':St} (h:Ext A A') {f:Nat} (hf:f<A.len):A'.ns[f]?=A.ns[f]?:=by
 obtain⟨m,e⟩:=h.ns
 rw[e];exact get_append m hf
theorem Ext.qQ {A A':St} (h:Ext A A') (hf:A'.full=false):A.full=false:=by
 cases e:A.full
 ·rfl
 ·rw[h.full e]at hf;cases hf
def bE (F G H:Fn):Fn:=fun x=>if F x then G x else H x
structure nQ (A A':St) (r:Nat) (F:Fn) (k:Nat):Prop where
 ext:Ext A A'
 lt:r<A'.len
 ge:k≤var A'.ns r
 eq:A'.full=false→den A'.ns r=F
 new:∀j,A.len≤j→j<A'.len→lD F (den A'.ns j)
inductive Made (A:St) (v lo hi:Nat):Nat→St→Prop
 |same:lo=hi→Made A v lo hi lo A
 |there (r:Nat):lo≠hi→2≤r→A.ns[r]?=some ⟨v,lo,hi⟩→Made A v lo hi r A
 |full:lo≠hi→(∀i,2≤i→A.ns[i]?≠some ⟨v,lo,hi⟩)→A.most≤A.len→Made A v lo hi 0 { A with full:=true }
 |new:lo≠hi→(∀i,2≤i→A.ns[i]?≠some ⟨v,lo,hi⟩)→A.len<A.most→Made A v lo hi A.len { A with ns:=A.ns++[⟨v,lo,hi⟩] }
def Nk (v:Nat) (L H:Fn):Fn:=fun x=>if x v then H x else L x
theorem Made.ext {A A':St} {v lo hi r:Nat} (i:Inv A) (h:Made A v lo hi r A') (hv:v<A.vars) (hlo:lo<A.len) (hhi:hi<A.len) (h1:v<var A.ns lo) (h2:v<var A.ns hi):Ext A A':=by
 cases h with
 |same e=>exact Ext.refl i
 |there r h0 hr hn=>exact Ext.refl i
 |full h0 hn hm=>exact⟨rfl,rfl,⟨[],by simp⟩,fun _=>rfl,⟨i.ok,i.bound,fun _=>Nat.le_antisymm i.bound hm⟩⟩
 |new h0 hn hm=>
  refine⟨rfl,rfl,⟨_,rfl⟩,id,⟨i.ok.push hv hlo hhi h0 h1 h2 hn,by simp only[St.len,List.length_append,List.length_cons,List.length_nil]at hm ⊢;omega,fun hf=>?_⟩⟩
  have:=i.full hf
  omega
theorem Made.lt {A A':St} {v lo hi r:Nat} (i:Inv A) (h:Made A v lo hi r A') (hlo:lo<A.len):r<A'.len:=by
 have:=i.ok.two
 cases h with
 |same e=>exact hlo
 |there r h0 hr hn=>exact AU hn
 |full h0 hn hm=>simp only[St.len]at*;omega
 |new h0 hn hm=>simp[St.len]
theorem Made.ge {A A':St} {v lo hi r:Nat} (i:Inv A) (h:Made A v lo hi r A') (hv:v<A.vars) (h1:v<var A.ns lo):v≤var A'.ns r:=by
 cases h with
 |same e=>omega
 |there r h0 hr hn=>rw[dX hn];exact Nat.le_refl _
 |full h0 hn hm=>show v≤var A.ns 0;rw[um i.ok];omega
 |new h0 hn hm=>rw[dX (Ja (ns:=A.ns) ⟨v,lo,hi⟩)];exact Nat.le_refl _
theorem Made.eq {A A':St} {v lo hi r:Nat} (i:Inv A) (h:Made A v lo hi r A') (hv:v<A.vars) (hlo:lo<A.len) (hhi:hi<A.len) (h1:v<var A.ns lo) (h2:v<var A.ns hi) (hf:A'.full=false):
  den A'.ns r=Nk v (den A.ns lo) (den A.ns hi):=by
 have he:=h.ext i hv hlo hhi h1 h2
 cases h with
 |same e=>subst e;funext x;simp[Nk]
 |there r h0 hr hn=>funext x;rw[nD i.ok hn hr];rfl
 |full h0 hn hm=>cases hf
 |new h0 hn hm=>
  funext x
  rw[nD he.inv.ok (Ja (ns:=A.ns) ⟨v,lo,hi⟩) i.ok.two]
  have e1:=he.den i hlo
  have e2:=he.den i hhi
  simp only at e1 e2
  simp only[e1,e2,Nk]
theorem Made.aae {A A':St} {v lo hi r:Nat} (h:Made A v lo hi r A') {j:Nat} (h1:A.len≤j) (h2:j<A'.len):j=r∧A'.full=A.full:=by
 cases h with
 |same e=>omega
 |there r h0 hr hn=>omega
 |full h0 hn hm=>simp only[St.len]at*;omega
 |new h0 hn hm=>simp[St.len]at*;omega
theorem Made.qQ {A A':St} {v lo hi r:Nat} (i:Inv A) (h:Made A v lo hi r A') (hf:A.full=true):A.len=A'.len:=by
 have:=i.full hf
 cases h with
 |same e=>rfl
 |there r h0 hr hn=>rfl
 |full h0 hn hm=>rfl
 |new h0 hn hm=>omega
theorem zx {A A1 A2 A3:St} {lo hi r v:Nat} {F L H:Fn} (i:Inv A) (hv:v<A.vars) (hF:∀x y:iq,(∀u,v≤u→x u=y u)→F x=F y)
  (hL:L=fun x=>F (upd x v false)) (hH:H=fun x=>F (upd x v true))
  (r1:nQ A A1 lo L (v+1)) (r2:nQ A1 A2 hi H (v+1)) (m:Made A2 v lo hi r A3):nQ A A3 r F v:=by
 have i1:=r1.ext.inv
 have i2:=r2.ext.inv
 have ev1:=r1.ext.vars
 have ev2:=r2.ext.vars
 have l1:=r1.lt
 have l2:=r2.lt
 have UA:=r2.ext.len
 have l01:=r1.ext.len
 have g1:=r1.ge
 have g2:=r2.ge
 have gl:var A2.ns lo=var A1.ns lo:=r2.ext.var l1
 have h1:v<var A2.ns lo:=by omega
 have h2:v<var A2.ns hi:=by omega
 have hlo:lo<A2.len:=by omega
 have e3:=m.ext i2 (by omega) hlo l2 h1 h2
 have fin:A3.full=false→den A3.ns r=F:=by
  intro hf
  rw[m.eq i2 (by omega) hlo l2 h1 h2 hf,r2.ext.den i1 l1,r1.eq (r2.ext.qQ (e3.qQ hf)),r2.eq (e3.qQ hf)]
  funext x
  subst hL hH
  have hx:∀b,x v=b→upd x v b=x:=by
   intro b hb;funext u;by_cases e:u=v
   ·subst e;simp[upd,hb]
   ·simp[upd,e]
  show(if x v then F (upd x v true)else F (upd x v false))=F x
  cases hb:x v
  ·simp[hx _ hb]
  ·simp[hx _ hb]
 refine⟨(r1.ext.trans r2.ext).trans e3,m.lt i2 hlo,m.ge i2 (by omega) h1,fin,?_⟩
 intro j hj1 hj2
 rcases Nat.lt_or_ge j A1.len with h | h
 ·rw[(r2.ext.trans e3).den i1 h]
  have:=r1.new j hj1 h
  subst hL
  exact(lD.upd hF false).trans this
 ·rcases Nat.lt_or_ge j A2.len with h' | h'
  ·rw[e3.den i2 h']
   have:=r2.new j h h'
   subst hH
   exact(lD.upd hF true).trans this
  ·obtain⟨rfl,hf⟩:=m.aae h' hj2
   have hnf:A3.full=false:=by
    rw[hf]
    cases hf2:A2.full
    ·rfl
    ·have:=m.qQ i2 hf2;omega
   rw[fin hnf]
   exact lD.self F
theorem lF {A:St} {r k:Nat} {F:Fn} (i:Inv A) (hr:r<A.len) (hk:k≤var A.ns r) (h:A.full=false→den A.ns r=F):nQ A A r F k:=
 ⟨Ext.refl i,hr,hk,h,fun j h1 h2=>by omega⟩
theorem R6 {A:St} {k:Nat} {F:Fn} (i:Inv A) (hf:A.full=true) (hk:k≤A.vars):nQ A A 0 F k:=
 lF i (by have:=i.ok.two;show 0<A.ns.length;omega) (by rw[um i.ok];exact hk) (fun h=>by rw[hf]at h;cases h)
theorem nQ.mono {A A':St} {r k k':Nat} {F:Fn} (h:nQ A A' r F k) (hk:k'≤k):nQ A A' r F k':=⟨h.ext,h.lt,Nat.le_trans hk h.ge,h.eq,h.new⟩
theorem Pt {vars:Nat} {ns:List Node} (ok:Ok vars ns):∀f,f<ns.length→Below vars (den ns f):=by
 intro f
 induction f using Nat.strongRecOn with
 |ind f ih=>
  intro hf x y hxy
  by_cases h0:f=0
  ·subst h0;simp[jB]
  by_cases h1:f=1
  ·subst h1;simp[nV]
  obtain⟨n,hn⟩:=eD hf
  have hb:=ok.node f n hn (by omega)
  rw[nD ok hn (by omega),nD ok hn (by omega),hxy n.v hb.1,ih n.hi (by omega) (by omega) x y hxy,ih n.lo (by omega) (by omega) x y hxy]
def part (ns:List Node) (f v:Nat) (is:Bool):Nat:=
 match ns[f]? with
 |none=>f
 |some n=>if n.v≠v then f else if is then n.hi else n.lo
theorem Ci {vars:Nat} {ns:List Node} (ok:Ok vars ns) {f v:Nat} (hf:f<ns.length) (hv:v<vars) (is:Bool):part ns f v is<ns.length:=by
 obtain⟨n,hn⟩:=eD hf
 unfold part
 simp only[hn]
 split
 ·exact hf
 ·rename_i Pv
  have R7:n.v=v:=Classical.byContradiction Pv
  have h2:2≤f:=(iZ ok hf).1 (by rw[dX hn];omega)
  have hb:=ok.node f n hn h2
  cases is
  ·show n.lo<_;omega
  ·show n.hi<_;omega
theorem zy {vars:Nat} {ns:List Node} (ok:Ok vars ns) {f v:Nat} (hf:f<ns.length) (hv:v<vars) (hle:v≤var ns f) (is:Bool):v+1≤var ns (part ns f v is):=by
 obtain⟨n,hn⟩:=eD hf
 unfold part
 simp only[hn]
 rw[dX hn]at hle
 split
 ·rw[dX hn];omega
 ·rename_i Pv
  have R7:n.v=v:=Classical.byContradiction Pv
  have h2:2≤f:=(iZ ok hf).1 (by rw[dX hn];omega)
  have hb:=ok.node f n hn h2
  cases is
  ·show v+1≤var ns n.lo;omega
  ·show v+1≤var ns n.hi;omega
theorem zA {vars:Nat} {ns:List Node} (ok:Ok vars ns) {f v:Nat} (hf:f<ns.length) (hv:v<vars) (hle:v≤var ns f) (is:Bool):den ns (part ns f v is)=fun x=>den ns f (upd x v is):=by
 obtain⟨n,hn⟩:=eD hf
 unfold part
 simp only[hn]
 rw[dX hn]at hle
 funext x
 split
 ·exact indep ok f hf _ _ (fun u hu=>by rw[dX hn]at hu;rw[gy _ _ (by omega)])
 ·rename_i Pv
  have R7:n.v=v:=Classical.byContradiction Pv
  subst R7
  have h2:2≤f:=(iZ ok hf).1 (by rw[dX hn];omega)
  cases is
  ·exact(yC ok hn h2 x).symm
  ·exact(yB ok hn h2 x).symm
end Go.Proofs.YtifkacnoiocebaaGreat.aj
namespace Go.Proofs.YtifkacnoiocebaaGreat
open Go.Maps Go.RowKit Go.WideElems
theorem nE {α:Type} :∀(l L:List α),l.Nodup→(∀a∈l,a∈L)→l.length≤L.length:=by
 intro l
 induction l with
 |nil=>intro L _ _;simp
 |cons a l ih=>
  intro L hn hs
  have ha:a∈L:=hs a (by simp)
  obtain⟨s,t,rfl⟩:=List.append_of_mem ha
  have hn':=List.nodup_cons.1 hn
  have:=ih (s++t) hn'.2 (fun b hb=>by
   have hb':=hs b (by simp[hb])
   have hne:b≠a:=fun e=>hn'.1 (e▸hb)
   simp only[List.mem_append,List.mem_cons]at hb' ⊢
   rcases hb' with h | h | h
   ·exact .inl h
   ·exact absurd h hne
   ·exact .inr h)
  simp only[List.length_append,List.length_cons]at this ⊢
  omega
def uI (v:Value):Option (DataW Value×List MemPlace):=some (.held v,[])
def aV {α:Type} (P:Program) (kt:TypeId) (key:α→Value) (dom:α→Prop) (w:World) (b:Nat) (M:α→Option Value):Prop:=
 ∃D,w.ownsMap P kt uI b (Maps.size D) D∧
  (∀a,dom a→∀kl,keyOf P kt (key a)=some kl→Maps.has D kl=(M a).isSome ∧∀z,D.atKey kl (.held z)= .held ((M a).getD z))∧
  (∀kl,Maps.has D kl=true→∃a,dom a∧keyOf P kt (key a)=some kl)
structure wG {α:Type} (P:Program) (kt:TypeId) (key:α→Value) (dom:α→Prop):Prop where
 law:Keyed P kt
 total:∀a,dom a→∃kl,keyOf P kt (key a)=some kl
 inj:∀a a',key a=key a'→a=a'
 few:∃L:List α,L.length<9223372036854775807∧∀a,dom a→a∈L
section
variable {α:Type} {P:Program} {kt:TypeId} {key:α→Value} {dom:α→Prop} {w w':World} {b:Nat} {M:α→Option Value}
theorem Ai {n:Nat} {D:DataW Value} (h:w.ownsMap P kt uI b n D):w.ownsMap P kt uI b (Maps.size D) D:=by
 obtain⟨es,clock,hb,F,hs,hD⟩:=h
 refine⟨es,clock,hb,F,?_,hD⟩
 rw[hD]
 simp[Maps.size,length_sorted]
theorem aV.made (w:World):aV P kt key dom (w.alloc (.map #[] 0)) w.heap.size (fun _=>none):=
 ⟨.map [],World.ownsMap_made w P kt uI,fun a _ kl _=>⟨rfl,fun z=>rfl⟩,fun kl h=>by simp[Maps.has]at h⟩
theorem aV.lt (h:aV P kt key dom w b M):b<w.heap.size:=by
 obtain⟨D,h1,_⟩:=h
 exact h1.lt
theorem aV.kept {row:Option Nat} (h:aV P kt key dom w b M) (hg:w.grownBy w' row) (hne:some b≠row):aV P kt key dom w' b M:=by
 obtain⟨D,h1,h2,h3⟩:=h
 exact⟨D,h1.kept hg hne,h2,h3⟩
theorem aV.same (h:aV P kt key dom w b M) (hb:w'.heap[b]?=w.heap[b]?):aV P kt key dom w' b M:=by
 obtain⟨D,⟨es,clock,hh,F,hs,hD⟩,h2,h3⟩:=h
 exact⟨D,⟨es,clock,hb.trans hh,F,hs,hD⟩,h2,h3⟩
theorem aV.size (h:aV P kt key dom w b M) (K:wG P kt key dom):∃D,w.ownsMap P kt uI b (Maps.size D) D∧Maps.size D<maxLen∧
  (∀a,dom a→∀kl,keyOf P kt (key a)=some kl→Maps.has D kl=(M a).isSome ∧∀z,D.atKey kl (.held z)= .held ((M a).getD z))∧
  (∀kl,Maps.has D kl=true→∃a,dom a∧keyOf P kt (key a)=some kl):=by
 obtain⟨D,h1,h2,h3⟩:=h
 refine⟨D,h1,?_,h2,h3⟩
 obtain⟨L,hL,hall⟩:=K.few
 have ht:=h1.tidy K.law
 obtain⟨es,rfl,hp⟩:=ht
 have hk:∀p∈es,WideAt.IsKeyLit p.1:=by
  obtain⟨es',clock,_,F,_,hD⟩:=h1
  simp only[DataW.map.injEq]at hD
  intro p hpm
  rw[hD]at hpm
  have hm:=(Go.WideShapes.sorted_perm _).mem_iff.1 hpm
  obtain⟨v,hv⟩:=fit_keys F p hm
  exact K.law.key hv
 have hsz:es.length≤(L.filterMap fun a=>keyOf P kt (key a)).length :=by
  have:=nE (es.map (·.1)) (L.filterMap fun a=>keyOf P kt (key a)) (by
   rw[List.nodup_iff_pairwise_ne,List.pairwise_map];exact hp) (fun kl hkl=>by
   obtain⟨p,hpm,rfl⟩:=List.mem_map.1 hkl
   obtain⟨a,ha,hka⟩:=h3 p.1 (by
    rw[Maps.has_eq,List.any_eq_true]
    exact⟨p,hpm,WideAt.sameKey_self (hk p hpm)⟩)
   exact List.mem_filterMap.2 ⟨a,hall a ha,hka⟩)
  simpa using this
 have:=List.length_filterMap_le (fun a=>keyOf P kt (key a)) L
 show es.length<maxLen
 unfold maxLen
 omega
def mI [DecidableEq α] (M:α→Option Value) (a:α) (v:Value):α→Option Value:=fun x=>if x=a then some v else M x
theorem lG [DecidableEq α] (M:α→Option Value) (a:α) (v:Value):mI M a v a=some v:=by simp[mI]
theorem jc [DecidableEq α] (M:α→Option Value) {a x:α} (v:Value) (h:x≠a):mI M a v x=M x:=by simp[mI,h]
theorem aV.look {t et:TypeId} (h:aV P kt key dom w b M) (K:wG P kt key dom) (ht:P.underlying t=some (.map kt et)) {z:Value} (hz:(zeroValue et).run P w= .ok z w) {a:α} (ha:dom a):
  (Instr.lookup t (.map (some b)) (key a) true).run P w= .ok (.tuple #[(M a).getD z,.bool (M a).isSome]) w∧(Instr.lookup t (.map (some b)) (key a) false).run P w= .ok ((M a).getD z) w:=by
 obtain⟨D,h1,h2,h3⟩:=h
 obtain⟨kl,hkl⟩:=K.total a ha
 obtain⟨e1,e2⟩:=h2 a ha kl hkl
 obtain⟨v,ps,hrun,hv⟩:=h1.look_ok K.law ht hz (zd:=.held z) (zp:=[]) rfl hkl
 obtain⟨v',ps',hrun',hv'⟩:=h1.lookup K.law ht hz (zd:=.held z) (zp:=[]) rfl hkl
 rw[e2 z]at hv hv'
 simp only[uI,Option.some.injEq,Prod.mk.injEq,DataW.held.injEq]at hv hv'
 rw[hrun,hrun',e1,hv.1,hv'.1]
 exact⟨rfl,rfl⟩
theorem aV.store [DecidableEq α] {t et:TypeId} (h:aV P kt key dom w b M) (K:wG P kt key dom) (ht:P.underlying t=some (.map kt et)) {a:α} (ha:dom a) (v:Value):
  ∃w',(Instr.mapUpdate t (.map (some b)) (key a) v).run P w= .ok () w'∧aV P kt key dom w' b (mI M a v)∧w.grownBy w' (some b):=by
 obtain⟨D,h1,hn,h2,h3⟩:=h.size K
 obtain⟨kl,hkl⟩:=K.total a ha
 obtain⟨w',hrun,r1,r2⟩:=h1.update K.law ht hn hkl (val:=v) (d:=.held v) (ps:=[]) rfl
 have hD:IsMap D:=(h1.tidy K.law).isMap
 refine⟨w',hrun,⟨D.put kl (.held v),Ai r1,?_,?_⟩,r2⟩
 ·intro a' ha' kl' hkl'
  by_cases e:a'=a
  ·subst e
   have:kl'=kl:=Option.some.inj (hkl'.symm.trans hkl)
   subst this
   rw[lG]
   exact⟨Maps.has_put_same hD (K.law.key hkl) _,fun z=>Maps.atKey_put_same hD (K.law.key hkl) _ _⟩
  ·rw[jc M v e]
   have hne:kl'≠kl:=fun ek=>by subst ek;exact e (K.inj _ _ (K.law.inj hkl' hkl))
   rw[Maps.has_put_other hne]
   obtain⟨q1,q2⟩:=h2 a' ha' kl' hkl'
   exact⟨q1,fun z=>by rw[Maps.atKey_put_other hne];exact q2 z⟩
 ·intro kl' hkl'
  by_cases e:kl'=kl
  ·subst e;exact⟨a,ha,hkl⟩
  ·rw[Maps.has_put_other e]at hkl'
   exact h3 kl' hkl'
end
section
variable {α:Type} {P:Program} {kt:TypeId} {key:α→Value} {dom:α→Prop} {b:Nat} {M:α→Option Value} (w:World)
theorem kU [DecidableEq α] {ops:Array Oper} {rest:List Oper} {o:Oper} {a:Act} {Q:Exit→Act→World→Prop} (hg:o.guard=none) (m x v:Operand) (t:TypeId) (hop:o.op=Op.mapUpdate t m x v)
  (et:TypeId) (K:wG P kt key dom) (ht:P.underlying t=some (.map kt et)) (hm:a.eval m= .map (some b)) (h:aV P kt key dom w b M) (k:α) (hk:dom k) (hx:a.eval x=key k) (val:Value) (hv:a.eval v=val)
  (hK:∀w',aV P kt key dom w' b (mI M k val)→w.grownBy w' (some b)→wpList P ops Q rest (a.put o.dst undef) w'):wpList P ops Q (o::rest) a w:=by
 refine wpList_plain hg fun K' hK'=>?_
 obtain⟨w',hrun,r1,r2⟩:=h.store K ht hk val
 unfold Oper.wp
 simp[execOp,hop,hm,hx,hv,hrun,Result.andThen]
 exact hK' _ _ (hK w' r1 r2)
end
end Go.Proofs.YtifkacnoiocebaaGreat
namespace Go.Proofs.YtifkacnoiocebaaGreat
open aj Go.Maps Go.RowKit
abbrev bC:=Nat×Nat×Nat
def kC (t:bC):Value:=.agg #[.int .i64 t.1,.int .i64 t.2.1,.int .i64 t.2.2]
def lH (t:bC):Prop:=t.1<65536∧t.2.1<65536∧t.2.2<65536
theorem Ec (a b:bC) (h:kC a=kC b):a=b:=by
 obtain⟨a1,a2,a3⟩:=a
 obtain⟨b1,b2,b3⟩:=b
 simp only[kC,Value.agg.injEq,Array.mk.injEq,List.cons.injEq,Value.int.injEq,true_and,and_true,Int.natCast_inj]at h
 simp[h]
theorem LQ:∃L:List bC,L.length<9223372036854775807∧∀a,lH a→a∈L:=by
 have gen:∀N:Nat,∃L:List bC,L.length=N*(N*N)∧∀a b c:Nat,a<N→b<N→c<N→(a,b,c)∈L:=fun N=>by
  refine⟨(List.range N).flatMap fun a=>(List.range N).flatMap fun b=>(List.range N).map fun c=>(a,b,c),?_,?_⟩
  ·have h1:∀(β:Type) (f:Nat→List β) (m:Nat),(∀a,(f a).length =m)→∀n,((List.range n).flatMap f).length =n*m:=fun β f m hf n=>by
    induction n with
    |zero=>simp
    |succ n ih=>rw[List.range_succ,List.flatMap_append,List.length_append,ih,Nat.succ_mul];simp[hf]
   exact h1 _ _ _ (fun a=>h1 _ _ _ (fun b=>by simp) N) N
  ·intro a b c ha hb hc
   simp only[List.mem_flatMap,List.mem_range,List.mem_map]
   exact⟨a,ha,b,hb,c,hc,rfl⟩
 obtain⟨L,h1,h2⟩:=gen 65536
 refine⟨L,by rw[h1];decide,fun a ha=>?_⟩
 obtain⟨a1,a2,a3⟩:=a
 exact h2 a1 a2 a3 ha.1 ha.2.1 ha.2.2
theorem Ed (n:Nat) (h:n<65536):(Lit.int .i64 (n:Int)).wf =true:=WalkArith.wf_i64 (by omega)
theorem LU:decide (117<Tryz.prog.types.size)=true:=by kernel_rfl
theorem WE:decide (197<Tryz.prog.types.size)=true:=by kernel_rfl
theorem XK:Tryz.prog.keyTypeAt 2 117=true:=by kernel_rfl
theorem XL:Tryz.prog.keyTypeAt 2 197=true:=by kernel_rfl
theorem WG:Tryz.prog.keyType 117=true:=by kernel_rfl
theorem WH:Tryz.prog.keyType 197=true:=by kernel_rfl
theorem Pw:Tryz.prog.cellsOf 117=3:=by kernel_rfl
theorem Px:Tryz.prog.cellsOf 197=3:=by kernel_rfl
theorem Jb:Tryz.prog.cellsOf 3=1:=by kernel_rfl
theorem zB:∃m,Tryz.prog.types.size=m+1:=by
 cases h:Tryz.prog.types.size with
 |zero=>have:=of_decide_eq_true LU;rw[h]at this;omega
 |succ m=>exact⟨m,rfl⟩
theorem WI:Keyed Tryz.prog 117:=Keyed.of_law (deep_law_laid Tryz.laidOut (m:=2) (by omega) (of_decide_eq_true LU) XK (by rw[Tryz.underlying117]))
theorem WJ:Keyed Tryz.prog 197:=Keyed.of_law (deep_law_laid Tryz.laidOut (m:=2) (by omega) (of_decide_eq_true WE) XL (by rw[Tryz.underlying197]))
theorem LV {P:Program} {k i:TypeId} {f1 f2 f3:Field} (hu:P.underlying k=some (.struct #[f1,f2,f3])) (h1:f1.type=i∧f1.offset=0∧f1.name≠ "_") (h2:f2.type=i∧f2.offset=1∧f2.name≠ "_") (h3:f3.type=i∧f3.offset=2∧f3.name≠ "_")
  (hi:P.underlying i=some (.int .i64)) (hk:P.keyType k=true) (hc:P.cellsOf k=3) (hci:P.cellsOf i=1) (hm:∃m,P.types.size=m+1) (t:bC) (ht:lH t):∃kl,keyOf P k (kC t)=some kl:=by
 obtain⟨a,b,c⟩:=t
 have w1:=Ed a ht.1
 have w2:=Ed b ht.2.1
 have w3:=Ed c ht.2.2
 obtain⟨m,hm⟩:=hm
 unfold keyOf
 rw[hu]
 simp[hk,Value.formed,hu,kC,hc,Value.cells,hm,Program.keyLits,hci,hi,w1,w2,w3,h1,h2,h3]
theorem Jc:wG Tryz.prog 117 kC lH:=
 ⟨WI,LV Tryz.underlying117 ⟨rfl,rfl,by decide⟩ ⟨rfl,rfl,by decide⟩ ⟨rfl,rfl,by decide⟩ Tryz.underlying3 WG Pw Jb zB,Ec,LQ⟩
theorem wH:wG Tryz.prog 197 kC lH:=
 ⟨WJ,LV Tryz.underlying197 ⟨rfl,rfl,by decide⟩ ⟨rfl,rfl,by decide⟩ ⟨rfl,rfl,by decide⟩ Tryz.underlying3 WH Px Jb zB,Ec,LQ⟩
structure eO (S:Nat→Prop) (w w':World):Prop where
 os:w'.os=w.os
 tape:w'.tape=w.tape
 output:w'.output=w.output
 size:w.heap.size≤w'.heap.size
 block:∀k,k<w.heap.size→¬S k→w'.heap[k]?=w.heap[k]?
theorem eO.refl (S:Nat→Prop) (w:World):eO S w w:=⟨rfl,rfl,rfl,Nat.le_refl _,fun _ _ _=>rfl⟩
theorem eO.of_below {S:Nat→Prop} {w w':World} (h:Below w.heap.size w w'):eO S w w':=⟨h.os,h.tape,h.output,h.size,fun k hk _=>h.block k hk⟩
theorem eO.trans {S S':Nat→Prop} {a b c:World} (h:eO S a b) (k:eO S' b c) (hs:∀i,i<a.heap.size→S' i→S i):eO S a c:=
 ⟨k.os.trans h.os,k.tape.trans h.tape,k.output.trans h.output,Nat.le_trans h.size k.size,fun i hi hn=>(k.block i (Nat.lt_of_lt_of_le hi h.size) (fun hS=>hn (hs i hi hS))).trans (h.block i hi hn)⟩
theorem eO.mono {S S':Nat→Prop} {a b:World} (h:eO S a b) (hs:∀i,i<a.heap.size→S i→S' i):eO S' a b:=⟨h.os,h.tape,h.output,h.size,fun i hi hn=>h.block i hi (fun hS=>hn (hs i hi hS))⟩
theorem eO.below {S:Nat→Prop} {a b:World} (h:eO S a b) {B:Nat} (hB:B≤a.heap.size) (hs:∀i,S i→B≤i):Below B a b:=
 ⟨h.os,h.tape,h.output,h.size,fun k hk=>h.block k (by omega) (fun hS=>by have:=hs k hS;omega)⟩
theorem eO.l7 {S:Nat→Prop} {a b:World} {row:Option Nat} (h:a.grownBy b row) (hs:∀k,row=some k→k<a.heap.size→S k):eO S a b:=
 ⟨h.os,h.tape,h.output,h.size,fun k hk hn=>h.block k hk (fun e=>hn (hs k e.symm hk))⟩
theorem eO.setCell {S:Nat→Prop} {a:World} {p:Addr} (hp:S p.block) (u:Value):eO S a (a.setCell p u):=
 ⟨rfl,rfl,rfl,by simp[World.setCell],fun k hk hn=>Below.heap_setCell _ _ _ _ (fun e=>hn (e▸hp))⟩
def gP (n:aj.Node):List Value:=[.int .i64 n.v,.int .i64 n.lo,.int .i64 n.hi]
theorem Im (n:aj.Node):(gP n).length =3:=rfl
theorem Io (n:aj.Node):∀u∈gP n,u.oneCell'=true:=by
 intro u hu
 simp only[gP,List.mem_cons,List.not_mem_nil,or_false]at hu
 rcases hu with rfl | rfl | rfl<;>rfl
def WK (ns:List aj.Node) (K:bC→Option Value):Prop:=∀(v lo hi:Nat) (x:Value),K (v,lo,hi)=some x↔∃i:Nat,2≤i∧ns[i]?=some ⟨v,lo,hi⟩∧x= .int .i64 (i:Int)
def Py (ns:List aj.Node) (T:bC→Option Value):Prop:=∀(f g h:Nat) (x:Value),T (f,g,h)=some x→∃r:Nat,x= .int .i64 (r:Int)∧f<ns.length∧g<ns.length∧h<ns.length∧r<ns.length∧den ns r=bE (den ns f) (den ns g) (den ns h)
def Fp (g nb kb ib:Nat) (k:Nat):Prop:=k=g∨k=nb∨k=kb∨k=ib
structure aI (w:World) (B g nb kb ib cap:Nat) (A:St) (K T:bC→Option Value):Prop where
 c0:w.cell? ⟨g,0,none⟩=some (.int .i64 A.vars)
 c1:w.cell? ⟨g,1,none⟩=some (.int .i64 A.most)
 c2:w.cell? ⟨g,2,none⟩=some (.slice (some ⟨nb,0,none⟩) A.ns.length cap)
 c3:w.cell? ⟨g,3,none⟩=some (.map (some kb))
 c4:w.cell? ⟨g,4,none⟩=some (.map (some ib))
 c5:w.cell? ⟨g,5,none⟩=some (.bool A.full)
 fr:∀o,w.frozen? ⟨g,o,none⟩=false
 own:w.ownsRow B 117 3 (.slice (some ⟨nb,0,none⟩) A.ns.length cap) A.ns.length (A.ns.flatMap gP)
 km:aV Tryz.prog 117 kC lH w kb K
 im:aV Tryz.prog 197 kC lH w ib T
 inv:Inv A
 vs:1≤A.vars∧A.vars≤16
 ms:A.most≤40000
 LW:WK A.ns K
 Pz:Py A.ns T
 ne:g≠nb∧kb≠ib
 lo:B≤g∧B≤kb∧B≤ib
section
variable {w w':World} {B g nb kb ib cap:Nat} {A:St} {K T:bC→Option Value}
theorem aI.qR (h:aI w B g nb kb ib cap A K T):g<w.heap.size∧nb<w.heap.size∧kb<w.heap.size∧ib<w.heap.size∧B≤nb:=
 ⟨World.block_lt_of_cell? w _ h.c0,(h.own.lt nb rfl).2,h.km.lt,h.im.lt,(h.own.lt nb rfl).1⟩
theorem Jd {w:World} {b o:Nat} {v:Value} (hc:w.cell? ⟨b,o,none⟩=some v) {es:Array MapEntry} {c:Nat} (hm:w.heap[b]?=some (.map es c)):False:=by
 unfold World.cell? at hc
 rw[hm]at hc
 simp at hc
theorem aV.block {α:Type} {P:Program} {kt:TypeId} {key:α→Value} {dom:α→Prop} {w:World} {b:Nat} {M:α→Option Value} (h:aV P kt key dom w b M):∃es c,w.heap[b]?=some (.map es c):=by
 obtain⟨D,⟨es,clock,hh,_⟩,_⟩:=h
 exact⟨es,clock,hh⟩
theorem PG {w:World} {B e s nb n cap:Nat} {xs:List Value} (h:w.ownsRow B e s (.slice (some ⟨nb,0,none⟩) n cap) n xs):∃cur,w.heap[nb]?=some (.cells cur e (0,0)):=by
 rcases h.2 with⟨h1,_⟩ | ⟨g',cap',cur,h1,_,h2,_⟩
 ·cases h1
 ·cases h1;exact⟨cur,h2⟩
theorem aI.nes (h:aI w B g nb kb ib cap A K T):g≠nb∧g≠kb∧g≠ib∧nb≠kb∧nb≠ib∧kb≠ib:=by
 obtain⟨e1,c1,h1⟩:=h.km.block
 obtain⟨e2,c2,h2⟩:=h.im.block
 obtain⟨cur,h3⟩:=PG h.own
 exact⟨h.ne.1,(fun e=>by subst e;exact Jd h.c0 h1),(fun e=>by subst e;exact Jd h.c0 h2),(fun e=>by subst e;rw[h1]at h3;cases h3),(fun e=>by subst e;rw[h2]at h3;cases h3),h.ne.2⟩
theorem aI.keep (h:aI w B g nb kb ib cap A K T) (hg:w'.heap[g]?=w.heap[g]?) (hn:w'.heap[nb]?=w.heap[nb]?) (hk:w'.heap[kb]?=w.heap[kb]?) (hi:w'.heap[ib]?=w.heap[ib]?):aI w' B g nb kb ib cap A K T:=by
 have e:∀o,w'.cell? ⟨g,o,none⟩=w.cell? ⟨g,o,none⟩:=fun o=>World.cell?_of_block (a:=⟨g,o,none⟩) hg
 refine⟨by rw[e];exact h.c0,by rw[e];exact h.c1,by rw[e];exact h.c2,by rw[e];exact h.c3,by rw[e];exact h.c4,by rw[e];exact h.c5,fun o=>by rw[World.frozen?_of_block (a:=⟨g,o,none⟩) hg];exact h.fr o,?_,h.km.same hk,h.im.same hi,h.inv,h.vs,h.ms,h.LW,h.Pz,h.ne,h.lo⟩
 obtain⟨h1,h2⟩:=h.own
 refine⟨h1,?_⟩
 rcases h2 with h2 | ⟨g',cap',cur,hv,hb,hh,r⟩
 ·exact .inl h2
 ·cases hv
  exact .inr ⟨_,_,cur,rfl,hb,hn.trans hh,r⟩
theorem aI.below (h:aI w B g nb kb ib cap A K T) (hb:Below w.heap.size w w'):aI w' B g nb kb ib cap A K T:=by
 obtain⟨l1,l2,l3,l4,_⟩:=h.qR
 exact h.keep (hb.block _ l1) (hb.block _ l2) (hb.block _ l3) (hb.block _ l4)
theorem aI.node (h:aI w B g nb kb ib cap A K T) {f:Nat} {n:aj.Node} (hf:A.ns[f]?=some n):
  w.cell? ⟨nb,f*3,none⟩=some (.int .i64 n.v)∧w.cell? ⟨nb,f*3+1,none⟩=some (.int .i64 n.lo)∧w.cell? ⟨nb,f*3+2,none⟩=some (.int .i64 n.hi):=by
 have hc:=h.own.cells (g:=nb) rfl
 have e:∀(j:Nat) (v:Value),(gP n)[j]?=some v→w.cell? ⟨nb,f*3+j,none⟩=some v:=fun j v hv=>by
  have:=hc (f*3+j) v (flat_get Im A.ns f n j v hf hv)
  rw[addr_add,Nat.zero_add]at this
  exact this
 exact⟨e 0 _ rfl,e 1 _ rfl,e 2 _ rfl⟩
theorem aI.uJ (h:aI w B g nb kb ib cap A K T):A.ns.length≤40000:=Nat.le_trans h.inv.bound h.ms
end
theorem GD {w:World} {B g nb kb ib cap:Nat} {A:St} {K T:bC→Option Value} (h:aI w B g nb kb ib cap A K T) (f v:Nat) (is:Bool) (hf:f<A.ns.length):
  Calls Tryz.prog 72 #[.pointer (some ⟨g,0,none⟩),.int .i64 f,.int .i64 v,.bool is] w fun e W'=>e= .returned (.int .i64 (aj.part A.ns f v is))∧Below w.heap.size w W':=by
 obtain⟨n,hn⟩:=aj.eD hf
 obtain⟨q0,q1,q2⟩:=h.node hn
 have c2:=h.c2
 have hlen:=h.uJ
 have HP:aj.part A.ns f v is=if n.v≠v then f else if is then n.hi else n.lo:=by simp only[aj.part,hn]
 obtain⟨nv,nlo,nhi⟩:=n
 simp only at HP
 have HP':=hide HP
 clear HP h hn
 generalize A.ns.length=L at*
 generalize hr:aj.part A.ns f v is=r at*
 clear hr
 have hb0:∀o,RowKit.Below w.heap.size w (w.alloc o):=fun o=>(RowKit.Below.refl _ _).alloc (Nat.le_refl _) _
 by_cases e1:nv=v
 ·subst e1
  cases is
  all_goals
   go_enter Tryz.func72,Tryz.ntmps72
   go_wp2
   go_ret
   exact⟨by rw[HP'.out];simp,hb0 _⟩
 ·have e2:((nv:Int)==(v:Int))=false:=by simp;omega
  go_enter Tryz.func72,Tryz.ntmps72
  go_wp2
  go_ret
  exact⟨by rw[HP'.out,if_pos e1];rfl,hb0 _⟩
theorem CJ {w:World} {base e s n:Nat} {v:Value} {xs:List Value} (h:w.ownsRow base e s v n xs) {p:Addr} (hp:∀k,v.ownBlock=some k→k≠p.block) (u:Value):(w.setCell p u).ownsRow base e s v n xs:=by
 obtain⟨h1,h2⟩:=h
 refine⟨h1,?_⟩
 rcases h2 with h2 | ⟨g',cap',cur,hv,hb,hh,r⟩
 ·exact .inl h2
 ·subst hv
  exact .inr ⟨_,_,cur,rfl,hb,(RowKit.Below.heap_setCell _ _ _ _ (hp g' rfl)).trans hh,r⟩
theorem aI.LX {w:World} {B g nb kb ib cap:Nat} {A:St} {K T:bC→Option Value} (h:aI w B g nb kb ib cap A K T) (b:Bool) (hi:Inv { A with full:=b }):
  aI (w.setCell ⟨g,5,none⟩ (.bool b)) B g nb kb ib cap { A with full:=b } K T:=by
 obtain⟨n1,n2,n3,_⟩:=h.nes
 have hb:∀k,k≠g→(w.setCell ⟨g,5,none⟩ (.bool b)).heap[k]?=w.heap[k]?:=fun k hk=>RowKit.Below.heap_setCell _ _ _ _ hk
 have ho:∀o,o≠5→(w.setCell ⟨g,5,none⟩ (.bool b)).cell? ⟨g,o,none⟩=w.cell? ⟨g,o,none⟩:=fun o ho=>World.cell?_setCell_other w _ _ _ (fun e=>by simp only[Addr.mk.injEq]at e;omega)
 refine⟨by rw[ho 0 (by omega)];exact h.c0,by rw[ho 1 (by omega)];exact h.c1,by rw[ho 2 (by omega)];exact h.c2,by rw[ho 3 (by omega)];exact h.c3,by rw[ho 4 (by omega)];exact h.c4,?_,fun o=>by rw[World.frozen?_setCell];exact h.fr o,
  CJ h.own (fun k hk=>by simp[Value.ownBlock]at hk;subst hk;exact fun e=>n1 e.symm) _,h.km.same (hb _ (fun e=>n2 e.symm)),h.im.same (hb _ (fun e=>n3 e.symm)),hi,h.vs,h.ms,h.LW,h.Pz,h.ne,h.lo⟩
 exact World.cell?_setCell_same w ⟨g,5,none⟩ (.bool b) h.c5
def oI (A:St):St:={ A with full:=false }
theorem xH {w:World} {B g nb kb ib cap:Nat} {A:St} {K T:bC→Option Value} (h:aI w B g nb kb ib cap A K T) (f:Nat):
  Calls Tryz.prog 138 #[.pointer (some ⟨g,0,none⟩),.int .i64 f] w fun e W'=>
   (A.full=true→e= .returned (.tuple #[.int .i64 0,.int .i64 6]))∧(A.full=false→e= .returned (.tuple #[.int .i64 f,.int .i64 0]))∧aI W' B g nb kb ib cap (oI A) K T∧eO (Fp g nb kb ib) w W':=by
 have c5:=h.c5
 have fr:=h.fr 5
 have H:=hide h
 clear h
 cases hf:A.full
 ·rw[hf]at c5
  go_enter Tryz.func138,Tryz.ntmps138
  go_wp2
  go_ret2
  refine⟨by simp,fun _=>rfl,?_,eO.refl _ _⟩
  have e:oI A=A:=by cases A;simp_all [oI]
  rw[e];exact H.out
 ·rw[hf]at c5
  go_enter Tryz.func138,Tryz.ntmps138
  go_wp2
  go_ret2
  refine⟨fun _=>rfl,by simp,?_,eO.setCell (p:=⟨g,5,none⟩) (.inl rfl) _⟩
  exact H.out.LX false ⟨H.out.inv.ok,H.out.inv.bound,fun h=>by cases h⟩
theorem UC (w:World):(zeroValue 3).run Tryz.prog w= .ok (.int .i64 0) w:=by kernel_rfl
def wI (w:World) (B g nb kb ib:Nat) (A:St) (T:bC→Option Value) (v lo hi:Nat) (e:Ending) (W':World):Prop:=
 ∃(r nb' cap':Nat) (A':St) (K':bC→Option Value),e= .returned (.int .i64 (r:Int))∧Made A v lo hi r A'∧aI W' B g nb' kb ib cap' A' K' T∧(nb'=nb∨w.heap.size≤nb')∧eO (Fp g nb kb ib) w W'
theorem Tryz.infoNode:(Tryz.prog.info? 117).map (fun i=>(i.zero,i.size,i.bytes))=some (some (.agg #[.int .i64 0,.int .i64 0,.int .i64 0]),3,24):=by kernel_rfl
theorem R8 (v lo hi:Nat) (W':World):Reads (W'.alloc (.cells #[.int .i64 v,.int .i64 lo,.int .i64 hi] 117)) (W'.heap.size+1) 3 (some ⟨W'.heap.size,0,none⟩) 1 (gP ⟨v,lo,hi⟩):=
 ⟨rfl,fun _=>⟨_,rfl,Nat.lt_succ_self _,fun j u hu=>by
  rw[addr_add,Nat.zero_add,cell_of_row _ _ _ _ _ _ (heap_alloc_new W' _)]
  simpa[gP]using hu⟩⟩
theorem R9 {w W2 w5:World} {B g nb kb ib cap wJ c5 v lo hi:Nat} {A:St} {K T:bC→Option Value} (h:aI w B g nb kb ib cap A K T) (hv:v<A.vars) (hlo:lo<A.ns.length) (hhi:hi<A.ns.length)
  (h1:v<var A.ns lo) (h2:v<var A.ns hi) (hne:lo≠hi) (hnot:∀i,2≤i→A.ns[i]?≠some ⟨v,lo,hi⟩) (hm:A.ns.length<A.most)
  (hW:RowKit.Below w.heap.size w W2) (xZ:W2.heap[w.heap.size]?=some (.cells #[.int .i64 v,.int .i64 lo,.int .i64 hi] 117 (0,0))) (hown5:w5.ownsRow B 117 3 (.slice (some ⟨wJ,0,none⟩) (A.ns.length+1) c5) (A.ns.length+1) (A.ns.flatMap gP++gP ⟨v,lo,hi⟩))
  (hg5:W2.grownBy w5 (some nb)) (hat:wJ=nb∨W2.heap.size≤wJ):
  (w5.cell? ⟨g,2,none⟩=some (.slice (some ⟨nb,0,none⟩) A.ns.length cap)∧w5.frozen? ⟨g,2,none⟩=false)∧
  Hid (∀u,u=w5.setCell ⟨g,2,none⟩ (.slice (some ⟨wJ,0,none⟩) (A.ns.length+1) c5)→
   u.cell? ⟨g,3,none⟩=some (.map (some kb))∧(u.cell? ⟨w.heap.size,0,none⟩=some (.int .i64 v)∧u.cell? ⟨w.heap.size,1,none⟩=some (.int .i64 lo)∧u.cell? ⟨w.heap.size,2,none⟩=some (.int .i64 hi))∧
   aV Tryz.prog 117 kC lH u kb K∧
   ∀w7,aV Tryz.prog 117 kC lH w7 kb (mI K (v,lo,hi) (.int .i64 (A.ns.length:Nat)))→u.grownBy w7 (some kb)→wI w B g nb kb ib A T v lo hi (.returned (.int .i64 ((A.ns.length:Nat):Int))) w7):=by
 obtain⟨l1,l2,l3,l4,l5⟩:=h.qR
 obtain⟨n1,n2,n3,n4,n5,n6⟩:=h.nes
 have hsz:=hW.size
 have hb5:∀k,k<w.heap.size→k≠nb→w5.heap[k]?=w.heap[k]?:=fun k hk hn=>(hg5.block k (by omega) (fun e=>hn (Option.some.inj e))).trans (hW.block k hk)
 have hbx:w5.heap[w.heap.size]?=some (.cells #[.int .i64 v,.int .i64 lo,.int .i64 hi] 117 (0,0)):=(hg5.block _ (by
  have:=(Array.getElem?_eq_some_iff.1 xZ).1;exact this) (fun e=>by have:=Option.some.inj e;omega)).trans xZ
 have hgc:∀o,w5.cell? ⟨g,o,none⟩=w.cell? ⟨g,o,none⟩:=fun o=>World.cell?_of_block (a:=⟨g,o,none⟩) (hb5 g l1 n1)
 have hgf:∀o,w5.frozen? ⟨g,o,none⟩=false:=fun o=>(World.frozen?_of_block (a:=⟨g,o,none⟩) (hb5 g l1 n1)).trans (h.fr o)
 refine⟨⟨(hgc 2).trans h.c2,hgf 2⟩,?_⟩
 intro u hu
 have hub:∀k,k≠g→u.heap[k]?=w5.heap[k]?:=fun k hk=>by rw[hu];exact RowKit.Below.heap_setCell _ _ _ _ hk
 have LY:∀o,o≠2→u.cell? ⟨g,o,none⟩=w.cell? ⟨g,o,none⟩:=fun o ho=>by rw[hu,World.cell?_setCell_other w5 _ _ _ (fun e=>by simp only[Addr.mk.injEq]at e;omega)];exact hgc o
 have hbu:u.heap[w.heap.size]?=_:=(hub _ (by omega)).trans hbx
 have UD:aV Tryz.prog 117 kC lH u kb K:=h.km.same ((hub kb (fun e=>n2 e.symm)).trans (hb5 kb l3 (fun e=>n4 e.symm)))
 refine⟨(LY 3 (by omega)).trans h.c3,⟨by rw[cell_of_row _ _ _ _ _ _ hbu];rfl,by rw[cell_of_row _ _ _ _ _ _ hbu];rfl,by rw[cell_of_row _ _ _ _ _ _ hbu];rfl⟩,UD,?_⟩
 intro w7 qj fZ
 have afh:=(hown5.lt wJ rfl)
 have XM:wJ≠g:=by rcases hat with e | e<;>omega
 have acz:wJ≠kb:=by rcases hat with e | e<;>omega
 have hsu:w5.heap.size=u.heap.size:=by rw[hu];simp[World.setCell]
 have hs5:=hg5.size
 have h7:∀k,k<u.heap.size→k≠kb→w7.heap[k]?=u.heap[k]?:=fun k hk hn=>fZ.block k hk (fun e=>hn (Option.some.inj e))
 have LZ:∀o,w7.cell? ⟨g,o,none⟩=u.cell? ⟨g,o,none⟩:=fun o=>World.cell?_of_block (a:=⟨g,o,none⟩) (h7 g (by omega) n2)
 have hu2:u.cell? ⟨g,2,none⟩=some (.slice (some ⟨wJ,0,none⟩) (A.ns.length+1) c5):=by rw[hu];exact World.cell?_setCell_same w5 ⟨g,2,none⟩ _ ((hgc 2).trans h.c2)
 have qB:Made A v lo hi A.len { A with ns:=A.ns++[⟨v,lo,hi⟩] }:=.new hne hnot hm
 have hext:=qB.ext h.inv hv hlo hhi h1 h2
 have aaf:(A.ns++[(⟨v,lo,hi⟩:aj.Node)]).flatMap gP=A.ns.flatMap gP++gP ⟨v,lo,hi⟩:=by simp
 refine⟨A.ns.length,wJ,c5,{ A with ns:=A.ns++[⟨v,lo,hi⟩] },mI K (v,lo,hi) (.int .i64 (A.ns.length:Nat)),rfl,qB,?_,?_,?_⟩
 ·have hlen:(A.ns++[(⟨v,lo,hi⟩:aj.Node)]).length =A.ns.length+1:=by simp
  refine⟨(LZ 0).trans ((LY 0 (by omega)).trans h.c0),(LZ 1).trans ((LY 1 (by omega)).trans h.c1),?_,(LZ 3).trans ((LY 3 (by omega)).trans h.c3),(LZ 4).trans ((LY 4 (by omega)).trans h.c4),(LZ 5).trans ((LY 5 (by omega)).trans h.c5),?_,?_,qj,?_,hext.inv,h.vs,h.ms,?_,?_,⟨fun e=>XM e.symm,n6⟩,h.lo⟩
  ·show w7.cell? ⟨g,2,none⟩=some (.slice _ (A.ns++[(⟨v,lo,hi⟩:aj.Node)]).length c5)
   rw[hlen];exact(LZ 2).trans hu2
  ·intro o
   rw[World.frozen?_of_block (a:=⟨g,o,none⟩) (h7 g (by omega) n2),hu,World.frozen?_setCell]
   exact hgf o
  ·show w7.ownsRow B _ 3 (.slice _ (A.ns++[(⟨v,lo,hi⟩:aj.Node)]).length c5) (A.ns++[(⟨v,lo,hi⟩:aj.Node)]).length ((A.ns++[(⟨v,lo,hi⟩:aj.Node)]).flatMap gP)
   rw[hlen,aaf]
   have:=CJ hown5 (p:=⟨g,2,none⟩) (fun k hk=>by simp[Value.ownBlock]at hk;subst hk;exact XM) (.slice (some ⟨wJ,0,none⟩) (A.ns.length+1) c5)
   rw[← hu]at this
   exact this.kept fZ (.inr (fun e=>by simp[Value.ownBlock]at e;exact acz e))
  ·exact h.im.same ((h7 ib (by omega) (fun e=>n6 e.symm)).trans ((hub ib (fun e=>n3 e.symm)).trans (hb5 ib l4 (fun e=>n5 e.symm))))
  ·intro v' lo' hi' x
   show mI K (v,lo,hi) _ (v',lo',hi')=some x↔∃i:Nat,2≤i∧(A.ns++[(⟨v,lo,hi⟩:aj.Node)])[i]?=some ⟨v',lo',hi'⟩∧x= .int .i64 (i:Int)
   by_cases e:(v',lo',hi')=(v,lo,hi)
   ·rw[e,lG]
    cases e
    constructor
    ·intro hx
     cases hx
     exact⟨A.ns.length,h.inv.ok.two,by simp,rfl⟩
    ·rintro⟨i,hi2,hin,rfl⟩
     rcases Nat.lt_or_ge i A.ns.length with hl | hl
     ·rw[List.getElem?_append_left hl]at hin;exact absurd hin (hnot i hi2)
     ·have:=(List.getElem?_eq_some_iff.1 hin).1
      have:i=A.ns.length:=by simp at this;omega
      rw[this]
   ·rw[jc _ _ e,h.LW v' lo' hi' x]
    constructor
    ·rintro⟨i,hi2,hin,rfl⟩
     exact⟨i,hi2,by rw[List.getElem?_append_left (List.getElem?_eq_some_iff.1 hin).1];exact hin,rfl⟩
    ·rintro⟨i,hi2,hin,rfl⟩
     rcases Nat.lt_or_ge i A.ns.length with hl | hl
     ·rw[List.getElem?_append_left hl]at hin;exact⟨i,hi2,hin,rfl⟩
     ·have hi':=(List.getElem?_eq_some_iff.1 hin).1
      have:i=A.ns.length:=by simp at hi';omega
      subst this
      simp at hin
      exact absurd (by simp[hin]) e
  ·intro f' g' h' x hx
   obtain⟨r,rfl,a1,a2,a3,a4,a5⟩:=h.Pz f' g' h' x hx
   refine⟨r,rfl,by simp;omega,by simp;omega,by simp;omega,by simp;omega,?_⟩
   show den (A.ns++_) r=bE (den (A.ns++_) f') (den (A.ns++_) g') (den (A.ns++_) h')
   rw[rM h.inv.ok _ a1,rM h.inv.ok _ a2,rM h.inv.ok _ a3,rM h.inv.ok _ a4,a5]
 ·rcases hat with e | e
  ·exact .inl e
  ·exact .inr (by omega)
 ·refine⟨?_,?_,?_,?_,?_⟩
  ·rw[fZ.os,hu];exact hg5.os.trans hW.os
  ·rw[fZ.tape,hu];exact hg5.tape.trans hW.tape
  ·rw[fZ.output,hu];exact hg5.output.trans hW.output
  ·have:=fZ.size;omega
  ·intro k hk hn
   have k1:k≠g:=fun e=>hn (.inl e)
   have k2:k≠nb:=fun e=>hn (.inr (.inl e))
   have k3:k≠kb:=fun e=>hn (.inr (.inr (.inl e)))
   exact(h7 k (by omega) k3).trans ((hub k k1).trans (hb5 k hk k2))
theorem xI {w:World} {B g nb kb ib cap:Nat} {A:St} {K T:bC→Option Value} (h:aI w B g nb kb ib cap A K T) (v lo hi:Nat) (hv:v<A.vars) (hlo:lo<A.ns.length) (hhi:hi<A.ns.length)
  (h1:v<var A.ns lo) (h2:v<var A.ns hi):
  Calls Tryz.prog 139 #[.pointer (some ⟨g,0,none⟩),.int .i64 v,.int .i64 lo,.int .i64 hi] w (wI w B g nb kb ib A T v lo hi):=by
 obtain⟨i0,hi0,hz0,hz1,hz2⟩:=info_parts Tryz.infoNode
 have hlen:=h.uJ
 have hvs:=h.vs
 obtain⟨l1,l2,l3,l4,l5⟩:=h.qR
 by_cases e0:lo=hi
 ·subst e0
  have HF:Hid (wI w B g nb kb ib A T v lo lo (.returned (.int .i64 (lo:Int))) w):=hide ⟨lo,nb,cap,A,K,rfl,.same rfl,h,.inl rfl,eO.refl _ _⟩
  clear h
  go_enter Tryz.func139,Tryz.ntmps139
  go_wp2
  go_ret
  exact HF.out
 have e0':((lo:Int)==(hi:Int))=false:=by simp;omega
 have hdom:lH (v,lo,hi):=⟨by show v<_;omega,by show lo<_;omega,by show hi<_;omega⟩
 have hb0:∀o,RowKit.Below w.heap.size w (w.alloc o):=fun o=>(RowKit.Below.refl _ _).alloc (Nat.le_refl _) _
 have nG:∀o n,RowKit.Below w.heap.size w ((w.alloc o).drewN n):=fun o n=>(hb0 o).trans ⟨rfl,rfl,rfl,Nat.le_refl _,fun _ _=>rfl⟩
 have c1:=fun ob=>(hb0 ob).cell (p:=⟨g,1,none⟩) l1 |>.trans h.c1
 have c2:=fun ob=>(hb0 ob).cell (p:=⟨g,2,none⟩) l1 |>.trans h.c2
 have c3:=fun ob=>(hb0 ob).cell (p:=⟨g,3,none⟩) l1 |>.trans h.c3
 have c5:=fun ob=>(hb0 ob).cell (p:=⟨g,5,none⟩) l1 |>.trans h.c5
 have f5:=fun ob=>((hb0 ob).frozen (p:=⟨g,5,none⟩) l1).trans (h.fr 5)
 have hkm:=fun(n:Nat) (ob:Obj)=>((h.below (nG ob n)).km.look Jc Tryz.underlying119 (UC _) hdom).1
 cases ek:K (v,lo,hi)with
 |some x=>
  obtain⟨i,hi2,hin,rfl⟩:=(h.LW v lo hi x).1 ek
  have hlk:∀n ob,(Instr.lookup 119 (.map (some kb)) (.agg #[.int .i64 v,.int .i64 lo,.int .i64 hi]) true).run Tryz.prog ((w.alloc ob).drewN n)= .ok (.tuple #[.int .i64 i,.bool true]) ((w.alloc ob).drewN n):=fun n ob=>by
   have:=hkm n ob
   rw[ek]at this
   exact this
  have HF:Hid (∀ob n,wI w B g nb kb ib A T v lo hi (.returned (.int .i64 (i:Int))) ((w.alloc ob).drewN n)):=hide fun ob n=>⟨i,nb,cap,A,K,rfl,.there i e0 hi2 hin,h.below (nG ob n),.inl rfl,eO.of_below (nG ob n)⟩
  clear h hkm ek hb0 nG
  go_enter Tryz.func139,Tryz.ntmps139
  go_wp2
  go_quiet (fail)
  go_wp2
  go_ret
  exact HF.out _ _
 |none=>
  have hlk:∀n ob,(Instr.lookup 119 (.map (some kb)) (.agg #[.int .i64 v,.int .i64 lo,.int .i64 hi]) true).run Tryz.prog ((w.alloc ob).drewN n)= .ok (.tuple #[.int .i64 0,.bool false]) ((w.alloc ob).drewN n):=fun n ob=>by
   have:=hkm n ob
   rw[ek]at this
   exact this
  have hnot:∀i,2≤i→A.ns[i]?≠some ⟨v,lo,hi⟩:=fun i hi2 hn=>by
   have:=(h.LW v lo hi _).2 ⟨i,hi2,hn,rfl⟩
   rw[ek]at this
   cases this
  by_cases hm:A.most≤A.ns.length
  ·have hm':decide ((A.most:Int)≤(A.ns.length:Int))=true:=by simp;omega
   have HF:Hid (∀ob n,wI w B g nb kb ib A T v lo hi (.returned (.int .i64 ((0:Nat):Int))) (((w.alloc ob).drewN n).setCell ⟨g,5,none⟩ (.bool true))):=hide fun ob n=>
    ⟨0,nb,cap,{ A with full:=true },K,rfl,.full e0 hnot hm,(h.below (nG ob n)).LX true ⟨h.inv.ok,h.inv.bound,fun _=>Nat.le_antisymm h.inv.bound hm⟩,.inl rfl,
     (eO.of_below (nG ob n)).trans (S':=Fp g nb kb ib) (eO.setCell (p:=⟨g,5,none⟩) (.inl rfl) _) (fun _ _ h=>h)⟩
   clear h hkm ek hb0 nG
   go_enter Tryz.func139,Tryz.ntmps139
   go_wp2
   go_quiet (fail)
   go_wp2
   go_quiet (fail)
   go_wp2
   go_ret
   exact HF.out _ _
  ·have hm':decide ((A.most:Int)≤(A.ns.length:Int))=false:=by simp;omega
   go_enter Tryz.func139,Tryz.ntmps139
   go_wp2
   go_quiet (fail)
   go_wp2
   go_quiet (fail)
   go_wp2
   have rQ:Hid (∀(W':World) (k:Nat),W'.heap.size=k→Reads (W'.alloc (.cells #[.int .i64 v,.int .i64 lo,.int .i64 hi] 117)) (k+1) 3 (some ⟨k,0,none⟩) 1 (gP ⟨v,lo,hi⟩)):=hide (fun W' k hk=>hk▸R8 v lo hi W')
   have c2':∀ob n Ee,(((w.alloc ob).drewN n).alloc Ee).cell? ⟨g,2,none⟩=_:=fun ob n Ee=>((nG ob n).cell (p:=⟨g,2,none⟩) l1▸(World.cell?_alloc_lt ((w.alloc ob).drewN n) Ee ⟨g,2,none⟩ (by have:=(nG ob n).size;show g<_;omega))).trans h.c2
   have H:=hide h
   have HM:=hide (fun W2 w5 wJ c5=>R9 (W2:=W2) (w5:=w5) (wJ:=wJ) (c5:=c5) h hv hlo hhi h1 h2 e0 hnot (Nat.lt_of_not_le hm))
   have hsz0:∀ob,w.heap.size<(w.alloc ob).heap.size :=fun ob=>by simp
   have lI:Hid (∀n Ee,RowKit.Below w.heap.size w (((w.alloc (.cells #[.int .i64 v,.int .i64 lo,.int .i64 hi] 117)).drewN n).alloc Ee)∧(((w.alloc (.cells #[.int .i64 v,.int .i64 lo,.int .i64 hi] 117)).drewN n).alloc Ee).heap[w.heap.size]?=some (.cells #[.int .i64 v,.int .i64 lo,.int .i64 hi] 117 (0,0))):=hide (fun n Ee=>
    ⟨(nG _ n).alloc (nG _ n).size Ee,(RowKit.Below.heap_alloc _ Ee _ (hsz0 _)).trans (heap_alloc_new w _)⟩)
   clear h hkm ek hlk
   go_region_law ((refine Eb _ rfl (.tmp 54) (.tmp 56) 118 rfl B 117 i0 _ 3 24 Tryz.underlying118 hi0 hz0 hz1 hz2 rfl (by omega) (.slice (some ⟨nb,0,none⟩) A.ns.length cap) A.ns.length (A.ns.flatMap gP) rfl ((H.out.below (nG _ _)).own.alloc _) _ (some ⟨_,0,none⟩) 1 1 _ rfl (rQ.out _ _ (by simp)) (Io _) (by simp only[maxLen];omega) (by omega) (by simp;omega) ?_;intro v5 w5 hown5 hg5 iD;obtain⟨wJ,c5,hv5,_⟩:=hown5.form (by omega);rw[hv5];rw[hv5]at hown5 iD;have qU:=HM.out _ _ _ _ (lI.out _ _).1 (lI.out _ _).2 hown5 hg5 (by have acA:=iD;simp[Value.ownBlock]at acA ⊢;omega);have k2:=qU.1.1;have f2:=qU.1.2;have HU:=qU.2;clear qU))
   all_goals
    obtain⟨d3,⟨x0,x1,x2⟩,UD,HU'⟩:=HU.out _ rfl
    have HUU:=hide HU'
    have HKU:=hide UD
    clear HU' UD HU k2 f2
    generalize World.setCell _ _ _=u at*
    go_wp2
    go_still_tail 6,(by kernel_rfl)
    refine kU _ rfl (.tmp 63) (.tmp 64) (.tmp 65) 119 rfl 3 Jc Tryz.underlying119 rfl (HKU.out.same (w':=u.drew) rfl) (v,lo,hi) hdom rfl (.int .i64 (A.ns.length:Nat)) rfl ?_
    intro w7 qj fZ
    have HE:=hide (HUU.out w7 qj ⟨fZ.os,fZ.tape,fZ.output,fZ.size,fZ.block⟩)
    clear qj fZ
    go_wp2
    go_ret
    exact HE.out
def jC (a b c:Nat):Nat:=min (min a b) c
def uo (w:World) (B g nb kb ib:Nat) (A:St) (F:aj.Fn) (k:Nat) (e:Ending) (W':World):Prop:=
 ∃(r nb' cap':Nat) (A':St) (K' T':bC→Option Value),e= .returned (.int .i64 (r:Int))∧nQ A A' r F k∧aI W' B g nb' kb ib cap' A' K' T'∧(nb'=nb∨w.heap.size≤nb')∧eO (Fp g nb kb ib) w W'
theorem rR {w W':World} {B g nb kb ib cap:Nat} {A:St} {K T:bC→Option Value} {F:aj.Fn} {k r:Nat} (h:aI w B g nb kb ib cap A K T) (hb:RowKit.Below w.heap.size w W') (hr:r<A.ns.length) (hk:k≤var A.ns r) (hd:A.full=false→den A.ns r=F):
  uo w B g nb kb ib A F k (.returned (.int .i64 (r:Int))) W':=
 ⟨r,nb,cap,A,K,T,rfl,lF h.inv hr hk hd,h.below hb,.inl rfl,eO.of_below hb⟩
theorem Ef {F G H:aj.Fn} {k:Nat} (hF:∀x y:iq,(∀u,k≤u→x u=y u)→F x=F y) (hG:∀x y:iq,(∀u,k≤u→x u=y u)→G x=G y) (hH:∀x y:iq,(∀u,k≤u→x u=y u)→H x=H y):
  ∀x y:iq,(∀u,k≤u→x u=y u)→bE F G H x=bE F G H y:=fun x y h=>by
 simp only[bE,hF x y h,hG x y h,hH x y h]
theorem oJ {vars:Nat} {ns:List aj.Node} (ok:Ok vars ns) {f k:Nat} (hf:f<ns.length) (hk:k≤var ns f):∀x y:iq,(∀u,k≤u→x u=y u)→den ns f x=den ns f y:=fun x y h=>indep ok f hf x y (fun u hu=>h u (by omega))
structure mD (w:World) (B g nb kb ib:Nat) (box:Array Value) (t:TypeId) (w1:World) (aU aQ:Nat) (A1:St) (K1 T1:bC→Option Value):Prop where
 ar:aI w1 B g aU kb ib aQ A1 K1 T1
 fm:eO (Fp g nb kb ib) w w1
 bx:w1.heap[w.heap.size]?=some (.cells box t (0,0))
 jr:aU=nb∨w.heap.size<aU
theorem mD.step {w:World} {B g nb kb ib:Nat} {box:Array Value} {t:TypeId} {w1 w2:World} {aU aQ bR cap2:Nat} {A1 A2:St} {K1 T1 K2 T2:bC→Option Value} {cap:Nat} {A:St} {K T:bC→Option Value} (h0:aI w B g nb kb ib cap A K T)
  (h:mD w B g nb kb ib box t w1 aU aQ A1 K1 T1) (ha:aI w2 B g bR kb ib cap2 A2 K2 T2) (hn:bR=aU∨w1.heap.size≤bR) (hf:eO (Fp g aU kb ib) w1 w2):mD w B g nb kb ib box t w2 bR cap2 A2 K2 T2:=by
 obtain⟨l1,l2,l3,l4,_⟩:=h0.qR
 have hb:=(Array.getElem?_eq_some_iff.1 h.bx).1
 refine⟨ha,h.fm.trans hf (fun i hi hs=>?_),(hf.block _ hb (fun hs=>?_)).trans h.bx,?_⟩
 ·rcases hs with e | e | e | e
  ·exact .inl e
  ·rcases h.jr with e' | e'
   ·exact .inr (.inl (e.trans e'))
   ·omega
  ·exact .inr (.inr (.inl e))
  ·exact .inr (.inr (.inr e))
 ·rcases hs with e | e | e | e
  ·omega
  ·rcases h.jr with e' | e'<;>omega
  ·omega
  ·omega
 ·rcases hn with e | e
  ·rw[e];exact h.jr
  ·exact .inr (by omega)
theorem mD.below {w:World} {B g nb kb ib:Nat} {box:Array Value} {t:TypeId} {w1 w2:World} {aU aQ:Nat} {A1:St} {K1 T1:bC→Option Value} {cap:Nat} {A:St} {K T:bC→Option Value} (h0:aI w B g nb kb ib cap A K T)
  (h:mD w B g nb kb ib box t w1 aU aQ A1 K1 T1) (hb:RowKit.Below w1.heap.size w1 w2):mD w B g nb kb ib box t w2 aU aQ A1 K1 T1:=
 h.step h0 (h.ar.below hb) (.inl rfl) (eO.of_below hb)
theorem mD.out {w:World} {B g nb kb ib:Nat} {box:Array Value} {t:TypeId} {w1:World} {aU aQ:Nat} {A1:St} {K1 T1:bC→Option Value} (h:mD w B g nb kb ib box t w1 aU aQ A1 K1 T1) {A:St} {F:aj.Fn} {k r:Nat} (hr:nQ A A1 r F k):
  uo w B g nb kb ib A F k (.returned (.int .i64 (r:Int))) w1:=
 ⟨r,aU,aQ,A1,K1,T1,rfl,hr,h.ar,h.jr.imp id (fun h=>by omega),h.fm⟩
theorem PI {A A1:St} (h:Ext A A1) {f:Nat} (hf:f<A.ns.length) (v:Nat) (is:Bool):aj.part A1.ns f v is=aj.part A.ns f v is:=by
 unfold aj.part;rw[h.get hf]
structure PS (A:St) (f a b k:Nat):Prop where
 inv:Inv A
 hf:f<A.ns.length
 ha:a<A.ns.length
 hb:b<A.ns.length
 hv:k<A.vars
 kf:k≤var A.ns f
 ka:k≤var A.ns a
 kb:k≤var A.ns b
theorem PS.indep {A:St} {f a b k:Nat} (h:PS A f a b k):∀x y:iq,(∀u,k≤u→x u=y u)→bE (den A.ns f) (den A.ns a) (den A.ns b) x=bE (den A.ns f) (den A.ns a) (den A.ns b) y:=
 Ef (oJ h.inv.ok h.hf h.kf) (oJ h.inv.ok h.ha h.ka) (oJ h.inv.ok h.hb h.kb)
theorem PS.args {A A1:St} {f a b k:Nat} (h:PS A f a b k) (he:Ext A A1) {is:Bool} {p q r:Nat} (hp:aj.part A.ns f k is=p) (hq:aj.part A.ns a k is=q) (hr:aj.part A.ns b k is=r):
  p<A1.ns.length∧q<A1.ns.length∧r<A1.ns.length∧k+1≤jC (var A1.ns p) (var A1.ns q) (var A1.ns r)∧
   bE (den A1.ns p) (den A1.ns q) (den A1.ns r)=fun x=>bE (den A.ns f) (den A.ns a) (den A.ns b) (upd x k is):=by
 have ok:=h.inv.ok
 have l1:=Ci ok h.hf h.hv is
 have l2:=Ci ok h.ha h.hv is
 have l3:=Ci ok h.hb h.hv is
 have v1:=zy ok h.hf h.hv h.kf is
 have v2:=zy ok h.ha h.hv h.ka is
 have v3:=zy ok h.hb h.hv h.kb is
 have d1:=zA ok h.hf h.hv h.kf is
 have d2:=zA ok h.ha h.hv h.ka is
 have d3:=zA ok h.hb h.hv h.kb is
 rw[hp]at l1 v1 d1
 rw[hq]at l2 v2 d2
 rw[hr]at l3 v3 d3
 have hl:=he.len
 simp only[St.len]at hl
 refine⟨by omega,by omega,by omega,?_,?_⟩
 ·rw[he.var l1,he.var l2,he.var l3];unfold jC;omega
 ·rw[he.den h.inv l1,he.den h.inv l2,he.den h.inv l3,d1,d2,d3];rfl
theorem cK {w:World} {B g nb kb ib cap:Nat} {A:St} {K T:bC→Option Value} (h0:aI w B g nb kb ib cap A K T) {box:Array Value} {t:TypeId} {w1:World} {aU aQ:Nat} {A1:St} {K1 T1:bC→Option Value}
  (hs:mD w B g nb kb ib box t w1 aU aQ A1 K1 T1) (he:Ext A A1) {f v p:Nat} {is:Bool} (hf:f<A.ns.length) (hp:aj.part A.ns f v is=p):
  Calls Tryz.prog 72 #[.pointer (some ⟨g,0,none⟩),.int .i64 f,.int .i64 v,.bool is] w1 fun e w2=>e= .returned (.int .i64 (p:Int))∧mD w B g nb kb ib box t w2 aU aQ A1 K1 T1:=by
 have hl:=he.len
 simp only[St.len]at hl
 refine(GD hs.ar f v is (by omega)).mono ?_
 rintro e w2 ⟨rfl,hb⟩
 rw[PI he hf,hp]
 exact⟨rfl,hs.below h0 hb⟩
def acB (w:World) (B g nb kb ib:Nat) (box:Array Value) (t:TypeId) (A1:St) (F:aj.Fn) (k:Nat) (e:Ending) (w2:World):Prop:=
 ∃(x bR cap2:Nat) (A2:St) (K2 T2:bC→Option Value),e= .returned (.int .i64 (x:Int))∧mD w B g nb kb ib box t w2 bR cap2 A2 K2 T2∧nQ A1 A2 x F k
theorem mZ {m:Nat} (IH:∀(w:World) (B g nb kb ib cap:Nat) (A:St) (K T:bC→Option Value) (h:aI w B g nb kb ib cap A K T) (f a b:Nat) (hf:f<A.ns.length) (ha:a<A.ns.length) (hb:b<A.ns.length)
  (hm:A.vars - jC (var A.ns f) (var A.ns a) (var A.ns b)<m),
  Calls Tryz.prog 140 #[.pointer (some ⟨g,0,none⟩),.int .i64 f,.int .i64 a,.int .i64 b] w (uo w B g nb kb ib A (bE (den A.ns f) (den A.ns a) (den A.ns b)) (jC (var A.ns f) (var A.ns a) (var A.ns b))))
  {w:World} {B g nb kb ib cap:Nat} {A:St} {K T:bC→Option Value} (h0:aI w B g nb kb ib cap A K T) {box:Array Value} {t:TypeId} {w1:World} {aU aQ:Nat} {A1:St} {K1 T1:bC→Option Value}
  (hs:mD w B g nb kb ib box t w1 aU aQ A1 K1 T1) (he:Ext A A1) {f a b k:Nat} (ps:PS A f a b k) (hm:A.vars - k<m+1) {is:Bool} {p q r:Nat} (hp:aj.part A.ns f k is=p) (hq:aj.part A.ns a k is=q) (hr:aj.part A.ns b k is=r):
  Calls Tryz.prog 140 #[.pointer (some ⟨g,0,none⟩),.int .i64 p,.int .i64 q,.int .i64 r] w1 (acB w B g nb kb ib box t A1 (fun x=>bE (den A.ns f) (den A.ns a) (den A.ns b) (upd x k is)) (k+1)):=by
 obtain⟨l1,l2,l3,hk,hF⟩:=ps.args he hp hq hr
 have hv:=ps.hv
 have hev:=he.vars
 refine(IH w1 B g aU kb ib aQ A1 K1 T1 hs.ar p q r l1 l2 l3 (by omega)).mono ?_
 rintro e w2 ⟨x,bR,cap2,A2,K2,T2,rfl,hres,har,hnb,hfm⟩
 rw[hF]at hres
 exact⟨x,bR,cap2,A2,K2,T2,rfl,hs.step h0 har hnb hfm,hres.mono hk⟩
def aag (w:World) (B g nb kb ib:Nat) (box:Array Value) (t:TypeId) (A:St) (F:aj.Fn) (k:Nat) (T:bC→Option Value) (e:Ending) (w2:World):Prop:=
 ∃(x bR cap2:Nat) (A2:St) (K2:bC→Option Value),e= .returned (.int .i64 (x:Int))∧mD w B g nb kb ib box t w2 bR cap2 A2 K2 T∧nQ A A2 x F k
theorem vS {w:World} {B g nb kb ib cap:Nat} {A:St} {K T:bC→Option Value} (h0:aI w B g nb kb ib cap A K T) {box:Array Value} {t:TypeId} {w1:World} {aU aQ:Nat} {A1 A2:St} {K1 T1:bC→Option Value}
  (hs:mD w B g nb kb ib box t w1 aU aQ A2 K1 T1) {f a b k lo hi:Nat} (ps:PS A f a b k)
  (r1:nQ A A1 lo (fun x=>bE (den A.ns f) (den A.ns a) (den A.ns b) (upd x k false)) (k+1)) (r2:nQ A1 A2 hi (fun x=>bE (den A.ns f) (den A.ns a) (den A.ns b) (upd x k true)) (k+1)):
  Calls Tryz.prog 139 #[.pointer (some ⟨g,0,none⟩),.int .i64 k,.int .i64 lo,.int .i64 hi] w1 (aag w B g nb kb ib box t A (bE (den A.ns f) (den A.ns a) (den A.ns b)) k T1):=by
 have hv:=ps.hv
 have e1:=r1.ext.vars
 have e2:=r2.ext.vars
 have l1:=r1.lt
 have l2:=r2.lt
 have UA:=r2.ext.len
 have g1:=r1.ge
 have g2:=r2.ge
 rw[← r2.ext.var l1]at g1
 simp only[St.len]at l1 l2 UA
 refine(xI hs.ar k lo hi (by omega) (by omega) l2 (by omega) (by omega)).mono ?_
 rintro e w2 ⟨x,bR,cap2,A3,K2,rfl,qB,har,hnb,hfm⟩
 exact⟨x,bR,cap2,A3,K2,rfl,hs.step h0 har hnb hfm,zx ps.inv hv ps.indep rfl rfl r1 r2 qB⟩
theorem zC {w u w7:World} {B g nb kb ib aU aQ:Nat} {A A3:St} {K1 T1:bC→Option Value} {box:Array Value} {t:TypeId}
  (hs:mD w B g nb kb ib box t u aU aQ A3 K1 T1) {f a b k r:Nat} (ps:PS A f a b k) (hr:nQ A A3 r (bE (den A.ns f) (den A.ns a) (den A.ns b)) k) (hnf:A3.full=false)
  (qj:aV Tryz.prog 197 kC lH w7 ib (mI T1 (f,a,b) (.int .i64 (r:Int)))) (fZ:u.grownBy w7 (some ib)):
  uo w B g nb kb ib A (bE (den A.ns f) (den A.ns a) (den A.ns b)) k (.returned (.int .i64 (r:Int))) w7:=by
 have h:=hs.ar
 obtain⟨l1,l2,l3,l4,l5⟩:=h.qR
 obtain⟨n1,n2,n3,n4,n5,n6⟩:=h.nes
 have hbk:∀j,j<u.heap.size→j≠ib→w7.heap[j]?=u.heap[j]?:=fun j hj hn=>fZ.block j hj (fun e=>hn (Option.some.inj e))
 have hg:=hbk g l1 n3
 have hn:=hbk aU l2 n5
 have hkk:=hbk kb l3 n6
 have e:∀o,w7.cell? ⟨g,o,none⟩=u.cell? ⟨g,o,none⟩:=fun o=>World.cell?_of_block (a:=⟨g,o,none⟩) hg
 have hit:Py A3.ns (mI T1 (f,a,b) (.int .i64 (r:Int))):=by
  intro f' a' b' x hx
  have hl:=hr.ext.len
  simp only[St.len]at hl
  have p1:=ps.hf
  have p2:=ps.ha
  have p3:=ps.hb
  by_cases e:(f',a',b')=(f,a,b)
  ·simp only[Prod.mk.injEq]at e
   obtain⟨rfl,rfl,rfl⟩:=e
   rw[lG]at hx
   cases hx
   refine⟨r,rfl,by omega,by omega,by omega,hr.lt,?_⟩
   rw[hr.eq hnf,hr.ext.den ps.inv ps.hf,hr.ext.den ps.inv ps.ha,hr.ext.den ps.inv ps.hb]
  ·rw[jc _ _ e]at hx
   exact h.Pz f' a' b' x hx
 refine⟨r,aU,aQ,A3,K1,_,rfl,hr,⟨by rw[e];exact h.c0,by rw[e];exact h.c1,by rw[e];exact h.c2,by rw[e];exact h.c3,by rw[e];exact h.c4,by rw[e];exact h.c5,fun o=>by rw[World.frozen?_of_block (a:=⟨g,o,none⟩) hg];exact h.fr o,?_,h.km.same hkk,qj,h.inv,h.vs,h.ms,h.LW,hit,h.ne,h.lo⟩,hs.jr.imp id (fun h=>by omega),hs.fm.trans (S':=Fp g nb kb ib) ?_ (fun _ _ h=>h)⟩
 ·obtain⟨h1,h2⟩:=h.own
  refine⟨h1,?_⟩
  rcases h2 with h2 | ⟨g',cap',cur,hv,hb,hh,r'⟩
  ·exact .inl h2
  ·have:g'=aU:=by cases hv;rfl
   subst this
   exact .inr ⟨_,_,cur,hv,hb,hn.trans hh,r'⟩
 ·exact eO.l7 fZ (fun j hj _=>by cases hj;exact .inr (.inr (.inr rfl)))
theorem Je (m:Nat):∀(w:World) (B g nb kb ib cap:Nat) (A:St) (K T:bC→Option Value) (h:aI w B g nb kb ib cap A K T) (f a b:Nat) (hf:f<A.ns.length) (ha:a<A.ns.length) (hb:b<A.ns.length)
  (hm:A.vars - jC (var A.ns f) (var A.ns a) (var A.ns b)<m),
  Calls Tryz.prog 140 #[.pointer (some ⟨g,0,none⟩),.int .i64 f,.int .i64 a,.int .i64 b] w (uo w B g nb kb ib A (bE (den A.ns f) (den A.ns a) (den A.ns b)) (jC (var A.ns f) (var A.ns a) (var A.ns b))):=by
 induction m with
 |zero=>intro w B g nb kb ib cap A K T h f a b hf ha hb hm;omega
 |succ m ih=>
  intro w B g nb kb ib cap A K T h f a b hf ha hb hm
  have IH:=hide ih
  clear ih
  have ok:=h.inv.ok
  have hlen:=h.uJ
  have hvs:=h.vs
  obtain⟨l1,l2,l3,l4,l5⟩:=h.qR
  have hkf:jC (var A.ns f) (var A.ns a) (var A.ns b)≤var A.ns f:=by unfold jC;omega
  have hka:jC (var A.ns f) (var A.ns a) (var A.ns b)≤var A.ns a:=by unfold jC;omega
  have hkb:jC (var A.ns f) (var A.ns a) (var A.ns b)≤var A.ns b:=by unfold jC;omega
  have hvf:=I9 ok hf
  have c5:=h.c5
  cases hfull:A.full
  case true=>
   rw[hfull]at c5
   have HF:=hide (show uo w B g nb kb ib A (bE (den A.ns f) (den A.ns a) (den A.ns b)) (jC (var A.ns f) (var A.ns a) (var A.ns b)) (.returned (.int .i64 ((0:Nat):Int))) w from
    rR h (RowKit.Below.refl _ _) (by have:=ok.two;omega) (by rw[um ok];omega) (fun e=>by rw[hfull]at e;cases e))
   clear h ok
   go_enter Tryz.func140,Tryz.ntmps140
   go_wp2
   go_ret
   exact HF.out
  rw[hfull]at c5
  by_cases e1:f=1
  ·subst e1
   have HF:=hide (show uo w B g nb kb ib A (bE (den A.ns 1) (den A.ns a) (den A.ns b)) (jC (var A.ns 1) (var A.ns a) (var A.ns b)) (.returned (.int .i64 (a:Int))) w from
    rR h (RowKit.Below.refl _ _) ha hka (fun _=>by funext x;simp[bE,nV]))
   clear h ok
   go_enter Tryz.func140,Tryz.ntmps140
   go_wp2
   go_ret
   exact HF.out
  have rU:((f:Int)==1)=false:=by simp;omega
  by_cases e2:a=b
  ·subst e2
   have HF:=hide (show uo w B g nb kb ib A (bE (den A.ns f) (den A.ns a) (den A.ns a)) (jC (var A.ns f) (var A.ns a) (var A.ns a)) (.returned (.int .i64 (a:Int))) w from
    rR h (RowKit.Below.refl _ _) ha hka (fun _=>by funext x;simp[bE]))
   clear h ok
   go_enter Tryz.func140,Tryz.ntmps140
   go_wp2
   go_ret
   exact HF.out
  have e2':((a:Int)==(b:Int))=false:=by simp;omega
  by_cases e3:f=0
  ·subst e3
   have HF:=hide (show uo w B g nb kb ib A (bE (den A.ns 0) (den A.ns a) (den A.ns b)) (jC (var A.ns 0) (var A.ns a) (var A.ns b)) (.returned (.int .i64 (b:Int))) w from
    rR h (RowKit.Below.refl _ _) hb hkb (fun _=>by funext x;simp[bE,jB]))
   clear h ok
   go_enter Tryz.func140,Tryz.ntmps140
   go_wp2
   go_ret
   exact HF.out
  have e3':((f:Int)==0)=false:=by simp;omega
  have hdom:lH (f,a,b):=⟨by show f<_;omega,by show a<_;omega,by show b<_;omega⟩
  have hb0:∀o,RowKit.Below w.heap.size w (w.alloc o):=fun o=>(RowKit.Below.refl _ _).alloc (Nat.le_refl _) _
  have nG:∀o n,RowKit.Below w.heap.size w ((w.alloc o).drewN n):=fun o n=>(hb0 o).trans ⟨rfl,rfl,rfl,Nat.le_refl _,fun _ _=>rfl⟩
  have c4:=fun ob=>(hb0 ob).cell (p:=⟨g,4,none⟩) l1 |>.trans h.c4
  have him:=fun(n:Nat) (ob:Obj)=>((h.below (nG ob n)).im.look wH Tryz.underlying120 (UC _) hdom).1
  cases ek:T (f,a,b)with
  |some x=>
   obtain⟨r,rfl,_,_,_,hrl,hrd⟩:=h.Pz f a b x ek
   have hlk:∀n ob,(Instr.lookup 120 (.map (some ib)) (.agg #[.int .i64 f,.int .i64 a,.int .i64 b]) true).run Tryz.prog ((w.alloc ob).drewN n)= .ok (.tuple #[.int .i64 r,.bool true]) ((w.alloc ob).drewN n):=fun n ob=>by
    have:=him n ob
    rw[ek]at this
    exact this
   have HF:=hide (fun ob n=>show uo w B g nb kb ib A (bE (den A.ns f) (den A.ns a) (den A.ns b)) (jC (var A.ns f) (var A.ns a) (var A.ns b)) (.returned (.int .i64 (r:Int))) ((w.alloc ob).drewN n)from
    rR h (nG ob n) hrl (Pq ok hrl (by omega) (fun x y hxy=>by rw[hrd];exact Ef (oJ ok hf hkf) (oJ ok ha hka) (oJ ok hb hkb) x y hxy)) (fun _=>hrd))
   clear h ok him ek hb0 nG
   go_enter Tryz.func140,Tryz.ntmps140
   go_wp2
   go_quiet (fail)
   go_wp2
   go_ret
   exact HF.out _ _
  |none=>
   have hlk:∀n ob,(Instr.lookup 120 (.map (some ib)) (.agg #[.int .i64 f,.int .i64 a,.int .i64 b]) true).run Tryz.prog ((w.alloc ob).drewN n)= .ok (.tuple #[.int .i64 0,.bool false]) ((w.alloc ob).drewN n):=fun n ob=>by
    have:=him n ob
    rw[ek]at this
    exact this
   have c2:=fun ob=>(hb0 ob).cell (p:=⟨g,2,none⟩) l1 |>.trans h.c2
   obtain⟨nf,hnf⟩:=eD hf
   obtain⟨na,hna⟩:=eD ha
   obtain⟨nb',hnb⟩:=eD hb
   have d1:=fun ob=>(hb0 ob).cell (p:=⟨nb,f*3,none⟩) l2 |>.trans (h.node hnf).1
   have d2:=fun ob=>(hb0 ob).cell (p:=⟨nb,a*3,none⟩) l2 |>.trans (h.node hna).1
   have d3:=fun ob=>(hb0 ob).cell (p:=⟨nb,b*3,none⟩) l2 |>.trans (h.node hnb).1
   have F4:var A.ns f=nf.v:=dX hnf
   have Jf:var A.ns a=na.v:=dX hna
   have Jg:var A.ns b=nb'.v:=dX hnb
   have UE:nf.v<A.vars:=by
    have:=(iZ ok hf).2 (by omega)
    rw[F4]at this;exact this
   have HV:=hide (show var A.ns f=nf.v∧var A.ns a=na.v∧var A.ns b=nb'.v from⟨F4,Jf,Jg⟩)
   have gH:Hid (∀n,mD w B g nb kb ib #[.int .i64 f,.int .i64 a,.int .i64 b] 197 ((w.alloc (.cells #[.int .i64 f,.int .i64 a,.int .i64 b] 197)).drewN n) nb cap A K T):=hide fun n=>
    ⟨h.below (nG _ n),eO.of_below (nG _ n),heap_alloc_new w _,.inl rfl⟩
   have H:=hide h
   have fK:=hide ok
   clear him ek h ok hb0 nG hvf hkf hka hkb
   by_cases m1:na.v<nf.v
   ·by_cases m2:(na.v:Int)≤(nb'.v:Int)
    ·have HK:Hid (jC (var A.ns f) (var A.ns a) (var A.ns b)=na.v):=hide (by rw[HV.out.1,HV.out.2.1,HV.out.2.2];unfold jC;omega)
     rw[HK.out]
     rw[HK.out]at hm
     have hkv:na.v<A.vars:=by omega
     have j3:=hide (show PS A f a b na.v from⟨H.out.inv,hf,ha,hb,hkv,by rw[HV.out.1];omega,by rw[HV.out.2.1];omega,by rw[HV.out.2.2];omega⟩)
     obtain⟨p0,hp0⟩:∃p,aj.part A.ns f na.v false=p:=⟨_,rfl⟩
     obtain⟨q0,hq0⟩:∃p,aj.part A.ns a na.v false=p:=⟨_,rfl⟩
     obtain⟨r0,hr0⟩:∃p,aj.part A.ns b na.v false=p:=⟨_,rfl⟩
     obtain⟨p1,hp1⟩:∃p,aj.part A.ns f na.v true=p:=⟨_,rfl⟩
     obtain⟨q1,hq1⟩:∃p,aj.part A.ns a na.v true=p:=⟨_,rfl⟩
     obtain⟨r1,hr1⟩:∃p,aj.part A.ns b na.v true=p:=⟨_,rfl⟩
     have dD:=hide (And.intro hp0 (And.intro hq0 (And.intro hr0 (And.intro hp1 (And.intro hq1 hr1)))))
     have gI:=hide (And.intro hf (And.intro ha (And.intro hb (And.intro hm hdom))))
     clear F4 Jf Jg hp0 hq0 hr0 hp1 hq1 hr1
     go_enter Tryz.func140,Tryz.ntmps140
     go_wp2
     go_quiet (fail)
     go_wp2
     go_quiet (fail)
     clear c2 c4 c5 d1 d2 d3 hlk
     go_wp2_with fail
     clear hfull hnf hna hnb hm hf ha hb hdom UE e1 rU e2 e2' e3 e3' m1 m2 hkv
     refine(cK H.out (gH.out _) (Ext.refl H.out.inv) gI.out.1 dD.out.1).mono ?_
     rintro e wa ⟨rfl,hs⟩
     have eY:=hide hs
     clear hs gH
     go_wp2_with fail
     refine(cK H.out eY.out (Ext.refl H.out.inv) gI.out.2.1 dD.out.2.1).mono ?_
     rintro e wb ⟨rfl,hs⟩
     have HS2:=hide hs
     clear hs eY
     go_wp2_with fail
     refine(cK H.out HS2.out (Ext.refl H.out.inv) gI.out.2.2.1 dD.out.2.2.1).mono ?_
     rintro e wc ⟨rfl,hs⟩
     have jK:=hide hs
     clear hs HS2
     go_wp2_with fail
     refine(mZ IH.out H.out jK.out (Ext.refl H.out.inv) j3.out gI.out.2.2.2.1 dD.out.1 dD.out.2.1 dD.out.2.2.1).mono ?_
     rintro e wd ⟨lo,aU,aQ,A1,K1,T1,rfl,hs,hres⟩
     have oK:=hide hs
     have HR1:=hide hres
     clear hs jK hres
     go_wp2_with fail
     refine(cK H.out oK.out HR1.out.ext gI.out.1 dD.out.2.2.2.1).mono ?_
     rintro e we ⟨rfl,hs⟩
     have oL:=hide hs
     clear hs oK
     go_wp2_with fail
     refine(cK H.out oL.out HR1.out.ext gI.out.2.1 dD.out.2.2.2.2.1).mono ?_
     rintro e wf ⟨rfl,hs⟩
     have wK:=hide hs
     clear hs oL
     go_wp2_with fail
     refine(cK H.out wK.out HR1.out.ext gI.out.2.2.1 dD.out.2.2.2.2.2).mono ?_
     rintro e wg ⟨rfl,hs⟩
     have pY:=hide hs
     clear hs wK
     go_wp2_with fail
     refine(mZ IH.out H.out pY.out HR1.out.ext j3.out gI.out.2.2.2.1 dD.out.2.2.2.1 dD.out.2.2.2.2.1 dD.out.2.2.2.2.2).mono ?_
     rintro e wh ⟨hi,bR,cap2,A2,K2,T2,rfl,hs,hres⟩
     have jR:=hide hs
     have HR2:=hide hres
     clear hs pY hres
     go_wp2_with fail
     refine(vS H.out jR.out j3.out HR1.out HR2.out).mono ?_
     rintro e wi ⟨r,xJ,vF,A3,K3,rfl,hs,hres⟩
     have fV:=hide hs
     have HR3:=hide hres
     clear hs jR hres HR1 HR2
     have c5:=fV.out.ar.c5
     have c4:=fV.out.ar.c4
     have x0:wi.cell? ⟨w.heap.size,0,none⟩=some (.int .i64 f):=by rw[cell_of_row _ _ _ _ _ _ fV.out.bx];rfl
     have x1:wi.cell? ⟨w.heap.size,1,none⟩=some (.int .i64 a):=by rw[cell_of_row _ _ _ _ _ _ fV.out.bx];rfl
     have x2:wi.cell? ⟨w.heap.size,2,none⟩=some (.int .i64 b):=by rw[cell_of_row _ _ _ _ _ _ fV.out.bx];rfl
     cases hfull:A3.full
     case true=>
      rw[hfull]at c5
      go_wp2
      go_ret
      exact fV.out.out HR3.out
     case false=>
      rw[hfull]at c5
      go_wp2
      go_still_tail 6,(by kernel_rfl)
      refine kU _ rfl (.tmp 115) (.tmp 116) (.tmp 117) 120 rfl 3 wH Tryz.underlying120 rfl (fV.out.ar.im.same (w':=wi.drew) rfl) (f,a,b) gI.out.2.2.2.2 rfl (.int .i64 (r:Int)) rfl ?_
      intro w7 qj fZ
      have HE:=hide (zC fV.out j3.out HR3.out hfull qj ⟨fZ.os,fZ.tape,fZ.output,fZ.size,fZ.block⟩)
      clear qj fZ
      go_wp2
      go_ret
      exact HE.out
    ·have HK:Hid (jC (var A.ns f) (var A.ns a) (var A.ns b)=nb'.v):=hide (by rw[HV.out.1,HV.out.2.1,HV.out.2.2];unfold jC;omega)
     rw[HK.out]
     rw[HK.out]at hm
     have hkv:nb'.v<A.vars:=by omega
     have j3:=hide (show PS A f a b nb'.v from⟨H.out.inv,hf,ha,hb,hkv,by rw[HV.out.1];omega,by rw[HV.out.2.1];omega,by rw[HV.out.2.2];omega⟩)
     obtain⟨p0,hp0⟩:∃p,aj.part A.ns f nb'.v false=p:=⟨_,rfl⟩
     obtain⟨q0,hq0⟩:∃p,aj.part A.ns a nb'.v false=p:=⟨_,rfl⟩
     obtain⟨r0,hr0⟩:∃p,aj.part A.ns b nb'.v false=p:=⟨_,rfl⟩
     obtain⟨p1,hp1⟩:∃p,aj.part A.ns f nb'.v true=p:=⟨_,rfl⟩
     obtain⟨q1,hq1⟩:∃p,aj.part A.ns a nb'.v true=p:=⟨_,rfl⟩
     obtain⟨r1,hr1⟩:∃p,aj.part A.ns b nb'.v true=p:=⟨_,rfl⟩
     have dD:=hide (And.intro hp0 (And.intro hq0 (And.intro hr0 (And.intro hp1 (And.intro hq1 hr1)))))
     have gI:=hide (And.intro hf (And.intro ha (And.intro hb (And.intro hm hdom))))
     clear F4 Jf Jg hp0 hq0 hr0 hp1 hq1 hr1
     go_enter Tryz.func140,Tryz.ntmps140
     go_wp2
     go_quiet (fail)
     go_wp2
     go_quiet (fail)
     clear c2 c4 c5 d1 d2 d3 hlk
     go_wp2_with fail
     clear hfull hnf hna hnb hm hf ha hb hdom UE e1 rU e2 e2' e3 e3' m1 m2 hkv
     refine(cK H.out (gH.out _) (Ext.refl H.out.inv) gI.out.1 dD.out.1).mono ?_
     rintro e wa ⟨rfl,hs⟩
     have eY:=hide hs
     clear hs gH
     go_wp2_with fail
     refine(cK H.out eY.out (Ext.refl H.out.inv) gI.out.2.1 dD.out.2.1).mono ?_
     rintro e wb ⟨rfl,hs⟩
     have HS2:=hide hs
     clear hs eY
     go_wp2_with fail
     refine(cK H.out HS2.out (Ext.refl H.out.inv) gI.out.2.2.1 dD.out.2.2.1).mono ?_
     rintro e wc ⟨rfl,hs⟩
     have jK:=hide hs
     clear hs HS2
     go_wp2_with fail
     refine(mZ IH.out H.out jK.out (Ext.refl H.out.inv) j3.out gI.out.2.2.2.1 dD.out.1 dD.out.2.1 dD.out.2.2.1).mono ?_
     rintro e wd ⟨lo,aU,aQ,A1,K1,T1,rfl,hs,hres⟩
     have oK:=hide hs
     have HR1:=hide hres
     clear hs jK hres
     go_wp2_with fail
     refine(cK H.out oK.out HR1.out.ext gI.out.1 dD.out.2.2.2.1).mono ?_
     rintro e we ⟨rfl,hs⟩
     have oL:=hide hs
     clear hs oK
     go_wp2_with fail
     refine(cK H.out oL.out HR1.out.ext gI.out.2.1 dD.out.2.2.2.2.1).mono ?_
     rintro e wf ⟨rfl,hs⟩
     have wK:=hide hs
     clear hs oL
     go_wp2_with fail
     refine(cK H.out wK.out HR1.out.ext gI.out.2.2.1 dD.out.2.2.2.2.2).mono ?_
     rintro e wg ⟨rfl,hs⟩
     have pY:=hide hs
     clear hs wK
     go_wp2_with fail
     refine(mZ IH.out H.out pY.out HR1.out.ext j3.out gI.out.2.2.2.1 dD.out.2.2.2.1 dD.out.2.2.2.2.1 dD.out.2.2.2.2.2).mono ?_
     rintro e wh ⟨hi,bR,cap2,A2,K2,T2,rfl,hs,hres⟩
     have jR:=hide hs
     have HR2:=hide hres
     clear hs pY hres
     go_wp2_with fail
     refine(vS H.out jR.out j3.out HR1.out HR2.out).mono ?_
     rintro e wi ⟨r,xJ,vF,A3,K3,rfl,hs,hres⟩
     have fV:=hide hs
     have HR3:=hide hres
     clear hs jR hres HR1 HR2
     have c5:=fV.out.ar.c5
     have c4:=fV.out.ar.c4
     have x0:wi.cell? ⟨w.heap.size,0,none⟩=some (.int .i64 f):=by rw[cell_of_row _ _ _ _ _ _ fV.out.bx];rfl
     have x1:wi.cell? ⟨w.heap.size,1,none⟩=some (.int .i64 a):=by rw[cell_of_row _ _ _ _ _ _ fV.out.bx];rfl
     have x2:wi.cell? ⟨w.heap.size,2,none⟩=some (.int .i64 b):=by rw[cell_of_row _ _ _ _ _ _ fV.out.bx];rfl
     cases hfull:A3.full
     case true=>
      rw[hfull]at c5
      go_wp2
      go_ret
      exact fV.out.out HR3.out
     case false=>
      rw[hfull]at c5
      go_wp2
      go_still_tail 6,(by kernel_rfl)
      refine kU _ rfl (.tmp 115) (.tmp 116) (.tmp 117) 120 rfl 3 wH Tryz.underlying120 rfl (fV.out.ar.im.same (w':=wi.drew) rfl) (f,a,b) gI.out.2.2.2.2 rfl (.int .i64 (r:Int)) rfl ?_
      intro w7 qj fZ
      have HE:=hide (zC fV.out j3.out HR3.out hfull qj ⟨fZ.os,fZ.tape,fZ.output,fZ.size,fZ.block⟩)
      clear qj fZ
      go_wp2
      go_ret
      exact HE.out
   ·by_cases m2:(nf.v:Int)≤(nb'.v:Int)
    ·have HK:Hid (jC (var A.ns f) (var A.ns a) (var A.ns b)=nf.v):=hide (by rw[HV.out.1,HV.out.2.1,HV.out.2.2];unfold jC;omega)
     rw[HK.out]
     rw[HK.out]at hm
     have hkv:nf.v<A.vars:=by omega
     have j3:=hide (show PS A f a b nf.v from⟨H.out.inv,hf,ha,hb,hkv,by rw[HV.out.1];omega,by rw[HV.out.2.1];omega,by rw[HV.out.2.2];omega⟩)
     obtain⟨p0,hp0⟩:∃p,aj.part A.ns f nf.v false=p:=⟨_,rfl⟩
     obtain⟨q0,hq0⟩:∃p,aj.part A.ns a nf.v false=p:=⟨_,rfl⟩
     obtain⟨r0,hr0⟩:∃p,aj.part A.ns b nf.v false=p:=⟨_,rfl⟩
     obtain⟨p1,hp1⟩:∃p,aj.part A.ns f nf.v true=p:=⟨_,rfl⟩
     obtain⟨q1,hq1⟩:∃p,aj.part A.ns a nf.v true=p:=⟨_,rfl⟩
     obtain⟨r1,hr1⟩:∃p,aj.part A.ns b nf.v true=p:=⟨_,rfl⟩
     have dD:=hide (And.intro hp0 (And.intro hq0 (And.intro hr0 (And.intro hp1 (And.intro hq1 hr1)))))
     have gI:=hide (And.intro hf (And.intro ha (And.intro hb (And.intro hm hdom))))
     clear F4 Jf Jg hp0 hq0 hr0 hp1 hq1 hr1
     go_enter Tryz.func140,Tryz.ntmps140
     go_wp2
     go_quiet (fail)
     go_wp2
     go_quiet (fail)
     clear c2 c4 c5 d1 d2 d3 hlk
     go_wp2_with fail
     clear hfull hnf hna hnb hm hf ha hb hdom UE e1 rU e2 e2' e3 e3' m1 m2 hkv
     refine(cK H.out (gH.out _) (Ext.refl H.out.inv) gI.out.1 dD.out.1).mono ?_
     rintro e wa ⟨rfl,hs⟩
     have eY:=hide hs
     clear hs gH
     go_wp2_with fail
     refine(cK H.out eY.out (Ext.refl H.out.inv) gI.out.2.1 dD.out.2.1).mono ?_
     rintro e wb ⟨rfl,hs⟩
     have HS2:=hide hs
     clear hs eY
     go_wp2_with fail
     refine(cK H.out HS2.out (Ext.refl H.out.inv) gI.out.2.2.1 dD.out.2.2.1).mono ?_
     rintro e wc ⟨rfl,hs⟩
     have jK:=hide hs
     clear hs HS2
     go_wp2_with fail
     refine(mZ IH.out H.out jK.out (Ext.refl H.out.inv) j3.out gI.out.2.2.2.1 dD.out.1 dD.out.2.1 dD.out.2.2.1).mono ?_
     rintro e wd ⟨lo,aU,aQ,A1,K1,T1,rfl,hs,hres⟩
     have oK:=hide hs
     have HR1:=hide hres
     clear hs jK hres
     go_wp2_with fail
     refine(cK H.out oK.out HR1.out.ext gI.out.1 dD.out.2.2.2.1).mono ?_
     rintro e we ⟨rfl,hs⟩
     have oL:=hide hs
     clear hs oK
     go_wp2_with fail
     refine(cK H.out oL.out HR1.out.ext gI.out.2.1 dD.out.2.2.2.2.1).mono ?_
     rintro e wf ⟨rfl,hs⟩
     have wK:=hide hs
     clear hs oL
     go_wp2_with fail
     refine(cK H.out wK.out HR1.out.ext gI.out.2.2.1 dD.out.2.2.2.2.2).mono ?_
     rintro e wg ⟨rfl,hs⟩
     have pY:=hide hs
     clear hs wK
     go_wp2_with fail
     refine(mZ IH.out H.out pY.out HR1.out.ext j3.out gI.out.2.2.2.1 dD.out.2.2.2.1 dD.out.2.2.2.2.1 dD.out.2.2.2.2.2).mono ?_
     rintro e wh ⟨hi,bR,cap2,A2,K2,T2,rfl,hs,hres⟩
     have jR:=hide hs
     have HR2:=hide hres
     clear hs pY hres
     go_wp2_with fail
     refine(vS H.out jR.out j3.out HR1.out HR2.out).mono ?_
     rintro e wi ⟨r,xJ,vF,A3,K3,rfl,hs,hres⟩
     have fV:=hide hs
     have HR3:=hide hres
     clear hs jR hres HR1 HR2
     have c5:=fV.out.ar.c5
     have c4:=fV.out.ar.c4
     have x0:wi.cell? ⟨w.heap.size,0,none⟩=some (.int .i64 f):=by rw[cell_of_row _ _ _ _ _ _ fV.out.bx];rfl
     have x1:wi.cell? ⟨w.heap.size,1,none⟩=some (.int .i64 a):=by rw[cell_of_row _ _ _ _ _ _ fV.out.bx];rfl
     have x2:wi.cell? ⟨w.heap.size,2,none⟩=some (.int .i64 b):=by rw[cell_of_row _ _ _ _ _ _ fV.out.bx];rfl
     cases hfull:A3.full
     case true=>
      rw[hfull]at c5
      go_wp2
      go_ret
      exact fV.out.out HR3.out
     case false=>
      rw[hfull]at c5
      go_wp2
      go_still_tail 6,(by kernel_rfl)
      refine kU _ rfl (.tmp 115) (.tmp 116) (.tmp 117) 120 rfl 3 wH Tryz.underlying120 rfl (fV.out.ar.im.same (w':=wi.drew) rfl) (f,a,b) gI.out.2.2.2.2 rfl (.int .i64 (r:Int)) rfl ?_
      intro w7 qj fZ
      have HE:=hide (zC fV.out j3.out HR3.out hfull qj ⟨fZ.os,fZ.tape,fZ.output,fZ.size,fZ.block⟩)
      clear qj fZ
      go_wp2
      go_ret
      exact HE.out
    ·have HK:Hid (jC (var A.ns f) (var A.ns a) (var A.ns b)=nb'.v):=hide (by rw[HV.out.1,HV.out.2.1,HV.out.2.2];unfold jC;omega)
     rw[HK.out]
     rw[HK.out]at hm
     have hkv:nb'.v<A.vars:=by omega
     have j3:=hide (show PS A f a b nb'.v from⟨H.out.inv,hf,ha,hb,hkv,by rw[HV.out.1];omega,by rw[HV.out.2.1];omega,by rw[HV.out.2.2];omega⟩)
     obtain⟨p0,hp0⟩:∃p,aj.part A.ns f nb'.v false=p:=⟨_,rfl⟩
     obtain⟨q0,hq0⟩:∃p,aj.part A.ns a nb'.v false=p:=⟨_,rfl⟩
     obtain⟨r0,hr0⟩:∃p,aj.part A.ns b nb'.v false=p:=⟨_,rfl⟩
     obtain⟨p1,hp1⟩:∃p,aj.part A.ns f nb'.v true=p:=⟨_,rfl⟩
     obtain⟨q1,hq1⟩:∃p,aj.part A.ns a nb'.v true=p:=⟨_,rfl⟩
     obtain⟨r1,hr1⟩:∃p,aj.part A.ns b nb'.v true=p:=⟨_,rfl⟩
     have dD:=hide (And.intro hp0 (And.intro hq0 (And.intro hr0 (And.intro hp1 (And.intro hq1 hr1)))))
     have gI:=hide (And.intro hf (And.intro ha (And.intro hb (And.intro hm hdom))))
     clear F4 Jf Jg hp0 hq0 hr0 hp1 hq1 hr1
     go_enter Tryz.func140,Tryz.ntmps140
     go_wp2
     go_quiet (fail)
     go_wp2
     go_quiet (fail)
     clear c2 c4 c5 d1 d2 d3 hlk
     go_wp2_with fail
     clear hfull hnf hna hnb hm hf ha hb hdom UE e1 rU e2 e2' e3 e3' m1 m2 hkv
     refine(cK H.out (gH.out _) (Ext.refl H.out.inv) gI.out.1 dD.out.1).mono ?_
     rintro e wa ⟨rfl,hs⟩
     have eY:=hide hs
     clear hs gH
     go_wp2_with fail
     refine(cK H.out eY.out (Ext.refl H.out.inv) gI.out.2.1 dD.out.2.1).mono ?_
     rintro e wb ⟨rfl,hs⟩
     have HS2:=hide hs
     clear hs eY
     go_wp2_with fail
     refine(cK H.out HS2.out (Ext.refl H.out.inv) gI.out.2.2.1 dD.out.2.2.1).mono ?_
     rintro e wc ⟨rfl,hs⟩
     have jK:=hide hs
     clear hs HS2
     go_wp2_with fail
     refine(mZ IH.out H.out jK.out (Ext.refl H.out.inv) j3.out gI.out.2.2.2.1 dD.out.1 dD.out.2.1 dD.out.2.2.1).mono ?_
     rintro e wd ⟨lo,aU,aQ,A1,K1,T1,rfl,hs,hres⟩
     have oK:=hide hs
     have HR1:=hide hres
     clear hs jK hres
     go_wp2_with fail
     refine(cK H.out oK.out HR1.out.ext gI.out.1 dD.out.2.2.2.1).mono ?_
     rintro e we ⟨rfl,hs⟩
     have oL:=hide hs
     clear hs oK
     go_wp2_with fail
     refine(cK H.out oL.out HR1.out.ext gI.out.2.1 dD.out.2.2.2.2.1).mono ?_
     rintro e wf ⟨rfl,hs⟩
     have wK:=hide hs
     clear hs oL
     go_wp2_with fail
     refine(cK H.out wK.out HR1.out.ext gI.out.2.2.1 dD.out.2.2.2.2.2).mono ?_
     rintro e wg ⟨rfl,hs⟩
     have pY:=hide hs
     clear hs wK
     go_wp2_with fail
     refine(mZ IH.out H.out pY.out HR1.out.ext j3.out gI.out.2.2.2.1 dD.out.2.2.2.1 dD.out.2.2.2.2.1 dD.out.2.2.2.2.2).mono ?_
     rintro e wh ⟨hi,bR,cap2,A2,K2,T2,rfl,hs,hres⟩
     have jR:=hide hs
     have HR2:=hide hres
     clear hs pY hres
     go_wp2_with fail
     refine(vS H.out jR.out j3.out HR1.out HR2.out).mono ?_
     rintro e wi ⟨r,xJ,vF,A3,K3,rfl,hs,hres⟩
     have fV:=hide hs
     have HR3:=hide hres
     clear hs jR hres HR1 HR2
     have c5:=fV.out.ar.c5
     have c4:=fV.out.ar.c4
     have x0:wi.cell? ⟨w.heap.size,0,none⟩=some (.int .i64 f):=by rw[cell_of_row _ _ _ _ _ _ fV.out.bx];rfl
     have x1:wi.cell? ⟨w.heap.size,1,none⟩=some (.int .i64 a):=by rw[cell_of_row _ _ _ _ _ _ fV.out.bx];rfl
     have x2:wi.cell? ⟨w.heap.size,2,none⟩=some (.int .i64 b):=by rw[cell_of_row _ _ _ _ _ _ fV.out.bx];rfl
     cases hfull:A3.full
     case true=>
      rw[hfull]at c5
      go_wp2
      go_ret
      exact fV.out.out HR3.out
     case false=>
      rw[hfull]at c5
      go_wp2
      go_still_tail 6,(by kernel_rfl)
      refine kU _ rfl (.tmp 115) (.tmp 116) (.tmp 117) 120 rfl 3 wH Tryz.underlying120 rfl (fV.out.ar.im.same (w':=wi.drew) rfl) (f,a,b) gI.out.2.2.2.2 rfl (.int .i64 (r:Int)) rfl ?_
      intro w7 qj fZ
      have HE:=hide (zC fV.out j3.out HR3.out hfull qj ⟨fZ.os,fZ.tape,fZ.output,fZ.size,fZ.block⟩)
      clear qj fZ
      go_wp2
      go_ret
      exact HE.out
def pI (vars most:Nat):St:=⟨vars,most,[⟨vars,0,0⟩,⟨vars,0,0⟩],false⟩
theorem PK (vars most:Nat) (hv:1≤vars) (hm:2≤most):Inv (pI vars most):=by
 have hlt:∀(i:Nat) (n:aj.Node),(pI vars most).ns[i]?=some n→i<2:=fun i n h=>by
  have:=(List.getElem?_eq_some_iff.1 h).1;simpa[pI]using this
 refine⟨⟨by simp[pI],rfl,rfl,fun i n h h2=>by have:=hlt i n h;omega,fun i j n h2 _ h _=>by have:=hlt i n h;omega⟩,hm,fun h=>by cases h⟩
theorem XO (w:World) (vars most:Nat) (hv:1≤vars) (hv2:vars≤16) (hm:2≤most) (hm2:most≤40000) (o0:Obj):
  aI (((((w.alloc o0).alloc (.cells #[.int .i64 vars,.int .i64 0,.int .i64 0,.int .i64 vars,.int .i64 0,.int .i64 0] 117)).alloc (.map #[] 0)).alloc (.map #[] 0)).alloc
   (.cells #[.int .i64 vars,.int .i64 most,.slice (some ⟨w.heap.size+1,0,none⟩) 2 2,.map (some (w.heap.size+1+1)),.map (some (w.heap.size+1+1+1)),.bool false] 122))
   w.heap.size (w.heap.size+1+1+1+1) (w.heap.size+1) (w.heap.size+1+1) (w.heap.size+1+1+1) 2 (pI vars most) (fun _=>none) (fun _=>none):=by
 have hs:(w.alloc o0).heap.size =w.heap.size+1:=by simp
 have h1:=World.ownsRow_lit (base:=w.heap.size) (e:=117) (size:=3) (w.alloc o0) #[.int .i64 vars,.int .i64 0,.int .i64 0,.int .i64 vars,.int .i64 0,.int .i64 0] 2 (by rw[hs];omega) (by simp[maxLen]) (by simp)
 rw[hs]at h1
 generalize hw1:(w.alloc o0).alloc _=w1 at*
 have s1:w1.heap.size=w.heap.size+1+1:=by rw[← hw1];simp
 have h2:=aV.made (P:=Tryz.prog) (kt:=117) (key:=kC) (dom:=lH) w1
 rw[s1]at h2
 have h2':=h1.alloc (.map #[] 0)
 generalize hw2:w1.alloc _=w2 at*
 have s2:w2.heap.size=w.heap.size+1+1+1:=by rw[← hw2];simp[s1]
 have h3:=aV.made (P:=Tryz.prog) (kt:=197) (key:=kC) (dom:=lH) w2
 rw[s2]at h3
 have h3':=h2'.alloc (.map #[] 0)
 have h3k:=h2.same (w':=w2.alloc (.map #[] 0)) (RowKit.Below.heap_alloc _ _ _ (by omega))
 generalize hw3:w2.alloc _=w3 at*
 have s3:w3.heap.size=w.heap.size+1+1+1+1:=by rw[← hw3];simp[s2]
 have hb:=heap_alloc_new w3 (.cells #[.int .i64 vars,.int .i64 most,.slice (some ⟨w.heap.size+1,0,none⟩) 2 2,.map (some (w.heap.size+1+1)),.map (some (w.heap.size+1+1+1)),.bool false] 122)
 rw[s3]at hb
 refine⟨by rw[cell_of_row _ _ _ _ _ _ hb];rfl,by rw[cell_of_row _ _ _ _ _ _ hb];rfl,by rw[cell_of_row _ _ _ _ _ _ hb];rfl,by rw[cell_of_row _ _ _ _ _ _ hb];rfl,by rw[cell_of_row _ _ _ _ _ _ hb];rfl,by rw[cell_of_row _ _ _ _ _ _ hb];rfl,fun o=>?_,
  h3'.alloc _,h3k.same (RowKit.Below.heap_alloc _ _ _ (by omega)),h3.same (RowKit.Below.heap_alloc _ _ _ (by omega)),PK vars most hv hm,⟨hv,hv2⟩,hm2,?_,fun f g h x hx=>(by cases hx),⟨by omega,by omega⟩,⟨by omega,by omega,by omega⟩⟩
 ·unfold World.frozen?;rw[hb];simp
 ·intro v lo hi x
  constructor
  ·intro h;cases h
  ·rintro⟨i,hi2,hin,_⟩
   have:=(List.getElem?_eq_some_iff.1 hin).1
   simp[pI]at this
   omega
def acC (w:World) (vars most:Nat) (e:Ending) (W':World):Prop:=
 ∃g nb kb ib:Nat,e= .returned (.tuple #[.pointer (some ⟨g,0,none⟩),.int .i64 0])∧aI W' w.heap.size g nb kb ib 2 (pI vars most) (fun _=>none) (fun _=>none)∧RowKit.Below w.heap.size w W'
theorem Sb (w:World) (vars most:Nat) (hv:1≤vars) (hv2:vars≤16) (hm:2≤most) (hm2:most≤40000):
  Calls Tryz.prog 23 #[.int .i64 vars,.int .i64 most] w (acC w vars most):=by
 have HN:=hide (fun o0=>XO w vars most hv hv2 hm hm2 o0)
 have HB:Hid (∀o0 o1 o2 o3 o4,RowKit.Below w.heap.size w (((((w.alloc o0).alloc o1).alloc o2).alloc o3).alloc o4)):=hide (fun o0 o1 o2 o3 o4=>by
  have hz:∀(w':World) o,w.heap.size≤w'.heap.size→w.heap.size≤(w'.alloc o).heap.size :=fun w' o h=>by simp;omega
  exact(((((RowKit.Below.refl _ _).alloc (Nat.le_refl _) o0).alloc (hz _ _ (Nat.le_refl _)) o1).alloc (hz _ _ (hz _ _ (Nat.le_refl _))) o2).alloc (hz _ _ (hz _ _ (hz _ _ (Nat.le_refl _)))) o3).alloc (hz _ _ (hz _ _ (hz _ _ (hz _ _ (Nat.le_refl _))))) o4)
 have hmm:=@run_makeMap Tryz.prog
 go_enter Tryz.func23,Tryz.ntmps23
 go_wp2
 go_ret2
 exact⟨_,_,_,_,rfl,HN.out _,HB.out _ _ _ _ _⟩
def cu (w:World) (B:Nat) (A:Option Addr) (n:Nat) (l:List Int):Prop:=
 l.length=n∧(∀x∈l,-9223372036854775808≤x∧x≤9223372036854775807)∧(0<n→∃b o,A=some ⟨b,o,none⟩∧b<B∧∀(k:Nat) (x:Int),l[k]?=some x→w.cell? ⟨b,o+k,none⟩=some (.int .i64 x))
theorem cu.nil (w:World) (B:Nat) (A:Option Addr):cu w B A 0 []:=⟨rfl,fun x hx=>(by cases hx),fun h=>by omega⟩
theorem cu.below {w w':World} {B B' n:Nat} {A:Option Addr} {l:List Int} (h:cu w B A n l) (hB:RowKit.Below B w w') (hB':B≤B'):cu w' B' A n l:=
 ⟨h.1,h.2.1,fun h0=>by
  obtain⟨b,o,e,hb,hg⟩:=h.2.2 h0
  exact⟨b,o,e,by omega,fun k x hx=>(hB.cell (p:=⟨b,o+k,none⟩) hb).trans (hg k x hx)⟩⟩
def rV (A:St) (fs vs:List Int):Prop:=(∀x∈fs,0≤x∧x<A.ns.length)∧∀x∈vs,0≤x∧x<A.vars
def acD (A:St) (fs vs:List Int) (w:World) (e:Ending) (W':World):Prop:=
 (rV A fs vs→e= .returned (.int .i64 0))∧(¬rV A fs vs→e= .returned (.int .i64 1))∧RowKit.Below w.heap.size w W'
theorem Jh {P:Int→Prop} {l:List Int} {n k:Nat} (hn:l.length=n) (hk:k=n) (h:∀j x,j<k→l[j]?=some x→P x):∀x∈l,P x:=fun x hx=>by
 obtain⟨j,hj⟩:=List.getElem?_of_mem hx
 exact h j x (by have:=(List.getElem?_eq_some_iff.1 hj).1;omega) hj
theorem Ji {P:Int→Prop} {l:List Int} {k:Nat} {y:Int} (hy:l[k]?=some y) (hp:P y) (h:∀j x,j<k→l[j]?=some x→P x):∀j x,j<k+1→l[j]?=some x→P x:=fun j x hj hx=>by
 rcases(by omega:j<k∨j=k)with h' | rfl
 ·exact h j x h' hx
 ·rw[hy]at hx;cases hx;exact hp
theorem wL {w:World} {B g nb kb ib cap:Nat} {A:St} {K T:bC→Option Value} (h:aI w B g nb kb ib cap A K T) (fs vs:List Int) (a1 a2:Option Addr) (n1 n2 c1 c2:Nat) (hn1:n1≤9223372036854775807) (hn2:n2≤9223372036854775807)
  (h1:cu w w.heap.size a1 n1 fs) (h2:cu w w.heap.size a2 n2 vs):
  Calls Tryz.prog 71 #[.pointer (some ⟨g,0,none⟩),.slice a1 n1 c1,.slice a2 n2 c2] w (acD A fs vs w):=by
 have H:=hide h
 have H1:=hide h1
 have H2:=hide h2
 have hlen:=h.uJ
 have hvs:=h.vs
 obtain⟨l1,_,_,_,_⟩:=h.qR
 clear h h1 h2
 go_enter Tryz.func71,Tryz.ntmps71
 go_wp2
 go_loopw [13] (fun i wr=>∃k:Nat,k≤n1∧i= .int .i64 k∧RowKit.Below w.heap.size w wr∧Hid (∀j x,j<k→fs[j]?=some x→0≤x∧x<(A.ns.length:Int))) (fun i _=>n1 - (intOf i).toNat)
 case atStart=>exact⟨0,Nat.zero_le _,rfl,RowKit.Below.refl _ _,hide (fun j r h=>by omega)⟩
 case round=>
  obtain⟨k,hk,rfl,hb,HN⟩:=hrel
  have HB:=hide hb
  by_cases hlt:k<n1
  ·obtain⟨y,hy⟩:∃r,fs[k]?=some r:=⟨_,List.getElem?_eq_getElem (by have:=H1.out.1;omega)⟩
   obtain⟨b,o,rfl,kD,hg⟩:=H1.out.2.2 (by omega)
   have q0:=(hb.cell (p:=⟨b,o+k,none⟩) kD).trans (hg k y hy)
   obtain⟨hy1,hy2⟩:=H1.out.2.1 y (List.mem_of_getElem? hy)
   have cc:=(hb.cell (p:=⟨g,2,none⟩) l1).trans H.out.c2
   have HY:=hide hy
   clear hb hg hy
   by_cases hx:y<0
   ·have HF:=hide (show¬rV A fs vs from fun hok=>by have:=(hok.1 y (List.mem_of_getElem? HY.out)).1;omega)
    go_wp2
    go_ret
    exact⟨fun hh=>absurd hh HF.out,fun _=>rfl,HB.out⟩
   ·have hx':decide (y<0)=false:=by simpa using hx
    by_cases hz:(A.ns.length:Int)≤y
    ·have HF:=hide (show¬rV A fs vs from fun hok=>by have:=(hok.1 y (List.mem_of_getElem? HY.out)).2;omega)
     go_wp2
     go_ret
     exact⟨fun hh=>absurd hh HF.out,fun _=>rfl,HB.out⟩
    ·have hz':decide ((A.ns.length:Int)≤y)=false:=by simpa using hz
     go_wp2
     go_roundw
     case rel=>exact⟨k+1,by omega,by go_num,HB.out,hide (Ji HY.out ⟨by omega,by omega⟩ HN.out)⟩
     case measure=>simp[intOf];omega
  ·have hkn:k=n1:=by omega
   have HA:=hide (Jh H1.out.1 hkn HN.out)
   clear hb HN
   go_wp2
   go_loopw [31] (fun i wr=>∃k:Nat,k≤n2∧i= .int .i64 k∧RowKit.Below w.heap.size w wr∧Hid (∀j x,j<k→vs[j]?=some x→0≤x∧x<(A.vars:Int))) (fun i _=>n2 - (intOf i).toNat)
   case atStart=>exact⟨0,Nat.zero_le _,rfl,HB.out,hide (fun j r h=>by omega)⟩
   case round=>
    clear HB
    obtain⟨k2,hk2,rfl,hb,HN⟩:=hrel
    have HB:=hide hb
    by_cases hlt2:k2<n2
    ·obtain⟨y,hy⟩:∃r,vs[k2]?=some r:=⟨_,List.getElem?_eq_getElem (by have:=H2.out.1;omega)⟩
     obtain⟨b,o,rfl,kD,hg⟩:=H2.out.2.2 (by omega)
     have q0:=(hb.cell (p:=⟨b,o+k2,none⟩) kD).trans (hg k2 y hy)
     obtain⟨hy1,hy2⟩:=H2.out.2.1 y (List.mem_of_getElem? hy)
     have cc:=(hb.cell (p:=⟨g,0,none⟩) l1).trans H.out.c0
     have HY:=hide hy
     clear hb hg hy
     by_cases hx:y<0
     ·have HF:=hide (show¬rV A fs vs from fun hok=>by have:=(hok.2 y (List.mem_of_getElem? HY.out)).1;omega)
      go_wp2
      go_ret
      exact⟨fun hh=>absurd hh HF.out,fun _=>rfl,HB.out⟩
     ·have hx':decide (y<0)=false:=by simpa using hx
      by_cases hz:(A.vars:Int)≤y
      ·have HF:=hide (show¬rV A fs vs from fun hok=>by have:=(hok.2 y (List.mem_of_getElem? HY.out)).2;omega)
       go_wp2
       go_ret
       exact⟨fun hh=>absurd hh HF.out,fun _=>rfl,HB.out⟩
      ·have hz':decide ((A.vars:Int)≤y)=false:=by simpa using hz
       go_wp2
       go_roundw
       case rel=>exact⟨k2+1,by omega,by go_num,HB.out,hide (Ji HY.out ⟨by omega,by omega⟩ HN.out)⟩
       case measure=>simp[intOf];omega
    ·have hkn2:k2=n2:=by omega
     have HA2:=hide (Jh H2.out.1 hkn2 HN.out)
     clear hb HN
     go_wp2
     go_ret
     exact⟨fun _=>rfl,fun hh=>absurd ⟨HA.out,HA2.out⟩ hh,HB.out⟩
def Jj (w:World) (B g nb kb ib:Nat) (A:St) (F:aj.Fn) (k:Nat) (e:Ending) (W':World):Prop:=
 ∃(r bR cap2:Nat) (A2:St) (K2 T2:bC→Option Value),nQ A A2 r F k∧(A2.full=true→e= .returned (.tuple #[.int .i64 0,.int .i64 6]))∧(A2.full=false→e= .returned (.tuple #[.int .i64 (r:Int),.int .i64 0]))∧
  aI W' B g bR kb ib cap2 (oI A2) K2 T2∧(bR=nb∨w.heap.size≤bR)∧eO (Fp g nb kb ib) w W'
theorem mD.op {w:World} {B g nb kb ib cap:Nat} {A:St} {K T:bC→Option Value} (h0:aI w B g nb kb ib cap A K T) {box:Array Value} {t:TypeId} {w1 w2:World} {aU aQ r k:Nat} {A1:St} {K1 T1:bC→Option Value} {F:aj.Fn} {e:Ending}
  (hs:mD w B g nb kb ib box t w1 aU aQ A1 K1 T1) (hr:nQ A A1 r F k) (h1:A1.full=true→e= .returned (.tuple #[.int .i64 0,.int .i64 6])) (h2:A1.full=false→e= .returned (.tuple #[.int .i64 (r:Int),.int .i64 0]))
  (ha:aI w2 B g aU kb ib aQ (oI A1) K1 T1) (hf:eO (Fp g aU kb ib) w1 w2):Jj w B g nb kb ib A F k e w2:=
 have h:=hs.step h0 ha (.inl rfl) hf
 ⟨r,aU,aQ,A1,K1,T1,hr,h1,h2,h.ar,h.jr.imp id (fun h=>by omega),h.fm⟩
theorem aah (w:World) (B:Nat) (hB:w.heap.size<B) (f a b:Nat) (hf:f<65536) (ha:a<65536) (hb:b<65536) (t:TypeId) {w1:World} (h:w1.heap[w.heap.size]?=some (.cells #[.int .i64 f,.int .i64 a,.int .i64 b] t (0,0))):
  cu w1 B (some ⟨w.heap.size,0,none⟩) 3 [(f:Int),(a:Int),(b:Int)]:=by
 refine⟨rfl,fun x hx=>?_,fun _=>⟨_,0,rfl,hB,fun k x hx=>?_⟩⟩
 ·simp only[List.mem_cons,List.mem_nil_iff,or_false]at hx
  rcases hx with rfl | rfl | rfl<;>omega
 ·rw[cell_of_row _ _ _ _ _ _ h]
  match k,hx with
  |0,hx=>cases hx;rfl
  |1,hx=>cases hx;rfl
  |2,hx=>cases hx;rfl
theorem UF (w:World) (B:Nat) (hB:w.heap.size<B) (i:Int) (hi: -9223372036854775808≤i∧i≤9223372036854775807) (t:TypeId) {w1:World} (h:w1.heap[w.heap.size]?=some (.cells #[.int .i64 i] t (0,0))):
  cu w1 B (some ⟨w.heap.size,0,none⟩) 1 [i]:=by
 refine⟨rfl,fun x hx=>?_,fun _=>⟨_,0,rfl,hB,fun k x hx=>?_⟩⟩
 ·simp only[List.mem_cons,List.mem_nil_iff,or_false]at hx
  rw[hx];exact hi
 ·rw[cell_of_row _ _ _ _ _ _ h]
  match k,hx with
  |0,hx=>cases hx;rfl
theorem zD {w:World} {B g nb kb ib cap:Nat} {A:St} {K T:bC→Option Value} (h:aI w B g nb kb ib cap A K T) (f a b:Nat) (hf:f<A.ns.length) (ha:a<A.ns.length) (hb:b<A.ns.length):
  Calls Tryz.prog 122 #[.pointer (some ⟨g,0,none⟩),.int .i64 f,.int .i64 a,.int .i64 b] w (Jj w B g nb kb ib A (bE (den A.ns f) (den A.ns a) (den A.ns b)) (jC (var A.ns f) (var A.ns a) (var A.ns b))):=by
 have hlen:=h.uJ
 have hb0:∀o,RowKit.Below w.heap.size w (w.alloc o):=fun o=>(RowKit.Below.refl _ _).alloc (Nat.le_refl _) _
 have gH:Hid (mD w B g nb kb ib #[.int .i64 f,.int .i64 a,.int .i64 b] 3 (w.alloc (.cells #[.int .i64 f,.int .i64 a,.int .i64 b] 3)) nb cap A K T):=hide
  ⟨h.below (hb0 _),eO.of_below (hb0 _),heap_alloc_new w _,.inl rfl⟩
 have HI3:=hide (aah w (w.alloc (.cells #[.int .i64 f,.int .i64 a,.int .i64 b] 3)).heap.size (by simp) f a b (by omega) (by omega) (by omega) 3 gH.out.bx)
 have fK:=hide (show rV A [(f:Int),(a:Int),(b:Int)] []from⟨fun x hx=>by
  simp only[List.mem_cons,List.mem_nil_iff,or_false]at hx
  rcases hx with rfl | rfl | rfl<;>omega,fun x hx=>by cases hx⟩)
 have H:=hide h
 have HL:=hide (And.intro hf (And.intro ha hb))
 clear h hf ha hb hb0
 go_enter Tryz.func122,Tryz.ntmps122
 go_wp2_with fail
 refine(wL gH.out.ar _ [] _ none 3 0 3 0 (by omega) (by omega) HI3.out (cu.nil _ _ _)).mono ?_
 rintro e wa ⟨he,_,hb⟩
 obtain rfl:=he fK.out
 have eY:=hide (gH.out.below H.out hb)
 clear hb he gH HI3
 go_wp2_with fail
 refine(Je _ _ _ _ _ _ _ _ _ _ _ eY.out.ar f a b HL.out.1 HL.out.2.1 HL.out.2.2 (Nat.lt_succ_self _)).mono ?_
 rintro e wb ⟨r,aU,aQ,A1,K1,T1,rfl,hres,har,hnb,hfm⟩
 have HS2:=hide (eY.out.step H.out har hnb hfm)
 have HR:=hide hres
 clear hres har hnb hfm eY
 go_wp2_with fail
 refine(xH HS2.out.ar r).mono ?_
 rintro e wc ⟨h1,h2,har,hfm⟩
 have HF:=hide (HS2.out.op H.out HR.out h1 h2 har hfm)
 clear har hfm
 cases hfull:A1.full
 ·obtain rfl:=h2 hfull
  go_wp2
  go_ret2
  exact HF.out
 ·obtain rfl:=h1 hfull
  go_wp2
  go_ret2
  exact HF.out
theorem Eh {w:World} {B g nb kb ib cap:Nat} {A:St} {K T:bC→Option Value} (h:aI w B g nb kb ib cap A K T) (f a:Nat) (hf:f<A.ns.length) (ha:a<A.ns.length):
  Calls Tryz.prog 121 #[.pointer (some ⟨g,0,none⟩),.int .i64 f,.int .i64 a] w (Jj w B g nb kb ib A (bE (den A.ns f) (den A.ns a) (den A.ns 0)) (jC (var A.ns f) (var A.ns a) (var A.ns 0))):=by
 have h2:=h.inv.ok.two
 have HC:=hide (zD h f a 0 hf ha (by omega))
 clear h hf ha h2
 go_enter Tryz.func121,Tryz.ntmps121
 go_wp2_with fail
 refine HC.out.mono ?_
 rintro e wc hop
 have HF:=hide hop
 obtain⟨r,bR,cap2,A2,K2,T2,_,h1,h2,_⟩:=hop
 cases hfull:A2.full
 ·obtain rfl:=h2 hfull
  go_wp2
  go_ret2
  exact HF.out
 ·obtain rfl:=h1 hfull
  go_wp2
  go_ret2
  exact HF.out
theorem Ei {w:World} {B g nb kb ib cap:Nat} {A:St} {K T:bC→Option Value} (h:aI w B g nb kb ib cap A K T) (i:Nat) (hi:i<A.vars):
  Calls Tryz.prog 118 #[.pointer (some ⟨g,0,none⟩),.int .i64 i] w (Jj w B g nb kb ib A (fun x=>x i) i):=by
 have hlen:=h.uJ
 have hvs:=h.vs
 have ok:=h.inv.ok
 have XP:=ok.two
 have hv0:=um ok
 have hv1:=F3 ok
 have hb0:∀o,RowKit.Below w.heap.size w (w.alloc o):=fun o=>(RowKit.Below.refl _ _).alloc (Nat.le_refl _) _
 have gH:Hid (mD w B g nb kb ib #[.int .i64 i] 3 (w.alloc (.cells #[.int .i64 i] 3)) nb cap A K T):=hide
  ⟨h.below (hb0 _),eO.of_below (hb0 _),heap_alloc_new w _,.inl rfl⟩
 have HI1:=hide (UF w (w.alloc (.cells #[.int .i64 i] 3)).heap.size (by simp) i (by omega) 3 gH.out.bx)
 have fK:=hide (show rV A [] [(i:Int)]from⟨fun x hx=>(by cases hx),fun x hx=>by
  simp only[List.mem_cons,List.mem_nil_iff,or_false]at hx
  rw[hx];omega⟩)
 have HM:Hid (∀A' r,Made A i 0 1 r A'→nQ A A' r (fun x=>x i) i):=hide fun A' r hm=>
  zx h.inv hi (fun x y hxy=>hxy i (Nat.le_refl _)) (L:=fun _=>false) (H:=fun _=>true) (by funext x;simp[upd]) (by funext x;simp[upd])
   (lF h.inv (by simp only[St.len];omega) (by rw[hv0];omega) (fun _=>by funext x;simp[jB])) (lF h.inv (by simp only[St.len];omega) (by rw[hv1];omega) (fun _=>by funext x;simp[nV])) hm
 have H:=hide h
 have HL:Hid (0<A.ns.length∧1<A.ns.length∧i<var A.ns 0∧i<var A.ns 1):=hide ⟨by omega,by omega,by omega,by omega⟩
 clear h hb0 ok XP hv0 hv1
 go_enter Tryz.func118,Tryz.ntmps118
 go_wp2_with fail
 refine(wL gH.out.ar [] _ none _ 0 1 0 1 (by omega) (by omega) (cu.nil _ _ _) HI1.out).mono ?_
 rintro e wa ⟨he,_,hb⟩
 obtain rfl:=he fK.out
 have eY:=hide (gH.out.below H.out hb)
 clear hb he gH HI1
 go_wp2_with fail
 refine(xI eY.out.ar i 0 1 hi HL.out.1 HL.out.2.1 HL.out.2.2.1 HL.out.2.2.2).mono ?_
 rintro e wb ⟨r,aU,aQ,A1,K1,rfl,qB,har,hnb,hfm⟩
 have HS2:=hide (eY.out.step H.out har hnb hfm)
 have HR:=hide (HM.out _ _ qB)
 clear qB har hnb hfm eY
 go_wp2_with fail
 refine(xH HS2.out.ar r).mono ?_
 rintro e wc ⟨h1,h2,har,hfm⟩
 have HF:=hide (HS2.out.op H.out HR.out h1 h2 har hfm)
 clear har hfm
 cases hfull:A1.full
 ·obtain rfl:=h2 hfull
  go_wp2
  go_ret2
  exact HF.out
 ·obtain rfl:=h1 hfull
  go_wp2
  go_ret2
  exact HF.out
end Go.Proofs.YtifkacnoiocebaaGreat
