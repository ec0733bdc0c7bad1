/- A part of the proof: Sp5, Sp6, Sp7. -/
import Derived.Test.YtifkacnoiocebaaGreatDz28
set_option linter.unusedVariables false
set_option linter.unusedSimpArgs false
set_option maxRecDepth 100000
set_option maxHeartbeats 8000000
namespace Go.Proofs.YtifkacnoiocebaaGreat
open aj Go.Maps Go.RowKit
theorem ML (d:Int) (l:List aG):(jE d l).2<0∨(0≤(jE d l).1∧(jE d l).1≤3):=by
 have h:∀(l:List aG) (s:Int×Int),(s.2<0∨(0≤s.1∧s.1≤3))→((l.foldl (eu d) s).2<0∨(0≤(l.foldl (eu d) s).1∧(l.foldl (eu d) s).1≤3)):=fun l=>by
  induction l with
  |nil=>exact fun s h=>h
  |cons r l ih=>
   intro s h
   rw[List.foldl_cons]
   refine ih _ ?_
   unfold eu
   split
   ·rename_i hh
    refine .inr ?_
    simp only[jU,dx,Bool.and_eq_true,decide_eq_true_eq]at hh
    simp only
    omega
   ·exact h
 exact h l (0,-1) (.inl (by decide))
def Cx (c:Nat):Nat:=ay (c / 64 % 16) (c / 1024) (c % 8) (c / 8 % 8)
def Q6 (d:Dev) (c o c':Nat):Prop:=(jE ((c / 64 % 16:Nat):Int) d.routes).1=(o:Int)∧0≤(jE ((c / 64 % 16:Nat):Int) d.routes).2∧iY d.rules (pk c)=true∧c'=c
def MN (d:Dev) (opn:Bool) (W:Nat→Nat→Bool) (port c o c':Nat):Prop:=
 (port=0∧iY d.rules (pk c)=true∧o=1∧c'=c)∨(port=1∧opn=true∧W 0 (Cx c)=true∧iY d.rules (pk (Cx c))=true∧o=0∧c'=c)
def Gs (W:Nat→Nat→Bool) (e:Nat):Prop:=∃x,x<128∧W 0 (ay (e / 8) (x / 8) (e % 8) (x % 8))=true
def Kr (d:Dev) (opn:Bool) (W:Nat→Nat→Bool) (port c o c':Nat):Prop:=
 (port=0∧∃x,x<8∧d.pool.testBit x=true∧o=1∧c'=ay d.addr.toNat (c / 64 % 16) x (c % 8))∨
 (port=1∧d.addr.toNat=c / 64 % 16∧d.pool.testBit (c % 8)=true∧∃e,e<128∧(opn=true∧Gs W e)∧o=0∧c'=ay (c / 1024) (e / 8) (c / 8 % 8) (e % 8))
def zh (d:Dev) (opn:Bool) (W:Nat→Nat→Bool) (port c o c':Nat):Prop:=
 ((port=1∨d.addr.toNat≠c / 64 % 16)∧o=1 - port∧c'=c)∨(port=0∧d.addr.toNat=c / 64 % 16∧∃x∈d.backs,o=1∧c'=ay (c / 1024) x.toNat (c / 8 % 8) (c % 8))∨
 (port=1∧opn=true∧(∃x∈d.backs,x.toNat=c / 1024)∧W 0 (ay (c / 64 % 16) d.addr.toNat (c % 8) (c / 8 % 8))=true∧o=0∧c'=ay d.addr.toNat (c / 64 % 16) (c / 8 % 8) (c % 8))
def Tp (d:Dev) (opn:Bool) (W:Nat→Nat→Bool) (port c o c':Nat):Prop:=
 (d.kind=2∧Q6 d c o c')∨(d.kind=3∧MN d opn W port c o c')∨(d.kind=4∧Kr d opn W port c o c')∨(d.kind=5∧zh d opn W port c o c')
section
variable {d:Dev} {opn:Bool} {W:Nat→Nat→Bool} {o a b s t:Nat}
theorem vX {a b s t:Nat} (h:dW a b s t):ay a b s t / 1024=a∧ay a b s t / 64 % 16=b∧ay a b s t / 8 % 8=s∧ay a b s t % 8=t:=h.parts
theorem code_inj {a b s t a' b' s' t':Nat} (h:dW a b s t) (h':dW a' b' s' t') (e:ay a b s t=ay a' b' s' t'):a=a'∧b=b'∧s=s'∧t=t':=by
 obtain⟨p1,p2,p3,p4⟩:=vX h
 obtain⟨q1,q2,q3,q4⟩:=vX h'
 rw[e]at p1 p2 p3 p4
 exact⟨p1.symm.trans q1,p2.symm.trans q2,p3.symm.trans q3,p4.symm.trans q4⟩
theorem Xo (h:dW a b s t):(∃port c,port<4∧c<16384∧W port c=true∧Q6 d c o (ay a b s t))↔IQ d W o a b s t:=by
 obtain⟨q1,q2,q3,q4⟩:=vX h
 unfold IQ Q6 je
 constructor
 ·rintro⟨port,c,hp,hc,hw,h1,h2,h3,rfl⟩
  rw[q2]at h1 h2
  have:=ML (b:Int) d.routes
  refine⟨by omega,⟨port,hp,hw⟩,?_,h3⟩
  rw[Bool.and_eq_true,decide_eq_true_eq,beq_iff_eq]
  exact⟨h2,h1⟩
 ·rintro⟨ho,⟨port,hp,hw⟩,h1,h3⟩
  rw[Bool.and_eq_true,decide_eq_true_eq,beq_iff_eq]at h1
  exact⟨port,_,hp,h.lt,hw,by rw[q2];exact h1.2,by rw[q2];exact h1.1,h3,rfl⟩
theorem Xp (h:dW a b s t):(∃port c,port<2∧c<16384∧W port c=true∧MN d opn W port c o (ay a b s t))↔IU d opn W o a b s t:=by
 obtain⟨q1,q2,q3,q4⟩:=vX h
 have hb:Cx (ay a b s t)=ay b a t s:=by unfold Cx;rw[q1,q2,q3,q4]
 unfold IU MN
 constructor
 ·rintro⟨port,c,hp,hc,hw,⟨rfl,h1,h2,rfl⟩ | ⟨rfl,h1,h2,h3,h4,rfl⟩⟩
  ·exact .inl ⟨h2,hw,h1⟩
  ·rw[hb]at h2 h3
   exact .inr ⟨h1,h4,hw,h2,h3⟩
 ·rintro(⟨h1,h2,h3⟩ | ⟨h1,h2,h3,h4,h5⟩)
  ·exact⟨0,_,by omega,h.lt,h2,.inl ⟨rfl,h3,h1,rfl⟩⟩
  ·exact⟨1,_,by omega,h.lt,h3,.inr ⟨rfl,h1,by rw[hb];exact h4,by rw[hb];exact h5,h2,rfl⟩⟩
theorem Xq (hA:d.addr.toNat<16) (h:dW a b s t):(∃port c,port<2∧c<16384∧W port c=true∧Kr d opn W port c o (ay a b s t))↔IV d opn W o a b s t:=by
 unfold IV Kr
 constructor
 ·rintro⟨port,c,hp,hc,hw,⟨rfl,x,hx,h1,h2,h3⟩ | ⟨rfl,h1,h2,e,he,⟨h3,x,hx,h4⟩,h5,h6⟩⟩
  ·obtain⟨e1,e2,e3,e4⟩:=code_inj h ⟨hA,by omega,hx,by omega⟩ h3
   obtain⟨f1,f2⟩:=jA hc
   refine .inl ⟨h2,⟨c / 8 % 8,by omega,c / 1024,by omega,?_⟩,e1.symm,by rw[e3];exact h1⟩
   rw[e2,e4,f2]
   exact hw
  ·obtain⟨e1,e2,e3,e4⟩:=code_inj h ⟨by omega,by omega,by omega,by omega⟩ h6
   obtain⟨f1,f2⟩:=jA hc
   refine .inr ⟨h3,h5,⟨c % 8,by omega,c / 64 % 16,by omega,?_,h1,h2⟩,⟨x % 8,by omega,x / 8,by omega,?_⟩⟩
   ·rw[e1,e3,f2]
    exact hw
   ·rw[e2,e4]
    exact h4
 ·rintro(⟨h1,⟨y,hy,x,hx,hw⟩,h2,h3⟩ | ⟨h1,h2,⟨y,hy,x,hx,hw,h3,h4⟩,y',hy',x',hx',hw'⟩)
  ·have hf:dW x b y t:=⟨hx,h.b,hy,h.d⟩
   obtain⟨q1,q2,q3,q4⟩:=vX hf
   exact⟨0,_,by omega,hf.lt,hw,.inl ⟨rfl,s,h.s,h3,h1,by rw[q2,q4,h2]⟩⟩
  ·have hf:dW a x s y:=⟨h.a,hx,h.s,hy⟩
   obtain⟨q1,q2,q3,q4⟩:=vX hf
   have hb:=h.b
   have hd:=h.d
   refine⟨1,_,by omega,hf.lt,hw,.inr ⟨rfl,by rw[q2];exact h3,by rw[q4];exact h4,b*8+t,by omega,⟨h1,x'*8+y',by omega,?_⟩,h2,?_⟩⟩
   ·rw[show(b*8+t) / 8=b by omega,show(b*8+t) % 8=t by omega,show(x'*8+y') / 8=x' by omega,show(x'*8+y') % 8=y' by omega]
    exact hw'
   ·rw[q1,q3,show(b*8+t) / 8=b by omega,show(b*8+t) % 8=t by omega]
theorem Xr (hA:d.addr.toNat<16) (hB:∀x∈d.backs,x.toNat<16) (h:dW a b s t):(∃port c,port<2∧c<16384∧W port c=true∧zh d opn W port c o (ay a b s t))↔IW d opn W o a b s t:=by
 obtain⟨q1,q2,q3,q4⟩:=vX h
 unfold IW zh
 constructor
 ·rintro⟨port,c,hp,hc,hw,⟨h1,h2,rfl⟩ | ⟨rfl,h1,x,hx,h2,h3⟩ | ⟨rfl,h1,⟨x,hx,h2⟩,h3,h4,h5⟩⟩
  ·rw[q2]at h1
   rcases h1 with rfl | h1
   ·exact .inr (.inl ⟨h2,hw⟩)
   ·rcases(by omega:port=0∨port=1)with rfl | rfl
    ·exact .inl ⟨h2,hw,h1⟩
    ·exact .inr (.inl ⟨h2,hw⟩)
  ·obtain⟨e1,e2,e3,e4⟩:=code_inj h ⟨by omega,hB x hx,by omega,by omega⟩ h3
   obtain⟨f1,f2⟩:=jA hc
   refine .inr (.inr ⟨x,hx,.inl ⟨h2,?_,e2.symm⟩⟩)
   rw[e1,e3,e4,h1,f2]
   exact hw
  ·obtain⟨e1,e2,e3,e4⟩:=code_inj h ⟨hA,by omega,by omega,by omega⟩ h5
   obtain⟨f1,f2⟩:=jA hc
   refine .inr (.inr ⟨x,hx,.inr ⟨h1,h4,?_,?_,e1.symm⟩⟩)
   ·rw[h2,e2,e3,e4,f2]
    exact hw
   ·rw[e2,e3,e4]
    exact h3
 ·rintro(⟨h1,h2,h3⟩ | ⟨h1,h2⟩ | ⟨x,hx,⟨h1,h2,h3⟩ | ⟨h1,h2,h3,h4,h5⟩⟩)
  ·exact⟨0,_,by omega,h.lt,h2,.inl ⟨.inr (by rw[q2];exact h3),h1,rfl⟩⟩
  ·exact⟨1,_,by omega,h.lt,h2,.inl ⟨.inl rfl,h1,rfl⟩⟩
  ·have hf:dW a d.addr.toNat s t:=⟨h.a,hA,h.s,h.d⟩
   obtain⟨r1,r2,r3,r4⟩:=vX hf
   exact⟨0,_,by omega,hf.lt,h2,.inr (.inl ⟨rfl,by rw[r2],x,hx,h1,by rw[r1,r3,r4,h3]⟩)⟩
  ·have hf:dW x.toNat b s t:=⟨hB x hx,h.b,h.s,h.d⟩
   obtain⟨r1,r2,r3,r4⟩:=vX hf
   exact⟨1,_,by omega,hf.lt,h3,.inr (.inr ⟨rfl,h1,⟨x,hx,by rw[r1]⟩,by rw[r2,r3,r4];exact h4,h2,by rw[r2,r3,r4,h5]⟩)⟩
theorem Q7 (hd:fU d) {c':Nat} (hc:c'<16384):(∃port c,port<(aN d.kind).toNat ∧c<16384∧W port c=true∧Tp d opn W port c o c')↔pU d opn W o (c' / 1024) (c' / 64 % 16) (c' / 8 % 8) (c' % 8):=by
 obtain⟨hf,e⟩:=jA hc
 unfold Tp pU
 by_cases k2:d.kind=2
 ·have:=Xo (d:=d) (W:=W) (o:=o) hf
  rw[e]at this
  simp only[k2,aN]
  simpa using this
 by_cases k3:d.kind=3
 ·have:=Xp (d:=d) (opn:=opn) (W:=W) (o:=o) hf
  rw[e]at this
  simp only[k3,aN]
  simpa using this
 by_cases k4:d.kind=4
 ·have h1:=hd.qA (.inr (.inl k4))
  have:=Xq (d:=d) (opn:=opn) (W:=W) (o:=o) (by omega) hf
  rw[e]at this
  simp only[k4,aN]
  simpa using this
 by_cases k5:d.kind=5
 ·have h1:=hd.qA (.inr (.inr k5))
  have:=Xr (d:=d) (opn:=opn) (W:=W) (o:=o) (by omega) (fun z hz=>by
   have h1:=hd.bb
   unfold bQ at h1
   rw[Bool.and_eq_true]at h1
   have:=vW _ _ _ h1.1 z hz
   omega) hf
  rw[e]at this
  simp only[k5,aN]
  simpa using this
 ·simp[k2,k3,k4,k5]
end
structure oh (k:Nat) (T0:aB→Nat→Int) (Dn:aB→Nat→Prop) (T:aB→Nat→Int) (more:Bool):Prop where
 new:∀x c,c<16384→T0 x c<0→Dn x c→T x c=((k+1:Nat):Int)
 old:∀x c,c<16384→(0≤T0 x c∨¬Dn x c)→T x c=T0 x c
 mo:more=true↔∃x c,c<16384∧T0 x c<0∧Dn x c
theorem oh.start (k:Nat) (T0:aB→Nat→Int):oh k T0 (fun _ _=>False) T0 false:=
 ⟨fun _ _ _ _ h=>h.elim,fun _ _ _ _=>rfl,⟨fun h=>(by cases h),fun⟨_,_,_,_,h⟩=>h.elim⟩⟩
theorem oh.congr {k:Nat} {T0 T:aB→Nat→Int} {Dn dP:aB→Nat→Prop} {more:Bool} (h:oh k T0 Dn T more) (e:∀x c,c<16384→(Dn x c↔dP x c)):oh k T0 dP T more:=
 ⟨fun x c hc h0 hd=>h.new x c hc h0 ((e x c hc).2 hd),fun x c hc hd=>h.old x c hc (hd.imp id (fun hn q=>hn ((e x c hc).1 q))),h.mo.trans ⟨fun⟨x,c,hc,h0,hd⟩=>⟨x,c,hc,h0,(e x c hc).1 hd⟩,fun⟨x,c,hc,h0,hd⟩=>⟨x,c,hc,h0,(e x c hc).2 hd⟩⟩⟩
theorem oh.was {ds:List Dev} {ls:List ah} {k:Nat} {T:aB→Nat→Int} {Dn:aB→Nat→Prop} {more:Bool} (h:oh k (eT ds ls k) Dn T more) (x:aB) (c:Nat) (hc:c<16384):(decide (0≤T x c) && decide (T x c≤(k:Int)))=iC ds ls k x c:=by
 rw[Bool.eq_iff_iff,Bool.and_eq_true,decide_eq_true_eq,decide_eq_true_eq]
 refine Xn ds ls k x c hc ?_
 by_cases h0:0≤eT ds ls k x c
 ·exact .inl (h.old x c hc (.inl h0))
 ·by_cases hd:Dn x c
  ·exact .inr ⟨by omega,h.new x c hc (by omega) hd⟩
  ·exact .inl (h.old x c hc (.inr hd))
def nM (ls:List ah) (y:aB) (c:Nat) (Dn:aB→Nat→Prop):aB→Nat→Prop:=fun x d=>Dn x d∨(aD ls y=some x∧d=c)
def vL (ls:List ah) (k:Nat) (y:aB) (c:Nat) (T:aB→Nat→Int) (more:Bool) (T':aB→Nat→Int) (more':Bool):Prop:=
 match aD ls y with
 |none=>T'=T∧more'=more
 |some x=>if T x c<0 then T'=og T x c ((k+1:Nat):Int)∧more'=true else T'=T∧more'=more
theorem oh.put {ls:List ah} {k:Nat} {T0 T T':aB→Nat→Int} {Dn:aB→Nat→Prop} {more more':Bool} (h:oh k T0 Dn T more) {y:aB} {c:Nat} (hc:c<16384) (hr:vL ls k y c T more T' more'):oh k T0 (nM ls y c Dn) T' more':=by
 unfold vL at hr
 cases hp:aD ls y with
 |none=>
  rw[hp]at hr
  obtain⟨rfl,rfl⟩:=hr
  exact h.congr fun x d _=>by unfold nM;rw[hp];simp
 |some x=>
  rw[hp]at hr
  simp only at hr
  have ha:∀z d,nM ls y c Dn z d↔Dn z d∨(z=x∧d=c):=fun z d=>by
   unfold nM
   rw[hp,Option.some.injEq,eq_comm (a:=x)]
  by_cases h0:T x c<0
  ·rw[if_pos h0]at hr
   obtain⟨rfl,rfl⟩:=hr
   have h1:T0 x c<0∧¬Dn x c:=by
    by_cases a:0≤T0 x c
    ·rw[h.old x c hc (.inl a)]at h0;omega
    ·by_cases b:Dn x c
     ·rw[h.new x c hc (by omega) b]at h0;omega
     ·exact⟨by omega,b⟩
   refine⟨fun z d hd g1 g2=>?_,fun z d hd g=>?_,⟨fun _=>⟨x,c,hc,h1.1,(ha x c).2 (.inr ⟨rfl,rfl⟩)⟩,fun _=>rfl⟩⟩
   ·unfold og
    by_cases e:z=x∧d=c
    ·rw[if_pos e]
    ·rw[if_neg e]
     exact h.new z d hd g1 (((ha z d).1 g2).resolve_right e)
   ·unfold og
    by_cases e:z=x∧d=c
    ·obtain⟨rfl,rfl⟩:=e
     exact absurd g (fun g=>g.elim (fun g=>by omega) (fun g=>g ((ha z d).2 (.inr ⟨rfl,rfl⟩))))
    ·rw[if_neg e]
     exact h.old z d hd (g.imp id (fun g q=>g ((ha z d).2 (.inl q))))
  ·rw[if_neg h0]at hr
   obtain⟨rfl,rfl⟩:=hr
   have h1:0≤T0 x c∨Dn x c:=by
    by_cases a:0≤T0 x c
    ·exact .inl a
    ·by_cases b:Dn x c
     ·exact .inr b
     ·rw[h.old x c hc (.inr b)]at h0;omega
   refine⟨fun z d hd g1 g2=>?_,fun z d hd g=>h.old z d hd (g.imp id (fun g q=>g ((ha z d).2 (.inl q)))),h.mo.trans ⟨fun⟨z,d,g1,g2,g3⟩=>⟨z,d,g1,g2,(ha z d).2 (.inl g3)⟩,fun⟨z,d,g1,g2,g3⟩=>?_⟩⟩
   ·rcases(ha z d).1 g2 with g | ⟨rfl,rfl⟩
    ·exact h.new z d hd g1 g
    ·exact h.new z d hd g1 (h1.resolve_left (by omega))
   ·rcases(ha z d).1 g3 with g | ⟨rfl,rfl⟩
    ·exact⟨z,d,g1,g2,g⟩
    ·exact⟨z,d,g1,g2,h1.resolve_left (by omega)⟩
end Go.Proofs.YtifkacnoiocebaaGreat
namespace Go.Proofs.YtifkacnoiocebaaGreat
open Go.Maps Go.RowKit Go.WideElems
theorem vL.far {ls:List ah} {k:Nat} {y x:aB} {c:Nat} {T:aB→Nat→Int} {more:Bool} (hp:aD ls y=some x) (h:¬T x c<0):vL ls k y c T more T more:=by
 unfold vL
 rw[hp]
 show(if T x c<0 then _ else _)
 rw[if_neg h]
 exact⟨rfl,rfl⟩
theorem vL.near {ls:List ah} {k:Nat} {y x:aB} {c:Nat} {T:aB→Nat→Int} {more:Bool} (hp:aD ls y=some x) (h:T x c<0):vL ls k y c T more (og T x c ((k:Int)+1)) true:=by
 unfold vL
 rw[hp]
 show(if T x c<0 then _ else _)
 rw[if_pos h]
 exact⟨rfl,rfl⟩
def Y5 (E:SE) (w:World) (T:aB→Nat→Int) (more:Bool) (y:aB) (c:Nat) (w':World):Prop:=∃T' more',rF E w' T' more'∧KC E.C w w'∧vL E.n.ls E.k y c T more T' more'
theorem TK (E:SE) (hE:E.Ok) (w:World) (T:aB→Nat→Int) (more:Bool) (h:rF E w T more) (i port:Int) (a b s t:Nat) (hf:dW a b s t) (y1 y2:Int) (hp:aD E.n.ls (i,port)=some (y1,y2)):
  Calls Tryz.prog 32 #[.int .i64 i,.int .i64 port,.agg #[.int .i64 (a:Int),.int .i64 (b:Int),.int .i64 (s:Int),.int .i64 (t:Int)],.pointer (some ⟨E.nA,0,none⟩),.pointer (some ⟨E.pS,0,none⟩),.pointer (some ⟨E.kA,0,none⟩),.pointer (some ⟨E.mA,0,none⟩)] w fun e w'=>e= .returned (.tuple #[])∧Y5 E w T more (i,port) (ay a b s t) w':=by
 have hD:=hE.peer _ _ hp
 have ru:=hE.dom _ hD
 have qz:E.n.ln≤9223372036854775807:=by have:=hE.ln;have:=h.net.ls.1;omega
 have HE:=hide hE
 have gH:=hide h
 have HF:=hide hf
 have fM:=hide (fun(o:Obj)=>h.up hE (below_alloc2 w o))
 have fI:=hide (fun(w1:World) (hb:RowKit.Below w.heap.size w w1)=>jJ E.n.dA E.n.dn E.n.dc E.n.lA E.n.ln E.n.lc E.n.ls i port w1 qz ((h.up hE hb).net.ls.below (RowKit.Below.refl _ _) (Nat.le_trans hE.BN (h.up hE hb).sz)))
 have lI:=hide (dO.new w #[.int .i64 (a:Int),.int .i64 (b:Int),.int .i64 (s:Int),.int .i64 (t:Int)] 29)
 rw[hp]at fI
 have V8:=hide ru
 have HD:=hide hD
 have HP:=hide hp
 have a0:=fun(o:Obj)=>(fM.out o).nb.1 0 _ rfl
 have a1:=fun(o:Obj)=>(fM.out o).nb.1 1 _ rfl
 clear h hE hf hp hD ru
 obtain⟨c,hc⟩:∃c,ay a b s t=c:=⟨_,rfl⟩
 rw[hc]
 have HC:=hide hc
 have Ht:=hide (show c<16384 from hc▸HF.out.lt)
 clear hc
 go_enter Tryz.func32,Tryz.ntmps32
 go_wp2_with fail
 refine(fI.out _ (below_alloc2 w _)).mono ?_
 clear fI a0 a1
 rintro en w1 ⟨rfl,hb0⟩
 have eF:=hide (lI.out.below hb0 (by simp))
 have HB1:=hide ((below_alloc2 w (.cells #[.int .i64 (a:Int),.int .i64 (b:Int),.int .i64 (s:Int),.int .i64 (t:Int)] 29)).trans (hb0.mono (below_alloc2 w _).size))
 have HZ1:=hide (show w.heap.size<w1.heap.size from Nat.lt_of_lt_of_le (by simp) hb0.size)
 clear hb0 lI fM
 generalize World.alloc w _=wz at*
 simp only[pJ]
 go_wp2_with fail
 have HB2:=hide (HB1.out.trans ((below_alloc2 w1 (.cells #[.int .i64 y1,.int .i64 y2] 27)).mono HB1.out.size))
 have bZ:=hide (eF.out.below (below_alloc2 w1 (.cells #[.int .i64 y1,.int .i64 y2] 27)) HZ1.out)
 have HY2:=hide (dO.new w1 #[.int .i64 y1,.int .i64 y2] 27)
 have HZ2:=hide (show w.heap.size<(w1.alloc (.cells #[.int .i64 y1,.int .i64 y2] 27)).heap.size ∧w1.heap.size<(w1.alloc (.cells #[.int .i64 y1,.int .i64 y2] 27)).heap.size from⟨Nat.lt_of_lt_of_le HZ1.out (below_alloc2 w1 _).size,by simp⟩)
 clear HB1 eF HZ1
 generalize World.alloc w1 _=w2 at*
 generalize w1.heap.size=N at*
 have CW:=hide (fun(w':World) (hb:RowKit.Below w2.heap.size w2 w')=>(gH.out.up HE.out HB2.out |>.up HE.out hb))
 have HQ:=hide (fun(w':World) (hb:RowKit.Below w2.heap.size w2 w')=>show(w'.cell? ⟨E.pS,0,none⟩=some (.pointer (some ⟨E.s,0,none⟩))∧w'.cell? ⟨E.s,1,none⟩=some (.map (some E.mb))∧w'.cell? ⟨E.kA,0,none⟩=some (.int .i64 (E.k:Int))∧w'.cell? ⟨N,0,none⟩=some (.int .i64 y1)∧w'.cell? ⟨N,1,none⟩=some (.int .i64 y2)∧w'.cell? ⟨w.heap.size,0,none⟩=some (.int .i64 (a:Int))∧w'.cell? ⟨w.heap.size,1,none⟩=some (.int .i64 (b:Int))∧w'.cell? ⟨w.heap.size,2,none⟩=some (.int .i64 (s:Int))∧w'.cell? ⟨w.heap.size,3,none⟩=some (.int .i64 (t:Int))∧w'.cell? ⟨E.blk (y1,y2),c,none⟩=some (.int .i64 (T (y1,y2) c)))∧(Instr.lookup 42 (.map (some E.mb)) (.agg #[.int .i64 y1,.int .i64 y2]) false).run Tryz.prog w'= .ok (.slice (some ⟨E.blk (y1,y2),0,none⟩) 16384 16384) w' from by
  have hs:=CW.out w' hb
  have hx:=bZ.out.below hb HZ2.out.1
  have hy:=HY2.out.below hb HZ2.out.2
  have hl:=hs.st.mp.IY y1 y2 V8.out.1 V8.out.2
  rw[hs.st.val _ HD.out]at hl
  exact⟨⟨hs.sp.1 0 _ rfl,hs.st.c1,hs.kk.1 0 _ rfl,hy.1 0 _ rfl,hy.1 1 _ rfl,hx.1 0 _ rfl,hx.1 1 _ rfl,hx.1 2 _ rfl,hx.1 3 _ rfl,hs.st.tab _ HD.out c Ht.out⟩,hl⟩)
 have CP:=hide (fun(w':World)=>show Calls Tryz.prog 33 #[.agg #[.int .i64 (a:Int),.int .i64 (b:Int),.int .i64 (s:Int),.int .i64 (t:Int)]] w' (fun e W'=>e= .returned (.int .i64 (c:Int))∧RowKit.Below w'.heap.size w' W')from by
  have:=tH a b s t HF.out.a HF.out.b HF.out.s HF.out.d w'
  rw[← HC.out]
  exact this)
 have hci:(c:Int)<16384:=by have:=Ht.out;omega
 have hc0:(0:Int)≤(c:Int):=by omega
 have V9:=hide (show RowKit.Below w2.heap.size w2 w2.drew from(RowKit.Below.refl _ _).drew)
 obtain⟨v,hv⟩:∃v,T (y1,y2) c=v:=⟨_,rfl⟩
 have HV:=hide hv
 rw[hv]at HQ
 clear hv
 obtain⟨bk,hbk⟩:∃bk,E.blk (y1,y2)=bk:=⟨_,rfl⟩
 have sU:=hide hbk
 rw[hbk]at HQ
 clear hbk
 generalize hk:E.k=k at*
 have HK:=hide hk
 clear hk
 refine aY (fun w'=>(w'.cell? ⟨E.pS,0,none⟩=some (.pointer (some ⟨E.s,0,none⟩))∧w'.cell? ⟨E.s,1,none⟩=some (.map (some E.mb))∧w'.cell? ⟨E.kA,0,none⟩=some (.int .i64 (k:Int))∧w'.cell? ⟨N,0,none⟩=some (.int .i64 y1)∧w'.cell? ⟨N,1,none⟩=some (.int .i64 y2)∧w'.cell? ⟨w.heap.size,0,none⟩=some (.int .i64 (a:Int))∧w'.cell? ⟨w.heap.size,1,none⟩=some (.int .i64 (b:Int))∧w'.cell? ⟨w.heap.size,2,none⟩=some (.int .i64 (s:Int))∧w'.cell? ⟨w.heap.size,3,none⟩=some (.int .i64 (t:Int))∧w'.cell? ⟨bk,c,none⟩=some (.int .i64 v))∧(Instr.lookup 42 (.map (some E.mb)) (.agg #[.int .i64 y1,.int .i64 y2]) false).run Tryz.prog w'= .ok (.slice (some ⟨bk,0,none⟩) 16384 16384) w') 13 (by kernel_rfl) (HQ.out _ V9.out) (fun hS=>?_)
 refine rP 0 hS ?_
 refine rP 1 hS ?_
 refine rL 2 [3,4,5,7,10,11,12,13] rfl hS (by intro w hSw;obtain⟨⟨s0,s1,s2,s3,s4,s5,s6,s7,s8,s9⟩,s10⟩:=hSw;go_simp;try with_reducible rfl) ?_
 refine rP 3 hS ?_
 refine rP 4 hS ?_
 refine rL 5 [7,10,11,12,13] rfl hS (by intro w hSw;obtain⟨⟨s0,s1,s2,s3,s4,s5,s6,s7,s8,s9⟩,s10⟩:=hSw;go_simp;try with_reducible rfl) ?_
 refine rL 6 [7,10,11,12,13] rfl hS (by intro w hSw;obtain⟨⟨s0,s1,s2,s3,s4,s5,s6,s7,s8,s9⟩,s10⟩:=hSw;go_simp;try with_reducible rfl) ?_
 refine rL 7 [10,11,12,13] rfl hS (by intro w hSw;obtain⟨⟨s0,s1,s2,s3,s4,s5,s6,s7,s8,s9⟩,s10⟩:=hSw;go_simp;try with_reducible rfl) ?_
 refine rL 8 [9,10,11,12,13] rfl hS (by intro w hSw;obtain⟨⟨s0,s1,s2,s3,s4,s5,s6,s7,s8,s9⟩,s10⟩:=hSw;go_simp;try with_reducible rfl) ?_
 intro inv
 refine rO 9 inv fun K hK=>?_
 go_simp
 refine(CP.out _).mono ?_
 rintro en w3 ⟨rfl,hb3⟩
 have HB3:=hide (V9.out.trans (hb3.mono V9.out.size))
 clear hb3 hS V9
 have hS:=HQ.out _ HB3.out
 go_simp
 refine hK.out _ _ (fun _=>hS) ?_
 clear hK K hS inv
 intro inv
 try simp only[Act.put,aK,aL,aM]
 have hS:=HQ.out _ HB3.out
 revert inv
 refine rP 10 hS ?_
 refine rL 11 [12,13] rfl hS (by intro w hSw;obtain⟨⟨s0,s1,s2,s3,s4,s5,s6,s7,s8,s9⟩,s10⟩:=hSw;go_simp;try with_reducible rfl) ?_
 refine rP 12 hS ?_
 intro inv
 refine rT 13 inv fun K hK=>?_
 go_simp
 refine hK.out _ _ ?_
 clear hK K inv
 intro inv
 try simp only[Act.put,aK,aL,aM]
 refine rD ?_
 clear inv
 clear hS
 by_cases h0:v<0
 case neg=>
  go_wp2
  go_end0
  refine⟨rfl,T,more,CW.out _ HB3.out,KC.of_below (HB2.out.trans (HB3.out.mono HB2.out.size)),?_⟩
  exact vL.far HP.out (by rw[HV.out];omega)
 case pos=>
  have hkn:k≤1000000000:=by have:=HE.out.kb;rw[HK.out]at this;exact this
  have hfr:∀(w':World),RowKit.Below w2.heap.size w2 w'→w'.frozen? ⟨bk,c,none⟩=false:=fun w' hb=>by rw[← sU.out];exact(CW.out w' hb).fr _ HD.out c
  have HFR:=hide hfr
  clear hfr
  go_wp2_with fail
  refine aY (fun w'=>(w'.cell? ⟨E.pS,0,none⟩=some (.pointer (some ⟨E.s,0,none⟩))∧w'.cell? ⟨E.s,1,none⟩=some (.map (some E.mb))∧w'.cell? ⟨E.kA,0,none⟩=some (.int .i64 (k:Int))∧w'.cell? ⟨N,0,none⟩=some (.int .i64 y1)∧w'.cell? ⟨N,1,none⟩=some (.int .i64 y2)∧w'.cell? ⟨w.heap.size,0,none⟩=some (.int .i64 (a:Int))∧w'.cell? ⟨w.heap.size,1,none⟩=some (.int .i64 (b:Int))∧w'.cell? ⟨w.heap.size,2,none⟩=some (.int .i64 (s:Int))∧w'.cell? ⟨w.heap.size,3,none⟩=some (.int .i64 (t:Int))∧w'.cell? ⟨bk,c,none⟩=some (.int .i64 v))∧(Instr.lookup 42 (.map (some E.mb)) (.agg #[.int .i64 y1,.int .i64 y2]) false).run Tryz.prog w'= .ok (.slice (some ⟨bk,0,none⟩) 16384 16384) w') 11 (by kernel_rfl) (HQ.out _ HB3.out.drew) (fun hS=>?_)
  refine rL 0 [1,2,3,5,10,11] rfl hS (by intro w hSw;obtain⟨⟨s0,s1,s2,s3,s4,s5,s6,s7,s8,s9⟩,s10⟩:=hSw;go_simp;try with_reducible rfl) ?_
  refine rP 1 hS ?_
  refine rP 2 hS ?_
  refine rL 3 [5,10,11] rfl hS (by intro w hSw;obtain⟨⟨s0,s1,s2,s3,s4,s5,s6,s7,s8,s9⟩,s10⟩:=hSw;go_simp;try with_reducible rfl) ?_
  refine rL 4 [5,10,11] rfl hS (by intro w hSw;obtain⟨⟨s0,s1,s2,s3,s4,s5,s6,s7,s8,s9⟩,s10⟩:=hSw;go_simp;try with_reducible rfl) ?_
  refine rL 5 [10,11] rfl hS (by intro w hSw;obtain⟨⟨s0,s1,s2,s3,s4,s5,s6,s7,s8,s9⟩,s10⟩:=hSw;go_simp;try with_reducible rfl) ?_
  refine rL 6 [7,10,11] rfl hS (by intro w hSw;obtain⟨⟨s0,s1,s2,s3,s4,s5,s6,s7,s8,s9⟩,s10⟩:=hSw;go_simp;try with_reducible rfl) ?_
  refine rL 8 [9,11] rfl hS (by intro w hSw;obtain⟨⟨s0,s1,s2,s3,s4,s5,s6,s7,s8,s9⟩,s10⟩:=hSw;go_simp;try with_reducible rfl) ?_
  refine rP 9 hS ?_
  intro inv
  refine rO 7 inv fun K hK=>?_
  go_simp
  refine(CP.out _).mono ?_
  rintro en w4 ⟨rfl,hb4⟩
  have dM:=hide (HB3.out.drew.trans (hb4.mono HB3.out.drew.size))
  clear hb4 hS HB3
  have hS:=HQ.out _ dM.out
  go_simp
  refine hK.out _ _ (fun _=>hS) ?_
  clear hK K hS inv
  intro inv
  try simp only[Act.put,aK,aL,aM]
  have hS:=HQ.out _ dM.out
  revert inv
  refine rP 10 hS ?_
  intro inv
  have hfr:=HFR.out _ dM.out
  obtain⟨⟨s0,s1,s2,s3,s4,s5,s6,s7,s8,s9⟩,s10⟩:=hS
  have hS:=trivial
  refine rT 11 inv fun K hK=>?_
  go_simp
  refine hK.out _ _ ?_
  clear hK K inv
  intro inv
  try simp only[Act.put,aK,aL,aM]
  refine rD ?_
  clear inv
  clear s0 s1 s2 s3 s4 s5 s6 s7 s8 s9 s10 hfr hS
  have hwr:IntKind.i64.wrap ((k:Int)+1)=(k:Int)+1:=by rw[IntKind.wrap_i64];omega
  rw[hwr]
  clear hwr
  have HR:=hide (show rF E (w4.setCell ⟨bk,c,none⟩ (.int .i64 ((k:Int)+1))) (og T (y1,y2) c ((k:Int)+1)) more∧KC E.C w (w4.setCell ⟨bk,c,none⟩ (.int .i64 ((k:Int)+1)))from by
   have h1:=CW.out _ dM.out
   refine⟨?_,(KC.of_below (HB2.out.trans (dM.out.mono HB2.out.size))).trans (KC.kH _ _ (.inr ⟨(y1,y2),HD.out,sU.out.symm⟩))⟩
   have:=h1.put HE.out HD.out c Ht.out ((k:Int)+1)
   rw[sU.out]at this
   exact this)
  clear HQ CW dM HFR HB2
  generalize World.setCell w4 _ _=w5 at*
  have m0:w5.cell? ⟨E.mA,0,none⟩=some (.bool more):=HR.out.1.mo.1 0 _ rfl
  have m1:w5.frozen? ⟨E.mA,0,none⟩=false:=HR.out.1.mo.2 0
  go_wp2
  go_end0
  refine⟨rfl,_,true,HR.out.1.said HE.out true,HR.out.2.trans (KC.kH _ _ (.inl rfl)),?_⟩
  have hh:=vL.near (ls:=E.n.ls) (k:=k) (T:=T) (c:=c) (more:=more) HP.out (by rw[HV.out];omega)
  first | exact hh | (rw[HK.out];exact hh)
theorem Xt (E:SE) (hE:E.Ok) (w:World) (T:aB→Nat→Int) (more:Bool) (h:rF E w T more) (i port:Int) (a b s t:Nat) (hf:dW a b s t):
  Calls Tryz.prog 32 #[.int .i64 i,.int .i64 port,.agg #[.int .i64 (a:Int),.int .i64 (b:Int),.int .i64 (s:Int),.int .i64 (t:Int)],.pointer (some ⟨E.nA,0,none⟩),.pointer (some ⟨E.pS,0,none⟩),.pointer (some ⟨E.kA,0,none⟩),.pointer (some ⟨E.mA,0,none⟩)] w fun e w'=>e= .returned (.tuple #[])∧Y5 E w T more (i,port) (ay a b s t) w':=by
 cases hp:aD E.n.ls (i,port)with
 |some y=>exact TK E hE w T more h i port a b s t hf y.1 y.2 hp
 |none=>
  have qz:E.n.ln≤9223372036854775807:=by have:=hE.ln;have:=h.net.ls.1;omega
  refine(TJ w E.nA E.pS E.kA E.mA E.n qz (h.net.ls.below (RowKit.Below.refl _ _) (Nat.le_trans hE.BN h.sz)) h.nb i port ⟨(a:Int),(b:Int),(s:Int),(t:Int)⟩ hp).mono ?_
  rintro e w' ⟨rfl,hb⟩
  exact⟨rfl,T,more,h.up hE hb,KC.of_below hb,by unfold vL;rw[hp];exact⟨rfl,rfl⟩⟩
def SP (E:SE) (Dn:aB→Nat→Prop) (w:World):Prop:=∃T more,rF E w T more∧oh E.k (eT E.n.au E.n.ls E.k) Dn T more
theorem SP.congr {E:SE} {Dn dP:aB→Nat→Prop} {w:World} (h:SP E Dn w) (e:∀x c,c<16384→(Dn x c↔dP x c)):SP E dP w:=by
 obtain⟨T,more,h1,h2⟩:=h
 exact⟨T,more,h1,h2.congr e⟩
theorem SP.below {E:SE} {Dn:aB→Nat→Prop} {w w':World} (h:SP E Dn w) (hE:E.Ok) (hb:RowKit.Below E.N w w'):SP E Dn w':=by
 obtain⟨T,more,h1,h2⟩:=h
 exact⟨T,more,h1.below hE hb,h2⟩
theorem SP.up {E:SE} {Dn:aB→Nat→Prop} {w w':World} (h:SP E Dn w) (hE:E.Ok) (hb:RowKit.Below w.heap.size w w'):SP E Dn w':=by
 obtain⟨T,more,h1,h2⟩:=h
 exact⟨T,more,h1.up hE hb,h2⟩
theorem tK (E:SE) (hE:E.Ok) (w:World) (Dn:aB→Nat→Prop) (h:SP E Dn w) (i port:Int) (a b s t:Nat) (hf:dW a b s t):
  Calls Tryz.prog 32 #[.int .i64 i,.int .i64 port,.agg #[.int .i64 (a:Int),.int .i64 (b:Int),.int .i64 (s:Int),.int .i64 (t:Int)],.pointer (some ⟨E.nA,0,none⟩),.pointer (some ⟨E.pS,0,none⟩),.pointer (some ⟨E.kA,0,none⟩),.pointer (some ⟨E.mA,0,none⟩)] w fun e w'=>e= .returned (.tuple #[])∧SP E (nM E.n.ls (i,port) (ay a b s t) Dn) w'∧KC E.C w w':=by
 obtain⟨T,more,h1,h2⟩:=h
 refine(Xt E hE w T more h1 i port a b s t hf).mono ?_
 rintro e w' ⟨rfl,T',more',h3,h4,h5⟩
 exact⟨rfl,⟨T',more',h3,h2.put hf.lt h5⟩,h4⟩
theorem xg (E:SE) (hE:E.Ok) (w:World) (Dn:aB→Nat→Prop) (h:SP E Dn w) (i port:Int) (hD:E.D (i,port)) (c:Nat) (hc:c<16384):
  Calls Tryz.prog 64 #[.pointer (some ⟨E.s,0,none⟩),.int .i64 i,.int .i64 port,.int .i64 (c:Int),.int .i64 (E.k:Int)] w fun e w'=>e= .returned (.bool (iC E.n.au E.n.ls E.k (i,port) c))∧w=w':=by
 obtain⟨T,more,h1,h2⟩:=h
 have hd:=hE.dom _ hD
 refine(TI w E.s E.mb 0 E.D E.blk T E.M h1.st i port hd.1 hd.2 hD c hc (E.k:Int)).mono ?_
 rintro e w' ⟨rfl,rfl⟩
 rw[h2.was (i,port) c hc]
 exact⟨rfl,rfl⟩
def aP (ls:List ah) (i:Nat) (W:Nat→Nat→Bool) (T:Nat→Nat→Nat→Nat→Prop) (Dn:aB→Nat→Prop) (P C:Nat):aB→Nat→Prop:=fun x c'=>
 Dn x c'∨∃port c,(port<P∨(port=P∧c<C))∧c<16384∧W port c=true∧∃o:Nat,T port c o c'∧aD ls ((i:Int),(o:Int))=some x
section
variable {ls:List ah} {i:Nat} {W:Nat→Nat→Bool} {T:Nat→Nat→Nat→Nat→Prop} {Dn:aB→Nat→Prop} {P C:Nat}
theorem aP.zero (x:aB) (c':Nat):Dn x c'↔aP ls i W T Dn 0 0 x c':=
 ⟨.inl,fun h=>h.elim id (fun⟨port,c,h,_⟩=>by omega)⟩
theorem aP.row (x:aB) (c':Nat):aP ls i W T Dn P 16384 x c'↔aP ls i W T Dn (P+1) 0 x c':=by
 unfold aP
 refine or_congr Iff.rfl ⟨fun⟨port,c,h,hc,h2⟩=>⟨port,c,by omega,hc,h2⟩,fun⟨port,c,h,hc,h2⟩=>⟨port,c,by omega,hc,h2⟩⟩
theorem aP.no (h:W P C=false) (x:aB) (c':Nat):aP ls i W T Dn P C x c'↔aP ls i W T Dn P (C+1) x c':=by
 unfold aP
 refine or_congr Iff.rfl ⟨fun⟨port,c,h,hc,h2⟩=>⟨port,c,by omega,hc,h2⟩,fun⟨port,c,h1,hc,h2,h3⟩=>⟨port,c,?_,hc,h2,h3⟩⟩
 by_cases e:port=P∧c=C
 ·obtain⟨rfl,rfl⟩:=e
  rw[h]at h2;cases h2
 ·omega
theorem aP.step (h:W P C=true) (hC:C<16384) (x:aB) (c':Nat):(aP ls i W T Dn P C x c'∨∃o:Nat,T P C o c'∧aD ls ((i:Int),(o:Int))=some x)↔aP ls i W T Dn P (C+1) x c':=by
 unfold aP
 constructor
 ·rintro((h1 | ⟨port,c,h1,hc,h2⟩) | ⟨o,h1,h2⟩)
  ·exact .inl h1
  ·exact .inr ⟨port,c,by omega,hc,h2⟩
  ·exact .inr ⟨P,C,by omega,hC,h,o,h1,h2⟩
 ·rintro(h1 | ⟨port,c,h1,hc,h2,o,h3,h4⟩)
  ·exact .inl (.inl h1)
  ·by_cases e:port=P∧c=C
   ·obtain⟨rfl,rfl⟩:=e
    exact .inr ⟨o,h3,h4⟩
   ·exact .inl (.inr ⟨port,c,by omega,hc,h2,o,h3,h4⟩)
theorem aP.none_ (h:W P C=true) (hC:C<16384) (hT:∀o c',¬T P C o c') (x:aB) (c':Nat):aP ls i W T Dn P C x c'↔aP ls i W T Dn P (C+1) x c':=
 Iff.trans ⟨.inl,fun q=>q.elim id (fun⟨o,q,_⟩=>absurd q (hT o c'))⟩ (aP.step h hC x c')
theorem aP.one (h:W P C=true) (hC:C<16384) {o0 c0:Nat} (hT:∀o c',T P C o c'↔(o=o0∧c'=c0)) (x:aB) (c':Nat):nM ls ((i:Int),(o0:Int)) c0 (aP ls i W T Dn P C) x c'↔aP ls i W T Dn P (C+1) x c':=by
 refine Iff.trans ?_ (aP.step h hC x c')
 unfold nM
 refine or_congr Iff.rfl ⟨fun⟨h1,h2⟩=>⟨o0,(hT _ _).2 ⟨rfl,h2⟩,h1⟩,fun⟨o,h1,h2⟩=>?_⟩
 obtain⟨rfl,rfl⟩:=(hT _ _).1 h1
 exact⟨h2,rfl⟩
end
def iT (ds:List Dev) (ls:List ah) (k i:Nat) (d:Dev) (Dn:aB→Nat→Prop):aB→Nat→Prop:=fun x c=>
 Dn x c∨∃o:Nat,aD ls ((i:Int),(o:Int))=some x∧pU d (aD ls ((i:Int),1)).isSome (fun q c=>iC ds ls k ((i:Int),(q:Int)) c) o (c / 1024) (c / 64 % 16) (c / 8 % 8) (c % 8)
theorem aP.told {ds:List Dev} {ls:List ah} {k i:Nat} {d:Dev} {Dn:aB→Nat→Prop} (hd:fU d) {P:Nat} (hP:(P:Int)=aN d.kind) (x:aB) (c:Nat) (hc:c<16384):
  aP ls i (fun q c=>iC ds ls k ((i:Int),(q:Int)) c) (Tp d (aD ls ((i:Int),1)).isSome (fun q c=>iC ds ls k ((i:Int),(q:Int)) c)) Dn P 0 x c↔iT ds ls k i d Dn x c:=by
 unfold aP iT
 refine or_congr Iff.rfl ?_
 have e:(aN d.kind).toNat =P:=by omega
 constructor
 ·rintro⟨port,c1,h1,h2,h3,o,h4,h5⟩
  exact⟨o,h5,(Q7 hd hc).1 ⟨port,c1,by omega,h2,h3,h4⟩⟩
 ·rintro⟨o,h5,h6⟩
  obtain⟨port,c1,h1,h2,h3,h4⟩:=(Q7 hd hc).2 h6
  exact⟨port,c1,.inl (by omega),h2,h3,o,h4,h5⟩
theorem KC.Y6 {C:Nat→Prop} {w wr:World} (h:KC C w wr) (a:Addr) (v:Value) (hw:w.heap.size≤a.block):KC C w (wr.setCell a v):=
 ⟨h.low.trans ((RowKit.Below.refl 0 wr).setCell (Nat.zero_le _) v),fun b hb hc=>(RowKit.Below.heap_setCell wr a v b (by omega)).trans (h.same b hb hc)⟩
structure DW (E:SE) (w:World) (Dd:Nat) (cs:Array Value) (Dn:aB→Nat→Prop) (wr:World):Prop where
 sp:SP E Dn wr
 kc:KC E.C w wr
 bx:Bx wr Dd cs 81
 dd:E.N≤Dd
section
variable {E:SE} {w wr w':World} {Dd:Nat} {cs:Array Value} {Dn dP:aB→Nat→Prop}
theorem SP.sz (h:SP E Dn wr):E.N≤wr.heap.size:=by obtain⟨T,more,h1,_⟩:=h;exact h1.sz
theorem DW.below (h:DW E w Dd cs Dn wr) (hE:E.Ok) (hb:RowKit.Below wr.heap.size wr w'):DW E w Dd cs Dn w':=
 ⟨h.sp.up hE hb,h.kc.trans (KC.of_below hb),h.bx.below hb,h.dd⟩
theorem DW.Ab (hE:E.Ok) {b:Nat} (hb:E.N≤b):¬E.C b:=fun hc=>by have:=(hE.Q5 b hc).2;omega
theorem DW.put (h:DW E w Dd cs Dn wr) (hE:E.Ok) (hs:SP E dP w') (hk:KC E.C wr w'):DW E w Dd cs dP w':=
 ⟨hs,h.kc.trans hk,h.bx.kc hk (DW.Ab hE h.dd),h.dd⟩
theorem DW.congr (h:DW E w Dd cs Dn wr) (e:∀x c,c<16384→(Dn x c↔dP x c)):DW E w Dd cs dP wr:=⟨h.sp.congr e,h.kc,h.bx,h.dd⟩
theorem DW.set (h:DW E w Dd cs Dn wr) (hE:E.Ok) (a:Addr) (v:Value) (ha:E.N≤a.block) (hw:w.heap.size≤a.block) (hn:Dd≠a.block):DW E w Dd cs Dn (wr.setCell a v):=
 ⟨h.sp.below hE ((RowKit.Below.refl _ _).setCell ha v),h.kc.Y6 a v hw,h.bx.far a v hn,h.dd⟩
theorem SP.net (h:SP E Dn wr) (hE:E.Ok):bq wr wr.heap.size E.n:=by
 obtain⟨T,more,h1,_⟩:=h
 exact h1.net.below (RowKit.Below.refl _ _) (Nat.le_trans hE.BN h1.sz)
end
theorem pV (r:Option Pl):∃x y:Int,pJ r= .tuple #[.agg #[.int .i64 x,.int .i64 y],.bool r.isSome]:=by
 cases r with
 |none=>exact⟨0,0,rfl⟩
 |some x=>exact⟨x.1,x.2,rfl⟩
section
variable {d:Dev} {opn:Bool} {W:Nat→Nat→Bool} {p c o c':Nat}
theorem aay (h:d.kind=2):Tp d opn W p c o c'↔Q6 d c o c':=by simp[Tp,h]
theorem Wd (h:d.kind=3):Tp d opn W p c o c'↔MN d opn W p c o c':=by simp[Tp,h]
theorem IZ (h:d.kind=4):Tp d opn W p c o c'↔Kr d opn W p c o c':=by simp[Tp,h]
theorem Wh (h:d.kind=5):Tp d opn W p c o c'↔zh d opn W p c o c':=by simp[Tp,h]
theorem OD {c a b s t:Nat} (h1:c / 1024=a) (h2:c / 64 % 16=b) (h3:c / 8 % 8=s) (h4:c % 8=t):pk c=⟨(a:Int),(b:Int),(s:Int),(t:Int)⟩:=by
 subst h1 h2 h3 h4
 rfl
end
theorem Ac (a b c d:Int) (W:World):Calls Tryz.prog 67 #[.agg #[.int .i64 a,.int .i64 b,.int .i64 c,.int .i64 d]] W fun e W'=>e= .returned (.agg #[.int .i64 b,.int .i64 a,.int .i64 d,.int .i64 c])∧RowKit.Below W.heap.size W W':=by
 have hb:RowKit.Below W.heap.size W (((W.alloc (.cells #[.int .i64 a,.int .i64 b,.int .i64 c,.int .i64 d] 29)).alloc (.cells #[.int .i64 b,.int .i64 a,.int .i64 d,.int .i64 c] 29))):=((RowKit.Below.refl _ _).alloc (Nat.le_refl _) _).alloc (by simp) _
 have hx:=MJ (heap_alloc_new (W.alloc (.cells #[.int .i64 a,.int .i64 b,.int .i64 c,.int .i64 d] 29)) (.cells #[.int .i64 b,.int .i64 a,.int .i64 d,.int .i64 c] 29))
 have HB:=hide hb
 have hs:(W.alloc (.cells #[.int .i64 a,.int .i64 b,.int .i64 c,.int .i64 d] 29)).heap.size =W.heap.size+1:=by simp
 rw[hs]at hx
 clear hb hs
 go_enter Tryz.func67,Tryz.ntmps67
 go_wp2
 obtain⟨z0,z1,z2,z3⟩:=hx
 generalize World.alloc (World.alloc W _) _=W2 at*
 refine bodyPost_ret (v:=.agg #[.int .i64 b,.int .i64 a,.int .i64 d,.int .i64 c]) (by simp[results,Tryz.f67,go_sem,z0,z1,z2,z3]) rfl ⟨rfl,HB.out⟩
end Go.Proofs.YtifkacnoiocebaaGreat
