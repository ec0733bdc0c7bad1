/- A part of the proof: Pm2, Rd11, Rd12. -/
import Derived.Test.YtifkacnoiocebaaGreatDz25
set_option linter.unusedVariables false
set_option linter.unusedSimpArgs false
set_option maxRecDepth 100000
set_option maxHeartbeats 4000000
namespace Go.Proofs.YtifkacnoiocebaaGreat
open aj Go.Maps Go.RowKit
theorem oW (m:M4):aj.Below 14 (bI m):=nL _ _ _ _
theorem E8 {a:Nat} (h:a<16):Nat.testBit 65535 a=true:=by
 have:∀i:Fin 16,Nat.testBit 65535 i.val=true:=by decide+kernel
 exact this ⟨a,h⟩
theorem Cv {a:Nat} (h:a<8):Nat.testBit 255 a=true:=by
 have:∀i:Fin 8,Nat.testBit 255 i.val=true:=by decide+kernel
 exact this ⟨a,h⟩
theorem zX (m:M4) {a b s t:Nat} (h:dW a b s t):bI m (aH (ay a b s t))=(m.src.testBit a && m.dst.testBit b && m.dz.testBit s && m.dU.testBit t):=by
 unfold bI
 rw[DI _ _ _ _ _ h.lt]
 obtain⟨e1,e2,e3,e4⟩:=h.parts
 rw[e1,e2,e3,e4]
 rfl
theorem Cw (A a:Nat):(2 ^ A).testBit a=decide (A=a):=Nat.testBit_two_pow
theorem IL {A a b s t:Nat} (h:dW a b s t):bI (kS A) (aH (ay a b s t))=decide (A=b):=by
 rw[zX _ h]
 show(Nat.testBit 65535 a && (2 ^ A).testBit b && Nat.testBit 255 s && Nat.testBit 255 t)=_
 rw[E8 h.a,Cv h.s,Cv h.d,Cw]
 simp
theorem VU {A a b s t:Nat} (h:dW a b s t):bI (sM A) (aH (ay a b s t))=decide (A=a):=by
 rw[zX _ h]
 show((2 ^ A).testBit a && Nat.testBit 65535 b && Nat.testBit 255 s && Nat.testBit 255 t)=_
 rw[E8 h.b,Cv h.s,Cv h.d,Cw]
 simp
theorem YZ {A pl a b s t:Nat} (h:dW a b s t):bI (wU A pl) (aH (ay a b s t))=(decide (A=a) && pl.testBit s):=by
 rw[zX _ h]
 show((2 ^ A).testBit a && Nat.testBit 65535 b && pl.testBit s && Nat.testBit 255 t)=_
 rw[E8 h.b,Cv h.d,Cw]
 simp
theorem QI {A pl a b s t:Nat} (h:dW a b s t):bI (Bz A pl) (aH (ay a b s t))=(decide (A=b) && pl.testBit t):=by
 rw[zX _ h]
 show(Nat.testBit 65535 a && (2 ^ A).testBit b && Nat.testBit 255 s && pl.testBit t)=_
 rw[E8 h.a,Cv h.s,Cw]
 simp
theorem ku (ls:List ah) (y:Pl) (F:aj.Fn) (S:Pl→aj.Fn) (x:Pl) (c:iq):eH ls y F S x c=true↔S x c=true∨(aD ls y=some x∧F c=true):=by
 unfold eH
 cases e:aD ls y with
 |none=>simp
 |some z=>
  show(if z=x then vO (S z) F else S x) c=true↔_
  by_cases h:z=x
  ·subst h
   rw[if_pos rfl,Qa,Bool.or_eq_true]
   simp
  ·rw[if_neg h]
   simp[h]
def IQ (d:Dev) (W:Nat→Nat→Bool) (o a b s t:Nat):Prop:=o<4∧(∃k,k<4∧W k (ay a b s t)=true)∧je d.routes (o:Int) b=true∧iY d.rules (pk (ay a b s t))=true
def IU (d:Dev) (opn:Bool) (W:Nat→Nat→Bool) (o a b s t:Nat):Prop:=
 (o=1∧W 0 (ay a b s t)=true∧iY d.rules (pk (ay a b s t))=true)∨(opn=true∧o=0∧W 1 (ay a b s t)=true∧W 0 (ay b a t s)=true∧iY d.rules (pk (ay b a t s))=true)
def IV (d:Dev) (opn:Bool) (W:Nat→Nat→Bool) (o a b s t:Nat):Prop:=
 (o=1∧(∃y,y<8∧∃x,x<16∧W 0 (ay x b y t)=true)∧d.addr.toNat=a∧d.pool.testBit s=true)∨
 (opn=true∧o=0∧(∃y,y<8∧∃x,x<16∧W 1 (ay a x s y)=true∧d.addr.toNat=x∧d.pool.testBit y=true)∧∃y,y<8∧∃x,x<16∧W 0 (ay b x t y)=true)
def IW (d:Dev) (opn:Bool) (W:Nat→Nat→Bool) (o a b s t:Nat):Prop:=
 (o=1∧W 0 (ay a b s t)=true∧d.addr.toNat≠b)∨(o=0∧W 1 (ay a b s t)=true)∨
 ∃x∈d.backs,(o=1∧W 0 (ay a d.addr.toNat s t)=true∧x.toNat=b)∨(opn=true∧o=0∧W 1 (ay x.toNat b s t)=true∧W 0 (ay b d.addr.toNat t s)=true∧d.addr.toNat=a)
variable {ls:List ah} {i:Nat} {d:Dev} {Sw Sn:Pl→aj.Fn} {a b s t:Nat} {x:Pl}
theorem Oq (hw:gN Sw) (hr:∀r∈d.rules,r.ok) (h:dW a b s t):
  sP ls i d.rules Sw Sn x (aH (ay a b s t))=true↔Sn x (aH (ay a b s t))=true∨∃o:Nat,aD ls ((i:Int),(o:Int))=some x∧IU d (aD ls ((i:Int),1)).isSome (fun k c=>Sw ((i:Int),(k:Int)) (aH c)) o a b s t:=by
 have h2:dW b a t s:=⟨h.b,h.a,h.d,h.s⟩
 have e1:bf (Sw ((i:Int),0)) (dB d.rules) (aH (ay a b s t))=true↔Sw ((i:Int),0) (aH (ay a b s t))=true∧iY d.rules (pk (ay a b s t))=true:=by
  rw[jD,BJ _ hr _ h.lt,Bool.and_eq_true]
 have e2:bf (Sw ((i:Int),1)) (mH (bf (Sw ((i:Int),0)) (dB d.rules))) (aH (ay a b s t))=true↔Sw ((i:Int),1) (aH (ay a b s t))=true∧Sw ((i:Int),0) (aH (ay b a t s))=true∧iY d.rules (pk (ay b a t s))=true:=by
  rw[jD,Gq (gM (hw _) (Cu _)) h,jD,BJ _ hr _ h2.lt,Bool.and_eq_true,Bool.and_eq_true]
 unfold sP
 cases ho:(aD ls ((i:Int),1)).isSome
 ·rw[if_neg (by simp),ku,e1]
  constructor
  ·rintro(q | ⟨q1,q2,q3⟩)
   ·exact .inl q
   ·exact .inr ⟨1,q1,.inl ⟨rfl,q2,q3⟩⟩
  ·rintro(q | ⟨o,q1,⟨rfl,q2,q3⟩ | ⟨q,_⟩⟩)
   ·exact .inl q
   ·exact .inr ⟨q1,q2,q3⟩
   ·cases q
 ·rw[if_pos rfl,ku,ku,e1,e2]
  constructor
  ·rintro((q | ⟨q1,q2,q3⟩) | ⟨q1,q2,q3,q4⟩)
   ·exact .inl q
   ·exact .inr ⟨1,q1,.inl ⟨rfl,q2,q3⟩⟩
   ·exact .inr ⟨0,q1,.inr ⟨rfl,rfl,q2,q3,q4⟩⟩
  ·rintro(q | ⟨o,q1,⟨rfl,q2,q3⟩ | ⟨_,rfl,q2,q3,q4⟩⟩)
   ·exact .inl (.inl q)
   ·exact .inl (.inr ⟨q1,q2,q3⟩)
   ·exact .inr ⟨q1,q2,q3,q4⟩
theorem QJ (hw:gN Sw) (h:dW a b s t):
  wV ls i d.addr.toNat d.pool Sw Sn x (aH (ay a b s t))=true↔Sn x (aH (ay a b s t))=true∨∃o:Nat,aD ls ((i:Int),(o:Int))=some x∧IV d (aD ls ((i:Int),1)).isSome (fun k c=>Sw ((i:Int),(k:Int)) (aH c)) o a b s t:=by
 have h2:dW b a t s:=⟨h.b,h.a,h.d,h.s⟩
 have e1:bf (yj i Sw) (bI (wU d.addr.toNat d.pool)) (aH (ay a b s t))=true↔(∃y,y<8∧∃x,x<16∧Sw ((i:Int),0) (aH (ay x b y t))=true)∧d.addr.toNat=a∧d.pool.testBit s=true:=by
  rw[jD,YZ h,Bool.and_eq_true,Bool.and_eq_true,decide_eq_true_eq]
  unfold yj
  rw[Xh (jF (hw _) _ _) h]
  exact and_congr ⟨fun⟨y,q1,q2⟩=>⟨y,q1,(Gp (hw _) ⟨h.a,h.b,q1,h.d⟩).1 q2⟩,fun⟨y,q1,q2⟩=>⟨y,q1,(Gp (hw _) ⟨h.a,h.b,q1,h.d⟩).2 q2⟩⟩ Iff.rfl
 have e2:bf (JU i d.addr.toNat d.pool Sw) (JV i Sw) (aH (ay a b s t))=true↔(∃y,y<8∧∃x,x<16∧Sw ((i:Int),1) (aH (ay a x s y))=true∧d.addr.toNat=x∧d.pool.testBit y=true)∧∃y,y<8∧∃x,x<16∧Sw ((i:Int),0) (aH (ay b x t y))=true:=by
  rw[jD,Bool.and_eq_true]
  unfold JU JV
  rw[Gq (jF (jF (hw _) _ _) _ _) h,MF (jF (hw _) _ _) h2,MF (jF (gM (hw _) (oW _)) _ _) h]
  refine and_congr ?_ ?_
  ·constructor
   ·rintro⟨y,q1,q2⟩
    obtain⟨v,q3,q4⟩:=(y8 (gM (hw _) (oW _)) ⟨h.a,h.b,h.s,q1⟩).1 q2
    rw[jD,QI ⟨h.a,q3,h.s,q1⟩,Bool.and_eq_true,Bool.and_eq_true,decide_eq_true_eq]at q4
    exact⟨y,q1,v,q3,q4⟩
   ·rintro⟨y,q1,v,q3,q4⟩
    refine⟨y,q1,(y8 (gM (hw _) (oW _)) ⟨h.a,h.b,h.s,q1⟩).2 ⟨v,q3,?_⟩⟩
    rw[jD,QI ⟨h.a,q3,h.s,q1⟩,Bool.and_eq_true,Bool.and_eq_true,decide_eq_true_eq]
    exact q4
  ·exact⟨fun⟨y,q1,q2⟩=>⟨y,q1,(y8 (hw _) ⟨h.b,h.a,h.d,q1⟩).1 q2⟩,fun⟨y,q1,q2⟩=>⟨y,q1,(y8 (hw _) ⟨h.b,h.a,h.d,q1⟩).2 q2⟩⟩
 unfold wV
 cases ho:(aD ls ((i:Int),1)).isSome
 ·rw[if_neg (by simp),ku,e1]
  constructor
  ·rintro(q | ⟨q1,q2⟩)
   ·exact .inl q
   ·exact .inr ⟨1,q1,.inl ⟨rfl,q2⟩⟩
  ·rintro(q | ⟨o,q1,⟨rfl,q2⟩ | ⟨q,_⟩⟩)
   ·exact .inl q
   ·exact .inr ⟨q1,q2⟩
   ·cases q
 ·rw[if_pos rfl,ku,ku,e1,e2]
  constructor
  ·rintro((q | ⟨q1,q2⟩) | ⟨q1,q2⟩)
   ·exact .inl q
   ·exact .inr ⟨1,q1,.inl ⟨rfl,q2⟩⟩
   ·exact .inr ⟨0,q1,.inr ⟨rfl,rfl,q2⟩⟩
  ·rintro(q | ⟨o,q1,⟨rfl,q2⟩ | ⟨_,rfl,q2⟩⟩)
   ·exact .inl (.inl q)
   ·exact .inl (.inr ⟨q1,q2⟩)
   ·exact .inr ⟨q1,q2⟩
theorem J9 (hw:gN Sw) (hr:∀r∈d.rules,r.ok) (h:dW a b s t):
  yZ ls i d.routes d.rules Sw Sn x (aH (ay a b s t))=true↔Sn x (aH (ay a b s t))=true∨∃o:Nat,aD ls ((i:Int),(o:Int))=some x∧IQ d (fun k c=>Sw ((i:Int),(k:Int)) (aH c)) o a b s t:=by
 have ho:∀(F:aj.Fn) (S:Pl→aj.Fn) (n:Nat),qF ls i d.routes F S n x (aH (ay a b s t))=true↔S x (aH (ay a b s t))=true∨∃o:Nat,o<n∧aD ls ((i:Int),(o:Int))=some x∧F (aH (ay a b s t))=true∧je d.routes (o:Int) b=true:=fun F S n=>by
  induction n with
  |zero=>exact⟨.inl,fun q=>q.elim id (fun⟨o,q,_⟩=>absurd q (by omega))⟩
  |succ n ih=>
   have e:Ho d.routes (n:Int) (aH (ay a b s t))=je d.routes (n:Int) b:=by
    unfold Ho
    rw[WM _ _ _ h.lt,h.parts.2.1]
   show eH ls ((i:Int),(n:Int)) (bf F (Ho d.routes (n:Int))) (qF ls i d.routes F S n) x _=true↔_
   rw[ku,ih,jD,e,Bool.and_eq_true]
   constructor
   ·rintro((q | ⟨o,q1,q2⟩) | ⟨q1,q2⟩)
    ·exact .inl q
    ·exact .inr ⟨o,by omega,q2⟩
    ·exact .inr ⟨n,by omega,q1,q2⟩
   ·rintro(q | ⟨o,q1,q2⟩)
    ·exact .inl (.inl q)
    ·rcases Nat.lt_or_ge o n with hl | hl
     ·exact .inl (.inr ⟨o,hl,q2⟩)
     ·obtain rfl:o=n:=by omega
      exact .inr q2
 have hi:∀n,qK ls i d.routes d.rules Sw Sn n x (aH (ay a b s t))=true↔Sn x (aH (ay a b s t))=true∨∃k:Nat,k<n∧∃o:Nat,o<4∧aD ls ((i:Int),(o:Int))=some x∧(Sw ((i:Int),(k:Int)) (aH (ay a b s t))=true∧iY d.rules (pk (ay a b s t))=true)∧je d.routes (o:Int) b=true:=fun n=>by
  induction n with
  |zero=>exact⟨.inl,fun q=>q.elim id (fun⟨o,q,_⟩=>absurd q (by omega))⟩
  |succ n ih=>
   show qF ls i d.routes (bf (Sw ((i:Int),(n:Int))) (dB d.rules)) (qK ls i d.routes d.rules Sw Sn n) 4 x _=true↔_
   rw[ho,ih]
   simp only[jD,BJ _ hr _ h.lt,Bool.and_eq_true]
   constructor
   ·rintro((q | ⟨k,q1,q2⟩) | q2)
    ·exact .inl q
    ·exact .inr ⟨k,by omega,q2⟩
    ·exact .inr ⟨n,by omega,q2⟩
   ·rintro(q | ⟨k,q1,q2⟩)
    ·exact .inl (.inl q)
    ·rcases Nat.lt_or_ge k n with hl | hl
     ·exact .inl (.inr ⟨k,hl,q2⟩)
     ·obtain rfl:k=n:=by omega
      exact .inr q2
 refine(hi 4).trans (or_congr Iff.rfl ?_)
 constructor
 ·rintro⟨k,hk,o,ho,q1,⟨q2,q3⟩,q4⟩
  exact⟨o,q1,ho,⟨k,hk,q2⟩,q4,q3⟩
 ·rintro⟨o,q1,ho,⟨k,hk,q2⟩,q4,q3⟩
  exact⟨k,hk,o,ho,q1,⟨q2,q3⟩,q4⟩
theorem Ot (hw:gN Sw) (A x:Nat) (hA:A<16) (h:dW a b s t):sO (kT i A Sw) x (aH (ay a b s t))=true↔Sw ((i:Int),0) (aH (ay a A s t))=true∧x=b:=by
 unfold sO kT
 rw[jD,IL h,Bool.and_eq_true,decide_eq_true_eq,y8 (gM (hw _) (oW _)) h]
 refine and_congr ?_ Iff.rfl
 constructor
 ·rintro⟨v,hv,q⟩
  rw[jD,IL ⟨h.a,hv,h.s,h.d⟩,Bool.and_eq_true,decide_eq_true_eq]at q
  rw[q.2];exact q.1
 ·intro q
  refine⟨A,hA,?_⟩
  rw[jD,IL ⟨h.a,hA,h.s,h.d⟩,Bool.and_eq_true,decide_eq_true_eq]
  exact⟨q,rfl⟩
theorem Xj (hw:gN Sw) (A x:Nat) (hA:A<16) (hx:x<16) (h:dW a b s t):vU (zQ i A x Sw) A (aH (ay a b s t))=true↔(Sw ((i:Int),1) (aH (ay x b s t))=true∧Sw ((i:Int),0) (aH (ay b A t s))=true)∧A=a:=by
 have ht:aj.Below 14 (sO (kT i A Sw) x):=gM (jF (gM (hw _) (oW _)) _ _) (oW _)
 unfold vU zQ
 rw[jD,VU h,Bool.and_eq_true,decide_eq_true_eq,Gp (gM (hw _) (zW ht)) h]
 refine and_congr ?_ Iff.rfl
 have e:∀v,v<16→(bf (Sw ((i:Int),1)) (mH (sO (kT i A Sw) x)) (aH (ay v b s t))=true↔Sw ((i:Int),1) (aH (ay v b s t))=true∧Sw ((i:Int),0) (aH (ay b A t s))=true∧x=v):=fun v hv=>by
  rw[jD,Gq ht ⟨hv,h.b,h.s,h.d⟩,Bool.and_eq_true,Ot hw A x hA ⟨h.b,hv,h.d,h.s⟩]
 constructor
 ·rintro⟨v,hv,q⟩
  obtain⟨q1,q2,rfl⟩:=(e v hv).1 q
  exact⟨q1,q2⟩
 ·rintro⟨q1,q2⟩
  exact⟨x,hx,(e x hx).2 ⟨q1,q2,rfl⟩⟩
theorem QK (hw:gN Sw) (hA:d.addr.toNat<16) (hB:∀x∈d.backs,x.toNat<16) (h:dW a b s t):
  zR ls i d.addr.toNat d.backs Sw Sn x (aH (ay a b s t))=true↔Sn x (aH (ay a b s t))=true∨∃o:Nat,aD ls ((i:Int),(o:Int))=some x∧IW d (aD ls ((i:Int),1)).isSome (fun k c=>Sw ((i:Int),(k:Int)) (aH c)) o a b s t:=by
 have h0:Gh ls i d.addr.toNat Sw Sn x (aH (ay a b s t))=true↔Sn x (aH (ay a b s t))=true∨∃o:Nat,aD ls ((i:Int),(o:Int))=some x∧((o=1∧Sw ((i:Int),0) (aH (ay a b s t))=true∧d.addr.toNat≠b)∨(o=0∧Sw ((i:Int),1) (aH (ay a b s t))=true)):=by
  unfold Gh
  rw[ku,ku,jD,Bool.and_eq_true]
  have e:qh (bI (kS d.addr.toNat)) (aH (ay a b s t))=true↔d.addr.toNat≠b:=by
   unfold qh bE
   rw[IL h]
   by_cases e:d.addr.toNat=b<;>simp[e]
  rw[e]
  constructor
  ·rintro((q | ⟨q1,q2⟩) | ⟨q1,q2⟩)
   ·exact .inl q
   ·exact .inr ⟨1,q1,.inl ⟨rfl,q2⟩⟩
   ·exact .inr ⟨0,q1,.inr ⟨rfl,q2⟩⟩
  ·rintro(q | ⟨o,q1,⟨rfl,q2⟩ | ⟨rfl,q2⟩⟩)
   ·exact .inl (.inl q)
   ·exact .inl (.inr ⟨q1,q2⟩)
   ·exact .inr ⟨q1,q2⟩
 have hs:∀(z:Int) (S:Pl→aj.Fn),z.toNat<16→(kX ls i d.addr.toNat Sw z.toNat S x (aH (ay a b s t))=true↔S x (aH (ay a b s t))=true∨∃o:Nat,aD ls ((i:Int),(o:Int))=some x∧
   ((o=1∧Sw ((i:Int),0) (aH (ay a d.addr.toNat s t))=true∧z.toNat=b)∨((aD ls ((i:Int),1)).isSome =true∧o=0∧Sw ((i:Int),1) (aH (ay z.toNat b s t))=true∧Sw ((i:Int),0) (aH (ay b d.addr.toNat t s))=true∧d.addr.toNat=a))):=fun z S hz=>by
  unfold kX
  cases ho:(aD ls ((i:Int),1)).isSome
  ·rw[if_neg (by simp),ku,Ot hw _ _ hA h]
   constructor
   ·rintro(q | ⟨q1,q2⟩)
    ·exact .inl q
    ·exact .inr ⟨1,q1,.inl ⟨rfl,q2⟩⟩
   ·rintro(q | ⟨o,q1,⟨rfl,q2⟩ | ⟨q,_⟩⟩)
    ·exact .inl q
    ·exact .inr ⟨q1,q2⟩
    ·cases q
  ·rw[if_pos rfl,ku,ku,Ot hw _ _ hA h,Xj hw _ _ hA hz h]
   constructor
   ·rintro((q | ⟨q1,q2⟩) | ⟨q1,⟨q2,q3⟩,q4⟩)
    ·exact .inl q
    ·exact .inr ⟨1,q1,.inl ⟨rfl,q2⟩⟩
    ·exact .inr ⟨0,q1,.inr ⟨rfl,rfl,q2,q3,q4⟩⟩
   ·rintro(q | ⟨o,q1,⟨rfl,q2⟩ | ⟨_,rfl,q2,q3,q4⟩⟩)
    ·exact .inl (.inl q)
    ·exact .inl (.inr ⟨q1,q2⟩)
    ·exact .inr ⟨q1,⟨q2,q3⟩,q4⟩
 have hf:∀(l:List Int) (S:Pl→aj.Fn),(∀z∈l,z.toNat<16)→(l.foldl (fun S z=>kX ls i d.addr.toNat Sw z.toNat S) S x (aH (ay a b s t))=true↔S x (aH (ay a b s t))=true∨∃z∈l,∃o:Nat,aD ls ((i:Int),(o:Int))=some x∧
   ((o=1∧Sw ((i:Int),0) (aH (ay a d.addr.toNat s t))=true∧z.toNat=b)∨((aD ls ((i:Int),1)).isSome =true∧o=0∧Sw ((i:Int),1) (aH (ay z.toNat b s t))=true∧Sw ((i:Int),0) (aH (ay b d.addr.toNat t s))=true∧d.addr.toNat=a))):=fun l=>by
  induction l with
  |nil=>exact fun S _=>⟨.inl,fun q=>q.elim id (fun⟨z,q,_⟩=>by cases q)⟩
  |cons z l ih=>
   intro S hl
   rw[List.foldl_cons,ih _ (fun y hy=>hl y (List.mem_cons_of_mem _ hy)),hs z S (hl z List.mem_cons_self)]
   constructor
   ·rintro((q | q) | ⟨y,hy,q⟩)
    ·exact .inl q
    ·exact .inr ⟨z,List.mem_cons_self,q⟩
    ·exact .inr ⟨y,List.mem_cons_of_mem _ hy,q⟩
   ·rintro(q | ⟨y,hy,q⟩)
    ·exact .inl (.inl q)
    ·rcases List.mem_cons.1 hy with rfl | hy
     ·exact .inl (.inr q)
     ·exact .inr ⟨y,hy,q⟩
 unfold zR oD
 rw[List.take_length,hf _ _ hB,h0]
 constructor
 ·rintro((q | ⟨o,q1,q2 | q2⟩) | ⟨z,hz,o,q1,q2⟩)
  ·exact .inl q
  ·exact .inr ⟨o,q1,.inl q2⟩
  ·exact .inr ⟨o,q1,.inr (.inl q2)⟩
  ·exact .inr ⟨o,q1,.inr (.inr ⟨z,hz,q2⟩)⟩
 ·rintro(q | ⟨o,q1,q2 | q2 | ⟨z,hz,q2⟩⟩)
  ·exact .inl (.inl q)
  ·exact .inl (.inr ⟨o,q1,.inl q2⟩)
  ·exact .inl (.inr ⟨o,q1,.inr q2⟩)
  ·exact .inr ⟨z,hz,o,q1,q2⟩
def pU (d:Dev) (opn:Bool) (W:Nat→Nat→Bool) (o a b s t:Nat):Prop:=
 (d.kind=2∧IQ d W o a b s t)∨(d.kind=3∧IU d opn W o a b s t)∨(d.kind=4∧IV d opn W o a b s t)∨(d.kind=5∧IW d opn W o a b s t)
theorem QL (hd:fU d) (hr:∀r∈d.rules,r.ok) (hw:gN Sw) (h:dW a b s t):
  BH ls i d Sw Sn x (aH (ay a b s t))=true↔Sn x (aH (ay a b s t))=true∨∃o:Nat,aD ls ((i:Int),(o:Int))=some x∧pU d (aD ls ((i:Int),1)).isSome (fun k c=>Sw ((i:Int),(k:Int)) (aH c)) o a b s t:=by
 unfold BH
 by_cases k2:d.kind=2
 ·rw[if_pos k2,J9 hw hr h]
  simp[pU,k2]
 rw[if_neg k2]
 by_cases k3:d.kind=3
 ·rw[if_pos k3,Oq hw hr h]
  simp[pU,k3]
 rw[if_neg k3]
 by_cases k4:d.kind=4
 ·rw[if_pos k4,QJ hw h]
  simp[pU,k4]
 rw[if_neg k4]
 by_cases k5:d.kind=5
 ·have h1:=hd.qA (.inr (.inr k5))
  rw[if_pos k5,QK hw (by omega) (fun z hz=>by
   have h1:=hd.bb
   unfold bQ at h1
   rw[Bool.and_eq_true]at h1
   have:=vW _ _ _ h1.1 z hz
   omega) h]
  simp[pU,k5]
 ·rw[if_neg k5]
  simp[pU,k2,k3,k4,k5]
theorem gN.zero:gN (fun _ _=>false):=fun _=>aj.Below.const _ _
theorem gN.next {Sw S:Pl→aj.Fn} (hw:gN Sw) (h:gN S) (ds:List Dev) (ls:List ah):∀k,gN (gT ds ls Sw S k)
 |0=>h
 |k+1=>by
  simp only[gT]
  split
  ·exact gN.dev hw (gN.next hw h ds ls k) ls k _
  ·exact gN.next hw h ds ls k
theorem gN.first {S:Pl→aj.Fn} (h:gN S) (ds:List Dev) (ls:List ah):∀k,gN (jq ds ls S k)
 |0=>h
 |k+1=>by
  simp only[jq]
  split
  ·unfold Cr
   split
   ·exact(gN.first h ds ls k).send _ _ (oW _)
   ·exact gN.first h ds ls k
  ·exact gN.first h ds ls k
theorem gN.round (ds:List Dev) (ls:List ah):∀k,gN (aF ds ls k)
 |0=>gN.first gN.zero ds ls _
 |k+1=>gN.next (gN.round ds ls k) (gN.round ds ls k) ds ls _
theorem Ou {ds:List Dev} (hd:∀d∈ds,fU d) (hr:∀d∈ds,∀r∈d.rules,r.ok) (hw:gN Sw) (h:dW a b s t):∀k,k≤ds.length→(gT ds ls Sw Sn k x (aH (ay a b s t))=true↔Sn x (aH (ay a b s t))=true∨
  ∃(i:Nat) (d:Dev) (o:Nat),i<k∧ds[i]?=some d∧aD ls ((i:Int),(o:Int))=some x∧pU d (aD ls ((i:Int),1)).isSome (fun q c=>Sw ((i:Int),(q:Int)) (aH c)) o a b s t):=by
 intro k
 induction k with
 |zero=>exact fun _=>⟨.inl,fun q=>q.elim id (fun⟨i,d,o,q,_⟩=>absurd q (by omega))⟩
 |succ k ih=>
  intro hk
  obtain⟨d,hdk⟩:∃d,ds[k]?=some d:=⟨ds[k],List.getElem?_eq_getElem hk⟩
  have hm:=List.mem_of_getElem? hdk
  rw[Di hdk,QL (hd d hm) (hr d hm) hw h,ih (by omega)]
  constructor
  ·rintro((q | ⟨i,e,o,q1,q2⟩) | ⟨o,q⟩)
   ·exact .inl q
   ·exact .inr ⟨i,e,o,by omega,q2⟩
   ·exact .inr ⟨k,d,o,by omega,hdk,q⟩
  ·rintro(q | ⟨i,e,o,q1,q2,q3⟩)
   ·exact .inl (.inl q)
   ·rcases Nat.lt_or_ge i k with hl | hl
    ·exact .inl (.inr ⟨i,e,o,hl,q2,q3⟩)
    ·obtain rfl:i=k:=by omega
     obtain rfl:d=e:=Option.some.inj (hdk.symm.trans q2)
     exact .inr ⟨o,q3⟩
theorem Li {ds:List Dev} (h:dW a b s t):∀k,k≤ds.length→(jq ds ls (fun _ _=>false) k x (aH (ay a b s t))=true↔
  ∃(i:Nat) (d:Dev),i<k∧ds[i]?=some d∧d.kind=1∧aD ls ((i:Int),0)=some x∧d.addr.toNat=a):=by
 intro k
 induction k with
 |zero=>exact fun _=>⟨fun q=>(by cases q),fun⟨i,d,q,_⟩=>absurd q (by omega)⟩
 |succ k ih=>
  intro hk
  obtain⟨d,hdk⟩:∃d,ds[k]?=some d:=⟨ds[k],List.getElem?_eq_getElem hk⟩
  rw[BI hdk]
  have hu:∀(i:Nat) (e:Dev),i<k+1→ds[i]?=some e→(i<k∨(i=k∧e=d)):=fun i e q1 q2=>by
   rcases Nat.lt_or_ge i k with hl | hl
   ·exact .inl hl
   ·obtain rfl:i=k:=by omega
    exact .inr ⟨rfl,Option.some.inj (q2.symm.trans hdk)⟩
  unfold Cr
  by_cases e1:d.kind=1
  ·rw[if_pos e1,ku,ih (by omega),VU h,decide_eq_true_eq]
   constructor
   ·rintro(⟨i,e,q1,q2⟩ | q)
    ·exact⟨i,e,by omega,q2⟩
    ·exact⟨k,d,by omega,hdk,e1,q⟩
   ·rintro⟨i,e,q1,q2,q3⟩
    rcases hu i e q1 q2 with hl | ⟨rfl,rfl⟩
    ·exact .inl ⟨i,e,hl,q2,q3⟩
    ·exact .inr q3.2
  ·rw[if_neg e1,ih (by omega)]
   constructor
   ·rintro⟨i,e,q1,q2⟩
    exact⟨i,e,by omega,q2⟩
   ·rintro⟨i,e,q1,q2,q3⟩
    rcases hu i e q1 q2 with hl | ⟨rfl,rfl⟩
    ·exact⟨i,e,hl,q2,q3⟩
    ·exact absurd q3.1 e1
def Gr (ds:List Dev) (ls:List ah) (k:Nat) (x:Pl) (a b s t:Nat):Prop:=aF ds ls k x (aH (ay a b s t))=true
theorem E9 {ds:List Dev} (h:dW a b s t):Gr ds ls 0 x a b s t↔∃(i:Nat) (d:Dev),ds[i]?=some d∧d.kind=1∧aD ls ((i:Int),0)=some x∧d.addr.toNat=a:=
 (Li h ds.length (Nat.le_refl _)).trans ⟨fun⟨i,d,_,q⟩=>⟨i,d,q⟩,fun⟨i,d,q1,q2⟩=>⟨i,d,(List.getElem?_eq_some_iff.1 q1).1,q1,q2⟩⟩
theorem Ov {ds:List Dev} (hd:∀d∈ds,fU d) (hr:∀d∈ds,∀r∈d.rules,r.ok) (h:dW a b s t) (k:Nat):Gr ds ls (k+1) x a b s t↔Gr ds ls k x a b s t∨
  ∃(i:Nat) (d:Dev) (o:Nat),ds[i]?=some d∧aD ls ((i:Int),(o:Int))=some x∧pU d (aD ls ((i:Int),1)).isSome (fun q c=>aF ds ls k ((i:Int),(q:Int)) (aH c)) o a b s t:=
 (Ou hd hr (gN.round ds ls k) h ds.length (Nat.le_refl _)).trans (or_congr Iff.rfl ⟨fun⟨i,d,o,_,q⟩=>⟨i,d,o,q⟩,fun⟨i,d,o,q1,q2⟩=>⟨i,d,o,(List.getElem?_eq_some_iff.1 q1).1,q1,q2⟩⟩)
def bT (most:Int):Prop:=most<2∨40000<most
def Kc (E:Int):Int:=if E=0 then 1 else E
theorem QM:Kc 0=1:=rfl
theorem MG {E:Int} (h:E≠0):Kc E=E:=if_neg h
def Ke (W:World) (E:Int) (e:Ending) (W':World):Prop:=RowKit.Below W.heap.size W W'∧e= .returned (.tuple #[.pointer none,.int .i64 E])
theorem BK (n:aC) (most:Int) (W:World) (hn:bq W W.heap.size n) (h:fq n.au n.ls≠0∨bT most):
  Calls Tryz.prog 5 #[n.val,.int .i64 most] W (Ke W (Kc (fq n.au n.ls))):=by
 have HN:=hide hn
 clear hn
 obtain⟨E,hE⟩:∃E,fq n.au n.ls=E:=⟨_,rfl⟩
 have HC:=hide (fun(w':World) (hb:RowKit.Below W.heap.size W w')=>vG n w' (HN.out.below hb hb.size))
 simp only[hE]at HC h
 rw[hE]
 clear hE
 obtain⟨dA,dn,dc,ds,lA,ln,lc,ls⟩:=n
 simp only[aC.val,aC.au]at*
 go_enter Tryz.func5,Tryz.ntmps5
 go_wp2_with fail
 have hb0:=below_alloc2 W (.cells #[.slice dA dn dc,.slice lA ln lc] 25)
 have HB0:=hide hb0
 refine(HC.out _ hb0).mono ?_
 rintro e w1 ⟨rfl,hb⟩
 have HB1:=hide (HB0.out.trans (hb.mono HB0.out.size))
 clear hb hb0
 by_cases h0:E=0
 ·subst h0
  have hm:bT most:=h.resolve_left (fun hh=>hh rfl)
  have HM:=hide hm
  clear h hm
  go_wp2_with fail
  refine(Kg w1 14 most HM.out).mono ?_
  rintro e w2 ⟨rfl,hb⟩
  have HF:=hide (show Ke W (Kc 0) (.returned (.tuple #[.pointer none,.int .i64 1])) w2 from⟨HB1.out.trans (hb.mono HB1.out.size),rfl⟩)
  clear hb
  go_wp2
  go_ret2
  exact HF.out
 ·have hE0:(E != 0)=true:=by simpa using h0
  have HF:=hide (show Ke W (Kc E) (.returned (.tuple #[.pointer none,.int .i64 E])) w1 from⟨HB1.out,by rw[MG h0]⟩)
  clear h h0
  go_wp2
  go_ret2
  exact HF.out
structure gU where
 blk:Nat
 M:aB→Option Value
 S:Pl→aj.Fn
structure DY (A:St) (er:Nat) (M:aB→Option Value) (S:Pl→aj.Fn) (ks:List Pl):Prop where
 ints:Ints M
 keys:∀x,(M x).isSome =true→x∈ks
 vR:er=0→∀x,dF A (bK M x) (S x)
theorem DY.ext {A A':St} {er Fa:Nat} {M:aB→Option Value} {S:Pl→aj.Fn} {ks:List Pl} (h:DY A er M S ks) (i:Inv A) (hx:Ext A A') (he:Fa=0→er=0):DY A' Fa M S ks:=⟨h.ints,h.keys,fun h0 x=>(h.vR (he h0) x).ext i hx⟩
theorem DY.ok {A:St} {M:aB→Option Value} {S:Pl→aj.Fn} {ks:List Pl} (h:DY A 0 M S ks):nK A M S ks:=⟨h.ints,h.keys,h.vR rfl⟩
structure mg (wr:World) (B g:Nat) (A:St) (rb base:Nat) (v:Value) (L:List gU) (ks:List Pl) (er:Nat) (more:List Nat):Prop where
 sa:AS wr B g A (v.ownBlock.toList++(more++rb::L.map gU.blk))
 own:wr.ownsRow base 73 1 v L.length (L.map fun e=>.map (some e.blk))
 ap:∀q,v.ownBlock=some q→q∉more++rb::L.map gU.blk
 bx:Bx wr rb #[v,.pointer (some ⟨g,0,none⟩)] 68
 ents:∀e∈L,gY wr e.blk e.M∧DY A er e.M e.S ks
 ne:rb∉more++L.map gU.blk
section
variable {wr w':World} {B g rb base:Nat} {A A':St} {v:Value} {L:List gU} {ks:List Pl} {er Fa:Nat} {more:List Nat}
theorem mg.below (h:mg wr B g A rb base v L ks er more) (hb:RowKit.Below wr.heap.size wr w'):mg w' B g A rb base v L ks er more:=
 ⟨h.sa.below hb,own_below h.own hb,h.ap,h.bx.below hb,fun e he=>⟨(h.ents e he).1.same (hb.block _ (h.ents e he).1.lt),(h.ents e he).2⟩,h.ne⟩
theorem mg.kept (h:mg wr B g A rb base v L ks er more) (hsa:AS w' B g A' (v.ownBlock.toList++(more++rb::L.map gU.blk))) (hx:Ext A A') (hk:KP B (v.ownBlock.toList++(more++rb::L.map gU.blk)) wr w') (he:Fa=0→er=0):mg w' B g A' rb base v L ks Fa more:=
 ⟨hsa,cZ h.own (fun q hq=>hk.same q (by simp[hq])),h.ap,h.bx.same (hk.same rb (by simp)),fun e hm=>⟨(h.ents e hm).1.same (hk.same _ (by
  simp only[List.mem_append,List.mem_cons,List.mem_map]
  exact .inr (.inr (.inr ⟨e,hm,rfl⟩)))),(h.ents e hm).2.ext h.sa.inv hx he⟩,h.ne⟩
theorem mg.less {more':List Nat} (h:mg wr B g A rb base v L ks er more) (hs:∀j∈more',j∈more):mg wr B g A rb base v L ks er more':=by
 have hsub:∀j,j∈more'++rb::L.map gU.blk→j∈more++rb::L.map gU.blk:=fun j hj=>by
  rcases List.mem_append.1 hj with a | a
  ·exact List.mem_append_left _ (hs j a)
  ·exact List.mem_append_right _ a
 refine⟨h.sa.mono (fun j hj=>?_),h.own,fun q hq hm=>h.ap q hq (hsub q hm),h.bx,h.ents,fun hm=>h.ne ?_⟩
 ·rcases List.mem_append.1 hj with a | a
  ·exact List.mem_append_left _ a
  ·exact List.mem_append_right _ (hsub j a)
 ·rcases List.mem_append.1 hm with a | a
  ·exact List.mem_append_left _ (hs rb a)
  ·exact List.mem_append_right _ a
theorem mg.grow {v5:Value} {m:Nat} {ys:List Value} (h:mg wr B g A rb base v L ks er more) (hown:w'.ownsRow base 73 1 v5 m ys) (hg:wr.grownBy w' v.ownBlock) (hat:v5.ownBlock=v.ownBlock∨v5.ownBlock=some wr.heap.size):KP B (more++rb::L.map gU.blk) wr w':=
 ((DZ.mk h.sa h.own h.ap:DZ wr B g A base _ 1 v L.length _ (more++rb::L.map gU.blk)).append hown hg hat).2
theorem mg.push {v5:Value} {e:gU} (h:mg wr B g A rb base v L ks er more) (hown:w'.ownsRow base 73 1 v5 (L.length+1) ((L.map fun e=>.map (some e.blk))++[.map (some e.blk)])) (hg:wr.grownBy w' v.ownBlock) (hat:v5.ownBlock=v.ownBlock∨v5.ownBlock=some wr.heap.size)
  (he:e.blk∈more) (hm:gY wr e.blk e.M) (hok:DY A er e.M e.S ks):
  mg (w'.setCell ⟨rb,0,none⟩ v5) B g A rb base v5 (L++[e]) ks er more∧KP B more wr (w'.setCell ⟨rb,0,none⟩ v5):=by
 obtain⟨r1,r2⟩:=(DZ.mk h.sa h.own h.ap:DZ wr B g A base _ 1 v L.length _ (more++rb::L.map gU.blk)).append hown hg hat
 have hne:=h.ne
 simp only[List.mem_append,not_or]at hne
 have hs:(w'.setCell ⟨rb,0,none⟩ v5).heap.size =w'.heap.size:=size_setCell w' ⟨rb,0,none⟩ v5
 have hc:∀i,i≠rb→(w'.setCell ⟨rb,0,none⟩ v5).heap[i]?=w'.heap[i]?:=fun i hi=>RowKit.Below.heap_setCell _ _ _ _ hi
 have acT:B≤rb:=(h.sa.lt rb (by simp)).1
 have acU:AS (w'.setCell ⟨rb,0,none⟩ v5) B g A (v5.ownBlock.toList++(more++rb::L.map gU.blk)):=r1.sa.turned (Nat.le_of_eq hs.symm) (fun i _ hn=>hc i (fun e=>hn (by simp[e])))
 have hkm:KP B more wr (w'.setCell ⟨rb,0,none⟩ v5):=⟨r2.low.trans ((RowKit.Below.refl _ _).setCell acT _),fun j hj=>(hc j (fun e=>hne.1 (e▸hj))).trans (r2.same j (by simp[hj]))⟩
 have hsub:∀j,j∈more++rb::(L++[e]).map gU.blk→j∈more++rb::L.map gU.blk:=fun j hj=>by
  rw[List.map_append]at hj
  rcases List.mem_append.1 hj with a | a
  ·exact List.mem_append_left _ a
  ·rcases List.mem_cons.1 a with a | a
   ·simp[a]
   ·rcases List.mem_append.1 a with a | a
    ·exact List.mem_append_right _ (List.mem_cons_of_mem _ a)
    ·rw[List.map_cons,List.map_nil,List.mem_singleton]at a
     exact List.mem_append_left _ (a▸he)
 refine⟨⟨acU.mono (fun j hj=>?_),?_,fun q hq hm=>r1.ap q hq (hsub q hm),?_,fun x hx=>?_,fun hm=>?_⟩,hkm⟩
 ·rcases List.mem_append.1 hj with a | a
  ·exact List.mem_append_left _ a
  ·exact List.mem_append_right _ (hsub j a)
 ·have e1:(L++[e]).length =L.length+1:=by simp
  have e2:((L++[e]).map fun e=>(Value.map (some e.blk)))=(L.map fun e=>.map (some e.blk))++[.map (some e.blk)]:=by simp
  rw[e1,e2]
  exact cZ r1.own (fun q hq=>hc q (fun e=>r1.ap q hq (by simp[e])))
 ·exact(h.bx.same (r2.same rb (by simp))).set 0 v5
 ·rcases List.mem_append.1 hx with a | a
  ·obtain⟨q1,q2⟩:=h.ents x a
   have hxb:x.blk∈L.map gU.blk:=List.mem_map_of_mem a
   exact⟨q1.same ((hc _ (fun e=>hne.2 (e▸hxb))).trans (r2.same _ (by simp only[List.mem_append,List.mem_cons];exact .inr (.inr hxb)))),q2⟩
  ·rw[List.mem_singleton]at a
   subst a
   exact⟨hm.same (hkm.same _ he),hok⟩
 ·rw[List.map_append]at hm
  rcases List.mem_append.1 hm with a | a
  ·exact hne.1 a
  ·rcases List.mem_append.1 a with a | a
   ·exact hne.2 a
   ·rw[List.map_cons,List.map_nil,List.mem_singleton]at a
    exact hne.1 (a▸he)
end
end Go.Proofs.YtifkacnoiocebaaGreat
