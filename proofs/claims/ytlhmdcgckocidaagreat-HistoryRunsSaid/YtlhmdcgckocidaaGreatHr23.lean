/- A part of the proof: Hs1, Hs2. -/
import Derived.Test.YtlhmdcgckocidaaGreatHr22
set_option linter.unusedVariables false
set_option linter.unusedSimpArgs false
set_option maxRecDepth 100000
namespace Go.Proofs.YtlhmdcgckocidaaGreat
open Go.RowKit
structure bP where
 Z:iG
 L:List bV
 full:Bool
def zP:P4:=⟨0,0,0,0⟩
def iN (ds:List Dev) (ls:List av) (S:bP) (x:bV):Bool×bP:=
 if S.L.length=2000 then(false,⟨S.Z,S.L,true⟩)
 else if(eU ds ls S.Z x).1≠0 then(false,⟨(eU ds ls S.Z x).2,S.L,S.full⟩)
 else(true,⟨(eU ds ls S.Z x).2,S.L++[x],S.full⟩)
def nW (ds:List Dev) (ls:List av) (i:Int) (S:bP):Nat→bP
 |0=>S
 |k+1=>(iN ds ls (nW ds ls i S k) ⟨3,i,0,zP,(k:Int)⟩).2
def oN (ds:List Dev) (ls:List av) (S:bP) (d:Dev) (i y:Int):bP:=if d.kind=4∧y=0 then nW ds ls i S 8 else S
def oO (ds:List Dev) (ls:List av) (S:bP) (d:Dev) (i y:Int) (p:P4):bP:=if d.kind=5∧y=0 then(iN ds ls S ⟨3,i,0,p,0⟩).2 else S
def bW (ds:List Dev) (ls:List av) (S:bP) (d:Dev) (i y:Int) (p:P4) (ch:Int):Bool×bP:=
 iN ds ls (oO ds ls (oN ds ls S d i y) d i y p) ⟨2,i,y,p,ch⟩
structure gN where
 a:Pl
 p:P4
 need:Option aQ
 ch:Int
 fo:Bool
def wX (i o:Int) (d:Dev) (p:P4):List gN:=
 if 0≤(lU p.dst d.routes).2∧(lU p.dst d.routes).1=o∧kM d.rules p=true then(List.range 4).map fun(k:Nat)=>⟨(i,(k:Int)),p,none,0,false⟩else[]
def qJ (i o:Int) (d:Dev) (p:P4):List gN:=
 if o=1 then(if kM d.rules p=true then[⟨(i,0),p,none,0,false⟩]else[])
 else if kM d.rules (qy p)=true then[⟨(i,1),p,some ⟨i,0,qy p⟩,0,false⟩]else[]
def wu (i o:Int) (p:P4) (n:Nat):gN:=⟨(i,1 - o),⟨((n / 8:Nat):Int),p.dst,((n % 8:Nat):Int),p.aj⟩,none,p.ah,false⟩
def uP (i o:Int) (d:Dev) (p:P4) (port n:Nat):gN:=⟨(i,1 - o),⟨p.src,d.addr,p.ah,(port:Int)⟩,some ⟨i,o,⟨p.dst,((n / 8:Nat):Int),p.aj,((n % 8:Nat):Int)⟩⟩,(port:Int),false⟩
def zT (bF:Pl→P4→Int) (i o:Int) (d:Dev) (p:P4) (port:Nat):List gN:=
 if d.pool.testBit port=true∧0≤bF (i,1 - o) ⟨p.src,d.addr,p.ah,(port:Int)⟩then(List.range 128).map (uP i o d p port)else[]
def nT (bF:Pl→P4→Int) (i o:Int) (d:Dev) (p:P4):List gN:=
 if o=1 then(if p.src=d.addr∧d.pool.testBit p.ah.toNat=true then(List.range 128).map (wu i o p)else[])
 else(List.range 8).flatMap (zT bF i o d p)
def yF (i o:Int) (d:Dev) (p:P4) (k:Nat):List gN:=
 match d.backs[k]? with
 |none=>[]
 |some b=>if b=p.dst then[⟨(i,1 - o),⟨p.src,d.addr,p.ah,p.aj⟩,none,(k:Int),false⟩]else[]
def Bn (i o:Int) (d:Dev) (p:P4) (k:Nat):List gN:=
 match d.backs[k]? with
 |none=>[]
 |some b=>[⟨(i,1 - o),⟨b,p.dst,p.ah,p.aj⟩,some ⟨i,o,⟨p.dst,d.addr,p.aj,p.ah⟩⟩,(k:Int),false⟩]
def mP (i o:Int) (d:Dev) (p:P4):List gN:=
 if o=1 then(if p.dst≠d.addr then[⟨(i,1 - o),p,none,0,false⟩]else[])++(List.range d.backs.length).flatMap (yF i o d p)
 else⟨(i,1 - o),p,none,0,true⟩::(if p.src=d.addr then(List.range d.backs.length).flatMap (Bn i o d p)else[])
def gG (bF:Pl→P4→Int) (i o:Int) (d:Dev) (p:P4):List gN:=
 if d.kind=2 then wX i o d p else if d.kind=3 then qJ i o d p else if d.kind=4 then nT bF i o d p else if d.kind=5 then mP i o d p else[]
def early (bF:Pl→P4→Int) (r:Int) (a:Pl) (p:P4):Bool:=decide (0≤bF a p) && decide (bF a p<r)
def fP (bF:Pl→P4→Int) (r:Int) (x:gN):Bool:=early bF r x.a x.p && (match x.need with | none=>true | some y=>early bF r (y.d,y.y) y.p)
def Kh (ds:List Dev) (ls:List av) (d:Dev) (S:bP) (x:gN):Bool×bP:=
 bW ds ls S d x.a.1 x.a.2 x.p x.ch
def kH (ds:List Dev) (ls:List av) (d:Dev) (S:bP) (x:gN):Bool×bP:=
 match x.need with
 |none=>(true,S)
 |some y=>bW ds ls S d y.d y.y y.p x.ch
def kI (ds:List Dev) (ls:List av) (d:Dev) (S:bP) (x:gN):bP:=
 if x.fo=true then(iN ds ls S ⟨3,x.a.1,0,⟨x.p.dst,d.addr,x.p.aj,x.p.ah⟩,0⟩).2 else S
def jQ (br:bP→Pl→P4→Bool×bP) (S:bP) (x:gN):Bool×bP:=
 match x.need with
 |none=>(true,S)
 |some y=>br S (y.d,y.y) y.p
def iD (ds:List Dev) (ls:List av) (d:Dev) (br:bP→Pl→P4→Bool×bP) (S:bP) (x:gN):Bool×bP:=
 if(br S x.a x.p).1=false then(false,(br S x.a x.p).2)
 else if(jQ br (br S x.a x.p).2 x).1=false then(false,(jQ br (br S x.a x.p).2 x).2)
 else if(kH ds ls d (kI ds ls d (jQ br (br S x.a x.p).2 x).2 x) x).1=false then(false,(kH ds ls d (kI ds ls d (jQ br (br S x.a x.p).2 x).2 x) x).2)
 else Kh ds ls d (kH ds ls d (kI ds ls d (jQ br (br S x.a x.p).2 x).2 x) x).2 x
def cO (ds:List Dev) (ls:List av) (bF:Pl→P4→Int):Nat→bP→Pl→P4→Bool×bP
 |0,S,_,_=>(false,S)
 |f+1,S,a,p=>
  if(⟨a.1,a.2,p⟩:aQ)∈S.Z.S then(true,S)
  else match aP ls a with
   |none=>(false,S)
   |some z=>if S.full=true then(false,S)else match ds[z.1.toNat]? with
    |none=>(false,S)
    |some d=>if bF a p=0∧d.kind=1 then iN ds ls S ⟨1,z.1,0,p,0⟩
     else match (gG bF z.1 z.2 d p).find? (fP bF (bF a p))with
      |none=>(false,S)
      |some x=>iD ds ls d (cO ds ls bF f) S x
theorem YQ {ls:List av} {i:Int} {x:qz×Bool×Int} (h:(pY ls i x).e ≠0):(pY ls i x).kn = .nothing :=by
 unfold pY at h ⊢
 by_cases h0:x.2.2≠0
 ·rw[if_pos h0];rfl
 rw[if_neg h0]at h ⊢
 cases hp:aP ls (i,x.1.port)with
 |none=>rfl
 |some z=>
  rw[hp]at h
  cases h1:x.2.1
  ·rfl
  ·rw[h1]at h;exact absurd rfl h
theorem RX {ds:List Dev} {ls:List av} {M:aK} {i y:Int} {p:P4} {ch:Int} (h:(eO ds ls M i y p ch).e ≠0):(eO ds ls M i y p ch).kn = .nothing :=by
 unfold eO at h ⊢
 by_cases h1:bT ds (i,y)=false
 ·rw[if_pos h1];rfl
 rw[if_neg h1]at h ⊢
 by_cases h2:aV p=false
 ·rw[if_pos h2];rfl
 rw[if_neg h2]at h ⊢
 cases hr:ds[i.toNat]? with
 |none=>rfl
 |some r=>rw[hr]at h;exact YQ h
theorem U5 {ds:List Dev} {ls:List av} {S:List aQ} {i:Int} {p:P4} (h:(kW ds ls S i p).1≠0):(kW ds ls S i p).2=S:=by
 unfold kW at h ⊢
 by_cases h0:gq i 0 ((ds.length:Int) - 1)=false
 ·rw[if_pos h0]
 rw[if_neg h0]at h ⊢
 cases hr:ds[i.toNat]? with
 |none=>rfl
 |some r=>
  rw[hr]at h
  show(nV ls S i p r).2=S
  replace h:(nV ls S i p r).1≠0:=h
  unfold nV at h ⊢
  split
  ·rfl
  split
  ·rfl
  split
  ·rfl
  ·rename_i h1 h2 h3
   rw[if_neg h1,if_neg h2,if_neg h3]at h
   cases hp:aP ls (i,0)with
   |none=>rfl
   |some z=>rw[hp]at h;exact absurd rfl h
theorem MQ {ds:List Dev} {M:aK} {i:Int} {p:P4} {q:Int} (h:(fT ds M i p q).1≠0):(fT ds M i p q).2=M:=by
 obtain⟨F,O,B⟩:=M
 unfold fT at h ⊢
 by_cases hi:i<0
 ·rw[if_pos hi]
 rw[if_neg hi]at h ⊢
 cases hr:ds[i.toNat]? with
 |none=>rfl
 |some r=>
  rw[hr]at h
  simp only at h ⊢
  by_cases k3:r.kind=3
  ·rw[if_pos k3]at h ⊢
   simp only at h ⊢
   by_cases e:F (i,p)=true
   ·rw[if_pos e]at h;exact absurd rfl h
   ·simp only[aK.drop,aK.mk.injEq,and_true]
    funext x
    by_cases ex:x=(i,p)
    ·subst ex;rw[if_pos rfl];simpa using e
    ·rw[if_neg ex]
  rw[if_neg k3]at h ⊢
  by_cases k4:r.kind=4
  ·rw[if_pos k4]at h ⊢
   simp only at h ⊢
   by_cases e:(O (i,q)).isSome =true
   ·rw[if_pos e]at h;exact absurd rfl h
   ·simp only[aK.drop,aK.mk.injEq,and_true,true_and]
    funext x
    by_cases ex:x=(i,q)
    ·subst ex;rw[if_pos rfl];cases ho:O (i,q)with
     |none=>rfl
     |some v=>rw[ho]at e;exact absurd rfl e
    ·rw[if_neg ex]
  rw[if_neg k4]at h ⊢
  by_cases k5:r.kind=5
  ·rw[if_pos k5]at h ⊢
   simp only at h ⊢
   by_cases e:(B (i,p)).isSome =true
   ·rw[if_pos e]at h;exact absurd rfl h
   ·simp only[aK.drop,aK.mk.injEq,true_and]
    funext x
    by_cases ex:x=(i,p)
    ·subst ex;rw[if_pos rfl];cases ho:B (i,p)with
     |none=>rfl
     |some v=>rw[ho]at e;exact absurd rfl e
    ·rw[if_neg ex]
  ·rw[if_neg k5]
theorem YR {ds:List Dev} {ls:List av} {Z:iG} {x:bV} (h:(eU ds ls Z x).1≠0):(eU ds ls Z x).2=Z:=by
 unfold eU at h ⊢
 by_cases h1:x.kind=1
 ·rw[if_pos h1]at h ⊢
  show(⟨Z.M,(kW ds ls Z.S x.dev x.p).2⟩:iG)=Z
  rw[U5 h]
 rw[if_neg h1]at h ⊢
 by_cases h2:x.kind=2
 ·rw[if_pos h2]at h ⊢
  by_cases hm:(⟨x.dev,x.port,x.p⟩:aQ)∈Z.S
  ·rw[if_pos hm]at h ⊢
   replace h:(eO ds ls Z.M x.dev x.port x.p x.ch).e ≠0:=h
   show(⟨Z.M.learn (eO ds ls Z.M x.dev x.port x.p x.ch).kn,(eO ds ls Z.M x.dev x.port x.p x.ch).come Z.S⟩:iG)=Z
   rw[RX h,gL.come,if_neg h]
   rfl
  ·rw[if_neg hm]
 rw[if_neg h2]at h ⊢
 by_cases h3:x.kind=3
 ·rw[if_pos h3]at h ⊢
  show(⟨(fT ds Z.M x.dev x.p x.ch).2,Z.S⟩:iG)=Z
  rw[MQ h]
 ·rw[if_neg h3]
theorem Ki {ds:List Dev} {ls:List av} (Z:iG) (x:bV):∀y∈Z.S,y∈(eU ds ls Z x).2.S :=fun y hy=>by
 have hc:∀z,y∈jh Z.S z:=fun z=>by
  rcases zS Z.S z with e | e<;>rw[e]
  ·exact hy
  ·exact List.mem_append_left _ hy
 unfold eU
 split
 ·show y∈(kW ds ls Z.S x.dev x.p).2
  unfold kW
  split
  ·exact hy
  ·split
   ·exact hy
   ·unfold nV
    repeat' split
    all_goals first | exact hy | exact hc _
 split
 ·split
  ·show y∈(eO ds ls Z.M x.dev x.port x.p x.ch).come Z.S
   unfold gL.come
   split
   ·exact hc _
   ·exact hy
  ·exact hy
 split
 ·exact hy
 ·exact hy
structure gI (ds:List Dev) (ls:List av) (S:bP):Prop where
 z:S.Z=kT ds ls S.L S.L.length
 c:∀k,k<S.L.length→Kg ds ls S.L k=0
 le:S.L.length≤2000
structure kU (S T:bP):Prop where
 pre:∃l,T.L=S.L++l
 seen:∀y∈S.Z.S,y∈T.Z.S
 full:S.full=true→T.full=true
theorem kU.refl (S:bP):kU S S:=⟨⟨[],by simp⟩,fun _ h=>h,fun h=>h⟩
theorem kU.trans {S T U:bP} (h:kU S T) (h2:kU T U):kU S U:=
 ⟨by obtain⟨a,ha⟩:=h.pre;obtain⟨b,hb⟩:=h2.pre;exact⟨a++b,by rw[hb,ha,List.append_assoc]⟩,fun y hy=>h2.seen y (h.seen y hy),fun e=>h2.full (h.full e)⟩
theorem kU.len {S T:bP} (h:kU S T):S.L.length≤T.L.length:=by obtain⟨l,hl⟩:=h.pre;rw[hl];simp
theorem zU {ds:List Dev} {ls:List av} (l m:List bV):∀k,k≤l.length→kT ds ls (l++m) k=kT ds ls l k
 |0,_=>rfl
 |k+1,h=>by
  obtain⟨x,hx⟩:∃x,l[k]?=some x:=⟨_,List.getElem?_eq_getElem (by omega)⟩
  rw[tV hx,tV (l:=l++m) (by rw[List.getElem?_append_left (by omega)];exact hx),zU l m k (by omega)]
theorem Pt {ds:List Dev} {ls:List av} (l m:List bV) {k:Nat} (h:k<l.length):Kg ds ls (l++m) k=Kg ds ls l k:=by
 obtain⟨x,hx⟩:∃x,l[k]?=some x:=⟨_,List.getElem?_eq_getElem h⟩
 rw[EH hx,EH (l:=l++m) (by rw[List.getElem?_append_left h];exact hx),zU l m k (by omega)]
section
variable {ds:List Dev} {ls:List av} {S:bP}
theorem gI.start:gI ds ls ⟨⟨aK.empty,[]⟩,[],false⟩:=⟨rfl,fun _ h=>absurd h (Nat.not_lt_zero _),Nat.zero_le _⟩
theorem zV (h:S.L.length=2000) (x:bV):iN ds ls S x=(false,⟨S.Z,S.L,true⟩):=if_pos h
theorem zh (h:S.L.length≠2000) {x:bV} (h1:(eU ds ls S.Z x).1≠0):iN ds ls S x=(false,⟨(eU ds ls S.Z x).2,S.L,S.full⟩):=by
 rw[iN,if_neg h,if_pos h1]
theorem Bo (h:S.L.length≠2000) {x:bV} (h1:(eU ds ls S.Z x).1=0):iN ds ls S x=(true,⟨(eU ds ls S.Z x).2,S.L++[x],S.full⟩):=by
 rw[iN,if_neg h,if_neg (by simpa using h1)]
theorem Cv {x:bV} (h:(iN ds ls S x).1=true):S.L.length≠2000∧(eU ds ls S.Z x).1=0∧(iN ds ls S x).2=⟨(eU ds ls S.Z x).2,S.L++[x],S.full⟩:=by
 by_cases h0:S.L.length=2000
 ·rw[zV h0]at h;cases h
 by_cases h1:(eU ds ls S.Z x).1=0
 ·exact⟨h0,h1,by rw[Bo h0 h1]⟩
 ·rw[zh h0 h1]at h;cases h
theorem WU (h:S.L.length≠2000) (x:bV):(iN ds ls S x).2.Z =(eU ds ls S.Z x).2:=by
 by_cases h1:(eU ds ls S.Z x).1=0
 ·rw[Bo h h1]
 ·rw[zh h h1]
theorem gI.do_ (h:gI ds ls S) (x:bV):gI ds ls (iN ds ls S x).2:=by
 by_cases h0:S.L.length=2000
 ·rw[zV h0];exact⟨h.z,h.c,h.le⟩
 by_cases h1:(eU ds ls S.Z x).1=0
 ·rw[Bo h0 h1]
  have hx:(S.L++[x])[S.L.length]?=some x:=by simp
  have e:kT ds ls (S.L++[x]) S.L.length=S.Z:=by rw[zU _ _ _ (Nat.le_refl _),h.z]
  refine⟨?_,fun k hk=>?_,?_⟩
  ·show(eU ds ls S.Z x).2=kT ds ls (S.L++[x]) (S.L++[x]).length
   rw[show(S.L++[x]).length =S.L.length+1 by simp,tV hx,e]
  ·replace hk:k<(S.L++[x]).length :=hk
   rw[List.length_append,List.length_singleton]at hk
   show Kg ds ls (S.L++[x]) k=0
   by_cases hk2:k<S.L.length
   ·rw[Pt _ _ hk2];exact h.c k hk2
   ·obtain rfl:k=S.L.length:=by omega
    rw[EH hx,e];exact h1
  ·show(S.L++[x]).length ≤2000
   have:=h.le
   rw[List.length_append,List.length_singleton];omega
 ·rw[zh h0 h1,YR h1];exact⟨h.z,h.c,h.le⟩
theorem wC (S:bP) (x:bV):kU S (iN ds ls S x).2:=by
 by_cases h0:S.L.length=2000
 ·rw[zV h0];exact⟨⟨[],by simp⟩,fun _ h=>h,fun _=>rfl⟩
 by_cases h1:(eU ds ls S.Z x).1=0
 ·rw[Bo h0 h1];exact⟨⟨[x],rfl⟩,Ki _ _,fun h=>h⟩
 ·rw[zh h0 h1];exact⟨⟨[],by simp⟩,Ki _ _,fun h=>h⟩
theorem wY (h:gI ds ls S) (i:Int):∀k,gI ds ls (nW ds ls i S k)∧kU S (nW ds ls i S k)
 |0=>⟨h,kU.refl _⟩
 |k+1=>⟨(wY h i k).1.do_ _,(wY h i k).2.trans (wC _ _)⟩
theorem YS (h:gI ds ls S) (d:Dev) (i y:Int):gI ds ls (oN ds ls S d i y)∧kU S (oN ds ls S d i y):=by
 unfold oN
 split
 ·exact wY h i 8
 ·exact⟨h,kU.refl _⟩
theorem YT (h:gI ds ls S) (d:Dev) (i y:Int) (p:P4):gI ds ls (oO ds ls S d i y p)∧kU S (oO ds ls S d i y p):=by
 unfold oO
 split
 ·exact⟨h.do_ _,wC _ _⟩
 ·exact⟨h,kU.refl _⟩
theorem uW (h:gI ds ls S) (d:Dev) (i y:Int) (p:P4) (ch:Int):gI ds ls (bW ds ls S d i y p ch).2∧kU S (bW ds ls S d i y p ch).2∧((bW ds ls S d i y p ch).1=true→S.L.length+1≤(bW ds ls S d i y p ch).2.L.length):=by
 have h1:=YS h d i y
 have h2:=YT h1.1 d i y p
 refine⟨h2.1.do_ _,(h1.2.trans h2.2).trans (wC _ _),fun e=>?_⟩
 have q:=(Cv (ds:=ds) (ls:=ls) e).2.2
 unfold bW
 rw[q]
 have:=(h1.2.trans h2.2).len
 simp only[List.length_append,List.length_singleton]
 omega
structure U6 (ds:List Dev) (ls:List av) (br:bP→Pl→P4→Bool×bP):Prop where
 ok:∀S a p,gI ds ls S→gI ds ls (br S a p).2∧kU S (br S a p).2
theorem Hy {br:bP→Pl→P4→Bool×bP} (hb:U6 ds ls br) (h:gI ds ls S) (x:gN):gI ds ls (jQ br S x).2∧kU S (jQ br S x).2:=by
 unfold jQ
 split
 ·exact⟨h,kU.refl _⟩
 ·exact hb.ok _ _ _ h
theorem RY (h:gI ds ls S) (d:Dev) (x:gN):gI ds ls (kI ds ls d S x)∧kU S (kI ds ls d S x):=by
 unfold kI
 split
 ·exact⟨h.do_ _,wC _ _⟩
 ·exact⟨h,kU.refl _⟩
theorem RZ (h:gI ds ls S) (d:Dev) (x:gN):gI ds ls (kH ds ls d S x).2∧kU S (kH ds ls d S x).2:=by
 unfold kH
 split
 ·exact⟨h,kU.refl _⟩
 ·exact⟨(uW h d _ _ _ _).1,(uW h d _ _ _ _).2.1⟩
theorem U7 {br:bP→Pl→P4→Bool×bP} (hb:U6 ds ls br) (h:gI ds ls S) (d:Dev) (x:gN):gI ds ls (iD ds ls d br S x).2∧kU S (iD ds ls d br S x).2:=by
 have h1:=hb.ok S x.a x.p h
 have h2:=Hy hb h1.1 x
 have h3:=RY h2.1 d x
 have h4:=RZ h3.1 d x
 have h5:=uW h4.1 d x.a.1 x.a.2 x.p x.ch
 unfold iD
 split
 ·exact h1
 split
 ·exact⟨h2.1,h1.2.trans h2.2⟩
 split
 ·exact⟨h4.1,((h1.2.trans h2.2).trans h3.2).trans h4.2⟩
 ·exact⟨h5.1,(((h1.2.trans h2.2).trans h3.2).trans h4.2).trans h5.2.1⟩
theorem jy (bF:Pl→P4→Int):∀f,U6 ds ls (cO ds ls bF f)
 |0=>⟨fun S a p h=>⟨h,kU.refl _⟩⟩
 |f+1=>⟨fun S a p h=>by
  unfold cO
  split
  ·exact⟨h,kU.refl _⟩
  split
  ·exact⟨h,kU.refl _⟩
  split
  ·exact⟨h,kU.refl _⟩
  split
  ·exact⟨h,kU.refl _⟩
  split
  ·exact⟨h.do_ _,wC _ _⟩
  split
  ·exact⟨h,kU.refl _⟩
  ·exact U7 (jy bF f) h _ _⟩
end
section
variable {ds:List Dev} {ls:List av} {S:bP}
theorem aac {Z:iG} {i y:Int} {q:P4} {ch:Int} (h:(eU ds ls Z ⟨2,i,y,q,ch⟩).1=0):
  ∃r tz,ds[i.toNat]?=some r∧(bD r Z.M i y q ch).2.2=0∧(bD r Z.M i y q ch).2.1=true∧aP ls (i,(bD r Z.M i y q ch).1.port)=some tz∧
   (eU ds ls Z ⟨2,i,y,q,ch⟩).2.M =Z.M.learn (bD r Z.M i y q ch).1.kn ∧(⟨tz.1,tz.2,(bD r Z.M i y q ch).1.q⟩:aQ)∈(eU ds ls Z ⟨2,i,y,q,ch⟩).2.S :=by
 unfold eU at h ⊢
 rw[if_neg (show¬(2:Int)=1 by decide),if_pos rfl]at h ⊢
 by_cases hm:(⟨i,y,q⟩:aQ)∈Z.S
 case neg=>rw[if_neg hm]at h;exact absurd h (by simp)
 rw[if_pos hm]at h ⊢
 simp only at h ⊢
 unfold eO at h ⊢
 by_cases h1:bT ds (i,y)=false
 ·rw[if_pos h1]at h;exact absurd h (by simp[gL.bad])
 rw[if_neg h1]at h ⊢
 by_cases h2:aV q=false
 ·rw[if_pos h2]at h;exact absurd h (by simp[gL.bad])
 rw[if_neg h2]at h ⊢
 cases hr:ds[i.toNat]? with
 |none=>rw[hr]at h;exact absurd h (by simp[gL.bad])
 |some r=>
  rw[hr]at h
  simp only at h ⊢
  unfold pY at h ⊢
  by_cases h3:(bD r Z.M i y q ch).2.2≠0
  ·rw[if_pos h3]at h;exact absurd h h3
  rw[if_neg h3]at h ⊢
  cases hp:aP ls (i,(bD r Z.M i y q ch).1.port)with
  |none=>rw[hp]at h;exact absurd h (by simp[gL.bad])
  |some tz=>
   rw[hp]at h
   simp only at h ⊢
   cases h4:(bD r Z.M i y q ch).2.1
   ·rw[h4]at h;exact absurd h (by simp[gL.bad])
   ·refine⟨r,tz,rfl,by simpa using h3,h4,hp,?_,?_⟩
    ·rw[if_pos rfl]
    ·rw[if_pos rfl]
     show(⟨tz.1,tz.2,(bD r Z.M i y q ch).1.q⟩:aQ)∈gL.come ⟨0,tz,(bD r Z.M i y q ch).1.q,(bD r Z.M i y q ch).1.kn⟩ Z.S
     rw[gL.come,if_pos rfl,jh]
     split
     ·assumption
     ·simp
theorem R5 (Z:iG) (i:Int) (p:P4) (ch:Int):(eU ds ls Z ⟨3,i,0,p,ch⟩).2=⟨(fT ds Z.M i p ch).2,Z.S⟩:=by
 unfold eU
 rw[if_neg (show¬(3:Int)=1 by decide),if_neg (show¬(3:Int)=2 by decide),if_pos rfl]
theorem U8 {i:Int} {d:Dev} (hi:0≤i) (hr:ds[i.toNat]?=some d) (hk:d.kind=4) (M:aK) (p:P4) (q:Int):(fT ds M i p q).2=M.drop (.owner (i,q)):=by
 unfold fT
 rw[if_neg (by omega),hr]
 simp only
 rw[if_neg (by omega),if_pos hk]
theorem U9 {i:Int} {d:Dev} (hi:0≤i) (hr:ds[i.toNat]?=some d) (hk:d.kind=5) (M:aK) (p:P4) (q:Int):(fT ds M i p q).2=M.drop (.back (i,p)):=by
 unfold fT
 rw[if_neg (by omega),hr]
 simp only
 rw[if_neg (by omega),if_neg (by omega),if_pos hk]
theorem Kj {i:Int} {d:Dev} (hi:0≤i) (hr:ds[i.toNat]?=some d) (hk:d.kind=4) (h:gI ds ls S):∀k,(nW ds ls i S k).L.length ≠2000→∀n:Nat,n<k→(nW ds ls i S k).Z.M.O (i,(n:Int))=none
 |0,_,n,hn=>absurd hn (Nat.not_lt_zero _)
 |k+1,hl,n,hn=>by
  have h1:=(wY h i k).1
  have h2:(nW ds ls i S k).L.length ≠2000:=fun e=>by
   have g:=(wC (ds:=ds) (ls:=ls) (nW ds ls i S k) ⟨3,i,0,zP,(k:Int)⟩).len
   have o:=((wY h i (k+1)).1).le
   have e1:(nW ds ls i S (k+1))=(iN ds ls (nW ds ls i S k) ⟨3,i,0,zP,(k:Int)⟩).2:=rfl
   rw[← e1]at g
   omega
  show(iN ds ls (nW ds ls i S k) ⟨3,i,0,zP,(k:Int)⟩).2.Z.M.O (i,(n:Int))=none
  rw[WU h2,R5,U8 hi hr hk]
  show(if(i,(n:Int))=(i,(k:Int))then none else(nW ds ls i S k).Z.M.O (i,(n:Int)))=none
  by_cases e:n=k
  ·subst e;rw[if_pos rfl]
  ·rw[if_neg (by intro q;injection q with _ q;omega)]
   exact Kj hi hr hk h k h2 n (by omega)
theorem EI {M:aK} {i:Int} {o:Int×Int} :∀(m k:Nat),(∀n:Nat,n<k+m→M.O (i,(n:Int))=none)→jJ M i o m k= -1
 |0,_,_=>rfl
 |m+1,k,h=>by
  have e:M.O (i,(k:Int))=none:=h k (by omega)
  unfold jJ
  rw[e,if_neg (by simp)]
  exact EI m (k+1) (fun n hn=>h n (by omega))
theorem Pv {M:aK} {i:Int} (o:Int×Int) (h:∀n:Nat,n<8→M.O (i,(n:Int))=none):nk M i o= -1:=EI 8 0 (fun n hn=>h n (by omega))
theorem qK {d:Dev} {i y:Int} {q:P4} {ch:Int} (hr:ds[i.toNat]?=some d) (h:(bW ds ls S d i y q ch).1=true):
  (oO ds ls (oN ds ls S d i y) d i y q).L.length ≠2000∧(bD d (oO ds ls (oN ds ls S d i y) d i y q).Z.M i y q ch).2.2=0∧(bD d (oO ds ls (oN ds ls S d i y) d i y q).Z.M i y q ch).2.1=true∧
   (bW ds ls S d i y q ch).2.Z.M =(oO ds ls (oN ds ls S d i y) d i y q).Z.M.learn (bD d (oO ds ls (oN ds ls S d i y) d i y q).Z.M i y q ch).1.kn ∧
   ∀a,aP ls (i,(bD d (oO ds ls (oN ds ls S d i y) d i y q).Z.M i y q ch).1.port)=some a→(⟨a.1,a.2,(bD d (oO ds ls (oN ds ls S d i y) d i y q).Z.M i y q ch).1.q⟩:aQ)∈(bW ds ls S d i y q ch).2.Z.S :=by
 unfold bW at h ⊢
 generalize oO ds ls (oN ds ls S d i y) d i y q=S2 at*
 obtain⟨h1,h2,h3⟩:=Cv h
 obtain⟨r,tz,g1,g2,g3,g4,g5,g6⟩:=aac h2
 obtain rfl:d=r:=Option.some.inj (hr.symm.trans g1)
 rw[h3]
 refine⟨h1,g2,g3,g5,fun a ha=>?_⟩
 obtain rfl:tz=a:=Option.some.inj (g4.symm.trans ha)
 exact g6
theorem tY {d:Dev} {i y:Int} (h:¬(d.kind=4∧y=0)):oN ds ls S d i y=S:=if_neg h
theorem tZ {d:Dev} {i y:Int} {p:P4} (h:¬(d.kind=5∧y=0)):oO ds ls S d i y p=S:=if_neg h
theorem Kk {d:Dev} {i:Int} {q:P4} (hi:0≤i) (hr:ds[i.toNat]?=some d) (hk:d.kind=5) (h:gI ds ls S) (hl:(iN ds ls S ⟨3,i,0,q,0⟩).2.L.length ≠2000):(iN ds ls S ⟨3,i,0,q,0⟩).2.Z.M.B (i,q)=none:=by
 have h2:S.L.length≠2000:=fun e=>by
  have g:=(wC (ds:=ds) (ls:=ls) S ⟨3,i,0,q,0⟩).len
  have o:=(h.do_ ⟨3,i,0,q,0⟩).le
  omega
 rw[WU h2,R5,U9 hi hr hk]
 show(if(i,q)=(i,q)then none else _)=none
 rw[if_pos rfl]
section
variable {bF:Pl→P4→Int} {i o:Int} {d:Dev} {a:Pl} {p:P4}
def Bp (ds:List Dev) (ls:List av) (d:Dev) (a:Pl) (p:P4) (x:gN):Prop:=
 ∀S,gI ds ls S→(kH ds ls d (kI ds ls d S x) x).1=true→(Kh ds ls d (kH ds ls d (kI ds ls d S x) x).2 x).1=true→(⟨a.1,a.2,p⟩:aQ)∈(Kh ds ls d (kH ds ls d (kI ds ls d S x) x).2 x).2.Z.S
theorem aad (hr:ds[i.toNat]?=some d) (hk:d.kind=2) (hb:aP ls (i,o)=some a) {x:gN} (hx:x∈wX i o d p):Bp ds ls d a p x:=by
 unfold wX at hx
 split at hx
 case isFalse=>cases hx
 rename_i hc
 obtain⟨k,_,rfl⟩:=List.mem_map.1 hx
 intro S hS h1 h2
 replace h2:(bW ds ls S d i (k:Int) p 0).1=true:=h2
 show(⟨a.1,a.2,p⟩:aQ)∈(bW ds ls S d i (k:Int) p 0).2.Z.S
 have q:=(qK hr h2).2.2.2.2 a
 rw[tY (by omega),tZ (by omega)]at q
 unfold bD at q
 rw[if_pos hk]at q
 refine q ?_
 show aP ls (i,(lU p.dst d.routes).1)=some a
 rw[hc.2.1];exact hb
theorem Va (hr:ds[i.toNat]?=some d) (hk:d.kind=3) (ho:o=0∨o=1) (hb:aP ls (i,o)=some a) {x:gN} (hx:x∈qJ i o d p):Bp ds ls d a p x:=by
 unfold qJ at hx
 have out:∀(S:bP) (y:Int),(y=0∧o=1∨y=1∧o=0)→(bW ds ls S d i y p 0).1=true→(⟨a.1,a.2,p⟩:aQ)∈(bW ds ls S d i y p 0).2.Z.S :=fun S y hy h2=>by
  have q:=(qK hr h2).2.2.2.2 a
  rw[tY (by omega),tZ (by omega)]at q
  unfold bD at q
  rw[if_neg (by omega),if_pos hk]at q
  unfold qA at q
  rcases hy with⟨rfl,rfl⟩ | ⟨rfl,rfl⟩
  ·rw[if_pos rfl]at q;exact q hb
  ·rw[if_neg (by decide)]at q;exact q hb
 split at hx
 ·rename_i h1
  split at hx
  case isFalse=>cases hx
  obtain rfl:=List.mem_singleton.1 hx
  intro S hS h1 h2
  exact out S 0 (.inl ⟨rfl,by assumption⟩) h2
 ·rename_i h1
  split at hx
  case isFalse=>cases hx
  obtain rfl:=List.mem_singleton.1 hx
  intro S hS h1 h2
  exact out _ 1 (.inr ⟨rfl,by omega⟩) h2
theorem Kl (hi:0≤i) (hr:ds[i.toNat]?=some d) (hk:d.kind=4) (hS:gI ds ls S) {q:P4} {ch:Int} (h:(bW ds ls S d i 0 q ch).1=true):
  (bW ds ls S d i 0 q ch).2.Z.M =(nW ds ls i S 8).Z.M.learn (.owner (i,ch) (q.src,q.ah))∧∀a,aP ls (i,1)=some a→(⟨a.1,a.2,⟨d.addr,q.dst,ch,q.aj⟩⟩:aQ)∈(bW ds ls S d i 0 q ch).2.Z.S :=by
 obtain⟨g1,g2,g3,g4,g5⟩:=qK hr h
 have eA:oN ds ls S d i 0=nW ds ls i S 8:=if_pos ⟨hk,rfl⟩
 rw[eA,tZ (by omega)]at g1 g2 g3 g4 g5
 have hf:=Kj hi hr hk hS 8 g1
 generalize (bW ds ls S d i 0 q ch).2.Z =Z2 at*
 generalize (nW ds ls i S 8).Z.M =M at*
 unfold bD at g2 g3 g4 g5
 rw[if_neg (by omega),if_neg (by omega),if_pos hk]at g2 g3 g4 g5
 unfold jf at g2 g3 g4 g5
 rw[if_neg (by decide),Pv _ hf,if_neg (by decide)]at g2 g3 g4 g5
 by_cases hc:ch<0∨8≤ch∨Jv d.pool ch=false
 ·rw[if_pos hc]at g3;cases g3
 rw[if_neg hc]at g2 g3 g4 g5
 by_cases hO:(M.O (i,ch)).isSome =true
 ·rw[if_pos hO]at g3;cases g3
 rw[if_neg hO]at g2 g3 g4 g5
 exact⟨g4,g5⟩
theorem YU (hi:0≤i) (hr:ds[i.toNat]?=some d) (hk:d.kind=4) (ho:o=0∨o=1) (hb:aP ls (i,o)=some a) {x:gN} (hx:x∈nT bF i o d p):Bp ds ls d a p x:=by
 unfold nT at hx
 by_cases h1:o=1
 ·rw[if_pos h1]at hx
  split at hx
  case isFalse=>cases hx
  rename_i hc
  obtain⟨n,_,rfl⟩:=List.mem_map.1 hx
  subst h1
  intro S hS _ h2
  replace h2:(bW ds ls S d i 0 ⟨((n / 8:Nat):Int),p.dst,((n % 8:Nat):Int),p.aj⟩ p.ah).1=true:=h2
  show(⟨a.1,a.2,p⟩:aQ)∈(bW ds ls S d i 0 ⟨((n / 8:Nat):Int),p.dst,((n % 8:Nat):Int),p.aj⟩ p.ah).2.Z.S
  have q:=(Kl hi hr hk hS h2).2 a hb
  simp only[← hc.1]at q
  exact q
 ·rw[if_neg h1]at hx
  obtain rfl:o=0:=by omega
  obtain⟨port,_,hx⟩:=List.mem_flatMap.1 hx
  unfold zT at hx
  split at hx
  case isFalse=>cases hx
  obtain⟨n,_,rfl⟩:=List.mem_map.1 hx
  intro S hS hD hE
  replace hD:(bW ds ls S d i 0 ⟨p.dst,((n / 8:Nat):Int),p.aj,((n % 8:Nat):Int)⟩ (port:Int)).1=true:=hD
  have q:=(Kl hi hr hk hS hD).1
  replace hE:(bW ds ls (bW ds ls S d i 0 ⟨p.dst,((n / 8:Nat):Int),p.aj,((n % 8:Nat):Int)⟩ (port:Int)).2 d i 1 ⟨p.src,d.addr,p.ah,(port:Int)⟩ (port:Int)).1=true:=hE
  show(⟨a.1,a.2,p⟩:aQ)∈(bW ds ls (bW ds ls S d i 0 ⟨p.dst,((n / 8:Nat):Int),p.aj,((n % 8:Nat):Int)⟩ (port:Int)).2 d i 1 ⟨p.src,d.addr,p.ah,(port:Int)⟩ (port:Int)).2.Z.S
  generalize (bW ds ls S d i 0 ⟨p.dst,((n / 8:Nat):Int),p.aj,((n % 8:Nat):Int)⟩ (port:Int)).2=S4 at*
  have g:=(qK hr hE).2.2.2.2 a
  rw[tY (by omega),tZ (by omega)]at g
  unfold bD at g
  rw[if_neg (by omega),if_neg (by omega),if_pos hk]at g
  unfold jf at g
  rw[if_pos rfl,if_neg (by simp),q]at g
  simp only[aK.learn,if_pos]at g
  exact g hb
theorem Km {d:Dev} {M:aK} {i:Int} {q:P4} {k:Nat} {b:Int} (hB:M.B (i,q)=none) (hq:q.dst=d.addr) (hk:d.backs[k]?=some b):jm d M i 0 q (k:Int)=(⟨1,⟨q.src,b,q.ah,q.aj⟩,.back (i,q) b⟩,0):=by
 unfold jm
 rw[if_neg (by decide),if_neg (by simpa using hq),hB]
 simp only
 rw[if_neg (by omega),Int.toNat_natCast,hk]
theorem YV (hi:0≤i) (hr:ds[i.toNat]?=some d) (hk:d.kind=5) (ho:o=0∨o=1) (hb:aP ls (i,o)=some a) {x:gN} (hx:x∈mP i o d p):Bp ds ls d a p x:=by
 have free:∀(S:bP) (q:P4) (ch:Int),gI ds ls S→(bW ds ls S d i 0 q ch).1=true→∃M:aK,M.B (i,q)=none∧(jm d M i 0 q ch).2=0∧(bW ds ls S d i 0 q ch).2.Z.M =M.learn (jm d M i 0 q ch).1.kn ∧
   ∀a,aP ls (i,(jm d M i 0 q ch).1.port)=some a→(⟨a.1,a.2,(jm d M i 0 q ch).1.q⟩:aQ)∈(bW ds ls S d i 0 q ch).2.Z.S :=fun S q ch hS h=>by
  obtain⟨g1,g2,g3,g4,g5⟩:=qK hr h
  have eB:oO ds ls S d i 0 q=(iN ds ls S ⟨3,i,0,q,0⟩).2:=if_pos ⟨hk,rfl⟩
  rw[tY (by omega),eB]at g1 g2 g3 g4 g5
  have hf:=Kk hi hr hk hS g1
  unfold bD at g2 g3 g4 g5
  rw[if_neg (by omega),if_neg (by omega),if_neg (by omega),if_pos hk]at g2 g3 g4 g5
  exact⟨_,hf,g2,g4,g5⟩
 have back:∀(S:bP) (q:P4) (ch:Int),(bW ds ls S d i 1 q ch).1=true→o=0→(jm d S.Z.M i 1 q ch).1.q =p→(⟨a.1,a.2,p⟩:aQ)∈(bW ds ls S d i 1 q ch).2.Z.S :=fun S q ch h h0 hq=>by
  obtain⟨g1,g2,g3,g4,g5⟩:=qK hr h
  rw[tY (by omega),tZ (by omega)]at g1 g2 g3 g4 g5
  unfold bD at g2 g3 g4 g5
  rw[if_neg (by omega),if_neg (by omega),if_neg (by omega),if_pos hk]at g2 g3 g4 g5
  have g:=g5 a
  simp only[hq]at g
  refine g ?_
  unfold jm
  rw[if_pos rfl]
  subst h0
  exact hb
 unfold mP at hx
 by_cases h1:o=1
 ·rw[if_pos h1]at hx
  subst h1
  rcases List.mem_append.1 hx with hx | hx
  ·split at hx
   case isFalse=>cases hx
   rename_i hc
   obtain rfl:=List.mem_singleton.1 hx
   intro S hS _ h2
   replace h2:(bW ds ls S d i 0 p 0).1=true:=h2
   show(⟨a.1,a.2,p⟩:aQ)∈(bW ds ls S d i 0 p 0).2.Z.S
   obtain⟨M,hB,g1,g2,g3⟩:=free S p 0 hS h2
   have g:=g3 a
   unfold jm at g
   rw[if_neg (by decide),if_pos hc]at g
   exact g hb
  ·obtain⟨k,_,hx⟩:=List.mem_flatMap.1 hx
   unfold yF at hx
   cases hbk:d.backs[k]? with
   |none=>rw[hbk]at hx;cases hx
   |some b=>
    rw[hbk]at hx
    simp only at hx
    split at hx
    case isFalse=>cases hx
    rename_i hc
    obtain rfl:=List.mem_singleton.1 hx
    intro S hS _ h2
    replace h2:(bW ds ls S d i 0 ⟨p.src,d.addr,p.ah,p.aj⟩ (k:Int)).1=true:=h2
    show(⟨a.1,a.2,p⟩:aQ)∈(bW ds ls S d i 0 ⟨p.src,d.addr,p.ah,p.aj⟩ (k:Int)).2.Z.S
    obtain⟨M,hB,g1,g2,g3⟩:=free S _ _ hS h2
    have g:=g3 a
    rw[Km hB rfl hbk,hc]at g
    exact g hb
 ·rw[if_neg h1]at hx
  obtain rfl:o=0:=by omega
  rcases List.mem_cons.1 hx with rfl | hx
  ·intro S hS _ hE
   replace hE:(bW ds ls (iN ds ls S ⟨3,i,0,⟨p.dst,d.addr,p.aj,p.ah⟩,0⟩).2 d i 1 p 0).1=true:=hE
   show(⟨a.1,a.2,p⟩:aQ)∈(bW ds ls (iN ds ls S ⟨3,i,0,⟨p.dst,d.addr,p.aj,p.ah⟩,0⟩).2 d i 1 p 0).2.Z.S
   refine back _ _ _ hE rfl ?_
   have g1:=(qK hr hE).1
   rw[tY (by omega),tZ (by omega)]at g1
   have hB:=Kk hi hr hk hS g1
   unfold jm
   rw[if_pos rfl]
   simp only
   rw[hB,if_neg (by simp)]
  ·split at hx
   case isFalse=>cases hx
   rename_i hc
   obtain⟨k,_,hx⟩:=List.mem_flatMap.1 hx
   unfold Bn at hx
   cases hbk:d.backs[k]? with
   |none=>rw[hbk]at hx;cases hx
   |some b=>
    rw[hbk]at hx
    obtain rfl:=List.mem_singleton.1 hx
    intro S hS hD hE
    replace hD:(bW ds ls S d i 0 ⟨p.dst,d.addr,p.aj,p.ah⟩ (k:Int)).1=true:=hD
    replace hE:(bW ds ls (bW ds ls S d i 0 ⟨p.dst,d.addr,p.aj,p.ah⟩ (k:Int)).2 d i 1 ⟨b,p.dst,p.ah,p.aj⟩ (k:Int)).1=true:=hE
    show(⟨a.1,a.2,p⟩:aQ)∈(bW ds ls (bW ds ls S d i 0 ⟨p.dst,d.addr,p.aj,p.ah⟩ (k:Int)).2 d i 1 ⟨b,p.dst,p.ah,p.aj⟩ (k:Int)).2.Z.S
    obtain⟨M,hB,g1,g2,g3⟩:=free S _ _ hS hD
    refine back _ _ _ hE rfl ?_
    rw[Km hB rfl hbk]at g2
    rw[g2]
    unfold jm
    rw[if_pos rfl]
    simp only[aK.learn,if_pos]
    rw[← hc]
theorem Vb (hi:0≤i) (hr:ds[i.toNat]?=some d) (ho:d.kind=2∨o=0∨o=1) (hb:aP ls (i,o)=some a) {x:gN} (hx:x∈gG bF i o d p):Bp ds ls d a p x:=by
 unfold gG at hx
 by_cases k2:d.kind=2
 ·rw[if_pos k2]at hx;exact aad hr k2 hb hx
 rw[if_neg k2]at hx
 have ho:=ho.resolve_left k2
 by_cases k3:d.kind=3
 ·rw[if_pos k3]at hx;exact Va hr k3 ho hb hx
 rw[if_neg k3]at hx
 by_cases k4:d.kind=4
 ·rw[if_pos k4]at hx;exact YU hi hr k4 ho hb hx
 rw[if_neg k4]at hx
 by_cases k5:d.kind=5
 ·rw[if_pos k5]at hx;exact YV hi hr k5 ho hb hx
 ·rw[if_neg k5]at hx;cases hx
end
theorem R7 {a z:Pl} (hE:dD ds ls=0) (h:aP ls a=some z):aP ls z=some a:=by
 by_cases hm:a∈bG ls
 ·obtain⟨y,h1,h2,_⟩:=EJ (dH hE).nd hm
  obtain rfl:y=z:=Option.some.inj (h1.symm.trans h)
  exact h2
 ·rw[EK hm]at h;cases h
theorem YW {Z:iG} {i:Int} {p:P4} (h:(eU ds ls Z ⟨1,i,0,p,0⟩).1=0) {a:Pl} (ha:aP ls (i,0)=some a):(⟨a.1,a.2,p⟩:aQ)∈(eU ds ls Z ⟨1,i,0,p,0⟩).2.S :=by
 unfold eU at h ⊢
 rw[if_pos rfl]at h ⊢
 simp only at h ⊢
 unfold kW at h ⊢
 by_cases h0:gq i 0 ((ds.length:Int) - 1)=false
 ·rw[if_pos h0]at h;exact absurd h (by simp)
 rw[if_neg h0]at h ⊢
 cases hr:ds[i.toNat]? with
 |none=>rw[hr]at h;exact absurd h (by simp)
 |some r=>
  rw[hr]at h
  simp only at h ⊢
  unfold nV at h ⊢
  split at h
  ·exact absurd h (by simp)
  rename_i c1
  rw[if_neg c1]
  split at h
  ·exact absurd h (by simp)
  rename_i c2
  rw[if_neg c2]
  split at h
  ·exact absurd h (by simp)
  rename_i c3
  rw[if_neg c3,ha]
  show(⟨a.1,a.2,p⟩:aQ)∈jh Z.S ⟨a.1,a.2,p⟩
  unfold jh
  split
  ·assumption
  ·simp
theorem EL {z:Pl} {d:Dev} (hE:dD ds ls=0) {a:Pl} (hp:aP ls a=some z) (hr:ds[z.1.toNat]?=some d):0≤z.1∧(d.kind=1→z.2=0)∧(d.kind=2∨z.2=0∨z.2=1):=by
 have hpl:=rW hE hp
 obtain⟨⟨h1,h2⟩,h3,h4⟩:=vY.1 hpl
 unfold nI at h4
 rw[hr]at h4
 simp only[Option.map_some,Option.getD_some]at h4
 have hk:=jC hE d (List.mem_of_getElem? hr)
 have e1:d.kind=1→dL d.kind=1:=fun e=>by rw[e];rfl
 have e2:d.kind≠2→dL d.kind≤2:=fun e=>by
  unfold dL
  repeat' split
  all_goals first | omega | (rename_i c;exact absurd (by simpa using c) e)
 refine⟨h1,fun e=>?_,?_⟩
 ·have:=e1 e;omega
 ·by_cases k2:d.kind=2
  ·exact .inl k2
  ·have:=e2 k2;right;omega
theorem R8 (hE:dD ds ls=0) (bF:Pl→P4→Int):∀f S a p,gI ds ls S→(cO ds ls bF f S a p).1=true→(⟨a.1,a.2,p⟩:aQ)∈(cO ds ls bF f S a p).2.Z.S
 |0,_,_,_,_,h=>by cases h
 |f+1,S,a,p,hS,h=>by
  unfold cO at h ⊢
  split
  ·assumption
  rename_i hm
  rw[if_neg hm]at h
  cases hp:aP ls a with
  |none=>rw[hp]at h;cases h
  |some z=>
   rw[hp]at h
   simp only at h ⊢
   split
   ·rename_i hf;rw[if_pos hf]at h;cases h
   rename_i hf
   rw[if_neg hf]at h
   cases hr:ds[z.1.toNat]? with
   |none=>rw[hr]at h;cases h
   |some d=>
    rw[hr]at h
    simp only at h ⊢
    obtain⟨hi,ho1,ho2⟩:=EL hE hp hr
    have hb:=R7 hE hp
    split
    ·rename_i hh
     rw[if_pos hh]at h
     obtain⟨g1,g2,g3⟩:=Cv h
     rw[g3]
     refine YW g2 ?_
     rw[← ho1 hh.2];exact hb
    rename_i hh
    rw[if_neg hh]at h
    cases hx:(gG bF z.1 z.2 d p).find? (fP bF (bF a p))with
    |none=>rw[hx]at h;cases h
    |some x=>
     rw[hx]at h
     simp only at h ⊢
     have hw:=Vb (ls:=ls) (a:=a) hi hr ho2 hb (List.mem_of_find?_eq_some hx)
     have h1:=(jy (ds:=ds) (ls:=ls) bF f).ok S x.a x.p hS
     have h2:=Hy (jy bF f) h1.1 x
     unfold iD at h ⊢
     split
     ·rename_i c;rw[if_pos c]at h;cases h
     rename_i c1
     rw[if_neg c1]at h
     split
     ·rename_i c;rw[if_pos c]at h;cases h
     rename_i c2
     rw[if_neg c2]at h
     split
     ·rename_i c;rw[if_pos c]at h;cases h
     rename_i c3
     rw[if_neg c3]at h
     exact hw _ h2.1 (by simpa using c3) h
end
end Go.Proofs.YtlhmdcgckocidaaGreat
