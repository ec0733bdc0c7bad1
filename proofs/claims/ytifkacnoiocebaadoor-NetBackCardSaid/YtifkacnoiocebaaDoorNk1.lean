/- A part of the proof: St2, St3, Mt1. -/
import Derived.Test.YtifkacnoiocebaaDoorNk0
import Derived.Laws.Concat
import Derived.Lib.IndexMore
import Derived.Lib.ItoaNum
import Derived.Lib.CountLaws
import Derived.Lib.Split
import Derived.Lib.Join
set_option linter.unusedVariables false
set_option linter.unusedSimpArgs false
set_option maxRecDepth 100000
set_option maxHeartbeats 4000000
namespace Go.Proofs.YtifkacnoiocebaaDoor
open Go.RowKit
def gD (l:List UInt8):Value:=.string ⟨l.toArray⟩
theorem DX (s:ByteArray):gD s.data.toList= .string s:=by simp[gD]
def kU (b:UInt8) (acc:List (List UInt8)) (x:UInt8):List (List UInt8):=if x=b then acc++[[]]else acc.dropLast++[acc.getLastD []++[x]]
def pieces (b:UInt8) (l:List UInt8):List (List UInt8):=l.foldl (kU b) [[]]
theorem lZ (b:UInt8) (l:List UInt8) (x:UInt8):pieces b (l++[x])=kU b (pieces b l) x:=by simp[pieces]
theorem nO (b:UInt8):∀(l:List UInt8) (acc:List (List UInt8)) (m:List UInt8),l.foldl (kU b) (acc++[m])=acc++l.foldl (kU b) [m]
 |[],acc,m=>rfl
 |x::r,acc,m=>by
  simp only[List.foldl_cons,kU]
  split
  ·rw[nO b r (acc++[m]) [],show[m]++[[]]=[m]++[([]:List UInt8)]from rfl,nO b r [m] []];simp
  ·simp only[List.dropLast_concat,List.getLastD_concat,List.dropLast_singleton,List.nil_append,List.getLastD_cons,List.getLastD_nil]
   exact nO b r acc (m++[x])
theorem pieces_eq (b:UInt8) (l:List UInt8) (hl:b∉l):pieces b l=[l]:=by
 rcases List.eq_nil_or_concat l with rfl | ⟨m,c,rfl⟩
 ·rfl
 ·rw[List.concat_eq_append]at hl ⊢
  rw[lZ,pieces_eq b m (fun h=>hl (by simp[h])),kU,if_neg (fun h=>hl (by simp[h]))]
  rfl
termination_by l.length
decreasing_by simp[*]
theorem gI (b:UInt8) (l r:List UInt8) (hl:b∉l):pieces b (l++b::r)=l::pieces b r:=by
 have h1:l.foldl (kU b) [[]]=[l]:=pieces_eq b l hl
 have h2:=nO b r [l] []
 unfold pieces
 rw[List.foldl_append,h1,List.foldl_cons,kU,if_pos rfl,h2]
 rfl
theorem jR (b:UInt8) (l:List UInt8):0<(pieces b l).length :=by
 rcases List.eq_nil_or_concat l with rfl | ⟨m,c,rfl⟩
 ·simp[pieces]
 ·rw[List.concat_eq_append,lZ,kU];split<;>simp
theorem gJ (b:UInt8) (l:List UInt8):(pieces b l).length ≤l.length+1:=by
 rcases List.eq_nil_or_concat l with rfl | ⟨m,c,rfl⟩
 ·simp[pieces]
 ·have:=gJ b m
  rw[List.concat_eq_append,lZ,kU];split<;>simp<;>omega
termination_by l.length
decreasing_by simp[*]
theorem j3 (b:UInt8) (l:List UInt8):∀m∈pieces b l,m.length≤l.length:=by
 rcases List.eq_nil_or_concat l with rfl | ⟨r,c,rfl⟩
 ·simp[pieces]
 ·have ih:=j3 b r
  intro m hm
  rw[List.concat_eq_append]at hm ⊢
  rw[lZ,kU]at hm
  simp only[List.length_append,List.length_cons,List.length_nil]
  split at hm
  ·rcases List.mem_append.1 hm with h | h
   ·have:=ih m h;omega
   ·rw[List.mem_singleton.1 h];simp
  ·rcases List.mem_append.1 hm with h | h
   ·have:=ih m (List.dropLast_subset _ h);omega
   ·rw[List.mem_singleton.1 h]
    have hp:=jR b r
    have:(pieces b r).getLastD []∈pieces b r:=by
     rw[List.getLastD_eq_getLast?,List.getLast?_eq_some_getLast (List.ne_nil_of_length_pos hp)]
     exact List.getLast_mem _
    have:=ih _ this
    simp only[List.length_append,List.length_cons,List.length_nil];omega
termination_by l.length
decreasing_by simp[*]
theorem Tryd.infoString:(Tryd.prog.info? 9).map (fun i=>(i.zero,i.size,i.bytes))=some (some (.string ⟨#[]⟩),1,16):=by kernel_rfl
def cZ (b:UInt8):List UInt8→List UInt8×List UInt8
 |[]=>([],[])
 |x::r=>if x=b then([],r)else(x::(cZ b r).1,(cZ b r).2)
theorem ng (b:UInt8):∀(l:List UInt8),b∉l→cZ b l=(l,[])
 |[],_=>rfl
 |x::r,h=>by
  rw[cZ,if_neg (fun e=>h (by simp[e])),ng b r (fun e=>h (by simp[e]))]
theorem oK (b:UInt8):∀(l r:List UInt8),b∉l→cZ b (l++b::r)=(l,r)
 |[],r,_=>by simp[cZ]
 |x::l,r,h=>by
  rw[List.cons_append,cZ,if_neg (fun e=>h (by simp[e])),oK b l r (fun e=>h (by simp[e]))]
theorem iE {b:UInt8} :∀ {l:List UInt8},b∈l→∃u v,l=u++b::v∧b∉u
 |x::r,h=>by
  by_cases e:x=b
  ·exact⟨[],r,by simp[e],by simp⟩
  ·obtain⟨u,v,rfl,hu⟩:=iE (l:=r) (by rcases List.mem_cons.1 h with h | h;exact absurd h.symm e;exact h)
   exact⟨x::u,v,rfl,fun h=>by rcases List.mem_cons.1 h with h | h;exact e h.symm;exact hu h⟩
theorem index_one (b:UInt8):∀(l:List UInt8),(b∉l→Lib.index l [b]= -1)∧∀u v,l=u++b::v→b∉u→Lib.index l [b]=u.length
 |[]=>⟨fun _=>rfl,fun u v h=>by simp at h⟩
 |x::r=>by
  obtain⟨h1,h2⟩:=index_one b r
  refine⟨fun h=>?_,fun u v h hu=>?_⟩
  ·have e:b≠x:=fun e=>h (by simp[e])
   rw[Lib.index,if_neg (by simp[List.isPrefixOf,e]),h1 (fun e=>h (by simp[e]))]
   rfl
  ·cases u with
   |nil=>
    simp only[List.nil_append,List.cons.injEq]at h
    rw[Lib.index,if_pos (by simp[List.isPrefixOf,h.1])]
    rfl
   |cons y u=>
    simp only[List.cons_append,List.cons.injEq]at h
    obtain⟨rfl,h⟩:=h
    have e:b≠x:=fun e=>hu (by simp[e])
    have:=h2 u v h (fun e=>hu (by simp[e]))
    rw[Lib.index,if_neg (by simp[List.isPrefixOf,e]),this,if_neg (by simp)]
    simp
theorem DY (b:UInt8) (l:List UInt8):Lib.cut l [b]=((cZ b l).1,(cZ b l).2,decide (b∈l)):=by
 by_cases h:b∈l
 ·obtain⟨u,v,rfl,hu⟩:=iE h
  have:=(index_one b _).2 u v rfl hu
  rw[Lib.cut,this,if_pos (by omega),oK b u v hu]
  simp
 ·rw[Lib.cut,(index_one b l).1 h,if_neg (by decide),ng b l h]
  simp[h]
theorem Ci (m:Int):aH [] m= -1:=rfl
theorem Cj {l:List UInt8} {m:Int} {x:UInt8} (h:x∈l) (hx:fB x=false):aH l m= -1:=by
 refine lN ?_
 have:l.all fB=false:=by
  rw[Bool.eq_false_iff]
  intro e
  rw[List.all_eq_true.1 e x h]at hx;cases hx
 simp[numeral,this]
theorem kJ (l:List UInt8) (m:Int): -1≤aH l m:=by unfold aH;split<;>omega
theorem gy (l:List UInt8) (m:Int) (h:0≤aH l m):aH l m<m:=by unfold aH at*;split<;>simp_all
theorem lQ (u:Nat) (h:u<10):Lib.decDigits u=[UInt8.ofNat (48+u)]:=by rw[Lib.decDigits,dif_pos h]
theorem wK (u:Nat) (h:¬u<10):Lib.decDigits u=Lib.decDigits (u / 10)++[UInt8.ofNat (48+u % 10)]:=by rw[Lib.decDigits,dif_neg h]
theorem uU (u:Nat) (h:u<10):fB (UInt8.ofNat (48+u))=true∧(UInt8.ofNat (48+u)).toNat =48+u:=by
 have:(UInt8.ofNat (48+u)).toNat =48+u:=by simp;omega
 refine⟨?_,this⟩
 simp only[fB,this];simp;omega
theorem kK (u:Nat):(∀c∈Lib.decDigits u,fB c=true)∧jY (Lib.decDigits u)=u∧Lib.decDigits u≠[]∧(1≤u→(Lib.decDigits u).head? ≠some 48):=by
 by_cases h:u<10
 ·rw[lQ u h]
  obtain⟨h1,h2⟩:=uU u h
  refine⟨fun c hc=>by rw[List.mem_singleton.1 hc];exact h1,by simp only[jY,List.foldl_cons,List.foldl_nil,h2];omega,by simp,fun hu e=>?_⟩
  simp only[List.head?_cons,Option.some.injEq]at e
  rw[e]at h2
  simp at h2;omega
 ·obtain⟨i1,i2,i3,i4⟩:=kK (u / 10)
  obtain⟨h1,h2⟩:=uU (u % 10) (by omega)
  rw[wK u h]
  refine⟨fun c hc=>?_,by rw[qx,i2,h2];omega,by simp,fun _=>?_⟩
  ·rcases List.mem_append.1 hc with hc | hc
   ·exact i1 c hc
   ·rw[List.mem_singleton.1 hc];exact h1
  ·obtain⟨y,r,e⟩:=List.exists_cons_of_ne_nil i3
   rw[e]at i4 ⊢
   exact i4 (by omega)
termination_by u
decreasing_by omega
theorem rz (u k:Nat) (h:u<10 ^ (k+1)):(Lib.decDigits u).length ≤k+1:=by
 induction k generalizing u with
 |zero=>rw[lQ u (by simpa using h)];simp
 |succ k ih=>
  by_cases hu:u<10
  ·rw[lQ u hu];simp
  ·rw[wK u hu]
   have:=ih (u / 10) (by rw[Nat.pow_succ]at h;omega)
   simp;omega
theorem mV (u:Nat) (m:Int) (h:u<10000) (hm:(u:Int)<m):aH (Lib.decDigits u) m=u:=by
 obtain⟨h1,h2,h3,h4⟩:=kK u
 have hl:=rz u 3 (by omega)
 have hlp:1≤(Lib.decDigits u).length :=List.length_pos_iff.2 h3
 have hn:numeral (Lib.decDigits u)=true:=by
  have ha:(Lib.decDigits u).all fB=true:=List.all_eq_true.2 h1
  have hz:(decide ((Lib.decDigits u).head? =some 48) && decide (1<(Lib.decDigits u).length))=false:=by
   rw[Bool.eq_false_iff];intro e
   simp only[Bool.and_eq_true,decide_eq_true_eq]at e
   by_cases h0:u=0
   ·subst h0;rw[lQ 0 (by decide)]at e;simp at e
   ·exact h4 (by omega) e.1
  show(decide (1≤_) && decide (_≤4) && _ && !(_))=true
  rw[hz,ha,decide_eq_true (show 1≤(Lib.decDigits u).length from hlp),decide_eq_true (show(Lib.decDigits u).length ≤4 by omega)]
  rfl
 rw[aH,h2,if_pos ⟨hn,hm⟩]
theorem lS (u:Nat) (x:UInt8) (hx:fB x=false):x∉Lib.decDigits u:=fun h=>by
 rw[(kK u).1 x h]at hx;cases hx
theorem qy (b:UInt8) (l:List UInt8):Lib.splitK [b] 0 (Lib.count l [b]) l=pieces b l:=by
 by_cases h:b∈l
 ·obtain⟨u,v,rfl,hu⟩:=iE h
  have hi:=(index_one b (u++b::v)).2 u v rfl hu
  have hd:(u++b::v).drop (u.length+[b].length)=v:=by simp
  rw[Lib.count_hit (by simp) hi,hd,Nat.add_comm,Lib.splitK,hi,if_neg (by simp),show((u.length:Int)).toNat =u.length from rfl,hd,qy b v,gI b u v hu]
  simp
 ·rw[Lib.count_miss ((index_one b l).1 h),pieces_eq b l h];rfl
termination_by l.length
decreasing_by simp[*];omega
def aS (sep:List UInt8):List (List UInt8)→List UInt8
 |[]=>[]
 |[x]=>x
 |x::y::r=>x++sep++aS sep (y::r)
theorem sF (sep:List UInt8):∀xs,Lib.join xs sep=aS sep xs
 |[]=>rfl
 |[x]=>by simp[Lib.join,aS,List.intercalate]
 |x::y::r=>by
  have:=sF sep (y::r)
  simp only[Lib.join,aS,List.intercalate,List.intersperse_cons_cons,List.flatten_cons]at this ⊢
  rw[this,List.append_assoc]
theorem j4 (b:UInt8):∀(xs:List (List UInt8)),xs≠[]→(∀x∈xs,b∉x)→pieces b (aS [b] xs)=xs
 |[x],_,h=>by rw[aS,pieces_eq b x (h x (by simp))]
 |x::y::r,_,h=>by
  have ih:=j4 b (y::r) (by simp) (fun z hz=>h z (by simp at hz ⊢;rcases hz with h | h;exact .inr (.inl h);exact .inr (.inr h)))
  rw[aS,List.append_assoc,List.singleton_append,gI b x _ (h x (by simp)),ih]
theorem ni (sep:List UInt8) (k:Nat):∀(xs:List (List UInt8)),(∀x∈xs,x.length≤k)→(aS sep xs).length ≤(k+sep.length)*xs.length
 |[],_=>by simp[aS]
 |[x],h=>by have:=h x (by simp);simp[aS];omega
 |x::y::r,h=>by
  have ih:=ni sep k (y::r) (fun z hz=>h z (by simp at hz ⊢;rcases hz with h | h;exact .inr (.inl h);exact .inr (.inr h)))
  have:=h x (by simp)
  simp only[aS,List.length_append,List.length_cons,Nat.mul_succ]at ih ⊢
  omega
theorem o8 {sep:List UInt8} {c:UInt8} :∀ {xs:List (List UInt8)},c∈aS sep xs→c∈sep∨∃x∈xs,c∈x
 |[],h=>by simp[aS]at h
 |[x],h=>.inr ⟨x,by simp,h⟩
 |x::y::r,h=>by
  simp only[aS,List.mem_append]at h
  rcases h with(h | h) | h
  ·exact .inr ⟨x,by simp,h⟩
  ·exact .inl h
  ·rcases o8 h with h | ⟨z,hz,h⟩
   ·exact .inl h
   ·exact .inr ⟨z,by simp at hz ⊢;rcases hz with h | h;exact .inr (.inl h);exact .inr (.inr h),h⟩
def bS (S:Nat→Bool) (most n:Nat):Nat:=if h:n<most∧S n=true then bS S most (n+1)else n
termination_by most - n
theorem mW {S:Nat→Bool} {most n:Nat} (h:¬(n<most∧S n=true)):bS S most n=n:=by rw[bS,dif_neg h]
theorem lT {S:Nat→Bool} {most n:Nat} (h:n<most∧S n=true):bS S most n=bS S most (n+1):=by rw[bS,dif_pos h]
theorem jw (S:Nat→Bool) (most n:Nat):n≤bS S most n:=by
 by_cases h:n<most∧S n=true
 ·rw[lT h];have:=jw S most (n+1);omega
 ·rw[mW h];exact Nat.le_refl _
termination_by most - n
theorem rC (S:Nat→Bool) (most n:Nat) (hn:n≤most):bS S most n≤most:=by
 by_cases h:n<most∧S n=true
 ·rw[lT h];exact rC S most (n+1) (by omega)
 ·rw[mW h];exact hn
termination_by most - n
theorem zl (S:Nat→Bool) (most n i:Nat) (h1:n≤i) (h2:i<bS S most n):S i=true:=by
 by_cases h:n<most∧S n=true
 ·rw[lT h]at h2
  by_cases e:i=n
  ·rw[e];exact h.2
  ·exact zl S most (n+1) i (by omega) h2
 ·rw[mW h]at h2;omega
termination_by most - n
theorem wL (S:Nat→Bool) (most n:Nat) (h:bS S most n<most):S (bS S most n)=false:=by
 by_cases hh:n<most∧S n=true
 ·rw[lT hh]at h ⊢;exact wL S most (n+1) h
 ·rw[mW hh]at h ⊢
  cases e:S n with
  |false=>rfl
  |true=>exact absurd ⟨h,e⟩ hh
termination_by most - n
def bW (S:Nat→Bool) (most n:Nat):List (Nat×Nat):=
 if h:n<most then(if n<bS S most n then[(n,bS S most n - 1)]else[])++bW S most (bS S most n+1)else[]
termination_by most - n
decreasing_by have:=jw S most n;omega
theorem nP {S:Nat→Bool} {most n:Nat} (h:¬n<most):bW S most n=[]:=by rw[bW,dif_neg h]
theorem l7 {S:Nat→Bool} {most n:Nat} (h:n<most):bW S most n=(if n<bS S most n then[(n,bS S most n - 1)]else[])++bW S most (bS S most n+1):=by rw[bW,dif_pos h]
theorem o9 (S:Nat→Bool) (most n:Nat):(bW S most n).length ≤most - n:=by
 by_cases hn:n<most
 ·have:=jw S most n
  have ih:=o9 S most (bS S most n+1)
  rw[l7 hn]
  split<;>simp<;>omega
 ·rw[nP hn];simp
termination_by most - n
decreasing_by have:=jw S most n;omega
theorem nk (S:Nat→Bool) (most n:Nat):∀r∈bW S most n,n≤r.1∧r.1≤r.2∧r.2<most∧∀i,r.1≤i→i≤r.2→S i=true:=by
 by_cases hn:n<most
 ·have h0:=jw S most n
  have h1:=rC S most n (Nat.le_of_lt hn)
  have ih:=nk S most (bS S most n+1)
  rw[l7 hn]
  intro r hr
  rcases List.mem_append.1 hr with hr | hr
  ·split at hr
   ·rw[List.mem_singleton.1 hr]
    exact⟨Nat.le_refl _,by simp;omega,by simp;omega,fun i a b=>zl S most n i a (by simp at b;omega)⟩
   ·simp at hr
  ·have:=ih r hr
   exact⟨by omega,this.2⟩
 ·rw[nP hn];simp
termination_by most - n
decreasing_by have:=jw S most n;omega
theorem pq (S:Nat→Bool) (most n i:Nat) (h1:n≤i) (h2:i<most) (hS:S i=true):∃r∈bW S most n,r.1≤i∧i≤r.2:=by
 have h0:=jw S most n
 rw[l7 (by omega)]
 by_cases he:i<bS S most n
 ·exact⟨(n,bS S most n - 1),by rw[if_pos (by omega)];simp,by simpa using h1,by simp;omega⟩
 ·have hle:bS S most n+1≤i:=by
   rcases Nat.lt_or_ge (bS S most n) i with h | h
   ·omega
   ·have e:bS S most n=i:=by omega
    have:=wL S most n (by omega)
    rw[e,hS]at this;cases this
  obtain⟨r,hr,h⟩:=pq S most (bS S most n+1) i hle h2 hS
  exact⟨r,List.mem_append_right _ hr,h⟩
termination_by most - n
decreasing_by have:=jw S most n;omega
def dI (r:Nat×Nat):List UInt8:=if r.1<r.2 then Lib.decDigits r.1++45::Lib.decDigits r.2 else Lib.decDigits r.1
theorem sG {r:Nat×Nat} (h1:r.1<100) (h2:r.2<100):(dI r).length ≤5:=by
 have:=rz r.1 1 (by omega)
 have:=rz r.2 1 (by omega)
 unfold dI;split<;>simp<;>omega
theorem wM {r:Nat×Nat} {c:UInt8} (h:c∈dI r):fB c=true∨c=45:=by
 unfold dI at h
 split at h
 ·rcases List.mem_append.1 h with h | h
  ·exact .inl ((kK _).1 c h)
  ·rcases List.mem_cons.1 h with h | h
   ·exact .inr h
   ·exact .inl ((kK _).1 c h)
 ·exact .inl ((kK _).1 c h)
def bq (set most:Nat):List UInt8:=if set=0 then[45]else if set=2 ^ most - 1 then[42]else aS [44] ((bW set.testBit most 0).map dI)
def l5 (most:Nat) (l:List UInt8):Option (Nat×Nat):=
 let lo:=aH (cZ 45 l).1 most
 let hi:=aH (if 45∈l then(cZ 45 l).2 else(cZ 45 l).1) most
 if lo<0∨hi<lo then none else some (lo.toNat,hi.toNat)
def eP (set:Nat) (xs:List Nat):Nat:=xs.foldl (fun s n=>s ||| 2 ^ n) set
def bY (most:Nat):Nat→List (List UInt8)→Option Nat
 |set,[]=>some set
 |set,l::r=>match l5 most l with
  |none=>none
  |some (lo,hi)=>bY most (eP set (List.range' lo (hi+1 - lo))) r
def dD (l:List UInt8) (most:Nat):Option Nat:=if l=[42]then some (2 ^ most - 1)else if l=[45]then some 0 else bY most 0 (pieces 44 l)
theorem pz:∀(xs:List Nat) (set i:Nat),(eP set xs).testBit i=(set.testBit i || decide (i∈xs))
 |[],set,i=>by simp[eP]
 |x::xs,set,i=>by
  have:=pz xs (set ||| 2 ^ x) i
  simp only[eP,List.foldl_cons]at this ⊢
  rw[this,Nat.testBit_or,Nat.testBit_two_pow]
  by_cases e:x=i
  ·subst e;simp
  ·simp[e,Ne.symm e,Bool.or_assoc]
theorem DZ {most:Nat} {r:Nat×Nat} (h1:r.1≤r.2) (h2:r.2<most) (hm:most≤10000):l5 most (dI r)=some r:=by
 obtain⟨a,b⟩:=r
 simp only at h1 h2
 unfold dI
 simp only
 split
 ·rename_i hab
  have hmem:(45:UInt8)∈Lib.decDigits a++45::Lib.decDigits b:=by simp
  simp only[l5,if_pos hmem,oK 45 _ _ (lS a 45 (by decide))]
  rw[mV a most (by omega) (by omega),mV b most (by omega) (by omega),if_neg (by omega)]
  simp
 ·have e:a=b:=by omega
  subst e
  have hn:=lS a 45 (by decide)
  simp only[l5,if_neg hn,ng 45 _ hn]
  rw[mV a most (by omega) (by omega),if_neg (by omega)]
  simp
theorem uV {most:Nat} (hm:most≤10000):∀(rs:List (Nat×Nat)) (set:Nat),(∀r∈rs,r.1≤r.2∧r.2<most)→∃out,bY most set (rs.map dI)=some out∧∀i,out.testBit i=(set.testBit i || decide (∃r∈rs,r.1≤i∧i≤r.2))
 |[],set,_=>⟨set,rfl,fun i=>by simp⟩
 |r::rs,set,h=>by
  have h0:=h r (by simp)
  obtain⟨out,ho,hb⟩:=uV hm rs (eP set (List.range' r.1 (r.2+1 - r.1))) (fun x hx=>h x (by simp[hx]))
  refine⟨out,by rw[List.map_cons,bY,DZ h0.1 h0.2 hm];exact ho,fun i=>?_⟩
  rw[hb i,pz,Bool.or_assoc]
  congr 1
  rw[← Bool.decide_or]
  congr 1
  simp only[List.mem_range'_1,List.mem_cons,exists_eq_or_imp,eq_iff_iff]
  constructor
  ·rintro(h | h)
   ·exact .inl ⟨h.1,by omega⟩
   ·exact .inr h
  ·rintro(h | h)
   ·exact .inl ⟨h.1,by omega⟩
   ·exact .inr h
theorem AV {sep x:List UInt8} {xs:List (List UInt8)} (h:x≠[]):(aS sep (x::xs)).head? =x.head? :=by
 obtain⟨a,r,rfl⟩:=List.exists_cons_of_ne_nil h
 cases xs<;>simp[aS]
theorem AX (r:Nat×Nat):∃c,(dI r).head? =some c∧fB c=true:=by
 obtain⟨c,l,e⟩:=List.exists_cons_of_ne_nil (kK r.1).2.2.1
 refine⟨c,?_,(kK r.1).1 c (by rw[e];simp)⟩
 unfold dI;rw[e];split<;>rfl
theorem nQ {set most:Nat} (hm:most≤100) (hs:set<2 ^ most) (h0:0<most):dD (bq set most) most=some set:=by
 unfold bq
 split
 ·rename_i e;rw[e];simp[dD]
 ·rename_i hne
  split
  ·rename_i e;rw[e];simp[dD]
  ·rename_i hnf
   have hmem:=nk set.testBit most 0
   have hrows:bW set.testBit most 0≠[]:=by
    intro e
    have:set=0:=by
     apply Nat.eq_of_testBit_eq
     intro i
     rw[Nat.zero_testBit]
     cases hb:set.testBit i with
     |false=>rfl
     |true=>
      have hi:i<most:=by
       rcases Nat.lt_or_ge i most with h | h
       ·exact h
       ·rw[Nat.testBit_lt_two_pow (Nat.lt_of_lt_of_le hs (Nat.pow_le_pow_right (by decide) h))]at hb;cases hb
      obtain⟨r,hr,_⟩:=pq set.testBit most 0 i (Nat.zero_le _) hi hb
      rw[e]at hr;simp at hr
    exact hne this
   obtain⟨r0,rs,e0⟩:=List.exists_cons_of_ne_nil hrows
   obtain⟨c,hc,hcd⟩:=AX r0
   have hne0:dI r0≠[]:=fun e=>by rw[e]at hc;simp at hc
   have hhead:(aS [44] ((bW set.testBit most 0).map dI)).head? =some c:=by
    rw[e0,List.map_cons,AV hne0,hc]
   have hn1:aS [44] ((bW set.testBit most 0).map dI)≠[42]:=fun e=>by
    rw[e]at hhead;simp at hhead;rw[← hhead]at hcd;simp[fB]at hcd
   have hn2:aS [44] ((bW set.testBit most 0).map dI)≠[45]:=fun e=>by
    rw[e]at hhead;simp at hhead;rw[← hhead]at hcd;simp[fB]at hcd
   rw[dD,if_neg hn1,if_neg hn2,j4 44 _ (by simpa using hrows) (fun x hx hb=>by
    obtain⟨r,_,rfl⟩:=List.mem_map.1 hx
    rcases wM hb with h | h
    ·simp[fB]at h
    ·simp at h)]
   obtain⟨out,ho,hb⟩:=uV (by omega) (bW set.testBit most 0) 0 (fun r hr=>⟨(hmem r hr).2.1,(hmem r hr).2.2.1⟩)
   rw[ho]
   congr 1
   apply Nat.eq_of_testBit_eq
   intro i
   rw[hb i,Nat.zero_testBit,Bool.false_or]
   cases hS:set.testBit i with
   |true=>
    have hi:i<most:=by
     rcases Nat.lt_or_ge i most with h | h
     ·exact h
     ·rw[Nat.testBit_lt_two_pow (Nat.lt_of_lt_of_le hs (Nat.pow_le_pow_right (by decide) h))]at hS;cases hS
    exact decide_eq_true (pq set.testBit most 0 i (Nat.zero_le _) hi hS)
   |false=>
    refine decide_eq_false ?_
    rintro⟨r,hr,a,b⟩
    have:=(hmem r hr).2.2.2 i a b
    rw[this]at hS;cases hS
theorem pE {set most:Nat} (hm:most≤100) (h0:0<most):(bq set most).length ≤6*most:=by
 unfold bq
 split
 ·simp;omega
 ·split
  ·simp;omega
  ·have h1:=ni [44] 5 ((bW set.testBit most 0).map dI) (fun x hx=>by
    obtain⟨r,hr,rfl⟩:=List.mem_map.1 hx
    have:=nk set.testBit most 0 r hr
    exact sG (by omega) (by omega))
   have h2:=o9 set.testBit most 0
   simp only[List.length_map,List.length_cons,List.length_nil]at h1
   omega
theorem wN {set most:Nat} {c:UInt8} (h:c∈bq set most):fB c=true∨c=45∨c=42∨c=44:=by
 unfold bq at h
 split at h
 ·exact .inr (.inl (List.mem_singleton.1 h))
 ·split at h
  ·exact .inr (.inr (.inl (List.mem_singleton.1 h)))
  ·rcases o8 h with h | ⟨x,hx,h⟩
   ·exact .inr (.inr (.inr (List.mem_singleton.1 h)))
   ·obtain⟨r,hr,rfl⟩:=List.mem_map.1 hx
    rcases wM h with h | h
    ·exact .inl h
    ·exact .inr (.inl h)
def dG (m:M4):List UInt8:=bq m.src 16++32::(bq m.eT 8++32::(bq m.dst 16++32::bq m.eU 8))
theorem oF (m:M4):dG m=aS [32] [bq m.src 16,bq m.eT 8,bq m.dst 16,bq m.eU 8]:=by simp[dG,aS]
theorem eB (m:M4):(dG m).length ≤291:=by
 have h1:=pE (set:=m.src) (most:=16) (by omega) (by omega)
 have h2:=pE (set:=m.eT) (most:=8) (by omega) (by omega)
 have h3:=pE (set:=m.dst) (most:=16) (by omega) (by omega)
 have h4:=pE (set:=m.eU) (most:=8) (by omega) (by omega)
 simp[dG];omega
def bF (l:List UInt8):M4×Int:=
 if 300<l.length then(⟨0,0,0,0⟩,2)else
 match pieces 32 l with
 |[a,b,c,d]=>match dD a 16,dD b 8,dD c 16,dD d 8 with
  |some x,some y,some z,some u=>(⟨x,z,y,u⟩,0)
  |_,_,_,_=>(⟨0,0,0,0⟩,3)
 |_=>(⟨0,0,0,0⟩,3)
theorem yD {m:M4} (h:m.ok):bF (dG m)=(m,0):=by
 obtain⟨h1,h2,h3,h4⟩:=h
 have hl:=eB m
 rw[bF,if_neg (by omega),oF,j4 32 _ (by simp) (fun x hx hb=>by
  simp only[List.mem_cons,List.not_mem_nil,or_false]at hx
  rcases hx with rfl | rfl | rfl | rfl<;>(rcases wN hb with h | h | h | h<;>simp[fB]at h))]
 simp only[nQ (set:=m.src) (most:=16) (by omega) h1 (by omega),nQ (set:=m.eT) (most:=8) (by omega) h3 (by omega),nQ (set:=m.dst) (most:=16) (by omega) h2 (by omega),nQ (set:=m.eU) (most:=8) (by omega) h4 (by omega)]
theorem lU {l:List UInt8} {most:Nat} {x:Nat} (hm:0<most) (h:dD l most=some x):x<2 ^ most:=by
 have hp:0<2 ^ most:=Nat.two_pow_pos most
 unfold dD at h
 split at h
 ·cases h;omega
 ·split at h
  ·cases h;exact hp
  ·have key:∀(rs:List (List UInt8)) (set:Nat),set<2 ^ most→∀x,bY most set rs=some x→x<2 ^ most:=by
    intro rs
    induction rs with
    |nil=>intro set hs x hx;cases hx;exact hs
    |cons r rs ih=>
     intro set hs x hx
     unfold bY at hx
     split at hx
     ·cases hx
     ·rename_i lo hi hr
      refine ih _ ?_ x hx
      have hhi:hi<most:=by
       obtain⟨q,hq⟩:∃q,(if 45∈r then(cZ 45 r).2 else(cZ 45 r).1)=q:=⟨_,rfl⟩
       simp only[l5,hq]at hr
       split at hr
       ·cases hr
       ·simp only[Option.some.injEq,Prod.mk.injEq]at hr
        have:=gy q most (by omega)
        omega
      apply Nat.lt_pow_two_of_testBit
      intro i hi'
      rw[pz,Nat.testBit_lt_two_pow (Nat.lt_of_lt_of_le hs (Nat.pow_le_pow_right (by decide) hi')),Bool.false_or]
      exact decide_eq_false (by simp only[List.mem_range'_1];omega)
   exact key _ 0 hp x h
theorem AY {l:List UInt8} :(bF l).1.ok :=by
 unfold bF
 split
 ·exact⟨by decide,by decide,by decide,by decide⟩
 ·split
  ·split
   ·rename_i h1 h2 h3 h4
    exact⟨lU (most:=16) (by decide) h1,lU (most:=16) (by decide) h3,lU (most:=8) (by decide) h2,lU (most:=8) (by decide) h4⟩
   ·exact⟨by decide,by decide,by decide,by decide⟩
  ·exact⟨by decide,by decide,by decide,by decide⟩
end Go.Proofs.YtifkacnoiocebaaDoor
