/- A part of the proof: Nr16, DevOk, Nt3, Nb1. -/
import Derived.Test.YtifkacnoiocebaaDoorNk19
set_option linter.unusedVariables false
set_option linter.unusedSimpArgs false
set_option maxRecDepth 100000
set_option maxHeartbeats 8000000
namespace Go.Proofs.YtifkacnoiocebaaDoor
open Go.RowKit
theorem yR {t:List UInt8} (h0:t≠[]) (h:10∉t):bD t=([t],false):=by
 unfold bD
 rw[pieces_eq 10 t h,if_neg (by simpa using h0)]
theorem yS {u v:List UInt8} (h:10∉u):bD (u++10::v)=(u::(bD v).1,(bD v).2):=by
 unfold bD
 rw[gI 10 u v h]
 have hp:=jR 10 v
 obtain⟨a,t,hat⟩:∃a t,pieces 10 v=a::t:=by
  cases hc:pieces 10 v with
  |nil=>rw[hc]at hp;simp at hp
  |cons a t=>exact⟨a,t,rfl⟩
 rw[hat,List.getLast?_cons_cons]
 split
 ·rw[List.dropLast_cons_cons]
 ·rfl
theorem yT (v:List UInt8) (h:(bD v).2=false):(bD v).1≠[]:=by
 unfold bD at*
 split
 ·rename_i h';rw[if_pos h']at h;cases h
 ·have:=jR 10 v;intro e;have e:pieces 10 v=[]:=e;rw[e]at this;simp at this
def kg (S:dH) (at_:Nat) (t:List UInt8):dH⊕Nat:=
 match jy S at_ (if(bD t).2=true then(bD t).1 else(bD t).1.dropLast)with
 |.inr k=>.inr k
 |.inl S'=>if(bD t).2=true then .inl S' else .inr (at_+(bD t).1.length - 1)
theorem Ad (S:dH) (a:Nat):kg S a []= .inl S:=rfl
theorem Ae (S:dH) (a:Nat) {t:List UInt8} (h0:t≠[]) (h:10∉t):kg S a t= .inr a:=by
 unfold kg
 rw[yR h0 h]
 simp[jy]
theorem Af (S:dH) (a:Nat) {u v:List UInt8} (h:10∉u):kg S a (u++10::v)=match bU S (pieces 32 u)with | none=>.inr a | some S'=>kg S' (a+1) v:=by
 unfold kg
 rw[yS h]
 cases hl:(bD v).2 with
 |true=>
  simp only[if_true,jy]
  cases bU S (pieces 32 u)with
  |none=>rfl
  |some S'=>rfl
 |false=>
  have hp:=yT v hl
  rw[if_neg (by decide),if_neg (by decide),List.dropLast_cons_of_ne_nil hp]
  simp only[jy]
  cases bU S (pieces 32 u)with
  |none=>rfl
  |some S'=>
   simp only
   cases jy S' (a+1) (bD v).1.dropLast with
   |inr k=>rfl
   |inl S2=>
    have:0<(bD v).1.length :=by cases hc:(bD v).1 with | nil=>exact absurd hc hp | cons a t=>simp
    simp only[Bool.false_eq_true,if_false,List.length_cons]
    congr 1
    omega
theorem yU (l:List UInt8):fG l=if 4096<l.length then(⟨[],[]⟩,0,2)else match kg ⟨[],[]⟩ 1 l with
  |.inr k=>(⟨[],[]⟩,k,3)
  |.inl S=>if fE S.ds S.ls=0 then(S,0,0)else(⟨[],[]⟩,0,fE S.ds S.ls):=by
 unfold fG kg
 split
 ·rfl
 ·cases h:jy ⟨[],[]⟩ 1 (if(bD l).2=true then(bD l).1 else(bD l).1.dropLast)with
  |inr k=>rfl
  |inl S=>
   simp only
   cases h2:(bD l).2 with
   |true=>simp
   |false=>
    simp only[if_true,Bool.false_eq_true,if_false]
    rw[show 1+(bD l).1.length - 1=(bD l).1.length by omega]
theorem dO.mono {S:dH} {k m:Nat} (h:dO S k) (hm:k≤m):dO S m:=
 ⟨Nat.le_trans h.d hm,Nat.le_trans h.l hm,fun d hd=>Nat.le_trans (h.r d hd) hm,fun d hd=>Nat.le_trans (h.t d hd) hm⟩
theorem dO.dev {S:dH} {k:Nat} {d:Dev} (h:dO S k) (hr:d.rules=[]) (ht:d.routes=[]):dO ⟨S.ds++[d],S.ls⟩ (k+1):=by
 refine⟨by have:=h.d;simp;omega,by have:=h.l;simp;omega,fun x hx=>?_,fun x hx=>?_⟩
 ·rcases List.mem_append.1 hx with hx | hx
  ·have:=h.r x hx;omega
  ·simp at hx;subst hx;rw[hr];simp
 ·rcases List.mem_append.1 hx with hx | hx
  ·have:=h.t x hx;omega
  ·simp at hx;subst hx;rw[ht];simp
theorem dO.last {S S':dH} {k:Nat} {f:Dev→Dev} (h:dO S k) (hf:jH S f=some S') (h1:∀d∈S.ds,(f d).rules.length ≤k+1) (h2:∀d∈S.ds,(f d).routes.length ≤k+1):dO S' (k+1):=by
 unfold jH at hf
 split at hf
 ·cases hf
 ·split at hf
  ·rename_i d hd
   cases hf
   have hm:d∈S.ds:=List.mem_of_getLast? hd
   have hlen:S.ds.dropLast.length+1=S.ds.length:=by
    rw[List.length_dropLast]
    have:=List.length_pos_of_mem hm
    omega
   refine⟨by have:=h.d;simp only[List.length_append,List.length_cons,List.length_nil];omega,by have:=h.l;simp only;omega,fun x hx=>?_,fun x hx=>?_⟩
   ·rcases List.mem_append.1 hx with hx | hx
    ·have:=h.r x (List.dropLast_subset _ hx);omega
    ·simp at hx;subst hx;exact h1 d hm
   ·rcases List.mem_append.1 hx with hx | hx
    ·have:=h.t x (List.dropLast_subset _ hx);omega
    ·simp at hx;subst hx;exact h2 d hm
  ·cases hf
theorem dO.line {S S':dH} {k:Nat} {ws:List (List UInt8)} (h:dO S k) (hl:bU S ws=some S'):dO S' (k+1):=by
 have Dw:∀b w,iw S b w=some S'→dO S' (k+1):=fun b w hr=>by
  unfold iw at hr
  split at hr
  ·exact h.last hr (fun d hd=>by have:=h.r d hd;simp;omega) (fun d hd=>by have:=h.t d hd;show d.routes.length≤_;omega)
  ·cases hr
 unfold bU at hl
 split at hl
 ·cases hl
 ·split at hl
  ·exact Dw _ _ hl
  split at hl
  ·exact Dw _ _ hl
  split at hl
  ·unfold fQ at hl
   split at hl
   ·split at hl
    ·split at hl
     ·exact h.last hl (fun d hd=>by have:=h.r d hd;show d.rules.length≤_;omega) (fun d hd=>by have:=h.t d hd;simp;omega)
     ·cases hl
    ·cases hl
   ·cases hl
  split at hl
  ·unfold j5 at hl
   split at hl
   ·split at hl
    ·cases hl
     exact⟨by have:=h.d;simp only;omega,by have:=h.l;simp;omega,fun d hd=>by have:=h.r d hd;omega,fun d hd=>by have:=h.t d hd;omega⟩
    ·cases hl
   ·cases hl
  ·unfold cB at hl
   split at hl
   ·split at hl
    ·cases hl
    ·split at hl
     ·split at hl
      ·cases hl;exact h.dev rfl rfl
      ·cases hl
     ·cases hl;exact h.dev rfl rfl
     ·cases hl;exact h.dev rfl rfl
     ·split at hl
      ·split at hl
       ·split at hl
        ·cases hl;exact h.dev rfl rfl
        ·cases hl
       ·cases hl
      ·cases hl
     ·split at hl
      ·split at hl
       ·cases hl;exact h.dev rfl rfl
       ·cases hl
      ·cases hl
     ·cases hl
   ·cases hl
theorem uM (b:UInt8) (ps:List (List UInt8)):(aS [b] (ps.drop 1)).length ≤(aS [b] ps).length :=by
 cases ps with
 |nil=>simp[aS]
 |cons x r=>
  cases r with
  |nil=>simp[aS]
  |cons y t=>simp[aS];omega
theorem xg (b:UInt8):∀(n:Nat) (l:List UInt8),l.length≤n→aS [b] (pieces b l)=l:=by
 intro n
 induction n with
 |zero=>intro l hl;obtain rfl:=List.eq_nil_of_length_eq_zero (Nat.le_zero.1 hl);rfl
 |succ n ih=>
  intro l hl
  by_cases h:b∈l
  ·obtain⟨u,v,rfl,hu⟩:=iE h
   rw[gI b u v hu]
   have hv:=ih v (by simp at hl;omega)
   have hp:=jR b v
   cases hc:pieces b v with
   |nil=>rw[hc]at hp;simp at hp
   |cons a t=>rw[aS,← hc,hv];simp
  ·rw[pieces_eq b l h,aS]
theorem yV {u:List UInt8} (h:u.length≤4096):mF (pieces 32 u):=by
 refine⟨by have:=gJ 32 u;omega,fun x hx=>by have:=j3 32 u x hx;omega,?_⟩
 have:=uM 32 (pieces 32 u)
 rw[xg 32 u.length u (Nat.le_refl _)]at this
 omega
theorem CB (x:List UInt8):fC x≤5:=by
 unfold fC
 repeat (split;omega)
 omega
theorem Bq (R:Nat) (S:dH) (x:List UInt8) (rest:List (List UInt8)) (base g n cap:Nat) (W:World) (hm:dF W) (hR:kY iZ 41 W R S) (hS:dO S 10000) (hw:bR W base g n cap (x::rest)) (hwo:mF (x::rest)) (hgR:R<g):
  Calls Tryd.prog 31 #[.pointer (some ⟨R,0,none⟩),.slice (some ⟨g,0,none⟩) n cap] W (kZ iZ 41 R (cB S (x::rest)) W):=by
 have h:=CB x
 rcases(by omega:fC x=0∨fC x=1∨fC x=2∨fC x=3∨fC x=4∨fC x=5)with h | h | h | h | h | h
 ·exact Cu R S x rest base g n cap W hm hR hS hw hwo hgR h
 ·exact D9 R S x rest base g n cap W hm hR hS hw hwo hgR h
 ·exact D7 R S x rest base g n cap W hm hR hS hw hwo hgR h
 ·exact D8 R S x rest base g n cap W hm hR hS hw hwo hgR h
 ·exact Eb R S x rest base g n cap W hm hR hS hw hwo hgR h
 ·exact Ea R S x rest base g n cap W hm hR hS hw hwo hgR h
theorem Ag (R:Nat) (S:dH) (x:List UInt8) (rest:List (List UInt8)) (base g n cap:Nat) (W:World) (hm:dF W) (hR:kY iZ 41 W R S) (hS:dO S 10000) (hw:bR W base g n cap (x::rest)) (hwo:mF (x::rest)) (hgR:R<g):
  Calls Tryd.prog 10 #[.pointer (some ⟨R,0,none⟩),.slice (some ⟨g,0,none⟩) n cap] W (kZ iZ 41 R (bU S (x::rest)) W):=by
 have xq:=hide (fun b hb=>zX R S x rest base g n cap W hm hR hS hw hwo hgR b hb)
 have bg:=hide (yO R S x rest base g n cap W hm hR hS hw hwo hgR)
 have gG:=hide (zZ R S x rest base g n cap W hm hR hS hw hwo hgR)
 have tV:=hide (Bq R S x rest base g n cap W hm hR hS hw hwo hgR)
 have hx0:W.cell? ⟨g,0,none⟩=some (.string ⟨x.toArray⟩):=hw.get (k:=0) rfl
 have hn:=hw.len
 simp only[List.length_cons]at hn
 have hn0:(0:Int)<(n:Int):=by omega
 have hn1:0<n:=by omega
 clear hm hR hS hw hwo
 by_cases h1:x=oL
 ·have HL:=hide (show bU S (x::rest)=iw S true rest from by simp only[bU,if_pos h1])
  have HC:=hide (xq.out true (by rw[h1];rfl))
  have e1:(x ==[112,101,114,109,105,116])=true:=by rw[h1];rfl
  clear xq bg gG tV h1
  go_enter Tryd.func10,Tryd.ntmps10
  go_wp2_with fail
  refine(HC.out).mono ?_
  rintro e w2 h
  rcases h with⟨hb,⟨hr,rfl⟩ | ⟨S',hr,rfl,hm⟩⟩
  ·go_wp2_with fail
   go_ret
   exact⟨hb,.inl ⟨by rw[HL.out];exact hr,rfl⟩⟩
  ·go_wp2_with fail
   go_ret
   exact⟨hb,.inr ⟨S',by rw[HL.out];exact hr,rfl,hm⟩⟩
 have e1:(x ==[112,101,114,109,105,116])=false:=by simpa[oL]using h1
 by_cases h2:x=sZ
 ·have HL:=hide (show bU S (x::rest)=iw S false rest from by simp only[bU,if_neg h1,if_pos h2])
  have HC:=hide (xq.out false e1)
  have e2:(x ==[100,101,110,121])=true:=by rw[h2];rfl
  clear xq bg gG tV h1 h2
  go_enter Tryd.func10,Tryd.ntmps10
  go_wp2_with fail
  refine(HC.out).mono ?_
  rintro e w2 h
  rcases h with⟨hb,⟨hr,rfl⟩ | ⟨S',hr,rfl,hm⟩⟩
  ·go_wp2_with fail
   go_ret
   exact⟨hb,.inl ⟨by rw[HL.out];exact hr,rfl⟩⟩
  ·go_wp2_with fail
   go_ret
   exact⟨hb,.inr ⟨S',by rw[HL.out];exact hr,rfl,hm⟩⟩
 have e2:(x ==[100,101,110,121])=false:=by simpa[sZ]using h2
 by_cases h3:x=qz
 ·have HL:=hide (show bU S (x::rest)=fQ S rest from by simp only[bU,if_neg h1,if_neg h2,if_pos h3])
  have e3:(x ==[114,111,117,116,101])=true:=by rw[h3];rfl
  clear xq gG tV h1 h2 h3
  go_enter Tryd.func10,Tryd.ntmps10
  go_wp2_with fail
  refine(bg.out).mono ?_
  rintro e w2 h
  rcases h with⟨hb,⟨hr,rfl⟩ | ⟨S',hr,rfl,hm⟩⟩
  ·go_wp2_with fail
   go_ret
   exact⟨hb,.inl ⟨by rw[HL.out];exact hr,rfl⟩⟩
  ·go_wp2_with fail
   go_ret
   exact⟨hb,.inr ⟨S',by rw[HL.out];exact hr,rfl,hm⟩⟩
 have e3:(x ==[114,111,117,116,101])=false:=by simpa[qz]using h3
 by_cases h4:x=tq
 ·have HL:=hide (show bU S (x::rest)=j5 S rest from by simp only[bU,if_neg h1,if_neg h2,if_neg h3,if_pos h4])
  have e4:(x ==[108,105,110,107])=true:=by rw[h4];rfl
  clear xq bg tV h1 h2 h3 h4
  go_enter Tryd.func10,Tryd.ntmps10
  go_wp2_with fail
  refine(gG.out).mono ?_
  rintro e w2 h
  rcases h with⟨hb,⟨hr,rfl⟩ | ⟨S',hr,rfl,hm⟩⟩
  ·go_wp2_with fail
   go_ret
   exact⟨hb,.inl ⟨by rw[HL.out];exact hr,rfl⟩⟩
  ·go_wp2_with fail
   go_ret
   exact⟨hb,.inr ⟨S',by rw[HL.out];exact hr,rfl,hm⟩⟩
 have e4:(x ==[108,105,110,107])=false:=by simpa[tq]using h4
 have HL:=hide (show bU S (x::rest)=cB S (x::rest)from by simp only[bU,if_neg h1,if_neg h2,if_neg h3,if_neg h4])
 clear xq bg gG h1 h2 h3 h4
 go_enter Tryd.func10,Tryd.ntmps10
 go_wp2_with fail
 refine(tV.out).mono ?_
 rintro e w2 h
 rcases h with⟨hb,⟨hr,rfl⟩ | ⟨S',hr,rfl,hm⟩⟩
 ·go_wp2_with fail
  go_ret
  exact⟨hb,.inl ⟨by rw[HL.out];exact hr,rfl⟩⟩
 ·go_wp2_with fail
  go_ret
  exact⟨hb,.inr ⟨S',by rw[HL.out];exact hr,rfl,hm⟩⟩
open Go.Maps
theorem nX:∀(l pre:List Dev),fD pre l=0→∀d∈l,bL d=0
 |[],_,_,d,hd=>by cases hd
 |a::t,pre,h,d,hd=>by
  unfold fD at h
  by_cases h1:bT a.name=false
  ·rw[if_pos h1]at h;cases h
  rw[if_neg h1]at h
  by_cases h2:(pre.any (fun x=>eG x.name a.name))=true
  ·rw[if_pos h2]at h;cases h
  rw[if_neg h2]at h
  by_cases h3:bL a=0
  ·rw[if_pos h3]at h
   rcases List.mem_cons.1 hd with rfl | hd
   ·exact h3
   ·exact nX t _ h d hd
  ·rw[if_neg h3]at h;exact absurd h h3
structure tT (d:Dev):Prop where
 k1:1≤d.kind
 k5:d.kind≤5
 ar:(!(gW d.kind && !(decide (0≤d.addr) && decide (d.addr<16))) && !(!gW d.kind && (d.addr != 0)) && !((d.pool != 0) != (d.kind ==4)))=true
 bl:d.backs.length≤3
 bb:dX d=true
 rl:d.rules.length≤8
 tc:fA d.routes=0
 tl:d.routes.length≤8
theorem uN {d:Dev} (h:bL d=0):tT d:=by
 unfold bL at h
 by_cases h1:(decide (d.kind<1) || decide (5<d.kind))=true
 ·rw[if_pos h1]at h;cases h
 rw[if_neg h1]at h
 by_cases h2:((gW d.kind && !(decide (0≤d.addr) && decide (d.addr<16))) || (!gW d.kind && (d.addr != 0)) || ((d.pool != 0) != (d.kind ==4)))=true
 ·rw[if_pos h2]at h;cases h
 rw[if_neg h2]at h
 by_cases h3:decide (3<d.backs.length)=true
 ·rw[if_pos h3]at h;cases h
 rw[if_neg h3]at h
 by_cases h4:(!dX d)=true
 ·rw[if_pos h4]at h;cases h
 rw[if_neg h4]at h
 by_cases h5:((decide (0<d.rules.length) && (d.kind != 2) && (d.kind != 3)) || (decide (0<d.routes.length) && (d.kind != 2)))=true
 ·rw[if_pos h5]at h;cases h
 rw[if_neg h5]at h
 by_cases h6:decide (8<d.rules.length)=true
 ·rw[if_pos h6]at h;cases h
 rw[if_neg h6]at h
 simp only[Bool.or_eq_true,decide_eq_true_eq,not_or]at h1
 have hl:d.routes.length≤8:=by
  unfold fA at h
  by_cases h7:8<d.routes.length
  ·rw[if_pos h7]at h;cases h
  ·omega
 refine⟨by omega,by omega,?_,by simpa using h3,by simpa using h4,by simpa using h6,h,hl⟩
 revert h2
 cases(gW d.kind && !(decide (0≤d.addr) && decide (d.addr<16)))<;>cases(!gW d.kind && (d.addr != 0))<;>cases((d.pool != 0) != (d.kind ==4))<;>simp
theorem yX {ds:List Dev} {ls:List au} (h:fE ds ls=0):∀d∈ds,tT d:=fun d hd=>uN (nX ds [] (lV h).de d hd)
end Go.Proofs.YtifkacnoiocebaaDoor
namespace Go.Proofs.YtifkacnoiocebaaDoor
open Go.RowKit
def nameAt (ds:List Dev) (i:Int):List UInt8:=((ds[i.toNat]?).map (fun d=>d.name.data.toList)).getD []
def jW (ds:List Dev) (l:au):List UInt8:=[108,105,110,107,32]++(nameAt ds l.a++32::(Lib.decDigits l.p.toNat++32::(nameAt ds l.b++32::(Lib.decDigits l.q.toNat++[10]))))
def iP (ds:List Dev) (ls:List au):List UInt8:=ds.flatMap jO++ls.flatMap (jW ds)
def iQ (ds:List Dev) (ls:List au):List UInt8:=if fE ds ls=0 then iP ds ls else[]
theorem zA:∀(l pre:List aI),mG pre l=0→∀r∈l,gH r.v r.b r.p=true
 |[],_,_,r,hr=>by cases hr
 |a::t,pre,h,r,hr=>by
  unfold mG at h
  by_cases h1:gH a.v a.b a.p=false
  ·rw[if_pos h1]at h;cases h
  rw[if_neg h1]at h
  by_cases h2:(pre.any (lF a))=true
  ·rw[if_pos h2]at h;cases h
  rw[if_neg h2]at h
  rcases List.mem_cons.1 hr with rfl | hr
  ·simpa using h1
  ·exact zA t _ h r hr
theorem vE (a:Int):∀(l pre:List Int),iR a pre l=true→∀x∈l,0≤x∧x<16
 |[],_,_,x,hx=>by cases hx
 |b::t,pre,h,x,hx=>by
  unfold iR at h
  simp only[Bool.and_eq_true,decide_eq_true_eq]at h
  rcases List.mem_cons.1 hx with rfl | hx
  ·exact⟨h.1.1.1.1,h.1.1.1.2⟩
  ·exact vE a t _ h.2 x hx
theorem nY:∀(l pre:List Dev),fD pre l=0→∀d∈l,bT d.name=true
 |[],_,_,d,hd=>by cases hd
 |a::t,pre,h,d,hd=>by
  unfold fD at h
  by_cases h1:bT a.name=false
  ·rw[if_pos h1]at h;cases h
  rw[if_neg h1]at h
  by_cases h2:(pre.any (fun x=>eG x.name a.name))=true
  ·rw[if_pos h2]at h;cases h
  rw[if_neg h2]at h
  by_cases h3:bL a=0
  ·rw[if_pos h3]at h
   rcases List.mem_cons.1 hd with rfl | hd
   ·simpa using h1
   ·exact nY t _ h d hd
  ·rw[if_neg h3]at h;exact absurd h h3
theorem CF {p:Nat} (h:p<256) (h0:p≠0):0<(dS p).length :=by
 rcases Nat.eq_zero_or_pos (dS p).length with e | e
 ·exfalso
  have hn:dS p=[]:=List.eq_nil_of_length_eq_zero e
  refine h0 (Nat.eq_of_testBit_eq fun i=>?_)
  rw[Nat.zero_testBit]
  by_cases hi:i<8
  ·cases hb:p.testBit i with
   |false=>rfl
   |true=>
    have:i∈dS p:=List.mem_filter.2 ⟨List.mem_range.2 hi,hb⟩
    rw[hn]at this;cases this
  ·exact Nat.testBit_lt_two_pow (Nat.lt_of_lt_of_le (show p<2 ^ 8 from h) (Nat.pow_le_pow_right (by decide) (by omega)))
 ·exact e
theorem Ah {d:Dev} (h:tT d) (hn:bT d.name=true) (hp:d.pool<256):qO d:=by
 have har:=h.ar
 simp only[Bool.and_eq_true,Bool.not_eq_true',Bool.and_eq_false_iff]at har
 have hbb:=h.bb
 simp only[dX,Bool.and_eq_true]at hbb
 have hk1:=h.k1
 have hk5:=h.k5
 have GD:mG [] d.routes=0:=by
  have:=h.tc
  unfold fA at this
  rw[if_neg (by have:=h.tl;omega)]at this
  exact this
 have hnm:d.name.size≤8:=by
  simp only[bT,Bool.and_eq_true,decide_eq_true_eq]at hn
  exact hn.2
 refine⟨by omega,?_,hnm,vE d.addr d.backs [] hbb.1,h.bl,fun h5=>?_,fun h4=>?_,h.rl,h.tl,fun r hr=>?_⟩
 ·cases ha:gW d.kind
  ·have h2:=har.1.2
   simp[ha]at h2
   omega
  ·have h1:=har.1.1
   simp[ha]at h1
   omega
 ·have h2:=hbb.2
  simp[h5]at h2
  exact h2
 ·have h3:=har.2
  simp[h4]at h3
  exact CF hp h3
 ·have:=zA d.routes [] GD r hr
  simp only[gH,Bool.and_eq_true,decide_eq_true_eq]at this
  omega
structure xu (ds:List Dev) (l:au):Prop where
 a:0≤l.a∧l.a<ds.length
 b:0≤l.b∧l.b<ds.length
 p:0≤l.p∧l.p<100
 q:0≤l.q∧l.q<100
theorem zB (k:Int):dV k≤4:=by
 unfold dV
 repeat (first | split | omega)
theorem rE {ds:List Dev} {ls:List au} (h:fE ds ls=0) {l:au} (hl:l∈ls):xu ds l:=by
 have hk:=lV h
 have h1:=tX.1 (hk.pl l.e1 (tC.2 ⟨l,hl,.inl rfl⟩))
 have h2:=tX.1 (hk.pl l.e2 (tC.2 ⟨l,hl,.inr rfl⟩))
 have q1:=zB (oO ds l.e1.1)
 have q2:=zB (oO ds l.e2.1)
 simp only[au.e1,au.e2]at h1 h2 q1 q2
 exact⟨h1.1,h2.1,by omega,by omega⟩
theorem sI {d:Dev} (h:qO d):(jO d).length ≤3000:=by
 have h1:=vF h
 have h2:=dY aZ 299 d.rules (fun x _=>kL x)
 have h3:=dY bO 15 d.routes (fun x hx=>by
  have:=h.t x hx
  exact jX this.1.2 this.2.1.2 this.2.2.2)
 have h4:=h.rl
 have h5:=h.tl
 simp only[jO,List.length_append];omega
theorem pK {ds:List Dev} {i:Int} {d:Dev} (h:ds[i.toNat]?=some d):nameAt ds i=d.name.data.toList:=by simp[nameAt,h]
def headW (d:Dev):List (List UInt8):=aN d.kind::d.name.data.toList::(if d.kind=1 then[Lib.decDigits d.addr.toNat]else if d.kind=4 then[Lib.decDigits d.addr.toNat,iG (dS d.pool)]else if d.kind=5 then[Lib.decDigits d.addr.toNat,iG (d.backs.map Int.toNat)]else[])
def l6 (r:aW):List (List UInt8):=(if r.permit=true then oL else sZ)::[bq r.m.src 16,bq r.m.eT 8,bq r.m.dst 16,bq r.m.eU 8]
def ko (r:aI):List (List UInt8):=[qz,Lib.decDigits r.v.toNat++47::Lib.decDigits r.b.toNat,Lib.decDigits r.p.toNat]
def mO (ds:List Dev) (l:au):List (List UInt8):=[tq,nameAt ds l.a,Lib.decDigits l.p.toNat,nameAt ds l.b,Lib.decDigits l.q.toNat]
def pO (d:Dev):List (List (List UInt8)):=headW d::(d.rules.map l6++d.routes.map ko)
def wF (ds:List Dev) (ls:List au):List (List (List UInt8)):=ds.flatMap pO++ls.map (mO ds)
def iM (ws:List (List UInt8)):List UInt8:=aS [32] ws++[10]
theorem pQ {α:Type} (f:α→List (List UInt8)) (h:α→List UInt8) (e:∀x,h x=iM (f x)):∀l:List α,l.flatMap h=(l.map f).flatMap iM
 |[]=>rfl
 |x::t=>by rw[List.flatMap_cons,List.map_cons,List.flatMap_cons,e,pQ f h e t]
theorem Br (d:Dev):mP d=iM (headW d):=by
 unfold mP headW nZ iM
 split
 ·simp[aS]
 ·split
  ·simp[aS]
  ·split
   ·simp[aS]
   ·simp[aS]
theorem Bt (r:aW):aZ r=iM (l6 r):=by
 unfold aZ l6 iM
 cases r.permit<;>simp[aS,dG,oL,sZ]
theorem Ai (r:aI):bO r=iM (ko r):=by simp[bO,ko,iM,aS,qz]
theorem Bu (ds:List Dev) (l:au):jW ds l=iM (mO ds l):=by simp[jW,mO,iM,aS,tq]
theorem Bv (d:Dev):jO d=(pO d).flatMap iM:=by
 unfold jO pO
 rw[Br,pQ l6 aZ Bt,pQ ko bO Ai,List.flatMap_cons,List.flatMap_append]
theorem tY:∀ds:List Dev,ds.flatMap jO=(ds.flatMap pO).flatMap iM
 |[]=>rfl
 |d::t=>by rw[List.flatMap_cons,List.flatMap_cons,List.flatMap_append,Bv,tY t]
theorem Bw (ds:List Dev) (ls:List au):iP ds ls=(wF ds ls).flatMap iM:=by
 unfold iP wF
 rw[tY,pQ (mO ds) (jW ds) (Bu ds),List.flatMap_append]
def oH (ws:List (List UInt8)):Prop:=ws≠[]∧∀x∈ws,(32:UInt8)∉x∧(10:UInt8)∉x
theorem oH.GH {ws:List (List UInt8)} (h:oH ws):(10:UInt8)∉aS [32] ws:=fun hm=>by
 rcases o8 hm with h1 | ⟨x,hx,h1⟩
 ·exact absurd h1 (by decide)
 ·exact(h.2 x hx).2 h1
theorem qP:∀wss:List (List (List UInt8)),(∀ws∈wss,oH ws)→pieces 10 (wss.flatMap iM)=wss.map (aS [32])++[[]]
 |[],_=>rfl
 |ws::t,h=>by
  rw[List.flatMap_cons,iM,List.append_assoc,List.singleton_append,gI 10 _ _ (h ws (by simp)).GH,qP t (fun x hx=>h x (by simp[hx])),List.map_cons,List.cons_append]
theorem wm {wss:List (List (List UInt8))} (h:∀ws∈wss,oH ws):bD (wss.flatMap iM)=(wss.map (aS [32]),true):=by
 unfold bD
 rw[qP wss h,if_pos (by simp),List.dropLast_concat]
def dM:dH→List (List (List UInt8))→Option dH
 |S,[]=>some S
 |S,ws::t=>match bU S ws with
  |some S'=>dM S' t
  |none=>none
theorem qQ:∀(wss:List (List (List UInt8))) (S S':dH) (a:Nat),(∀ws∈wss,oH ws)→dM S wss=some S'→jy S a (wss.map (aS [32]))= .inl S'
 |[],S,S',a,_,h=>by cases h;rfl
 |ws::t,S,S',a,hw,h=>by
  have hp:=j4 32 ws (hw ws (by simp)).1 (fun x hx=>((hw ws (by simp)).2 x hx).1)
  rw[List.map_cons]
  unfold dM at h
  unfold jy
  rw[hp]
  cases hl:bU S ws with
  |none=>rw[hl]at h;cases h
  |some S1=>
   rw[hl]at h
   exact qQ t S1 S' (a+1) (fun x hx=>hw x (by simp[hx])) h
theorem pR:∀(l1 l2:List (List (List UInt8))) (S S1 S2:dH),dM S l1=some S1→dM S1 l2=some S2→dM S (l1++l2)=some S2
 |[],l2,S,S1,S2,h1,h2=>by cases h1;exact h2
 |ws::t,l2,S,S1,S2,h1,h2=>by
  unfold dM at h1
  rw[List.cons_append]
  unfold dM
  cases hl:bU S ws with
  |none=>rw[hl]at h1;cases h1
  |some S'=>
   rw[hl]at h1
   exact pR t l2 S' S1 S2 h1 h2
theorem tZ (ds0:List Dev) (d:Dev) (f:Dev→Dev):jH ⟨ds0++[d],[]⟩ f=some ⟨ds0++[f d],[]⟩:=by simp[jH]
theorem Bz {S:dH} (r:aW):bU S (l6 r)=iw S r.permit [bq r.m.src 16,bq r.m.eT 8,bq r.m.dst 16,bq r.m.eU 8]:=by
 unfold l6 bU
 cases r.permit
 ·rfl
 ·rfl
theorem uf (ds0:List Dev):∀(rs:List aW) (d:Dev),(∀r∈rs,r.m.ok)→dM ⟨ds0++[d],[]⟩ (rs.map l6)=some ⟨ds0++[{ d with rules:=d.rules++rs }],[]⟩
 |[],d,_=>by simp[dM]
 |r::t,d,h=>by
  rw[List.map_cons]
  unfold dM
  rw[Bz,iw,← oF,yD (h r (by simp)),if_pos rfl,tZ]
  have ih:=uf ds0 t { d with rules:=d.rules++[⟨r.permit,r.m⟩] } (fun x hx=>h x (by simp[hx]))
  simp only[List.append_assoc,List.singleton_append]at ih
  exact ih
theorem mY {x:Int} (h:0≤x∧x<100):aH (Lib.decDigits x.toNat) 100=x:=by
 rw[mV x.toNat 100 (by omega) (by omega)];omega
theorem Aj {ds0:List Dev} {d:Dev} {r:aI} (h:(0≤r.v∧r.v<100)∧(0≤r.b∧r.b<100)∧(0≤r.p∧r.p<100)):bU ⟨ds0++[d],[]⟩ (ko r)=some ⟨ds0++[{ d with routes:=d.routes++[r] }],[]⟩:=by
 have e:bU ⟨ds0++[d],[]⟩ (ko r)=fQ ⟨ds0++[d],[]⟩ [Lib.decDigits r.v.toNat++47::Lib.decDigits r.b.toNat,Lib.decDigits r.p.toNat]:=rfl
 rw[e,fQ]
 simp only[gI 47 _ _ (lS r.v.toNat 47 (by decide)),pieces_eq 47 _ (lS r.b.toNat 47 (by decide)),mY h.1,mY h.2.1,mY h.2.2]
 rw[if_pos ⟨h.1.1,h.2.1.1,h.2.2.1⟩,tZ]
theorem rV (ds0:List Dev):∀(rs:List aI) (d:Dev),(∀r∈rs,(0≤r.v∧r.v<100)∧(0≤r.b∧r.b<100)∧(0≤r.p∧r.p<100))→dM ⟨ds0++[d],[]⟩ (rs.map ko)=some ⟨ds0++[{ d with routes:=d.routes++rs }],[]⟩
 |[],d,_=>by simp[dM]
 |r::t,d,h=>by
  rw[List.map_cons]
  unfold dM
  rw[Aj (h r (by simp))]
  have ih:=rV ds0 t { d with routes:=d.routes++[r] } (fun x hx=>h x (by simp[hx]))
  simp only[List.append_assoc,List.singleton_append]at ih
  exact ih
theorem xw (s:ByteArray):iF s.data.toList=s:=by
 obtain⟨a⟩:=s
 simp[iF]
theorem xA {xs:List Nat} (h:∀x∈xs,x<100) (h0:xs≠[]):gU (iG xs)=some (xs.map fun(k:Nat)=>(k:Int)):=by
 have hp:pieces 44 (iG xs)=xs.map Lib.decDigits:=j4 44 (xs.map Lib.decDigits) (by simpa using h0) (fun x hx=>by
  obtain⟨k,_,rfl⟩:=List.mem_map.1 hx
  exact lS k 44 (by decide))
 have hm:(xs.map Lib.decDigits).map (fun x=>aH x 100)=xs.map fun(k:Nat)=>(k:Int):=by
  rw[List.map_map]
  exact List.map_congr_left (fun k hk=>mV k 100 (by have:=h k hk;omega) (by have:=h k hk;omega))
 unfold gU
 rw[hp,if_pos,hm]
 rw[List.all_eq_true]
 intro x hx
 obtain⟨k,hk,rfl⟩:=List.mem_map.1 hx
 rw[mV k 100 (by have:=h k hk;omega) (by have:=h k hk;omega)]
 simp
theorem BA:∀p,p<256→jS 0 ((dS p).map fun(k:Nat)=>(k:Int))=some p:=by decide+kernel
theorem zC {s:ByteArray} (h:bT s=true):(32:UInt8)∉s.data.toList∧(10:UInt8)∉s.data.toList:=by
 simp only[bT,Bool.and_eq_true,List.all_eq_true]at h
 exact⟨fun hm=>absurd (h.1.1 _ hm) (by decide),fun hm=>absurd (h.1.1 _ hm) (by decide)⟩
structure og (d:Dev):Prop where
 ok:tT d
 nm:bT d.name=true
 pl:d.pool<256
 rs:∀r∈d.rules,r.m.ok
theorem og.tx {d:Dev} (h:og d):qO d:=Ah h.ok h.nm h.pl
theorem BD {ds0:List Dev} {d:Dev} (h:og d):bU ⟨ds0,[]⟩ (headW d)=some ⟨ds0++[{ d with rules:=[],routes:=[] }],[]⟩:=by
 have ht:=h.tx
 have har:=h.ok.ar
 simp only[Bool.and_eq_true,Bool.not_eq_true',Bool.and_eq_false_iff]at har
 have hbb:=h.ok.bb
 simp only[dX,Bool.and_eq_true]at hbb
 have hpl:=h.pl
 have hnm:=h.nm
 obtain⟨nm,kd,ad,pl,bs,rs,rts⟩:=d
 have ha:=mY (x:=ad) ⟨ht.a.1,by have:=ht.a.2;simp only at this;omega⟩
 have hbk:(bs.map Int.toNat).map (fun(k:Nat)=>(k:Int))=bs:=by
  rw[List.map_map]
  conv=>rhs;rw[← List.map_id bs]
  exact List.map_congr_left (fun x hx=>by have:=ht.b x hx;simp;omega)
 have hname:=xw nm
 rcases ht.k with rfl | rfl | rfl | rfl | rfl
 ·have e:bU ⟨ds0,[]⟩ (headW ⟨nm,1,ad,pl,bs,rs,rts⟩)=cB ⟨ds0,[]⟩ [aN 1,nm.data.toList,Lib.decDigits ad.toNat]:=rfl
  have hp0:pl=0:=by simpa using har.2
  have hb0:bs=[]:=by have h2:=hbb.2;simpa using h2
  subst hp0 hb0
  rw[e]
  simp only[cB,show fC (aN 1)=1 from by decide,hname,hnm,ha]
  rw[if_neg (by simp),if_pos ht.a.1]
 ·have e:bU ⟨ds0,[]⟩ (headW ⟨nm,2,ad,pl,bs,rs,rts⟩)=cB ⟨ds0,[]⟩ [aN 2,nm.data.toList]:=rfl
  have hp0:pl=0:=by simpa using har.2
  have hb0:bs=[]:=by have h2:=hbb.2;simpa using h2
  have ha0:ad=0:=by have h2:=har.1.2;simpa[gW]using h2
  subst hp0 hb0 ha0
  rw[e]
  simp only[cB,show fC (aN 2)=2 from by decide,hname,hnm]
  rw[if_neg (by simp)]
 ·have e:bU ⟨ds0,[]⟩ (headW ⟨nm,3,ad,pl,bs,rs,rts⟩)=cB ⟨ds0,[]⟩ [aN 3,nm.data.toList]:=rfl
  have hp0:pl=0:=by simpa using har.2
  have hb0:bs=[]:=by have h2:=hbb.2;simpa using h2
  have ha0:ad=0:=by have h2:=har.1.2;simpa[gW]using h2
  subst hp0 hb0 ha0
  rw[e]
  simp only[cB,show fC (aN 3)=3 from by decide,hname,hnm]
  rw[if_neg (by simp)]
 ·have e:bU ⟨ds0,[]⟩ (headW ⟨nm,4,ad,pl,bs,rs,rts⟩)=cB ⟨ds0,[]⟩ [aN 4,nm.data.toList,Lib.decDigits ad.toNat,iG (dS pl)]:=rfl
  have hb0:bs=[]:=by have h2:=hbb.2;simpa using h2
  subst hb0
  have hn:=xA (xs:=dS pl) (fun x hx=>by have:=nJ pl x hx;omega) (fun e=>by have:=ht.p0 rfl;simp only at this;rw[e]at this;simp at this)
  rw[e]
  simp only[cB,show fC (aN 4)=4 from by decide,hname,hnm,ha,hn,BA pl hpl]
  rw[if_neg (by simp),if_pos ht.a.1]
 ·have e:bU ⟨ds0,[]⟩ (headW ⟨nm,5,ad,pl,bs,rs,rts⟩)=cB ⟨ds0,[]⟩ [aN 5,nm.data.toList,Lib.decDigits ad.toNat,iG (bs.map Int.toNat)]:=rfl
  have hp0:pl=0:=by simpa using har.2
  subst hp0
  have hn:=xA (xs:=bs.map Int.toNat) (fun x hx=>by
   obtain⟨y,hy,rfl⟩:=List.mem_map.1 hx
   have:=ht.b y hy;omega) (fun e=>by have:=ht.b0 rfl;simp only at this;simp at e;rw[e]at this;simp at this)
  rw[hbk]at hn
  rw[e]
  simp only[cB,show fC (aN 5)=5 from by decide,hname,hnm,ha,hn]
  rw[if_neg (by simp),if_pos ht.a.1]
theorem CG {ds0:List Dev} {d:Dev} (h:og d):dM ⟨ds0,[]⟩ (pO d)=some ⟨ds0++[d],[]⟩:=by
 unfold pO dM
 rw[BD h]
 refine pR _ _ _ _ _ (uf ds0 d.rules _ h.rs) ?_
 exact rV ds0 d.routes _ h.tx.t
theorem vG:∀(ds ds0:List Dev),(∀d∈ds,og d)→dM ⟨ds0,[]⟩ (ds.flatMap pO)=some ⟨ds0++ds,[]⟩
 |[],ds0,_=>by simp[dM]
 |d::t,ds0,h=>by
  rw[List.flatMap_cons]
  refine pR _ _ _ _ _ (CG (h d (by simp))) ?_
  have:=vG t (ds0++[d]) (fun x hx=>h x (by simp[hx]))
  rwa [List.append_assoc,List.singleton_append]at this
theorem vH:∀(l pre:List Dev),fD pre l=0→∀(j:Nat) (d:Dev),l[j]?=some d→(∀x∈pre,eG x.name d.name=false)∧∀(i:Nat) (e:Dev),i<j→l[i]?=some e→eG e.name d.name=false
 |[],_,_,j,d,hd=>by simp at hd
 |a::t,pre,h,j,d,hd=>by
  unfold fD at h
  by_cases h1:bT a.name=false
  ·rw[if_pos h1]at h;cases h
  rw[if_neg h1]at h
  by_cases h2:(pre.any (fun x=>eG x.name a.name))=true
  ·rw[if_pos h2]at h;cases h
  rw[if_neg h2]at h
  by_cases h3:bL a=0
  ·rw[if_pos h3]at h
   cases j with
   |zero=>
    cases hd
    refine⟨fun x hx=>?_,fun i e hi=>by omega⟩
    cases hb:eG x.name a.name with
    |false=>rfl
    |true=>exact absurd (List.any_eq_true.2 ⟨x,hx,hb⟩) h2
   |succ j=>
    obtain⟨ih1,ih2⟩:=vH t _ h j d hd
    refine⟨fun x hx=>ih1 x (by simp[hx]),fun i e hi he=>?_⟩
    cases i with
    |zero=>cases he;exact ih1 a (by simp)
    |succ i=>exact ih2 i e (by omega) he
  ·rw[if_neg h3]at h;exact absurd h h3
theorem xB {ds:List Dev} (h:fD [] ds=0) {i:Int} (hi:0≤i∧i<ds.length):jd ds (nameAt ds i)=i:=by
 obtain⟨d,hd⟩:∃d,ds[i.toNat]?=some d:=⟨ds[i.toNat]'(by omega),List.getElem?_eq_getElem _⟩
 rw[pK hd]
 unfold jd
 rw[xw]
 rw[mK hd (by simp[eG]) (fun j r hj hr=>(vH ds [] h _ d hd).2 j r hj hr)]
 omega
theorem ug {ds:List Dev} (h:fD [] ds=0):∀(ls xC:List au),(∀l∈ls,xu ds l)→dM ⟨ds,xC⟩ (ls.map (mO ds))=some ⟨ds,xC++ls⟩
 |[],xC,_=>by simp[dM]
 |l::t,xC,hl=>by
  have h1:=hl l (by simp)
  rw[List.map_cons]
  unfold dM
  have e:bU ⟨ds,xC⟩ (mO ds l)=j5 ⟨ds,xC⟩ [nameAt ds l.a,Lib.decDigits l.p.toNat,nameAt ds l.b,Lib.decDigits l.q.toNat]:=rfl
  rw[e]
  simp only[j5,xB h h1.a,xB h h1.b,mY h1.p,mY h1.q]
  rw[if_pos ⟨h1.a.1,h1.b.1,h1.p.1,h1.q.1⟩]
  have ih:=ug h t (xC++[l]) (fun x hx=>hl x (by simp[hx]))
  simp only[List.append_assoc,List.singleton_append]at ih
  exact ih
theorem kr (u:Nat):(32:UInt8)∉Lib.decDigits u∧(10:UInt8)∉Lib.decDigits u:=⟨lS u 32 (by decide),lS u 10 (by decide)⟩
theorem BF (xs:List Nat):(32:UInt8)∉iG xs∧(10:UInt8)∉iG xs:=by
 constructor
 all_goals
  intro hm
  rcases o8 hm with h1 | ⟨x,hx,h1⟩
  ·exact absurd h1 (by decide)
  ·obtain⟨k,_,rfl⟩:=List.mem_map.1 hx
   first | exact(kr k).1 h1 | exact(kr k).2 h1
theorem CJ (s m:Nat):(32:UInt8)∉bq s m∧(10:UInt8)∉bq s m:=by
 constructor
 all_goals
  intro hm
  rcases wN hm with h | h | h | h
  ·exact absurd h (by decide)
  ·exact absurd h (by decide)
  ·exact absurd h (by decide)
  ·exact absurd h (by decide)
theorem CK (k:Int):(32:UInt8)∉aN k∧(10:UInt8)∉aN k:=by
 unfold aN
 repeat (first | split | decide)
theorem CO {d:Dev} (h:og d):oH (headW d):=by
 have hn:=zC h.nm
 refine⟨by simp[headW],fun x hx=>?_⟩
 unfold headW at hx
 rcases List.mem_cons.1 hx with rfl | hx
 ·exact CK _
 rcases List.mem_cons.1 hx with rfl | hx
 ·exact hn
 split at hx
 ·rcases List.mem_singleton.1 hx with rfl;exact kr _
 ·split at hx
  ·rcases List.mem_cons.1 hx with rfl | hx
   ·exact kr _
   ·rcases List.mem_singleton.1 hx with rfl;exact BF _
  ·split at hx
   ·rcases List.mem_cons.1 hx with rfl | hx
    ·exact kr _
    ·rcases List.mem_singleton.1 hx with rfl;exact BF _
   ·cases hx
theorem CP (r:aW):oH (l6 r):=by
 refine⟨by simp[l6],fun x hx=>?_⟩
 unfold l6 at hx
 rcases List.mem_cons.1 hx with rfl | hx
 ·cases r.permit<;>decide
 ·simp only[List.mem_cons,List.not_mem_nil,or_false]at hx
  rcases hx with rfl | rfl | rfl | rfl
  all_goals exact CJ _ _
theorem BG (r:aI):oH (ko r):=by
 refine⟨by simp[ko],fun x hx=>?_⟩
 simp only[ko,List.mem_cons,List.not_mem_nil,or_false]at hx
 rcases hx with rfl | rfl | rfl
 ·decide
 ·have h1:=kr r.v.toNat
  have h2:=kr r.b.toNat
  constructor
  ·intro hm
   rcases List.mem_append.1 hm with hm | hm
   ·exact h1.1 hm
   ·rcases List.mem_cons.1 hm with hm | hm
    ·exact absurd hm (by decide)
    ·exact h2.1 hm
  ·intro hm
   rcases List.mem_append.1 hm with hm | hm
   ·exact h1.2 hm
   ·rcases List.mem_cons.1 hm with hm | hm
    ·exact absurd hm (by decide)
    ·exact h2.2 hm
 ·exact kr _
theorem CQ {ds:List Dev} (hd:∀d∈ds,og d) {l:au} (h:xu ds l):oH (mO ds l):=by
 have hnm:∀i:Int,0≤i∧i<ds.length→(32:UInt8)∉nameAt ds i∧(10:UInt8)∉nameAt ds i:=fun i hi=>by
  obtain⟨d,he⟩:∃d,ds[i.toNat]?=some d:=⟨ds[i.toNat]'(by omega),List.getElem?_eq_getElem _⟩
  rw[pK he]
  exact zC (hd d (List.mem_of_getElem? he)).nm
 refine⟨by simp[mO],fun x hx=>?_⟩
 simp only[mO,List.mem_cons,List.not_mem_nil,or_false]at hx
 rcases hx with rfl | rfl | rfl | rfl | rfl
 ·decide
 ·exact hnm _ h.a
 ·exact kr _
 ·exact hnm _ h.b
 ·exact kr _
theorem Ak {ds:List Dev} {ls:List au} (h:fE ds ls=0) (hg:∀d∈ds,d.pool<256∧∀r∈d.rules,r.m.ok) (hl:(iP ds ls).length ≤4096):fG (iP ds ls)=(⟨ds,ls⟩,0,0):=by
 have hk:=lV h
 have hG:∀d∈ds,og d:=fun d hd=>⟨uN (nX ds [] hk.de d hd),nY ds [] hk.de d hd,(hg d hd).1,(hg d hd).2⟩
 have hws:∀ws∈wF ds ls,oH ws:=fun ws hw=>by
  rcases List.mem_append.1 hw with hw | hw
  ·obtain⟨d,hd,hw⟩:=List.mem_flatMap.1 hw
   rcases List.mem_cons.1 hw with rfl | hw
   ·exact CO (hG d hd)
   ·rcases List.mem_append.1 hw with hw | hw
    ·obtain⟨r,_,rfl⟩:=List.mem_map.1 hw;exact CP r
    ·obtain⟨r,_,rfl⟩:=List.mem_map.1 hw;exact BG r
  ·obtain⟨l,hl,rfl⟩:=List.mem_map.1 hw
   exact CQ hG (rE h hl)
 have hst:dM ⟨[],[]⟩ (wF ds ls)=some ⟨ds,ls⟩:=by
  refine pR _ _ _ _ _ (vG ds [] hG) ?_
  have:=ug hk.de ls [] (fun l hl=>rE h hl)
  rwa [List.nil_append]at this
 have hlo:=wm hws
 rw[← Bw]at hlo
 unfold fG
 rw[if_neg (by omega),hlo]
 simp only[if_true,qQ _ _ _ 1 hws hst,h]
 rfl
theorem CR {l:List UInt8} (h:4096<l.length):fG l=(⟨[],[]⟩,0,2):=by unfold fG;rw[if_pos h]
end Go.Proofs.YtifkacnoiocebaaDoor
