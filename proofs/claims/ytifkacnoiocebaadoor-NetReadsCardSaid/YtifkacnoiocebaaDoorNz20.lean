/- A part of the proof: Nr16, Nr17, Nq1. -/
import Derived.Test.YtifkacnoiocebaaDoorNz19
set_option linter.unusedVariables false
set_option linter.unusedSimpArgs false
set_option maxRecDepth 100000
set_option maxHeartbeats 8000000
namespace Go.Proofs.YtifkacnoiocebaaDoor
open Go.RowKit
theorem yP {t:List UInt8} (h0:t≠[]) (h:10∉t):aW t=([t],false):=by
 unfold aW
 rw[pieces_eq 10 t h,if_neg (by simpa using h0)]
theorem yQ {u v:List UInt8} (h:10∉u):aW (u++10::v)=(u::(aW v).1,(aW v).2):=by
 unfold aW
 rw[gP 10 u v h]
 have hp:=dU 10 v
 obtain⟨a,t,hat⟩:∃a t,pieces 10 v=a::t:=by
  cases hc:pieces 10 v with
  |nil=>rw[hc]at hp;simp at hp
  |cons a t=>exact⟨a,t,rfl⟩
 rw[hat,List.getLast?_cons_cons]
 split
 ·rw[List.dropLast_cons_cons]
 ·rfl
theorem yR (v:List UInt8) (h:(aW v).2=false):(aW v).1≠[]:=by
 unfold aW at*
 split
 ·rename_i h';rw[if_pos h']at h;cases h
 ·have:=dU 10 v;intro e;have e:pieces 10 v=[]:=e;rw[e]at this;simp at this
def lF (S:dJ) (at_:Nat) (t:List UInt8):dJ⊕Nat:=
 match iF S at_ (if(aW t).2=true then(aW t).1 else(aW t).1.dropLast)with
 |.inr k=>.inr k
 |.inl S'=>if(aW t).2=true then .inl S' else .inr (at_+(aW t).1.length - 1)
theorem zO (S:dJ) (a:Nat):lF S a []= .inl S:=rfl
theorem zP (S:dJ) (a:Nat) {t:List UInt8} (h0:t≠[]) (h:10∉t):lF S a t= .inr a:=by
 unfold lF
 rw[yP h0 h]
 simp[iF]
theorem zQ (S:dJ) (a:Nat) {u v:List UInt8} (h:10∉u):lF S a (u++10::v)=match gB S (pieces 32 u)with | none=>.inr a | some S'=>lF S' (a+1) v:=by
 unfold lF
 rw[yQ h]
 cases hl:(aW v).2 with
 |true=>
  simp only[if_true,iF]
  cases gB S (pieces 32 u)with
  |none=>rfl
  |some S'=>rfl
 |false=>
  have hp:=yR v hl
  rw[if_neg (by decide),if_neg (by decide),List.dropLast_cons_of_ne_nil hp]
  simp only[iF]
  cases gB S (pieces 32 u)with
  |none=>rfl
  |some S'=>
   simp only
   cases iF S' (a+1) (aW v).1.dropLast with
   |inr k=>rfl
   |inl S2=>
    have:0<(aW v).1.length :=by cases hc:(aW v).1 with | nil=>exact absurd hc hp | cons a t=>simp
    simp only[Bool.false_eq_true,if_false,List.length_cons]
    congr 1
    omega
theorem yS (l:List UInt8):iP l=if 4096<l.length then(⟨[],[]⟩,0,2)else match lF ⟨[],[]⟩ 1 l with
  |.inr k=>(⟨[],[]⟩,k,3)
  |.inl S=>if jN S.ds S.ls=0 then(S,0,0)else(⟨[],[]⟩,0,jN S.ds S.ls):=by
 unfold iP lF
 split
 ·rfl
 ·cases h:iF ⟨[],[]⟩ 1 (if(aW l).2=true then(aW l).1 else(aW l).1.dropLast)with
  |inr k=>rfl
  |inl S=>
   simp only
   cases h2:(aW l).2 with
   |true=>simp
   |false=>
    simp only[if_true,Bool.false_eq_true,if_false]
    rw[show 1+(aW l).1.length - 1=(aW l).1.length by omega]
theorem cK.mono {S:dJ} {k m:Nat} (h:cK S k) (hm:k≤m):cK S m:=
 ⟨Nat.le_trans h.d hm,Nat.le_trans h.l hm,fun d hd=>Nat.le_trans (h.r d hd) hm,fun d hd=>Nat.le_trans (h.t d hd) hm⟩
theorem cK.dev {S:dJ} {k:Nat} {d:Dev} (h:cK S k) (hr:d.rules=[]) (ht:d.routes=[]):cK ⟨S.ds++[d],S.ls⟩ (k+1):=by
 refine⟨by have:=h.d;simp;omega,by have:=h.l;simp;omega,fun x hx=>?_,fun x hx=>?_⟩
 ·rcases List.mem_append.1 hx with hx | hx
  ·have:=h.r x hx;omega
  ·simp at hx;subst hx;rw[hr];simp
 ·rcases List.mem_append.1 hx with hx | hx
  ·have:=h.t x hx;omega
  ·simp at hx;subst hx;rw[ht];simp
theorem cK.last {S S':dJ} {k:Nat} {f:Dev→Dev} (h:cK S k) (hf:mF S f=some S') (h1:∀d∈S.ds,(f d).rules.length ≤k+1) (h2:∀d∈S.ds,(f d).routes.length ≤k+1):cK S' (k+1):=by
 unfold mF at hf
 split at hf
 ·cases hf
 ·split at hf
  ·rename_i d hd
   cases hf
   have hm:d∈S.ds:=List.mem_of_getLast? hd
   have hlen:S.ds.dropLast.length+1=S.ds.length:=by
    rw[List.length_dropLast]
    have:=List.length_pos_of_mem hm
    omega
   refine⟨by have:=h.d;simp only[List.length_append,List.length_cons,List.length_nil];omega,by have:=h.l;simp only;omega,fun x hx=>?_,fun x hx=>?_⟩
   ·rcases List.mem_append.1 hx with hx | hx
    ·have:=h.r x (List.dropLast_subset _ hx);omega
    ·simp at hx;subst hx;exact h1 d hm
   ·rcases List.mem_append.1 hx with hx | hx
    ·have:=h.t x (List.dropLast_subset _ hx);omega
    ·simp at hx;subst hx;exact h2 d hm
  ·cases hf
theorem cK.line {S S':dJ} {k:Nat} {ws:List (List UInt8)} (h:cK S k) (hl:gB S ws=some S'):cK S' (k+1):=by
 have Cz:∀b w,eF S b w=some S'→cK S' (k+1):=fun b w hr=>by
  unfold eF at hr
  split at hr
  ·exact h.last hr (fun d hd=>by have:=h.r d hd;simp;omega) (fun d hd=>by have:=h.t d hd;show d.routes.length≤_;omega)
  ·cases hr
 unfold gB at hl
 split at hl
 ·cases hl
 ·split at hl
  ·exact Cz _ _ hl
  split at hl
  ·exact Cz _ _ hl
  split at hl
  ·unfold fT at hl
   split at hl
   ·split at hl
    ·split at hl
     ·exact h.last hl (fun d hd=>by have:=h.r d hd;show d.rules.length≤_;omega) (fun d hd=>by have:=h.t d hd;simp;omega)
     ·cases hl
    ·cases hl
   ·cases hl
  split at hl
  ·unfold j4 at hl
   split at hl
   ·split at hl
    ·cases hl
     exact⟨by have:=h.d;simp only;omega,by have:=h.l;simp;omega,fun d hd=>by have:=h.r d hd;omega,fun d hd=>by have:=h.t d hd;omega⟩
    ·cases hl
   ·cases hl
  ·unfold bP at hl
   split at hl
   ·split at hl
    ·cases hl
    ·split at hl
     ·split at hl
      ·cases hl;exact h.dev rfl rfl
      ·cases hl
     ·cases hl;exact h.dev rfl rfl
     ·cases hl;exact h.dev rfl rfl
     ·split at hl
      ·split at hl
       ·split at hl
        ·cases hl;exact h.dev rfl rfl
        ·cases hl
       ·cases hl
      ·cases hl
     ·split at hl
      ·split at hl
       ·cases hl;exact h.dev rfl rfl
       ·cases hl
      ·cases hl
     ·cases hl
   ·cases hl
theorem uL (b:UInt8) (ps:List (List UInt8)):(dO [b] (ps.drop 1)).length ≤(dO [b] ps).length :=by
 cases ps with
 |nil=>simp[dO]
 |cons x r=>
  cases r with
  |nil=>simp[dO]
  |cons y t=>simp[dO];omega
theorem xO (b:UInt8):∀(n:Nat) (l:List UInt8),l.length≤n→dO [b] (pieces b l)=l:=by
 intro n
 induction n with
 |zero=>intro l hl;obtain rfl:=List.eq_nil_of_length_eq_zero (Nat.le_zero.1 hl);rfl
 |succ n ih=>
  intro l hl
  by_cases h:b∈l
  ·obtain⟨u,v,rfl,hu⟩:=fU h
   rw[gP b u v hu]
   have hv:=ih v (by simp at hl;omega)
   have hp:=dU b v
   cases hc:pieces b v with
   |nil=>rw[hc]at hp;simp at hp
   |cons a t=>rw[dO,← hc,hv];simp
  ·rw[pieces_eq b l h,dO]
theorem o9 {u:List UInt8} (h:u.length≤4096):iX (pieces 32 u):=by
 refine⟨by have:=eO 32 u;omega,fun x hx=>by have:=iJ 32 u x hx;omega,?_⟩
 have:=uL 32 (pieces 32 u)
 rw[xO 32 u.length u (Nat.le_refl _)]at this
 omega
theorem xP (x:List UInt8):eX x≤5:=by
 unfold eX
 repeat (split;omega)
 omega
theorem Az (R:Nat) (S:dJ) (x:List UInt8) (rest:List (List UInt8)) (base g n cap:Nat) (W:World) (hm:eP W) (hR:iV jV 41 W R S) (hS:cK S 10000) (hw:cB W base g n cap (x::rest)) (hwo:iX (x::rest)) (hgR:R<g):
  Calls Tryd.prog 31 #[.pointer (some ⟨R,0,none⟩),.slice (some ⟨g,0,none⟩) n cap] W (gU jV 41 R (bP S (x::rest)) W):=by
 have h:=xP x
 rcases(by omega:eX x=0∨eX x=1∨eX x=2∨eX x=3∨eX x=4∨eX x=5)with h | h | h | h | h | h
 ·exact BI R S x rest base g n cap W hm hR hS hw hwo hgR h
 ·exact CX R S x rest base g n cap W hm hR hS hw hwo hgR h
 ·exact CV R S x rest base g n cap W hm hR hS hw hwo hgR h
 ·exact CW R S x rest base g n cap W hm hR hS hw hwo hgR h
 ·exact CZ R S x rest base g n cap W hm hR hS hw hwo hgR h
 ·exact CY R S x rest base g n cap W hm hR hS hw hwo hgR h
theorem zR (R:Nat) (S:dJ) (x:List UInt8) (rest:List (List UInt8)) (base g n cap:Nat) (W:World) (hm:eP W) (hR:iV jV 41 W R S) (hS:cK S 10000) (hw:cB W base g n cap (x::rest)) (hwo:iX (x::rest)) (hgR:R<g):
  Calls Tryd.prog 10 #[.pointer (some ⟨R,0,none⟩),.slice (some ⟨g,0,none⟩) n cap] W (gU jV 41 R (gB S (x::rest)) W):=by
 have xQ:=hide (fun b hb=>zI R S x rest base g n cap W hm hR hS hw hwo hgR b hb)
 have kW:=hide (yK R S x rest base g n cap W hm hR hS hw hwo hgR)
 have gY:=hide (zJ R S x rest base g n cap W hm hR hS hw hwo hgR)
 have AA:=hide (Az R S x rest base g n cap W hm hR hS hw hwo hgR)
 have hx0:W.cell? ⟨g,0,none⟩=some (.string ⟨x.toArray⟩):=hw.get (k:=0) rfl
 have hn:=hw.len
 simp only[List.length_cons]at hn
 have hn0:(0:Int)<(n:Int):=by omega
 have hn1:0<n:=by omega
 clear hm hR hS hw hwo
 by_cases h1:x=pU
 ·have HL:=hide (show gB S (x::rest)=eF S true rest from by simp only[gB,if_pos h1])
  have HC:=hide (xQ.out true (by rw[h1];rfl))
  have e1:(x ==[112,101,114,109,105,116])=true:=by rw[h1];rfl
  clear xQ kW gY AA h1
  go_enter Tryd.func10,Tryd.ntmps10
  go_wp2_with fail
  refine(HC.out).mono ?_
  rintro e w2 h
  rcases h with⟨hb,⟨hr,rfl⟩ | ⟨S',hr,rfl,hm⟩⟩
  ·go_wp2_with fail
   go_ret
   exact⟨hb,.inl ⟨by rw[HL.out];exact hr,rfl⟩⟩
  ·go_wp2_with fail
   go_ret
   exact⟨hb,.inr ⟨S',by rw[HL.out];exact hr,rfl,hm⟩⟩
 have e1:(x ==[112,101,114,109,105,116])=false:=by simpa[pU]using h1
 by_cases h2:x=ug
 ·have HL:=hide (show gB S (x::rest)=eF S false rest from by simp only[gB,if_neg h1,if_pos h2])
  have HC:=hide (xQ.out false e1)
  have e2:(x ==[100,101,110,121])=true:=by rw[h2];rfl
  clear xQ kW gY AA h1 h2
  go_enter Tryd.func10,Tryd.ntmps10
  go_wp2_with fail
  refine(HC.out).mono ?_
  rintro e w2 h
  rcases h with⟨hb,⟨hr,rfl⟩ | ⟨S',hr,rfl,hm⟩⟩
  ·go_wp2_with fail
   go_ret
   exact⟨hb,.inl ⟨by rw[HL.out];exact hr,rfl⟩⟩
  ·go_wp2_with fail
   go_ret
   exact⟨hb,.inr ⟨S',by rw[HL.out];exact hr,rfl,hm⟩⟩
 have e2:(x ==[100,101,110,121])=false:=by simpa[ug]using h2
 by_cases h3:x=qR
 ·have HL:=hide (show gB S (x::rest)=fT S rest from by simp only[gB,if_neg h1,if_neg h2,if_pos h3])
  have e3:(x ==[114,111,117,116,101])=true:=by rw[h3];rfl
  clear xQ gY AA h1 h2 h3
  go_enter Tryd.func10,Tryd.ntmps10
  go_wp2_with fail
  refine(kW.out).mono ?_
  rintro e w2 h
  rcases h with⟨hb,⟨hr,rfl⟩ | ⟨S',hr,rfl,hm⟩⟩
  ·go_wp2_with fail
   go_ret
   exact⟨hb,.inl ⟨by rw[HL.out];exact hr,rfl⟩⟩
  ·go_wp2_with fail
   go_ret
   exact⟨hb,.inr ⟨S',by rw[HL.out];exact hr,rfl,hm⟩⟩
 have e3:(x ==[114,111,117,116,101])=false:=by simpa[qR]using h3
 by_cases h4:x=uh
 ·have HL:=hide (show gB S (x::rest)=j4 S rest from by simp only[gB,if_neg h1,if_neg h2,if_neg h3,if_pos h4])
  have e4:(x ==[108,105,110,107])=true:=by rw[h4];rfl
  clear xQ kW AA h1 h2 h3 h4
  go_enter Tryd.func10,Tryd.ntmps10
  go_wp2_with fail
  refine(gY.out).mono ?_
  rintro e w2 h
  rcases h with⟨hb,⟨hr,rfl⟩ | ⟨S',hr,rfl,hm⟩⟩
  ·go_wp2_with fail
   go_ret
   exact⟨hb,.inl ⟨by rw[HL.out];exact hr,rfl⟩⟩
  ·go_wp2_with fail
   go_ret
   exact⟨hb,.inr ⟨S',by rw[HL.out];exact hr,rfl,hm⟩⟩
 have e4:(x ==[108,105,110,107])=false:=by simpa[uh]using h4
 have HL:=hide (show gB S (x::rest)=bP S (x::rest)from by simp only[gB,if_neg h1,if_neg h2,if_neg h3,if_neg h4])
 clear xQ kW gY h1 h2 h3 h4
 go_enter Tryd.func10,Tryd.ntmps10
 go_wp2_with fail
 refine(AA.out).mono ?_
 rintro e w2 h
 rcases h with⟨hb,⟨hr,rfl⟩ | ⟨S',hr,rfl,hm⟩⟩
 ·go_wp2_with fail
  go_ret
  exact⟨hb,.inl ⟨by rw[HL.out];exact hr,rfl⟩⟩
 ·go_wp2_with fail
  go_ret
  exact⟨hb,.inr ⟨S',by rw[HL.out];exact hr,rfl,hm⟩⟩
def BQ (v:Value):Nat:=match v with | .string b=>b.size | _=>0
theorem vE (t:List UInt8):BQ (.string ⟨t.toArray⟩)=t.length:=by
 show t.toArray.size=_
 simp
def zu:fA:=⟨none,0,0,[],none,0,0,[]⟩
theorem zS (w:World) (B:Nat):iW w B zu:=
 ⟨⟨rfl,fun h=>absurd h (Nat.lt_irrefl 0)⟩,fun d hd=>(nomatch hd),⟨rfl,fun h=>absurd h (Nat.lt_irrefl 0)⟩,fun d hd=>(nomatch hd),⟨Nat.le_refl _,Nat.zero_le _⟩,⟨Nat.le_refl _,Nat.zero_le _⟩⟩
def uj (l:List UInt8) (W:World) (e:Ending) (W':World):Prop:=
 Below W.heap.size W W'∧∃n:fA,e= .returned (.tuple #[n.val,.int .i64 ((iP l).2.1:Int),.int .i64 (iP l).2.2])∧iW W' W'.heap.size n∧n.l9=(iP l).1.ds ∧n.ls=(iP l).1.ls
theorem iY {l:List UInt8} {W W':World} {k:Nat} {x:Int} (h:iP l=(⟨[],[]⟩,k,x)) (hb:Below W.heap.size W W'):uj l W (.returned (.tuple #[.agg #[.slice none 0 0,.slice none 0 0],.int .i64 (k:Int),.int .i64 x])) W':=
 ⟨hb,zu,by rw[h];rfl,zS _ _,by rw[h];rfl,by rw[h];rfl⟩
theorem kM {w:World} {B:Nat} {a b:Value} {t:TypeId} (h:Bx w B #[a,b] t):w.cell? ⟨B,0,none⟩=some a∧w.cell? ⟨B,1,none⟩=some b∧w.frozen? ⟨B,0,none⟩=false∧w.frozen? ⟨B,1,none⟩=false:=
 ⟨h.get 0 _ rfl,h.get 1 _ rfl,h.frozen 0,h.frozen 1⟩
theorem yT (l:List UInt8) (W:World) (hl:l.length≤9223372036854775807) (hm:eP W):
  Calls Tryd.prog 5 #[.string ⟨l.toArray⟩] W (uj l W):=by
 have hrf:=yS l
 have iO:=hide (Bx.new W #[.slice none 0 0,.slice none 0 0] 25)
 have HB0:=hide (below_alloc2 W (.cells #[.slice none 0 0,.slice none 0 0] 25))
 have hsz0:(W.alloc (.cells #[.slice none 0 0,.slice none 0 0] 25)).heap.size =W.heap.size+1:=by simp
 have mE:(⟨l.toArray⟩:ByteArray).size =l.length:=List.size_toArray
 by_cases hbig:4096<l.length
 ·rw[if_pos hbig]at hrf
  have HR:=hide hrf
  obtain⟨nl,hnl⟩:∃nl,l.length=nl:=⟨_,rfl⟩
  rw[hnl]at mE hbig hl
  clear hrf
  obtain⟨s,hss⟩:∃s:ByteArray,⟨l.toArray⟩=s:=⟨_,rfl⟩
  rw[hss]at mE ⊢
  obtain⟨z0,z1,z2,z3⟩:=kM iO.out
  clear hnl hss
  go_enter Tryd.func5,Tryd.ntmps5
  go_wp2_with fail
  refine bodyPost_ret (v:=.tuple #[.agg #[.slice none 0 0,.slice none 0 0],.int .i64 0,.int .i64 2]) (by simp[results,Tryd.f5,go_sem,z0,z1]) rfl ?_
  exact iY HR.out HB0.out
 rw[if_neg hbig]at hrf
 have HR:=hide hrf
 obtain⟨W1,hW1⟩:∃W1,W1=W.alloc (.cells #[.slice none 0 0,.slice none 0 0] 25):=⟨_,rfl⟩
 obtain⟨B,hB⟩:∃B,W.heap.size=B:=⟨_,rfl⟩
 rw[← hW1,hB]at iO HB0 hsz0
 obtain⟨W2,hW2⟩:∃W2,W2=W1.alloc (.cells #[.slice none 0 0,.slice none 0 0,.bool false] 41):=⟨_,rfl⟩
 have HB2:=hide (show Below B W W2 from by rw[hW2];exact HB0.out.alloc (by omega) _)
 have xR:=hide (show Bx W2 B #[.slice none 0 0,.slice none 0 0] 25 from by rw[hW2];exact iO.out.below (below_alloc2 W1 _))
 have DL:=hide (show Bx W2 (B+1) #[.slice none 0 0,.slice none 0 0,.bool false] 41 from by rw[hW2,← hsz0];exact Bx.new W1 _ _)
 have hsz2:W2.heap.size=B+2:=by rw[hW2];simp;omega
 have hle:decide (4096<l.length)=false:=decide_eq_false hbig
 have hl4:l.length≤4096:=by omega
 obtain⟨rl,hrl⟩:∃rl,lF ⟨[],[]⟩ 1 l=rl:=⟨_,rfl⟩
 have wO:=hide hrl
 rw[hrl]at HR
 have BR:=hide (show iV jV 41 W2 (B+1) ⟨[],[]⟩from⟨[],.slice none 0 0,.slice none 0 0,DL.out,NG.start W2 _,rfl⟩)
 have F7:=hide hm
 obtain⟨nl,hnl⟩:∃nl,l.length=nl:=⟨_,rfl⟩
 rw[hnl]at mE hle hl4
 clear hrf hbig hm hrl hl DL iO HB0
 go_enter Tryd.func5,Tryd.ntmps5
 go_wp2_with fail
 rw[← hW1,← hW2]
 go_loopw [0,6] (fun sv av wr=>∃(t:List UInt8) (S:dJ) (k:Nat),sv= .string ⟨t.toArray⟩∧av= .int .i64 (k:Int)∧1≤k∧k+t.length≤nl+1∧Hid (lF S k t=rl)∧Hid (iV jV 41 wr (B+1) S)∧Hid (cK S k)∧Hid (Below (B+1) W2 wr)) (fun sv _ _=>BQ sv)
 case atStart=>exact⟨l,⟨[],[]⟩,1,rfl,rfl,Nat.le_refl _,by omega,wO,BR,hide ⟨by simp,by simp,fun d hd=>(nomatch hd),fun d hd=>(nomatch hd)⟩,hide (Below.refl _ _)⟩
 case round=>
  obtain⟨t,S,k,rfl,rfl,hk1,hkt,kW,jc,qU,aV⟩:=hrel
  have nW:=hide (F7.out.below (show Below W.heap.size W wr from by rw[hB];exact HB2.out.trans (aV.out.mono (by omega))))
  have pF:=hide (xR.out.same (aV.out.block B (by omega)))
  have GR:B+2≤wr.heap.size:=by have:=aV.out.size;omega
  by_cases ht:t=[]
  case pos=>
   subst ht
   rw[zO]at kW
   rw[← kW.out]at HR
   obtain⟨ds,V,L,hbx,aR,hds⟩:=jc.out
   have aL:Bx wr (B+1) #[V,L,.bool (!S.ls.isEmpty)] 41:=hbx
   obtain⟨dA,dc,rfl,_⟩:=bD.dw ah.len aR.d rfl
   obtain⟨lA,lc,rfl,_⟩:=bD.dw aJ.len aR.l rfl
   have um:=hide (vS ⟨dA,ds.length,dc,ds,lA,S.ls.length,lc,S.ls⟩ wr aR.tC)
   have hdv:fA.l9 ⟨dA,ds.length,dc,ds,lA,S.ls.length,lc,S.ls⟩=S.ds:=hds
   rw[hdv]at um
   have r0:wr.cell? ⟨B+1,0,none⟩=some (.slice dA ds.length dc):=aL.get 0 _ rfl
   have r1:wr.cell? ⟨B+1,1,none⟩=some (.slice lA S.ls.length lc):=aL.get 1 _ rfl
   have fO:=hide aR
   have fq:=hide aL
   obtain⟨E,hE⟩:∃E,jN S.ds S.ls=E:=⟨_,rfl⟩
   simp only[fA.val,hE]at um HR
   have jE:=hide hds
   clear hbx aL aR hds jc kW hE qU
   go_wp2_with fail
   refine um.out.mono ?_
   rintro e w5 ⟨rfl,hb5⟩
   have BS:=hide (fO.out.below hb5)
   have qL:=hide (fq.out.below hb5)
   have pq:=hide (pF.out.below hb5)
   have gN:=hide (HB2.out.trans ((aV.out.trans (hb5.mono (by omega))).mono (by omega)))
   obtain⟨z0,z1,z2,z3⟩:=kM pq.out
   have s0:w5.cell? ⟨B+1,0,none⟩=some (.slice dA ds.length dc):=qL.out.get 0 _ rfl
   have s1:w5.cell? ⟨B+1,1,none⟩=some (.slice lA S.ls.length lc):=qL.out.get 1 _ rfl
   have GU:B+2≤w5.heap.size:=by have:=hb5.size;omega
   clear hb5 um fO fq pF aV r0 r1
   by_cases hE0:E=0
   case neg=>
    rw[if_neg hE0]at HR
    have e2:(E ==0)=false:=by simpa using hE0
    have e3:(E != 0)=true:=by simpa using hE0
    go_wp2_with fail
    refine bodyPost_ret (v:=.tuple #[.agg #[.slice none 0 0,.slice none 0 0],.int .i64 0,.int .i64 E]) (by simp[results,Tryd.f5,go_sem,z0,z1]) rfl ?_
    exact iY HR.out (by rw[hB];exact(gN.out.setCell (p:=⟨B,0,none⟩) (Nat.le_refl B) _).setCell (p:=⟨B,1,none⟩) (Nat.le_refl B) _)
   case pos=>
    subst hE0
    rw[if_pos rfl]at HR
    have uM:=hide ((pq.out.set 0 (.slice dA ds.length dc)).set 1 (.slice lA S.ls.length lc))
    have sF:=hide ((gN.out.setCell (p:=⟨B,0,none⟩) (Nat.le_refl B) (.slice dA ds.length dc)).setCell (p:=⟨B,1,none⟩) (Nat.le_refl B) (.slice lA S.ls.length lc))
    have BU:=hide (BS.out.same (w':=(w5.setCell ⟨B,0,none⟩ (.slice dA ds.length dc)).setCell ⟨B,1,none⟩ (.slice lA S.ls.length lc)) (fun q h1 h2=>(RowKit.Below.heap_setCell _ _ _ _ (show q≠B by omega)).trans (RowKit.Below.heap_setCell _ _ _ _ (show q≠B by omega))))
    obtain⟨y0,y1,y2,y3⟩:=kM (a:=.slice dA ds.length dc) (b:=.slice lA S.ls.length lc) uM.out
    go_wp2_with fail
    refine bodyPost_ret (v:=.tuple #[.agg #[.slice dA ds.length dc,.slice lA S.ls.length lc],.int .i64 0,.int .i64 0]) (by simp[results,Tryd.f5,go_sem,y0,y1]) rfl ?_
    exact⟨by rw[hB];exact sF.out,_,by rw[HR.out];rfl,BU.out.tC,by rw[HR.out];exact jE.out,by rw[HR.out]⟩
  case neg=>
   have e1:(t ==[])=false:=by simpa using ht
   have HC:=hide (p9 ⟨t.toArray⟩ 10 wr (by show t.toArray.size≤_;rw[List.size_toArray];omega) nW.out)
   by_cases h10:10∈t
   case neg=>
    have HF:=hide (zP S k ht h10)
    rw[kW.out]at HF
    rw[HF.out]at HR
    have iH:=hide (HC.out.mono (fun e w' h=>show e= .returned (.tuple #[.string ⟨t.toArray⟩,.string ⟨#[]⟩,.bool (decide (10∈t))])∧Below wr.heap.size wr w' from by
     have h':=h
     rw[show(⟨t.toArray⟩:ByteArray).data.toList =t from rfl,mX 10 t h10]at h'
     exact h'))
    have F8:decide (10∈t)=false:=decide_eq_false h10
    rw[F8]at iH
    clear HC kW HF jc qU
    go_wp2_with fail
    refine iH.out.mono ?_
    rintro e w5 ⟨rfl,hb5⟩
    have pq:=hide (pF.out.below hb5)
    have gN:=hide (HB2.out.trans ((aV.out.trans (hb5.mono (by omega))).mono (by omega)))
    obtain⟨z0,z1,z2,z3⟩:=kM pq.out
    clear hb5 iH
    go_wp2_with fail
    refine bodyPost_ret (v:=.tuple #[.agg #[.slice none 0 0,.slice none 0 0],.int .i64 (k:Int),.int .i64 3]) (by simp[results,Tryd.f5,go_sem,z0,z1]) rfl ?_
    exact iY HR.out (by rw[hB];exact(gN.out.setCell (p:=⟨B,0,none⟩) (Nat.le_refl B) _).setCell (p:=⟨B,1,none⟩) (Nat.le_refl B) _)
   case pos=>
    obtain⟨u,v,rfl,hu⟩:=fU h10
    have hlen:(u++10::v).length =u.length+v.length+1:=by simp;omega
    rw[hlen]at hkt
    have EG:u.length≤4096:=by omega
    have iH:=hide (HC.out.mono (fun e w' h=>show e= .returned (.tuple #[.string ⟨u.toArray⟩,.string ⟨v.toArray⟩,.bool true])∧Below wr.heap.size wr w' from by
     have h':=h
     rw[show(⟨(u++10::v).toArray⟩:ByteArray).data.toList =u++10::v from rfl,nP 10 u v hu,decide_eq_true h10]at h'
     exact h'))
    have fC:=hide (zQ S k (v:=v) hu)
    rw[kW.out]at fC
    have oh:=hide (o9 EG)
    have dR:=hide (fun w (h:eP w)=>mg u 32 w (by omega) h)
    have hpn:=dU 32 u
    have hpl:=eO 32 u
    obtain⟨x,rest,EH⟩:∃x rest,pieces 32 u=x::rest:=by
     cases hc:pieces 32 u with
     |nil=>rw[hc]at hpn;simp at hpn
     |cons a t=>exact⟨a,t,rfl⟩
    obtain⟨n,hn⟩:∃n,(pieces 32 u).length =n:=⟨_,rfl⟩
    rw[hn]at dR hpn hpl
    rw[EH]at dR fC oh
    have xS:=hide (qU.out.mono (show k≤10000 by omega))
    obtain⟨su,hsu⟩:∃su:ByteArray,⟨u.toArray⟩=su:=⟨_,rfl⟩
    have mH:=hide (show BQ (.string ⟨(u++10::v).toArray⟩)=u.length+v.length+1 from by rw[vE];exact hlen)
    rw[hsu]at iH dR
    clear HC kW EG hlen h10 hn EH hsu
    generalize (u++10::v)=t at*
    go_wp2_with fail
    refine iH.out.mono ?_
    rintro e w5 ⟨rfl,hb5⟩
    have nZ:=hide (nW.out.below hb5)
    have qV:=hide (jc.out.below hb5)
    have pq:=hide (pF.out.below hb5)
    have bK:=hide (aV.out.trans (hb5.mono (by omega)))
    have hsz5:=hb5.size
    clear hb5 iH jc pF aV nW
    go_wp2_with fail
    refine(dR.out _ nZ.out).mono ?_
    rintro e w6 ⟨rfl,hst,hb6⟩
    have EI:=hide (nZ.out.below hb6)
    have DN:=hide (qV.out.below hb6)
    have uM:=hide (pq.out.below hb6)
    have dN:=hide (bK.out.trans (hb6.mono (by omega)))
    have uK:=hb6.size
    have oV:=hide (zR (B+1) S x rest w5.heap.size w5.heap.size n n w6 EI.out DN.out xS.out hst oh.out (by omega))
    clear hb6 dR qV DN pq bK nZ hst EI
    go_wp2_with fail
    refine oV.out.mono ?_
    intro e w7 hlr
    obtain⟨qW,hcase⟩:=hlr
    have o8:w6.heap.size≤w7.heap.size:=qW.size
    have xU:=hide (uM.out.same (qW.block B (Nat.lt_succ_self B)))
    have bM:=hide (dN.out.trans qW)
    clear uM dN oV
    rcases hcase with⟨hr,rfl⟩ | ⟨S',hr,rfl,hrd⟩
    ·rw[hr]at fC
     rw[fC.out]at HR
     obtain⟨z0,z1,z2,z3⟩:=kM xU.out
     have jO:=hide (HB2.out.trans (bM.out.mono (by omega)))
     clear qW fC hr
     go_wp2_with fail
     refine bodyPost_ret (v:=.tuple #[.agg #[.slice none 0 0,.slice none 0 0],.int .i64 (k:Int),.int .i64 3]) (by simp[results,Tryd.f5,go_sem,z0,z1]) rfl ?_
     exact iY HR.out (by rw[hB];exact(jO.out.setCell (p:=⟨B,0,none⟩) (Nat.le_refl B) _).setCell (p:=⟨B,1,none⟩) (Nat.le_refl B) _)
    ·rw[hr]at fC
     have xV:=hide (qU.out.line hr)
     have xW:=hide hrd
     clear hr qW hrd
     go_wp2_with fail
     go_roundw
     case rel=>exact⟨v,S',k+1,rfl,by go_num,by omega,by omega,hide fC.out.symm,xW,xV,bM⟩
     case measure=>rw[mH.out,vE];omega
theorem qX (l:List UInt8) (W:World) (hs:l.length≤5000):
  Calls Tryd.prog 44 #[.string ⟨l.toArray⟩] W fun e W'=>Below W.heap.size W W'∧((iy l=none∧e= .returned (.slice none 0 0))∨
   ∃xs v,iy l=some xs∧0<xs.length∧e= .returned v∧W'.ownsRow W.heap.size 3 1 v xs.length (xs.flatMap jf)):=by
 obtain⟨i0,hi0,hz0,hz1,hz2⟩:=info_parts Tryd.infoInt
 have dR:=hide (iK l 44 W (by omega))
 have bC:=hide (fun(k:Nat) (x:List UInt8) (h:(pieces 44 l)[k]?=some x) (hx:¬ 0≤aF x 100)=>tF (l:=l) (List.mem_of_getElem? h) hx)
 have gH:=hide (fun(os:List Int) (h:(pieces 44 l).map (fun x=>aF x 100)=os) (h2:∀x∈pieces 44 l,0≤aF x 100)=>show iy l=some os from by rw[tH h2,h])
 have hpl:=eO 44 l
 have hpp:=dU 44 l
 obtain⟨s,hss⟩:∃s:ByteArray,⟨l.toArray⟩=s:=⟨_,rfl⟩
 obtain⟨ps,hps⟩:∃ps,pieces 44 l=ps:=⟨_,rfl⟩
 obtain⟨n,hn⟩:∃n,ps.length=n:=⟨_,rfl⟩
 obtain⟨r,hr⟩:∃r,iy l=r:=⟨_,rfl⟩
 rw[hss]at dR
 rw[hss]
 rw[hr]at bC gH ⊢
 rw[hps]at dR bC gH hpl hpp
 rw[hn]at dR hpl hpp
 have HN:=hide hn
 have iM:n≤5001:=by omega
 clear hss hps hr hpl hn hs
 go_enter Tryd.func44,Tryd.ntmps44
 go_wp2_with fail
 refine dR.out.mono ?_
 rintro e w1 ⟨g,cap,rfl,hst,hb1⟩
 obtain⟨N,hN⟩:∃N,W.heap.size=N:=⟨_,rfl⟩
 obtain⟨N1,hN1⟩:∃N,w1.heap.size=N:=⟨_,rfl⟩
 rw[hN]at hst hb1
 have HST:=hide hst
 have HB1:=hide hb1
 have Cu:g<N1:=by rw[← hN1];exact hst.lt.2
 have Ij:N≤N1:=by rw[← hN1,← hN];exact(show Below W.heap.size W w1 from by rw[hN];exact hb1).size
 have qD:=hN
 clear hst hb1 dR
 go_wp2_with fail
 go_loopw [3,5] (fun v i wr=>∃(k:Nat) (os:List Int),k≤n∧i= .int .i64 (k:Int)∧Hid ((ps.take k).map (fun x=>aF x 100)=os)∧Hid (∀x∈ps.take k,0≤aF x 100)∧os.length=k∧Hid (wr.ownsRow N1 3 1 v os.length (os.flatMap jf))∧Hid (Below N1 w1 wr)) (fun _ i _=>n - (intOf i).toNat)
 case atStart=>exact⟨0,[],by omega,rfl,hide rfl,hide (fun x hx=>by simp at hx),rfl,hide (World.ownsRow_nil _ _ _ _),hide (Below.refl _ _)⟩
 case round=>
  obtain⟨k,os,hk,rfl,HR,HG,hol,HO,aV⟩:=hrel
  by_cases hlt:k<n
  case pos=>
   have uI:(k:Int)<(n:Int):=by omega
   obtain⟨x,hx⟩:∃x,ps[k]?=some x:=⟨ps[k]'(by rw[HN.out];exact hlt),List.getElem?_eq_getElem _⟩
   have q0:wr.cell? ⟨g,k,none⟩=some (.string ⟨x.toArray⟩):=(aV.out.cell (p:=⟨g,k,none⟩) Cu).trans (HST.out.get hx)
   have iI:=hide (fun w=>jZ x 99 w (by omega))
   have HR2:=hide (show(ps.take (k+1)).map (fun x=>aF x 100)=os++[aF x 100]from by rw[qg _ hx,HR.out])
   have pY:=hide (bC.out k x hx)
   have HG2:=hide (fun(h:0≤aF x 100)=>show∀y∈ps.take (k+1),0≤aF y 100 from by
    intro y hy
    rw[List.take_add_one,hx]at hy
    rcases List.mem_append.1 hy with hy | hy
    ·exact HG.out y hy
    ·simp at hy;subst hy;exact h)
   obtain⟨A,hA⟩:∃A,aF x 100=A:=⟨_,rfl⟩
   have DR:=hide (fun w=>show Calls Tryd.prog 42 #[.string ⟨x.toArray⟩,.int .i64 99] w (fun e w'=>e= .returned (.int .i64 A)∧w=w')from by
    have h:=iI.out w
    rw[show(99:Int)+1=100 from rfl,hA]at h
    exact h)
   rw[hA]at HR2 pY HG2
   clear hx HR HG hA iI
   by_cases hA:0≤A
   case neg=>
    have d1:decide (A<0)=true:=decide_eq_true (by omega)
    have HF:=hide (pY.out (by omega))
    clear pY bC gH HG2 HR2
    go_wp2_with ((go_at_call_of 42 (Value.string ⟨x.toArray⟩));refine(DR.out _).mono ?_;rintro e w2 ⟨rfl,rfl⟩)
    go_ret
    exact⟨by rw[qD];exact HB1.out.trans (aV.out.mono (by omega)),.inl ⟨HF.out,rfl⟩⟩
   case pos=>
    have d1:decide (A<0)=false:=decide_eq_false (by omega)
    have zk:=hide (HG2.out hA)
    have hwz:N1≤wr.heap.size:=by have:=aV.out.size;omega
    have kF:=hide (show Reads (wr.alloc (.cells #[.int .i64 A] 3)) (wr.heap.size+1) 1 (some ⟨wr.heap.size,0,none⟩) 1 [.int .i64 A]from
     ⟨rfl,fun _=>⟨_,rfl,Nat.lt_succ_self _,fun j u hu=>by
      rw[addr_add,Nat.zero_add,cell_of_row _ _ _ _ _ _ (heap_alloc_new wr _)]
      simpa using hu⟩⟩)
    have uT:=hide (HO.out.alloc (.cells #[.int .i64 A] 3))
    have aK:=hide (aV.out.alloc hwz (.cells #[.int .i64 A] 3))
    clear pY HG2 HO aV
    go_wp2_with (first | ((go_at_call_of 42 (Value.string ⟨x.toArray⟩));refine(DR.out _).mono ?_;rintro e w2 ⟨rfl,rfl⟩) | (at_builtin;refine dS _ rfl (.tmp 20) (.tmp 26) 33 rfl N1 3 i0 _ 1 8 Tryd.underlying33 hi0 hz0 hz1 hz2 rfl (by omega) _ os.length (os.flatMap jf) rfl uT.out (wr.heap.size+1) (some ⟨wr.heap.size,0,none⟩) 1 1 [.int .i64 A] rfl kF.out (by intro u hu;simp at hu;subst hu;rfl) (by simp only[maxLen];omega) (by omega) (by simp;omega) ?_;intro v5 w5 hown5 hg5 lI;have lU:=hide hown5;have bK:=hide (aK.out.grown hg5 (by simp;omega) (fun q hq=>(uT.out.lt q hq).1));clear hown5 hg5 lI))
    go_roundw
    case rel=>exact⟨k+1,os++[A],by omega,by go_num,HR2,zk,by simp;omega,hide (by simpa[jf]using lU.out),bK⟩
    case measure=>simp[intOf];omega
  case neg=>
   obtain rfl:k=n:=by omega
   have htk:ps.take k=ps:=List.take_of_length_le (by have:=HN.out;omega)
   have HF:=hide (show r=some os from gH.out os (by rw[← HR.out,htk]) (by have:=HG.out;rwa [htk]at this))
   clear HR HG bC gH hlt htk
   go_wp2
   go_ret
   exact⟨by rw[qD];exact HB1.out.trans (aV.out.mono (by omega)),.inr ⟨os,_,HF.out,by omega,rfl,by rw[qD];exact Joins.ownsRow_le HO.out (by omega)⟩⟩
theorem jA (ps:List (List UInt8)) (g n c:Nat) (x:List UInt8) (W:World) (hg:g<W.heap.size) (hn:ps.length=n) (iM:n≤5000) (hp:∀(j:Nat) y,ps[j]?=some y→W.cell? ⟨g,j,none⟩=some (.string ⟨y.toArray⟩)):
  Calls Tryd.prog 43 #[.slice (some ⟨g,0,none⟩) n c,.string ⟨x.toArray⟩] W fun e W'=>e= .returned (.int .i64 (ig (fun y=>decide (y=x)) ps))∧Below W.heap.size W W':=by
 have HP:=hide hp
 have Au:=hide hn
 clear hp hn
 go_enter Tryd.func43,Tryd.ntmps43
 go_wp2_with fail
 go_loopw [8] (fun i wr=>∃k:Nat,k≤n∧i= .int .i64 (k:Int)∧Hid (Below W.heap.size W wr)∧Hid (∀(j:Nat) y,j<k→ps[j]?=some y→decide (y=x)=false)) (fun i _=>n - (intOf i).toNat)
 case atStart=>exact⟨0,by omega,rfl,hide (Below.refl _ _),hide (fun j y h _=>by omega)⟩
 case round=>
  obtain⟨k,hk,rfl,HB,HN⟩:=hrel
  by_cases hlt:k<n
  case pos=>
   have uI:(k:Int)<(n:Int):=by omega
   obtain⟨y,hy⟩:∃y,ps[k]?=some y:=⟨ps[k]'(by rw[Au.out];exact hlt),List.getElem?_eq_getElem _⟩
   have q0:wr.cell? ⟨g,k,none⟩=some (.string ⟨y.toArray⟩):=(HB.out.cell (p:=⟨g,k,none⟩) hg).trans (HP.out k y hy)
   have HY:=hide hy
   clear hy
   by_cases hxy:y=x
   case pos=>
    have e1:(x ==y)=true:=by simp[hxy]
    have e2:(y ==x)=true:=by simp[hxy]
    have HF:=hide (kR (p:=fun y=>decide (y=x)) HY.out (by simpa using hxy) HN.out)
    clear hxy
    go_wp2_with fail
    go_ret
    exact⟨j6 HF.out.symm,HB.out⟩
   case neg=>
    have e1:(x ==y)=false:=by simp;exact fun h=>hxy h.symm
    have e2:(y ==x)=false:=by simpa using hxy
    have hd:decide (y=x)=false:=decide_eq_false hxy
    have HD:=hide hd
    clear hxy hd
    go_wp2_with fail
    go_roundw
    case rel=>exact⟨k+1,by omega,by go_num,HB,hide (fun j z hj hz=>by
     rcases(by omega:j<k∨j=k)with h | rfl
     ·exact HN.out j z h hz
     ·have e:=HY.out;rw[e]at hz;cases hz;exact HD.out)⟩
    case measure=>simp[intOf];omega
  case neg=>
   have HF:=hide (lS (p:=fun y=>decide (y=x)) (l:=ps) (fun j y hj hy=>HN.out j y (by have:=Au.out;omega) hy))
   go_wp2_with fail
   go_ret
   exact⟨j6 HF.out.symm,HB.out⟩
end Go.Proofs.YtifkacnoiocebaaDoor
