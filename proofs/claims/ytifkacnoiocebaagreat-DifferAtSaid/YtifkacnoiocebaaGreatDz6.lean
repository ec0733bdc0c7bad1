/- A part of the proof: G6, As, AsRow. -/
import Derived.Test.YtifkacnoiocebaaGreatDz4
import Derived.Test.YtifkacnoiocebaaGreatDz5
import Derived.Deep.Upon
import Derived.Lib.SliceRun
import Derived.Laws.IdiomCopy
set_option linter.unusedVariables false
set_option linter.unusedSimpArgs false
set_option maxRecDepth 100000
set_option maxHeartbeats 8000000
namespace Go.Proofs.YtifkacnoiocebaaGreat
open aj Go.Maps Go.RowKit
def uL (r:bg):List tL:=bU r.m.src r.m.dst r.m.dz r.m.dU
def dB:List bg→aj.Fn
 |[]=>fun _=>false
 |r::l=>bE (outs (uL r)) (fun _=>r.permit) (dB l)
theorem RS {l:List bg} {k:Nat} {r:bg} (h:l[k]?=some r):dB (l.drop k)=bE (outs (uL r)) (fun _=>r.permit) (dB (l.drop (k+1))):=by
 obtain⟨hk,e⟩:=List.getElem?_eq_some_iff.1 h
 rw[List.drop_eq_getElem_cons hk,e];rfl
theorem lu (A:Option Addr) (n c:Nat) (W:World):Calls Tryz.prog 82 #[.slice A n c] W fun e W'=>e= .returned (.int .i64 (if 8<n then 2 else 0))∧W=W':=by
 by_cases h:8<n
 ·have h8:decide ((8:Int)<(n:Int))=true:=by simp;omega
  rw[if_pos h]
  go_enter Tryz.func82,Tryz.ntmps82
  go_wp2
  go_ret
  exact⟨rfl,rfl⟩
 ·have h8:decide ((8:Int)<(n:Int))=false:=by simp;omega
  rw[if_neg h]
  go_enter Tryz.func82,Tryz.ntmps82
  go_wp2
  go_ret
  exact⟨rfl,rfl⟩
theorem KS {w:World} {B g nb kb ib cap:Nat} {A:St} {K T:bC→Option Value} (h:aI w B g nb kb ib cap A K T) (hA:A.full=false) (hv:14≤A.vars) (l:List bg) (a:Option Addr) (n c:Nat) (hn:n≤8)
  (hlen:l.length=n) (hl:∀w',eO (Fp g nb kb ib) w w'→gG w' w'.heap.size a n l) (P:aj.Fn→Prop) (hR:∀r∈l,∀G,mR (uL r) G→P G) (hS:∀k G,lD (dB (l.drop k)) G→P G):
  Calls Tryz.prog 90 #[.pointer (some ⟨g,0,none⟩),.slice a n c] w (BP w B g nb kb ib A (dB l) P):=by
 have H:=hide h
 have HV:=hide hv
 have HL:=hide hl
 have HR:=hide hR
 have HS:=hide hS
 have HB0:=hide (BS.refl h hA P)
 have HZ0:=hide (dF.zero h.inv)
 have hn8:¬ 8<n:=by omega
 clear h hA hv hl hR hS
 go_enter Tryz.func90,Tryz.ntmps90
 go_wp2_with fail
 refine(lu _ _ _ _).mono ?_
 rintro e w1 ⟨rfl,rfl⟩
 rw[if_neg hn8]
 go_wp2
 go_loopw [7,8] (fun u i wr=>∃(k r bR cap2:Nat) (A2:St) (K2 T2:bC→Option Value),k≤n∧i= .int .i64 ((k:Int) - 1)∧u= .int .i64 r∧Hid (BS w B g nb kb ib A P wr bR cap2 A2 K2 T2)∧Hid (dF A2 r (dB (l.drop k)))) (fun _ i _=>(intOf i+1).toNat)
 case atStart=>exact⟨n,0,nb,cap,A,K,T,Nat.le_refl _,rfl,rfl,HB0,hide (by rw[List.drop_of_length_le (by omega)];exact HZ0.out)⟩
 case round=>
  clear HB0 HZ0
  obtain⟨k,r,bR,cap2,A2,K2,T2,hk,rfl,rfl,HP,HF⟩:=hrel
  by_cases hlt:0<k
  ·obtain⟨j,rfl⟩:∃j,k=j+1:=⟨k - 1,by omega⟩
   obtain⟨x,hx⟩:∃x,l[j]?=some x:=⟨_,List.getElem?_eq_getElem (by omega)⟩
   have hra:=HL.out wr HP.out.fm
   obtain⟨b,o,rfl,kD,_⟩:=hra.2.2 (by omega)
   obtain⟨q0,q1,q2,q3,q4⟩:=(hra.get hx).2
   have HX:=hide hx
   obtain⟨hs,hd,hp,hq⟩:=hra.2.1 x (List.mem_of_getElem? hx)
   have HE:=hide (RS hx)
   have gD:=hide ((zJ HP.out.ar HP.out.nf (by rw[HP.out.ext.vars];exact HV.out) x.m.src x.m.dst x.m.dz x.m.dU hs hd hp hq))
   have Ii:=hide (HR.out x (List.mem_of_getElem? hx))
   clear hx hs hd hp hq hra
   obtain⟨xp,xs,xd,xsp,xdp⟩:=x
   have ej:((j+1:Nat):Int) - 1=(j:Int):=by omega
   rw[ej]
   clear ej
   go_wp2_with fail
   refine gD.out.mono ?_
   rintro e wb hbp
   obtain⟨xJ,vF,A3,K3,T3,hst,hx3,hres⟩:=HP.out.step H.out (hbp.mono Ii.out)
   have AP:=hide hst
   have mF:=hide (HF.out.ext HP.out.inv hx3)
   clear hbp hst hx3 gD HP HF Ii
   have hc0:=((HL.out wb AP.out.fm).get HX.out).2.1
   clear q0 q1 q2 q3 q4
   rcases hres with⟨f,rfl,iO⟩ | ⟨rfl,hfull⟩
   case inr=>
    have yT:=hide (AP.out.out (F:=dB l) (.inr ⟨rfl,hfull⟩))
    clear hfull
    go_wp2
    go_ret2
    exact yT.out
   have HI:=hide iO
   clear iO
   cases xp
   ·have HC:Hid (Calls Tryz.prog 122 #[.pointer (some ⟨g,0,none⟩),.int .i64 f,.int .i64 0,.int .i64 r] wb (BP wb B g xJ kb ib A3 (bE (outs (uL ⟨false,xs,xd,xsp,xdp⟩)) (fun _=>false) (dB (l.drop (j+1)))) P)):=hide (Ad AP.out.ar AP.out.nf HI.out (dF.zero AP.out.inv) mF.out (fun G hG=>HS.out j G (HE.out.symm▸hG)))
    go_wp2_with fail
    refine HC.out.mono ?_
    rintro e wc hbp
    obtain⟨C9,cap4,A4,K4,T4,hst,hx4,hres⟩:=AP.out.step H.out hbp
    have AA:=hide hst
    clear hbp hst hx4 HC AP mF HI hc0
    rcases hres with⟨q,rfl,iO⟩ | ⟨rfl,hfull⟩
    case inr=>
     have yT:=hide (AA.out.out (F:=dB l) (.inr ⟨rfl,hfull⟩))
     clear hfull
     go_wp2
     go_ret2
     exact yT.out
    have HI4:=hide iO
    clear iO
    go_wp2
    go_roundw
    case rel=>exact⟨j,q,C9,cap4,A4,K4,T4,by omega,rfl,rfl,AA,hide (HE.out.symm▸HI4.out)⟩
    case measure=>simp[intOf]
   ·have HC:Hid (Calls Tryz.prog 122 #[.pointer (some ⟨g,0,none⟩),.int .i64 f,.int .i64 1,.int .i64 r] wb (BP wb B g xJ kb ib A3 (bE (outs (uL ⟨true,xs,xd,xsp,xdp⟩)) (fun _=>true) (dB (l.drop (j+1)))) P)):=hide (Ad AP.out.ar AP.out.nf HI.out (dF.one AP.out.inv) mF.out (fun G hG=>HS.out j G (HE.out.symm▸hG)))
    go_wp2_with fail
    refine HC.out.mono ?_
    rintro e wc hbp
    obtain⟨C9,cap4,A4,K4,T4,hst,hx4,hres⟩:=AP.out.step H.out hbp
    have AA:=hide hst
    clear hbp hst hx4 HC AP mF HI hc0
    rcases hres with⟨q,rfl,iO⟩ | ⟨rfl,hfull⟩
    case inr=>
     have yT:=hide (AA.out.out (F:=dB l) (.inr ⟨rfl,hfull⟩))
     clear hfull
     go_wp2
     go_ret2
     exact yT.out
    have HI4:=hide iO
    clear iO
    go_wp2
    go_roundw
    case rel=>exact⟨j,q,C9,cap4,A4,K4,T4,by omega,rfl,rfl,AA,hide (HE.out.symm▸HI4.out)⟩
    case measure=>simp[intOf]
  ·have hk0:k=0:=by omega
   subst hk0
   have yT:=hide (HP.out.out (F:=dB l) (.inl ⟨r,rfl,HF.out⟩))
   go_wp2
   go_ret2
   exact yT.out
theorem Iu {w:World} {B g nb kb ib cap:Nat} {A:St} {K T:bC→Option Value} (h:aI w B g nb kb ib cap A K T) (hA:A.full=false) (hv:14≤A.vars) (l:List bg) (a:Option Addr) (n c:Nat) (hn:n≤8)
  (hl:gG w B a n l) (P:aj.Fn→Prop) (hR:∀r∈l,∀G,mR (uL r) G→P G) (hS:∀k G,lD (dB (l.drop k)) G→P G):
  Calls Tryz.prog 90 #[.pointer (some ⟨g,0,none⟩),.slice a n c] w (BP w B g nb kb ib A (dB l) P):=
 KS h hA hv l a n c hn hl.1 (fun w' hf=>by
  have hb:=h.DN hf
  have hs:=hf.size
  obtain⟨l1,_,_,_,_⟩:=h.qR
  exact hl.below hb (by have:=h.lo.1;omega)) P hR hS
theorem aad (m:M4) (c:Nat) (hm:m.ok) (hc:c<16384):yw m (pk c)=yJ m.src m.dst m.dz m.dU (c / 1024) (c / 64 % 16) (c / 8 % 8) (c % 8):=by
 have e:∀(s k:Nat),k<16→hasB s (k:Int)=s.testBit k:=fun s k hk=>by
  have h:(k:Int)<16:=by omega
  simp[hasB,h]
 simp only[yw,pk,yJ]
 rw[e _ _ (by omega),e _ _ (by omega),e _ _ (by omega),e _ _ (by omega)]
theorem BJ (l:List bg) (hl:∀r∈l,r.ok) (c:Nat) (hc:c<16384):dB l (aH c)=iY l (pk c):=by
 induction l with
 |nil=>rfl
 |cons r l ih=>
  have h1:=ih (fun x hx=>hl x (by simp[hx]))
  have h2:outs (uL r) (aH c)=yw r.m (pk c):=by rw[uL,DI _ _ _ _ c hc,aad r.m c (hl r (by simp)) hc]
  simp only[dB,bE,h2,h1,iY,List.find?_cons]
  cases yw r.m (pk c)<;>rfl
theorem eP (n m:Int) (W:World) (B:Bool) (h:(decide (0≤n) && decide (n<m))=B):Calls Tryz.prog 73 #[.int .i64 n,.int .i64 m] W fun e W'=>e= .returned (.bool B)∧W=W':=by
 cases h1:decide (0≤n)
 ·have e1:¬ 0≤n:=by simpa using h1
  have HF:=hide (show false=B by rw[← h,h1];rfl)
  clear h
  go_enter Tryz.func73,Tryz.ntmps73
  go_wp2
  go_ret
  exact⟨bX HF.out,rfl⟩
 ·have HF:=hide (show decide (n<m)=B by rw[← h,h1];rfl)
  clear h
  go_enter Tryz.func73,Tryz.ntmps73
  go_wp2
  go_ret
  exact⟨bX HF.out,rfl⟩
theorem Kg (w:World) (vars most:Int) (hb:most<2∨40000<most):
  Calls Tryz.prog 23 #[.int .i64 14,.int .i64 most] w fun e W'=>e= .returned (.tuple #[.pointer none,.int .i64 1])∧RowKit.Below w.heap.size w W':=by
 have hmm:=@run_makeMap Tryz.prog
 rcases hb with h | h
 all_goals
  go_enter Tryz.func23,Tryz.ntmps23
  go_wp2
  go_ret2
  exact⟨rfl,RowKit.Below.refl _ _⟩
def intCells (dl:List Nat):List Value:=dl.map fun(k:Nat)=>Value.int .i64 (k:Int)
theorem cZ {w w':World} {base e s n:Nat} {v:Value} {xs:List Value} (h:w.ownsRow base e s v n xs) (hb:∀q,v.ownBlock=some q→w'.heap[q]?=w.heap[q]?):w'.ownsRow base e s v n xs:=by
 obtain⟨h1,h2⟩:=h
 refine⟨h1,?_⟩
 rcases h2 with h2 | ⟨g',cap',cur,hv,hb',hh,r⟩
 ·exact .inl h2
 ·subst hv
  exact .inr ⟨_,_,cur,rfl,hb',(hb g' rfl).trans hh,r⟩
theorem Tryz.infoInt:(Tryz.prog.info? 3).map (fun i=>(i.zero,i.size,i.bytes))=some (some (.int .i64 0),1,8):=by kernel_rfl
theorem CU {w:World} {base:Nat} {v:Value} {dl:List Nat} (h:w.ownsRow base 3 1 v dl.length (intCells dl)) (hb:∀x∈dl,x<4611686018427387904):
  ∃A c,v= .slice A dl.length c∧dl.length≤c∧cu w w.heap.size A dl.length (dl.map fun(k:Nat)=>(k:Int)):=by
 rcases h.2 with⟨rfl,h0⟩ | ⟨g,cap,cur,rfl,hg,hh,hnc,_⟩
 ·have:dl=[]:=List.eq_nil_of_length_eq_zero h0
  subst this
  exact⟨none,0,rfl,Nat.le_refl _,cu.nil _ _ _⟩
 ·refine⟨_,cap,rfl,hnc,⟨by simp,fun x hx=>?_,fun _=>⟨g,0,rfl,(Array.getElem?_eq_some_iff.1 hh).1,fun k x hx=>?_⟩⟩⟩
  ·obtain⟨k,hk,rfl⟩:=List.mem_map.1 hx
   have:=hb k hk
   omega
  ·have:=h.cells (g:=g) rfl k (.int .i64 x) (by
    rw[List.getElem?_map]at hx
    cases e:dl[k]? with
    |none=>rw[e]at hx;cases hx
    |some y=>rw[e]at hx;cases hx;simp[intCells,e])
   rw[addr_add]at this
   exact this
theorem vZ (l:List Int) (b o n c:Nat) (x:Int) (W:World) (hn:n≤9223372036854775807) (hl:cu W W.heap.size (some ⟨b,o,none⟩) n l) (h0:0<n):
  Calls Tryz.prog 19 #[.slice (some ⟨b,o,none⟩) n c,.int .i64 x] W fun e W'=>e= .returned (.int .i64 (jy (fun y=>x ==y) l))∧RowKit.Below W.heap.size W W':=by
 have HL:=hide hl
 clear hl
 go_enter Tryz.func19,Tryz.ntmps19
 go_wp2
 go_loopw [8] (fun i wr=>∃k:Nat,k≤n∧i= .int .i64 k∧RowKit.Below W.heap.size W wr∧Hid (∀j y,j<k→l[j]?=some y→(x ==y)=false)) (fun i _=>n - (intOf i).toNat)
 case atStart=>exact⟨0,Nat.zero_le _,rfl,RowKit.Below.refl _ _,hide (fun j r h=>absurd h (by omega))⟩
 case round=>
  obtain⟨k,hk,rfl,hb,HN⟩:=hrel
  have HB:=hide hb
  by_cases hlt:k<n
  ·obtain⟨y,hy⟩:∃r,l[k]?=some r:=⟨_,List.getElem?_eq_getElem (by have:=HL.out.1;omega)⟩
   obtain⟨b',o',e,kD,hg⟩:=HL.out.2.2 (by omega)
   cases e
   have q0:=(hb.cell (p:=⟨b,o+k,none⟩) kD).trans (hg k y hy)
   have HY:=hide hy
   clear hb hg hy
   cases hxy:(x ==y)
   ·go_wp2
    go_roundw
    case rel=>exact⟨k+1,by omega,by go_num,HB.out,hide (fun j z hj hz=>by
     rcases(by omega:j<k∨j=k)with h | rfl
     ·exact HN.out j z h hz
     ·have e:=HY.out;rw[e]at hz;cases hz;exact hxy)⟩
    case measure=>simp[intOf];omega
   ·have HF:=hide (rH (p:=fun y=>x ==y) HY.out hxy HN.out)
    go_wp2
    go_ret
    exact⟨qP HF.out.symm,HB.out⟩
  ·have HF:=hide (xG (p:=fun y=>x ==y) (l:=l) (fun j r hj hr=>HN.out j r (by have:=HL.out.1;omega) hr))
   go_wp2
   go_ret
   exact⟨qP HF.out.symm,HB.out⟩
theorem KT (l:List Int) (A:Option Addr) (n c:Nat) (x:Int) (W:World) (hn:n≤9223372036854775807) (hl:cu W W.heap.size A n l) (hx:x∈l):
  Calls Tryz.prog 46 #[.slice A n c,.int .i64 x] W fun e W'=>e= .returned (.bool true)∧RowKit.Below W.heap.size W W':=by
 have h0:0<n:=by have:=List.length_pos_of_mem hx;have:=hl.1;omega
 obtain⟨b,o,rfl,_,_⟩:=hl.2.2 h0
 have HC:=hide (vZ l b o n c x W hn hl h0)
 obtain⟨k,hk⟩:∃k:Nat,jy (fun y=>x ==y) l=k:=by
  rcases nC (fun y=>x ==y) l with⟨k,r,hk,_⟩ | ⟨_,hno⟩
  ·exact⟨k,hk⟩
  ·have:=hno x hx;simp at this
 rw[hk]at HC
 clear hl hx hk
 go_enter Tryz.func46,Tryz.ntmps46
 go_wp2_with fail
 refine HC.out.mono ?_
 rintro e w1 ⟨rfl,hb⟩
 have HB:=hide hb
 clear hb
 go_wp2
 go_ret
 exact⟨rfl,HB.out⟩
end Go.Proofs.YtifkacnoiocebaaGreat
namespace Go.Proofs.YtifkacnoiocebaaGreat
open Go.RowKit
theorem own_below {w w':World} {base e s n:Nat} {v:Value} {xs:List Value} (h:w.ownsRow base e s v n xs) (hb:RowKit.Below w.heap.size w w'):w'.ownsRow base e s v n xs:=
 cZ h (fun q hq=>hb.block q (h.lt q hq).2)
theorem l8 {B:Nat} {w w':World} {row:Option Nat} (hb:RowKit.Below B w w') (hB:B≤w.heap.size) {w'':World} (hg:w'.grownBy w'' row) (hr:∀k,row=some k→B≤k):RowKit.Below B w w'':=
 hb.grown hg (by have:=hb.size;omega) hr
open aj Go.Maps
def pQ (x:iq):Nat→Nat
 |0=>0
 |n+1=>pQ x n*2+(x n).toNat
theorem wN (x:iq):∀n,pQ x n<2 ^ n:=by
 intro n
 induction n with
 |zero=>simp[pQ]
 |succ n ih=>
  have:(x n).toNat ≤1:=by cases x n<;>simp
  simp only[pQ,Nat.pow_succ]
  omega
theorem AY (x:iq):∀(n u:Nat),u<n→(pQ x n).testBit (n - 1 - u)=x u:=by
 intro n
 induction n with
 |zero=>intro u hu;omega
 |succ n ih=>
  intro u hu
  have hb:(x n).toNat ≤1:=by cases x n<;>simp
  rcases Nat.lt_or_ge u n with h | h
  ·have e:n+1 - 1 - u=(n - 1 - u)+1:=by omega
   rw[e,Nat.testBit_succ]
   have:pQ x (n+1) / 2=pQ x n:=by simp only[pQ];omega
   rw[this]
   exact ih u h
  ·obtain rfl:u=n:=by omega
   have e:u+1 - 1 - u=0:=by omega
   rw[e,Nat.testBit_zero,Bool.eq_iff_iff,decide_eq_true_eq]
   simp only[pQ]
   cases x u<;>simp<;>omega
theorem below_alloc2 (w:World) (o:Obj):RowKit.Below w.heap.size w (w.alloc o):=(RowKit.Below.refl _ _).alloc (Nat.le_refl _) o
theorem U0 {g nb kb ib bR s k:Nat} (hn:bR=nb∨s≤bR) (hk:k<s) (h:¬Fp g nb kb ib k):¬Fp g bR kb ib k:=fun e=>by
 rcases e with e | e | e | e
 ·exact h (.inl e)
 ·rcases hn with e' | e'
  ·exact h (.inr (.inl (e.trans e')))
  ·omega
 ·exact h (.inr (.inr (.inl e)))
 ·exact h (.inr (.inr (.inr e)))
structure AS (w:World) (B g:Nat) (A:St) (bl:List Nat):Prop where
 ar:∃(nb kb ib cap:Nat) (K T:bC→Option Value),aI w B g nb kb ib cap A K T∧∀j∈bl,B≤j∧j<w.heap.size∧¬Fp g nb kb ib j
 nf:A.full=false
structure KP (B:Nat) (bl:List Nat) (w w':World):Prop where
 low:RowKit.Below B w w'
 same:∀j∈bl,w'.heap[j]?=w.heap[j]?
theorem KP.refl (B:Nat) (bl:List Nat) (w:World):KP B bl w w:=⟨RowKit.Below.refl _ _,fun _ _=>rfl⟩
theorem KP.trans {B:Nat} {bl:List Nat} {a b c:World} (h:KP B bl a b) (k:KP B bl b c):KP B bl a c:=⟨h.low.trans k.low,fun j hj=>(k.same j hj).trans (h.same j hj)⟩
theorem KP.mono {B:Nat} {bl Dh:List Nat} {a b:World} (h:KP B bl a b) (hs:∀j∈Dh,j∈bl):KP B Dh a b:=⟨h.low,fun j hj=>h.same j (hs j hj)⟩
section
variable {w w':World} {B g:Nat} {A:St} {bl:List Nat}
theorem AS.inv (h:AS w B g A bl):Inv A:=by
 obtain⟨nb,kb,ib,cap,K,T,ha,_⟩:=h.ar
 exact ha.inv
theorem AS.hB (h:AS w B g A bl):B<w.heap.size:=by
 obtain⟨nb,kb,ib,cap,K,T,ha,_⟩:=h.ar
 obtain⟨l1,l2,l3,l4,l5⟩:=ha.qR
 omega
theorem AS.lt (h:AS w B g A bl):∀j∈bl,B≤j∧j<w.heap.size:=by
 obtain⟨nb,kb,ib,cap,K,T,ha,hb⟩:=h.ar
 exact fun j hj=>⟨(hb j hj).1,(hb j hj).2.1⟩
theorem AS.mono {Dh:List Nat} (h:AS w B g A bl) (hs:∀j∈Dh,j∈bl):AS w B g A Dh:=by
 obtain⟨nb,kb,ib,cap,K,T,ha,hb⟩:=h.ar
 exact⟨⟨nb,kb,ib,cap,K,T,ha,fun j hj=>hb j (hs j hj)⟩,h.nf⟩
theorem AS.below (h:AS w B g A bl) (hb:RowKit.Below w.heap.size w w'):AS w' B g A bl:=by
 obtain⟨nb,kb,ib,cap,K,T,ha,hf⟩:=h.ar
 exact⟨⟨nb,kb,ib,cap,K,T,ha.below hb,fun j hj=>⟨(hf j hj).1,Nat.lt_of_lt_of_le (hf j hj).2.1 hb.size,(hf j hj).2.2⟩⟩,h.nf⟩
theorem AS.kp (h:AS w B g A bl) (hb:RowKit.Below w.heap.size w w'):KP B bl w w':=⟨hb.mono (Nat.le_of_lt h.hB),fun j hj=>hb.block j (h.lt j hj).2⟩
theorem AS.turned (h:AS w B g A bl) (hs:w.heap.size≤w'.heap.size) (hc:∀i,i<w.heap.size→i∉bl→w'.heap[i]?=w.heap[i]?):AS w' B g A bl:=by
 obtain⟨nb,kb,ib,cap,K,T,ha,hf⟩:=h.ar
 obtain⟨l1,l2,l3,l4,l5⟩:=ha.qR
 have hk:∀i,i<w.heap.size→Fp g nb kb ib i→w'.heap[i]?=w.heap[i]?:=fun i hi hF=>hc i hi (fun hm=>(hf i hm).2.2 hF)
 exact⟨⟨nb,kb,ib,cap,K,T,ha.keep (hk g l1 (.inl rfl)) (hk nb l2 (.inr (.inl rfl))) (hk kb l3 (.inr (.inr (.inl rfl)))) (hk ib l4 (.inr (.inr (.inr rfl)))),fun j hj=>⟨(hf j hj).1,Nat.lt_of_lt_of_le (hf j hj).2.1 hs,(hf j hj).2.2⟩⟩,h.nf⟩
theorem AS.add (h:AS w B g A bl) (hs:w.heap.size≤w'.heap.size) (hc:∀i,i<w.heap.size→i∉bl→w'.heap[i]?=w.heap[i]?) {j:Nat} (h1:w.heap.size≤j) (h2:j<w'.heap.size):AS w' B g A (j::bl):=by
 have hB:=h.hB
 obtain⟨⟨nb,kb,ib,cap,K,T,ha,hf⟩,hnf⟩:=h
 obtain⟨l1,l2,l3,l4,l5⟩:=ha.qR
 have hk:∀i,i<w.heap.size→Fp g nb kb ib i→w'.heap[i]?=w.heap[i]?:=fun i hi hF=>hc i hi (fun hm=>(hf i hm).2.2 hF)
 refine⟨⟨nb,kb,ib,cap,K,T,ha.keep (hk g l1 (.inl rfl)) (hk nb l2 (.inr (.inl rfl))) (hk kb l3 (.inr (.inr (.inl rfl)))) (hk ib l4 (.inr (.inr (.inr rfl)))),fun i hi=>?_⟩,hnf⟩
 rcases List.mem_cons.1 hi with rfl | hi
 ·exact⟨by omega,h2,fun e=>by rcases e with e | e | e | e<;>omega⟩
 ·exact⟨(hf i hi).1,Nat.lt_of_lt_of_le (hf i hi).2.1 hs,(hf i hi).2.2⟩
theorem AS.alloc (h:AS w B g A bl) (o:Obj):AS (w.alloc o) B g A (w.heap.size::bl):=
 h.add (by simp) (fun i hi _=>(MapKept.heap_alloc w o).2 i hi) (Nat.le_refl _) (by simp)
theorem AS.grown (h:AS w B g A bl) {row:Option Nat} (hg:w.grownBy w' row) (hr:∀j,row=some j→j∈bl):AS w' B g A bl:=
 h.turned hg.size (fun i hi hn=>hg.block i hi (fun e=>hn (hr i e.symm)))
theorem AS.Uu (h:AS w B g A bl) {row:Option Nat} (hg:w.grownBy w' row) (hr:∀j,row=some j→j∈bl) {j:Nat} (h1:w.heap.size≤j) (h2:j<w'.heap.size):AS w' B g A (j::bl):=
 h.add hg.size (fun i hi hn=>hg.block i hi (fun e=>hn (hr i e.symm))) h1 h2
theorem KP.l7 {row:Option Nat} (hg:w.grownBy w' row) (hB:B≤w.heap.size) (hl:∀j∈bl,j<w.heap.size) (hr:∀j,row=some j→B≤j∧j∉bl):KP B bl w w':=
 ⟨⟨hg.os,hg.tape,hg.output,hg.size,fun i hi=>hg.block i (by omega) (fun e=>by have:=(hr i e.symm).1;omega)⟩,fun j hj=>hg.block j (hl j hj) (fun e=>(hr j e.symm).2 hj)⟩
theorem Zr (w:World) (vars most:Nat) (hv:1≤vars) (hv2:vars≤16) (hm:2≤most) (hm2:most≤40000):
  Calls Tryz.prog 23 #[.int .i64 vars,.int .i64 most] w fun e w'=>∃g,e= .returned (.tuple #[.pointer (some ⟨g,0,none⟩),.int .i64 0])∧AS w' w.heap.size g (pI vars most) []∧RowKit.Below w.heap.size w w':=
 (Sb w vars most hv hv2 hm hm2).mono fun e w' hq=>by
  obtain⟨g,nb,kb,ib,he,ha,hb⟩:=hq
  exact⟨g,he,⟨⟨nb,kb,ib,_,_,_,ha,fun j hj=>by cases hj⟩,rfl⟩,hb⟩
end
def Bx (w:World) (N:Nat) (vs:Array Value) (t:TypeId):Prop:=w.heap[N]?=some (.cells vs t (0,0))
theorem Bx.new (w:World) (vs:Array Value) (t:TypeId):Bx (w.alloc (.cells vs t)) w.heap.size vs t:=heap_alloc_new w _
theorem Bx.same {w w':World} {N:Nat} {vs:Array Value} {t:TypeId} (h:Bx w N vs t) (hs:w'.heap[N]?=w.heap[N]?):Bx w' N vs t:=hs.trans h
theorem Bx.lt {w:World} {N:Nat} {vs:Array Value} {t:TypeId} (h:Bx w N vs t):N<w.heap.size:=(Array.getElem?_eq_some_iff.1 h).1
theorem Bx.below {w w':World} {N:Nat} {vs:Array Value} {t:TypeId} (h:Bx w N vs t) (hb:RowKit.Below w.heap.size w w'):Bx w' N vs t:=h.same (hb.block N h.lt)
theorem Bx.kp {w w':World} {B N:Nat} {bl:List Nat} {vs:Array Value} {t:TypeId} (h:Bx w N vs t) (hk:KP B bl w w') (hN:N∈bl):Bx w' N vs t:=h.same (hk.same N hN)
theorem Bx.get {w:World} {N:Nat} {vs:Array Value} {t:TypeId} (h:Bx w N vs t) (j:Nat) (v:Value) (hv:vs[j]?=some v):w.cell? ⟨N,j,none⟩=some v:=by
 rw[cell_of_row _ _ _ _ _ _ h];exact hv
theorem Bx.frozen {w:World} {N:Nat} {vs:Array Value} {t:TypeId} (h:Bx w N vs t) (o:Nat):w.frozen? ⟨N,o,none⟩=false:=by
 have h':w.heap[N]?=some (.cells vs t (0,0)):=h
 unfold World.frozen?
 simp only[h']
 simp
theorem Bx.set {w:World} {N:Nat} {vs:Array Value} {t:TypeId} (h:Bx w N vs t) (j:Nat) (v:Value):Bx (w.setCell ⟨N,j,none⟩ v) N (vs.setIfInBounds j v) t:=by
 have h1:w.heap[N]?=some (.cells vs t (0,0)):=h
 have hlt:=h.lt
 have h':w.heap[N]= .cells vs t (0,0):=by simpa[Array.getElem?_eq_getElem hlt]using h1
 show(w.heap.modify N _)[N]?=_
 rw[Array.getElem?_eq_getElem (by simpa using hlt),Array.getElem_modify_self,h']
 rfl
theorem Bx.far {w:World} {N:Nat} {vs:Array Value} {t:TypeId} (h:Bx w N vs t) (a:Addr) (v:Value) (hn:N≠a.block):Bx (w.setCell a v) N vs t:=h.same (RowKit.Below.heap_setCell w a v N hn)
theorem size_setCell (w:World) (a:Addr) (v:Value):(w.setCell a v).heap.size =w.heap.size:=by simp[World.setCell]
structure DZ (wr:World) (B g:Nat) (A:St) (base:Nat) (e:TypeId) (s:Nat) (v:Value) (n:Nat) (xs:List Value) (bl:List Nat):Prop where
 sa:AS wr B g A (v.ownBlock.toList++bl)
 own:wr.ownsRow base e s v n xs
 ap:∀q,v.ownBlock=some q→q∉bl
section
variable {wr w':World} {B g base s n:Nat} {A:St} {e:TypeId} {v:Value} {xs:List Value} {bl:List Nat}
theorem DZ.append {v5:Value} {m:Nat} {ys:List Value} (h:DZ wr B g A base e s v n xs bl) (hown:w'.ownsRow base e s v5 m ys) (hg:wr.grownBy w' v.ownBlock) (hat:v5.ownBlock=v.ownBlock∨v5.ownBlock=some wr.heap.size):
  DZ w' B g A base e s v5 m ys bl∧KP B bl wr w':=by
 have hB:=h.sa.hB
 refine⟨⟨?_,hown,fun q hq hm=>?_⟩,?_⟩
 ·rcases hat with e1 | e1
  ·rw[e1]
   exact h.sa.grown hg (fun j hj=>List.mem_append_left _ (by simp[hj]))
  ·rw[e1]
   refine(h.sa.Uu hg (fun j hj=>List.mem_append_left _ (by simp[hj])) (Nat.le_refl _) (hown.lt _ e1).2).mono (fun j hj=>?_)
   simp only[Option.toList_some,List.mem_append,List.mem_cons,List.not_mem_nil,or_false]at hj ⊢
   rcases hj with a | a
   ·exact .inl a
   ·exact .inr (.inr a)
 ·rcases hat with e1 | e1
  ·exact h.ap q (e1▸hq) hm
  ·rw[e1]at hq
   cases hq
   exact Nat.lt_irrefl _ (h.sa.lt _ (List.mem_append_right _ hm)).2
 ·refine KP.l7 hg (Nat.le_of_lt hB) (fun j hj=>(h.sa.lt j (List.mem_append_right _ hj)).2) (fun j hj=>⟨?_,h.ap j hj⟩)
  exact(h.sa.lt j (List.mem_append_left _ (by simp[hj]))).1
end
end Go.Proofs.YtifkacnoiocebaaGreat
