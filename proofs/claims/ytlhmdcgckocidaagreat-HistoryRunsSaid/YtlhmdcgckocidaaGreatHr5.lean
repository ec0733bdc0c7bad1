/- A part of the proof: G6, NetDev, NetBacks. -/
import Derived.Test.YtlhmdcgckocidaaGreatHr4
import Derived.Deep.Upon
import Derived.Lib.SliceRun
import Derived.Laws.IdiomCopy
set_option linter.unusedVariables false
set_option linter.unusedSimpArgs false
set_option maxRecDepth 100000
set_option maxHeartbeats 8000000
namespace Go.Proofs.YtlhmdcgckocidaaGreat
open ak Go.Maps Go.RowKit
def yt (r:aY):List jN:=dQ r.m.src r.m.dst r.m.ah r.m.aj
def dU:List aY→ak.Fn
 |[]=>fun _=>false
 |r::l=>bH (outs (yt r)) (fun _=>r.permit) (dU l)
theorem Ui {l:List aY} {k:Nat} {r:aY} (h:l[k]?=some r):dU (l.drop k)=bH (outs (yt r)) (fun _=>r.permit) (dU (l.drop (k+1))):=by
 obtain⟨hk,e⟩:=List.getElem?_eq_some_iff.1 h
 rw[List.drop_eq_getElem_cons hk,e];rfl
theorem lu (A:Option Addr) (n c:Nat) (W:World):Calls Tryz.prog 138 #[.slice A n c] W fun e W'=>e= .returned (.int .i64 (if 8<n then 2 else 0))∧W=W':=by
 by_cases h:8<n
 ·have h8:decide ((8:Int)<(n:Int))=true:=by simp;omega
  rw[if_pos h]
  go_enter Tryz.func138,Tryz.ntmps138
  go_wp2
  go_ret
  exact⟨rfl,rfl⟩
 ·have h8:decide ((8:Int)<(n:Int))=false:=by simp;omega
  rw[if_neg h]
  go_enter Tryz.func138,Tryz.ntmps138
  go_wp2
  go_ret
  exact⟨rfl,rfl⟩
theorem L9 {w:World} {B g nb kb ib cap:Nat} {A:St} {K T:bC→Option Value} (h:aN w B g nb kb ib cap A K T) (hA:A.full=false) (hv:14≤A.vars) (l:List aY) (a:Option Addr) (n c:Nat) (hn:n≤8)
  (hlen:l.length=n) (hl:∀w',dX (Fp g nb kb ib) w w'→fB w' w'.heap.size a n l) (P:ak.Fn→Prop) (hR:∀r∈l,∀G,lX (yt r) G→P G) (hS:∀k G,kS (dU (l.drop k)) G→P G):
  Calls Tryz.prog 144 #[.pointer (some ⟨g,0,none⟩),.slice a n c] w (BP w B g nb kb ib A (dU l) P):=by
 have H:=hide h
 have HV:=hide hv
 have HL:=hide hl
 have HR:=hide hR
 have HS:=hide hS
 have HB0:=hide (BS.refl h hA P)
 have HZ0:=hide (dM.zero h.inv)
 have hn8:¬ 8<n:=by omega
 clear h hA hv hl hR hS
 go_enter Tryz.func144,Tryz.ntmps144
 go_wp2_with fail
 refine(lu _ _ _ _).mono ?_
 rintro e w1 ⟨rfl,rfl⟩
 rw[if_neg hn8]
 go_wp2
 go_loopw [7,8] (fun u i wr=>∃(k r dw cap2:Nat) (A2:St) (K2 T2:bC→Option Value),k≤n∧i= .int .i64 ((k:Int) - 1)∧u= .int .i64 r∧Hid (BS w B g nb kb ib A P wr dw cap2 A2 K2 T2)∧Hid (dM A2 r (dU (l.drop k)))) (fun _ i _=>(intOf i+1).toNat)
 case atStart=>exact⟨n,0,nb,cap,A,K,T,Nat.le_refl _,rfl,rfl,HB0,hide (by rw[List.drop_of_length_le (by omega)];exact HZ0.out)⟩
 case round=>
  clear HB0 HZ0
  obtain⟨k,r,dw,cap2,A2,K2,T2,hk,rfl,rfl,HP,HF⟩:=hrel
  by_cases hlt:0<k
  ·obtain⟨j,rfl⟩:∃j,k=j+1:=⟨k - 1,by omega⟩
   obtain⟨x,hx⟩:∃x,l[j]?=some x:=⟨_,List.getElem?_eq_getElem (by omega)⟩
   have hra:=HL.out wr HP.out.fm
   obtain⟨b,o,rfl,mH,_⟩:=hra.2.2 (by omega)
   obtain⟨q0,q1,q2,q3,q4⟩:=(hra.get hx).2
   have HX:=hide hx
   obtain⟨hs,hd,hp,hq⟩:=hra.2.1 x (List.mem_of_getElem? hx)
   have HE:=hide (Ui hx)
   have fF:=hide ((zY HP.out.ar HP.out.nf (by rw[HP.out.ext.vars];exact HV.out) x.m.src x.m.dst x.m.ah x.m.aj hs hd hp hq))
   have HPX:=hide (HR.out x (List.mem_of_getElem? hx))
   clear hx hs hd hp hq hra
   obtain⟨xp,xs,xd,xsp,xdp⟩:=x
   have ej:((j+1:Nat):Int) - 1=(j:Int):=by omega
   rw[ej]
   clear ej
   go_wp2_with fail
   refine fF.out.mono ?_
   rintro e wb hbp
   obtain⟨x9,vI,A3,K3,T3,hst,hx3,hres⟩:=HP.out.step H.out (hbp.mono HPX.out)
   have AP:=hide hst
   have l9:=hide (HF.out.ext HP.out.inv hx3)
   clear hbp hst hx3 fF HP HF HPX
   have hc0:=((HL.out wb AP.out.fm).get HX.out).2.1
   clear q0 q1 q2 q3 q4
   rcases hres with⟨f,rfl,iI⟩ | ⟨rfl,hfull⟩
   case inr=>
    have qY:=hide (AP.out.out (F:=dU l) (.inr ⟨rfl,hfull⟩))
    clear hfull
    go_wp2
    go_ret2
    exact qY.out
   have HI:=hide iI
   clear iI
   cases xp
   ·have HC:Hid (Calls Tryz.prog 184 #[.pointer (some ⟨g,0,none⟩),.int .i64 f,.int .i64 0,.int .i64 r] wb (BP wb B g x9 kb ib A3 (bH (outs (yt ⟨false,xs,xd,xsp,xdp⟩)) (fun _=>false) (dU (l.drop (j+1)))) P)):=hide (Aa AP.out.ar AP.out.nf HI.out (dM.zero AP.out.inv) l9.out (fun G hG=>HS.out j G (HE.out.symm▸hG)))
    go_wp2_with fail
    refine HC.out.mono ?_
    rintro e wc hbp
    obtain⟨Df,cap4,A4,K4,T4,hst,hx4,hres⟩:=AP.out.step H.out hbp
    have Uj:=hide hst
    clear hbp hst hx4 HC AP l9 HI hc0
    rcases hres with⟨q,rfl,iI⟩ | ⟨rfl,hfull⟩
    case inr=>
     have qY:=hide (Uj.out.out (F:=dU l) (.inr ⟨rfl,hfull⟩))
     clear hfull
     go_wp2
     go_ret2
     exact qY.out
    have HI4:=hide iI
    clear iI
    go_wp2
    go_roundw
    case rel=>exact⟨j,q,Df,cap4,A4,K4,T4,by omega,rfl,rfl,Uj,hide (HE.out.symm▸HI4.out)⟩
    case measure=>simp[intOf]
   ·have HC:Hid (Calls Tryz.prog 184 #[.pointer (some ⟨g,0,none⟩),.int .i64 f,.int .i64 1,.int .i64 r] wb (BP wb B g x9 kb ib A3 (bH (outs (yt ⟨true,xs,xd,xsp,xdp⟩)) (fun _=>true) (dU (l.drop (j+1)))) P)):=hide (Aa AP.out.ar AP.out.nf HI.out (dM.one AP.out.inv) l9.out (fun G hG=>HS.out j G (HE.out.symm▸hG)))
    go_wp2_with fail
    refine HC.out.mono ?_
    rintro e wc hbp
    obtain⟨Df,cap4,A4,K4,T4,hst,hx4,hres⟩:=AP.out.step H.out hbp
    have Uj:=hide hst
    clear hbp hst hx4 HC AP l9 HI hc0
    rcases hres with⟨q,rfl,iI⟩ | ⟨rfl,hfull⟩
    case inr=>
     have qY:=hide (Uj.out.out (F:=dU l) (.inr ⟨rfl,hfull⟩))
     clear hfull
     go_wp2
     go_ret2
     exact qY.out
    have HI4:=hide iI
    clear iI
    go_wp2
    go_roundw
    case rel=>exact⟨j,q,Df,cap4,A4,K4,T4,by omega,rfl,rfl,Uj,hide (HE.out.symm▸HI4.out)⟩
    case measure=>simp[intOf]
  ·have hk0:k=0:=by omega
   subst hk0
   have qY:=hide (HP.out.out (F:=dU l) (.inl ⟨r,rfl,HF.out⟩))
   go_wp2
   go_ret2
   exact qY.out
theorem IW {w:World} {B g nb kb ib cap:Nat} {A:St} {K T:bC→Option Value} (h:aN w B g nb kb ib cap A K T) (hA:A.full=false) (hv:14≤A.vars) (l:List aY) (a:Option Addr) (n c:Nat) (hn:n≤8)
  (hl:fB w B a n l) (P:ak.Fn→Prop) (hR:∀r∈l,∀G,lX (yt r) G→P G) (hS:∀k G,kS (dU (l.drop k)) G→P G):
  Calls Tryz.prog 144 #[.pointer (some ⟨g,0,none⟩),.slice a n c] w (BP w B g nb kb ib A (dU l) P):=
 L9 h hA hv l a n c hn hl.1 (fun w' hf=>by
  have hb:=h.DC hf
  have hs:=hf.size
  obtain⟨l1,_,_,_,_⟩:=h.pO
  exact hl.below hb (by have:=h.lo.1;omega)) P hR hS
theorem fA (n m:Int) (W:World) (B:Bool) (h:(decide (0≤n) && decide (n<m))=B):Calls Tryz.prog 116 #[.int .i64 n,.int .i64 m] W fun e W'=>e= .returned (.bool B)∧W=W':=by
 cases h1:decide (0≤n)
 ·have e1:¬ 0≤n:=by simpa using h1
  have HF:=hide (show false=B by rw[← h,h1];rfl)
  clear h
  go_enter Tryz.func116,Tryz.ntmps116
  go_wp2
  go_ret
  exact⟨gK HF.out,rfl⟩
 ·have HF:=hide (show decide (n<m)=B by rw[← h,h1];rfl)
  clear h
  go_enter Tryz.func116,Tryz.ntmps116
  go_wp2
  go_ret
  exact⟨gK HF.out,rfl⟩
theorem Ld (w:World) (vars most:Int) (hb:most<2∨40000<most):
  Calls Tryz.prog 55 #[.int .i64 14,.int .i64 most] w fun e W'=>e= .returned (.tuple #[.pointer none,.int .i64 1])∧RowKit.Below w.heap.size w W':=by
 have hmm:=@run_makeMap Tryz.prog
 rcases hb with h | h
 all_goals
  go_enter Tryz.func55,Tryz.ntmps55
  go_wp2
  go_ret2
  exact⟨rfl,RowKit.Below.refl _ _⟩
theorem nE {w w':World} {base e s n:Nat} {v:Value} {xs:List Value} (h:w.ownsRow base e s v n xs) (hb:∀q,v.ownBlock=some q→w'.heap[q]?=w.heap[q]?):w'.ownsRow base e s v n xs:=by
 obtain⟨h1,h2⟩:=h
 refine⟨h1,?_⟩
 rcases h2 with h2 | ⟨g',cap',cur,hv,hb',hh,r⟩
 ·exact .inl h2
 ·subst hv
  exact .inr ⟨_,_,cur,rfl,hb',(hb g' rfl).trans hh,r⟩
theorem Tryz.infoInt:(Tryz.prog.info? 3).map (fun i=>(i.zero,i.size,i.bytes))=some (some (.int .i64 0),1,8):=by kernel_rfl
theorem Gb (l:List Int) (b o n c:Nat) (x:Int) (W:World) (hn:n≤9223372036854775807) (hl:dz W W.heap.size (some ⟨b,o,none⟩) n l) (h0:0<n):
  Calls Tryz.prog 33 #[.slice (some ⟨b,o,none⟩) n c,.int .i64 x] W fun e W'=>e= .returned (.int .i64 (ni (fun y=>x ==y) l))∧RowKit.Below W.heap.size W W':=by
 have HL:=hide hl
 clear hl
 go_enter Tryz.func33,Tryz.ntmps33
 go_wp2
 go_loopw [8] (fun i wr=>∃k:Nat,k≤n∧i= .int .i64 k∧RowKit.Below W.heap.size W wr∧Hid (∀j y,j<k→l[j]?=some y→(x ==y)=false)) (fun i _=>n - (intOf i).toNat)
 case atStart=>exact⟨0,Nat.zero_le _,rfl,RowKit.Below.refl _ _,hide (fun j r h=>absurd h (by omega))⟩
 case round=>
  obtain⟨k,hk,rfl,hb,HN⟩:=hrel
  have HB:=hide hb
  by_cases hlt:k<n
  ·obtain⟨y,hy⟩:∃r,l[k]?=some r:=⟨_,List.getElem?_eq_getElem (by have:=HL.out.1;omega)⟩
   obtain⟨b',o',e,mH,hg⟩:=HL.out.2.2 (by omega)
   cases e
   have q0:=(hb.cell (p:=⟨b,o+k,none⟩) mH).trans (hg k y hy)
   have HY:=hide hy
   clear hb hg hy
   cases hxy:(x ==y)
   ·go_wp2
    go_roundw
    case rel=>exact⟨k+1,by omega,by go_num,HB.out,hide (fun j z hj hz=>by
     rcases(by omega:j<k∨j=k)with h | rfl
     ·exact HN.out j z h hz
     ·have e:=HY.out;rw[e]at hz;cases hz;exact hxy)⟩
    case measure=>simp[intOf];omega
   ·have HF:=hide (vU (p:=fun y=>x ==y) HY.out hxy HN.out)
    go_wp2
    go_ret
    exact⟨gH HF.out.symm,HB.out⟩
  ·have HF:=hide (xM (p:=fun y=>x ==y) (l:=l) (fun j r hj hr=>HN.out j r (by have:=HL.out.1;omega) hr))
   go_wp2
   go_ret
   exact⟨gH HF.out.symm,HB.out⟩
theorem Mc (l:List Int) (A:Option Addr) (n c:Nat) (x:Int) (W:World) (hn:n≤9223372036854775807) (hl:dz W W.heap.size A n l) (hx:x∈l):
  Calls Tryz.prog 85 #[.slice A n c,.int .i64 x] W fun e W'=>e= .returned (.bool true)∧RowKit.Below W.heap.size W W':=by
 have h0:0<n:=by have:=List.length_pos_of_mem hx;have:=hl.1;omega
 obtain⟨b,o,rfl,_,_⟩:=hl.2.2 h0
 have HC:=hide (Gb l b o n c x W hn hl h0)
 obtain⟨k,hk⟩:∃k:Nat,ni (fun y=>x ==y) l=k:=by
  rcases vV (fun y=>x ==y) l with⟨k,r,hk,_⟩ | ⟨_,hno⟩
  ·exact⟨k,hk⟩
  ·have:=hno x hx;simp at this
 rw[hk]at HC
 clear hl hx hk
 go_enter Tryz.func85,Tryz.ntmps85
 go_wp2_with fail
 refine HC.out.mono ?_
 rintro e w1 ⟨rfl,hb⟩
 have HB:=hide hb
 clear hb
 go_wp2
 go_ret
 exact⟨rfl,HB.out⟩
end Go.Proofs.YtlhmdcgckocidaaGreat
namespace Go.Proofs.YtlhmdcgckocidaaGreat
open Go.RowKit
theorem own_below {w w':World} {base e s n:Nat} {v:Value} {xs:List Value} (h:w.ownsRow base e s v n xs) (hb:RowKit.Below w.heap.size w w'):w'.ownsRow base e s v n xs:=
 nE h (fun q hq=>hb.block q (h.lt q hq).2)
theorem Al {B:Nat} {w w':World} {row:Option Nat} (hb:RowKit.Below B w w') (hB:B≤w.heap.size) {w'':World} (hg:w'.grownBy w'' row) (hr:∀k,row=some k→B≤k):RowKit.Below B w w'':=
 hb.grown hg (by have:=hb.size;omega) hr
open ak Go.Maps
def sU (x:gP):Nat→Nat
 |0=>0
 |n+1=>sU x n*2+(x n).toNat
theorem VK (x:gP):∀n,sU x n<2 ^ n:=by
 intro n
 induction n with
 |zero=>simp[sU]
 |succ n ih=>
  have:(x n).toNat ≤1:=by cases x n<;>simp
  simp only[sU,Nat.pow_succ]
  omega
theorem Ta (x:gP):∀(n u:Nat),u<n→(sU x n).testBit (n - 1 - u)=x u:=by
 intro n
 induction n with
 |zero=>intro u hu;omega
 |succ n ih=>
  intro u hu
  have hb:(x n).toNat ≤1:=by cases x n<;>simp
  rcases Nat.lt_or_ge u n with h | h
  ·have e:n+1 - 1 - u=(n - 1 - u)+1:=by omega
   rw[e,Nat.testBit_succ]
   have:sU x (n+1) / 2=sU x n:=by simp only[sU];omega
   rw[this]
   exact ih u h
  ·obtain rfl:u=n:=by omega
   have e:u+1 - 1 - u=0:=by omega
   rw[e,Nat.testBit_zero,Bool.eq_iff_iff,decide_eq_true_eq]
   simp only[sU]
   cases x u<;>simp<;>omega
end Go.Proofs.YtlhmdcgckocidaaGreat
namespace Go.Proofs.YtlhmdcgckocidaaGreat
open Go.RowKit
def o8 (b:UInt8):Bool:=(decide (97≤b.toNat) && decide (b.toNat≤122)) || (decide (48≤b.toNat) && decide (b.toNat≤57))
def lD (s:ByteArray):Bool:=s.data.toList.all o8 && decide (1≤s.size) && decide (s.size≤8)
def jl (addr:Int):List Int→List Int→Bool
 |_,[]=>true
 |pre,b::t=>decide (0≤b) && decide (b<16) && (b != addr) && !pre.contains b && jl addr (pre++[b]) t
def gu (d:Dev):Bool:=jl d.addr [] d.backs && ((decide (0<d.backs.length))==(d.kind ==5))
def jB (k:Int):Bool:=(k ==1) || (k ==4) || (k ==5)
def dG (d:Dev):Int:=
 if decide (d.kind<1) || decide (5<d.kind)then 1
 else if(jB d.kind && !(decide (0≤d.addr) && decide (d.addr<16))) || (!jB d.kind && (d.addr != 0)) || ((d.pool != 0) != (d.kind ==4))then 1
 else if decide (3<d.backs.length)then 2
 else if !gu d then 1
 else if(decide (0<d.rules.length) && (d.kind != 2) && (d.kind != 3)) || (decide (0<d.routes.length) && (d.kind != 2))then 1
 else if decide (8<d.rules.length)then 2
 else gT d.routes
theorem Md {addr:Int} {l:List Int} {k:Nat} {b:Int} (h:l[k]?=some b):jl addr (l.take k) (l.drop k)=(decide (0≤b) && decide (b<16) && (b != addr) && !(l.take k).contains b && jl addr (l.take (k+1)) (l.drop (k+1))):=by
 obtain⟨hk,e⟩:=List.getElem?_eq_some_iff.1 h
 rw[List.drop_eq_getElem_cons hk,e,List.take_succ_eq_append_getElem hk,e];rfl
theorem Uk {s:ByteArray} {b:UInt8} (hm:b∈s.data.toList) (h:o8 b=false):lD s=false:=by
 have:s.data.toList.all o8=false:=by
  rw[List.all_eq_false]
  exact⟨b,hm,by simp[h]⟩
 simp[lD,this]
theorem Ul {s:ByteArray} {k:Nat} (hk:s.size≤k) (h:∀b∈s.data.toList.take k,o8 b=true):lD s=(decide (1≤s.size) && decide (s.size≤8)):=by
 have:s.data.toList.all o8=true:=by
  rw[List.all_eq_true]
  rw[List.take_of_length_le (by simpa using hk)]at h
  exact h
 simp[lD,this]
theorem QM (s:ByteArray) (W:World) (hs:s.size≤maxLen):Calls Tryz.prog 90 #[.string s] W fun e W'=>e= .returned (.bool (lD s))∧W=W':=by
 unfold maxLen at hs
 go_enter Tryz.func90,Tryz.ntmps90
 go_wp2
 go_loop [7] (fun i=>∃k:Nat,k≤s.size∧i= .int .i64 k∧Hid (∀b∈s.data.toList.take k,o8 b=true)) (fun i=>s.size - (intOf i).toNat)
 case atStart=>exact⟨0,Nat.zero_le _,rfl,hide (fun b hb=>by simp at hb)⟩
 case round=>
  obtain⟨k,hk,rfl,HN⟩:=hrel
  by_cases hlt:k<s.size
  ·have HT:=hide (show s.data.toList.take (k+1)=s.data.toList.take k++[s[k]]from by rw[List.take_succ_eq_append_getElem (by simpa using hlt)];rfl)
   have HM:=hide (show s[k]∈s.data.toList from List.getElem_mem (by simpa using hlt))
   go_wp2
   all_goals first
    |(go_round
      case rel=>exact⟨k+1,by omega,by go_num,hide (by
      intro b hb
      rw[HT.out,List.mem_append,List.mem_singleton]at hb
      rcases hb with hb | rfl
      ·exact HN.out b hb
      ·simp[o8];omega)⟩
      case measure=>simp[intOf];omega)
    |(go_ret
      exact⟨gK (Uk HM.out (by simp[o8];omega)).symm,rfl⟩)
  ·have HE:=hide (Ul (by omega) HN.out)
   cases h1:decide (1≤s.size)
   ·have h1':¬ 1≤s.size:=by simpa using h1
    go_wp2
    go_ret
    exact⟨gK (by rw[HE.out,h1];rfl),rfl⟩
   ·have h1':1≤s.size:=by simpa using h1
    by_cases h2:s.size≤8
    ·have HF:=hide (show lD s=true from by rw[HE.out,h1];simpa using h2)
     clear h1
     go_wp2
     go_ret
     exact⟨gK (by rw[HF.out];simp<;>omega),rfl⟩
    ·have HF:=hide (show lD s=false from by rw[HE.out,h1];simpa using h2)
     clear h1
     go_wp2
     go_ret
     exact⟨gK (by rw[HF.out];simp<;>omega),rfl⟩
theorem Um (A:Option Addr) (c:Nat) (x:Int) (W:World):Calls Tryz.prog 33 #[.slice A 0 c,.int .i64 x] W fun e W'=>e= .returned (.int .i64 (-1))∧W=W':=by
 go_enter Tryz.func33,Tryz.ntmps33
 go_wp2
 refine wp_loop_rounds 1 ?_
 rw[rounds_succ]
 go_wp2
 go_ret
 exact⟨rfl,rfl⟩
theorem Nl (l:List Int) (A:Option Addr) (n c:Nat) (x:Int) (W:World) (hn:n≤9223372036854775807) (hl:dz W W.heap.size A n l):
  Calls Tryz.prog 85 #[.slice A n c,.int .i64 x] W fun e W'=>e= .returned (.bool (l.contains x))∧RowKit.Below W.heap.size W W':=by
 by_cases hx:x∈l
 ·have:l.contains x=true:=by simpa using hx
  rw[this]
  exact Mc l A n c x W hn hl hx
 ·have hc:l.contains x=false:=by simpa using hx
  rw[hc]
  rcases Nat.eq_zero_or_pos n with rfl | h0
  ·go_enter Tryz.func85,Tryz.ntmps85
   go_wp2_with fail
   refine(Um _ _ _ _).mono ?_
   rintro e w1 ⟨rfl,rfl⟩
   go_wp2
   go_ret
   exact⟨rfl,RowKit.Below.refl _ _⟩
  ·obtain⟨b,o,rfl,_,_⟩:=hl.2.2 h0
   have HC:=hide (Gb l b o n c x W hn hl h0)
   have:ni (fun y=>x ==y) l= -1:=by
    rcases vV (fun y=>x ==y) l with⟨k,r,hk,_,hr,hy,_⟩ | ⟨hk,_⟩
    ·have e:x=r:=by simpa using hy
     exact absurd (e▸List.mem_of_getElem? hr) hx
    ·exact hk
   rw[this]at HC
   clear hl hx hc
   go_enter Tryz.func85,Tryz.ntmps85
   go_wp2_with fail
   refine HC.out.mono ?_
   rintro e w1 ⟨rfl,hb⟩
   have HB:=hide hb
   clear hb
   go_wp2
   go_ret
   exact⟨rfl,HB.out⟩
theorem dz.take {w:World} {B n:Nat} {A:Option Addr} {l:List Int} (h:dz w B A n l) {k:Nat} (hk:k≤n):dz w B A k (l.take k):=
 ⟨by rw[List.length_take,h.1];omega,fun x hx=>h.2.1 x (List.mem_of_mem_take hx),fun h0=>by
  obtain⟨b,o,e,hb,hg⟩:=h.2.2 (by omega)
  refine⟨b,o,e,hb,fun j x hj=>hg j x ?_⟩
  have hjk:j<k:=by have:=(List.getElem?_eq_some_iff.1 hj).1;simp at this;omega
  rwa [List.getElem?_take_of_lt hjk]at hj⟩
def o9 (w:World) (N:Nat) (d:aA):Prop:=
 w.cell? ⟨N,0,none⟩=some (.string d.name)∧w.cell? ⟨N,1,none⟩=some (.int .i64 d.kind)∧w.cell? ⟨N,2,none⟩=some (.int .i64 d.addr)∧w.cell? ⟨N,3,none⟩=some (.int .u8 d.pool)∧
 w.cell? ⟨N,4,none⟩=some (.slice d.bA d.bn d.bc)∧w.cell? ⟨N,5,none⟩=some (.slice d.rA d.rn d.rc)∧w.cell? ⟨N,6,none⟩=some (.slice d.tA d.tn d.tc)
theorem o9.below {w w':World} {B N:Nat} {d:aA} (h:o9 w N d) (hB:RowKit.Below B w w') (hN:N<B):o9 w' N d:=by
 have e:∀o,w'.cell? ⟨N,o,none⟩=w.cell? ⟨N,o,none⟩:=fun o=>hB.cell (p:=⟨N,o,none⟩) hN
 unfold o9
 rw[e,e,e,e,e,e,e]
 exact h
theorem o9.new (w:World) (d:aA) (t:TypeId):o9 (w.alloc (.cells #[.string d.name,.int .i64 d.kind,.int .i64 d.addr,.int .u8 d.pool,.slice d.bA d.bn d.bc,.slice d.rA d.rn d.rc,.slice d.tA d.tn d.tc] t)) w.heap.size d:=by
 have hbx:=heap_alloc_new w (.cells #[.string d.name,.int .i64 d.kind,.int .i64 d.addr,.int .u8 d.pool,.slice d.bA d.bn d.bc,.slice d.rA d.rn d.rc,.slice d.tA d.tn d.tc] t)
 refine⟨?_,?_,?_,?_,?_,?_,?_⟩<;>(rw[cell_of_row _ _ _ _ _ _ hbx];rfl)
theorem QN (d:aA) (W:World) (hd:fV W W.heap.size d):
  Calls Tryz.prog 137 #[d.val] W fun e W'=>e= .returned (.bool (gu d.dev))∧RowKit.Below W.heap.size W W':=by
 obtain⟨W0,hW0⟩:∃W0,W0=W.alloc (.cells #[.string d.name,.int .i64 d.kind,.int .i64 d.addr,.int .u8 d.pool,.slice d.bA d.bn d.bc,.slice d.rA d.rn d.rc,.slice d.tA d.tn d.tc] 86):=⟨_,rfl⟩
 have HB0:=hide (show RowKit.Below W.heap.size W W0 from by rw[hW0];exact(RowKit.Below.refl _ _).alloc (Nat.le_refl _) _)
 have nJ:=hide (show W0.heap.size=W.heap.size+1 from by rw[hW0];simp)
 have HQ:=hide (fun(w':World) (hb:RowKit.Below W0.heap.size W0 w')=>show o9 w' W.heap.size d∧dz w' w'.heap.size d.bA d.bn d.bs∧RowKit.Below W.heap.size W w' from by
  have h1:=HB0.out.trans (hb.mono (by rw[nJ.out];omega))
  exact⟨(show o9 W0 W.heap.size d from by rw[hW0];exact o9.new W d _).below hb (by rw[nJ.out];omega),hd.bs.below h1 h1.size,h1⟩)
 have HLEN:=hide (show d.bs.length=d.bn from hd.bs.1)
 have hbc:d.bn≤d.bc:=hd.cb.1
 have xO:d.bc≤maxLen:=hd.cb.2
 have xO:d.bc≤9223372036854775807:=by unfold maxLen at xO;omega
 have HI:=hide hd.bs.2.1
 have HD:=hide (show gu d.dev=(jl d.addr [] d.bs && ((decide (0<d.bs.length))==(d.kind ==5)))from rfl)
 generalize d.dev=dv at*
 clear hd
 obtain⟨nm,kd,ad,pl,bA,bn,bc,bs,rA,rn,rc,rs,tA,tn,tc,ts⟩:=d
 simp only[aA.val]at*
 obtain⟨x0,x1,x2,x3,x4,x5,x6⟩:=(HQ.out W0 (RowKit.Below.refl _ _)).1
 go_enter Tryz.func137,Tryz.ntmps137
 go_wp2
 rw[← hW0]
 go_loopw [8] (fun i wr=>∃k:Nat,k≤bn∧i= .int .i64 k∧Hid (jl ad [] bs=jl ad (bs.take k) (bs.drop k))∧Hid (RowKit.Below W0.heap.size W0 wr)) (fun i _=>bn - (intOf i).toNat)
 case atStart=>exact⟨0,Nat.zero_le _,rfl,hide rfl,hide (RowKit.Below.refl _ _)⟩
 case round=>
  clear x0 x1 x2 x3 x4 x5 x6
  obtain⟨k,hk,rfl,HC,HB⟩:=hrel
  obtain⟨Ph,hints,hbW⟩:=HQ.out wr HB.out
  obtain⟨x0,x1,x2,x3,x4,x5,x6⟩:=Ph
  have fF:=hide hbW
  by_cases hlt:k<bn
  ·obtain⟨b,hb⟩:∃r,bs[k]?=some r:=⟨_,List.getElem?_eq_getElem (by have:=HLEN.out;omega)⟩
   have HS:=hide (Md (addr:=ad) hb)
   obtain⟨hb1,hb2⟩:=HI.out b (List.mem_of_getElem? hb)
   obtain⟨bb,oo,rfl,mH,hg⟩:=hints.2.2 (by omega)
   have q0:=hg k b hb
   have HIk:=hide (hints.take (k:=k) (by omega))
   have g1:(k:Int)≤(bc:Int):=by omega
   clear hb hg hints hbW
   cases e1:(decide (0≤b) && decide (b<16))
   ·go_wp2_with fail
    refine(bK b 16 _ false e1).mono ?_
    rintro e w1 ⟨rfl,rfl⟩
    have HF:=hide (show gu dv=false from by rw[HD.out,HC.out,HS.out,e1];rfl)
    go_wp2
    go_ret
    exact⟨gK HF.out.symm,fF.out⟩
   have HE1:=hide e1
   go_wp2_with fail
   refine(bK b 16 _ true e1).mono ?_
   rintro e w1 ⟨rfl,rfl⟩
   clear e1
   cases e2:(b ==ad)
   case true=>
    have HF:=hide (show gu dv=false from by rw[HD.out,HC.out,HS.out];simp[show b=ad by simpa using e2])
    go_wp2
    go_ret
    exact⟨gK HF.out.symm,fF.out⟩
   have HE2:=hide (show(b != ad)=true from by simp[bne,e2])
   go_wp2_with fail
   refine(Nl (bs.take k) (some ⟨bb,oo,none⟩) k bc b wr (by omega) HIk.out).mono ?_
   rintro e w1 ⟨rfl,hb⟩
   have HB1:=hide (HB.out.trans (hb.mono HB.out.size))
   have aft:=hide (fF.out.trans (hb.mono fF.out.size))
   clear hb
   cases e3:(bs.take k).contains b
   case true=>
    have HF:=hide (show gu dv=false from by rw[HD.out,HC.out,HS.out,e3];simp)
    go_wp2
    go_ret
    exact⟨gK HF.out.symm,aft.out⟩
   have HN:=hide (show jl ad [] bs=jl ad (bs.take (k+1)) (bs.drop (k+1))from by rw[HC.out,HS.out,HE1.out,HE2.out,e3];simp)
   go_wp2
   go_roundw
   case rel=>exact⟨k+1,by omega,by go_num,HN,HB1⟩
   case measure=>simp[intOf];omega
  ·have hk':k=bn:=by omega
   have HN:=hide (show gu dv=((decide (0<bn))==(kd ==5))from by
    rw[HD.out,HC.out,List.drop_of_length_le (by have:=HLEN.out;omega),HLEN.out];rfl)
   cases e1:decide (0<bn)
   ·have Ap:¬ 0<bn:=by simpa using e1
    obtain rfl:bn=0:=by omega
    cases e2:(kd ==5)
    all_goals
     go_wp2
     go_ret
     exact⟨gK (by rw[HN.out,e2];rfl),fF.out⟩
   ·have Ap:0<bn:=by simpa using e1
    have HE:=hide e1
    clear e1
    cases e2:(kd ==5)
    all_goals
     go_wp2
     go_ret
     exact⟨gK (by rw[HN.out,e2,HE.out];rfl),fF.out⟩
end Go.Proofs.YtlhmdcgckocidaaGreat
