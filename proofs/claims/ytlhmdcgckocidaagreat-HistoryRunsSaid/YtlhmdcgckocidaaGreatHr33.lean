/- A part of the proof: Rd8, Rd9, RgF, Rd10, Rd11, Rd12. -/
import Derived.Test.YtlhmdcgckocidaaGreatHr32
set_option linter.unusedVariables false
set_option linter.unusedSimpArgs false
set_option maxRecDepth 100000
set_option maxHeartbeats 8000000
namespace Go.Proofs.YtlhmdcgckocidaaGreat
open ak Go.Maps Go.RowKit
structure RN (w0:World) (B g:Nat) (A0:St) (bl:List Nat) (mk e0 rd:Nat) (n:aH) (eG:Value) (nm:Nat) (P:ak.Fn→Prop) (wr:World) (A:St) (e:Nat) (Mn:dB→Option Value) (Sn:Pl→ak.Fn) (more:List Nat):Prop where
 rd:RD wr B g A (more++bl) mk e rd n eG nm Mn Sn
 ext:Ext A0 A
 nw:pV P A0 A
 kp:KP B bl w0 wr
 e0:e=0→e0=0
section
variable {w0 wr w':World} {B g mk e0 e rd nm:Nat} {A0 A:St} {bl more:List Nat} {n:aH} {eG:Value} {Mn:dB→Option Value} {Sn:Pl→ak.Fn} {P:ak.Fn→Prop}
theorem RN.start (h:RD wr B g A bl mk e rd n eG nm Mn Sn) (P:ak.Fn→Prop):RN wr B g A bl mk e rd n eG nm P wr A e Mn Sn []:=⟨h,Ext.refl h.inv,pV.refl _ _,KP.refl _ _ _,id⟩
theorem RN.below (h:RN w0 B g A0 bl mk e0 rd n eG nm P wr A e Mn Sn more) (hb:RowKit.Below wr.heap.size wr w'):RN w0 B g A0 bl mk e0 rd n eG nm P w' A e Mn Sn more:=
 ⟨h.rd.below hb,h.ext,h.nw,h.kp.trans ((h.rd.kp hb).mono (fun j hj=>by simp[hj])),h.e0⟩
theorem RN.alloc (h:RN w0 B g A0 bl mk e0 rd n eG nm P wr A e Mn Sn more) (o:Obj):RN w0 B g A0 bl mk e0 rd n eG nm P (wr.alloc o) A e Mn Sn (wr.heap.size::more):=
 have q:=h.below (below_alloc2 wr o)
 ⟨h.rd.alloc o,h.ext,h.nw,q.kp,h.e0⟩
theorem RN.less {more':List Nat} (h:RN w0 B g A0 bl mk e0 rd n eG nm P wr A e Mn Sn more) (hs:∀j∈more',j∈more):RN w0 B g A0 bl mk e0 rd n eG nm P wr A e Mn Sn more':=
 ⟨h.rd.less (fun j hj=>by
  rcases List.mem_append.1 hj with a | a
  ·exact List.mem_append_left _ (hs j a)
  ·exact List.mem_append_right _ a),h.ext,h.nw,h.kp,h.e0⟩
theorem RN.call (h:RN w0 B g A0 bl mk e0 rd n eG nm P wr A e Mn Sn more) {F:ak.Fn} {en:Ending} (hr:MR wr B g A (rd::nm::(more++bl)) mk e P F en w'):
  ∃(A2:St) (e2 r:Nat),en= .returned (.int .i64 (r:Int))∧RN w0 B g A0 bl mk e0 rd n eG nm P w' A2 e2 Mn Sn more∧Ext A A2∧(e2=0→e=0∧dM A2 r F)∧(∀j∈more,w'.heap[j]?=wr.heap[j]?):=by
 obtain⟨A2,e2,r,h1,h2,h3,h4,h5,h6⟩:=h.rd.step hr
 exact⟨A2,e2,r,h1,⟨h2,h.ext.trans h3,h.nw.trans h4 h.rd.inv h3,h.kp.trans (h5.mono (fun j hj=>by simp[hj])),fun he=>h.e0 (h6 he).1⟩,h3,h6,fun j hj=>h5.same j (by simp[hj])⟩
theorem RN.send (h:RN w0 B g A0 bl mk e0 rd n eG nm P wr A e Mn Sn more) {EW:Pl→ak.Fn} (hr:qo wr B g A (more++bl) mk e rd n eG nm P EW w'):
  ∃(A2:St) (e2:Nat) (jX:dB→Option Value),RN w0 B g A0 bl mk e0 rd n eG nm P w' A2 e2 jX EW more∧Ext A A2∧(e2=0→e=0)∧(∀j∈more,w'.heap[j]?=wr.heap[j]?):=by
 obtain⟨A2,e2,jX,h2,h3,h4,h5,h6⟩:=hr
 exact⟨A2,e2,jX,⟨h2,h.ext.trans h3,h.nw.trans h4 h.rd.inv h3,h.kp.trans (h5.mono (fun j hj=>by simp[hj])),fun he=>h.e0 (h6 he)⟩,h3,h6,fun j hj=>h5.same j (by simp[hj])⟩
theorem RN.out (h:RN w0 B g A0 bl mk e0 rd n eG nm P wr A e Mn Sn more):qo w0 B g A0 bl mk e0 rd n eG nm P Sn wr:=
 ⟨A,e,Mn,h.rd.less (fun j hj=>by simp[hj]),h.ext,h.nw,h.kp,h.e0⟩
end
def Af (ls:List av) (i:Nat) (d:Dev) (Sn:Pl→ak.Fn):Pl→ak.Fn:=if d.kind=1 then fO ls ((i:Int),0) (dx (oU d.addr.toNat)) Sn else Sn
def iL (ds:List Dev) (ls:List av) (Sn:Pl→ak.Fn):Nat→Pl→ak.Fn
 |0=>Sn
 |k+1=>match ds[k]? with
  |some d=>Af ls k d (iL ds ls Sn k)
  |none=>iL ds ls Sn k
theorem sS {ds:List Dev} {ls:List av} {Sn:Pl→ak.Fn} {k:Nat} {d:Dev} (h:ds[k]?=some d):iL ds ls Sn (k+1)=Af ls k d (iL ds ls Sn k):=by
 simp only[iL,h]
structure abj (P:ak.Fn→Prop) (ls:List av) (i:Nat) (a:Nat) (Sn:Pl→ak.Fn):Prop where
 m:pG P (oU a)
 s:mU P ls ((i:Int),0) (dx (oU a)) Sn
def CF (P:ak.Fn→Prop) (ds:List Dev) (ls:List av) (Sn:Pl→ak.Fn):Prop:=∀k d,ds[k]?=some d→d.kind=1→abj P ls k d.addr.toNat (iL ds ls Sn k)
theorem MX (w:World) (B g:Nat) (A:St) (bl:List Nat) (mk e rd:Nat) (n:aH) (eG:Value) (nm:Nat) (Mn:dB→Option Value) (Sn:Pl→ak.Fn) (h:RD w B g A bl mk e rd n eG nm Mn Sn) (hv:A.vars=14) (hn:bf w B n) (hok:∀d∈n.au,pz d) (hdl:n.dn≤10) (hlk:mV n.ls)
  (P:ak.Fn→Prop) (hP:CF P n.au n.ls Sn):
  Calls Tryz.prog 56 #[.pointer (some ⟨rd,0,none⟩)] w fun en w'=>en= .returned (.tuple #[])∧qo w B g A bl mk e rd n eG nm P (iL n.au n.ls Sn n.dn) w':=by
 have je:=hide (RN.start h P)
 have HN:=hide (fun(w':World) (hb:RowKit.Below B w w')=>show bf w' B n from hn.below hb (Nat.le_refl _))
 have HDK:=hide (fun(d:aA) (hd:d∈n.ds)=>hok d.dev (List.mem_map_of_mem hd))
 have dV:=hide hlk
 have HP:=hide hP
 have HV:=hide hv
 have HD:=hide hn
 have afc:=hn.eZ
 have r1:w.cell? ⟨rd,1,none⟩=some (.slice n.dA n.dn n.dc):=h.bx.get 1 _ rfl
 clear h hn hok hlk hP hv
 obtain⟨dA,dn,dc,ds,lA,ln,lc,ls⟩:=n
 simp only[aH.au]at*
 go_enter Tryz.func56,Tryz.ntmps56
 go_wp2_with fail
 clear r1
 go_loopw [10] (fun i wr=>∃(k:Nat) (A2:St) (e2:Nat) (jX:dB→Option Value),k≤dn∧i= .int .i64 (k:Int)∧Hid (RN w B g A bl mk e rd ⟨dA,dn,dc,ds,lA,ln,lc,ls⟩ eG nm P wr A2 e2 jX (iL (ds.map aA.dev) ls Sn k) [])) (fun i _=>dn - (intOf i).toNat)
 case atStart=>exact⟨0,A,e,Mn,Nat.zero_le _,rfl,je⟩
 case round=>
  clear je
  obtain⟨k,A2,e2,jX,hkn,rfl,HR⟩:=hrel
  by_cases hlt:k<dn
  ·obtain⟨r,hr⟩:∃r,ds[k]?=some r:=⟨_,List.getElem?_eq_getElem (by omega)⟩
   have hdr:(ds.map aA.dev)[k]?=some r.dev:=by rw[List.getElem?_map,hr];rfl
   obtain⟨b,o,rfl,_,_⟩:=HD.out.ds.2 (by show 0<dn;omega)
   have pQ:=HN.out wr HR.out.kp.low
   obtain⟨_,q0,q1,q2,q3,q4,q5,q6⟩:=dF pQ.ds hr
   have fM:=hide (HDK.out r (List.mem_of_getElem? hr))
   have tK:=hide (HP.out k r.dev hdr)
   have FJ:=hide (sS (ls:=ls) (Sn:=Sn) hdr)
   clear hr hdr pQ
   obtain⟨nm',kd,ad,pl,bA,bn,bc,bs,rA,rn,rc,rs,tA,tn,tc,ts⟩:=r
   simp only at q0 q1 q2 q3 q4 q5 q6
   have dY:=hide (below_alloc2 wr (.cells #[.string nm',.int .i64 kd,.int .i64 ad,.int .u8 pl,.slice bA bn bc,.slice rA rn rc,.slice tA tn tc] 86))
   by_cases hk:kd=1
   case neg=>
    have hne:(kd ==1)=false:=by simp[hk]
    have HNR:=hide (show RN w B g A bl mk e rd ⟨some ⟨b,o,none⟩,dn,dc,ds,lA,ln,lc,ls⟩ eG nm P _ A2 e2 jX (iL (ds.map aA.dev) ls Sn (k+1)) []from by
     rw[FJ.out];unfold Af;rw[if_neg (by exact hk)];exact HR.out.below dY.out)
    go_wp2_with fail
    go_roundw
    case rel=>exact⟨k+1,A2,e2,jX,by omega,by go_num,HNR⟩
    case measure=>simp[intOf];omega
   subst hk
   have ha:=fM.out.KU (.inl rfl)
   simp only[aA.dev]at ha
   obtain⟨an,rfl⟩:∃an:Nat,ad=(an:Int):=⟨ad.toNat,by omega⟩
   have ha16:an<16:=by omega
   clear ha
   have HX:=hide (Bx.new wr #[.string nm',.int .i64 1,.int .i64 (an:Int),.int .u8 pl,.slice bA bn bc,.slice rA rn rc,.slice tA tn tc] 86)
   have HR2:=hide (HR.out.alloc (.cells #[.string nm',.int .i64 1,.int .i64 (an:Int),.int .u8 pl,.slice bA bn bc,.slice rA rn rc,.slice tA tn tc] 86))
   clear dY HR
   go_wp2_with fail
   clear q0 q1 q2 q3 q4 q5 q6
   generalize World.alloc wr _=w2 at*
   generalize wr.heap.size=Nd at*
   have HQ:=hide (fun(w':World) (h1:Bx w' rd #[.pointer (some ⟨mk,0,none⟩),.slice (some ⟨b,o,none⟩) dn dc,.slice lA ln lc,eG,.map (some nm)] 122) (h3:Bx w' Nd #[.string nm',.int .i64 1,.int .i64 (an:Int),.int .u8 pl,.slice bA bn bc,.slice rA rn rc,.slice tA tn tc] 86)=>
    show w'.cell? ⟨rd,0,none⟩=some (.pointer (some ⟨mk,0,none⟩))∧w'.cell? ⟨Nd,2,none⟩=some (.int .i64 (an:Int))from⟨h1.get 0 _ rfl,h3.get 2 _ rfl⟩)
   have HR3:=hide (HR2.out.below (RowKit.Below.refl _ _).drew)
   have cu:=hide (HX.out.below (RowKit.Below.refl _ _).drew)
   clear HR2 HX
   refine aI (fun w'=>w'.cell? ⟨rd,0,none⟩=some (.pointer (some ⟨mk,0,none⟩))∧w'.cell? ⟨Nd,2,none⟩=some (.int .i64 (an:Int))) 10 (by kernel_rfl) (HQ.out _ HR3.out.rd.bx cu.out) (fun hS=>?_)
   refine rP 0 hS ?_
   refine rP 1 hS ?_
   refine rP 2 hS ?_
   refine rP 3 hS ?_
   refine rP 4 hS ?_
   refine rL 5 [9,10] rfl hS (by intro w hSw;obtain⟨s0,s1⟩:=hSw;go_simp;try with_reducible rfl) ?_
   refine rP 6 hS ?_
   refine rL 7 [8,9,10] rfl hS (by intro w hSw;obtain⟨s0,s1⟩:=hSw;go_simp;try with_reducible rfl) ?_
   intro inv
   refine rO 8 inv fun K hK=>?_
   go_simp
   clear hS
   refine(DF an _ ha16).mono ?_
   rintro en w4 ⟨rfl,hb⟩
   have HR4:=hide (HR3.out.below hb)
   have dW:=hide (cu.out.below hb)
   clear hb HR3 cu
   have hS:=HQ.out _ HR4.out.rd.bx dW.out
   go_simp
   refine hK.out _ _ (fun _=>HQ.out _ HR4.out.rd.bx dW.out) ?_
   clear hK K hS inv
   intro inv
   try simp only[Act.put,aD,aF,aG]
   have hS:=HQ.out _ HR4.out.rd.bx dW.out
   refine rO 9 inv fun K hK=>?_
   go_simp
   clear hS
   refine(Cy w4 B g A2 (rd::nm::([Nd]++bl)) mk e2 HR4.out.rd.m (oU an) (Oc ha16) P (by rw[HR4.out.ext.vars];exact HV.out) (tK.out rfl).m).mono ?_
   rintro en w5 hr
   obtain⟨A5,e5,r5,rfl,hrf,hx,hF,hsm⟩:=HR4.out.call hr
   have lN:=hide hrf
   have dR:=hide (dW.out.same (hsm Nd (by simp)))
   have HF5:=hide (fun h=>(hF h).2)
   clear hr hrf hx hF hsm HR4 dW
   have hS:=HQ.out _ lN.out.rd.bx dR.out
   go_simp
   refine hK.out _ _ (fun _=>HQ.out _ lN.out.rd.bx dR.out) ?_
   clear hK K hS inv
   intro inv
   try simp only[Act.put,aD,aF,aG]
   have hS:=HQ.out _ lN.out.rd.bx dR.out
   refine rT 10 inv fun K hK=>?_
   go_simp
   clear hS
   refine(jY w5 B g A5 ([Nd]++bl) mk e5 rd _ eG nm jX _ lN.out.rd (HN.out _ lN.out.kp.low).ls dV.out P (k:Int) 0 r5 (dx (oU an)) HF5.out (tK.out rfl).s).mono ?_
   rintro en w6 ⟨rfl,hr⟩
   obtain⟨A6,e6,Mn6,hrf,hx6,he6,PN⟩:=lN.out.send hr
   have iV:=hide (show RN w B g A bl mk e rd ⟨some ⟨b,o,none⟩,dn,dc,ds,lA,ln,lc,ls⟩ eG nm P w6 A6 e6 Mn6 (iL (ds.map aA.dev) ls Sn (k+1)) []from by
    rw[FJ.out];unfold Af;rw[if_pos (by rfl)];exact hrf.less (by simp))
   clear hr hrf hx6 he6 PN lN dR HF5
   go_simp
   refine hK.out _ _ ?_
   clear hK K inv
   intro inv
   try simp only[Act.put,aD,aF,aG]
   refine rD ?_
   clear inv
   go_wp2_with fail
   go_roundw
   case rel=>exact⟨k+1,A6,e6,Mn6,by omega,by go_num,iV⟩
   case measure=>simp[intOf];omega
  ·have pW:=hide (show qo w B g A bl mk e rd ⟨dA,dn,dc,ds,lA,ln,lc,ls⟩ eG nm P (iL (ds.map aA.dev) ls Sn dn) wr from by
    have hk:k=dn:=by omega
    have:=HR.out.out;rw[hk]at this;exact this)
   go_wp2
   go_end0
   exact⟨rfl,pW.out⟩
end Go.Proofs.YtlhmdcgckocidaaGreat
namespace Go.Proofs.YtlhmdcgckocidaaGreat
open Go.Maps Go.RowKit Go.WideElems
def iY (M:dB→Option Value) (left:dB→Bool):dB→Option Value:=fun x=>if left x then none else M x
theorem Gv (M:dB→Option Value):iY M (fun a=>(M a).isSome)=fun _=>none:=by
 funext x
 unfold iY
 cases h:M x<;>simp[h]
theorem IZ {M:dB→Option Value} {left:dB→Bool} {x:dB} {v:Value} (h:M x=some v):iT (iY M left) x v=iY M (fun z=>left z && !decide (z=x)):=by
 funext z
 by_cases e:z=x
 ·subst e
  rw[lJ]
  unfold iY
  simp[h]
 ·rw[jD _ _ e]
  unfold iY
  simp[e]
theorem KV {M:dB→Option Value} {left:dB→Bool} (hi:Ints M) (h:∀x y,eD (x,y)→left (x,y)=false):iY M left=M:=by
 funext ⟨x,y⟩
 unfold iY
 by_cases e:left (x,y)=true
 ·rw[if_pos e]
  cases hM:M (x,y)with
  |none=>rfl
  |some v=>rw[h x y (hi _ v hM).1]at e;cases e
 ·rw[if_neg e]
theorem I4 {M:dB→Option Value} {left:dB→Bool} {x:dB} (h:(iY M left x).isSome =true):(M x).isSome =true:=by
 unfold iY at h
 split at h
 ·cases h
 ·exact h
theorem MZ (W:World) (m:Nat) (M:dB→Option Value) (h:aS Tryz.prog 27 dS eD W m M) (hi:Ints M) (L:List Pl) (hL:L.length<maxLen) (hk:∀x,(M x).isSome =true→x∈L):
  Calls Tryz.prog 57 #[.map (some m)] W fun e W'=>RowKit.Below W.heap.size W W'∧∃nb,W.heap.size≤nb∧e= .returned (.map (some nb))∧aS Tryz.prog 27 dS eD W' nb M:=by
 have H:=hide h
 have HI:=hide hi
 have HK:=hide hk
 have mJ:=hide (aS.made (P:=Tryz.prog) (kt:=27) (key:=dS) (dom:=eD) W)
 have HB0:=hide (below_alloc2 W (.map #[] 0))
 have hml:=h.lt
 have KW:=hide (show W.heap.size≤W.heap.size∧m≠W.heap.size from⟨Nat.le_refl _,by omega⟩)
 clear h hi hk hml
 have hmm:=@run_makeMap Tryz.prog
 go_enter Tryz.func57,Tryz.ntmps57
 go_wp2_with (first | (at_range;refine AA _ rfl _ 120 rfl 3 oW Tryz.underlying120 rfl (H.out.kept (row:=none) (World.grownBy_alloc W _ none) (by simp)) ?_;intro w0 Qi hrg0 hg0 hs0) | go_in)
 clear hmm
 go_frame
 have HS:=hide (show fD Tryz.prog 27 dS eD w0 m (W.alloc (.map #[] 0)).heap.size M (fun a=>(M a).isSome) Qi∧aS Tryz.prog 27 dS eD w0 W.heap.size (iY M (fun a=>(M a).isSome))∧RowKit.Below W.heap.size W w0 from
  ⟨hrg0,by rw[Gv];exact mJ.out.kept (row:=none) hg0 (by simp),HB0.out.trans ⟨hg0.os,hg0.tape,hg0.output,hg0.size,fun i hi=>hg0.block i (Nat.lt_of_lt_of_le hi HB0.out.size) (by simp)⟩⟩)
 have HN:=hide (show W.heap.size<(W.alloc (.map #[] 0)).heap.size from mJ.out.lt)
 clear hrg0 hg0 hs0 mJ HB0
 generalize World.alloc W _=W1 at*
 go_loopw [5] (fun _ wr=>∃left cnt,Hid (fD Tryz.prog 27 dS eD wr m W1.heap.size M left cnt∧aS Tryz.prog 27 dS eD wr W.heap.size (iY M left)∧RowKit.Below W.heap.size W wr)) (fun _ wr=>wr.rangeLeft m W1.heap.size)
 case atStart=>exact⟨_,Qi,HS⟩
 case round=>
  clear HS
  obtain⟨left,cnt,zq⟩:=hrel
  have HCN:=hide zq.out.1.left_eq
  go_wp2_with (first | (at_next;refine BD _ rfl _ rfl oW rfl zq.out.1 ?_ ?_) | go_in)
  ·intro hc0 hl0
   have HL:=hide hl0
   clear hl0 hc0
   go_wp2
   go_ret
   exact⟨zq.out.2.2,_,Nat.le_refl _,rfl,by rw[← KV HI.out (fun x y hd=>HL.out x y hd)];exact zq.out.2.1⟩
  ·rintro x y v w1 cnt1 hk hlk hM hrg1 hlt hg1 hs1 hen
   obtain⟨hd,n,rfl⟩:=HI.out _ _ hM
   simp only[dS]at hen ⊢
   have Bl:=hide hk
   have HM:=hide hM
   have jV:=hide hlt
   have hr:=zq.out.1.lt
   have hN:=HN.out
   have HR1:=hide (show fD Tryz.prog 27 dS eD w1 m W1.heap.size M (fun z=>left z && !decide (z=(x,y))) cnt1∧aS Tryz.prog 27 dS eD w1 W.heap.size (iY M left)∧RowKit.Below W.heap.size W w1 from
    ⟨hrg1,zq.out.2.1.kept hg1 (by simp;omega),zq.out.2.2.trans ⟨hg1.os,hg1.tape,hg1.output,hg1.size,fun i hi=>hg1.block i (Nat.lt_of_lt_of_le hi zq.out.2.2.size) (by simp;omega)⟩⟩)
   clear hk hM hrg1 hlt hs1 hg1 hr hd hN hlk
   have hb2:=below_alloc2 w1 (.cells #[.int .i64 x,.int .i64 y] 27)
   have HB2:=hide hb2
   obtain⟨w2,hrun,hm2,ht2⟩:=(HR1.out.2.1.same (hb2.block _ HR1.out.2.1.lt)).ze oW L hL (fun z _ hz=>HK.out z (I4 hz)) Tryz.underlying120 Bl.out (.int .i64 (n:Int))
   have hr1:=HR1.out.1.lt
   have hN:=HN.out
   have hml:=HR1.out.1.map.lt
   have hg2:=ht2.grown
   have HR2:=hide (show fD Tryz.prog 27 dS eD w2 m W1.heap.size M (fun z=>left z && !decide (z=(x,y))) cnt1∧aS Tryz.prog 27 dS eD w2 W.heap.size (iY M (fun z=>left z && !decide (z=(x,y))))∧RowKit.Below W.heap.size W w2 from
    ⟨(HR1.out.1.below hb2).kept hg2 (by simp;exact KW.out.2) (by simp;omega),by rw[← IZ HM.out];exact hm2,(HR1.out.2.2.trans (hb2.mono HR1.out.2.2.size)).trans ⟨hg2.os,hg2.tape,hg2.output,hg2.size,fun i hi=>hg2.block i (Nat.lt_of_lt_of_le hi (Nat.le_trans HR1.out.2.2.size hb2.size)) (by simp;omega)⟩⟩)
   simp only[dS]at hrun
   clear hb2 hm2 ht2 hg2 hr1 hN hml HR1 zq
   go_wp2_with fail
   go_roundw
   case rel=>exact⟨_,cnt1,HR2⟩
   case measure=>
    rw[HR2.out.1.left_eq,HCN.out]
    exact jV.out
theorem Qj (W:World) (a b:Nat) (Ma Mb:dB→Option Value) (ha:aS Tryz.prog 27 dS eD W a Ma) (hb:aS Tryz.prog 27 dS eD W b Mb) (iA:Ints Ma) (iB:Ints Mb):
  Calls Tryz.prog 59 #[.map (some a),.map (some b)] W fun e W'=>RowKit.Below W.heap.size W W'∧((e= .returned (.bool true)∧∀x,(Mb x).isSome =true→bQ Ma x=bQ Mb x)∨(e= .returned (.bool false)∧∃x,(Mb x).isSome =true∧bQ Ma x≠bQ Mb x)):=by
 have HA:=hide ha
 have HB:=hide hb
 have HI:=hide (And.intro iA iB)
 clear ha hb iA iB
 go_enter Tryz.func59,Tryz.ntmps59
 go_wp2_with (first | (at_range;refine AA _ rfl _ 120 rfl 3 oW Tryz.underlying120 rfl HB.out ?_;intro w0 Qi hrg0 hg0 hs0) | go_in)
 go_frame
 have tJ:=hide hg0
 have gV:=hide hs0
 have je:=hide hrg0
 clear hg0 hs0 hrg0
 go_loopw [6] (fun _ wr=>∃left cnt,Hid (fD Tryz.prog 27 dS eD wr b W.heap.size Mb left cnt)∧Hid (RowKit.Below W.heap.size W wr)∧Hid (∀x,eD x→left x=false→(Mb x).isSome =true→bQ Ma x=bQ Mb x)) (fun _ wr=>wr.rangeLeft b W.heap.size)
 case atStart=>
  exact⟨_,Qi,je,hide ⟨tJ.out.os,tJ.out.tape,tJ.out.output,tJ.out.size,fun i hi=>tJ.out.block i hi (by simp)⟩,hide (fun x hx h1 h2=>by rw[h2]at h1;cases h1)⟩
 case round=>
  obtain⟨left,cnt,zq,fF,HD⟩:=hrel
  clear tJ je gV
  have hcnt:=zq.out.left_eq
  have HCN:=hide hcnt
  clear hcnt
  go_wp2_with (first | (at_next;refine BD _ rfl _ rfl oW rfl zq.out ?_ ?_) | go_in)
  ·intro hc0 hl0
   have HL:=hide hl0
   clear hl0 hc0
   go_wp2
   go_ret
   exact⟨fF.out,.inl ⟨rfl,fun x hx=>by
    obtain⟨v,hv⟩:=Option.isSome_iff_exists.1 hx
    have hd:=(HI.out.2 x v hv).1
    exact HD.out x hd (HL.out x.1 x.2 hd) hx⟩⟩
  ·rintro x y v w1 cnt1 hk hlk hM hrg1 hlt hg1 hs1 hen
   obtain⟨hd,n,rfl⟩:=HI.out.2 _ _ hM
   simp only[dS]at hen ⊢
   have HK:=hide hk
   have HM:=hide hM
   have abl:=hide hrg1
   have jV:=hide hlt
   have fH:=hide hs1
   have hr:=zq.out.lt
   have hB1:RowKit.Below W.heap.size W w1:=fF.out.trans ⟨hg1.os,hg1.tape,hg1.output,hg1.size,fun i hi=>hg1.block i (Nat.lt_of_lt_of_le hi fF.out.size) (by simp;omega)⟩
   have HB1:=hide hB1
   have hlk:∀o,(Instr.lookup 120 (.map (some a)) (.agg #[.int .i64 x,.int .i64 y]) false).run Tryz.prog (w1.alloc o)= .ok (.int .i64 ((bQ Ma (x,y):Nat):Int)) (w1.alloc o):=fun o=>
    aS.Cz (HA.out.kept (row:=none) ⟨hB1.os,hB1.tape,hB1.output,hB1.size,fun k hk _=>hB1.block k hk⟩ (by simp) |>.kept (World.grownBy_alloc w1 o none) (by simp)) HI.out.1 x y hk.1 hk.2
   clear hk hM hrg1 hlt hs1 hg1 hB1 hr hd
   go_wp2
   ·go_ret
    exact⟨HB1.out.alloc (by have:=HB1.out.size;omega) _,.inr ⟨rfl,(x,y),by rw[HM.out];rfl,by rw[wD HM.out];simp at*;omega⟩⟩
   ·go_roundw
    case rel=>
     refine⟨_,cnt1,hide (abl.out.below (BF _ _)),hide (HB1.out.alloc (by have:=HB1.out.size;omega) _),hide (fun z hz h1 h2=>?_)⟩
     by_cases e:z=(x,y)
     ·subst e
      rw[wD HM.out];simp at*;omega
     ·exact HD.out z hz (by simpa[e]using h1) h2
    case measure=>
     rw[(abl.out.below (BF _ _)).left_eq,HCN.out]
     exact jV.out
end Go.Proofs.YtlhmdcgckocidaaGreat
namespace Go.Proofs.YtlhmdcgckocidaaGreat
open ak Go.RowKit
theorem CG (F G:ak.Fn) (x:gP):bL F G x=(F x && G x):=by unfold bL bH;cases F x<;>simp
theorem KX (F G:ak.Fn) (x:gP):pU F G x=(F x || G x):=by unfold pU bH;cases F x<;>simp
theorem SY {p q:Nat→Bool} :∀ {l:List Nat},(∀a∈l,p a=true→q a=true)→(∃a∈l,q a=true∧p a=false)→l.countP p<l.countP q:=by
 intro l
 induction l with
 |nil=>rintro _ ⟨a,ha,_⟩;simp at ha
 |cons b l ih=>
  intro h hx
  have hle:l.countP p≤l.countP q:=List.countP_mono_left (fun a ha=>h a (by simp[ha]))
  have hb:=h b (by simp)
  obtain⟨a,ha,h1,h2⟩:=hx
  rw[List.countP_cons,List.countP_cons]
  rcases List.mem_cons.1 ha with rfl | ha'
  ·rw[h1,h2];simp;omega
  ·have:=ih (fun a ha=>h a (by simp[ha])) ⟨a,ha',h1,h2⟩
   cases hp:p b
   ·cases hq:q b<;>simp<;>omega
   ·rw[hb hp];simp;omega
def oZ (S:Pl→ak.Fn) (l:List Pl):Nat:=(l.map fun x=>cntF 14 14 (S x)).sum
theorem S9 {F G:ak.Fn} (h:∀a,F a=true→G a=true):cntF 14 14 F≤cntF 14 14 G:=List.countP_mono_left (fun r _=>h _)
theorem cnt_lt {F G:ak.Fn} (hF:ak.Below 14 F) (hG:ak.Below 14 G) (h:∀a,F a=true→G a=true) (hne:F≠G):cntF 14 14 F<cntF 14 14 G:=by
 refine SY (fun r _=>h _) ?_
 rcases Classical.em (∃a,G a=true∧F a=false)with⟨a,h1,h2⟩ | hno
 ·have hcode:∀u,u<14→a u=lW 14 (sU a 14) u:=fun u hu=>(Ta a 14 u hu).symm
  exact⟨sU a 14,List.mem_range.2 (VK a 14),by rw[← hG a _ hcode];exact h1,by rw[← hF a _ hcode];exact h2⟩
 ·refine absurd (funext fun a=>?_) hne
  cases hf:F a
  ·cases hg:G a
   ·rfl
   ·exact absurd ⟨a,hg,hf⟩ hno
  ·rw[h a hf]
theorem Zd {S S':Pl→ak.Fn} (h:∀x a,S' x a=true→S x a=true):∀l,oZ S' l≤oZ S l:=by
 intro l
 induction l with
 |nil=>simp[oZ]
 |cons x l ih=>
  have:=S9 (h x)
  simp only[oZ,List.map_cons,List.sum_cons]at*
  omega
theorem Ze {S S':Pl→ak.Fn} (hb:∀x,ak.Below 14 (S x)) (hb':∀x,ak.Below 14 (S' x)) (h:∀x a,S' x a=true→S x a=true) {x:Pl} (hne:S' x≠S x):∀l,x∈l→oZ S' l<oZ S l:=by
 intro l
 induction l with
 |nil=>intro hx;simp at hx
 |cons y l ih=>
  intro hx
  have h1:=S9 (h y)
  have h2:=Zd h l
  rcases List.mem_cons.1 hx with rfl | hx'
  ·have:=cnt_lt (hb' x) (hb x) (h x) hne
   simp only[oZ,List.map_cons,List.sum_cons]at*
   omega
  ·have:=ih hx'
   simp only[oZ,List.map_cons,List.sum_cons]at*
   omega
open Go.Maps
def ow (S S':Pl→ak.Fn):Prop:=∀x a,S x a=true→S' x a=true
theorem ow.refl (S:Pl→ak.Fn):ow S S:=fun _ _ h=>h
theorem ow.trans {S S' S'':Pl→ak.Fn} (h:ow S S') (k:ow S' S''):ow S S'':=fun x a hh=>k x a (h x a hh)
theorem lq (ls:List av) (y:Pl) (F:ak.Fn) (S:Pl→ak.Fn):ow S (fO ls y F S):=fun x a h=>by
 unfold fO
 cases aP ls y with
 |none=>exact h
 |some z=>
  show(if z=x then pU (S z) F else S x) a=true
  by_cases e:z=x
  ·subst e
   rw[if_pos rfl,KX,h]
   rfl
  ·rw[if_neg e]
   exact h
theorem KY (ls:List av) (i:Nat) (ts:List aW) (F:ak.Fn) (S:Pl→ak.Fn):∀o,ow S (yw ls i ts F S o)
 |0=>ow.refl S
 |o+1=>(KY ls i ts F S o).trans (lq _ _ _ _)
theorem Oe (ls:List av) (i:Nat) (ts:List aW) (rs:List aY) (Sw S:Pl→ak.Fn):∀k,ow S (yH ls i ts rs Sw S k)
 |0=>ow.refl S
 |k+1=>(Oe ls i ts rs Sw S k).trans (KY _ _ _ _ _ 4)
theorem Zf (ls:List av) (i:Nat) (rs:List aY) (Sw S:Pl→ak.Fn):ow S (sG ls i rs Sw S):=by
 unfold sG
 split
 ·exact(lq _ _ _ _).trans (lq _ _ _ _)
 ·exact lq _ _ _ _
theorem abm (ls:List av) (i a pl:Nat) (Sw S:Pl→ak.Fn):ow S (BK ls i a pl Sw S):=by
 unfold BK
 split
 ·exact(lq _ _ _ _).trans (lq _ _ _ _)
 ·exact lq _ _ _ _
theorem Qk (ls:List av) (i a:Nat) (Sw:Pl→ak.Fn) (b:Nat) (S:Pl→ak.Fn):ow S (um ls i a Sw b S):=by
 unfold um
 split
 ·exact(lq _ _ _ _).trans (lq _ _ _ _)
 ·exact lq _ _ _ _
theorem FK (ls:List av) (i a:Nat) (Sw:Pl→ak.Fn):∀(l:List Int) (S:Pl→ak.Fn),ow S (l.foldl (fun S b=>um ls i a Sw b.toNat S) S)
 |[],S=>ow.refl S
 |b::t,S=>(Qk ls i a Sw b.toNat S).trans (FK ls i a Sw t _)
theorem abn (ls:List av) (i a:Nat) (bs:List Int) (Sw S:Pl→ak.Fn):ow S (Gt ls i a bs Sw S):=by
 unfold Gt qF aa0
 exact((lq _ _ _ _).trans (lq _ _ _ _)).trans (FK _ _ _ _ _ _)
theorem abo (ls:List av) (i:Nat) (d:Dev) (Sw S:Pl→ak.Fn):ow S (Qg ls i d Sw S):=by
 unfold Qg
 split
 ·exact Oe _ _ _ _ _ _ 4
 split
 ·exact Zf _ _ _ _ _
 split
 ·exact abm _ _ _ _ _ _
 split
 ·exact abn _ _ _ _ _ _
 ·exact ow.refl _
theorem le_next (ds:List Dev) (ls:List av) (Sw S:Pl→ak.Fn):∀k,ow S (gF ds ls Sw S k)
 |0=>ow.refl S
 |k+1=>(le_next ds ls Sw S k).trans (by
   simp only[gF]
   split
   ·exact abo _ _ _ _ _
   ·exact ow.refl _)
def Tc (ds:List Dev) (ls:List av):Pl→ak.Fn:=iL ds ls (fun _ _=>false) ds.length
def aR (ds:List Dev) (ls:List av):Nat→Pl→ak.Fn
 |0=>Tc ds ls
 |k+1=>gF ds ls (aR ds ls k) (aR ds ls k) ds.length
theorem DU (ds:List Dev) (ls:List av) (k:Nat):ow (aR ds ls k) (aR ds ls (k+1)):=le_next _ _ _ _ _
structure nG (A:St) (M:dB→Option Value) (S:Pl→ak.Fn) (ks:List Pl):Prop where
 ints:Ints M
 keys:∀x,(M x).isSome =true→x∈ks
 tL:∀x,dM A (bQ M x) (S x)
theorem nG.same {A:St} {M M':dB→Option Value} {S S':Pl→ak.Fn} {ks:List Pl} (h:nG A M S ks) (h':nG A M' S' ks) (hle:ow S S') (hs:∀x,(M' x).isSome =true→bQ M x=bQ M' x) (x:Pl):S' x=S x:=by
 cases e:M' x with
 |some v=>rw[← (h.tL x).2,← (h'.tL x).2,hs x (by rw[e];rfl)]
 |none=>
  have h0:S' x=fun _=>false:=by rw[← (h'.tL x).2,z8 e,iQ]
  rw[h0]
  funext a
  cases hb:S x a
  ·rfl
  ·have:=hle x a hb
   rw[h0]at this
   cases this
theorem nG.diff {A:St} {M M':dB→Option Value} {S S':Pl→ak.Fn} {ks:List Pl} (i:Inv A) (h:nG A M S ks) (h':nG A M' S' ks) {x:Pl} (hx:(M' x).isSome =true) (hne:bQ M x≠bQ M' x):x∈ks∧S x≠S' x:=
 ⟨h'.keys x hx,fun e=>hne ((canon i.ok (h.tL x).1 (h'.tL x).1).1 (by rw[(h'.tL x).2,(h.tL x).2,e]))⟩
theorem KZ (S:Pl→ak.Fn):∀l:List Pl,oZ S l≤l.length*16384
 |[]=>Nat.le_refl _
 |x::l=>by
  have h1:cntF 14 14 (S x)≤16384:=by
   have:=List.countP_le_length (p:=fun r=>S x (lW 14 r)) (l:=List.range (2 ^ 14))
   simpa[cntF]using this
  have h2:=KZ S l
  simp only[oZ,List.map_cons,List.sum_cons,List.length_cons]at*
  omega
def La (most:Int):Prop:=most<2∨40000<most
def DV (E:Int):Int:=if E=0 then 1 else E
theorem Zg {E:Int} (h:E≠0):DV E=E:=if_neg h
def Lb (W:World) (E:Int) (e:Ending) (W':World):Prop:=RowKit.Below W.heap.size W W'∧e= .returned (.tuple #[.pointer none,.int .i64 E])
theorem Lc (n:aH) (most:Int) (W:World) (hn:bf W W.heap.size n) (h:dD n.au n.ls≠0∨La most):
  Calls Tryz.prog 13 #[n.val,.int .i64 most] W (Lb W (DV (dD n.au n.ls))):=by
 have HN:=hide hn
 clear hn
 obtain⟨E,hE⟩:∃E,dD n.au n.ls=E:=⟨_,rfl⟩
 have HC:=hide (fun(w':World) (hb:RowKit.Below W.heap.size W w')=>vG n w' (HN.out.below hb hb.size))
 simp only[hE]at HC h
 rw[hE]
 clear hE
 obtain⟨dA,dn,dc,ds,lA,ln,lc,ls⟩:=n
 simp only[aH.val,aH.au]at*
 go_enter Tryz.func13,Tryz.ntmps13
 go_wp2_with fail
 have hb0:=below_alloc2 W (.cells #[.slice dA dn dc,.slice lA ln lc] 25)
 have HB0:=hide hb0
 refine(HC.out _ hb0).mono ?_
 rintro e w1 ⟨rfl,hb⟩
 have HB1:=hide (HB0.out.trans (hb.mono HB0.out.size))
 clear hb hb0
 by_cases h0:E=0
 ·subst h0
  have hm:La most:=h.resolve_left (fun hh=>hh rfl)
  have HM:=hide hm
  clear h hm
  go_wp2_with fail
  refine(Ld w1 14 most HM.out).mono ?_
  rintro e w2 ⟨rfl,hb⟩
  have HF:=hide (show Lb W (DV 0) (.returned (.tuple #[.pointer none,.int .i64 1])) w2 from⟨HB1.out.trans (hb.mono HB1.out.size),rfl⟩)
  clear hb
  go_wp2
  go_ret2
  exact HF.out
 ·have hE0:(E != 0)=true:=by simpa using h0
  have HF:=hide (show Lb W (DV E) (.returned (.tuple #[.pointer none,.int .i64 E])) w1 from⟨HB1.out,by rw[Zg h0]⟩)
  clear h h0
  go_wp2
  go_ret2
  exact HF.out
structure gQ where
 blk:Nat
 M:dB→Option Value
 S:Pl→ak.Fn
structure DW (A:St) (er:Nat) (M:dB→Option Value) (S:Pl→ak.Fn) (ks:List Pl):Prop where
 ints:Ints M
 keys:∀x,(M x).isSome =true→x∈ks
 tL:er=0→∀x,dM A (bQ M x) (S x)
theorem DW.ext {A A':St} {er FL:Nat} {M:dB→Option Value} {S:Pl→ak.Fn} {ks:List Pl} (h:DW A er M S ks) (i:Inv A) (hx:Ext A A') (he:FL=0→er=0):DW A' FL M S ks:=⟨h.ints,h.keys,fun h0 x=>(h.tL (he h0) x).ext i hx⟩
theorem DW.ok {A:St} {M:dB→Option Value} {S:Pl→ak.Fn} {ks:List Pl} (h:DW A 0 M S ks):nG A M S ks:=⟨h.ints,h.keys,h.tL rfl⟩
structure lY (wr:World) (B g:Nat) (A:St) (rb base:Nat) (v:Value) (L:List gQ) (ks:List Pl) (er:Nat) (more:List Nat):Prop where
 sa:AS wr B g A (v.ownBlock.toList++(more++rb::L.map gQ.blk))
 own:wr.ownsRow base 120 1 v L.length (L.map fun e=>.map (some e.blk))
 ap:∀q,v.ownBlock=some q→q∉more++rb::L.map gQ.blk
 bx:Bx wr rb #[v,.pointer (some ⟨g,0,none⟩)] 115
 ents:∀e∈L,gZ wr e.blk e.M∧DW A er e.M e.S ks
 ne:rb∉more++L.map gQ.blk
section
variable {wr w':World} {B g rb base:Nat} {A A':St} {v:Value} {L:List gQ} {ks:List Pl} {er FL:Nat} {more:List Nat}
theorem lY.below (h:lY wr B g A rb base v L ks er more) (hb:RowKit.Below wr.heap.size wr w'):lY w' B g A rb base v L ks er more:=
 ⟨h.sa.below hb,own_below h.own hb,h.ap,h.bx.below hb,fun e he=>⟨(h.ents e he).1.same (hb.block _ (h.ents e he).1.lt),(h.ents e he).2⟩,h.ne⟩
theorem lY.kept (h:lY wr B g A rb base v L ks er more) (hsa:AS w' B g A' (v.ownBlock.toList++(more++rb::L.map gQ.blk))) (hx:Ext A A') (hk:KP B (v.ownBlock.toList++(more++rb::L.map gQ.blk)) wr w') (he:FL=0→er=0):lY w' B g A' rb base v L ks FL more:=
 ⟨hsa,nE h.own (fun q hq=>hk.same q (by simp[hq])),h.ap,h.bx.same (hk.same rb (by simp)),fun e hm=>⟨(h.ents e hm).1.same (hk.same _ (by
  simp only[List.mem_append,List.mem_cons,List.mem_map]
  exact .inr (.inr (.inr ⟨e,hm,rfl⟩)))),(h.ents e hm).2.ext h.sa.inv hx he⟩,h.ne⟩
theorem lY.less {more':List Nat} (h:lY wr B g A rb base v L ks er more) (hs:∀j∈more',j∈more):lY wr B g A rb base v L ks er more':=by
 have hsub:∀j,j∈more'++rb::L.map gQ.blk→j∈more++rb::L.map gQ.blk:=fun j hj=>by
  rcases List.mem_append.1 hj with a | a
  ·exact List.mem_append_left _ (hs j a)
  ·exact List.mem_append_right _ a
 refine⟨h.sa.mono (fun j hj=>?_),h.own,fun q hq hm=>h.ap q hq (hsub q hm),h.bx,h.ents,fun hm=>h.ne ?_⟩
 ·rcases List.mem_append.1 hj with a | a
  ·exact List.mem_append_left _ a
  ·exact List.mem_append_right _ (hsub j a)
 ·rcases List.mem_append.1 hm with a | a
  ·exact List.mem_append_left _ (hs rb a)
  ·exact List.mem_append_right _ a
theorem lY.grow {v5:Value} {m:Nat} {ys:List Value} (h:lY wr B g A rb base v L ks er more) (hown:w'.ownsRow base 120 1 v5 m ys) (hg:wr.grownBy w' v.ownBlock) (hat:v5.ownBlock=v.ownBlock∨v5.ownBlock=some wr.heap.size):KP B (more++rb::L.map gQ.blk) wr w':=
 ((Dz.mk h.sa h.own h.ap:Dz wr B g A base _ 1 v L.length _ (more++rb::L.map gQ.blk)).append hown hg hat).2
theorem lY.push {v5:Value} {e:gQ} (h:lY wr B g A rb base v L ks er more) (hown:w'.ownsRow base 120 1 v5 (L.length+1) ((L.map fun e=>.map (some e.blk))++[.map (some e.blk)])) (hg:wr.grownBy w' v.ownBlock) (hat:v5.ownBlock=v.ownBlock∨v5.ownBlock=some wr.heap.size)
  (he:e.blk∈more) (hm:gZ wr e.blk e.M) (hok:DW A er e.M e.S ks):
  lY (w'.setCell ⟨rb,0,none⟩ v5) B g A rb base v5 (L++[e]) ks er more∧KP B more wr (w'.setCell ⟨rb,0,none⟩ v5):=by
 obtain⟨r1,r2⟩:=(Dz.mk h.sa h.own h.ap:Dz wr B g A base _ 1 v L.length _ (more++rb::L.map gQ.blk)).append hown hg hat
 have hne:=h.ne
 simp only[List.mem_append,not_or]at hne
 have hs:(w'.setCell ⟨rb,0,none⟩ v5).heap.size =w'.heap.size:=size_setCell w' ⟨rb,0,none⟩ v5
 have hc:∀i,i≠rb→(w'.setCell ⟨rb,0,none⟩ v5).heap[i]?=w'.heap[i]?:=fun i hi=>RowKit.Below.heap_setCell _ _ _ _ hi
 have afd:B≤rb:=(h.sa.lt rb (by simp)).1
 have afe:AS (w'.setCell ⟨rb,0,none⟩ v5) B g A (v5.ownBlock.toList++(more++rb::L.map gQ.blk)):=r1.sa.turned (Nat.le_of_eq hs.symm) (fun i _ hn=>hc i (fun e=>hn (by simp[e])))
 have hkm:KP B more wr (w'.setCell ⟨rb,0,none⟩ v5):=⟨r2.low.trans ((RowKit.Below.refl _ _).setCell afd _),fun j hj=>(hc j (fun e=>hne.1 (e▸hj))).trans (r2.same j (by simp[hj]))⟩
 have hsub:∀j,j∈more++rb::(L++[e]).map gQ.blk→j∈more++rb::L.map gQ.blk:=fun j hj=>by
  rw[List.map_append]at hj
  rcases List.mem_append.1 hj with a | a
  ·exact List.mem_append_left _ a
  ·rcases List.mem_cons.1 a with a | a
   ·simp[a]
   ·rcases List.mem_append.1 a with a | a
    ·exact List.mem_append_right _ (List.mem_cons_of_mem _ a)
    ·rw[List.map_cons,List.map_nil,List.mem_singleton]at a
     exact List.mem_append_left _ (a▸he)
 refine⟨⟨afe.mono (fun j hj=>?_),?_,fun q hq hm=>r1.ap q hq (hsub q hm),?_,fun x hx=>?_,fun hm=>?_⟩,hkm⟩
 ·rcases List.mem_append.1 hj with a | a
  ·exact List.mem_append_left _ a
  ·exact List.mem_append_right _ (hsub j a)
 ·have e1:(L++[e]).length =L.length+1:=by simp
  have e2:((L++[e]).map fun e=>(Value.map (some e.blk)))=(L.map fun e=>.map (some e.blk))++[.map (some e.blk)]:=by simp
  rw[e1,e2]
  exact nE r1.own (fun q hq=>hc q (fun e=>r1.ap q hq (by simp[e])))
 ·exact(h.bx.same (r2.same rb (by simp))).set 0 v5
 ·rcases List.mem_append.1 hx with a | a
  ·obtain⟨q1,q2⟩:=h.ents x a
   have hxb:x.blk∈L.map gQ.blk:=List.mem_map_of_mem a
   exact⟨q1.same ((hc _ (fun e=>hne.2 (e▸hxb))).trans (r2.same _ (by simp only[List.mem_append,List.mem_cons];exact .inr (.inr hxb)))),q2⟩
  ·rw[List.mem_singleton]at a
   subst a
   exact⟨hm.same (hkm.same _ he),hok⟩
 ·rw[List.map_append]at hm
  rcases List.mem_append.1 hm with a | a
  ·exact hne.1 a
  ·rcases List.mem_append.1 a with a | a
   ·exact hne.2 a
   ·rw[List.map_cons,List.map_nil,List.mem_singleton]at a
    exact hne.1 (a▸he)
end
end Go.Proofs.YtlhmdcgckocidaaGreat
