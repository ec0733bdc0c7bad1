/- A part of the proof: Rd8, Rd9, Rd10, RdM, Pm1. -/
import Derived.Test.YtifkacnoiocebaaGreatDz24
set_option linter.unusedVariables false
set_option linter.unusedSimpArgs false
set_option maxRecDepth 100000
set_option maxHeartbeats 8000000
namespace Go.Proofs.YtifkacnoiocebaaGreat
open aj Go.Maps Go.RowKit
structure RN (w0:World) (B g:Nat) (A0:St) (bl:List Nat) (mk e0 rd:Nat) (n:aC) (dV:Value) (nm:Nat) (P:aj.Fn→Prop) (wr:World) (A:St) (e:Nat) (Mn:aB→Option Value) (Sn:Pl→aj.Fn) (more:List Nat):Prop where
 rd:RD wr B g A (more++bl) mk e rd n dV nm Mn Sn
 ext:Ext A0 A
 nw:qx P A0 A
 kp:KP B bl w0 wr
 e0:e=0→e0=0
section
variable {w0 wr w':World} {B g mk e0 e rd nm:Nat} {A0 A:St} {bl more:List Nat} {n:aC} {dV:Value} {Mn:aB→Option Value} {Sn:Pl→aj.Fn} {P:aj.Fn→Prop}
theorem RN.start (h:RD wr B g A bl mk e rd n dV nm Mn Sn) (P:aj.Fn→Prop):RN wr B g A bl mk e rd n dV nm P wr A e Mn Sn []:=⟨h,Ext.refl h.inv,qx.refl _ _,KP.refl _ _ _,id⟩
theorem RN.below (h:RN w0 B g A0 bl mk e0 rd n dV nm P wr A e Mn Sn more) (hb:RowKit.Below wr.heap.size wr w'):RN w0 B g A0 bl mk e0 rd n dV nm P w' A e Mn Sn more:=
 ⟨h.rd.below hb,h.ext,h.nw,h.kp.trans ((h.rd.kp hb).mono (fun j hj=>by simp[hj])),h.e0⟩
theorem RN.alloc (h:RN w0 B g A0 bl mk e0 rd n dV nm P wr A e Mn Sn more) (o:Obj):RN w0 B g A0 bl mk e0 rd n dV nm P (wr.alloc o) A e Mn Sn (wr.heap.size::more):=
 have q:=h.below (below_alloc2 wr o)
 ⟨h.rd.alloc o,h.ext,h.nw,q.kp,h.e0⟩
theorem RN.less {more':List Nat} (h:RN w0 B g A0 bl mk e0 rd n dV nm P wr A e Mn Sn more) (hs:∀j∈more',j∈more):RN w0 B g A0 bl mk e0 rd n dV nm P wr A e Mn Sn more':=
 ⟨h.rd.less (fun j hj=>by
  rcases List.mem_append.1 hj with a | a
  ·exact List.mem_append_left _ (hs j a)
  ·exact List.mem_append_right _ a),h.ext,h.nw,h.kp,h.e0⟩
theorem RN.call (h:RN w0 B g A0 bl mk e0 rd n dV nm P wr A e Mn Sn more) {F:aj.Fn} {en:Ending} (hr:MR wr B g A (rd::nm::(more++bl)) mk e P F en w'):
  ∃(A2:St) (e2 r:Nat),en= .returned (.int .i64 (r:Int))∧RN w0 B g A0 bl mk e0 rd n dV nm P w' A2 e2 Mn Sn more∧Ext A A2∧(e2=0→e=0∧dF A2 r F)∧(∀j∈more,w'.heap[j]?=wr.heap[j]?):=by
 obtain⟨A2,e2,r,h1,h2,h3,h4,h5,h6⟩:=h.rd.step hr
 exact⟨A2,e2,r,h1,⟨h2,h.ext.trans h3,h.nw.trans h4 h.rd.inv h3,h.kp.trans (h5.mono (fun j hj=>by simp[hj])),fun he=>h.e0 (h6 he).1⟩,h3,h6,fun j hj=>h5.same j (by simp[hj])⟩
theorem RN.send (h:RN w0 B g A0 bl mk e0 rd n dV nm P wr A e Mn Sn more) {EB:Pl→aj.Fn} (hr:qy wr B g A (more++bl) mk e rd n dV nm P EB w'):
  ∃(A2:St) (e2:Nat) (kg:aB→Option Value),RN w0 B g A0 bl mk e0 rd n dV nm P w' A2 e2 kg EB more∧Ext A A2∧(e2=0→e=0)∧(∀j∈more,w'.heap[j]?=wr.heap[j]?):=by
 obtain⟨A2,e2,kg,h2,h3,h4,h5,h6⟩:=hr
 exact⟨A2,e2,kg,⟨h2,h.ext.trans h3,h.nw.trans h4 h.rd.inv h3,h.kp.trans (h5.mono (fun j hj=>by simp[hj])),fun he=>h.e0 (h6 he)⟩,h3,h6,fun j hj=>h5.same j (by simp[hj])⟩
theorem RN.out (h:RN w0 B g A0 bl mk e0 rd n dV nm P wr A e Mn Sn more):qy w0 B g A0 bl mk e0 rd n dV nm P Sn wr:=
 ⟨A,e,Mn,h.rd.less (fun j hj=>by simp[hj]),h.ext,h.nw,h.kp,h.e0⟩
end
def Cr (ls:List ah) (i:Nat) (d:Dev) (Sn:Pl→aj.Fn):Pl→aj.Fn:=if d.kind=1 then eH ls ((i:Int),0) (bI (sM d.addr.toNat)) Sn else Sn
def jq (ds:List Dev) (ls:List ah) (Sn:Pl→aj.Fn):Nat→Pl→aj.Fn
 |0=>Sn
 |k+1=>match ds[k]? with
  |some d=>Cr ls k d (jq ds ls Sn k)
  |none=>jq ds ls Sn k
theorem BI {ds:List Dev} {ls:List ah} {Sn:Pl→aj.Fn} {k:Nat} {d:Dev} (h:ds[k]?=some d):jq ds ls Sn (k+1)=Cr ls k d (jq ds ls Sn k):=by
 simp only[jq,h]
structure YS (P:aj.Fn→Prop) (ls:List ah) (i:Nat) (a:Nat) (Sn:Pl→aj.Fn):Prop where
 m:rE P (sM a)
 s:nS P ls ((i:Int),0) (bI (sM a)) Sn
def Gi (P:aj.Fn→Prop) (ds:List Dev) (ls:List ah) (Sn:Pl→aj.Fn):Prop:=∀k d,ds[k]?=some d→d.kind=1→YS P ls k d.addr.toNat (jq ds ls Sn k)
theorem Lg (w:World) (B g:Nat) (A:St) (bl:List Nat) (mk e rd:Nat) (n:aC) (dV:Value) (nm:Nat) (Mn:aB→Option Value) (Sn:Pl→aj.Fn) (h:RD w B g A bl mk e rd n dV nm Mn Sn) (hv:A.vars=14) (hn:bq w B n) (hok:∀d∈n.au,fU d) (hdl:n.dn≤10) (hlk:mU n.ls)
  (P:aj.Fn→Prop) (hP:Gi P n.au n.ls Sn):
  Calls Tryz.prog 24 #[.pointer (some ⟨rd,0,none⟩)] w fun en w'=>en= .returned (.tuple #[])∧qy w B g A bl mk e rd n dV nm P (jq n.au n.ls Sn n.dn) w':=by
 have j4:=hide (RN.start h P)
 have HN:=hide (fun(w':World) (hb:RowKit.Below B w w')=>show bq w' B n from hn.below hb (Nat.le_refl _))
 have HDK:=hide (fun(d:ak) (hd:d∈n.ds)=>hok d.dev (List.mem_map_of_mem hd))
 have iy:=hide hlk
 have HP:=hide hP
 have HV:=hide hv
 have HD:=hide hn
 have acS:=hn.iK
 have r1:w.cell? ⟨rd,1,none⟩=some (.slice n.dA n.dn n.dc):=h.bx.get 1 _ rfl
 clear h hn hok hlk hP hv
 obtain⟨dA,dn,dc,ds,lA,ln,lc,ls⟩:=n
 simp only[aC.au]at*
 go_enter Tryz.func24,Tryz.ntmps24
 go_wp2_with fail
 clear r1
 go_loopw [10] (fun i wr=>∃(k:Nat) (A2:St) (e2:Nat) (kg:aB→Option Value),k≤dn∧i= .int .i64 (k:Int)∧Hid (RN w B g A bl mk e rd ⟨dA,dn,dc,ds,lA,ln,lc,ls⟩ dV nm P wr A2 e2 kg (jq (ds.map ak.dev) ls Sn k) [])) (fun i _=>dn - (intOf i).toNat)
 case atStart=>exact⟨0,A,e,Mn,Nat.zero_le _,rfl,j4⟩
 case round=>
  clear j4
  obtain⟨k,A2,e2,kg,hkn,rfl,HR⟩:=hrel
  by_cases hlt:k<dn
  ·obtain⟨r,hr⟩:∃r,ds[k]?=some r:=⟨_,List.getElem?_eq_getElem (by omega)⟩
   have hdr:(ds.map ak.dev)[k]?=some r.dev:=by rw[List.getElem?_map,hr];rfl
   obtain⟨b,o,rfl,_,_⟩:=HD.out.ds.2 (by show 0<dn;omega)
   have rX:=HN.out wr HR.out.kp.low
   obtain⟨_,q0,q1,q2,q3,q4,q5,q6⟩:=fP rX.ds hr
   have fK:=hide (HDK.out r (List.mem_of_getElem? hr))
   have iE:=hide (HP.out k r.dev hdr)
   have jk:=hide (BI (ls:=ls) (Sn:=Sn) hdr)
   clear hr hdr rX
   obtain⟨nm',kd,ad,pl,bA,bn,bc,bs,rA,rn,rc,rs,tA,tn,tc,ts⟩:=r
   simp only at q0 q1 q2 q3 q4 q5 q6
   have bO:=hide (below_alloc2 wr (.cells #[.string nm',.int .i64 kd,.int .i64 ad,.int .u8 pl,.slice bA bn bc,.slice rA rn rc,.slice tA tn tc] 81))
   by_cases hk:kd=1
   case neg=>
    have hne:(kd ==1)=false:=by simp[hk]
    have xL:=hide (show RN w B g A bl mk e rd ⟨some ⟨b,o,none⟩,dn,dc,ds,lA,ln,lc,ls⟩ dV nm P _ A2 e2 kg (jq (ds.map ak.dev) ls Sn (k+1)) []from by
     rw[jk.out];unfold Cr;rw[if_neg (by exact hk)];exact HR.out.below bO.out)
    go_wp2_with fail
    go_roundw
    case rel=>exact⟨k+1,A2,e2,kg,by omega,by go_num,xL⟩
    case measure=>simp[intOf];omega
   subst hk
   have ha:=fK.out.qA (.inl rfl)
   simp only[ak.dev]at ha
   obtain⟨an,rfl⟩:∃an:Nat,ad=(an:Int):=⟨ad.toNat,by omega⟩
   have ha16:an<16:=by omega
   clear ha
   have HX:=hide (Bx.new wr #[.string nm',.int .i64 1,.int .i64 (an:Int),.int .u8 pl,.slice bA bn bc,.slice rA rn rc,.slice tA tn tc] 81)
   have HR2:=hide (HR.out.alloc (.cells #[.string nm',.int .i64 1,.int .i64 (an:Int),.int .u8 pl,.slice bA bn bc,.slice rA rn rc,.slice tA tn tc] 81))
   clear bO HR
   go_wp2_with fail
   clear q0 q1 q2 q3 q4 q5 q6
   generalize World.alloc wr _=w2 at*
   generalize wr.heap.size=Nd at*
   have HQ:=hide (fun(w':World) (h1:Bx w' rd #[.pointer (some ⟨mk,0,none⟩),.slice (some ⟨b,o,none⟩) dn dc,.slice lA ln lc,dV,.map (some nm)] 75) (h3:Bx w' Nd #[.string nm',.int .i64 1,.int .i64 (an:Int),.int .u8 pl,.slice bA bn bc,.slice rA rn rc,.slice tA tn tc] 81)=>
    show w'.cell? ⟨rd,0,none⟩=some (.pointer (some ⟨mk,0,none⟩))∧w'.cell? ⟨Nd,2,none⟩=some (.int .i64 (an:Int))from⟨h1.get 0 _ rfl,h3.get 2 _ rfl⟩)
   have HR3:=hide (HR2.out.below (RowKit.Below.refl _ _).drew)
   have gL:=hide (HX.out.below (RowKit.Below.refl _ _).drew)
   clear HR2 HX
   refine aY (fun w'=>w'.cell? ⟨rd,0,none⟩=some (.pointer (some ⟨mk,0,none⟩))∧w'.cell? ⟨Nd,2,none⟩=some (.int .i64 (an:Int))) 10 (by kernel_rfl) (HQ.out _ HR3.out.rd.bx gL.out) (fun hS=>?_)
   refine rP 0 hS ?_
   refine rP 1 hS ?_
   refine rP 2 hS ?_
   refine rP 3 hS ?_
   refine rP 4 hS ?_
   refine rL 5 [9,10] rfl hS (by intro w hSw;obtain⟨s0,s1⟩:=hSw;go_simp;try with_reducible rfl) ?_
   refine rP 6 hS ?_
   refine rL 7 [8,9,10] rfl hS (by intro w hSw;obtain⟨s0,s1⟩:=hSw;go_simp;try with_reducible rfl) ?_
   intro inv
   refine rO 8 inv fun K hK=>?_
   go_simp
   clear hS
   refine(DR an _ ha16).mono ?_
   rintro en w4 ⟨rfl,hb⟩
   have HR4:=hide (HR3.out.below hb)
   have mQ:=hide (gL.out.below hb)
   clear hb HR3 gL
   have hS:=HQ.out _ HR4.out.rd.bx mQ.out
   go_simp
   refine hK.out _ _ (fun _=>HQ.out _ HR4.out.rd.bx mQ.out) ?_
   clear hK K hS inv
   intro inv
   try simp only[Act.put,aK,aL,aM]
   have hS:=HQ.out _ HR4.out.rd.bx mQ.out
   refine rO 9 inv fun K hK=>?_
   go_simp
   clear hS
   refine(Co w4 B g A2 (rd::nm::([Nd]++bl)) mk e2 HR4.out.rd.m (sM an) (Mx ha16) P (by rw[HR4.out.ext.vars];exact HV.out) (iE.out rfl).m).mono ?_
   rintro en w5 hr
   obtain⟨A5,e5,r5,rfl,hrf,hx,hF,hsm⟩:=HR4.out.call hr
   have gZ:=hide hrf
   have bS:=hide (mQ.out.same (hsm Nd (by simp)))
   have HF5:=hide (fun h=>(hF h).2)
   clear hr hrf hx hF hsm HR4 mQ
   have hS:=HQ.out _ gZ.out.rd.bx bS.out
   go_simp
   refine hK.out _ _ (fun _=>HQ.out _ gZ.out.rd.bx bS.out) ?_
   clear hK K hS inv
   intro inv
   try simp only[Act.put,aK,aL,aM]
   have hS:=HQ.out _ gZ.out.rd.bx bS.out
   refine rT 10 inv fun K hK=>?_
   go_simp
   clear hS
   refine(ko w5 B g A5 ([Nd]++bl) mk e5 rd _ dV nm kg _ gZ.out.rd (HN.out _ gZ.out.kp.low).ls iy.out P (k:Int) 0 r5 (bI (sM an)) HF5.out (iE.out rfl).s).mono ?_
   rintro en w6 ⟨rfl,hr⟩
   obtain⟨A6,e6,Mn6,hrf,hx6,he6,NR⟩:=gZ.out.send hr
   have jh:=hide (show RN w B g A bl mk e rd ⟨some ⟨b,o,none⟩,dn,dc,ds,lA,ln,lc,ls⟩ dV nm P w6 A6 e6 Mn6 (jq (ds.map ak.dev) ls Sn (k+1)) []from by
    rw[jk.out];unfold Cr;rw[if_pos (by rfl)];exact hrf.less (by simp))
   clear hr hrf hx6 he6 NR gZ bS HF5
   go_simp
   refine hK.out _ _ ?_
   clear hK K inv
   intro inv
   try simp only[Act.put,aK,aL,aM]
   refine rD ?_
   clear inv
   go_wp2_with fail
   go_roundw
   case rel=>exact⟨k+1,A6,e6,Mn6,by omega,by go_num,jh⟩
   case measure=>simp[intOf];omega
  ·have u7:=hide (show qy w B g A bl mk e rd ⟨dA,dn,dc,ds,lA,ln,lc,ls⟩ dV nm P (jq (ds.map ak.dev) ls Sn dn) wr from by
    have hk:k=dn:=by omega
    have:=HR.out.out;rw[hk]at this;exact this)
   go_wp2
   go_end0
   exact⟨rfl,u7.out⟩
end Go.Proofs.YtifkacnoiocebaaGreat
namespace Go.Proofs.YtifkacnoiocebaaGreat
open Go.Maps Go.RowKit Go.WideElems
def jl (M:aB→Option Value) (left:aB→Bool):aB→Option Value:=fun x=>if left x then none else M x
theorem Gj (M:aB→Option Value):jl M (fun a=>(M a).isSome)=fun _=>none:=by
 funext x
 unfold jl
 cases h:M x<;>simp[h]
theorem IC {M:aB→Option Value} {left:aB→Bool} {x:aB} {v:Value} (h:M x=some v):mI (jl M left) x v=jl M (fun z=>left z && !decide (z=x)):=by
 funext z
 by_cases e:z=x
 ·subst e
  rw[lG]
  unfold jl
  simp[h]
 ·rw[jc _ _ e]
  unfold jl
  simp[e]
theorem J6 {M:aB→Option Value} {left:aB→Bool} (hi:Ints M) (h:∀x y,eU (x,y)→left (x,y)=false):jl M left=M:=by
 funext ⟨x,y⟩
 unfold jl
 by_cases e:left (x,y)=true
 ·rw[if_pos e]
  cases hM:M (x,y)with
  |none=>rfl
  |some v=>rw[h x y (hi _ v hM).1]at e;cases e
 ·rw[if_neg e]
theorem IE {M:aB→Option Value} {left:aB→Bool} {x:aB} (h:(jl M left x).isSome =true):(M x).isSome =true:=by
 unfold jl at h
 split at h
 ·cases h
 ·exact h
theorem Lh (W:World) (m:Nat) (M:aB→Option Value) (h:aV Tryz.prog 27 eG eU W m M) (hi:Ints M) (L:List Pl) (hL:L.length<maxLen) (hk:∀x,(M x).isSome =true→x∈L):
  Calls Tryz.prog 25 #[.map (some m)] W fun e W'=>RowKit.Below W.heap.size W W'∧∃nb,W.heap.size≤nb∧e= .returned (.map (some nb))∧aV Tryz.prog 27 eG eU W' nb M:=by
 have H:=hide h
 have HI:=hide hi
 have HK:=hide hk
 have yP:=hide (aV.made (P:=Tryz.prog) (kt:=27) (key:=eG) (dom:=eU) W)
 have HB0:=hide (below_alloc2 W (.map #[] 0))
 have hml:=h.lt
 have HML:=hide (show W.heap.size≤W.heap.size∧m≠W.heap.size from⟨Nat.le_refl _,by omega⟩)
 clear h hi hk hml
 have hmm:=@run_makeMap Tryz.prog
 go_enter Tryz.func25,Tryz.ntmps25
 go_wp2_with (first | (at_range;refine Av _ rfl _ 73 rfl 3 lW Tryz.underlying73 rfl (H.out.kept (row:=none) (World.grownBy_alloc W _ none) (by simp)) ?_;intro w0 Oj hrg0 hg0 hs0) | go_in)
 clear hmm
 go_frame
 have HS:=hide (show eX Tryz.prog 27 eG eU w0 m (W.alloc (.map #[] 0)).heap.size M (fun a=>(M a).isSome) Oj∧aV Tryz.prog 27 eG eU w0 W.heap.size (jl M (fun a=>(M a).isSome))∧RowKit.Below W.heap.size W w0 from
  ⟨hrg0,by rw[Gj];exact yP.out.kept (row:=none) hg0 (by simp),HB0.out.trans ⟨hg0.os,hg0.tape,hg0.output,hg0.size,fun i hi=>hg0.block i (Nat.lt_of_lt_of_le hi HB0.out.size) (by simp)⟩⟩)
 have HN:=hide (show W.heap.size<(W.alloc (.map #[] 0)).heap.size from yP.out.lt)
 clear hrg0 hg0 hs0 yP HB0
 generalize World.alloc W _=W1 at*
 go_loopw [5] (fun _ wr=>∃left cnt,Hid (eX Tryz.prog 27 eG eU wr m W1.heap.size M left cnt∧aV Tryz.prog 27 eG eU wr W.heap.size (jl M left)∧RowKit.Below W.heap.size W wr)) (fun _ wr=>wr.rangeLeft m W1.heap.size)
 case atStart=>exact⟨_,Oj,HS⟩
 case round=>
  clear HS
  obtain⟨left,cnt,y7⟩:=hrel
  have fJ:=hide y7.out.1.left_eq
  go_wp2_with (first | (at_next;refine Bq _ rfl _ rfl lW rfl y7.out.1 ?_ ?_) | go_in)
  ·intro hc0 hl0
   have HL:=hide hl0
   clear hl0 hc0
   go_wp2
   go_ret
   exact⟨y7.out.2.2,_,Nat.le_refl _,rfl,by rw[← J6 HI.out (fun x y hd=>HL.out x y hd)];exact y7.out.2.1⟩
  ·rintro x y v w1 cnt1 hk hlk hM hrg1 hlt hg1 hs1 hen
   obtain⟨hd,n,rfl⟩:=HI.out _ _ hM
   simp only[eG]at hen ⊢
   have Hg:=hide hk
   have HM:=hide hM
   have kJ:=hide hlt
   have hr:=y7.out.1.lt
   have hN:=HN.out
   have HR1:=hide (show eX Tryz.prog 27 eG eU w1 m W1.heap.size M (fun z=>left z && !decide (z=(x,y))) cnt1∧aV Tryz.prog 27 eG eU w1 W.heap.size (jl M left)∧RowKit.Below W.heap.size W w1 from
    ⟨hrg1,y7.out.2.1.kept hg1 (by simp;omega),y7.out.2.2.trans ⟨hg1.os,hg1.tape,hg1.output,hg1.size,fun i hi=>hg1.block i (Nat.lt_of_lt_of_le hi y7.out.2.2.size) (by simp;omega)⟩⟩)
   clear hk hM hrg1 hlt hs1 hg1 hr hd hN hlk
   have hb2:=below_alloc2 w1 (.cells #[.int .i64 x,.int .i64 y] 27)
   have HB2:=hide hb2
   obtain⟨w2,hrun,hm2,ht2⟩:=(HR1.out.2.1.same (hb2.block _ HR1.out.2.1.lt)).Jw lW L hL (fun z _ hz=>HK.out z (IE hz)) Tryz.underlying73 Hg.out (.int .i64 (n:Int))
   have hr1:=HR1.out.1.lt
   have hN:=HN.out
   have hml:=HR1.out.1.map.lt
   have hg2:=ht2.grown
   have HR2:=hide (show eX Tryz.prog 27 eG eU w2 m W1.heap.size M (fun z=>left z && !decide (z=(x,y))) cnt1∧aV Tryz.prog 27 eG eU w2 W.heap.size (jl M (fun z=>left z && !decide (z=(x,y))))∧RowKit.Below W.heap.size W w2 from
    ⟨(HR1.out.1.below hb2).kept hg2 (by simp;exact HML.out.2) (by simp;omega),by rw[← IC HM.out];exact hm2,(HR1.out.2.2.trans (hb2.mono HR1.out.2.2.size)).trans ⟨hg2.os,hg2.tape,hg2.output,hg2.size,fun i hi=>hg2.block i (Nat.lt_of_lt_of_le hi (Nat.le_trans HR1.out.2.2.size hb2.size)) (by simp;omega)⟩⟩)
   simp only[eG]at hrun
   clear hb2 hm2 ht2 hg2 hr1 hN hml HR1 y7
   go_wp2_with fail
   go_roundw
   case rel=>exact⟨_,cnt1,HR2⟩
   case measure=>
    rw[HR2.out.1.left_eq,fJ.out]
    exact kJ.out
theorem Ol (W:World) (a b:Nat) (Ma Mb:aB→Option Value) (ha:aV Tryz.prog 27 eG eU W a Ma) (hb:aV Tryz.prog 27 eG eU W b Mb) (iA:Ints Ma) (iB:Ints Mb):
  Calls Tryz.prog 27 #[.map (some a),.map (some b)] W fun e W'=>RowKit.Below W.heap.size W W'∧((e= .returned (.bool true)∧∀x,(Mb x).isSome =true→bK Ma x=bK Mb x)∨(e= .returned (.bool false)∧∃x,(Mb x).isSome =true∧bK Ma x≠bK Mb x)):=by
 have HA:=hide ha
 have HB:=hide hb
 have HI:=hide (And.intro iA iB)
 clear ha hb iA iB
 go_enter Tryz.func27,Tryz.ntmps27
 go_wp2_with (first | (at_range;refine Av _ rfl _ 73 rfl 3 lW Tryz.underlying73 rfl HB.out ?_;intro w0 Oj hrg0 hg0 hs0) | go_in)
 go_frame
 have uh:=hide hg0
 have gH:=hide hs0
 have j4:=hide hrg0
 clear hg0 hs0 hrg0
 go_loopw [6] (fun _ wr=>∃left cnt,Hid (eX Tryz.prog 27 eG eU wr b W.heap.size Mb left cnt)∧Hid (RowKit.Below W.heap.size W wr)∧Hid (∀x,eU x→left x=false→(Mb x).isSome =true→bK Ma x=bK Mb x)) (fun _ wr=>wr.rangeLeft b W.heap.size)
 case atStart=>
  exact⟨_,Oj,j4,hide ⟨uh.out.os,uh.out.tape,uh.out.output,uh.out.size,fun i hi=>uh.out.block i hi (by simp)⟩,hide (fun x hx h1 h2=>by rw[h2]at h1;cases h1)⟩
 case round=>
  obtain⟨left,cnt,y7,gD,HD⟩:=hrel
  clear uh j4 gH
  have hcnt:=y7.out.left_eq
  have fJ:=hide hcnt
  clear hcnt
  go_wp2_with (first | (at_next;refine Bq _ rfl _ rfl lW rfl y7.out ?_ ?_) | go_in)
  ·intro hc0 hl0
   have HL:=hide hl0
   clear hl0 hc0
   go_wp2
   go_ret
   exact⟨gD.out,.inl ⟨rfl,fun x hx=>by
    obtain⟨v,hv⟩:=Option.isSome_iff_exists.1 hx
    have hd:=(HI.out.2 x v hv).1
    exact HD.out x hd (HL.out x.1 x.2 hd) hx⟩⟩
  ·rintro x y v w1 cnt1 hk hlk hM hrg1 hlt hg1 hs1 hen
   obtain⟨hd,n,rfl⟩:=HI.out.2 _ _ hM
   simp only[eG]at hen ⊢
   have HK:=hide hk
   have HM:=hide hM
   have YT:=hide hrg1
   have kJ:=hide hlt
   have eY:=hide hs1
   have hr:=y7.out.lt
   have hB1:RowKit.Below W.heap.size W w1:=gD.out.trans ⟨hg1.os,hg1.tape,hg1.output,hg1.size,fun i hi=>hg1.block i (Nat.lt_of_lt_of_le hi gD.out.size) (by simp;omega)⟩
   have HB1:=hide hB1
   have hlk:∀o,(Instr.lookup 73 (.map (some a)) (.agg #[.int .i64 x,.int .i64 y]) false).run Tryz.prog (w1.alloc o)= .ok (.int .i64 ((bK Ma (x,y):Nat):Int)) (w1.alloc o):=fun o=>
    aV.IJ (HA.out.kept (row:=none) ⟨hB1.os,hB1.tape,hB1.output,hB1.size,fun k hk _=>hB1.block k hk⟩ (by simp) |>.kept (World.grownBy_alloc w1 o none) (by simp)) HI.out.1 x y hk.1 hk.2
   clear hk hM hrg1 hlt hs1 hg1 hB1 hr hd
   go_wp2
   ·go_ret
    exact⟨HB1.out.alloc (by have:=HB1.out.size;omega) _,.inr ⟨rfl,(x,y),by rw[HM.out];rfl,by rw[vV HM.out];simp at*;omega⟩⟩
   ·go_roundw
    case rel=>
     refine⟨_,cnt1,hide (YT.out.below (Br _ _)),hide (HB1.out.alloc (by have:=HB1.out.size;omega) _),hide (fun z hz h1 h2=>?_)⟩
     by_cases e:z=(x,y)
     ·subst e
      rw[vV HM.out];simp at*;omega
     ·exact HD.out z hz (by simpa[e]using h1) h2
    case measure=>
     rw[(YT.out.below (Br _ _)).left_eq,fJ.out]
     exact kJ.out
end Go.Proofs.YtifkacnoiocebaaGreat
namespace Go.Proofs.YtifkacnoiocebaaGreat
open aj Go.Maps Go.RowKit
def oF (S S':Pl→aj.Fn):Prop:=∀x a,S x a=true→S' x a=true
theorem oF.refl (S:Pl→aj.Fn):oF S S:=fun _ _ h=>h
theorem oF.trans {S S' S'':Pl→aj.Fn} (h:oF S S') (k:oF S' S''):oF S S'':=fun x a hh=>k x a (h x a hh)
theorem kY (ls:List ah) (y:Pl) (F:aj.Fn) (S:Pl→aj.Fn):oF S (eH ls y F S):=fun x a h=>by
 unfold eH
 cases aD ls y with
 |none=>exact h
 |some z=>
  show(if z=x then vO (S z) F else S x) a=true
  by_cases e:z=x
  ·subst e
   rw[if_pos rfl,Qa,h]
   rfl
  ·rw[if_neg e]
   exact h
theorem J7 (ls:List ah) (i:Nat) (ts:List aG) (F:aj.Fn) (S:Pl→aj.Fn):∀o,oF S (qF ls i ts F S o)
 |0=>oF.refl S
 |o+1=>(J7 ls i ts F S o).trans (kY _ _ _ _)
theorem ME (ls:List ah) (i:Nat) (ts:List aG) (rs:List bg) (Sw S:Pl→aj.Fn):∀k,oF S (qK ls i ts rs Sw S k)
 |0=>oF.refl S
 |k+1=>(ME ls i ts rs Sw S k).trans (J7 _ _ _ _ _ 4)
theorem Xg (ls:List ah) (i:Nat) (rs:List bg) (Sw S:Pl→aj.Fn):oF S (sP ls i rs Sw S):=by
 unfold sP
 split
 ·exact(kY _ _ _ _).trans (kY _ _ _ _)
 ·exact kY _ _ _ _
theorem YU (ls:List ah) (i a pl:Nat) (Sw S:Pl→aj.Fn):oF S (wV ls i a pl Sw S):=by
 unfold wV
 split
 ·exact(kY _ _ _ _).trans (kY _ _ _ _)
 ·exact kY _ _ _ _
theorem Om (ls:List ah) (i a:Nat) (Sw:Pl→aj.Fn) (b:Nat) (S:Pl→aj.Fn):oF S (kX ls i a Sw b S):=by
 unfold kX
 split
 ·exact(kY _ _ _ _).trans (kY _ _ _ _)
 ·exact kY _ _ _ _
theorem E5 (ls:List ah) (i a:Nat) (Sw:Pl→aj.Fn):∀(l:List Int) (S:Pl→aj.Fn),oF S (l.foldl (fun S b=>kX ls i a Sw b.toNat S) S)
 |[],S=>oF.refl S
 |b::t,S=>(Om ls i a Sw b.toNat S).trans (E5 ls i a Sw t _)
theorem YV (ls:List ah) (i a:Nat) (bs:List Int) (Sw S:Pl→aj.Fn):oF S (zR ls i a bs Sw S):=by
 unfold zR oD Gh
 exact((kY _ _ _ _).trans (kY _ _ _ _)).trans (E5 _ _ _ _ _ _)
theorem YW (ls:List ah) (i:Nat) (d:Dev) (Sw S:Pl→aj.Fn):oF S (BH ls i d Sw S):=by
 unfold BH
 split
 ·exact ME _ _ _ _ _ _ 4
 split
 ·exact Xg _ _ _ _ _
 split
 ·exact YU _ _ _ _ _ _
 split
 ·exact YV _ _ _ _ _ _
 ·exact oF.refl _
theorem le_next (ds:List Dev) (ls:List ah) (Sw S:Pl→aj.Fn):∀k,oF S (gT ds ls Sw S k)
 |0=>oF.refl S
 |k+1=>(le_next ds ls Sw S k).trans (by
   simp only[gT]
   split
   ·exact YW _ _ _ _ _
   ·exact oF.refl _)
def QH (ds:List Dev) (ls:List ah):Pl→aj.Fn:=jq ds ls (fun _ _=>false) ds.length
def aF (ds:List Dev) (ls:List ah):Nat→Pl→aj.Fn
 |0=>QH ds ls
 |k+1=>gT ds ls (aF ds ls k) (aF ds ls k) ds.length
theorem zU (ds:List Dev) (ls:List ah) (k:Nat):oF (aF ds ls k) (aF ds ls (k+1)):=le_next _ _ _ _ _
structure nK (A:St) (M:aB→Option Value) (S:Pl→aj.Fn) (ks:List Pl):Prop where
 ints:Ints M
 keys:∀x,(M x).isSome =true→x∈ks
 vR:∀x,dF A (bK M x) (S x)
theorem nK.same {A:St} {M M':aB→Option Value} {S S':Pl→aj.Fn} {ks:List Pl} (h:nK A M S ks) (h':nK A M' S' ks) (hle:oF S S') (hs:∀x,(M' x).isSome =true→bK M x=bK M' x) (x:Pl):S' x=S x:=by
 cases e:M' x with
 |some v=>rw[← (h.vR x).2,← (h'.vR x).2,hs x (by rw[e];rfl)]
 |none=>
  have h0:S' x=fun _=>false:=by rw[← (h'.vR x).2,zL e,jB]
  rw[h0]
  funext a
  cases hb:S x a
  ·rfl
  ·have:=hle x a hb
   rw[h0]at this
   cases this
theorem nK.diff {A:St} {M M':aB→Option Value} {S S':Pl→aj.Fn} {ks:List Pl} (i:Inv A) (h:nK A M S ks) (h':nK A M' S' ks) {x:Pl} (hx:(M' x).isSome =true) (hne:bK M x≠bK M' x):x∈ks∧S x≠S' x:=
 ⟨h'.keys x hx,fun e=>hne ((canon i.ok (h.vR x).1 (h'.vR x).1).1 (by rw[(h'.vR x).2,(h.vR x).2,e]))⟩
theorem DX (S:Pl→aj.Fn):∀l:List Pl,jW S l≤l.length*16384
 |[]=>Nat.le_refl _
 |x::l=>by
  have h1:cntF 14 14 (S x)≤16384:=by
   have:=List.countP_le_length (p:=fun r=>S x (Sv 14 r)) (l:=List.range (2 ^ 14))
   simpa[cntF]using this
  have h2:=DX S l
  simp only[jW,List.map_cons,List.sum_cons,List.length_cons]at*
  omega
theorem zV (F:aj.Fn) (i:Nat) (a:iq):mP F i a=(F (upd a i false) || F (upd a i true)):=by
 unfold mP bE aW
 cases F (upd a i false)<;>simp
section
variable {ls' ls:List ah} {Sw Sw' S S':Pl→aj.Fn} {F F':aj.Fn}
end
theorem Dj (ds:List Dev) (ls:List ah) {K:Nat} (h:aF ds ls (K+1)=aF ds ls K):∀k,K≤k→aF ds ls k=aF ds ls K:=by
 intro k hk
 induction hk with
 |refl=>rfl
 |step hk ih=>
  rename_i m
  show gT ds ls (aF ds ls m) (aF ds ls m) ds.length=aF ds ls K
  rw[ih]
  exact h
def ay (a b s d:Nat):Nat:=a*1024+b*64+s*8+d
structure dW (a b s d:Nat):Prop where
 a:a<16
 b:b<16
 s:s<8
 d:d<8
theorem dW.lt {a b s d:Nat} (h:dW a b s d):ay a b s d<16384:=by
 have:=h.a;have:=h.b;have:=h.s;have:=h.d
 unfold ay;omega
theorem dW.parts {a b s d:Nat} (h:dW a b s d):ay a b s d / 1024=a∧ay a b s d / 64 % 16=b∧ay a b s d / 8 % 8=s∧ay a b s d % 8=d:=by
 have:=h.a;have:=h.b;have:=h.s;have:=h.d
 unfold ay
 refine⟨?_,?_,?_,?_⟩<;>omega
theorem jA {c:Nat} (hc:c<16384):dW (c / 1024) (c / 64 % 16) (c / 8 % 8) (c % 8)∧ay (c / 1024) (c / 64 % 16) (c / 8 % 8) (c % 8)=c:=by
 refine⟨⟨by omega,by omega,by omega,by omega⟩,?_⟩
 unfold ay;omega
theorem Gl (c j k:Nat):(c / 2 ^ j).testBit k=c.testBit (j+k):=by rw[← Nat.shiftRight_eq_div_pow,Nat.testBit_shiftRight]
theorem Gm {c j k:Nat} (h:k<j):(c % 2 ^ j).testBit k=c.testBit k:=by rw[Nat.testBit_mod_two_pow];simp[h]
theorem lX {a b s d:Nat} (h:dW a b s d) (u:Nat) (hu:u<14):aH (ay a b s d) u=if u<4 then a.testBit (3 - u)else if u<8 then b.testBit (7 - u)else if u<11 then s.testBit (10 - u)else d.testBit (13 - u):=by
 obtain⟨h1,h2,h3,h4⟩:=h.parts
 unfold aH
 generalize ay a b s d=c at*
 split
 ·rw[← h1,show(1024:Nat)=2 ^ 10 from rfl,Gl];congr 1;omega
 split
 ·rw[← h2,show(64:Nat)=2 ^ 6 from rfl,show(16:Nat)=2 ^ 4 from rfl,Gm (by omega),Gl];congr 1;omega
 split
 ·rw[← h3]
  show _=(c / 2 ^ 3 % 2 ^ 3).testBit (10 - u)
  rw[Gm (by omega),Gl];congr 1;omega
 ·rw[← h4]
  show _=(c % 2 ^ 3).testBit (13 - u)
  rw[Gm (by omega)]
theorem Gn (F:aj.Fn) (a:Nat):∀(n:Nat) (x:iq),dL F a n x=true↔∃y:iq,(∀u,(u<a∨a+n≤u)→y u=x u)∧F y=true
 |0,x=>⟨fun h=>⟨x,fun _ _=>rfl,h⟩,fun⟨y,h1,h2⟩=>by
   have:y=x:=funext fun u=>h1 u (by omega)
   rw[← this];exact h2⟩
 |n+1,x=>by
  show mP (dL F a n) (a+n) x=true↔_
  rw[zV,Bool.or_eq_true,Gn F a n,Gn F a n]
  constructor
  ·rintro(⟨y,h1,h2⟩ | ⟨y,h1,h2⟩)
   all_goals
    refine⟨y,fun u hu=>?_,h2⟩
    rw[h1 u (by omega),gy _ _ (by omega)]
  ·rintro⟨y,h1,h2⟩
   have hy:∀b,y (a+n)=b→∃y',(∀u,(u<a∨a+n≤u)→y' u=upd x (a+n) b u)∧F y'=true:=fun b hb=>⟨y,fun u hu=>by
    by_cases e:u=a+n
    ·rw[e,upd_same];exact hb
    ·rw[gy _ _ e];exact h1 u (by omega),h2⟩
   cases hb:y (a+n)
   ·exact .inl (hy _ hb)
   ·exact .inr (hy _ hb)
theorem Ct {F:aj.Fn} (hF:aj.Below 14 F) {a n:Nat} (ha:a+n≤14) {x:iq} {z:Nat→iq} (h1:∀v,v<2 ^ n→∀u,u<14→(u<a∨a+n≤u)→z v u=x u) (h2:∀v,v<2 ^ n→∀i,i<n→z v (a+i)=v.testBit (n - 1 - i)):
  dL F a n x=true↔∃v,v<2 ^ n∧F (z v)=true:=by
 rw[Gn]
 constructor
 ·rintro⟨y,h3,h4⟩
  refine⟨pQ (fun i=>y (a+i)) n,wN _ _,?_⟩
  rw[← h4]
  refine hF _ _ fun u hu=>?_
  by_cases e:a≤u∧u<a+n
  ·obtain⟨i,rfl⟩:∃i,u=a+i:=⟨u - a,by omega⟩
   rw[h2 _ (wN _ _) i (by omega),AY _ n i (by omega)]
  ·rw[h1 _ (wN _ _) u hu (by omega),h3 u (by omega)]
 ·rintro⟨v,hv,h4⟩
  refine⟨fun u=>if a≤u∧u<a+n then z v u else x u,fun u hu=>?_,?_⟩
  ·exact if_neg (by omega)
  ·rw[← h4]
   refine hF _ _ fun u hu=>?_
   by_cases e:a≤u∧u<a+n
   ·exact if_pos e
   ·exact(if_neg e).trans (h1 v hv u hu (by omega)).symm
theorem Gp {F:aj.Fn} (hF:aj.Below 14 F) {a b s d:Nat} (h:dW a b s d):dL F 0 4 (aH (ay a b s d))=true↔∃v,v<16∧F (aH (ay v b s d))=true:=
 Ct hF (n:=4) (by omega) (z:=fun v=>aH (ay v b s d)) (fun v hv u hu ho=>by
  rw[lX ⟨hv,h.b,h.s,h.d⟩ u hu,lX h u hu,if_neg (show¬u<4 by omega),if_neg (show¬u<4 by omega)]) (fun v hv i hi=>by
  rw[lX ⟨hv,h.b,h.s,h.d⟩ _ (by omega),if_pos (by omega)];congr 1;omega)
theorem y8 {F:aj.Fn} (hF:aj.Below 14 F) {a b s d:Nat} (h:dW a b s d):dL F 4 4 (aH (ay a b s d))=true↔∃v,v<16∧F (aH (ay a v s d))=true:=
 Ct hF (n:=4) (by omega) (z:=fun v=>aH (ay a v s d)) (fun v hv u hu ho=>by
  rw[lX ⟨h.a,hv,h.s,h.d⟩ u hu,lX h u hu]
  by_cases e:u<4
  ·rw[if_pos e,if_pos e]
  ·rw[if_neg e,if_neg e,if_neg (show¬u<8 by omega),if_neg (show¬u<8 by omega)]) (fun v hv i hi=>by
  rw[lX ⟨h.a,hv,h.s,h.d⟩ _ (by omega),if_neg (by omega),if_pos (by omega)];congr 1;omega)
theorem Xh {F:aj.Fn} (hF:aj.Below 14 F) {a b s d:Nat} (h:dW a b s d):dL F 8 3 (aH (ay a b s d))=true↔∃v,v<8∧F (aH (ay a b v d))=true:=
 Ct hF (n:=3) (by omega) (z:=fun v=>aH (ay a b v d)) (fun v hv u hu ho=>by
  rw[lX ⟨h.a,h.b,hv,h.d⟩ u hu,lX h u hu]
  by_cases e:u<4
  ·rw[if_pos e,if_pos e]
  by_cases e2:u<8
  ·rw[if_neg e,if_neg e,if_pos e2,if_pos e2]
  ·rw[if_neg e,if_neg e,if_neg e2,if_neg e2,if_neg (show¬u<11 by omega),if_neg (show¬u<11 by omega)]) (fun v hv i hi=>by
  rw[lX ⟨h.a,h.b,hv,h.d⟩ _ (by omega),if_neg (by omega),if_neg (by omega),if_pos (by omega)];congr 1;omega)
theorem MF {F:aj.Fn} (hF:aj.Below 14 F) {a b s d:Nat} (h:dW a b s d):dL F 11 3 (aH (ay a b s d))=true↔∃v,v<8∧F (aH (ay a b s v))=true:=
 Ct hF (n:=3) (by omega) (z:=fun v=>aH (ay a b s v)) (fun v hv u hu ho=>by
  rw[lX ⟨h.a,h.b,h.s,hv⟩ u hu,lX h u hu]
  by_cases e:u<4
  ·rw[if_pos e,if_pos e]
  by_cases e2:u<8
  ·rw[if_neg e,if_neg e,if_pos e2,if_pos e2]
  ·rw[if_neg e,if_neg e,if_neg e2,if_neg e2,if_pos (show u<11 by omega),if_pos (show u<11 by omega)]) (fun v hv i hi=>by
  rw[lX ⟨h.a,h.b,h.s,hv⟩ _ (by omega),if_neg (by omega),if_neg (by omega),if_neg (by omega)];congr 1;omega)
theorem Gq {F:aj.Fn} (hF:aj.Below 14 F) {a b s d:Nat} (h:dW a b s d):mH F (aH (ay a b s d))=F (aH (ay b a d s)):=by
 show F _=_
 refine hF _ _ fun u hu=>?_
 rw[lX ⟨h.b,h.a,h.d,h.s⟩ u hu]
 have hx:∀v,v<14→aH (ay a b s d) v=_:=fun v hv=>lX h v hv
 rcases(by omega:u=0∨u=1∨u=2∨u=3∨u=4∨u=5∨u=6∨u=7∨u=8∨u=9∨u=10∨u=11∨u=12∨u=13)with rfl | rfl | rfl | rfl | rfl | rfl | rfl | rfl | rfl | rfl | rfl | rfl | rfl | rfl<;>simp[upd,hx]
theorem gM {F G:aj.Fn} (hF:aj.Below 14 F) (hG:aj.Below 14 G):aj.Below 14 (bf F G):=lY hF hG (aj.Below.const _ _)
theorem YX {F G:aj.Fn} (hF:aj.Below 14 F) (hG:aj.Below 14 G):aj.Below 14 (vO F G):=lY hF (aj.Below.const _ _) hG
theorem Xi {F:aj.Fn} (hF:aj.Below 14 F):aj.Below 14 (qh F):=lY hF (aj.Below.const _ _) (aj.Below.const _ _)
theorem nL (s d p q:Nat):aj.Below 14 (outs (bU s d p q)):=(Oo s d p q).2.2.2
theorem jF {F:aj.Fn} (hF:aj.Below 14 F) (a:Nat):∀n,aj.Below 14 (dL F a n)
 |0=>hF
 |n+1=>fun x y h=>by
  show mP (dL F a n) (a+n) x=mP (dL F a n) (a+n) y
  rw[zV,zV]
  have h2:∀b,dL F a n (upd x (a+n) b)=dL F a n (upd y (a+n) b):=fun b=>jF hF a n _ _ fun u hu=>by
   by_cases e:u=a+n
   ·rw[e,upd_same,upd_same]
   ·rw[gy _ _ e,gy _ _ e];exact h u hu
  rw[h2,h2]
theorem J8 {F:aj.Fn} (hF:aj.Below 14 F) {i j:Nat} (hi:i<14) (hj:j<14):aj.Below 14 (xO F i j):=fun x y h=>by
 unfold xO
 refine hF _ _ fun u hu=>?_
 rw[h i hi,h j hj]
 by_cases e:u=i
 ·rw[e,upd_same,upd_same]
 ·rw[gy _ _ e,gy _ _ e]
  by_cases e2:u=j
  ·rw[e2,upd_same,upd_same]
  ·rw[gy _ _ e2,gy _ _ e2];exact h u hu
theorem Hq {F:aj.Fn} (hF:aj.Below 14 F):∀n,n≤4→aj.Below 14 (qE F n)
 |0,_=>hF
 |n+1,h=>J8 (i:=n) (j:=n+4) (Hq hF n (by omega)) (by omega) (by omega)
theorem Hr {F:aj.Fn} (hF:aj.Below 14 F):∀n,n≤3→aj.Below 14 (zK F n)
 |0,_=>hF
 |n+1,h=>J8 (i:=n+8) (j:=n+11) (Hr hF n (by omega)) (by omega) (by omega)
theorem zW {F:aj.Fn} (hF:aj.Below 14 F):aj.Below 14 (mH F):=Hr (Hq hF 4 (by omega)) 3 (by omega)
theorem Cu:∀l,aj.Below 14 (dB l)
 |[]=>aj.Below.const _ _
 |r::l=>lY (nL _ _ _ _) (aj.Below.const _ _) (Cu l)
def gN (S:Pl→aj.Fn):Prop:=∀x,aj.Below 14 (S x)
theorem gN.send {S:Pl→aj.Fn} (h:gN S) (ls:List ah) (y:Pl) {F:aj.Fn} (hF:aj.Below 14 F):gN (eH ls y F S):=fun x=>by
 unfold eH
 cases aD ls y with
 |none=>exact h x
 |some z=>
  show aj.Below 14 (if z=x then vO (S z) F else S x)
  split
  ·exact YX (h z) hF
  ·exact h x
theorem gN.dev {Sw S:Pl→aj.Fn} (hw:gN Sw) (h:gN S) (ls:List ah) (i:Nat) (d:Dev):gN (BH ls i d Sw S):=by
 unfold BH
 split
 ·unfold yZ
  have hr:∀k o,gN (qK ls i d.routes d.rules Sw S k)→gN (qF ls i d.routes (bf (Sw ((i:Int),(k:Int))) (dB d.rules)) (qK ls i d.routes d.rules Sw S k) o):=fun k o hk=>by
   induction o with
   |zero=>exact hk
   |succ o ih=>exact ih.send _ _ (gM (gM (hw _) (Cu _)) (nL _ _ _ _))
  have hi:∀k,gN (qK ls i d.routes d.rules Sw S k):=fun k=>by
   induction k with
   |zero=>exact h
   |succ k ih=>exact hr k 4 ih
  exact hi 4
 split
 ·unfold sP
  have h1:=gM (hw ((i:Int),0)) (Cu d.rules)
  split
  ·exact(h.send _ _ h1).send _ _ (gM (hw _) (zW h1))
  ·exact h.send _ _ h1
 split
 ·unfold wV
  have h1:aj.Below 14 (bf (yj i Sw) (bI (wU d.addr.toNat d.pool))):=gM (jF (jF (hw _) _ _) _ _) (nL _ _ _ _)
  split
  ·exact(h.send _ _ h1).send _ _ (gM (jF (jF (gM (hw _) (nL _ _ _ _)) _ _) _ _) (zW (jF (jF (hw _) _ _) _ _)))
  ·exact h.send _ _ h1
 split
 ·unfold zR oD
  have hq:aj.Below 14 (kT i d.addr.toNat Sw):=gM (hw _) (nL _ _ _ _)
  have ht:∀b,aj.Below 14 (sO (kT i d.addr.toNat Sw) b):=fun b=>gM (jF hq _ _) (nL _ _ _ _)
  have h0:gN (Gh ls i d.addr.toNat Sw S):=(h.send _ _ (gM (hw _) (Xi (nL _ _ _ _)))).send _ _ (hw _)
  have hs:∀b T,gN T→gN (kX ls i d.addr.toNat Sw b T):=fun b T hT=>by
   unfold kX
   split
   ·exact(hT.send _ _ (ht b)).send _ _ (gM (jF (gM (hw _) (zW (ht b))) _ _) (nL _ _ _ _))
   ·exact hT.send _ _ (ht b)
  generalize List.take _ d.backs=l
  generalize Gh ls i d.addr.toNat Sw S=T at h0
  induction l generalizing T with
  |nil=>exact h0
  |cons b l ih=>exact ih _ (hs _ _ h0)
 ·exact h
end Go.Proofs.YtifkacnoiocebaaGreat
