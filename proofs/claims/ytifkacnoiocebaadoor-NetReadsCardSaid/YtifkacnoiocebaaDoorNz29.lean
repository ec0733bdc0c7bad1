/- A part of the proof: Nq13, No2, Nq14, CardB. -/
import Derived.Test.YtifkacnoiocebaaDoorNz28
import Derived.Deep.DeepHandedRow
import Derived.LaidMore
import Derived.Shelf.Vars
import Derived.ChangeMaps5
set_option linter.unusedVariables false
set_option linter.unusedSimpArgs false
set_option maxRecDepth 100000
set_option maxHeartbeats 8000000
namespace Go.Proofs.YtifkacnoiocebaaDoor
open Go.RowKit
def kg (l:List UInt8):List (List UInt8):=if(aW l).2=true then(aW l).1 else(aW l).1.dropLast
theorem zY (l:List UInt8) (h:4096<l.length):iP l=(⟨[],[]⟩,0,2):=by unfold iP;rw[if_pos h]
theorem AV (l:List UInt8) (h:¬ 4096<l.length):iP l=match iF ⟨[],[]⟩ 1 (kg l)with
  |.inr k=>(⟨[],[]⟩,k,3)
  |.inl S=>if(aW l).2=false then(⟨[],[]⟩,(aW l).1.length,3)else if jN S.ds S.ls=0 then(S,0,0)else(⟨[],[]⟩,0,jN S.ds S.ls):=by
 unfold iP
 rw[if_neg h]
 rfl
theorem yX (l:List UInt8):(aW l).1.length ≤l.length+1∧((aW l).2=false→0<(aW l).1.length)∧∀x∈(aW l).1,x.length≤l.length:=by
 have h1:=eO 10 l
 have h2:=dU 10 l
 have h3:=iJ 10 l
 unfold aW
 split
 ·exact⟨by simp only[List.length_dropLast];omega,fun h=>(nomatch h),fun x hx=>h3 x (List.dropLast_subset _ hx)⟩
 ·exact⟨by omega,fun _=>h2,h3⟩
theorem zZ (l:List UInt8) {i:Nat} {x:List UInt8} (hx:(aW l).1[i]?=some x) (h:(aW l).2=true∨i+1<(aW l).1.length):(kg l).drop i=x::(kg l).drop (i+1):=by
 have hi:(kg l)[i]?=some x:=by
  unfold kg
  split
  ·exact hx
  ·rcases h with h | h
   ·contradiction
   ·rw[List.getElem?_dropLast,if_pos (by omega)];exact hx
 obtain⟨hl,e⟩:=List.getElem?_eq_some_iff.1 hi
 rw[List.drop_eq_getElem_cons hl,e]
theorem yY (l:List UInt8) {i:Nat} (h:(aW l).2=false) (hi:i+1=(aW l).1.length):(kg l).drop i=[]:=by
 unfold kg
 rw[if_neg (by rw[h];simp)]
 exact List.drop_of_length_le (by rw[List.length_dropLast];omega)
theorem xY (l:List UInt8) {i:Nat} (h:(aW l).2=true) (hi:i=(aW l).1.length):(kg l).drop i=[]:=by
 unfold kg
 rw[if_pos h]
 exact List.drop_of_length_le (by omega)
theorem xZ (l:List UInt8) (W:World):
  Calls Tryd.prog 6 #[.string ⟨l.toArray⟩] W (uj l W):=by
 have mE:(⟨l.toArray⟩:ByteArray).size =l.length:=List.size_toArray
 have iO:=hide (Bx.new W #[.slice none 0 0,.slice none 0 0] 25)
 have HB0:=hide (below_alloc2 W (.cells #[.slice none 0 0,.slice none 0 0] 25))
 have hsz0:(W.alloc (.cells #[.slice none 0 0,.slice none 0 0] 25)).heap.size =W.heap.size+1:=by simp
 by_cases hbig:4096<l.length
 ·have HR:=hide (zY l hbig)
  obtain⟨nl,hnl⟩:∃nl,l.length=nl:=⟨_,rfl⟩
  rw[hnl]at mE hbig
  obtain⟨s,hss⟩:∃s:ByteArray,⟨l.toArray⟩=s:=⟨_,rfl⟩
  rw[hss]at mE ⊢
  obtain⟨z0,z1,z2,z3⟩:=kM iO.out
  clear hnl hss
  go_enter Tryd.func6,Tryd.ntmps6
  go_wp2_with fail
  refine bodyPost_ret (v:=.tuple #[.agg #[.slice none 0 0,.slice none 0 0],.int .i64 0,.int .i64 2]) (by simp[results,Tryd.f6,go_sem,z0,z1]) rfl ?_
  exact iY HR.out HB0.out
 have hrf:=AV l hbig
 have hl4:l.length≤4096:=by omega
 have oV:=hide (fun w=>yV l w hl4)
 obtain⟨hm1,hm2,Ea⟩:=yX l
 have HAT:=hide (fun i x=>zZ l (i:=i) (x:=x))
 have Cj:=hide (fun i=>yY l (i:=i))
 have qC:=hide (fun i=>xY l (i:=i))
 obtain⟨Ls,EO⟩:∃Ls,(aW l).1=Ls:=⟨_,rfl⟩
 obtain⟨o,ho⟩:∃o,(aW l).2=o:=⟨_,rfl⟩
 obtain⟨Li,EP⟩:∃Li,kg l=Li:=⟨_,rfl⟩
 obtain⟨rl,hrl⟩:∃rl,iF ⟨[],[]⟩ 1 Li=rl:=⟨_,rfl⟩
 simp only[EO,ho,EP]at hrf oV HAT Cj qC hm1 hm2 Ea
 rw[hrl]at hrf
 obtain⟨m,hm⟩:∃m,Ls.length=m:=⟨_,rfl⟩
 rw[hm]at hrf oV HAT Cj qC hm1 hm2
 have HM:=hide hm
 have HR:=hide hrf
 have AX:=hide hrl
 have IE:m≤4097:=by omega
 have CJ:=hide (fun x hx=>Nat.le_trans (Ea x hx) hl4)
 have hle:decide (4096<l.length)=false:=decide_eq_false hbig
 obtain⟨nl,hnl⟩:∃nl,l.length=nl:=⟨_,rfl⟩
 rw[hnl]at mE hle
 have Hg:decide ((4096:Int)<(nl:Int))=false:=decide_eq_false (by have:=of_decide_eq_false hle;omega)
 clear hrf hrl EO ho EP hm Ea hm1 hbig hl4 hnl
 obtain⟨W1,hW1⟩:∃W1,W1=W.alloc (.cells #[.slice none 0 0,.slice none 0 0] 25):=⟨_,rfl⟩
 obtain⟨B,hB⟩:∃B,W.heap.size=B:=⟨_,rfl⟩
 rw[← hW1,hB]at iO HB0 hsz0
 obtain⟨s,hss⟩:∃s:ByteArray,⟨l.toArray⟩=s:=⟨_,rfl⟩
 rw[hss]at mE oV ⊢
 clear hss
 go_enter Tryd.func6,Tryd.ntmps6
 go_wp2_with fail
 rw[← hW1]
 refine(oV.out _).mono ?_
 rintro e w1 ⟨g,c,rfl,hg,hcell,hb1⟩
 have HB1:=hide (HB0.out.trans (hb1.mono (by omega)))
 have Eb:=hide (iO.out.below hb1)
 have AY:B<w1.heap.size:=Eb.out.lt
 have HC:=hide hcell
 obtain⟨R,hRs⟩:∃R,w1.heap.size=R:=⟨_,rfl⟩
 obtain⟨W2,hW2⟩:∃W2,W2=w1.alloc (.cells #[.slice none 0 0,.slice none 0 0] 25):=⟨_,rfl⟩
 have AZ:=hide (show Bx W2 R #[.slice none 0 0,.slice none 0 0] 25 from by rw[hW2,← hRs];exact Bx.new w1 _ _)
 have HB2:=hide (show Below R w1 W2 from by rw[hW2,← hRs];exact below_alloc2 w1 _)
 have BR:=hide (show iV jI 25 W2 R ⟨[],[]⟩from⟨[],.slice none 0 0,.slice none 0 0,AZ.out,NG.start W2 _,rfl⟩)
 have Ec:B≤R:=by omega
 rw[hRs]at AY
 have xR:=hide (Eb.out.same (HB2.out.block B AY))
 have hgR:g<R:=by omega
 clear hb1 hcell oV hg
 go_wp2_with fail
 rw[← hW2]
 go_loopw [8] (fun iv wr=>∃(i:Nat) (S:dJ),iv= .int .i64 (i:Int)∧i≤m∧(o=false→i<m)∧Hid (iF S (i+1) (Li.drop i)=rl)∧Hid (iV jI 25 wr R S)∧Hid (cK S i)∧Hid (Below R W2 wr)) (fun iv _=>m - (intOf iv).toNat)
 case atStart=>exact⟨0,⟨[],[]⟩,rfl,by omega,fun h=>hm2 h,hide (by rw[List.drop_zero];exact AX.out),BR,hide ⟨by simp,by simp,fun d hd=>(nomatch hd),fun d hd=>(nomatch hd)⟩,hide (Below.refl _ _)⟩
 case round=>
  obtain⟨i,S,rfl,him,hoi,kW,jc,qU,aV⟩:=hrel
  have pF:=hide (HB1.out.trans ((HB2.out.trans aV.out).mono Ec))
  have Ed:=hide (xR.out.same (aV.out.block B AY))
  by_cases hlt:i<m
  case neg=>
   obtain rfl:i=m:=by omega
   obtain rfl:o=true:=by
    cases o
    ·exact absurd (hoi rfl) (by omega)
    ·rfl
   have hin: .inl S=rl:=by
    have h:=kW.out
    rw[qC.out i rfl rfl]at h
    exact h
   rw[← hin]at HR
   have HR:=hide (show iP l=if jN S.ds S.ls=0 then(S,0,0)else(⟨[],[]⟩,0,jN S.ds S.ls)from HR.out)
   obtain⟨ds,V,L,hbx,aR,hds⟩:=jc.out
   have aL:Bx wr R #[V,L] 25:=hbx
   obtain⟨dA,dc,rfl,_⟩:=bD.dw ah.len aR.d rfl
   obtain⟨lA,lc,rfl,_⟩:=bD.dw aJ.len aR.l rfl
   have um:=hide (kZ ⟨dA,ds.length,dc,ds,lA,S.ls.length,lc,S.ls⟩ wr aR.tC)
   have hdv:fA.l9 ⟨dA,ds.length,dc,ds,lA,S.ls.length,lc,S.ls⟩=S.ds:=hds
   rw[hdv]at um
   have r0:wr.cell? ⟨R,0,none⟩=some (.slice dA ds.length dc):=aL.get 0 _ rfl
   have r1:wr.cell? ⟨R,1,none⟩=some (.slice lA S.ls.length lc):=aL.get 1 _ rfl
   have fO:=hide aR
   have fq:=hide aL
   obtain⟨E,hE⟩:∃E,jN S.ds S.ls=E:=⟨_,rfl⟩
   simp only[fA.val,hE]at um HR
   have jE:=hide hds
   clear hbx aL aR hds jc kW hE qU hin
   go_wp2_with fail
   refine um.out.mono ?_
   rintro e w5 ⟨rfl,hb5⟩
   have BS:=hide (fO.out.below hb5)
   have qL:=hide (fq.out.below hb5)
   have pq:=hide (pF.out.trans (hb5.mono (by have:=fq.out.lt;omega)))
   have CK:=hide (Ed.out.below hb5)
   obtain⟨z0,z1,z2,z3⟩:=kM CK.out
   have s0:w5.cell? ⟨R,0,none⟩=some (.slice dA ds.length dc):=qL.out.get 0 _ rfl
   have s1:w5.cell? ⟨R,1,none⟩=some (.slice lA S.ls.length lc):=qL.out.get 1 _ rfl
   clear hb5 um fO fq aV pF r0 r1
   by_cases hE0:E=0
   case neg=>
    rw[if_neg hE0]at HR
    have e2:(E ==0)=false:=by simpa using hE0
    have e3:(E != 0)=true:=by simpa using hE0
    go_wp2_with fail
    refine bodyPost_ret (v:=.tuple #[.agg #[.slice none 0 0,.slice none 0 0],.int .i64 0,.int .i64 E]) (by simp[results,Tryd.f6,go_sem,z0,z1]) rfl ?_
    exact iY HR.out (by rw[hB];exact(pq.out.setCell (p:=⟨B,0,none⟩) (Nat.le_refl B) _).setCell (p:=⟨B,1,none⟩) (Nat.le_refl B) _)
   case pos=>
    subst hE0
    rw[if_pos rfl]at HR
    have Fy:=hide ((CK.out.set 0 (.slice dA ds.length dc)).set 1 (.slice lA S.ls.length lc))
    have uM:=hide ((pq.out.setCell (p:=⟨B,0,none⟩) (Nat.le_refl B) (.slice dA ds.length dc)).setCell (p:=⟨B,1,none⟩) (Nat.le_refl B) (.slice lA S.ls.length lc))
    have BU:=hide (BS.out.same (w':=(w5.setCell ⟨B,0,none⟩ (.slice dA ds.length dc)).setCell ⟨B,1,none⟩ (.slice lA S.ls.length lc)) (fun q h1 h2=>(RowKit.Below.heap_setCell _ _ _ _ (show q≠B by omega)).trans (RowKit.Below.heap_setCell _ _ _ _ (show q≠B by omega))))
    obtain⟨y0,y1,y2,y3⟩:=kM (a:=.slice dA ds.length dc) (b:=.slice lA S.ls.length lc) Fy.out
    go_wp2_with fail
    refine bodyPost_ret (v:=.tuple #[.agg #[.slice dA ds.length dc,.slice lA S.ls.length lc],.int .i64 0,.int .i64 0]) (by simp[results,Tryd.f6,go_sem,y0,y1]) rfl ?_
    exact⟨by rw[hB];exact uM.out,_,by rw[HR.out];rfl,BU.out.tC,by rw[HR.out];exact jE.out,by rw[HR.out]⟩
  case pos=>
   have uI:(i:Int)<(m:Int):=by omega
   obtain⟨x,hx⟩:∃x,Ls[i]?=some x:=⟨Ls[i]'(by rw[HM.out];exact hlt),List.getElem?_eq_getElem _⟩
   have q0:wr.cell? ⟨g,i,none⟩=some (.string ⟨x.toArray⟩):=(aV.out.cell (p:=⟨g,i,none⟩) hgR).trans ((HB2.out.cell (p:=⟨g,i,none⟩) hgR).trans (HC.out i x hx))
   by_cases Ee:i+1=m
   ·have d1:((i:Int)==(m:Int) - 1)=true:=by simp;omega
    cases o
    ·have hin: .inl S=rl:=by
      have h:=kW.out
      rw[Cj.out i rfl Ee]at h
      exact h
     rw[← hin]at HR
     have A8:=hide (show iP l=(⟨[],[]⟩,i+1,3)from by rw[HR.out,Ee];rfl)
     obtain⟨z0,z1,z2,z3⟩:=kM Ed.out
     clear HR hin kW jc qU
     go_wp2_with fail
     refine bodyPost_ret (v:=.tuple #[.agg #[.slice none 0 0,.slice none 0 0],.int .i64 ((i+1:Nat):Int),.int .i64 3]) (by simp[results,Tryd.f6,go_sem,z0,z1]) rfl ?_
     exact iY A8.out (by rw[hB];exact(pF.out.setCell (p:=⟨B,0,none⟩) (Nat.le_refl B) _).setCell (p:=⟨B,1,none⟩) (Nat.le_refl B) _)
    ·have A9:=hide (HAT.out i x hx (.inl rfl))
     have nJ:=hide (show(match gB S (pieces 32 x)with | some S'=>iF S' (i+1+1) (Li.drop (i+1)) | none=>.inr (i+1))=rl from by
      have h:=kW.out
      rw[A9.out]at h
      exact h)
     have hxl:x.length≤4096:=CJ.out x (List.mem_of_getElem? hx)
     have dR:=hide (fun w=>iK x 32 w (by omega))
     have oh:=hide (o9 hxl)
     obtain⟨y,rest,Ba⟩:∃y rest,pieces 32 x=y::rest:=by
      have hpn:=dU 32 x
      cases hc:pieces 32 x with
      |nil=>rw[hc]at hpn;simp at hpn
      |cons a t=>exact⟨a,t,rfl⟩
     obtain⟨n,hn⟩:∃n,(pieces 32 x).length =n:=⟨_,rfl⟩
     rw[hn]at dR
     rw[Ba]at dR nJ oh
     have xS:=hide (qU.out.mono (show i≤10000 by omega))
     clear kW A9 Ba hn hx hxl
     go_wp2_with fail
     refine(dR.out _).mono ?_
     rintro e w5 ⟨gp,cp,rfl,hst,hb5⟩
     have hRr:R<wr.heap.size:=jc.out.lt
     have qV:=hide (jc.out.below hb5)
     have gN:=hide (aV.out.trans (hb5.mono (by omega)))
     have oV:=hide (ru R S y rest wr.heap.size gp n cp w5 qV.out xS.out hst oh.out (by have:=hst.lt.1;omega))
     clear hb5 hst dR jc aV
     go_wp2_with fail
     refine oV.out.mono ?_
     intro e w7 hlr
     obtain⟨qW,hcase⟩:=hlr
     have sJ:=hide (gN.out.trans qW)
     clear oV qV gN qW
     rcases hcase with⟨hr,rfl⟩ | ⟨S',hr,rfl,hrd⟩
     ·rw[hr]at nJ
      have A8:=hide (show iP l=(⟨[],[]⟩,i+1,3)from by rw[HR.out,← nJ.out])
      have xU:=hide (HB1.out.trans ((HB2.out.trans sJ.out).mono Ec))
      obtain⟨z0,z1,z2,z3⟩:=kM (xR.out.same (sJ.out.block B AY))
      clear hr nJ HR
      go_wp2_with fail
      refine bodyPost_ret (v:=.tuple #[.agg #[.slice none 0 0,.slice none 0 0],.int .i64 ((i+1:Nat):Int),.int .i64 3]) (by simp[results,Tryd.f6,go_sem,z0,z1]) rfl ?_
      exact iY A8.out (by rw[hB];exact(xU.out.setCell (p:=⟨B,0,none⟩) (Nat.le_refl B) _).setCell (p:=⟨B,1,none⟩) (Nat.le_refl B) _)
     ·rw[hr]at nJ
      have nJ:=hide (show iF S' (i+1+1) (Li.drop (i+1))=rl from nJ.out)
      have xV:=hide (qU.out.line hr)
      have xW:=hide hrd
      clear hr hrd
      go_wp2_with fail
      go_roundw
      case rel=>exact⟨i+1,S',by go_num,by omega,fun h=>(nomatch h),nJ,xW,xV,sJ⟩
      case measure=>simp[intOf];omega
   ·have d1:((i:Int)==(m:Int) - 1)=false:=by simp;omega
    have A9:=hide (HAT.out i x hx (.inr (by omega)))
    have nJ:=hide (show(match gB S (pieces 32 x)with | some S'=>iF S' (i+1+1) (Li.drop (i+1)) | none=>.inr (i+1))=rl from by
     have h:=kW.out
     rw[A9.out]at h
     exact h)
    have hxl:x.length≤4096:=CJ.out x (List.mem_of_getElem? hx)
    have dR:=hide (fun w=>iK x 32 w (by omega))
    have oh:=hide (o9 hxl)
    obtain⟨y,rest,Ba⟩:∃y rest,pieces 32 x=y::rest:=by
     have hpn:=dU 32 x
     cases hc:pieces 32 x with
     |nil=>rw[hc]at hpn;simp at hpn
     |cons a t=>exact⟨a,t,rfl⟩
    obtain⟨n,hn⟩:∃n,(pieces 32 x).length =n:=⟨_,rfl⟩
    rw[hn]at dR
    rw[Ba]at dR nJ oh
    have xS:=hide (qU.out.mono (show i≤10000 by omega))
    clear kW A9 Ba hn hx hxl
    go_wp2_with fail
    refine(dR.out _).mono ?_
    rintro e w5 ⟨gp,cp,rfl,hst,hb5⟩
    have hRr:R<wr.heap.size:=jc.out.lt
    have qV:=hide (jc.out.below hb5)
    have gN:=hide (aV.out.trans (hb5.mono (by omega)))
    have oV:=hide (ru R S y rest wr.heap.size gp n cp w5 qV.out xS.out hst oh.out (by have:=hst.lt.1;omega))
    clear hb5 hst dR jc aV
    go_wp2_with fail
    refine oV.out.mono ?_
    intro e w7 hlr
    obtain⟨qW,hcase⟩:=hlr
    have sJ:=hide (gN.out.trans qW)
    clear oV qV gN qW
    rcases hcase with⟨hr,rfl⟩ | ⟨S',hr,rfl,hrd⟩
    ·rw[hr]at nJ
     have A8:=hide (show iP l=(⟨[],[]⟩,i+1,3)from by rw[HR.out,← nJ.out])
     have xU:=hide (HB1.out.trans ((HB2.out.trans sJ.out).mono Ec))
     obtain⟨z0,z1,z2,z3⟩:=kM (xR.out.same (sJ.out.block B AY))
     clear hr nJ HR
     go_wp2_with fail
     refine bodyPost_ret (v:=.tuple #[.agg #[.slice none 0 0,.slice none 0 0],.int .i64 ((i+1:Nat):Int),.int .i64 3]) (by simp[results,Tryd.f6,go_sem,z0,z1]) rfl ?_
     exact iY A8.out (by rw[hB];exact(xU.out.setCell (p:=⟨B,0,none⟩) (Nat.le_refl B) _).setCell (p:=⟨B,1,none⟩) (Nat.le_refl B) _)
    ·rw[hr]at nJ
     have nJ:=hide (show iF S' (i+1+1) (Li.drop (i+1))=rl from nJ.out)
     have xV:=hide (qU.out.line hr)
     have xW:=hide hrd
     clear hr hrd
     go_wp2_with fail
     go_roundw
     case rel=>exact⟨i+1,S',by go_num,by omega,fun _=>by omega,nJ,xW,xV,sJ⟩
     case measure=>simp[intOf];omega
open Go.Maps
theorem vU (l:List aJ) (A1 A2:Option Addr) (n c1 c2:Nat) (W:World) (hn:n≤9223372036854775807) (h1:bD aJ.cells 4 W W.heap.size A1 n l) (h2:bD aJ.cells 4 W W.heap.size A2 n l):
  Calls Tryd.prog 17 #[.slice A1 n c1,.slice A2 n c2] W fun e W'=>e= .returned (.bool true)∧RowKit.Below W.heap.size W W':=by
 have H1:=hide h1
 have H2:=hide h2
 clear h1 h2
 go_enter Tryd.func17,Tryd.ntmps17
 go_wp2
 go_loopw [13] (fun i wr=>∃k:Nat,k≤n∧i= .int .i64 k∧Hid (RowKit.Below W.heap.size W wr)) (fun i _=>n - (intOf i).toNat)
 case atStart=>exact⟨0,Nat.zero_le _,rfl,hide (RowKit.Below.refl _ _)⟩
 case round=>
  obtain⟨k,hk,rfl,HB⟩:=hrel
  by_cases hlt:k<n
  ·obtain⟨z,hz⟩:∃r,l[k]?=some r:=⟨_,List.getElem?_eq_getElem (by have:=H1.out.1;omega)⟩
   obtain⟨b,o,rfl,_,_⟩:=H1.out.2 (by omega)
   obtain⟨b',o',rfl,_,_⟩:=H2.out.2 (by omega)
   obtain⟨_,hg⟩:=(H1.out.below HB.out HB.out.size).get hz
   obtain⟨_,hg'⟩:=(H2.out.below HB.out HB.out.size).get hz
   have q0:=hg 0 _ rfl
   have q1:=hg 1 _ rfl
   have q2:=hg 2 _ rfl
   have p0:=hg' 0 _ rfl
   have p1:=hg' 1 _ rfl
   have p2:=hg' 2 _ rfl
   have q3:=hg 3 _ rfl
   have p3:=hg' 3 _ rfl
   clear hg hg' hz
   rw[Nat.add_zero]at q0 p0
   go_wp2
   go_quiet (fail)
   go_wp2
   go_roundw
   case rel=>exact⟨k+1,by omega,by go_num,hide (HB.out.trans (aP _ _ _))⟩
   case measure=>simp[intOf];omega
  ·go_wp2
   go_ret
   exact⟨rfl,HB.out⟩
theorem vV (l:List bN) (A1 A2:Option Addr) (n c1 c2:Nat) (W:World) (hn:n≤9223372036854775807) (h1:bD bN.cells 5 W W.heap.size A1 n l) (h2:bD bN.cells 5 W W.heap.size A2 n l):
  Calls Tryd.prog 21 #[.slice A1 n c1,.slice A2 n c2] W fun e W'=>e= .returned (.bool true)∧RowKit.Below W.heap.size W W':=by
 have H1:=hide h1
 have H2:=hide h2
 clear h1 h2
 go_enter Tryd.func21,Tryd.ntmps21
 go_wp2
 go_loopw [13] (fun i wr=>∃k:Nat,k≤n∧i= .int .i64 k∧Hid (RowKit.Below W.heap.size W wr)) (fun i _=>n - (intOf i).toNat)
 case atStart=>exact⟨0,Nat.zero_le _,rfl,hide (RowKit.Below.refl _ _)⟩
 case round=>
  obtain⟨k,hk,rfl,HB⟩:=hrel
  by_cases hlt:k<n
  ·obtain⟨z,hz⟩:∃r,l[k]?=some r:=⟨_,List.getElem?_eq_getElem (by have:=H1.out.1;omega)⟩
   obtain⟨b,o,rfl,_,_⟩:=H1.out.2 (by omega)
   obtain⟨b',o',rfl,_,_⟩:=H2.out.2 (by omega)
   obtain⟨_,hg⟩:=(H1.out.below HB.out HB.out.size).get hz
   obtain⟨_,hg'⟩:=(H2.out.below HB.out HB.out.size).get hz
   have q0:=hg 0 _ rfl
   have q1:=hg 1 _ rfl
   have q2:=hg 2 _ rfl
   have p0:=hg' 0 _ rfl
   have p1:=hg' 1 _ rfl
   have p2:=hg' 2 _ rfl
   have q3:=hg 3 _ rfl
   have p3:=hg' 3 _ rfl
   have q4:=hg 4 _ rfl
   have p4:=hg' 4 _ rfl
   clear hg hg' hz
   rw[Nat.add_zero]at q0 p0
   go_wp2
   go_quiet (fail)
   go_wp2
   go_roundw
   case rel=>exact⟨k+1,by omega,by go_num,hide (HB.out.trans (aP _ _ _))⟩
   case measure=>simp[intOf];omega
  ·go_wp2
   go_ret
   exact⟨rfl,HB.out⟩
theorem uO (l:List bf) (A1 A2:Option Addr) (n c1 c2:Nat) (W:World) (hn:n≤9223372036854775807) (h1:bD bf.cells 3 W W.heap.size A1 n l) (h2:bD bf.cells 3 W W.heap.size A2 n l):
  Calls Tryd.prog 22 #[.slice A1 n c1,.slice A2 n c2] W fun e W'=>e= .returned (.bool true)∧RowKit.Below W.heap.size W W':=by
 have H1:=hide h1
 have H2:=hide h2
 clear h1 h2
 go_enter Tryd.func22,Tryd.ntmps22
 go_wp2
 go_loopw [13] (fun i wr=>∃k:Nat,k≤n∧i= .int .i64 k∧Hid (RowKit.Below W.heap.size W wr)) (fun i _=>n - (intOf i).toNat)
 case atStart=>exact⟨0,Nat.zero_le _,rfl,hide (RowKit.Below.refl _ _)⟩
 case round=>
  obtain⟨k,hk,rfl,HB⟩:=hrel
  by_cases hlt:k<n
  ·obtain⟨z,hz⟩:∃r,l[k]?=some r:=⟨_,List.getElem?_eq_getElem (by have:=H1.out.1;omega)⟩
   obtain⟨b,o,rfl,_,_⟩:=H1.out.2 (by omega)
   obtain⟨b',o',rfl,_,_⟩:=H2.out.2 (by omega)
   obtain⟨_,hg⟩:=(H1.out.below HB.out HB.out.size).get hz
   obtain⟨_,hg'⟩:=(H2.out.below HB.out HB.out.size).get hz
   have q0:=hg 0 _ rfl
   have q1:=hg 1 _ rfl
   have q2:=hg 2 _ rfl
   have p0:=hg' 0 _ rfl
   have p1:=hg' 1 _ rfl
   have p2:=hg' 2 _ rfl
   clear hg hg' hz
   rw[Nat.add_zero]at q0 p0
   go_wp2
   go_quiet (fail)
   go_wp2
   go_roundw
   case rel=>exact⟨k+1,by omega,by go_num,hide (HB.out.trans (aP _ _ _))⟩
   case measure=>simp[intOf];omega
  ·go_wp2
   go_ret
   exact⟨rfl,HB.out⟩
theorem vH (w:World) (o o':Obj):RowKit.Below w.heap.size w ((w.alloc o).alloc o'):=(below_alloc2 w o).trans ((below_alloc2 (w.alloc o) o').mono (below_alloc2 w o).size)
structure nQ (w:World) (B:Nat) (x y:ah):Prop where
 ax:gL w B x
 ay:gL w B y
 e:x.dev=y.dev
theorem nQ.below {w w':World} {B B':Nat} {x y:ah} (h:nQ w B x y) (hB:RowKit.Below B w w') (hB':B≤B'):nQ w' B' x y:=⟨h.ax.below hB hB',h.ay.below hB hB',h.e⟩
theorem nQ.lens {w:World} {B:Nat} {x y:ah} (h:nQ w B x y):x.bn=y.bn∧x.rn=y.rn∧x.tn=y.tn:=by
 have h1:=h.ax.bs.1
 have h2:=h.ay.bs.1
 have h3:=h.ax.rs.1
 have h4:=h.ay.rs.1
 have h5:=h.ax.ts.1
 have h6:=h.ay.ts.1
 obtain⟨_,_,_,_,_,_,_,b1,_,_,_,r1,_,_,_,t1⟩:=x
 obtain⟨_,_,_,_,_,_,_,b2,_,_,_,r2,_,_,_,t2⟩:=y
 have he:=h.e
 simp only[ah.dev,Dev.mk.injEq]at he h1 h2 h3 h4 h5 h6 ⊢
 obtain⟨_,_,_,_,rfl,rfl,rfl⟩:=he
 omega
theorem x9 (x y:ah) (W:World) (h:nQ W W.heap.size x y):
  Calls Tryd.prog 19 #[x.val,y.val] W fun e W'=>e= .returned (.bool true)∧RowKit.Below W.heap.size W W':=by
 have HS:=hide h
 obtain⟨l1,l2,l3⟩:=h.lens
 have he:=h.e
 have hc1:=h.ax.cb
 have hc2:=h.ax.cr
 have hc3:=h.ax.ct
 clear h
 obtain⟨nm,kd,ad,pl,bA,bn,bc,bs,rA,rn,rc,rs,tA,tn,tc,ts⟩:=x
 obtain⟨nm',kd',Dj,Ef,vI,ER,bc',bs',vJ,ES,rc',rs',vK,ET,vL,ts'⟩:=y
 simp only[ah.dev,Dev.mk.injEq,ah.val,maxLen]at*
 obtain⟨rfl,rfl,rfl,hpl,rfl,rfl,rfl⟩:=he
 obtain rfl:pl=Ef:=by omega
 subst l1 l2 l3
 have EU:=hide (fun(w':World) (hb:RowKit.Below W.heap.size W w')=>Bb bs bA vI bn bc bc' w' (by omega) (HS.out.below hb hb.size).ax.bs (HS.out.below hb hb.size).ay.bs)
 have EW:=hide (fun(w':World) (hb:RowKit.Below W.heap.size W w')=>vV rs rA vJ rn rc rc' w' (by omega) (HS.out.below hb hb.size).ax.rs.sl (HS.out.below hb hb.size).ay.rs.sl)
 have EX:=hide (fun(w':World) (hb:RowKit.Below W.heap.size W w')=>uO ts tA vK tn tc vL w' (by omega) (HS.out.below hb hb.size).ax.ts (HS.out.below hb hb.size).ay.ts)
 clear HS
 go_enter Tryd.func19,Tryd.ntmps19
 go_wp2_with fail
 have HB2:=hide (vH W (.cells #[.string nm,.int .i64 kd,.int .i64 ad,.int .u8 (pl:Int),.slice bA bn bc,.slice rA rn rc,.slice tA tn tc] 37) (.cells #[.string nm,.int .i64 kd,.int .i64 ad,.int .u8 (pl:Int),.slice vI bn bc',.slice vJ rn rc',.slice vK tn vL] 37))
 have HX0:=hide ((Bx.new W #[.string nm,.int .i64 kd,.int .i64 ad,.int .u8 (pl:Int),.slice bA bn bc,.slice rA rn rc,.slice tA tn tc] 37).below (below_alloc2 _ (.cells #[.string nm,.int .i64 kd,.int .i64 ad,.int .u8 (pl:Int),.slice vI bn bc',.slice vJ rn rc',.slice vK tn vL] 37)))
 have iZ:=hide (show Bx ((W.alloc (.cells #[.string nm,.int .i64 kd,.int .i64 ad,.int .u8 (pl:Int),.slice bA bn bc,.slice rA rn rc,.slice tA tn tc] 37)).alloc (.cells #[.string nm,.int .i64 kd,.int .i64 ad,.int .u8 (pl:Int),.slice vI bn bc',.slice vJ rn rc',.slice vK tn vL] 37)) (W.heap.size+1) #[.string nm,.int .i64 kd,.int .i64 ad,.int .u8 (pl:Int),.slice vI bn bc',.slice vJ rn rc',.slice vK tn vL] 37 from by
  have h:=Bx.new (W.alloc (.cells #[.string nm,.int .i64 kd,.int .i64 ad,.int .u8 (pl:Int),.slice bA bn bc,.slice rA rn rc,.slice tA tn tc] 37)) #[.string nm,.int .i64 kd,.int .i64 ad,.int .u8 (pl:Int),.slice vI bn bc',.slice vJ rn rc',.slice vK tn vL] 37
  simpa using h)
 generalize World.alloc (World.alloc W _) _=w2 at*
 refine(EU.out w2 HB2.out).mono ?_
 clear EU
 rintro e w3 ⟨rfl,hb⟩
 have HB3:=hide (HB2.out.trans (hb.mono HB2.out.size))
 have mM:=hide (HX0.out.below hb)
 have mO:=hide (iZ.out.below hb)
 clear hb HB2 HX0 iZ
 have HX0:=mM
 have iZ:=mO
 clear mM mO
 have y0:=HX0.out.get 5 _ rfl
 have y1:=iZ.out.get 5 _ rfl
 go_wp2_with fail
 clear y0 y1
 refine(EW.out w3 HB3.out).mono ?_
 clear EW
 rintro e w4 ⟨rfl,hb⟩
 have aK:=hide (HB3.out.trans (hb.mono HB3.out.size))
 have mM:=hide (HX0.out.below hb)
 have mO:=hide (iZ.out.below hb)
 clear hb HB3 HX0 iZ
 have HX0:=mM
 have iZ:=mO
 clear mM mO
 have y0:=HX0.out.get 6 _ rfl
 have y1:=iZ.out.get 6 _ rfl
 go_wp2_with fail
 clear y0 y1
 refine(EX.out w4 aK.out).mono ?_
 clear EX
 rintro e w5 ⟨rfl,hb⟩
 have bK:=hide (aK.out.trans (hb.mono aK.out.size))
 have mM:=hide (HX0.out.below hb)
 have mO:=hide (iZ.out.below hb)
 clear hb aK HX0 iZ
 have HX0:=mM
 have iZ:=mO
 clear mM mO
 go_wp2
 go_ret
 exact⟨rfl,bK.out⟩
structure nR (w:World) (B:Nat) (x y:fA):Prop where
 ax:iW w B x
 ay:iW w B y
 ed:x.l9=y.l9
 el:x.ls=y.ls
theorem nR.below {w w':World} {B B':Nat} {x y:fA} (h:nR w B x y) (hB:RowKit.Below B w w') (hB':B≤B'):nR w' B' x y:=⟨h.ax.below hB hB',h.ay.below hB hB',h.ed,h.el⟩
theorem uP (x y:fA) (W:World) (h:nR W W.heap.size x y):
  Calls Tryd.prog 18 #[.slice x.dA x.dn x.dc,.slice y.dA y.dn y.dc,.func (.func 19) #[] #[]] W fun e W'=>e= .returned (.bool true)∧RowKit.Below W.heap.size W W':=by
 have HS:=hide h
 have hn:x.dn=y.dn:=by
  have h1:=congrArg List.length h.ed
  simp only[fA.l9,List.length_map]at h1
  have:=h.ax.uF
  have:=h.ay.uF
  omega
 have hc:=h.ax.cd
 have EY:=hide (fun(w':World) (hb:RowKit.Below W.heap.size W w') (j:Nat) (r r':ah) (hr:x.ds[j]?=some r) (hr':y.ds[j]?=some r')=>show Calls Tryd.prog 19 #[r.val,r'.val] w' (fun e W'=>e= .returned (.bool true)∧RowKit.Below w'.heap.size w' W')from x9 r r' w' ⟨(h.below hb hb.size).ax.wL r (List.mem_of_getElem? hr),(h.below hb hb.size).ay.wL r' (List.mem_of_getElem? hr'),by
  have e:=congrArg (fun l=>l[j]?) h.ed
  simp only[fA.l9,List.getElem?_map,hr,hr',Option.map_some,Option.some.injEq]at e
  exact e⟩)
 have gY:=hide (show x.ds.length=x.dn∧y.ds.length=x.dn from⟨h.ax.uF,by rw[hn];exact h.ay.uF⟩)
 simp only[maxLen]at hc
 clear h
 rw[← hn]
 have HN:=hide hn
 clear hn
 go_enter Tryd.func18,Tryd.ntmps18
 go_wp2_with fail
 go_loopw [17] (fun i wr=>∃k:Nat,k≤x.dn∧i= .int .i64 k∧Hid (RowKit.Below W.heap.size W wr)) (fun i _=>x.dn - (intOf i).toNat)
 case atStart=>exact⟨0,Nat.zero_le _,rfl,hide (RowKit.Below.refl _ _)⟩
 case round=>
  obtain⟨k,hk,rfl,HB⟩:=hrel
  by_cases hlt:k<x.dn
  case neg=>
   go_wp2
   go_ret
   exact⟨rfl,HB.out⟩
  case pos=>
   obtain⟨r,hr⟩:∃r,x.ds[k]?=some r:=⟨_,List.getElem?_eq_getElem (by have:=gY.out.1;omega)⟩
   obtain⟨r',hr'⟩:∃r,y.ds[k]?=some r:=⟨_,List.getElem?_eq_getElem (by have:=gY.out.2;omega)⟩
   have HC:=hide (fun(w':World) (hb:RowKit.Below W.heap.size W w')=>EY.out w' hb k r r' hr hr')
   have HA:=hide (fun(w':World) (hb:RowKit.Below W.heap.size W w')=>And.intro ((HS.out.below hb hb.size).ax.ds) ((HS.out.below hb hb.size).ay.ds))
   obtain⟨b,o,e1,_,_⟩:=HS.out.ax.ds.2 (by omega)
   obtain⟨b',o',e2,_,_⟩:=HS.out.ay.ds.2 (by have:=HN.out;omega)
   rw[e1,e2]at HA
   rw[e1,e2]
   have HQ:=hide (fun(w':World) (hb:RowKit.Below W.heap.size W w')=>And.intro (lV (HA.out w' hb).1 hr).2 (lV (HA.out w' hb).2 hr').2)
   clear hr hr' HA e1 e2
   obtain⟨nm,kd,ad,pl,bA,bn,bc,bs,rA,rn,rc,rs,tA,tn,tc,ts⟩:=r
   obtain⟨nm',kd',Dj,Ef,vI,ER,bc',bs',vJ,ES,rc',rs',vK,ET,vL,ts'⟩:=r'
   simp only[ah.val]at HC HQ
   obtain⟨⟨q0,q1,q2,q3,q4,q5,q6⟩,_⟩:=HQ.out wr HB.out
   have HB1:=hide (HB.out.trans ((below_alloc2 wr (.cells #[.string nm,.int .i64 kd,.int .i64 ad,.int .u8 (pl:Int),.slice bA bn bc,.slice rA rn rc,.slice tA tn tc] 37)).mono HB.out.size))
   obtain⟨_,p0,p1,p2,p3,p4,p5,p6⟩:=HQ.out _ HB1.out
   have HB2:=hide (HB1.out.trans ((below_alloc2 (wr.alloc (.cells #[.string nm,.int .i64 kd,.int .i64 ad,.int .u8 (pl:Int),.slice bA bn bc,.slice rA rn rc,.slice tA tn tc] 37)) (.cells #[.string nm',.int .i64 kd',.int .i64 Dj,.int .u8 (Ef:Int),.slice vI ER bc',.slice vJ ES rc',.slice vK ET vL] 37)).mono HB1.out.size))
   clear HQ EY
   go_wp2_with fail
   clear q0 q1 q2 q3 q4 q5 q6 p0 p1 p2 p3 p4 p5 p6
   refine(HC.out _ HB2.out).mono ?_
   clear HC
   rintro e w3 ⟨rfl,hb3⟩
   have HB3:=hide (HB2.out.trans (hb3.mono HB2.out.size))
   clear hb3 HB2 HB1 HB
   go_wp2_with fail
   go_roundw
   case rel=>exact⟨k+1,by omega,by go_num,HB3⟩
   case measure=>simp[intOf];omega
theorem yc (x y:fA) (W:World) (h:nR W W.heap.size x y):
  Calls Tryd.prog 7 #[x.val,y.val] W fun e W'=>e= .returned (.bool true)∧RowKit.Below W.heap.size W W':=by
 have hn:x.ln=y.ln:=by
  have h1:=congrArg List.length h.el
  have:=h.ax.llen
  have:=h.ay.llen
  omega
 have HS:=hide h
 have hc:=h.ax.cl
 have HL:=hide (fun(w':World) (hb:RowKit.Below W.heap.size W w')=>show Calls Tryd.prog 17 #[.slice x.lA x.ln x.lc,.slice y.lA y.ln y.lc] w' (fun e W'=>e= .returned (.bool true)∧RowKit.Below w'.heap.size w' W')from by
  have h1:=(h.below hb hb.size).ax.ls
  have h2:=(h.below hb hb.size).ay.ls
  rw[← h.el,← hn]at h2
  rw[← hn]
  exact vU x.ls x.lA y.lA x.ln x.lc y.lc w' (by have:=hc;simp only[maxLen]at this;omega) h1 h2)
 have HD:=hide (fun(w':World) (hb:RowKit.Below W.heap.size W w')=>uP x y w' (h.below hb hb.size))
 clear h hc hn HS
 simp only[fA.val]at*
 go_enter Tryd.func7,Tryd.ntmps7
 go_wp2_with fail
 have HB2:=hide (vH W (.cells #[.slice x.dA x.dn x.dc,.slice x.lA x.ln x.lc] 25) (.cells #[.slice y.dA y.dn y.dc,.slice y.lA y.ln y.lc] 25))
 have HX0:=hide ((Bx.new W #[.slice x.dA x.dn x.dc,.slice x.lA x.ln x.lc] 25).below (below_alloc2 _ (.cells #[.slice y.dA y.dn y.dc,.slice y.lA y.ln y.lc] 25)))
 have iZ:=hide (show Bx ((W.alloc (.cells #[.slice x.dA x.dn x.dc,.slice x.lA x.ln x.lc] 25)).alloc (.cells #[.slice y.dA y.dn y.dc,.slice y.lA y.ln y.lc] 25)) (W.heap.size+1) #[.slice y.dA y.dn y.dc,.slice y.lA y.ln y.lc] 25 from by
  have h:=Bx.new (W.alloc (.cells #[.slice x.dA x.dn x.dc,.slice x.lA x.ln x.lc] 25)) #[.slice y.dA y.dn y.dc,.slice y.lA y.ln y.lc] 25
  simpa using h)
 generalize World.alloc (World.alloc W _) _=w2 at*
 refine(HL.out w2 HB2.out).mono ?_
 clear HL
 rintro e w3 ⟨rfl,hb⟩
 have HB3:=hide (HB2.out.trans (hb.mono HB2.out.size))
 have mM:=hide (HX0.out.below hb)
 have mO:=hide (iZ.out.below hb)
 clear hb HB2 HX0 iZ
 have HX0:=mM
 have iZ:=mO
 clear mM mO
 have y0:=HX0.out.get 0 _ rfl
 have y1:=iZ.out.get 0 _ rfl
 go_wp2_with fail
 clear y0 y1
 refine(HD.out w3 HB3.out).mono ?_
 clear HD
 rintro e w4 ⟨rfl,hb⟩
 have aK:=hide (HB3.out.trans (hb.mono HB3.out.size))
 have mM:=hide (HX0.out.below hb)
 have mO:=hide (iZ.out.below hb)
 clear hb HB3 HX0 iZ
 have HX0:=mM
 have iZ:=mO
 clear mM mO
 go_wp2
 go_ret
 exact⟨rfl,aK.out⟩
end Go.Proofs.YtifkacnoiocebaaDoor
namespace Go.Proofs.YtifkacnoiocebaaDoor
open Go.RowKit
theorem yg {l:List UInt8} {S:dJ} {k:Nat} {er:Int} (hr:iP l=(S,k,er)) {W W':World} {e:Ending} (h:uj l W e W'):
  Below W.heap.size W W'∧∃n:fA,e= .returned (.tuple #[n.val,.int .i64 (k:Int),.int .i64 er])∧iW W' W'.heap.size n∧n.l9=S.ds∧n.ls=S.ls:=by
 unfold uj at h
 rw[hr]at h
 exact h
theorem vW (l:List UInt8) (W:World) (hl:l.length≤9223372036854775807) (hm:eP W):
  Calls Tryd.prog 3 #[.string ⟨l.toArray⟩] W fun e W'=>e= .returned (.bool true)∧Below W.heap.size W W':=by
 have fG:=hide (yT l W hl hm)
 have jX:=hide (fun w=>xZ l w)
 obtain⟨rd,hrd⟩:∃rd,iP l=rd:=⟨_,rfl⟩
 obtain⟨S,k,er⟩:=rd
 have fG:=hide (fG.out.mono (fun e w' h=>yg hrd h))
 have jX:=hide (fun w=>(jX.out w).mono (fun e w' h=>yg hrd h))
 obtain⟨s,hss⟩:∃s:ByteArray,⟨l.toArray⟩=s:=⟨_,rfl⟩
 rw[hss]at fG ⊢
 simp only[hss]at jX
 clear hss hrd hl hm
 go_enter Tryd.func3,Tryd.ntmps3
 go_wp2_with fail
 refine fG.out.mono ?_
 rintro e w1 ⟨hb1,⟨dA,dn,dc,ds,lA,ln,lc,ls⟩,rfl,hN1,hd1,hl1⟩
 have HB1:=hide hb1
 have IG:=hide hN1
 have iZ:=hide (Bx.new w1 #[.slice dA dn dc,.slice lA ln lc] 25)
 have HB2:=hide (hb1.trans ((below_alloc2 w1 (.cells #[.slice dA dn dc,.slice lA ln lc] 25)).mono hb1.size))
 have jM:=hide (hN1.below (below_alloc2 w1 (.cells #[.slice dA dn dc,.slice lA ln lc] 25)) (below_alloc2 w1 (.cells #[.slice dA dn dc,.slice lA ln lc] 25)).size)
 obtain⟨M,hM⟩:∃M,w1.heap.size=M:=⟨_,rfl⟩
 obtain⟨w2,hw2⟩:∃w2,w2=w1.alloc (.cells #[.slice dA dn dc,.slice lA ln lc] 25):=⟨_,rfl⟩
 rw[← hw2]at iZ HB2 jM
 rw[hM]at iZ
 have wI:=hide (And.intro hd1 hl1)
 clear hb1 hN1 hd1 hl1 fG
 simp only[fA.val]at*
 go_wp2_with fail
 rw[← hw2]
 refine(jX.out w2).mono ?_
 rintro e w3 ⟨hb3,⟨Bc,Bd,Bf,ds',Bg,Bh,Bj,ls'⟩,rfl,EZ,hd3,hl3⟩
 have q9:=hide (iZ.out.below hb3)
 have II:M<w3.heap.size:=q9.out.lt
 have hb4:=below_alloc2 w3 (.cells #[.slice Bc Bd Bf,.slice Bg Bh Bj] 25)
 have bJ:=hide (q9.out.below hb4)
 have CO:=hide (Bx.new w3 #[.slice Bc Bd Bf,.slice Bg Bh Bj] 25)
 have E5:=hide (show nR (w3.alloc (.cells #[.slice Bc Bd Bf,.slice Bg Bh Bj] 25)) _ ⟨dA,dn,dc,ds,lA,ln,lc,ls⟩ ⟨Bc,Bd,Bf,ds',Bg,Bh,Bj,ls'⟩from
  ⟨jM.out.below (hb3.trans (hb4.mono hb3.size)) (Nat.le_trans hb3.size hb4.size),EZ.below hb4 hb4.size,wI.out.1.trans hd3.symm,wI.out.2.trans hl3.symm⟩)
 have aK:=hide (HB2.out.trans ((hb3.trans (hb4.mono hb3.size)).mono HB2.out.size))
 obtain⟨N,hN⟩:∃N,w3.heap.size=N:=⟨_,rfl⟩
 obtain⟨w4,hw4⟩:∃w4,w4=w3.alloc (.cells #[.slice Bc Bd Bf,.slice Bg Bh Bj] 25):=⟨_,rfl⟩
 rw[← hw4]at bJ CO E5 aK
 rw[hN]at CO
 have E8:=hide (yc _ _ w4 E5.out)
 simp only[fA.val]at E8
 have x0:=bJ.out.get 0 _ rfl
 have x1:=bJ.out.get 1 _ rfl
 have y0:=CO.out.get 0 _ rfl
 have y1:=CO.out.get 1 _ rfl
 clear hb3 hb4 EZ hd3 hl3 hw2
 rw[hw4]at x0 x1 y0 y1
 go_wp2_with fail
 rw[← hw4]
 refine E8.out.mono ?_
 rintro e w5 ⟨rfl,hb5⟩
 have bK:=hide (aK.out.trans (hb5.mono aK.out.size))
 clear hb5 x0 x1 y0 y1
 go_wp2_with fail
 go_ret
 exact⟨by simp,bK.out⟩
open Go.ChangeAt Go.ChangeShapes Go.Maps Go.WideShapes
theorem Ck {w:World} {b o:Nat} {v:Value} (h:w.cell? ⟨b,o,none⟩=some v):b<w.heap.size:=by
 unfold World.cell? at h
 by_cases hb:b<w.heap.size
 ·exact hb
 ·simp[Array.getElem?_eq_none (Nat.le_of_not_lt hb)]at h
theorem yh {W:World} (h:W.ShapedOpen Tryd.prog):eP W:=by
 obtain⟨m,e⟩:=Go.Proofs.cell_of_shapedOpen_int (g:=0) (zero:=#[.int .i64 0]) (t:=3) h (of_decide_eq_true (by kernel_rfl)) (by kernel_rfl) rfl (by kernel_rfl) (by kernel_rfl) Tryd.underlying3
 exact⟨Ck e,m,e⟩
end Go.Proofs.YtifkacnoiocebaaDoor
