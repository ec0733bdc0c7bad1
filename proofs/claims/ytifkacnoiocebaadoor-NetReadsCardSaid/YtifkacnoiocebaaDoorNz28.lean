/- A part of the proof: Nq10, Nq11, Nq12. -/
import Derived.Test.YtifkacnoiocebaaDoorNz27
set_option linter.unusedVariables false
set_option linter.unusedSimpArgs false
set_option maxRecDepth 100000
set_option maxHeartbeats 8000000
namespace Go.Proofs.YtifkacnoiocebaaDoor
open Go.RowKit
theorem D8 (R:Nat) (S:dJ) (x:List UInt8) (rest:List (List UInt8)) (base g n cap:Nat) (W:World) (hR:iV jI 25 W R S) (hS:cK S 10000) (hw:cB W base g n cap (x::rest)) (hwo:iX (x::rest)) (hgR:R<g) (hb:(x ==[112,101,114,109,105,116])=false) (hb2:(x ==[100,101,110,121])=false) (hb3:(x ==[114,111,117,116,101])=false) (hb4:(x ==[108,105,110,107])=false) (k:Nat) (hk:eX x=k) (h23:k=4) (hls:S.ls=[]) (hn2:n=4):
  Calls Tryd.prog 14 #[.pointer (some ⟨R,0,none⟩),.slice (some ⟨g,0,none⟩) n cap] W (gU jI 25 R (bP S (x::rest)) W):=by
 have hk1:1≤k:=by omega
 have hk5:k≤5:=by omega
 have hwn:jm k=4:=by subst h23;rfl
 have HK:=hide (mI hk hk1 hk5)
 obtain⟨nm,na,nw,rfl⟩:∃a b c,rest=[a,b,c]:=by
  have hn:=hw.len
  cases rest with
  |nil=>simp at hn;omega
  |cons a t=>
   cases t with
   |nil=>simp at hn;omega
   |cons c u=>
    cases u with
    |nil=>simp at hn;omega
    |cons d v=>
     cases v with
     |nil=>exact⟨a,c,d,rfl⟩
     |cons e z=>simp only[List.length_cons]at hn;omega
 have Em:nw.length≤5000:=hwo.each nw (by simp)
 have oz:nm.length≤5000:=hwo.each nm (by simp)
 have pW:=hide (And.intro hk h23)
 have vG:=hide hls
 have jM:=hide hn2
 clear hk hn2 h23
 obtain⟨ds,V,L,hbx,aR,hds⟩:=hR
 have hn:=hw.len
 simp only[List.length_cons]at hn
 have hcap:=(dY hw.own)
 have iM:=hwo.len
 simp only[List.length_cons]at iM
 have hRl:=hbx.lt
 have hgl:=hw.lt.2
 have aL:Bx W R #[V,L] 25:=hbx
 clear hbx
 have iw:ds.length≤10000:=by have:=hS.d;rw[← hds,List.length_map]at this;exact this
 have j3:S.ls.length≤10000:=hS.l
 have hxg:W.cell? ⟨g,0,none⟩=some (.string ⟨x.toArray⟩):=hw.get (k:=0) rfl
 have hn0:(0:Int)<(n:Int):=by omega
 have hn1:0<n:=by omega
 obtain⟨LA,lc,rfl,_⟩:=bD.dw aJ.len aR.l rfl
 have r1:W.cell? ⟨R,1,none⟩=some (.slice LA S.ls.length lc):=aL.get 1 _ rfl
 obtain⟨A,dc,rfl,_⟩:=bD.dw ah.len aR.d rfl
 obtain⟨nd,hnd⟩:∃nd,ds.length=nd:=⟨_,rfl⟩
 obtain⟨nl,hnl⟩:∃nl,S.ls.length=nl:=⟨_,rfl⟩
 have r0:W.cell? ⟨R,0,none⟩=some (.slice A nd dc):=by rw[← hnd];exact aL.get 0 _ rfl
 rw[hnl]at r1 j3
 have sH:nd≤10000:=by omega
 have fO:=hide aR
 have fq:=hide aL
 have HS:=hide hw
 have oh:=hide hwo
 have jE:=hide hds
 rw[hnd]at aR
 have kP:=hide hnd
 have lQ:=hide hnl
 have fC:=hide (fun(w':World) (hb:Below W.heap.size W w')=>show w'.cell? ⟨R,0,none⟩=some (.slice A nd dc)∧w'.cell? ⟨R,1,none⟩=some (.slice LA nl lc)from
  ⟨(hb.cell (p:=⟨R,0,none⟩) hRl).trans r0,(hb.cell (p:=⟨R,1,none⟩) hRl).trans r1⟩)
 have bI:=hide (fun(w':World) (hb:Below W.heap.size W w')=>show NG w' (R+1) ds S.ls (.slice A ds.length dc) (.slice LA S.ls.length lc)∧Bx w' R #[.slice A ds.length dc,.slice LA S.ls.length lc] 25 from⟨fO.out.below hb,fq.out.below hb⟩)
 have gI:=hide iw
 have dM:=hide (fun(w':World) (hb:Below W.heap.size W w') (j:Nat) (y:List UInt8) (h:(x::[nm,na,nw])[j]?=some y)=>show w'.cell? ⟨g,j,none⟩=some (.string ⟨y.toArray⟩)from(HS.out.below hb).get h)
 clear hS aL hds hw hwo hnl iw hnd
 have jQ:0<nd→∃gd,A=some ⟨gd,0,none⟩:=fun h=>by
  obtain⟨gd,c,e,_⟩:=fO.out.d.form (by have:=kP.out;omega)
  cases e
  exact⟨gd,rfl⟩
 have oZ:=hide jQ
 clear jQ
 go_enter Tryd.func14,Tryd.ntmps14
 go_upto_region 2 with fail
 go_cut [30]from 17 to 30 (fun pV wx=>(∃b:Bool,pV= .bool b∧(b=true→0<nd))∧W=wx)
 case first=>
  by_cases hn0:nd=0
  ·have q0:decide ((0:Int)<(nd:Int))=false:=decide_eq_false (by omega)
   go_wp2
   go_meet
   exact⟨⟨_,rfl,fun h=>by cases h⟩,rfl⟩
  ·have q0:decide ((0:Int)<(nd:Int))=true:=decide_eq_true (by omega)
   go_wp2
   all_goals (go_meet;exact⟨⟨_,rfl,fun h=>by omega⟩,rfl⟩)
 case rest=>
 obtain⟨⟨bd,rfl,hbd⟩,rfl⟩:=hcut
 go_upto_if 30 with fail
 go_cut [5]from 31 to 41 (fun s5 wx=>Hid (Below W.heap.size W wx))
 case first=>
  cases bd with
  |false=>
   go_wp2
   go_meet
   exact hide (Below.refl _ _)
  |true=>
   obtain⟨gd,rfl⟩:=oZ.out (hbd rfl)
   have h0:=hbd rfl
   clear hbd
   have q3:((nd:Int) - 1)=((nd - 1:Nat):Int):=by omega
   have q4:0≤(nd:Int) - 1:=by omega
   have q5:(nd:Int) - 1<(nd:Int):=by omega
   go_wp2_with fail
   go_quiet (fail)
   go_wp2
   go_meet
   exact hide (aP _ _ _)
 case rest=>
 have HB1:=hcut
 clear hcut r0 r1 aR
 have p0:wc.cell? ⟨g,0,none⟩=some (.string ⟨x.toArray⟩):=(HB1.out.cell (p:=⟨g,0,none⟩) hgl).trans hxg
 obtain⟨G,hG⟩:∃G,wc.heap.size=G:=⟨_,rfl⟩
 obtain⟨w4,hw4⟩:∃w4,w4=wc.alloc (.cells #[.string ⟨#[]⟩,.string ⟨#[104,111,115,116]⟩,.string ⟨#[114,111,117,116,101,114]⟩,.string ⟨#[102,105,114,101]⟩,.string ⟨#[110,97,116]⟩,.string ⟨#[108,98]⟩] 9):=⟨_,rfl⟩
 have eH:=hide (show Bx w4 G #[.string ⟨#[]⟩,.string ⟨#[104,111,115,116]⟩,.string ⟨#[114,111,117,116,101,114]⟩,.string ⟨#[102,105,114,101]⟩,.string ⟨#[110,97,116]⟩,.string ⟨#[108,98]⟩] 9 from by rw[hw4,← hG];exact Bx.new wc _ _)
 have aK:=hide (show Below W.heap.size W w4 from by rw[hw4];exact HB1.out.trans ((below_alloc2 wc _).mono HB1.out.size))
 have jJ:=hide (jA iQ G 6 6 x w4 eH.out.lt rfl (by omega) (fun j y hy=>match j,hy with
  |0,hy=>by cases hy;exact eH.out.get 0 _ rfl
  |1,hy=>by cases hy;exact eH.out.get 1 _ rfl
  |2,hy=>by cases hy;exact eH.out.get 2 _ rfl
  |3,hy=>by cases hy;exact eH.out.get 3 _ rfl
  |4,hy=>by cases hy;exact eH.out.get 4 _ rfl
  |5,hy=>by cases hy;exact eH.out.get 5 _ rfl
  |(j+6),hy=>absurd hy (by simp[iQ])))
 have p4:∀o,(wc.alloc o).cell? ⟨g,0,none⟩=some (.string ⟨x.toArray⟩):=fun o=>((below_alloc2 wc o).cell (p:=⟨g,0,none⟩) (by show g<_;have:=HB1.out.size;omega)).trans p0
 clear hxg
 rw[HK.out]at jJ
 go_wp2_with fail
 rw[← hw4]
 refine jJ.out.mono ?_
 rintro e w5 ⟨rfl,hb5⟩
 have bK:=hide (aK.out.trans (hb5.mono aK.out.size))
 clear hb5 jJ eH p0 p4 aK hw4
 have r1:=(fC.out w5 bK.out).2
 obtain rfl:nl=0:=by rw[← lQ.out,hls];rfl
 have hn2:=jM.out
 clear jM
 subst hn2
 have d1:decide ((k:Int)<1)=false:=decide_eq_false (by omega)
 have hk0:(0:Int)≤(k:Int):=by omega
 have r9:(k:Int)<6:=by omega
 have w0:(w5.alloc (.cells #[.int .i64 0,.int .i64 3,.int .i64 2,.int .i64 2,.int .i64 4,.int .i64 4] 3)).cell? ⟨w5.heap.size,k,none⟩=some (.int .i64 ((4:Nat):Int)):=by
  rw[cell_of_row _ _ _ _ _ _ (heap_alloc_new w5 _)]
  have h:=ow hk1 hk5
  rw[hwn]at h
  exact h
 go_upto_region 37 with fail
 obtain⟨w6,oC⟩:∃w6,w6=w5.alloc (.cells #[.int .i64 0,.int .i64 3,.int .i64 2,.int .i64 2,.int .i64 4,.int .i64 4] 3):=⟨_,rfl⟩
 have dN:=hide (show Below W.heap.size W w6 from by rw[oC];exact bK.out.trans ((below_alloc2 w5 _).mono bK.out.size))
 rw[← oC]
 clear oC w0 r1 d1 bK
 have p6:w6.cell? ⟨g,1,none⟩=some (.string ⟨nm.toArray⟩):=dM.out _ dN.out 1 nm rfl
 obtain⟨D,hD⟩:∃D,w6.heap.size=D:=⟨_,rfl⟩
 have oP:W.heap.size≤D:=by rw[← hD];exact dN.out.size
 go_upto_region 38 with fail
 obtain⟨w7,hw7⟩:∃w7,w7=w6.alloc (.cells #[.string ⟨nm.toArray⟩,.int .i64 (k:Int),.int .i64 0,.int .u8 0,.slice none 0 0,.slice none 0 0,.slice none 0 0] 37):=⟨_,rfl⟩
 have bU:=hide (show Bx w7 D #[.string ⟨nm.toArray⟩,.int .i64 (k:Int),.int .i64 0,.int .u8 0,.slice none 0 0,.slice none 0 0,.slice none 0 0] 37 from by rw[hw7,← hD];exact Bx.new w6 _ _)
 have bM:=hide (show Below W.heap.size W w7 from by rw[hw7];exact dN.out.trans ((below_alloc2 w6 _).mono dN.out.size))
 rw[← hw7]
 clear hw7 p6 dN
 have p7:w7.cell? ⟨g,1,none⟩=some (.string ⟨nm.toArray⟩):=dM.out _ bM.out 1 nm rfl
 obtain⟨eB,hi0,hz0,hz1,hz2⟩:=info_parts Tryd.infoDevice
 go_upto_region 39 with(refine wpList_buildSlice rfl 22 37 1 #[(0,.tmp 240)] rfl #[.string ⟨nm.toArray⟩,.int .i64 2,.int .i64 0,.int .u8 0,.slice none 0 0,.slice none 0 0,.slice none 0 0] eB _ Tryd.underlying22 hi0 hz0 (by rw[hz1];omega) (by rw[hz1];omega) (by rw[hz1,Array.toList_map];exact d9 ⟨nm.toArray⟩ 2 0 0 none none none 0 0 0 0 0 0) ?_)
 obtain⟨Y,hY⟩:∃Y,w7.heap.size=Y:=⟨_,rfl⟩
 obtain⟨w8,hw8⟩:∃w8,w8=w7.alloc (.cells #[.string ⟨nm.toArray⟩,.int .i64 2,.int .i64 0,.int .u8 0,.slice none 0 0,.slice none 0 0,.slice none 0 0] 37):=⟨_,rfl⟩
 have jR:=below_alloc2 w7 (.cells #[.string ⟨nm.toArray⟩,.int .i64 2,.int .i64 0,.int .u8 0,.slice none 0 0,.slice none 0 0,.slice none 0 0] 37)
 rw[← hw8]at jR
 have qY:w8.heap.size=Y+1:=by rw[hw8,← hY];simp
 have qZ:=hide (show Bx w8 Y #[.string ⟨nm.toArray⟩,.int .i64 2,.int .i64 0,.int .u8 0,.slice none 0 0,.slice none 0 0,.slice none 0 0] 37 from by rw[hw8,← hY];exact Bx.new w7 _ _)
 obtain⟨w9,mJ⟩:∃w9,w9=w8.alloc (.cells #[.slice (some ⟨Y,0,none⟩) 1 1,.slice none 0 0] 25):=⟨_,rfl⟩
 have kQ:=below_alloc2 w8 (.cells #[.slice (some ⟨Y,0,none⟩) 1 1,.slice none 0 0] 25)
 rw[← mJ]at kQ
 have oD:=hide (show Bx w9 (Y+1) #[.slice (some ⟨Y,0,none⟩) 1 1,.slice none 0 0] 25 from by rw[mJ,← qY];exact Bx.new w8 _ _)
 have q8:=hide (bU.out.below (jR.trans (kQ.mono jR.size)))
 have bS:=hide (bM.out.trans ((jR.trans (kQ.mono jR.size)).mono bM.out.size))
 have jX:=hide ((kZ _ w9 (rH oz (qZ.out.below kQ))).mono (fun e w' h=>show e= .returned (.int .i64 (if bT ⟨nm.toArray⟩=true then 0 else 3))∧Below w9.heap.size w9 w' from by
  rw[← qc];exact h))
 simp only[fA.val]at jX
 rw[hY,← hw8,← mJ]
 clear hw8 mJ
 have z0:w9.cell? ⟨Y+1,0,none⟩=some (.slice (some ⟨Y,0,none⟩) 1 1):=oD.out.get 0 _ rfl
 have z1:w9.cell? ⟨Y+1,1,none⟩=some (.slice none 0 0):=oD.out.get 1 _ rfl
 go_wp2_with fail
 refine jX.out.mono ?_
 rintro e aA ⟨rfl,ak⟩
 have aO:=hide (q8.out.below ak)
 have aS:=hide (bS.out.trans (ak.mono bS.out.size))
 have mK:D+1≤aA.heap.size:=aO.out.lt
 clear ak jX q8 bS oD qZ kQ jR bU bM qY hY p7 z0 z1
 cases hnb:bT ⟨nm.toArray⟩
 case false=>
  have HF:=hide (dG S x nm ([na,nw]) (.inr hnb))
  clear hnb
  simp only[Bool.false_eq_true,if_false]
  go_wp2_with fail
  go_ret
  exact⟨aS.out.mono (by omega),.inl ⟨HF.out,rfl⟩⟩
 case true=>
 simp only[if_true]
 have HF:=hide (show bP S [x,nm,na,nw]=if 0≤aF na 100 then(match iy nw with | some xs=>(match jC 0 xs with | some p=>some ⟨S.ds++[⟨⟨nm.toArray⟩,(k:Int),aF na 100,p,[],[],[]⟩],S.ls⟩ | none=>none) | none=>none)else none from by
  obtain⟨hkx,rfl⟩:=pW.out
  simp only[bP,hkx]
  rw[if_neg (by intro hc;rcases hc with hc | hc;exact hc vG.out;exact absurd (show bT ⟨nm.toArray⟩=false from hc) (by rw[hnb];decide))]
  rfl)
 clear hnb
 have iI:=fun w=>jZ na 99 w (by omega)
 rw[show(99:Int)+1=100 from rfl]at iI
 have nH:=gW na 100
 have nI:=dP na 100
 obtain⟨a,ha⟩:∃a,aF na 100=a:=⟨_,rfl⟩
 simp only[ha]at iI HF nH nI
 have iI:=hide iI
 have mR: -1≤a∧a≤100:=by omega
 clear ha nH nI
 have g2:aA.cell? ⟨g,2,none⟩=some (.string ⟨na.toArray⟩):=dM.out _ aS.out 2 na rfl
 have vv:aA.cell? ⟨D,2,none⟩=some (.int .i64 0):=aO.out.get 2 _ rfl
 have vw:aA.frozen? ⟨D,2,none⟩=false:=aO.out.frozen 2
 have jo:=hide (show Bx (aA.setCell ⟨D,2,none⟩ (.int .i64 a)) D #[.string ⟨nm.toArray⟩,.int .i64 (k:Int),.int .i64 a,.int .u8 0,.slice none 0 0,.slice none 0 0,.slice none 0 0] 37 from aO.out.set 2 (.int .i64 a))
 have aQ:=hide (aS.out.setCell (p:=⟨D,2,none⟩) oP (.int .i64 a))
 have wm:D+1≤(aA.setCell ⟨D,2,none⟩ (.int .i64 a)).heap.size :=by rw[size_setCell];exact mK
 go_upto_region 43 with((go_at_call_of 42 (Value.string ⟨na.toArray⟩));refine(iI.out _).mono ?_;rintro e w5 ⟨rfl,rfl⟩)
 clear aO aS mK g2 vv vw iI
 generalize World.setCell aA _ _=fH at*
 have AO:fH.cell? ⟨D,2,none⟩=some (.int .i64 a):=jo.out.get 2 _ rfl
 by_cases hA0:0≤a
 case neg=>
  have d1:decide (a<0)=true:=decide_eq_true (by omega)
  rw[if_neg hA0]at HF
  go_wp2_with fail
  go_ret
  exact⟨aQ.out.mono (by omega),.inl ⟨HF.out,rfl⟩⟩
 case pos=>
 have d1:decide (a<0)=false:=decide_eq_false (by omega)
 rw[if_pos hA0]at HF
 have Ch:nw.length≤5000:=by omega
 have g3:fH.cell? ⟨g,3,none⟩=some (.string ⟨nw.toArray⟩):=dM.out _ aQ.out 3 nw rfl
 have qQ:=hide (fun w=>qX nw w Ch)
 go_wp2_with fail
 refine(qQ.out _).mono ?_
 rintro e qm ⟨sI,hcase⟩
 have ou:=hide (jo.out.below sI)
 have pz:=hide (aQ.out.trans (sI.mono aQ.out.size))
 have En:D+1≤qm.heap.size:=ou.out.lt
 clear jo aQ qQ g3 AO d1 sI
 have hE:=fun(w:World) (a:Option Addr) (n c:Nat)=>Lib.run_eql_slice_nil (P:=Tryd.prog) w 33 3 a n c 0 0 Tryd.underlying33
 rcases hcase with⟨hnn,rfl⟩ | ⟨xs,v,hnn,hpos,rfl,hown⟩
 ·rw[hnn]at HF
  clear hnn
  go_wp2_with fail
  go_ret
  exact⟨pz.out.mono (by omega),.inl ⟨HF.out,rfl⟩⟩
 rw[hnn]at HF
 have hxs:=oQ hnn
 have hxl:=og hnn
 obtain⟨gv,cv,rfl,_⟩:=hown.form hpos
 clear hnn
 obtain⟨rp,EM,hF⟩:∃rp,jC 0 xs=rp∧bP S [x,nm,na,nw]=(match rp with | some p=>some ⟨S.ds++[⟨⟨nm.toArray⟩,(k:Int),a,p,[],[],[]⟩],S.ls⟩ | none=>none):=⟨_,rfl,HF.out⟩
 have HF:=hide hF
 clear hF
 have AQ:=hide EM
 have e4:((k:Int)==4)=true:=by have:=pW.out.2;simp;omega
 have e5:((k:Int)==5)=false:=by have:=pW.out.2;simp;omega
 have Gt:=hown.lt gv rfl
 have Gd:gv≠D:=by omega
 have hI:=uG (iL kI hown rfl) (fun y hy=>by have:=hxs y hy;unfold bG;omega)
 obtain⟨b,o,he1,_,hgc⟩:=hI.2.2 hpos
 cases he1
 have Gf:=hide (fun(i:Nat) (y:Int) (h:xs[i]?=some y)=>show qm.cell? ⟨gv,i,none⟩=some (.int .i64 y)from by have:=hgc i y h;rwa [Nat.zero_add]at this)
 obtain⟨m,hm⟩:∃m,xs.length=m:=⟨_,rfl⟩
 rw[hm]at hpos
 have AP:=hide hm
 have Gg:=hide hxs
 have IB:m≤5001:=by omega
 have Gc:(0:Int)<(m:Int):=by omega
 clear hgc hI hown hxs EM hxl
 rw[hm]
 clear hm
 go_wp2_with fail
 clear hE
 go_loopw [16] (fun iv wr=>∃(i p:Nat),iv= .int .i64 (i:Int)∧i≤m∧p<256∧Hid (jC p (xs.drop i)=rp)∧Hid (Bx wr D #[.string ⟨nm.toArray⟩,.int .i64 (k:Int),.int .i64 a,.int .u8 (p:Int),.slice none 0 0,.slice none 0 0,.slice none 0 0] 37)∧Hid (∀q:Nat,q≠D→wr.heap[q]?=qm.heap[q]?)∧Hid (Below W.heap.size W wr)) (fun iv _=>m - (intOf iv).toNat)
 case atStart=>exact⟨0,0,rfl,by omega,by omega,hide (by rw[List.drop_zero];exact AQ.out),ou,hide (fun q _=>rfl),pz⟩
 case round=>
  obtain⟨i,p,rfl,him,hp,HR,HX,CG,HB⟩:=hrel
  have EN:D+1≤wr.heap.size:=HX.out.lt
  by_cases hlt:i<m
  case pos=>
   have uI:(i:Int)<(m:Int):=by omega
   obtain⟨y,hy⟩:∃y,xs[i]?=some y:=⟨xs[i]'(by rw[AP.out];exact hlt),List.getElem?_eq_getElem _⟩
   have hy0:=(Gg.out y (List.mem_of_getElem? hy)).1
   obtain⟨u,rfl⟩:∃u:Nat,y=u:=⟨y.toNat,by omega⟩
   have hdr:xs.drop i=(u:Int)::xs.drop (i+1):=by
    rw[List.drop_eq_getElem_cons (by rw[AP.out];exact hlt),(List.getElem?_eq_some_iff.1 hy).2]
   rw[hdr]at HR
   have D9:=hide (fun(w':World) (h:w'.heap[gv]?=wr.heap[gv]?)=>show w'.cell? ⟨gv,i,none⟩=some (.int .i64 (u:Int))from(World.cell?_of_block (a:=⟨gv,i,none⟩) (h.trans (CG.out gv Gd))).trans (Gf.out i u hy))
   have q0:=D9.out wr rfl
   have x3:wr.cell? ⟨D,3,none⟩=some (.int .u8 (p:Int)):=HX.out.get 3 _ rfl
   have f3:wr.frozen? ⟨D,3,none⟩=false:=HX.out.frozen 3
   clear hdr hy
   by_cases h8:u<8
   case neg=>
    have d1:decide ((7:Int)<(u:Int))=true:=decide_eq_true (by omega)
    have hr0:rp=none:=by rw[← HR.out];unfold jC;rw[if_pos (Or.inl (by omega))]
    have nX:=hide (show bP S [x,nm,na,nw]=none from by rw[HF.out,hr0])
    clear HR AQ HF hr0
    go_wp2_with fail
    go_quiet (fail)
    go_wp2_with fail
    go_ret
    exact⟨(HB.out.trans ((aP _ _ _).mono HB.out.size)).mono (by omega),.inl ⟨nX.out,rfl⟩⟩
   case pos=>
   have d1:decide ((7:Int)<(u:Int))=false:=decide_eq_false (by omega)
   rw[tJ p u _ h8]at HR
   cases hbt:p.testBit u with
   |true=>
    rw[hbt]at HR
    have hr0:rp=none:=by rw[← HR.out];rfl
    have nX:=hide (show bP S [x,nm,na,nw]=none from by rw[HF.out,hr0])
    have HH:=hide (fun w=>xK w p u (by omega) (by omega) true hbt)
    clear HR AQ HF hr0 hbt
    go_wp2_with fail
    go_quiet ((go_at_call 45;exact bL (HH.out _)))
    go_wp2_with fail
    go_ret
    exact⟨(HB.out.trans ((aP _ _ _).mono HB.out.size)).mono (by omega),.inl ⟨nX.out,rfl⟩⟩
   |false=>
    rw[hbt]at HR
    have HR2:=hide (show jC (p ||| 2 ^ u) (xs.drop (i+1))=rp from by rw[← HR.out];rfl)
    have HH:=hide (fun w=>xK w p u (by omega) (by omega) false hbt)
    have HO:=hide (zl p u hp h8)
    have hpl:=Am p u hp h8
    clear HR AQ hbt
    go_wp2_with fail
    go_quiet ((go_at_call 45;exact bL (HH.out _)))
    obtain⟨w3,hw3⟩:∃w',w'=World.drewN wr nq:=⟨_,rfl⟩
    have fE:=(show Below (World.heap wr).size wr w3 from by rw[hw3];exact aP _ _ _)
    have Ci:∀q:Nat,w3.heap[q]?=wr.heap[q]?:=fun q=>by rw[hw3];rfl
    have q9:=hide (HX.out.below fE)
    have HB3:=hide (HB.out.trans (fE.mono HB.out.size))
    have Fx:=hide (show∀q:Nat,q≠D→w3.heap[q]?=qm.heap[q]? from fun q h=>(Ci q).trans (CG.out q h))
    rw[← hw3]
    have q0:=D9.out w3 (Ci gv)
    clear hw3 fE Ci HX HB CG D9
    have x3:w3.cell? ⟨D,3,none⟩=some (.int .u8 (p:Int)):=q9.out.get 3 _ rfl
    have f3:w3.frozen? ⟨D,3,none⟩=false:=q9.out.frozen 3
    have hor:=HO.out
    go_wp2_with fail
    go_region
    all_goals
     go_wp2_with fail
     go_roundw
     case rel=>exact⟨i+1,p ||| 2 ^ u,by go_num,by omega,hpl,HR2,hide (by
      show Bx (World.drew (w3.setCell ⟨D,3,none⟩ (.int .u8 (Go.bits .or .u8 (p:Int) (IntKind.u8.wrap (2 ^ u)))))) D _ _
      rw[HO.out]
      exact q9.out.set 3 _),hide (fun q hq=>(RowKit.Below.heap_setCell _ _ _ _ hq).trans (Fx.out q hq)),hide ((HB3.out.setCell (p:=⟨D,3,none⟩) oP _).drew)⟩
     case measure=>simp[intOf];omega
  case neg=>
   obtain rfl:i=m:=by omega
   have hrs:rp=some p:=by rw[← HR.out,List.drop_of_length_le (by have:=AP.out;omega)];rfl
   have HF:=hide (show bP S [x,nm,na,nw]=some ⟨S.ds++[⟨⟨nm.toArray⟩,(k:Int),a,p,[],[],[]⟩],S.ls⟩from by rw[HF.out,hrs])
   clear HR AQ hrs CG
   go_wp2_with fail
   have bU:=HX
   have bM:=HB
   have hD7:=EN
   have eY:=hide (gV wr (R+1) ⟨nm.toArray⟩ (k:Int) a p)
   clear HX HB e4 e5 EN
   generalize wr=w7 at*
   have ji:=hide (gJ (bA:=none) (bn:=0) (bc:=0) oz (show -1≤(k:Int)∧(k:Int)≤100 by omega) mR hp (bs:=[]) (fun y hy=>(nomatch hy)))
   have bg:=hide (bM.out.drew)
   have aG:=hide (show Bx w7.drew D #[.string ⟨nm.toArray⟩,.int .i64 (k:Int),.int .i64 a,.int .u8 p,.slice none 0 0,.slice none 0 0,.slice none 0 0] 37 from bU.out)
   have bQ:=hide (show eZ w7.drew (R+1) ⟨⟨nm.toArray⟩,(k:Int),a,p,none,0,0,[],none,0,0,[],none,0,0,[]⟩from eY.out)
   have lK:D+1≤w7.drew.heap.size:=hD7
   have hS0:w7.drew.cell? ⟨R,0,none⟩=some (.slice A ds.length dc)∧w7.drew.cell? ⟨D,0,none⟩=some (.string ⟨nm.toArray⟩)∧w7.drew.cell? ⟨D,1,none⟩=some (.int .i64 (k:Int))∧w7.drew.cell? ⟨D,2,none⟩=some (.int .i64 a)∧w7.drew.cell? ⟨D,3,none⟩=some (.int .u8 p)∧w7.drew.cell? ⟨D,4,none⟩=some (.slice none 0 0)∧w7.drew.cell? ⟨D,5,none⟩=some (.slice none 0 0)∧w7.drew.cell? ⟨D,6,none⟩=some (.slice none 0 0):=
    ⟨(bI.out _ bg.out).2.get 0 _ rfl,aG.out.get 0 _ rfl,aG.out.get 1 _ rfl,aG.out.get 2 _ rfl,aG.out.get 3 _ rfl,aG.out.get 4 _ rfl,aG.out.get 5 _ rfl,aG.out.get 6 _ rfl⟩
   refine bF (fun w'=>w'.cell? ⟨R,0,none⟩=some (.slice A ds.length dc)∧w'.cell? ⟨D,0,none⟩=some (.string ⟨nm.toArray⟩)∧w'.cell? ⟨D,1,none⟩=some (.int .i64 (k:Int))∧w'.cell? ⟨D,2,none⟩=some (.int .i64 a)∧w'.cell? ⟨D,3,none⟩=some (.int .u8 p)∧w'.cell? ⟨D,4,none⟩=some (.slice none 0 0)∧w'.cell? ⟨D,5,none⟩=some (.slice none 0 0)∧w'.cell? ⟨D,6,none⟩=some (.slice none 0 0)) 7 (by kernel_rfl) hS0 (fun hS inv=>?_)
   clear hS0 bU bM eY hD7
   generalize World.drew w7=wd at*
   revert inv
   refine rP 0 hS ?_
   refine rP 1 hS ?_
   refine rP 2 hS ?_
   refine rP 3 hS ?_
   refine rL 4 [7] rfl hS (by intro w hSw;obtain⟨s0,s1,s2,s3,s4,s5,s6,s7⟩:=hSw;go_simp;try with_reducible rfl) ?_
   refine rL 5 [6,7] rfl hS (by intro w hSw;obtain⟨s0,s1,s2,s3,s4,s5,s6,s7⟩:=hSw;go_simp;try with_reducible rfl) ?_
   intro inv
   refine rO 6 inv fun K hK=>?_
   rw[if_pos (by rfl)]
   obtain⟨eB,hi0,hz0,hz1,hz2⟩:=info_parts Tryd.infoDevice
   refine wp_buildSlice 22 37 1 #[(0,.tmp 309)] rfl #[.string ⟨nm.toArray⟩,.int .i64 (k:Int),.int .i64 a,.int .u8 p,.slice none 0 0,.slice none 0 0,.slice none 0 0] eB _ Tryd.underlying22 hi0 hz0 (by rw[hz1];omega) (by rw[hz1];omega) (by rw[hz1,Array.toList_map];exact d9 ⟨nm.toArray⟩ (k:Int) a p none none none 0 0 0 0 0 0) ?_
   have ak:=below_alloc2 wd (.cells #[.string ⟨nm.toArray⟩,.int .i64 (k:Int),.int .i64 a,.int .u8 p,.slice none 0 0,.slice none 0 0,.slice none 0 0] 37)
   have aO:=hide (Bx.new wd #[.string ⟨nm.toArray⟩,.int .i64 (k:Int),.int .i64 a,.int .u8 p,.slice none 0 0,.slice none 0 0,.slice none 0 0] 37)
   have aS:=hide (bg.out.trans (ak.mono (by omega)))
   have au:=hide (bI.out _ (bg.out.trans (ak.mono (by omega)))).1
   have bq:=hide (bI.out _ (bg.out.trans (ak.mono (by omega)))).2
   have bZ:=hide (show eZ _ (R+1) ⟨⟨nm.toArray⟩,(k:Int),a,p,none,0,0,[],none,0,0,[],none,0,0,[]⟩from⟨own_below bQ.out.1 ak,bQ.out.2⟩)
   have bW:=hide (show(wd.alloc (.cells #[.string ⟨nm.toArray⟩,.int .i64 (k:Int),.int .i64 a,.int .u8 p,.slice none 0 0,.slice none 0 0,.slice none 0 0] 37)).heap.size =wd.heap.size+1 from by simp)
   have hSS:(wd.alloc (.cells #[.string ⟨nm.toArray⟩,.int .i64 (k:Int),.int .i64 a,.int .u8 p,.slice none 0 0,.slice none 0 0,.slice none 0 0] 37)).cell? ⟨R,0,none⟩=some (.slice A ds.length dc):=bq.out.get 0 _ rfl
   have aI:=hide (aG.out.below ak)
   clear ak bg aG bQ hS
   generalize World.alloc wd _=aA at*
   have hS:aA.cell? ⟨R,0,none⟩=some (.slice A ds.length dc)∧aA.cell? ⟨D,0,none⟩=some (.string ⟨nm.toArray⟩)∧aA.cell? ⟨D,1,none⟩=some (.int .i64 (k:Int))∧aA.cell? ⟨D,2,none⟩=some (.int .i64 a)∧aA.cell? ⟨D,3,none⟩=some (.int .u8 p)∧aA.cell? ⟨D,4,none⟩=some (.slice none 0 0)∧aA.cell? ⟨D,5,none⟩=some (.slice none 0 0)∧aA.cell? ⟨D,6,none⟩=some (.slice none 0 0):=
    ⟨hSS,aI.out.get 0 _ rfl,aI.out.get 1 _ rfl,aI.out.get 2 _ rfl,aI.out.get 3 _ rfl,aI.out.get 4 _ rfl,aI.out.get 5 _ rfl,aI.out.get 6 _ rfl⟩
   refine hK.out _ _ (fun _=>hS) ?_
   clear hK K hS inv
   intro inv
   try simp only[Act.put,aB,aC,aD]
   refine rT 7 inv fun K hK=>?_
   rw[if_pos (by rfl)]
   have iD:=bW.out
   have hdl:=gI.out
   refine aZ _ (.tmp 308) (.tmp 310) 22 rfl (R+1) 37 eB _ 7 112 Tryd.underlying22 hi0 hz0 hz1 hz2 rfl (by omega) (.slice A ds.length dc) ds.length (ds.flatMap ah.cells) rfl au.out.d (wd.heap.size+1) (some ⟨wd.heap.size,0,none⟩) 1 1 (ah.cells ⟨⟨nm.toArray⟩,(k:Int),a,p,none,0,0,[],none,0,0,[],none,0,0,[]⟩) rfl ⟨rfl,fun _=>⟨_,rfl,Nat.lt_succ_self _,fun j' u hu=>by
    rw[addr_add,Nat.zero_add]
    exact aO.out.get j' u (by simpa[ah.cells]using hu)⟩⟩ (ah.one _) (by simp only[maxLen];omega) (by omega) (by omega) ?_
   intro v9 w9 aH aN bX
   obtain⟨g9,c9,rfl,_⟩:=aH.form (by omega)
   have dh:=hide (au.out.gX (x:=⟨⟨nm.toArray⟩,(k:Int),a,p,none,0,0,[],none,0,0,[],none,0,0,[]⟩) ji.out bZ.out ⟨rfl,rfl,rfl,rfl⟩ ⟨rfl,rfl,rfl,rfl⟩ aH aN)
   have aT:=hide (bq.out.same (aY aN (by omega) (fun e=>by have:=(au.out.d.lt _ e).1;omega)))
   have bS:=hide (show Below R W w9 from(aS.out.mono (by omega)).grown aN (by omega) (fun j hj=>by have:=(au.out.d.lt _ hj).1;omega))
   have s0:w9.cell? ⟨R,0,none⟩=some (.slice A ds.length dc):=aT.out.get 0 _ rfl
   have f0:w9.frozen? ⟨R,0,none⟩=false:=aT.out.frozen 0
   clear aH aN bX au bq aS bZ aO hSS
   refine hK.out _ _ ?_
   clear hK K inv
   intro inv
   try simp only[Act.put,aB,aC,aD]
   refine rT 8 inv fun K hK=>?_
   go_simp
   refine hK.out _ _ ?_
   clear hK K inv
   intro inv
   try simp only[Act.put,aB,aC,aD]
   refine rT 9 inv fun K hK=>?_
   go_simp
   refine hK.out _ _ ?_
   clear hK K inv
   intro inv
   try simp only[Act.put,aB,aC,aD]
   refine rT 10 inv fun K hK=>?_
   go_simp
   refine hK.out _ _ ?_
   clear hK K inv
   intro inv
   try simp only[Act.put,aB,aC,aD]
   refine rD ?_
   clear inv
   clear s0 f0
   have fD:=hide (aT.out.set 0 (.slice (some ⟨g9,0,none⟩) (ds.length+1) c9))
   have iN:=hide (dh.out.same (w':=w9.setCell ⟨R,0,none⟩ (.slice (some ⟨g9,0,none⟩) (ds.length+1) c9)) (fun q h1 h2=>RowKit.Below.heap_setCell _ _ _ _ (show q≠R by omega)))
   have aQ:=hide (bS.out.setCell (p:=⟨R,0,none⟩) (Nat.le_refl R) (.slice (some ⟨g9,0,none⟩) (ds.length+1) c9))
   generalize World.setCell w9 _ _=fH at*
   clear aT dh bS
   go_wp2_with fail
   go_ret
   refine⟨aQ.out,.inr ⟨_,HF.out,rfl,_,_,_,?_,iN.out,by rw[List.map_append,jE.out];rfl⟩⟩
   have hb:=fD.out
   exact hb
theorem AR (R:Nat) (S:dJ) (x:List UInt8) (rest:List (List UInt8)) (base g n cap:Nat) (W:World) (hR:iV jI 25 W R S) (hS:cK S 10000) (hw:cB W base g n cap (x::rest)) (hwo:iX (x::rest)) (hgR:R<g) (hb:(x ==[112,101,114,109,105,116])=false) (hb2:(x ==[100,101,110,121])=false) (hb3:(x ==[114,111,117,116,101])=false) (hb4:(x ==[108,105,110,107])=false):
  Calls Tryd.prog 14 #[.pointer (some ⟨R,0,none⟩),.slice (some ⟨g,0,none⟩) n cap] W (gU jI 25 R (bP S (x::rest)) W):=by
 obtain⟨k,hk⟩:∃k,eX x=k:=⟨_,rfl⟩
 have h5:k≤5:=by rw[← hk];exact xP x
 by_cases h0:k=0
 ·subst h0;exact Cg R S x rest base g n cap W hR hS hw hwo hgR hb hb2 hb3 hb4 hk
 by_cases hbad:S.ls≠[]∨n≠jm k
 ·exact Da R S x rest base g n cap W hR hS hw hwo hgR hb hb2 hb3 hb4 k (by omega) h5 hk hbad
 have hls:S.ls=[]:=by
  by_cases h:S.ls=[]
  ·exact h
  ·exact absurd (Or.inl h) hbad
 have hn:n=jm k:=by
  by_cases h:n=jm k
  ·exact h
  ·exact absurd (Or.inr h) hbad
 rcases(by omega:k=1∨k=2∨k=3∨k=4∨k=5)with rfl | rfl | rfl | rfl | rfl
 ·exact D6 R S x rest base g n cap W hR hS hw hwo hgR hb hb2 hb3 hb4 1 hk rfl hls hn
 ·exact AL R S x rest base g n cap W hR hS hw hwo hgR hb hb2 hb3 hb4 2 hk (.inl rfl) hls hn
 ·exact AL R S x rest base g n cap W hR hS hw hwo hgR hb hb2 hb3 hb4 3 hk (.inr rfl) hls hn
 ·exact D8 R S x rest base g n cap W hR hS hw hwo hgR hb hb2 hb3 hb4 4 hk rfl hls hn
 ·exact D7 R S x rest base g n cap W hR hS hw hwo hgR hb hb2 hb3 hb4 5 hk rfl hls hn
theorem ru (R:Nat) (S:dJ) (x:List UInt8) (rest:List (List UInt8)) (base g n cap:Nat) (W:World) (hR:iV jI 25 W R S) (hS:cK S 10000) (hw:cB W base g n cap (x::rest)) (hwo:iX (x::rest)) (hgR:R<g):
  Calls Tryd.prog 14 #[.pointer (some ⟨R,0,none⟩),.slice (some ⟨g,0,none⟩) n cap] W (gU jI 25 R (gB S (x::rest)) W):=by
 have he:gB S (x::rest)=if x=pU then eF S true rest else if x=ug then eF S false rest else if x=qR then fT S rest else if x=uh then j4 S rest else bP S (x::rest):=rfl
 rw[he]
 by_cases h1:x=pU
 ·rw[if_pos h1]
  exact xX R S x rest base g n cap W hR hS hw hwo hgR (by rw[h1];rfl)
 have b1:(x ==[112,101,114,109,105,116])=false:=(beq_eq_false_iff_ne (a:=x) (b:=[112,101,114,109,105,116])).2 h1
 rw[if_neg h1]
 by_cases h2:x=ug
 ·rw[if_pos h2]
  exact zT R S x rest base g n cap W hR hS hw hwo hgR b1 (by rw[h2];rfl)
 have b2:(x ==[100,101,110,121])=false:=(beq_eq_false_iff_ne (a:=x) (b:=[100,101,110,121])).2 h2
 rw[if_neg h2]
 by_cases h3:x=qR
 ·rw[if_pos h3]
  exact yU R S x rest base g n cap W hR hS hw hwo hgR b1 b2 (by rw[h3];rfl)
 have b3:(x ==[114,111,117,116,101])=false:=(beq_eq_false_iff_ne (a:=x) (b:=[114,111,117,116,101])).2 h3
 rw[if_neg h3]
 by_cases h4:x=uh
 ·rw[if_pos h4]
  exact zV R S x rest base g n cap W hR hS hw hwo hgR b1 b2 b3 (by rw[h4];rfl)
 have b4:(x ==[108,105,110,107])=false:=(beq_eq_false_iff_ne (a:=x) (b:=[108,105,110,107])).2 h4
 rw[if_neg h4]
 exact AR R S x rest base g n cap W hR hS hw hwo hgR b1 b2 b3 b4
theorem yV (l:List UInt8) (W:World) (hl:l.length≤4096):
  Calls Tryd.prog 13 #[.string ⟨l.toArray⟩] W fun e W'=>∃g c,e= .returned (.tuple #[.slice (some ⟨g,0,none⟩) (aW l).1.length c,.bool (aW l).2])∧g<W'.heap.size∧(∀(j:Nat) x,(aW l).1[j]?=some x→W'.cell? ⟨g,j,none⟩=some (.string ⟨x.toArray⟩))∧Below W.heap.size W W':=by
 have dR:=hide (iK l 10 W (by omega))
 have hpn:=dU 10 l
 have hpl:=eO 10 l
 have hlo:aW l=if(pieces 10 l).getLast? =some []then((pieces 10 l).dropLast,true)else(pieces 10 l,false):=rfl
 obtain⟨r,hr⟩:∃r,aW l=r:=⟨_,rfl⟩
 rw[hr]at hlo ⊢
 obtain⟨s,hss⟩:∃s:ByteArray,⟨l.toArray⟩=s:=⟨_,rfl⟩
 obtain⟨ps,hps⟩:∃ps,pieces 10 l=ps:=⟨_,rfl⟩
 rw[hps]at dR hpn hpl hlo
 rw[hss]at dR ⊢
 obtain⟨k,hk⟩:∃k,ps.length=k+1:=⟨ps.length - 1,by omega⟩
 obtain⟨y,hy⟩:∃y,ps[k]?=some y:=⟨ps[k]'(by omega),List.getElem?_eq_getElem _⟩
 have hgl:ps.getLast? =some y:=by rw[List.getLast?_eq_getElem?,hk];exact hy
 rw[hgl]at hlo
 rw[hk]at dR hpl hpn
 have hk5:k≤4096:=by omega
 have q3:(((k+1:Nat):Int) - 1)=(k:Int):=by omega
 have q4:((k:Int)+1 - 1)=(k:Int):=by omega
 have HY:=hide hy
 clear hss hps hr hy hgl hpl hpn hl
 by_cases hy0:y=[]
 ·subst hy0
  rw[if_pos rfl]at hlo
  have AU:=hide hlo
  have hdl:ps.dropLast.length=k:=by rw[List.length_dropLast,hk];rfl
  clear hlo hk
  go_enter Tryd.func13,Tryd.ntmps13
  go_wp2_with fail
  refine dR.out.mono ?_
  rintro e w1 ⟨g,cap,rfl,hst,hb1⟩
  have q0:w1.cell? ⟨g,k,none⟩=some (.string ⟨[].toArray⟩):=hst.get HY.out
  have hcap:k+1≤cap:=(dY hst.own).1
  have HST:=hide hst
  have HB1:=hide hb1
  clear hst hb1 dR
  go_wp2_with fail
  go_ret2
  refine⟨g,cap,?_,HST.out.lt.2,fun j x hj=>?_,HB1.out⟩
  ·rw[AU.out];simp[hdl]
  ·rw[AU.out]at hj
   have hj':ps.dropLast[j]?=some x:=hj
   have hjl:=(List.getElem?_eq_some_iff.1 hj').1
   exact HST.out.get (by rw[← hj',List.getElem?_dropLast,if_pos (by have:=HST.out.len;omega)])
 ·rw[if_neg (fun e=>hy0 (Option.some.inj e))]at hlo
  have AU:=hide hlo
  have e1:(y ==[])=false:=by simpa using hy0
  have HK:=hide hk
  clear hlo hk
  go_enter Tryd.func13,Tryd.ntmps13
  go_wp2_with fail
  refine dR.out.mono ?_
  rintro e w1 ⟨g,cap,rfl,hst,hb1⟩
  have q0:w1.cell? ⟨g,k,none⟩=some (.string ⟨y.toArray⟩):=hst.get HY.out
  have hcap:k+1≤cap:=(dY hst.own).1
  have HST:=hide hst
  have HB1:=hide hb1
  clear hst hb1 dR
  go_wp2_with fail
  go_ret2
  refine⟨g,cap,?_,HST.out.lt.2,fun j x hj=>?_,HB1.out⟩
  ·rw[AU.out];simp[HK.out]
  ·rw[AU.out]at hj
   exact HST.out.get hj
end Go.Proofs.YtifkacnoiocebaaDoor
