/- A part of the proof: Nq8. -/
import Derived.Test.YtifkacnoiocebaaDoorNz25
set_option linter.unusedVariables false
set_option linter.unusedSimpArgs false
set_option maxRecDepth 100000
set_option maxHeartbeats 8000000
namespace Go.Proofs.YtifkacnoiocebaaDoor
open Go.RowKit
theorem D6 (R:Nat) (S:dJ) (x:List UInt8) (rest:List (List UInt8)) (base g n cap:Nat) (W:World) (hR:iV jI 25 W R S) (hS:cK S 10000) (hw:cB W base g n cap (x::rest)) (hwo:iX (x::rest)) (hgR:R<g) (hb:(x ==[112,101,114,109,105,116])=false) (hb2:(x ==[100,101,110,121])=false) (hb3:(x ==[114,111,117,116,101])=false) (hb4:(x ==[108,105,110,107])=false) (k:Nat) (hk:eX x=k) (h23:k=1) (hls:S.ls=[]) (hn2:n=3):
  Calls Tryd.prog 14 #[.pointer (some ⟨R,0,none⟩),.slice (some ⟨g,0,none⟩) n cap] W (gU jI 25 R (bP S (x::rest)) W):=by
 have hk1:1≤k:=by omega
 have hk5:k≤5:=by omega
 have hwn:jm k=3:=by subst h23;rfl
 have HK:=hide (mI hk hk1 hk5)
 obtain⟨nm,na,rfl⟩:∃a b,rest=[a,b]:=by
  have hn:=hw.len
  cases rest with
  |nil=>simp at hn;omega
  |cons a t=>
   cases t with
   |nil=>simp at hn;omega
   |cons c u=>
    cases u with
    |nil=>exact⟨a,c,rfl⟩
    |cons d v=>simp only[List.length_cons]at hn;omega
 have oz:nm.length≤5000:=hwo.each nm (by simp)
 have pW:=hide (And.intro hk h23)
 have vG:=hide hls
 have jM:=hide hn2
 clear hk hn2 h23
 obtain⟨ds,V,L,hbx,aR,hds⟩:=hR
 have hn:=hw.len
 simp only[List.length_cons]at hn
 have hcap:=(dY hw.own)
 have iM:=hwo.len
 simp only[List.length_cons]at iM
 have hRl:=hbx.lt
 have hgl:=hw.lt.2
 have aL:Bx W R #[V,L] 25:=hbx
 clear hbx
 have iw:ds.length≤10000:=by have:=hS.d;rw[← hds,List.length_map]at this;exact this
 have j3:S.ls.length≤10000:=hS.l
 have hxg:W.cell? ⟨g,0,none⟩=some (.string ⟨x.toArray⟩):=hw.get (k:=0) rfl
 have hn0:(0:Int)<(n:Int):=by omega
 have hn1:0<n:=by omega
 obtain⟨LA,lc,rfl,_⟩:=bD.dw aJ.len aR.l rfl
 have r1:W.cell? ⟨R,1,none⟩=some (.slice LA S.ls.length lc):=aL.get 1 _ rfl
 obtain⟨A,dc,rfl,_⟩:=bD.dw ah.len aR.d rfl
 obtain⟨nd,hnd⟩:∃nd,ds.length=nd:=⟨_,rfl⟩
 obtain⟨nl,hnl⟩:∃nl,S.ls.length=nl:=⟨_,rfl⟩
 have r0:W.cell? ⟨R,0,none⟩=some (.slice A nd dc):=by rw[← hnd];exact aL.get 0 _ rfl
 rw[hnl]at r1 j3
 have sH:nd≤10000:=by omega
 have fO:=hide aR
 have fq:=hide aL
 have HS:=hide hw
 have oh:=hide hwo
 have jE:=hide hds
 rw[hnd]at aR
 have kP:=hide hnd
 have lQ:=hide hnl
 have fC:=hide (fun(w':World) (hb:Below W.heap.size W w')=>show w'.cell? ⟨R,0,none⟩=some (.slice A nd dc)∧w'.cell? ⟨R,1,none⟩=some (.slice LA nl lc)from
  ⟨(hb.cell (p:=⟨R,0,none⟩) hRl).trans r0,(hb.cell (p:=⟨R,1,none⟩) hRl).trans r1⟩)
 have bI:=hide (fun(w':World) (hb:Below W.heap.size W w')=>show NG w' (R+1) ds S.ls (.slice A ds.length dc) (.slice LA S.ls.length lc)∧Bx w' R #[.slice A ds.length dc,.slice LA S.ls.length lc] 25 from⟨fO.out.below hb,fq.out.below hb⟩)
 have gI:=hide iw
 have dM:=hide (fun(w':World) (hb:Below W.heap.size W w') (j:Nat) (y:List UInt8) (h:(x::[nm,na])[j]?=some y)=>show w'.cell? ⟨g,j,none⟩=some (.string ⟨y.toArray⟩)from(HS.out.below hb).get h)
 clear hS aL hds hw hwo hnl iw hnd
 have jQ:0<nd→∃gd,A=some ⟨gd,0,none⟩:=fun h=>by
  obtain⟨gd,c,e,_⟩:=fO.out.d.form (by have:=kP.out;omega)
  cases e
  exact⟨gd,rfl⟩
 have oZ:=hide jQ
 clear jQ
 go_enter Tryd.func14,Tryd.ntmps14
 go_upto_region 2 with fail
 go_cut [30]from 17 to 30 (fun pV wx=>(∃b:Bool,pV= .bool b∧(b=true→0<nd))∧W=wx)
 case first=>
  by_cases hn0:nd=0
  ·have q0:decide ((0:Int)<(nd:Int))=false:=decide_eq_false (by omega)
   go_wp2
   go_meet
   exact⟨⟨_,rfl,fun h=>by cases h⟩,rfl⟩
  ·have q0:decide ((0:Int)<(nd:Int))=true:=decide_eq_true (by omega)
   go_wp2
   all_goals (go_meet;exact⟨⟨_,rfl,fun h=>by omega⟩,rfl⟩)
 case rest=>
 obtain⟨⟨bd,rfl,hbd⟩,rfl⟩:=hcut
 go_upto_if 30 with fail
 go_cut [5]from 31 to 41 (fun s5 wx=>Hid (Below W.heap.size W wx))
 case first=>
  cases bd with
  |false=>
   go_wp2
   go_meet
   exact hide (Below.refl _ _)
  |true=>
   obtain⟨gd,rfl⟩:=oZ.out (hbd rfl)
   have h0:=hbd rfl
   clear hbd
   have q3:((nd:Int) - 1)=((nd - 1:Nat):Int):=by omega
   have q4:0≤(nd:Int) - 1:=by omega
   have q5:(nd:Int) - 1<(nd:Int):=by omega
   go_wp2_with fail
   go_quiet (fail)
   go_wp2
   go_meet
   exact hide (aP _ _ _)
 case rest=>
 have HB1:=hcut
 clear hcut r0 r1 aR
 have p0:wc.cell? ⟨g,0,none⟩=some (.string ⟨x.toArray⟩):=(HB1.out.cell (p:=⟨g,0,none⟩) hgl).trans hxg
 obtain⟨G,hG⟩:∃G,wc.heap.size=G:=⟨_,rfl⟩
 obtain⟨w4,hw4⟩:∃w4,w4=wc.alloc (.cells #[.string ⟨#[]⟩,.string ⟨#[104,111,115,116]⟩,.string ⟨#[114,111,117,116,101,114]⟩,.string ⟨#[102,105,114,101]⟩,.string ⟨#[110,97,116]⟩,.string ⟨#[108,98]⟩] 9):=⟨_,rfl⟩
 have eH:=hide (show Bx w4 G #[.string ⟨#[]⟩,.string ⟨#[104,111,115,116]⟩,.string ⟨#[114,111,117,116,101,114]⟩,.string ⟨#[102,105,114,101]⟩,.string ⟨#[110,97,116]⟩,.string ⟨#[108,98]⟩] 9 from by rw[hw4,← hG];exact Bx.new wc _ _)
 have aK:=hide (show Below W.heap.size W w4 from by rw[hw4];exact HB1.out.trans ((below_alloc2 wc _).mono HB1.out.size))
 have jJ:=hide (jA iQ G 6 6 x w4 eH.out.lt rfl (by omega) (fun j y hy=>match j,hy with
  |0,hy=>by cases hy;exact eH.out.get 0 _ rfl
  |1,hy=>by cases hy;exact eH.out.get 1 _ rfl
  |2,hy=>by cases hy;exact eH.out.get 2 _ rfl
  |3,hy=>by cases hy;exact eH.out.get 3 _ rfl
  |4,hy=>by cases hy;exact eH.out.get 4 _ rfl
  |5,hy=>by cases hy;exact eH.out.get 5 _ rfl
  |(j+6),hy=>absurd hy (by simp[iQ])))
 have p4:∀o,(wc.alloc o).cell? ⟨g,0,none⟩=some (.string ⟨x.toArray⟩):=fun o=>((below_alloc2 wc o).cell (p:=⟨g,0,none⟩) (by show g<_;have:=HB1.out.size;omega)).trans p0
 clear hxg
 rw[HK.out]at jJ
 go_wp2_with fail
 rw[← hw4]
 refine jJ.out.mono ?_
 rintro e w5 ⟨rfl,hb5⟩
 have bK:=hide (aK.out.trans (hb5.mono aK.out.size))
 clear hb5 jJ eH p0 p4 aK hw4
 have r1:=(fC.out w5 bK.out).2
 obtain rfl:nl=0:=by rw[← lQ.out,hls];rfl
 have hn2:=jM.out
 clear jM
 subst hn2
 have d1:decide ((k:Int)<1)=false:=decide_eq_false (by omega)
 have hk0:(0:Int)≤(k:Int):=by omega
 have r9:(k:Int)<6:=by omega
 have w0:(w5.alloc (.cells #[.int .i64 0,.int .i64 3,.int .i64 2,.int .i64 2,.int .i64 4,.int .i64 4] 3)).cell? ⟨w5.heap.size,k,none⟩=some (.int .i64 ((3:Nat):Int)):=by
  rw[cell_of_row _ _ _ _ _ _ (heap_alloc_new w5 _)]
  have h:=ow hk1 hk5
  rw[hwn]at h
  exact h
 go_upto_region 37 with fail
 obtain⟨w6,oC⟩:∃w6,w6=w5.alloc (.cells #[.int .i64 0,.int .i64 3,.int .i64 2,.int .i64 2,.int .i64 4,.int .i64 4] 3):=⟨_,rfl⟩
 have dN:=hide (show Below W.heap.size W w6 from by rw[oC];exact bK.out.trans ((below_alloc2 w5 _).mono bK.out.size))
 rw[← oC]
 clear oC w0 r1 d1 bK
 have p6:w6.cell? ⟨g,1,none⟩=some (.string ⟨nm.toArray⟩):=dM.out _ dN.out 1 nm rfl
 obtain⟨D,hD⟩:∃D,w6.heap.size=D:=⟨_,rfl⟩
 have oP:W.heap.size≤D:=by rw[← hD];exact dN.out.size
 go_upto_region 38 with fail
 obtain⟨w7,hw7⟩:∃w7,w7=w6.alloc (.cells #[.string ⟨nm.toArray⟩,.int .i64 (k:Int),.int .i64 0,.int .u8 0,.slice none 0 0,.slice none 0 0,.slice none 0 0] 37):=⟨_,rfl⟩
 have bU:=hide (show Bx w7 D #[.string ⟨nm.toArray⟩,.int .i64 (k:Int),.int .i64 0,.int .u8 0,.slice none 0 0,.slice none 0 0,.slice none 0 0] 37 from by rw[hw7,← hD];exact Bx.new w6 _ _)
 have bM:=hide (show Below W.heap.size W w7 from by rw[hw7];exact dN.out.trans ((below_alloc2 w6 _).mono dN.out.size))
 rw[← hw7]
 clear hw7 p6 dN
 have p7:w7.cell? ⟨g,1,none⟩=some (.string ⟨nm.toArray⟩):=dM.out _ bM.out 1 nm rfl
 obtain⟨eB,hi0,hz0,hz1,hz2⟩:=info_parts Tryd.infoDevice
 go_upto_region 39 with(refine wpList_buildSlice rfl 22 37 1 #[(0,.tmp 240)] rfl #[.string ⟨nm.toArray⟩,.int .i64 2,.int .i64 0,.int .u8 0,.slice none 0 0,.slice none 0 0,.slice none 0 0] eB _ Tryd.underlying22 hi0 hz0 (by rw[hz1];omega) (by rw[hz1];omega) (by rw[hz1,Array.toList_map];exact d9 ⟨nm.toArray⟩ 2 0 0 none none none 0 0 0 0 0 0) ?_)
 obtain⟨Y,hY⟩:∃Y,w7.heap.size=Y:=⟨_,rfl⟩
 obtain⟨w8,hw8⟩:∃w8,w8=w7.alloc (.cells #[.string ⟨nm.toArray⟩,.int .i64 2,.int .i64 0,.int .u8 0,.slice none 0 0,.slice none 0 0,.slice none 0 0] 37):=⟨_,rfl⟩
 have jR:=below_alloc2 w7 (.cells #[.string ⟨nm.toArray⟩,.int .i64 2,.int .i64 0,.int .u8 0,.slice none 0 0,.slice none 0 0,.slice none 0 0] 37)
 rw[← hw8]at jR
 have qY:w8.heap.size=Y+1:=by rw[hw8,← hY];simp
 have qZ:=hide (show Bx w8 Y #[.string ⟨nm.toArray⟩,.int .i64 2,.int .i64 0,.int .u8 0,.slice none 0 0,.slice none 0 0,.slice none 0 0] 37 from by rw[hw8,← hY];exact Bx.new w7 _ _)
 obtain⟨w9,mJ⟩:∃w9,w9=w8.alloc (.cells #[.slice (some ⟨Y,0,none⟩) 1 1,.slice none 0 0] 25):=⟨_,rfl⟩
 have kQ:=below_alloc2 w8 (.cells #[.slice (some ⟨Y,0,none⟩) 1 1,.slice none 0 0] 25)
 rw[← mJ]at kQ
 have oD:=hide (show Bx w9 (Y+1) #[.slice (some ⟨Y,0,none⟩) 1 1,.slice none 0 0] 25 from by rw[mJ,← qY];exact Bx.new w8 _ _)
 have q8:=hide (bU.out.below (jR.trans (kQ.mono jR.size)))
 have bS:=hide (bM.out.trans ((jR.trans (kQ.mono jR.size)).mono bM.out.size))
 have jX:=hide ((kZ _ w9 (rH oz (qZ.out.below kQ))).mono (fun e w' h=>show e= .returned (.int .i64 (if bT ⟨nm.toArray⟩=true then 0 else 3))∧Below w9.heap.size w9 w' from by
  rw[← qc];exact h))
 simp only[fA.val]at jX
 rw[hY,← hw8,← mJ]
 clear hw8 mJ
 have z0:w9.cell? ⟨Y+1,0,none⟩=some (.slice (some ⟨Y,0,none⟩) 1 1):=oD.out.get 0 _ rfl
 have z1:w9.cell? ⟨Y+1,1,none⟩=some (.slice none 0 0):=oD.out.get 1 _ rfl
 go_wp2_with fail
 refine jX.out.mono ?_
 rintro e aA ⟨rfl,ak⟩
 have aO:=hide (q8.out.below ak)
 have aS:=hide (bS.out.trans (ak.mono bS.out.size))
 have mK:D+1≤aA.heap.size:=aO.out.lt
 clear ak jX q8 bS oD qZ kQ jR bU bM qY hY p7 z0 z1
 cases hnb:bT ⟨nm.toArray⟩
 case false=>
  have HF:=hide (dG S x nm ([na]) (.inr hnb))
  clear hnb
  simp only[Bool.false_eq_true,if_false]
  go_wp2_with fail
  go_ret
  exact⟨aS.out.mono (by omega),.inl ⟨HF.out,rfl⟩⟩
 case true=>
 simp only[if_true]
 have HF:=hide (show bP S [x,nm,na]=if 0≤aF na 100 then some ⟨S.ds++[⟨⟨nm.toArray⟩,(k:Int),aF na 100,0,[],[],[]⟩],S.ls⟩else none from by
  obtain⟨hkx,rfl⟩:=pW.out
  simp only[bP,hkx]
  rw[if_neg (by intro hc;rcases hc with hc | hc;exact hc vG.out;exact absurd (show bT ⟨nm.toArray⟩=false from hc) (by rw[hnb];decide))]
  rfl)
 clear hnb
 have iI:=fun w=>jZ na 99 w (by omega)
 rw[show(99:Int)+1=100 from rfl]at iI
 have nH:=gW na 100
 have nI:=dP na 100
 obtain⟨a,ha⟩:∃a,aF na 100=a:=⟨_,rfl⟩
 simp only[ha]at iI HF nH nI
 have iI:=hide iI
 have mR: -1≤a∧a≤100:=by omega
 clear ha nH nI
 have g2:aA.cell? ⟨g,2,none⟩=some (.string ⟨na.toArray⟩):=dM.out _ aS.out 2 na rfl
 have vv:aA.cell? ⟨D,2,none⟩=some (.int .i64 0):=aO.out.get 2 _ rfl
 have vw:aA.frozen? ⟨D,2,none⟩=false:=aO.out.frozen 2
 have jo:=hide (show Bx (aA.setCell ⟨D,2,none⟩ (.int .i64 a)) D #[.string ⟨nm.toArray⟩,.int .i64 (k:Int),.int .i64 a,.int .u8 0,.slice none 0 0,.slice none 0 0,.slice none 0 0] 37 from aO.out.set 2 (.int .i64 a))
 have aQ:=hide (aS.out.setCell (p:=⟨D,2,none⟩) oP (.int .i64 a))
 have wm:D+1≤(aA.setCell ⟨D,2,none⟩ (.int .i64 a)).heap.size :=by rw[size_setCell];exact mK
 go_upto_region 43 with((go_at_call_of 42 (Value.string ⟨na.toArray⟩));refine(iI.out _).mono ?_;rintro e w5 ⟨rfl,rfl⟩)
 clear aO aS mK g2 vv vw iI
 generalize World.setCell aA _ _=fH at*
 have AO:fH.cell? ⟨D,2,none⟩=some (.int .i64 a):=jo.out.get 2 _ rfl
 by_cases hA0:0≤a
 case neg=>
  have d1:decide (a<0)=true:=decide_eq_true (by omega)
  rw[if_neg hA0]at HF
  go_wp2_with fail
  go_ret
  exact⟨aQ.out.mono (by omega),.inl ⟨HF.out,rfl⟩⟩
 case pos=>
 have d1:decide (a<0)=false:=decide_eq_false (by omega)
 rw[if_pos hA0]at HF
 have e5:((k:Int)==5)=false:=by have:=pW.out.2;simp;omega
 have eY:=hide (gV fH (R+1) ⟨nm.toArray⟩ (k:Int) a 0)
 have ji:=hide (gJ (bA:=none) (bn:=0) (bc:=0) oz (show -1≤(k:Int)∧(k:Int)≤100 by omega) mR (show 0<256 by omega) (bs:=[]) (fun y hy=>(nomatch hy)))
 go_wp2_with fail
 have bU:=jo
 have bM:=aQ
 have hD7:=wm
 clear jo aQ e5 wm d1 AO
 generalize fH=w7 at*
 have bg:=hide (bM.out.drew)
 have aG:=hide (show Bx w7.drew D #[.string ⟨nm.toArray⟩,.int .i64 (k:Int),.int .i64 a,.int .u8 0,.slice none 0 0,.slice none 0 0,.slice none 0 0] 37 from bU.out)
 have bQ:=hide (show eZ w7.drew (R+1) ⟨⟨nm.toArray⟩,(k:Int),a,0,none,0,0,[],none,0,0,[],none,0,0,[]⟩from eY.out)
 have lK:D+1≤w7.drew.heap.size:=hD7
 have hS0:w7.drew.cell? ⟨R,0,none⟩=some (.slice A ds.length dc)∧w7.drew.cell? ⟨D,0,none⟩=some (.string ⟨nm.toArray⟩)∧w7.drew.cell? ⟨D,1,none⟩=some (.int .i64 (k:Int))∧w7.drew.cell? ⟨D,2,none⟩=some (.int .i64 a)∧w7.drew.cell? ⟨D,3,none⟩=some (.int .u8 0)∧w7.drew.cell? ⟨D,4,none⟩=some (.slice none 0 0)∧w7.drew.cell? ⟨D,5,none⟩=some (.slice none 0 0)∧w7.drew.cell? ⟨D,6,none⟩=some (.slice none 0 0):=
  ⟨(bI.out _ bg.out).2.get 0 _ rfl,aG.out.get 0 _ rfl,aG.out.get 1 _ rfl,aG.out.get 2 _ rfl,aG.out.get 3 _ rfl,aG.out.get 4 _ rfl,aG.out.get 5 _ rfl,aG.out.get 6 _ rfl⟩
 refine bF (fun w'=>w'.cell? ⟨R,0,none⟩=some (.slice A ds.length dc)∧w'.cell? ⟨D,0,none⟩=some (.string ⟨nm.toArray⟩)∧w'.cell? ⟨D,1,none⟩=some (.int .i64 (k:Int))∧w'.cell? ⟨D,2,none⟩=some (.int .i64 a)∧w'.cell? ⟨D,3,none⟩=some (.int .u8 0)∧w'.cell? ⟨D,4,none⟩=some (.slice none 0 0)∧w'.cell? ⟨D,5,none⟩=some (.slice none 0 0)∧w'.cell? ⟨D,6,none⟩=some (.slice none 0 0)) 7 (by kernel_rfl) hS0 (fun hS inv=>?_)
 clear hS0 bU bM eY hD7
 generalize World.drew w7=wd at*
 revert inv
 refine rP 0 hS ?_
 refine rP 1 hS ?_
 refine rP 2 hS ?_
 refine rP 3 hS ?_
 refine rL 4 [7] rfl hS (by intro w hSw;obtain⟨s0,s1,s2,s3,s4,s5,s6,s7⟩:=hSw;go_simp;try with_reducible rfl) ?_
 refine rL 5 [6,7] rfl hS (by intro w hSw;obtain⟨s0,s1,s2,s3,s4,s5,s6,s7⟩:=hSw;go_simp;try with_reducible rfl) ?_
 intro inv
 refine rO 6 inv fun K hK=>?_
 rw[if_pos (by rfl)]
 obtain⟨eB,hi0,hz0,hz1,hz2⟩:=info_parts Tryd.infoDevice
 refine wp_buildSlice 22 37 1 #[(0,.tmp 309)] rfl #[.string ⟨nm.toArray⟩,.int .i64 (k:Int),.int .i64 a,.int .u8 0,.slice none 0 0,.slice none 0 0,.slice none 0 0] eB _ Tryd.underlying22 hi0 hz0 (by rw[hz1];omega) (by rw[hz1];omega) (by rw[hz1,Array.toList_map];exact d9 ⟨nm.toArray⟩ (k:Int) a 0 none none none 0 0 0 0 0 0) ?_
 have ak:=below_alloc2 wd (.cells #[.string ⟨nm.toArray⟩,.int .i64 (k:Int),.int .i64 a,.int .u8 0,.slice none 0 0,.slice none 0 0,.slice none 0 0] 37)
 have aO:=hide (Bx.new wd #[.string ⟨nm.toArray⟩,.int .i64 (k:Int),.int .i64 a,.int .u8 0,.slice none 0 0,.slice none 0 0,.slice none 0 0] 37)
 have aS:=hide (bg.out.trans (ak.mono (by omega)))
 have au:=hide (bI.out _ (bg.out.trans (ak.mono (by omega)))).1
 have bq:=hide (bI.out _ (bg.out.trans (ak.mono (by omega)))).2
 have bZ:=hide (show eZ _ (R+1) ⟨⟨nm.toArray⟩,(k:Int),a,0,none,0,0,[],none,0,0,[],none,0,0,[]⟩from⟨own_below bQ.out.1 ak,bQ.out.2⟩)
 have bW:=hide (show(wd.alloc (.cells #[.string ⟨nm.toArray⟩,.int .i64 (k:Int),.int .i64 a,.int .u8 0,.slice none 0 0,.slice none 0 0,.slice none 0 0] 37)).heap.size =wd.heap.size+1 from by simp)
 have hSS:(wd.alloc (.cells #[.string ⟨nm.toArray⟩,.int .i64 (k:Int),.int .i64 a,.int .u8 0,.slice none 0 0,.slice none 0 0,.slice none 0 0] 37)).cell? ⟨R,0,none⟩=some (.slice A ds.length dc):=bq.out.get 0 _ rfl
 have aI:=hide (aG.out.below ak)
 clear ak bg aG bQ hS
 generalize World.alloc wd _=aA at*
 have hS:aA.cell? ⟨R,0,none⟩=some (.slice A ds.length dc)∧aA.cell? ⟨D,0,none⟩=some (.string ⟨nm.toArray⟩)∧aA.cell? ⟨D,1,none⟩=some (.int .i64 (k:Int))∧aA.cell? ⟨D,2,none⟩=some (.int .i64 a)∧aA.cell? ⟨D,3,none⟩=some (.int .u8 0)∧aA.cell? ⟨D,4,none⟩=some (.slice none 0 0)∧aA.cell? ⟨D,5,none⟩=some (.slice none 0 0)∧aA.cell? ⟨D,6,none⟩=some (.slice none 0 0):=
  ⟨hSS,aI.out.get 0 _ rfl,aI.out.get 1 _ rfl,aI.out.get 2 _ rfl,aI.out.get 3 _ rfl,aI.out.get 4 _ rfl,aI.out.get 5 _ rfl,aI.out.get 6 _ rfl⟩
 refine hK.out _ _ (fun _=>hS) ?_
 clear hK K hS inv
 intro inv
 try simp only[Act.put,aB,aC,aD]
 refine rT 7 inv fun K hK=>?_
 rw[if_pos (by rfl)]
 have iD:=bW.out
 have hdl:=gI.out
 refine aZ _ (.tmp 308) (.tmp 310) 22 rfl (R+1) 37 eB _ 7 112 Tryd.underlying22 hi0 hz0 hz1 hz2 rfl (by omega) (.slice A ds.length dc) ds.length (ds.flatMap ah.cells) rfl au.out.d (wd.heap.size+1) (some ⟨wd.heap.size,0,none⟩) 1 1 (ah.cells ⟨⟨nm.toArray⟩,(k:Int),a,0,none,0,0,[],none,0,0,[],none,0,0,[]⟩) rfl ⟨rfl,fun _=>⟨_,rfl,Nat.lt_succ_self _,fun j' u hu=>by
  rw[addr_add,Nat.zero_add]
  exact aO.out.get j' u (by simpa[ah.cells]using hu)⟩⟩ (ah.one _) (by simp only[maxLen];omega) (by omega) (by omega) ?_
 intro v9 w9 aH aN bX
 obtain⟨g9,c9,rfl,_⟩:=aH.form (by omega)
 have dh:=hide (au.out.gX (x:=⟨⟨nm.toArray⟩,(k:Int),a,0,none,0,0,[],none,0,0,[],none,0,0,[]⟩) ji.out bZ.out ⟨rfl,rfl,rfl,rfl⟩ ⟨rfl,rfl,rfl,rfl⟩ aH aN)
 have aT:=hide (bq.out.same (aY aN (by omega) (fun e=>by have:=(au.out.d.lt _ e).1;omega)))
 have bS:=hide (show Below R W w9 from(aS.out.mono (by omega)).grown aN (by omega) (fun j hj=>by have:=(au.out.d.lt _ hj).1;omega))
 have s0:w9.cell? ⟨R,0,none⟩=some (.slice A ds.length dc):=aT.out.get 0 _ rfl
 have f0:w9.frozen? ⟨R,0,none⟩=false:=aT.out.frozen 0
 clear aH aN bX au bq aS bZ aO hSS
 refine hK.out _ _ ?_
 clear hK K inv
 intro inv
 try simp only[Act.put,aB,aC,aD]
 refine rT 8 inv fun K hK=>?_
 go_simp
 refine hK.out _ _ ?_
 clear hK K inv
 intro inv
 try simp only[Act.put,aB,aC,aD]
 refine rT 9 inv fun K hK=>?_
 go_simp
 refine hK.out _ _ ?_
 clear hK K inv
 intro inv
 try simp only[Act.put,aB,aC,aD]
 refine rT 10 inv fun K hK=>?_
 go_simp
 refine hK.out _ _ ?_
 clear hK K inv
 intro inv
 try simp only[Act.put,aB,aC,aD]
 refine rD ?_
 clear inv
 clear s0 f0
 have fD:=hide (aT.out.set 0 (.slice (some ⟨g9,0,none⟩) (ds.length+1) c9))
 have iN:=hide (dh.out.same (w':=w9.setCell ⟨R,0,none⟩ (.slice (some ⟨g9,0,none⟩) (ds.length+1) c9)) (fun q h1 h2=>RowKit.Below.heap_setCell _ _ _ _ (show q≠R by omega)))
 have aQ:=hide (bS.out.setCell (p:=⟨R,0,none⟩) (Nat.le_refl R) (.slice (some ⟨g9,0,none⟩) (ds.length+1) c9))
 generalize World.setCell w9 _ _=fH at*
 clear aT dh bS
 go_wp2_with fail
 go_ret
 refine⟨aQ.out,.inr ⟨_,HF.out,rfl,_,_,_,?_,iN.out,by rw[List.map_append,jE.out];rfl⟩⟩
 have hb:=fD.out
 exact hb
end Go.Proofs.YtifkacnoiocebaaDoor
