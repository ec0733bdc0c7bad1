/- A part of the proof: Nq3, RegC. -/
import Derived.Test.YtifkacnoiocebaaDoorNz21
set_option linter.unusedVariables false
set_option linter.unusedSimpArgs false
set_option maxRecDepth 100000
set_option maxHeartbeats 8000000
namespace Go.Proofs.YtifkacnoiocebaaDoor
open Go.RowKit
theorem zT (R:Nat) (S:dJ) (x:List UInt8) (rest:List (List UInt8)) (base g n cap:Nat) (W:World) (hR:iV jI 25 W R S) (hS:cK S 10000) (hw:cB W base g n cap (x::rest)) (hwo:iX (x::rest)) (hgR:R<g) (hb:(x ==[112,101,114,109,105,116])=false) (hb2:(x ==[100,101,110,121])=true):
  Calls Tryd.prog 14 #[.pointer (some ⟨R,0,none⟩),.slice (some ⟨g,0,none⟩) n cap] W (gU jI 25 R (eF S false rest) W):=by
 obtain⟨ds,V,L,hbx,aR,hds⟩:=hR
 have hn:=hw.len
 simp only[List.length_cons]at hn
 have hcap:=(dY hw.own)
 have iM:=hwo.len
 simp only[List.length_cons]at iM
 have hRl:=hbx.lt
 have hgl:=hw.lt.2
 have aL:Bx W R #[V,L] 25:=hbx
 clear hbx
 have iw:ds.length≤10000:=by have:=hS.d;rw[← hds,List.length_map]at this;exact this
 have j3:S.ls.length≤10000:=hS.l
 have hxg:W.cell? ⟨g,0,none⟩=some (.string ⟨x.toArray⟩):=hw.get (k:=0) rfl
 have hn0:(0:Int)<(n:Int):=by omega
 have hn1:0<n:=by omega
 obtain⟨LA,lc,rfl,_⟩:=bD.dw aJ.len aR.l rfl
 have r1:W.cell? ⟨R,1,none⟩=some (.slice LA S.ls.length lc):=aL.get 1 _ rfl
 have hj:=hwo.join
 simp only[List.drop_succ_cons,List.drop_zero]at hj
 obtain⟨lr,hlr⟩:∃lr,dO [32] rest=lr:=⟨_,rfl⟩
 have HJ:=hide (fun(A:Option Addr) (m c:Nat) (w:World) (h:ny w A m rest) (h1:m≤5000)=>(pJ rest 32 A m c w h (by omega) (by omega)))
 simp only[hlr]at HJ hj
 have fG:=hide (fun w=>pI lr w (by omega))
 have bC:Hid (((aU lr).2≠0∨S.ds=[]∨S.ls≠[])→eF S false rest=none):=hide (fun h=>by
  unfold eF
  rw[hlr]
  split
  ·rename_i h0
   exact nN (h.resolve_left (fun h1=>h1 h0))
  ·rfl)
 have gH:Hid (∀ds0 x0,ds=ds0++[x0]→S.ls=[]→(aU lr).2=0→eF S false rest=some ⟨ds0.map ah.dev++[{ x0.dev with rules:=x0.dev.rules++[⟨false,(aU lr).1⟩] }],[]⟩):=hide (fun ds0 x0 e hl h0=>by
  unfold eF
  rw[hlr,if_pos h0]
  rcases lZ hds with⟨h1,_⟩ | ⟨d0,x1,h1,h2,h3,_⟩
  ·rw[h1]at e;simp at e
  ·rw[h1]at e
   obtain⟨rfl,e2⟩:=List.append_inj' e rfl
   cases e2
   rw[lC hl h2 h3])
 obtain⟨r,hr⟩:∃r,eF S false rest=r:=⟨_,rfl⟩
 simp only[hr]at bC gH ⊢
 have hpo:=qA (l:=lr)
 have oM:dL lr= .tuple #[.agg #[.int .u16 ((aU lr).1.src :Int),.int .u16 ((aU lr).1.dst :Int),.int .u8 ((aU lr).1.oG :Int),.int .u8 ((aU lr).1.oH :Int)],.int .i64 (aU lr).2]:=rfl
 have qh:(aU lr).2=0∨(aU lr).2=2∨(aU lr).2=3:=by
  unfold aU
  split
  ·exact .inr (.inl rfl)
  ·split
   ·split
    ·exact .inl rfl
    ·exact .inr (.inr rfl)
   ·exact .inr (.inr rfl)
 obtain⟨⟨ms,md,mp,mq⟩,hpm⟩:∃m,(aU lr).1=m:=⟨_,rfl⟩
 obtain⟨pe,hpe⟩:∃pe,(aU lr).2=pe:=⟨_,rfl⟩
 rw[hpm]at hpo oM
 rw[hpe]at oM qh
 simp only[hpm,hpe]at bC gH
 rw[oM]at fG
 have HE:=hide qh
 have eT:=hide hw.rest
 have eU:=hide (fun(h:n≤1) (A:Option Addr)=>hw.vZ h A)
 simp only[List.drop_succ_cons,List.drop_zero]at eT eU
 clear oM hpm hpe hr hlr qh hw hwo
 by_cases hd0:ds=[]
 ·have HF:=hide (bC.out (.inr (.inl (by rw[← hds,hd0];rfl))))
  obtain⟨A,c,hV,_⟩:=bD.dw ah.len aR.d rfl
  have r0:W.cell? ⟨R,0,none⟩=some (.slice A 0 c):=by rw[hV,hd0]at aL;exact aL.get 0 _ rfl
  clear bC gH aR aL hds hS hpo hV hd0
  go_enter Tryd.func14,Tryd.ntmps14
  go_wp2_with fail
  ·refine(HJ.out (some ⟨g,0,none⟩) (n - 1) (0) W (eU.out (by omega) _) (by omega)).mono ?_
   rintro e w2 ⟨rfl,rfl⟩
   clear eU eT HJ
   go_wp2_with fail
   refine(fG.out _).mono ?_
   rintro e w3 ⟨rfl,hb3⟩
   have gy:R≤w3.heap.size:=by have:=hb3.size;omega
   clear fG
   rcases HE.out with rfl | rfl | rfl
   all_goals
    go_wp2_with fail
    go_ret
    exact⟨(hb3.mono (by omega)).alloc gy _,.inl ⟨HF.out,rfl⟩⟩
  ·refine(HJ.out (some ⟨g,1,none⟩) (n - 1) (cap - 1) W (eT.out) (by omega)).mono ?_
   rintro e w2 ⟨rfl,rfl⟩
   clear eU eT HJ
   go_wp2_with fail
   refine(fG.out _).mono ?_
   rintro e w3 ⟨rfl,hb3⟩
   have gy:R≤w3.heap.size:=by have:=hb3.size;omega
   clear fG
   rcases HE.out with rfl | rfl | rfl
   all_goals
    go_wp2_with fail
    go_ret
    exact⟨(hb3.mono (by omega)).alloc gy _,.inl ⟨HF.out,rfl⟩⟩
 by_cases hls:S.ls=[]
 case neg=>
  have HF:=hide (bC.out (.inr (.inr hls)))
  obtain⟨A,c,hV,_⟩:=bD.dw ah.len aR.d rfl
  have r0:W.cell? ⟨R,0,none⟩=some (.slice A ds.length c):=by rw[hV]at aL;exact aL.get 0 _ rfl
  obtain⟨nd,hnd⟩:∃nd,ds.length=nd:=⟨_,rfl⟩
  obtain⟨nl,hnl⟩:∃nl,S.ls.length=nl:=⟨_,rfl⟩
  have DT:0<nd:=by rw[← hnd];exact List.length_pos_iff.2 hd0
  have DU:0<nl:=by rw[← hnl];exact List.length_pos_iff.2 hls
  rw[hnd]at r0
  rw[hnl]at r1
  have q0:decide ((0:Int)<(nd:Int))=true:=decide_eq_true (by omega)
  have q1:((nl:Int)==0)=false:=by simp;omega
  clear bC gH aR aL hds hS hpo hV hd0 hls hnd hnl iw j3
  go_enter Tryd.func14,Tryd.ntmps14
  go_wp2_with fail
  ·refine(HJ.out (some ⟨g,0,none⟩) (n - 1) (0) W (eU.out (by omega) _) (by omega)).mono ?_
   rintro e w2 ⟨rfl,rfl⟩
   clear eU eT HJ
   go_wp2_with fail
   refine(fG.out _).mono ?_
   rintro e w3 ⟨rfl,hb3⟩
   have gy:R≤w3.heap.size:=by have:=hb3.size;omega
   clear fG
   rcases HE.out with rfl | rfl | rfl
   all_goals
    go_wp2_with fail
    go_ret
    exact⟨(hb3.mono (by omega)).alloc gy _,.inl ⟨HF.out,rfl⟩⟩
  ·refine(HJ.out (some ⟨g,1,none⟩) (n - 1) (cap - 1) W (eT.out) (by omega)).mono ?_
   rintro e w2 ⟨rfl,rfl⟩
   clear eU eT HJ
   go_wp2_with fail
   refine(fG.out _).mono ?_
   rintro e w3 ⟨rfl,hb3⟩
   have gy:R≤w3.heap.size:=by have:=hb3.size;omega
   clear fG
   rcases HE.out with rfl | rfl | rfl
   all_goals
    go_wp2_with fail
    go_ret
    exact⟨(hb3.mono (by omega)).alloc gy _,.inl ⟨HF.out,rfl⟩⟩
 case pos=>
 rcases lZ hds with⟨h1,_⟩ | ⟨ds0,x0,rfl,h2,h3,hxm⟩
 ·exact absurd h1 hd0
 have HF:=hide (gH.out ds0 x0 rfl hls)
 have jP:x0∈ds0++[x0]:=List.mem_append_right _ (List.mem_singleton.2 rfl)
 have hrn:x0.rs.length≤10000:=hS.r _ hxm
 obtain⟨gd,cd,rfl,_⟩:=aR.d.form (by simp)
 have hlen:(ds0++[x0]).length =ds0.length+1:=by simp
 obtain⟨k,hk⟩:∃k,ds0.length=k:=⟨_,rfl⟩
 have Cx:k≤9999:=by rw[hlen,hk]at iw;omega
 have hgd:=aR.d.lt gd rfl
 have iq:Bx W R #[.slice (some ⟨gd,0,none⟩) (k+1) cd,.slice LA 0 lc] 25:=by
  rw[hlen,hk]at aL
  rw[hls]at aL
  exact aL
 rw[hls]at r1 aR
 have r0:W.cell? ⟨R,0,none⟩=some (.slice (some ⟨gd,0,none⟩) (k+1) cd):=iq.get 0 _ rfl
 have q0:decide ((0:Int)<((k+1:Nat):Int))=true:=decide_eq_true (by omega)
 have q1:decide ((0:Int)<(k:Int)+1)=true:=decide_eq_true (by omega)
 have q2:((k:Int)+1 - 1)=(k:Int):=by omega
 have q3:(((k+1:Nat):Int) - 1)=(k:Int):=by omega
 have HRW:=hide (fun(w':World) (hb:Below W.heap.size W w')=>show w'.cell? ⟨R,0,none⟩=some (.slice (some ⟨gd,0,none⟩) (k+1) cd)∧w'.cell? ⟨R,1,none⟩=some (.slice LA 0 lc)from⟨(iq.below hb).get 0 _ rfl,(iq.below hb).get 1 _ rfl⟩)
 have hrl:=(aR.r x0 jP).2
 have hxc:W.cell? ⟨gd,k*7+5,none⟩=some (.slice x0.rA x0.rn x0.rc):=by
  have:=aR.d.cells (g:=gd) rfl (k*7+5) (.slice x0.rA x0.rn x0.rc) (flat_get ah.len _ k x0 5 _ (by rw[← hk,List.getElem?_append_right (Nat.le_refl _),Nat.sub_self];rfl) rfl)
  rwa [addr_add,Nat.zero_add]at this
 have fO:=hide aR
 have fq:=hide iq
 have HQ:=hide (fun(w':World) (hb:Below W.heap.size W w')=>show w'.cell? ⟨gd,k*7+5,none⟩=some (.slice x0.rA x0.rn x0.rc)∧w'.cell? ⟨g,0,none⟩=some (.string ⟨x.toArray⟩)from
  ⟨(hb.cell (p:=⟨gd,k*7+5,none⟩) hgd.2).trans hxc,(hb.cell (p:=⟨g,0,none⟩) hgl).trans hxg⟩)
 have hmo:(⟨false,⟨ms,md,mp,mq⟩⟩:bN).ok :=hpo
 have vo:=hide hmo
 clear gH aR aL iq hds hS hpo hxc jP hxm h2 h3 hmo hd0
 go_enter Tryd.func14,Tryd.ntmps14
 go_wp2_with fail
 go_quiet (fail)
 obtain⟨w1,hw1⟩:∃w1,w1=W.drewN nq:=⟨_,rfl⟩
 have HB1:=hide (show Below W.heap.size W w1 from by rw[hw1];exact aP _ _ _)
 rw[← hw1]
 clear hw1
 obtain⟨p0,p1⟩:=HQ.out w1 HB1.out
 have eT:=hide (eT.out.below HB1.out)
 have eU:=hide (fun h A=>(eU.out h A).below HB1.out)
 clear r0 r1 hxg
 go_wp2_with fail
 ·refine(HJ.out (some ⟨g,0,none⟩) (n - 1) (0) w1 (eU.out (by omega) _) (by omega)).mono ?_
  rintro e w2 ⟨rfl,rfl⟩
  clear eU eT HJ
  go_wp2_with fail
  refine(fG.out _).mono ?_
  rintro e w3 ⟨rfl,hb3⟩
  have HB3:=hide ((HB1.out.trans (hb3.mono HB1.out.size)))
  have gy:R≤w3.heap.size:=by have:=HB3.out.size;omega
  clear fG hb3 HB1
  rcases HE.out with rfl | rfl | rfl
  ·obtain⟨M,hM⟩:∃M,w3.heap.size=M:=⟨_,rfl⟩
   have aK:=hide (HB3.out.alloc (Nat.le_trans HB3.out.size (Nat.le_refl _)) (.cells #[.int .u16 (ms:Int),.int .u16 (md:Int),.int .u8 (mp:Int),.int .u8 (mq:Int)] 61))
   have bJ:=hide (Bx.new w3 #[.int .u16 (ms:Int),.int .u16 (md:Int),.int .u8 (mp:Int),.int .u8 (mq:Int)] 61)
   have qK:(w3.alloc (.cells #[.int .u16 (ms:Int),.int .u16 (md:Int),.int .u8 (mp:Int),.int .u8 (mq:Int)] 61)).heap.size =M+1:=by simp[hM]
   rw[hM]at bJ gy
   have nX:=hide (HF.out rfl)
   clear bC HF HE
   go_wp2_with fail
   generalize World.alloc w3 _=w4 at*
   have HS:=hide (fun(w':World) (h:Below w4.heap.size w4 w')=>show w'.cell? ⟨gd,k*7+5,none⟩=some (.slice x0.rA x0.rn x0.rc)∧w'.cell? ⟨g,0,none⟩=some (.string ⟨x.toArray⟩)∧w'.cell? ⟨M,0,none⟩=some (.int .u16 (ms:Int))∧w'.cell? ⟨M,1,none⟩=some (.int .u16 (md:Int))∧w'.cell? ⟨M,2,none⟩=some (.int .u8 (mp:Int))∧w'.cell? ⟨M,3,none⟩=some (.int .u8 (mq:Int))from
    ⟨(HQ.out w' (aK.out.trans (h.mono aK.out.size))).1,(HQ.out w' (aK.out.trans (h.mono aK.out.size))).2,(bJ.out.below h).get 0 _ rfl,(bJ.out.below h).get 1 _ rfl,(bJ.out.below h).get 2 _ rfl,(bJ.out.below h).get 3 _ rfl⟩)
   refine bF (fun w'=>w'.cell? ⟨gd,k*7+5,none⟩=some (.slice x0.rA x0.rn x0.rc)∧w'.cell? ⟨g,0,none⟩=some (.string ⟨x.toArray⟩)∧w'.cell? ⟨M,0,none⟩=some (.int .u16 (ms:Int))∧w'.cell? ⟨M,1,none⟩=some (.int .u16 (md:Int))∧w'.cell? ⟨M,2,none⟩=some (.int .u8 (mp:Int))∧w'.cell? ⟨M,3,none⟩=some (.int .u8 (mq:Int))) 12 (by kernel_rfl) (HS.out _ (Below.refl _ _).drew) (fun hS inv=>?_)
   have bK:=hide (aK.out.drew)
   have iA:=hide (show Below w4.heap.size w4 w4.drew from(Below.refl _ _).drew)
   have hsz5:w4.drew.heap.size=M+1:=qK
   generalize World.drew w4=wd at*
   revert inv
   refine rP 0 hS ?_
   refine rP 1 hS ?_
   refine rP 2 hS ?_
   refine rP 3 hS ?_
   refine rL 4 [12] rfl hS (by intro w hSw;obtain⟨s0,s1,s2,s3,s4,s5⟩:=hSw;go_simp;try with_reducible rfl) ?_
   refine rP 5 hS ?_
   refine rP 6 hS ?_
   refine rL 7 [8,10,11,12] rfl hS (by intro w hSw;obtain⟨s0,s1,s2,s3,s4,s5⟩:=hSw;go_simp;try with_reducible rfl) ?_
   refine rP 8 hS ?_
   refine rL 9 [10,11,12] rfl hS (by intro w hSw;obtain⟨s0,s1,s2,s3,s4,s5⟩:=hSw;go_simp;try with_reducible rfl) ?_
   refine rP 10 hS ?_
   intro inv
   refine rO 11 inv fun K hK=>?_
   go_simp
   have ak:=below_alloc2 wd (.cells #[.bool false,.int .u16 (ms:Int),.int .u16 (md:Int),.int .u8 (mp:Int),.int .u8 (mq:Int)] 63)
   have aO:=hide (Bx.new wd #[.bool false,.int .u16 (ms:Int),.int .u16 (md:Int),.int .u8 (mp:Int),.int .u8 (mq:Int)] 63)
   have bW:=hide (HS.out _ (iA.out.trans (ak.mono (by omega))))
   have aS:=hide (bK.out.trans (ak.mono bK.out.size))
   have iD:(wd.alloc (.cells #[.bool false,.int .u16 (ms:Int),.int .u16 (md:Int),.int .u8 (mp:Int),.int .u8 (mq:Int)] 63)).heap.size =M+2:=by simp;omega
   rw[hsz5]at aO
   clear ak bK iA hS
   generalize World.alloc wd _=aA at*
   have hS:=bW.out
   refine hK.out _ _ (fun _=>hS) ?_
   clear hK K hS inv
   intro inv
   try simp only[Act.put,aB,aC,aD]
   refine rT 12 inv fun K hK=>?_
   rw[if_pos (by rfl)]
   obtain⟨i0,hi0,hz0,hz1,hz2⟩:=info_parts Tryd.infoRule
   have hxm:x0∈ds0++[x0]:=List.mem_append_right _ (List.mem_singleton.2 rfl)
   have au:=hide (fO.out.below aS.out)
   have oO:W.heap.size≤M:=by have:=HB3.out.size;omega
   have Aw:R+1≤M:=by omega
   refine aZ _ (.tmp 65) (.tmp 72) 34 rfl (R+1) 63 i0 _ 5 8 Tryd.underlying34 hi0 hz0 hz1 hz2 rfl (by omega) (.slice x0.rA x0.rn x0.rc) x0.rn (x0.rs.flatMap bN.cells) rfl (au.out.r x0 hxm).1 (M+2) (some ⟨M+1,0,none⟩) 1 1 (bN.cells ⟨false,⟨ms,md,mp,mq⟩⟩) (by simp[Act.eval,Act.put,hsz5]) ⟨rfl,fun _=>⟨_,rfl,Nat.lt_succ_self _,fun j' u hu=>by
    rw[addr_add,Nat.zero_add]
    exact aO.out.get j' u (by simpa[bN.cells]using hu)⟩⟩ (bN.one _) (by simp only[maxLen];omega) (by omega) (by omega) ?_
   intro v9 w9 aH aN bX
   obtain⟨g9,c9,rfl,_⟩:=aH.form (by omega)
   have lJ:(Value.slice x0.rA x0.rn x0.rc).ownBlock ≠some gd:=jd au.out.d (au.out.r x0 hxm).1 (by decide) rfl
   have dh:=hide (au.out.mY vo.out aH aN bX)
   have aT:=hide (show Bx w9 R #[.slice (some ⟨gd,0,none⟩) (k+1) cd,.slice LA 0 lc] 25 from(fq.out.below aS.out).same (aY aN (by omega) (fun e=>by have:=((au.out.r x0 hxm).1.lt _ e).1;omega)))
   have bS:=hide (show Below R W w9 from(aS.out.mono (by omega)).grown aN (by omega) (fun q hq=>by have:=((au.out.r x0 hxm).1.lt _ hq).1;omega))
   have s0:w9.cell? ⟨gd,k*7+5,none⟩=some (.slice x0.rA x0.rn x0.rc):=(World.cell?_of_block (a:=⟨gd,k*7+5,none⟩) (aY aN (by show gd<_;omega) lJ)).trans bW.out.1
   have f0:w9.frozen? ⟨gd,k*7+5,none⟩=false:=(bV au.out.d (au.out.r x0 hxm).1 (by decide) aN).frozenAt _
   clear aH aN bX au
   refine hK.out _ _ ?_
   clear hK K inv
   intro inv
   try simp only[Act.put,aB,aC,aD]
   refine rT 13 inv fun K hK=>?_
   go_simp
   refine hK.out _ _ ?_
   clear hK K inv
   intro inv
   try simp only[Act.put,aB,aC,aD]
   refine rT 14 inv fun K hK=>?_
   go_simp
   refine hK.out _ _ ?_
   clear hK K inv
   intro inv
   try simp only[Act.put,aB,aC,aD]
   refine rT 15 inv fun K hK=>?_
   go_simp
   refine hK.out _ _ ?_
   clear hK K inv
   intro inv
   try simp only[Act.put,aB,aC,aD]
   refine rD ?_
   clear inv
   clear s0 f0
   rw[hk]at dh
   generalize hW:World.setCell w9 _ _=fH at*
   go_wp2_with fail
   go_ret
   refine⟨?_,.inr ⟨_,nX.out,rfl,_,_,_,?_,dh.out,by simp[ah.dev]⟩⟩
   ·rw[← hW];exact bS.out.setCell (by show R≤gd;omega) _
   ·rw[← hW,hlen,hk]
    exact(aT.out.far _ _ (by show R≠gd;omega))
  all_goals
   have HF:=hide (bC.out (.inl (by omega)))
   go_wp2_with fail
   go_ret
   exact⟨(HB3.out.mono (by omega)).alloc gy _,.inl ⟨HF.out,rfl⟩⟩
 ·refine(HJ.out (some ⟨g,1,none⟩) (n - 1) (cap - 1) w1 (eT.out) (by omega)).mono ?_
  rintro e w2 ⟨rfl,rfl⟩
  clear eU eT HJ
  go_wp2_with fail
  refine(fG.out _).mono ?_
  rintro e w3 ⟨rfl,hb3⟩
  have HB3:=hide ((HB1.out.trans (hb3.mono HB1.out.size)))
  have gy:R≤w3.heap.size:=by have:=HB3.out.size;omega
  clear fG hb3 HB1
  rcases HE.out with rfl | rfl | rfl
  ·obtain⟨M,hM⟩:∃M,w3.heap.size=M:=⟨_,rfl⟩
   have aK:=hide (HB3.out.alloc (Nat.le_trans HB3.out.size (Nat.le_refl _)) (.cells #[.int .u16 (ms:Int),.int .u16 (md:Int),.int .u8 (mp:Int),.int .u8 (mq:Int)] 61))
   have bJ:=hide (Bx.new w3 #[.int .u16 (ms:Int),.int .u16 (md:Int),.int .u8 (mp:Int),.int .u8 (mq:Int)] 61)
   have qK:(w3.alloc (.cells #[.int .u16 (ms:Int),.int .u16 (md:Int),.int .u8 (mp:Int),.int .u8 (mq:Int)] 61)).heap.size =M+1:=by simp[hM]
   rw[hM]at bJ gy
   have nX:=hide (HF.out rfl)
   clear bC HF HE
   go_wp2_with fail
   generalize World.alloc w3 _=w4 at*
   have HS:=hide (fun(w':World) (h:Below w4.heap.size w4 w')=>show w'.cell? ⟨gd,k*7+5,none⟩=some (.slice x0.rA x0.rn x0.rc)∧w'.cell? ⟨g,0,none⟩=some (.string ⟨x.toArray⟩)∧w'.cell? ⟨M,0,none⟩=some (.int .u16 (ms:Int))∧w'.cell? ⟨M,1,none⟩=some (.int .u16 (md:Int))∧w'.cell? ⟨M,2,none⟩=some (.int .u8 (mp:Int))∧w'.cell? ⟨M,3,none⟩=some (.int .u8 (mq:Int))from
    ⟨(HQ.out w' (aK.out.trans (h.mono aK.out.size))).1,(HQ.out w' (aK.out.trans (h.mono aK.out.size))).2,(bJ.out.below h).get 0 _ rfl,(bJ.out.below h).get 1 _ rfl,(bJ.out.below h).get 2 _ rfl,(bJ.out.below h).get 3 _ rfl⟩)
   refine bF (fun w'=>w'.cell? ⟨gd,k*7+5,none⟩=some (.slice x0.rA x0.rn x0.rc)∧w'.cell? ⟨g,0,none⟩=some (.string ⟨x.toArray⟩)∧w'.cell? ⟨M,0,none⟩=some (.int .u16 (ms:Int))∧w'.cell? ⟨M,1,none⟩=some (.int .u16 (md:Int))∧w'.cell? ⟨M,2,none⟩=some (.int .u8 (mp:Int))∧w'.cell? ⟨M,3,none⟩=some (.int .u8 (mq:Int))) 12 (by kernel_rfl) (HS.out _ (Below.refl _ _).drew) (fun hS inv=>?_)
   have bK:=hide (aK.out.drew)
   have iA:=hide (show Below w4.heap.size w4 w4.drew from(Below.refl _ _).drew)
   have hsz5:w4.drew.heap.size=M+1:=qK
   generalize World.drew w4=wd at*
   revert inv
   refine rP 0 hS ?_
   refine rP 1 hS ?_
   refine rP 2 hS ?_
   refine rP 3 hS ?_
   refine rL 4 [12] rfl hS (by intro w hSw;obtain⟨s0,s1,s2,s3,s4,s5⟩:=hSw;go_simp;try with_reducible rfl) ?_
   refine rP 5 hS ?_
   refine rP 6 hS ?_
   refine rL 7 [8,10,11,12] rfl hS (by intro w hSw;obtain⟨s0,s1,s2,s3,s4,s5⟩:=hSw;go_simp;try with_reducible rfl) ?_
   refine rP 8 hS ?_
   refine rL 9 [10,11,12] rfl hS (by intro w hSw;obtain⟨s0,s1,s2,s3,s4,s5⟩:=hSw;go_simp;try with_reducible rfl) ?_
   refine rP 10 hS ?_
   intro inv
   refine rO 11 inv fun K hK=>?_
   go_simp
   have ak:=below_alloc2 wd (.cells #[.bool false,.int .u16 (ms:Int),.int .u16 (md:Int),.int .u8 (mp:Int),.int .u8 (mq:Int)] 63)
   have aO:=hide (Bx.new wd #[.bool false,.int .u16 (ms:Int),.int .u16 (md:Int),.int .u8 (mp:Int),.int .u8 (mq:Int)] 63)
   have bW:=hide (HS.out _ (iA.out.trans (ak.mono (by omega))))
   have aS:=hide (bK.out.trans (ak.mono bK.out.size))
   have iD:(wd.alloc (.cells #[.bool false,.int .u16 (ms:Int),.int .u16 (md:Int),.int .u8 (mp:Int),.int .u8 (mq:Int)] 63)).heap.size =M+2:=by simp;omega
   rw[hsz5]at aO
   clear ak bK iA hS
   generalize World.alloc wd _=aA at*
   have hS:=bW.out
   refine hK.out _ _ (fun _=>hS) ?_
   clear hK K hS inv
   intro inv
   try simp only[Act.put,aB,aC,aD]
   refine rT 12 inv fun K hK=>?_
   rw[if_pos (by rfl)]
   obtain⟨i0,hi0,hz0,hz1,hz2⟩:=info_parts Tryd.infoRule
   have hxm:x0∈ds0++[x0]:=List.mem_append_right _ (List.mem_singleton.2 rfl)
   have au:=hide (fO.out.below aS.out)
   have oO:W.heap.size≤M:=by have:=HB3.out.size;omega
   have Aw:R+1≤M:=by omega
   refine aZ _ (.tmp 65) (.tmp 72) 34 rfl (R+1) 63 i0 _ 5 8 Tryd.underlying34 hi0 hz0 hz1 hz2 rfl (by omega) (.slice x0.rA x0.rn x0.rc) x0.rn (x0.rs.flatMap bN.cells) rfl (au.out.r x0 hxm).1 (M+2) (some ⟨M+1,0,none⟩) 1 1 (bN.cells ⟨false,⟨ms,md,mp,mq⟩⟩) (by simp[Act.eval,Act.put,hsz5]) ⟨rfl,fun _=>⟨_,rfl,Nat.lt_succ_self _,fun j' u hu=>by
    rw[addr_add,Nat.zero_add]
    exact aO.out.get j' u (by simpa[bN.cells]using hu)⟩⟩ (bN.one _) (by simp only[maxLen];omega) (by omega) (by omega) ?_
   intro v9 w9 aH aN bX
   obtain⟨g9,c9,rfl,_⟩:=aH.form (by omega)
   have lJ:(Value.slice x0.rA x0.rn x0.rc).ownBlock ≠some gd:=jd au.out.d (au.out.r x0 hxm).1 (by decide) rfl
   have dh:=hide (au.out.mY vo.out aH aN bX)
   have aT:=hide (show Bx w9 R #[.slice (some ⟨gd,0,none⟩) (k+1) cd,.slice LA 0 lc] 25 from(fq.out.below aS.out).same (aY aN (by omega) (fun e=>by have:=((au.out.r x0 hxm).1.lt _ e).1;omega)))
   have bS:=hide (show Below R W w9 from(aS.out.mono (by omega)).grown aN (by omega) (fun q hq=>by have:=((au.out.r x0 hxm).1.lt _ hq).1;omega))
   have s0:w9.cell? ⟨gd,k*7+5,none⟩=some (.slice x0.rA x0.rn x0.rc):=(World.cell?_of_block (a:=⟨gd,k*7+5,none⟩) (aY aN (by show gd<_;omega) lJ)).trans bW.out.1
   have f0:w9.frozen? ⟨gd,k*7+5,none⟩=false:=(bV au.out.d (au.out.r x0 hxm).1 (by decide) aN).frozenAt _
   clear aH aN bX au
   refine hK.out _ _ ?_
   clear hK K inv
   intro inv
   try simp only[Act.put,aB,aC,aD]
   refine rT 13 inv fun K hK=>?_
   go_simp
   refine hK.out _ _ ?_
   clear hK K inv
   intro inv
   try simp only[Act.put,aB,aC,aD]
   refine rT 14 inv fun K hK=>?_
   go_simp
   refine hK.out _ _ ?_
   clear hK K inv
   intro inv
   try simp only[Act.put,aB,aC,aD]
   refine rT 15 inv fun K hK=>?_
   go_simp
   refine hK.out _ _ ?_
   clear hK K inv
   intro inv
   try simp only[Act.put,aB,aC,aD]
   refine rD ?_
   clear inv
   clear s0 f0
   rw[hk]at dh
   generalize hW:World.setCell w9 _ _=fH at*
   go_wp2_with fail
   go_ret
   refine⟨?_,.inr ⟨_,nX.out,rfl,_,_,_,?_,dh.out,by simp[ah.dev]⟩⟩
   ·rw[← hW];exact bS.out.setCell (by show R≤gd;omega) _
   ·rw[← hW,hlen,hk]
    exact(aT.out.far _ _ (by show R≠gd;omega))
  all_goals
   have HF:=hide (bC.out (.inl (by omega)))
   go_wp2_with fail
   go_ret
   exact⟨(HB3.out.mono (by omega)).alloc gy _,.inl ⟨HF.out,rfl⟩⟩
end Go.Proofs.YtifkacnoiocebaaDoor
namespace Go.Proofs.YtifkacnoiocebaaDoor
section
variable {P:Program} {ops:Array Oper} {Q:Exit→Act→World→Prop} {md:Region.Mode} {S:World→Prop} {s:Nat}
def je (P:Program) (ops:Array Oper) (S:World→Prop) (o:Oper) (v:Value) (a:Act):Prop:=
 Region.wanted o (yielded ops a.tmps)=true∧∀w,S w→∃f args,(execOp a.eval o).run P w= .ok (.enter f args) w∧Calls P f args w fun e w''=>e= .returned v∧w=w''
theorem je.of_same {o:Oper} {v:Value} {a a':Act} (hy:je P ops S o v a) (he:execOp a'.eval o=execOp a.eval o)
  (hw:Region.wanted o (yielded ops a'.tmps)=Region.wanted o (yielded ops a.tmps)):je P ops S o v a':=by
 unfold je at*
 rw[he,hw]
 exact hy
theorem je.wpOp {i:Nat} {o:Oper} {v:Value} {a:Act} (hi:ops[i]?=some o) (hy:je P ops S o v a) {K:Act→World→Prop} {w:World} (hS:S w) (h:K (a.put o.dst v) w):wpOp P ops Q i K a w:=by
 unfold Go.wpOp
 simp only[hi]
 obtain⟨hw,hv⟩:=hy
 obtain⟨f,args,hrun,hc⟩:=hv w hS
 simp only[hw,if_true,Oper.wp,hrun,Oper.upon]
 refine .inl (Calls.mono hc fun e w'' he=>?_)
 obtain⟨rfl,rfl⟩:=he
 exact h
theorem AB {j:Nat} {oi oj:Oper} {v:Value} (hj:ops[j]?=some oj) (hap:oi.apart ops oj=true)
  (hsi:∀cs b,oi.op≠ .select cs b) (hsj:∀cs b,oj.op≠ .select cs b)
  (hQ:∀c a w,Q (.panic c) (a.put oi.dst v) w→Q (.panic c) a w) {K:Act→World→Prop} {a:Act} {w:World}
  (hy:je P ops S oi v a) (h:wpOp P ops Q j K (a.put oi.dst v) w):
  wpOp P ops Q j (fun a' w'=>je P ops S oi v a'∧K (a'.put oi.dst v) w') a w:=by
 obtain⟨h1,h2,h3⟩:=Oper.apart_spec hap
 have keep:∀(a:Act),je P ops S oi v a→∀u,je P ops S oi v (a.put oj.dst u):=fun a hy u=>
  hy.of_same (execOp_put oi hsi a oj.dst u h3) (wanted_put oi a oj.dst u h3)
 have keepD:∀d,je P ops S oi v { a with defers:=d::a.defers }:=fun d=>hy.of_same rfl rfl
 unfold Go.wpOp at*
 simp only[hj]at*
 rw[wanted_put oj a oi.dst v h1]at h
 split
 ·rename_i hw
  simp only[hw,if_true]at h
  rcases h with h | ⟨hasks,hlets⟩
  case inr=>exact .inr ⟨by unfold Oper.asks at*;rw[execOp_put oj hsj a oi.dst v h1]at hasks;exact hasks,hlets⟩
  refine .inl ?_
  unfold Oper.wp at*
  rw[execOp_put oj hsj a oi.dst v h1]at h
  generalize (execOp a.eval oj).run P w=r at*
  cases r with
  |ok n w'=>
   cases n<;>simp only[Oper.upon]at h ⊢
   case value u=>exact⟨keep a hy u,by rw[← Act.put_comm a v u h2];exact h⟩
   case skip=>exact⟨keep a hy _,by rw[← Act.put_comm a v undef h2];exact h⟩
   case defer d=>
    refine⟨keep _ (keepD d) _,?_⟩
    rw[← Act.put_comm _ v undef h2,← Act.put_defers]
    exact h
   case enter f args=>
    refine Calls.mono h fun e w'' he=>?_
    cases e with
    |returned u=>exact⟨keep a hy u,by rw[← Act.put_comm a v u h2];exact he⟩
    |panicked c=>exact hQ _ _ _ he
    |outgrown=>exact he
   case row row args=>exact Rows.mono h fun u w'' he=>⟨keep a hy u,by rw[← Act.put_comm a v u h2];exact he⟩
  |halt x w'=>
   cases x<;>simp only[Oper.upon]at h ⊢
   case panic u=>exact hQ _ _ _ h
 ·rename_i hw
  simp only[hw]at h
  exact⟨keep a hy _,by rw[← Act.put_comm a v undef h2];exact h⟩
theorem vT {i:Nat} {oi:Oper} {v:Value} {S':World→Prop} (hi:ops[i]?=some oi) (hsel:∀(j:Nat) (o:Oper) cs b,ops[j]?=some o→o.op≠ .select cs b) (his:i≠s)
  (hS':∀(listed:Array Bool) (w:World),dF md ops listed→listed.getD i true=false→(listed.getD s true=false→S w)→S' w)
  (hQ:∀c a w,Q (.panic c) (a.put oi.dst v) w→Q (.panic c) a w):
  ∀(fuel:Nat) (listed:Array Bool) (a:Act) (w:World),dF md ops listed→
   (∀j oj,ops[j]?=some oj→j≠i→listed.getD j true=false→(∀e∈oj.after,Region.binds md e=true→e.on≠i)→oi.apart ops oj=true)→
   i∈Region.ready md ops listed→je P ops S' oi v a→(listed.getD s true=false→S w)→
   dZ P md ops Q S s fuel (listed.setIfInBounds i true) (a.put oi.dst v) w→dZ P md ops Q S s (fuel+1) listed a w:=by
 have same:∀(l:Array Bool),(l.setIfInBounds i true).getD s true=l.getD s true:=fun l=>getD_set_ne true his
 intro fuel
 induction fuel with
 |zero=>
  intro listed a w inv _ hr hy hS H
  have hun:=(mem_ready.1 hr).1
  refine⟨fun h=>(by rw[h]at hr;cases hr),fun j hj=>?_⟩
  by_cases hji:j=i
  ·subst hji;exact hy.wpOp hi (hS' listed w inv hun hS) ⟨fun h=>hS (by rwa [same]at h),H⟩
  ·have:=ready_mono hj hji
   rw[H.1]at this
   cases this
 |succ fuel ih=>
  intro listed a w inv hfree hr hy hS H
  have hun:=(mem_ready.1 hr).1
  refine⟨fun h=>(by rw[h]at hr;cases hr),fun j hj=>?_⟩
  by_cases hji:j=i
  ·subst hji;exact hy.wpOp hi (hS' listed w inv hun hS) ⟨fun h=>hS (by rwa [same]at h),H⟩
  ·have h1:=H.2 j (ready_mono hj hji)
   obtain⟨hjun,oj,hoj,hall⟩:=mem_ready.1 hj
   have hnot:∀e∈oj.after,Region.binds md e=true→e.on≠i:=fun e he hb heq=>by
    have h1:=hall e he hb
    rw[heq,getD_both hun]at h1
    cases h1
   have h2:=AB hoj (hfree j oj hoj hji hjun hnot) (fun cs b=>hsel i oi cs b hi) (fun cs b=>hsel j oj cs b hoj) hQ hy h1
   have hfree':∀k ok,ops[k]?=some ok→k≠i→(listed.setIfInBounds j true).getD k true=false→
     (∀e∈ok.after,Region.binds md e=true→e.on≠i)→oi.apart ops ok=true:=fun k ok hk hki hun hno=>by
    refine hfree k ok hk hki ?_ hno
    by_cases hjk:j=k
    ·subst hjk;exact hjun
    ·rw[getD_set_ne true hjk]at hun;exact hun
   refine wpOp_mono (fun a' w' h3=>?_) h2
   have hS2:(listed.setIfInBounds j true).getD s true=false→S w':=fun h=>h3.2.1 (by rw[Array.setIfInBounds_comm _ _ (Ne.symm hji),same];exact h)
   refine⟨hS2,ih (listed.setIfInBounds j true) a' w' (inv.set hj) hfree' (ready_mono hr (Ne.symm hji)) h3.1 hS2 ?_⟩
   rw[Array.setIfInBounds_comm _ _ hji]
   exact h3.2.2
theorem kN {i:Nat} {oi:Oper} {v:Value} {fuel:Nat} {listed:Array Bool} {a:Act} {w:World} (c:List Nat) (hi0:ops.toList[i]?=some oi) (hs:Region.noSelect ops=true) (hf:Region.free md ops listed i=true)
  (hr:(Region.ready md ops listed).contains i=true) (his:decide (i≠s) && decide (s<ops.size) && mZ md ops (i::c) && decide ((i::c).getLast? =some s)=true) (hQ:∀c a w,Q (.panic c) (a.put oi.dst v) w→Q (.panic c) a w) (inv:Shut (dF md ops listed)) (hy:je P ops S oi v a) (hS:S w)
  (h:Shut (dF md ops (listed.setIfInBounds i true))→dZ P md ops Q S s fuel (listed.setIfInBounds i true) (a.put oi.dst v) w):dZ P md ops Q S s (fuel+1) listed a w:=by
 have hi:ops[i]?=some oi:=by simpa using hi0
 simp only[Bool.and_eq_true,decide_eq_true_eq]at his
 have hr':i∈Region.ready md ops listed:=by simpa using hr
 exact vT hi (Region.noSelect_spec hs) his.1.1.1 (fun l w inv hun hS=>hS (pO inv his.1.2 his.2 his.1.1.2 hun)) hQ fuel listed a w inv.out (Region.free_spec hi hf) hr' hy (fun _=>hS) (h (inv.out.set hr'))
end
end Go.Proofs.YtifkacnoiocebaaDoor
