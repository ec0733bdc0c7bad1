/- A part of the proof: Nq5, Nq6p. -/
import Derived.Test.YtifkacnoiocebaaDoorNz23
import Derived.Deep.CutRange
set_option linter.unusedVariables false
set_option linter.unusedSimpArgs false
set_option maxRecDepth 100000
set_option maxHeartbeats 8000000
namespace Go.Proofs.YtifkacnoiocebaaDoor
open Go.RowKit
theorem zV (R:Nat) (S:dJ) (x:List UInt8) (rest:List (List UInt8)) (base g n cap:Nat) (W:World) (hR:iV jI 25 W R S) (hS:cK S 10000) (hw:cB W base g n cap (x::rest)) (hwo:iX (x::rest)) (hgR:R<g) (hb:(x ==[112,101,114,109,105,116])=false) (hb2:(x ==[100,101,110,121])=false) (hb3:(x ==[114,111,117,116,101])=false) (hb4:(x ==[108,105,110,107])=true):
  Calls Tryd.prog 14 #[.pointer (some ⟨R,0,none⟩),.slice (some ⟨g,0,none⟩) n cap] W (gU jI 25 R (j4 S rest) W):=by
 obtain⟨r,hr⟩:∃r,j4 S rest=r:=⟨_,rfl⟩
 rw[hr]
 obtain⟨ds,V,L,hbx,aR,hds⟩:=hR
 have hn:=hw.len
 simp only[List.length_cons]at hn
 have hcap:=(dY hw.own)
 have iM:=hwo.len
 simp only[List.length_cons]at iM
 have hRl:=hbx.lt
 have hgl:=hw.lt.2
 have aL:Bx W R #[V,L] 25:=hbx
 clear hbx
 have iw:ds.length≤10000:=by have:=hS.d;rw[← hds,List.length_map]at this;exact this
 have j3:S.ls.length≤10000:=hS.l
 have hxg:W.cell? ⟨g,0,none⟩=some (.string ⟨x.toArray⟩):=hw.get (k:=0) rfl
 have hn0:(0:Int)<(n:Int):=by omega
 have hn1:0<n:=by omega
 obtain⟨LA,lc,rfl,_⟩:=bD.dw aJ.len aR.l rfl
 have r1:W.cell? ⟨R,1,none⟩=some (.slice LA S.ls.length lc):=aL.get 1 _ rfl
 obtain⟨A,dc,rfl,_⟩:=bD.dw ah.len aR.d rfl
 obtain⟨nd,hnd⟩:∃nd,ds.length=nd:=⟨_,rfl⟩
 obtain⟨nl,hnl⟩:∃nl,S.ls.length=nl:=⟨_,rfl⟩
 have r0:W.cell? ⟨R,0,none⟩=some (.slice A nd dc):=by rw[← hnd];exact aL.get 0 _ rfl
 rw[hnl]at r1 j3
 have sH:nd≤10000:=by omega
 have fO:=hide aR
 have fq:=hide aL
 have HS:=hide hw
 have oh:=hide hwo
 have jE:=hide hds
 rw[hnd]at aR
 have kP:=hide hnd
 have lQ:=hide hnl
 clear hS aL hds hw hwo hnl iw hnd
 have jQ:0<nd→∃gd,A=some ⟨gd,0,none⟩:=fun h=>by
  obtain⟨gd,c,e,_⟩:=fO.out.d.form (by have:=kP.out;omega)
  cases e
  exact⟨gd,rfl⟩
 have oZ:=hide jQ
 clear jQ
 go_enter Tryd.func14,Tryd.ntmps14
 go_upto_region 2 with fail
 go_cut [30]from 17 to 30 (fun pV wx=>(∃b:Bool,pV= .bool b∧(b=true→0<nd))∧W=wx)
 case first=>
  by_cases hn0:nd=0
  ·have q0:decide ((0:Int)<(nd:Int))=false:=decide_eq_false (by omega)
   go_wp2
   go_meet
   exact⟨⟨_,rfl,fun h=>by cases h⟩,rfl⟩
  ·have q0:decide ((0:Int)<(nd:Int))=true:=decide_eq_true (by omega)
   go_wp2
   all_goals (go_meet;exact⟨⟨_,rfl,fun h=>by omega⟩,rfl⟩)
 case rest=>
 obtain⟨⟨bd,rfl,hbd⟩,rfl⟩:=hcut
 go_upto_if 30 with fail
 go_cut [5]from 31 to 41 (fun s5 wx=>Hid (Below W.heap.size W wx))
 case first=>
  cases bd with
  |false=>
   go_wp2
   go_meet
   exact hide (Below.refl _ _)
  |true=>
   obtain⟨gd,rfl⟩:=oZ.out (hbd rfl)
   have h0:=hbd rfl
   clear hbd
   have q3:((nd:Int) - 1)=((nd - 1:Nat):Int):=by omega
   have q4:0≤(nd:Int) - 1:=by omega
   have q5:(nd:Int) - 1<(nd:Int):=by omega
   go_wp2_with fail
   go_quiet (fail)
   go_wp2
   go_meet
   exact hide (aP _ _ _)
 case rest=>
 have HB1:=hcut
 clear hcut
 have p0:wc.cell? ⟨g,0,none⟩=some (.string ⟨x.toArray⟩):=(HB1.out.cell (p:=⟨g,0,none⟩) hgl).trans hxg
 by_cases F9:n=5
 case neg=>
  have HF:=hide (hr.symm.trans (tX S rest (by omega)))
  have d3:((n:Int)==5)=false:=by simp;omega
  have d4:((n:Int) != 5)=true:=by simp;omega
  clear r0 r1 hxg
  go_wp2_with fail
  go_ret
  exact⟨HB1.out.mono (by omega),.inl ⟨HF.out,rfl⟩⟩
 case pos=>
 subst F9
 obtain⟨la,rest,rfl⟩:∃a t,rest=a::t:=by
  cases rest with
  |nil=>simp at hn
  |cons a t=>exact⟨a,t,rfl⟩
 obtain⟨lp,rest,rfl⟩:∃a t,rest=a::t:=by
  cases rest with
  |nil=>simp at hn
  |cons a t=>exact⟨a,t,rfl⟩
 obtain⟨lb,rest,rfl⟩:∃a t,rest=a::t:=by
  cases rest with
  |nil=>simp at hn
  |cons a t=>exact⟨a,t,rfl⟩
 obtain⟨lq,rest,rfl⟩:∃a t,rest=a::t:=by
  cases rest with
  |nil=>simp at hn
  |cons a t=>exact⟨a,t,rfl⟩
 obtain rfl:rest=[]:=by
  cases rest with
  |nil=>rfl
  |cons a t=>simp only[List.length_cons]at hn;omega
 have jD:=hide (show j4 S [la,lp,lb,lq]=if 0≤jh S.ds la∧0≤jh S.ds lb∧0≤aF lp 100∧0≤aF lq 100 then some ⟨S.ds,S.ls++[⟨jh S.ds la,aF lp 100,jh S.ds lb,aF lq 100⟩]⟩else none from rfl)
 have hP:=gW lp 100
 have hP':=dP lp 100
 have hQ:=gW lq 100
 have hQ':=dP lq 100
 have DX:∀(w':World),Below W.heap.size W w'→w'.cell? ⟨g,1,none⟩=some (.string ⟨la.toArray⟩)∧w'.cell? ⟨g,2,none⟩=some (.string ⟨lp.toArray⟩)∧w'.cell? ⟨g,3,none⟩=some (.string ⟨lb.toArray⟩)∧w'.cell? ⟨g,4,none⟩=some (.string ⟨lq.toArray⟩):=fun w' hb=>
  ⟨(HS.out.below hb).get (k:=1) rfl,(HS.out.below hb).get (k:=2) rfl,(HS.out.below hb).get (k:=3) rfl,(HS.out.below hb).get (k:=4) rfl⟩
 have sZ:=hide (fun(a:Int) (h:iG (fun x:ah=>bO x.name ⟨la.toArray⟩) ds 0 a)=>show jh S.ds la=a from by rw[← jE.out,sG];exact h.done)
 have DY:=hide (fun(a:Int) (h:iG (fun x:ah=>bO x.name ⟨lb.toArray⟩) ds 0 a)=>show jh S.ds lb=a from by rw[← jE.out,sG];exact h.done)
 have CB:=fun w=>jZ lp 99 w (by omega)
 have tY:=fun w=>jZ lq 99 w (by omega)
 rw[show(99:Int)+1=100 from rfl]at CB tY
 obtain⟨sA,hsA⟩:∃s:ByteArray,⟨la.toArray⟩=s:=⟨_,rfl⟩
 obtain⟨sB,hsB⟩:∃s:ByteArray,⟨lb.toArray⟩=s:=⟨_,rfl⟩
 obtain⟨sP,hsP⟩:∃s:ByteArray,⟨lp.toArray⟩=s:=⟨_,rfl⟩
 obtain⟨sQ,EK⟩:∃s:ByteArray,⟨lq.toArray⟩=s:=⟨_,rfl⟩
 obtain⟨p,hp⟩:∃a,aF lp 100=a:=⟨_,rfl⟩
 obtain⟨q,hq⟩:∃a,aF lq 100=a:=⟨_,rfl⟩
 simp only[hsA,hsB,hsP,EK,hp,hq]at jD hP hP' hQ hQ' DX sZ DY CB tY
 have dM:=hide DX
 have HP:=hide CB
 have HQ:=hide tY
 rw[hr]at jD
 have HF:=hide (fun(a b:Int) (ha:iG (fun x:ah=>bO x.name sA) ds 0 a) (hb:iG (fun x:ah=>bO x.name sB) ds 0 b)=>show r=if 0≤a∧0≤b∧0≤p∧0≤q then some ⟨S.ds,S.ls++[⟨a,p,b,q⟩]⟩else none from by rw[jD.out,sZ.out a ha,DY.out b hb])
 have Ga:=hide (fun(a b:Int) (ha:iG (fun x:ah=>bO x.name sA) ds 0 a) (hb:iG (fun x:ah=>bO x.name sB) ds 0 b)=>show(⟨a,p,b,q⟩:aJ).ok from by
  have h1:=ha.rng
  have h2:=hb.rng
  have h3:=kP.out
  refine⟨?_,?_,?_,?_⟩
  ·show bG a;unfold bG;omega
  ·show bG p;unfold bG;omega
  ·show bG b;unfold bG;omega
  ·show bG q;unfold bG;omega)
 have fC:=hide (fun(w':World) (hb:Below W.heap.size W w')=>show w'.cell? ⟨R,0,none⟩=some (.slice A nd dc)∧w'.cell? ⟨R,1,none⟩=some (.slice LA nl lc)from
  ⟨(hb.cell (p:=⟨R,0,none⟩) hRl).trans r0,(hb.cell (p:=⟨R,1,none⟩) hRl).trans r1⟩)
 clear DX CB tY sZ DY jD hsA hsB hsP EK hp hq hr r0 r1 hxg aR
 obtain⟨g1,g2,g3,g4⟩:=dM.out wc HB1.out
 go_wp2_with fail
 clear g1 g2 g3 g4 p0
 have HS2:=hide (fun(w':World) (h:Below wc.heap.size wc w')=>show w'.cell? ⟨g,2,none⟩=some (.string sP)∧w'.cell? ⟨g,4,none⟩=some (.string sQ)from
  have h':=dM.out w' (HB1.out.trans (h.mono HB1.out.size))
  ⟨h'.2.1,h'.2.2.2⟩)
 refine bF (fun w'=>w'.cell? ⟨g,2,none⟩=some (.string sP)∧w'.cell? ⟨g,4,none⟩=some (.string sQ)) 10 (by kernel_rfl) (HS2.out _ (Below.refl _ _).drew) (fun hS inv=>?_)
 have bK:=hide (HB1.out.drew)
 have iA:=hide (show Below wc.heap.size wc wc.drew from(Below.refl _ _).drew)
 obtain⟨M,hM⟩:∃M,wc.drew.heap.size=M:=⟨_,rfl⟩
 have oO:W.heap.size≤M:=by have:=bK.out.size;omega
 generalize World.drew wc=wd at*
 revert inv
 refine rP 0 hS ?_
 refine rP 1 hS ?_
 refine rL 2 [3,8,10] rfl hS (by intro w hSw;obtain⟨s0,s1⟩:=hSw;go_simp;try with_reducible rfl) ?_
 intro inv
 refine kN (i:=3) (v:=.int .i64 p) [8,10] rfl (by kernel_rfl) (by kernel_rfl) (by kernel_rfl) (by kernel_rfl) (fun _ _ _ h=>h) inv ⟨by rfl,?_⟩ hS (fun inv2=>?_)
 ·intro w hSw
  exact⟨42,_,by go_simp,HP.out w⟩
 clear inv
 have inv:=inv2
 clear inv2
 try simp only[Act.put,aB,aC,aD]
 revert inv
 refine rP 4 hS ?_
 refine rP 5 hS ?_
 refine rL 6 [7,8,10] rfl hS (by intro w hSw;obtain⟨s0,s1⟩:=hSw;go_simp;try with_reducible rfl) ?_
 intro inv
 refine kN (i:=7) (v:=.int .i64 q) [8,10] rfl (by kernel_rfl) (by kernel_rfl) (by kernel_rfl) (by kernel_rfl) (fun _ _ _ h=>h) inv ⟨by rfl,?_⟩ hS (fun inv2=>?_)
 ·intro w hSw
  exact⟨42,_,by go_simp,HQ.out w⟩
 clear inv
 have inv:=inv2
 clear inv2
 try simp only[Act.put,aB,aC,aD]
 revert inv
 refine rP 8 hS ?_
 intro inv
 refine rO 9 inv fun K hK=>?_
 go_simp
 have ak:=below_alloc2 wd (.cells #[.int .i64 0,.int .i64 0,.int .i64 0,.int .i64 0] 55)
 have aO:=hide (Bx.new wd #[.int .i64 0,.int .i64 0,.int .i64 0,.int .i64 0] 55)
 have aS:=hide (bK.out.trans (ak.mono bK.out.size))
 have iD:(wd.alloc (.cells #[.int .i64 0,.int .i64 0,.int .i64 0,.int .i64 0] 55)).heap.size =M+1:=by simp[hM]
 rw[hM]at aO
 have bW:=hide (HS2.out _ (iA.out.trans (ak.mono (by have:=iA.out.size;omega))))
 clear ak bK iA hS
 generalize World.alloc wd _=aA at*
 have hS:=bW.out
 refine hK.out _ _ (fun _=>hS) ?_
 clear hK K hS inv
 intro inv
 try simp only[Act.put,aB,aC,aD]
 have m0:aA.cell? ⟨M,0,none⟩=some (.int .i64 0):=aO.out.get 0 _ rfl
 have m1:aA.cell? ⟨M,1,none⟩=some (.int .i64 0):=aO.out.get 1 _ rfl
 have m2:aA.cell? ⟨M,2,none⟩=some (.int .i64 0):=aO.out.get 2 _ rfl
 have m3:aA.cell? ⟨M,3,none⟩=some (.int .i64 0):=aO.out.get 3 _ rfl
 have m4:∀j,aA.frozen? ⟨M,j,none⟩=false:=fun j=>aO.out.frozen j
 refine rT 10 inv fun K hK=>?_
 go_simp
 refine hK.out _ _ ?_
 clear hK K inv
 intro inv
 try simp only[Act.put,aB,aC,aD]
 refine rD ?_
 clear inv
 have jo:=hide ((((aO.out.set 0 (.int .i64 (-1))).set 1 (.int .i64 p)).set 2 (.int .i64 (-1))).set 3 (.int .i64 q))
 have aQ:=hide ((((aS.out.setCell (p:=⟨M,0,none⟩) oO (.int .i64 (-1))).setCell (p:=⟨M,1,none⟩) oO (.int .i64 p)).setCell (p:=⟨M,2,none⟩) oO (.int .i64 (-1))).setCell (p:=⟨M,3,none⟩) oO (.int .i64 q))
 have DW:=(size_setCell (((aA.setCell ⟨M,0,none⟩ (.int .i64 (-1))).setCell ⟨M,1,none⟩ (.int .i64 p)).setCell ⟨M,2,none⟩ (.int .i64 (-1))) ⟨M,3,none⟩ (.int .i64 q)).trans ((size_setCell ((aA.setCell ⟨M,0,none⟩ (.int .i64 (-1))).setCell ⟨M,1,none⟩ (.int .i64 p)) ⟨M,2,none⟩ (.int .i64 (-1))).trans ((size_setCell (aA.setCell ⟨M,0,none⟩ (.int .i64 (-1))) ⟨M,1,none⟩ (.int .i64 p)).trans ((size_setCell aA ⟨M,0,none⟩ (.int .i64 (-1))).trans iD)))
 clear m0 m1 m2 m3 m4 aO aS bW HS2
 generalize World.setCell (World.setCell (World.setCell _ _ _) _ _) _ _=fH at*
 have jo:=hide (show Bx fH M #[.int .i64 (-1),.int .i64 p,.int .i64 (-1),.int .i64 q] 55 from jo.out)
 obtain⟨r0,r1⟩:=fC.out fH aQ.out
 go_wp2_with fail
 clear r0 r1
 have hM1:M+1≤fH.heap.size:=by omega
 go_loopw [11] (fun iv wr=>∃(jv:Int) (j:Nat) (a b:Int),iv= .int .i64 jv∧jv=(j:Int) - 1∧j≤nd∧Hid (iG (fun x:ah=>bO x.name sA) ds j a)∧Hid (iG (fun x:ah=>bO x.name sB) ds j b)∧Hid (Bx wr M #[.int .i64 a,.int .i64 p,.int .i64 b,.int .i64 q] 55)∧Hid (Below M fH wr)) (fun iv _=>(intOf iv+1).toNat)
 case atStart=>exact⟨_,nd,-1,-1,rfl,rfl,Nat.le_refl _,hide (kP.out▸iG.start _ ds),hide (kP.out▸iG.start _ ds),jo,hide (Below.refl _ _)⟩
 case round=>
  obtain⟨jv,j,a,b,rfl,EL,hj,HA,HB,HX,aV⟩:=hrel
  cases j with
  |succ i=>
   obtain rfl:jv=(i:Int):=by omega
   have hjn:i<nd:=by omega
   clear EL hj iM hn
   obtain⟨gd,rfl⟩:=oZ.out (by omega)
   have hid:i<ds.length:=by rw[kP.out];omega
   obtain⟨y,hy⟩:∃y,ds[i]?=some y:=⟨ds[i],List.getElem?_eq_getElem hid⟩
   have kC:=hide (fun(w':World) (hb:Below W.heap.size W w') (k:Nat) (z:ah) (hz:ds[k]?=some z)=>show w'.cell? ⟨gd,k*7,none⟩=some (.string z.name)from by
    have:=(fO.out.below hb).d.cells (g:=gd) rfl (k*7+0) (.string z.name) (flat_get ah.len _ k z 0 _ hz rfl)
    rwa [addr_add,Nat.zero_add]at this)
   have Iq:(i:Int)<(nd:Int):=by omega
   have hi0:(0:Int)≤(i:Int):=by omega
   by_cases hA:y.name.toList=sA.toList
   ·have HA2:=hide (iG.hit (p:=fun x:ah=>bO x.name sA) hy (by simp[bO,hA]))
    by_cases hB:y.name.toList=sB.toList
    ·have HB2:=hide (iG.hit (p:=fun x:ah=>bO x.name sB) hy (by simp[bO,hB]))
     have EA:=hide hA
     have EB:=hide hB
     clear hB
     obtain⟨r0,r1⟩:=fC.out wr (aQ.out.trans (aV.out.mono (by omega)))
     obtain⟨g1,g2,g3,g4⟩:=dM.out wr (aQ.out.trans (aV.out.mono (by omega)))
     have q0:=kC.out wr (aQ.out.trans (aV.out.mono (by omega))) i y hy
     have m0:∀j,World.frozen? wr ⟨M,j,none⟩=false:=fun j=>HX.out.frozen j
     have m1:World.cell? wr ⟨M,0,none⟩=some (.int .i64 a):=HX.out.get 0 _ rfl
     have m2:World.cell? wr ⟨M,2,none⟩=some (.int .i64 b):=HX.out.get 2 _ rfl
     go_wp2_with fail
     go_quiet (fail)
     obtain⟨w3,hw3⟩:∃w',w'=World.drewN wr nq:=⟨_,rfl⟩
     have fE:=(show Below (World.heap wr).size wr w3 from by rw[hw3];exact aP _ _ _)
     have iU:=hide (HX.out.below fE)
     have jk:=hide (aV.out.trans (fE.mono (by have:=HX.out.lt;omega)))
     rw[← hw3]
     clear hw3 fE
     clear r0 r1 g1 g2 g3 g4 q0 m0 m1 m2 HX aV
     obtain⟨r0,r1⟩:=fC.out w3 (aQ.out.trans (jk.out.mono (by omega)))
     obtain⟨g1,g2,g3,g4⟩:=dM.out w3 (aQ.out.trans (jk.out.mono (by omega)))
     have q0:=kC.out w3 (aQ.out.trans (jk.out.mono (by omega))) i y hy
     have m0:∀j,World.frozen? w3 ⟨M,j,none⟩=false:=fun j=>iU.out.frozen j
     have m1:World.cell? w3 ⟨M,0,none⟩=some (.int .i64 a):=iU.out.get 0 _ rfl
     have m2:World.cell? w3 ⟨M,2,none⟩=some (.int .i64 b):=iU.out.get 2 _ rfl
     go_wp2_with fail
     have ni:=hide (show Bx (World.setCell w3 ⟨M,0,none⟩ (.int .i64 (i:Int))) M #[.int .i64 (i:Int),.int .i64 p,.int .i64 b,.int .i64 q] 55 from iU.out.set 0 (.int .i64 (i:Int)))
     have om:=hide (jk.out.setCell (p:=⟨M,0,none⟩) (Nat.le_refl M) (.int .i64 (i:Int)))
     generalize World.setCell w3 _ _=w4 at*
     clear iU jk r0 r1 g1 g2 g3 g4 q0 m0 m1 m2
     clear hA
     have hB:=EB.out
     obtain⟨r0,r1⟩:=fC.out w4 (aQ.out.trans (om.out.mono (by omega)))
     obtain⟨g1,g2,g3,g4⟩:=dM.out w4 (aQ.out.trans (om.out.mono (by omega)))
     have q0:=kC.out w4 (aQ.out.trans (om.out.mono (by omega))) i y hy
     have m0:∀j,World.frozen? w4 ⟨M,j,none⟩=false:=fun j=>ni.out.frozen j
     have m1:World.cell? w4 ⟨M,0,none⟩=some (.int .i64 i):=ni.out.get 0 _ rfl
     have m2:World.cell? w4 ⟨M,2,none⟩=some (.int .i64 b):=ni.out.get 2 _ rfl
     go_wp2_with fail
     go_quiet (fail)
     obtain⟨w5,hw3⟩:∃w',w'=World.drewN w4 nq:=⟨_,rfl⟩
     have fE:=(show Below (World.heap w4).size w4 w5 from by rw[hw3];exact aP _ _ _)
     have jG:=hide (ni.out.below fE)
     have jH:=hide (om.out.trans (fE.mono (by have:=ni.out.lt;omega)))
     rw[← hw3]
     clear hw3 fE
     clear r0 r1 g1 g2 g3 g4 q0 m0 m1 m2 ni om
     obtain⟨r0,r1⟩:=fC.out w5 (aQ.out.trans (jH.out.mono (by omega)))
     obtain⟨g1,g2,g3,g4⟩:=dM.out w5 (aQ.out.trans (jH.out.mono (by omega)))
     have q0:=kC.out w5 (aQ.out.trans (jH.out.mono (by omega))) i y hy
     have m0:∀j,World.frozen? w5 ⟨M,j,none⟩=false:=fun j=>jG.out.frozen j
     have m1:World.cell? w5 ⟨M,0,none⟩=some (.int .i64 i):=jG.out.get 0 _ rfl
     have m2:World.cell? w5 ⟨M,2,none⟩=some (.int .i64 b):=jG.out.get 2 _ rfl
     go_wp2_with fail
     have BZ:=hide (show Bx (World.setCell w5 ⟨M,2,none⟩ (.int .i64 (i:Int))) M #[.int .i64 (i:Int),.int .i64 p,.int .i64 (i:Int),.int .i64 q] 55 from jG.out.set 2 (.int .i64 (i:Int)))
     have Ca:=hide (jH.out.setCell (p:=⟨M,2,none⟩) (Nat.le_refl M) (.int .i64 (i:Int)))
     generalize World.setCell w5 _ _=w6 at*
     clear jG jH r0 r1 g1 g2 g3 g4 q0 m0 m1 m2
     go_wp2_with fail
     go_roundw
     case rel=>exact⟨(i:Int) - 1,i,_,_,rfl,rfl,by omega,HA2,HB2,BZ,Ca⟩
     case measure=>first | (simp[intOf];done) | (simp[intOf];omega)
    ·have HB2:=hide (iG.miss (p:=fun x:ah=>bO x.name sB) hy (by simp[bO,hB]) HB.out)
     have hB:(y.name.toList ==sB.toList)=false:=by simpa using hB
     have EA:=hide hA
     have EB:=hide hB
     clear hB
     obtain⟨r0,r1⟩:=fC.out wr (aQ.out.trans (aV.out.mono (by omega)))
     obtain⟨g1,g2,g3,g4⟩:=dM.out wr (aQ.out.trans (aV.out.mono (by omega)))
     have q0:=kC.out wr (aQ.out.trans (aV.out.mono (by omega))) i y hy
     have m0:∀j,World.frozen? wr ⟨M,j,none⟩=false:=fun j=>HX.out.frozen j
     have m1:World.cell? wr ⟨M,0,none⟩=some (.int .i64 a):=HX.out.get 0 _ rfl
     have m2:World.cell? wr ⟨M,2,none⟩=some (.int .i64 b):=HX.out.get 2 _ rfl
     go_wp2_with fail
     go_quiet (fail)
     obtain⟨w3,hw3⟩:∃w',w'=World.drewN wr nq:=⟨_,rfl⟩
     have fE:=(show Below (World.heap wr).size wr w3 from by rw[hw3];exact aP _ _ _)
     have iU:=hide (HX.out.below fE)
     have jk:=hide (aV.out.trans (fE.mono (by have:=HX.out.lt;omega)))
     rw[← hw3]
     clear hw3 fE
     clear r0 r1 g1 g2 g3 g4 q0 m0 m1 m2 HX aV
     obtain⟨r0,r1⟩:=fC.out w3 (aQ.out.trans (jk.out.mono (by omega)))
     obtain⟨g1,g2,g3,g4⟩:=dM.out w3 (aQ.out.trans (jk.out.mono (by omega)))
     have q0:=kC.out w3 (aQ.out.trans (jk.out.mono (by omega))) i y hy
     have m0:∀j,World.frozen? w3 ⟨M,j,none⟩=false:=fun j=>iU.out.frozen j
     have m1:World.cell? w3 ⟨M,0,none⟩=some (.int .i64 a):=iU.out.get 0 _ rfl
     have m2:World.cell? w3 ⟨M,2,none⟩=some (.int .i64 b):=iU.out.get 2 _ rfl
     go_wp2_with fail
     have ni:=hide (show Bx (World.setCell w3 ⟨M,0,none⟩ (.int .i64 (i:Int))) M #[.int .i64 (i:Int),.int .i64 p,.int .i64 b,.int .i64 q] 55 from iU.out.set 0 (.int .i64 (i:Int)))
     have om:=hide (jk.out.setCell (p:=⟨M,0,none⟩) (Nat.le_refl M) (.int .i64 (i:Int)))
     generalize World.setCell w3 _ _=w4 at*
     clear iU jk r0 r1 g1 g2 g3 g4 q0 m0 m1 m2
     clear hA
     have hB:=EB.out
     obtain⟨r0,r1⟩:=fC.out w4 (aQ.out.trans (om.out.mono (by omega)))
     obtain⟨g1,g2,g3,g4⟩:=dM.out w4 (aQ.out.trans (om.out.mono (by omega)))
     have q0:=kC.out w4 (aQ.out.trans (om.out.mono (by omega))) i y hy
     have m0:∀j,World.frozen? w4 ⟨M,j,none⟩=false:=fun j=>ni.out.frozen j
     have m1:World.cell? w4 ⟨M,0,none⟩=some (.int .i64 i):=ni.out.get 0 _ rfl
     have m2:World.cell? w4 ⟨M,2,none⟩=some (.int .i64 b):=ni.out.get 2 _ rfl
     go_wp2_with fail
     go_quiet (fail)
     obtain⟨w5,hw3⟩:∃w',w'=World.drewN w4 nq:=⟨_,rfl⟩
     have fE:=(show Below (World.heap w4).size w4 w5 from by rw[hw3];exact aP _ _ _)
     have jG:=hide (ni.out.below fE)
     have jH:=hide (om.out.trans (fE.mono (by have:=ni.out.lt;omega)))
     rw[← hw3]
     clear hw3 fE
     clear r0 r1 g1 g2 g3 g4 q0 m0 m1 m2 ni om
     obtain⟨r0,r1⟩:=fC.out w5 (aQ.out.trans (jH.out.mono (by omega)))
     obtain⟨g1,g2,g3,g4⟩:=dM.out w5 (aQ.out.trans (jH.out.mono (by omega)))
     have q0:=kC.out w5 (aQ.out.trans (jH.out.mono (by omega))) i y hy
     have m0:∀j,World.frozen? w5 ⟨M,j,none⟩=false:=fun j=>jG.out.frozen j
     have m1:World.cell? w5 ⟨M,0,none⟩=some (.int .i64 i):=jG.out.get 0 _ rfl
     have m2:World.cell? w5 ⟨M,2,none⟩=some (.int .i64 b):=jG.out.get 2 _ rfl
     go_wp2_with fail
     go_roundw
     case rel=>exact⟨(i:Int) - 1,i,_,_,rfl,rfl,by omega,HA2,HB2,jG,jH⟩
     case measure=>first | (simp[intOf];done) | (simp[intOf];omega)
   ·have HA2:=hide (iG.miss (p:=fun x:ah=>bO x.name sA) hy (by simp[bO,hA]) HA.out)
    have hA:(y.name.toList ==sA.toList)=false:=by simpa using hA
    by_cases hB:y.name.toList=sB.toList
    ·have HB2:=hide (iG.hit (p:=fun x:ah=>bO x.name sB) hy (by simp[bO,hB]))
     have EA:=hide hA
     have EB:=hide hB
     clear hB
     obtain⟨r0,r1⟩:=fC.out wr (aQ.out.trans (aV.out.mono (by omega)))
     obtain⟨g1,g2,g3,g4⟩:=dM.out wr (aQ.out.trans (aV.out.mono (by omega)))
     have q0:=kC.out wr (aQ.out.trans (aV.out.mono (by omega))) i y hy
     have m0:∀j,World.frozen? wr ⟨M,j,none⟩=false:=fun j=>HX.out.frozen j
     have m1:World.cell? wr ⟨M,0,none⟩=some (.int .i64 a):=HX.out.get 0 _ rfl
     have m2:World.cell? wr ⟨M,2,none⟩=some (.int .i64 b):=HX.out.get 2 _ rfl
     go_wp2_with fail
     go_quiet (fail)
     obtain⟨w3,hw3⟩:∃w',w'=World.drewN wr nq:=⟨_,rfl⟩
     have fE:=(show Below (World.heap wr).size wr w3 from by rw[hw3];exact aP _ _ _)
     have iU:=hide (HX.out.below fE)
     have jk:=hide (aV.out.trans (fE.mono (by have:=HX.out.lt;omega)))
     rw[← hw3]
     clear hw3 fE
     clear r0 r1 g1 g2 g3 g4 q0 m0 m1 m2 HX aV
     obtain⟨r0,r1⟩:=fC.out w3 (aQ.out.trans (jk.out.mono (by omega)))
     obtain⟨g1,g2,g3,g4⟩:=dM.out w3 (aQ.out.trans (jk.out.mono (by omega)))
     have q0:=kC.out w3 (aQ.out.trans (jk.out.mono (by omega))) i y hy
     have m0:∀j,World.frozen? w3 ⟨M,j,none⟩=false:=fun j=>iU.out.frozen j
     have m1:World.cell? w3 ⟨M,0,none⟩=some (.int .i64 a):=iU.out.get 0 _ rfl
     have m2:World.cell? w3 ⟨M,2,none⟩=some (.int .i64 b):=iU.out.get 2 _ rfl
     go_wp2_with fail
     clear hA
     have hB:=EB.out
     go_wp2_with fail
     go_quiet (fail)
     obtain⟨w5,hw3⟩:∃w',w'=World.drewN w3 nq:=⟨_,rfl⟩
     have fE:=(show Below (World.heap w3).size w3 w5 from by rw[hw3];exact aP _ _ _)
     have jG:=hide (iU.out.below fE)
     have jH:=hide (jk.out.trans (fE.mono (by have:=iU.out.lt;omega)))
     rw[← hw3]
     clear hw3 fE
     clear r0 r1 g1 g2 g3 g4 q0 m0 m1 m2 iU jk
     obtain⟨r0,r1⟩:=fC.out w5 (aQ.out.trans (jH.out.mono (by omega)))
     obtain⟨g1,g2,g3,g4⟩:=dM.out w5 (aQ.out.trans (jH.out.mono (by omega)))
     have q0:=kC.out w5 (aQ.out.trans (jH.out.mono (by omega))) i y hy
     have m0:∀j,World.frozen? w5 ⟨M,j,none⟩=false:=fun j=>jG.out.frozen j
     have m1:World.cell? w5 ⟨M,0,none⟩=some (.int .i64 a):=jG.out.get 0 _ rfl
     have m2:World.cell? w5 ⟨M,2,none⟩=some (.int .i64 b):=jG.out.get 2 _ rfl
     go_wp2_with fail
     have BZ:=hide (show Bx (World.setCell w5 ⟨M,2,none⟩ (.int .i64 (i:Int))) M #[.int .i64 a,.int .i64 p,.int .i64 (i:Int),.int .i64 q] 55 from jG.out.set 2 (.int .i64 (i:Int)))
     have Ca:=hide (jH.out.setCell (p:=⟨M,2,none⟩) (Nat.le_refl M) (.int .i64 (i:Int)))
     generalize World.setCell w5 _ _=w6 at*
     clear jG jH r0 r1 g1 g2 g3 g4 q0 m0 m1 m2
     go_wp2_with fail
     go_roundw
     case rel=>exact⟨(i:Int) - 1,i,_,_,rfl,rfl,by omega,HA2,HB2,BZ,Ca⟩
     case measure=>first | (simp[intOf];done) | (simp[intOf];omega)
    ·have HB2:=hide (iG.miss (p:=fun x:ah=>bO x.name sB) hy (by simp[bO,hB]) HB.out)
     have hB:(y.name.toList ==sB.toList)=false:=by simpa using hB
     have EA:=hide hA
     have EB:=hide hB
     clear hB
     obtain⟨r0,r1⟩:=fC.out wr (aQ.out.trans (aV.out.mono (by omega)))
     obtain⟨g1,g2,g3,g4⟩:=dM.out wr (aQ.out.trans (aV.out.mono (by omega)))
     have q0:=kC.out wr (aQ.out.trans (aV.out.mono (by omega))) i y hy
     have m0:∀j,World.frozen? wr ⟨M,j,none⟩=false:=fun j=>HX.out.frozen j
     have m1:World.cell? wr ⟨M,0,none⟩=some (.int .i64 a):=HX.out.get 0 _ rfl
     have m2:World.cell? wr ⟨M,2,none⟩=some (.int .i64 b):=HX.out.get 2 _ rfl
     go_wp2_with fail
     go_quiet (fail)
     obtain⟨w3,hw3⟩:∃w',w'=World.drewN wr nq:=⟨_,rfl⟩
     have fE:=(show Below (World.heap wr).size wr w3 from by rw[hw3];exact aP _ _ _)
     have iU:=hide (HX.out.below fE)
     have jk:=hide (aV.out.trans (fE.mono (by have:=HX.out.lt;omega)))
     rw[← hw3]
     clear hw3 fE
     clear r0 r1 g1 g2 g3 g4 q0 m0 m1 m2 HX aV
     obtain⟨r0,r1⟩:=fC.out w3 (aQ.out.trans (jk.out.mono (by omega)))
     obtain⟨g1,g2,g3,g4⟩:=dM.out w3 (aQ.out.trans (jk.out.mono (by omega)))
     have q0:=kC.out w3 (aQ.out.trans (jk.out.mono (by omega))) i y hy
     have m0:∀j,World.frozen? w3 ⟨M,j,none⟩=false:=fun j=>iU.out.frozen j
     have m1:World.cell? w3 ⟨M,0,none⟩=some (.int .i64 a):=iU.out.get 0 _ rfl
     have m2:World.cell? w3 ⟨M,2,none⟩=some (.int .i64 b):=iU.out.get 2 _ rfl
     go_wp2_with fail
     clear hA
     have hB:=EB.out
     go_wp2_with fail
     go_quiet (fail)
     obtain⟨w5,hw3⟩:∃w',w'=World.drewN w3 nq:=⟨_,rfl⟩
     have fE:=(show Below (World.heap w3).size w3 w5 from by rw[hw3];exact aP _ _ _)
     have jG:=hide (iU.out.below fE)
     have jH:=hide (jk.out.trans (fE.mono (by have:=iU.out.lt;omega)))
     rw[← hw3]
     clear hw3 fE
     clear r0 r1 g1 g2 g3 g4 q0 m0 m1 m2 iU jk
     obtain⟨r0,r1⟩:=fC.out w5 (aQ.out.trans (jH.out.mono (by omega)))
     obtain⟨g1,g2,g3,g4⟩:=dM.out w5 (aQ.out.trans (jH.out.mono (by omega)))
     have q0:=kC.out w5 (aQ.out.trans (jH.out.mono (by omega))) i y hy
     have m0:∀j,World.frozen? w5 ⟨M,j,none⟩=false:=fun j=>jG.out.frozen j
     have m1:World.cell? w5 ⟨M,0,none⟩=some (.int .i64 a):=jG.out.get 0 _ rfl
     have m2:World.cell? w5 ⟨M,2,none⟩=some (.int .i64 b):=jG.out.get 2 _ rfl
     go_wp2_with fail
     go_roundw
     case rel=>exact⟨(i:Int) - 1,i,_,_,rfl,rfl,by omega,HA2,HB2,jG,jH⟩
     case measure=>first | (simp[intOf];done) | (simp[intOf];omega)
  |zero=>
   obtain rfl:jv= -1:=by omega
   clear EL hj iM hn
   obtain⟨oa,hoa⟩:∃oa,decide (0≤a)=oa:=⟨_,rfl⟩
   obtain⟨ob,l5⟩:∃oa,decide (0≤b)=oa:=⟨_,rfl⟩
   obtain⟨op,hop⟩:∃oa,decide (0≤p)=oa:=⟨_,rfl⟩
   obtain⟨oq,hoq⟩:∃oa,decide (0≤q)=oa:=⟨_,rfl⟩
   have vF:=hide (show r=if(oa && ob && op && oq)=true then some ⟨S.ds,S.ls++[⟨a,p,b,q⟩]⟩else none from by
    rw[HF.out a b HA.out HB.out,← hoa,← l5,← hop,← hoq]
    by_cases h:0≤a∧0≤b∧0≤p∧0≤q
    ·rw[if_pos h,if_pos (by simp;exact⟨⟨⟨h.1,h.2.1⟩,h.2.2.1⟩,h.2.2.2⟩)]
    ·rw[if_neg h,if_neg (by simp;omega)])
   have HO:=hide (And.intro (And.intro hoa l5) (And.intro hop hoq))
   have hok:=Ga.out a b HA.out HB.out
   clear hoa l5 hop hoq
   have DZ:=hide (aQ.out.trans (aV.out.mono (by omega)))
   have Gb:M+1≤wr.heap.size:=HX.out.lt
   have HS2:=hide (fun(w':World) (h:Below wr.heap.size wr w')=>show w'.cell? ⟨R,1,none⟩=some (.slice LA nl lc)∧w'.cell? ⟨M,0,none⟩=some (.int .i64 a)∧w'.cell? ⟨M,1,none⟩=some (.int .i64 p)∧w'.cell? ⟨M,2,none⟩=some (.int .i64 b)∧w'.cell? ⟨M,3,none⟩=some (.int .i64 q)from
    ⟨(fC.out w' (DZ.out.trans (h.mono DZ.out.size))).2,(HX.out.below h).get 0 _ rfl,(HX.out.below h).get 1 _ rfl,(HX.out.below h).get 2 _ rfl,(HX.out.below h).get 3 _ rfl⟩)
   go_wp2_with fail
   refine bF (fun w'=>w'.cell? ⟨R,1,none⟩=some (.slice LA nl lc)∧w'.cell? ⟨M,0,none⟩=some (.int .i64 a)∧w'.cell? ⟨M,1,none⟩=some (.int .i64 p)∧w'.cell? ⟨M,2,none⟩=some (.int .i64 b)∧w'.cell? ⟨M,3,none⟩=some (.int .i64 q)) 7 (by kernel_rfl) (HS2.out _ (Below.refl _ _).drew) (fun hS inv=>?_)
   have bK:=hide (DZ.out.drew)
   have iA:=hide (show Below wr.heap.size wr wr.drew from(Below.refl _ _).drew)
   obtain⟨N,hN⟩:∃N,wr.drew.heap.size=N:=⟨_,rfl⟩
   have Ir:M<N:=by rw[← hN];exact Gb
   generalize World.drew wr=wd2 at*
   revert inv
   refine rP 0 hS ?_
   refine rP 1 hS ?_
   refine rP 2 hS ?_
   refine rP 3 hS ?_
   refine rL 4 [7] rfl hS (by intro w hSw;obtain⟨s0,s1,s2,s3,s4⟩:=hSw;go_simp;try with_reducible rfl) ?_
   refine rL 5 [6,7] rfl hS (by intro w hSw;obtain⟨s0,s1,s2,s3,s4⟩:=hSw;go_simp;try with_reducible rfl) ?_
   intro inv
   refine rO 6 inv fun K hK=>?_
   go_simp
   have ak:=below_alloc2 wd2 (.cells #[.int .i64 a,.int .i64 p,.int .i64 b,.int .i64 q] 55)
   have ou:=hide (Bx.new wd2 #[.int .i64 a,.int .i64 p,.int .i64 b,.int .i64 q] 55)
   have D5:=hide (HS2.out _ (iA.out.trans (ak.mono iA.out.size)))
   have AJ:=hide (HX.out.below (iA.out.trans (ak.mono iA.out.size)))
   have pz:=hide (bK.out.trans (ak.mono bK.out.size))
   have GZ:(wd2.alloc (.cells #[.int .i64 a,.int .i64 p,.int .i64 b,.int .i64 q] 55)).heap.size =N+1:=by simp[hN]
   rw[hN]at ou
   clear ak bK iA hS
   generalize World.alloc wd2 _=qm at*
   have hS:=D5.out
   refine hK.out _ _ (fun _=>hS) ?_
   clear hK K hS inv
   intro inv
   try simp only[Act.put,aB,aC,aD]
   refine rT 7 inv fun K hK=>?_
   rw[if_pos (by rfl)]
   obtain⟨i0,hi0,hz0,hz1,hz2⟩:=info_parts Tryd.infoLink
   have Cb:=hide (fO.out.below pz.out)
   refine aZ _ (.tmp 184) (.tmp 186) 23 rfl (R+1) 55 i0 _ 4 32 Tryd.underlying23 hi0 hz0 hz1 hz2 rfl (by omega) (.slice LA S.ls.length lc) S.ls.length (S.ls.flatMap aJ.cells) (by rw[lQ.out];rfl) Cb.out.l (N+1) (some ⟨N,0,none⟩) 1 1 (aJ.cells ⟨a,p,b,q⟩) (by simp[Act.eval,Act.put,hN]) ⟨rfl,fun _=>⟨_,rfl,Nat.lt_succ_self _,fun j' u hu=>by
    rw[addr_add,Nat.zero_add]
    exact ou.out.get j' u (by simpa[aJ.cells]using hu)⟩⟩ (by intro u hu;simp[aJ.cells]at hu;rcases hu with rfl | rfl | rfl | rfl<;>rfl) (by have:=lQ.out;simp only[maxLen];omega) (by have:=lQ.out;omega) (by have:=lQ.out;omega) ?_
   intro v9 w9 aH aN bX
   obtain⟨g9,c9,rfl,_⟩:=aH.form (by omega)
   have hrow:∀q,(Value.slice LA S.ls.length lc).ownBlock =some q→R<q∧q<W.heap.size:=fun q e=>by have:=fO.out.l.lt q e;omega
   have dh:=hide (Cb.out.wT hok aH aN)
   have aT:=hide ((fq.out.below pz.out).same (aY aN (by omega) (fun e=>by have:=hrow _ e;omega)))
   have BX:=hide (show Bx w9 M #[.int .i64 a,.int .i64 p,.int .i64 b,.int .i64 q] 55 from AJ.out.same (aY aN (by omega) (fun e=>by have:=hrow _ e;omega)))
   have bS:=hide (show Below R W w9 from(pz.out.mono (by omega)).grown aN (by omega) (fun q hq=>by have:=hrow _ hq;omega))
   have s0:w9.cell? ⟨R,1,none⟩=some (.slice LA S.ls.length lc):=aT.out.get 1 _ rfl
   have f0:w9.frozen? ⟨R,1,none⟩=false:=aT.out.frozen 1
   clear aH aN bX Cb
   refine hK.out _ _ ?_
   clear hK K inv
   intro inv
   try simp only[Act.put,aB,aC,aD]
   refine rT 8 inv fun K hK=>?_
   go_simp
   refine hK.out _ _ ?_
   clear hK K inv
   intro inv
   try simp only[Act.put,aB,aC,aD]
   refine rT 9 inv fun K hK=>?_
   go_simp
   refine hK.out _ _ ?_
   clear hK K inv
   intro inv
   try simp only[Act.put,aB,aC,aD]
   refine rT 10 inv fun K hK=>?_
   go_simp
   refine hK.out _ _ ?_
   clear hK K inv
   intro inv
   try simp only[Act.put,aB,aC,aD]
   refine rD ?_
   clear inv
   clear s0 f0 D5 AJ HS2
   have oW:=hide (BX.out.far ⟨R,1,none⟩ (.slice (some ⟨g9,0,none⟩) (S.ls.length+1) c9) (by show M≠R;omega))
   have Cc:=hide (bS.out.setCell (p:=⟨R,1,none⟩) (Nat.le_refl R) (.slice (some ⟨g9,0,none⟩) (S.ls.length+1) c9))
   have El:=hide (aT.out.set 1 (.slice (some ⟨g9,0,none⟩) (S.ls.length+1) c9))
   have Fv:=hide (dh.out.same (w':=w9.setCell ⟨R,1,none⟩ (.slice (some ⟨g9,0,none⟩) (S.ls.length+1) c9)) (fun q h1 h2=>RowKit.Below.heap_setCell _ _ _ _ (show q≠R by omega)))
   generalize World.setCell w9 _ _=CF at*
   have m0:CF.cell? ⟨M,0,none⟩=some (.int .i64 a):=oW.out.get 0 _ rfl
   have m1:CF.cell? ⟨M,1,none⟩=some (.int .i64 p):=oW.out.get 1 _ rfl
   have m2:CF.cell? ⟨M,2,none⟩=some (.int .i64 b):=oW.out.get 2 _ rfl
   have m3:CF.cell? ⟨M,3,none⟩=some (.int .i64 q):=oW.out.get 3 _ rfl
   obtain⟨⟨hoa,l5⟩,hop,hoq⟩:=HO.out
   go_wp2_with fail
   all_goals
    clear hoa l5 hop hoq
    go_ret
   ·rename_i h1 h2 h3
    subst h1 h2 h3
    cases oq with
    |true=>exact⟨Cc.out,.inr ⟨⟨S.ds,S.ls++[⟨a,p,b,q⟩]⟩,by rw[vF.out];rfl,rfl,ds,_,_,by simpa[jI]using El.out,Fv.out,jE.out⟩⟩
    |false=>exact⟨Cc.out,.inl ⟨by rw[vF.out];rfl,rfl⟩⟩
   all_goals
    refine⟨Cc.out,.inl ⟨?_,rfl⟩⟩
    rw[vF.out,if_neg]
    simp_all
def iQ:List (List UInt8):=[[],[104,111,115,116],[114,111,117,116,101,114],[102,105,114,101],[110,97,116],[108,98]]
theorem C9 {x:List UInt8} {k:Nat} (h:eX x=k) (hk:1≤k):x=bY (k:Int):=by
 unfold eX at h
 split at h
 ·next e=>subst h;exact e
 split at h
 ·next e=>subst h;exact e
 split at h
 ·next e=>subst h;exact e
 split at h
 ·next e=>subst h;exact e
 split at h
 ·next e=>subst h;exact e
 omega
theorem mI {x:List UInt8} {k:Nat} (h:eX x=k) (hk:1≤k) (h5:k≤5):ig (fun y=>decide (y=x)) iQ=(k:Int):=by
 have hx:=C9 h hk
 subst hx
 rcases(by omega:k=1∨k=2∨k=3∨k=4∨k=5)with rfl | rfl | rfl | rfl | rfl<;>decide
theorem zW {x:List UInt8} (h:eX x=0):ig (fun y=>decide (y=x)) iQ<1:=by
 rcases l6 (fun y=>decide (y=x)) iQ with⟨j,r,hj,hl,hr,hp,_⟩ | ⟨hj,_⟩
 ·rw[hj]
  have hrx:r=x:=by simpa using hp
  subst hrx
  match j,hr with
  |0,_=>omega
  |1,hr=>cases hr;exact absurd h (by decide)
  |2,hr=>cases hr;exact absurd h (by decide)
  |3,hr=>cases hr;exact absurd h (by decide)
  |4,hr=>cases hr;exact absurd h (by decide)
  |5,hr=>cases hr;exact absurd h (by decide)
  |(j+6),hr=>exact absurd hr (by simp[iQ])
 ·rw[hj];omega
theorem zX {S:dJ} {x:List UInt8} {rest:List (List UInt8)} (h:eX x=0):bP S (x::rest)=none:=by
 cases rest with
 |nil=>rfl
 |cons a t=>
  simp only[bP,h]
  split
  ·rfl
  ·rfl
theorem Ce {S:dJ} {x:List UInt8} {rest:List (List UInt8)} (h:S.ls≠[]):bP S (x::rest)=none:=by
 cases rest with
 |nil=>rfl
 |cons a t=>exact dG S x a t (.inl h)
theorem ow {k:Nat} (hk:1≤k) (h5:k≤5):(#[.int .i64 0,.int .i64 3,.int .i64 2,.int .i64 2,.int .i64 4,.int .i64 4]:Array Value)[k]?=some (.int .i64 (jm k:Int)):=by
 rcases(by omega:k=1∨k=2∨k=3∨k=4∨k=5)with rfl | rfl | rfl | rfl | rfl<;>rfl
theorem rH {w:World} {Y:Nat} {nm:List UInt8} (h5:nm.length≤5000) (h:Bx w Y #[.string ⟨nm.toArray⟩,.int .i64 2,.int .i64 0,.int .u8 0,.slice none 0 0,.slice none 0 0,.slice none 0 0] 37):
  iW w w.heap.size ⟨some ⟨Y,0,none⟩,1,1,[⟨⟨nm.toArray⟩,2,0,0,none,0,0,[],none,0,0,[],none,0,0,[]⟩],none,0,0,[]⟩:=by
 have hn:NG w 0 [⟨⟨nm.toArray⟩,2,0,0,none,0,0,[],none,0,0,[],none,0,0,[]⟩] [] (.slice (some ⟨Y,0,none⟩) 1 1) (.slice none 0 0):=by
  refine⟨⟨rfl,.inr ⟨Y,1,_,rfl,Nat.zero_le _,h,Nat.le_refl _,by unfold maxLen;omega,rfl,rfl⟩⟩,World.ownsRow_nil _ _ _ _,fun y hy=>?_,fun y hy=>?_,fun y hy=>?_,fun y hy=>?_,fun y hy=>(nomatch hy),fun i j y z q hij hy hz=>?_,fun i j y z q hij hy hz=>?_⟩
  ·rcases List.mem_singleton.1 hy with rfl;exact⟨World.ownsRow_nil _ _ _ _,rfl⟩
  ·rcases List.mem_singleton.1 hy with rfl;exact⟨World.ownsRow_nil _ _ _ _,rfl⟩
  ·rcases List.mem_singleton.1 hy with rfl;exact⟨World.ownsRow_nil _ _ _ _,rfl⟩
  ·rcases List.mem_singleton.1 hy with rfl;exact gJ h5 (by omega) (by omega) (by omega) (bs:=[]) (fun y hy=>(nomatch hy))
  ·have h1:=(List.getElem?_eq_some_iff.1 hy).1
   have h2:=(List.getElem?_eq_some_iff.1 hz).1
   simp at h1 h2
   omega
  ·have h1:=(List.getElem?_eq_some_iff.1 hy).1
   have h2:=(List.getElem?_eq_some_iff.1 hz).1
   simp at h1 h2
   omega
 exact hn.tC
theorem qc (s:ByteArray):jN [⟨s,2,0,0,[],[],[]⟩] []=if bT s=true then 0 else 3:=by
 unfold jN
 rw[if_neg (by simp)]
 cases h:bT s
 ·simp[fQ,h]
 ·have hd:aX ⟨s,2,0,0,[],[],[]⟩=0:=by
   simp[aX,lH,cu,fI,dH,lM]
  simp[fQ,h,hd,fV]
end Go.Proofs.YtifkacnoiocebaaDoor
