/- A part of the proof: Nq4, Nq5p. -/
import Derived.Test.YtifkacnoiocebaaDoorNz22
set_option linter.unusedVariables false
set_option linter.unusedSimpArgs false
set_option maxRecDepth 100000
set_option maxHeartbeats 8000000
namespace Go.Proofs.YtifkacnoiocebaaDoor
open Go.RowKit
theorem uN (S:dJ) (vb p:List UInt8) (h:(pieces 47 vb).length ≠2):fT S [vb,p]=none:=by
 simp only[fT]
 split
 ·rename_i hc;rw[hc]at h;simp at h
 ·rfl
theorem yU (R:Nat) (S:dJ) (x:List UInt8) (rest:List (List UInt8)) (base g n cap:Nat) (W:World) (hR:iV jI 25 W R S) (hS:cK S 10000) (hw:cB W base g n cap (x::rest)) (hwo:iX (x::rest)) (hgR:R<g) (hb:(x ==[112,101,114,109,105,116])=false) (hb2:(x ==[100,101,110,121])=false) (hb3:(x ==[114,111,117,116,101])=true):
  Calls Tryd.prog 14 #[.pointer (some ⟨R,0,none⟩),.slice (some ⟨g,0,none⟩) n cap] W (gU jI 25 R (fT S rest) W):=by
 obtain⟨ds,V,L,hbx,aR,hds⟩:=hR
 have hn:=hw.len
 simp only[List.length_cons]at hn
 have hcap:=(dY hw.own)
 have iM:=hwo.len
 simp only[List.length_cons]at iM
 have hRl:=hbx.lt
 have hgl:=hw.lt.2
 have aL:Bx W R #[V,L] 25:=hbx
 clear hbx
 have iw:ds.length≤10000:=by have:=hS.d;rw[← hds,List.length_map]at this;exact this
 have j3:S.ls.length≤10000:=hS.l
 have hxg:W.cell? ⟨g,0,none⟩=some (.string ⟨x.toArray⟩):=hw.get (k:=0) rfl
 have hn0:(0:Int)<(n:Int):=by omega
 have hn1:0<n:=by omega
 obtain⟨LA,lc,rfl,_⟩:=bD.dw aJ.len aR.l rfl
 have r1:W.cell? ⟨R,1,none⟩=some (.slice LA S.ls.length lc):=aL.get 1 _ rfl
 by_cases hd0:ds=[]
 ·have HF:=hide (o7 S rest (.inl (by rw[← hds,hd0];rfl)))
  obtain⟨A,c,hV,_⟩:=bD.dw ah.len aR.d rfl
  have r0:W.cell? ⟨R,0,none⟩=some (.slice A 0 c):=by rw[hV,hd0]at aL;exact aL.get 0 _ rfl
  clear aR aL hds hS hV hd0 hw hwo
  go_enter Tryd.func14,Tryd.ntmps14
  go_wp2_with fail
  go_ret
  exact⟨Below.refl _ _,.inl ⟨HF.out,rfl⟩⟩
 by_cases hls:S.ls=[]
 case neg=>
  have HF:=hide (o7 S rest (.inr hls))
  obtain⟨A,c,hV,_⟩:=bD.dw ah.len aR.d rfl
  have r0:W.cell? ⟨R,0,none⟩=some (.slice A ds.length c):=by rw[hV]at aL;exact aL.get 0 _ rfl
  obtain⟨nd,hnd⟩:∃nd,ds.length=nd:=⟨_,rfl⟩
  obtain⟨nl,hnl⟩:∃nl,S.ls.length=nl:=⟨_,rfl⟩
  have DT:0<nd:=by rw[← hnd];exact List.length_pos_iff.2 hd0
  have DU:0<nl:=by rw[← hnl];exact List.length_pos_iff.2 hls
  rw[hnd]at r0
  rw[hnl]at r1
  have q0:decide ((0:Int)<(nd:Int))=true:=decide_eq_true (by omega)
  have q1:((nl:Int)==0)=false:=by simp;omega
  clear aR aL hds hS hV hd0 hls hnd hnl iw j3 hw hwo
  go_enter Tryd.func14,Tryd.ntmps14
  go_wp2_with fail
  go_ret
  exact⟨Below.refl _ _,.inl ⟨HF.out,rfl⟩⟩
 case pos=>
 rcases lZ hds with⟨h1,_⟩ | ⟨ds0,x0,rfl,h2,h3,hxm⟩
 ·exact absurd h1 hd0
 have jP:x0∈ds0++[x0]:=List.mem_append_right _ (List.mem_singleton.2 rfl)
 have htn:x0.ts.length≤10000:=hS.t _ hxm
 obtain⟨gd,cd,rfl,_⟩:=aR.d.form (by simp)
 have hlen:(ds0++[x0]).length =ds0.length+1:=by simp
 obtain⟨k,hk⟩:∃k,ds0.length=k:=⟨_,rfl⟩
 have Cx:k≤9999:=by rw[hlen,hk]at iw;omega
 have hgd:=aR.d.lt gd rfl
 have iq:Bx W R #[.slice (some ⟨gd,0,none⟩) (k+1) cd,.slice LA 0 lc] 25:=by
  rw[hlen,hk]at aL
  rw[hls]at aL
  exact aL
 rw[hls]at r1 aR
 have r0:W.cell? ⟨R,0,none⟩=some (.slice (some ⟨gd,0,none⟩) (k+1) cd):=iq.get 0 _ rfl
 have q0:decide ((0:Int)<((k+1:Nat):Int))=true:=decide_eq_true (by omega)
 have q1:decide ((0:Int)<(k:Int)+1)=true:=decide_eq_true (by omega)
 have q2:((k:Int)+1 - 1)=(k:Int):=by omega
 have q3:(((k+1:Nat):Int) - 1)=(k:Int):=by omega
 have HRW:=hide (fun(w':World) (hb:Below W.heap.size W w')=>show w'.cell? ⟨R,0,none⟩=some (.slice (some ⟨gd,0,none⟩) (k+1) cd)∧w'.cell? ⟨R,1,none⟩=some (.slice LA 0 lc)from⟨(iq.below hb).get 0 _ rfl,(iq.below hb).get 1 _ rfl⟩)
 have DV:=hide (fun(w':World) (hb:Below W.heap.size W w')=>show w'.cell? ⟨g,0,none⟩=some (.string ⟨x.toArray⟩)from(hb.cell (p:=⟨g,0,none⟩) hgl).trans hxg)
 by_cases Cw:n=3
 case neg=>
  have HF:=hide (rZ S rest (by omega))
  have d3:((n:Int)==3)=false:=by simp;omega
  have d4:((n:Int) != 3)=true:=by simp;omega
  clear aR aL hds hS hw hwo h2 h3 hls hxm jP iq
  go_enter Tryd.func14,Tryd.ntmps14
  go_wp2_with fail
  go_quiet (fail)
  obtain⟨w1,hw1⟩:∃w1,w1=W.drewN nq:=⟨_,rfl⟩
  have HB1:=hide (show Below W.heap.size W w1 from by rw[hw1];exact aP _ _ _)
  rw[← hw1]
  clear hw1
  have p1:=DV.out w1 HB1.out
  clear r0 r1 hxg
  go_wp2_with fail
  go_ret
  exact⟨HB1.out.mono (by omega),.inl ⟨HF.out,rfl⟩⟩
 case pos=>
 subst Cw
 obtain⟨vb,rest,rfl⟩:∃a t,rest=a::t:=by
  cases rest with
  |nil=>simp at hn
  |cons a t=>exact⟨a,t,rfl⟩
 obtain⟨p,rfl⟩:∃a,rest=[a]:=by
  cases rest with
  |nil=>simp at hn
  |cons a t=>
   cases t with
   |nil=>exact⟨a,rfl⟩
   |cons c u=>simp only[List.length_cons]at hn;omega
 have hvl:vb.length≤5000:=hwo.each vb (by simp)
 have hpl:p.length≤5000:=hwo.each p (by simp)
 have xw:W.cell? ⟨g,1,none⟩=some (.string ⟨vb.toArray⟩):=hw.get (k:=1) rfl
 have xA:W.cell? ⟨g,2,none⟩=some (.string ⟨p.toArray⟩):=hw.get (k:=2) rfl
 have dM:=hide (fun(w':World) (hb:Below W.heap.size W w')=>show w'.cell? ⟨g,1,none⟩=some (.string ⟨vb.toArray⟩)∧w'.cell? ⟨g,2,none⟩=some (.string ⟨p.toArray⟩)from⟨(hb.cell (p:=⟨g,1,none⟩) hgl).trans xw,(hb.cell (p:=⟨g,2,none⟩) hgl).trans xA⟩)
 have nT:=hide (fun w=>iK vb 47 w (by omega))
 clear xw xA
 by_cases hp2:(pieces 47 vb).length =2
 case neg=>
  have HF:=hide (uN S vb p hp2)
  obtain⟨np,hnp⟩:∃np,(pieces 47 vb).length =np:=⟨_,rfl⟩
  rw[hnp]at nT hp2
  have d3:((np:Int)==2)=false:=by simp;omega
  have d4:((np:Int) != 2)=true:=by simp;omega
  clear aR aL hds hS hw hwo h2 h3 hls hxm jP iq hnp
  go_enter Tryd.func14,Tryd.ntmps14
  go_wp2_with fail
  go_quiet (fail)
  obtain⟨w1,hw1⟩:∃w1,w1=W.drewN nq:=⟨_,rfl⟩
  have HB1:=hide (show Below W.heap.size W w1 from by rw[hw1];exact aP _ _ _)
  rw[← hw1]
  clear hw1
  have p1:=DV.out w1 HB1.out
  obtain⟨p2,p3⟩:=dM.out w1 HB1.out
  clear r0 r1 hxg
  go_wp2_with fail
  refine(nT.out _).mono ?_
  rintro e w2 ⟨gp,cp,rfl,hst,hb2⟩
  have HB2:=hide (HB1.out.trans (hb2.mono HB1.out.size))
  clear hb2 hst nT
  go_wp2_with fail
  go_ret
  exact⟨HB2.out.mono (by omega),.inl ⟨HF.out,rfl⟩⟩
 case pos=>
 have hpt:=zU hp2
 have jD:=hide (rY S vb p)
 obtain⟨X,hX⟩:∃X,(cO 47 vb).1=X:=⟨_,rfl⟩
 obtain⟨Y,hY⟩:∃Y,(cO 47 vb).2=Y:=⟨_,rfl⟩
 rw[hX,hY]at jD hpt
 rw[hpt]at nT
 rw[show([X,Y]:List (List UInt8)).length =2 from rfl]at nT
 have hA:=gW X 100
 have hA':=dP X 100
 have hB:=gW Y 100
 have hB':=dP Y 100
 have hP:=gW p 100
 have hP':=dP p 100
 obtain⟨a,ha⟩:∃a,aF X 100=a:=⟨_,rfl⟩
 obtain⟨b,hb⟩:∃a,aF Y 100=a:=⟨_,rfl⟩
 obtain⟨c,hc⟩:∃a,aF p 100=a:=⟨_,rfl⟩
 have HX:∀w,Calls Tryd.prog 42 #[.string ⟨X.toArray⟩,.int .i64 99] w (fun e w'=>e= .returned (.int .i64 a)∧w=w'):=fun w=>by
  have h:=jZ X 99 w (by omega)
  rw[show(99:Int)+1=100 from rfl,ha]at h
  exact h
 have HY:∀w,Calls Tryd.prog 42 #[.string ⟨Y.toArray⟩,.int .i64 99] w (fun e w'=>e= .returned (.int .i64 b)∧w=w'):=fun w=>by
  have h:=jZ Y 99 w (by omega)
  rw[show(99:Int)+1=100 from rfl,hb]at h
  exact h
 have HP:∀w,Calls Tryd.prog 42 #[.string ⟨p.toArray⟩,.int .i64 99] w (fun e w'=>e= .returned (.int .i64 c)∧w=w'):=fun w=>by
  have h:=jZ p 99 w (by omega)
  rw[show(99:Int)+1=100 from rfl,hc]at h
  exact h
 have HX:=hide HX
 have HY:=hide HY
 have HP:=hide HP
 simp only[ha,hb,hc]at jD hA hA' hB hB' hP hP'
 have hro:(⟨a,b,c⟩:bf).ok :=by
  refine⟨?_,?_,?_⟩
  ·show bG a;unfold bG;omega
  ·show bG b;unfold bG;omega
  ·show bG c;unfold bG;omega
 rw[lC hls h2 h3]at jD
 obtain⟨oa,hoa⟩:∃oa,decide (0≤a)=oa:=⟨_,rfl⟩
 obtain⟨ob,l5⟩:∃oa,decide (0≤b)=oa:=⟨_,rfl⟩
 obtain⟨oc,hoc⟩:∃oa,decide (0≤c)=oa:=⟨_,rfl⟩
 simp only[hoa,l5,hoc]at jD
 obtain⟨r,hr⟩:∃r,fT S [vb,p]=r:=⟨_,rfl⟩
 rw[hr]at jD ⊢
 have HO:=hide (And.intro hoa (And.intro l5 hoc))
 have htl:=(aR.t x0 jP).2
 have hxc:W.cell? ⟨gd,k*7+6,none⟩=some (.slice x0.tA x0.tn x0.tc):=by
  have:=aR.d.cells (g:=gd) rfl (k*7+6) (.slice x0.tA x0.tn x0.tc) (flat_get ah.len _ k x0 6 _ (by rw[← hk,List.getElem?_append_right (Nat.le_refl _),Nat.sub_self];rfl) rfl)
  rwa [addr_add,Nat.zero_add]at this
 have fO:=hide aR
 have fq:=hide iq
 have HQ:=hide (fun(w':World) (hb:Below W.heap.size W w')=>show w'.cell? ⟨gd,k*7+6,none⟩=some (.slice x0.tA x0.tn x0.tc)from(hb.cell (p:=⟨gd,k*7+6,none⟩) hgd.2).trans hxc)
 clear aR aL iq hds hS hw hwo hxc hxm h2 h3 hd0 hX hY ha hb hc hA hA' hB hB' hP hP' hoa l5 hoc hr hp2 hpt
 go_enter Tryd.func14,Tryd.ntmps14
 go_wp2_with fail
 go_quiet (fail)
 obtain⟨w1,hw1⟩:∃w1,w1=W.drewN nq:=⟨_,rfl⟩
 have HB1:=hide (show Below W.heap.size W w1 from by rw[hw1];exact aP _ _ _)
 rw[← hw1]
 clear hw1
 have p1:=DV.out w1 HB1.out
 obtain⟨p2,p3⟩:=dM.out w1 HB1.out
 clear r0 r1 hxg
 go_wp2_with fail
 refine(nT.out _).mono ?_
 rintro e w2 ⟨gp,cp,rfl,hst,hb2⟩
 have HB2:=hide (HB1.out.trans (hb2.mono HB1.out.size))
 have EJ:=hst.lt.2
 have HST:=hide hst
 clear hb2 hst nT p1 p2 p3 HB1
 go_wp2_with fail
 have HS:=hide (fun(w':World) (h:Below w2.heap.size w2 w')=>show w'.cell? ⟨gp,0,none⟩=some (.string ⟨X.toArray⟩)∧w'.cell? ⟨gp,1,none⟩=some (.string ⟨Y.toArray⟩)∧w'.cell? ⟨g,2,none⟩=some (.string ⟨p.toArray⟩)from
  ⟨(h.cell (p:=⟨gp,0,none⟩) EJ).trans (HST.out.get (k:=0) rfl),(h.cell (p:=⟨gp,1,none⟩) EJ).trans (HST.out.get (k:=1) rfl),(dM.out w' (HB2.out.trans (h.mono HB2.out.size))).2⟩)
 refine bF (fun w'=>w'.cell? ⟨gp,0,none⟩=some (.string ⟨X.toArray⟩)∧w'.cell? ⟨gp,1,none⟩=some (.string ⟨Y.toArray⟩)∧w'.cell? ⟨g,2,none⟩=some (.string ⟨p.toArray⟩)) 14 (by kernel_rfl) (HS.out _ (Below.refl _ _).drew) (fun hS inv=>?_)
 have bK:=hide (HB2.out.drew)
 have iA:=hide (show Below w2.heap.size w2 w2.drew from(Below.refl _ _).drew)
 obtain⟨M,hM⟩:∃M,w2.drew.heap.size=M:=⟨_,rfl⟩
 have oO:W.heap.size≤M:=by have:=bK.out.size;omega
 have Io:gd<M:=by have:=hgd.2;omega
 generalize World.drew w2=wd at*
 revert inv
 refine rP 0 hS ?_
 refine rP 1 hS ?_
 refine rL 2 [3,12,14] rfl hS (by intro w hSw;obtain⟨s0,s1,s2⟩:=hSw;go_simp;try with_reducible rfl) ?_
 intro inv
 refine kN (i:=3) (v:=.int .i64 a) [12,14] rfl (by kernel_rfl) (by kernel_rfl) (by kernel_rfl) (by kernel_rfl) (fun _ _ _ h=>h) inv ⟨by rfl,?_⟩ hS (fun inv2=>?_)
 ·intro w hSw
  exact⟨42,_,by go_simp,HX.out w⟩
 clear inv
 have inv:=inv2
 clear inv2
 try simp only[Act.put,aB,aC,aD]
 revert inv
 refine rP 4 hS ?_
 refine rP 5 hS ?_
 refine rL 6 [7,12,14] rfl hS (by intro w hSw;obtain⟨s0,s1,s2⟩:=hSw;go_simp;try with_reducible rfl) ?_
 intro inv
 refine kN (i:=7) (v:=.int .i64 b) [12,14] rfl (by kernel_rfl) (by kernel_rfl) (by kernel_rfl) (by kernel_rfl) (fun _ _ _ h=>h) inv ⟨by rfl,?_⟩ hS (fun inv2=>?_)
 ·intro w hSw
  exact⟨42,_,by go_simp,HY.out w⟩
 clear inv
 have inv:=inv2
 clear inv2
 try simp only[Act.put,aB,aC,aD]
 revert inv
 refine rP 8 hS ?_
 refine rP 9 hS ?_
 refine rL 10 [11,12,14] rfl hS (by intro w hSw;obtain⟨s0,s1,s2⟩:=hSw;go_simp;try with_reducible rfl) ?_
 intro inv
 refine kN (i:=11) (v:=.int .i64 c) [12,14] rfl (by kernel_rfl) (by kernel_rfl) (by kernel_rfl) (by kernel_rfl) (fun _ _ _ h=>h) inv ⟨by rfl,?_⟩ hS (fun inv2=>?_)
 ·intro w hSw
  exact⟨42,_,by go_simp,HP.out w⟩
 clear inv
 have inv:=inv2
 clear inv2
 try simp only[Act.put,aB,aC,aD]
 revert inv
 refine rP 12 hS ?_
 intro inv
 refine rO 13 inv fun K hK=>?_
 go_simp
 have ak:=below_alloc2 wd (.cells #[.int .i64 0,.int .i64 0,.int .i64 0] 66)
 have aO:=hide (Bx.new wd #[.int .i64 0,.int .i64 0,.int .i64 0] 66)
 have aS:=hide (bK.out.trans (ak.mono bK.out.size))
 have iD:(wd.alloc (.cells #[.int .i64 0,.int .i64 0,.int .i64 0] 66)).heap.size =M+1:=by simp[hM]
 rw[hM]at aO
 have bW:=hide (HS.out _ (iA.out.trans (ak.mono (by have:=iA.out.size;omega))))
 clear ak bK iA hS
 generalize World.alloc wd _=aA at*
 have hS:=bW.out
 refine hK.out _ _ (fun _=>hS) ?_
 clear hK K hS inv
 intro inv
 try simp only[Act.put,aB,aC,aD]
 have m0:aA.cell? ⟨M,0,none⟩=some (.int .i64 0):=aO.out.get 0 _ rfl
 have m1:aA.cell? ⟨M,1,none⟩=some (.int .i64 0):=aO.out.get 1 _ rfl
 have m2:aA.cell? ⟨M,2,none⟩=some (.int .i64 0):=aO.out.get 2 _ rfl
 have m3:∀j,aA.frozen? ⟨M,j,none⟩=false:=fun j=>aO.out.frozen j
 refine rT 14 inv fun K hK=>?_
 go_simp
 refine hK.out _ _ ?_
 clear hK K inv
 intro inv
 try simp only[Act.put,aB,aC,aD]
 refine rD ?_
 clear inv
 have jo:=hide (((aO.out.set 0 (.int .i64 a)).set 1 (.int .i64 b)).set 2 (.int .i64 c))
 have aQ:=hide (((aS.out.setCell (p:=⟨M,0,none⟩) oO (.int .i64 a)).setCell (p:=⟨M,1,none⟩) oO (.int .i64 b)).setCell (p:=⟨M,2,none⟩) oO (.int .i64 c))
 have DW:=(size_setCell ((aA.setCell ⟨M,0,none⟩ (.int .i64 a)).setCell ⟨M,1,none⟩ (.int .i64 b)) ⟨M,2,none⟩ (.int .i64 c)).trans ((size_setCell (aA.setCell ⟨M,0,none⟩ (.int .i64 a)) ⟨M,1,none⟩ (.int .i64 b)).trans ((size_setCell aA ⟨M,0,none⟩ (.int .i64 a)).trans iD))
 clear m0 m1 m2 m3 aO aS bW HS
 generalize World.setCell (World.setCell _ _ _) _ _=fH at*
 have jo:=hide (show Bx fH M #[.int .i64 a,.int .i64 b,.int .i64 c] 66 from jo.out)
 have HS2:=hide (fun(w':World) (h:Below fH.heap.size fH w')=>show w'.cell? ⟨gd,k*7+6,none⟩=some (.slice x0.tA x0.tn x0.tc)∧w'.cell? ⟨M,0,none⟩=some (.int .i64 a)∧w'.cell? ⟨M,1,none⟩=some (.int .i64 b)∧w'.cell? ⟨M,2,none⟩=some (.int .i64 c)from
  ⟨HQ.out w' (aQ.out.trans (h.mono aQ.out.size)),(jo.out.below h).get 0 _ rfl,(jo.out.below h).get 1 _ rfl,(jo.out.below h).get 2 _ rfl⟩)
 go_wp2_with fail
 refine bF (fun w'=>w'.cell? ⟨gd,k*7+6,none⟩=some (.slice x0.tA x0.tn x0.tc)∧w'.cell? ⟨M,0,none⟩=some (.int .i64 a)∧w'.cell? ⟨M,1,none⟩=some (.int .i64 b)∧w'.cell? ⟨M,2,none⟩=some (.int .i64 c)) 7 (by kernel_rfl) (HS2.out _ (Below.refl _ _).drew) (fun hS inv=>?_)
 have bK:=hide (aQ.out.drew)
 have iA:=hide (show Below fH.heap.size fH fH.drew from(Below.refl _ _).drew)
 have hsz5:fH.drew.heap.size=M+1:=DW
 generalize World.drew fH=wd at*
 revert inv
 refine rP 0 hS ?_
 refine rP 1 hS ?_
 refine rP 2 hS ?_
 refine rP 3 hS ?_
 refine rL 4 [7] rfl hS (by intro w hSw;obtain⟨s0,s1,s2,s3⟩:=hSw;go_simp;try with_reducible rfl) ?_
 refine rL 5 [6,7] rfl hS (by intro w hSw;obtain⟨s0,s1,s2,s3⟩:=hSw;go_simp;try with_reducible rfl) ?_
 intro inv
 refine rO 6 inv fun K hK=>?_
 go_simp
 have ak:=below_alloc2 wd (.cells #[.int .i64 a,.int .i64 b,.int .i64 c] 66)
 have aO:=hide (Bx.new wd #[.int .i64 a,.int .i64 b,.int .i64 c] 66)
 have bW:=hide (HS2.out _ (iA.out.trans (ak.mono iA.out.size)))
 have AJ:=hide (jo.out.below (iA.out.trans (ak.mono iA.out.size)))
 have aS:=hide (bK.out.trans (ak.mono bK.out.size))
 have iD:(wd.alloc (.cells #[.int .i64 a,.int .i64 b,.int .i64 c] 66)).heap.size =M+2:=by simp;omega
 rw[hsz5]at aO
 clear ak bK iA hS
 generalize World.alloc wd _=aA at*
 have hS:=bW.out
 refine hK.out _ _ (fun _=>hS) ?_
 clear hK K hS inv
 intro inv
 try simp only[Act.put,aB,aC,aD]
 refine rT 7 inv fun K hK=>?_
 rw[if_pos (by rfl)]
 obtain⟨i0,hi0,hz0,hz1,hz2⟩:=info_parts Tryd.infoRoute
 have au:=hide (fO.out.below aS.out)
 refine aZ _ (.tmp 109) (.tmp 111) 35 rfl (R+1) 66 i0 _ 3 24 Tryd.underlying35 hi0 hz0 hz1 hz2 rfl (by omega) (.slice x0.tA x0.tn x0.tc) x0.tn (x0.ts.flatMap bf.cells) rfl (au.out.t x0 jP).1 (M+2) (some ⟨M+1,0,none⟩) 1 1 (bf.cells ⟨a,b,c⟩) (by simp[Act.eval,Act.put,hsz5]) ⟨rfl,fun _=>⟨_,rfl,Nat.lt_succ_self _,fun j' u hu=>by
  rw[addr_add,Nat.zero_add]
  exact aO.out.get j' u (by simpa[bf.cells]using hu)⟩⟩ (bf.one _) (by simp only[maxLen];omega) (by omega) (by omega) ?_
 intro v9 w9 aH aN bX
 obtain⟨g9,c9,rfl,_⟩:=aH.form (by omega)
 have hrow:∀q,(Value.slice x0.tA x0.tn x0.tc).ownBlock =some q→R<q∧q<W.heap.size:=fun q e=>by have:=(fO.out.t x0 jP).1.lt q e;omega
 have lJ:(Value.slice x0.tA x0.tn x0.tc).ownBlock ≠some gd:=jd au.out.d (au.out.t x0 jP).1 (by decide) rfl
 have dh:=hide (au.out.uY hro aH aN bX)
 have aT:=hide (show Bx w9 R #[.slice (some ⟨gd,0,none⟩) (k+1) cd,.slice LA 0 lc] 25 from(fq.out.below aS.out).same (aY aN (by omega) (fun e=>by have:=hrow _ e;omega)))
 have BX:=hide (show Bx w9 M #[.int .i64 a,.int .i64 b,.int .i64 c] 66 from AJ.out.same (aY aN (by omega) (fun e=>by have:=hrow _ e;omega)))
 have bS:=hide (show Below R W w9 from(aS.out.mono (by omega)).grown aN (by omega) (fun q hq=>by have:=hrow _ hq;omega))
 have s0:w9.cell? ⟨gd,k*7+6,none⟩=some (.slice x0.tA x0.tn x0.tc):=(World.cell?_of_block (a:=⟨gd,k*7+6,none⟩) (aY aN (by show gd<_;omega) lJ)).trans bW.out.1
 have f0:w9.frozen? ⟨gd,k*7+6,none⟩=false:=(bV au.out.d (au.out.t x0 jP).1 (by decide) aN).frozenAt _
 clear aH aN bX au
 refine hK.out _ _ ?_
 clear hK K inv
 intro inv
 try simp only[Act.put,aB,aC,aD]
 refine rT 8 inv fun K hK=>?_
 go_simp
 refine hK.out _ _ ?_
 clear hK K inv
 intro inv
 try simp only[Act.put,aB,aC,aD]
 refine rT 9 inv fun K hK=>?_
 go_simp
 refine hK.out _ _ ?_
 clear hK K inv
 intro inv
 try simp only[Act.put,aB,aC,aD]
 refine rT 10 inv fun K hK=>?_
 go_simp
 refine hK.out _ _ ?_
 clear hK K inv
 intro inv
 try simp only[Act.put,aB,aC,aD]
 refine rD ?_
 clear inv
 clear s0 f0 bW AJ HS2
 rw[hk]at dh
 have oW:=hide (BX.out.far ⟨gd,k*7+6,none⟩ (.slice (some ⟨g9,0,none⟩) (x0.tn+1) c9) (by show M≠gd;omega))
 have wh:=hide (bS.out.setCell (p:=⟨gd,k*7+6,none⟩) (by show R≤gd;omega) (.slice (some ⟨g9,0,none⟩) (x0.tn+1) c9))
 have fD:=hide (show Bx (w9.setCell ⟨gd,k*7+6,none⟩ (.slice (some ⟨g9,0,none⟩) (x0.tn+1) c9)) R (jI (.slice (some ⟨gd,0,none⟩) (ds0++[x0]).length cd) (.slice LA 0 lc) []) 25 from by
  rw[hlen,hk]
  exact(aT.out.far _ _ (by show R≠gd;omega)))
 generalize World.setCell w9 _ _=qm at*
 have m0:qm.cell? ⟨M,0,none⟩=some (.int .i64 a):=oW.out.get 0 _ rfl
 have m1:qm.cell? ⟨M,1,none⟩=some (.int .i64 b):=oW.out.get 1 _ rfl
 have m2:qm.cell? ⟨M,2,none⟩=some (.int .i64 c):=oW.out.get 2 _ rfl
 obtain⟨hoa,l5,hoc⟩:=HO.out
 go_wp2_with fail
 all_goals
  clear hoa l5 hoc
  go_ret
 ·rename_i h1 h2
  subst h1 h2
  cases oc with
  |true=>exact⟨wh.out,.inr ⟨_,by rw[jD.out];rfl,rfl,_,_,_,fD.out,dh.out,by simp[ah.dev]⟩⟩
  |false=>exact⟨wh.out,.inl ⟨by rw[jD.out];rfl,rfl⟩⟩
 ·rename_i h1 h2
  subst h1
  have h2:ob=false:=by simpa using h2
  subst h2
  exact⟨wh.out,.inl ⟨by rw[jD.out];rfl,rfl⟩⟩
 ·rename_i h1
  have h1:oa=false:=by simpa using h1
  subst h1
  exact⟨wh.out,.inl ⟨by rw[jD.out];rfl,rfl⟩⟩
def iG {α:Type} (p:α→Bool) (l:List α) (j:Nat) (A:Int):Prop:=
 (A= -1∧∀(i:Nat) y,j≤i→l[i]?=some y→p y=false)∨∃(k:Nat) (r:α),A=(k:Int)∧j≤k∧l[k]?=some r∧p r=true∧∀(i:Nat) y,j≤i→i<k→l[i]?=some y→p y=false
theorem iG.start {α:Type} (p:α→Bool) (l:List α):iG p l l.length (-1):=
 .inl ⟨rfl,fun i y h hy=>by have:=(List.getElem?_eq_some_iff.1 hy).1;omega⟩
theorem iG.hit {α:Type} {p:α→Bool} {l:List α} {j:Nat} {r:α} (hr:l[j]?=some r) (hp:p r=true):iG p l j (j:Int):=
 .inr ⟨j,r,rfl,Nat.le_refl _,hr,hp,fun i y h1 h2=>by omega⟩
theorem iG.miss {α:Type} {p:α→Bool} {l:List α} {j:Nat} {r:α} {A:Int} (hr:l[j]?=some r) (hp:p r=false) (h:iG p l (j+1) A):iG p l j A:=by
 have hm:∀(i:Nat) y,j≤i→l[i]?=some y→i=j→p y=false:=fun i y _ hy e=>by
  subst e;rw[hr]at hy;cases hy;exact hp
 rcases h with⟨rfl,h⟩ | ⟨k,r',rfl,hk,hr',hp',h⟩
 ·exact .inl ⟨rfl,fun i y h1 hy=>(by omega:i=j∨j+1≤i).elim (hm i y h1 hy) (fun h2=>h i y h2 hy)⟩
 ·exact .inr ⟨k,r',rfl,by omega,hr',hp',fun i y h1 h2 hy=>(by omega:i=j∨j+1≤i).elim (hm i y h1 hy) (fun h3=>h i y h3 h2 hy)⟩
theorem iG.done {α:Type} {p:α→Bool} {l:List α} {A:Int} (h:iG p l 0 A):ig p l=A:=by
 rcases h with⟨rfl,h⟩ | ⟨k,r,rfl,_,hr,hp,h⟩
 ·exact lS (fun j r _ hr=>h j r (by omega) hr)
 ·exact kR hr hp (fun j r hj hr=>h j r (by omega) hj hr)
theorem iG.rng {α:Type} {p:α→Bool} {l:List α} {j:Nat} {A:Int} (h:iG p l j A): -1≤A∧(A<(l.length:Int)∨A= -1):=by
 rcases h with⟨rfl,h⟩ | ⟨k,r,rfl,_,hr,_⟩
 ·exact⟨by omega,.inr rfl⟩
 ·have:=(List.getElem?_eq_some_iff.1 hr).1
  exact⟨by omega,.inl (by omega)⟩
end Go.Proofs.YtifkacnoiocebaaDoor
