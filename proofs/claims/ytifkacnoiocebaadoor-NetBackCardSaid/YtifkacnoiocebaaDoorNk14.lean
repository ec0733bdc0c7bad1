/- A part of the proof: Nr6, Nr7, Nr8. -/
import Derived.Test.YtifkacnoiocebaaDoorNk13
set_option linter.unusedVariables false
set_option linter.unusedSimpArgs false
set_option maxRecDepth 100000
set_option maxHeartbeats 8000000
namespace Go.Proofs.YtifkacnoiocebaaDoor
open Go.RowKit
theorem zX (R:Nat) (S:dH) (x:List UInt8) (rest:List (List UInt8)) (base g n cap:Nat) (W:World) (hm:dF W) (hR:kY iZ 41 W R S) (hS:dO S 10000) (hw:bR W base g n cap (x::rest)) (hwo:mF (x::rest)) (hgR:R<g) (b:Bool) (hb:(x ==[112,101,114,109,105,116])=b):
  Calls Tryd.prog 28 #[.pointer (some ⟨R,0,none⟩),.slice (some ⟨g,0,none⟩) n cap] W (kZ iZ 41 R (iw S b rest) W):=by
 obtain⟨ds,V,L,hbx,dQ,hds⟩:=hR
 have hn:=hw.len
 simp only[List.length_cons]at hn
 have hcap:=(jJ hw.own)
 have qF:=hwo.len
 have hj:=hwo.join
 simp only[List.length_cons,List.drop_succ_cons,List.drop_zero]at qF hj
 obtain⟨lr,hlr⟩:∃lr,aS [32] rest=lr:=⟨_,rfl⟩
 have HJ:=hide (fun(A:Option Addr) (m c:Nat) (w:World) (h:pG w A m rest) (h1:m≤5000) (h2:m≤c)=>(wS rest 32 A m c w h (by omega) (by omega) h2))
 have hRl:=hbx.lt
 simp only[hlr]at HJ hj
 have nD:=hide (fun w (h:dF w)=>tK lr w (by omega) h)
 have HW:=hide hw
 have HM:=hide hm
 have hgl:=hw.lt.2
 have bP:Hid (((bF lr).2≠0∨S.ds=[]∨S.ls≠[])→iw S b rest=none):=hide (fun h=>by
  unfold iw
  rw[hlr]
  split
  ·rename_i h0
   exact tF (h.resolve_left (fun h1=>h1 h0))
  ·rfl)
 have nC:Hid (∀ds0 x0,ds=ds0++[x0]→S.ls=[]→(bF lr).2=0→iw S b rest=some ⟨ds0.map ah.dev++[{ x0.dev with rules:=x0.dev.rules++[⟨b,(bF lr).1⟩] }],[]⟩):=hide (fun ds0 x0 e hl h0=>by
  unfold iw
  rw[hlr,if_pos h0]
  rcases uI hds with⟨h1,_⟩ | ⟨d0,x1,h1,h2,h3,_⟩
  ·rw[h1]at e;simp at e
  ·rw[h1]at e
   obtain⟨rfl,e2⟩:=List.append_inj' e rfl
   cases e2
   rw[rR hl h2 h3])
 obtain⟨r,hr⟩:∃r,iw S b rest=r:=⟨_,rfl⟩
 simp only[hr]at bP nC ⊢
 have hpo:=AY (l:=lr)
 have Dq:jA lr= .tuple #[.agg #[.int .u16 ((bF lr).1.src :Int),.int .u16 ((bF lr).1.dst :Int),.int .u8 ((bF lr).1.eT :Int),.int .u8 ((bF lr).1.eU :Int)],.int .i64 (bF lr).2]:=rfl
 have Dr:(bF lr).2=0∨(bF lr).2=2∨(bF lr).2=3:=by
  unfold bF
  split
  ·exact .inr (.inl rfl)
  ·split
   ·split
    ·exact .inl rfl
    ·exact .inr (.inr rfl)
   ·exact .inr (.inr rfl)
 obtain⟨⟨ms,md,mp,mq⟩,hpm⟩:∃m,(bF lr).1=m:=⟨_,rfl⟩
 obtain⟨pe,hpe⟩:∃pe,(bF lr).2=pe:=⟨_,rfl⟩
 rw[hpm]at hpo Dq
 rw[hpe]at Dq Dr
 simp only[hpm,hpe]at bP nC
 rw[Dq]at nD
 have dP:Bx W R #[V,L,.bool (!S.ls.isEmpty)] 41:=hbx
 clear Dq hpm hpe hr hlr hbx
 have HE:=hide Dr
 by_cases hbad:S.ds=[]∨S.ls≠[]
 ·have HF:=hide (bP.out (.inr hbad))
  have gG:Hid (Calls Tryd.prog 57 #[.pointer (some ⟨R,0,none⟩)] W fun e W'=>e= .returned (.pointer none)∧W=W'):=by
   obtain⟨A,c,rfl,_⟩:=bN.jZ ah.len dQ.d rfl
   refine hide (vk R _ A _ c L W dP ?_ (by have:=hS.d;rw[← hds,List.length_map]at this;omega))
   rcases hbad with h | h
   ·left;rw[h]at hds;simpa using hds
   ·right;simpa using h
  have lW:=hide hw.rest
  have lY:=hide (fun(h:n≤1) (A:Option Addr)=>hw.Dp h A)
  simp only[List.drop_succ_cons,List.drop_zero]at lW lY
  clear bP nC dQ dP hds hS hwo hw hm hbad hpo Dr
  go_enter Tryd.func28,Tryd.ntmps28
  go_wp2_with fail
  refine gG.out.mono ?_
  rintro e w1 ⟨rfl,rfl⟩
  clear gG
  go_wp2_with fail
  ·refine(HJ.out (some ⟨g,0,none⟩) (n - 1) (0) W (lY.out (by omega) _) (by omega) (by omega)).mono ?_
   rintro e w2 ⟨rfl,hb2⟩
   have HB2:=hide hb2
   have nS:=hide (HM.out.below hb2)
   clear lY lW HJ hb2 HM
   go_wp2_with fail
   refine(nD.out _ nS.out).mono ?_
   rintro e w3 ⟨rfl,hb3⟩
   have HB3:=hide ((HB2.out.trans (hb3.mono HB2.out.size)))
   have qH:R≤w3.heap.size:=by have:=HB3.out.size;omega
   clear nD nS HB2 hb3
   go_wp2_with fail
   go_ret
   exact⟨(HB3.out.mono (by omega)).alloc qH _,.inl ⟨HF.out,rfl⟩⟩
  ·refine(HJ.out (some ⟨g,1,none⟩) (n - 1) (cap - 1) W (lW.out) (by omega) (by omega)).mono ?_
   rintro e w2 ⟨rfl,hb2⟩
   have HB2:=hide hb2
   have nS:=hide (HM.out.below hb2)
   clear lY lW HJ hb2 HM
   go_wp2_with fail
   refine(nD.out _ nS.out).mono ?_
   rintro e w3 ⟨rfl,hb3⟩
   have HB3:=hide ((HB2.out.trans (hb3.mono HB2.out.size)))
   have qH:R≤w3.heap.size:=by have:=HB3.out.size;omega
   clear nD nS HB2 hb3
   go_wp2_with fail
   go_ret
   exact⟨(HB3.out.mono (by omega)).alloc qH _,.inl ⟨HF.out,rfl⟩⟩
 ·have hls:S.ls=[]:=by
   by_cases h:S.ls=[]
   ·exact h
   ·exact absurd (Or.inr h) hbad
  rcases uI hds with⟨_,h1,_⟩ | ⟨ds0,x0,rfl,h2,h3,hxm⟩
  ·exact absurd (Or.inl h1) hbad
  have HF:=hide (nC.out ds0 x0 rfl hls)
  have uK:x0∈ds0++[x0]:=List.mem_append_right _ (List.mem_singleton.2 rfl)
  obtain⟨gd,cd,rfl,_⟩:=dQ.d.form (by simp)
  have hlen:(ds0++[x0]).length =ds0.length+1:=by simp
  obtain⟨k,hk⟩:∃k,ds0.length=k:=⟨_,rfl⟩
  have H6:k≤9999:=by have:=hS.d;rw[← hds,List.length_map,hlen,hk]at this;omega
  rw[hls]at dQ
  have qI:Bx W R #[.slice (some ⟨gd,0,none⟩) (k+1) cd,L,.bool false] 41:=by
   rw[hlen,hk]at dP
   rw[hls]at dP
   exact dP
  have gG:=hide (vo R gd k cd L W qI (by omega))
  have hrn:x0.rs.length≤10000:=hS.r _ hxm
  have hrl:=(dQ.r x0 uK).2
  have hgd:=dQ.d.lt gd rfl
  have hxc:W.cell? ⟨gd,k*7+5,none⟩=some (.slice x0.rA x0.rn x0.rc):=by
   have:=dQ.d.cells (g:=gd) rfl (k*7+5) (.slice x0.rA x0.rn x0.rc) (flat_get ah.len _ k x0 5 _ (by rw[← hk,List.getElem?_append_right (Nat.le_refl _),Nat.sub_self];rfl) rfl)
   rwa [addr_add,Nat.zero_add]at this
  have hfz:W.frozen? ⟨gd,k*7+5,none⟩=false:=dQ.d.frozenAt _
  have rU:=hide dQ
  have iJ:=hide qI
  have hxg:W.cell? ⟨g,0,none⟩=some (.string ⟨x.toArray⟩):=hw.get (k:=0) rfl
  have HQ:=hide (fun(w':World) (hb:Below W.heap.size W w')=>show w'.cell? ⟨gd,k*7+5,none⟩=some (.slice x0.rA x0.rn x0.rc)∧w'.cell? ⟨g,0,none⟩=some (.string ⟨x.toArray⟩)∧w'.frozen? ⟨gd,k*7+5,none⟩=false from
   ⟨(hb.cell (p:=⟨gd,k*7+5,none⟩) hgd.2).trans hxc,(hb.cell (p:=⟨g,0,none⟩) hgl).trans hxg,(hb.frozen (p:=⟨gd,k*7+5,none⟩) hgd.2).trans hfz⟩)
  have lW:=hide hw.rest
  have lY:=hide (fun(h:n≤1) (A:Option Addr)=>hw.Dp h A)
  simp only[List.drop_succ_cons,List.drop_zero]at lW lY
  have hmo:(⟨b,⟨ms,md,mp,mq⟩⟩:aW).ok :=hpo
  have FR:=hide hmo
  clear nC dQ dP qI hds hS hwo hw hm hbad hpo Dr hxc hxg hfz uK hxm h2 h3 hls hmo
  go_enter Tryd.func28,Tryd.ntmps28
  go_wp2_with fail
  refine gG.out.mono ?_
  rintro e w1 ⟨rfl,hb1⟩
  have HB1:=hide hb1
  have nE:=hide (HM.out.below hb1)
  have lW:=hide (lW.out.below hb1)
  have lY:=hide (fun h A=>(lY.out h A).below hb1)
  clear gG hb1 HM
  go_wp2_with fail
  ·refine(HJ.out (some ⟨g,0,none⟩) (n - 1) (0) w1 (lY.out (by omega) _) (by omega) (by omega)).mono ?_
   rintro e w2 ⟨rfl,hb2⟩
   have HB2:=hide (HB1.out.trans (hb2.mono HB1.out.size))
   have nS:=hide (nE.out.below hb2)
   clear lY lW HJ hb2 nE HB1
   go_wp2_with fail
   refine(nD.out _ nS.out).mono ?_
   rintro e w3 ⟨rfl,hb3⟩
   have HB3:=hide ((HB2.out.trans (hb3.mono HB2.out.size)))
   have qH:R≤w3.heap.size:=by have:=HB3.out.size;omega
   clear nD nS HB2 hb3
   rcases HE.out with rfl | rfl | rfl
   ·obtain⟨M,hM⟩:∃M,w3.heap.size=M:=⟨_,rfl⟩
    have ak:=hide (HB3.out.alloc (Nat.le_trans HB3.out.size (Nat.le_refl _)) (.cells #[.int .u16 (ms:Int),.int .u16 (md:Int),.int .u8 (mp:Int),.int .u8 (mq:Int)] 61))
    have bC:=hide (Bx.new w3 #[.int .u16 (ms:Int),.int .u16 (md:Int),.int .u8 (mp:Int),.int .u8 (mq:Int)] 61)
    have Ew:(w3.alloc (.cells #[.int .u16 (ms:Int),.int .u16 (md:Int),.int .u8 (mp:Int),.int .u8 (mq:Int)] 61)).heap.size =M+1:=by simp[hM]
    rw[hM]at bC qH
    have hn0:(0:Int)<(n:Int):=by omega
    have hn1:0<n:=by omega
    have Ey:=hide (HF.out rfl)
    clear bP HF HE lW lY
    go_wp2_with fail
    generalize World.alloc w3 _=w4 at*
    have HS:=hide (fun(w':World) (h:Below w4.heap.size w4 w')=>show w'.cell? ⟨gd,k*7+5,none⟩=some (.slice x0.rA x0.rn x0.rc)∧w'.cell? ⟨g,0,none⟩=some (.string ⟨x.toArray⟩)∧w'.cell? ⟨M,0,none⟩=some (.int .u16 (ms:Int))∧w'.cell? ⟨M,1,none⟩=some (.int .u16 (md:Int))∧w'.cell? ⟨M,2,none⟩=some (.int .u8 (mp:Int))∧w'.cell? ⟨M,3,none⟩=some (.int .u8 (mq:Int))from
     ⟨(HQ.out w' (ak.out.trans (h.mono ak.out.size))).1,(HQ.out w' (ak.out.trans (h.mono ak.out.size))).2.1,(bC.out.below h).get 0 _ rfl,(bC.out.below h).get 1 _ rfl,(bC.out.below h).get 2 _ rfl,(bC.out.below h).get 3 _ rfl⟩)
    refine dz (fun w'=>w'.cell? ⟨gd,k*7+5,none⟩=some (.slice x0.rA x0.rn x0.rc)∧w'.cell? ⟨g,0,none⟩=some (.string ⟨x.toArray⟩)∧w'.cell? ⟨M,0,none⟩=some (.int .u16 (ms:Int))∧w'.cell? ⟨M,1,none⟩=some (.int .u16 (md:Int))∧w'.cell? ⟨M,2,none⟩=some (.int .u8 (mp:Int))∧w'.cell? ⟨M,3,none⟩=some (.int .u8 (mq:Int))) 12 (by kernel_rfl) (HS.out _ (Below.refl _ _).drew) (fun hS inv=>?_)
    have bH:=hide (ak.out.drew)
    have Bh:=hide (show Below w4.heap.size w4 w4.drew from(Below.refl _ _).drew)
    have hsz5:w4.drew.heap.size=M+1:=Ew
    generalize World.drew w4=wd at*
    revert inv
    refine rP 0 hS ?_
    refine rP 1 hS ?_
    refine rP 2 hS ?_
    refine rP 3 hS ?_
    refine rL 4 [12] rfl hS (by intro w hSw;obtain⟨s0,s1,s2,s3,s4,s5⟩:=hSw;go_simp;try with_reducible rfl) ?_
    refine rP 5 hS ?_
    refine rP 6 hS ?_
    refine rL 7 [8,10,11,12] rfl hS (by intro w hSw;obtain⟨s0,s1,s2,s3,s4,s5⟩:=hSw;go_simp;try with_reducible rfl) ?_
    refine rP 8 hS ?_
    refine rL 9 [10,11,12] rfl hS (by intro w hSw;obtain⟨s0,s1,s2,s3,s4,s5⟩:=hSw;go_simp;try with_reducible rfl) ?_
    refine rP 10 hS ?_
    intro inv
    refine rO 11 inv fun K hK=>?_
    go_simp
    have aD:=below_alloc2 wd (.cells #[.bool b,.int .u16 (ms:Int),.int .u16 (md:Int),.int .u8 (mp:Int),.int .u8 (mq:Int)] 63)
    have dh:=hide (Bx.new wd #[.bool b,.int .u16 (ms:Int),.int .u16 (md:Int),.int .u8 (mp:Int),.int .u8 (mq:Int)] 63)
    have fJ:=hide (HS.out _ (Bh.out.trans (aD.mono (by omega))))
    have bZ:=hide (bH.out.trans (aD.mono bH.out.size))
    have lg:(wd.alloc (.cells #[.bool b,.int .u16 (ms:Int),.int .u16 (md:Int),.int .u8 (mp:Int),.int .u8 (mq:Int)] 63)).heap.size =M+2:=by simp;omega
    rw[hsz5]at dh
    clear aD bH Bh hS
    generalize World.alloc wd _=aM at*
    have hS:=fJ.out
    refine hK.out _ _ (fun _=>hS) ?_
    clear hK K hS inv
    intro inv
    try simp only[Act.put,aJ,aK,aL]
    refine rT 12 inv fun K hK=>?_
    rw[if_pos (by rfl)]
    obtain⟨i0,hi0,hz0,hz1,hz2⟩:=info_parts Tryd.infoRule
    have hxm:x0∈ds0++[x0]:=List.mem_append_right _ (List.mem_singleton.2 rfl)
    have aF:=hide (rU.out.below bZ.out)
    have H7:W.heap.size≤M:=by have:=HB3.out.size;omega
    have H8:R+1≤M:=by omega
    refine bG _ (.tmp 27) (.tmp 34) 34 rfl (R+1) 63 i0 _ 5 8 Tryd.underlying34 hi0 hz0 hz1 hz2 rfl (by omega) (.slice x0.rA x0.rn x0.rc) x0.rn (x0.rs.flatMap aW.cells) rfl (aF.out.r x0 hxm).1 (M+2) (some ⟨M+1,0,none⟩) 1 1 (aW.cells ⟨b,⟨ms,md,mp,mq⟩⟩) (by simp[Act.eval,Act.put,hsz5]) ⟨rfl,fun _=>⟨_,rfl,Nat.lt_succ_self _,fun j' u hu=>by
     rw[addr_add,Nat.zero_add]
     exact dh.out.get j' u (by simpa[aW.cells]using hu)⟩⟩ (aW.one _) (by simp only[maxLen];omega) (by omega) (by omega) ?_
    intro v9 w9 aP aV eF
    obtain⟨g9,c9,rfl,_⟩:=aP.form (by omega)
    have wT:(Value.slice x0.rA x0.rn x0.rc).ownBlock ≠some gd:=l9 aF.out.d (aF.out.r x0 hxm).1 (by decide) rfl
    have d9:=hide (aF.out.wR FR.out aP aV eF)
    have aT:=hide (show Bx w9 R #[.slice (some ⟨gd,0,none⟩) (k+1) cd,L,.bool false] 41 from(iJ.out.below bZ.out).same (bJ aV (by omega) (fun e=>by have:=((aF.out.r x0 hxm).1.lt _ e).1;omega)))
    have eH:=hide (show Below R W w9 from(bZ.out.mono (by omega)).grown aV (by omega) (fun q hq=>by have:=((aF.out.r x0 hxm).1.lt _ hq).1;omega))
    have s0:w9.cell? ⟨gd,k*7+5,none⟩=some (.slice x0.rA x0.rn x0.rc):=(World.cell?_of_block (a:=⟨gd,k*7+5,none⟩) (bJ aV (by show gd<_;omega) wT)).trans fJ.out.1
    have f0:w9.frozen? ⟨gd,k*7+5,none⟩=false:=(bQ aF.out.d (aF.out.r x0 hxm).1 (by decide) aV).frozenAt _
    clear aP aV eF aF
    refine hK.out _ _ ?_
    clear hK K inv
    intro inv
    try simp only[Act.put,aJ,aK,aL]
    refine rT 13 inv fun K hK=>?_
    go_simp
    refine hK.out _ _ ?_
    clear hK K inv
    intro inv
    try simp only[Act.put,aJ,aK,aL]
    refine rT 14 inv fun K hK=>?_
    go_simp
    refine hK.out _ _ ?_
    clear hK K inv
    intro inv
    try simp only[Act.put,aJ,aK,aL]
    refine rT 15 inv fun K hK=>?_
    go_simp
    refine hK.out _ _ ?_
    clear hK K inv
    intro inv
    try simp only[Act.put,aJ,aK,aL]
    refine rD ?_
    clear inv
    clear s0 f0
    rw[hk]at d9
    generalize hW:World.setCell w9 _ _=nT at*
    go_wp2_with fail
    go_ret
    refine⟨?_,.inr ⟨_,Ey.out,rfl,_,_,_,?_,d9.out,by simp[ah.dev]⟩⟩
    ·rw[← hW];exact eH.out.setCell (by show R≤gd;omega) _
    ·rw[← hW,hlen,hk]
     exact(aT.out.far _ _ (by show R≠gd;omega))
   ·have HF:=hide (bP.out (.inl (by omega)))
    go_wp2_with fail
    go_ret
    exact⟨(HB3.out.mono (by omega)).alloc qH _,.inl ⟨HF.out,rfl⟩⟩
   ·have HF:=hide (bP.out (.inl (by omega)))
    go_wp2_with fail
    go_ret
    exact⟨(HB3.out.mono (by omega)).alloc qH _,.inl ⟨HF.out,rfl⟩⟩
  ·refine(HJ.out (some ⟨g,1,none⟩) (n - 1) (cap - 1) w1 (lW.out) (by omega) (by omega)).mono ?_
   rintro e w2 ⟨rfl,hb2⟩
   have HB2:=hide (HB1.out.trans (hb2.mono HB1.out.size))
   have nS:=hide (nE.out.below hb2)
   clear lY lW HJ hb2 nE HB1
   go_wp2_with fail
   refine(nD.out _ nS.out).mono ?_
   rintro e w3 ⟨rfl,hb3⟩
   have HB3:=hide ((HB2.out.trans (hb3.mono HB2.out.size)))
   have qH:R≤w3.heap.size:=by have:=HB3.out.size;omega
   clear nD nS HB2 hb3
   rcases HE.out with rfl | rfl | rfl
   ·obtain⟨M,hM⟩:∃M,w3.heap.size=M:=⟨_,rfl⟩
    have ak:=hide (HB3.out.alloc (Nat.le_trans HB3.out.size (Nat.le_refl _)) (.cells #[.int .u16 (ms:Int),.int .u16 (md:Int),.int .u8 (mp:Int),.int .u8 (mq:Int)] 61))
    have bC:=hide (Bx.new w3 #[.int .u16 (ms:Int),.int .u16 (md:Int),.int .u8 (mp:Int),.int .u8 (mq:Int)] 61)
    have Ew:(w3.alloc (.cells #[.int .u16 (ms:Int),.int .u16 (md:Int),.int .u8 (mp:Int),.int .u8 (mq:Int)] 61)).heap.size =M+1:=by simp[hM]
    rw[hM]at bC qH
    have hn0:(0:Int)<(n:Int):=by omega
    have hn1:0<n:=by omega
    have Ey:=hide (HF.out rfl)
    clear bP HF HE lW lY
    go_wp2_with fail
    generalize World.alloc w3 _=w4 at*
    have HS:=hide (fun(w':World) (h:Below w4.heap.size w4 w')=>show w'.cell? ⟨gd,k*7+5,none⟩=some (.slice x0.rA x0.rn x0.rc)∧w'.cell? ⟨g,0,none⟩=some (.string ⟨x.toArray⟩)∧w'.cell? ⟨M,0,none⟩=some (.int .u16 (ms:Int))∧w'.cell? ⟨M,1,none⟩=some (.int .u16 (md:Int))∧w'.cell? ⟨M,2,none⟩=some (.int .u8 (mp:Int))∧w'.cell? ⟨M,3,none⟩=some (.int .u8 (mq:Int))from
     ⟨(HQ.out w' (ak.out.trans (h.mono ak.out.size))).1,(HQ.out w' (ak.out.trans (h.mono ak.out.size))).2.1,(bC.out.below h).get 0 _ rfl,(bC.out.below h).get 1 _ rfl,(bC.out.below h).get 2 _ rfl,(bC.out.below h).get 3 _ rfl⟩)
    refine dz (fun w'=>w'.cell? ⟨gd,k*7+5,none⟩=some (.slice x0.rA x0.rn x0.rc)∧w'.cell? ⟨g,0,none⟩=some (.string ⟨x.toArray⟩)∧w'.cell? ⟨M,0,none⟩=some (.int .u16 (ms:Int))∧w'.cell? ⟨M,1,none⟩=some (.int .u16 (md:Int))∧w'.cell? ⟨M,2,none⟩=some (.int .u8 (mp:Int))∧w'.cell? ⟨M,3,none⟩=some (.int .u8 (mq:Int))) 12 (by kernel_rfl) (HS.out _ (Below.refl _ _).drew) (fun hS inv=>?_)
    have bH:=hide (ak.out.drew)
    have Bh:=hide (show Below w4.heap.size w4 w4.drew from(Below.refl _ _).drew)
    have hsz5:w4.drew.heap.size=M+1:=Ew
    generalize World.drew w4=wd at*
    revert inv
    refine rP 0 hS ?_
    refine rP 1 hS ?_
    refine rP 2 hS ?_
    refine rP 3 hS ?_
    refine rL 4 [12] rfl hS (by intro w hSw;obtain⟨s0,s1,s2,s3,s4,s5⟩:=hSw;go_simp;try with_reducible rfl) ?_
    refine rP 5 hS ?_
    refine rP 6 hS ?_
    refine rL 7 [8,10,11,12] rfl hS (by intro w hSw;obtain⟨s0,s1,s2,s3,s4,s5⟩:=hSw;go_simp;try with_reducible rfl) ?_
    refine rP 8 hS ?_
    refine rL 9 [10,11,12] rfl hS (by intro w hSw;obtain⟨s0,s1,s2,s3,s4,s5⟩:=hSw;go_simp;try with_reducible rfl) ?_
    refine rP 10 hS ?_
    intro inv
    refine rO 11 inv fun K hK=>?_
    go_simp
    have aD:=below_alloc2 wd (.cells #[.bool b,.int .u16 (ms:Int),.int .u16 (md:Int),.int .u8 (mp:Int),.int .u8 (mq:Int)] 63)
    have dh:=hide (Bx.new wd #[.bool b,.int .u16 (ms:Int),.int .u16 (md:Int),.int .u8 (mp:Int),.int .u8 (mq:Int)] 63)
    have fJ:=hide (HS.out _ (Bh.out.trans (aD.mono (by omega))))
    have bZ:=hide (bH.out.trans (aD.mono bH.out.size))
    have lg:(wd.alloc (.cells #[.bool b,.int .u16 (ms:Int),.int .u16 (md:Int),.int .u8 (mp:Int),.int .u8 (mq:Int)] 63)).heap.size =M+2:=by simp;omega
    rw[hsz5]at dh
    clear aD bH Bh hS
    generalize World.alloc wd _=aM at*
    have hS:=fJ.out
    refine hK.out _ _ (fun _=>hS) ?_
    clear hK K hS inv
    intro inv
    try simp only[Act.put,aJ,aK,aL]
    refine rT 12 inv fun K hK=>?_
    rw[if_pos (by rfl)]
    obtain⟨i0,hi0,hz0,hz1,hz2⟩:=info_parts Tryd.infoRule
    have hxm:x0∈ds0++[x0]:=List.mem_append_right _ (List.mem_singleton.2 rfl)
    have aF:=hide (rU.out.below bZ.out)
    have H7:W.heap.size≤M:=by have:=HB3.out.size;omega
    have H8:R+1≤M:=by omega
    refine bG _ (.tmp 27) (.tmp 34) 34 rfl (R+1) 63 i0 _ 5 8 Tryd.underlying34 hi0 hz0 hz1 hz2 rfl (by omega) (.slice x0.rA x0.rn x0.rc) x0.rn (x0.rs.flatMap aW.cells) rfl (aF.out.r x0 hxm).1 (M+2) (some ⟨M+1,0,none⟩) 1 1 (aW.cells ⟨b,⟨ms,md,mp,mq⟩⟩) (by simp[Act.eval,Act.put,hsz5]) ⟨rfl,fun _=>⟨_,rfl,Nat.lt_succ_self _,fun j' u hu=>by
     rw[addr_add,Nat.zero_add]
     exact dh.out.get j' u (by simpa[aW.cells]using hu)⟩⟩ (aW.one _) (by simp only[maxLen];omega) (by omega) (by omega) ?_
    intro v9 w9 aP aV eF
    obtain⟨g9,c9,rfl,_⟩:=aP.form (by omega)
    have wT:(Value.slice x0.rA x0.rn x0.rc).ownBlock ≠some gd:=l9 aF.out.d (aF.out.r x0 hxm).1 (by decide) rfl
    have d9:=hide (aF.out.wR FR.out aP aV eF)
    have aT:=hide (show Bx w9 R #[.slice (some ⟨gd,0,none⟩) (k+1) cd,L,.bool false] 41 from(iJ.out.below bZ.out).same (bJ aV (by omega) (fun e=>by have:=((aF.out.r x0 hxm).1.lt _ e).1;omega)))
    have eH:=hide (show Below R W w9 from(bZ.out.mono (by omega)).grown aV (by omega) (fun q hq=>by have:=((aF.out.r x0 hxm).1.lt _ hq).1;omega))
    have s0:w9.cell? ⟨gd,k*7+5,none⟩=some (.slice x0.rA x0.rn x0.rc):=(World.cell?_of_block (a:=⟨gd,k*7+5,none⟩) (bJ aV (by show gd<_;omega) wT)).trans fJ.out.1
    have f0:w9.frozen? ⟨gd,k*7+5,none⟩=false:=(bQ aF.out.d (aF.out.r x0 hxm).1 (by decide) aV).frozenAt _
    clear aP aV eF aF
    refine hK.out _ _ ?_
    clear hK K inv
    intro inv
    try simp only[Act.put,aJ,aK,aL]
    refine rT 13 inv fun K hK=>?_
    go_simp
    refine hK.out _ _ ?_
    clear hK K inv
    intro inv
    try simp only[Act.put,aJ,aK,aL]
    refine rT 14 inv fun K hK=>?_
    go_simp
    refine hK.out _ _ ?_
    clear hK K inv
    intro inv
    try simp only[Act.put,aJ,aK,aL]
    refine rT 15 inv fun K hK=>?_
    go_simp
    refine hK.out _ _ ?_
    clear hK K inv
    intro inv
    try simp only[Act.put,aJ,aK,aL]
    refine rD ?_
    clear inv
    clear s0 f0
    rw[hk]at d9
    generalize hW:World.setCell w9 _ _=nT at*
    go_wp2_with fail
    go_ret
    refine⟨?_,.inr ⟨_,Ey.out,rfl,_,_,_,?_,d9.out,by simp[ah.dev]⟩⟩
    ·rw[← hW];exact eH.out.setCell (by show R≤gd;omega) _
    ·rw[← hW,hlen,hk]
     exact(aT.out.far _ _ (by show R≠gd;omega))
   ·have HF:=hide (bP.out (.inl (by omega)))
    go_wp2_with fail
    go_ret
    exact⟨(HB3.out.mono (by omega)).alloc qH _,.inl ⟨HF.out,rfl⟩⟩
   ·have HF:=hide (bP.out (.inl (by omega)))
    go_wp2_with fail
    go_ret
    exact⟨(HB3.out.mono (by omega)).alloc qH _,.inl ⟨HF.out,rfl⟩⟩
theorem yL (S:dH) (vb p:List UInt8):fQ S [vb,p]=if(decide (0≤aH (cZ 47 vb).1 100) && decide (0≤aH (cZ 47 vb).2 100) && decide (0≤aH p 100))=true then jH S (fun d=>{ d with routes:=d.routes++[⟨aH (cZ 47 vb).1 100,aH (cZ 47 vb).2 100,aH p 100⟩] })else none:=by
 by_cases h:47∈vb
 ·obtain⟨u,v,rfl,hu⟩:=iE h
  rw[oK 47 u v hu]
  by_cases hv:47∈v
  ·have h1:aH v 100= -1:=Cj hv (by decide)
   rw[if_neg (by rw[h1];simp)]
   obtain⟨x,y,rfl,hx⟩:=iE hv
   have h2:=jR 47 y
   cases hc:pieces 47 y with
   |nil=>rw[hc]at h2;simp at h2
   |cons c t=>
    simp only[fQ,gI 47 u _ hu,gI 47 x y hx,hc]
  ·simp only[fQ,gI 47 u v hu,pieces_eq 47 v hv,Bool.and_eq_true,decide_eq_true_eq,and_assoc]
 ·rw[ng 47 vb h,if_neg (by simp[Ci])]
  simp only[fQ,pieces_eq 47 vb h]
theorem yM (S:dH) (ws:List (List UInt8)) (h:S.ds=[]∨S.ls≠[]):fQ S ws=none:=by
 unfold fQ
 split
 ·split
  ·split
   ·exact tF h
   ·rfl
  ·rfl
 ·rfl
theorem yN (S:dH) (ws:List (List UInt8)) (h:ws.length≠2):fQ S ws=none:=by
 unfold fQ
 split
 ·exact absurd rfl h
 ·rfl
theorem yO (R:Nat) (S:dH) (x:List UInt8) (rest:List (List UInt8)) (base g n cap:Nat) (W:World) (hm:dF W) (hR:kY iZ 41 W R S) (hS:dO S 10000) (hw:bR W base g n cap (x::rest)) (hwo:mF (x::rest)) (hgR:R<g):
  Calls Tryd.prog 29 #[.pointer (some ⟨R,0,none⟩),.slice (some ⟨g,0,none⟩) n cap] W (kZ iZ 41 R (fQ S rest) W):=by
 obtain⟨ds,V,L,hbx,dQ,hds⟩:=hR
 have hn:=hw.len
 simp only[List.length_cons]at hn
 have hcap:=(jJ hw.own)
 have qF:=hwo.len
 simp only[List.length_cons]at qF
 have hRl:=hbx.lt
 have hgl:=hw.lt.2
 have HM:=hide hm
 have dP:Bx W R #[V,L,.bool (!S.ls.isEmpty)] 41:=hbx
 clear hbx
 by_cases hbad:S.ds=[]∨S.ls≠[]
 ·have HF:=hide (yM S rest hbad)
  have gG:Hid (Calls Tryd.prog 57 #[.pointer (some ⟨R,0,none⟩)] W fun e W'=>e= .returned (.pointer none)∧W=W'):=by
   obtain⟨A,c,rfl,_⟩:=bN.jZ ah.len dQ.d rfl
   refine hide (vk R _ A _ c L W dP ?_ (by have:=hS.d;rw[← hds,List.length_map]at this;omega))
   rcases hbad with h | h
   ·left;rw[h]at hds;simpa using hds
   ·right;simpa using h
  clear dQ dP hds hS hwo hw hm hbad
  go_enter Tryd.func29,Tryd.ntmps29
  go_wp2_with fail
  refine gG.out.mono ?_
  rintro e w1 ⟨rfl,rfl⟩
  clear gG
  go_wp2_with fail
  go_ret
  exact⟨Below.refl _ _,.inl ⟨HF.out,rfl⟩⟩
 have hls:S.ls=[]:=by
  by_cases h:S.ls=[]
  ·exact h
  ·exact absurd (Or.inr h) hbad
 rcases uI hds with⟨_,h1,_⟩ | ⟨ds0,x0,rfl,h2,h3,hxm⟩
 ·exact absurd (Or.inl h1) hbad
 have uK:x0∈ds0++[x0]:=List.mem_append_right _ (List.mem_singleton.2 rfl)
 obtain⟨gd,cd,rfl,_⟩:=dQ.d.form (by simp)
 have hlen:(ds0++[x0]).length =ds0.length+1:=by simp
 obtain⟨k,hk⟩:∃k,ds0.length=k:=⟨_,rfl⟩
 have H6:k≤9999:=by have:=hS.d;rw[← hds,List.length_map,hlen,hk]at this;omega
 rw[hls]at dQ
 have qI:Bx W R #[.slice (some ⟨gd,0,none⟩) (k+1) cd,L,.bool false] 41:=by
  rw[hlen,hk]at dP
  rw[hls]at dP
  exact dP
 have gG:=hide (vo R gd k cd L W qI (by omega))
 by_cases H9:n=3
 case neg=>
  have HF:=hide (yN S rest (by omega))
  have d3:((n:Int)==3)=false:=by simp;omega
  have d4:((n:Int) != 3)=true:=by simp;omega
  clear dQ dP hds hS hwo hw hm hbad h2 h3 hls hxm uK qI
  go_enter Tryd.func29,Tryd.ntmps29
  go_wp2_with fail
  refine gG.out.mono ?_
  rintro e w1 ⟨rfl,hb1⟩
  clear gG
  go_wp2_with fail
  go_ret
  exact⟨hb1.mono (by omega),.inl ⟨HF.out,rfl⟩⟩
 case pos=>
 subst H9
 obtain⟨vb,rest,rfl⟩:∃a t,rest=a::t:=by
  cases rest with
  |nil=>simp at hn
  |cons a t=>exact⟨a,t,rfl⟩
 obtain⟨p,rfl⟩:∃a,rest=[a]:=by
  cases rest with
  |nil=>simp at hn
  |cons a t=>
   cases t with
   |nil=>exact⟨a,rfl⟩
   |cons c u=>simp only[List.length_cons]at hn;omega
 have hvl:vb.length≤5000:=hwo.each vb (by simp)
 have hpl:p.length≤5000:=hwo.each p (by simp)
 have nU:=hide (yL S vb p)
 have zq:=hide (fun w (h:dF w)=>pI ⟨vb.toArray⟩ 47 w (by show vb.toArray.size≤_;rw[List.size_toArray];omega) h)
 obtain⟨X,hX⟩:∃X,(cZ 47 vb).1=X:=⟨_,rfl⟩
 obtain⟨Y,hY⟩:∃Y,(cZ 47 vb).2=Y:=⟨_,rfl⟩
 have HC:=hide (fun w (h:dF w)=>(zq.out w h).mono (fun e w' h=>show e= .returned (.tuple #[.string ⟨X.toArray⟩,.string ⟨Y.toArray⟩,.bool (decide (47∈vb))])∧Below w.heap.size w w' from by rw[← hX,← hY];exact h))
 rw[hX,hY]at nU
 have hA:=kJ X 100
 have hA':=gy X 100
 have hB:=kJ Y 100
 have hB':=gy Y 100
 have hP:=kJ p 100
 have hP':=gy p 100
 have HX:=hide (fun w=>eD X w)
 have HY:=hide (fun w=>eD Y w)
 have HP:=hide (fun w=>eD p w)
 obtain⟨a,ha⟩:∃a,aH X 100=a:=⟨_,rfl⟩
 obtain⟨b,hb⟩:∃a,aH Y 100=a:=⟨_,rfl⟩
 obtain⟨c,hc⟩:∃a,aH p 100=a:=⟨_,rfl⟩
 simp only[ha,hb,hc]at HX HY HP nU hA hA' hB hB' hP hP'
 have hro:(⟨a,b,c⟩:aI).ok :=by
  refine⟨?_,?_,?_⟩
  ·show bB a;unfold bB;omega
  ·show bB b;unfold bB;omega
  ·show bB c;unfold bB;omega
 rw[rR hls h2 h3]at nU
 obtain⟨oa,hoa⟩:∃oa,decide (0≤a)=oa:=⟨_,rfl⟩
 obtain⟨ob,vv⟩:∃oa,decide (0≤b)=oa:=⟨_,rfl⟩
 obtain⟨oc,hoc⟩:∃oa,decide (0≤c)=oa:=⟨_,rfl⟩
 obtain⟨od,hod⟩:∃oa,decide (47∈vb)=oa:=⟨_,rfl⟩
 simp only[hoa,vv,hoc,hod]at HX HY HP nU HC
 obtain⟨r,hr⟩:∃r,fQ S [vb,p]=r:=⟨_,rfl⟩
 rw[hr]at nU ⊢
 clear hX hY ha hb hc hoa vv hoc hod hr zq hA hA' hB hB' hP hP'
 have htn:x0.ts.length≤10000:=hS.t _ hxm
 have htl:=(dQ.t x0 uK).2
 have hgd:=dQ.d.lt gd rfl
 have hxc:W.cell? ⟨gd,k*7+6,none⟩=some (.slice x0.tA x0.tn x0.tc):=by
  have:=dQ.d.cells (g:=gd) rfl (k*7+6) (.slice x0.tA x0.tn x0.tc) (flat_get ah.len _ k x0 6 _ (by rw[← hk,List.getElem?_append_right (Nat.le_refl _),Nat.sub_self];rfl) rfl)
  rwa [addr_add,Nat.zero_add]at this
 have hfz:W.frozen? ⟨gd,k*7+6,none⟩=false:=dQ.d.frozenAt _
 have rU:=hide dQ
 have iJ:=hide qI
 have Ez:W.cell? ⟨g,1,none⟩=some (.string ⟨vb.toArray⟩):=hw.get (k:=1) rfl
 have EA:W.cell? ⟨g,2,none⟩=some (.string ⟨p.toArray⟩):=hw.get (k:=2) rfl
 have HQ:=hide (fun(w':World) (hb:Below W.heap.size W w')=>show w'.cell? ⟨gd,k*7+6,none⟩=some (.slice x0.tA x0.tn x0.tc)∧w'.cell? ⟨g,1,none⟩=some (.string ⟨vb.toArray⟩)∧w'.cell? ⟨g,2,none⟩=some (.string ⟨p.toArray⟩)from
  ⟨(hb.cell (p:=⟨gd,k*7+6,none⟩) hgd.2).trans hxc,(hb.cell (p:=⟨g,1,none⟩) hgl).trans Ez,(hb.cell (p:=⟨g,2,none⟩) hgl).trans EA⟩)
 clear dQ dP qI hds hS hwo hw hm hbad hxc Ez EA hfz h2 h3 hls hxm
 obtain⟨i0,hi0,hz0,hz1,hz2⟩:=info_parts Tryd.infoRoute
 go_enter Tryd.func29,Tryd.ntmps29
 go_wp2_with fail
 refine gG.out.mono ?_
 rintro e w1 ⟨rfl,hb1⟩
 have nE:=hide (HM.out.below hb1)
 obtain⟨p0,p1,p2⟩:=HQ.out w1 hb1
 clear gG HM
 go_wp2_with fail
 refine(HC.out _ nE.out).mono ?_
 rintro e w2 ⟨rfl,hb2⟩
 have HB2:=hide (hb1.trans (hb2.mono hb1.size))
 clear hb1 hb2 nE HC p0 p1 p2
 obtain⟨p0,p1,p2⟩:=HQ.out w2 HB2.out
 have hW2:=HB2.out.size
 go_wp2_with fail
 refine(HX.out _).mono ?_
 rintro e w3 ⟨rfl,rfl⟩
 clear HX
 go_wp2_with fail
 refine(HY.out _).mono ?_
 rintro e w3 ⟨rfl,rfl⟩
 clear HY
 go_wp2_with fail
 refine(HP.out _).mono ?_
 rintro e w3 ⟨rfl,rfl⟩
 clear HP
 have fT:=hide (show Reads (w2.alloc (.cells #[.int .i64 a,.int .i64 b,.int .i64 c] 66)) (w2.heap.size+1) 3 (some ⟨w2.heap.size,0,none⟩) 1 (aI.cells ⟨a,b,c⟩)from
  ⟨rfl,fun _=>⟨_,rfl,Nat.lt_succ_self _,fun j u hu=>by
   rw[addr_add,Nat.zero_add,cell_of_row _ _ _ _ _ _ (heap_alloc_new w2 _)]
   simpa[aI.cells]using hu⟩⟩)
 have ak:=hide (HB2.out.alloc HB2.out.size (.cells #[.int .i64 a,.int .i64 b,.int .i64 c] 66))
 have qJ:=hide (rU.out.below ak.out)
 have Jt:R+1≤w2.heap.size:=by omega
 have HT:=hide (qJ.out.t x0 uK)
 have h10:x0.tn+1≤10001:=by omega
 go_wp2_with (at_builtin;refine aY _ rfl (.tmp 53) (.tmp 58) 35 rfl (R+1) 66 i0 _ 3 24 Tryd.underlying35 hi0 hz0 hz1 hz2 rfl (by omega) (.slice x0.tA x0.tn x0.tc) x0.tn (x0.ts.flatMap aI.cells) rfl HT.out.1 (w2.heap.size+1) (some ⟨w2.heap.size,0,none⟩) 1 1 (aI.cells ⟨a,b,c⟩) rfl fT.out (aI.one _) (by simp only[maxLen];omega) (by omega) (by simp;omega) ?_;intro v9 w9 aP aV eF;obtain⟨g9,c9,rfl,_⟩:=aP.form (by omega);have wT:(Value.slice x0.tA x0.tn x0.tc).ownBlock ≠some gd:=l9 qJ.out.d HT.out.1 (by decide) rfl;have d9:=hide (qJ.out.Bg hro aP aV eF);have aT:=hide (show Bx w9 R #[.slice (some ⟨gd,0,none⟩) (k+1) cd,L,.bool false] 41 from(iJ.out.below ak.out).same (bJ aV (by simp;omega) (fun e=>by have:=(HT.out.1.lt _ e).1;omega)));have eH:=hide (show Below R W w9 from(ak.out.mono (by omega)).grown aV (by simp;omega) (fun q hq=>by have:=(HT.out.1.lt _ hq).1;omega));have s0:w9.cell? ⟨gd,k*7+6,none⟩=some (.slice x0.tA x0.tn x0.tc):=(World.cell?_of_block (a:=⟨gd,k*7+6,none⟩) (bJ aV (by show gd<_;simp;omega) wT)).trans (HQ.out _ ak.out).1;have f0:w9.frozen? ⟨gd,k*7+6,none⟩=false:=(bQ qJ.out.d HT.out.1 (by decide) aV).frozenAt _;clear aP aV eF)
 all_goals
  have eO:=hide (eH.out.setCell (p:=⟨gd,k*7+6,none⟩) (by show R≤gd;omega) (.slice (some ⟨g9,0,none⟩) (x0.tn+1) c9))
  rw[hk]at d9
  clear HQ qJ ak HT s0 f0
  go_ret
 ·rename_i h1 h2
  subst h1 h2
  cases oc with
  |true=>
   refine⟨eO.out,.inr ⟨_,by rw[nU.out];rfl,rfl,_,_,_,?_,d9.out,by simp[ah.dev]⟩⟩
   rw[hlen,hk]
   exact(aT.out.far _ _ (by show R≠gd;omega))
  |false=>exact⟨eO.out,.inl ⟨by rw[nU.out];rfl,rfl⟩⟩
 ·rename_i h1 h2
  subst h1
  have h2:ob=false:=by simpa using h2
  subst h2
  exact⟨eO.out,.inl ⟨by rw[nU.out];rfl,rfl⟩⟩
 ·rename_i h1
  have h1:oa=false:=by simpa using h1
  subst h1
  exact⟨eO.out,.inl ⟨by rw[nU.out];rfl,rfl⟩⟩
theorem yP (x:ah) (nm:ByteArray) (k:Nat) (w:World) (hk:k<w.heap.size) (h0:w.cell? ⟨k,0,none⟩=some (.string nm)):
  Calls Tryd.prog 63 (#[x.val]++#[.pointer (some ⟨k,0,none⟩)]) w fun e W'=>e= .returned (.bool (eG x.name nm))∧Below w.heap.size w W':=by
 have hne:k≠w.heap.size:=by omega
 obtain⟨xn,xk,xa,xp,bA,bn,bc,bs,rA,rn,rc,rs,tA,tn,tc,ts⟩:=x
 show Calls Tryd.prog 63 #[.agg #[.string xn,.int .i64 xk,.int .i64 xa,.int .u8 xp,.slice bA bn bc,.slice rA rn rc,.slice tA tn tc],.pointer (some ⟨k,0,none⟩)] w _
 have HB:=hide (fun o=>show Below w.heap.size w (w.alloc o)from(Below.refl _ _).alloc (Nat.le_refl _) _)
 by_cases e:xn.toList=nm.toList
 all_goals
  go_enter Tryd.func63,Tryd.ntmps63
  go_wp2
  go_ret
  exact⟨fU (by simp[eG,e]),HB.out _⟩
theorem vY (ds:List ah) (A:Option Addr) (n c C R:Nat) (nm:ByteArray) (w:World) (hn:n≤100000) (hl:bN ah.cells 7 w w.heap.size A n ds) (hC:w.cell? ⟨C,0,none⟩=some (.pointer (some ⟨R,0,none⟩))) (hR:w.cell? ⟨R,0,none⟩=some (.slice A n c)) (Ju:C<w.heap.size) (hRl:R<w.heap.size):
  Calls Tryd.prog 61 (#[.string nm]++#[.pointer (some ⟨C,0,none⟩)]) w fun e W'=>e= .returned (.int .i64 (iD (fun x:ah=>eG x.name nm) ds))∧Below w.heap.size w W':=by
 have hne:C≠w.heap.size:=by omega
 have hne2:R≠w.heap.size:=by omega
 have HB:=hide (show Below w.heap.size w (w.alloc (.cells #[.string nm] 9))from(Below.refl _ _).alloc (Nat.le_refl _) _)
 have HX:=hide (Bx.new w #[.string nm] 9)
 have Dt:=hide (nG ds A n c 63 #[.pointer (some ⟨w.heap.size,0,none⟩)] (fun x=>eG x.name nm) (w.alloc (.cells #[.string nm] 9)) (by omega) (hl.below HB.out HB.out.size) (fun args w=>by go_simp) (hide (fun r w' hr hw=>yP r nm w.heap.size w' (by have:=hw.size;simp at this;omega) ((HX.out.below hw).get 0 _ rfl))))
 clear hl
 show Calls Tryd.prog 61 #[.string nm,.pointer (some ⟨C,0,none⟩)] w _
 go_enter Tryd.func61,Tryd.ntmps61
 go_wp2_with fail
 refine Dt.out.mono ?_
 rintro e w2 ⟨rfl,hb⟩
 go_wp2_with fail
 go_ret
 exact⟨rfl,HB.out.trans (hb.mono HB.out.size)⟩
theorem Cq (ds:List ah) (nm:List UInt8):jd (ds.map ah.dev) nm=iD (fun x:ah=>eG x.name ⟨nm.toArray⟩) ds:=by
 unfold jd iD
 rw[List.findIdx?_map]
 rfl
theorem zu (ds:List Dev) (nm:List UInt8): -1≤jd ds nm∧jd ds nm<ds.length∨jd ds nm= -1:=by
 unfold jd
 rcases mM (fun d:Dev=>eG d.name (iF nm)) ds with⟨k,r,hk,hl,_⟩ | ⟨hk,_⟩
 ·left;rw[hk];omega
 ·right;exact hk
theorem zY (S:dH) (ws:List (List UInt8)) (h:ws.length≠4):j5 S ws=none:=by
 unfold j5
 split
 ·exact absurd rfl h
 ·rfl
end Go.Proofs.YtifkacnoiocebaaDoor
