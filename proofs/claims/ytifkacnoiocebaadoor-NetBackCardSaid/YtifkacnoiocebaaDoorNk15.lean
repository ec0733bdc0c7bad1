/- A part of the proof: Nr9, Nr10. -/
import Derived.Test.YtifkacnoiocebaaDoorNk14
set_option linter.unusedVariables false
set_option linter.unusedSimpArgs false
set_option maxRecDepth 100000
set_option maxHeartbeats 8000000
namespace Go.Proofs.YtifkacnoiocebaaDoor
open Go.RowKit
theorem zZ (R:Nat) (S:dH) (x:List UInt8) (rest:List (List UInt8)) (base g n cap:Nat) (W:World) (hm:dF W) (hR:kY iZ 41 W R S) (hS:dO S 10000) (hw:bR W base g n cap (x::rest)) (hwo:mF (x::rest)) (hgR:R<g):
  Calls Tryd.prog 30 #[.pointer (some ⟨R,0,none⟩),.slice (some ⟨g,0,none⟩) n cap] W (kZ iZ 41 R (j5 S rest) W):=by
 obtain⟨ds,V,L,hbx,dQ,hds⟩:=hR
 have hn:=hw.len
 simp only[List.length_cons]at hn
 have hcap:=(jJ hw.own)
 have qF:=hwo.len
 simp only[List.length_cons]at qF
 have hRl:=hbx.lt
 have hgl:=hw.lt.2
 have dP:Bx W R #[V,L,.bool (!S.ls.isEmpty)] 41:=hbx
 have hb0:=(Below.refl W.heap.size W).alloc (Nat.le_refl _) (.cells #[.pointer (some ⟨R,0,none⟩)] 39)
 clear hbx
 by_cases Ia:n=5
 case neg=>
  have HF:=hide (zY S rest (by omega))
  have d3:((n:Int)==5)=false:=by simp;omega
  have d4:((n:Int) != 5)=true:=by simp;omega
  clear dQ dP hds hS hwo hw hm
  go_enter Tryd.func30,Tryd.ntmps30
  go_wp2_with fail
  go_ret
  exact⟨hb0.mono (by omega),.inl ⟨HF.out,rfl⟩⟩
 case pos=>
 subst Ia
 obtain⟨na,rest,rfl⟩:∃a t,rest=a::t:=by
  cases rest with
  |nil=>simp at hn
  |cons a t=>exact⟨a,t,rfl⟩
 obtain⟨np,rest,rfl⟩:∃a t,rest=a::t:=by
  cases rest with
  |nil=>simp at hn
  |cons a t=>exact⟨a,t,rfl⟩
 obtain⟨nb,rest,rfl⟩:∃a t,rest=a::t:=by
  cases rest with
  |nil=>simp at hn
  |cons a t=>exact⟨a,t,rfl⟩
 obtain⟨nq,rest,rfl⟩:∃a t,rest=a::t:=by
  cases rest with
  |nil=>simp at hn
  |cons a t=>exact⟨a,t,rfl⟩
 obtain rfl:rest=[]:=by
  cases rest with
  |nil=>rfl
  |cons a t=>simp only[List.length_cons]at hn;omega
 obtain⟨A,dc,rfl,_,hsl,_⟩:=bN.jZ ah.len dQ.d rfl
 obtain⟨LA,lc,rfl,_⟩:=bN.jZ au.len dQ.l rfl
 obtain⟨nd,hnd⟩:∃nd,ds.length=nd:=⟨_,rfl⟩
 obtain⟨nl,hnl⟩:∃nl,S.ls.length=nl:=⟨_,rfl⟩
 have IW:nd≤10000:=by have:=hS.d;rw[← hds,List.length_map,hnd]at this;exact this
 have IX:nl≤10000:=by have:=hS.l;rw[hnl]at this;exact this
 have nU:=hide (show j5 S [na,np,nb,nq]=if 0≤jd S.ds na∧0≤jd S.ds nb∧0≤aH np 100∧0≤aH nq 100 then some ⟨S.ds,S.ls++[⟨jd S.ds na,aH np 100,jd S.ds nb,aH nq 100⟩]⟩else none from rfl)
 have FT:=zu S.ds na
 have hwb:=zu S.ds nb
 have hSd:S.ds.length≤10000:=hS.d
 have hP:=kJ np 100
 have hP':=gy np 100
 have hQ:=kJ nq 100
 have hQ':=gy nq 100
 have HP:=hide (fun w=>eD np w)
 have Du:=hide (fun w=>eD nq w)
 obtain⟨W0,hW0⟩:∃W0,W0=W.alloc (.cells #[.pointer (some ⟨R,0,none⟩)] 39):=⟨_,rfl⟩
 obtain⟨C,hC⟩:∃C,W.heap.size=C:=⟨_,rfl⟩
 have zq:=hide (show Bx W0 C #[.pointer (some ⟨R,0,none⟩)] 39 from by rw[hW0,← hC];exact Bx.new W _ _)
 have HB0:=hide (show Below W.heap.size W W0 from by rw[hW0];exact hb0)
 have hsz0:W0.heap.size=C+1:=by rw[hW0,← hC];simp
 have iJ:=hide dP
 have rU:=hide dQ
 have HW:=hide hw
 rw[hnd]at hsl
 have HSL:=hide hsl
 have HQ:=hide (fun(w':World) (hb:Below W0.heap.size W0 w')=>show w'.cell? ⟨C,0,none⟩=some (.pointer (some ⟨R,0,none⟩))∧w'.cell? ⟨R,0,none⟩=some (.slice A nd dc)∧w'.cell? ⟨R,1,none⟩=some (.slice LA nl lc)∧
   w'.cell? ⟨g,1,none⟩=some (.string ⟨na.toArray⟩)∧w'.cell? ⟨g,2,none⟩=some (.string ⟨np.toArray⟩)∧w'.cell? ⟨g,3,none⟩=some (.string ⟨nb.toArray⟩)∧w'.cell? ⟨g,4,none⟩=some (.string ⟨nq.toArray⟩)from by
  have hW:=HB0.out.trans (hb.mono HB0.out.size)
  have hb1:=iJ.out.below hW
  have hw1:=HW.out.below hW
  refine⟨(zq.out.below hb).get 0 _ rfl,?_,?_,hw1.get (k:=1) rfl,hw1.get (k:=2) rfl,hw1.get (k:=3) rfl,hw1.get (k:=4) rfl⟩
  ·rw[← hnd];exact hb1.get 0 _ rfl
  ·rw[← hnl];exact hb1.get 1 _ rfl)
 have EB:=hide (fun(nm:List UInt8) (w':World) (hb:Below W0.heap.size W0 w')=>show Calls Tryd.prog 61 #[.string ⟨nm.toArray⟩,.pointer (some ⟨C,0,none⟩)] w' (fun e W'=>e= .returned (.int .i64 (jd S.ds nm))∧Below w'.heap.size w' W')from by
  rw[← hds,Cq]
  have h1:=HB0.out.trans (hb.mono HB0.out.size)
  have:=hb.size
  exact vY ds A nd dc C R ⟨nm.toArray⟩ w' (by omega) (HSL.out.below h1 h1.size) (HQ.out w' hb).1 (HQ.out w' hb).2.1 (by omega) (by omega))
 have EC:=hide (EB.out na)
 have oQ:=hide (EB.out nb)
 obtain⟨a,ha⟩:∃a,jd S.ds na=a:=⟨_,rfl⟩
 obtain⟨b,hb⟩:∃a,jd S.ds nb=a:=⟨_,rfl⟩
 obtain⟨p,hp⟩:∃a,aH np 100=a:=⟨_,rfl⟩
 obtain⟨q,hq⟩:∃a,aH nq 100=a:=⟨_,rfl⟩
 simp only[ha,hb,hp,hq]at HP Du nU FT hwb hP hP' hQ hQ' EC oQ
 have hok:(⟨a,p,b,q⟩:au).ok :=by
  refine⟨?_,?_,?_,?_⟩
  ·show bB a;unfold bB;omega
  ·show bB p;unfold bB;omega
  ·show bB b;unfold bB;omega
  ·show bB q;unfold bB;omega
 obtain⟨oa,hoa⟩:∃oa,decide (0≤a)=oa:=⟨_,rfl⟩
 obtain⟨ob,vv⟩:∃oa,decide (0≤b)=oa:=⟨_,rfl⟩
 obtain⟨op,hop⟩:∃oa,decide (0≤p)=oa:=⟨_,rfl⟩
 obtain⟨oq,hoq⟩:∃oa,decide (0≤q)=oa:=⟨_,rfl⟩
 obtain⟨r,hr⟩:∃r,j5 S [na,np,nb,nq]=r:=⟨_,rfl⟩
 rw[hr]at nU ⊢
 have HF:=hide (show r=if(op && oq && oa && ob)=true then some ⟨S.ds,S.ls++[⟨a,p,b,q⟩]⟩else none from by
  rw[nU.out,← hoa,← vv,← hop,← hoq]
  by_cases h:0≤a∧0≤b∧0≤p∧0≤q
  ·rw[if_pos h,if_pos (by simp;exact⟨⟨⟨h.2.2.1,h.2.2.2⟩,h.1⟩,h.2.1⟩)]
  ·rw[if_neg h,if_neg (by simp;omega)])
 simp only[hop,hoq]at HP Du
 have Ib:=hide (And.intro hoa vv)
 have l8:=hide (show R<C∧g<C from by omega)
 have oU:=hide hds
 have ED:=hide (fun(j:Nat) (hj:(Value.slice LA S.ls.length lc).ownBlock =some j)=>(dQ.l.lt j hj).2)
 clear dQ dP hds hS hwo hw hm hsl nU ha hb hp hq hr FT hwb hP hP' hQ hQ' hop hoq EB hSd hnd hoa vv
 obtain⟨i0,hi0,hz0,hz1,hz2⟩:=info_parts Tryd.infoLink
 go_enter Tryd.func30,Tryd.ntmps30
 go_wp2_with fail
 rw[← hW0]
 refine aU (by kernel_rfl) (by kernel_rfl) ?_
 intro T hT gt hg1 hgi
 have aO:=hide hg1
 have eX:=hide hgi
 have k1:∀t,(gt t).cell? ⟨g,1,none⟩=some (.string ⟨na.toArray⟩):=fun t=>(HQ.out _ (hg1 t)).2.2.2.1
 have k3:∀t,(gt t).cell? ⟨g,3,none⟩=some (.string ⟨nb.toArray⟩):=fun t=>(HQ.out _ (hg1 t)).2.2.2.2.2.1
 have FU:=hide (fun t=>EC.out (gt t) (hg1 t))
 have FV:=hide (fun t=>oQ.out (gt t) (hg1 t))
 clear hg1 hgi
 repeat (go_big_quiet_step ((first | (go_at_call_of 61 (Value.string ⟨na.toArray⟩);exact sW aO.out eX.out (FU.out _)) | (go_at_call_of 61 (Value.string ⟨nb.toArray⟩);exact sW aO.out eX.out (FV.out _)))))
 refine wpQuiet_nil ?_
 intro _ hw'
 obtain⟨t,rfl⟩:=hw'
 have ak:=hide (aO.out t)
 generalize gt t=w4 at*
 clear aO eX k1 k3 FU FV EC oQ
 have z8:=hide (iJ.out.below (HB0.out.trans (ak.out.mono HB0.out.size)))
 obtain⟨c0,r0,r1,g1,g2,g3,g4⟩:=HQ.out _ ak.out
 have r2:w4.cell? ⟨R,2,none⟩=some (.bool (!S.ls.isEmpty)):=z8.out.get 2 _ rfl
 have f2:w4.frozen? ⟨R,2,none⟩=false:=z8.out.frozen 2
 go_wp2_with fail
 refine(HP.out _).mono ?_
 rintro e w5 ⟨rfl,rfl⟩
 clear HP
 go_wp2_with fail
 refine(Du.out _).mono ?_
 rintro e w5 ⟨rfl,rfl⟩
 clear Du
 go_wp2_with fail
 have wU:=hide (z8.out.set 2 (.bool true))
 have bH:=hide (show Below R W (w4.setCell ⟨R,2,none⟩ (.bool true))from((HB0.out.trans (ak.out.mono HB0.out.size)).mono (by omega)).setCell (p:=⟨R,2,none⟩) (Nat.le_refl R) _)
 have FW:=hide ((rU.out.below (HB0.out.trans (ak.out.mono HB0.out.size))).same (w':=w4.setCell ⟨R,2,none⟩ (.bool true)) (fun q h1 h2=>RowKit.Below.heap_setCell _ _ _ _ (show q≠R by omega)))
 have FX:=hide ((zq.out.below ak.out).far ⟨R,2,none⟩ (.bool true) (show C≠R by omega))
 have Jw:C+1≤w4.heap.size:=by have:=ak.out.size;omega
 have hsz5:=size_setCell w4 ⟨R,2,none⟩ (.bool true)
 clear ak z8 HW HSL HQ c0 r0 r1 r2 f2 g1 g2 g3 g4 zq rU iJ hb0 HB0
 generalize World.setCell w4 _ _=w5 at*
 have EF:=hide (bH.out.drew)
 have Aa:=hide (show Bx w5.drew R _ 41 from wU.out)
 have EG:=hide (FW.out.below (Below.refl w5.heap.size w5).drew)
 have Cr:=hide (show Bx w5.drew C _ 39 from FX.out)
 have Dv:w5.drew.heap.size=w4.heap.size:=hsz5
 clear bH wU FW FX
 have hS0:w5.drew.cell? ⟨C,0,none⟩=some (.pointer (some ⟨R,0,none⟩))∧w5.drew.cell? ⟨R,1,none⟩=some (.slice LA S.ls.length lc):=⟨Cr.out.get 0 _ rfl,Aa.out.get 1 _ rfl⟩
 refine dz (fun w'=>w'.cell? ⟨C,0,none⟩=some (.pointer (some ⟨R,0,none⟩))∧w'.cell? ⟨R,1,none⟩=some (.slice LA S.ls.length lc)) 16 (by kernel_rfl) hS0 (fun hS inv=>?_)
 clear hS0 hsz5
 generalize World.drew w5=wd at*
 revert inv
 refine rL 0 [16] rfl hS (by intro w hSw;obtain⟨s0,s1⟩:=hSw;go_simp;try with_reducible rfl) ?_
 refine rL 1 [16] rfl hS (by intro w hSw;obtain⟨s0,s1⟩:=hSw;go_simp;try with_reducible rfl) ?_
 refine rP 2 hS ?_
 refine rP 3 hS ?_
 refine rP 4 hS ?_
 refine rL 5 [16] rfl hS (by intro w hSw;obtain⟨s0,s1⟩:=hSw;go_simp;try with_reducible rfl) ?_
 refine rP 6 hS ?_
 refine rP 7 hS ?_
 refine rP 8 hS ?_
 refine rP 9 hS ?_
 refine rP 10 hS ?_
 intro inv
 refine rO 11 inv fun K hK=>?_
 go_simp
 have aD:=below_alloc2 wd (.cells #[.int .i64 a,.int .i64 p,.int .i64 b,.int .i64 q] 55)
 have dh:=hide (Bx.new wd #[.int .i64 a,.int .i64 p,.int .i64 b,.int .i64 q] 55)
 have aX:=hide (Aa.out.below aD)
 have Ct:=hide (Cr.out.below aD)
 have aF:=hide (EG.out.below aD)
 have bZ:=hide (EF.out.trans (aD.mono (by omega)))
 have lg:(wd.alloc (.cells #[.int .i64 a,.int .i64 p,.int .i64 b,.int .i64 q] 55)).heap.size =w4.heap.size+1:=by simp;omega
 rw[Dv]at dh
 clear aD Aa Cr EG EF hS
 generalize World.alloc wd _=aM at*
 have hS:aM.cell? ⟨C,0,none⟩=some (.pointer (some ⟨R,0,none⟩))∧aM.cell? ⟨R,1,none⟩=some (.slice LA S.ls.length lc):=⟨Ct.out.get 0 _ rfl,aX.out.get 1 _ rfl⟩
 refine hK.out _ _ (fun _=>hS) ?_
 clear hK K hS inv
 intro inv
 try simp only[Act.put,aJ,aK,aL]
 refine rO 12 inv fun K hK=>?_
 rw[if_pos (by rfl)]
 refine bG _ (.tmp 48) (.tmp 54) 23 rfl (R+1) 55 i0 _ 4 32 Tryd.underlying23 hi0 hz0 hz1 hz2 rfl (by omega) (.slice LA S.ls.length lc) S.ls.length (S.ls.flatMap au.cells) (by rw[hnl];rfl) aF.out.l (w4.heap.size+1) (some ⟨w4.heap.size,0,none⟩) 1 1 (au.cells ⟨a,p,b,q⟩) (by simp[Act.eval,Act.put,Dv]) ⟨rfl,fun _=>⟨_,rfl,Nat.lt_succ_self _,fun j' u hu=>by
  rw[addr_add,Nat.zero_add]
  exact dh.out.get j' u (by simpa[au.cells]using hu)⟩⟩ (by intro u hu;simp[au.cells]at hu;rcases hu with rfl | rfl | rfl | rfl<;>rfl) (by simp only[maxLen];omega) (by omega) (by omega) ?_
 intro v9 w9 aP aV eF
 obtain⟨g9,c9,rfl,_⟩:=aP.form (by omega)
 have nV:∀j,(Value.slice LA S.ls.length lc).ownBlock =some j→R+1≤j∧j<aM.heap.size:=fun j hj=>aF.out.l.lt j hj
 have d9:=hide (aF.out.Co hok aP aV)
 have aT:=hide (aX.out.same (bJ aV (by omega) (fun e=>by have:=(nV _ e).1;omega)))
 have eH:=hide (show Below R W w9 from bZ.out.grown aV (by omega) (fun j hj=>by have:=(nV _ hj).1;omega))
 have Ic:=hide (Ct.out.same (bJ aV (by omega) (fun e=>by have:=ED.out _ e;omega)))
 clear aP aV eF aF aX Ct bZ nV
 have hS:w9.cell? ⟨C,0,none⟩=some (.pointer (some ⟨R,0,none⟩))∧w9.cell? ⟨R,1,none⟩=some (.slice LA S.ls.length lc):=⟨Ic.out.get 0 _ rfl,aT.out.get 1 _ rfl⟩
 refine hK.out _ _ (fun _=>hS) ?_
 clear hK K inv
 intro inv
 try simp only[Act.put,aJ,aK,aL]
 revert inv
 refine rP 13 hS ?_
 refine rP 14 hS ?_
 refine rP 15 hS ?_
 intro inv
 have s1:w9.cell? ⟨R,1,none⟩=some (.slice LA nl lc):=by rw[← hnl];exact hS.2
 have f1:w9.frozen? ⟨R,1,none⟩=false:=aT.out.frozen 1
 refine rT 16 inv fun K hK=>?_
 go_simp
 refine hK.out _ _ ?_
 clear hK K inv
 intro inv
 try simp only[Act.put,aJ,aK,aL]
 refine rD ?_
 clear inv
 clear s1 f1 hS
 have gV:=hide (aT.out.set 1 (.slice (some ⟨g9,0,none⟩) (nl+1) c9))
 have jD:=hide (d9.out.same (w':=w9.setCell ⟨R,1,none⟩ (.slice (some ⟨g9,0,none⟩) (nl+1) c9)) (fun q h1 h2=>RowKit.Below.heap_setCell _ _ _ _ (show q≠R by omega)))
 have eO:=hide (eH.out.setCell (p:=⟨R,1,none⟩) (Nat.le_refl R) (.slice (some ⟨g9,0,none⟩) (nl+1) c9))
 generalize World.setCell w9 _ _=nT at*
 obtain⟨hoa,vv⟩:=Ib.out
 go_wp2_with fail
 all_goals
  clear hoa vv
  go_ret
 ·rename_i h1 h2 h3
  subst h1 h2 h3
  cases ob with
  |true=>
   refine⟨eO.out,.inr ⟨⟨S.ds,S.ls++[⟨a,p,b,q⟩]⟩,by rw[HF.out];rfl,rfl,ds,_,_,?_,jD.out,oU.out⟩⟩
   have h:iZ (.slice A ds.length dc) (.slice (some ⟨g9,0,none⟩) (S.ls.length+1) c9) (S.ls++[⟨a,p,b,q⟩])=#[.slice A ds.length dc,.slice (some ⟨g9,0,none⟩) (nl+1) c9,.bool true]:=by
    simp[iZ,hnl]
   rw[h]
   exact gV.out
  |false=>exact⟨eO.out,.inl ⟨by rw[HF.out];rfl,rfl⟩⟩
 all_goals
  refine⟨eO.out,.inl ⟨?_,rfl⟩⟩
  rw[HF.out,if_neg]
  simp_all
def qK (D:Nat) (w:World):Nat:=6 - (intOf ((w.cell? ⟨D,1,none⟩).getD undef)).toNat
theorem iq {w:World} {D k:Nat} {a b c d e f:Value} (h:Bx w D #[a,.int .i64 (k:Int),b,c,d,e,f] 37):qK D w=6 - k:=by
 unfold qK
 rw[h.get 1 (.int .i64 (k:Int)) rfl]
 simp[intOf]
def pJ (k:Nat):Nat:=if k=1 then 3 else if k=2∨k=3 then 2 else 4
theorem jU {x:List UInt8} {k:Nat} (h1:1≤k) (h5:k≤5) (hx:aN (k:Int)=x) (hno:∀j:Nat,1≤j→j<k→aN (j:Int)≠x):fC x=k:=by
 subst hx
 rcases(by omega:k=1∨k=2∨k=3∨k=4∨k=5)with rfl | rfl | rfl | rfl | rfl<;>decide
theorem lu {x:List UInt8} (hno:∀j:Nat,1≤j→j<6→aN (j:Int)≠x):fC x=0:=by
 have h1:=hno 1 (by omega) (by omega)
 have h2:=hno 2 (by omega) (by omega)
 have h3:=hno 3 (by omega) (by omega)
 have h4:=hno 4 (by omega) (by omega)
 have h5:=hno 5 (by omega) (by omega)
 unfold fC
 rw[if_neg (fun e=>h1 e.symm),if_neg (fun e=>h2 e.symm),if_neg (fun e=>h3 e.symm),if_neg (fun e=>h4 e.symm),if_neg (fun e=>h5 e.symm)]
theorem Cu (R:Nat) (S:dH) (x:List UInt8) (rest:List (List UInt8)) (base g n cap:Nat) (W:World) (hm:dF W) (hR:kY iZ 41 W R S) (hS:dO S 10000) (hw:bR W base g n cap (x::rest)) (hwo:mF (x::rest)) (hgR:R<g) (hbad:fC x=0):
  Calls Tryd.prog 31 #[.pointer (some ⟨R,0,none⟩),.slice (some ⟨g,0,none⟩) n cap] W (kZ iZ 41 R (cB S (x::rest)) W):=by
 have hn:=hw.len
 simp only[List.length_cons]at hn
 have hgl:=hw.lt.2
 have hRl:=hR.lt
 have gZ:=hide (Bx.new W #[.string ⟨#[]⟩,.int .i64 1,.int .i64 0,.int .u8 0,.slice none 0 0,.slice none 0 0,.slice none 0 0] 37)
 have HB0:=hide (below_alloc2 W (.cells #[.string ⟨#[]⟩,.int .i64 1,.int .i64 0,.int .u8 0,.slice none 0 0,.slice none 0 0,.slice none 0 0] 37))
 have jL:=hide (show(W.alloc (.cells #[.string ⟨#[]⟩,.int .i64 1,.int .i64 0,.int .u8 0,.slice none 0 0,.slice none 0 0,.slice none 0 0] 37)).heap.size =W.heap.size+1 from by simp)
 obtain⟨D,hD⟩:∃D,W.heap.size=D:=⟨_,rfl⟩
 rw[hD]at gZ HB0 jL
 have HW:=hide hw
 have qL:=hide (fun(w':World) (hb:Below D W w')=>show w'.cell? ⟨g,0,none⟩=some (.string ⟨x.toArray⟩)from(hb.cell (p:=⟨g,0,none⟩) (by show g<D;omega)).trans (hw.get (k:=0) rfl))
 clear hw
 go_enter Tryd.func31,Tryd.ntmps31
 go_wp2_with fail
 generalize World.alloc W _=W1 at*
 have Bj:W1.heap.size=D+1:=jL.out
 go_loopw [] (fun wr=>∃k:Nat,1≤k∧k≤6∧Hid (∀j:Nat,1≤j→j<k→aN (j:Int)≠x)∧Hid (Bx wr D #[.string ⟨#[]⟩,.int .i64 (k:Int),.int .i64 0,.int .u8 0,.slice none 0 0,.slice none 0 0,.slice none 0 0] 37)∧Hid (Below D W wr)∧D+1≤wr.heap.size) (fun wr=>qK D wr)
 case atStart=>exact⟨1,by omega,by omega,hide (fun j h1 h2=>by omega),gZ,HB0,by omega⟩
 case round=>
  obtain⟨k,hk1,Bl,bP,HX,HB,hsz⟩:=hrel
  have lC:=hide (iq HX.out)
  have hg0:=qL.out wr HB.out
  have x1:wr.cell? ⟨D,1,none⟩=some (.int .i64 (k:Int)):=HX.out.get 1 _ rfl
  by_cases hk5:k≤5
  case pos=>
   have d5:decide ((k:Int)≤5)=true:=decide_eq_true (by omega)
   have iC:=hide (fun w=>jf (k:Int) w (by omega))
   have hn0:(0:Int)<(n:Int):=by omega
   have hn1:0<n:=by omega
   by_cases hxk:aN (k:Int)=x
   case neg=>
    have e1:(aN (k:Int)==x)=false:=by simpa using hxk
    have e2:(aN (k:Int) != x)=true:=by simpa using hxk
    go_wp2_with fail
    refine aU (by kernel_rfl) (by kernel_rfl) ?_
    intro T hT gt hg1 hgi
    have aO:=hide hg1
    have eX:=hide hgi
    have k0:∀t,(gt t).cell? ⟨g,0,none⟩=some (.string ⟨x.toArray⟩):=fun t=>((hg1 t).cell (p:=⟨g,0,none⟩) (by show g<_;omega)).trans hg0
    have k1:∀t,(gt t).cell? ⟨D,1,none⟩=some (.int .i64 (k:Int)):=fun t=>((hg1 t).cell (p:=⟨D,1,none⟩) (by show D<_;omega)).trans x1
    clear hg1 hgi
    repeat (go_big_quiet_step ((go_at_call 51;exact bX (iC.out _))))
    refine wpQuiet_nil ?_
    intro _ hw'
    obtain⟨t,rfl⟩:=hw'
    have bC:=hide (HX.out.below (aO.out t))
    have ak:=hide (HB.out.trans ((aO.out t).mono (by omega)))
    have jM:D+1≤(gt t).heap.size :=by have:=(aO.out t).size;omega
    have y1:(gt t).cell? ⟨D,1,none⟩=some (.int .i64 (k:Int)):=bC.out.get 1 _ rfl
    have y2:(gt t).frozen? ⟨D,1,none⟩=false:=bC.out.frozen 1
    generalize gt t=w4 at*
    clear aO eX k0 k1 x1 hg0
    go_wp2_with fail
    have mg:=hide (show Bx (w4.setCell ⟨D,1,none⟩ (.int .i64 ((k:Int)+1))) D #[.string ⟨#[]⟩,.int .i64 ((k+1:Nat):Int),.int .i64 0,.int .u8 0,.slice none 0 0,.slice none 0 0,.slice none 0 0] 37 from by
     have h:=bC.out.set 1 (.int .i64 ((k:Int)+1))
     exact h)
    have nH:=hide (iq mg.out)
    go_roundw
    case rel=>exact⟨k+1,by omega,by omega,hide (fun j h1 h2=>by
     rcases(by omega:j<k∨j=k)with h | rfl
     ·exact bP.out j h1 h
     ·exact hxk),mg,hide (ak.out.setCell (p:=⟨D,1,none⟩) (Nat.le_refl D) _),by rw[size_setCell];exact jM⟩
    case measure=>rw[nH.out,lC.out];omega
   case pos=>
    exfalso
    have:=jU hk1 hk5 hxk bP.out
    omega
  case neg=>
   have HF:=hide (show cB S (x::rest)=none from by
    cases rest with
    |nil=>rfl
    |cons a t=>
     simp only[cB,hbad]
     split
     ·rfl
     ·rfl)
   obtain rfl:k=6:=by omega
   go_wp2_with fail
   rw[show(((6:Nat):Int))=6 from rfl]at x1
   refine aU (by kernel_rfl) (by kernel_rfl) ?_
   intro T hT gt hg1 hgi
   have aO:=hide hg1
   have eX:=hide hgi
   have k0:∀t,(gt t).cell? ⟨g,0,none⟩=some (.string ⟨x.toArray⟩):=fun t=>((hg1 t).cell (p:=⟨g,0,none⟩) (by show g<_;omega)).trans hg0
   have k1:∀t,(gt t).cell? ⟨D,1,none⟩=some (.int .i64 6):=fun t=>((hg1 t).cell (p:=⟨D,1,none⟩) (by show D<_;omega)).trans x1
   clear hg1 hgi
   repeat (go_big_quiet_step (fail))
   refine wpQuiet_nil ?_
   intro _ hw'
   obtain⟨t,rfl⟩:=hw'
   have bC:=hide (HX.out.below (aO.out t))
   have ak:=hide (HB.out.trans ((aO.out t).mono (by omega)))
   have jM:D+1≤(gt t).heap.size :=by have:=(aO.out t).size;omega
   have y1:(gt t).cell? ⟨D,1,none⟩=some (.int .i64 6):=bC.out.get 1 _ rfl
   have y2:(gt t).frozen? ⟨D,1,none⟩=false:=bC.out.frozen 1
   have ya:∀o,((gt t).alloc o).cell? ⟨D,1,none⟩=some (.int .i64 6):=fun o=>(bC.out.below (below_alloc2 _ o)).get 1 _ rfl
   generalize gt t=w4 at*
   clear aO eX k0 k1 x1 hg0 bP lC HX HB hsz
   have hne:D≠w4.heap.size:=by omega
   go_wp2_with fail
   go_ret
   exact⟨(ak.out.mono (by omega)).alloc (by omega) _,.inl ⟨HF.out,rfl⟩⟩
end Go.Proofs.YtifkacnoiocebaaDoor
