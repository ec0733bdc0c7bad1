/- A part of the proof: Dg2, Dg3. -/
import Derived.Test.YtifkacnoiocebaaGreatDz39
set_option linter.unusedVariables false
set_option linter.unusedSimpArgs false
set_option maxRecDepth 100000
set_option maxHeartbeats 8000000
namespace Go.Proofs.YtifkacnoiocebaaGreat
open aj Go.Maps Go.RowKit
def uH (ca cb most E:Int):Prop:=(ca≠0∧E=ca)∨(ca=0∧cb≠0∧E=cb)∨(ca=0∧cb=0∧((bT most∧E=1)∨(¬bT most∧E=6)))
theorem uH.ne {ca cb most E:Int} (h:uH ca cb most E):E≠0:=by
 rcases h with⟨h,rfl⟩ | ⟨_,h,rfl⟩ | ⟨_,_,⟨_,rfl⟩ | ⟨_,rfl⟩⟩
 ·exact h
 ·exact h
 ·decide
 ·decide
def Ca (ne most E:Int):Prop:=(ne≠0∧E=ne)∨(ne=0∧bT most∧E=1)∨(ne=0∧¬bT most∧E=6)
theorem Ca.ne {e most E:Int} (h:Ca e most E):E≠0:=by
 rcases h with⟨h,rfl⟩ | ⟨_,_,rfl⟩ | ⟨_,_,rfl⟩
 ·exact h
 ·decide
 ·decide
theorem Ca.side {e most E:Int} (h:Ca e most E) (h0:e=0):(bT most∧E=1)∨(¬bT most∧E=6):=by
 rcases h with⟨h,_⟩ | ⟨_,h⟩ | ⟨_,h⟩
 ·exact absurd h0 h
 ·exact .inl h
 ·exact .inr h
def XB (n:aC) (most:Int) (W:World) (e:Ending) (W':World):Prop:=Below W.heap.size W W'∧
 ((∃N K,e= .returned (.tuple #[.pointer (some ⟨N,0,none⟩),.int .i64 0])∧(fq n.au n.ls=0∧¬bT most)∧nZ W.heap.size W' N n.au n.ls K)∨
  ∃E:Int,Ca (fq n.au n.ls) most E∧e= .returned (.tuple #[.pointer none,.int .i64 E]))
theorem AL (n:aC) (most:Int) (hmo:aO most) (W:World) (hn:bq W W.heap.size n):Calls Tryz.prog 5 #[n.val,.int .i64 most] W (XB n most W):=by
 by_cases hE:fq n.au n.ls=0
 ·by_cases hb:bT most
  ·exact(BK n most W hn (.inr hb)).mono fun e w' ⟨hb',h⟩=>⟨hb',.inr ⟨1,.inr (.inl ⟨hE,hb,rfl⟩),by rw[h,hE,QM]⟩⟩
  ·have hb2:=hb
   unfold bT at hb2
   obtain⟨k,rfl⟩:∃k:Nat,most=(k:Int):=⟨most.toNat,by omega⟩
   exact(IG n k W hn hE (by omega) (by omega) vM (firstT _ _ _) (fun _=>aaD _ _ _ _)).mono fun e w' ⟨hb',h⟩=>⟨hb',by
    rcases h with⟨N,K,h1,h2⟩ | ⟨A,h1,_⟩
    ·exact .inl ⟨N,K,h1,⟨hE,hb⟩,h2⟩
    ·exact .inr ⟨6,.inr (.inr ⟨hE,hb,rfl⟩),h1⟩⟩
 ·exact(BK n most W hn (.inl hE)).mono fun e w' ⟨hb',h⟩=>⟨hb',.inr ⟨_,.inl ⟨hE,rfl⟩,by rw[h,MG hE]⟩⟩
def FM (a b:aC) (nm:ByteArray) (most:Int) (W:World) (e:Ending) (W':World):Prop:=Below W.heap.size W W'∧
 ((∃E:Int,uH (dS nm a.au a.ls) (dS nm b.au b.ls) most E∧e= .returned (.tuple #[.slice none 0 0,.int .i64 E]))∨
  ∃(s c Na Nb Ka Kb:Nat) (va vb:Nat→Bool),e= .returned (.tuple #[.slice (some ⟨s,0,none⟩) 2 c,.int .i64 0])∧pE a.au a.ls nm va Ka∧pE b.au b.ls nm vb Kb∧
   kZ W' Na (bP va a.au a.au.length) (fH va a.au.length a.ls) Ka∧kZ W' Nb (bP vb b.au b.au.length) (fH vb b.au.length b.ls) Kb∧
   (∀(j:Nat) u,[Value.pointer (some ⟨Na,0,none⟩),.int .i64 (dK nm (bP va a.au a.au.length)),.int .i64 0,.pointer (some ⟨Nb,0,none⟩),.int .i64 (dK nm (bP vb b.au b.au.length)),.int .i64 0][j]?=some u→W'.cell? ⟨s,j,none⟩=some u)∧¬bT most)
theorem Lu (a b:aC) (nm:ByteArray) (most:Int) (hmo:aO most) (Nn cn:Nat) (W:World) (ha:bq W W.heap.size a) (hb:bq W W.heap.size b) (hN:Nn<W.heap.size) (hc:∀(j:Nat) u,(Gw a++Gw b)[j]?=some u→W.cell? ⟨Nn,j,none⟩=some u):
  Calls Tryz.prog 43 #[.slice (some ⟨Nn,0,none⟩) 2 cn,.string nm,.int .i64 most] W (FM a b nm most W):=by
 have wM:=hide (fun(w':World) (hb':Below W.heap.size W w')=>FE a nm w' (ha.below hb' hb'.size))
 have jw:=hide (fun(w':World) (hb':Below W.heap.size W w')=>FE b nm w' (hb.below hb' hb'.size))
 have xV:=hide (fun(w':World) (hb':Below W.heap.size W w')=>show w'.cell? ⟨Nn,0,none⟩=some (.slice a.dA a.dn a.dc)∧w'.cell? ⟨Nn,1,none⟩=some (.slice a.lA a.ln a.lc)∧w'.cell? ⟨Nn,2,none⟩=some (.slice b.dA b.dn b.dc)∧w'.cell? ⟨Nn,3,none⟩=some (.slice b.lA b.ln b.lc)from
  ⟨(hb'.cell (p:=⟨Nn,0,none⟩) hN).trans (hc 0 _ rfl),(hb'.cell (p:=⟨Nn,1,none⟩) hN).trans (hc 1 _ rfl),(hb'.cell (p:=⟨Nn,2,none⟩) hN).trans (hc 2 _ rfl),(hb'.cell (p:=⟨Nn,3,none⟩) hN).trans (hc 3 _ rfl)⟩)
 have HBAD:=hide (fun(E:Int) (h0:uH (dS nm a.au a.ls) (dS nm b.au b.ls) most E) (w':World) (hb':Below W.heap.size W w')=>show FM a b nm most W (.returned (.tuple #[.slice none 0 0,.int .i64 E])) w' from⟨hb',.inl ⟨E,h0,rfl⟩⟩)
 have qC:=hide (fun(s c Na Nb Ka Kb:Nat) (va vb:Nat→Bool) (w':World) (hb':Below W.heap.size W w') (h1:pE a.au a.ls nm va Ka) (h2:pE b.au b.ls nm vb Kb) (h3:kZ w' Na (bP va a.au a.au.length) (fH va a.au.length a.ls) Ka) (h4:kZ w' Nb (bP vb b.au b.au.length) (fH vb b.au.length b.ls) Kb)
  (h5:∀(j:Nat) u,[Value.pointer (some ⟨Na,0,none⟩),.int .i64 (dK nm (bP va a.au a.au.length)),.int .i64 0,.pointer (some ⟨Nb,0,none⟩),.int .i64 (dK nm (bP vb b.au b.au.length)),.int .i64 0][j]?=some u→w'.cell? ⟨s,j,none⟩=some u) (h6:¬bT most)=>show FM a b nm most W (.returned (.tuple #[.slice (some ⟨s,0,none⟩) 2 c,.int .i64 0])) w' from
  ⟨hb',.inr ⟨s,c,Na,Nb,Ka,Kb,va,vb,rfl,h1,h2,h3,h4,h5,h6⟩⟩)
 clear ha hb hc
 generalize FM a b nm most W=Q at*
 obtain⟨dA,dn,dc,ds,lA,ln,lc,ls⟩:=a
 obtain⟨eA,en,ec,es,fA,fn,fc,fs⟩:=b
 simp only[aC.val,aC.au]at*
 obtain⟨i0,hi0,hy0,hy1,hy2⟩:=info_parts Tryz.infoNet
 obtain⟨i1,hi1,hz0,hz1,hz2⟩:=info_parts Tryz.infoSide
 go_enter Tryz.func43,Tryz.ntmps43
 go_wp2_with fail
 have HB0:=hide (below_alloc2 W (.cells #[.string nm] 9))
 have HX0:=hide (Bx.new W #[.string nm] 9)
 have hs0:(W.alloc (.cells #[.string nm] 9)).heap.size =W.heap.size+1:=by simp
 generalize World.alloc W _=w0 at*
 refine wp_loop_rounds 3 ?_
 rw[rounds_succ]
 obtain⟨x0,x1,_,_⟩:=xV.out w0 HB0.out
 have xs:∀o,(w0.alloc o).cell? ⟨W.heap.size,0,none⟩=some (.string nm):=fun o=>(HX0.out.below (below_alloc2 w0 o)).get 0 _ rfl
 go_wp2_with fail
 have hbx:=below_alloc2 w0 (.cells #[.slice dA dn dc,.slice lA ln lc] 25)
 refine(wM.out _ (HB0.out.trans (hbx.mono HB0.out.size))).mono ?_
 clear wM x0 x1 xs
 rintro e w1 ⟨hb1,hra⟩
 have HB1:=hide (HB0.out.trans ((hbx.trans (hb1.mono hbx.size)).mono HB0.out.size))
 have eF:=hide (HX0.out.below (hbx.trans (hb1.mono hbx.size)))
 clear hbx hb1 HB0 HX0
 simp only[aC.au]at hra
 rcases hra with⟨hE,rfl⟩ | ⟨hEa,m1,v1,rfl,hm1,hlo1,Ru,hd1,hl1⟩
 ·have HF:=hide (fun o=>HBAD.out _ (.inl ⟨hE,rfl⟩) (w1.alloc o) (HB1.out.alloc HB1.out.size o))
  generalize dS nm (ds.map ak.dev) ls=C at*
  have hC2:(C != 0)=true:=by simpa using hE
  clear hE
  go_wp2
  exact HF.out _
 have eY:=hide (And.intro hEa (And.intro Ru (And.intro hd1 hl1)))
 have hw1:W.heap.size+1≤w1.heap.size:=by have:=eF.out.lt;omega
 have uT:=hide (show bq w1 w1.heap.size m1 from hm1)
 clear hm1 hlo1 Ru hd1 hl1 hEa
 obtain⟨mA,mn,mc,ms,kA,kn,kc,ks⟩:=m1
 simp only[aC.val,aC.au]at*
 have HL3:=hide (FH w1 mA kA mn mc kn kc)
 have hs3:((w1.alloc (.cells #[.slice mA mn mc,.slice kA kn kc] 25)).alloc (.cells #[.slice mA mn mc,.slice kA kn kc] 25)).heap.size =w1.heap.size+2:=by simp
 have HA3:=hide (below_alloc3 w1 (.cells #[.slice mA mn mc,.slice kA kn kc] 25) (.cells #[.slice mA mn mc,.slice kA kn kc] 25))
 go_wp2_with (at_builtin;refine aT _ rfl (.tmp 34) (.tmp 36) 53 rfl w1.heap.size 25 i0 _ 2 48 Tryz.underlying53 hi0 hy0 hy1 hy2 rfl (by omega) (.slice none 0 0) 0 [] rfl (World.ownsRow_nil _ _ _ _) (w1.heap.size+2) (some ⟨w1.heap.size+1,0,none⟩) 1 1 [.slice mA mn mc,.slice kA kn kc] rfl HL3.out (by intro u hu;simp at hu;rcases hu with rfl | rfl<;>rfl) (by simp only[maxLen];omega) (by omega) (by rw[hs3];omega) ?_;intro V1 w2 hown1 hg1 I8;obtain⟨s1,c1,rfl,_⟩:=hown1.form (by omega);have HT1:=hide (And.intro hown1 (And.intro hg1 I8));clear hown1 hg1 I8)
 have hs1:s1=w1.heap.size+2:=by
  rcases HT1.out.2.2 with h | h
  ·cases h
  ·rw[hs3]at h;exact Option.some.inj h
 subst hs1
 have HB2:=hide (l8 HA3.out (Nat.le_refl _) HT1.out.2.1 (fun k hk=>by cases hk))
 have hlt2:w1.heap.size+2<w2.heap.size:=(HT1.out.1.lt _ rfl).2
 have mO:=hide HT1.out.1
 have Gy:=hide (HB1.out.trans (HB2.out.mono HB1.out.size))
 have bZ:=hide (eF.out.below HB2.out)
 have Eu:=hide (show bq w2 w1.heap.size ⟨mA,mn,mc,ms,kA,kn,kc,ks⟩from uT.out.below HB2.out (Nat.le_refl _))
 clear HT1 HA3 HL3 hs3 HB2 uT HB1 eF
 rw[rounds_succ]
 obtain⟨_,_,x2,x3⟩:=xV.out w2 Gy.out
 have xs:∀o,(w2.alloc o).cell? ⟨W.heap.size,0,none⟩=some (.string nm):=fun o=>(bZ.out.below (below_alloc2 w2 o)).get 0 _ rfl
 go_wp2_with fail
 have hbx:=below_alloc2 w2 (.cells #[.slice eA en ec,.slice fA fn fc] 25)
 refine(jw.out _ (Gy.out.trans (hbx.mono Gy.out.size))).mono ?_
 clear jw x2 x3 xs xV
 rintro e w3 ⟨hb3,hra⟩
 have KH:=hbx.trans (hb3.mono hbx.size)
 have HB3:=hide (Gy.out.trans (KH.mono Gy.out.size))
 have gL:=hide (bZ.out.below KH)
 have hlt3:w2.heap.size<w3.heap.size:=by have:=hb3.size;rw[World.size_alloc]at this;omega
 have ZK:=hide (Eu.out.below (KH.mono (by omega)) (Nat.le_refl _))
 have GU:=hide (own_below mO.out KH)
 clear hbx hb3 KH Gy bZ Eu mO
 simp only[aC.au]at hra
 rcases hra with⟨hE,rfl⟩ | ⟨hEa,m2,v2,rfl,hm2,hlo2,Rv,hd2,hl2⟩
 ·have HF:=hide (fun o=>HBAD.out _ (.inr (.inl ⟨eY.out.1,hE,rfl⟩)) (w3.alloc o) (HB3.out.alloc HB3.out.size o))
  generalize dS nm (es.map ak.dev) fs=C at*
  have hC2:(C != 0)=true:=by simpa using hE
  clear hE
  go_wp2
  exact HF.out _
 have HS2:=hide (And.intro hEa (And.intro Rv (And.intro hd2 hl2)))
 have OZ:=hide hlo2
 have qX:=hide (show bq w3 w3.heap.size m2 from hm2)
 clear hm2 hlo2 Rv hd2 hl2 hEa
 obtain⟨nA,nn,nc,ns,pA,pn,pc,ps⟩:=m2
 simp only[aC.val,aC.au]at*
 have Dt:=hide (FH w3 nA pA nn nc pn pc)
 have hs5:((w3.alloc (.cells #[.slice nA nn nc,.slice pA pn pc] 25)).alloc (.cells #[.slice nA nn nc,.slice pA pn pc] 25)).heap.size =w3.heap.size+2:=by simp
 have Wy:=hide (below_alloc3 w3 (.cells #[.slice nA nn nc,.slice pA pn pc] 25) (.cells #[.slice nA nn nc,.slice pA pn pc] 25))
 have Aj:=hide (own_below GU.out Wy.out)
 go_wp2_with (at_builtin;refine aT _ rfl (.tmp 34) (.tmp 36) 53 rfl w1.heap.size 25 i0 _ 2 48 Tryz.underlying53 hi0 hy0 hy1 hy2 rfl (by omega) (.slice (some ⟨w1.heap.size+2,0,none⟩) 1 c1) 1 ([]++[.slice mA mn mc,.slice kA kn kc]) rfl Aj.out (w3.heap.size+2) (some ⟨w3.heap.size+1,0,none⟩) 1 1 [.slice nA nn nc,.slice pA pn pc] rfl Dt.out (by intro u hu;simp at hu;rcases hu with rfl | rfl<;>rfl) (by simp only[maxLen];omega) (by omega) (by rw[hs5];omega) ?_;intro V2 w4 hown2 hg2 ZL;obtain⟨s2,c2,rfl,_⟩:=hown2.form (by omega);have HT2:=hide (And.intro hown2 (And.intro hg2 ZL));clear hown2 hg2 ZL)
 have tV:=hide (l8 (Wy.out.mono (show w1.heap.size≤w3.heap.size by omega)) (show w1.heap.size≤w3.heap.size by omega) HT2.out.2.1 (fun k hk=>by have e:w1.heap.size+2=k:=Option.some.inj hk;omega))
 have dM:=hide (HB3.out.trans (tV.out.mono (by omega)))
 have mQ:=hide (gL.out.same (tV.out.block _ (by omega)))
 have Uk:=hide (show bq w4 w4.heap.size ⟨mA,mn,mc,ms,kA,kn,kc,ks⟩from ZK.out.below tV.out (by have:=tV.out.size;omega))
 have ZM:=hide (show bq w4 w4.heap.size ⟨nA,nn,nc,ns,pA,pn,pc,ps⟩from by
  have h5:=qX.out.below Wy.out (Nat.le_refl _)
  refine h5.stay (bG.l7 HT2.out.2.1) (fun a ha=>?_) (fun a ha=>?_) (fun d hd=>?_) tV.out.size
  ·have:=OZ.out.d a ha
   intro e;have e2:a.block=w1.heap.size+2:=Option.some.inj e;simp only[World.size_alloc]at this;omega
  ·have:=OZ.out.l a ha
   intro e;have e2:a.block=w1.heap.size+2:=Option.some.inj e;simp only[World.size_alloc]at this;omega
  ·refine(OZ.out.o d hd).weak fun q hq e=>?_
   have e2:_=w1.heap.size+2:=Option.some.inj e;simp only[World.size_alloc]at hq;omega)
 have q0:=HT2.out.1.cellAt 0 (by omega)
 have q1:=HT2.out.1.cellAt 1 (by omega)
 have q2:=HT2.out.1.cellAt 2 (by omega)
 have q3:=HT2.out.1.cellAt 3 (by omega)
 have hs2:=(HT2.out.1.lt _ rfl).2
 have HQ:=hide (fun(w':World) (hb:Below w4.heap.size w4 w')=>show(w'.cell? ⟨s2,0,none⟩=some (.slice mA mn mc)∧w'.cell? ⟨s2,1,none⟩=some (.slice kA kn kc))∧(w'.cell? ⟨s2,2,none⟩=some (.slice nA nn nc)∧w'.cell? ⟨s2,3,none⟩=some (.slice pA pn pc))from
  ⟨⟨(hb.cell (p:=⟨s2,0,none⟩) hs2).trans q0,(hb.cell (p:=⟨s2,1,none⟩) hs2).trans q1⟩,(hb.cell (p:=⟨s2,2,none⟩) hs2).trans q2,(hb.cell (p:=⟨s2,3,none⟩) hs2).trans q3⟩)
 clear q0 q1 q2 q3 HT2 tV Aj Dt hs5 Wy qX OZ GU ZK gL HB3
 rw[rounds_succ]
 go_wp2_with fail
 refine wp_loop_rounds 3 ?_
 rw[rounds_succ]
 obtain⟨⟨x0,x1⟩,_⟩:=HQ.out w4 (Below.refl _ _)
 have xb:∀o,(w4.alloc o).cell? ⟨s2,0,none⟩=some (.slice mA mn mc)∧(w4.alloc o).cell? ⟨s2,1,none⟩=some (.slice kA kn kc):=fun o=>(HQ.out _ (below_alloc2 w4 o)).1
 go_wp2_with fail
 have hbx:=below_alloc2 w4 (.cells #[.slice mA mn mc,.slice kA kn kc] 25)
 refine(AL ⟨mA,mn,mc,ms,kA,kn,kc,ks⟩ most hmo _ (Uk.out.below hbx hbx.size)).mono ?_
 clear x0 x1 xb
 rintro e w5 ⟨hb5,hra⟩
 have Ah:=hbx.trans (hb5.mono hbx.size)
 have vD:=hide (dM.out.trans (Ah.mono dM.out.size))
 have bS:=hide (mQ.out.below Ah)
 have M0:=hide ((Bx.new w4 #[.slice mA mn mc,.slice kA kn kc] 25).below hb5)
 have HQ5:=hide (fun(w':World) (hb:Below w5.heap.size w5 w')=>(HQ.out w' (Ah.trans (hb.mono Ah.size))).2)
 have FB:=hide (show bq w5 w5.heap.size ⟨mA,mn,mc,ms,kA,kn,kc,ks⟩from Uk.out.below Ah Ah.size)
 have ZN:=hide (show bq w5 w5.heap.size ⟨nA,nn,nc,ns,pA,pn,pc,ps⟩from ZM.out.below Ah Ah.size)
 clear hbx hb5 Ah dM mQ HQ Uk ZM
 simp only[aC.au]at hra
 rcases hra with⟨N1,K1,rfl,hne1,hlo1⟩ | ⟨E,hE,rfl⟩
 case inr=>
  have HF:=hide (HBAD.out _ (.inr (.inr ⟨eY.out.1,HS2.out.1,hE.side (by obtain⟨a1,a2,a3,a4⟩:=eY.out;rw[a3,a4];exact yg (xU a1).1 a2.closed)⟩)) w5 vD.out)
  have hC2:(E != 0)=true:=by simpa using hE.ne
  clear hE
  go_wp2
  exact HF.out
 have HR1:=hide hlo1
 have ZO:=hide hne1.1
 clear hlo1 hne1
 have p0:=M0.out.get 0 _ rfl
 have ZP:=hide (show jy (fun d:ak=>decide (d.kind=1) && dQ d.name nm) ms=dK nm (ms.map ak.dev)from DK ak.dev (lS nm) ms)
 go_wp2_with fail
 have hmn:mn≤10:=BZ FB.out ZO.out
 refine(nJ ms mA mn mc 78 #[.pointer (some ⟨W.heap.size,0,none⟩)] (fun d=>decide (d.kind=1) && dQ d.name nm) w5 (by omega) FB.out.ds (fun args w=>by go_simp) (hide (fun r w' hr hw'=>AJ r nm W.heap.size w' (Nat.lt_of_lt_of_le bS.out.lt hw'.size) ((bS.out.below hw').get 0 _ rfl)))).mono ?_
 rintro e w6 ⟨rfl,hb6⟩
 rw[ZP.out]
 have pz:=hide (vD.out.trans (hb6.mono vD.out.size))
 have afO:W.heap.size≤w6.heap.size:=pz.out.size
 have gq:=hide (bS.out.below hb6)
 have HQ6:=hide (fun(w':World) (hb:Below w6.heap.size w6 w')=>HQ5.out w' (hb6.trans (hb.mono hb6.size)))
 have ZQ:=hide (show bq w6 w6.heap.size ⟨nA,nn,nc,ns,pA,pn,pc,ps⟩from ZN.out.below hb6 hb6.size)
 have oV:=hide (HR1.out.below hb6)
 clear hb6 vD bS HQ5 ZN HR1 p0 M0 FB ZP ZO
 generalize hI1:dK nm (ms.map ak.dev)=I1 at*
 have HI1:=hide hI1
 clear hI1
 have o9:=hide (FI w6 N1 I1)
 have hs7:(w6.alloc (.cells #[.pointer (some ⟨N1,0,none⟩),.int .i64 I1,.int .i64 0] 107)).heap.size =w6.heap.size+1:=by simp
 go_wp2_with (at_builtin;refine aT _ rfl (.tmp 58) (.tmp 63) 103 rfl w6.heap.size 107 i1 _ 3 24 Tryz.underlying103 hi1 hz0 hz1 hz2 rfl (by omega) (.slice none 0 0) 0 [] rfl (World.ownsRow_nil _ _ _ _) (w6.heap.size+1) (some ⟨w6.heap.size,0,none⟩) 1 1 [.pointer (some ⟨N1,0,none⟩),.int .i64 I1,.int .i64 0] rfl o9.out (by intro u hu;simp at hu;rcases hu with rfl | rfl | rfl<;>rfl) (by simp only[maxLen];omega) (by omega) (by rw[hs7];omega) ?_;intro V3 w7 hown3 hg3 ZR;obtain⟨s3,c3,rfl,_⟩:=hown3.form (by omega);have HT3:=hide (And.intro hown3 (And.intro hg3 ZR));clear hown3 hg3 ZR)
 have hs3:s3=w6.heap.size+1:=by
  rcases HT3.out.2.2 with h | h
  ·cases h
  ·rw[hs7]at h;exact Option.some.inj h
 subst hs3
 have Cb:=l8 (below_alloc2 w6 (.cells #[.pointer (some ⟨N1,0,none⟩),.int .i64 I1,.int .i64 0] 107)) (Nat.le_refl _) HT3.out.2.1 (fun k hk=>by cases hk)
 have afP:w6.heap.size+1<w7.heap.size:=(HT3.out.1.lt _ rfl).2
 have HO7:=hide HT3.out.1
 have zo:=hide (pz.out.trans (Cb.mono pz.out.size))
 have lU:=hide (gq.out.below Cb)
 have ZT:=hide (fun(w':World) (hb:Below w7.heap.size w7 w')=>HQ6.out w' (Cb.trans (hb.mono Cb.size)))
 have Ul:=hide (show bq w7 w7.heap.size ⟨nA,nn,nc,ns,pA,pn,pc,ps⟩from ZQ.out.below Cb Cb.size)
 have Rw:=hide Cb
 clear Cb HT3 hs7 o9 pz gq HQ6 ZQ
 rw[rounds_succ]
 obtain⟨x0,x1⟩:=ZT.out w7 (Below.refl _ _)
 have xb:∀o,(w7.alloc o).cell? ⟨s2,2,none⟩=some (.slice nA nn nc)∧(w7.alloc o).cell? ⟨s2,3,none⟩=some (.slice pA pn pc):=fun o=>ZT.out _ (below_alloc2 w7 o)
 go_wp2_with fail
 have hbx:=below_alloc2 w7 (.cells #[.slice nA nn nc,.slice pA pn pc] 25)
 refine(AL ⟨nA,nn,nc,ns,pA,pn,pc,ps⟩ most hmo _ (Ul.out.below hbx hbx.size)).mono ?_
 clear x0 x1 xb ZT
 rintro e w8 ⟨lN,hra⟩
 have Cc:=hbx.trans (lN.mono hbx.size)
 have kF:=hide (zo.out.trans (Cc.mono zo.out.size))
 have rY:=hide (lU.out.below Cc)
 have UN:=hide ((Bx.new w7 #[.slice nA nn nc,.slice pA pn pc] 25).below lN)
 have JC:=hide (show bq w8 w8.heap.size ⟨nA,nn,nc,ns,pA,pn,pc,ps⟩from Ul.out.below Cc Cc.size)
 have HO8:=hide (own_below HO7.out Cc)
 have afQ:w7.heap.size≤w8.heap.size:=Cc.size
 have xM:=hide (Rw.out.trans (Cc.mono (by omega)))
 clear hbx lN Cc zo lU Ul HO7 Rw
 simp only[aC.au]at hra
 rcases hra with⟨N2,K2,rfl,hne2,hlo2⟩ | ⟨E,hE,rfl⟩
 case inr=>
  have HF:=hide (HBAD.out _ (.inr (.inr ⟨eY.out.1,HS2.out.1,hE.side (by obtain⟨a1,a2,a3,a4⟩:=HS2.out;rw[a3,a4];exact yg (xU a1).1 a2.closed)⟩)) w8 kF.out)
  have hC2:(E != 0)=true:=by simpa using hE.ne
  clear hE
  go_wp2
  exact HF.out
 have HR2:=hide hlo2
 have ac9:=hide hne2.2
 have ZU:=hide hne2.1
 clear hlo2 hne2
 have p0:=UN.out.get 0 _ rfl
 have ZV:=hide (show jy (fun d:ak=>decide (d.kind=1) && dQ d.name nm) ns=dK nm (ns.map ak.dev)from DK ak.dev (lS nm) ns)
 go_wp2_with fail
 have hmn:nn≤10:=BZ JC.out ZU.out
 refine(nJ ns nA nn nc 78 #[.pointer (some ⟨W.heap.size,0,none⟩)] (fun d=>decide (d.kind=1) && dQ d.name nm) w8 (by omega) JC.out.ds (fun args w=>by go_simp) (hide (fun r w' hr hw'=>AJ r nm W.heap.size w' (Nat.lt_of_lt_of_le rY.out.lt hw'.size) ((rY.out.below hw').get 0 _ rfl)))).mono ?_
 rintro e w9 ⟨rfl,qw⟩
 rw[ZV.out]
 have kP:=hide (kF.out.trans (qw.mono kF.out.size))
 have Mg:=hide (own_below HO8.out qw)
 have HC9:=hide (xM.out.trans (qw.mono (by omega)))
 have ZW:=hide (HR2.out.below qw)
 have afR:w8.heap.size≤w9.heap.size:=qw.size
 clear qw kF rY HO8 xM HR2 p0 UN JC ZV ZU
 generalize hI2:dK nm (ns.map ak.dev)=I2 at*
 have HI2:=hide hI2
 clear hI2
 have qd:=hide (FI w9 N2 I2)
 have Nz:(w9.alloc (.cells #[.pointer (some ⟨N2,0,none⟩),.int .i64 I2,.int .i64 0] 107)).heap.size =w9.heap.size+1:=by simp
 have bO:=hide (below_alloc2 w9 (.cells #[.pointer (some ⟨N2,0,none⟩),.int .i64 I2,.int .i64 0] 107))
 have Em:=hide (own_below Mg.out bO.out)
 go_wp2_with (at_builtin;refine aT _ rfl (.tmp 58) (.tmp 63) 103 rfl w6.heap.size 107 i1 _ 3 24 Tryz.underlying103 hi1 hz0 hz1 hz2 rfl (by omega) (.slice (some ⟨w6.heap.size+1,0,none⟩) 1 c3) 1 ([]++[.pointer (some ⟨N1,0,none⟩),.int .i64 I1,.int .i64 0]) rfl Em.out (w9.heap.size+1) (some ⟨w9.heap.size,0,none⟩) 1 1 [.pointer (some ⟨N2,0,none⟩),.int .i64 I2,.int .i64 0] rfl qd.out (by intro u hu;simp at hu;rcases hu with rfl | rfl | rfl<;>rfl) (by simp only[maxLen];omega) (by omega) (by rw[Nz];omega) ?_;intro V4 jN O0 hg4 ZX;obtain⟨s4,c4,rfl,_⟩:=O0.form (by omega);have M5:=hide (And.intro O0 (And.intro hg4 ZX));clear O0 hg4 ZX)
 have Et:=hide (l8 (HC9.out.trans (bO.out.mono (by omega))) (Nat.le_refl _) M5.out.2.1 (fun k hk=>by have e:w6.heap.size+1=k:=Option.some.inj hk;omega))
 have uw:=hide (l8 (kP.out.trans (bO.out.mono kP.out.size)) (Nat.le_refl _) M5.out.2.1 (fun k hk=>by have e:w6.heap.size+1=k:=Option.some.inj hk;omega))
 have aaG:=hide (oV.out.below Et.out)
 have aaH:=hide ((ZW.out.below bO.out).keep M5.out.2.1.size (fun i hi hl=>M5.out.2.1.block i hl (fun e=>by
  have e2:i=w6.heap.size+1:=Option.some.inj e
  simp only[World.size_alloc]at hi
  omega)))
 have hcell:=hide (fun(j:Nat) u (hu: [Value.pointer (some ⟨N1,0,none⟩),.int .i64 I1,.int .i64 0,.pointer (some ⟨N2,0,none⟩),.int .i64 I2,.int .i64 0][j]?=some u)=>show jN.cell? ⟨s4,j,none⟩=some u from by
  have h:=M5.out.1.cells rfl j u hu
  simpa[addr_add]using h)
 clear Et HC9 oV ZW M5 bO Em qd Nz Mg kP
 rw[rounds_succ]
 go_wp2
 obtain⟨a1,a2,a3,a4⟩:=eY.out
 obtain⟨b1,b2,b3,b4⟩:=HS2.out
 have r1:=aaG.out.at_
 have r2:=aaH.out.at_
 have hc:=hcell.out
 rw[← HI1.out,← HI2.out,a3,b3]at hc
 rw[a3,a4]at r1
 rw[b3,b4]at r2
 exact qC.out s4 c4 N1 N2 K1 K2 v1 v2 jN uw.out ⟨a1,a2,r1.fix⟩ ⟨b1,b2,r2.fix⟩ r1 r2 hc ac9.out
def Rx (a b:aC) (nm:ByteArray) (most:Int) (W:World) (e:Ending) (W':World):Prop:=Below W.heap.size W W'∧
 ((∃E:Int,uH (dS nm a.au a.ls) (dS nm b.au b.ls) most E∧e= .returned (Fj E))∨∃F G,¬bT most∧jP a nm F∧jP b nm G∧e= .returned (QX (mV F G 16384)))
theorem Gz (a b:aC) (nm:ByteArray) (most:Int) (hmo:aO most) (W:World) (ha:bq W W.heap.size a) (hb:bq W W.heap.size b):
  Calls Tryz.prog 16 #[a.val,b.val,.string nm,.int .i64 most] W (Rx a b nm most W):=by
 have QW:=hide (fun(w':World) (hb':Below W.heap.size W w') (Nn cn:Nat) (hN:Nn<w'.heap.size) hc=>Lu a b nm most hmo Nn cn w' (ha.below hb' hb'.size) (hb.below hb' hb'.size) hN hc)
 have HBAD:=hide (fun(E:Int) (h0:uH (dS nm a.au a.ls) (dS nm b.au b.ls) most E) (w':World) (hb':Below W.heap.size W w')=>show Rx a b nm most W (.returned (Fj E)) w' from⟨hb',.inl ⟨E,h0,rfl⟩⟩)
 have qC:=hide (fun(va vb:Nat→Bool) (Ka Kb:Nat) (h1:pE a.au a.ls nm va Ka) (h2:pE b.au b.ls nm vb Kb) (h3:¬bT most) (w':World) (hb':Below W.heap.size W w')=>show Rx a b nm most W (.returned (QX (mV (qG a.au a.ls nm va Ka) (qG b.au b.ls nm vb Kb) 16384))) w' from
  ⟨hb',.inr ⟨_,_,h3,⟨va,Ka,h1,rfl⟩,⟨vb,Kb,h2,rfl⟩,rfl⟩⟩)
 clear ha hb
 generalize Rx a b nm most W=Q at*
 obtain⟨dA,dn,dc,ds,lA,ln,lc,ls⟩:=a
 obtain⟨eA,en,ec,es,fA,fn,fc,fs⟩:=b
 simp only[aC.val,aC.au]at*
 go_enter Tryz.func16,Tryz.ntmps16
 go_wp2_with fail
 have hb1:=((below_alloc3 W (.cells #[.slice dA dn dc,.slice lA ln lc] 25) (.cells #[.slice eA en ec,.slice fA fn fc] 25)).trans ((below_alloc3 _ (.cells #[.int .i64 0,.int .i64 0,.int .i64 0,.int .i64 0] 29) (.cells #[.slice dA dn dc,.slice lA ln lc,.slice eA en ec,.slice fA fn fc] 25)).mono (below_alloc3 W _ _).size))
 have HB1:=hide hb1
 have hbx:=Y4 [(#[.slice dA dn dc,.slice lA ln lc],25),(#[.slice eA en ec,.slice fA fn fc],25),(#[.int .i64 0,.int .i64 0,.int .i64 0,.int .i64 0],29),(#[.slice dA dn dc,.slice lA ln lc,.slice eA en ec,.slice fA fn fc],25)] W
 have HR1:=hide (show Bx ((((W.alloc (.cells #[.slice dA dn dc,.slice lA ln lc] 25)).alloc (.cells #[.slice eA en ec,.slice fA fn fc] 25)).alloc (.cells #[.int .i64 0,.int .i64 0,.int .i64 0,.int .i64 0] 29)).alloc (.cells #[.slice dA dn dc,.slice lA ln lc,.slice eA en ec,.slice fA fn fc] 25)) (W.heap.size+2) #[.int .i64 0,.int .i64 0,.int .i64 0,.int .i64 0] 29 from hbx 2 _ _ rfl)
 have Eu:=hide (show Bx ((((W.alloc (.cells #[.slice dA dn dc,.slice lA ln lc] 25)).alloc (.cells #[.slice eA en ec,.slice fA fn fc] 25)).alloc (.cells #[.int .i64 0,.int .i64 0,.int .i64 0,.int .i64 0] 29)).alloc (.cells #[.slice dA dn dc,.slice lA ln lc,.slice eA en ec,.slice fA fn fc] 25)) (W.heap.size+3) #[.slice dA dn dc,.slice lA ln lc,.slice eA en ec,.slice fA fn fc] 25 from hbx 3 _ _ rfl)
 clear hb1 hbx
 have e2:W.heap.size+1+1=W.heap.size+2:=rfl
 have e3:W.heap.size+1+1+1=W.heap.size+3:=rfl
 rw[e3,e2]
 clear e2 e3
 generalize World.alloc (World.alloc (World.alloc (World.alloc W _) _) _) _=w1 at*
 refine(QW.out w1 HB1.out (W.heap.size+3) 2 Eu.out.lt (fun j u hu=>Eu.out.get j u (by simpa[Gw]using hu))).mono ?_
 clear QW Eu
 rintro e w2 ⟨hb2,hra⟩
 have HB2:=hide (HB1.out.trans (hb2.mono HB1.out.size))
 have HR2:=hide (HR1.out.below hb2)
 clear hb2 HB1 HR1
 simp only[aC.au]at hra
 rcases hra with⟨E,hE,rfl⟩ | ⟨s,c,Na,Nb,Ka,Kb,va,vb,rfl,hsa,hsb,hra,hrb,hcell,iQ⟩
 ·have HF:=hide (fun w' hb=>HBAD.out E hE w' hb)
  have hC2:(E != 0)=true:=by simpa using hE.ne
  have z0:=HR2.out.get 0 _ rfl
  have z1:=HR2.out.get 1 _ rfl
  have z2:=HR2.out.get 2 _ rfl
  have z3:=HR2.out.get 3 _ rfl
  have f0:=HR2.out.frozen 0
  have f1:=HR2.out.frozen 1
  have f2:=HR2.out.frozen 2
  have f3:=HR2.out.frozen 3
  clear hE
  go_wp2
  have lZ:=(((HR2.out.set 0 (.int .i64 0)).set 1 (.int .i64 0)).set 2 (.int .i64 0)).set 3 (.int .i64 0)
  have y0:=lZ.get 0 (.int .i64 0) rfl
  have y1:=lZ.get 1 (.int .i64 0) rfl
  have y2:=lZ.get 2 (.int .i64 0) rfl
  have y3:=lZ.get 3 (.int .i64 0) rfl
  refine bodyPost_ret (v:=Fj E) (by simp only[results,Tryz.f16];simp[go_sem,Fj,y0,y1,y2,y3]) rfl ?_
  exact HF.out _ ((((HB2.out.setCell (by show _≤W.heap.size+2;omega) _).setCell (by show _≤W.heap.size+2;omega) _).setCell (by show _≤W.heap.size+2;omega) _).setCell (by show _≤W.heap.size+2;omega) _)
 have HG:=hide (fun w' hb=>qC.out va vb Ka Kb hsa hsb iQ w' hb)
 have AO:=hide (fun(w':World) (hb:Below w2.heap.size w2 w')=>Lm Na Nb _ _ _ _ Ka Kb (dK nm (bP va (ds.map ak.dev) (ds.map ak.dev).length),0) (dK nm (bP vb (es.map ak.dev) (es.map ak.dev).length),0) ⟨KD _ _ (KE hsa),Rq⟩ ⟨KD _ _ (KE hsb),Rq⟩ w' (hra.below hb) (hrb.below hb))
 change Hid (∀(w':World) (hb:Below w2.heap.size w2 w'),Calls _ _ _ w' fun e W'=>e= .returned (nT (mV (qG (ds.map ak.dev) ls nm va Ka) (qG (es.map ak.dev) fs nm vb Kb) 16384))∧_)at AO
 generalize mV (qG (ds.map ak.dev) ls nm va Ka) (qG (es.map ak.dev) fs nm vb Kb) 16384=R at*
 simp only[z8]at AO
 generalize dK nm (bP va (ds.map ak.dev) (ds.map ak.dev).length)=I1 at*
 generalize dK nm (bP vb (es.map ak.dev) (es.map ak.dev).length)=I2 at*
 obtain⟨x0,x1,x2,x3,kk,hlv,hdv⟩:∃x0 x1 x2 x3 kk:Int,nT R= .tuple #[.agg #[.int .i64 x0,.int .i64 x1,.int .i64 x2,.int .i64 x3],.int .i64 kk]∧QX R= .tuple #[.agg #[.int .i64 x0,.int .i64 x1,.int .i64 x2,.int .i64 x3],.int .i64 kk,.int .i64 0]:=by
  rcases R with _ | ⟨c,k⟩
  ·exact⟨0,0,0,0,0,rfl,rfl⟩
  ·obtain⟨x0,x1,x2,x3,h⟩:=tC c
   exact⟨x0,x1,x2,x3,k,by simp only[nT,h],by simp only[QX,h]⟩
 rw[hlv]at AO
 have mE:=hide hdv
 have HQ:=hide (fun(w':World) (hb:Below w2.heap.size w2 w')=>show w'.cell? ⟨s,0,none⟩=some (.pointer (some ⟨Na,0,none⟩))∧w'.cell? ⟨s,1,none⟩=some (.int .i64 I1)∧w'.cell? ⟨s,2,none⟩=some (.int .i64 0)∧w'.cell? ⟨s,3,none⟩=some (.pointer (some ⟨Nb,0,none⟩))∧w'.cell? ⟨s,4,none⟩=some (.int .i64 I2)∧w'.cell? ⟨s,5,none⟩=some (.int .i64 0)from by
  have hl:s<w2.heap.size:=World.block_lt_of_cell? w2 ⟨s,0,none⟩ (hcell 0 _ rfl)
  exact⟨(hb.cell (p:=⟨s,0,none⟩) hl).trans (hcell 0 _ rfl),(hb.cell (p:=⟨s,1,none⟩) hl).trans (hcell 1 _ rfl),(hb.cell (p:=⟨s,2,none⟩) hl).trans (hcell 2 _ rfl),(hb.cell (p:=⟨s,3,none⟩) hl).trans (hcell 3 _ rfl),(hb.cell (p:=⟨s,4,none⟩) hl).trans (hcell 4 _ rfl),(hb.cell (p:=⟨s,5,none⟩) hl).trans (hcell 5 _ rfl)⟩)
 clear hlv hdv hcell hra hrb hsa hsb iQ qC HBAD
 go_wp2_with fail
 have HD:=hide (Below.drew (Below.refl w2.heap.size w2))
 refine aY (fun w'=>w'.cell? ⟨s,0,none⟩=some (.pointer (some ⟨Na,0,none⟩))∧w'.cell? ⟨s,1,none⟩=some (.int .i64 I1)∧w'.cell? ⟨s,2,none⟩=some (.int .i64 0)∧w'.cell? ⟨s,3,none⟩=some (.pointer (some ⟨Nb,0,none⟩))∧w'.cell? ⟨s,4,none⟩=some (.int .i64 I2)∧w'.cell? ⟨s,5,none⟩=some (.int .i64 0)) 8 (by kernel_rfl) (HQ.out _ HD.out) (fun hS=>?_)
 refine rP 0 hS ?_
 refine rP 1 hS ?_
 refine rL 2 [3,8] rfl hS (by intro w hSw;obtain⟨s0,s1,s2,s3,s4,s5⟩:=hSw;go_simp;try with_reducible rfl) ?_
 refine rP 3 hS ?_
 refine rP 4 hS ?_
 refine rP 5 hS ?_
 refine rL 6 [7,8] rfl hS (by intro w hSw;obtain⟨s0,s1,s2,s3,s4,s5⟩:=hSw;go_simp;try with_reducible rfl) ?_
 refine rP 7 hS ?_
 intro inv
 clear hS
 have jK:Hid (w2.drew.heap.size=w2.heap.size):=hide rfl
 generalize hw3:World.drew w2=w3 at*
 have hcl:=HR2.out.lt
 refine FJ (i:=8) (j:=12) rfl rfl (by kernel_rfl) inv (fun K hK=>?_) (fun K hK=>?_)
 ·go_simp
  refine(AO.out _ HD.out).mono ?_
  rintro e w4 ⟨rfl,hb4⟩
  have dM:=hide ((HB2.out.trans (HD.out.mono HB2.out.size)).trans (hb4.mono (by rw[jK.out];exact HB2.out.size)))
  have HR4:=hide ((HR2.out.below HD.out).below hb4)
  have Um:=HR4.out.lt
  have hS:=HQ.out _ (HD.out.trans (hb4.mono (by rw[jK.out];exact Nat.le_refl _)))
  clear HB2 HR2 HD AO HQ hb4 jK hcl
  go_simp
  refine hK.out _ _ (fun h=>by cases h) ?_
  clear hK K inv
  intro inv
  try simp only[Act.put,aK,aL,aM]
  revert inv
  refine rP 9 hS ?_
  refine rP 10 hS ?_
  refine rP 11 hS ?_
  intro inv
  refine rT 12 inv fun K hK=>?_
  go_simp
  refine hK.out _ _ ?_
  clear hK K inv
  intro inv
  try simp only[Act.put,aK,aL,aM]
  have Un:=hide (dM.out.alloc dM.out.size (.cells #[.int .i64 0,.int .i64 0,.int .i64 0,.int .i64 0] 29))
  have Uo:=hide (HR4.out.below (below_alloc2 w4 (.cells #[.int .i64 0,.int .i64 0,.int .i64 0,.int .i64 0] 29)))
  have nO:=hide (Bx.new w4 #[.int .i64 0,.int .i64 0,.int .i64 0,.int .i64 0] 29)
  have hne:W.heap.size+2≠w4.heap.size:=by omega
  have hle:W.heap.size≤w4.heap.size:=by omega
  clear hS dM HR4 Um
  generalize World.alloc w4 _=w5 at*
  generalize w4.heap.size=N at*
  have k0:=nO.out.get 0 _ rfl
  have k1:=nO.out.get 1 _ rfl
  have k2:=nO.out.get 2 _ rfl
  have k3:=nO.out.get 3 _ rfl
  have g0:=nO.out.frozen 0
  have g1:=nO.out.frozen 1
  have g2:=nO.out.frozen 2
  have g3:=nO.out.frozen 3
  refine rT 13 inv fun K hK=>?_
  go_simp
  refine hK.out _ _ ?_
  clear hK K inv
  intro inv
  try simp only[Act.put,aK,aL,aM]
  refine rT 14 inv fun K hK=>?_
  go_simp
  refine hK.out _ _ ?_
  clear hK K inv
  intro inv
  try simp only[Act.put,aK,aL,aM]
  refine rD ?_
  clear inv
  have bS:=hide ((((nO.out.set 0 (.int .i64 x0)).set 1 (.int .i64 x1)).set 2 (.int .i64 x2)).set 3 (.int .i64 x3))
  have gZ:=hide ((((Uo.out.far ⟨N,0,none⟩ (.int .i64 x0) hne).far ⟨N,1,none⟩ (.int .i64 x1) hne).far ⟨N,2,none⟩ (.int .i64 x2) hne).far ⟨N,3,none⟩ (.int .i64 x3) hne)
  have vD:=hide (show Below W.heap.size W ((((w5.setCell ⟨N,0,none⟩ (.int .i64 x0)).setCell ⟨N,1,none⟩ (.int .i64 x1)).setCell ⟨N,2,none⟩ (.int .i64 x2)).setCell ⟨N,3,none⟩ (.int .i64 x3))from(((Un.out.setCell hle _).setCell hle _).setCell hle _).setCell hle _)
  clear k0 k1 k2 k3 g0 g1 g2 g3
  have z0:=gZ.out.get 0 _ rfl
  have z1:=gZ.out.get 1 _ rfl
  have z2:=gZ.out.get 2 _ rfl
  have z3:=gZ.out.get 3 _ rfl
  have f0:=gZ.out.frozen 0
  have f1:=gZ.out.frozen 1
  have f2:=gZ.out.frozen 2
  have f3:=gZ.out.frozen 3
  have k0:=bS.out.get 0 _ rfl
  have k1:=bS.out.get 1 _ rfl
  have k2:=bS.out.get 2 _ rfl
  have k3:=bS.out.get 3 _ rfl
  go_wp2
  have lZ:=(((gZ.out.set 0 (.int .i64 x0)).set 1 (.int .i64 x1)).set 2 (.int .i64 x2)).set 3 (.int .i64 x3)
  have y0:=lZ.get 0 (.int .i64 x0) rfl
  have y1:=lZ.get 1 (.int .i64 x1) rfl
  have y2:=lZ.get 2 (.int .i64 x2) rfl
  have y3:=lZ.get 3 (.int .i64 x3) rfl
  refine bodyPost_ret (v:=.tuple #[.agg #[.int .i64 x0,.int .i64 x1,.int .i64 x2,.int .i64 x3],.int .i64 kk,.int .i64 0]) (by simp only[results,Tryz.f16];simp[go_sem,y0,y1,y2,y3]) rfl ?_
  rw[← mE.out]
  exact HG.out _ ((((vD.out.setCell (by show _≤W.heap.size+2;omega) _).setCell (by show _≤W.heap.size+2;omega) _).setCell (by show _≤W.heap.size+2;omega) _).setCell (by show _≤W.heap.size+2;omega) _)
 ·go_simp
  have ZY:=hide ((HB2.out.trans (HD.out.mono HB2.out.size)).alloc (by rw[jK.out];exact HB2.out.size) (.cells #[.int .i64 0,.int .i64 0,.int .i64 0,.int .i64 0] 29))
  have HRn:=hide ((HR2.out.below HD.out).below (below_alloc2 w3 (.cells #[.int .i64 0,.int .i64 0,.int .i64 0,.int .i64 0] 29)))
  have Ry:=hide (Bx.new w3 #[.int .i64 0,.int .i64 0,.int .i64 0,.int .i64 0] 29)
  have xA:=HD.out.trans ((below_alloc2 w3 (.cells #[.int .i64 0,.int .i64 0,.int .i64 0,.int .i64 0] 29)).mono (by rw[jK.out];exact Nat.le_refl _))
  have hS:=HQ.out _ xA
  refine hK.out _ _ (fun _=>hS) ?_
  clear hK K inv
  intro inv
  try simp only[Act.put,aK,aL,aM]
  refine rO 8 inv fun K hK=>?_
  go_simp
  refine(AO.out _ xA).mono ?_
  rintro e w5 ⟨rfl,hb4⟩
  have Un:=hide (ZY.out.trans (hb4.mono ZY.out.size))
  have Uo:=hide (HRn.out.below hb4)
  have nO:=hide (Ry.out.below hb4)
  have hne:W.heap.size+2≠w3.heap.size:=by rw[jK.out];omega
  have hle:W.heap.size≤w3.heap.size:=by rw[jK.out];omega
  have hS:=HQ.out _ (xA.trans (hb4.mono xA.size))
  clear HB2 HR2 HD AO HQ hb4 jK hcl xA ZY HRn Ry
  go_simp
  refine hK.out _ _ (fun h=>by cases h) ?_
  clear hK K inv
  intro inv
  try simp only[Act.put,aK,aL,aM]
  revert inv
  refine rP 9 hS ?_
  refine rP 10 hS ?_
  refine rP 11 hS ?_
  intro inv
  clear hS
  generalize w3.heap.size=N at*
  have k0:=nO.out.get 0 _ rfl
  have k1:=nO.out.get 1 _ rfl
  have k2:=nO.out.get 2 _ rfl
  have k3:=nO.out.get 3 _ rfl
  have g0:=nO.out.frozen 0
  have g1:=nO.out.frozen 1
  have g2:=nO.out.frozen 2
  have g3:=nO.out.frozen 3
  refine rT 13 inv fun K hK=>?_
  go_simp
  refine hK.out _ _ ?_
  clear hK K inv
  intro inv
  try simp only[Act.put,aK,aL,aM]
  refine rT 14 inv fun K hK=>?_
  go_simp
  refine hK.out _ _ ?_
  clear hK K inv
  intro inv
  try simp only[Act.put,aK,aL,aM]
  refine rD ?_
  clear inv
  have bS:=hide ((((nO.out.set 0 (.int .i64 x0)).set 1 (.int .i64 x1)).set 2 (.int .i64 x2)).set 3 (.int .i64 x3))
  have gZ:=hide ((((Uo.out.far ⟨N,0,none⟩ (.int .i64 x0) hne).far ⟨N,1,none⟩ (.int .i64 x1) hne).far ⟨N,2,none⟩ (.int .i64 x2) hne).far ⟨N,3,none⟩ (.int .i64 x3) hne)
  have vD:=hide (show Below W.heap.size W ((((w5.setCell ⟨N,0,none⟩ (.int .i64 x0)).setCell ⟨N,1,none⟩ (.int .i64 x1)).setCell ⟨N,2,none⟩ (.int .i64 x2)).setCell ⟨N,3,none⟩ (.int .i64 x3))from(((Un.out.setCell hle _).setCell hle _).setCell hle _).setCell hle _)
  clear k0 k1 k2 k3 g0 g1 g2 g3
  have z0:=gZ.out.get 0 _ rfl
  have z1:=gZ.out.get 1 _ rfl
  have z2:=gZ.out.get 2 _ rfl
  have z3:=gZ.out.get 3 _ rfl
  have f0:=gZ.out.frozen 0
  have f1:=gZ.out.frozen 1
  have f2:=gZ.out.frozen 2
  have f3:=gZ.out.frozen 3
  have k0:=bS.out.get 0 _ rfl
  have k1:=bS.out.get 1 _ rfl
  have k2:=bS.out.get 2 _ rfl
  have k3:=bS.out.get 3 _ rfl
  go_wp2
  have lZ:=(((gZ.out.set 0 (.int .i64 x0)).set 1 (.int .i64 x1)).set 2 (.int .i64 x2)).set 3 (.int .i64 x3)
  have y0:=lZ.get 0 (.int .i64 x0) rfl
  have y1:=lZ.get 1 (.int .i64 x1) rfl
  have y2:=lZ.get 2 (.int .i64 x2) rfl
  have y3:=lZ.get 3 (.int .i64 x3) rfl
  refine bodyPost_ret (v:=.tuple #[.agg #[.int .i64 x0,.int .i64 x1,.int .i64 x2,.int .i64 x3],.int .i64 kk,.int .i64 0]) (by simp only[results,Tryz.f16];simp[go_sem,y0,y1,y2,y3]) rfl ?_
  rw[← mE.out]
  exact HG.out _ ((((vD.out.setCell (by show _≤W.heap.size+2;omega) _).setCell (by show _≤W.heap.size+2;omega) _).setCell (by show _≤W.heap.size+2;omega) _).setCell (by show _≤W.heap.size+2;omega) _)
end Go.Proofs.YtifkacnoiocebaaGreat
