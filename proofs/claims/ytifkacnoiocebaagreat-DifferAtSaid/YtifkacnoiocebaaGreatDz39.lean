/- A part of the proof: Vd5, Df2, Df3, Sw9, Da1. -/
import Derived.Test.YtifkacnoiocebaaGreatDz38
set_option linter.unusedVariables false
set_option linter.unusedSimpArgs false
set_option maxRecDepth 100000
set_option maxHeartbeats 4000000
namespace Go.Proofs.YtifkacnoiocebaaGreat
open Go.Maps Go.RowKit
def dS (nm:ByteArray) (ds:List Dev) (ls:List ah):Int:=if fq ds ls=0 then(if dK nm ds<0 then 4 else 0)else fq ds ls
def Gv (nm:ByteArray) (ds:List Dev) (ls:List ah):Int:=if dS nm ds ls=0 then dK nm ds else 0
theorem BZ {w:World} {B:Nat} {n:aC} (hn:bq w B n) (hE:fq n.au n.ls=0):n.dn≤10:=by
 have h1:=(mK hE).dl
 have h2:=hn.iK
 simp only[aC.au,List.length_map]at h1
 omega
theorem xU {nm:ByteArray} {ds:List Dev} {ls:List ah} (h:dS nm ds ls=0):fq ds ls=0∧∃k:Nat,dK nm ds=(k:Int)∧k<ds.length:=by
 unfold dS at h
 by_cases hE:fq ds ls=0
 ·rw[if_pos hE]at h
  refine⟨hE,?_⟩
  rcases zI nm ds with e | e
  ·rw[e]at h;cases h
  ·exact e
 ·rw[if_neg hE]at h;exact absurd h hE
theorem OV (n:aC) (nm:ByteArray) (W:World) (hn:bq W W.heap.size n):
  Calls Tryz.prog 103 #[n.val,.string nm] W fun e W'=>e= .returned (.tuple #[.int .i64 (Gv nm n.au n.ls),.int .i64 (dS nm n.au n.ls)])∧Below W.heap.size W W':=by
 have rX:=hide (fun(w':World) (hb:Below W.heap.size W w')=>show bq w' w'.heap.size n from hn.below hb hb.size)
 have HC:=hide (fun(w':World) (hb:Below W.heap.size W w')=>vG n w' (hn.below hb hb.size))
 have HF:=hide (fun(hE:fq n.au n.ls=0) (w':World) (hb:Below W.heap.size W w')=>NA n nm w' (hn.below hb hb.size) (BZ hn hE))
 have uj:=hide (show dS nm n.au n.ls=if fq n.au n.ls=0 then(if dK nm n.au<0 then 4 else 0)else fq n.au n.ls from rfl)
 have HHI:=hide (zI nm n.au)
 have KA:=hide (show(dS nm n.au n.ls=0→Gv nm n.au n.ls=dK nm n.au)∧(dS nm n.au n.ls≠0→Gv nm n.au n.ls=0)from⟨fun h=>if_pos h,fun h=>if_neg h⟩)
 clear hn
 obtain⟨dA,dn,dc,ds,lA,ln,lc,ls⟩:=n
 simp only[aC.val,aC.au]at*
 generalize Gv nm (ds.map ak.dev) ls=J at*
 obtain⟨C,hC⟩:∃C,dS nm (ds.map ak.dev) ls=C:=⟨_,rfl⟩
 rw[hC]at uj KA ⊢
 clear hC
 obtain⟨I,hI⟩:∃I,dK nm (ds.map ak.dev)=I:=⟨_,rfl⟩
 simp only[hI]at uj KA HHI HF
 clear hI
 go_enter Tryz.func103,Tryz.ntmps103
 go_wp2_with fail
 have hb0:=below_alloc2 W (.cells #[.slice dA dn dc,.slice lA ln lc] 25)
 have HX0:=hide (Bx.new W #[.slice dA dn dc,.slice lA ln lc] 25)
 refine(HC.out _ hb0).mono ?_
 clear HC
 rintro e w1 ⟨rfl,hb⟩
 have HB1:=hide (hb0.trans (hb.mono hb0.size))
 have eF:=hide (HX0.out.below hb)
 clear hb hb0 HX0
 by_cases hE:fq (ds.map ak.dev) ls=0
 ·rw[hE]
  have xV:=hide (show C=if I<0 then 4 else 0 from by rw[uj.out,if_pos hE])
  have ng:=hide (HF.out hE w1 HB1.out)
  have x0:w1.cell? ⟨W.heap.size,0,none⟩=some (.slice dA dn dc):=eF.out.get 0 _ rfl
  have x1:w1.cell? ⟨W.heap.size,1,none⟩=some (.slice lA ln lc):=eF.out.get 1 _ rfl
  clear HF uj hE
  go_wp2_with fail
  refine ng.out.mono ?_
  clear ng x0 x1
  rintro e w2 ⟨rfl,hb⟩
  have HB2:=hide (HB1.out.trans (hb.mono HB1.out.size))
  clear hb
  rcases HHI.out with rfl | ⟨k,rfl,_⟩
  ·have Wj:=hide (show C=4 from xV.out)
   go_wp2
   go_ret2
   exact⟨by rw[Wj.out,KA.out.2 (by rw[Wj.out];decide)];rfl,HB2.out⟩
  ·have GQ:=hide (show C=0 from by rw[xV.out,if_neg (by omega)])
   have hk0:decide ((k:Int)<0)=false:=by simp
   go_wp2
   go_ret2
   exact⟨by rw[GQ.out,KA.out.1 GQ.out];rfl,HB2.out⟩
 ·have xV:=hide (show C=fq (ds.map ak.dev) ls from by rw[uj.out,if_neg hE])
  have hC0:¬C=0:=fun e=>hE (xV.out.symm.trans e)
  rw[← xV.out]
  have hE2:(C != 0)=true:=by simpa using hC0
  have GQ:=hide hC0
  clear HF uj hE hC0
  go_wp2
  go_ret2
  exact⟨by rw[KA.out.2 GQ.out];rfl,HB1.out⟩
def FD (n:aC) (nm:ByteArray) (W:World) (e:Ending) (W':World):Prop:=Below W.heap.size W W'∧
 ((dS nm n.au n.ls≠0∧e= .returned (.tuple #[.agg #[.slice none 0 0,.slice none 0 0],.int .i64 (dS nm n.au n.ls)]))∨
  (dS nm n.au n.ls=0∧∃(m:aC) (v:Nat→Bool),e= .returned (.tuple #[m.val,.int .i64 0])∧bq W' W'.heap.size m∧Ck W.heap.size m∧jf n.ls (dK nm n.au).toNat v∧m.au=bP v n.au n.au.length∧m.ls=fH v n.au.length n.ls))
theorem FE (n:aC) (nm:ByteArray) (W:World) (hn:bq W W.heap.size n):Calls Tryz.prog 76 #[n.val,.string nm] W (FD n nm W):=by
 have HC:=hide (fun(w':World) (hb:Below W.heap.size W w')=>OV n nm w' (hn.below hb hb.size))
 have HS:=hide (fun(hE:fq n.au n.ls=0) (i0:Nat) (hi:i0<n.dn) (w':World) (hb:Below W.heap.size W w')=>Lc n i0 w' (hn.below hb hb.size) hE hi)
 have kR:=hide (fun h=>xU (nm:=nm) (ds:=n.au) (ls:=n.ls) h)
 have jd:=hide (show n.au.length=n.dn from by simp only[aC.au,List.length_map];exact hn.iK)
 have KA:=hide (show(dS nm n.au n.ls=0→Gv nm n.au n.ls=dK nm n.au)from fun h=>if_pos h)
 have HBAD:=hide (fun(E:Int) (hE:dS nm n.au n.ls=E) (h0:E≠0) (w':World) (hb:Below W.heap.size W w')=>show FD n nm W (.returned (.tuple #[.agg #[.slice none 0 0,.slice none 0 0],.int .i64 E])) w' from⟨hb,.inl ⟨by rw[hE];exact h0,by rw[hE]⟩⟩)
 have qC:=hide (fun(hE:dS nm n.au n.ls=0) (k:Nat) (hk:dK nm n.au=(k:Int)) (w':World) (hb:Below W.heap.size W w') (m:aC) (v:Nat→Bool) (h1:bq w' w'.heap.size m) (h1':Ck W.heap.size m) (h2:jf n.ls k v) (h3:m.au=bP v n.au n.dn) (h4:m.ls=fH v n.dn n.ls)=>show FD n nm W (.returned (.tuple #[m.val,.int .i64 0])) w' from
  ⟨hb,.inr ⟨hE,m,v,rfl,h1,h1',by rw[hk];exact h2,by rw[jd.out];exact h3,by rw[jd.out];exact h4⟩⟩)
 clear hn
 generalize FD n nm W=Q at*
 obtain⟨dA,dn,dc,ds,lA,ln,lc,ls⟩:=n
 simp only[aC.val,aC.au]at*
 generalize hJ:Gv nm (ds.map ak.dev) ls=J at*
 have HJ:=hide hJ
 obtain⟨C,hC⟩:∃C,dS nm (ds.map ak.dev) ls=C:=⟨_,rfl⟩
 have xV:=hide hC
 simp only[hC]at HC
 clear hJ hC
 go_enter Tryz.func76,Tryz.ntmps76
 go_wp2_with fail
 have hb0:=(below_alloc2 W (.cells #[.slice dA dn dc,.slice lA ln lc] 25)).trans ((below_alloc2 (W.alloc (.cells #[.slice dA dn dc,.slice lA ln lc] 25)) (.cells #[.slice none 0 0,.slice none 0 0] 25)).mono (below_alloc2 W _).size)
 have HB0:=hide hb0
 have HX0:=hide ((Bx.new W #[.slice dA dn dc,.slice lA ln lc] 25).below (below_alloc2 (W.alloc (.cells #[.slice dA dn dc,.slice lA ln lc] 25)) (.cells #[.slice none 0 0,.slice none 0 0] 25)))
 have j4:=hide (show Bx ((W.alloc (.cells #[.slice dA dn dc,.slice lA ln lc] 25)).alloc (.cells #[.slice none 0 0,.slice none 0 0] 25)) (W.heap.size+1) #[.slice none 0 0,.slice none 0 0] 25 from by
  have h:=Bx.new (W.alloc (.cells #[.slice dA dn dc,.slice lA ln lc] 25)) #[.slice none 0 0,.slice none 0 0] 25
  simpa using h)
 clear hb0
 generalize World.alloc (World.alloc W _) _=w0 at*
 refine(HC.out w0 HB0.out).mono ?_
 clear HC
 rintro e w1 ⟨rfl,hb⟩
 have HB1:=hide (HB0.out.trans (hb.mono HB0.out.size))
 have eF:=hide (HX0.out.below hb)
 have HR1:=hide (j4.out.below hb)
 clear hb HB0 HX0 j4
 have r0:=HR1.out.get 0 _ rfl
 have r1:=HR1.out.get 1 _ rfl
 have f0:=HR1.out.frozen 0
 have f1:=HR1.out.frozen 1
 by_cases h0:C=0
 ·subst h0
  obtain⟨hE,k,hk,hkl⟩:=kR.out xV.out
  have hJk:J=(k:Int):=(KA.out xV.out).trans hk
  subst hJk
  have HK:=hide hk
  have eY:=hide (HS.out hE k (by rw[← jd.out];exact hkl) w1 HB1.out)
  have x0:w1.cell? ⟨W.heap.size,0,none⟩=some (.slice dA dn dc):=eF.out.get 0 _ rfl
  have x1:w1.cell? ⟨W.heap.size,1,none⟩=some (.slice lA ln lc):=eF.out.get 1 _ rfl
  clear hE hk hkl HS
  go_wp2_with fail
  refine eY.out.mono ?_
  clear eY x0 x1 r0 r1 f0 f1
  rintro e w2 ⟨m,A,c,v,rfl,hm,hlo,Cm,hd,hls,hi,hb⟩
  have HB2:=hide (HB1.out.trans (hb.mono HB1.out.size))
  have HR2:=hide (HR1.out.below hb)
  have HM:=hide (And.intro hm (And.intro Cm (And.intro hd hls)))
  have He:=hide hlo
  have hsr:=HR1.out.lt
  clear hb hm Cm hd hls hi hlo HR1 eF
  obtain⟨mA,mn,mc,ms,kA,kn,kc,ks⟩:=m
  simp only[aC.val,aC.au]at*
  have hrl:=HR2.out.lt
  have r0:∀o1,(w2.alloc o1).cell? ⟨W.heap.size+1,0,none⟩=some (.slice none 0 0):=fun o1=>(HR2.out.below (below_alloc2 w2 o1)).get 0 _ rfl
  have r1:∀o1,(w2.alloc o1).cell? ⟨W.heap.size+1,1,none⟩=some (.slice none 0 0):=fun o1=>(HR2.out.below (below_alloc2 w2 o1)).get 1 _ rfl
  have f0:∀o1,(w2.alloc o1).frozen? ⟨W.heap.size+1,0,none⟩=false:=fun o1=>(HR2.out.below (below_alloc2 w2 o1)).frozen 0
  have f1:∀o1,(w2.alloc o1).frozen? ⟨W.heap.size+1,1,none⟩=false:=fun o1=>(HR2.out.below (below_alloc2 w2 o1)).frozen 1
  have hne2:W.heap.size+1≠w2.heap.size:=by omega
  have r0':=HR2.out.get 0 _ rfl
  have r1':=HR2.out.get 1 _ rfl
  have f0':=HR2.out.frozen 0
  have f1':=HR2.out.frozen 1
  go_wp2
  have hbx:=((HR2.out.set 0 (.slice mA mn mc)).set 1 (.slice kA kn kc)).below (below_alloc2 ((w2.setCell ⟨W.heap.size+1,0,none⟩ (.slice mA mn mc)).setCell ⟨W.heap.size+1,1,none⟩ (.slice kA kn kc)) (.cells #[.slice mA mn mc,.slice kA kn kc] 25))
  have z0:=hbx.get 0 (.slice mA mn mc) rfl
  have z1:=hbx.get 1 (.slice kA kn kc) rfl
  have hst:bG (fun q=>q≠W.heap.size+1) w2 ((w2.setCell ⟨W.heap.size+1,0,none⟩ (.slice mA mn mc)).setCell ⟨W.heap.size+1,1,none⟩ (.slice kA kn kc)):=(bG.kH ⟨W.heap.size+1,0,none⟩ _).trans (bG.kH ⟨W.heap.size+1,1,none⟩ _)
  have zH:(((w2.setCell ⟨W.heap.size+1,0,none⟩ (.slice mA mn mc)).setCell ⟨W.heap.size+1,1,none⟩ (.slice kA kn kc))).heap.size =w2.heap.size:=by simp[World.setCell]
  have hbf:Below W.heap.size W (((w2.setCell ⟨W.heap.size+1,0,none⟩ (.slice mA mn mc)).setCell ⟨W.heap.size+1,1,none⟩ (.slice kA kn kc)).alloc (.cells #[.slice mA mn mc,.slice kA kn kc] 25)):=((HB2.out.setCell (by show _≤W.heap.size+1;omega) _).setCell (by show _≤W.heap.size+1;omega) _).trans ((below_alloc2 ((w2.setCell ⟨W.heap.size+1,0,none⟩ (.slice mA mn mc)).setCell ⟨W.heap.size+1,1,none⟩ (.slice kA kn kc)) _).mono (by rw[zH];exact HB2.out.size))
  have iG:bq ((w2.setCell ⟨W.heap.size+1,0,none⟩ (.slice mA mn mc)).setCell ⟨W.heap.size+1,1,none⟩ (.slice kA kn kc)) w2.heap.size ⟨mA,mn,mc,ms,kA,kn,kc,ks⟩:=HM.out.1.stay hst (fun a ha=>by have:=He.out.d a ha;omega) (fun a ha=>by have:=He.out.l a ha;omega) (fun d hd=>(He.out.o d hd).weak (fun q hq=>by omega)) (Nat.le_refl _)
  have aaF:bq (((w2.setCell ⟨W.heap.size+1,0,none⟩ (.slice mA mn mc)).setCell ⟨W.heap.size+1,1,none⟩ (.slice kA kn kc)).alloc (.cells #[.slice mA mn mc,.slice kA kn kc] 25)) ((((w2.setCell ⟨W.heap.size+1,0,none⟩ (.slice mA mn mc)).setCell ⟨W.heap.size+1,1,none⟩ (.slice kA kn kc)).alloc (.cells #[.slice mA mn mc,.slice kA kn kc] 25))).heap.size ⟨mA,mn,mc,ms,kA,kn,kc,ks⟩:=by
   rw[← zH]at iG
   exact iG.below (below_alloc2 ((w2.setCell ⟨W.heap.size+1,0,none⟩ (.slice mA mn mc)).setCell ⟨W.heap.size+1,1,none⟩ (.slice kA kn kc)) _) (below_alloc2 ((w2.setCell ⟨W.heap.size+1,0,none⟩ (.slice mA mn mc)).setCell ⟨W.heap.size+1,1,none⟩ (.slice kA kn kc)) _).size
  refine bodyPost_ret (v:=.tuple #[.agg #[.slice mA mn mc,.slice kA kn kc],.int .i64 0]) (by simp only[results,Tryz.f76];simp[go_sem,z0,z1]) rfl ?_
  exact qC.out xV.out k HK.out _ hbf ⟨mA,mn,mc,ms,kA,kn,kc,ks⟩ v aaF (He.out.less (by omega)) HM.out.2.1 HM.out.2.2.1 HM.out.2.2.2
 ·have h02:(C != 0)=true:=by simpa using h0
  have GQ:=hide h0
  clear h0
  go_wp2
  have hbx:=(HR1.out.set 0 (.slice none 0 0)).set 1 (.slice none 0 0)
  have z0:=hbx.get 0 (.slice none 0 0) rfl
  have z1:=hbx.get 1 (.slice none 0 0) rfl
  refine bodyPost_ret (v:=.tuple #[.agg #[.slice none 0 0,.slice none 0 0],.int .i64 C]) (by simp only[results,Tryz.f76];simp[go_sem,z0,z1]) rfl ?_
  exact HBAD.out C xV.out GQ.out _ ((HB1.out.setCell (by show _≤W.heap.size+1;omega) _).setCell (by show _≤W.heap.size+1;omega) _)
open aj
theorem AJ (x:ak) (nm:ByteArray) (k:Nat) (w:World) (hk:k<w.heap.size) (h0:w.cell? ⟨k,0,none⟩=some (.string nm)):
  Calls Tryz.prog 78 (#[x.val]++#[.pointer (some ⟨k,0,none⟩)]) w fun e W'=>e= .returned (.bool (decide (x.kind=1) && dQ x.name nm))∧Below w.heap.size w W':=by
 have hne:k≠w.heap.size:=by omega
 obtain⟨xn,xk,xa,xp,bA,bn,bc,bs,rA,rn,rc,rs,tA,tn,tc,ts⟩:=x
 show Calls Tryz.prog 78 #[.agg #[.string xn,.int .i64 xk,.int .i64 xa,.int .u8 xp,.slice bA bn bc,.slice rA rn rc,.slice tA tn tc],.pointer (some ⟨k,0,none⟩)] w _
 have HB:=hide (fun o=>show Below w.heap.size w (w.alloc o)from(Below.refl _ _).alloc (Nat.le_refl _) _)
 have hk1:∀o,(w.alloc o).cell? ⟨k,0,none⟩=some (.string nm):=fun o=>(((Below.refl _ _).alloc (Nat.le_refl _) o).cell (p:=⟨k,0,none⟩) hk).trans h0
 by_cases ek:xk=1
 ·subst ek
  by_cases e:xn.toList=nm.toList
  all_goals
   go_enter Tryz.func78,Tryz.ntmps78
   go_wp2
   go_ret
   exact⟨bX (by simp[dQ,e]),HB.out _⟩
 ·have ek2:(xk ==1)=false:=by simpa using ek
  go_enter Tryz.func78,Tryz.ntmps78
  go_wp2
  go_ret
  exact⟨bX (by simp[ek]),HB.out _⟩
structure pE (ds:List Dev) (ls:List ah) (nm:ByteArray) (v:Nat→Bool) (K:Nat):Prop where
 zu:dS nm ds ls=0
 near:jf ls (dK nm ds).toNat v
 fix:aF (bP v ds ds.length) (fH v ds.length ls) (K+1)=aF (bP v ds ds.length) (fH v ds.length ls) K
def qG (ds:List Dev) (ls:List ah) (nm:ByteArray) (v:Nat→Bool) (K:Nat):Nat→Bool:=iC (bP v ds ds.length) (fH v ds.length ls) K (dK nm (bP v ds ds.length),0)
theorem pE.unique {ds:List Dev} {ls:List ah} {nm:ByteArray} {v v':Nat→Bool} {K K':Nat} (h:pE ds ls nm v K) (h':pE ds ls nm v' K'):qG ds ls nm v K=qG ds ls nm v' K':=by
 obtain rfl:=h.near.unique h'.near
 unfold qG iC
 rcases Nat.le_total K K' with hk | hk
 ·rw[Dj _ _ h.fix K' hk]
 ·rw[Dj _ _ h'.fix K hk]
theorem Tryz.infoNet:(Tryz.prog.info? 25).map (fun i=>(i.zero,i.size,i.bytes))=some (some (.agg #[.slice none 0 0,.slice none 0 0]),2,48):=by kernel_rfl
theorem Tryz.infoSide:(Tryz.prog.info? 107).map (fun i=>(i.zero,i.size,i.bytes))=some (some (.agg #[.pointer none,.int .i64 0,.int .i64 0]),3,24):=by kernel_rfl
theorem below_alloc3 (w:World) (o o':Obj):Below w.heap.size w ((w.alloc o).alloc o'):=(below_alloc2 w o).trans ((below_alloc2 (w.alloc o) o').mono (below_alloc2 w o).size)
theorem FH (w:World) (A A':Option Addr) (n c n' c':Nat):Reads ((w.alloc (.cells #[.slice A n c,.slice A' n' c'] 25)).alloc (.cells #[.slice A n c,.slice A' n' c'] 25)) (w.heap.size+2) 2 (some ⟨w.heap.size+1,0,none⟩) 1 [.slice A n c,.slice A' n' c']:=
 ⟨rfl,fun _=>⟨_,rfl,by show w.heap.size+1<w.heap.size+2;omega,fun j u hu=>by
   have hx:=heap_alloc_new (w.alloc (.cells #[.slice A n c,.slice A' n' c'] 25)) (.cells #[.slice A n c,.slice A' n' c'] 25)
   rw[World.size_alloc]at hx
   rw[addr_add,Nat.zero_add,cell_of_row _ _ _ _ _ _ hx]
   simpa using hu⟩⟩
theorem FI (w:World) (N:Nat) (I:Int):Reads (w.alloc (.cells #[.pointer (some ⟨N,0,none⟩),.int .i64 I,.int .i64 0] 107)) (w.heap.size+1) 3 (some ⟨w.heap.size,0,none⟩) 1 [.pointer (some ⟨N,0,none⟩),.int .i64 I,.int .i64 0]:=
 ⟨rfl,fun _=>⟨_,rfl,by show w.heap.size<w.heap.size+1;omega,fun j u hu=>by
   have hx:=heap_alloc_new w (.cells #[.pointer (some ⟨N,0,none⟩),.int .i64 I,.int .i64 0] 107)
   rw[addr_add,Nat.zero_add,cell_of_row _ _ _ _ _ _ hx]
   simpa using hu⟩⟩
def Gw (n:aC):List Value:=[.slice n.dA n.dn n.dc,.slice n.lA n.ln n.lc]
section
variable {P:Program} {ops:Array Oper} {Q:Exit→Act→World→Prop} {md:Region.Mode} {S:World→Prop} {s:Nat}
theorem FJ {i j:Nat} {o o':Oper} {fuel:Nat} {listed:Array Bool} {a:Act} {w:World} (ho0:ops.toList[i]?=some o) (ho1:ops.toList[j]?=some o') (hr:Region.ready md ops listed=[i,j]) (inv:Shut (bV md ops listed))
  (h:∀K':Act→World→Prop,Shut (∀a w,((listed.setIfInBounds i true).getD s true=false→S w)→(Shut (bV md ops (listed.setIfInBounds i true))→dN P md ops Q S s fuel (listed.setIfInBounds i true) a w)→K' a w)→if Region.wanted o (yielded ops a.tmps)=true then Oper.wp P o a w K' Q else K' (a.put o.dst undef) w)
  (h':∀K':Act→World→Prop,Shut (∀a w,((listed.setIfInBounds j true).getD s true=false→S w)→(Shut (bV md ops (listed.setIfInBounds j true))→dN P md ops Q S s fuel (listed.setIfInBounds j true) a w)→K' a w)→if Region.wanted o' (yielded ops a.tmps)=true then Oper.wp P o' a w K' Q else K' (a.put o'.dst undef) w):
  dN P md ops Q S s (fuel+1) listed a w:=by
 have ho:ops[i]?=some o:=by simpa using ho0
 have ho':ops[j]?=some o':=by simpa using ho1
 have hi:i∈Region.ready md ops listed:=by rw[hr];simp
 have hj:j∈Region.ready md ops listed:=by rw[hr];simp
 refine⟨fun h0=>(by rw[h0]at hr;cases hr),fun k hk=>?_⟩
 rw[hr]at hk
 simp only[List.mem_cons,List.not_mem_nil,or_false]at hk
 rcases hk with rfl | rfl
 ·exact wpOp_step ho (fun K hK=>h K (fun a w hS hW=>hK a w ⟨hS,hW (inv.out.set hi)⟩))
 ·exact wpOp_step ho' (fun K hK=>h' K (fun a w hS hW=>hK a w ⟨hS,hW (inv.out.set hj)⟩))
end
def jP (n:aC) (nm:ByteArray) (F:Nat→Bool):Prop:=∃v K,pE n.au n.ls nm v K∧F=qG n.au n.ls nm v K
theorem jP.unique {n:aC} {nm:ByteArray} {F F':Nat→Bool} (h:jP n nm F) (h':jP n nm F'):F=F':=by
 obtain⟨v,K,h1,rfl⟩:=h
 obtain⟨v',K',h2,rfl⟩:=h'
 exact h1.unique h2
theorem KD (nm:ByteArray) (ds:List Dev) (h:ds.length≤10):aO (dK nm ds):=by
 rcases zI nm ds with e | ⟨k,e,hk⟩
 ·rw[e];exact⟨by omega,by omega⟩
 ·rw[e];exact⟨by omega,by omega⟩
theorem Rp (v:Nat→Bool) (ds:List Dev) (k:Nat):(bP v ds k).length ≤k:=by
 unfold bP
 refine Nat.le_trans (List.length_filterMap_le ..) ?_
 unfold bM
 exact Nat.le_trans (List.length_filter_le ..) (by simp)
theorem Rq:aO 0:=⟨by omega,by omega⟩
theorem KE {ds:List Dev} {ls:List ah} {nm:ByteArray} {v:Nat→Bool} {K:Nat} (h:pE ds ls nm v K):(bP v ds ds.length).length ≤10:=
 Nat.le_trans (Rp _ _ _) (by have:=(mK (xU h.zu).1).dl;omega)
end Go.Proofs.YtifkacnoiocebaaGreat
namespace Go.Proofs.YtifkacnoiocebaaGreat
open Go.Maps Go.RowKit
theorem Dp:∀(ls:List ah) (v:Nat→Bool) (i:Nat),v i=true→ig ls v i=true
 |[],v,i,h=>h
 |l::ls,v,i,h=>Dp ls (cO v l) i (l9 v l i h)
theorem Dq {n:Nat} :∀(ls:List ah) (v:Nat→Bool),yL ls n→ig ls v=v∨dG n v<dG n (ig ls v)
 |[],v,_=>.inl rfl
 |l::ls,v,h=>by
  have hl:=h l (List.mem_cons_self ..)
  have ht:=Dq ls (cO v l) (fun x hx=>h x (List.mem_cons_of_mem _ hx))
  show ig ls (cO v l)=v∨dG n v<dG n (ig ls (cO v l))
  by_cases e:v l.a.toNat=v l.b.toNat
  ·have h0:cO v l=v:=if_pos e
   rw[h0]at ht ⊢
   exact ht
  ·have h1:=x9 (n:=n) (v:=v) (l:=l) (by omega) (by omega) e
   exact .inr (Nat.lt_of_lt_of_le h1 (AZ (fun i hi=>Dp ls _ i hi)))
theorem Lr {ls:List ah} {n:Nat} (h:yL ls n) (i0:Nat):∃v,jf ls i0 v:=by
 have key:∀k,(∃j,ig ls (iM ls (fun i=>decide (i=i0)) j)=iM ls (fun i=>decide (i=i0)) j)∨k≤dG n (iM ls (fun i=>decide (i=i0)) k):=by
  intro k
  induction k with
  |zero=>exact .inr (Nat.zero_le _)
  |succ k ih=>
   rcases ih with ih | ih
   ·exact .inl ih
   ·rcases Dq ls (iM ls (fun i=>decide (i=i0)) k) h with e | e
    ·exact .inl ⟨k,e⟩
    ·exact .inr (Nat.lt_of_le_of_lt ih e)
 rcases key (n+1)with⟨j,hj⟩ | hk
 ·exact⟨_,hj,j,rfl⟩
 ·have:=uq n (iM ls (fun i=>decide (i=i0)) (n+1))
  omega
theorem Ib (v:Nat→Bool) (ds:List Dev):∀m,m≤ds.length→∀k,k≤m→∃t,bP v ds m=bP v ds k++t
 |0,_,k,hk=>by
  obtain rfl:k=0:=by omega
  exact⟨[],by simp⟩
 |m+1,hm,k,hk=>by
  by_cases e:k=m+1
  ·subst e
   exact⟨[],by simp⟩
  ·obtain⟨t,ht⟩:=Ib v ds m (by omega) k (by omega)
   obtain⟨d,hd⟩:∃d,ds[m]?=some d:=⟨_,List.getElem?_eq_getElem (by omega)⟩
   cases hv:v m with
   |true=>exact⟨t++[d],by rw[qZ hv hd,ht,List.append_assoc]⟩
   |false=>exact⟨t,by rw[wS hv,ht]⟩
theorem Rs {nm:ByteArray} {ds:List Dev} {v:Nat→Bool} {k:Nat} (hk:dK nm ds=(k:Int)) (hv:v k=true):dK nm (bP v ds ds.length)=((bH v ds.length k:Nat):Int):=by
 rcases nC (lS nm) ds with⟨j,r,h1,h2,h3,h4,h5⟩ | h
 ·have e:j=k:=by
   have h1':dK nm ds=(j:Int):=h1
   rw[h1']at hk
   omega
  subst e
  have e2:bH v ds.length j=dG j v:=by unfold bH;rw[if_pos ⟨h2,hv⟩]
  rw[e2]
  refine CV (DL hv h3 ds.length h2 (Nat.le_refl _)) h4 (fun i e hi he=>?_)
  obtain⟨t,ht⟩:=Ib v ds ds.length (Nat.le_refl _) j (by omega)
  rw[ht,List.getElem?_append_left (by rw[vT v ds j (by omega)];exact hi)]at he
  have hm:=(Bj v ds j (by omega)).subset (List.mem_of_getElem? he)
  obtain⟨q,hq⟩:=List.mem_iff_getElem?.1 hm
  have hq2:q<j:=by
   have:=(List.getElem?_eq_some_iff.1 hq).1
   rw[List.length_take]at this
   omega
  rw[List.getElem?_take_of_lt hq2]at hq
  exact h5 q e hq2 hq
 ·have h1':dK nm ds= -1:=h.1
  rw[h1']at hk
  omega
structure Gx (n:aC) (nm:ByteArray) (m:aC) (x:Int) (K:Nat) (F:Nat→Bool):Prop where
 any:jP n nm F
 tell:∀c,c<16384→decide (0≤iR m.au m.ls K (x,0) (pk c))=F c
theorem Gx.of {n m:aC} {nm:ByteArray} {v:Nat→Bool} {k K:Nat} (hE:fq n.au n.ls=0) (hk:dK nm n.au=(k:Int)) (hv:jf n.ls k v) (hdn:n.au.length=n.dn) (hd:m.au=bP v n.au n.dn) (hl:m.ls=fH v n.dn n.ls)
  (hf:aF m.au m.ls (K+1)=aF m.au m.ls K):Gx n nm m ((bH v n.dn k:Nat):Int) K (qG n.au n.ls nm v K):=by
 rw[← hdn]at hd hl ⊢
 refine⟨⟨v,K,⟨?_,by rw[hk];exact hv,by rw[hd,hl]at hf;exact hf⟩,rfl⟩,fun c hc=>?_⟩
 ·unfold dS
  rw[if_pos hE,if_neg (by rw[hk];omega)]
 ·rw[BM _ _ _ _ _ hc,hd,hl,← Rs hk hv.host]
  rfl
def jZ (cs cx:Nat):Value:=.func (.func 20) #[] #[.pointer (some ⟨cs,0,none⟩),.pointer (some ⟨cx,0,none⟩)]
def pW (w:World) (cs cx:Nat) (F:Nat→Bool):Prop:=∃(s mb:Nat) (rd:Int) (D:aB→Prop) (blk:aB→Nat) (T:aB→Nat→Int) (M:aB→Option Value) (x:Int),gV w s mb rd D blk T M∧Bx w cs #[.pointer (some ⟨s,0,none⟩)] 39∧Bx w cx #[.int .i64 x,.int .i64 0] 27∧aO x∧
 ∀c,c<16384→∃R:Int,(D (x,0)→R=T (x,0) c)∧(¬D (x,0)→R= -1)∧decide (0≤R)=F c
section
variable {w w':World} {cs cx:Nat} {F:Nat→Bool}
theorem pW.same (h:pW w cs cx F) (hs:∀q,q<w.heap.size→(∀fn b cp,w.cell? ⟨q,0,none⟩≠some (.func fn b cp))→w'.heap[q]?=w.heap[q]?):pW w' cs cx F:=by
 obtain⟨s,mb,rd,D,blk,T,M,x,h1,h2,h3,h4,h5⟩:=h
 refine⟨s,mb,rd,D,blk,T,M,x,h1.same (fun b hb=>?_),h2.same (hs cs h2.lt (fun fn b cp=>?_)),h3.same (hs cx h3.lt (fun fn b cp=>?_)),h4,h5⟩
 ·rcases hb with rfl | rfl | ⟨y,hy,rfl⟩
  ·exact hs _ (jO h1.c0) (fun fn b cp=>by rw[h1.c0];intro e;cases e)
  ·refine hs _ h1.mp.lt (fun fn b cp=>?_)
   obtain⟨D',⟨es,clock,hh,_⟩,_⟩:=h1.mp
   unfold World.cell?
   rw[hh]
   simp
  ·exact hs _ (jO (h1.tab y hy 0 (by omega))) (fun fn b cp=>by rw[h1.tab y hy 0 (by omega)];intro e;cases e)
 ·rw[h2.get 0 _ rfl];intro e;cases e
 ·rw[h3.get 0 _ rfl];intro e;cases e
theorem pW.below (h:pW w cs cx F) (hb:Below w.heap.size w w'):pW w' cs cx F:=h.same (fun q hq _=>hb.block q hq)
theorem pW.grown {o:Option Nat} (h:pW w cs cx F) (hg:w.grownBy w' o) (ho:∀q,o=some q→∃fn b cp,w.cell? ⟨q,0,none⟩=some (.func fn b cp)):pW w' cs cx F:=
 h.same (fun q hq hn=>bY hg hq (fun e=>by obtain⟨fn,b,cp,h⟩:=ho q e;exact hn fn b cp h))
end
theorem Ic (cs cx:Nat) (F:Nat→Bool) (c:Nat) (hc:c<16384) (W:World) (h:pW W cs cx F):
  Calls Tryz.prog 20 (#[fQ c]++#[.pointer (some ⟨cs,0,none⟩),.pointer (some ⟨cx,0,none⟩)]) W fun e W'=>e= .returned (.bool (F c))∧RowKit.Below W.heap.size W W':=by
 obtain⟨s,mb,rd,D,blk,T,M,x,h1,h2,h3,h4,h5⟩:=h
 obtain⟨R,r1,r2,r3⟩:=h5 c hc
 have HR:=hide (fun(w':World) (hb:RowKit.Below W.heap.size W w')=>Gu w' s mb rd D blk T M (h1.up hb) x 0 h4 ⟨by omega,by omega⟩ (pk c) R (fun hD _=>by rw[wC c hc];exact r1 hD) (fun h=>r2 (h.resolve_right (by rw[oZ c hc];decide))))
 have HF:=hide r3
 have HB2:=hide h2
 have HB3:=hide h3
 rw[Kl]
 clear h1 h2 h3 h4 h5 r1 r2 r3
 generalize pk c=p at*
 obtain⟨a,b,u,d⟩:=p
 simp only at*
 generalize F c=Q at*
 go_enter Tryz.func20,Tryz.ntmps20
 have hb1:=below_alloc2 W (.cells #[.int .i64 a,.int .i64 b,.int .i64 u,.int .i64 d] 29)
 have k0:∀o,(W.alloc o).cell? ⟨cs,0,none⟩=some (.pointer (some ⟨s,0,none⟩)):=fun o=>(HB2.out.below (below_alloc2 W o)).get 0 _ rfl
 have k1:∀o,(W.alloc o).cell? ⟨cx,0,none⟩=some (.int .i64 x):=fun o=>(HB3.out.below (below_alloc2 W o)).get 0 _ rfl
 have k2:∀o,(W.alloc o).cell? ⟨cx,1,none⟩=some (.int .i64 0):=fun o=>(HB3.out.below (below_alloc2 W o)).get 1 _ rfl
 go_wp2_with fail
 refine(HR.out _ hb1).mono ?_
 rintro e w3 ⟨rfl,hb⟩
 have HB:=hide (hb1.trans (hb.mono hb1.size))
 clear hb hb1 HR k0 k1 k2
 go_wp2
 go_ret
 exact⟨bX (by simp[← HF.out]),HB.out⟩
end Go.Proofs.YtifkacnoiocebaaGreat
