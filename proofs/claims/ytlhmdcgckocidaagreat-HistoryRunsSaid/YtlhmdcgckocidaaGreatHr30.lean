/- A part of the proof: Rd4. -/
import Derived.Test.YtlhmdcgckocidaaGreatHr29
set_option linter.unusedVariables false
set_option linter.unusedSimpArgs false
set_option maxRecDepth 100000
set_option maxHeartbeats 8000000
namespace Go.Proofs.YtlhmdcgckocidaaGreat
open ak Go.Maps Go.RowKit
def BJ (a pl:Nat):M4:=⟨2 ^ a,65535,pl,255⟩
def DK (a pl:Nat):M4:=⟨65535,2 ^ a,255,pl⟩
def DL (i:Nat) (Sw:Pl→ak.Fn):ak.Fn:=gJ (gJ (Sw ((i:Int),0)) 0 4) 8 3
def VB (i a pl:Nat) (Sw:Pl→ak.Fn):ak.Fn:=gJ (gJ (bL (Sw ((i:Int),1)) (dx (DK a pl))) 4 4) 11 3
def VD (i:Nat) (Sw:Pl→ak.Fn):ak.Fn:=oh (gJ (gJ (Sw ((i:Int),0)) 4 4) 11 3)
def BK (ls:List av) (i a pl:Nat) (Sw Sn:Pl→ak.Fn):Pl→ak.Fn:=
 if(aP ls ((i:Int),1)).isSome then fO ls ((i:Int),0) (bL (VB i a pl Sw) (VD i Sw)) (fO ls ((i:Int),1) (bL (DL i Sw) (dx (BJ a pl))) Sn)
 else fO ls ((i:Int),1) (bL (DL i Sw) (dx (BJ a pl))) Sn
structure Xh (P:ak.Fn→Prop) (ls:List av) (i a pl:Nat) (Sw Sn:Pl→ak.Fn):Prop where
 f1:uQ P (Sw ((i:Int),0)) 0 4
 f2:uQ P (gJ (Sw ((i:Int),0)) 0 4) 8 3
 m1:pG P (BJ a pl)
 a1:PC P (bL (DL i Sw) (dx (BJ a pl)))
 s1:mU P ls ((i:Int),1) (bL (DL i Sw) (dx (BJ a pl))) Sn
 m2:pG P (DK a pl)
 b1:PC P (bL (Sw ((i:Int),1)) (dx (DK a pl)))
 b2:uQ P (bL (Sw ((i:Int),1)) (dx (DK a pl))) 4 4
 b3:uQ P (gJ (bL (Sw ((i:Int),1)) (dx (DK a pl))) 4 4) 11 3
 o1:uQ P (Sw ((i:Int),0)) 4 4
 o2:uQ P (gJ (Sw ((i:Int),0)) 4 4) 11 3
 o3:zn P (gJ (gJ (Sw ((i:Int),0)) 4 4) 11 3)
 a2:PC P (bL (VB i a pl Sw) (VD i Sw))
 s2:mU P ls ((i:Int),0) (bL (VB i a pl Sw) (VD i Sw)) (fO ls ((i:Int),1) (bL (DL i Sw) (dx (BJ a pl))) Sn)
theorem Za {a pl:Nat} (h:a<16) (hp:pl<256):(BJ a pl).ok :=⟨uh h,Nat.lt_succ_self 65535,hp,Nat.lt_succ_self 255⟩
theorem Zb {a pl:Nat} (h:a<16) (hp:pl<256):(DK a pl).ok :=⟨Nat.lt_succ_self 65535,uh h,Nat.lt_succ_self 255,hp⟩
theorem VE (w:World) (B g:Nat) (A:St) (bl:List Nat) (mk e rd:Nat) (n:aH) (wm nm:Nat) (Mw Mn:dB→Option Value) (Sw Sn:Pl→ak.Fn) (h:RD w B g A bl mk e rd n (.map (some wm)) nm Mn Sn) (hw:ou w A e bl wm Mw Sw) (hv:A.vars=14) (hl:bB av.cells 4 w B n.lA n.ln n.ls) (hlk:mV n.ls)
  (P:ak.Fn→Prop) (i:Nat) (hi:i≤1000) (r:aA) (ad:Nat) (hk:r.kind=4) (had:r.addr=(ad:Int)) (ha16:ad<16) (hpl:r.pool<256) (hP:Xh P n.ls i ad r.pool Sw Sn):
  Calls Tryz.prog 104 #[.pointer (some ⟨rd,0,none⟩),.int .i64 (i:Int),r.val] w fun en w'=>en= .returned (.tuple #[])∧qo w B g A bl mk e rd n (.map (some wm)) nm P (BK n.ls i ad r.pool Sw Sn) w':=by
 obtain⟨nm',kd,ad',pl,bA,bn,bc,bs,rA,rn,rc,rs,tA,tn,tc,ts⟩:=r
 simp only at hk had hpl hP
 subst hk
 subst had
 have je:=hide ((RF.start h hw P).alloc (.cells #[.string nm',.int .i64 4,.int .i64 (ad:Int),.int .u8 pl,.slice bA bn bc,.slice rA rn rc,.slice tA tn tc] 86))
 have BL:=hide (Bx.new w #[.string nm',.int .i64 4,.int .i64 (ad:Int),.int .u8 pl,.slice bA bn bc,.slice rA rn rc,.slice tA tn tc] 86)
 have nM:=hide (fun(w':World) (hb:RowKit.Below B w w')=>hl.below hb (Nat.le_refl _))
 have dV:=hide hlk
 have HP:=hide hP
 have HV:=hide hv
 clear h hw hl hlk hP hv
 simp only[aA.val]at*
 go_enter Tryz.func104,Tryz.ntmps104
 go_wp2_with fail
 generalize World.alloc w _=w0 at*
 generalize w.heap.size=Nd at*
 refine(DF ad w0 ha16).mono ?_
 rintro en w1 ⟨rfl,hb⟩
 have HR1:=hide (je.out.below hb)
 have vK:=hide (BL.out.below hb)
 clear hb je BL
 have hval:(oU ad).val = .agg #[.int .u16 ((2 ^ ad:Nat):Int),.int .u16 65535,.int .u8 255,.int .u8 255]:=rfl
 rw[hval]
 clear hval
 have tH:=hide (show BJ ad pl=⟨2 ^ ad,65535,pl,255⟩from rfl)
 have Ie:=hide (show DK ad pl=⟨65535,2 ^ ad,255,pl⟩from rfl)
 generalize hpw:2 ^ ad=sN at*
 have HPN:=hide hpw
 clear hpw
 have d3:=fun o=>((vK.out.below (below_alloc2 w1 o)).get 3 _ rfl:(w1.alloc o).cell? ⟨Nd,3,none⟩=some (.int .u8 pl))
 go_wp2_with fail
 clear d3
 have HR2:=hide (HR1.out.alloc (.cells #[.int .u16 (sN:Int),.int .u16 65535,.int .u8 (pl:Int),.int .u8 255] 32))
 have xq:=hide (vK.out.below (below_alloc2 w1 (.cells #[.int .u16 (sN:Int),.int .u16 65535,.int .u8 (pl:Int),.int .u8 255] 32)))
 have aaQ:=hide (Bx.new w1 #[.int .u16 (sN:Int),.int .u16 65535,.int .u8 (pl:Int),.int .u8 255] 32)
 clear HR1 vK
 generalize World.alloc w1 _=w2 at*
 generalize w1.heap.size=Nm at*
 have HQ:=hide (fun(w':World) (h1:Bx w' rd #[.pointer (some ⟨mk,0,none⟩),.slice n.dA n.dn n.dc,.slice n.lA n.ln n.lc,.map (some wm),.map (some nm)] 122) (e':Nat) (h2:Bx w' mk #[.pointer (some ⟨g,0,none⟩),.int .i64 (e':Int)] 119) (hbd:Bx w' Nd #[.string nm',.int .i64 4,.int .i64 (ad:Int),.int .u8 pl,.slice bA bn bc,.slice rA rn rc,.slice tA tn tc] 86) (xO:Bx w' Nm #[.int .u16 (sN:Int),.int .u16 65535,.int .u8 (pl:Int),.int .u8 255] 32) (h4:gZ w' wm Mw)=>show(w'.cell? ⟨rd,0,none⟩=some (.pointer (some ⟨mk,0,none⟩))∧w'.cell? ⟨mk,0,none⟩=some (.pointer (some ⟨g,0,none⟩))∧w'.cell? ⟨rd,3,none⟩=some (.map (some wm))∧gZ w' wm Mw)∧w'.cell? ⟨Nd,0,none⟩=some (.string nm')∧w'.cell? ⟨Nd,1,none⟩=some (.int .i64 4)∧w'.cell? ⟨Nd,2,none⟩=some (.int .i64 (ad:Int))∧w'.cell? ⟨Nd,3,none⟩=some (.int .u8 pl)∧w'.cell? ⟨Nd,4,none⟩=some (.slice bA bn bc)∧w'.cell? ⟨Nd,5,none⟩=some (.slice rA rn rc)∧w'.cell? ⟨Nd,6,none⟩=some (.slice tA tn tc)∧w'.cell? ⟨Nm,0,none⟩=some (.int .u16 (sN:Int))∧w'.cell? ⟨Nm,1,none⟩=some (.int .u16 65535)∧w'.cell? ⟨Nm,2,none⟩=some (.int .u8 (pl:Int))∧w'.cell? ⟨Nm,3,none⟩=some (.int .u8 255)from⟨⟨h1.get 0 _ rfl,h2.get 0 _ rfl,h1.get 3 _ rfl,h4⟩,hbd.get 0 _ rfl,hbd.get 1 _ rfl,hbd.get 2 _ rfl,hbd.get 3 _ rfl,hbd.get 4 _ rfl,hbd.get 5 _ rfl,hbd.get 6 _ rfl,xO.get 0 _ rfl,xO.get 1 _ rfl,xO.get 2 _ rfl,xO.get 3 _ rfl⟩)
 have HR3:=hide (HR2.out.below (RowKit.Below.refl _ _).drew)
 have Gs:=hide (xq.out.below (RowKit.Below.refl _ _).drew)
 have VF:=hide (aaQ.out.below (RowKit.Below.refl _ _).drew)
 clear HR2 xq aaQ
 refine aI (fun w'=>(w'.cell? ⟨rd,0,none⟩=some (.pointer (some ⟨mk,0,none⟩))∧w'.cell? ⟨mk,0,none⟩=some (.pointer (some ⟨g,0,none⟩))∧w'.cell? ⟨rd,3,none⟩=some (.map (some wm))∧gZ w' wm Mw)∧w'.cell? ⟨Nd,0,none⟩=some (.string nm')∧w'.cell? ⟨Nd,1,none⟩=some (.int .i64 4)∧w'.cell? ⟨Nd,2,none⟩=some (.int .i64 (ad:Int))∧w'.cell? ⟨Nd,3,none⟩=some (.int .u8 pl)∧w'.cell? ⟨Nd,4,none⟩=some (.slice bA bn bc)∧w'.cell? ⟨Nd,5,none⟩=some (.slice rA rn rc)∧w'.cell? ⟨Nd,6,none⟩=some (.slice tA tn tc)∧w'.cell? ⟨Nm,0,none⟩=some (.int .u16 (sN:Int))∧w'.cell? ⟨Nm,1,none⟩=some (.int .u16 65535)∧w'.cell? ⟨Nm,2,none⟩=some (.int .u8 (pl:Int))∧w'.cell? ⟨Nm,3,none⟩=some (.int .u8 255)) 12 (by kernel_rfl) (HQ.out _ HR3.out.rd.bx _ HR3.out.rd.m.bx Gs.out VF.out HR3.out.was.m) (fun hS=>?_)
 refine rP 0 hS ?_
 refine rP 1 hS ?_
 refine rP 2 hS ?_
 refine rL 3 [12] rfl hS (by intro w hSw;obtain⟨⟨s0,s1,s3,s4⟩,c0,c1,c2,c3,c4,c5,c6,c7,c8,c9,c10⟩:=hSw;go_simp;try with_reducible rfl) ?_
 refine rP 4 hS ?_
 refine rP 5 hS ?_
 refine rP 6 hS ?_
 refine rL 7 [11,12] rfl hS (by intro w hSw;obtain⟨⟨s0,s1,s3,s4⟩,c0,c1,c2,c3,c4,c5,c6,c7,c8,c9,c10⟩:=hSw;go_simp;try with_reducible rfl) ?_
 refine rP 8 hS ?_
 refine rP 9 hS ?_
 intro inv
 refine iX (i:=10) (v:=.int .i64 ((bQ Mw ((i:Int),0):Nat):Int)) [11,12] rfl (by kernel_rfl) (by kernel_rfl) (by kernel_rfl) (by kernel_rfl) (fun _ _ _ h=>h) inv ⟨by rfl,?_⟩ hS (fun inv2=>?_)
 ·intro w hSw
  obtain⟨⟨s0,s1,s3,s4⟩,c0,c1,c2,c3,c4,c5,c6,c7,c8,c9,c10⟩:=hSw;exact⟨146,_,by go_simp,nU w rd wm Mw s4 HR3.out.was.ints s3 (i:Int) 0 (by simp only[ay];omega) (by simp only[ay];omega)⟩
 clear inv
 have inv:=inv2
 clear inv2
 try simp only[Act.put,aD,aF,aG]
 refine rO 11 inv fun K hK=>?_
 go_simp
 clear hS
 refine(vw (vo _ B g A (rd::nm::([Nm,Nd]++bl)) mk e HR3.out.rd.m (bQ Mw ((i:Int),0)) (Sw ((i:Int),0)) P 0 4 4 rfl (by rw[HR3.out.ext.vars,HV.out];omega) (by rw[HR3.out.ext.vars,HV.out];omega) (fun h=>HR3.out.was.sw h _) HP.out.f1) rfl).mono ?_
 rintro en w4 hr
 obtain⟨A4,e4,r4,rfl,hrf,hx,hF,hsm⟩:=HR3.out.call hr
 have HR4:=hide hrf
 have Ab:=hide (Gs.out.same (hsm Nd (by simp)))
 have KN:=hide (VF.out.same (hsm Nm (by simp)))
 have aaR:=hide (fun h=>(hF h).2)
 clear hr hrf hx hF hsm HR3 Gs VF
 have hS:=HQ.out _ HR4.out.rd.bx _ HR4.out.rd.m.bx Ab.out KN.out HR4.out.was.m
 go_simp
 refine hK.out _ _ (fun _=>HQ.out _ HR4.out.rd.bx _ HR4.out.rd.m.bx Ab.out KN.out HR4.out.was.m) ?_
 clear hK K hS inv
 intro inv
 try simp only[Act.put,aD,aF,aG]
 have hS:=HQ.out _ HR4.out.rd.bx _ HR4.out.rd.m.bx Ab.out KN.out HR4.out.was.m
 refine rT 12 inv fun K hK=>?_
 go_simp
 clear hS
 refine(vw (vo _ B g A4 (rd::nm::([Nm,Nd]++bl)) mk e4 HR4.out.rd.m r4 (gJ (Sw ((i:Int),0)) 0 4) P 8 3 11 rfl (by rw[HR4.out.ext.vars,HV.out];omega) (by rw[HR4.out.ext.vars,HV.out];omega) aaR.out HP.out.f2) rfl).mono ?_
 rintro en w5 hr
 obtain⟨A5,e5,r5,rfl,hrf,hx,hF,hsm⟩:=HR4.out.call hr
 have lN:=hide hrf
 have KO:=hide (Ab.out.same (hsm Nd (by simp)))
 have aaS:=hide (KN.out.same (hsm Nm (by simp)))
 have aaT:=hide (fun h=>(hF h).2)
 clear hr hrf hx hF hsm HR4 Ab KN aaR
 go_simp
 refine hK.out _ _ ?_
 clear hK K inv
 intro inv
 try simp only[Act.put,aD,aF,aG]
 refine rT 13 inv fun K hK=>?_
 go_simp
 refine hK.out _ _ ?_
 clear hK K inv
 intro inv
 try simp only[Act.put,aD,aF,aG]
 refine rD ?_
 clear inv
 go_wp2_with fail
 have iV:=hide (lN.out.below (RowKit.Below.refl _ _).drew)
 have DN:=hide (KO.out.below (RowKit.Below.refl _ _).drew)
 have VG:=hide (aaS.out.below (RowKit.Below.refl _ _).drew)
 have aaU:=aaT
 clear lN KO aaS aaT
 refine aI (fun w'=>(w'.cell? ⟨rd,0,none⟩=some (.pointer (some ⟨mk,0,none⟩))∧w'.cell? ⟨mk,0,none⟩=some (.pointer (some ⟨g,0,none⟩))∧w'.cell? ⟨rd,3,none⟩=some (.map (some wm))∧gZ w' wm Mw)∧w'.cell? ⟨Nd,0,none⟩=some (.string nm')∧w'.cell? ⟨Nd,1,none⟩=some (.int .i64 4)∧w'.cell? ⟨Nd,2,none⟩=some (.int .i64 (ad:Int))∧w'.cell? ⟨Nd,3,none⟩=some (.int .u8 pl)∧w'.cell? ⟨Nd,4,none⟩=some (.slice bA bn bc)∧w'.cell? ⟨Nd,5,none⟩=some (.slice rA rn rc)∧w'.cell? ⟨Nd,6,none⟩=some (.slice tA tn tc)∧w'.cell? ⟨Nm,0,none⟩=some (.int .u16 (sN:Int))∧w'.cell? ⟨Nm,1,none⟩=some (.int .u16 65535)∧w'.cell? ⟨Nm,2,none⟩=some (.int .u8 (pl:Int))∧w'.cell? ⟨Nm,3,none⟩=some (.int .u8 255)) 14 (by kernel_rfl) (HQ.out _ iV.out.rd.bx _ iV.out.rd.m.bx DN.out VG.out iV.out.was.m) (fun hS=>?_)
 refine rP 0 hS ?_
 refine rP 1 hS ?_
 refine rP 2 hS ?_
 refine rP 3 hS ?_
 refine rP 4 hS ?_
 refine rL 5 [13,14] rfl hS (by intro w hSw;obtain⟨⟨s0,s1,s3,s4⟩,c0,c1,c2,c3,c4,c5,c6,c7,c8,c9,c10⟩:=hSw;go_simp;try with_reducible rfl) ?_
 refine rP 6 hS ?_
 refine rP 7 hS ?_
 refine rP 8 hS ?_
 refine rP 9 hS ?_
 refine rL 10 [12,13,14] rfl hS (by intro w hSw;obtain⟨⟨s0,s1,s3,s4⟩,c0,c1,c2,c3,c4,c5,c6,c7,c8,c9,c10⟩:=hSw;go_simp;try with_reducible rfl) ?_
 refine rL 11 [12,13,14] rfl hS (by intro w hSw;obtain⟨⟨s0,s1,s3,s4⟩,c0,c1,c2,c3,c4,c5,c6,c7,c8,c9,c10⟩:=hSw;go_simp;try with_reducible rfl) ?_
 intro inv
 refine rO 12 inv fun K hK=>?_
 go_simp
 clear hS
 refine(Cy _ B g A5 (rd::nm::([Nm,Nd]++bl)) mk e5 iV.out.rd.m ⟨sN,65535,pl,255⟩ (by rw[← tH.out];exact Za ha16 hpl) P (by rw[iV.out.ext.vars];exact HV.out) (by rw[← tH.out];exact HP.out.m1)).mono ?_
 rintro en w7 hr
 obtain⟨A7,e7,r7,rfl,hrf,hx,hF,hsm⟩:=iV.out.call hr
 have gY:=hide hrf
 have xu:=hide (DN.out.same (hsm Nd (by simp)))
 have KQ:=hide (VG.out.same (hsm Nm (by simp)))
 have aaV:=hide (fun h=>(aaU.out ((hF h).1)).ext iV.out.rd.inv hx)
 have aaW:=hide (fun h=>(hF h).2)
 clear hr hrf hx hF hsm iV DN VG aaU
 have hS:=HQ.out _ gY.out.rd.bx _ gY.out.rd.m.bx xu.out KQ.out gY.out.was.m
 go_simp
 refine hK.out _ _ (fun _=>HQ.out _ gY.out.rd.bx _ gY.out.rd.m.bx xu.out KQ.out gY.out.was.m) ?_
 clear hK K hS inv
 intro inv
 try simp only[Act.put,aD,aF,aG]
 have hS:=HQ.out _ gY.out.rd.bx _ gY.out.rd.m.bx xu.out KQ.out gY.out.was.m
 refine rO 13 inv fun K hK=>?_
 go_simp
 clear hS
 refine(nO _ B g A7 (rd::nm::([Nm,Nd]++bl)) mk e7 gY.out.rd.m r5 r7 (DL i Sw) (dx ⟨sN,65535,pl,255⟩) P aaV.out aaW.out (by rw[← tH.out];exact HP.out.a1)).mono ?_
 rintro en w8 hr
 obtain⟨A8,e8,r8,rfl,hrf,hx,hF,hsm⟩:=gY.out.call hr
 have iW:=hide hrf
 have xw:=hide (xu.out.same (hsm Nd (by simp)))
 have KR:=hide (KQ.out.same (hsm Nm (by simp)))
 have Xi:=hide (fun h=>(hF h).2)
 clear hr hrf hx hF hsm gY xu KQ aaV aaW
 have hS:=HQ.out _ iW.out.rd.bx _ iW.out.rd.m.bx xw.out KR.out iW.out.was.m
 go_simp
 refine hK.out _ _ (fun _=>HQ.out _ iW.out.rd.bx _ iW.out.rd.m.bx xw.out KR.out iW.out.was.m) ?_
 clear hK K hS inv
 intro inv
 try simp only[Act.put,aD,aF,aG]
 have hS:=HQ.out _ iW.out.rd.bx _ iW.out.rd.m.bx xw.out KR.out iW.out.was.m
 refine rT 14 inv fun K hK=>?_
 go_simp
 clear hS
 refine(jY _ B g A8 ([Nm,Nd]++bl) mk e8 rd n (.map (some wm)) nm Mn _ iW.out.rd (nM.out _ iW.out.kp.low) dV.out P (i:Int) 1 r8 (bL (DL i Sw) (dx ⟨sN,65535,pl,255⟩)) Xi.out (by rw[← tH.out];exact HP.out.s1)).mono ?_
 rintro en w9 ⟨rfl,hr⟩
 obtain⟨A9,e9,Mn9,hrf,hx,hF,hsm⟩:=iW.out.send hr
 have mQ:=hide hrf
 have KS:=hide (xw.out.same (hsm Nd (by simp)))
 have aaY:=hide (KR.out.same (hsm Nm (by simp)))
 clear hr hrf hx hF hsm iW xw KR Xi
 go_simp
 refine hK.out _ _ ?_
 clear hK K inv
 intro inv
 try simp only[Act.put,aD,aF,aG]
 refine rD ?_
 clear inv
 go_wp2_with fail
 have r1:w9.cell? ⟨rd,1,none⟩=some (.slice n.dA n.dn n.dc):=mQ.out.rd.bx.get 1 _ rfl
 have r2:w9.cell? ⟨rd,2,none⟩=some (.slice n.lA n.ln n.lc):=mQ.out.rd.bx.get 2 _ rfl
 refine(BG w9 B rd n (Nat.le_of_lt mQ.out.rd.m.sa.hB) (nM.out _ mQ.out.kp.low) dV.out r1 r2 (i:Int) 1).mono ?_
 rintro en ng ⟨rfl,hb⟩
 clear r1 r2
 have qL:=hide (mQ.out.below hb)
 have Ac:=hide (KS.out.below hb)
 have Xj:=hide (aaY.out.below hb)
 clear hb mQ KS aaY
 obtain⟨o1,ho1⟩:∃o1,(aP n.ls ((i:Int),1)).isSome =o1:=⟨_,rfl⟩
 rw[ho1]
 have HO:=hide ho1
 clear ho1
 cases o1
 ·have pW:=hide (show qo w B g A bl mk e rd n (.map (some wm)) nm P (BK n.ls i ad pl Sw Sn) ng from by
   unfold BK;rw[if_neg (by rw[HO.out];simp),tH.out];exact qL.out.out)
  go_wp2
  exact bodyPost_ret (results_none (by rfl) _ _ _) rfl ⟨rfl,pW.out⟩
 have d2:ng.cell? ⟨Nd,2,none⟩=some (.int .i64 (ad:Int)):=Ac.out.get 2 _ rfl
 go_wp2_with fail
 clear d2
 refine(DI ad ng ha16).mono ?_
 rintro en xg ⟨rfl,hb⟩
 have Bz:=hide (qL.out.below hb)
 have PW:=hide (Ac.out.below hb)
 have acu:=hide (Xj.out.below hb)
 clear hb qL Ac Xj
 have hval:(mR ad).val = .agg #[.int .u16 65535,.int .u16 ((2 ^ ad:Nat):Int),.int .u8 255,.int .u8 255]:=rfl
 rw[hval,HPN.out]
 clear hval
 have d3:=fun o=>((PW.out.below (below_alloc2 xg o)).get 3 _ rfl:(xg.alloc o).cell? ⟨Nd,3,none⟩=some (.int .u8 pl))
 go_wp2_with fail
 clear d3
 have PK:=hide ((Bz.out.alloc (.cells #[.int .u16 65535,.int .u16 (sN:Int),.int .u8 255,.int .u8 (pl:Int)] 32)).less (more':=[xg.heap.size,Nd]) (fun j hj=>by simp only[List.mem_cons]at hj ⊢;rcases hj with a | a | a<;>simp_all))
 have Xk:=hide (PW.out.below (below_alloc2 xg (.cells #[.int .u16 65535,.int .u16 (sN:Int),.int .u8 255,.int .u8 (pl:Int)] 32)))
 have Xl:=hide (Bx.new xg #[.int .u16 65535,.int .u16 (sN:Int),.int .u8 255,.int .u8 (pl:Int)] 32)
 clear Bz PW acu HQ
 generalize World.alloc xg _=w12 at*
 generalize xg.heap.size=Nq at*
 have HQ:=hide (fun(w':World) (h1:Bx w' rd #[.pointer (some ⟨mk,0,none⟩),.slice n.dA n.dn n.dc,.slice n.lA n.ln n.lc,.map (some wm),.map (some nm)] 122) (e':Nat) (h2:Bx w' mk #[.pointer (some ⟨g,0,none⟩),.int .i64 (e':Int)] 119) (hbd:Bx w' Nd #[.string nm',.int .i64 4,.int .i64 (ad:Int),.int .u8 pl,.slice bA bn bc,.slice rA rn rc,.slice tA tn tc] 86) (xO:Bx w' Nq #[.int .u16 65535,.int .u16 (sN:Int),.int .u8 255,.int .u8 (pl:Int)] 32) (h4:gZ w' wm Mw)=>show(w'.cell? ⟨rd,0,none⟩=some (.pointer (some ⟨mk,0,none⟩))∧w'.cell? ⟨mk,0,none⟩=some (.pointer (some ⟨g,0,none⟩))∧w'.cell? ⟨rd,3,none⟩=some (.map (some wm))∧gZ w' wm Mw)∧w'.cell? ⟨Nd,0,none⟩=some (.string nm')∧w'.cell? ⟨Nd,1,none⟩=some (.int .i64 4)∧w'.cell? ⟨Nd,2,none⟩=some (.int .i64 (ad:Int))∧w'.cell? ⟨Nd,3,none⟩=some (.int .u8 pl)∧w'.cell? ⟨Nd,4,none⟩=some (.slice bA bn bc)∧w'.cell? ⟨Nd,5,none⟩=some (.slice rA rn rc)∧w'.cell? ⟨Nd,6,none⟩=some (.slice tA tn tc)∧w'.cell? ⟨Nq,0,none⟩=some (.int .u16 65535)∧w'.cell? ⟨Nq,1,none⟩=some (.int .u16 (sN:Int))∧w'.cell? ⟨Nq,2,none⟩=some (.int .u8 255)∧w'.cell? ⟨Nq,3,none⟩=some (.int .u8 (pl:Int))from⟨⟨h1.get 0 _ rfl,h2.get 0 _ rfl,h1.get 3 _ rfl,h4⟩,hbd.get 0 _ rfl,hbd.get 1 _ rfl,hbd.get 2 _ rfl,hbd.get 3 _ rfl,hbd.get 4 _ rfl,hbd.get 5 _ rfl,hbd.get 6 _ rfl,xO.get 0 _ rfl,xO.get 1 _ rfl,xO.get 2 _ rfl,xO.get 3 _ rfl⟩)
 have BM:=hide (PK.out.below (RowKit.Below.refl _ _).drew)
 have PX:=hide (Xk.out.below (RowKit.Below.refl _ _).drew)
 have PY:=hide (Xl.out.below (RowKit.Below.refl _ _).drew)
 clear PK Xk Xl
 refine aI (fun w'=>(w'.cell? ⟨rd,0,none⟩=some (.pointer (some ⟨mk,0,none⟩))∧w'.cell? ⟨mk,0,none⟩=some (.pointer (some ⟨g,0,none⟩))∧w'.cell? ⟨rd,3,none⟩=some (.map (some wm))∧gZ w' wm Mw)∧w'.cell? ⟨Nd,0,none⟩=some (.string nm')∧w'.cell? ⟨Nd,1,none⟩=some (.int .i64 4)∧w'.cell? ⟨Nd,2,none⟩=some (.int .i64 (ad:Int))∧w'.cell? ⟨Nd,3,none⟩=some (.int .u8 pl)∧w'.cell? ⟨Nd,4,none⟩=some (.slice bA bn bc)∧w'.cell? ⟨Nd,5,none⟩=some (.slice rA rn rc)∧w'.cell? ⟨Nd,6,none⟩=some (.slice tA tn tc)∧w'.cell? ⟨Nq,0,none⟩=some (.int .u16 65535)∧w'.cell? ⟨Nq,1,none⟩=some (.int .u16 (sN:Int))∧w'.cell? ⟨Nq,2,none⟩=some (.int .u8 255)∧w'.cell? ⟨Nq,3,none⟩=some (.int .u8 (pl:Int))) 23 (by kernel_rfl) (HQ.out _ BM.out.rd.bx _ BM.out.rd.m.bx PX.out PY.out BM.out.was.m) (fun hS=>?_)
 refine rP 0 hS ?_
 refine rP 1 hS ?_
 refine rP 2 hS ?_
 refine rL 3 [23] rfl hS (by intro w hSw;obtain⟨⟨s0,s1,s3,s4⟩,c0,c1,c2,c3,c4,c5,c6,c7,c8,c9,c10⟩:=hSw;go_simp;try with_reducible rfl) ?_
 refine rP 4 hS ?_
 refine rP 5 hS ?_
 refine rP 6 hS ?_
 refine rL 7 [22,23] rfl hS (by intro w hSw;obtain⟨⟨s0,s1,s3,s4⟩,c0,c1,c2,c3,c4,c5,c6,c7,c8,c9,c10⟩:=hSw;go_simp;try with_reducible rfl) ?_
 refine rP 8 hS ?_
 refine rP 9 hS ?_
 refine rP 10 hS ?_
 refine rL 11 [21,22,23] rfl hS (by intro w hSw;obtain⟨⟨s0,s1,s3,s4⟩,c0,c1,c2,c3,c4,c5,c6,c7,c8,c9,c10⟩:=hSw;go_simp;try with_reducible rfl) ?_
 refine rP 12 hS ?_
 refine rP 13 hS ?_
 refine rP 15 hS ?_
 refine rP 16 hS ?_
 refine rP 17 hS ?_
 refine rL 18 [20,21,22,23] rfl hS (by intro w hSw;obtain⟨⟨s0,s1,s3,s4⟩,c0,c1,c2,c3,c4,c5,c6,c7,c8,c9,c10⟩:=hSw;go_simp;try with_reducible rfl) ?_
 refine rL 19 [20,21,22,23] rfl hS (by intro w hSw;obtain⟨⟨s0,s1,s3,s4⟩,c0,c1,c2,c3,c4,c5,c6,c7,c8,c9,c10⟩:=hSw;go_simp;try with_reducible rfl) ?_
 intro inv
 refine iX (i:=14) (v:=.int .i64 ((bQ Mw ((i:Int),1):Nat):Int)) [21,22,23] rfl (by kernel_rfl) (by kernel_rfl) (by kernel_rfl) (by kernel_rfl) (fun _ _ _ h=>h) inv ⟨by rfl,?_⟩ hS (fun inv2=>?_)
 ·intro w hSw
  obtain⟨⟨s0,s1,s3,s4⟩,c0,c1,c2,c3,c4,c5,c6,c7,c8,c9,c10⟩:=hSw;exact⟨146,_,by go_simp,nU w rd wm Mw s4 BM.out.was.ints s3 (i:Int) 1 (by simp only[ay];omega) (by simp only[ay];omega)⟩
 clear inv
 have inv:=inv2
 clear inv2
 try simp only[Act.put,aD,aF,aG]
 refine rO 20 inv fun K hK=>?_
 go_simp
 clear hS
 refine(Cy _ B g A9 (rd::nm::([Nq,Nd]++bl)) mk e9 BM.out.rd.m ⟨65535,sN,255,pl⟩ (by rw[← Ie.out];exact Zb ha16 hpl) P (by rw[BM.out.ext.vars];exact HV.out) (by rw[← Ie.out];exact HP.out.m2)).mono ?_
 rintro en w14 hr
 obtain⟨A14,e14,r14,rfl,hrf,hx,hF,hsm⟩:=BM.out.call hr
 have uj:=hide hrf
 have EZ:=hide (PX.out.same (hsm Nd (by simp)))
 have E5:=hide (PY.out.same (hsm Nq (by simp)))
 have Xm:=hide (fun h=>(hF h).2)
 clear hr hrf hx hF hsm BM PX PY
 have hS:=HQ.out _ uj.out.rd.bx _ uj.out.rd.m.bx EZ.out E5.out uj.out.was.m
 go_simp
 refine hK.out _ _ (fun _=>HQ.out _ uj.out.rd.bx _ uj.out.rd.m.bx EZ.out E5.out uj.out.was.m) ?_
 clear hK K hS inv
 intro inv
 try simp only[Act.put,aD,aF,aG]
 have hS:=HQ.out _ uj.out.rd.bx _ uj.out.rd.m.bx EZ.out E5.out uj.out.was.m
 refine rO 21 inv fun K hK=>?_
 go_simp
 clear hS
 refine(nO _ B g A14 (rd::nm::([Nq,Nd]++bl)) mk e14 uj.out.rd.m (bQ Mw ((i:Int),1)) r14 (Sw ((i:Int),1)) (dx ⟨65535,sN,255,pl⟩) P (fun h=>uj.out.was.sw h _) Xm.out (by rw[← Ie.out];exact HP.out.b1)).mono ?_
 rintro en w15 hr
 obtain⟨A15,e15,r15,rfl,hrf,hx,hF,hsm⟩:=uj.out.call hr
 have sH:=hide hrf
 have E8:=hide (EZ.out.same (hsm Nd (by simp)))
 have E9:=hide (E5.out.same (hsm Nq (by simp)))
 have Xn:=hide (fun h=>(hF h).2)
 clear hr hrf hx hF hsm uj EZ E5 Xm
 have hS:=HQ.out _ sH.out.rd.bx _ sH.out.rd.m.bx E8.out E9.out sH.out.was.m
 go_simp
 refine hK.out _ _ (fun _=>HQ.out _ sH.out.rd.bx _ sH.out.rd.m.bx E8.out E9.out sH.out.was.m) ?_
 clear hK K hS inv
 intro inv
 try simp only[Act.put,aD,aF,aG]
 have hS:=HQ.out _ sH.out.rd.bx _ sH.out.rd.m.bx E8.out E9.out sH.out.was.m
 refine rO 22 inv fun K hK=>?_
 go_simp
 clear hS
 refine(vw (vo _ B g A15 (rd::nm::([Nq,Nd]++bl)) mk e15 sH.out.rd.m r15 (bL (Sw ((i:Int),1)) (dx ⟨65535,sN,255,pl⟩)) P 4 4 8 rfl (by rw[sH.out.ext.vars,HV.out];omega) (by rw[sH.out.ext.vars,HV.out];omega) Xn.out (by rw[← Ie.out];exact HP.out.b2)) rfl).mono ?_
 rintro en w16 hr
 obtain⟨A16,e16,r16,rfl,hrf,hx,hF,hsm⟩:=sH.out.call hr
 have sI:=hide hrf
 have Fa:=hide (E8.out.same (hsm Nd (by simp)))
 have Fb:=hide (E9.out.same (hsm Nq (by simp)))
 have Xo:=hide (fun h=>(hF h).2)
 clear hr hrf hx hF hsm sH E8 E9 Xn
 have hS:=HQ.out _ sI.out.rd.bx _ sI.out.rd.m.bx Fa.out Fb.out sI.out.was.m
 go_simp
 refine hK.out _ _ (fun _=>HQ.out _ sI.out.rd.bx _ sI.out.rd.m.bx Fa.out Fb.out sI.out.was.m) ?_
 clear hK K hS inv
 intro inv
 try simp only[Act.put,aD,aF,aG]
 have hS:=HQ.out _ sI.out.rd.bx _ sI.out.rd.m.bx Fa.out Fb.out sI.out.was.m
 refine rT 23 inv fun K hK=>?_
 go_simp
 clear hS
 refine(vw (vo _ B g A16 (rd::nm::([Nq,Nd]++bl)) mk e16 sI.out.rd.m r16 (gJ (bL (Sw ((i:Int),1)) (dx ⟨65535,sN,255,pl⟩)) 4 4) P 11 3 14 rfl (by rw[sI.out.ext.vars,HV.out];omega) (by rw[sI.out.ext.vars,HV.out];omega) Xo.out (by rw[← Ie.out];exact HP.out.b3)) rfl).mono ?_
 rintro en w17 hr
 obtain⟨A17,e17,r17,rfl,hrf,hx,hF,hsm⟩:=sI.out.call hr
 have aaZ:=hide hrf
 have Xp:=hide (Fa.out.same (hsm Nd (by simp)))
 have Xq:=hide (Fb.out.same (hsm Nq (by simp)))
 have Xr:=hide (fun h=>(hF h).2)
 clear hr hrf hx hF hsm sI Fa Fb Xo
 go_simp
 refine hK.out _ _ ?_
 clear hK K inv
 intro inv
 try simp only[Act.put,aD,aF,aG]
 refine rT 24 inv fun K hK=>?_
 go_simp
 refine hK.out _ _ ?_
 clear hK K inv
 intro inv
 try simp only[Act.put,aD,aF,aG]
 refine rD ?_
 clear inv
 go_wp2_with fail
 have xA:=hide (aaZ.out.below (RowKit.Below.refl _ _).drew)
 have PZ:=hide (Xp.out.below (RowKit.Below.refl _ _).drew)
 have P5:=hide (Xq.out.below (RowKit.Below.refl _ _).drew)
 have Xt:=Xr
 clear aaZ Xp Xq Xr
 refine aI (fun w'=>(w'.cell? ⟨rd,0,none⟩=some (.pointer (some ⟨mk,0,none⟩))∧w'.cell? ⟨mk,0,none⟩=some (.pointer (some ⟨g,0,none⟩))∧w'.cell? ⟨rd,3,none⟩=some (.map (some wm))∧gZ w' wm Mw)∧w'.cell? ⟨Nd,0,none⟩=some (.string nm')∧w'.cell? ⟨Nd,1,none⟩=some (.int .i64 4)∧w'.cell? ⟨Nd,2,none⟩=some (.int .i64 (ad:Int))∧w'.cell? ⟨Nd,3,none⟩=some (.int .u8 pl)∧w'.cell? ⟨Nd,4,none⟩=some (.slice bA bn bc)∧w'.cell? ⟨Nd,5,none⟩=some (.slice rA rn rc)∧w'.cell? ⟨Nd,6,none⟩=some (.slice tA tn tc)∧w'.cell? ⟨Nq,0,none⟩=some (.int .u16 65535)∧w'.cell? ⟨Nq,1,none⟩=some (.int .u16 (sN:Int))∧w'.cell? ⟨Nq,2,none⟩=some (.int .u8 255)∧w'.cell? ⟨Nq,3,none⟩=some (.int .u8 (pl:Int))) 17 (by kernel_rfl) (HQ.out _ xA.out.rd.bx _ xA.out.rd.m.bx PZ.out P5.out xA.out.was.m) (fun hS=>?_)
 refine rP 0 hS ?_
 refine rP 1 hS ?_
 refine rP 2 hS ?_
 refine rL 3 [17] rfl hS (by intro w hSw;obtain⟨⟨s0,s1,s3,s4⟩,c0,c1,c2,c3,c4,c5,c6,c7,c8,c9,c10⟩:=hSw;go_simp;try with_reducible rfl) ?_
 refine rP 4 hS ?_
 refine rP 5 hS ?_
 refine rP 6 hS ?_
 refine rL 7 [16,17] rfl hS (by intro w hSw;obtain⟨⟨s0,s1,s3,s4⟩,c0,c1,c2,c3,c4,c5,c6,c7,c8,c9,c10⟩:=hSw;go_simp;try with_reducible rfl) ?_
 refine rP 8 hS ?_
 refine rP 9 hS ?_
 refine rP 10 hS ?_
 refine rL 11 [15,16,17] rfl hS (by intro w hSw;obtain⟨⟨s0,s1,s3,s4⟩,c0,c1,c2,c3,c4,c5,c6,c7,c8,c9,c10⟩:=hSw;go_simp;try with_reducible rfl) ?_
 refine rP 12 hS ?_
 refine rP 13 hS ?_
 intro inv
 refine iX (i:=14) (v:=.int .i64 ((bQ Mw ((i:Int),0):Nat):Int)) [15,16,17] rfl (by kernel_rfl) (by kernel_rfl) (by kernel_rfl) (by kernel_rfl) (fun _ _ _ h=>h) inv ⟨by rfl,?_⟩ hS (fun inv2=>?_)
 ·intro w hSw
  obtain⟨⟨s0,s1,s3,s4⟩,c0,c1,c2,c3,c4,c5,c6,c7,c8,c9,c10⟩:=hSw;exact⟨146,_,by go_simp,nU w rd wm Mw s4 xA.out.was.ints s3 (i:Int) 0 (by simp only[ay];omega) (by simp only[ay];omega)⟩
 clear inv
 have inv:=inv2
 clear inv2
 try simp only[Act.put,aD,aF,aG]
 refine rO 15 inv fun K hK=>?_
 go_simp
 clear hS
 refine(vw (vo _ B g A17 (rd::nm::([Nq,Nd]++bl)) mk e17 xA.out.rd.m (bQ Mw ((i:Int),0)) (Sw ((i:Int),0)) P 4 4 8 rfl (by rw[xA.out.ext.vars,HV.out];omega) (by rw[xA.out.ext.vars,HV.out];omega) (fun h=>xA.out.was.sw h _) HP.out.o1) rfl).mono ?_
 rintro en w19 hr
 obtain⟨A19,e19,r19,rfl,hrf,hx,hF,hsm⟩:=xA.out.call hr
 have qN:=hide hrf
 have Fe:=hide (PZ.out.same (hsm Nd (by simp)))
 have Fg:=hide (P5.out.same (hsm Nq (by simp)))
 have Xu:=hide (fun h=>(Xt.out ((hF h).1)).ext xA.out.rd.inv hx)
 have Xv:=hide (fun h=>(hF h).2)
 clear hr hrf hx hF hsm xA PZ P5 Xt
 have hS:=HQ.out _ qN.out.rd.bx _ qN.out.rd.m.bx Fe.out Fg.out qN.out.was.m
 go_simp
 refine hK.out _ _ (fun _=>HQ.out _ qN.out.rd.bx _ qN.out.rd.m.bx Fe.out Fg.out qN.out.was.m) ?_
 clear hK K hS inv
 intro inv
 try simp only[Act.put,aD,aF,aG]
 have hS:=HQ.out _ qN.out.rd.bx _ qN.out.rd.m.bx Fe.out Fg.out qN.out.was.m
 refine rO 16 inv fun K hK=>?_
 go_simp
 clear hS
 refine(vw (vo _ B g A19 (rd::nm::([Nq,Nd]++bl)) mk e19 qN.out.rd.m r19 (gJ (Sw ((i:Int),0)) 4 4) P 11 3 14 rfl (by rw[qN.out.ext.vars,HV.out];omega) (by rw[qN.out.ext.vars,HV.out];omega) Xv.out HP.out.o2) rfl).mono ?_
 rintro en w20 hr
 obtain⟨A20,e20,r20,rfl,hrf,hx,hF,hsm⟩:=qN.out.call hr
 have sJ:=hide hrf
 have Fh:=hide (Fe.out.same (hsm Nd (by simp)))
 have Fj:=hide (Fg.out.same (hsm Nq (by simp)))
 have Xw:=hide (fun h=>(Xu.out ((hF h).1)).ext qN.out.rd.inv hx)
 have Xx:=hide (fun h=>(hF h).2)
 clear hr hrf hx hF hsm qN Fe Fg Xu Xv
 have hS:=HQ.out _ sJ.out.rd.bx _ sJ.out.rd.m.bx Fh.out Fj.out sJ.out.was.m
 go_simp
 refine hK.out _ _ (fun _=>HQ.out _ sJ.out.rd.bx _ sJ.out.rd.m.bx Fh.out Fj.out sJ.out.was.m) ?_
 clear hK K hS inv
 intro inv
 try simp only[Act.put,aD,aF,aG]
 have hS:=HQ.out _ sJ.out.rd.bx _ sJ.out.rd.m.bx Fh.out Fj.out sJ.out.was.m
 refine rT 17 inv fun K hK=>?_
 go_simp
 clear hS
 refine(Gn _ B g A20 (rd::nm::([Nq,Nd]++bl)) mk e20 sJ.out.rd.m r20 (gJ (gJ (Sw ((i:Int),0)) 4 4) 11 3) P (by rw[sJ.out.ext.vars];exact HV.out) Xx.out HP.out.o3).mono ?_
 rintro en w21 hr
 obtain⟨A21,e21,r21,rfl,hrf,hx,hF,hsm⟩:=sJ.out.call hr
 have P6:=hide hrf
 have Xy:=hide (Fh.out.same (hsm Nd (by simp)))
 have Xz:=hide (Fj.out.same (hsm Nq (by simp)))
 have XA:=hide (fun h=>(Xw.out ((hF h).1)).ext sJ.out.rd.inv hx)
 have XB:=hide (fun h=>(hF h).2)
 clear hr hrf hx hF hsm sJ Fh Fj Xw Xx
 go_simp
 refine hK.out _ _ ?_
 clear hK K inv
 intro inv
 try simp only[Act.put,aD,aF,aG]
 refine rT 18 inv fun K hK=>?_
 go_simp
 refine hK.out _ _ ?_
 clear hK K inv
 intro inv
 try simp only[Act.put,aD,aF,aG]
 refine rD ?_
 clear inv
 have m0:w21.cell? ⟨rd,0,none⟩=some (.pointer (some ⟨mk,0,none⟩)):=P6.out.rd.bx.get 0 _ rfl
 go_wp2_with fail
 clear m0
 refine(nO _ B g A21 (rd::nm::([Nq,Nd]++bl)) mk e21 P6.out.rd.m r17 r21 (gJ (gJ (bL (Sw ((i:Int),1)) (dx ⟨65535,sN,255,pl⟩)) 4 4) 11 3) (oh (gJ (gJ (Sw ((i:Int),0)) 4 4) 11 3)) P XA.out XB.out (by rw[← Ie.out];exact HP.out.a2)).mono ?_
 rintro en w22 hr
 obtain⟨A22,e22,r22,rfl,hrf,hx,hF,hsm⟩:=P6.out.call hr
 have P7:=hide hrf
 have acv:=hide (Xy.out.same (hsm Nd (by simp)))
 have acw:=hide (Xz.out.same (hsm Nq (by simp)))
 have XC:=hide (fun h=>(hF h).2)
 clear hr hrf hx hF hsm P6 Xy Xz XA XB
 go_wp2_with fail
 refine(jY _ B g A22 ([Nq,Nd]++bl) mk e22 rd n (.map (some wm)) nm Mn9 _ P7.out.rd (nM.out _ P7.out.kp.low) dV.out P (i:Int) 0 r22 (bL (gJ (gJ (bL (Sw ((i:Int),1)) (dx ⟨65535,sN,255,pl⟩)) 4 4) 11 3) (oh (gJ (gJ (Sw ((i:Int),0)) 4 4) 11 3))) XC.out (by rw[← Ie.out,← tH.out];exact HP.out.s2)).mono ?_
 rintro en w23 ⟨rfl,hr⟩
 obtain⟨A23,e23,ahZ,hrf,hx,hF,hsm⟩:=P7.out.send hr
 have pW:=hide (show qo w B g A bl mk e rd n (.map (some wm)) nm P (BK n.ls i ad pl Sw Sn) w23 from by
  unfold BK;rw[if_pos (by rw[HO.out])]
  have hq:=hrf.out
  rw[← Ie.out,← tH.out]at hq
  exact hq)
 clear hr hrf hx hF hsm P7 acv acw XC
 go_wp2
 go_end0
 exact⟨rfl,pW.out⟩
end Go.Proofs.YtlhmdcgckocidaaGreat
