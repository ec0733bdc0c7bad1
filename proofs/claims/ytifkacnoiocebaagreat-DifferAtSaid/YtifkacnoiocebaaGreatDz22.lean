/- A part of the proof: Rd4. -/
import Derived.Test.YtifkacnoiocebaaGreatDz21
set_option linter.unusedVariables false
set_option linter.unusedSimpArgs false
set_option maxRecDepth 100000
set_option maxHeartbeats 8000000
namespace Go.Proofs.YtifkacnoiocebaaGreat
open aj Go.Maps Go.RowKit
def wU (a pl:Nat):M4:=⟨2 ^ a,65535,pl,255⟩
def Bz (a pl:Nat):M4:=⟨65535,2 ^ a,255,pl⟩
def yj (i:Nat) (Sw:Pl→aj.Fn):aj.Fn:=dL (dL (Sw ((i:Int),0)) 0 4) 8 3
def JU (i a pl:Nat) (Sw:Pl→aj.Fn):aj.Fn:=dL (dL (bf (Sw ((i:Int),1)) (bI (Bz a pl))) 4 4) 11 3
def JV (i:Nat) (Sw:Pl→aj.Fn):aj.Fn:=mH (dL (dL (Sw ((i:Int),0)) 4 4) 11 3)
def wV (ls:List ah) (i a pl:Nat) (Sw Sn:Pl→aj.Fn):Pl→aj.Fn:=
 if(aD ls ((i:Int),1)).isSome then eH ls ((i:Int),0) (bf (JU i a pl Sw) (JV i Sw)) (eH ls ((i:Int),1) (bf (yj i Sw) (bI (wU a pl))) Sn)
 else eH ls ((i:Int),1) (bf (yj i Sw) (bI (wU a pl))) Sn
structure U3 (P:aj.Fn→Prop) (ls:List ah) (i a pl:Nat) (Sw Sn:Pl→aj.Fn):Prop where
 f1:uM P (Sw ((i:Int),0)) 0 4
 f2:uM P (dL (Sw ((i:Int),0)) 0 4) 8 3
 m1:rE P (wU a pl)
 a1:PC P (bf (yj i Sw) (bI (wU a pl)))
 s1:nS P ls ((i:Int),1) (bf (yj i Sw) (bI (wU a pl))) Sn
 m2:rE P (Bz a pl)
 b1:PC P (bf (Sw ((i:Int),1)) (bI (Bz a pl)))
 b2:uM P (bf (Sw ((i:Int),1)) (bI (Bz a pl))) 4 4
 b3:uM P (dL (bf (Sw ((i:Int),1)) (bI (Bz a pl))) 4 4) 11 3
 o1:uM P (Sw ((i:Int),0)) 4 4
 o2:uM P (dL (Sw ((i:Int),0)) 4 4) 11 3
 o3:Bp P (dL (dL (Sw ((i:Int),0)) 4 4) 11 3)
 a2:PC P (bf (JU i a pl Sw) (JV i Sw))
 s2:nS P ls ((i:Int),0) (bf (JU i a pl Sw) (JV i Sw)) (eH ls ((i:Int),1) (bf (yj i Sw) (bI (wU a pl))) Sn)
theorem Xe {a pl:Nat} (h:a<16) (hp:pl<256):(wU a pl).ok :=⟨uz h,Nat.lt_succ_self 65535,hp,Nat.lt_succ_self 255⟩
theorem Xf {a pl:Nat} (h:a<16) (hp:pl<256):(Bz a pl).ok :=⟨Nat.lt_succ_self 65535,uz h,Nat.lt_succ_self 255,hp⟩
theorem Tt (w:World) (B g:Nat) (A:St) (bl:List Nat) (mk e rd:Nat) (n:aC) (wm nm:Nat) (Mw Mn:aB→Option Value) (Sw Sn:Pl→aj.Fn) (h:RD w B g A bl mk e rd n (.map (some wm)) nm Mn Sn) (hw:oC w A e bl wm Mw Sw) (hv:A.vars=14) (hl:bD ah.cells 4 w B n.lA n.ln n.ls) (hlk:mU n.ls)
  (P:aj.Fn→Prop) (i:Nat) (hi:i≤1000) (r:ak) (ad:Nat) (hk:r.kind=4) (had:r.addr=(ad:Int)) (ha16:ad<16) (hpl:r.pool<256) (hP:U3 P n.ls i ad r.pool Sw Sn):
  Calls Tryz.prog 60 #[.pointer (some ⟨rd,0,none⟩),.int .i64 (i:Int),r.val] w fun en w'=>en= .returned (.tuple #[])∧qy w B g A bl mk e rd n (.map (some wm)) nm P (wV n.ls i ad r.pool Sw Sn) w':=by
 obtain⟨nm',kd,ad',pl,bA,bn,bc,bs,rA,rn,rc,rs,tA,tn,tc,ts⟩:=r
 simp only at hk had hpl hP
 subst hk
 subst had
 have j4:=hide ((RF.start h hw P).alloc (.cells #[.string nm',.int .i64 4,.int .i64 (ad:Int),.int .u8 pl,.slice bA bn bc,.slice rA rn rc,.slice tA tn tc] 81))
 have BA:=hide (Bx.new w #[.string nm',.int .i64 4,.int .i64 (ad:Int),.int .u8 pl,.slice bA bn bc,.slice rA rn rc,.slice tA tn tc] 81)
 have jL:=hide (fun(w':World) (hb:RowKit.Below B w w')=>hl.below hb (Nat.le_refl _))
 have iy:=hide hlk
 have HP:=hide hP
 have HV:=hide hv
 clear h hw hl hlk hP hv
 simp only[ak.val]at*
 go_enter Tryz.func60,Tryz.ntmps60
 go_wp2_with fail
 generalize World.alloc w _=w0 at*
 generalize w.heap.size=Nd at*
 refine(DR ad w0 ha16).mono ?_
 rintro en w1 ⟨rfl,hb⟩
 have HR1:=hide (j4.out.below hb)
 have vJ:=hide (BA.out.below hb)
 clear hb j4 BA
 have hval:(sM ad).val = .agg #[.int .u16 ((2 ^ ad:Nat):Int),.int .u16 65535,.int .u8 255,.int .u8 255]:=rfl
 rw[hval]
 clear hval
 have JW:=hide (show wU ad pl=⟨2 ^ ad,65535,pl,255⟩from rfl)
 have Hl:=hide (show Bz ad pl=⟨65535,2 ^ ad,255,pl⟩from rfl)
 generalize hpw:2 ^ ad=sN at*
 have Ql:=hide hpw
 clear hpw
 have d3:=fun o=>((vJ.out.below (below_alloc2 w1 o)).get 3 _ rfl:(w1.alloc o).cell? ⟨Nd,3,none⟩=some (.int .u8 pl))
 go_wp2_with fail
 clear d3
 have HR2:=hide (HR1.out.alloc (.cells #[.int .u16 (sN:Int),.int .u16 65535,.int .u8 (pl:Int),.int .u8 255] 32))
 have wW:=hide (vJ.out.below (below_alloc2 w1 (.cells #[.int .u16 (sN:Int),.int .u16 65535,.int .u8 (pl:Int),.int .u8 255] 32)))
 have Yu:=hide (Bx.new w1 #[.int .u16 (sN:Int),.int .u16 65535,.int .u8 (pl:Int),.int .u8 255] 32)
 clear HR1 vJ
 generalize World.alloc w1 _=w2 at*
 generalize w1.heap.size=Nm at*
 have HQ:=hide (fun(w':World) (h1:Bx w' rd #[.pointer (some ⟨mk,0,none⟩),.slice n.dA n.dn n.dc,.slice n.lA n.ln n.lc,.map (some wm),.map (some nm)] 75) (e':Nat) (h2:Bx w' mk #[.pointer (some ⟨g,0,none⟩),.int .i64 (e':Int)] 72) (hbd:Bx w' Nd #[.string nm',.int .i64 4,.int .i64 (ad:Int),.int .u8 pl,.slice bA bn bc,.slice rA rn rc,.slice tA tn tc] 81) (iQ:Bx w' Nm #[.int .u16 (sN:Int),.int .u16 65535,.int .u8 (pl:Int),.int .u8 255] 32) (h4:gY w' wm Mw)=>show(w'.cell? ⟨rd,0,none⟩=some (.pointer (some ⟨mk,0,none⟩))∧w'.cell? ⟨mk,0,none⟩=some (.pointer (some ⟨g,0,none⟩))∧w'.cell? ⟨rd,3,none⟩=some (.map (some wm))∧gY w' wm Mw)∧w'.cell? ⟨Nd,0,none⟩=some (.string nm')∧w'.cell? ⟨Nd,1,none⟩=some (.int .i64 4)∧w'.cell? ⟨Nd,2,none⟩=some (.int .i64 (ad:Int))∧w'.cell? ⟨Nd,3,none⟩=some (.int .u8 pl)∧w'.cell? ⟨Nd,4,none⟩=some (.slice bA bn bc)∧w'.cell? ⟨Nd,5,none⟩=some (.slice rA rn rc)∧w'.cell? ⟨Nd,6,none⟩=some (.slice tA tn tc)∧w'.cell? ⟨Nm,0,none⟩=some (.int .u16 (sN:Int))∧w'.cell? ⟨Nm,1,none⟩=some (.int .u16 65535)∧w'.cell? ⟨Nm,2,none⟩=some (.int .u8 (pl:Int))∧w'.cell? ⟨Nm,3,none⟩=some (.int .u8 255)from⟨⟨h1.get 0 _ rfl,h2.get 0 _ rfl,h1.get 3 _ rfl,h4⟩,hbd.get 0 _ rfl,hbd.get 1 _ rfl,hbd.get 2 _ rfl,hbd.get 3 _ rfl,hbd.get 4 _ rfl,hbd.get 5 _ rfl,hbd.get 6 _ rfl,iQ.get 0 _ rfl,iQ.get 1 _ rfl,iQ.get 2 _ rfl,iQ.get 3 _ rfl⟩)
 have HR3:=hide (HR2.out.below (RowKit.Below.refl _ _).drew)
 have Gg:=hide (wW.out.below (RowKit.Below.refl _ _).drew)
 have Tv:=hide (Yu.out.below (RowKit.Below.refl _ _).drew)
 clear HR2 wW Yu
 refine aY (fun w'=>(w'.cell? ⟨rd,0,none⟩=some (.pointer (some ⟨mk,0,none⟩))∧w'.cell? ⟨mk,0,none⟩=some (.pointer (some ⟨g,0,none⟩))∧w'.cell? ⟨rd,3,none⟩=some (.map (some wm))∧gY w' wm Mw)∧w'.cell? ⟨Nd,0,none⟩=some (.string nm')∧w'.cell? ⟨Nd,1,none⟩=some (.int .i64 4)∧w'.cell? ⟨Nd,2,none⟩=some (.int .i64 (ad:Int))∧w'.cell? ⟨Nd,3,none⟩=some (.int .u8 pl)∧w'.cell? ⟨Nd,4,none⟩=some (.slice bA bn bc)∧w'.cell? ⟨Nd,5,none⟩=some (.slice rA rn rc)∧w'.cell? ⟨Nd,6,none⟩=some (.slice tA tn tc)∧w'.cell? ⟨Nm,0,none⟩=some (.int .u16 (sN:Int))∧w'.cell? ⟨Nm,1,none⟩=some (.int .u16 65535)∧w'.cell? ⟨Nm,2,none⟩=some (.int .u8 (pl:Int))∧w'.cell? ⟨Nm,3,none⟩=some (.int .u8 255)) 12 (by kernel_rfl) (HQ.out _ HR3.out.rd.bx _ HR3.out.rd.m.bx Gg.out Tv.out HR3.out.was.m) (fun hS=>?_)
 refine rP 0 hS ?_
 refine rP 1 hS ?_
 refine rP 2 hS ?_
 refine rL 3 [12] rfl hS (by intro w hSw;obtain⟨⟨s0,s1,s3,s4⟩,c0,c1,c2,c3,c4,c5,c6,c7,c8,c9,c10⟩:=hSw;go_simp;try with_reducible rfl) ?_
 refine rP 4 hS ?_
 refine rP 5 hS ?_
 refine rP 6 hS ?_
 refine rL 7 [11,12] rfl hS (by intro w hSw;obtain⟨⟨s0,s1,s3,s4⟩,c0,c1,c2,c3,c4,c5,c6,c7,c8,c9,c10⟩:=hSw;go_simp;try with_reducible rfl) ?_
 refine rP 8 hS ?_
 refine rP 9 hS ?_
 intro inv
 refine ji (i:=10) (v:=.int .i64 ((bK Mw ((i:Int),0):Nat):Int)) [11,12] rfl (by kernel_rfl) (by kernel_rfl) (by kernel_rfl) (by kernel_rfl) (fun _ _ _ h=>h) inv ⟨by rfl,?_⟩ hS (fun inv2=>?_)
 ·intro w hSw
  obtain⟨⟨s0,s1,s3,s4⟩,c0,c1,c2,c3,c4,c5,c6,c7,c8,c9,c10⟩:=hSw;exact⟨92,_,by go_simp,nY w rd wm Mw s4 HR3.out.was.ints s3 (i:Int) 0 (by simp only[aO];omega) (by simp only[aO];omega)⟩
 clear inv
 have inv:=inv2
 clear inv2
 try simp only[Act.put,aK,aL,aM]
 refine rO 11 inv fun K hK=>?_
 go_simp
 clear hS
 refine(uZ (uW _ B g A (rd::nm::([Nm,Nd]++bl)) mk e HR3.out.rd.m (bK Mw ((i:Int),0)) (Sw ((i:Int),0)) P 0 4 4 rfl (by rw[HR3.out.ext.vars,HV.out];omega) (by rw[HR3.out.ext.vars,HV.out];omega) (fun h=>HR3.out.was.sw h _) HP.out.f1) rfl).mono ?_
 rintro en w4 hr
 obtain⟨A4,e4,r4,rfl,hrf,hx,hF,hsm⟩:=HR3.out.call hr
 have HR4:=hide hrf
 have zO:=hide (Gg.out.same (hsm Nd (by simp)))
 have JX:=hide (Tv.out.same (hsm Nm (by simp)))
 have Yv:=hide (fun h=>(hF h).2)
 clear hr hrf hx hF hsm HR3 Gg Tv
 have hS:=HQ.out _ HR4.out.rd.bx _ HR4.out.rd.m.bx zO.out JX.out HR4.out.was.m
 go_simp
 refine hK.out _ _ (fun _=>HQ.out _ HR4.out.rd.bx _ HR4.out.rd.m.bx zO.out JX.out HR4.out.was.m) ?_
 clear hK K hS inv
 intro inv
 try simp only[Act.put,aK,aL,aM]
 have hS:=HQ.out _ HR4.out.rd.bx _ HR4.out.rd.m.bx zO.out JX.out HR4.out.was.m
 refine rT 12 inv fun K hK=>?_
 go_simp
 clear hS
 refine(uZ (uW _ B g A4 (rd::nm::([Nm,Nd]++bl)) mk e4 HR4.out.rd.m r4 (dL (Sw ((i:Int),0)) 0 4) P 8 3 11 rfl (by rw[HR4.out.ext.vars,HV.out];omega) (by rw[HR4.out.ext.vars,HV.out];omega) Yv.out HP.out.f2) rfl).mono ?_
 rintro en w5 hr
 obtain⟨A5,e5,r5,rfl,hrf,hx,hF,hsm⟩:=HR4.out.call hr
 have gZ:=hide hrf
 have JY:=hide (zO.out.same (hsm Nd (by simp)))
 have Yw:=hide (JX.out.same (hsm Nm (by simp)))
 have Yx:=hide (fun h=>(hF h).2)
 clear hr hrf hx hF hsm HR4 zO JX Yv
 go_simp
 refine hK.out _ _ ?_
 clear hK K inv
 intro inv
 try simp only[Act.put,aK,aL,aM]
 refine rT 13 inv fun K hK=>?_
 go_simp
 refine hK.out _ _ ?_
 clear hK K inv
 intro inv
 try simp only[Act.put,aK,aL,aM]
 refine rD ?_
 clear inv
 go_wp2_with fail
 have jh:=hide (gZ.out.below (RowKit.Below.refl _ _).drew)
 have DU:=hide (JY.out.below (RowKit.Below.refl _ _).drew)
 have Tw:=hide (Yw.out.below (RowKit.Below.refl _ _).drew)
 have Yy:=Yx
 clear gZ JY Yw Yx
 refine aY (fun w'=>(w'.cell? ⟨rd,0,none⟩=some (.pointer (some ⟨mk,0,none⟩))∧w'.cell? ⟨mk,0,none⟩=some (.pointer (some ⟨g,0,none⟩))∧w'.cell? ⟨rd,3,none⟩=some (.map (some wm))∧gY w' wm Mw)∧w'.cell? ⟨Nd,0,none⟩=some (.string nm')∧w'.cell? ⟨Nd,1,none⟩=some (.int .i64 4)∧w'.cell? ⟨Nd,2,none⟩=some (.int .i64 (ad:Int))∧w'.cell? ⟨Nd,3,none⟩=some (.int .u8 pl)∧w'.cell? ⟨Nd,4,none⟩=some (.slice bA bn bc)∧w'.cell? ⟨Nd,5,none⟩=some (.slice rA rn rc)∧w'.cell? ⟨Nd,6,none⟩=some (.slice tA tn tc)∧w'.cell? ⟨Nm,0,none⟩=some (.int .u16 (sN:Int))∧w'.cell? ⟨Nm,1,none⟩=some (.int .u16 65535)∧w'.cell? ⟨Nm,2,none⟩=some (.int .u8 (pl:Int))∧w'.cell? ⟨Nm,3,none⟩=some (.int .u8 255)) 14 (by kernel_rfl) (HQ.out _ jh.out.rd.bx _ jh.out.rd.m.bx DU.out Tw.out jh.out.was.m) (fun hS=>?_)
 refine rP 0 hS ?_
 refine rP 1 hS ?_
 refine rP 2 hS ?_
 refine rP 3 hS ?_
 refine rP 4 hS ?_
 refine rL 5 [13,14] rfl hS (by intro w hSw;obtain⟨⟨s0,s1,s3,s4⟩,c0,c1,c2,c3,c4,c5,c6,c7,c8,c9,c10⟩:=hSw;go_simp;try with_reducible rfl) ?_
 refine rP 6 hS ?_
 refine rP 7 hS ?_
 refine rP 8 hS ?_
 refine rP 9 hS ?_
 refine rL 10 [12,13,14] rfl hS (by intro w hSw;obtain⟨⟨s0,s1,s3,s4⟩,c0,c1,c2,c3,c4,c5,c6,c7,c8,c9,c10⟩:=hSw;go_simp;try with_reducible rfl) ?_
 refine rL 11 [12,13,14] rfl hS (by intro w hSw;obtain⟨⟨s0,s1,s3,s4⟩,c0,c1,c2,c3,c4,c5,c6,c7,c8,c9,c10⟩:=hSw;go_simp;try with_reducible rfl) ?_
 intro inv
 refine rO 12 inv fun K hK=>?_
 go_simp
 clear hS
 refine(Co _ B g A5 (rd::nm::([Nm,Nd]++bl)) mk e5 jh.out.rd.m ⟨sN,65535,pl,255⟩ (by rw[← JW.out];exact Xe ha16 hpl) P (by rw[jh.out.ext.vars];exact HV.out) (by rw[← JW.out];exact HP.out.m1)).mono ?_
 rintro en w7 hr
 obtain⟨A7,e7,r7,rfl,hrf,hx,hF,hsm⟩:=jh.out.call hr
 have iJ:=hide hrf
 have wX:=hide (DU.out.same (hsm Nd (by simp)))
 have JZ:=hide (Tw.out.same (hsm Nm (by simp)))
 have Yz:=hide (fun h=>(Yy.out ((hF h).1)).ext jh.out.rd.inv hx)
 have YA:=hide (fun h=>(hF h).2)
 clear hr hrf hx hF hsm jh DU Tw Yy
 have hS:=HQ.out _ iJ.out.rd.bx _ iJ.out.rd.m.bx wX.out JZ.out iJ.out.was.m
 go_simp
 refine hK.out _ _ (fun _=>HQ.out _ iJ.out.rd.bx _ iJ.out.rd.m.bx wX.out JZ.out iJ.out.was.m) ?_
 clear hK K hS inv
 intro inv
 try simp only[Act.put,aK,aL,aM]
 have hS:=HQ.out _ iJ.out.rd.bx _ iJ.out.rd.m.bx wX.out JZ.out iJ.out.was.m
 refine rO 13 inv fun K hK=>?_
 go_simp
 clear hS
 refine(nR _ B g A7 (rd::nm::([Nm,Nd]++bl)) mk e7 iJ.out.rd.m r5 r7 (yj i Sw) (bI ⟨sN,65535,pl,255⟩) P Yz.out YA.out (by rw[← JW.out];exact HP.out.a1)).mono ?_
 rintro en w8 hr
 obtain⟨A8,e8,r8,rfl,hrf,hx,hF,hsm⟩:=iJ.out.call hr
 have jH:=hide hrf
 have wY:=hide (wX.out.same (hsm Nd (by simp)))
 have J2:=hide (JZ.out.same (hsm Nm (by simp)))
 have U4:=hide (fun h=>(hF h).2)
 clear hr hrf hx hF hsm iJ wX JZ Yz YA
 have hS:=HQ.out _ jH.out.rd.bx _ jH.out.rd.m.bx wY.out J2.out jH.out.was.m
 go_simp
 refine hK.out _ _ (fun _=>HQ.out _ jH.out.rd.bx _ jH.out.rd.m.bx wY.out J2.out jH.out.was.m) ?_
 clear hK K hS inv
 intro inv
 try simp only[Act.put,aK,aL,aM]
 have hS:=HQ.out _ jH.out.rd.bx _ jH.out.rd.m.bx wY.out J2.out jH.out.was.m
 refine rT 14 inv fun K hK=>?_
 go_simp
 clear hS
 refine(ko _ B g A8 ([Nm,Nd]++bl) mk e8 rd n (.map (some wm)) nm Mn _ jH.out.rd (jL.out _ jH.out.kp.low) iy.out P (i:Int) 1 r8 (bf (yj i Sw) (bI ⟨sN,65535,pl,255⟩)) U4.out (by rw[← JW.out];exact HP.out.s1)).mono ?_
 rintro en w9 ⟨rfl,hr⟩
 obtain⟨A9,e9,YB,hrf,hx,hF,hsm⟩:=jH.out.send hr
 have oP:=hide hrf
 have J3:=hide (wY.out.same (hsm Nd (by simp)))
 have YC:=hide (J2.out.same (hsm Nm (by simp)))
 clear hr hrf hx hF hsm jH wY J2 U4
 go_simp
 refine hK.out _ _ ?_
 clear hK K inv
 intro inv
 try simp only[Act.put,aK,aL,aM]
 refine rD ?_
 clear inv
 go_wp2_with fail
 have r1:w9.cell? ⟨rd,1,none⟩=some (.slice n.dA n.dn n.dc):=oP.out.rd.bx.get 1 _ rfl
 have r2:w9.cell? ⟨rd,2,none⟩=some (.slice n.lA n.ln n.lc):=oP.out.rd.bx.get 2 _ rfl
 refine(Bu w9 B rd n (Nat.le_of_lt oP.out.rd.m.sa.hB) (jL.out _ oP.out.kp.low) iy.out r1 r2 (i:Int) 1).mono ?_
 rintro en jN ⟨rfl,hb⟩
 clear r1 r2
 have vI:=hide (oP.out.below hb)
 have zP:=hide (J3.out.below hb)
 have U5:=hide (YC.out.below hb)
 clear hb oP J3 YC
 obtain⟨o1,ho1⟩:∃o1,(aD n.ls ((i:Int),1)).isSome =o1:=⟨_,rfl⟩
 rw[ho1]
 have HO:=hide ho1
 clear ho1
 cases o1
 ·have u7:=hide (show qy w B g A bl mk e rd n (.map (some wm)) nm P (wV n.ls i ad pl Sw Sn) jN from by
   unfold wV;rw[if_neg (by rw[HO.out];simp),JW.out];exact vI.out.out)
  go_wp2
  exact bodyPost_ret (results_none (by rfl) _ _ _) rfl ⟨rfl,u7.out⟩
 have d2:jN.cell? ⟨Nd,2,none⟩=some (.int .i64 (ad:Int)):=zP.out.get 2 _ rfl
 go_wp2_with fail
 clear d2
 refine(DT ad jN ha16).mono ?_
 rintro en Ar ⟨rfl,hb⟩
 have JJ:=hide (vI.out.below hb)
 have NT:=hide (zP.out.below hb)
 have aao:=hide (U5.out.below hb)
 clear hb vI zP U5
 have hval:(kS ad).val = .agg #[.int .u16 65535,.int .u16 ((2 ^ ad:Nat):Int),.int .u8 255,.int .u8 255]:=rfl
 rw[hval,Ql.out]
 clear hval
 have d3:=fun o=>((NT.out.below (below_alloc2 Ar o)).get 3 _ rfl:(Ar.alloc o).cell? ⟨Nd,3,none⟩=some (.int .u8 pl))
 go_wp2_with fail
 clear d3
 have NM:=hide ((JJ.out.alloc (.cells #[.int .u16 65535,.int .u16 (sN:Int),.int .u8 255,.int .u8 (pl:Int)] 32)).less (more':=[Ar.heap.size,Nd]) (fun j hj=>by simp only[List.mem_cons]at hj ⊢;rcases hj with a | a | a<;>simp_all))
 have U6:=hide (NT.out.below (below_alloc2 Ar (.cells #[.int .u16 65535,.int .u16 (sN:Int),.int .u8 255,.int .u8 (pl:Int)] 32)))
 have U7:=hide (Bx.new Ar #[.int .u16 65535,.int .u16 (sN:Int),.int .u8 255,.int .u8 (pl:Int)] 32)
 clear JJ NT aao HQ
 generalize World.alloc Ar _=XZ at*
 generalize Ar.heap.size=Nq at*
 have HQ:=hide (fun(w':World) (h1:Bx w' rd #[.pointer (some ⟨mk,0,none⟩),.slice n.dA n.dn n.dc,.slice n.lA n.ln n.lc,.map (some wm),.map (some nm)] 75) (e':Nat) (h2:Bx w' mk #[.pointer (some ⟨g,0,none⟩),.int .i64 (e':Int)] 72) (hbd:Bx w' Nd #[.string nm',.int .i64 4,.int .i64 (ad:Int),.int .u8 pl,.slice bA bn bc,.slice rA rn rc,.slice tA tn tc] 81) (iQ:Bx w' Nq #[.int .u16 65535,.int .u16 (sN:Int),.int .u8 255,.int .u8 (pl:Int)] 32) (h4:gY w' wm Mw)=>show(w'.cell? ⟨rd,0,none⟩=some (.pointer (some ⟨mk,0,none⟩))∧w'.cell? ⟨mk,0,none⟩=some (.pointer (some ⟨g,0,none⟩))∧w'.cell? ⟨rd,3,none⟩=some (.map (some wm))∧gY w' wm Mw)∧w'.cell? ⟨Nd,0,none⟩=some (.string nm')∧w'.cell? ⟨Nd,1,none⟩=some (.int .i64 4)∧w'.cell? ⟨Nd,2,none⟩=some (.int .i64 (ad:Int))∧w'.cell? ⟨Nd,3,none⟩=some (.int .u8 pl)∧w'.cell? ⟨Nd,4,none⟩=some (.slice bA bn bc)∧w'.cell? ⟨Nd,5,none⟩=some (.slice rA rn rc)∧w'.cell? ⟨Nd,6,none⟩=some (.slice tA tn tc)∧w'.cell? ⟨Nq,0,none⟩=some (.int .u16 65535)∧w'.cell? ⟨Nq,1,none⟩=some (.int .u16 (sN:Int))∧w'.cell? ⟨Nq,2,none⟩=some (.int .u8 255)∧w'.cell? ⟨Nq,3,none⟩=some (.int .u8 (pl:Int))from⟨⟨h1.get 0 _ rfl,h2.get 0 _ rfl,h1.get 3 _ rfl,h4⟩,hbd.get 0 _ rfl,hbd.get 1 _ rfl,hbd.get 2 _ rfl,hbd.get 3 _ rfl,hbd.get 4 _ rfl,hbd.get 5 _ rfl,hbd.get 6 _ rfl,iQ.get 0 _ rfl,iQ.get 1 _ rfl,iQ.get 2 _ rfl,iQ.get 3 _ rfl⟩)
 have BD:=hide (NM.out.below (RowKit.Below.refl _ _).drew)
 have NU:=hide (U6.out.below (RowKit.Below.refl _ _).drew)
 have NV:=hide (U7.out.below (RowKit.Below.refl _ _).drew)
 clear NM U6 U7
 refine aY (fun w'=>(w'.cell? ⟨rd,0,none⟩=some (.pointer (some ⟨mk,0,none⟩))∧w'.cell? ⟨mk,0,none⟩=some (.pointer (some ⟨g,0,none⟩))∧w'.cell? ⟨rd,3,none⟩=some (.map (some wm))∧gY w' wm Mw)∧w'.cell? ⟨Nd,0,none⟩=some (.string nm')∧w'.cell? ⟨Nd,1,none⟩=some (.int .i64 4)∧w'.cell? ⟨Nd,2,none⟩=some (.int .i64 (ad:Int))∧w'.cell? ⟨Nd,3,none⟩=some (.int .u8 pl)∧w'.cell? ⟨Nd,4,none⟩=some (.slice bA bn bc)∧w'.cell? ⟨Nd,5,none⟩=some (.slice rA rn rc)∧w'.cell? ⟨Nd,6,none⟩=some (.slice tA tn tc)∧w'.cell? ⟨Nq,0,none⟩=some (.int .u16 65535)∧w'.cell? ⟨Nq,1,none⟩=some (.int .u16 (sN:Int))∧w'.cell? ⟨Nq,2,none⟩=some (.int .u8 255)∧w'.cell? ⟨Nq,3,none⟩=some (.int .u8 (pl:Int))) 23 (by kernel_rfl) (HQ.out _ BD.out.rd.bx _ BD.out.rd.m.bx NU.out NV.out BD.out.was.m) (fun hS=>?_)
 refine rP 0 hS ?_
 refine rP 1 hS ?_
 refine rP 2 hS ?_
 refine rL 3 [23] rfl hS (by intro w hSw;obtain⟨⟨s0,s1,s3,s4⟩,c0,c1,c2,c3,c4,c5,c6,c7,c8,c9,c10⟩:=hSw;go_simp;try with_reducible rfl) ?_
 refine rP 4 hS ?_
 refine rP 5 hS ?_
 refine rP 6 hS ?_
 refine rL 7 [22,23] rfl hS (by intro w hSw;obtain⟨⟨s0,s1,s3,s4⟩,c0,c1,c2,c3,c4,c5,c6,c7,c8,c9,c10⟩:=hSw;go_simp;try with_reducible rfl) ?_
 refine rP 8 hS ?_
 refine rP 9 hS ?_
 refine rP 10 hS ?_
 refine rL 11 [21,22,23] rfl hS (by intro w hSw;obtain⟨⟨s0,s1,s3,s4⟩,c0,c1,c2,c3,c4,c5,c6,c7,c8,c9,c10⟩:=hSw;go_simp;try with_reducible rfl) ?_
 refine rP 12 hS ?_
 refine rP 13 hS ?_
 refine rP 15 hS ?_
 refine rP 16 hS ?_
 refine rP 17 hS ?_
 refine rL 18 [20,21,22,23] rfl hS (by intro w hSw;obtain⟨⟨s0,s1,s3,s4⟩,c0,c1,c2,c3,c4,c5,c6,c7,c8,c9,c10⟩:=hSw;go_simp;try with_reducible rfl) ?_
 refine rL 19 [20,21,22,23] rfl hS (by intro w hSw;obtain⟨⟨s0,s1,s3,s4⟩,c0,c1,c2,c3,c4,c5,c6,c7,c8,c9,c10⟩:=hSw;go_simp;try with_reducible rfl) ?_
 intro inv
 refine ji (i:=14) (v:=.int .i64 ((bK Mw ((i:Int),1):Nat):Int)) [21,22,23] rfl (by kernel_rfl) (by kernel_rfl) (by kernel_rfl) (by kernel_rfl) (fun _ _ _ h=>h) inv ⟨by rfl,?_⟩ hS (fun inv2=>?_)
 ·intro w hSw
  obtain⟨⟨s0,s1,s3,s4⟩,c0,c1,c2,c3,c4,c5,c6,c7,c8,c9,c10⟩:=hSw;exact⟨92,_,by go_simp,nY w rd wm Mw s4 BD.out.was.ints s3 (i:Int) 1 (by simp only[aO];omega) (by simp only[aO];omega)⟩
 clear inv
 have inv:=inv2
 clear inv2
 try simp only[Act.put,aK,aL,aM]
 refine rO 20 inv fun K hK=>?_
 go_simp
 clear hS
 refine(Co _ B g A9 (rd::nm::([Nq,Nd]++bl)) mk e9 BD.out.rd.m ⟨65535,sN,255,pl⟩ (by rw[← Hl.out];exact Xf ha16 hpl) P (by rw[BD.out.ext.vars];exact HV.out) (by rw[← Hl.out];exact HP.out.m2)).mono ?_
 rintro en w14 hr
 obtain⟨A14,e14,r14,rfl,hrf,hx,hF,hsm⟩:=BD.out.call hr
 have uE:=hide hrf
 have EC:=hide (NU.out.same (hsm Nd (by simp)))
 have ED:=hide (NV.out.same (hsm Nq (by simp)))
 have U8:=hide (fun h=>(hF h).2)
 clear hr hrf hx hF hsm BD NU NV
 have hS:=HQ.out _ uE.out.rd.bx _ uE.out.rd.m.bx EC.out ED.out uE.out.was.m
 go_simp
 refine hK.out _ _ (fun _=>HQ.out _ uE.out.rd.bx _ uE.out.rd.m.bx EC.out ED.out uE.out.was.m) ?_
 clear hK K hS inv
 intro inv
 try simp only[Act.put,aK,aL,aM]
 have hS:=HQ.out _ uE.out.rd.bx _ uE.out.rd.m.bx EC.out ED.out uE.out.was.m
 refine rO 21 inv fun K hK=>?_
 go_simp
 clear hS
 refine(nR _ B g A14 (rd::nm::([Nq,Nd]++bl)) mk e14 uE.out.rd.m (bK Mw ((i:Int),1)) r14 (Sw ((i:Int),1)) (bI ⟨65535,sN,255,pl⟩) P (fun h=>uE.out.was.sw h _) U8.out (by rw[← Hl.out];exact HP.out.b1)).mono ?_
 rintro en w15 hr
 obtain⟨A15,e15,r15,rfl,hrf,hx,hF,hsm⟩:=uE.out.call hr
 have sQ:=hide hrf
 have EF:=hide (EC.out.same (hsm Nd (by simp)))
 have EG:=hide (ED.out.same (hsm Nq (by simp)))
 have U9:=hide (fun h=>(hF h).2)
 clear hr hrf hx hF hsm uE EC ED U8
 have hS:=HQ.out _ sQ.out.rd.bx _ sQ.out.rd.m.bx EF.out EG.out sQ.out.was.m
 go_simp
 refine hK.out _ _ (fun _=>HQ.out _ sQ.out.rd.bx _ sQ.out.rd.m.bx EF.out EG.out sQ.out.was.m) ?_
 clear hK K hS inv
 intro inv
 try simp only[Act.put,aK,aL,aM]
 have hS:=HQ.out _ sQ.out.rd.bx _ sQ.out.rd.m.bx EF.out EG.out sQ.out.was.m
 refine rO 22 inv fun K hK=>?_
 go_simp
 clear hS
 refine(uZ (uW _ B g A15 (rd::nm::([Nq,Nd]++bl)) mk e15 sQ.out.rd.m r15 (bf (Sw ((i:Int),1)) (bI ⟨65535,sN,255,pl⟩)) P 4 4 8 rfl (by rw[sQ.out.ext.vars,HV.out];omega) (by rw[sQ.out.ext.vars,HV.out];omega) U9.out (by rw[← Hl.out];exact HP.out.b2)) rfl).mono ?_
 rintro en w16 hr
 obtain⟨A16,e16,r16,rfl,hrf,hx,hF,hsm⟩:=sQ.out.call hr
 have oV:=hide hrf
 have EH:=hide (EF.out.same (hsm Nd (by simp)))
 have EI:=hide (EG.out.same (hsm Nq (by simp)))
 have Va:=hide (fun h=>(hF h).2)
 clear hr hrf hx hF hsm sQ EF EG U9
 have hS:=HQ.out _ oV.out.rd.bx _ oV.out.rd.m.bx EH.out EI.out oV.out.was.m
 go_simp
 refine hK.out _ _ (fun _=>HQ.out _ oV.out.rd.bx _ oV.out.rd.m.bx EH.out EI.out oV.out.was.m) ?_
 clear hK K hS inv
 intro inv
 try simp only[Act.put,aK,aL,aM]
 have hS:=HQ.out _ oV.out.rd.bx _ oV.out.rd.m.bx EH.out EI.out oV.out.was.m
 refine rT 23 inv fun K hK=>?_
 go_simp
 clear hS
 refine(uZ (uW _ B g A16 (rd::nm::([Nq,Nd]++bl)) mk e16 oV.out.rd.m r16 (dL (bf (Sw ((i:Int),1)) (bI ⟨65535,sN,255,pl⟩)) 4 4) P 11 3 14 rfl (by rw[oV.out.ext.vars,HV.out];omega) (by rw[oV.out.ext.vars,HV.out];omega) Va.out (by rw[← Hl.out];exact HP.out.b3)) rfl).mono ?_
 rintro en w17 hr
 obtain⟨A17,e17,r17,rfl,hrf,hx,hF,hsm⟩:=oV.out.call hr
 have YD:=hide hrf
 have Vb:=hide (EH.out.same (hsm Nd (by simp)))
 have Vd:=hide (EI.out.same (hsm Nq (by simp)))
 have Ve:=hide (fun h=>(hF h).2)
 clear hr hrf hx hF hsm oV EH EI Va
 go_simp
 refine hK.out _ _ ?_
 clear hK K inv
 intro inv
 try simp only[Act.put,aK,aL,aM]
 refine rT 24 inv fun K hK=>?_
 go_simp
 refine hK.out _ _ ?_
 clear hK K inv
 intro inv
 try simp only[Act.put,aK,aL,aM]
 refine rD ?_
 clear inv
 go_wp2_with fail
 have wZ:=hide (YD.out.below (RowKit.Below.refl _ _).drew)
 have NW:=hide (Vb.out.below (RowKit.Below.refl _ _).drew)
 have NY:=hide (Vd.out.below (RowKit.Below.refl _ _).drew)
 have Vf:=Ve
 clear YD Vb Vd Ve
 refine aY (fun w'=>(w'.cell? ⟨rd,0,none⟩=some (.pointer (some ⟨mk,0,none⟩))∧w'.cell? ⟨mk,0,none⟩=some (.pointer (some ⟨g,0,none⟩))∧w'.cell? ⟨rd,3,none⟩=some (.map (some wm))∧gY w' wm Mw)∧w'.cell? ⟨Nd,0,none⟩=some (.string nm')∧w'.cell? ⟨Nd,1,none⟩=some (.int .i64 4)∧w'.cell? ⟨Nd,2,none⟩=some (.int .i64 (ad:Int))∧w'.cell? ⟨Nd,3,none⟩=some (.int .u8 pl)∧w'.cell? ⟨Nd,4,none⟩=some (.slice bA bn bc)∧w'.cell? ⟨Nd,5,none⟩=some (.slice rA rn rc)∧w'.cell? ⟨Nd,6,none⟩=some (.slice tA tn tc)∧w'.cell? ⟨Nq,0,none⟩=some (.int .u16 65535)∧w'.cell? ⟨Nq,1,none⟩=some (.int .u16 (sN:Int))∧w'.cell? ⟨Nq,2,none⟩=some (.int .u8 255)∧w'.cell? ⟨Nq,3,none⟩=some (.int .u8 (pl:Int))) 17 (by kernel_rfl) (HQ.out _ wZ.out.rd.bx _ wZ.out.rd.m.bx NW.out NY.out wZ.out.was.m) (fun hS=>?_)
 refine rP 0 hS ?_
 refine rP 1 hS ?_
 refine rP 2 hS ?_
 refine rL 3 [17] rfl hS (by intro w hSw;obtain⟨⟨s0,s1,s3,s4⟩,c0,c1,c2,c3,c4,c5,c6,c7,c8,c9,c10⟩:=hSw;go_simp;try with_reducible rfl) ?_
 refine rP 4 hS ?_
 refine rP 5 hS ?_
 refine rP 6 hS ?_
 refine rL 7 [16,17] rfl hS (by intro w hSw;obtain⟨⟨s0,s1,s3,s4⟩,c0,c1,c2,c3,c4,c5,c6,c7,c8,c9,c10⟩:=hSw;go_simp;try with_reducible rfl) ?_
 refine rP 8 hS ?_
 refine rP 9 hS ?_
 refine rP 10 hS ?_
 refine rL 11 [15,16,17] rfl hS (by intro w hSw;obtain⟨⟨s0,s1,s3,s4⟩,c0,c1,c2,c3,c4,c5,c6,c7,c8,c9,c10⟩:=hSw;go_simp;try with_reducible rfl) ?_
 refine rP 12 hS ?_
 refine rP 13 hS ?_
 intro inv
 refine ji (i:=14) (v:=.int .i64 ((bK Mw ((i:Int),0):Nat):Int)) [15,16,17] rfl (by kernel_rfl) (by kernel_rfl) (by kernel_rfl) (by kernel_rfl) (fun _ _ _ h=>h) inv ⟨by rfl,?_⟩ hS (fun inv2=>?_)
 ·intro w hSw
  obtain⟨⟨s0,s1,s3,s4⟩,c0,c1,c2,c3,c4,c5,c6,c7,c8,c9,c10⟩:=hSw;exact⟨92,_,by go_simp,nY w rd wm Mw s4 wZ.out.was.ints s3 (i:Int) 0 (by simp only[aO];omega) (by simp only[aO];omega)⟩
 clear inv
 have inv:=inv2
 clear inv2
 try simp only[Act.put,aK,aL,aM]
 refine rO 15 inv fun K hK=>?_
 go_simp
 clear hS
 refine(uZ (uW _ B g A17 (rd::nm::([Nq,Nd]++bl)) mk e17 wZ.out.rd.m (bK Mw ((i:Int),0)) (Sw ((i:Int),0)) P 4 4 8 rfl (by rw[wZ.out.ext.vars,HV.out];omega) (by rw[wZ.out.ext.vars,HV.out];omega) (fun h=>wZ.out.was.sw h _) HP.out.o1) rfl).mono ?_
 rintro en w19 hr
 obtain⟨A19,e19,r19,rfl,hrf,hx,hF,hsm⟩:=wZ.out.call hr
 have qI:=hide hrf
 have EJ:=hide (NW.out.same (hsm Nd (by simp)))
 have EK:=hide (NY.out.same (hsm Nq (by simp)))
 have Vg:=hide (fun h=>(Vf.out ((hF h).1)).ext wZ.out.rd.inv hx)
 have Vh:=hide (fun h=>(hF h).2)
 clear hr hrf hx hF hsm wZ NW NY Vf
 have hS:=HQ.out _ qI.out.rd.bx _ qI.out.rd.m.bx EJ.out EK.out qI.out.was.m
 go_simp
 refine hK.out _ _ (fun _=>HQ.out _ qI.out.rd.bx _ qI.out.rd.m.bx EJ.out EK.out qI.out.was.m) ?_
 clear hK K hS inv
 intro inv
 try simp only[Act.put,aK,aL,aM]
 have hS:=HQ.out _ qI.out.rd.bx _ qI.out.rd.m.bx EJ.out EK.out qI.out.was.m
 refine rO 16 inv fun K hK=>?_
 go_simp
 clear hS
 refine(uZ (uW _ B g A19 (rd::nm::([Nq,Nd]++bl)) mk e19 qI.out.rd.m r19 (dL (Sw ((i:Int),0)) 4 4) P 11 3 14 rfl (by rw[qI.out.ext.vars,HV.out];omega) (by rw[qI.out.ext.vars,HV.out];omega) Vh.out HP.out.o2) rfl).mono ?_
 rintro en w20 hr
 obtain⟨A20,e20,r20,rfl,hrf,hx,hF,hsm⟩:=qI.out.call hr
 have sS:=hide hrf
 have EL:=hide (EJ.out.same (hsm Nd (by simp)))
 have EM:=hide (EK.out.same (hsm Nq (by simp)))
 have Vi:=hide (fun h=>(Vg.out ((hF h).1)).ext qI.out.rd.inv hx)
 have Vj:=hide (fun h=>(hF h).2)
 clear hr hrf hx hF hsm qI EJ EK Vg Vh
 have hS:=HQ.out _ sS.out.rd.bx _ sS.out.rd.m.bx EL.out EM.out sS.out.was.m
 go_simp
 refine hK.out _ _ (fun _=>HQ.out _ sS.out.rd.bx _ sS.out.rd.m.bx EL.out EM.out sS.out.was.m) ?_
 clear hK K hS inv
 intro inv
 try simp only[Act.put,aK,aL,aM]
 have hS:=HQ.out _ sS.out.rd.bx _ sS.out.rd.m.bx EL.out EM.out sS.out.was.m
 refine rT 17 inv fun K hK=>?_
 go_simp
 clear hS
 refine(Gc _ B g A20 (rd::nm::([Nq,Nd]++bl)) mk e20 sS.out.rd.m r20 (dL (dL (Sw ((i:Int),0)) 4 4) 11 3) P (by rw[sS.out.ext.vars];exact HV.out) Vj.out HP.out.o3).mono ?_
 rintro en w21 hr
 obtain⟨A21,e21,r21,rfl,hrf,hx,hF,hsm⟩:=sS.out.call hr
 have NZ:=hide hrf
 have Vk:=hide (EL.out.same (hsm Nd (by simp)))
 have Vl:=hide (EM.out.same (hsm Nq (by simp)))
 have Vm:=hide (fun h=>(Vi.out ((hF h).1)).ext sS.out.rd.inv hx)
 have Vn:=hide (fun h=>(hF h).2)
 clear hr hrf hx hF hsm sS EL EM Vi Vj
 go_simp
 refine hK.out _ _ ?_
 clear hK K inv
 intro inv
 try simp only[Act.put,aK,aL,aM]
 refine rT 18 inv fun K hK=>?_
 go_simp
 refine hK.out _ _ ?_
 clear hK K inv
 intro inv
 try simp only[Act.put,aK,aL,aM]
 refine rD ?_
 clear inv
 have m0:w21.cell? ⟨rd,0,none⟩=some (.pointer (some ⟨mk,0,none⟩)):=NZ.out.rd.bx.get 0 _ rfl
 go_wp2_with fail
 clear m0
 refine(nR _ B g A21 (rd::nm::([Nq,Nd]++bl)) mk e21 NZ.out.rd.m r17 r21 (dL (dL (bf (Sw ((i:Int),1)) (bI ⟨65535,sN,255,pl⟩)) 4 4) 11 3) (mH (dL (dL (Sw ((i:Int),0)) 4 4) 11 3)) P Vm.out Vn.out (by rw[← Hl.out];exact HP.out.a2)).mono ?_
 rintro en w22 hr
 obtain⟨A22,e22,r22,rfl,hrf,hx,hF,hsm⟩:=NZ.out.call hr
 have N7:=hide hrf
 have aap:=hide (Vk.out.same (hsm Nd (by simp)))
 have aaq:=hide (Vl.out.same (hsm Nq (by simp)))
 have Vo:=hide (fun h=>(hF h).2)
 clear hr hrf hx hF hsm NZ Vk Vl Vm Vn
 go_wp2_with fail
 refine(ko _ B g A22 ([Nq,Nd]++bl) mk e22 rd n (.map (some wm)) nm YB _ N7.out.rd (jL.out _ N7.out.kp.low) iy.out P (i:Int) 0 r22 (bf (dL (dL (bf (Sw ((i:Int),1)) (bI ⟨65535,sN,255,pl⟩)) 4 4) 11 3) (mH (dL (dL (Sw ((i:Int),0)) 4 4) 11 3))) Vo.out (by rw[← Hl.out,← JW.out];exact HP.out.s2)).mono ?_
 rintro en w23 ⟨rfl,hr⟩
 obtain⟨A23,e23,afs,hrf,hx,hF,hsm⟩:=N7.out.send hr
 have u7:=hide (show qy w B g A bl mk e rd n (.map (some wm)) nm P (wV n.ls i ad pl Sw Sn) w23 from by
  unfold wV;rw[if_pos (by rw[HO.out])]
  have hq:=hrf.out
  rw[← Hl.out,← JW.out]at hq
  exact hq)
 clear hr hrf hx hF hsm N7 aap aaq Vo
 go_wp2
 go_end0
 exact⟨rfl,u7.out⟩
end Go.Proofs.YtifkacnoiocebaaGreat
