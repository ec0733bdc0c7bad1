/- A part of the proof: Rd5. -/
import Derived.Test.YtlhmdcgckocidaaGreatHr29
set_option linter.unusedVariables false
set_option linter.unusedSimpArgs false
set_option maxRecDepth 100000
set_option maxHeartbeats 8000000
namespace Go.Proofs.YtlhmdcgckocidaaGreat
open ak Go.Maps Go.RowKit
def pX (i a:Nat) (Sw:Pl→ak.Fn):ak.Fn:=bL (Sw ((i:Int),0)) (dx (mR a))
def aa0 (ls:List av) (i a:Nat) (Sw Sn:Pl→ak.Fn):Pl→ak.Fn:=fO ls ((i:Int),0) (Sw ((i:Int),1)) (fO ls ((i:Int),1) (bL (Sw ((i:Int),0)) (ug (dx (mR a)))) Sn)
def DR (i a b:Nat) (Sw:Pl→ak.Fn):ak.Fn:=bL (Sw ((i:Int),1)) (oh (yu (pX i a Sw) b))
def um (ls:List av) (i a:Nat) (Sw:Pl→ak.Fn) (b:Nat) (Sn:Pl→ak.Fn):Pl→ak.Fn:=
 if(aP ls ((i:Int),1)).isSome then fO ls ((i:Int),0) (zZ (DR i a b Sw) a) (fO ls ((i:Int),1) (yu (pX i a Sw) b) Sn)
 else fO ls ((i:Int),1) (yu (pX i a Sw) b) Sn
def qF (ls:List av) (i a:Nat) (bs:List Int) (Sw Sn:Pl→ak.Fn) (k:Nat):Pl→ak.Fn:=(bs.take k).foldl (fun S b=>um ls i a Sw b.toNat S) (aa0 ls i a Sw Sn)
def Gt (ls:List av) (i a:Nat) (bs:List Int) (Sw Sn:Pl→ak.Fn):Pl→ak.Fn:=qF ls i a bs Sw Sn bs.length
theorem Fq {ls:List av} {i a:Nat} {bs:List Int} {Sw Sn:Pl→ak.Fn} {k:Nat} {b:Int} (h:bs[k]?=some b):qF ls i a bs Sw Sn (k+1)=um ls i a Sw b.toNat (qF ls i a bs Sw Sn k):=by
 obtain⟨hk,e⟩:=List.getElem?_eq_some_iff.1 h
 unfold qF
 rw[List.take_succ_eq_append_getElem hk,e,List.foldl_append]
 rfl
structure XD (P:ak.Fn→Prop) (ls:List av) (i a:Nat) (bs:List Int) (Sw Sn:Pl→ak.Fn):Prop where
 m:pG P (mR a)
 q:PC P (pX i a Sw)
 nn:PC P (ug (dx (mR a)))
 n1:PC P (bL (Sw ((i:Int),0)) (ug (dx (mR a))))
 s1:mU P ls ((i:Int),1) (bL (Sw ((i:Int),0)) (ug (dx (mR a)))) Sn
 s2:mU P ls ((i:Int),0) (Sw ((i:Int),1)) (fO ls ((i:Int),1) (bL (Sw ((i:Int),0)) (ug (dx (mR a)))) Sn)
 t:∀(k:Nat) (b:Int),bs[k]?=some b→Vs P (pX i a Sw) b.toNat
 t1:∀(k:Nat) (b:Int),bs[k]?=some b→mU P ls ((i:Int),1) (yu (pX i a Sw) b.toNat) (qF ls i a bs Sw Sn k)
 fl:∀(k:Nat) (b:Int),bs[k]?=some b→zn P (yu (pX i a Sw) b.toNat)
 x:∀(k:Nat) (b:Int),bs[k]?=some b→PC P (DR i a b.toNat Sw)
 f:∀(k:Nat) (b:Int),bs[k]?=some b→KH P (DR i a b.toNat Sw) a
 s3:∀(k:Nat) (b:Int),bs[k]?=some b→mU P ls ((i:Int),0) (zZ (DR i a b.toNat Sw) a) (fO ls ((i:Int),1) (yu (pX i a Sw) b.toNat) (qF ls i a bs Sw Sn k))
theorem IY (w:World) (B g:Nat) (A:St) (bl:List Nat) (mk e rd:Nat) (n:aH) (wm nm:Nat) (Mw Mn:dB→Option Value) (Sw Sn:Pl→ak.Fn) (h:RD w B g A bl mk e rd n (.map (some wm)) nm Mn Sn) (hw:ou w A e bl wm Mw Sw) (hv:A.vars=14) (hl:bB av.cells 4 w B n.lA n.ln n.ls) (hlk:mV n.ls)
  (P:ak.Fn→Prop) (i:Nat) (hi:i≤1000) (r:aA) (ad:Nat) (hk:r.kind=5) (had:r.addr=(ad:Int)) (ha16:ad<16) (hbs:dz w B r.bA r.bn r.bs) (PL:∀b∈r.bs,0≤b∧b<16) (hb3:r.bs.length≤3) (hP:XD P n.ls i ad r.bs Sw Sn):
  Calls Tryz.prog 105 #[.pointer (some ⟨rd,0,none⟩),.int .i64 (i:Int),r.val] w fun en w'=>en= .returned (.tuple #[])∧qo w B g A bl mk e rd n (.map (some wm)) nm P (Gt n.ls i ad r.bs Sw Sn) w':=by
 obtain⟨nm',kd,ad',pl,bA,bn,bc,bs,rA,rn,rc,rs,tA,tn,tc,ts⟩:=r
 simp only at hk had hbs PL hb3 hP
 subst hk
 subst had
 have je:=hide ((RF.start h hw P).alloc (.cells #[.string nm',.int .i64 5,.int .i64 (ad:Int),.int .u8 pl,.slice bA bn bc,.slice rA rn rc,.slice tA tn tc] 86))
 have BL:=hide (Bx.new w #[.string nm',.int .i64 5,.int .i64 (ad:Int),.int .u8 pl,.slice bA bn bc,.slice rA rn rc,.slice tA tn tc] 86)
 have nM:=hide (fun(w':World) (hb:RowKit.Below B w w')=>hl.below hb (Nat.le_refl _))
 have vO:=hide (fun(w':World) (hb:RowKit.Below B w w')=>hbs.below hb (Nat.le_refl _))
 have ae7:=hide PL
 have hbl:bs.length=bn:=hbs.1
 have dV:=hide hlk
 have HP:=hide hP
 have HV:=hide hv
 clear h hw hl hlk hP hv hbs PL
 simp only[aA.val]at*
 go_enter Tryz.func105,Tryz.ntmps105
 go_wp2_with fail
 generalize World.alloc w _=w0 at*
 generalize w.heap.size=Nd at*
 have HQ:=hide (fun(w':World) (h1:Bx w' rd #[.pointer (some ⟨mk,0,none⟩),.slice n.dA n.dn n.dc,.slice n.lA n.ln n.lc,.map (some wm),.map (some nm)] 122) (e':Nat) (h2:Bx w' mk #[.pointer (some ⟨g,0,none⟩),.int .i64 (e':Int)] 119) (hbd:Bx w' Nd #[.string nm',.int .i64 5,.int .i64 (ad:Int),.int .u8 pl,.slice bA bn bc,.slice rA rn rc,.slice tA tn tc] 86) (h4:gZ w' wm Mw)=>show(w'.cell? ⟨rd,0,none⟩=some (.pointer (some ⟨mk,0,none⟩))∧w'.cell? ⟨mk,0,none⟩=some (.pointer (some ⟨g,0,none⟩))∧w'.cell? ⟨rd,3,none⟩=some (.map (some wm))∧gZ w' wm Mw)∧w'.cell? ⟨Nd,0,none⟩=some (.string nm')∧w'.cell? ⟨Nd,1,none⟩=some (.int .i64 5)∧w'.cell? ⟨Nd,2,none⟩=some (.int .i64 (ad:Int))∧w'.cell? ⟨Nd,3,none⟩=some (.int .u8 pl)∧w'.cell? ⟨Nd,4,none⟩=some (.slice bA bn bc)∧w'.cell? ⟨Nd,5,none⟩=some (.slice rA rn rc)∧w'.cell? ⟨Nd,6,none⟩=some (.slice tA tn tc)from⟨⟨h1.get 0 _ rfl,h2.get 0 _ rfl,h1.get 3 _ rfl,h4⟩,hbd.get 0 _ rfl,hbd.get 1 _ rfl,hbd.get 2 _ rfl,hbd.get 3 _ rfl,hbd.get 4 _ rfl,hbd.get 5 _ rfl,hbd.get 6 _ rfl⟩)
 have HR1:=hide (je.out.below (RowKit.Below.refl _ _).drew)
 have vK:=hide (BL.out.below (RowKit.Below.refl _ _).drew)
 clear je BL
 refine aI (fun w'=>(w'.cell? ⟨rd,0,none⟩=some (.pointer (some ⟨mk,0,none⟩))∧w'.cell? ⟨mk,0,none⟩=some (.pointer (some ⟨g,0,none⟩))∧w'.cell? ⟨rd,3,none⟩=some (.map (some wm))∧gZ w' wm Mw)∧w'.cell? ⟨Nd,0,none⟩=some (.string nm')∧w'.cell? ⟨Nd,1,none⟩=some (.int .i64 5)∧w'.cell? ⟨Nd,2,none⟩=some (.int .i64 (ad:Int))∧w'.cell? ⟨Nd,3,none⟩=some (.int .u8 pl)∧w'.cell? ⟨Nd,4,none⟩=some (.slice bA bn bc)∧w'.cell? ⟨Nd,5,none⟩=some (.slice rA rn rc)∧w'.cell? ⟨Nd,6,none⟩=some (.slice tA tn tc)) 7 (by kernel_rfl) (HQ.out _ HR1.out.rd.bx _ HR1.out.rd.m.bx vK.out HR1.out.was.m) (fun hS=>?_)
 refine rP 0 hS ?_
 refine rP 1 hS ?_
 refine rP 2 hS ?_
 refine rL 3 [7] rfl hS (by intro w hSw;obtain⟨⟨s0,s1,s3,s4⟩,c0,c1,c2,c3,c4,c5,c6⟩:=hSw;go_simp;try with_reducible rfl) ?_
 refine rP 4 hS ?_
 refine rL 5 [6,7] rfl hS (by intro w hSw;obtain⟨⟨s0,s1,s3,s4⟩,c0,c1,c2,c3,c4,c5,c6⟩:=hSw;go_simp;try with_reducible rfl) ?_
 intro inv
 refine rO 6 inv fun K hK=>?_
 go_simp
 clear hS
 refine(DI ad _ ha16).mono ?_
 rintro en w2 ⟨rfl,hb⟩
 have HR2:=hide (HR1.out.below hb)
 have xq:=hide (vK.out.below hb)
 clear hb HR1 vK
 have hS:=HQ.out _ HR2.out.rd.bx _ HR2.out.rd.m.bx xq.out HR2.out.was.m
 go_simp
 refine hK.out _ _ (fun _=>HQ.out _ HR2.out.rd.bx _ HR2.out.rd.m.bx xq.out HR2.out.was.m) ?_
 clear hK K hS inv
 intro inv
 try simp only[Act.put,aD,aF,aG]
 have hS:=HQ.out _ HR2.out.rd.bx _ HR2.out.rd.m.bx xq.out HR2.out.was.m
 refine rT 7 inv fun K hK=>?_
 go_simp
 clear hS
 refine(Cy _ B g A (rd::nm::([Nd]++bl)) mk e HR2.out.rd.m (mR ad) (Od ha16) P (by rw[HR2.out.ext.vars];exact HV.out) HP.out.m).mono ?_
 rintro en w3 hr
 obtain⟨A3,e3,r3,rfl,hrf,hx,hF,hsm⟩:=HR2.out.call hr
 have HR3:=hide hrf
 have Gs:=hide (xq.out.same (hsm Nd (by simp)))
 have aa1:=hide (fun h=>(hF h).2)
 clear hr hrf hx hF hsm HR2 xq
 go_simp
 refine hK.out _ _ ?_
 clear hK K inv
 intro inv
 try simp only[Act.put,aD,aF,aG]
 refine rT 8 inv fun K hK=>?_
 go_simp
 refine hK.out _ _ ?_
 clear hK K inv
 intro inv
 try simp only[Act.put,aD,aF,aG]
 refine rD ?_
 clear inv
 go_wp2_with fail
 have HR4:=hide (HR3.out.below (RowKit.Below.refl _ _).drew)
 have Ab:=hide (Gs.out.below (RowKit.Below.refl _ _).drew)
 have VH:=aa1
 clear HR3 Gs aa1
 refine aI (fun w'=>(w'.cell? ⟨rd,0,none⟩=some (.pointer (some ⟨mk,0,none⟩))∧w'.cell? ⟨mk,0,none⟩=some (.pointer (some ⟨g,0,none⟩))∧w'.cell? ⟨rd,3,none⟩=some (.map (some wm))∧gZ w' wm Mw)∧w'.cell? ⟨Nd,0,none⟩=some (.string nm')∧w'.cell? ⟨Nd,1,none⟩=some (.int .i64 5)∧w'.cell? ⟨Nd,2,none⟩=some (.int .i64 (ad:Int))∧w'.cell? ⟨Nd,3,none⟩=some (.int .u8 pl)∧w'.cell? ⟨Nd,4,none⟩=some (.slice bA bn bc)∧w'.cell? ⟨Nd,5,none⟩=some (.slice rA rn rc)∧w'.cell? ⟨Nd,6,none⟩=some (.slice tA tn tc)) 8 (by kernel_rfl) (HQ.out _ HR4.out.rd.bx _ HR4.out.rd.m.bx Ab.out HR4.out.was.m) (fun hS=>?_)
 refine rP 0 hS ?_
 refine rP 1 hS ?_
 refine rP 2 hS ?_
 refine rL 3 [8] rfl hS (by intro w hSw;obtain⟨⟨s0,s1,s3,s4⟩,c0,c1,c2,c3,c4,c5,c6⟩:=hSw;go_simp;try with_reducible rfl) ?_
 refine rP 4 hS ?_
 refine rP 5 hS ?_
 refine rP 7 hS ?_
 intro inv
 refine iX (i:=6) (v:=.int .i64 ((bQ Mw ((i:Int),0):Nat):Int)) [8] rfl (by kernel_rfl) (by kernel_rfl) (by kernel_rfl) (by kernel_rfl) (fun _ _ _ h=>h) inv ⟨by rfl,?_⟩ hS (fun inv2=>?_)
 ·intro w hSw
  obtain⟨⟨s0,s1,s3,s4⟩,c0,c1,c2,c3,c4,c5,c6⟩:=hSw;exact⟨146,_,by go_simp,nU w rd wm Mw s4 HR4.out.was.ints s3 (i:Int) 0 (by simp only[ay];omega) (by simp only[ay];omega)⟩
 clear inv
 have inv:=inv2
 clear inv2
 try simp only[Act.put,aD,aF,aG]
 refine rT 8 inv fun K hK=>?_
 go_simp
 clear hS
 refine(nO _ B g A3 (rd::nm::([Nd]++bl)) mk e3 HR4.out.rd.m (bQ Mw ((i:Int),0)) r3 (Sw ((i:Int),0)) (dx (mR ad)) P (fun h=>HR4.out.was.sw h _) VH.out HP.out.q).mono ?_
 rintro en w5 hr
 obtain⟨A5,e5,r5,rfl,hrf,hx,hF,hsm⟩:=HR4.out.call hr
 have lN:=hide hrf
 have KO:=hide (Ab.out.same (hsm Nd (by simp)))
 have aa2:=hide (fun h=>(VH.out ((hF h).1)).ext HR4.out.rd.inv hx)
 have aa3:=hide (fun h=>(hF h).2)
 clear hr hrf hx hF hsm HR4 Ab VH
 go_simp
 refine hK.out _ _ ?_
 clear hK K inv
 intro inv
 try simp only[Act.put,aD,aF,aG]
 refine rT 9 inv fun K hK=>?_
 go_simp
 refine hK.out _ _ ?_
 clear hK K inv
 intro inv
 try simp only[Act.put,aD,aF,aG]
 refine rD ?_
 clear inv
 go_wp2_with fail
 have iV:=hide (lN.out.below (RowKit.Below.refl _ _).drew)
 have DN:=hide (KO.out.below (RowKit.Below.refl _ _).drew)
 have aa4:=aa2
 have aa5:=aa3
 clear lN KO aa2 aa3
 refine aI (fun w'=>(w'.cell? ⟨rd,0,none⟩=some (.pointer (some ⟨mk,0,none⟩))∧w'.cell? ⟨mk,0,none⟩=some (.pointer (some ⟨g,0,none⟩))∧w'.cell? ⟨rd,3,none⟩=some (.map (some wm))∧gZ w' wm Mw)∧w'.cell? ⟨Nd,0,none⟩=some (.string nm')∧w'.cell? ⟨Nd,1,none⟩=some (.int .i64 5)∧w'.cell? ⟨Nd,2,none⟩=some (.int .i64 (ad:Int))∧w'.cell? ⟨Nd,3,none⟩=some (.int .u8 pl)∧w'.cell? ⟨Nd,4,none⟩=some (.slice bA bn bc)∧w'.cell? ⟨Nd,5,none⟩=some (.slice rA rn rc)∧w'.cell? ⟨Nd,6,none⟩=some (.slice tA tn tc)) 16 (by kernel_rfl) (HQ.out _ iV.out.rd.bx _ iV.out.rd.m.bx DN.out iV.out.was.m) (fun hS=>?_)
 refine rP 0 hS ?_
 refine rP 1 hS ?_
 refine rP 2 hS ?_
 refine rP 3 hS ?_
 refine rP 4 hS ?_
 refine rL 5 [15,16] rfl hS (by intro w hSw;obtain⟨⟨s0,s1,s3,s4⟩,c0,c1,c2,c3,c4,c5,c6⟩:=hSw;go_simp;try with_reducible rfl) ?_
 refine rP 6 hS ?_
 refine rP 7 hS ?_
 refine rP 9 hS ?_
 refine rP 10 hS ?_
 refine rP 11 hS ?_
 refine rL 12 [14,15,16] rfl hS (by intro w hSw;obtain⟨⟨s0,s1,s3,s4⟩,c0,c1,c2,c3,c4,c5,c6⟩:=hSw;go_simp;try with_reducible rfl) ?_
 refine rP 13 hS ?_
 intro inv
 refine iX (i:=8) (v:=.int .i64 ((bQ Mw ((i:Int),0):Nat):Int)) [15,16] rfl (by kernel_rfl) (by kernel_rfl) (by kernel_rfl) (by kernel_rfl) (fun _ _ _ h=>h) inv ⟨by rfl,?_⟩ hS (fun inv2=>?_)
 ·intro w hSw
  obtain⟨⟨s0,s1,s3,s4⟩,c0,c1,c2,c3,c4,c5,c6⟩:=hSw;exact⟨146,_,by go_simp,nU w rd wm Mw s4 iV.out.was.ints s3 (i:Int) 0 (by simp only[ay];omega) (by simp only[ay];omega)⟩
 clear inv
 have inv:=inv2
 clear inv2
 try simp only[Act.put,aD,aF,aG]
 refine rO 14 inv fun K hK=>?_
 go_simp
 clear hS
 refine(aaE _ B g A5 (rd::nm::([Nd]++bl)) mk e5 iV.out.rd.m r3 (dx (mR ad)) P aa4.out HP.out.nn).mono ?_
 rintro en w7 hr
 obtain⟨A7,e7,r7,rfl,hrf,hx,hF,hsm⟩:=iV.out.call hr
 have gY:=hide hrf
 have xu:=hide (DN.out.same (hsm Nd (by simp)))
 have aa6:=hide (fun h=>(aa5.out ((hF h).1)).ext iV.out.rd.inv hx)
 have aa7:=hide (fun h=>(hF h).2)
 clear hr hrf hx hF hsm iV DN aa4 aa5
 have hS:=HQ.out _ gY.out.rd.bx _ gY.out.rd.m.bx xu.out gY.out.was.m
 go_simp
 refine hK.out _ _ (fun _=>HQ.out _ gY.out.rd.bx _ gY.out.rd.m.bx xu.out gY.out.was.m) ?_
 clear hK K hS inv
 intro inv
 try simp only[Act.put,aD,aF,aG]
 have hS:=HQ.out _ gY.out.rd.bx _ gY.out.rd.m.bx xu.out gY.out.was.m
 refine rO 15 inv fun K hK=>?_
 go_simp
 clear hS
 refine(nO _ B g A7 (rd::nm::([Nd]++bl)) mk e7 gY.out.rd.m (bQ Mw ((i:Int),0)) r7 (Sw ((i:Int),0)) (ug (dx (mR ad))) P (fun h=>gY.out.was.sw h _) aa7.out HP.out.n1).mono ?_
 rintro en w8 hr
 obtain⟨A8,e8,r8,rfl,hrf,hx,hF,hsm⟩:=gY.out.call hr
 have iW:=hide hrf
 have xw:=hide (xu.out.same (hsm Nd (by simp)))
 have aa8:=hide (fun h=>(aa6.out ((hF h).1)).ext gY.out.rd.inv hx)
 have aa9:=hide (fun h=>(hF h).2)
 clear hr hrf hx hF hsm gY xu aa6 aa7
 have hS:=HQ.out _ iW.out.rd.bx _ iW.out.rd.m.bx xw.out iW.out.was.m
 go_simp
 refine hK.out _ _ (fun _=>HQ.out _ iW.out.rd.bx _ iW.out.rd.m.bx xw.out iW.out.was.m) ?_
 clear hK K hS inv
 intro inv
 try simp only[Act.put,aD,aF,aG]
 have hS:=HQ.out _ iW.out.rd.bx _ iW.out.rd.m.bx xw.out iW.out.was.m
 refine rT 16 inv fun K hK=>?_
 go_simp
 clear hS
 refine(jY _ B g A8 ([Nd]++bl) mk e8 rd n (.map (some wm)) nm Mn _ iW.out.rd (nM.out _ iW.out.kp.low) dV.out P (i:Int) 1 r8 (bL (Sw ((i:Int),0)) (ug (dx (mR ad)))) aa9.out HP.out.s1).mono ?_
 rintro en w9 ⟨rfl,hr⟩
 obtain⟨A9,e9,Mn9,hrf,hx,hF,hsm⟩:=iW.out.send hr
 have mQ:=hide hrf
 have KS:=hide (xw.out.same (hsm Nd (by simp)))
 have abb:=hide (fun h=>(aa8.out (hF h)).ext iW.out.rd.inv hx)
 clear hr hrf hx hF hsm iW xw aa8 aa9
 go_simp
 refine hK.out _ _ ?_
 clear hK K inv
 intro inv
 try simp only[Act.put,aD,aF,aG]
 refine rD ?_
 clear inv
 have s3:w9.cell? ⟨rd,3,none⟩=some (.map (some wm)):=mQ.out.rd.bx.get 3 _ rfl
 go_wp2_with fail
 refine(nU w9 rd wm Mw mQ.out.was.m mQ.out.was.ints s3 (i:Int) 1 (by simp only[ay];omega) (by simp only[ay];omega)).mono ?_
 rintro en wx ⟨rfl,rfl⟩
 clear s3
 go_wp2_with fail
 refine(jY _ B g A9 ([Nd]++bl) mk e9 rd n (.map (some wm)) nm Mn9 _ mQ.out.rd (nM.out _ mQ.out.kp.low) dV.out P (i:Int) 0 (bQ Mw ((i:Int),1)) (Sw ((i:Int),1)) (fun h=>mQ.out.was.sw h _) HP.out.s2).mono ?_
 rintro en ng ⟨rfl,hr⟩
 obtain⟨ET,e10,uo,hrf,hx,hF,hsm⟩:=mQ.out.send hr
 have qL:=hide hrf
 have Ac:=hide (KS.out.same (hsm Nd (by simp)))
 have XE:=hide (fun h=>(abb.out (hF h)).ext mQ.out.rd.inv hx)
 clear hr hrf hx hF hsm mQ KS abb
 have c4:ng.cell? ⟨Nd,4,none⟩=some (.slice bA bn bc):=Ac.out.get 4 _ rfl
 go_wp2_with fail
 clear c4
 go_loopw [54] (fun u wr=>∃(k:Nat) (A2:St) (e2:Nat) (jX:dB→Option Value),k≤bn∧u= .int .i64 (k:Int)∧Hid (RF w B g A bl mk e rd n wm nm Mw Sw P wr A2 e2 jX (qF n.ls i ad bs Sw Sn k) [Nd])∧Hid (Bx wr Nd #[.string nm',.int .i64 5,.int .i64 (ad:Int),.int .u8 pl,.slice bA bn bc,.slice rA rn rc,.slice tA tn tc] 86)∧Hid (e2=0→dM A2 r5 (pX i ad Sw))) (fun u _=>bn - (intOf u).toNat)
 case atStart=>exact⟨0,ET,e10,uo,Nat.zero_le _,rfl,qL,Ac,XE⟩
 case round=>
  clear qL Ac XE
  obtain⟨k,A2,e2,jX,hk,rfl,vL,Fu,P8⟩:=hrel
  by_cases hlt:k<bn
  ·obtain⟨b,hb⟩:∃b,bs[k]?=some b:=⟨_,List.getElem?_eq_getElem (by omega)⟩
   have hb2:=ae7.out b (List.mem_of_getElem? hb)
   have hia:=vO.out wr vL.out.kp.low
   obtain⟨bb,bo,rfl,_,hcl⟩:=hia.2.2 (by omega)
   have q0:=hcl k b hb
   obtain⟨bN,hbN⟩:∃bN:Nat,b=(bN:Int):=⟨b.toNat,by omega⟩
   subst hbN
   have abd:bN<16:=by omega
   have xB:=hide hb
   have m0:wr.cell? ⟨rd,0,none⟩=some (.pointer (some ⟨mk,0,none⟩)):=vL.out.rd.bx.get 0 _ rfl
   clear hb hia hcl
   go_wp2_with fail
   clear q0 m0
   refine(Xd _ B g A2 (rd::nm::([Nd]++bl)) mk e2 vL.out.rd.m r5 (pX i ad Sw) P bN abd (by rw[vL.out.ext.vars];exact HV.out) P8.out (HP.out.t k (bN:Int) xB.out)).mono ?_
   rintro en w41 hr
   obtain⟨A41,e41,r41,rfl,hrf,hx,hF,hsm⟩:=vL.out.call hr
   have qO:=hide hrf
   have CB:=hide (Fu.out.same (hsm Nd (by simp)))
   have XF:=hide (fun h=>(P8.out ((hF h).1)).ext vL.out.rd.inv hx)
   have XG:=hide (fun h=>(hF h).2)
   clear hr hrf hx hF hsm vL Fu P8
   go_wp2_with fail
   refine(jY _ B g A41 ([Nd]++bl) mk e41 rd n (.map (some wm)) nm jX _ qO.out.rd (nM.out _ qO.out.kp.low) dV.out P (i:Int) 1 r41 (yu (pX i ad Sw) bN) XG.out (HP.out.t1 k (bN:Int) xB.out)).mono ?_
   rintro en XH ⟨rfl,hr⟩
   obtain⟨XI,e42,abe,hrf,hx,hF,hsm⟩:=qO.out.send hr
   have Ad:=hide hrf
   have Fv:=hide (CB.out.same (hsm Nd (by simp)))
   have XJ:=hide (fun h=>(XF.out (hF h)).ext qO.out.rd.inv hx)
   clear hr hrf hx hF hsm qO CB XF XG
   have r1:XH.cell? ⟨rd,1,none⟩=some (.slice n.dA n.dn n.dc):=Ad.out.rd.bx.get 1 _ rfl
   have r2:XH.cell? ⟨rd,2,none⟩=some (.slice n.lA n.ln n.lc):=Ad.out.rd.bx.get 2 _ rfl
   go_wp2_with fail
   refine(BG XH B rd n (Nat.le_of_lt Ad.out.rd.m.sa.hB) (nM.out _ Ad.out.kp.low) dV.out r1 r2 (i:Int) 1).mono ?_
   rintro en wo ⟨rfl,hb⟩
   clear r1 r2
   have VI:=hide (Ad.out.below hb)
   have P9:=hide (Fv.out.below hb)
   have Qa:=XJ
   clear hb Ad Fv XJ
   obtain⟨o1,ho1⟩:∃o1,(aP n.ls ((i:Int),1)).isSome =o1:=⟨_,rfl⟩
   rw[ho1]
   have HO:=hide ho1
   clear ho1
   cases o1
   ·have HST:=hide (show qF n.ls i ad bs Sw Sn (k+1)=fO n.ls ((i:Int),1) (yu (pX i ad Sw) bN) (qF n.ls i ad bs Sw Sn k)from by
     rw[Fq xB.out];unfold um;rw[if_neg (by rw[HO.out];simp)];rfl)
    go_wp2_with fail
    go_roundw
    case rel=>exact⟨k+1,XI,e42,abe,by omega,by go_num,hide (by rw[HST.out];exact VI.out),P9,Qa⟩
    case measure=>simp[intOf];omega
   go_wp2_with fail
   have BO:=hide (fun(w':World) (h1:Bx w' rd #[.pointer (some ⟨mk,0,none⟩),.slice n.dA n.dn n.dc,.slice n.lA n.ln n.lc,.map (some wm),.map (some nm)] 122) (e':Nat) (h2:Bx w' mk #[.pointer (some ⟨g,0,none⟩),.int .i64 (e':Int)] 119) (hbd:Bx w' Nd #[.string nm',.int .i64 5,.int .i64 (ad:Int),.int .u8 pl,.slice (some ⟨bb,bo,none⟩) bn bc,.slice rA rn rc,.slice tA tn tc] 86) (h4:gZ w' wm Mw)=>show(w'.cell? ⟨rd,0,none⟩=some (.pointer (some ⟨mk,0,none⟩))∧w'.cell? ⟨mk,0,none⟩=some (.pointer (some ⟨g,0,none⟩))∧w'.cell? ⟨rd,3,none⟩=some (.map (some wm))∧gZ w' wm Mw)∧w'.cell? ⟨Nd,0,none⟩=some (.string nm')∧w'.cell? ⟨Nd,1,none⟩=some (.int .i64 5)∧w'.cell? ⟨Nd,2,none⟩=some (.int .i64 (ad:Int))∧w'.cell? ⟨Nd,3,none⟩=some (.int .u8 pl)∧w'.cell? ⟨Nd,4,none⟩=some (.slice (some ⟨bb,bo,none⟩) bn bc)∧w'.cell? ⟨Nd,5,none⟩=some (.slice rA rn rc)∧w'.cell? ⟨Nd,6,none⟩=some (.slice tA tn tc)from⟨⟨h1.get 0 _ rfl,h2.get 0 _ rfl,h1.get 3 _ rfl,h4⟩,hbd.get 0 _ rfl,hbd.get 1 _ rfl,hbd.get 2 _ rfl,hbd.get 3 _ rfl,hbd.get 4 _ rfl,hbd.get 5 _ rfl,hbd.get 6 _ rfl⟩)
   have Ae:=hide (VI.out.below (RowKit.Below.refl _ _).drew)
   have Qb:=hide (P9.out.below (RowKit.Below.refl _ _).drew)
   have Qc:=Qa
   clear VI P9 Qa
   refine aI (fun w'=>(w'.cell? ⟨rd,0,none⟩=some (.pointer (some ⟨mk,0,none⟩))∧w'.cell? ⟨mk,0,none⟩=some (.pointer (some ⟨g,0,none⟩))∧w'.cell? ⟨rd,3,none⟩=some (.map (some wm))∧gZ w' wm Mw)∧w'.cell? ⟨Nd,0,none⟩=some (.string nm')∧w'.cell? ⟨Nd,1,none⟩=some (.int .i64 5)∧w'.cell? ⟨Nd,2,none⟩=some (.int .i64 (ad:Int))∧w'.cell? ⟨Nd,3,none⟩=some (.int .u8 pl)∧w'.cell? ⟨Nd,4,none⟩=some (.slice (some ⟨bb,bo,none⟩) bn bc)∧w'.cell? ⟨Nd,5,none⟩=some (.slice rA rn rc)∧w'.cell? ⟨Nd,6,none⟩=some (.slice tA tn tc)) 19 (by kernel_rfl) (BO.out _ Ae.out.rd.bx _ Ae.out.rd.m.bx Qb.out Ae.out.was.m) (fun hS=>?_)
   refine rP 0 hS ?_
   refine rP 1 hS ?_
   refine rP 2 hS ?_
   refine rL 3 [19] rfl hS (by intro w hSw;obtain⟨⟨s0,s1,s3,s4⟩,c0,c1,c2,c3,c4,c5,c6⟩:=hSw;go_simp;try with_reducible rfl) ?_
   refine rP 4 hS ?_
   refine rP 5 hS ?_
   refine rP 7 hS ?_
   refine rP 8 hS ?_
   refine rP 9 hS ?_
   refine rL 10 [18,19] rfl hS (by intro w hSw;obtain⟨⟨s0,s1,s3,s4⟩,c0,c1,c2,c3,c4,c5,c6⟩:=hSw;go_simp;try with_reducible rfl) ?_
   refine rP 11 hS ?_
   refine rP 12 hS ?_
   refine rP 13 hS ?_
   refine rL 14 [17,18,19] rfl hS (by intro w hSw;obtain⟨⟨s0,s1,s3,s4⟩,c0,c1,c2,c3,c4,c5,c6⟩:=hSw;go_simp;try with_reducible rfl) ?_
   refine rP 15 hS ?_
   refine rP 16 hS ?_
   intro inv
   refine iX (i:=6) (v:=.int .i64 ((bQ Mw ((i:Int),1):Nat):Int)) [19] rfl (by kernel_rfl) (by kernel_rfl) (by kernel_rfl) (by kernel_rfl) (fun _ _ _ h=>h) inv ⟨by rfl,?_⟩ hS (fun inv2=>?_)
   ·intro w hSw
    obtain⟨⟨s0,s1,s3,s4⟩,c0,c1,c2,c3,c4,c5,c6⟩:=hSw;exact⟨146,_,by go_simp,nU w rd wm Mw s4 Ae.out.was.ints s3 (i:Int) 1 (by simp only[ay];omega) (by simp only[ay];omega)⟩
   clear inv
   have inv:=inv2
   clear inv2
   try simp only[Act.put,aD,aF,aG]
   refine rO 17 inv fun K hK=>?_
   go_simp
   clear hS
   refine(Xd _ B g XI (rd::nm::([Nd]++bl)) mk e42 Ae.out.rd.m r5 (pX i ad Sw) P bN abd (by rw[Ae.out.ext.vars];exact HV.out) Qc.out (HP.out.t k (bN:Int) xB.out)).mono ?_
   rintro en w45 hr
   obtain⟨A45,e45,r45,rfl,hrf,hx,hF,hsm⟩:=Ae.out.call hr
   have sK:=hide hrf
   have Fw:=hide (Qb.out.same (hsm Nd (by simp)))
   have XK:=hide (fun h=>(Qc.out ((hF h).1)).ext Ae.out.rd.inv hx)
   have XL:=hide (fun h=>(hF h).2)
   clear hr hrf hx hF hsm Ae Qb Qc
   have hS:=BO.out _ sK.out.rd.bx _ sK.out.rd.m.bx Fw.out sK.out.was.m
   go_simp
   refine hK.out _ _ (fun _=>BO.out _ sK.out.rd.bx _ sK.out.rd.m.bx Fw.out sK.out.was.m) ?_
   clear hK K hS inv
   intro inv
   try simp only[Act.put,aD,aF,aG]
   have hS:=BO.out _ sK.out.rd.bx _ sK.out.rd.m.bx Fw.out sK.out.was.m
   refine rO 18 inv fun K hK=>?_
   go_simp
   clear hS
   refine(Gn _ B g A45 (rd::nm::([Nd]++bl)) mk e45 sK.out.rd.m r45 (yu (pX i ad Sw) bN) P (by rw[sK.out.ext.vars];exact HV.out) XL.out (HP.out.fl k (bN:Int) xB.out)).mono ?_
   rintro en w46 hr
   obtain⟨A46,e46,r46,rfl,hrf,hx,hF,hsm⟩:=sK.out.call hr
   have sM:=hide hrf
   have Fx:=hide (Fw.out.same (hsm Nd (by simp)))
   have XM:=hide (fun h=>(XK.out ((hF h).1)).ext sK.out.rd.inv hx)
   have XO:=hide (fun h=>(hF h).2)
   clear hr hrf hx hF hsm sK Fw XK XL
   have hS:=BO.out _ sM.out.rd.bx _ sM.out.rd.m.bx Fx.out sM.out.was.m
   go_simp
   refine hK.out _ _ (fun _=>BO.out _ sM.out.rd.bx _ sM.out.rd.m.bx Fx.out sM.out.was.m) ?_
   clear hK K hS inv
   intro inv
   try simp only[Act.put,aD,aF,aG]
   have hS:=BO.out _ sM.out.rd.bx _ sM.out.rd.m.bx Fx.out sM.out.was.m
   refine rT 19 inv fun K hK=>?_
   go_simp
   clear hS
   refine(nO _ B g A46 (rd::nm::([Nd]++bl)) mk e46 sM.out.rd.m (bQ Mw ((i:Int),1)) r46 (Sw ((i:Int),1)) (oh (yu (pX i ad Sw) bN)) P (fun h=>sM.out.was.sw h _) XO.out (HP.out.x k (bN:Int) xB.out)).mono ?_
   rintro en w47 hr
   obtain⟨A47,e47,r47,rfl,hrf,hx,hF,hsm⟩:=sM.out.call hr
   have abf:=hide hrf
   have XP:=hide (Fx.out.same (hsm Nd (by simp)))
   have XQ:=hide (fun h=>(XM.out ((hF h).1)).ext sM.out.rd.inv hx)
   have XR:=hide (fun h=>(hF h).2)
   clear hr hrf hx hF hsm sM Fx XM XO
   go_simp
   refine hK.out _ _ ?_
   clear hK K inv
   intro inv
   try simp only[Act.put,aD,aF,aG]
   refine rT 20 inv fun K hK=>?_
   go_simp
   refine hK.out _ _ ?_
   clear hK K inv
   intro inv
   try simp only[Act.put,aD,aF,aG]
   refine rD ?_
   clear inv
   go_wp2_with fail
   have BQ:=hide (abf.out.below (RowKit.Below.refl _ _).drew)
   have Qd:=hide (XP.out.below (RowKit.Below.refl _ _).drew)
   have XT:=XQ
   have XU:=XR
   clear abf XP XQ XR
   refine aI (fun w'=>(w'.cell? ⟨rd,0,none⟩=some (.pointer (some ⟨mk,0,none⟩))∧w'.cell? ⟨mk,0,none⟩=some (.pointer (some ⟨g,0,none⟩))∧w'.cell? ⟨rd,3,none⟩=some (.map (some wm))∧gZ w' wm Mw)∧w'.cell? ⟨Nd,0,none⟩=some (.string nm')∧w'.cell? ⟨Nd,1,none⟩=some (.int .i64 5)∧w'.cell? ⟨Nd,2,none⟩=some (.int .i64 (ad:Int))∧w'.cell? ⟨Nd,3,none⟩=some (.int .u8 pl)∧w'.cell? ⟨Nd,4,none⟩=some (.slice (some ⟨bb,bo,none⟩) bn bc)∧w'.cell? ⟨Nd,5,none⟩=some (.slice rA rn rc)∧w'.cell? ⟨Nd,6,none⟩=some (.slice tA tn tc)) 10 (by kernel_rfl) (BO.out _ BQ.out.rd.bx _ BQ.out.rd.m.bx Qd.out BQ.out.was.m) (fun hS=>?_)
   refine rP 0 hS ?_
   refine rP 1 hS ?_
   refine rP 2 hS ?_
   refine rP 3 hS ?_
   refine rP 4 hS ?_
   refine rL 5 [9,10] rfl hS (by intro w hSw;obtain⟨⟨s0,s1,s3,s4⟩,c0,c1,c2,c3,c4,c5,c6⟩:=hSw;go_simp;try with_reducible rfl) ?_
   refine rP 6 hS ?_
   refine rP 7 hS ?_
   refine rL 8 [9,10] rfl hS (by intro w hSw;obtain⟨⟨s0,s1,s3,s4⟩,c0,c1,c2,c3,c4,c5,c6⟩:=hSw;go_simp;try with_reducible rfl) ?_
   intro inv
   refine rO 9 inv fun K hK=>?_
   go_simp
   clear hS
   refine(Y6 _ B g A47 (rd::nm::([Nd]++bl)) mk e47 BQ.out.rd.m r47 (DR i ad bN Sw) P ad ha16 (by rw[BQ.out.ext.vars];exact HV.out) XU.out (HP.out.f k (bN:Int) xB.out)).mono ?_
   rintro en w49 hr
   obtain⟨A49,e49,r49,rfl,hrf,hx,hF,hsm⟩:=BQ.out.call hr
   have sO:=hide hrf
   have Fy:=hide (Qd.out.same (hsm Nd (by simp)))
   have XV:=hide (fun h=>(XT.out ((hF h).1)).ext BQ.out.rd.inv hx)
   have XW:=hide (fun h=>(hF h).2)
   clear hr hrf hx hF hsm BQ Qd XT XU
   have hS:=BO.out _ sO.out.rd.bx _ sO.out.rd.m.bx Fy.out sO.out.was.m
   go_simp
   refine hK.out _ _ (fun _=>BO.out _ sO.out.rd.bx _ sO.out.rd.m.bx Fy.out sO.out.was.m) ?_
   clear hK K hS inv
   intro inv
   try simp only[Act.put,aD,aF,aG]
   have hS:=BO.out _ sO.out.rd.bx _ sO.out.rd.m.bx Fy.out sO.out.was.m
   refine rT 10 inv fun K hK=>?_
   go_simp
   clear hS
   refine(jY _ B g A49 ([Nd]++bl) mk e49 rd n (.map (some wm)) nm abe _ sO.out.rd (nM.out _ sO.out.kp.low) dV.out P (i:Int) 0 r49 (zZ (DR i ad bN Sw) ad) XW.out (HP.out.s3 k (bN:Int) xB.out)).mono ?_
   rintro en w50 ⟨rfl,hr⟩
   obtain⟨A50,e50,ae8,hrf,hx,hF,hsm⟩:=sO.out.send hr
   have ae9:=hide hrf
   have acy:=hide (Fy.out.same (hsm Nd (by simp)))
   have acz:=hide (fun h=>(XV.out (hF h)).ext sO.out.rd.inv hx)
   clear hr hrf hx hF hsm sO Fy XV XW
   go_simp
   refine hK.out _ _ ?_
   clear hK K inv
   intro inv
   try simp only[Act.put,aD,aF,aG]
   refine rD ?_
   clear inv
   have HST:=hide (show qF n.ls i ad bs Sw Sn (k+1)=fO n.ls ((i:Int),0) (zZ (DR i ad bN Sw) ad) (fO n.ls ((i:Int),1) (yu (pX i ad Sw) bN) (qF n.ls i ad bs Sw Sn k))from by
    rw[Fq xB.out];unfold um;rw[if_pos (by rw[HO.out])];rfl)
   go_wp2_with fail
   go_roundw
   case rel=>exact⟨k+1,A50,e50,ae8,by omega,by go_num,hide (by rw[HST.out];exact ae9.out),acy,acz⟩
   case measure=>simp[intOf];omega
  ·obtain rfl:k=bn:=by omega
   have pW:=hide (show qo w B g A bl mk e rd n (.map (some wm)) nm P (Gt n.ls i ad bs Sw Sn) wr from by
    unfold Gt;rw[hbl];exact vL.out.out)
   go_wp2
   go_end0
   exact⟨rfl,pW.out⟩
end Go.Proofs.YtlhmdcgckocidaaGreat
