/- A part of the proof: Rd5. -/
import Derived.Test.YtifkacnoiocebaaGreatDz21
set_option linter.unusedVariables false
set_option linter.unusedSimpArgs false
set_option maxRecDepth 100000
set_option maxHeartbeats 8000000
namespace Go.Proofs.YtifkacnoiocebaaGreat
open aj Go.Maps Go.RowKit
def kT (i a:Nat) (Sw:Pl→aj.Fn):aj.Fn:=bf (Sw ((i:Int),0)) (bI (kS a))
def Gh (ls:List ah) (i a:Nat) (Sw Sn:Pl→aj.Fn):Pl→aj.Fn:=eH ls ((i:Int),0) (Sw ((i:Int),1)) (eH ls ((i:Int),1) (bf (Sw ((i:Int),0)) (qh (bI (kS a)))) Sn)
def zQ (i a b:Nat) (Sw:Pl→aj.Fn):aj.Fn:=bf (Sw ((i:Int),1)) (mH (sO (kT i a Sw) b))
def kX (ls:List ah) (i a:Nat) (Sw:Pl→aj.Fn) (b:Nat) (Sn:Pl→aj.Fn):Pl→aj.Fn:=
 if(aD ls ((i:Int),1)).isSome then eH ls ((i:Int),0) (vU (zQ i a b Sw) a) (eH ls ((i:Int),1) (sO (kT i a Sw) b) Sn)
 else eH ls ((i:Int),1) (sO (kT i a Sw) b) Sn
def oD (ls:List ah) (i a:Nat) (bs:List Int) (Sw Sn:Pl→aj.Fn) (k:Nat):Pl→aj.Fn:=(bs.take k).foldl (fun S b=>kX ls i a Sw b.toNat S) (Gh ls i a Sw Sn)
def zR (ls:List ah) (i a:Nat) (bs:List Int) (Sw Sn:Pl→aj.Fn):Pl→aj.Fn:=oD ls i a bs Sw Sn bs.length
theorem EN {ls:List ah} {i a:Nat} {bs:List Int} {Sw Sn:Pl→aj.Fn} {k:Nat} {b:Int} (h:bs[k]?=some b):oD ls i a bs Sw Sn (k+1)=kX ls i a Sw b.toNat (oD ls i a bs Sw Sn k):=by
 obtain⟨hk,e⟩:=List.getElem?_eq_some_iff.1 h
 unfold oD
 rw[List.take_succ_eq_append_getElem hk,e,List.foldl_append]
 rfl
structure Vp (P:aj.Fn→Prop) (ls:List ah) (i a:Nat) (bs:List Int) (Sw Sn:Pl→aj.Fn):Prop where
 m:rE P (kS a)
 q:PC P (kT i a Sw)
 nn:PC P (qh (bI (kS a)))
 n1:PC P (bf (Sw ((i:Int),0)) (qh (bI (kS a))))
 s1:nS P ls ((i:Int),1) (bf (Sw ((i:Int),0)) (qh (bI (kS a)))) Sn
 s2:nS P ls ((i:Int),0) (Sw ((i:Int),1)) (eH ls ((i:Int),1) (bf (Sw ((i:Int),0)) (qh (bI (kS a)))) Sn)
 t:∀(k:Nat) (b:Int),bs[k]?=some b→Ti P (kT i a Sw) b.toNat
 t1:∀(k:Nat) (b:Int),bs[k]?=some b→nS P ls ((i:Int),1) (sO (kT i a Sw) b.toNat) (oD ls i a bs Sw Sn k)
 fl:∀(k:Nat) (b:Int),bs[k]?=some b→Bp P (sO (kT i a Sw) b.toNat)
 x:∀(k:Nat) (b:Int),bs[k]?=some b→PC P (zQ i a b.toNat Sw)
 f:∀(k:Nat) (b:Int),bs[k]?=some b→JQ P (zQ i a b.toNat Sw) a
 s3:∀(k:Nat) (b:Int),bs[k]?=some b→nS P ls ((i:Int),0) (vU (zQ i a b.toNat Sw) a) (eH ls ((i:Int),1) (sO (kT i a Sw) b.toNat) (oD ls i a bs Sw Sn k))
theorem IB (w:World) (B g:Nat) (A:St) (bl:List Nat) (mk e rd:Nat) (n:aC) (wm nm:Nat) (Mw Mn:aB→Option Value) (Sw Sn:Pl→aj.Fn) (h:RD w B g A bl mk e rd n (.map (some wm)) nm Mn Sn) (hw:oC w A e bl wm Mw Sw) (hv:A.vars=14) (hl:bD ah.cells 4 w B n.lA n.ln n.ls) (hlk:mU n.ls)
  (P:aj.Fn→Prop) (i:Nat) (hi:i≤1000) (r:ak) (ad:Nat) (hk:r.kind=5) (had:r.addr=(ad:Int)) (ha16:ad<16) (hbs:cu w B r.bA r.bn r.bs) (sH:∀b∈r.bs,0≤b∧b<16) (hb3:r.bs.length≤3) (hP:Vp P n.ls i ad r.bs Sw Sn):
  Calls Tryz.prog 61 #[.pointer (some ⟨rd,0,none⟩),.int .i64 (i:Int),r.val] w fun en w'=>en= .returned (.tuple #[])∧qy w B g A bl mk e rd n (.map (some wm)) nm P (zR n.ls i ad r.bs Sw Sn) w':=by
 obtain⟨nm',kd,ad',pl,bA,bn,bc,bs,rA,rn,rc,rs,tA,tn,tc,ts⟩:=r
 simp only at hk had hbs sH hb3 hP
 subst hk
 subst had
 have j4:=hide ((RF.start h hw P).alloc (.cells #[.string nm',.int .i64 5,.int .i64 (ad:Int),.int .u8 pl,.slice bA bn bc,.slice rA rn rc,.slice tA tn tc] 81))
 have BA:=hide (Bx.new w #[.string nm',.int .i64 5,.int .i64 (ad:Int),.int .u8 pl,.slice bA bn bc,.slice rA rn rc,.slice tA tn tc] 81)
 have jL:=hide (fun(w':World) (hb:RowKit.Below B w w')=>hl.below hb (Nat.le_refl _))
 have HBS:=hide (fun(w':World) (hb:RowKit.Below B w w')=>hbs.below hb (Nat.le_refl _))
 have yt:=hide sH
 have hbl:bs.length=bn:=hbs.1
 have iy:=hide hlk
 have HP:=hide hP
 have HV:=hide hv
 clear h hw hl hlk hP hv hbs sH
 simp only[ak.val]at*
 go_enter Tryz.func61,Tryz.ntmps61
 go_wp2_with fail
 generalize World.alloc w _=w0 at*
 generalize w.heap.size=Nd at*
 have HQ:=hide (fun(w':World) (h1:Bx w' rd #[.pointer (some ⟨mk,0,none⟩),.slice n.dA n.dn n.dc,.slice n.lA n.ln n.lc,.map (some wm),.map (some nm)] 75) (e':Nat) (h2:Bx w' mk #[.pointer (some ⟨g,0,none⟩),.int .i64 (e':Int)] 72) (hbd:Bx w' Nd #[.string nm',.int .i64 5,.int .i64 (ad:Int),.int .u8 pl,.slice bA bn bc,.slice rA rn rc,.slice tA tn tc] 81) (h4:gY w' wm Mw)=>show(w'.cell? ⟨rd,0,none⟩=some (.pointer (some ⟨mk,0,none⟩))∧w'.cell? ⟨mk,0,none⟩=some (.pointer (some ⟨g,0,none⟩))∧w'.cell? ⟨rd,3,none⟩=some (.map (some wm))∧gY w' wm Mw)∧w'.cell? ⟨Nd,0,none⟩=some (.string nm')∧w'.cell? ⟨Nd,1,none⟩=some (.int .i64 5)∧w'.cell? ⟨Nd,2,none⟩=some (.int .i64 (ad:Int))∧w'.cell? ⟨Nd,3,none⟩=some (.int .u8 pl)∧w'.cell? ⟨Nd,4,none⟩=some (.slice bA bn bc)∧w'.cell? ⟨Nd,5,none⟩=some (.slice rA rn rc)∧w'.cell? ⟨Nd,6,none⟩=some (.slice tA tn tc)from⟨⟨h1.get 0 _ rfl,h2.get 0 _ rfl,h1.get 3 _ rfl,h4⟩,hbd.get 0 _ rfl,hbd.get 1 _ rfl,hbd.get 2 _ rfl,hbd.get 3 _ rfl,hbd.get 4 _ rfl,hbd.get 5 _ rfl,hbd.get 6 _ rfl⟩)
 have HR1:=hide (j4.out.below (RowKit.Below.refl _ _).drew)
 have vJ:=hide (BA.out.below (RowKit.Below.refl _ _).drew)
 clear j4 BA
 refine aY (fun w'=>(w'.cell? ⟨rd,0,none⟩=some (.pointer (some ⟨mk,0,none⟩))∧w'.cell? ⟨mk,0,none⟩=some (.pointer (some ⟨g,0,none⟩))∧w'.cell? ⟨rd,3,none⟩=some (.map (some wm))∧gY w' wm Mw)∧w'.cell? ⟨Nd,0,none⟩=some (.string nm')∧w'.cell? ⟨Nd,1,none⟩=some (.int .i64 5)∧w'.cell? ⟨Nd,2,none⟩=some (.int .i64 (ad:Int))∧w'.cell? ⟨Nd,3,none⟩=some (.int .u8 pl)∧w'.cell? ⟨Nd,4,none⟩=some (.slice bA bn bc)∧w'.cell? ⟨Nd,5,none⟩=some (.slice rA rn rc)∧w'.cell? ⟨Nd,6,none⟩=some (.slice tA tn tc)) 7 (by kernel_rfl) (HQ.out _ HR1.out.rd.bx _ HR1.out.rd.m.bx vJ.out HR1.out.was.m) (fun hS=>?_)
 refine rP 0 hS ?_
 refine rP 1 hS ?_
 refine rP 2 hS ?_
 refine rL 3 [7] rfl hS (by intro w hSw;obtain⟨⟨s0,s1,s3,s4⟩,c0,c1,c2,c3,c4,c5,c6⟩:=hSw;go_simp;try with_reducible rfl) ?_
 refine rP 4 hS ?_
 refine rL 5 [6,7] rfl hS (by intro w hSw;obtain⟨⟨s0,s1,s3,s4⟩,c0,c1,c2,c3,c4,c5,c6⟩:=hSw;go_simp;try with_reducible rfl) ?_
 intro inv
 refine rO 6 inv fun K hK=>?_
 go_simp
 clear hS
 refine(DT ad _ ha16).mono ?_
 rintro en w2 ⟨rfl,hb⟩
 have HR2:=hide (HR1.out.below hb)
 have wW:=hide (vJ.out.below hb)
 clear hb HR1 vJ
 have hS:=HQ.out _ HR2.out.rd.bx _ HR2.out.rd.m.bx wW.out HR2.out.was.m
 go_simp
 refine hK.out _ _ (fun _=>HQ.out _ HR2.out.rd.bx _ HR2.out.rd.m.bx wW.out HR2.out.was.m) ?_
 clear hK K hS inv
 intro inv
 try simp only[Act.put,aK,aL,aM]
 have hS:=HQ.out _ HR2.out.rd.bx _ HR2.out.rd.m.bx wW.out HR2.out.was.m
 refine rT 7 inv fun K hK=>?_
 go_simp
 clear hS
 refine(Co _ B g A (rd::nm::([Nd]++bl)) mk e HR2.out.rd.m (kS ad) (MB ha16) P (by rw[HR2.out.ext.vars];exact HV.out) HP.out.m).mono ?_
 rintro en w3 hr
 obtain⟨A3,e3,r3,rfl,hrf,hx,hF,hsm⟩:=HR2.out.call hr
 have HR3:=hide hrf
 have Gg:=hide (wW.out.same (hsm Nd (by simp)))
 have YE:=hide (fun h=>(hF h).2)
 clear hr hrf hx hF hsm HR2 wW
 go_simp
 refine hK.out _ _ ?_
 clear hK K inv
 intro inv
 try simp only[Act.put,aK,aL,aM]
 refine rT 8 inv fun K hK=>?_
 go_simp
 refine hK.out _ _ ?_
 clear hK K inv
 intro inv
 try simp only[Act.put,aK,aL,aM]
 refine rD ?_
 clear inv
 go_wp2_with fail
 have HR4:=hide (HR3.out.below (RowKit.Below.refl _ _).drew)
 have zO:=hide (Gg.out.below (RowKit.Below.refl _ _).drew)
 have Tx:=YE
 clear HR3 Gg YE
 refine aY (fun w'=>(w'.cell? ⟨rd,0,none⟩=some (.pointer (some ⟨mk,0,none⟩))∧w'.cell? ⟨mk,0,none⟩=some (.pointer (some ⟨g,0,none⟩))∧w'.cell? ⟨rd,3,none⟩=some (.map (some wm))∧gY w' wm Mw)∧w'.cell? ⟨Nd,0,none⟩=some (.string nm')∧w'.cell? ⟨Nd,1,none⟩=some (.int .i64 5)∧w'.cell? ⟨Nd,2,none⟩=some (.int .i64 (ad:Int))∧w'.cell? ⟨Nd,3,none⟩=some (.int .u8 pl)∧w'.cell? ⟨Nd,4,none⟩=some (.slice bA bn bc)∧w'.cell? ⟨Nd,5,none⟩=some (.slice rA rn rc)∧w'.cell? ⟨Nd,6,none⟩=some (.slice tA tn tc)) 8 (by kernel_rfl) (HQ.out _ HR4.out.rd.bx _ HR4.out.rd.m.bx zO.out HR4.out.was.m) (fun hS=>?_)
 refine rP 0 hS ?_
 refine rP 1 hS ?_
 refine rP 2 hS ?_
 refine rL 3 [8] rfl hS (by intro w hSw;obtain⟨⟨s0,s1,s3,s4⟩,c0,c1,c2,c3,c4,c5,c6⟩:=hSw;go_simp;try with_reducible rfl) ?_
 refine rP 4 hS ?_
 refine rP 5 hS ?_
 refine rP 7 hS ?_
 intro inv
 refine ji (i:=6) (v:=.int .i64 ((bK Mw ((i:Int),0):Nat):Int)) [8] rfl (by kernel_rfl) (by kernel_rfl) (by kernel_rfl) (by kernel_rfl) (fun _ _ _ h=>h) inv ⟨by rfl,?_⟩ hS (fun inv2=>?_)
 ·intro w hSw
  obtain⟨⟨s0,s1,s3,s4⟩,c0,c1,c2,c3,c4,c5,c6⟩:=hSw;exact⟨92,_,by go_simp,nY w rd wm Mw s4 HR4.out.was.ints s3 (i:Int) 0 (by simp only[aO];omega) (by simp only[aO];omega)⟩
 clear inv
 have inv:=inv2
 clear inv2
 try simp only[Act.put,aK,aL,aM]
 refine rT 8 inv fun K hK=>?_
 go_simp
 clear hS
 refine(nR _ B g A3 (rd::nm::([Nd]++bl)) mk e3 HR4.out.rd.m (bK Mw ((i:Int),0)) r3 (Sw ((i:Int),0)) (bI (kS ad)) P (fun h=>HR4.out.was.sw h _) Tx.out HP.out.q).mono ?_
 rintro en w5 hr
 obtain⟨A5,e5,r5,rfl,hrf,hx,hF,hsm⟩:=HR4.out.call hr
 have gZ:=hide hrf
 have JY:=hide (zO.out.same (hsm Nd (by simp)))
 have YF:=hide (fun h=>(Tx.out ((hF h).1)).ext HR4.out.rd.inv hx)
 have YG:=hide (fun h=>(hF h).2)
 clear hr hrf hx hF hsm HR4 zO Tx
 go_simp
 refine hK.out _ _ ?_
 clear hK K inv
 intro inv
 try simp only[Act.put,aK,aL,aM]
 refine rT 9 inv fun K hK=>?_
 go_simp
 refine hK.out _ _ ?_
 clear hK K inv
 intro inv
 try simp only[Act.put,aK,aL,aM]
 refine rD ?_
 clear inv
 go_wp2_with fail
 have jh:=hide (gZ.out.below (RowKit.Below.refl _ _).drew)
 have DU:=hide (JY.out.below (RowKit.Below.refl _ _).drew)
 have YH:=YF
 have YI:=YG
 clear gZ JY YF YG
 refine aY (fun w'=>(w'.cell? ⟨rd,0,none⟩=some (.pointer (some ⟨mk,0,none⟩))∧w'.cell? ⟨mk,0,none⟩=some (.pointer (some ⟨g,0,none⟩))∧w'.cell? ⟨rd,3,none⟩=some (.map (some wm))∧gY w' wm Mw)∧w'.cell? ⟨Nd,0,none⟩=some (.string nm')∧w'.cell? ⟨Nd,1,none⟩=some (.int .i64 5)∧w'.cell? ⟨Nd,2,none⟩=some (.int .i64 (ad:Int))∧w'.cell? ⟨Nd,3,none⟩=some (.int .u8 pl)∧w'.cell? ⟨Nd,4,none⟩=some (.slice bA bn bc)∧w'.cell? ⟨Nd,5,none⟩=some (.slice rA rn rc)∧w'.cell? ⟨Nd,6,none⟩=some (.slice tA tn tc)) 16 (by kernel_rfl) (HQ.out _ jh.out.rd.bx _ jh.out.rd.m.bx DU.out jh.out.was.m) (fun hS=>?_)
 refine rP 0 hS ?_
 refine rP 1 hS ?_
 refine rP 2 hS ?_
 refine rP 3 hS ?_
 refine rP 4 hS ?_
 refine rL 5 [15,16] rfl hS (by intro w hSw;obtain⟨⟨s0,s1,s3,s4⟩,c0,c1,c2,c3,c4,c5,c6⟩:=hSw;go_simp;try with_reducible rfl) ?_
 refine rP 6 hS ?_
 refine rP 7 hS ?_
 refine rP 9 hS ?_
 refine rP 10 hS ?_
 refine rP 11 hS ?_
 refine rL 12 [14,15,16] rfl hS (by intro w hSw;obtain⟨⟨s0,s1,s3,s4⟩,c0,c1,c2,c3,c4,c5,c6⟩:=hSw;go_simp;try with_reducible rfl) ?_
 refine rP 13 hS ?_
 intro inv
 refine ji (i:=8) (v:=.int .i64 ((bK Mw ((i:Int),0):Nat):Int)) [15,16] rfl (by kernel_rfl) (by kernel_rfl) (by kernel_rfl) (by kernel_rfl) (fun _ _ _ h=>h) inv ⟨by rfl,?_⟩ hS (fun inv2=>?_)
 ·intro w hSw
  obtain⟨⟨s0,s1,s3,s4⟩,c0,c1,c2,c3,c4,c5,c6⟩:=hSw;exact⟨92,_,by go_simp,nY w rd wm Mw s4 jh.out.was.ints s3 (i:Int) 0 (by simp only[aO];omega) (by simp only[aO];omega)⟩
 clear inv
 have inv:=inv2
 clear inv2
 try simp only[Act.put,aK,aL,aM]
 refine rO 14 inv fun K hK=>?_
 go_simp
 clear hS
 refine(Yn _ B g A5 (rd::nm::([Nd]++bl)) mk e5 jh.out.rd.m r3 (bI (kS ad)) P YH.out HP.out.nn).mono ?_
 rintro en w7 hr
 obtain⟨A7,e7,r7,rfl,hrf,hx,hF,hsm⟩:=jh.out.call hr
 have iJ:=hide hrf
 have wX:=hide (DU.out.same (hsm Nd (by simp)))
 have YJ:=hide (fun h=>(YI.out ((hF h).1)).ext jh.out.rd.inv hx)
 have YK:=hide (fun h=>(hF h).2)
 clear hr hrf hx hF hsm jh DU YH YI
 have hS:=HQ.out _ iJ.out.rd.bx _ iJ.out.rd.m.bx wX.out iJ.out.was.m
 go_simp
 refine hK.out _ _ (fun _=>HQ.out _ iJ.out.rd.bx _ iJ.out.rd.m.bx wX.out iJ.out.was.m) ?_
 clear hK K hS inv
 intro inv
 try simp only[Act.put,aK,aL,aM]
 have hS:=HQ.out _ iJ.out.rd.bx _ iJ.out.rd.m.bx wX.out iJ.out.was.m
 refine rO 15 inv fun K hK=>?_
 go_simp
 clear hS
 refine(nR _ B g A7 (rd::nm::([Nd]++bl)) mk e7 iJ.out.rd.m (bK Mw ((i:Int),0)) r7 (Sw ((i:Int),0)) (qh (bI (kS ad))) P (fun h=>iJ.out.was.sw h _) YK.out HP.out.n1).mono ?_
 rintro en w8 hr
 obtain⟨A8,e8,r8,rfl,hrf,hx,hF,hsm⟩:=iJ.out.call hr
 have jH:=hide hrf
 have wY:=hide (wX.out.same (hsm Nd (by simp)))
 have YL:=hide (fun h=>(YJ.out ((hF h).1)).ext iJ.out.rd.inv hx)
 have YM:=hide (fun h=>(hF h).2)
 clear hr hrf hx hF hsm iJ wX YJ YK
 have hS:=HQ.out _ jH.out.rd.bx _ jH.out.rd.m.bx wY.out jH.out.was.m
 go_simp
 refine hK.out _ _ (fun _=>HQ.out _ jH.out.rd.bx _ jH.out.rd.m.bx wY.out jH.out.was.m) ?_
 clear hK K hS inv
 intro inv
 try simp only[Act.put,aK,aL,aM]
 have hS:=HQ.out _ jH.out.rd.bx _ jH.out.rd.m.bx wY.out jH.out.was.m
 refine rT 16 inv fun K hK=>?_
 go_simp
 clear hS
 refine(ko _ B g A8 ([Nd]++bl) mk e8 rd n (.map (some wm)) nm Mn _ jH.out.rd (jL.out _ jH.out.kp.low) iy.out P (i:Int) 1 r8 (bf (Sw ((i:Int),0)) (qh (bI (kS ad)))) YM.out HP.out.s1).mono ?_
 rintro en w9 ⟨rfl,hr⟩
 obtain⟨A9,e9,YB,hrf,hx,hF,hsm⟩:=jH.out.send hr
 have oP:=hide hrf
 have J3:=hide (wY.out.same (hsm Nd (by simp)))
 have YN:=hide (fun h=>(YL.out (hF h)).ext jH.out.rd.inv hx)
 clear hr hrf hx hF hsm jH wY YL YM
 go_simp
 refine hK.out _ _ ?_
 clear hK K inv
 intro inv
 try simp only[Act.put,aK,aL,aM]
 refine rD ?_
 clear inv
 have s3:w9.cell? ⟨rd,3,none⟩=some (.map (some wm)):=oP.out.rd.bx.get 3 _ rfl
 go_wp2_with fail
 refine(nY w9 rd wm Mw oP.out.was.m oP.out.was.ints s3 (i:Int) 1 (by simp only[aO];omega) (by simp only[aO];omega)).mono ?_
 rintro en wx ⟨rfl,rfl⟩
 clear s3
 go_wp2_with fail
 refine(ko _ B g A9 ([Nd]++bl) mk e9 rd n (.map (some wm)) nm YB _ oP.out.rd (jL.out _ oP.out.kp.low) iy.out P (i:Int) 0 (bK Mw ((i:Int),1)) (Sw ((i:Int),1)) (fun h=>oP.out.was.sw h _) HP.out.s2).mono ?_
 rintro en jN ⟨rfl,hr⟩
 obtain⟨Ez,e10,uF,hrf,hx,hF,hsm⟩:=oP.out.send hr
 have vI:=hide hrf
 have zP:=hide (J3.out.same (hsm Nd (by simp)))
 have Vq:=hide (fun h=>(YN.out (hF h)).ext oP.out.rd.inv hx)
 clear hr hrf hx hF hsm oP J3 YN
 have c4:jN.cell? ⟨Nd,4,none⟩=some (.slice bA bn bc):=zP.out.get 4 _ rfl
 go_wp2_with fail
 clear c4
 go_loopw [54] (fun u wr=>∃(k:Nat) (A2:St) (e2:Nat) (kg:aB→Option Value),k≤bn∧u= .int .i64 (k:Int)∧Hid (RF w B g A bl mk e rd n wm nm Mw Sw P wr A2 e2 kg (oD n.ls i ad bs Sw Sn k) [Nd])∧Hid (Bx wr Nd #[.string nm',.int .i64 5,.int .i64 (ad:Int),.int .u8 pl,.slice bA bn bc,.slice rA rn rc,.slice tA tn tc] 81)∧Hid (e2=0→dF A2 r5 (kT i ad Sw))) (fun u _=>bn - (intOf u).toNat)
 case atStart=>exact⟨0,Ez,e10,uF,Nat.zero_le _,rfl,vI,zP,Vq⟩
 case round=>
  clear vI zP Vq
  obtain⟨k,A2,e2,kg,hk,rfl,vK,EO,N9⟩:=hrel
  by_cases hlt:k<bn
  ·obtain⟨b,hb⟩:∃b,bs[k]?=some b:=⟨_,List.getElem?_eq_getElem (by omega)⟩
   have hb2:=yt.out b (List.mem_of_getElem? hb)
   have hia:=HBS.out wr vK.out.kp.low
   obtain⟨bb,bo,rfl,_,hcl⟩:=hia.2.2 (by omega)
   have q0:=hcl k b hb
   obtain⟨bN,hbN⟩:∃bN:Nat,b=(bN:Int):=⟨b.toNat,by omega⟩
   subst hbN
   have YO:bN<16:=by omega
   have sU:=hide hb
   have m0:wr.cell? ⟨rd,0,none⟩=some (.pointer (some ⟨mk,0,none⟩)):=vK.out.rd.bx.get 0 _ rfl
   clear hb hia hcl
   go_wp2_with fail
   clear q0 m0
   refine(U1 _ B g A2 (rd::nm::([Nd]++bl)) mk e2 vK.out.rd.m r5 (kT i ad Sw) P bN YO (by rw[vK.out.ext.vars];exact HV.out) N9.out (HP.out.t k (bN:Int) sU.out)).mono ?_
   rintro en w41 hr
   obtain⟨A41,e41,r41,rfl,hrf,hx,hF,hsm⟩:=vK.out.call hr
   have qJ:=hide hrf
   have Cq:=hide (EO.out.same (hsm Nd (by simp)))
   have Vr:=hide (fun h=>(N9.out ((hF h).1)).ext vK.out.rd.inv hx)
   have Vs:=hide (fun h=>(hF h).2)
   clear hr hrf hx hF hsm vK EO N9
   go_wp2_with fail
   refine(ko _ B g A41 ([Nd]++bl) mk e41 rd n (.map (some wm)) nm kg _ qJ.out.rd (jL.out _ qJ.out.kp.low) iy.out P (i:Int) 1 r41 (sO (kT i ad Sw) bN) Vs.out (HP.out.t1 k (bN:Int) sU.out)).mono ?_
   rintro en Vt ⟨rfl,hr⟩
   obtain⟨Vu,e42,YP,hrf,hx,hF,hsm⟩:=qJ.out.send hr
   have zS:=hide hrf
   have EP:=hide (Cq.out.same (hsm Nd (by simp)))
   have Vv:=hide (fun h=>(Vr.out (hF h)).ext qJ.out.rd.inv hx)
   clear hr hrf hx hF hsm qJ Cq Vr Vs
   have r1:Vt.cell? ⟨rd,1,none⟩=some (.slice n.dA n.dn n.dc):=zS.out.rd.bx.get 1 _ rfl
   have r2:Vt.cell? ⟨rd,2,none⟩=some (.slice n.lA n.ln n.lc):=zS.out.rd.bx.get 2 _ rfl
   go_wp2_with fail
   refine(Bu Vt B rd n (Nat.le_of_lt zS.out.rd.m.sa.hB) (jL.out _ zS.out.kp.low) iy.out r1 r2 (i:Int) 1).mono ?_
   rintro en wo ⟨rfl,hb⟩
   clear r1 r2
   have Tz:=hide (zS.out.below hb)
   have Oa:=hide (EP.out.below hb)
   have Ob:=Vv
   clear hb zS EP Vv
   obtain⟨o1,ho1⟩:∃o1,(aD n.ls ((i:Int),1)).isSome =o1:=⟨_,rfl⟩
   rw[ho1]
   have HO:=hide ho1
   clear ho1
   cases o1
   ·have HST:=hide (show oD n.ls i ad bs Sw Sn (k+1)=eH n.ls ((i:Int),1) (sO (kT i ad Sw) bN) (oD n.ls i ad bs Sw Sn k)from by
     rw[EN sU.out];unfold kX;rw[if_neg (by rw[HO.out];simp)];rfl)
    go_wp2_with fail
    go_roundw
    case rel=>exact⟨k+1,Vu,e42,YP,by omega,by go_num,hide (by rw[HST.out];exact Tz.out),Oa,Ob⟩
    case measure=>simp[intOf];omega
   go_wp2_with fail
   have BF:=hide (fun(w':World) (h1:Bx w' rd #[.pointer (some ⟨mk,0,none⟩),.slice n.dA n.dn n.dc,.slice n.lA n.ln n.lc,.map (some wm),.map (some nm)] 75) (e':Nat) (h2:Bx w' mk #[.pointer (some ⟨g,0,none⟩),.int .i64 (e':Int)] 72) (hbd:Bx w' Nd #[.string nm',.int .i64 5,.int .i64 (ad:Int),.int .u8 pl,.slice (some ⟨bb,bo,none⟩) bn bc,.slice rA rn rc,.slice tA tn tc] 81) (h4:gY w' wm Mw)=>show(w'.cell? ⟨rd,0,none⟩=some (.pointer (some ⟨mk,0,none⟩))∧w'.cell? ⟨mk,0,none⟩=some (.pointer (some ⟨g,0,none⟩))∧w'.cell? ⟨rd,3,none⟩=some (.map (some wm))∧gY w' wm Mw)∧w'.cell? ⟨Nd,0,none⟩=some (.string nm')∧w'.cell? ⟨Nd,1,none⟩=some (.int .i64 5)∧w'.cell? ⟨Nd,2,none⟩=some (.int .i64 (ad:Int))∧w'.cell? ⟨Nd,3,none⟩=some (.int .u8 pl)∧w'.cell? ⟨Nd,4,none⟩=some (.slice (some ⟨bb,bo,none⟩) bn bc)∧w'.cell? ⟨Nd,5,none⟩=some (.slice rA rn rc)∧w'.cell? ⟨Nd,6,none⟩=some (.slice tA tn tc)from⟨⟨h1.get 0 _ rfl,h2.get 0 _ rfl,h1.get 3 _ rfl,h4⟩,hbd.get 0 _ rfl,hbd.get 1 _ rfl,hbd.get 2 _ rfl,hbd.get 3 _ rfl,hbd.get 4 _ rfl,hbd.get 5 _ rfl,hbd.get 6 _ rfl⟩)
   have zT:=hide (Tz.out.below (RowKit.Below.refl _ _).drew)
   have Oc:=hide (Oa.out.below (RowKit.Below.refl _ _).drew)
   have Od:=Ob
   clear Tz Oa Ob
   refine aY (fun w'=>(w'.cell? ⟨rd,0,none⟩=some (.pointer (some ⟨mk,0,none⟩))∧w'.cell? ⟨mk,0,none⟩=some (.pointer (some ⟨g,0,none⟩))∧w'.cell? ⟨rd,3,none⟩=some (.map (some wm))∧gY w' wm Mw)∧w'.cell? ⟨Nd,0,none⟩=some (.string nm')∧w'.cell? ⟨Nd,1,none⟩=some (.int .i64 5)∧w'.cell? ⟨Nd,2,none⟩=some (.int .i64 (ad:Int))∧w'.cell? ⟨Nd,3,none⟩=some (.int .u8 pl)∧w'.cell? ⟨Nd,4,none⟩=some (.slice (some ⟨bb,bo,none⟩) bn bc)∧w'.cell? ⟨Nd,5,none⟩=some (.slice rA rn rc)∧w'.cell? ⟨Nd,6,none⟩=some (.slice tA tn tc)) 19 (by kernel_rfl) (BF.out _ zT.out.rd.bx _ zT.out.rd.m.bx Oc.out zT.out.was.m) (fun hS=>?_)
   refine rP 0 hS ?_
   refine rP 1 hS ?_
   refine rP 2 hS ?_
   refine rL 3 [19] rfl hS (by intro w hSw;obtain⟨⟨s0,s1,s3,s4⟩,c0,c1,c2,c3,c4,c5,c6⟩:=hSw;go_simp;try with_reducible rfl) ?_
   refine rP 4 hS ?_
   refine rP 5 hS ?_
   refine rP 7 hS ?_
   refine rP 8 hS ?_
   refine rP 9 hS ?_
   refine rL 10 [18,19] rfl hS (by intro w hSw;obtain⟨⟨s0,s1,s3,s4⟩,c0,c1,c2,c3,c4,c5,c6⟩:=hSw;go_simp;try with_reducible rfl) ?_
   refine rP 11 hS ?_
   refine rP 12 hS ?_
   refine rP 13 hS ?_
   refine rL 14 [17,18,19] rfl hS (by intro w hSw;obtain⟨⟨s0,s1,s3,s4⟩,c0,c1,c2,c3,c4,c5,c6⟩:=hSw;go_simp;try with_reducible rfl) ?_
   refine rP 15 hS ?_
   refine rP 16 hS ?_
   intro inv
   refine ji (i:=6) (v:=.int .i64 ((bK Mw ((i:Int),1):Nat):Int)) [19] rfl (by kernel_rfl) (by kernel_rfl) (by kernel_rfl) (by kernel_rfl) (fun _ _ _ h=>h) inv ⟨by rfl,?_⟩ hS (fun inv2=>?_)
   ·intro w hSw
    obtain⟨⟨s0,s1,s3,s4⟩,c0,c1,c2,c3,c4,c5,c6⟩:=hSw;exact⟨92,_,by go_simp,nY w rd wm Mw s4 zT.out.was.ints s3 (i:Int) 1 (by simp only[aO];omega) (by simp only[aO];omega)⟩
   clear inv
   have inv:=inv2
   clear inv2
   try simp only[Act.put,aK,aL,aM]
   refine rO 17 inv fun K hK=>?_
   go_simp
   clear hS
   refine(U1 _ B g Vu (rd::nm::([Nd]++bl)) mk e42 zT.out.rd.m r5 (kT i ad Sw) P bN YO (by rw[zT.out.ext.vars];exact HV.out) Od.out (HP.out.t k (bN:Int) sU.out)).mono ?_
   rintro en w45 hr
   obtain⟨A45,e45,r45,rfl,hrf,hx,hF,hsm⟩:=zT.out.call hr
   have sV:=hide hrf
   have ER:=hide (Oc.out.same (hsm Nd (by simp)))
   have Vw:=hide (fun h=>(Od.out ((hF h).1)).ext zT.out.rd.inv hx)
   have Vx:=hide (fun h=>(hF h).2)
   clear hr hrf hx hF hsm zT Oc Od
   have hS:=BF.out _ sV.out.rd.bx _ sV.out.rd.m.bx ER.out sV.out.was.m
   go_simp
   refine hK.out _ _ (fun _=>BF.out _ sV.out.rd.bx _ sV.out.rd.m.bx ER.out sV.out.was.m) ?_
   clear hK K hS inv
   intro inv
   try simp only[Act.put,aK,aL,aM]
   have hS:=BF.out _ sV.out.rd.bx _ sV.out.rd.m.bx ER.out sV.out.was.m
   refine rO 18 inv fun K hK=>?_
   go_simp
   clear hS
   refine(Gc _ B g A45 (rd::nm::([Nd]++bl)) mk e45 sV.out.rd.m r45 (sO (kT i ad Sw) bN) P (by rw[sV.out.ext.vars];exact HV.out) Vx.out (HP.out.fl k (bN:Int) sU.out)).mono ?_
   rintro en w46 hr
   obtain⟨A46,e46,r46,rfl,hrf,hx,hF,hsm⟩:=sV.out.call hr
   have sW:=hide hrf
   have ES:=hide (ER.out.same (hsm Nd (by simp)))
   have Vy:=hide (fun h=>(Vw.out ((hF h).1)).ext sV.out.rd.inv hx)
   have Vz:=hide (fun h=>(hF h).2)
   clear hr hrf hx hF hsm sV ER Vw Vx
   have hS:=BF.out _ sW.out.rd.bx _ sW.out.rd.m.bx ES.out sW.out.was.m
   go_simp
   refine hK.out _ _ (fun _=>BF.out _ sW.out.rd.bx _ sW.out.rd.m.bx ES.out sW.out.was.m) ?_
   clear hK K hS inv
   intro inv
   try simp only[Act.put,aK,aL,aM]
   have hS:=BF.out _ sW.out.rd.bx _ sW.out.rd.m.bx ES.out sW.out.was.m
   refine rT 19 inv fun K hK=>?_
   go_simp
   clear hS
   refine(nR _ B g A46 (rd::nm::([Nd]++bl)) mk e46 sW.out.rd.m (bK Mw ((i:Int),1)) r46 (Sw ((i:Int),1)) (mH (sO (kT i ad Sw) bN)) P (fun h=>sW.out.was.sw h _) Vz.out (HP.out.x k (bN:Int) sU.out)).mono ?_
   rintro en w47 hr
   obtain⟨A47,e47,r47,rfl,hrf,hx,hF,hsm⟩:=sW.out.call hr
   have YQ:=hide hrf
   have VA:=hide (ES.out.same (hsm Nd (by simp)))
   have VB:=hide (fun h=>(Vy.out ((hF h).1)).ext sW.out.rd.inv hx)
   have VD:=hide (fun h=>(hF h).2)
   clear hr hrf hx hF hsm sW ES Vy Vz
   go_simp
   refine hK.out _ _ ?_
   clear hK K inv
   intro inv
   try simp only[Act.put,aK,aL,aM]
   refine rT 20 inv fun K hK=>?_
   go_simp
   refine hK.out _ _ ?_
   clear hK K inv
   intro inv
   try simp only[Act.put,aK,aL,aM]
   refine rD ?_
   clear inv
   go_wp2_with fail
   have BG:=hide (YQ.out.below (RowKit.Below.refl _ _).drew)
   have Oe:=hide (VA.out.below (RowKit.Below.refl _ _).drew)
   have VE:=VB
   have VF:=VD
   clear YQ VA VB VD
   refine aY (fun w'=>(w'.cell? ⟨rd,0,none⟩=some (.pointer (some ⟨mk,0,none⟩))∧w'.cell? ⟨mk,0,none⟩=some (.pointer (some ⟨g,0,none⟩))∧w'.cell? ⟨rd,3,none⟩=some (.map (some wm))∧gY w' wm Mw)∧w'.cell? ⟨Nd,0,none⟩=some (.string nm')∧w'.cell? ⟨Nd,1,none⟩=some (.int .i64 5)∧w'.cell? ⟨Nd,2,none⟩=some (.int .i64 (ad:Int))∧w'.cell? ⟨Nd,3,none⟩=some (.int .u8 pl)∧w'.cell? ⟨Nd,4,none⟩=some (.slice (some ⟨bb,bo,none⟩) bn bc)∧w'.cell? ⟨Nd,5,none⟩=some (.slice rA rn rc)∧w'.cell? ⟨Nd,6,none⟩=some (.slice tA tn tc)) 10 (by kernel_rfl) (BF.out _ BG.out.rd.bx _ BG.out.rd.m.bx Oe.out BG.out.was.m) (fun hS=>?_)
   refine rP 0 hS ?_
   refine rP 1 hS ?_
   refine rP 2 hS ?_
   refine rP 3 hS ?_
   refine rP 4 hS ?_
   refine rL 5 [9,10] rfl hS (by intro w hSw;obtain⟨⟨s0,s1,s3,s4⟩,c0,c1,c2,c3,c4,c5,c6⟩:=hSw;go_simp;try with_reducible rfl) ?_
   refine rP 6 hS ?_
   refine rP 7 hS ?_
   refine rL 8 [9,10] rfl hS (by intro w hSw;obtain⟨⟨s0,s1,s3,s4⟩,c0,c1,c2,c3,c4,c5,c6⟩:=hSw;go_simp;try with_reducible rfl) ?_
   intro inv
   refine rO 9 inv fun K hK=>?_
   go_simp
   clear hS
   refine(Xb _ B g A47 (rd::nm::([Nd]++bl)) mk e47 BG.out.rd.m r47 (zQ i ad bN Sw) P ad ha16 (by rw[BG.out.ext.vars];exact HV.out) VF.out (HP.out.f k (bN:Int) sU.out)).mono ?_
   rintro en w49 hr
   obtain⟨A49,e49,r49,rfl,hrf,hx,hF,hsm⟩:=BG.out.call hr
   have sZ:=hide hrf
   have ET:=hide (Oe.out.same (hsm Nd (by simp)))
   have VG:=hide (fun h=>(VE.out ((hF h).1)).ext BG.out.rd.inv hx)
   have VH:=hide (fun h=>(hF h).2)
   clear hr hrf hx hF hsm BG Oe VE VF
   have hS:=BF.out _ sZ.out.rd.bx _ sZ.out.rd.m.bx ET.out sZ.out.was.m
   go_simp
   refine hK.out _ _ (fun _=>BF.out _ sZ.out.rd.bx _ sZ.out.rd.m.bx ET.out sZ.out.was.m) ?_
   clear hK K hS inv
   intro inv
   try simp only[Act.put,aK,aL,aM]
   have hS:=BF.out _ sZ.out.rd.bx _ sZ.out.rd.m.bx ET.out sZ.out.was.m
   refine rT 10 inv fun K hK=>?_
   go_simp
   clear hS
   refine(ko _ B g A49 ([Nd]++bl) mk e49 rd n (.map (some wm)) nm YP _ sZ.out.rd (jL.out _ sZ.out.kp.low) iy.out P (i:Int) 0 r49 (vU (zQ i ad bN Sw) ad) VH.out (HP.out.s3 k (bN:Int) sU.out)).mono ?_
   rintro en w50 ⟨rfl,hr⟩
   obtain⟨A50,e50,acO,hrf,hx,hF,hsm⟩:=sZ.out.send hr
   have acP:=hide hrf
   have aar:=hide (ET.out.same (hsm Nd (by simp)))
   have aas:=hide (fun h=>(VG.out (hF h)).ext sZ.out.rd.inv hx)
   clear hr hrf hx hF hsm sZ ET VG VH
   go_simp
   refine hK.out _ _ ?_
   clear hK K inv
   intro inv
   try simp only[Act.put,aK,aL,aM]
   refine rD ?_
   clear inv
   have HST:=hide (show oD n.ls i ad bs Sw Sn (k+1)=eH n.ls ((i:Int),0) (vU (zQ i ad bN Sw) ad) (eH n.ls ((i:Int),1) (sO (kT i ad Sw) bN) (oD n.ls i ad bs Sw Sn k))from by
    rw[EN sU.out];unfold kX;rw[if_pos (by rw[HO.out])];rfl)
   go_wp2_with fail
   go_roundw
   case rel=>exact⟨k+1,A50,e50,acO,by omega,by go_num,hide (by rw[HST.out];exact acP.out),aar,aas⟩
   case measure=>simp[intOf];omega
  ·obtain rfl:k=bn:=by omega
   have u7:=hide (show qy w B g A bl mk e rd n (.map (some wm)) nm P (zR n.ls i ad bs Sw Sn) wr from by
    unfold zR;rw[hbl];exact vK.out.out)
   go_wp2
   go_end0
   exact⟨rfl,u7.out⟩
end Go.Proofs.YtifkacnoiocebaaGreat
