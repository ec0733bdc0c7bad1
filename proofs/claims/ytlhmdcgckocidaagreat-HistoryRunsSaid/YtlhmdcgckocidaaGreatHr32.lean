/- A part of the proof: Rd6, Rd7. -/
import Derived.Test.YtlhmdcgckocidaaGreatHr30
import Derived.Test.YtlhmdcgckocidaaGreatHr31
set_option linter.unusedVariables false
set_option linter.unusedSimpArgs false
set_option maxRecDepth 100000
set_option maxHeartbeats 8000000
namespace Go.Proofs.YtlhmdcgckocidaaGreat
open ak Go.Maps Go.RowKit
def SS (ts:List aW) (port:Int):ak.Fn:=outs (dQ 65535 (gM (kX ts port) 16) 255 255)
def yw (ls:List av) (i:Nat) (ts:List aW) (F:ak.Fn) (S:Pl→ak.Fn):Nat→Pl→ak.Fn
 |0=>S
 |o+1=>fO ls ((i:Int),(o:Int)) (bL F (SS ts (o:Int))) (yw ls i ts F S o)
def yH (ls:List av) (i:Nat) (ts:List aW) (rs:List aY) (Sw S:Pl→ak.Fn):Nat→Pl→ak.Fn
 |0=>S
 |k+1=>yw ls i ts (bL (Sw ((i:Int),(k:Int))) (dU rs)) (yH ls i ts rs Sw S k) 4
def Gu (ls:List av) (i:Nat) (ts:List aW) (rs:List aY) (Sw Sn:Pl→ak.Fn):Pl→ak.Fn:=yH ls i ts rs Sw Sn 4
structure KT (P:ak.Fn→Prop) (ls:List av) (i:Nat) (ts:List aW) (rs:List aY) (Sw Sn:Pl→ak.Fn):Prop where
 acl:Jc P rs
 f:∀(k:Nat),k<4→PC P (bL (Sw ((i:Int),(k:Int))) (dU rs))
 p:∀(o:Nat),o<4→∀G,lX (dQ 65535 (gM (kX ts (o:Int)) 16) 255 255) G→P G
 a:∀(k o:Nat),k<4→o<4→PC P (bL (bL (Sw ((i:Int),(k:Int))) (dU rs)) (SS ts (o:Int)))
 s:∀(k o:Nat),k<4→o<4→mU P ls ((i:Int),(o:Int)) (bL (bL (Sw ((i:Int),(k:Int))) (dU rs)) (SS ts (o:Int))) (yw ls i ts (bL (Sw ((i:Int),(k:Int))) (dU rs)) (yH ls i ts rs Sw Sn k) o)
theorem SV (ls:List av) (x:Pl) (G:ak.Fn) (S:Pl→ak.Fn):fO ls x (bL (fun _=>false) G) S=S:=by
 unfold fO
 split
 ·funext z a
  split
  ·rename_i h
   subst h
   simp[pU,bL,bH]
  ·rfl
 ·rfl
theorem RF.any {w0 wr:World} {B g mk e0 e rd wm nm:Nat} {A0 A:St} {bl more:List Nat} {n:aH} {Mw Mn:dB→Option Value} {Sw Sn:Pl→ak.Fn} {P:ak.Fn→Prop} (h:RF w0 B g A0 bl mk e0 rd n wm nm Mw Sw P wr A e Mn Sn more) (he:e≠0) (EW:Pl→ak.Fn):RF w0 B g A0 bl mk e0 rd n wm nm Mw Sw P wr A e Mn EW more:=
 ⟨⟨h.rd.m,h.rd.bx,h.rd.mn,h.rd.ints,h.rd.keys,fun h0=>absurd h0 he,h.rd.ne⟩,h.was,h.ext,h.nw,h.kp,h.e0⟩
theorem MW (w:World) (B g:Nat) (A:St) (bl:List Nat) (mk e rd:Nat) (n:aH) (wm nm:Nat) (Mw Mn:dB→Option Value) (Sw Sn:Pl→ak.Fn) (h:RD w B g A bl mk e rd n (.map (some wm)) nm Mn Sn) (hw:ou w A e bl wm Mw Sw) (hv:A.vars=14) (hl:bB av.cells 4 w B n.lA n.ln n.ls) (hlk:mV n.ls)
  (P:ak.Fn→Prop) (i:Nat) (hi:i≤1000) (r:aA) (hr:fV w B r) (hrn:r.rn≤8) (htc:gT r.ts=0) (hP:KT P n.ls i r.ts r.rs Sw Sn):
  Calls Tryz.prog 102 #[.pointer (some ⟨rd,0,none⟩),.int .i64 (i:Int),r.val] w fun en w'=>en= .returned (.tuple #[])∧qo w B g A bl mk e rd n (.map (some wm)) nm P (Gu n.ls i r.ts r.rs Sw Sn) w':=by
 have hct:=hr.ct
 have hrr:=hr.rs
 have hts:=hr.ts
 have htk:=hr.tok
 obtain⟨nm',kd,ad,pl,bA,bn,bc,bs,rA,rn,rc,rs,tA,tn,tc,ts⟩:=r
 simp only at hct hrr hts htk hrn htc hP
 have htn:tn≤9223372036854775807:=by unfold maxLen at hct;omega
 have je:=hide ((RF.start h hw P).alloc (.cells #[.string nm',.int .i64 kd,.int .i64 ad,.int .u8 pl,.slice bA bn bc,.slice rA rn rc,.slice tA tn tc] 86))
 have BL:=hide (Bx.new w #[.string nm',.int .i64 kd,.int .i64 ad,.int .u8 pl,.slice bA bn bc,.slice rA rn rc,.slice tA tn tc] 86)
 have nM:=hide (fun(w':World) (hb:RowKit.Below B w w')=>hl.below hb (Nat.le_refl _))
 have HRL:=hide (fun(w':World) (hb:RowKit.Below B w w')=>hrr.below hb (Nat.le_refl _))
 have HTS:=hide (fun(w':World) (hb:RowKit.Below B w w') (hB:B≤w'.heap.size)=>hts.below hb hB)
 have HTK:=hide (And.intro htk htc)
 have dV:=hide hlk
 have HP:=hide hP
 have HV:=hide hv
 clear h hw hl hlk hP hv hrr hts htk htc hr
 simp only[aA.val]at*
 go_enter Tryz.func102,Tryz.ntmps102
 go_wp2_with fail
 generalize World.alloc w _=w0 at*
 generalize w.heap.size=Nd at*
 have HQ:=hide (fun(w':World) (h1:Bx w' rd #[.pointer (some ⟨mk,0,none⟩),.slice n.dA n.dn n.dc,.slice n.lA n.ln n.lc,.map (some wm),.map (some nm)] 122) (e':Nat) (h2:Bx w' mk #[.pointer (some ⟨g,0,none⟩),.int .i64 (e':Int)] 119) (hbd:Bx w' Nd #[.string nm',.int .i64 kd,.int .i64 ad,.int .u8 pl,.slice bA bn bc,.slice rA rn rc,.slice tA tn tc] 86) (h4:gZ w' wm Mw)=>show(w'.cell? ⟨rd,0,none⟩=some (.pointer (some ⟨mk,0,none⟩))∧w'.cell? ⟨mk,0,none⟩=some (.pointer (some ⟨g,0,none⟩))∧w'.cell? ⟨rd,3,none⟩=some (.map (some wm))∧gZ w' wm Mw)∧w'.cell? ⟨Nd,0,none⟩=some (.string nm')∧w'.cell? ⟨Nd,1,none⟩=some (.int .i64 kd)∧w'.cell? ⟨Nd,2,none⟩=some (.int .i64 ad)∧w'.cell? ⟨Nd,3,none⟩=some (.int .u8 pl)∧w'.cell? ⟨Nd,4,none⟩=some (.slice bA bn bc)∧w'.cell? ⟨Nd,5,none⟩=some (.slice rA rn rc)∧w'.cell? ⟨Nd,6,none⟩=some (.slice tA tn tc)from⟨⟨h1.get 0 _ rfl,h2.get 0 _ rfl,h1.get 3 _ rfl,h4⟩,hbd.get 0 _ rfl,hbd.get 1 _ rfl,hbd.get 2 _ rfl,hbd.get 3 _ rfl,hbd.get 4 _ rfl,hbd.get 5 _ rfl,hbd.get 6 _ rfl⟩)
 have HR1:=hide (je.out.below (RowKit.Below.refl _ _).drew)
 have vK:=hide (BL.out.below (RowKit.Below.refl _ _).drew)
 clear je BL
 refine aI (fun w'=>(w'.cell? ⟨rd,0,none⟩=some (.pointer (some ⟨mk,0,none⟩))∧w'.cell? ⟨mk,0,none⟩=some (.pointer (some ⟨g,0,none⟩))∧w'.cell? ⟨rd,3,none⟩=some (.map (some wm))∧gZ w' wm Mw)∧w'.cell? ⟨Nd,0,none⟩=some (.string nm')∧w'.cell? ⟨Nd,1,none⟩=some (.int .i64 kd)∧w'.cell? ⟨Nd,2,none⟩=some (.int .i64 ad)∧w'.cell? ⟨Nd,3,none⟩=some (.int .u8 pl)∧w'.cell? ⟨Nd,4,none⟩=some (.slice bA bn bc)∧w'.cell? ⟨Nd,5,none⟩=some (.slice rA rn rc)∧w'.cell? ⟨Nd,6,none⟩=some (.slice tA tn tc)) 16 (by kernel_rfl) (HQ.out _ HR1.out.rd.bx _ HR1.out.rd.m.bx vK.out HR1.out.was.m) (fun hS=>?_)
 refine rP 0 hS ?_
 refine rP 1 hS ?_
 refine rP 2 hS ?_
 refine rL 3 [16] rfl hS (by intro w hSw;obtain⟨⟨s0,s1,s3,s4⟩,c0,c1,c2,c3,c4,c5,c6⟩:=hSw;go_simp;try with_reducible rfl) ?_
 refine rP 4 hS ?_
 refine rP 5 hS ?_
 refine rP 6 hS ?_
 refine rL 7 [8,9,10,13,14,16] rfl hS (by intro w hSw;obtain⟨⟨s0,s1,s3,s4⟩,c0,c1,c2,c3,c4,c5,c6⟩:=hSw;go_simp;try with_reducible rfl) ?_
 refine rP 8 hS ?_
 refine rP 9 hS ?_
 refine rL 10 [13,14,16] rfl hS (by intro w hSw;obtain⟨⟨s0,s1,s3,s4⟩,c0,c1,c2,c3,c4,c5,c6⟩:=hSw;go_simp;try with_reducible rfl) ?_
 refine rP 11 hS ?_
 refine rL 12 [13,14,16] rfl hS (by intro w hSw;obtain⟨⟨s0,s1,s3,s4⟩,c0,c1,c2,c3,c4,c5,c6⟩:=hSw;go_simp;try with_reducible rfl) ?_
 intro inv
 refine rO 13 inv fun K hK=>?_
 go_simp
 refine(SG (P:=P) HR1.out.rd.m.sa (by rw[HR1.out.ext.vars,HV.out];exact Nat.le_refl _) rs rA rn rc hrn (HRL.out _ HR1.out.kp.low) HP.out.acl.1 HP.out.acl.2).mono ?_
 rintro en w1x hq
 obtain⟨Aq,rq,eq,rfl,BH,BI,hk1⟩:=Gp HR1.out.rd.m hq
 have Gq:=hide BH
 have hS1:=HQ.out _ (HR1.out.rd.bx.kp hk1 (by simp)) _ BI.bx (vK.out.kp hk1 (by simp)) (HR1.out.was.m.same (hk1.same wm (by simp[HR1.out.was.mem])))
 clear hq BH BI hk1 hS
 have hS:=hS1
 go_simp
 refine hK.out _ _ (fun _=>hS1) ?_
 clear hK K hS inv
 intro inv
 try simp only[Act.put,aD,aF,aG]
 have hS:=hS1
 clear hS1
 revert inv
 refine rP 14 hS ?_
 refine rP 15 hS ?_
 intro inv
 refine rT 16 inv fun K hK=>?_
 go_simp
 clear hS
 refine Gq.out.mono ?_
 rintro en w2 hr
 obtain⟨A2,e2,r2,rfl,hrf,hx,hF,hsm⟩:=HR1.out.call hr
 have HR2:=hide hrf
 have xq:=hide (vK.out.same (hsm Nd (by simp)))
 have abg:=hide (fun h=>(hF h).2)
 clear hr hrf hx hF hsm HR1 vK
 go_simp
 refine hK.out _ _ ?_
 clear hK K inv
 intro inv
 try simp only[Act.put,aD,aF,aG]
 refine rT 17 inv fun K hK=>?_
 go_simp
 refine hK.out _ _ ?_
 clear hK K inv
 intro inv
 try simp only[Act.put,aD,aF,aG]
 refine rD ?_
 clear inv
 go_wp2_with fail
 go_loopw [27] (fun u wr=>∃(k:Nat) (A2:St) (e2:Nat) (jX:dB→Option Value),k≤4∧u= .int .i64 (k:Int)∧Hid (RF w B g A bl mk e rd n wm nm Mw Sw P wr A2 e2 jX (yH n.ls i ts rs Sw Sn k) [Nd])∧Hid (Bx wr Nd #[.string nm',.int .i64 kd,.int .i64 ad,.int .u8 pl,.slice bA bn bc,.slice rA rn rc,.slice tA tn tc] 86)∧Hid (e2=0→dM A2 r2 (dU rs))) (fun u _=>4 - (intOf u).toNat)
 case atStart=>exact⟨0,A2,e2,Mn,Nat.zero_le _,rfl,HR2,xq,abg⟩
 case round=>
  clear HR2 xq abg
  obtain⟨k,A2,e2,jX,hk,rfl,vL,Fu,XY⟩:=hrel
  by_cases hlt:k<4
  ·skip
   go_wp2_with fail
   have qO:=hide (vL.out.below (RowKit.Below.refl _ _).drew)
   have CB:=hide (Fu.out.below (RowKit.Below.refl _ _).drew)
   have Qe:=XY
   clear vL Fu XY
   refine aI (fun w'=>(w'.cell? ⟨rd,0,none⟩=some (.pointer (some ⟨mk,0,none⟩))∧w'.cell? ⟨mk,0,none⟩=some (.pointer (some ⟨g,0,none⟩))∧w'.cell? ⟨rd,3,none⟩=some (.map (some wm))∧gZ w' wm Mw)∧w'.cell? ⟨Nd,0,none⟩=some (.string nm')∧w'.cell? ⟨Nd,1,none⟩=some (.int .i64 kd)∧w'.cell? ⟨Nd,2,none⟩=some (.int .i64 ad)∧w'.cell? ⟨Nd,3,none⟩=some (.int .u8 pl)∧w'.cell? ⟨Nd,4,none⟩=some (.slice bA bn bc)∧w'.cell? ⟨Nd,5,none⟩=some (.slice rA rn rc)∧w'.cell? ⟨Nd,6,none⟩=some (.slice tA tn tc)) 9 (by kernel_rfl) (HQ.out _ qO.out.rd.bx _ qO.out.rd.m.bx CB.out qO.out.was.m) (fun hS=>?_)
   refine rP 0 hS ?_
   refine rP 1 hS ?_
   refine rP 2 hS ?_
   refine rL 3 [9] rfl hS (by intro w hSw;obtain⟨⟨s0,s1,s3,s4⟩,c0,c1,c2,c3,c4,c5,c6⟩:=hSw;go_simp;try with_reducible rfl) ?_
   refine rP 4 hS ?_
   refine rP 5 hS ?_
   refine rP 6 hS ?_
   refine rP 8 hS ?_
   intro inv
   refine iX (i:=7) (v:=.int .i64 ((bQ Mw ((i:Int),(k:Int)):Nat):Int)) [9] rfl (by kernel_rfl) (by kernel_rfl) (by kernel_rfl) (by kernel_rfl) (fun _ _ _ h=>h) inv ⟨by rfl,?_⟩ hS (fun inv2=>?_)
   ·intro w hSw
    obtain⟨⟨s0,s1,s3,s4⟩,c0,c1,c2,c3,c4,c5,c6⟩:=hSw;exact⟨146,_,by go_simp,nU w rd wm Mw s4 qO.out.was.ints s3 (i:Int) (k:Int) (by simp only[ay];omega) (by simp only[ay];omega)⟩
   clear inv
   have inv:=inv2
   clear inv2
   try simp only[Act.put,aD,aF,aG]
   refine rT 9 inv fun K hK=>?_
   go_simp
   clear hS
   refine(nO _ B g A2 (rd::nm::([Nd]++bl)) mk e2 qO.out.rd.m (bQ Mw ((i:Int),(k:Int))) r2 (Sw ((i:Int),(k:Int))) (dU rs) P (fun h=>qO.out.was.sw h _) Qe.out (HP.out.f k hlt)).mono ?_
   rintro en XH hr
   obtain⟨XI,e42,SX,rfl,hrf,hx,hF,hsm⟩:=qO.out.call hr
   have Ad:=hide hrf
   have Fv:=hide (CB.out.same (hsm Nd (by simp)))
   have XZ:=hide (fun h=>(Qe.out ((hF h).1)).ext qO.out.rd.inv hx)
   have X0:=hide (fun h=>(hF h).2)
   clear hr hrf hx hF hsm qO CB Qe
   go_simp
   refine hK.out _ _ ?_
   clear hK K inv
   intro inv
   try simp only[Act.put,aD,aF,aG]
   refine rT 10 inv fun K hK=>?_
   go_simp
   refine hK.out _ _ ?_
   clear hK K inv
   intro inv
   try simp only[Act.put,aD,aF,aG]
   refine rD ?_
   clear inv
   go_wp2_with fail
   go_loopw [40] (fun u wr=>∃(o:Nat) (A3:St) (e3:Nat) (sP:dB→Option Value),o≤4∧u= .int .i64 (o:Int)∧Hid (RF w B g A bl mk e rd n wm nm Mw Sw P wr A3 e3 sP (yw n.ls i ts (bL (Sw ((i:Int),(k:Int))) (dU rs)) (yH n.ls i ts rs Sw Sn k) o) [Nd])∧Hid (Bx wr Nd #[.string nm',.int .i64 kd,.int .i64 ad,.int .u8 pl,.slice bA bn bc,.slice rA rn rc,.slice tA tn tc] 86)∧Hid (e3=0→dM A3 r2 (dU rs))∧Hid (e3=0→dM A3 SX (bL (Sw ((i:Int),(k:Int))) (dU rs)))) (fun u _=>4 - (intOf u).toNat)
   case atStart=>exact⟨0,XI,e42,jX,Nat.zero_le _,rfl,Ad,Fv,XZ,X0⟩
   case round=>
    clear Ad Fv XZ X0
    obtain⟨o,A3,e3,sP,ho,rfl,DT,Fz,FC,FD⟩:=hrel
    have m0:wr.cell? ⟨rd,0,none⟩=some (.pointer (some ⟨mk,0,none⟩)):=DT.out.rd.bx.get 0 _ rfl
    have m1:wr.cell? ⟨mk,1,none⟩=some (.int .i64 (e3:Int)):=DT.out.rd.m.bx.get 1 _ rfl
    by_cases VJ:o<4
    ·by_cases uU:e3=0
     ·by_cases hf0:SX=0
      ·have HN:=hide (show yw n.ls i ts (bL (Sw ((i:Int),(k:Int))) (dU rs)) (yH n.ls i ts rs Sw Sn k) (o+1)=yw n.ls i ts (bL (Sw ((i:Int),(k:Int))) (dU rs)) (yH n.ls i ts rs Sw Sn k) o from by
        have hq:=(FD.out uU).2
        rw[hf0,iQ]at hq
        show fO _ _ (bL (bL (Sw ((i:Int),(k:Int))) (dU rs)) _) _=_
        rw[← hq,SV]
        )
       have m2:wr.cell? ⟨mk,1,none⟩=some (.int .i64 0):=by rw[m1,uU];rfl
       clear m1 uU
       have hf1:((SX:Int) != 0)=false:=by simp;omega
       clear hf0
       go_wp2_with fail
       go_roundw
       case rel=>exact⟨o+1,A3,e3,sP,by omega,by go_num,hide (by rw[HN.out];exact DT.out),Fz,FC,FD⟩
       case measure=>simp[intOf];omega
      ·have m2:wr.cell? ⟨mk,1,none⟩=some (.int .i64 0):=by rw[m1,uU];rfl
       clear m1 uU
       have hf1:((SX:Int) != 0)=true:=by simp;omega
       clear hf0
       go_wp2_with fail
       clear m0 m2 hf1
       have qP:=hide (DT.out.below (RowKit.Below.refl _ _).drew)
       have Jd:=hide (Fz.out.below (RowKit.Below.refl _ _).drew)
       have X3:=FC
       have X4:=FD
       clear DT Fz FC FD
       refine aI (fun w'=>(w'.cell? ⟨rd,0,none⟩=some (.pointer (some ⟨mk,0,none⟩))∧w'.cell? ⟨mk,0,none⟩=some (.pointer (some ⟨g,0,none⟩))∧w'.cell? ⟨rd,3,none⟩=some (.map (some wm))∧gZ w' wm Mw)∧w'.cell? ⟨Nd,0,none⟩=some (.string nm')∧w'.cell? ⟨Nd,1,none⟩=some (.int .i64 kd)∧w'.cell? ⟨Nd,2,none⟩=some (.int .i64 ad)∧w'.cell? ⟨Nd,3,none⟩=some (.int .u8 pl)∧w'.cell? ⟨Nd,4,none⟩=some (.slice bA bn bc)∧w'.cell? ⟨Nd,5,none⟩=some (.slice rA rn rc)∧w'.cell? ⟨Nd,6,none⟩=some (.slice tA tn tc)) 27 (by kernel_rfl) (HQ.out _ qP.out.rd.bx _ qP.out.rd.m.bx Jd.out qP.out.was.m) (fun hS=>?_)
       refine rP 0 hS ?_
       refine rP 1 hS ?_
       refine rP 2 hS ?_
       refine rP 3 hS ?_
       refine rP 4 hS ?_
       refine rP 5 hS ?_
       refine rL 6 [26,27] rfl hS (by intro w hSw;obtain⟨⟨s0,s1,s3,s4⟩,c0,c1,c2,c3,c4,c5,c6⟩:=hSw;go_simp;try with_reducible rfl) ?_
       refine rP 7 hS ?_
       refine rP 8 hS ?_
       refine rP 9 hS ?_
       refine rP 10 hS ?_
       refine rL 11 [25,26,27] rfl hS (by intro w hSw;obtain⟨⟨s0,s1,s3,s4⟩,c0,c1,c2,c3,c4,c5,c6⟩:=hSw;go_simp;try with_reducible rfl) ?_
       refine rP 12 hS ?_
       refine rP 13 hS ?_
       refine rP 14 hS ?_
       refine rL 15 [16,17,18,22,23,25,26,27] rfl hS (by intro w hSw;obtain⟨⟨s0,s1,s3,s4⟩,c0,c1,c2,c3,c4,c5,c6⟩:=hSw;go_simp;try with_reducible rfl) ?_
       refine rP 16 hS ?_
       refine rP 17 hS ?_
       refine rL 18 [22,23,25,26,27] rfl hS (by intro w hSw;obtain⟨⟨s0,s1,s3,s4⟩,c0,c1,c2,c3,c4,c5,c6⟩:=hSw;go_simp;try with_reducible rfl) ?_
       refine rP 19 hS ?_
       refine rL 20 [22,23,25,26,27] rfl hS (by intro w hSw;obtain⟨⟨s0,s1,s3,s4⟩,c0,c1,c2,c3,c4,c5,c6⟩:=hSw;go_simp;try with_reducible rfl) ?_
       refine rP 21 hS ?_
       intro inv
       refine rO 22 inv fun K hK=>?_
       go_simp
       refine(aaD (P:=P) qP.out.rd.m.sa (by rw[qP.out.ext.vars,HV.out];exact Nat.le_refl _) ts tA tn tc (o:Int) htn hct.1 (HTS.out _ qP.out.kp.low (Nat.le_of_lt qP.out.rd.m.sa.hB)) HTK.out.1 HTK.out.2 (HP.out.p o VJ)).mono ?_
       rintro en ah0 hq
       obtain⟨Aq,rq,eq,rfl,BH,BI,hk1⟩:=Gp qP.out.rd.m hq
       have Gq:=hide BH
       have hS1:=HQ.out _ (qP.out.rd.bx.kp hk1 (by simp)) _ BI.bx (Jd.out.kp hk1 (by simp)) (qP.out.was.m.same (hk1.same wm (by simp[qP.out.was.mem])))
       clear hq BH BI hk1 hS
       have hS:=hS1
       go_simp
       refine hK.out _ _ (fun _=>hS1) ?_
       clear hK K hS inv
       intro inv
       try simp only[Act.put,aD,aF,aG]
       have hS:=hS1
       clear hS1
       revert inv
       refine rP 23 hS ?_
       refine rP 24 hS ?_
       intro inv
       refine rO 25 inv fun K hK=>?_
       go_simp
       clear hS
       refine Gq.out.mono ?_
       rintro en w62 hr
       obtain⟨A62,e62,r62,rfl,hrf,hx,hF,hsm⟩:=qP.out.call hr
       have sQ:=hide hrf
       have FE:=hide (Jd.out.same (hsm Nd (by simp)))
       have X5:=hide (fun h=>(X3.out ((hF h).1)).ext qP.out.rd.inv hx)
       have Qf:=hide (fun h=>(X4.out ((hF h).1)).ext qP.out.rd.inv hx)
       have X6:=hide (fun h=>(hF h).2)
       clear hr hrf hx hF hsm qP Jd X3 X4
       have hS:=HQ.out _ sQ.out.rd.bx _ sQ.out.rd.m.bx FE.out sQ.out.was.m
       go_simp
       refine hK.out _ _ (fun _=>HQ.out _ sQ.out.rd.bx _ sQ.out.rd.m.bx FE.out sQ.out.was.m) ?_
       clear hK K hS inv
       intro inv
       try simp only[Act.put,aD,aF,aG]
       have hS:=HQ.out _ sQ.out.rd.bx _ sQ.out.rd.m.bx FE.out sQ.out.was.m
       refine rO 26 inv fun K hK=>?_
       go_simp
       clear hS
       refine(nO _ B g A62 (rd::nm::([Nd]++bl)) mk e62 sQ.out.rd.m SX r62 (bL (Sw ((i:Int),(k:Int))) (dU rs)) (SS ts (o:Int)) P Qf.out X6.out (HP.out.a k o hlt VJ)).mono ?_
       rintro en w63 hr
       obtain⟨A63,e63,r63,rfl,hrf,hx,hF,hsm⟩:=sQ.out.call hr
       have qQ:=hide hrf
       have FH:=hide (FE.out.same (hsm Nd (by simp)))
       have X7:=hide (fun h=>(X5.out ((hF h).1)).ext sQ.out.rd.inv hx)
       have X8:=hide (fun h=>(Qf.out ((hF h).1)).ext sQ.out.rd.inv hx)
       have X9:=hide (fun h=>(hF h).2)
       clear hr hrf hx hF hsm sQ FE X5 Qf X6
       have hS:=HQ.out _ qQ.out.rd.bx _ qQ.out.rd.m.bx FH.out qQ.out.was.m
       go_simp
       refine hK.out _ _ (fun _=>HQ.out _ qQ.out.rd.bx _ qQ.out.rd.m.bx FH.out qQ.out.was.m) ?_
       clear hK K hS inv
       intro inv
       try simp only[Act.put,aD,aF,aG]
       have hS:=HQ.out _ qQ.out.rd.bx _ qQ.out.rd.m.bx FH.out qQ.out.was.m
       refine rT 27 inv fun K hK=>?_
       go_simp
       clear hS
       refine(jY _ B g A63 ([Nd]++bl) mk e63 rd n (.map (some wm)) nm sP _ qQ.out.rd (nM.out _ qQ.out.kp.low) dV.out P (i:Int) (o:Int) r63 (bL (bL (Sw ((i:Int),(k:Int))) (dU rs)) (SS ts (o:Int))) X9.out (HP.out.s k o hlt VJ)).mono ?_
       rintro en w64 ⟨rfl,hr⟩
       obtain⟨A64,e64,afa,hrf,hx,hF,hsm⟩:=qQ.out.send hr
       have afb:=hide hrf
       have acA:=hide (FH.out.same (hsm Nd (by simp)))
       have acB:=hide (fun h=>(X7.out (hF h)).ext qQ.out.rd.inv hx)
       have acC:=hide (fun h=>(X8.out (hF h)).ext qQ.out.rd.inv hx)
       clear hr hrf hx hF hsm qQ FH X7 X8 X9
       go_simp
       refine hK.out _ _ ?_
       clear hK K inv
       intro inv
       try simp only[Act.put,aD,aF,aG]
       refine rD ?_
       clear inv
       go_wp2_with fail
       go_roundw
       case rel=>exact⟨o+1,A64,e64,afa,by omega,by go_num,afb,acA,acB,acC⟩
       case measure=>simp[intOf];omega
     ·have he4:((e3:Int)==0)=false:=by simp;omega
      have HN:=hide (DT.out.any uU (yw n.ls i ts (bL (Sw ((i:Int),(k:Int))) (dU rs)) (yH n.ls i ts rs Sw Sn k) (o+1)))
      clear uU
      go_wp2_with fail
      go_roundw
      case rel=>exact⟨o+1,A3,e3,sP,by omega,by go_num,HN,Fz,FC,FD⟩
      case measure=>simp[intOf];omega
    ·have Rj:o=4:=by omega
     have HN:=hide (show RF w B g A bl mk e rd n wm nm Mw Sw P wr A3 e3 sP (yH n.ls i ts rs Sw Sn (k+1)) [Nd]from by have:=DT.out;rw[Rj]at this;exact this)
     clear Rj
     go_wp2_with fail
     go_roundw
     case rel=>exact⟨k+1,A3,e3,sP,by omega,by go_num,HN,Fz,FC⟩
     case measure=>simp[intOf];omega
  ·have hk4:k=4:=by omega
   have pW:=hide (show qo w B g A bl mk e rd n (.map (some wm)) nm P (Gu n.ls i ts rs Sw Sn) wr from by
    have:=vL.out.out;rw[hk4]at this;exact this)
   clear hk4
   go_wp2
   go_end0
   exact⟨rfl,pW.out⟩
def Qg (ls:List av) (i:Nat) (d:Dev) (Sw Sn:Pl→ak.Fn):Pl→ak.Fn:=
 if d.kind=2 then Gu ls i d.routes d.rules Sw Sn
 else if d.kind=3 then sG ls i d.rules Sw Sn
 else if d.kind=4 then BK ls i d.addr.toNat d.pool Sw Sn
 else if d.kind=5 then Gt ls i d.addr.toNat d.backs Sw Sn
 else Sn
def gF (ds:List Dev) (ls:List av) (Sw Sn:Pl→ak.Fn):Nat→Pl→ak.Fn
 |0=>Sn
 |k+1=>match ds[k]? with
  |some d=>Qg ls k d Sw (gF ds ls Sw Sn k)
  |none=>gF ds ls Sw Sn k
theorem qp {ds:List Dev} {ls:List av} {Sw Sn:Pl→ak.Fn} {k:Nat} {d:Dev} (h:ds[k]?=some d):gF ds ls Sw Sn (k+1)=Qg ls k d Sw (gF ds ls Sw Sn k):=by
 simp only[gF,h]
structure acD (P:ak.Fn→Prop) (ls:List av) (i:Nat) (d:Dev) (Sw Sn:Pl→ak.Fn):Prop where
 r:d.kind=2→KT P ls i d.routes d.rules Sw Sn
 f:d.kind=3→KJ P ls i d.rules Sw Sn
 n:d.kind=4→Xh P ls i d.addr.toNat d.pool Sw Sn
 b:d.kind=5→XD P ls i d.addr.toNat d.backs Sw Sn
def BU (P:ak.Fn→Prop) (ds:List Dev) (ls:List av) (Sw Sn:Pl→ak.Fn):Prop:=∀k d,ds[k]?=some d→acD P ls k d Sw (gF ds ls Sw Sn k)
theorem FI (a:Int):∀(l pre:List Int),jl a pre l=true→∀b∈l,0≤b∧b<16
 |[],_,_,b,hb=>by cases hb
 |c::t,pre,h,b,hb=>by
  simp only[jl,Bool.and_eq_true,decide_eq_true_eq]at h
  rcases List.mem_cons.1 hb with rfl | hb
  ·exact⟨h.1.1.1.1,h.1.1.1.2⟩
  ·exact FI a t _ h.2 b hb
theorem pz.KU {d:Dev} (h:pz d) (hk:d.kind=1∨d.kind=4∨d.kind=5):0≤d.addr∧d.addr<16:=by
 have h1:=h.ar
 have h2:jB d.kind=true:=by
  unfold jB
  rcases hk with e | e | e<;>rw[e]<;>rfl
 rw[h2]at h1
 simp only[Bool.true_and,Bool.not_not,Bool.not_true,Bool.false_and,Bool.not_false,Bool.and_true,Bool.and_eq_true,decide_eq_true_eq]at h1
 exact h1.1
theorem pz.Zc {d:Dev} (h:pz d):∀b∈d.backs,0≤b∧b<16:=by
 have h1:=h.bb
 unfold gu at h1
 rw[Bool.and_eq_true]at h1
 exact FI _ _ _ h1.1
theorem Qh (w:World) (B g:Nat) (A:St) (bl:List Nat) (mk e rd:Nat) (n:aH) (wm nm:Nat) (Mw Mn:dB→Option Value) (Sw Sn:Pl→ak.Fn) (h:RD w B g A bl mk e rd n (.map (some wm)) nm Mn Sn) (hw:ou w A e bl wm Mw Sw) (hv:A.vars=14) (hn:bf w B n) (hok:∀d∈n.au,pz d) (hdl:n.dn≤10) (hlk:mV n.ls)
  (P:ak.Fn→Prop) (hP:BU P n.au n.ls Sw Sn):
  Calls Tryz.prog 58 #[.pointer (some ⟨rd,0,none⟩)] w fun en w'=>en= .returned (.tuple #[])∧qo w B g A bl mk e rd n (.map (some wm)) nm P (gF n.au n.ls Sw Sn n.dn) w':=by
 have je:=hide (RF.start h hw P)
 have HN:=hide (fun(w':World) (hb:RowKit.Below B w w')=>show bf w' B n from hn.below hb (Nat.le_refl _))
 have HDK:=hide (fun(d:aA) (hd:d∈n.ds)=>hok d.dev (List.mem_map_of_mem hd))
 have dV:=hide hlk
 have HP:=hide hP
 have HV:=hide hv
 have HD:=hide hn
 have afc:=hn.eZ
 have r1:w.cell? ⟨rd,1,none⟩=some (.slice n.dA n.dn n.dc):=h.bx.get 1 _ rfl
 clear h hw hn hok hlk hP hv
 obtain⟨dA,dn,dc,ds,lA,ln,lc,ls⟩:=n
 simp only[aH.au]at*
 go_enter Tryz.func58,Tryz.ntmps58
 go_wp2_with fail
 clear r1
 go_loopw [10] (fun i wr=>∃(k:Nat) (A2:St) (e2:Nat) (jX:dB→Option Value),k≤dn∧i= .int .i64 (k:Int)∧Hid (RF w B g A bl mk e rd ⟨dA,dn,dc,ds,lA,ln,lc,ls⟩ wm nm Mw Sw P wr A2 e2 jX (gF (ds.map aA.dev) ls Sw Sn k) [])) (fun i _=>dn - (intOf i).toNat)
 case atStart=>exact⟨0,A,e,Mn,Nat.zero_le _,rfl,je⟩
 case round=>
  clear je
  obtain⟨k,A2,e2,jX,hkn,rfl,HR⟩:=hrel
  by_cases hlt:k<dn
  ·obtain⟨r,hr⟩:∃r,ds[k]?=some r:=⟨_,List.getElem?_eq_getElem (by omega)⟩
   have hdr:(ds.map aA.dev)[k]?=some r.dev:=by rw[List.getElem?_map,hr];rfl
   have HDR:=hide hdr
   obtain⟨b,o,rfl,_,_⟩:=HD.out.ds.2 (by show 0<dn;omega)
   have pQ:=HN.out wr HR.out.kp.low
   obtain⟨_,q0,q1,q2,q3,q4,q5,q6⟩:=dF pQ.ds hr
   have fM:=hide (HDK.out r (List.mem_of_getElem? hr))
   have bU:=hide (pQ.gy r (List.mem_of_getElem? hr))
   have tK:=hide (HP.out k r.dev hdr)
   have FJ:=hide (qp (ls:=ls) (Sw:=Sw) (Sn:=Sn) hdr)
   clear hr hdr pQ
   obtain⟨nm',kd,ad,pl,bA,bn,bc,bs,rA,rn,rc,rs,tA,tn,tc,ts⟩:=r
   simp only at q0 q1 q2 q3 q4 q5 q6
   have dY:=hide (below_alloc2 wr (.cells #[.string nm',.int .i64 kd,.int .i64 ad,.int .u8 pl,.slice bA bn bc,.slice rA rn rc,.slice tA tn tc] 86))
   have HX:=hide (Bx.new wr #[.string nm',.int .i64 kd,.int .i64 ad,.int .u8 pl,.slice bA bn bc,.slice rA rn rc,.slice tA tn tc] 86)
   have hk1:=fM.out.k1
   have hk5:=fM.out.k5
   simp only[aA.dev]at hk1 hk5
   rcases(show kd=1∨kd=2∨kd=3∨kd=4∨kd=5 by omega)with e1 | e1 | e1 | e1 | e1
   all_goals clear hk1 hk5 -- cases
   all_goals subst e1
   ·have HNR:=hide (show RF w B g A bl mk e rd ⟨some ⟨b,o,none⟩,dn,dc,ds,lA,ln,lc,ls⟩ wm nm Mw Sw P _ A2 e2 jX (gF (ds.map aA.dev) ls Sw Sn (k+1)) []from by rw[FJ.out];exact HR.out.below dY.out)
    go_wp2_with fail
    go_roundw
    case rel=>exact⟨k+1,A2,e2,jX,by omega,by go_num,HNR⟩
    case measure=>simp[intOf];omega
   ·go_wp2_with fail
    have HR2:=hide (HR.out.below dY.out)
    have uq:=hide (show fV _ B ⟨nm',2,ad,pl,bA,bn,bc,bs,rA,rn,rc,rs,tA,tn,tc,ts⟩from bU.out.below (dY.out.mono (Nat.le_of_lt HR.out.rd.m.sa.hB)) (Nat.le_refl _))
    clear q0 q1 q2 q3 q4 q5 q6 dY HX bU HR
    generalize World.alloc wr _=w2 at*
    generalize wr.heap.size=Nd at*
    refine(MW w2 B g A2 bl mk e2 rd ⟨some ⟨b,o,none⟩,dn,dc,ds,lA,ln,lc,ls⟩ wm nm Mw jX Sw _ HR2.out.rd HR2.out.was (by rw[HR2.out.ext.vars];exact HV.out) (HN.out _ HR2.out.kp.low).ls dV.out P k (by omega) ⟨nm',2,ad,pl,bA,bn,bc,bs,rA,rn,rc,rs,tA,tn,tc,ts⟩ uq.out (by have:=uq.out.rs.1;have:=fM.out.rl;simp only[aA.dev]at*;omega) fM.out.tc (tK.out.r rfl)).mono ?_
    rintro en w3 ⟨rfl,hr⟩
    obtain⟨A3,e3,sP,hrf,hx3,uU,yG⟩:=HR2.out.send hr
    have HR3:=hide (show RF w B g A bl mk e rd ⟨some ⟨b,o,none⟩,dn,dc,ds,lA,ln,lc,ls⟩ wm nm Mw Sw P w3 A3 e3 sP (gF (ds.map aA.dev) ls Sw Sn (k+1)) []from by rw[FJ.out];exact hrf)
    clear hr hrf hx3 uU yG HR2 uq
    go_wp2_with fail
    go_roundw
    case rel=>exact⟨k+1,A3,e3,sP,by omega,by go_num,HR3⟩
    case measure=>simp[intOf];omega
   ·go_wp2_with fail
    have HR2:=hide (HR.out.below dY.out)
    have uq:=hide (show fV _ B ⟨nm',3,ad,pl,bA,bn,bc,bs,rA,rn,rc,rs,tA,tn,tc,ts⟩from bU.out.below (dY.out.mono (Nat.le_of_lt HR.out.rd.m.sa.hB)) (Nat.le_refl _))
    clear q0 q1 q2 q3 q4 q5 q6 dY HX bU HR
    generalize World.alloc wr _=w2 at*
    generalize wr.heap.size=Nd at*
    refine(SI w2 B g A2 bl mk e2 rd ⟨some ⟨b,o,none⟩,dn,dc,ds,lA,ln,lc,ls⟩ wm nm Mw jX Sw _ HR2.out.rd HR2.out.was (by rw[HR2.out.ext.vars];exact HV.out) (HN.out _ HR2.out.kp.low).ls dV.out P k (by omega) ⟨nm',3,ad,pl,bA,bn,bc,bs,rA,rn,rc,rs,tA,tn,tc,ts⟩ uq.out (by have:=uq.out.rs.1;have:=fM.out.rl;simp only[aA.dev]at*;omega) (tK.out.f rfl)).mono ?_
    rintro en w3 ⟨rfl,hr⟩
    obtain⟨A3,e3,sP,hrf,hx3,uU,yG⟩:=HR2.out.send hr
    have HR3:=hide (show RF w B g A bl mk e rd ⟨some ⟨b,o,none⟩,dn,dc,ds,lA,ln,lc,ls⟩ wm nm Mw Sw P w3 A3 e3 sP (gF (ds.map aA.dev) ls Sw Sn (k+1)) []from by rw[FJ.out];exact hrf)
    clear hr hrf hx3 uU yG HR2 uq
    go_wp2_with fail
    go_roundw
    case rel=>exact⟨k+1,A3,e3,sP,by omega,by go_num,HR3⟩
    case measure=>simp[intOf];omega
   ·have ha:=fM.out.KU (.inr (.inl rfl))
    simp only[aA.dev]at ha
    obtain⟨an,rfl⟩:∃an:Nat,ad=(an:Int):=⟨ad.toNat,by omega⟩
    have ha16:an<16:=by omega
    clear ha
    go_wp2_with fail
    have HR2:=hide (HR.out.below dY.out)
    have uq:=hide (show fV _ B ⟨nm',4,(an:Int),pl,bA,bn,bc,bs,rA,rn,rc,rs,tA,tn,tc,ts⟩from bU.out.below (dY.out.mono (Nat.le_of_lt HR.out.rd.m.sa.hB)) (Nat.le_refl _))
    clear q0 q1 q2 q3 q4 q5 q6 dY HX bU HR
    generalize World.alloc wr _=w2 at*
    generalize wr.heap.size=Nd at*
    refine(VE w2 B g A2 bl mk e2 rd ⟨some ⟨b,o,none⟩,dn,dc,ds,lA,ln,lc,ls⟩ wm nm Mw jX Sw _ HR2.out.rd HR2.out.was (by rw[HR2.out.ext.vars];exact HV.out) (HN.out _ HR2.out.kp.low).ls dV.out P k (by omega) ⟨nm',4,(an:Int),pl,bA,bn,bc,bs,rA,rn,rc,rs,tA,tn,tc,ts⟩ an rfl rfl ha16 uq.out.pl (tK.out.n rfl)).mono ?_
    rintro en w3 ⟨rfl,hr⟩
    obtain⟨A3,e3,sP,hrf,hx3,uU,yG⟩:=HR2.out.send hr
    have HR3:=hide (show RF w B g A bl mk e rd ⟨some ⟨b,o,none⟩,dn,dc,ds,lA,ln,lc,ls⟩ wm nm Mw Sw P w3 A3 e3 sP (gF (ds.map aA.dev) ls Sw Sn (k+1)) []from by rw[FJ.out];exact hrf)
    clear hr hrf hx3 uU yG HR2 uq
    go_wp2_with fail
    go_roundw
    case rel=>exact⟨k+1,A3,e3,sP,by omega,by go_num,HR3⟩
    case measure=>simp[intOf];omega
   ·have ha:=fM.out.KU (.inr (.inr rfl))
    simp only[aA.dev]at ha
    obtain⟨an,rfl⟩:∃an:Nat,ad=(an:Int):=⟨ad.toNat,by omega⟩
    have ha16:an<16:=by omega
    clear ha
    go_wp2_with fail
    have HR2:=hide (HR.out.below dY.out)
    have uq:=hide (show fV _ B ⟨nm',5,(an:Int),pl,bA,bn,bc,bs,rA,rn,rc,rs,tA,tn,tc,ts⟩from bU.out.below (dY.out.mono (Nat.le_of_lt HR.out.rd.m.sa.hB)) (Nat.le_refl _))
    clear q0 q1 q2 q3 q4 q5 q6 dY HX bU HR
    generalize World.alloc wr _=w2 at*
    generalize wr.heap.size=Nd at*
    refine(IY w2 B g A2 bl mk e2 rd ⟨some ⟨b,o,none⟩,dn,dc,ds,lA,ln,lc,ls⟩ wm nm Mw jX Sw _ HR2.out.rd HR2.out.was (by rw[HR2.out.ext.vars];exact HV.out) (HN.out _ HR2.out.kp.low).ls dV.out P k (by omega) ⟨nm',5,(an:Int),pl,bA,bn,bc,bs,rA,rn,rc,rs,tA,tn,tc,ts⟩ an rfl rfl ha16 uq.out.bs fM.out.Zc fM.out.bl (tK.out.b rfl)).mono ?_
    rintro en w3 ⟨rfl,hr⟩
    obtain⟨A3,e3,sP,hrf,hx3,uU,yG⟩:=HR2.out.send hr
    have HR3:=hide (show RF w B g A bl mk e rd ⟨some ⟨b,o,none⟩,dn,dc,ds,lA,ln,lc,ls⟩ wm nm Mw Sw P w3 A3 e3 sP (gF (ds.map aA.dev) ls Sw Sn (k+1)) []from by rw[FJ.out];exact hrf)
    clear hr hrf hx3 uU yG HR2 uq
    go_wp2_with fail
    go_roundw
    case rel=>exact⟨k+1,A3,e3,sP,by omega,by go_num,HR3⟩
    case measure=>simp[intOf];omega
  ·have pW:=hide (show qo w B g A bl mk e rd ⟨dA,dn,dc,ds,lA,ln,lc,ls⟩ (.map (some wm)) nm P (gF (ds.map aA.dev) ls Sw Sn dn) wr from by
    have hk:k=dn:=by omega
    have:=HR.out.out;rw[hk]at this;exact this)
   go_wp2
   go_end0
   exact⟨rfl,pW.out⟩
end Go.Proofs.YtlhmdcgckocidaaGreat
