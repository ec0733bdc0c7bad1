/- A part of the proof: Rd6, Rd7. -/
import Derived.Test.YtifkacnoiocebaaGreatDz22
import Derived.Test.YtifkacnoiocebaaGreatDz23
set_option linter.unusedVariables false
set_option linter.unusedSimpArgs false
set_option maxRecDepth 100000
set_option maxHeartbeats 8000000
namespace Go.Proofs.YtifkacnoiocebaaGreat
open aj Go.Maps Go.RowKit
def Ho (ts:List aG) (port:Int):aj.Fn:=outs (bU 65535 (fD (je ts port) 16) 255 255)
def qF (ls:List ah) (i:Nat) (ts:List aG) (F:aj.Fn) (S:Pl→aj.Fn):Nat→Pl→aj.Fn
 |0=>S
 |o+1=>eH ls ((i:Int),(o:Int)) (bf F (Ho ts (o:Int))) (qF ls i ts F S o)
def qK (ls:List ah) (i:Nat) (ts:List aG) (rs:List bg) (Sw S:Pl→aj.Fn):Nat→Pl→aj.Fn
 |0=>S
 |k+1=>qF ls i ts (bf (Sw ((i:Int),(k:Int))) (dB rs)) (qK ls i ts rs Sw S k) 4
def yZ (ls:List ah) (i:Nat) (ts:List aG) (rs:List bg) (Sw Sn:Pl→aj.Fn):Pl→aj.Fn:=qK ls i ts rs Sw Sn 4
structure J4 (P:aj.Fn→Prop) (ls:List ah) (i:Nat) (ts:List aG) (rs:List bg) (Sw Sn:Pl→aj.Fn):Prop where
 acl:NQ P rs
 f:∀(k:Nat),k<4→PC P (bf (Sw ((i:Int),(k:Int))) (dB rs))
 p:∀(o:Nat),o<4→∀G,mR (bU 65535 (fD (je ts (o:Int)) 16) 255 255) G→P G
 a:∀(k o:Nat),k<4→o<4→PC P (bf (bf (Sw ((i:Int),(k:Int))) (dB rs)) (Ho ts (o:Int)))
 s:∀(k o:Nat),k<4→o<4→nS P ls ((i:Int),(o:Int)) (bf (bf (Sw ((i:Int),(k:Int))) (dB rs)) (Ho ts (o:Int))) (qF ls i ts (bf (Sw ((i:Int),(k:Int))) (dB rs)) (qK ls i ts rs Sw Sn k) o)
theorem QF (ls:List ah) (x:Pl) (G:aj.Fn) (S:Pl→aj.Fn):eH ls x (bf (fun _=>false) G) S=S:=by
 unfold eH
 split
 ·funext z a
  split
  ·rename_i h
   subst h
   simp[vO,bf,bE]
  ·rfl
 ·rfl
theorem RF.any {w0 wr:World} {B g mk e0 e rd wm nm:Nat} {A0 A:St} {bl more:List Nat} {n:aC} {Mw Mn:aB→Option Value} {Sw Sn:Pl→aj.Fn} {P:aj.Fn→Prop} (h:RF w0 B g A0 bl mk e0 rd n wm nm Mw Sw P wr A e Mn Sn more) (he:e≠0) (EB:Pl→aj.Fn):RF w0 B g A0 bl mk e0 rd n wm nm Mw Sw P wr A e Mn EB more:=
 ⟨⟨h.rd.m,h.rd.bx,h.rd.mn,h.rd.ints,h.rd.keys,fun h0=>absurd h0 he,h.rd.ne⟩,h.was,h.ext,h.nw,h.kp,h.e0⟩
theorem Lf (w:World) (B g:Nat) (A:St) (bl:List Nat) (mk e rd:Nat) (n:aC) (wm nm:Nat) (Mw Mn:aB→Option Value) (Sw Sn:Pl→aj.Fn) (h:RD w B g A bl mk e rd n (.map (some wm)) nm Mn Sn) (hw:oC w A e bl wm Mw Sw) (hv:A.vars=14) (hl:bD ah.cells 4 w B n.lA n.ln n.ls) (hlk:mU n.ls)
  (P:aj.Fn→Prop) (i:Nat) (hi:i≤1000) (r:ak) (hr:bW w B r) (hrn:r.rn≤8) (htc:cB r.ts=0) (hP:J4 P n.ls i r.ts r.rs Sw Sn):
  Calls Tryz.prog 58 #[.pointer (some ⟨rd,0,none⟩),.int .i64 (i:Int),r.val] w fun en w'=>en= .returned (.tuple #[])∧qy w B g A bl mk e rd n (.map (some wm)) nm P (yZ n.ls i r.ts r.rs Sw Sn) w':=by
 have hct:=hr.ct
 have hrr:=hr.rs
 have hts:=hr.ts
 have htk:=hr.tok
 obtain⟨nm',kd,ad,pl,bA,bn,bc,bs,rA,rn,rc,rs,tA,tn,tc,ts⟩:=r
 simp only at hct hrr hts htk hrn htc hP
 have htn:tn≤9223372036854775807:=by unfold maxLen at hct;omega
 have j4:=hide ((RF.start h hw P).alloc (.cells #[.string nm',.int .i64 kd,.int .i64 ad,.int .u8 pl,.slice bA bn bc,.slice rA rn rc,.slice tA tn tc] 81))
 have BA:=hide (Bx.new w #[.string nm',.int .i64 kd,.int .i64 ad,.int .u8 pl,.slice bA bn bc,.slice rA rn rc,.slice tA tn tc] 81)
 have jL:=hide (fun(w':World) (hb:RowKit.Below B w w')=>hl.below hb (Nat.le_refl _))
 have QE:=hide (fun(w':World) (hb:RowKit.Below B w w')=>hrr.below hb (Nat.le_refl _))
 have vv:=hide (fun(w':World) (hb:RowKit.Below B w w') (hB:B≤w'.heap.size)=>hts.below hb hB)
 have HTK:=hide (And.intro htk htc)
 have iy:=hide hlk
 have HP:=hide hP
 have HV:=hide hv
 clear h hw hl hlk hP hv hrr hts htk htc hr
 simp only[ak.val]at*
 go_enter Tryz.func58,Tryz.ntmps58
 go_wp2_with fail
 generalize World.alloc w _=w0 at*
 generalize w.heap.size=Nd at*
 have HQ:=hide (fun(w':World) (h1:Bx w' rd #[.pointer (some ⟨mk,0,none⟩),.slice n.dA n.dn n.dc,.slice n.lA n.ln n.lc,.map (some wm),.map (some nm)] 75) (e':Nat) (h2:Bx w' mk #[.pointer (some ⟨g,0,none⟩),.int .i64 (e':Int)] 72) (hbd:Bx w' Nd #[.string nm',.int .i64 kd,.int .i64 ad,.int .u8 pl,.slice bA bn bc,.slice rA rn rc,.slice tA tn tc] 81) (h4:gY w' wm Mw)=>show(w'.cell? ⟨rd,0,none⟩=some (.pointer (some ⟨mk,0,none⟩))∧w'.cell? ⟨mk,0,none⟩=some (.pointer (some ⟨g,0,none⟩))∧w'.cell? ⟨rd,3,none⟩=some (.map (some wm))∧gY w' wm Mw)∧w'.cell? ⟨Nd,0,none⟩=some (.string nm')∧w'.cell? ⟨Nd,1,none⟩=some (.int .i64 kd)∧w'.cell? ⟨Nd,2,none⟩=some (.int .i64 ad)∧w'.cell? ⟨Nd,3,none⟩=some (.int .u8 pl)∧w'.cell? ⟨Nd,4,none⟩=some (.slice bA bn bc)∧w'.cell? ⟨Nd,5,none⟩=some (.slice rA rn rc)∧w'.cell? ⟨Nd,6,none⟩=some (.slice tA tn tc)from⟨⟨h1.get 0 _ rfl,h2.get 0 _ rfl,h1.get 3 _ rfl,h4⟩,hbd.get 0 _ rfl,hbd.get 1 _ rfl,hbd.get 2 _ rfl,hbd.get 3 _ rfl,hbd.get 4 _ rfl,hbd.get 5 _ rfl,hbd.get 6 _ rfl⟩)
 have HR1:=hide (j4.out.below (RowKit.Below.refl _ _).drew)
 have vJ:=hide (BA.out.below (RowKit.Below.refl _ _).drew)
 clear j4 BA
 refine aY (fun w'=>(w'.cell? ⟨rd,0,none⟩=some (.pointer (some ⟨mk,0,none⟩))∧w'.cell? ⟨mk,0,none⟩=some (.pointer (some ⟨g,0,none⟩))∧w'.cell? ⟨rd,3,none⟩=some (.map (some wm))∧gY w' wm Mw)∧w'.cell? ⟨Nd,0,none⟩=some (.string nm')∧w'.cell? ⟨Nd,1,none⟩=some (.int .i64 kd)∧w'.cell? ⟨Nd,2,none⟩=some (.int .i64 ad)∧w'.cell? ⟨Nd,3,none⟩=some (.int .u8 pl)∧w'.cell? ⟨Nd,4,none⟩=some (.slice bA bn bc)∧w'.cell? ⟨Nd,5,none⟩=some (.slice rA rn rc)∧w'.cell? ⟨Nd,6,none⟩=some (.slice tA tn tc)) 16 (by kernel_rfl) (HQ.out _ HR1.out.rd.bx _ HR1.out.rd.m.bx vJ.out HR1.out.was.m) (fun hS=>?_)
 refine rP 0 hS ?_
 refine rP 1 hS ?_
 refine rP 2 hS ?_
 refine rL 3 [16] rfl hS (by intro w hSw;obtain⟨⟨s0,s1,s3,s4⟩,c0,c1,c2,c3,c4,c5,c6⟩:=hSw;go_simp;try with_reducible rfl) ?_
 refine rP 4 hS ?_
 refine rP 5 hS ?_
 refine rP 6 hS ?_
 refine rL 7 [8,9,10,13,14,16] rfl hS (by intro w hSw;obtain⟨⟨s0,s1,s3,s4⟩,c0,c1,c2,c3,c4,c5,c6⟩:=hSw;go_simp;try with_reducible rfl) ?_
 refine rP 8 hS ?_
 refine rP 9 hS ?_
 refine rL 10 [13,14,16] rfl hS (by intro w hSw;obtain⟨⟨s0,s1,s3,s4⟩,c0,c1,c2,c3,c4,c5,c6⟩:=hSw;go_simp;try with_reducible rfl) ?_
 refine rP 11 hS ?_
 refine rL 12 [13,14,16] rfl hS (by intro w hSw;obtain⟨⟨s0,s1,s3,s4⟩,c0,c1,c2,c3,c4,c5,c6⟩:=hSw;go_simp;try with_reducible rfl) ?_
 intro inv
 refine rO 13 inv fun K hK=>?_
 go_simp
 refine(Qw (P:=P) HR1.out.rd.m.sa (by rw[HR1.out.ext.vars,HV.out];exact Nat.le_refl _) rs rA rn rc hrn (QE.out _ HR1.out.kp.low) HP.out.acl.1 HP.out.acl.2).mono ?_
 rintro en w1x hq
 obtain⟨Aq,rq,eq,rfl,Bv,Bw,hk1⟩:=Gd HR1.out.rd.m hq
 have Gf:=hide Bv
 have hS1:=HQ.out _ (HR1.out.rd.bx.kp hk1 (by simp)) _ Bw.bx (vJ.out.kp hk1 (by simp)) (HR1.out.was.m.same (hk1.same wm (by simp[HR1.out.was.mem])))
 clear hq Bv Bw hk1 hS
 have hS:=hS1
 go_simp
 refine hK.out _ _ (fun _=>hS1) ?_
 clear hK K hS inv
 intro inv
 try simp only[Act.put,aK,aL,aM]
 have hS:=hS1
 clear hS1
 revert inv
 refine rP 14 hS ?_
 refine rP 15 hS ?_
 intro inv
 refine rT 16 inv fun K hK=>?_
 go_simp
 clear hS
 refine Gf.out.mono ?_
 rintro en w2 hr
 obtain⟨A2,e2,r2,rfl,hrf,hx,hF,hsm⟩:=HR1.out.call hr
 have HR2:=hide hrf
 have wW:=hide (vJ.out.same (hsm Nd (by simp)))
 have YR:=hide (fun h=>(hF h).2)
 clear hr hrf hx hF hsm HR1 vJ
 go_simp
 refine hK.out _ _ ?_
 clear hK K inv
 intro inv
 try simp only[Act.put,aK,aL,aM]
 refine rT 17 inv fun K hK=>?_
 go_simp
 refine hK.out _ _ ?_
 clear hK K inv
 intro inv
 try simp only[Act.put,aK,aL,aM]
 refine rD ?_
 clear inv
 go_wp2_with fail
 go_loopw [27] (fun u wr=>∃(k:Nat) (A2:St) (e2:Nat) (kg:aB→Option Value),k≤4∧u= .int .i64 (k:Int)∧Hid (RF w B g A bl mk e rd n wm nm Mw Sw P wr A2 e2 kg (qK n.ls i ts rs Sw Sn k) [Nd])∧Hid (Bx wr Nd #[.string nm',.int .i64 kd,.int .i64 ad,.int .u8 pl,.slice bA bn bc,.slice rA rn rc,.slice tA tn tc] 81)∧Hid (e2=0→dF A2 r2 (dB rs))) (fun u _=>4 - (intOf u).toNat)
 case atStart=>exact⟨0,A2,e2,Mn,Nat.zero_le _,rfl,HR2,wW,YR⟩
 case round=>
  clear HR2 wW YR
  obtain⟨k,A2,e2,kg,hk,rfl,vK,EO,VI⟩:=hrel
  by_cases hlt:k<4
  ·skip
   go_wp2_with fail
   have qJ:=hide (vK.out.below (RowKit.Below.refl _ _).drew)
   have Cq:=hide (EO.out.below (RowKit.Below.refl _ _).drew)
   have Og:=VI
   clear vK EO VI
   refine aY (fun w'=>(w'.cell? ⟨rd,0,none⟩=some (.pointer (some ⟨mk,0,none⟩))∧w'.cell? ⟨mk,0,none⟩=some (.pointer (some ⟨g,0,none⟩))∧w'.cell? ⟨rd,3,none⟩=some (.map (some wm))∧gY w' wm Mw)∧w'.cell? ⟨Nd,0,none⟩=some (.string nm')∧w'.cell? ⟨Nd,1,none⟩=some (.int .i64 kd)∧w'.cell? ⟨Nd,2,none⟩=some (.int .i64 ad)∧w'.cell? ⟨Nd,3,none⟩=some (.int .u8 pl)∧w'.cell? ⟨Nd,4,none⟩=some (.slice bA bn bc)∧w'.cell? ⟨Nd,5,none⟩=some (.slice rA rn rc)∧w'.cell? ⟨Nd,6,none⟩=some (.slice tA tn tc)) 9 (by kernel_rfl) (HQ.out _ qJ.out.rd.bx _ qJ.out.rd.m.bx Cq.out qJ.out.was.m) (fun hS=>?_)
   refine rP 0 hS ?_
   refine rP 1 hS ?_
   refine rP 2 hS ?_
   refine rL 3 [9] rfl hS (by intro w hSw;obtain⟨⟨s0,s1,s3,s4⟩,c0,c1,c2,c3,c4,c5,c6⟩:=hSw;go_simp;try with_reducible rfl) ?_
   refine rP 4 hS ?_
   refine rP 5 hS ?_
   refine rP 6 hS ?_
   refine rP 8 hS ?_
   intro inv
   refine ji (i:=7) (v:=.int .i64 ((bK Mw ((i:Int),(k:Int)):Nat):Int)) [9] rfl (by kernel_rfl) (by kernel_rfl) (by kernel_rfl) (by kernel_rfl) (fun _ _ _ h=>h) inv ⟨by rfl,?_⟩ hS (fun inv2=>?_)
   ·intro w hSw
    obtain⟨⟨s0,s1,s3,s4⟩,c0,c1,c2,c3,c4,c5,c6⟩:=hSw;exact⟨92,_,by go_simp,nY w rd wm Mw s4 qJ.out.was.ints s3 (i:Int) (k:Int) (by simp only[aO];omega) (by simp only[aO];omega)⟩
   clear inv
   have inv:=inv2
   clear inv2
   try simp only[Act.put,aK,aL,aM]
   refine rT 9 inv fun K hK=>?_
   go_simp
   clear hS
   refine(nR _ B g A2 (rd::nm::([Nd]++bl)) mk e2 qJ.out.rd.m (bK Mw ((i:Int),(k:Int))) r2 (Sw ((i:Int),(k:Int))) (dB rs) P (fun h=>qJ.out.was.sw h _) Og.out (HP.out.f k hlt)).mono ?_
   rintro en Vt hr
   obtain⟨Vu,e42,QG,rfl,hrf,hx,hF,hsm⟩:=qJ.out.call hr
   have zS:=hide hrf
   have EP:=hide (Cq.out.same (hsm Nd (by simp)))
   have VJ:=hide (fun h=>(Og.out ((hF h).1)).ext qJ.out.rd.inv hx)
   have VK:=hide (fun h=>(hF h).2)
   clear hr hrf hx hF hsm qJ Cq Og
   go_simp
   refine hK.out _ _ ?_
   clear hK K inv
   intro inv
   try simp only[Act.put,aK,aL,aM]
   refine rT 10 inv fun K hK=>?_
   go_simp
   refine hK.out _ _ ?_
   clear hK K inv
   intro inv
   try simp only[Act.put,aK,aL,aM]
   refine rD ?_
   clear inv
   go_wp2_with fail
   go_loopw [40] (fun u wr=>∃(o:Nat) (A3:St) (e3:Nat) (tq:aB→Option Value),o≤4∧u= .int .i64 (o:Int)∧Hid (RF w B g A bl mk e rd n wm nm Mw Sw P wr A3 e3 tq (qF n.ls i ts (bf (Sw ((i:Int),(k:Int))) (dB rs)) (qK n.ls i ts rs Sw Sn k) o) [Nd])∧Hid (Bx wr Nd #[.string nm',.int .i64 kd,.int .i64 ad,.int .u8 pl,.slice bA bn bc,.slice rA rn rc,.slice tA tn tc] 81)∧Hid (e3=0→dF A3 r2 (dB rs))∧Hid (e3=0→dF A3 QG (bf (Sw ((i:Int),(k:Int))) (dB rs)))) (fun u _=>4 - (intOf u).toNat)
   case atStart=>exact⟨0,Vu,e42,kg,Nat.zero_le _,rfl,zS,EP,VJ,VK⟩
   case round=>
    clear zS EP VJ VK
    obtain⟨o,A3,e3,tq,ho,rfl,DV,EU,EW,EX⟩:=hrel
    have m0:wr.cell? ⟨rd,0,none⟩=some (.pointer (some ⟨mk,0,none⟩)):=DV.out.rd.bx.get 0 _ rfl
    have m1:wr.cell? ⟨mk,1,none⟩=some (.int .i64 (e3:Int)):=DV.out.rd.m.bx.get 1 _ rfl
    by_cases TA:o<4
    ·by_cases uR:e3=0
     ·by_cases hf0:QG=0
      ·have HN:=hide (show qF n.ls i ts (bf (Sw ((i:Int),(k:Int))) (dB rs)) (qK n.ls i ts rs Sw Sn k) (o+1)=qF n.ls i ts (bf (Sw ((i:Int),(k:Int))) (dB rs)) (qK n.ls i ts rs Sw Sn k) o from by
        have hq:=(EX.out uR).2
        rw[hf0,jB]at hq
        show eH _ _ (bf (bf (Sw ((i:Int),(k:Int))) (dB rs)) _) _=_
        rw[← hq,QF]
        )
       have m2:wr.cell? ⟨mk,1,none⟩=some (.int .i64 0):=by rw[m1,uR];rfl
       clear m1 uR
       have hf1:((QG:Int) != 0)=false:=by simp;omega
       clear hf0
       go_wp2_with fail
       go_roundw
       case rel=>exact⟨o+1,A3,e3,tq,by omega,by go_num,hide (by rw[HN.out];exact DV.out),EU,EW,EX⟩
       case measure=>simp[intOf];omega
      ·have m2:wr.cell? ⟨mk,1,none⟩=some (.int .i64 0):=by rw[m1,uR];rfl
       clear m1 uR
       have hf1:((QG:Int) != 0)=true:=by simp;omega
       clear hf0
       go_wp2_with fail
       clear m0 m2 hf1
       have qL:=hide (DV.out.below (RowKit.Below.refl _ _).drew)
       have IK:=hide (EU.out.below (RowKit.Below.refl _ _).drew)
       have VL:=EW
       have VN:=EX
       clear DV EU EW EX
       refine aY (fun w'=>(w'.cell? ⟨rd,0,none⟩=some (.pointer (some ⟨mk,0,none⟩))∧w'.cell? ⟨mk,0,none⟩=some (.pointer (some ⟨g,0,none⟩))∧w'.cell? ⟨rd,3,none⟩=some (.map (some wm))∧gY w' wm Mw)∧w'.cell? ⟨Nd,0,none⟩=some (.string nm')∧w'.cell? ⟨Nd,1,none⟩=some (.int .i64 kd)∧w'.cell? ⟨Nd,2,none⟩=some (.int .i64 ad)∧w'.cell? ⟨Nd,3,none⟩=some (.int .u8 pl)∧w'.cell? ⟨Nd,4,none⟩=some (.slice bA bn bc)∧w'.cell? ⟨Nd,5,none⟩=some (.slice rA rn rc)∧w'.cell? ⟨Nd,6,none⟩=some (.slice tA tn tc)) 27 (by kernel_rfl) (HQ.out _ qL.out.rd.bx _ qL.out.rd.m.bx IK.out qL.out.was.m) (fun hS=>?_)
       refine rP 0 hS ?_
       refine rP 1 hS ?_
       refine rP 2 hS ?_
       refine rP 3 hS ?_
       refine rP 4 hS ?_
       refine rP 5 hS ?_
       refine rL 6 [26,27] rfl hS (by intro w hSw;obtain⟨⟨s0,s1,s3,s4⟩,c0,c1,c2,c3,c4,c5,c6⟩:=hSw;go_simp;try with_reducible rfl) ?_
       refine rP 7 hS ?_
       refine rP 8 hS ?_
       refine rP 9 hS ?_
       refine rP 10 hS ?_
       refine rL 11 [25,26,27] rfl hS (by intro w hSw;obtain⟨⟨s0,s1,s3,s4⟩,c0,c1,c2,c3,c4,c5,c6⟩:=hSw;go_simp;try with_reducible rfl) ?_
       refine rP 12 hS ?_
       refine rP 13 hS ?_
       refine rP 14 hS ?_
       refine rL 15 [16,17,18,22,23,25,26,27] rfl hS (by intro w hSw;obtain⟨⟨s0,s1,s3,s4⟩,c0,c1,c2,c3,c4,c5,c6⟩:=hSw;go_simp;try with_reducible rfl) ?_
       refine rP 16 hS ?_
       refine rP 17 hS ?_
       refine rL 18 [22,23,25,26,27] rfl hS (by intro w hSw;obtain⟨⟨s0,s1,s3,s4⟩,c0,c1,c2,c3,c4,c5,c6⟩:=hSw;go_simp;try with_reducible rfl) ?_
       refine rP 19 hS ?_
       refine rL 20 [22,23,25,26,27] rfl hS (by intro w hSw;obtain⟨⟨s0,s1,s3,s4⟩,c0,c1,c2,c3,c4,c5,c6⟩:=hSw;go_simp;try with_reducible rfl) ?_
       refine rP 21 hS ?_
       intro inv
       refine rO 22 inv fun K hK=>?_
       go_simp
       refine(Ym (P:=P) qL.out.rd.m.sa (by rw[qL.out.ext.vars,HV.out];exact Nat.le_refl _) ts tA tn tc (o:Int) htn hct.1 (vv.out _ qL.out.kp.low (Nat.le_of_lt qL.out.rd.m.sa.hB)) HTK.out.1 HTK.out.2 (HP.out.p o TA)).mono ?_
       rintro en aft hq
       obtain⟨Aq,rq,eq,rfl,Bv,Bw,hk1⟩:=Gd qL.out.rd.m hq
       have Gf:=hide Bv
       have hS1:=HQ.out _ (qL.out.rd.bx.kp hk1 (by simp)) _ Bw.bx (IK.out.kp hk1 (by simp)) (qL.out.was.m.same (hk1.same wm (by simp[qL.out.was.mem])))
       clear hq Bv Bw hk1 hS
       have hS:=hS1
       go_simp
       refine hK.out _ _ (fun _=>hS1) ?_
       clear hK K hS inv
       intro inv
       try simp only[Act.put,aK,aL,aM]
       have hS:=hS1
       clear hS1
       revert inv
       refine rP 23 hS ?_
       refine rP 24 hS ?_
       intro inv
       refine rO 25 inv fun K hK=>?_
       go_simp
       clear hS
       refine Gf.out.mono ?_
       rintro en w62 hr
       obtain⟨A62,e62,r62,rfl,hrf,hx,hF,hsm⟩:=qL.out.call hr
       have tu:=hide hrf
       have EY:=hide (IK.out.same (hsm Nd (by simp)))
       have VO:=hide (fun h=>(VL.out ((hF h).1)).ext qL.out.rd.inv hx)
       have Oh:=hide (fun h=>(VN.out ((hF h).1)).ext qL.out.rd.inv hx)
       have VP:=hide (fun h=>(hF h).2)
       clear hr hrf hx hF hsm qL IK VL VN
       have hS:=HQ.out _ tu.out.rd.bx _ tu.out.rd.m.bx EY.out tu.out.was.m
       go_simp
       refine hK.out _ _ (fun _=>HQ.out _ tu.out.rd.bx _ tu.out.rd.m.bx EY.out tu.out.was.m) ?_
       clear hK K hS inv
       intro inv
       try simp only[Act.put,aK,aL,aM]
       have hS:=HQ.out _ tu.out.rd.bx _ tu.out.rd.m.bx EY.out tu.out.was.m
       refine rO 26 inv fun K hK=>?_
       go_simp
       clear hS
       refine(nR _ B g A62 (rd::nm::([Nd]++bl)) mk e62 tu.out.rd.m QG r62 (bf (Sw ((i:Int),(k:Int))) (dB rs)) (Ho ts (o:Int)) P Oh.out VP.out (HP.out.a k o hlt TA)).mono ?_
       rintro en w63 hr
       obtain⟨A63,e63,r63,rfl,hrf,hx,hF,hsm⟩:=tu.out.call hr
       have qM:=hide hrf
       have EZ:=hide (EY.out.same (hsm Nd (by simp)))
       have VQ:=hide (fun h=>(VO.out ((hF h).1)).ext tu.out.rd.inv hx)
       have VR:=hide (fun h=>(Oh.out ((hF h).1)).ext tu.out.rd.inv hx)
       have VT:=hide (fun h=>(hF h).2)
       clear hr hrf hx hF hsm tu EY VO Oh VP
       have hS:=HQ.out _ qM.out.rd.bx _ qM.out.rd.m.bx EZ.out qM.out.was.m
       go_simp
       refine hK.out _ _ (fun _=>HQ.out _ qM.out.rd.bx _ qM.out.rd.m.bx EZ.out qM.out.was.m) ?_
       clear hK K hS inv
       intro inv
       try simp only[Act.put,aK,aL,aM]
       have hS:=HQ.out _ qM.out.rd.bx _ qM.out.rd.m.bx EZ.out qM.out.was.m
       refine rT 27 inv fun K hK=>?_
       go_simp
       clear hS
       refine(ko _ B g A63 ([Nd]++bl) mk e63 rd n (.map (some wm)) nm tq _ qM.out.rd (jL.out _ qM.out.kp.low) iy.out P (i:Int) (o:Int) r63 (bf (bf (Sw ((i:Int),(k:Int))) (dB rs)) (Ho ts (o:Int))) VT.out (HP.out.s k o hlt TA)).mono ?_
       rintro en w64 ⟨rfl,hr⟩
       obtain⟨A64,e64,acQ,hrf,hx,hF,hsm⟩:=qM.out.send hr
       have acR:=hide hrf
       have aat:=hide (EZ.out.same (hsm Nd (by simp)))
       have aau:=hide (fun h=>(VQ.out (hF h)).ext qM.out.rd.inv hx)
       have aav:=hide (fun h=>(VR.out (hF h)).ext qM.out.rd.inv hx)
       clear hr hrf hx hF hsm qM EZ VQ VR VT
       go_simp
       refine hK.out _ _ ?_
       clear hK K inv
       intro inv
       try simp only[Act.put,aK,aL,aM]
       refine rD ?_
       clear inv
       go_wp2_with fail
       go_roundw
       case rel=>exact⟨o+1,A64,e64,acQ,by omega,by go_num,acR,aat,aau,aav⟩
       case measure=>simp[intOf];omega
     ·have Yq:((e3:Int)==0)=false:=by simp;omega
      have HN:=hide (DV.out.any uR (qF n.ls i ts (bf (Sw ((i:Int),(k:Int))) (dB rs)) (qK n.ls i ts rs Sw Sn k) (o+1)))
      clear uR
      go_wp2_with fail
      go_roundw
      case rel=>exact⟨o+1,A3,e3,tq,by omega,by go_num,HN,EU,EW,EX⟩
      case measure=>simp[intOf];omega
    ·have ho4:o=4:=by omega
     have HN:=hide (show RF w B g A bl mk e rd n wm nm Mw Sw P wr A3 e3 tq (qK n.ls i ts rs Sw Sn (k+1)) [Nd]from by have:=DV.out;rw[ho4]at this;exact this)
     clear ho4
     go_wp2_with fail
     go_roundw
     case rel=>exact⟨k+1,A3,e3,tq,by omega,by go_num,HN,EU,EW⟩
     case measure=>simp[intOf];omega
  ·have hk4:k=4:=by omega
   have u7:=hide (show qy w B g A bl mk e rd n (.map (some wm)) nm P (yZ n.ls i ts rs Sw Sn) wr from by
    have:=vK.out.out;rw[hk4]at this;exact this)
   clear hk4
   go_wp2
   go_end0
   exact⟨rfl,u7.out⟩
def BH (ls:List ah) (i:Nat) (d:Dev) (Sw Sn:Pl→aj.Fn):Pl→aj.Fn:=
 if d.kind=2 then yZ ls i d.routes d.rules Sw Sn
 else if d.kind=3 then sP ls i d.rules Sw Sn
 else if d.kind=4 then wV ls i d.addr.toNat d.pool Sw Sn
 else if d.kind=5 then zR ls i d.addr.toNat d.backs Sw Sn
 else Sn
def gT (ds:List Dev) (ls:List ah) (Sw Sn:Pl→aj.Fn):Nat→Pl→aj.Fn
 |0=>Sn
 |k+1=>match ds[k]? with
  |some d=>BH ls k d Sw (gT ds ls Sw Sn k)
  |none=>gT ds ls Sw Sn k
theorem Di {ds:List Dev} {ls:List ah} {Sw Sn:Pl→aj.Fn} {k:Nat} {d:Dev} (h:ds[k]?=some d):gT ds ls Sw Sn (k+1)=BH ls k d Sw (gT ds ls Sw Sn k):=by
 simp only[gT,h]
structure aaw (P:aj.Fn→Prop) (ls:List ah) (i:Nat) (d:Dev) (Sw Sn:Pl→aj.Fn):Prop where
 r:d.kind=2→J4 P ls i d.routes d.rules Sw Sn
 f:d.kind=3→QC P ls i d.rules Sw Sn
 n:d.kind=4→U3 P ls i d.addr.toNat d.pool Sw Sn
 b:d.kind=5→Vp P ls i d.addr.toNat d.backs Sw Sn
def J5 (P:aj.Fn→Prop) (ds:List Dev) (ls:List ah) (Sw Sn:Pl→aj.Fn):Prop:=∀k d,ds[k]?=some d→aaw P ls k d Sw (gT ds ls Sw Sn k)
theorem vW (a:Int):∀(l pre:List Int),gJ a pre l=true→∀b∈l,0≤b∧b<16
 |[],_,_,b,hb=>by cases hb
 |c::t,pre,h,b,hb=>by
  simp only[gJ,Bool.and_eq_true,decide_eq_true_eq]at h
  rcases List.mem_cons.1 hb with rfl | hb
  ·exact⟨h.1.1.1.1,h.1.1.1.2⟩
  ·exact vW a t _ h.2 b hb
theorem fU.qA {d:Dev} (h:fU d) (hk:d.kind=1∨d.kind=4∨d.kind=5):0≤d.addr∧d.addr<16:=by
 have h1:=h.ar
 have h2:jV d.kind=true:=by
  unfold jV
  rcases hk with e | e | e<;>rw[e]<;>rfl
 rw[h2]at h1
 simp only[Bool.true_and,Bool.not_not,Bool.not_true,Bool.false_and,Bool.not_false,Bool.and_true,Bool.and_eq_true,decide_eq_true_eq]at h1
 exact h1.1
theorem fU.MC {d:Dev} (h:fU d):∀b∈d.backs,0≤b∧b<16:=by
 have h1:=h.bb
 unfold bQ at h1
 rw[Bool.and_eq_true]at h1
 exact vW _ _ _ h1.1
theorem Oi (w:World) (B g:Nat) (A:St) (bl:List Nat) (mk e rd:Nat) (n:aC) (wm nm:Nat) (Mw Mn:aB→Option Value) (Sw Sn:Pl→aj.Fn) (h:RD w B g A bl mk e rd n (.map (some wm)) nm Mn Sn) (hw:oC w A e bl wm Mw Sw) (hv:A.vars=14) (hn:bq w B n) (hok:∀d∈n.au,fU d) (hdl:n.dn≤10) (hlk:mU n.ls)
  (P:aj.Fn→Prop) (hP:J5 P n.au n.ls Sw Sn):
  Calls Tryz.prog 26 #[.pointer (some ⟨rd,0,none⟩)] w fun en w'=>en= .returned (.tuple #[])∧qy w B g A bl mk e rd n (.map (some wm)) nm P (gT n.au n.ls Sw Sn n.dn) w':=by
 have j4:=hide (RF.start h hw P)
 have HN:=hide (fun(w':World) (hb:RowKit.Below B w w')=>show bq w' B n from hn.below hb (Nat.le_refl _))
 have HDK:=hide (fun(d:ak) (hd:d∈n.ds)=>hok d.dev (List.mem_map_of_mem hd))
 have iy:=hide hlk
 have HP:=hide hP
 have HV:=hide hv
 have HD:=hide hn
 have acS:=hn.iK
 have r1:w.cell? ⟨rd,1,none⟩=some (.slice n.dA n.dn n.dc):=h.bx.get 1 _ rfl
 clear h hw hn hok hlk hP hv
 obtain⟨dA,dn,dc,ds,lA,ln,lc,ls⟩:=n
 simp only[aC.au]at*
 go_enter Tryz.func26,Tryz.ntmps26
 go_wp2_with fail
 clear r1
 go_loopw [10] (fun i wr=>∃(k:Nat) (A2:St) (e2:Nat) (kg:aB→Option Value),k≤dn∧i= .int .i64 (k:Int)∧Hid (RF w B g A bl mk e rd ⟨dA,dn,dc,ds,lA,ln,lc,ls⟩ wm nm Mw Sw P wr A2 e2 kg (gT (ds.map ak.dev) ls Sw Sn k) [])) (fun i _=>dn - (intOf i).toNat)
 case atStart=>exact⟨0,A,e,Mn,Nat.zero_le _,rfl,j4⟩
 case round=>
  clear j4
  obtain⟨k,A2,e2,kg,hkn,rfl,HR⟩:=hrel
  by_cases hlt:k<dn
  ·obtain⟨r,hr⟩:∃r,ds[k]?=some r:=⟨_,List.getElem?_eq_getElem (by omega)⟩
   have hdr:(ds.map ak.dev)[k]?=some r.dev:=by rw[List.getElem?_map,hr];rfl
   have HDR:=hide hdr
   obtain⟨b,o,rfl,_,_⟩:=HD.out.ds.2 (by show 0<dn;omega)
   have rX:=HN.out wr HR.out.kp.low
   obtain⟨_,q0,q1,q2,q3,q4,q5,q6⟩:=fP rX.ds hr
   have fK:=hide (HDK.out r (List.mem_of_getElem? hr))
   have gF:=hide (rX.qW r (List.mem_of_getElem? hr))
   have iE:=hide (HP.out k r.dev hdr)
   have jk:=hide (Di (ls:=ls) (Sw:=Sw) (Sn:=Sn) hdr)
   clear hr hdr rX
   obtain⟨nm',kd,ad,pl,bA,bn,bc,bs,rA,rn,rc,rs,tA,tn,tc,ts⟩:=r
   simp only at q0 q1 q2 q3 q4 q5 q6
   have bO:=hide (below_alloc2 wr (.cells #[.string nm',.int .i64 kd,.int .i64 ad,.int .u8 pl,.slice bA bn bc,.slice rA rn rc,.slice tA tn tc] 81))
   have HX:=hide (Bx.new wr #[.string nm',.int .i64 kd,.int .i64 ad,.int .u8 pl,.slice bA bn bc,.slice rA rn rc,.slice tA tn tc] 81)
   have hk1:=fK.out.k1
   have hk5:=fK.out.k5
   simp only[ak.dev]at hk1 hk5
   rcases(show kd=1∨kd=2∨kd=3∨kd=4∨kd=5 by omega)with e1 | e1 | e1 | e1 | e1
   all_goals clear hk1 hk5 -- cases
   all_goals subst e1
   ·have xL:=hide (show RF w B g A bl mk e rd ⟨some ⟨b,o,none⟩,dn,dc,ds,lA,ln,lc,ls⟩ wm nm Mw Sw P _ A2 e2 kg (gT (ds.map ak.dev) ls Sw Sn (k+1)) []from by rw[jk.out];exact HR.out.below bO.out)
    go_wp2_with fail
    go_roundw
    case rel=>exact⟨k+1,A2,e2,kg,by omega,by go_num,xL⟩
    case measure=>simp[intOf];omega
   ·go_wp2_with fail
    have HR2:=hide (HR.out.below bO.out)
    have uG:=hide (show bW _ B ⟨nm',2,ad,pl,bA,bn,bc,bs,rA,rn,rc,rs,tA,tn,tc,ts⟩from gF.out.below (bO.out.mono (Nat.le_of_lt HR.out.rd.m.sa.hB)) (Nat.le_refl _))
    clear q0 q1 q2 q3 q4 q5 q6 bO HX gF HR
    generalize World.alloc wr _=w2 at*
    generalize wr.heap.size=Nd at*
    refine(Lf w2 B g A2 bl mk e2 rd ⟨some ⟨b,o,none⟩,dn,dc,ds,lA,ln,lc,ls⟩ wm nm Mw kg Sw _ HR2.out.rd HR2.out.was (by rw[HR2.out.ext.vars];exact HV.out) (HN.out _ HR2.out.kp.low).ls iy.out P k (by omega) ⟨nm',2,ad,pl,bA,bn,bc,bs,rA,rn,rc,rs,tA,tn,tc,ts⟩ uG.out (by have:=uG.out.rs.1;have:=fK.out.rl;simp only[ak.dev]at*;omega) fK.out.tc (iE.out.r rfl)).mono ?_
    rintro en w3 ⟨rfl,hr⟩
    obtain⟨A3,e3,tq,hrf,hx3,uR,yh⟩:=HR2.out.send hr
    have HR3:=hide (show RF w B g A bl mk e rd ⟨some ⟨b,o,none⟩,dn,dc,ds,lA,ln,lc,ls⟩ wm nm Mw Sw P w3 A3 e3 tq (gT (ds.map ak.dev) ls Sw Sn (k+1)) []from by rw[jk.out];exact hrf)
    clear hr hrf hx3 uR yh HR2 uG
    go_wp2_with fail
    go_roundw
    case rel=>exact⟨k+1,A3,e3,tq,by omega,by go_num,HR3⟩
    case measure=>simp[intOf];omega
   ·go_wp2_with fail
    have HR2:=hide (HR.out.below bO.out)
    have uG:=hide (show bW _ B ⟨nm',3,ad,pl,bA,bn,bc,bs,rA,rn,rc,rs,tA,tn,tc,ts⟩from gF.out.below (bO.out.mono (Nat.le_of_lt HR.out.rd.m.sa.hB)) (Nat.le_refl _))
    clear q0 q1 q2 q3 q4 q5 q6 bO HX gF HR
    generalize World.alloc wr _=w2 at*
    generalize wr.heap.size=Nd at*
    refine(QD w2 B g A2 bl mk e2 rd ⟨some ⟨b,o,none⟩,dn,dc,ds,lA,ln,lc,ls⟩ wm nm Mw kg Sw _ HR2.out.rd HR2.out.was (by rw[HR2.out.ext.vars];exact HV.out) (HN.out _ HR2.out.kp.low).ls iy.out P k (by omega) ⟨nm',3,ad,pl,bA,bn,bc,bs,rA,rn,rc,rs,tA,tn,tc,ts⟩ uG.out (by have:=uG.out.rs.1;have:=fK.out.rl;simp only[ak.dev]at*;omega) (iE.out.f rfl)).mono ?_
    rintro en w3 ⟨rfl,hr⟩
    obtain⟨A3,e3,tq,hrf,hx3,uR,yh⟩:=HR2.out.send hr
    have HR3:=hide (show RF w B g A bl mk e rd ⟨some ⟨b,o,none⟩,dn,dc,ds,lA,ln,lc,ls⟩ wm nm Mw Sw P w3 A3 e3 tq (gT (ds.map ak.dev) ls Sw Sn (k+1)) []from by rw[jk.out];exact hrf)
    clear hr hrf hx3 uR yh HR2 uG
    go_wp2_with fail
    go_roundw
    case rel=>exact⟨k+1,A3,e3,tq,by omega,by go_num,HR3⟩
    case measure=>simp[intOf];omega
   ·have ha:=fK.out.qA (.inr (.inl rfl))
    simp only[ak.dev]at ha
    obtain⟨an,rfl⟩:∃an:Nat,ad=(an:Int):=⟨ad.toNat,by omega⟩
    have ha16:an<16:=by omega
    clear ha
    go_wp2_with fail
    have HR2:=hide (HR.out.below bO.out)
    have uG:=hide (show bW _ B ⟨nm',4,(an:Int),pl,bA,bn,bc,bs,rA,rn,rc,rs,tA,tn,tc,ts⟩from gF.out.below (bO.out.mono (Nat.le_of_lt HR.out.rd.m.sa.hB)) (Nat.le_refl _))
    clear q0 q1 q2 q3 q4 q5 q6 bO HX gF HR
    generalize World.alloc wr _=w2 at*
    generalize wr.heap.size=Nd at*
    refine(Tt w2 B g A2 bl mk e2 rd ⟨some ⟨b,o,none⟩,dn,dc,ds,lA,ln,lc,ls⟩ wm nm Mw kg Sw _ HR2.out.rd HR2.out.was (by rw[HR2.out.ext.vars];exact HV.out) (HN.out _ HR2.out.kp.low).ls iy.out P k (by omega) ⟨nm',4,(an:Int),pl,bA,bn,bc,bs,rA,rn,rc,rs,tA,tn,tc,ts⟩ an rfl rfl ha16 uG.out.pl (iE.out.n rfl)).mono ?_
    rintro en w3 ⟨rfl,hr⟩
    obtain⟨A3,e3,tq,hrf,hx3,uR,yh⟩:=HR2.out.send hr
    have HR3:=hide (show RF w B g A bl mk e rd ⟨some ⟨b,o,none⟩,dn,dc,ds,lA,ln,lc,ls⟩ wm nm Mw Sw P w3 A3 e3 tq (gT (ds.map ak.dev) ls Sw Sn (k+1)) []from by rw[jk.out];exact hrf)
    clear hr hrf hx3 uR yh HR2 uG
    go_wp2_with fail
    go_roundw
    case rel=>exact⟨k+1,A3,e3,tq,by omega,by go_num,HR3⟩
    case measure=>simp[intOf];omega
   ·have ha:=fK.out.qA (.inr (.inr rfl))
    simp only[ak.dev]at ha
    obtain⟨an,rfl⟩:∃an:Nat,ad=(an:Int):=⟨ad.toNat,by omega⟩
    have ha16:an<16:=by omega
    clear ha
    go_wp2_with fail
    have HR2:=hide (HR.out.below bO.out)
    have uG:=hide (show bW _ B ⟨nm',5,(an:Int),pl,bA,bn,bc,bs,rA,rn,rc,rs,tA,tn,tc,ts⟩from gF.out.below (bO.out.mono (Nat.le_of_lt HR.out.rd.m.sa.hB)) (Nat.le_refl _))
    clear q0 q1 q2 q3 q4 q5 q6 bO HX gF HR
    generalize World.alloc wr _=w2 at*
    generalize wr.heap.size=Nd at*
    refine(IB w2 B g A2 bl mk e2 rd ⟨some ⟨b,o,none⟩,dn,dc,ds,lA,ln,lc,ls⟩ wm nm Mw kg Sw _ HR2.out.rd HR2.out.was (by rw[HR2.out.ext.vars];exact HV.out) (HN.out _ HR2.out.kp.low).ls iy.out P k (by omega) ⟨nm',5,(an:Int),pl,bA,bn,bc,bs,rA,rn,rc,rs,tA,tn,tc,ts⟩ an rfl rfl ha16 uG.out.bs fK.out.MC fK.out.bl (iE.out.b rfl)).mono ?_
    rintro en w3 ⟨rfl,hr⟩
    obtain⟨A3,e3,tq,hrf,hx3,uR,yh⟩:=HR2.out.send hr
    have HR3:=hide (show RF w B g A bl mk e rd ⟨some ⟨b,o,none⟩,dn,dc,ds,lA,ln,lc,ls⟩ wm nm Mw Sw P w3 A3 e3 tq (gT (ds.map ak.dev) ls Sw Sn (k+1)) []from by rw[jk.out];exact hrf)
    clear hr hrf hx3 uR yh HR2 uG
    go_wp2_with fail
    go_roundw
    case rel=>exact⟨k+1,A3,e3,tq,by omega,by go_num,HR3⟩
    case measure=>simp[intOf];omega
  ·have u7:=hide (show qy w B g A bl mk e rd ⟨dA,dn,dc,ds,lA,ln,lc,ls⟩ (.map (some wm)) nm P (gT (ds.map ak.dev) ls Sw Sn dn) wr from by
    have hk:k=dn:=by omega
    have:=HR.out.out;rw[hk]at this;exact this)
   go_wp2
   go_end0
   exact⟨rfl,u7.out⟩
end Go.Proofs.YtifkacnoiocebaaGreat
