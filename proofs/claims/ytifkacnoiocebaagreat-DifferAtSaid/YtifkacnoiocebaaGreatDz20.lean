/- A part of the proof: Mk3, Mk4, RegC, RgMap, RgSame, Rd1. -/
import Derived.Test.YtifkacnoiocebaaGreatDz19
import Derived.Maps.RangeWalk
set_option linter.unusedVariables false
set_option linter.unusedSimpArgs false
set_option maxRecDepth 100000
set_option maxHeartbeats 4000000
namespace Go.Proofs.YtifkacnoiocebaaGreat
open aj Go.Maps Go.RowKit
def bI (m:M4):aj.Fn:=outs (bU m.src m.dst m.dz m.dU)
def rE (P:aj.Fn→Prop) (m:M4):Prop:=∀G,mR (bU m.src m.dst m.dz m.dU) G→P G
theorem MR.pre {w0 w w':World} {B g mk e:Nat} {A:St} {bl:List Nat} {P:aj.Fn→Prop} {F:aj.Fn} {en:Ending} (hk:KP B bl w0 w) (h:MR w B g A bl mk e P F en w'):MR w0 B g A bl mk e P F en w':=by
 obtain⟨A1,e1,r1,q1,q2,q3,q4,q5,q6⟩:=h
 exact⟨A1,e1,r1,q1,q2,q3,q4,hk.trans q5,q6⟩
theorem Co (w:World) (B g:Nat) (A:St) (bl:List Nat) (mk e:Nat) (h:MK w B g A bl mk e) (m:M4) (hm:m.ok) (P:aj.Fn→Prop) (hv:A.vars=14) (hP:rE P m):
  Calls Tryz.prog 56 #[.pointer (some ⟨mk,0,none⟩),m.val] w (MR w B g A bl mk e P (bI m)):=by
 obtain⟨s,d,p,q⟩:=m
 obtain⟨h1,h2,h3,h4⟩:=hm
 simp only at h1 h2 h3 h4
 have hb0:=below_alloc2 w (.cells #[.int .u16 s,.int .u16 d,.int .u8 p,.int .u8 q] 32)
 have H:=hide (show MK (w.alloc (.cells #[.int .u16 s,.int .u16 d,.int .u8 p,.int .u8 q] 32)) B g A (w.heap.size::bl) mk e from
  ⟨(h.sa.alloc _).mono (fun j hj=>by simp only[List.mem_cons]at hj ⊢;rcases hj with a | a | a<;>simp[a]),h.bx.below hb0,h.er,fun hj=>by
   rcases List.mem_cons.1 hj with a | a
   ·have:=(h.sa.lt mk (by simp)).2;omega
   ·exact h.ap a⟩)
 have HX:=hide (Bx.new w #[.int .u16 s,.int .u16 d,.int .u8 p,.int .u8 q] 32)
 have HK0:=hide (h.kp hb0)
 have HP:=hide hP
 have H0:=hide (h.below hb0)
 have c0:=(H.out.bx.get 0 _ rfl:(w.alloc (.cells #[.int .u16 s,.int .u16 d,.int .u8 p,.int .u8 q] 32)).cell? ⟨mk,0,none⟩=some (.pointer (some ⟨g,0,none⟩)))
 have c1:=(H.out.bx.get 1 _ rfl:(w.alloc (.cells #[.int .u16 s,.int .u16 d,.int .u8 p,.int .u8 q] 32)).cell? ⟨mk,1,none⟩=some (.int .i64 (e:Int)))
 have hir:=h.inv
 have HI:=hide hir
 have He:=hide (fun(A':St) (en:Ending) (w':World) (hr:MR (w.alloc (.cells #[.int .u16 s,.int .u16 d,.int .u8 p,.int .u8 q] 32)) B g A (w.heap.size::bl) mk e P (bI ⟨s,d,p,q⟩) en w')=>show MR w B g A bl mk e P (bI ⟨s,d,p,q⟩) en w' from by
  obtain⟨A1,e1,r1,q1,q2,q3,q4,q5,q6⟩:=hr
  exact⟨A1,e1,r1,q1,⟨q2.sa.mono (fun j hj=>by
   rcases List.mem_cons.1 hj with a | a
   ·simp[a]
   ·simp[a]),q2.bx,q2.er,fun hj=>q2.ap (by simp[hj])⟩,q3,q4,HK0.out.trans (q5.mono (fun j hj=>by simp[hj])),q6⟩)
 clear h hP hir hb0
 simp only[M4.val]
 go_enter Tryz.func56,Tryz.ntmps56
 by_cases he:e=0
 ·subst he
  go_wp2_with fail
  clear c0 c1
  generalize World.alloc w _=w0 at*
  generalize w.heap.size=N at*
  have HQ:=hide (fun(w':World) (hx:Bx w' N #[.int .u16 s,.int .u16 d,.int .u8 p,.int .u8 q] 32) (hk:Bx w' mk #[.pointer (some ⟨g,0,none⟩),.int .i64 0] 72)=>show(w'.cell? ⟨mk,0,none⟩=some (.pointer (some ⟨g,0,none⟩)))∧(w'.cell? ⟨N,0,none⟩=some (.int .u16 s)∧w'.cell? ⟨N,1,none⟩=some (.int .u16 d)∧w'.cell? ⟨N,2,none⟩=some (.int .u8 p)∧w'.cell? ⟨N,3,none⟩=some (.int .u8 q))from
   ⟨hk.get 0 _ rfl,hx.get 0 _ rfl,hx.get 1 _ rfl,hx.get 2 _ rfl,hx.get 3 _ rfl⟩)
  have HD:=hide (RowKit.Below.drew (RowKit.Below.refl w0.heap.size w0))
  refine aY (fun w'=>(w'.cell? ⟨mk,0,none⟩=some (.pointer (some ⟨g,0,none⟩)))∧(w'.cell? ⟨N,0,none⟩=some (.int .u16 s)∧w'.cell? ⟨N,1,none⟩=some (.int .u16 d)∧w'.cell? ⟨N,2,none⟩=some (.int .u8 p)∧w'.cell? ⟨N,3,none⟩=some (.int .u8 q))) 6 (by kernel_rfl) (HQ.out _ (HX.out.below HD.out) (H.out.bx.below HD.out)) (fun hS=>?_)
  refine rP 0 hS ?_
  refine rP 1 hS ?_
  refine rP 2 hS ?_
  refine rP 3 hS ?_
  refine rL 4 [6] rfl hS (by intro w hSw;obtain⟨s0,s1,s2,s3,s4⟩:=hSw;go_simp;try with_reducible rfl) ?_
  refine rL 5 [6] rfl hS (by intro w hSw;obtain⟨s0,s1,s2,s3,s4⟩:=hSw;go_simp;try with_reducible rfl) ?_
  intro inv
  refine rO 6 inv fun K hK=>?_
  go_simp
  have uT:=hide (H.out.below HD.out)
  refine(SY uT.out.sa (by omega) s d p q h1 h2 h3 h4 HP.out).mono ?_
  rintro en w1 ⟨A1,hsa,hext,hnw,hkp,hres⟩
  have HE:=hide hext
  have HN:=hide hnw
  have HK:=hide (((uT.out.sa.kp (RowKit.Below.refl _ _)).trans hkp).mono (Dh:=N::bl) (fun j hj=>List.mem_cons_of_mem _ hj))
  have hbx:Bx w1 mk #[.pointer (some ⟨g,0,none⟩),.int .i64 0] 72:=uT.out.bx.same (hkp.same mk (by simp))
  have hnx:=(HX.out.below HD.out).same (hkp.same N (by simp))
  have HM:=hide (show MK w1 B g A1 (N::bl) mk 0 from⟨hsa,hbx,.inl rfl,uT.out.ap⟩)
  have Hf:=hide (HQ.out _ hnx hbx)
  clear hsa hext hnw hkp hbx hnx hS
  rcases hres with⟨r1,rfl,iO⟩ | ⟨rfl,hfull⟩
  ·have HR:=hide iO
   clear iO
   have hS:=Hf.out
   go_simp
   refine hK.out _ _ (fun _=>hS) ?_
   clear hK K hS inv
   intro inv
   try simp only[Act.put,aK,aL,aM]
   have hS:=Hf.out
   revert inv
   refine rP 7 hS ?_
   refine rP 8 hS ?_
   intro inv
   refine rT 9 inv fun K hK=>?_
   go_simp
   refine(iN w1 B g A1 (N::bl) mk HM.out r1 0 (.inl rfl)).mono ?_
   rintro en w2 hg
   have HF:=hide (MR.kK HE.out HN.out HK.out (fun _=>HR.out) hg)
   obtain⟨rfl,_⟩:=hg
   clear hS
   go_simp
   refine hK.out _ _ ?_
   clear hK K inv
   intro inv
   try simp only[Act.put,aK,aL,aM]
   refine rT 10 inv fun K hK=>?_
   go_simp
   refine hK.out _ _ ?_
   clear hK K inv
   intro inv
   try simp only[Act.put,aK,aL,aM]
   refine rD ?_
   clear inv
   have xR:=hide (He.out A _ _ (MR.pre (uT.out.kp (RowKit.Below.refl _ _) |> fun _=>H.out.kp HD.out) HF.out))
   go_wp2
   go_ret
   exact xR.out
  ·have yU:=hide hfull
   clear hfull
   have hS:=Hf.out
   go_simp
   refine hK.out _ _ (fun _=>hS) ?_
   clear hK K hS inv
   intro inv
   try simp only[Act.put,aK,aL,aM]
   have hS:=Hf.out
   revert inv
   refine rP 7 hS ?_
   refine rP 8 hS ?_
   intro inv
   refine rT 9 inv fun K hK=>?_
   go_simp
   refine(iN w1 B g A1 (N::bl) mk HM.out 0 6 (.inr ⟨rfl,yU.out⟩)).mono ?_
   rintro en w2 hg
   have HF:=hide (MR.kK (F:=bI ⟨s,d,p,q⟩) HE.out HN.out HK.out (fun h=>by cases h) hg)
   obtain⟨rfl,_⟩:=hg
   clear hS
   go_simp
   refine hK.out _ _ ?_
   clear hK K inv
   intro inv
   try simp only[Act.put,aK,aL,aM]
   refine rT 10 inv fun K hK=>?_
   go_simp
   refine hK.out _ _ ?_
   clear hK K inv
   intro inv
   try simp only[Act.put,aK,aL,aM]
   refine rD ?_
   clear inv
   have xR:=hide (He.out A _ _ (MR.pre (uT.out.kp (RowKit.Below.refl _ _) |> fun _=>H.out.kp HD.out) HF.out))
   go_wp2
   go_ret
   exact xR.out
 ·have bZ:=hide (He.out A _ _ (MR.none P (bI ⟨s,d,p,q⟩) H.out he))
  have hne:((e:Int) != 0)=true:=by simp;omega
  clear he
  go_wp2
  go_ret
  exact bZ.out
def sM (a:Nat):M4:=⟨2 ^ a,65535,255,255⟩
def kS (a:Nat):M4:=⟨65535,2 ^ a,255,255⟩
theorem uz {a:Nat} (h:a<16):2 ^ a<65536:=Nat.pow_lt_pow_right (a:=2) (by omega) (by omega:a<16)
theorem Mx {a:Nat} (h:a<16):(sM a).ok :=⟨uz h,Nat.lt_succ_self 65535,Nat.lt_succ_self 255,Nat.lt_succ_self 255⟩
theorem MB {a:Nat} (h:a<16):(kS a).ok :=⟨Nat.lt_succ_self 65535,uz h,Nat.lt_succ_self 255,Nat.lt_succ_self 255⟩
theorem DR (a:Nat) (W:World) (h:a<16):Calls Tryz.prog 57 #[.int .i64 (a:Int)] W fun e W'=>e= .returned (sM a).val ∧RowKit.Below W.heap.size W W':=by
 go_enter Tryz.func57,Tryz.ntmps57
 go_wp2_with fail
 refine(Dx _).mono ?_
 rintro e w1 ⟨rfl,hb⟩
 have hs:=hb.size
 have hsz:W.heap.size<w1.heap.size:=by simp at hs;omega
 have HB:=hide ((below_alloc2 W (.cells #[.int .u16 0,.int .u16 0,.int .u8 0,.int .u8 0] 32)).trans (hb.mono (by simp)))
 have HX:=hide ((Bx.new W #[.int .u16 0,.int .u16 0,.int .u8 0,.int .u8 0] 32).below hb)
 clear hb hs
 have hw:IntKind.u16.wrap (2 ^ a)=((2 ^ a:Nat):Int):=by
  have h1:=uz h
  have h2:((2:Int) ^ a)=((2 ^ a:Nat):Int):=by simp
  rw[h2]
  generalize 2 ^ a=q at*
  simp only[IntKind.wrap,IntKind.signed,IntKind.bits]
  simp
  omega
 have c0:w1.cell? ⟨W.heap.size,0,none⟩=some (.int .u16 0):=HX.out.get 0 _ rfl
 have c1:w1.cell? ⟨W.heap.size,1,none⟩=some (.int .u16 0):=HX.out.get 1 _ rfl
 have c2:w1.cell? ⟨W.heap.size,2,none⟩=some (.int .u8 0):=HX.out.get 2 _ rfl
 have c3:w1.cell? ⟨W.heap.size,3,none⟩=some (.int .u8 0):=HX.out.get 3 _ rfl
 have f0:=HX.out.frozen 0
 have f1:=HX.out.frozen 1
 have f2:=HX.out.frozen 2
 have f3:=HX.out.frozen 3
 have hne:W.heap.size≠w1.heap.size:=by omega
 go_wp2
 have hfin:=((((HX.out.set 0 (.int .u16 (2 ^ a))).set 1 (.int .u16 65535)).set 2 (.int .u8 255)).set 3 (.int .u8 255)).below (below_alloc2 _ (.cells #[.int .u16 (2 ^ a),.int .u16 65535,.int .u8 255,.int .u8 255] 32))
 refine bodyPost_ret (results_cell_row rfl _ _ W.heap.size 32 _ (0,0) _ rfl hfin Tryz.underlying32 rfl (by kernel_rfl)) rfl ⟨by simp[sM,M4.val],?_⟩
 exact((((HB.out.setCell (Nat.le_refl _) _).setCell (Nat.le_refl _) _).setCell (Nat.le_refl _) _).setCell (Nat.le_refl _) _).alloc (by simp[World.setCell];omega) _
theorem DT (a:Nat) (W:World) (h:a<16):Calls Tryz.prog 97 #[.int .i64 (a:Int)] W fun e W'=>e= .returned (kS a).val ∧RowKit.Below W.heap.size W W':=by
 go_enter Tryz.func97,Tryz.ntmps97
 go_wp2_with fail
 refine(Dx _).mono ?_
 rintro e w1 ⟨rfl,hb⟩
 have hs:=hb.size
 have hsz:W.heap.size<w1.heap.size:=by simp at hs;omega
 have HB:=hide ((below_alloc2 W (.cells #[.int .u16 0,.int .u16 0,.int .u8 0,.int .u8 0] 32)).trans (hb.mono (by simp)))
 have HX:=hide ((Bx.new W #[.int .u16 0,.int .u16 0,.int .u8 0,.int .u8 0] 32).below hb)
 clear hb hs
 have hw:IntKind.u16.wrap (2 ^ a)=((2 ^ a:Nat):Int):=by
  have h1:=uz h
  have h2:((2:Int) ^ a)=((2 ^ a:Nat):Int):=by simp
  rw[h2]
  generalize 2 ^ a=q at*
  simp only[IntKind.wrap,IntKind.signed,IntKind.bits]
  simp
  omega
 have c0:w1.cell? ⟨W.heap.size,0,none⟩=some (.int .u16 0):=HX.out.get 0 _ rfl
 have c1:w1.cell? ⟨W.heap.size,1,none⟩=some (.int .u16 0):=HX.out.get 1 _ rfl
 have c2:w1.cell? ⟨W.heap.size,2,none⟩=some (.int .u8 0):=HX.out.get 2 _ rfl
 have c3:w1.cell? ⟨W.heap.size,3,none⟩=some (.int .u8 0):=HX.out.get 3 _ rfl
 have f0:=HX.out.frozen 0
 have f1:=HX.out.frozen 1
 have f2:=HX.out.frozen 2
 have f3:=HX.out.frozen 3
 have hne:W.heap.size≠w1.heap.size:=by omega
 go_wp2
 have hfin:=((((HX.out.set 0 (.int .u16 65535)).set 1 (.int .u16 (2 ^ a))).set 2 (.int .u8 255)).set 3 (.int .u8 255)).below (below_alloc2 _ (.cells #[.int .u16 65535,.int .u16 (2 ^ a),.int .u8 255,.int .u8 255] 32))
 refine bodyPost_ret (results_cell_row rfl _ _ W.heap.size 32 _ (0,0) _ rfl hfin Tryz.underlying32 rfl (by kernel_rfl)) rfl ⟨by simp[kS,M4.val],?_⟩
 exact((((HB.out.setCell (Nat.le_refl _) _).setCell (Nat.le_refl _) _).setCell (Nat.le_refl _) _).setCell (Nat.le_refl _) _).alloc (by simp[World.setCell];omega) _
def vU (F:aj.Fn) (a:Nat):aj.Fn:=bf (dL F 0 4) (bI (sM a))
def sO (F:aj.Fn) (a:Nat):aj.Fn:=bf (dL F 4 4) (bI (kS a))
def JQ (P:aj.Fn→Prop) (F:aj.Fn) (a:Nat):Prop:=uM P F 0 4∧rE P (sM a)∧PC P (vU F a)
def Ti (P:aj.Fn→Prop) (F:aj.Fn) (a:Nat):Prop:=uM P F 4 4∧rE P (kS a)∧PC P (sO F a)
theorem Xb (w:World) (B g:Nat) (A:St) (bl:List Nat) (mk e:Nat) (h:MK w B g A bl mk e) (f:Nat) (F:aj.Fn) (P:aj.Fn→Prop) (a:Nat) (ha:a<16) (hv:A.vars=14) (hf:e=0→dF A f F) (hP:JQ P F a):
  Calls Tryz.prog 100 #[.pointer (some ⟨mk,0,none⟩),.int .i64 (f:Int),.int .i64 (a:Int)] w (MR w B g A bl mk e P (vU F a)):=by
 have HA:=hide (uW w B g A bl mk e h f F P 0 4 4 rfl (by omega) (by omega) hf hP.1)
 have uh:=hide (uV.start h P)
 have HP:=hide hP.2
 have HV:=hide hv
 clear h hP hf hv
 go_enter Tryz.func100,Tryz.ntmps100
 go_wp2_with fail
 refine HA.out.mono ?_
 clear HA
 rintro en w1 hr
 obtain⟨A1,e1,r1,rfl,hg,hx,hF⟩:=uh.out.step hr
 have mJ:=hide hg
 have ng:=hide (fun h=>(hF h).2)
 clear hr hg hx hF uh
 go_wp2_with fail
 refine(DR a w1 ha).mono ?_
 rintro en w2 ⟨rfl,hb⟩
 have HG2:=hide (mJ.out.below hb)
 clear hb mJ
 go_wp2_with fail
 refine(Co w2 B g A1 bl mk e1 HG2.out.m (sM a) (Mx ha) P (by rw[HG2.out.ext.vars];exact HV.out) HP.out.1).mono ?_
 rintro en w3 hr
 obtain⟨A3,e3,r3,rfl,hg,hx,hF⟩:=HG2.out.step hr
 have uY:=hide hg
 have mF:=hide (fun h=>(hF h).2)
 have Tj:=hide (fun h=>(ng.out (hF h).1).ext HG2.out.m.inv hx)
 clear hr hg hx hF HG2 ng
 go_wp2_with fail
 refine(nR w3 B g A3 bl mk e3 uY.out.m r1 r3 (dL F 0 4) (bI (sM a)) P Tj.out mF.out HP.out.2).mono ?_
 rintro en w4 hr
 obtain⟨A4,e4,r4,rfl,hg,hx,hF⟩:=uY.out.step hr
 have HX:=hide (hg.out (F:=vU F a) (r:=r4) (fun h=>(hF h).2))
 clear hr hg hx hF
 go_wp2
 go_ret
 exact HX.out
theorem U1 (w:World) (B g:Nat) (A:St) (bl:List Nat) (mk e:Nat) (h:MK w B g A bl mk e) (f:Nat) (F:aj.Fn) (P:aj.Fn→Prop) (a:Nat) (ha:a<16) (hv:A.vars=14) (hf:e=0→dF A f F) (hP:Ti P F a):
  Calls Tryz.prog 99 #[.pointer (some ⟨mk,0,none⟩),.int .i64 (f:Int),.int .i64 (a:Int)] w (MR w B g A bl mk e P (sO F a)):=by
 have HA:=hide (uW w B g A bl mk e h f F P 4 4 8 rfl (by omega) (by omega) hf hP.1)
 have uh:=hide (uV.start h P)
 have HP:=hide hP.2
 have HV:=hide hv
 clear h hP hf hv
 go_enter Tryz.func99,Tryz.ntmps99
 go_wp2_with fail
 refine HA.out.mono ?_
 clear HA
 rintro en w1 hr
 obtain⟨A1,e1,r1,rfl,hg,hx,hF⟩:=uh.out.step hr
 have mJ:=hide hg
 have ng:=hide (fun h=>(hF h).2)
 clear hr hg hx hF uh
 go_wp2_with fail
 refine(DT a w1 ha).mono ?_
 rintro en w2 ⟨rfl,hb⟩
 have HG2:=hide (mJ.out.below hb)
 clear hb mJ
 go_wp2_with fail
 refine(Co w2 B g A1 bl mk e1 HG2.out.m (kS a) (MB ha) P (by rw[HG2.out.ext.vars];exact HV.out) HP.out.1).mono ?_
 rintro en w3 hr
 obtain⟨A3,e3,r3,rfl,hg,hx,hF⟩:=HG2.out.step hr
 have uY:=hide hg
 have mF:=hide (fun h=>(hF h).2)
 have Tj:=hide (fun h=>(ng.out (hF h).1).ext HG2.out.m.inv hx)
 clear hr hg hx hF HG2 ng
 go_wp2_with fail
 refine(nR w3 B g A3 bl mk e3 uY.out.m r1 r3 (dL F 4 4) (bI (kS a)) P Tj.out mF.out HP.out.2).mono ?_
 rintro en w4 hr
 obtain⟨A4,e4,r4,rfl,hg,hx,hF⟩:=uY.out.step hr
 have HX:=hide (hg.out (F:=sO F a) (r:=r4) (fun h=>(hF h).2))
 clear hr hg hx hF
 go_wp2
 go_ret
 exact HX.out
end Go.Proofs.YtifkacnoiocebaaGreat
namespace Go.Proofs.YtifkacnoiocebaaGreat
section
variable {P:Program} {ops:Array Oper} {Q:Exit→Act→World→Prop} {md:Region.Mode} {S:World→Prop} {s:Nat}
def kr (P:Program) (ops:Array Oper) (S:World→Prop) (o:Oper) (v:Value) (a:Act):Prop:=
 Region.wanted o (yielded ops a.tmps)=true∧∀w,S w→∃f args,(execOp a.eval o).run P w= .ok (.enter f args) w∧Calls P f args w fun e w''=>e= .returned v∧w=w''
theorem kr.of_same {o:Oper} {v:Value} {a a':Act} (hy:kr P ops S o v a) (he:execOp a'.eval o=execOp a.eval o)
  (hw:Region.wanted o (yielded ops a'.tmps)=Region.wanted o (yielded ops a.tmps)):kr P ops S o v a':=by
 unfold kr at*
 rw[he,hw]
 exact hy
theorem kr.wpOp {i:Nat} {o:Oper} {v:Value} {a:Act} (hi:ops[i]?=some o) (hy:kr P ops S o v a) {K:Act→World→Prop} {w:World} (hS:S w) (h:K (a.put o.dst v) w):wpOp P ops Q i K a w:=by
 unfold Go.wpOp
 simp only[hi]
 obtain⟨hw,hv⟩:=hy
 obtain⟨f,args,hrun,hc⟩:=hv w hS
 simp only[hw,if_true,Oper.wp,hrun,Oper.upon]
 refine .inl (Calls.mono hc fun e w'' he=>?_)
 obtain⟨rfl,rfl⟩:=he
 exact h
theorem QB {j:Nat} {oi oj:Oper} {v:Value} (hj:ops[j]?=some oj) (hap:oi.apart ops oj=true)
  (hsi:∀cs b,oi.op≠ .select cs b) (hsj:∀cs b,oj.op≠ .select cs b)
  (hQ:∀c a w,Q (.panic c) (a.put oi.dst v) w→Q (.panic c) a w) {K:Act→World→Prop} {a:Act} {w:World}
  (hy:kr P ops S oi v a) (h:wpOp P ops Q j K (a.put oi.dst v) w):
  wpOp P ops Q j (fun a' w'=>kr P ops S oi v a'∧K (a'.put oi.dst v) w') a w:=by
 obtain⟨h1,h2,h3⟩:=Oper.apart_spec hap
 have keep:∀(a:Act),kr P ops S oi v a→∀u,kr P ops S oi v (a.put oj.dst u):=fun a hy u=>
  hy.of_same (execOp_put oi hsi a oj.dst u h3) (wanted_put oi a oj.dst u h3)
 have keepD:∀d,kr P ops S oi v { a with defers:=d::a.defers }:=fun d=>hy.of_same rfl rfl
 unfold Go.wpOp at*
 simp only[hj]at*
 rw[wanted_put oj a oi.dst v h1]at h
 split
 ·rename_i hw
  simp only[hw,if_true]at h
  rcases h with h | ⟨hasks,hlets⟩
  case inr=>exact .inr ⟨by unfold Oper.asks at*;rw[execOp_put oj hsj a oi.dst v h1]at hasks;exact hasks,hlets⟩
  refine .inl ?_
  unfold Oper.wp at*
  rw[execOp_put oj hsj a oi.dst v h1]at h
  generalize (execOp a.eval oj).run P w=r at*
  cases r with
  |ok n w'=>
   cases n<;>simp only[Oper.upon]at h ⊢
   case value u=>exact⟨keep a hy u,by rw[← Act.put_comm a v u h2];exact h⟩
   case skip=>exact⟨keep a hy _,by rw[← Act.put_comm a v undef h2];exact h⟩
   case defer d=>
    refine⟨keep _ (keepD d) _,?_⟩
    rw[← Act.put_comm _ v undef h2,← Act.put_defers]
    exact h
   case enter f args=>
    refine Calls.mono h fun e w'' he=>?_
    cases e with
    |returned u=>exact⟨keep a hy u,by rw[← Act.put_comm a v u h2];exact he⟩
    |panicked c=>exact hQ _ _ _ he
    |outgrown=>exact he
   case row row args=>exact Rows.mono h fun u w'' he=>⟨keep a hy u,by rw[← Act.put_comm a v u h2];exact he⟩
  |halt x w'=>
   cases x<;>simp only[Oper.upon]at h ⊢
   case panic u=>exact hQ _ _ _ h
 ·rename_i hw
  simp only[hw]at h
  exact⟨keep a hy _,by rw[← Act.put_comm a v undef h2];exact h⟩
theorem Iz {i:Nat} {oi:Oper} {v:Value} {S':World→Prop} (hi:ops[i]?=some oi) (hsel:∀(j:Nat) (o:Oper) cs b,ops[j]?=some o→o.op≠ .select cs b) (his:i≠s)
  (hS':∀(listed:Array Bool) (w:World),bV md ops listed→listed.getD i true=false→(listed.getD s true=false→S w)→S' w)
  (hQ:∀c a w,Q (.panic c) (a.put oi.dst v) w→Q (.panic c) a w):
  ∀(fuel:Nat) (listed:Array Bool) (a:Act) (w:World),bV md ops listed→
   (∀j oj,ops[j]?=some oj→j≠i→listed.getD j true=false→(∀e∈oj.after,Region.binds md e=true→e.on≠i)→oi.apart ops oj=true)→
   i∈Region.ready md ops listed→kr P ops S' oi v a→(listed.getD s true=false→S w)→
   dN P md ops Q S s fuel (listed.setIfInBounds i true) (a.put oi.dst v) w→dN P md ops Q S s (fuel+1) listed a w:=by
 have same:∀(l:Array Bool),(l.setIfInBounds i true).getD s true=l.getD s true:=fun l=>getD_set_ne true his
 intro fuel
 induction fuel with
 |zero=>
  intro listed a w inv _ hr hy hS H
  have hun:=(mem_ready.1 hr).1
  refine⟨fun h=>(by rw[h]at hr;cases hr),fun j hj=>?_⟩
  by_cases hji:j=i
  ·subst hji;exact hy.wpOp hi (hS' listed w inv hun hS) ⟨fun h=>hS (by rwa [same]at h),H⟩
  ·have:=ready_mono hj hji
   rw[H.1]at this
   cases this
 |succ fuel ih=>
  intro listed a w inv hfree hr hy hS H
  have hun:=(mem_ready.1 hr).1
  refine⟨fun h=>(by rw[h]at hr;cases hr),fun j hj=>?_⟩
  by_cases hji:j=i
  ·subst hji;exact hy.wpOp hi (hS' listed w inv hun hS) ⟨fun h=>hS (by rwa [same]at h),H⟩
  ·have h1:=H.2 j (ready_mono hj hji)
   obtain⟨hjun,oj,hoj,hall⟩:=mem_ready.1 hj
   have hnot:∀e∈oj.after,Region.binds md e=true→e.on≠i:=fun e he hb heq=>by
    have h1:=hall e he hb
    rw[heq,getD_both hun]at h1
    cases h1
   have h2:=QB hoj (hfree j oj hoj hji hjun hnot) (fun cs b=>hsel i oi cs b hi) (fun cs b=>hsel j oj cs b hoj) hQ hy h1
   have hfree':∀k ok,ops[k]?=some ok→k≠i→(listed.setIfInBounds j true).getD k true=false→
     (∀e∈ok.after,Region.binds md e=true→e.on≠i)→oi.apart ops ok=true:=fun k ok hk hki hun hno=>by
    refine hfree k ok hk hki ?_ hno
    by_cases hjk:j=k
    ·subst hjk;exact hjun
    ·rw[getD_set_ne true hjk]at hun;exact hun
   refine wpOp_mono (fun a' w' h3=>?_) h2
   have hS2:(listed.setIfInBounds j true).getD s true=false→S w':=fun h=>h3.2.1 (by rw[Array.setIfInBounds_comm _ _ (Ne.symm hji),same];exact h)
   refine⟨hS2,ih (listed.setIfInBounds j true) a' w' (inv.set hj) hfree' (ready_mono hr (Ne.symm hji)) h3.1 hS2 ?_⟩
   rw[Array.setIfInBounds_comm _ _ hji]
   exact h3.2.2
theorem ji {i:Nat} {oi:Oper} {v:Value} {fuel:Nat} {listed:Array Bool} {a:Act} {w:World} (c:List Nat) (hi0:ops.toList[i]?=some oi) (hs:Region.noSelect ops=true) (hf:Region.free md ops listed i=true)
  (hr:(Region.ready md ops listed).contains i=true) (his:decide (i≠s) && decide (s<ops.size) && uD md ops (i::c) && decide ((i::c).getLast? =some s)=true) (hQ:∀c a w,Q (.panic c) (a.put oi.dst v) w→Q (.panic c) a w) (inv:Shut (bV md ops listed)) (hy:kr P ops S oi v a) (hS:S w)
  (h:Shut (bV md ops (listed.setIfInBounds i true))→dN P md ops Q S s fuel (listed.setIfInBounds i true) (a.put oi.dst v) w):dN P md ops Q S s (fuel+1) listed a w:=by
 have hi:ops[i]?=some oi:=by simpa using hi0
 simp only[Bool.and_eq_true,decide_eq_true_eq]at his
 have hr':i∈Region.ready md ops listed:=by simpa using hr
 exact Iz hi (Region.noSelect_spec hs) his.1.1.1 (fun l w inv hun hS=>hS (yX inv his.1.2 his.2 his.1.1.2 hun)) hQ fuel listed a w inv.out (Region.free_spec hi hf) hr' hy (fun _=>hS) (h (inv.out.set hr'))
end
open Go.Maps Go.RowKit Go.WideElems
def eX {α:Type} (P:Program) (kt:TypeId) (key:α→Value) (dom:α→Prop) (w:World) (b r:Nat) (M:α→Option Value) (left:α→Bool) (cnt:Nat):Prop:=
 ∃D lf,w.ranges P kt uI b r (Maps.size D) D lf cnt∧
  (∀a,dom a→∀kl,keyOf P kt (key a)=some kl→Maps.has D kl=(M a).isSome ∧∀z,D.atKey kl (.held z)= .held ((M a).getD z))∧
  (∀kl,Maps.has D kl=true→∃a,dom a∧keyOf P kt (key a)=some kl)∧
  (∀a,dom a→∀kl,keyOf P kt (key a)=some kl→lf kl=left a)∧(∀kl,lf kl=true→Maps.has D kl=true)
section
variable {α:Type} {P:Program} {kt:TypeId} {key:α→Value} {dom:α→Prop} {w w':World} {b r cnt:Nat} {M:α→Option Value} {left:α→Bool}
theorem eX.map (h:eX P kt key dom w b r M left cnt):aV P kt key dom w b M:=by
 obtain⟨D,lf,h1,h2,h3,_⟩:=h
 exact⟨D,h1.owns,h2,h3⟩
theorem eX.kept {row:Option Nat} (h:eX P kt key dom w b r M left cnt) (hg:w.grownBy w' row) (hb:some b≠row) (hr:some r≠row):eX P kt key dom w' b r M left cnt:=by
 obtain⟨D,lf,h1,h2⟩:=h
 exact⟨D,lf,h1.kept hg hb hr,h2⟩
theorem eX.below (h:eX P kt key dom w b r M left cnt) (hb:RowKit.Below w.heap.size w w'):eX P kt key dom w' b r M left cnt:=
 h.kept (row:=none) ⟨hb.os,hb.tape,hb.output,hb.size,fun k hk _=>hb.block k hk⟩ (by simp) (by simp)
theorem eX.left_eq (h:eX P kt key dom w b r M left cnt):w.rangeLeft b r=cnt:=by
 obtain⟨D,lf,h1,h2⟩:=h
 exact h1.left_eq
theorem eX.lt (h:eX P kt key dom w b r M left cnt):r<w.heap.size:=by
 obtain⟨D,lf,h1,h2⟩:=h
 exact h1.lt
theorem aV.range {t et:TypeId} (h:aV P kt key dom w b M) (K:qY P kt key dom) (ht:P.underlying t=some (.map kt et)):
  ∃w' cnt,(Instr.range t (.map (some b))).run P w= .ok (.pointer (some ⟨w.heap.size,0,none⟩)) w'∧eX P kt key dom w' b w.heap.size M (fun a=>(M a).isSome) cnt∧w.grownBy w' none∧w'.heap.size=w.heap.size+1:=by
 obtain⟨D,h1,h2,h3⟩:=h
 obtain⟨w',hrun,hrg,hg,hs⟩:=h1.range K.law ht
 exact⟨w',_,hrun,⟨D,_,hrg,h2,h3,fun a ha kl hkl=>(h2 a ha kl hkl).1,fun _ h=>h⟩,hg,hs⟩
theorem eX.next [DecidableEq α] (h:eX P kt key dom w b r M left cnt) (K:qY P kt key dom) (ty:TypeId):
  (cnt=0∧(∀a,dom a→left a=false)∧(Instr.next (.pointer (some ⟨r,0,none⟩)) false ty).run P w= .ok (.tuple #[.bool false]) w)∨
  ∃a v w' cnt',dom a∧left a=true∧M a=some v∧(Instr.next (.pointer (some ⟨r,0,none⟩)) false ty).run P w= .ok (.tuple #[.bool true,key a,v]) w'∧
   eX P kt key dom w' b r M (fun x=>left x && decide (x≠a)) cnt'∧cnt'<cnt∧w.grownBy w' (some r)∧w'.heap.size=w.heap.size∧(Instr.entry (.pointer (some ⟨r,0,none⟩))).run P w'= .ok (.tuple #[key a,v]) w':=by
 obtain⟨D,lf,h1,h2,h3,h4,h5⟩:=h
 rcases h1.next K.law ty with⟨e1,e2,e3⟩ | ⟨kv,v,kl,y,w',cnt',q1,q2,q3,q4,q5,q6,q7,q8,q9,q10⟩
 ·refine .inl ⟨e1,fun a ha=>?_,e3⟩
  obtain⟨kl,hkl⟩:=K.total a ha
  rw[← h4 a ha kl hkl,e2 kl]
 ·obtain⟨a,ha,hka⟩:=h3 kl (h5 kl q2)
  obtain rfl:kv=key a:=K.law.inj q1 hka
  obtain⟨r1,r2⟩:=h2 a ha kl hka
  have hM:(M a).isSome =true:=by rw[← r1,h5 kl q2]
  obtain⟨u,hu⟩:=Option.isSome_iff_exists.1 hM
  have hv:v=u:=by
   have e1:=q4 (.held v)
   rw[r2 v,hu]at e1
   simp only[uI,Option.some.injEq]at q3
   rw[← q3]at e1
   simp only[Option.getD_some,DataW.held.injEq]at e1
   exact e1.symm
  subst hv
  refine .inr ⟨a,v,w',cnt',ha,by rw[← h4 a ha kl hka];exact q2,hu,q5,⟨D,_,q6,h2,h3,fun x hx kx hkx=>?_,fun k hk=>?_⟩,q7,q8,q9,q10⟩
  ·rw[h4 x hx kx hkx]
   congr 1
   by_cases e:x=a
   ·subst e
    obtain rfl:kx=kl:=Option.some.inj (hkx.symm.trans hka)
    simp[WideAt.sameKey_self (K.law.key hka)]
   ·have hne:kx≠kl:=fun ek=>by subst ek;exact e (K.inj _ _ (K.law.inj hkx hka))
    cases hs:kx.sameKey kl
    ·simp[e]
    ·exact absurd (WideAt.sameKey_eq hs) hne
  ·simp only[Bool.and_eq_true]at hk
   exact h5 k hk.1
end
section
variable {α:Type} {P:Program} {kt:TypeId} {key:α→Value} {dom:α→Prop} {b r cnt:Nat} {M:α→Option Value} {left:α→Bool} (w:World)
theorem Av {ops:Array Oper} {rest:List Oper} {o:Oper} {a:Act} {Q:Exit→Act→World→Prop} (hg:o.guard=none) (m:Operand) (t:TypeId) (hop:o.op=Op.range t m) (et:TypeId) (K:qY P kt key dom) (ht:P.underlying t=some (.map kt et))
  (hm:a.eval m= .map (some b)) (h:aV P kt key dom w b M)
  (hK:∀w' cnt,eX P kt key dom w' b w.heap.size M (fun a=>(M a).isSome) cnt→w.grownBy w' none→w'.heap.size=w.heap.size+1→wpList P ops Q rest (a.put o.dst (.pointer (some ⟨w.heap.size,0,none⟩))) w'):
  wpList P ops Q (o::rest) a w:=by
 refine wpList_plain hg fun K' hK'=>?_
 obtain⟨w',cnt,hrun,r1,r2,r3⟩:=h.range K ht
 unfold Oper.wp
 simp[execOp,hop,hm,hrun,Result.andThen]
 exact hK' _ _ (hK w' cnt r1 r2 r3)
theorem Bq [DecidableEq α] {ops:Array Oper} {rest:List Oper} {o:Oper} {a:Act} {Q:Exit→Act→World→Prop} (hg:o.guard=none) (it:Operand) (hop:o.op=Op.next it false) (K:qY P kt key dom) (hit:a.eval it= .pointer (some ⟨r,0,none⟩))
  (h:eX P kt key dom w b r M left cnt)
  (hDone:cnt=0→(∀a,dom a→left a=false)→wpList P ops Q rest (a.put o.dst (.tuple #[.bool false])) w)
  (hMore:∀k v w' cnt',dom k→left k=true→M k=some v→eX P kt key dom w' b r M (fun x=>left x && decide (x≠k)) cnt'→cnt'<cnt→w.grownBy w' (some r)→w'.heap.size=w.heap.size→
   (Instr.entry (.pointer (some ⟨r,0,none⟩))).run P w'= .ok (.tuple #[key k,v]) w'→wpList P ops Q rest (a.put o.dst (.tuple #[.bool true,key k,v])) w'):
  wpList P ops Q (o::rest) a w:=by
 refine wpList_plain hg fun K' hK'=>?_
 unfold Oper.wp
 rcases h.next K o.type with⟨h0,hl,hrun⟩ | ⟨k,v,w',cnt',q1,q2,q3,hrun,q4,q5,q6,q7,q8⟩
 ·simp[execOp,hop,hit,hrun,Result.andThen]
  exact hK' _ _ (hDone h0 hl)
 ·simp[execOp,hop,hit,hrun,Result.andThen]
  exact hK' _ _ (hMore k v w' cnt' q1 q2 q3 q4 q5 q6 q7 q8)
end
theorem Tk:decide (27<Tryz.prog.types.size)=true:=by kernel_rfl
theorem Xc:Tryz.prog.keyTypeAt 2 27=true:=by kernel_rfl
theorem Tm:Tryz.prog.keyType 27=true:=by kernel_rfl
theorem Tn:Tryz.prog.cellsOf 27=2:=by kernel_rfl
theorem Tq:Keyed Tryz.prog 27:=Keyed.of_law (deep_law_laid Tryz.laidOut (m:=2) (by omega) (of_decide_eq_true Tk) Xc (by rw[Tryz.underlying27]))
theorem lW:qY Tryz.prog 27 eG eU:=
 ⟨Tq,Sz Tryz.underlying27 ⟨rfl,rfl,by decide⟩ ⟨rfl,rfl,by decide⟩ Tryz.underlying3 Tm Tn Jb zB,Qf⟩
def Ints (M:aB→Option Value):Prop:=∀a v,M a=some v→eU a∧∃n:Nat,v= .int .i64 (n:Int)
def bK (M:aB→Option Value) (a:aB):Nat:=match M a with
 |some (.int .i64 n)=>n.toNat
 |_=>0
theorem vV {M:aB→Option Value} {a:aB} {n:Nat} (h:M a=some (.int .i64 (n:Int))):bK M a=n:=by unfold bK;rw[h];simp
theorem zL {M:aB→Option Value} {a:aB} (h:M a=none):bK M a=0:=by unfold bK;rw[h]
theorem Ints.getD {M:aB→Option Value} (h:Ints M) (a:aB):(M a).getD (.int .i64 0)= .int .i64 ((bK M a:Nat):Int):=by
 cases e:M a with
 |none=>rw[zL e];rfl
 |some v=>
  obtain⟨_,n,rfl⟩:=h a v e
  rw[vV e];rfl
theorem aV.IJ {w:World} {b:Nat} {M:aB→Option Value} (h:aV Tryz.prog 27 eG eU w b M) (hM:Ints M) (x y:Int) (hx:aO x) (hy:aO y):
  (Instr.lookup 73 (.map (some b)) (.agg #[.int .i64 x,.int .i64 y]) false).run Tryz.prog w= .ok (.int .i64 ((bK M (x,y):Nat):Int)) w:=by
 have:=(h.UL lW Tryz.underlying73 (z:=.int .i64 0) (by kernel_rfl) (a:=(x,y)) ⟨hx,hy⟩).2
 rw[hM.getD]at this
 exact this
theorem Br (w:World) (o:Obj):Below w.heap.size w (w.alloc o):=(Below.refl _ _).alloc (Nat.le_refl _) o
end Go.Proofs.YtifkacnoiocebaaGreat
namespace Go.Proofs.YtifkacnoiocebaaGreat
open aj Go.Maps Go.RowKit
abbrev gY (w:World) (b:Nat) (M:aB→Option Value):Prop:=aV Tryz.prog 27 eG eU w b M
theorem Xd (w:World) (B g:Nat) (A:St) (bl:List Nat) (mk:Nat) (h:MK w B g A bl mk 6) (f e2:Nat):
  Calls Tryz.prog 87 #[.pointer (some ⟨mk,0,none⟩),.int .i64 (f:Int),.int .i64 (e2:Int)] w fun en w'=>en= .returned (.int .i64 0)∧w=w':=by
 have c0:w.cell? ⟨mk,0,none⟩=some (.pointer (some ⟨g,0,none⟩)):=h.bx.get 0 _ rfl
 have c1:w.cell? ⟨mk,1,none⟩=some (.int .i64 6):=h.bx.get 1 _ rfl
 clear h
 go_enter Tryz.func87,Tryz.ntmps87
 go_wp2
 go_ret
 exact⟨rfl,rfl⟩
section
variable {w w':World} {B g mk e:Nat} {A A1:St} {bl:List Nat} {P:aj.Fn→Prop}
theorem MK.called (h:MK w B g A bl mk e) (hsa:AS w' B g A1 (mk::bl)) (hx:Ext A A1) (hk:KP B (mk::bl) w w'):MK w' B g A1 bl mk e:=
 ⟨hsa,h.bx.kp hk (by simp),h.er.imp id (fun hf=>⟨hf.1,MK.S9 hsa.inv hx hf.2⟩),h.ap⟩
theorem Gd (h:MK w B g A bl mk e) {F:aj.Fn} {en:Ending} (hq:AQ w B g A (mk::bl) P F en w'):
  ∃(A1:St) (r e2:Nat),en= .returned (.tuple #[.int .i64 (r:Int),.int .i64 (e2:Int)])∧Calls Tryz.prog 87 #[.pointer (some ⟨mk,0,none⟩),.int .i64 (r:Int),.int .i64 (e2:Int)] w' (MR w B g A bl mk e P F)∧MK w' B g A1 bl mk e∧KP B bl w w':=by
 obtain⟨A1,hsa,hx,hn,hk,hres⟩:=hq
 have hm:=h.called hsa hx hk
 have hk':KP B bl w w':=hk.mono (fun j hj=>List.mem_cons_of_mem _ hj)
 have key:∀(r e2:Nat),(e2=0∨(e2=6∧A1.len=A1.most))→(e2=0→dF A1 r F)→Calls Tryz.prog 87 #[.pointer (some ⟨mk,0,none⟩),.int .i64 (r:Int),.int .i64 (e2:Int)] w' (MR w B g A bl mk e P F):=by
  intro r e2 he2 hF
  rcases h.er with rfl | ⟨rfl,hf⟩
  ·exact(iN w' B g A1 bl mk hm r e2 he2).mono fun en w2 hg=>MR.kK hx hn hk' hF hg
  ·refine(Xd w' B g A1 bl mk hm r e2).mono fun en w2 hg=>?_
   obtain⟨rfl,rfl⟩:=hg
   exact⟨A1,6,0,rfl,hm,hx,hn,hk',fun h0=>by cases h0⟩
 rcases hres with⟨r,rfl,iO⟩ | ⟨rfl,hfull⟩
 ·exact⟨A1,r,0,rfl,key r 0 (.inl rfl) (fun _=>iO),hm,hk'⟩
 ·exact⟨A1,0,6,rfl,key 0 6 (.inr ⟨rfl,hfull⟩) (fun h0=>by cases h0),hm,hk'⟩
end
def yY (ls:List ah):List Pl:=aR ls
structure RD (w:World) (B g:Nat) (A:St) (bl:List Nat) (mk e rd:Nat) (n:aC) (dV:Value) (nm:Nat) (Mn:aB→Option Value) (Sn:Pl→aj.Fn):Prop where
 m:MK w B g A (rd::nm::bl) mk e
 bx:Bx w rd #[.pointer (some ⟨mk,0,none⟩),.slice n.dA n.dn n.dc,.slice n.lA n.ln n.lc,dV,.map (some nm)] 75
 mn:gY w nm Mn
 ints:Ints Mn
 keys:∀x,(Mn x).isSome =true→x∈yY n.ls
 sn:e=0→∀x,dF A (bK Mn x) (Sn x)
 ne:rd≠nm∧rd∉bl∧nm∉bl
section
variable {w w':World} {B g mk e rd nm:Nat} {A A':St} {bl:List Nat} {n:aC} {dV:Value} {Mn:aB→Option Value} {Sn:Pl→aj.Fn} {P:aj.Fn→Prop}
theorem RD.below (h:RD w B g A bl mk e rd n dV nm Mn Sn) (hb:RowKit.Below w.heap.size w w'):RD w' B g A bl mk e rd n dV nm Mn Sn:=
 ⟨h.m.below hb,h.bx.below hb,h.mn.same (hb.block nm h.mn.lt),h.ints,h.keys,h.sn,h.ne⟩
theorem RD.inv (h:RD w B g A bl mk e rd n dV nm Mn Sn):Inv A:=h.m.inv
theorem RD.kp (h:RD w B g A bl mk e rd n dV nm Mn Sn) (hb:RowKit.Below w.heap.size w w'):KP B bl w w':=(h.m.kp hb).mono (fun j hj=>by simp[hj])
theorem RD.step (h:RD w B g A bl mk e rd n dV nm Mn Sn) {F:aj.Fn} {en:Ending} (hr:MR w B g A (rd::nm::bl) mk e P F en w'):
  ∃(A2:St) (e2 r:Nat),en= .returned (.int .i64 (r:Int))∧RD w' B g A2 bl mk e2 rd n dV nm Mn Sn∧Ext A A2∧qx P A A2∧KP B bl w w'∧(e2=0→e=0∧dF A2 r F):=by
 obtain⟨A2,e2,r,h1,h2,h3,h4,h5,h6⟩:=hr
 exact⟨A2,e2,r,h1,⟨h2,h.bx.kp h5 (by simp),h.mn.same (h5.same nm (by simp)),h.ints,h.keys,fun he x=>(h.sn (h6 he).1 x).ext h.inv h3,h.ne⟩,h3,h4,h5.mono (fun j hj=>by simp[hj]),h6⟩
theorem RD.store (h:RD w B g A bl mk e rd n dV nm Mn Sn) {y:Pl} {r:Nat} {F:aj.Fn} (hy:eU y) (hk:y∈yY n.ls) (hF:e=0→dF A r F) (hL:(yY n.ls).length ≤1000):
  ∃w',(Instr.mapUpdate 73 (.map (some nm)) (eG y) (.int .i64 (r:Int))).run Tryz.prog w= .ok () w'∧RD w' B g A bl mk e rd n dV nm (mI Mn y (.int .i64 (r:Int))) (fun x=>if y=x then F else Sn x)∧KP B bl w w':=by
 obtain⟨w',hrun,r1,r2⟩:=h.mn.Jw lW (yY n.ls) (by unfold maxLen;omega) (fun x _ hx=>h.keys x hx) Tryz.underlying73 hy (.int .i64 (r:Int))
 have hg:=r2.grown
 obtain⟨n1,n2,n3⟩:=h.ne
 have hlts:=h.m.sa.lt
 have hmk:=h.m.ap
 simp only[List.mem_cons,not_or]at hmk
 have hblk:∀j,j<w.heap.size→j≠nm→w'.heap[j]?=w.heap[j]?:=fun j hj hn=>hg.block j hj (fun e=>by cases e;exact hn rfl)
 have hlow:RowKit.Below B w w':=⟨hg.os,hg.tape,hg.output,hg.size,fun i hi=>hblk i (by have:=h.m.sa.hB;omega) (by have:=(hlts nm (by simp)).1;omega)⟩
 refine⟨w',hrun,⟨⟨h.m.sa.grown hg (fun j hj=>by cases hj;simp),h.m.bx.same (hblk mk (hlts mk (by simp)).2 hmk.2.1),h.m.er,h.m.ap⟩,h.bx.same (hblk rd (hlts rd (by simp)).2 n1),r1,?_,?_,?_,h.ne⟩,⟨hlow,fun j hj=>hblk j (hlts j (by simp[hj])).2 (fun e=>n3 (e▸hj))⟩⟩
 ·intro x v hx
  by_cases e:x=y
  ·subst e
   rw[lG]at hx
   cases hx
   exact⟨hy,r,rfl⟩
  ·rw[jc Mn _ e]at hx
   exact h.ints x v hx
 ·intro x hx
  by_cases e:x=y
  ·subst e;exact hk
  ·rw[jc Mn _ e]at hx
   exact h.keys x hx
 ·intro he x
  by_cases e:x=y
  ·subst e
   rw[vV (lG Mn x _),if_pos rfl]
   exact hF he
  ·rw[if_neg (fun e'=>e e'.symm),show bK (mI Mn y (.int .i64 (r:Int))) x=bK Mn x from by unfold bK;rw[jc Mn _ e]]
   exact h.sn he x
end
def eH (ls:List ah) (x:Pl) (F:aj.Fn) (Sn:Pl→aj.Fn):Pl→aj.Fn:=match aD ls x with
 |some y=>fun z=>if y=z then vO (Sn y) F else Sn z
 |none=>Sn
def nS (P:aj.Fn→Prop) (ls:List ah) (x:Pl) (F:aj.Fn) (Sn:Pl→aj.Fn):Prop:=∀y,aD ls x=some y→PC P (vO (Sn y) F)
def qy (w:World) (B g:Nat) (A:St) (bl:List Nat) (mk e rd:Nat) (n:aC) (dV:Value) (nm:Nat) (P:aj.Fn→Prop) (EB:Pl→aj.Fn) (w':World):Prop:=
 ∃(A2:St) (e2:Nat) (kg:aB→Option Value),RD w' B g A2 bl mk e2 rd n dV nm kg EB∧Ext A A2∧qx P A A2∧KP B bl w w'∧(e2=0→e=0)
structure mU (ls:List ah):Prop where
 len:ls.length≤15
 dom:∀x∈aR ls,eU x
theorem zM {ls:List ah} {x y:Pl} (h:aD ls x=some y):y∈aR ls:=by
 induction ls with
 |nil=>simp[aD]at h
 |cons l ls ih=>
  simp only[aD]at h
  rw[pK]
  by_cases h1:dh x l.e1=true
  ·rw[if_pos h1]at h
   cases h
   exact⟨l,by simp,.inr rfl⟩
  ·rw[if_neg h1]at h
   by_cases h2:dh x l.e2=true
   ·rw[if_pos h2]at h
    cases h
    exact⟨l,by simp,.inl rfl⟩
   ·rw[if_neg h2]at h
    obtain⟨l',hl,he⟩:=pK.1 (ih h)
    exact⟨l',by simp[hl],he⟩
theorem zN (ls:List ah):(aR ls).length =2*ls.length:=by
 induction ls with
 |nil=>rfl
 |cons l ls ih=>
  have e:aR (l::ls)=[l.e1,l.e2]++aR ls:=rfl
  rw[e,List.length_append,ih]
  simp
  omega
end Go.Proofs.YtifkacnoiocebaaGreat
