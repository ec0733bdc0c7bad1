/- A part of the proof: OpsQ, MsP, FibBuild, As, AsRow. -/
import Derived.Test.YtlhmdcgckocidaaGreatHr5
import Derived.Test.YtlhmdcgckocidaaGreatHr25
set_option linter.unusedVariables false
set_option linter.unusedSimpArgs false
set_option maxRecDepth 100000
set_option maxHeartbeats 8000000
namespace Go.Proofs.YtlhmdcgckocidaaGreat
open ak Go.Maps Go.RowKit
def ug (F:ak.Fn):ak.Fn:=bH F (fun _=>false) (fun _=>true)
def bL (F G:ak.Fn):ak.Fn:=bH F G (fun _=>false)
def pU (F G:ak.Fn):ak.Fn:=bH F (fun _=>true) G
def PC (P:ak.Fn→Prop) (F:ak.Fn):Prop:=∀G,kS F G→P G
structure MT (w:World) (B g nb kb ib:Nat) (A:St) (P:ak.Fn→Prop) (w1:World) (bg aZ:Nat) (A1:St) (K1 T1:bC→Option Value):Prop where
 ext:Ext A A1
 nw:∀j,A.len≤j→j<A1.len→P (den A1.ns j)
 ar:aN w1 B g bg kb ib aZ A1 K1 T1
 jc:bg=nb∨w.heap.size≤bg
 fm:dX (Fp g nb kb ib) w w1
def MU (w:World) (B g nb kb ib:Nat) (A:St) (P:ak.Fn→Prop) (A1:St) (F:ak.Fn) (e:Ending) (w2:World):Prop:=
 ∃(r dw cap2:Nat) (A2:St) (K2 T2:bC→Option Value),e= .returned (.int .i64 (r:Int))∧MT w B g nb kb ib A P w2 dw cap2 A2 K2 T2∧Ext A1 A2∧WF A2 r F
section
variable {w:World} {B g nb kb ib:Nat} {A:St} {P:ak.Fn→Prop} {w1 w2:World} {bg aZ:Nat} {A1:St} {K1 T1:bC→Option Value}
theorem MT.inv (h:MT w B g nb kb ib A P w1 bg aZ A1 K1 T1):Inv A1:=h.ar.inv
theorem MT.below (h:MT w B g nb kb ib A P w1 bg aZ A1 K1 T1) (hb:RowKit.Below w1.heap.size w1 w2):MT w B g nb kb ib A P w2 bg aZ A1 K1 T1:=
 ⟨h.ext,h.nw,h.ar.below hb,h.jc,h.fm.trans (dX.of_below hb) (fun _ _ h=>h)⟩
theorem MT.refl {cap:Nat} {K T:bC→Option Value} (h:aN w B g nb kb ib cap A K T) (P:ak.Fn→Prop):MT w B g nb kb ib A P w nb cap A K T:=⟨Ext.refl h.inv,fun j h1 h2=>by omega,h,.inl rfl,dX.refl _ _⟩
theorem MT.base {w0:World} (hb:RowKit.Below w0.heap.size w0 w) (h:MT w B g nb kb ib A P w1 bg aZ A1 K1 T1):MT w0 B g nb kb ib A P w1 bg aZ A1 K1 T1:=
 ⟨h.ext,h.nw,h.ar,h.jc.imp id (fun h=>by have:=hb.size;omega),(dX.of_below hb).trans h.fm (fun _ _ h=>h)⟩
theorem MT.step {F G:ak.Fn} {k:Nat} {e:Ending} (hlt:nb<w.heap.size) (h:MT w B g nb kb ib A P w1 bg aZ A1 K1 T1) (hi:tQ w1 B g bg kb ib A1 F k e w2) (hG:A1.full=false→F=G) (hP:PC P G):MU w B g nb kb ib A P A1 G e w2:=by
 obtain⟨r,dw,cap2,A2,K2,T2,he,hr,har,hnb,hfm⟩:=hi
 have hs:=h.fm.size
 refine⟨r,dw,cap2,A2,K2,T2,he,⟨h.ext.trans hr.ext,fun j h1 h2=>?_,har,?_,h.fm.trans hfm (fun i hi hS=>?_)⟩,hr.ext,hr.lt,fun hf=>(hr.eq hf).trans (hG (hr.ext.qV hf))⟩
 ·rcases Nat.lt_or_ge j A1.len with hl | hl
  ·rw[hr.ext.den h.inv hl];exact h.nw j h1 hl
  ·cases hf:A1.full
   ·rw[← hG hf]at hP
    exact hP _ (hr.new j hl h2)
   ·have e1:=h.inv.full hf
    have e2:=hr.ext.inv.bound
    have e3:=hr.ext.most
    simp only[St.len]at*
    omega
 ·rcases hnb with e5 | e5
  ·rw[e5];exact h.jc
  ·exact .inr (by omega)
 ·rcases hS with e | e | e | e
  ·exact .inl e
  ·rcases h.jc with e' | e'
   ·exact .inr (.inl (e.trans e'))
   ·omega
  ·exact .inr (.inr (.inl e))
  ·exact .inr (.inr (.inr e))
theorem EN (hlt:nb<w.heap.size) (h:MT w B g nb kb ib A P w1 bg aZ A1 K1 T1) {f a b:Nat} {F G H:ak.Fn} (hf:WF A1 f F) (ha:WF A1 a G) (hb:WF A1 b H) (hP:PC P (bH F G H)):
  Calls Tryz.prog 202 #[.pointer (some ⟨g,0,none⟩),.int .i64 f,.int .i64 a,.int .i64 b] w1 (MU w B g nb kb ib A P A1 (bH F G H)):=by
 refine(JR _ w1 B g bg kb ib aZ A1 K1 T1 h.ar f a b hf.1 ha.1 hb.1 (Nat.lt_succ_self _)).mono fun e w2 hi=>?_
 exact h.step hlt hi (fun hnf=>by rw[hf.2 hnf,ha.2 hnf,hb.2 hnf]) hP
theorem uX (hlt:nb<w.heap.size) (h:MT w B g nb kb ib A P w1 bg aZ A1 K1 T1) {f:Nat} {F:ak.Fn} (hf:WF A1 f F) (i:Nat) (b:Bool) (hi:i<A.vars) (hP:PC P (aT F i b)):
  Calls Tryz.prog 203 #[.pointer (some ⟨g,0,none⟩),.int .i64 f,.int .i64 i,.bool b] w1 (MU w B g nb kb ib A P A1 (aT F i b)):=by
 refine(Vj h.ar f i b hf.1 (by rw[h.ext.vars];exact hi)).mono fun e w2 hp=>?_
 exact h.step hlt hp (fun hnf=>by rw[hf.2 hnf]) hP
theorem Sz (hlt:nb<w.heap.size) (h:MT w B g nb kb ib A P w1 bg aZ A1 K1 T1) (i:Nat) (hi:i<A.vars) (hP:PC P (fun x=>x i)):
  Calls Tryz.prog 201 #[.pointer (some ⟨g,0,none⟩),.int .i64 i,.int .i64 0,.int .i64 1] w1 (MU w B g nb kb ib A P A1 (fun x=>x i)):=by
 have ok:=h.inv.ok
 have hv:A1.vars=A.vars:=h.ext.vars
 have ZX:=ok.two
 have hv0:=tO ok
 have hv1:=Cq ok
 refine(xZ h.ar i 0 1 (by omega) (by omega) (by omega) (by omega) (by omega)).mono ?_
 rintro e w2 ⟨r,dw,cap2,A2,K2,rfl,qD,har,hnb,hfm⟩
 have hr:nL A1 A2 r (fun x=>x i) i:=zM h.inv (by omega) (fun x y hxy=>hxy i (Nat.le_refl _)) (L:=fun _=>false) (H:=fun _=>true) (by funext x;simp[upd]) (by funext x;simp[upd])
   (lI h.inv (by simp only[St.len];omega) (by rw[hv0];omega) (fun _=>by funext x;simp[iQ])) (lI h.inv (by simp only[St.len];omega) (by rw[hv1];omega) (fun _=>by funext x;simp[mM])) qD
 exact h.step hlt ⟨r,dw,cap2,A2,K2,T1,rfl,hr,har,hnb,hfm⟩ (fun _=>rfl) hP
end
def NY (w:World) (B g nb kb ib:Nat) (A:St) (F:ak.Fn) (P:ak.Fn→Prop) (e:Ending) (W':World):Prop:=
 ∃(r dw cap2:Nat) (A2:St) (K2 T2:bC→Option Value),MT w B g nb kb ib A P W' dw cap2 (oI A2) K2 T2∧Inv A2∧WF A2 r F∧(A2.full=true→e= .returned (.tuple #[.int .i64 0,.int .i64 6]))∧(A2.full=false→e= .returned (.tuple #[.int .i64 (r:Int),.int .i64 0]))
theorem MT.done {w:World} {B g nb kb ib:Nat} {A:St} {P:ak.Fn→Prop} {w1 w2:World} {bg aZ r:Nat} {A1:St} {K1 T1:bC→Option Value} {F:ak.Fn} {e:Ending} (hlt:nb<w.heap.size) (hA:A.full=false) (h:MT w B g nb kb ib A P w1 bg aZ A1 K1 T1) (hw:WF A1 r F)
  (h1:A1.full=true→e= .returned (.tuple #[.int .i64 0,.int .i64 6])) (h2:A1.full=false→e= .returned (.tuple #[.int .i64 (r:Int),.int .i64 0])) (ha:aN w2 B g bg kb ib aZ (oI A1) K1 T1) (hf:dX (Fp g bg kb ib) w1 w2):NY w B g nb kb ib A F P e w2:=by
 have hs:=h.fm.size
 refine⟨r,bg,aZ,A1,K1,T1,⟨⟨h.ext.vars,h.ext.most,h.ext.ns,fun h=>(by rw[hA]at h;cases h),ha.inv⟩,h.nw,ha,h.jc,h.fm.trans hf (fun i hi hS=>?_)⟩,h.inv,hw,h1,h2⟩
 rcases hS with e | e | e | e
 ·exact .inl e
 ·rcases h.jc with e' | e'
  ·exact .inr (.inl (e.trans e'))
  ·omega
 ·exact .inr (.inr (.inl e))
 ·exact .inr (.inr (.inr e))
theorem NY.cases {w:World} {B g nb kb ib:Nat} {A:St} {F:ak.Fn} {P:ak.Fn→Prop} {e:Ending} {W':World} (h:NY w B g nb kb ib A F P e W'):
  ∃(dw cap2:Nat) (A2:St) (K2 T2:bC→Option Value),MT w B g nb kb ib A P W' dw cap2 A2 K2 T2∧A2.full=false∧((∃r:Nat,e= .returned (.tuple #[.int .i64 (r:Int),.int .i64 0])∧dM A2 r F)∨(e= .returned (.tuple #[.int .i64 0,.int .i64 6])∧A2.len=A2.most)):=by
 obtain⟨r,dw,cap2,A2,K2,T2,hm,hi,hw,h1,h2⟩:=h
 cases hf:A2.full
 ·rw[Sr hf]at hm
  exact⟨dw,cap2,A2,K2,T2,hm,hf,.inl ⟨r,h2 hf,hw.1,hw.2 hf⟩⟩
 ·exact⟨dw,cap2,oI A2,K2,T2,hm,rfl,.inr ⟨h1 hf,hi.full hf⟩⟩
structure zl (P:ak.Fn→Prop) (F:ak.Fn) (i j:Nat):Prop where
 p1:PC P (fun x=>x i)
 p2:PC P (fun x=>x j)
 p3:PC P (aT F i false)
 p4:PC P (aT F i true)
 p5:PC P (aT (aT F i false) j true)
 p6:PC P (aT (aT F i false) j false)
 p7:PC P (bH (fun x=>x i) (aT (aT F i false) j true) (aT (aT F i false) j false))
 p8:PC P (aT (aT F i true) j true)
 p9:PC P (aT (aT F i true) j false)
 p10:PC P (bH (fun x=>x i) (aT (aT F i true) j true) (aT (aT F i true) j false))
 p11:PC P (bH (fun x=>x j) (bH (fun x=>x i) (aT (aT F i true) j true) (aT (aT F i true) j false)) (bH (fun x=>x i) (aT (aT F i false) j true) (aT (aT F i false) j false)))
theorem PD {w:World} {B g nb kb ib cap:Nat} {A:St} {K T:bC→Option Value} (h:aN w B g nb kb ib cap A K T) (hA:A.full=false) (f i:Nat) (F:ak.Fn) (hf:dM A f F) (hi:i<A.vars) {P:ak.Fn→Prop} (h1P:PC P (aT F i false)) (h2P:PC P (aT F i true)) (h3P:PC P (wH F i)):
  Calls Tryz.prog 186 #[.pointer (some ⟨g,0,none⟩),.int .i64 f,.int .i64 i] w (NY w B g nb kb ib A (wH F i) P):=by
 have hlen:=h.qC
 have hvs:=h.vs
 obtain⟨hb0,ha0⟩:=aai h (.cells #[.int .i64 f] 3) (.cells #[.int .i64 i] 3)
 have hfl:=hf.1
 have e1:((w.alloc (.cells #[.int .i64 f] 3)).alloc (.cells #[.int .i64 i] 3)).heap[w.heap.size]?=some (.cells #[.int .i64 f] 3 (0,0)):=(RowKit.Below.heap_alloc _ _ _ (by simp)).trans (heap_alloc_new w _)
 have e2:((w.alloc (.cells #[.int .i64 f] 3)).alloc (.cells #[.int .i64 i] 3)).heap[w.heap.size+1]?=some (.cells #[.int .i64 i] 3 (0,0)):=by
  have:=heap_alloc_new (w.alloc (.cells #[.int .i64 f] 3)) (.cells #[.int .i64 i] 3)
  simpa using this
 have HI1:=hide (Kt w.heap.size ((w.alloc (.cells #[.int .i64 f] 3)).alloc (.cells #[.int .i64 i] 3)).heap.size (by simp;omega) f (by omega) 3 e1)
 have HI2:=hide (Kt (w.heap.size+1) ((w.alloc (.cells #[.int .i64 f] 3)).alloc (.cells #[.int .i64 i] 3)).heap.size (by simp) i (by omega) 3 e2)
 have fM:=hide (show qE A [(f:Int)] [(i:Int)]from⟨fun x hx=>by
  simp only[List.mem_cons,List.mem_nil_iff,or_false]at hx
  rw[hx];omega,fun x hx=>by
  simp only[List.mem_cons,List.mem_nil_iff,or_false]at hx
  rw[hx];omega⟩)
 have zk:=hide ha0
 have HB0:=hide hb0
 have mJ:=hide (MT.base hb0 (MT.refl ha0 P))
 have jV:=hide h.pO.2.1
 have SA:=hide (WF.of hf)
 have HI:=hide hi
 have HAF:=hide hA
 have Gm:=hide h.inv
 clear h hf hi hA e1 e2 hb0 ha0 hfl
 go_enter Tryz.func186,Tryz.ntmps186
 go_wp2_with fail
 refine(tT zk.out _ _ _ _ 1 1 1 1 (by omega) (by omega) HI1.out HI2.out).mono ?_
 rintro e wa ⟨he,_,hb⟩
 obtain rfl:=he fM.out
 have iP:=hide (mJ.out.below hb)
 clear hb he HI1 HI2 zk mJ
 go_wp2_with fail
 refine(uX jV.out iP.out SA.out i false HI.out h1P).mono ?_
 rintro e wb ⟨r2,dw,cap2,A2,K2,T2,rfl,hm2,hx2,hw2⟩
 have Br:=hide hm2
 have bO:=hide hx2
 have HR2:=hide hw2
 clear hm2 hx2 hw2
 have KA:=hide (SA.out.ext iP.out.inv bO.out)
 go_wp2_with fail
 refine(uX jV.out Br.out KA.out i true HI.out h2P).mono ?_
 rintro e wc ⟨r3,x9,vI,A3,K3,T3,rfl,yc,hx3,hw3⟩
 have nZ:=hide yc
 have cu:=hide hx3
 have HR3:=hide hw3
 clear yc hx3 hw3
 have aam:=hide (HR2.out.ext Br.out.inv cu.out)
 have GL:=hide (WF.of (dM.one nZ.out.inv))
 have HC:Hid (Calls Tryz.prog 202 #[.pointer (some ⟨g,0,none⟩),.int .i64 r2,.int .i64 1,.int .i64 r3] wc (MU w B g nb kb ib A P A3 (bH (aT F i false) (fun _=>true) (aT F i true)))):=hide (EN jV.out nZ.out aam.out GL.out HR3.out h3P)
 clear iP Br bO cu KA HR2 aam GL HR3
 go_wp2_with fail
 refine HC.out.mono ?_
 rintro e wd ⟨r4,Df,cap4,A4,K4,T4,rfl,zf,hx4,hw4⟩
 have uY:=hide zf
 have dW:=hide hx4
 have HR4:=hide hw4
 clear zf hx4 hw4
 go_wp2_with fail
 refine(xY uY.out.ar r4).mono ?_
 rintro e we ⟨h1,h2,har,hfm⟩
 have HF:=hide (uY.out.done jV.out HAF.out HR4.out h1 h2 har hfm)
 clear har hfm
 cases hfull:A4.full
 ·obtain rfl:=h2 hfull
  go_wp2
  go_ret2
  exact HF.out
 ·obtain rfl:=h1 hfull
  go_wp2
  go_ret2
  exact HF.out
theorem IQ {w:World} {B g nb kb ib cap:Nat} {A:St} {K T:bC→Option Value} (h:aN w B g nb kb ib cap A K T) (hA:A.full=false) (f i j:Nat) (F:ak.Fn) (hf:dM A f F) (hi:i<A.vars) (hj:j<A.vars) (hij:i≠j) {P:ak.Fn→Prop} (hP:zl P F i j):
  Calls Tryz.prog 185 #[.pointer (some ⟨g,0,none⟩),.int .i64 f,.int .i64 i,.int .i64 j] w (NY w B g nb kb ib A (sj F i j) P):=by
 have qY:=hide (show sj F i j=bH (fun x=>x j) (bH (fun x=>x i) (aT (aT F i true) j true) (aT (aT F i true) j false)) (bH (fun x=>x i) (aT (aT F i false) j true) (aT (aT F i false) j false))from by
  funext x
  simp only[sj,bH,aT]
  rcases Bool.eq_false_or_eq_true (x i)with h1 | h1<;>rcases Bool.eq_false_or_eq_true (x j)with h2 | h2<;>simp[h1,h2])
 rw[qY.out]
 have hij':((i:Int)==(j:Int))=false:=by simp;omega
 have dP:=hide hP
 clear hij hP
 have hlen:=h.qC
 have hvs:=h.vs
 obtain⟨hb0,ha0⟩:=aai h (.cells #[.int .i64 f] 3) (.cells #[.int .i64 i,.int .i64 j] 3)
 have hfl:=hf.1
 have e1:((w.alloc (.cells #[.int .i64 f] 3)).alloc (.cells #[.int .i64 i,.int .i64 j] 3)).heap[w.heap.size]?=some (.cells #[.int .i64 f] 3 (0,0)):=(RowKit.Below.heap_alloc _ _ _ (by simp)).trans (heap_alloc_new w _)
 have e2:((w.alloc (.cells #[.int .i64 f] 3)).alloc (.cells #[.int .i64 i,.int .i64 j] 3)).heap[w.heap.size+1]?=some (.cells #[.int .i64 i,.int .i64 j] 3 (0,0)):=by
  have:=heap_alloc_new (w.alloc (.cells #[.int .i64 f] 3)) (.cells #[.int .i64 i,.int .i64 j] 3)
  simpa using this
 have HI1:=hide (Kt w.heap.size ((w.alloc (.cells #[.int .i64 f] 3)).alloc (.cells #[.int .i64 i,.int .i64 j] 3)).heap.size (by simp;omega) f (by omega) 3 e1)
 have HI2:=hide (acp w ((w.alloc (.cells #[.int .i64 f] 3)).alloc (.cells #[.int .i64 i,.int .i64 j] 3)).heap.size (w.heap.size+1) (by simp) i j (by omega) (by omega) 3 e2)
 have fM:=hide (show qE A [(f:Int)] [(i:Int),(j:Int)]from⟨fun x hx=>by
  simp only[List.mem_cons,List.mem_nil_iff,or_false]at hx
  rw[hx];omega,fun x hx=>by
  simp only[List.mem_cons,List.mem_nil_iff,or_false]at hx
  rcases hx with rfl | rfl<;>omega⟩)
 have zk:=hide ha0
 have HB0:=hide hb0
 have mJ:=hide (MT.base hb0 (MT.refl ha0 P))
 have jV:=hide h.pO.2.1
 have SA:=hide (WF.of hf)
 have HAF:=hide hA
 have HI:=hide (And.intro hi hj)
 clear h hf hi hj hA e1 e2 hb0 ha0 hfl
 go_enter Tryz.func185,Tryz.ntmps185
 go_wp2_with fail
 refine(tT zk.out _ _ _ _ 1 2 1 2 (by omega) (by omega) HI1.out HI2.out).mono ?_
 rintro e wa ⟨he,_,hb⟩
 obtain rfl:=he fM.out
 have iP:=hide (mJ.out.below hb)
 clear hb he HI1 HI2 zk mJ
 go_wp2_with fail
 refine(Sz jV.out iP.out i HI.out.1 dP.out.p1).mono ?_
 rintro e w2 ⟨r2,dw,cap2,A2,K2,T2,rfl,hm2,hx2,hw2⟩
 have Br:=hide hm2
 have bO:=hide hx2
 have HR2:=hide hw2
 clear hm2 hx2 hw2
 have KA:=hide (SA.out.ext iP.out.inv bO.out)
 clear iP bO SA
 go_wp2_with fail
 refine(Sz jV.out Br.out j HI.out.2 dP.out.p2).mono ?_
 rintro e w3 ⟨r3,x9,vI,A3,K3,T3,rfl,yc,hx3,hw3⟩
 have nZ:=hide yc
 have cu:=hide hx3
 have HR3:=hide hw3
 clear yc hx3 hw3
 have WX:=hide (HR2.out.ext Br.out.inv cu.out)
 clear HR2
 have KC:=hide (KA.out.ext Br.out.inv cu.out)
 clear KA
 clear Br cu
 go_wp2_with fail
 refine(uX jV.out nZ.out KC.out i false HI.out.1 dP.out.p3).mono ?_
 rintro e w4 ⟨r4,Df,cap4,A4,K4,T4,rfl,zf,hx4,hw4⟩
 have uY:=hide zf
 have dW:=hide hx4
 have HR4:=hide hw4
 clear zf hx4 hw4
 have NZ:=hide (WX.out.ext nZ.out.inv dW.out)
 clear WX
 have WY:=hide (HR3.out.ext nZ.out.inv dW.out)
 clear HR3
 have KD:=hide (KC.out.ext nZ.out.inv dW.out)
 clear KC
 clear nZ dW
 go_wp2_with fail
 refine(uX jV.out uY.out KD.out i true HI.out.1 dP.out.p4).mono ?_
 rintro e w5 ⟨r5,wV,cap5,A5,K5,T5,rfl,SB,hx5,hw5⟩
 have uV:=hide SB
 have dR:=hide hx5
 have lN:=hide hw5
 clear SB hx5 hw5
 have H8:=hide (NZ.out.ext uY.out.inv dR.out)
 clear NZ
 have N7:=hide (WY.out.ext uY.out.inv dR.out)
 clear WY
 have PG:=hide (HR4.out.ext uY.out.inv dR.out)
 clear HR4
 clear uY dR KD
 go_wp2_with fail
 refine(uX jV.out uV.out PG.out j true HI.out.2 dP.out.p5).mono ?_
 rintro e w6 ⟨r6,nb6,cap6,A6,K6,T6,rfl,Nw,hx6,Bt⟩
 have EO:=hide Nw
 have gD:=hide hx6
 have iV:=hide Bt
 clear Nw hx6 Bt
 have Dh:=hide (H8.out.ext uV.out.inv gD.out)
 clear H8
 have H9:=hide (N7.out.ext uV.out.inv gD.out)
 clear N7
 have N8:=hide (PG.out.ext uV.out.inv gD.out)
 clear PG
 have WZ:=hide (lN.out.ext uV.out.inv gD.out)
 clear lN
 clear uV gD
 go_wp2_with fail
 refine(uX jV.out EO.out N8.out j false HI.out.2 dP.out.p6).mono ?_
 rintro e w7 ⟨r7,nb7,ahT,A7,K7,T7,rfl,hm7,hx7,hw7⟩
 have Ia:=hide hm7
 have uZ:=hide hx7
 have gY:=hide hw7
 clear hm7 hx7 hw7
 have vJ:=hide (Dh.out.ext EO.out.inv uZ.out)
 clear Dh
 have Di:=hide (H9.out.ext EO.out.inv uZ.out)
 clear H9
 have N9:=hide (WZ.out.ext EO.out.inv uZ.out)
 clear WZ
 have W9:=hide (iV.out.ext EO.out.inv uZ.out)
 clear iV
 clear EO uZ N8
 go_wp2_with fail
 refine(EN jV.out Ia.out vJ.out W9.out gY.out dP.out.p7).mono ?_
 rintro e w8 ⟨r8,nb8,ahU,A8,K8,T8,rfl,J4,pK,hw8⟩
 have EP:=hide J4
 have ER:=hide pK
 have iW:=hide hw8
 clear J4 pK hw8
 have yh:=hide (vJ.out.ext Ia.out.inv ER.out)
 clear vJ
 have Az:=hide (Di.out.ext Ia.out.inv ER.out)
 clear Di
 have Bu:=hide (N9.out.ext Ia.out.inv ER.out)
 clear N9
 clear Ia ER W9 gY
 go_wp2_with fail
 refine(uX jV.out EP.out Bu.out j true HI.out.2 dP.out.p8).mono ?_
 rintro e w9 ⟨r9,nb9,aeL,A9,K9,T9,rfl,hm9,hx9,lQ⟩
 have xW:=hide hm9
 have ES:=hide hx9
 have mQ:=hide lQ
 clear hm9 hx9 lQ
 have vR:=hide (yh.out.ext EP.out.inv ES.out)
 clear yh
 have yj:=hide (Az.out.ext EP.out.inv ES.out)
 clear Az
 have Dj:=hide (Bu.out.ext EP.out.inv ES.out)
 clear Bu
 have Xa:=hide (iW.out.ext EP.out.inv ES.out)
 clear iW
 clear EP ES
 go_wp2_with fail
 refine(uX jV.out xW.out Dj.out j false HI.out.2 dP.out.p9).mono ?_
 rintro e ng ⟨r10,ahV,ahF,ET,K10,T10,rfl,aan,Bv,aao⟩
 have PI:=hide aan
 have Bw:=hide Bv
 have qL:=hide aao
 clear aan Bv aao
 have sD:=hide (vR.out.ext xW.out.inv Bw.out)
 clear vR
 have vg:=hide (yj.out.ext xW.out.inv Bw.out)
 clear yj
 have KE:=hide (Xa.out.ext xW.out.inv Bw.out)
 clear Xa
 have SC:=hide (mQ.out.ext xW.out.inv Bw.out)
 clear mQ
 clear xW Bw Dj
 go_wp2_with fail
 refine(EN jV.out PI.out sD.out SC.out qL.out dP.out.p10).mono ?_
 rintro e xg ⟨r11,ahW,ahG,A11,K11,T11,rfl,aap,aaq,aar⟩
 have aas:=hide aap
 have KG:=hide aaq
 have Bz:=hide aar
 clear aap aaq aar
 have qZ:=hide (vg.out.ext PI.out.inv KG.out)
 clear vg
 have Dk:=hide (KE.out.ext PI.out.inv KG.out)
 clear KE
 clear PI KG SC qL sD
 go_wp2_with fail
 refine(EN jV.out aas.out qZ.out Bz.out Dk.out dP.out.p11).mono ?_
 rintro e w12 ⟨r12,ahX,ahH,A12,K12,T12,rfl,aat,aau,aav⟩
 have aaw:=hide aat
 have ae3:=hide aau
 have PK:=hide aav
 clear aat aau aav
 clear aas ae3 qZ Bz Dk
 go_wp2_with fail
 refine(xY aaw.out.ar r12).mono ?_
 rintro e we ⟨h1,h2,har,hfm⟩
 have HF:=hide (aaw.out.done jV.out HAF.out PK.out h1 h2 har hfm)
 clear har hfm
 cases hfull:A12.full
 ·obtain rfl:=h2 hfull
  go_wp2
  go_ret2
  exact HF.out
 ·obtain rfl:=h1 hfull
  go_wp2
  go_ret2
  exact HF.out
def gM (P:Nat→Bool):Nat→Nat
 |0=>0
 |k+1=>if P k then gM P k ||| 2 ^ k else gM P k
theorem Vk (P:Nat→Bool):∀k,gM P k<2 ^ k:=by
 intro k
 induction k with
 |zero=>simp[gM]
 |succ k ih=>
  have:gM P k<2 ^ (k+1):=Nat.lt_of_lt_of_le ih (Nat.pow_le_pow_right (by omega) (by omega))
  unfold gM
  split
  ·exact Nat.or_lt_two_pow this (Nat.pow_lt_pow_right (by omega) (by omega))
  ·exact this
theorem EU (P:Nat→Bool) {k:Nat} (hk:k≤16):gM P k<65536:=Nat.lt_of_lt_of_le (Vk P k) (Nat.pow_le_pow_right (by omega) hk:2 ^ k≤2 ^ 16)
def kX (l:List aW) (port:Int) (k:Nat):Bool:=decide (0≤(lU (k:Int) l).2) && ((lU (k:Int) l).1==port)
def qM (w:World) (N d:Nat):Prop:=w.cell? ⟨N,0,none⟩=some (.int .u16 65535)∧w.cell? ⟨N,1,none⟩=some (.int .u16 d)∧w.cell? ⟨N,2,none⟩=some (.int .u8 255)∧w.cell? ⟨N,3,none⟩=some (.int .u8 255)∧w.frozen? ⟨N,1,none⟩=false
theorem qM.below {w w':World} {B N d:Nat} (h:qM w N d) (hB:RowKit.Below B w w') (hN:N<B):qM w' N d:=by
 have e:∀o,w'.cell? ⟨N,o,none⟩=w.cell? ⟨N,o,none⟩:=fun o=>hB.cell (p:=⟨N,o,none⟩) hN
 unfold qM
 rw[e,e,e,e,hB.frozen (p:=⟨N,1,none⟩) hN]
 exact h
theorem qM.drew {w:World} {N d:Nat} (h:qM w N d):qM w.drew N d:=h
theorem qM.set {w:World} {N d d':Nat} (h:qM w N d):qM (w.setCell ⟨N,1,none⟩ (.int .u16 d')) N d':=by
 have ho:∀o,o≠1→(w.setCell ⟨N,1,none⟩ (.int .u16 (d':Int))).cell? ⟨N,o,none⟩=w.cell? ⟨N,o,none⟩:=fun o ho=>World.cell?_setCell_other w _ _ _ (fun e=>by simp only[Addr.mk.injEq]at e;omega)
 obtain⟨h0,h1,h2,h3,h4⟩:=h
 exact⟨by rw[ho 0 (by omega)];exact h0,World.cell?_setCell_same w ⟨N,1,none⟩ _ h1,by rw[ho 2 (by omega)];exact h2,by rw[ho 3 (by omega)];exact h3,by rw[World.frozen?_setCell];exact h4⟩
theorem qM.set' {w:World} {N d d':Nat} {x:Int} (h:qM w N d) (hx:x=(d':Int)):qM (w.setCell ⟨N,1,none⟩ (.int .u16 x)) N d':=hx▸h.set
theorem BP.base {w w1:World} {B g nb kb ib:Nat} {A:St} {F:ak.Fn} {P:ak.Fn→Prop} {e:Ending} {W':World} (hb:RowKit.Below w.heap.size w w1) (h:BP w1 B g nb kb ib A F P e W'):BP w B g nb kb ib A F P e W':=by
 obtain⟨dw,cap2,A2,K2,T2,h1,h2,h3,h4,h5,h6,h7⟩:=h
 exact⟨dw,cap2,A2,K2,T2,h1,h2,h3,h4,h5.imp id (fun h=>by have:=hb.size;omega),(dX.of_below hb).trans h6 (fun _ _ h=>h),h7⟩
theorem aax (s k:Nat) (hs:s<65536) (hk:k<16):Go.bits .or .u16 (s:Int) (IntKind.u16.wrap (2 ^ k))=((s ||| 2 ^ k:Nat):Int):=by
 have h2:(2:Nat) ^ k<65536:=Nat.pow_lt_pow_right (by omega) hk
 have e:IntKind.u16.wrap ((2:Int) ^ k)=((2 ^ k:Nat):Int):=by
  have:∀i:Fin 16,IntKind.u16.wrap ((2:Int) ^ i.val)=((2 ^ i.val:Nat):Int):=by decide+kernel
  exact this ⟨k,hk⟩
 rw[e];exact u16_or s (2 ^ k) hs h2
theorem IU {w:World} {B g nb kb ib cap:Nat} {A:St} {K T:bC→Option Value} (h:aN w B g nb kb ib cap A K T) (hA:A.full=false) (hv:14≤A.vars) (l:List aW) (a:Option Addr) (n c:Nat) (port:Int)
  (hn:n≤9223372036854775807) (hnc:n≤c) (hl:bB aW.cells 3 w w.heap.size a n l) (hok:∀r∈l,r.ok) (hc:gT l=0):
  Calls Tryz.prog 147 #[.pointer (some ⟨g,0,none⟩),.slice a n c,.int .i64 port] w (BP w B g nb kb ib A (outs (dQ 65535 (gM (kX l port) 16) 255 255)) (lX (dQ 65535 (gM (kX l port) 16) 255 255))):=by
 have HC:=hide (fun w1 (hb:RowKit.Below w.heap.size w w1)=>nQ l a n c w1 hnc (hl.below hb hb.size) hok)
 have HO:=hide (fun w1 (k:Nat) (hk:k<16) (hb:RowKit.Below w.heap.size w w1)=>Gh l a n c (k:Int) w1 hn ⟨by omega,by omega⟩ (hl.below hb hb.size) hok)
 have HE:=hide hc
 have H:=hide h
 have HAV:=hide (And.intro hA hv)
 clear hl hok hc h hA hv
 go_enter Tryz.func147,Tryz.ntmps147
 go_wp2_with fail
 refine(HC.out _ (RowKit.Below.refl _ _)).mono ?_
 rintro e w1 ⟨rfl,hb1⟩
 rw[HE.out]
 have HB:=hide hb1
 clear hb1
 go_wp2_with fail
 refine(zH _).mono ?_
 rintro e w2 ⟨rfl,hb2⟩
 have HB2:=hide (HB.out.trans (hb2.mono HB.out.size))
 clear hb2
 have hsz2:=HB2.out.size
 go_wp2
 have hbx:=heap_alloc_new w2 (.cells #[.int .u16 65535,.int .u16 0,.int .u8 255,.int .u8 255] 32)
 have mJ:Hid (qM (w2.alloc (.cells #[.int .u16 65535,.int .u16 0,.int .u8 255,.int .u8 255] 32)) w2.heap.size (gM (kX l port) 0)):=hide
  ⟨by rw[cell_of_row _ _ _ _ _ _ hbx];rfl,by rw[cell_of_row _ _ _ _ _ _ hbx];rfl,by rw[cell_of_row _ _ _ _ _ _ hbx];rfl,by rw[cell_of_row _ _ _ _ _ _ hbx];rfl,by unfold World.frozen?;rw[hbx];simp⟩
 clear hbx
 obtain⟨N,hN⟩:∃N,w2.heap.size=N:=⟨_,rfl⟩
 have HB3:=hide (HB2.out.alloc hsz2 (.cells #[.int .u16 65535,.int .u16 0,.int .u8 255,.int .u8 255] 32))
 have hN3:N<(w2.alloc (.cells #[.int .u16 65535,.int .u16 0,.int .u8 255,.int .u8 255] 32)).heap.size :=by simp;omega
 rw[hN]at mJ hsz2 ⊢
 generalize w2.alloc _=w3 at*
 clear hN HB2 HB
 go_loopw [20] (fun i wr=>∃k:Nat,k≤16∧i= .int .i64 k∧Hid (qM wr N (gM (kX l port) k))∧RowKit.Below w.heap.size w wr∧N<wr.heap.size) (fun i _=>16 - (intOf i).toNat)
 case atStart=>exact⟨0,Nat.zero_le _,rfl,mJ,HB3.out,hN3⟩
 case round=>
  clear mJ HB3 hN3
  obtain⟨k,hk,rfl,HM,hb,hNr⟩:=hrel
  have kV:=hide hb
  clear hb
  by_cases hlt:k<16
  ·go_wp2_with fail
   refine(HO.out _ k hlt kV.out).mono ?_
   rintro e w4 ⟨rfl,hb4⟩
   have uY:=hide (HM.out.below hb4 hNr)
   have bJ:=hide (kV.out.trans (hb4.mono kV.out.size))
   have hN4:N<w4.heap.size:=Nat.lt_of_lt_of_le hNr hb4.size
   clear hb4 kV HM hNr
   cases hp1:decide (0≤(lU (k:Int) l).2)
   ·have HS:=hide (show gM (kX l port) (k+1)=gM (kX l port) k from by simp only[gM,kX,hp1];simp)
    go_wp2
    go_roundw
    case rel=>exact⟨k+1,by omega,by go_num,HS.out.symm▸uY,bJ.out,hN4⟩
    case measure=>simp[intOf];omega
   cases hp2:((lU (k:Int) l).1==port)
   ·have HS:=hide (show gM (kX l port) (k+1)=gM (kX l port) k from by simp only[gM,kX,hp1,hp2];simp)
    go_wp2
    go_roundw
    case rel=>exact⟨k+1,by omega,by go_num,HS.out.symm▸uY,bJ.out,hN4⟩
    case measure=>simp[intOf];omega
   have HS:=hide (show gM (kX l port) (k+1)=gM (kX l port) k ||| 2 ^ k from by simp only[gM,kX,hp1,hp2];simp)
   have HX:=hide (aax (gM (kX l port) k) k (EU _ hk) hlt)
   obtain⟨y0,y1,y2,y3,y4⟩:=uY.out
   go_wp2
   go_region
   all_goals
    go_wp2
    go_roundw
    case rel=>exact⟨k+1,by omega,by go_num,hide (by rw[HS.out];exact(uY.out.set' HX.out).drew),(bJ.out.setCell hsz2 _).drew,by simp[World.setCell];exact hN4⟩
    case measure=>simp[intOf];omega
  ·have ae4:k=16:=by omega
   subst ae4
   obtain⟨y0,y1,y2,y3,y4⟩:=HM.out
   have fF:Hid (Calls Tryz.prog 143 #[.pointer (some ⟨g,0,none⟩),.agg #[.int .u16 65535,.int .u16 (gM (kX l port) 16:Nat),.int .u8 255,.int .u8 255]] wr (BP wr B g nb kb ib A (outs (dQ 65535 (gM (kX l port) 16) 255 255)) (lX (dQ 65535 (gM (kX l port) 16) 255 255)))):=
    hide (zY (H.out.below kV.out) HAV.out.1 HAV.out.2 65535 (gM (kX l port) 16) 255 255 (by omega) (EU _ (Nat.le_refl _)) (by omega) (by omega))
   go_wp2_with fail
   refine fF.out.mono ?_
   rintro e w5 hbp
   have HF:=hide (hbp.base kV.out)
   obtain⟨_,_,_,_,_,_,_,_,_,_,_,hres⟩:=hbp
   clear fF
   rcases hres with⟨r,rfl,_,_⟩ | ⟨rfl,_⟩
   all_goals
    go_wp2
    go_ret2
    exact HF.out
theorem below_alloc2 (w:World) (o:Obj):RowKit.Below w.heap.size w (w.alloc o):=(RowKit.Below.refl _ _).alloc (Nat.le_refl _) o
theorem Xb {g nb kb ib dw s k:Nat} (hn:dw=nb∨s≤dw) (hk:k<s) (h:¬Fp g nb kb ib k):¬Fp g dw kb ib k:=fun e=>by
 rcases e with e | e | e | e
 ·exact h (.inl e)
 ·rcases hn with e' | e'
  ·exact h (.inr (.inl (e.trans e')))
  ·omega
 ·exact h (.inr (.inr (.inl e)))
 ·exact h (.inr (.inr (.inr e)))
structure AS (w:World) (B g:Nat) (A:St) (bl:List Nat):Prop where
 ar:∃(nb kb ib cap:Nat) (K T:bC→Option Value),aN w B g nb kb ib cap A K T∧∀j∈bl,B≤j∧j<w.heap.size∧¬Fp g nb kb ib j
 nf:A.full=false
structure KP (B:Nat) (bl:List Nat) (w w':World):Prop where
 low:RowKit.Below B w w'
 same:∀j∈bl,w'.heap[j]?=w.heap[j]?
theorem KP.refl (B:Nat) (bl:List Nat) (w:World):KP B bl w w:=⟨RowKit.Below.refl _ _,fun _ _=>rfl⟩
theorem KP.trans {B:Nat} {bl:List Nat} {a b c:World} (h:KP B bl a b) (k:KP B bl b c):KP B bl a c:=⟨h.low.trans k.low,fun j hj=>(k.same j hj).trans (h.same j hj)⟩
theorem KP.mono {B:Nat} {bl Dl:List Nat} {a b:World} (h:KP B bl a b) (hs:∀j∈Dl,j∈bl):KP B Dl a b:=⟨h.low,fun j hj=>h.same j (hs j hj)⟩
section
variable {w w':World} {B g:Nat} {A:St} {bl:List Nat}
theorem AS.inv (h:AS w B g A bl):Inv A:=by
 obtain⟨nb,kb,ib,cap,K,T,ha,_⟩:=h.ar
 exact ha.inv
theorem AS.hB (h:AS w B g A bl):B<w.heap.size:=by
 obtain⟨nb,kb,ib,cap,K,T,ha,_⟩:=h.ar
 obtain⟨l1,l2,l3,l4,l5⟩:=ha.pO
 omega
theorem AS.lt (h:AS w B g A bl):∀j∈bl,B≤j∧j<w.heap.size:=by
 obtain⟨nb,kb,ib,cap,K,T,ha,hb⟩:=h.ar
 exact fun j hj=>⟨(hb j hj).1,(hb j hj).2.1⟩
theorem AS.mono {Dl:List Nat} (h:AS w B g A bl) (hs:∀j∈Dl,j∈bl):AS w B g A Dl:=by
 obtain⟨nb,kb,ib,cap,K,T,ha,hb⟩:=h.ar
 exact⟨⟨nb,kb,ib,cap,K,T,ha,fun j hj=>hb j (hs j hj)⟩,h.nf⟩
theorem AS.below (h:AS w B g A bl) (hb:RowKit.Below w.heap.size w w'):AS w' B g A bl:=by
 obtain⟨nb,kb,ib,cap,K,T,ha,hf⟩:=h.ar
 exact⟨⟨nb,kb,ib,cap,K,T,ha.below hb,fun j hj=>⟨(hf j hj).1,Nat.lt_of_lt_of_le (hf j hj).2.1 hb.size,(hf j hj).2.2⟩⟩,h.nf⟩
theorem AS.kp (h:AS w B g A bl) (hb:RowKit.Below w.heap.size w w'):KP B bl w w':=⟨hb.mono (Nat.le_of_lt h.hB),fun j hj=>hb.block j (h.lt j hj).2⟩
theorem AS.turned (h:AS w B g A bl) (hs:w.heap.size≤w'.heap.size) (hc:∀i,i<w.heap.size→i∉bl→w'.heap[i]?=w.heap[i]?):AS w' B g A bl:=by
 obtain⟨nb,kb,ib,cap,K,T,ha,hf⟩:=h.ar
 obtain⟨l1,l2,l3,l4,l5⟩:=ha.pO
 have hk:∀i,i<w.heap.size→Fp g nb kb ib i→w'.heap[i]?=w.heap[i]?:=fun i hi hF=>hc i hi (fun hm=>(hf i hm).2.2 hF)
 exact⟨⟨nb,kb,ib,cap,K,T,ha.keep (hk g l1 (.inl rfl)) (hk nb l2 (.inr (.inl rfl))) (hk kb l3 (.inr (.inr (.inl rfl)))) (hk ib l4 (.inr (.inr (.inr rfl)))),fun j hj=>⟨(hf j hj).1,Nat.lt_of_lt_of_le (hf j hj).2.1 hs,(hf j hj).2.2⟩⟩,h.nf⟩
theorem AS.add (h:AS w B g A bl) (hs:w.heap.size≤w'.heap.size) (hc:∀i,i<w.heap.size→i∉bl→w'.heap[i]?=w.heap[i]?) {j:Nat} (h1:w.heap.size≤j) (h2:j<w'.heap.size):AS w' B g A (j::bl):=by
 have hB:=h.hB
 obtain⟨⟨nb,kb,ib,cap,K,T,ha,hf⟩,hnf⟩:=h
 obtain⟨l1,l2,l3,l4,l5⟩:=ha.pO
 have hk:∀i,i<w.heap.size→Fp g nb kb ib i→w'.heap[i]?=w.heap[i]?:=fun i hi hF=>hc i hi (fun hm=>(hf i hm).2.2 hF)
 refine⟨⟨nb,kb,ib,cap,K,T,ha.keep (hk g l1 (.inl rfl)) (hk nb l2 (.inr (.inl rfl))) (hk kb l3 (.inr (.inr (.inl rfl)))) (hk ib l4 (.inr (.inr (.inr rfl)))),fun i hi=>?_⟩,hnf⟩
 rcases List.mem_cons.1 hi with rfl | hi
 ·exact⟨by omega,h2,fun e=>by rcases e with e | e | e | e<;>omega⟩
 ·exact⟨(hf i hi).1,Nat.lt_of_lt_of_le (hf i hi).2.1 hs,(hf i hi).2.2⟩
theorem AS.alloc (h:AS w B g A bl) (o:Obj):AS (w.alloc o) B g A (w.heap.size::bl):=
 h.add (by simp) (fun i hi _=>(MapKept.heap_alloc w o).2 i hi) (Nat.le_refl _) (by simp)
theorem AS.grown (h:AS w B g A bl) {row:Option Nat} (hg:w.grownBy w' row) (hr:∀j,row=some j→j∈bl):AS w' B g A bl:=
 h.turned hg.size (fun i hi hn=>hg.block i hi (fun e=>hn (hr i e.symm)))
theorem AS.Vl (h:AS w B g A bl) {row:Option Nat} (hg:w.grownBy w' row) (hr:∀j,row=some j→j∈bl) {j:Nat} (h1:w.heap.size≤j) (h2:j<w'.heap.size):AS w' B g A (j::bl):=
 h.add hg.size (fun i hi hn=>hg.block i hi (fun e=>hn (hr i e.symm))) h1 h2
theorem KP.oH {row:Option Nat} (hg:w.grownBy w' row) (hB:B≤w.heap.size) (hl:∀j∈bl,j<w.heap.size) (hr:∀j,row=some j→B≤j∧j∉bl):KP B bl w w':=
 ⟨⟨hg.os,hg.tape,hg.output,hg.size,fun i hi=>hg.block i (by omega) (fun e=>by have:=(hr i e.symm).1;omega)⟩,fun j hj=>hg.block j (hl j hj) (fun e=>(hr j e.symm).2 hj)⟩
theorem Vm (h:AS w B g A bl) {f:Nat} {F:ak.Fn} (hf:dM A f F):Calls Tryz.prog 71 #[.pointer (some ⟨g,0,none⟩),.int .i64 f] w fun e w'=>e= .returned (.tuple #[.int .i64 (cntF A.vars A.vars F:Nat),.int .i64 0])∧RowKit.Below w.heap.size w w':=by
 obtain⟨nb,kb,ib,cap,K,T,har,hb⟩:=h.ar
 have:=Kz har f hf.1
 rw[hf.2]at this
 exact this
theorem aaA (w:World) (vars most:Nat) (hv:1≤vars) (hv2:vars≤16) (hm:2≤most) (hm2:most≤40000):
  Calls Tryz.prog 55 #[.int .i64 vars,.int .i64 most] w fun e w'=>∃g,e= .returned (.tuple #[.pointer (some ⟨g,0,none⟩),.int .i64 0])∧AS w' w.heap.size g (lM vars most) []∧RowKit.Below w.heap.size w w':=
 (UU w vars most hv hv2 hm hm2).mono fun e w' hq=>by
  obtain⟨g,nb,kb,ib,he,ha,hb⟩:=hq
  exact⟨g,he,⟨⟨nb,kb,ib,_,_,_,ha,fun j hj=>by cases hj⟩,rfl⟩,hb⟩
end
def Bx (w:World) (N:Nat) (vs:Array Value) (t:TypeId):Prop:=w.heap[N]?=some (.cells vs t (0,0))
theorem Bx.new (w:World) (vs:Array Value) (t:TypeId):Bx (w.alloc (.cells vs t)) w.heap.size vs t:=heap_alloc_new w _
theorem Bx.same {w w':World} {N:Nat} {vs:Array Value} {t:TypeId} (h:Bx w N vs t) (hs:w'.heap[N]?=w.heap[N]?):Bx w' N vs t:=hs.trans h
theorem Bx.lt {w:World} {N:Nat} {vs:Array Value} {t:TypeId} (h:Bx w N vs t):N<w.heap.size:=(Array.getElem?_eq_some_iff.1 h).1
theorem Bx.below {w w':World} {N:Nat} {vs:Array Value} {t:TypeId} (h:Bx w N vs t) (hb:RowKit.Below w.heap.size w w'):Bx w' N vs t:=h.same (hb.block N h.lt)
theorem Bx.kp {w w':World} {B N:Nat} {bl:List Nat} {vs:Array Value} {t:TypeId} (h:Bx w N vs t) (hk:KP B bl w w') (hN:N∈bl):Bx w' N vs t:=h.same (hk.same N hN)
theorem Bx.get {w:World} {N:Nat} {vs:Array Value} {t:TypeId} (h:Bx w N vs t) (j:Nat) (v:Value) (hv:vs[j]?=some v):w.cell? ⟨N,j,none⟩=some v:=by
 rw[cell_of_row _ _ _ _ _ _ h];exact hv
theorem Bx.frozen {w:World} {N:Nat} {vs:Array Value} {t:TypeId} (h:Bx w N vs t) (o:Nat):w.frozen? ⟨N,o,none⟩=false:=by
 have h':w.heap[N]?=some (.cells vs t (0,0)):=h
 unfold World.frozen?
 simp only[h']
 simp
theorem Bx.set {w:World} {N:Nat} {vs:Array Value} {t:TypeId} (h:Bx w N vs t) (j:Nat) (v:Value):Bx (w.setCell ⟨N,j,none⟩ v) N (vs.setIfInBounds j v) t:=by
 have h1:w.heap[N]?=some (.cells vs t (0,0)):=h
 have hlt:=h.lt
 have h':w.heap[N]= .cells vs t (0,0):=by simpa[Array.getElem?_eq_getElem hlt]using h1
 show(w.heap.modify N _)[N]?=_
 rw[Array.getElem?_eq_getElem (by simpa using hlt),Array.getElem_modify_self,h']
 rfl
theorem Bx.far {w:World} {N:Nat} {vs:Array Value} {t:TypeId} (h:Bx w N vs t) (a:Addr) (v:Value) (hn:N≠a.block):Bx (w.setCell a v) N vs t:=h.same (RowKit.Below.heap_setCell w a v N hn)
theorem size_setCell (w:World) (a:Addr) (v:Value):(w.setCell a v).heap.size =w.heap.size:=by simp[World.setCell]
structure Dz (wr:World) (B g:Nat) (A:St) (base:Nat) (e:TypeId) (s:Nat) (v:Value) (n:Nat) (xs:List Value) (bl:List Nat):Prop where
 sa:AS wr B g A (v.ownBlock.toList++bl)
 own:wr.ownsRow base e s v n xs
 ap:∀q,v.ownBlock=some q→q∉bl
section
variable {wr w':World} {B g base s n:Nat} {A:St} {e:TypeId} {v:Value} {xs:List Value} {bl:List Nat}
theorem Dz.append {v5:Value} {m:Nat} {ys:List Value} (h:Dz wr B g A base e s v n xs bl) (hown:w'.ownsRow base e s v5 m ys) (hg:wr.grownBy w' v.ownBlock) (hat:v5.ownBlock=v.ownBlock∨v5.ownBlock=some wr.heap.size):
  Dz w' B g A base e s v5 m ys bl∧KP B bl wr w':=by
 have hB:=h.sa.hB
 refine⟨⟨?_,hown,fun q hq hm=>?_⟩,?_⟩
 ·rcases hat with e1 | e1
  ·rw[e1]
   exact h.sa.grown hg (fun j hj=>List.mem_append_left _ (by simp[hj]))
  ·rw[e1]
   refine(h.sa.Vl hg (fun j hj=>List.mem_append_left _ (by simp[hj])) (Nat.le_refl _) (hown.lt _ e1).2).mono (fun j hj=>?_)
   simp only[Option.toList_some,List.mem_append,List.mem_cons,List.not_mem_nil,or_false]at hj ⊢
   rcases hj with a | a
   ·exact .inl a
   ·exact .inr (.inr a)
 ·rcases hat with e1 | e1
  ·exact h.ap q (e1▸hq) hm
  ·rw[e1]at hq
   cases hq
   exact Nat.lt_irrefl _ (h.sa.lt _ (List.mem_append_right _ hm)).2
 ·refine KP.oH hg (Nat.le_of_lt hB) (fun j hj=>(h.sa.lt j (List.mem_append_right _ hj)).2) (fun j hj=>⟨?_,h.ap j hj⟩)
  exact(h.sa.lt j (List.mem_append_left _ (by simp[hj]))).1
end
end Go.Proofs.YtlhmdcgckocidaaGreat
