/- A part of the proof: Rd2, Rd3. -/
import Derived.Test.YtifkacnoiocebaaGreatDz20
set_option linter.unusedVariables false
set_option linter.unusedSimpArgs false
set_option maxRecDepth 100000
set_option maxHeartbeats 8000000
namespace Go.Proofs.YtifkacnoiocebaaGreat
open aj Go.Maps Go.RowKit
theorem mU.few {ls:List ah} (h:mU ls):(yY ls).length ≤1000:=by
 have:=zN ls
 have:=h.len
 unfold yY
 omega
theorem ko (w:World) (B g:Nat) (A:St) (bl:List Nat) (mk e rd:Nat) (n:aC) (dV:Value) (nm:Nat) (Mn:aB→Option Value) (Sn:Pl→aj.Fn) (h:RD w B g A bl mk e rd n dV nm Mn Sn) (hl:bD ah.cells 4 w B n.lA n.ln n.ls) (hlk:mU n.ls)
  (P:aj.Fn→Prop) (i port:Int) (f:Nat) (F:aj.Fn) (hf:e=0→dF A f F) (hP:nS P n.ls (i,port) F Sn):
  Calls Tryz.prog 55 #[.pointer (some ⟨rd,0,none⟩),.int .i64 i,.int .i64 port,.int .i64 (f:Int)] w fun en w'=>en= .returned (.tuple #[])∧qy w B g A bl mk e rd n dV nm P (eH n.ls (i,port) F Sn) w':=by
 have qz:n.ln≤9223372036854775807:=by have:=hlk.len;have:=hl.1;omega
 have fI:=hide (Jm n.dA n.dn n.dc n.lA n.ln n.lc n.ls i port w qz (hl.below (RowKit.Below.refl _ _) (Nat.le_of_lt h.m.sa.hB)))
 have H:=hide h
 have HF:=hide hf
 have HP:=hide hP
 have iy:=hide hlk
 have r1:w.cell? ⟨rd,1,none⟩=some (.slice n.dA n.dn n.dc):=h.bx.get 1 _ rfl
 have r2:w.cell? ⟨rd,2,none⟩=some (.slice n.lA n.ln n.lc):=h.bx.get 2 _ rfl
 clear h hl hlk hf hP
 obtain⟨PE,JR⟩:∃PE,aD n.ls (i,port)=PE:=⟨_,rfl⟩
 rw[JR]at fI
 have HE:=hide JR
 clear JR
 go_enter Tryz.func55,Tryz.ntmps55
 go_wp2_with fail
 refine fI.out.mono ?_
 clear fI r1 r2
 rintro en w1 ⟨rfl,hb⟩
 have H1:=hide (H.out.below hb)
 have Hg:=hide (H.out.kp hb)
 clear hb H
 cases PE with
 |none=>
  simp only[pJ]
  have hb:=below_alloc2 w1 (.cells #[.int .i64 0,.int .i64 0] 27)
  have HX:=hide (show qy w B g A bl mk e rd n dV nm P (eH n.ls (i,port) F Sn) (w1.alloc (.cells #[.int .i64 0,.int .i64 0] 27))from
   ⟨A,e,Mn,by unfold eH;rw[HE.out];exact H1.out.below hb,Ext.refl H1.out.inv,qx.refl _ _,Hg.out.trans (H1.out.kp hb),id⟩)
  clear hb
  go_wp2
  go_end0
  exact⟨rfl,HX.out⟩
 |some y=>
  obtain⟨y1,y2⟩:=y
  simp only[pJ]
  have hb:=below_alloc2 w1 (.cells #[.int .i64 y1,.int .i64 y2] 27)
  have hym:=zM HE.out
  have U2:=hide hym
  have Bt:=hide (iy.out.dom _ hym)
  have H2:=hide (show RD (w1.alloc (.cells #[.int .i64 y1,.int .i64 y2] 27)) B g A (w1.heap.size::bl) mk e rd n dV nm Mn Sn from
   ⟨⟨(H1.out.m.sa.alloc _).mono (fun j hj=>by simp only[List.mem_cons]at hj ⊢;rcases hj with a | a | a | a | a<;>simp[a]),H1.out.m.bx.below hb,H1.out.m.er,fun hj=>by
    have:=(H1.out.m.sa.lt mk (by simp)).2
    have h9:=H1.out.m.ap
    simp only[List.mem_cons,not_or]at hj h9
    rcases hj with a | a | a | a
    ·exact h9.1 a
    ·exact h9.2.1 a
    ·omega
    ·exact h9.2.2 a⟩,H1.out.bx.below hb,H1.out.mn.same (hb.block nm H1.out.mn.lt),H1.out.ints,H1.out.keys,H1.out.sn,H1.out.ne.1,fun hj=>by
    rcases List.mem_cons.1 hj with a | a
    ·have:=H1.out.bx.lt;omega
    ·exact H1.out.ne.2.1 a,fun hj=>by
    rcases List.mem_cons.1 hj with a | a
    ·have:=H1.out.mn.lt;omega
    ·exact H1.out.ne.2.2 a⟩)
  have bZ:=hide (Bx.new w1 #[.int .i64 y1,.int .i64 y2] 27)
  have HK2:=hide (Hg.out.trans (H1.out.kp hb))
  clear hym hb
  go_wp2_with fail
  clear H1 Hg
  generalize World.alloc w1 _=w2 at*
  generalize w1.heap.size=N at*
  have HQ:=hide (fun(w':World) (A':St) (e':Nat) (S':Pl→aj.Fn) (h:RD w' B g A' (N::bl) mk e' rd n dV nm Mn S') (hx:Bx w' N #[.int .i64 y1,.int .i64 y2] 27)=>show(w'.cell? ⟨rd,0,none⟩=some (.pointer (some ⟨mk,0,none⟩))∧w'.cell? ⟨rd,4,none⟩=some (.map (some nm))∧w'.cell? ⟨N,0,none⟩=some (.int .i64 y1)∧w'.cell? ⟨N,1,none⟩=some (.int .i64 y2))∧(Instr.lookup 73 (.map (some nm)) (.agg #[.int .i64 y1,.int .i64 y2]) false).run Tryz.prog w'= .ok (.int .i64 ((bK Mn (y1,y2):Nat):Int)) w' from
   ⟨⟨h.bx.get 0 _ rfl,h.bx.get 4 _ rfl,hx.get 0 _ rfl,hx.get 1 _ rfl⟩,aV.IJ h.mn h.ints y1 y2 Bt.out.1 Bt.out.2⟩)
  have HD:=hide (H2.out.below (RowKit.Below.refl _ _).drew)
  have Aw:=hide (bZ.out.below (RowKit.Below.refl _ _).drew)
  have HKD:=hide (HK2.out.trans ((H2.out.kp (RowKit.Below.refl _ _).drew).mono (Dh:=bl) (fun j hj=>by simp[hj])))
  clear H2 bZ HK2
  refine aY (fun w'=>(w'.cell? ⟨rd,0,none⟩=some (.pointer (some ⟨mk,0,none⟩))∧w'.cell? ⟨rd,4,none⟩=some (.map (some nm))∧w'.cell? ⟨N,0,none⟩=some (.int .i64 y1)∧w'.cell? ⟨N,1,none⟩=some (.int .i64 y2))∧(Instr.lookup 73 (.map (some nm)) (.agg #[.int .i64 y1,.int .i64 y2]) false).run Tryz.prog w'= .ok (.int .i64 ((bK Mn (y1,y2):Nat):Int)) w') 17 (by kernel_rfl) (HQ.out _ _ _ _ HD.out Aw.out) (fun hS=>?_)
  refine rP 0 hS ?_
  refine rP 1 hS ?_
  refine rP 2 hS ?_
  refine rL 3 [17] rfl hS (by intro w hSw;obtain⟨⟨s0,s1,s2,s3⟩,s4⟩:=hSw;go_simp;try with_reducible rfl) ?_
  refine rL 4 [17] rfl hS (by intro w hSw;obtain⟨⟨s0,s1,s2,s3⟩,s4⟩:=hSw;go_simp;try with_reducible rfl) ?_
  refine rP 5 hS ?_
  refine rP 6 hS ?_
  refine rP 7 hS ?_
  refine rL 8 [16,17] rfl hS (by intro w hSw;obtain⟨⟨s0,s1,s2,s3⟩,s4⟩:=hSw;go_simp;try with_reducible rfl) ?_
  refine rP 9 hS ?_
  refine rP 10 hS ?_
  refine rP 11 hS ?_
  refine rL 12 [14,16,17] rfl hS (by intro w hSw;obtain⟨⟨s0,s1,s2,s3⟩,s4⟩:=hSw;go_simp;try with_reducible rfl) ?_
  refine rL 13 [14,16,17] rfl hS (by intro w hSw;obtain⟨⟨s0,s1,s2,s3⟩,s4⟩:=hSw;go_simp;try with_reducible rfl) ?_
  refine rL 14 [16,17] rfl hS (by intro w hSw;obtain⟨⟨s0,s1,s2,s3⟩,s4⟩:=hSw;go_simp;try with_reducible rfl) ?_
  refine rP 15 hS ?_
  intro inv
  refine rO 16 inv fun K hK=>?_
  go_simp
  refine(aan w2.drew B g A (rd::nm::N::bl) mk e HD.out.m (bK Mn (y1,y2)) f (Sn (y1,y2)) F P (fun he=>HD.out.sn he (y1,y2)) HF.out (HP.out _ HE.out)).mono ?_
  rintro en w3 hr
  obtain⟨A3,e3,r3,rfl,hrd,hx,hnw,hkp,ow⟩:=HD.out.step hr
  have gL:=hide (Aw.out.kp hkp (by simp))
  have HR3:=hide hrd
  obtain⟨w4,hrun,hst,hk4⟩:=hrd.store (y:=(y1,y2)) (r:=r3) (F:=vO (Sn (y1,y2)) F) Bt.out U2.out (fun he=>(ow he).2) iy.out.few
  simp only[eG]at hrun
  have u7:=hide (show qy w B g A bl mk e rd n dV nm P (eH n.ls (i,port) F Sn) w4 from
   ⟨A3,e3,_,by
    unfold eH;rw[HE.out]
    exact⟨⟨hst.m.sa.mono (fun j hj=>by simp only[List.mem_cons]at hj ⊢;rcases hj with a | a | a | a<;>simp[a]),hst.m.bx,hst.m.er,fun hj=>hst.m.ap (by simp only[List.mem_cons]at hj ⊢;rcases hj with a | a | a<;>simp[a])⟩,hst.bx,hst.mn,hst.ints,hst.keys,hst.sn,hst.ne.1,fun hj=>hst.ne.2.1 (by simp[hj]),fun hj=>hst.ne.2.2 (by simp[hj])⟩,hx,hnw,HKD.out.trans ((hkp.mono (fun j hj=>by simp[hj])).trans (hk4.mono (fun j hj=>by simp[hj]))),fun he=>(ow he).1⟩)
  clear hr hrd hx hnw hkp ow hst hk4 hS HD Aw HKD
  have hS:=HQ.out _ _ _ _ HR3.out gL.out
  go_simp
  refine hK.out _ _ (fun _=>hS) ?_
  clear hK K hS inv
  intro inv
  try simp only[Act.put,aK,aL,aM]
  clear HQ HR3 gL
  refine rT 17 inv fun K hK=>?_
  go_simp
  refine hK.out _ _ ?_
  clear hK K inv
  intro inv
  try simp only[Act.put,aK,aL,aM]
  refine rD ?_
  clear inv
  clear hrun
  go_wp2
  go_end0
  exact⟨rfl,u7.out⟩
structure oC (w:World) (A:St) (e:Nat) (bl:List Nat) (wm:Nat) (Mw:aB→Option Value) (Sw:Pl→aj.Fn):Prop where
 mem:wm∈bl
 m:gY w wm Mw
 ints:Ints Mw
 sw:e=0→∀x,dF A (bK Mw x) (Sw x)
section
variable {w w':World} {B e e2 wm:Nat} {A A2:St} {bl:List Nat} {Mw:aB→Option Value} {Sw:Pl→aj.Fn}
theorem oC.step (h:oC w A e bl wm Mw Sw) (i:Inv A) (hx:Ext A A2) (hk:KP B bl w w') (he:e2=0→e=0):oC w' A2 e2 bl wm Mw Sw:=
 ⟨h.mem,h.m.same (hk.same wm h.mem),h.ints,fun h2 x=>(h.sw (he h2) x).ext i hx⟩
theorem oC.below (h:oC w A e bl wm Mw Sw) (hb:RowKit.Below w.heap.size w w'):oC w' A e bl wm Mw Sw:=⟨h.mem,h.m.same (hb.block wm h.m.lt),h.ints,h.sw⟩
end
theorem nY (w:World) (rd wm:Nat) (Mw:aB→Option Value) (hm:gY w wm Mw) (hi:Ints Mw) (h3:w.cell? ⟨rd,3,none⟩=some (.map (some wm))) (i port:Int) (hx:aO i) (hy:aO port):
  Calls Tryz.prog 92 #[.pointer (some ⟨rd,0,none⟩),.int .i64 i,.int .i64 port] w fun e w'=>e= .returned (.int .i64 ((bK Mw (i,port):Nat):Int))∧w=w':=by
 have hlk:=aV.IJ hm hi i port hx hy
 clear hm hi
 go_enter Tryz.func92,Tryz.ntmps92
 go_wp2
 go_ret
 exact⟨rfl,rfl⟩
theorem Bu (w:World) (B rd:Nat) (n:aC) (hB:B≤w.heap.size) (hl:bD ah.cells 4 w B n.lA n.ln n.ls) (hlk:mU n.ls) (r1:w.cell? ⟨rd,1,none⟩=some (.slice n.dA n.dn n.dc)) (r2:w.cell? ⟨rd,2,none⟩=some (.slice n.lA n.ln n.lc)) (i port:Int):
  Calls Tryz.prog 94 #[.pointer (some ⟨rd,0,none⟩),.int .i64 i,.int .i64 port] w fun e w'=>e= .returned (.bool (aD n.ls (i,port)).isSome)∧RowKit.Below w.heap.size w w':=by
 have qz:n.ln≤9223372036854775807:=by have:=hlk.len;have:=hl.1;omega
 have fI:=hide (Jm n.dA n.dn n.dc n.lA n.ln n.lc n.ls i port w qz (hl.below (RowKit.Below.refl _ _) hB))
 clear hl hlk
 generalize aD n.ls (i,port)=PE at*
 go_enter Tryz.func94,Tryz.ntmps94
 go_wp2_with fail
 refine fI.out.mono ?_
 clear fI r1 r2
 rintro en w1 ⟨rfl,hb⟩
 have HB:=hide hb
 clear hb
 cases PE with
 |none=>
  simp only[pJ]
  go_wp2
  go_ret
  exact⟨rfl,HB.out.trans ((below_alloc2 w1 _).mono HB.out.size)⟩
 |some y=>
  obtain⟨y1,y2⟩:=y
  simp only[pJ]
  go_wp2
  go_ret
  exact⟨rfl,HB.out.trans ((below_alloc2 w1 _).mono HB.out.size)⟩
structure RF (w0:World) (B g:Nat) (A0:St) (bl:List Nat) (mk e0 rd:Nat) (n:aC) (wm nm:Nat) (Mw:aB→Option Value) (Sw:Pl→aj.Fn) (P:aj.Fn→Prop) (wr:World) (A:St) (e:Nat) (Mn:aB→Option Value) (Sn:Pl→aj.Fn) (more:List Nat):Prop where
 rd:RD wr B g A (more++bl) mk e rd n (.map (some wm)) nm Mn Sn
 was:oC wr A e bl wm Mw Sw
 ext:Ext A0 A
 nw:qx P A0 A
 kp:KP B bl w0 wr
 e0:e=0→e0=0
section
variable {w0 wr w':World} {B g mk e0 e rd wm nm:Nat} {A0 A:St} {bl more:List Nat} {n:aC} {Mw Mn:aB→Option Value} {Sw Sn:Pl→aj.Fn} {P:aj.Fn→Prop}
theorem RF.start (h:RD wr B g A bl mk e rd n (.map (some wm)) nm Mn Sn) (hw:oC wr A e bl wm Mw Sw) (P:aj.Fn→Prop):RF wr B g A bl mk e rd n wm nm Mw Sw P wr A e Mn Sn []:=⟨h,hw,Ext.refl h.inv,qx.refl _ _,KP.refl _ _ _,id⟩
theorem RF.below (h:RF w0 B g A0 bl mk e0 rd n wm nm Mw Sw P wr A e Mn Sn more) (hb:RowKit.Below wr.heap.size wr w'):RF w0 B g A0 bl mk e0 rd n wm nm Mw Sw P w' A e Mn Sn more:=
 ⟨h.rd.below hb,h.was.below hb,h.ext,h.nw,h.kp.trans ((h.rd.kp hb).mono (fun j hj=>by simp[hj])),h.e0⟩
theorem RD.alloc {dV:Value} (h:RD wr B g A bl mk e rd n dV nm Mn Sn) (o:Obj):RD (wr.alloc o) B g A (wr.heap.size::bl) mk e rd n dV nm Mn Sn:=by
 have hb:=below_alloc2 wr o
 exact⟨⟨(h.m.sa.alloc _).mono (fun j hj=>by simp only[List.mem_cons]at hj ⊢;rcases hj with a | a | a | a | a<;>simp[a]),h.m.bx.below hb,h.m.er,fun hj=>by
    have:=(h.m.sa.lt mk (by simp)).2
    have h9:=h.m.ap
    simp only[List.mem_cons,not_or]at hj h9
    rcases hj with a | a | a | a
    ·exact h9.1 a
    ·exact h9.2.1 a
    ·omega
    ·exact h9.2.2 a⟩,h.bx.below hb,h.mn.same (hb.block nm h.mn.lt),h.ints,h.keys,h.sn,h.ne.1,fun hj=>by
    rcases List.mem_cons.1 hj with a | a
    ·have:=h.bx.lt;omega
    ·exact h.ne.2.1 a,fun hj=>by
    rcases List.mem_cons.1 hj with a | a
    ·have:=h.mn.lt;omega
    ·exact h.ne.2.2 a⟩
theorem RD.less {dV:Value} {Dh:List Nat} (h:RD wr B g A bl mk e rd n dV nm Mn Sn) (hs:∀j∈Dh,j∈bl):RD wr B g A Dh mk e rd n dV nm Mn Sn:=
 ⟨⟨h.m.sa.mono (fun j hj=>by simp only[List.mem_cons]at hj ⊢;rcases hj with a | a | a | a<;>simp[a,hs]),h.m.bx,h.m.er,fun hj=>h.m.ap (by simp only[List.mem_cons]at hj ⊢;rcases hj with a | a | a<;>simp[a,hs])⟩,h.bx,h.mn,h.ints,h.keys,h.sn,h.ne.1,fun hj=>h.ne.2.1 (hs _ hj),fun hj=>h.ne.2.2 (hs _ hj)⟩
theorem RF.alloc (h:RF w0 B g A0 bl mk e0 rd n wm nm Mw Sw P wr A e Mn Sn more) (o:Obj):RF w0 B g A0 bl mk e0 rd n wm nm Mw Sw P (wr.alloc o) A e Mn Sn (wr.heap.size::more):=
 have q:=h.below (below_alloc2 wr o)
 ⟨h.rd.alloc o,q.was,h.ext,h.nw,q.kp,h.e0⟩
theorem RF.less {more':List Nat} (h:RF w0 B g A0 bl mk e0 rd n wm nm Mw Sw P wr A e Mn Sn more) (hs:∀j∈more',j∈more):RF w0 B g A0 bl mk e0 rd n wm nm Mw Sw P wr A e Mn Sn more':=
 ⟨h.rd.less (fun j hj=>by
  rcases List.mem_append.1 hj with a | a
  ·exact List.mem_append_left _ (hs j a)
  ·exact List.mem_append_right _ a),h.was,h.ext,h.nw,h.kp,h.e0⟩
theorem RF.call (h:RF w0 B g A0 bl mk e0 rd n wm nm Mw Sw P wr A e Mn Sn more) {F:aj.Fn} {en:Ending} (hr:MR wr B g A (rd::nm::(more++bl)) mk e P F en w'):
  ∃(A2:St) (e2 r:Nat),en= .returned (.int .i64 (r:Int))∧RF w0 B g A0 bl mk e0 rd n wm nm Mw Sw P w' A2 e2 Mn Sn more∧Ext A A2∧(e2=0→e=0∧dF A2 r F)∧(∀j∈more,w'.heap[j]?=wr.heap[j]?):=by
 obtain⟨A2,e2,r,h1,h2,h3,h4,h5,h6⟩:=h.rd.step hr
 exact⟨A2,e2,r,h1,⟨h2,h.was.step h.rd.inv h3 (h5.mono (fun j hj=>by simp[hj])) (fun he=>(h6 he).1),h.ext.trans h3,h.nw.trans h4 h.rd.inv h3,h.kp.trans (h5.mono (fun j hj=>by simp[hj])),fun he=>h.e0 (h6 he).1⟩,h3,h6,fun j hj=>h5.same j (by simp[hj])⟩
theorem RF.send (h:RF w0 B g A0 bl mk e0 rd n wm nm Mw Sw P wr A e Mn Sn more) {EB:Pl→aj.Fn} (hr:qy wr B g A (more++bl) mk e rd n (.map (some wm)) nm P EB w'):
  ∃(A2:St) (e2:Nat) (kg:aB→Option Value),RF w0 B g A0 bl mk e0 rd n wm nm Mw Sw P w' A2 e2 kg EB more∧Ext A A2∧(e2=0→e=0)∧(∀j∈more,w'.heap[j]?=wr.heap[j]?):=by
 obtain⟨A2,e2,kg,h2,h3,h4,h5,h6⟩:=hr
 exact⟨A2,e2,kg,⟨h2,h.was.step h.rd.inv h3 (h5.mono (fun j hj=>by simp[hj])) h6,h.ext.trans h3,h.nw.trans h4 h.rd.inv h3,h.kp.trans (h5.mono (fun j hj=>by simp[hj])),fun he=>h.e0 (h6 he)⟩,h3,h6,fun j hj=>h5.same j (by simp[hj])⟩
theorem RF.out (h:RF w0 B g A0 bl mk e0 rd n wm nm Mw Sw P wr A e Mn Sn more):qy w0 B g A0 bl mk e0 rd n (.map (some wm)) nm P Sn wr:=
 ⟨A,e,Mn,h.rd.less (fun j hj=>by simp[hj]),h.ext,h.nw,h.kp,h.e0⟩
end
def sP (ls:List ah) (i:Nat) (rs:List bg) (Sw Sn:Pl→aj.Fn):Pl→aj.Fn:=
 if(aD ls ((i:Int),1)).isSome then eH ls ((i:Int),0) (bf (Sw ((i:Int),1)) (mH (bf (Sw ((i:Int),0)) (dB rs)))) (eH ls ((i:Int),1) (bf (Sw ((i:Int),0)) (dB rs)) Sn)
 else eH ls ((i:Int),1) (bf (Sw ((i:Int),0)) (dB rs)) Sn
def NQ (P:aj.Fn→Prop) (rs:List bg):Prop:=(∀r∈rs,∀G,mR (uL r) G→P G)∧∀k G,lD (dB (rs.drop k)) G→P G
structure QC (P:aj.Fn→Prop) (ls:List ah) (i:Nat) (rs:List bg) (Sw Sn:Pl→aj.Fn):Prop where
 acl:NQ P rs
 out:PC P (bf (Sw ((i:Int),0)) (dB rs))
 s1:nS P ls ((i:Int),1) (bf (Sw ((i:Int),0)) (dB rs)) Sn
 fl:Bp P (bf (Sw ((i:Int),0)) (dB rs))
 bk:PC P (bf (Sw ((i:Int),1)) (mH (bf (Sw ((i:Int),0)) (dB rs))))
 s2:nS P ls ((i:Int),0) (bf (Sw ((i:Int),1)) (mH (bf (Sw ((i:Int),0)) (dB rs)))) (eH ls ((i:Int),1) (bf (Sw ((i:Int),0)) (dB rs)) Sn)
theorem QD (w:World) (B g:Nat) (A:St) (bl:List Nat) (mk e rd:Nat) (n:aC) (wm nm:Nat) (Mw Mn:aB→Option Value) (Sw Sn:Pl→aj.Fn) (h:RD w B g A bl mk e rd n (.map (some wm)) nm Mn Sn) (hw:oC w A e bl wm Mw Sw) (hv:A.vars=14) (hl:bD ah.cells 4 w B n.lA n.ln n.ls) (hlk:mU n.ls)
  (P:aj.Fn→Prop) (i:Nat) (hi:i≤1000) (r:ak) (hr:bW w B r) (hrn:r.rn≤8) (hP:QC P n.ls i r.rs Sw Sn):
  Calls Tryz.prog 59 #[.pointer (some ⟨rd,0,none⟩),.int .i64 (i:Int),r.val] w fun en w'=>en= .returned (.tuple #[])∧qy w B g A bl mk e rd n (.map (some wm)) nm P (sP n.ls i r.rs Sw Sn) w':=by
 have j4:=hide ((RF.start h hw P).alloc (.cells #[.string r.name,.int .i64 r.kind,.int .i64 r.addr,.int .u8 r.pool,.slice r.bA r.bn r.bc,.slice r.rA r.rn r.rc,.slice r.tA r.tn r.tc] 81))
 have HX0:=hide (Bx.new w #[.string r.name,.int .i64 r.kind,.int .i64 r.addr,.int .u8 r.pool,.slice r.bA r.bn r.bc,.slice r.rA r.rn r.rc,.slice r.tA r.tn r.tc] 81)
 have jL:=hide (fun(w':World) (hb:RowKit.Below B w w')=>hl.below hb (Nat.le_refl _))
 have iy:=hide hlk
 have QE:=hide (fun(w':World) (hb:RowKit.Below B w w')=>hr.rs.below hb (Nat.le_refl _))
 have HP:=hide hP
 have HV:=hide hv
 clear h hw hl hlk hr hP hv
 obtain⟨nm',kd,ad,pl,bA,bn,bc,bs,rA,rn,rc,rs,tA,tn,tc,ts⟩:=r
 simp only[ak.val]at*
 go_enter Tryz.func59,Tryz.ntmps59
 go_wp2_with fail
 generalize World.alloc w _=w0 at*
 generalize w.heap.size=Nd at*
 have HQ:=hide (fun(w':World) (h1:Bx w' rd #[.pointer (some ⟨mk,0,none⟩),.slice n.dA n.dn n.dc,.slice n.lA n.ln n.lc,.map (some wm),.map (some nm)] 75) (e':Nat) (h2:Bx w' mk #[.pointer (some ⟨g,0,none⟩),.int .i64 (e':Int)] 72) (h3:Bx w' Nd #[.string nm',.int .i64 kd,.int .i64 ad,.int .u8 pl,.slice bA bn bc,.slice rA rn rc,.slice tA tn tc] 81) (h4:gY w' wm Mw)=>
  show(w'.cell? ⟨rd,0,none⟩=some (.pointer (some ⟨mk,0,none⟩))∧w'.cell? ⟨mk,0,none⟩=some (.pointer (some ⟨g,0,none⟩))∧w'.cell? ⟨Nd,5,none⟩=some (.slice rA rn rc))∧(w'.cell? ⟨rd,3,none⟩=some (.map (some wm))∧gY w' wm Mw)from⟨⟨h1.get 0 _ rfl,h2.get 0 _ rfl,h3.get 5 _ rfl⟩,h1.get 3 _ rfl,h4⟩)
 have fG:=hide (j4.out.below (RowKit.Below.refl _ _).drew)
 have Aw:=hide (HX0.out.below (RowKit.Below.refl _ _).drew)
 clear j4 HX0
 refine aY (fun w'=>(w'.cell? ⟨rd,0,none⟩=some (.pointer (some ⟨mk,0,none⟩))∧w'.cell? ⟨mk,0,none⟩=some (.pointer (some ⟨g,0,none⟩))∧w'.cell? ⟨Nd,5,none⟩=some (.slice rA rn rc))∧(w'.cell? ⟨rd,3,none⟩=some (.map (some wm))∧gY w' wm Mw)) 24 (by kernel_rfl) (HQ.out _ fG.out.rd.bx _ fG.out.rd.m.bx Aw.out fG.out.was.m) (fun hS=>?_)
 refine rP 0 hS ?_
 refine rP 1 hS ?_
 refine rP 2 hS ?_
 refine rL 3 [24] rfl hS (by intro w hSw;obtain⟨⟨s0,s1,s2⟩,s3,s4⟩:=hSw;go_simp;try with_reducible rfl) ?_
 refine rP 4 hS ?_
 refine rP 5 hS ?_
 intro inv
 refine ji (i:=6) (v:=.int .i64 ((bK Mw ((i:Int),0):Nat):Int)) [24] rfl (by kernel_rfl) (by kernel_rfl) (by kernel_rfl) (by kernel_rfl) (fun _ _ _ h=>h) inv ⟨by rfl,?_⟩ hS (fun inv2=>?_)
 ·intro w hSw
  obtain⟨⟨s0,s1,s2⟩,s3,s4⟩:=hSw;exact⟨92,_,by go_simp,nY w rd wm Mw s4 fG.out.was.ints s3 (i:Int) 0 (by simp only[aO];omega) Xa⟩
 clear inv
 have inv:=inv2
 clear inv2
 try simp only[Act.put,aK,aL,aM]
 revert inv
 refine rP 7 hS ?_
 refine rP 8 hS ?_
 refine rP 9 hS ?_
 refine rL 10 [23,24] rfl hS (by intro w hSw;obtain⟨⟨s0,s1,s2⟩,s3,s4⟩:=hSw;go_simp;try with_reducible rfl) ?_
 refine rP 11 hS ?_
 refine rP 12 hS ?_
 refine rP 13 hS ?_
 refine rL 14 [15,16,17,20,21,23,24] rfl hS (by intro w hSw;obtain⟨⟨s0,s1,s2⟩,s3,s4⟩:=hSw;go_simp;try with_reducible rfl) ?_
 refine rP 15 hS ?_
 refine rP 16 hS ?_
 refine rL 17 [20,21,23,24] rfl hS (by intro w hSw;obtain⟨⟨s0,s1,s2⟩,s3,s4⟩:=hSw;go_simp;try with_reducible rfl) ?_
 refine rP 18 hS ?_
 refine rL 19 [20,21,23,24] rfl hS (by intro w hSw;obtain⟨⟨s0,s1,s2⟩,s3,s4⟩:=hSw;go_simp;try with_reducible rfl) ?_
 intro inv
 refine rO 20 inv fun K hK=>?_
 go_simp
 refine(Qw (P:=P) fG.out.rd.m.sa (by rw[HV.out];exact Nat.le_refl _) rs rA rn rc hrn (QE.out _ fG.out.kp.low) HP.out.acl.1 HP.out.acl.2).mono ?_
 rintro en w1 hq
 obtain⟨A1,r1,e1,rfl,Bv,Bw,hk1⟩:=Gd fG.out.rd.m hq
 have Gf:=hide Bv
 have hS1:=HQ.out _ (fG.out.rd.bx.kp hk1 (by simp)) _ Bw.bx (Aw.out.kp hk1 (by simp)) (fG.out.was.m.same (hk1.same wm (by simp[fG.out.was.mem])))
 clear hq Bv Bw hk1 hS
 have hS:=hS1
 go_simp
 refine hK.out _ _ (fun _=>hS1) ?_
 clear hK K hS inv
 intro inv
 try simp only[Act.put,aK,aL,aM]
 have hS:=hS1
 clear hS1
 revert inv
 refine rP 21 hS ?_
 refine rP 22 hS ?_
 intro inv
 refine rO 23 inv fun K hK=>?_
 go_simp
 refine Gf.out.mono ?_
 rintro en w2 hr
 obtain⟨A2,e2,r2,rfl,hrf,hx2,hF2,Yp⟩:=fG.out.call hr
 have HR2:=hide hrf
 have xR:=hide (fun h=>(hF2 h).2)
 have bZ:=hide (Aw.out.same (Yp Nd (by simp)))
 have hS2:=HQ.out _ HR2.out.rd.bx _ HR2.out.rd.m.bx bZ.out HR2.out.was.m
 clear hr hrf hx2 hF2 Yp hS Gf fG Aw
 have hS:=hS2
 go_simp
 refine hK.out _ _ (fun _=>hS2) ?_
 clear hK K hS inv
 intro inv
 try simp only[Act.put,aK,aL,aM]
 have hS:=hS2
 clear hS2
 refine rT 24 inv fun K hK=>?_
 go_simp
 refine(nR w2 B g A2 (rd::nm::([Nd]++bl)) mk e2 HR2.out.rd.m (bK Mw ((i:Int),0)) r2 (Sw ((i:Int),0)) (dB rs) P (fun h=>HR2.out.was.sw h _) xR.out HP.out.out).mono ?_
 rintro en w3 hr
 obtain⟨A3,e3,r3,rfl,hrf,hx3,ow,yh⟩:=HR2.out.call hr
 have HR3:=hide hrf
 have mF:=hide (fun h=>(ow h).2)
 have gL:=hide (bZ.out.same (yh Nd (by simp)))
 clear hr hrf hx3 ow yh hS HR2 xR bZ
 go_simp
 refine hK.out _ _ ?_
 clear hK K inv
 intro inv
 try simp only[Act.put,aK,aL,aM]
 refine rT 25 inv fun K hK=>?_
 go_simp
 refine hK.out _ _ ?_
 clear hK K inv
 intro inv
 try simp only[Act.put,aK,aL,aM]
 refine rD ?_
 clear inv
 go_wp2_with fail
 refine(ko w3 B g A3 ([Nd]++bl) mk e3 rd n (.map (some wm)) nm Mn Sn HR3.out.rd (jL.out _ HR3.out.kp.low) iy.out P (i:Int) 1 r3 (bf (Sw ((i:Int),0)) (dB rs)) mF.out HP.out.s1).mono ?_
 rintro en w4 ⟨rfl,hr⟩
 obtain⟨A4,e4,Mn4,hrf,hx4,Yq,Yr⟩:=HR3.out.send hr
 have HR4:=hide hrf
 have Qy:=hide (fun h=>(mF.out (Yq h)).ext HR3.out.rd.inv hx4)
 have mQ:=hide (gL.out.same (Yr Nd (by simp)))
 clear hr hrf hx4 Yq Yr HR3 mF gL
 have r1:w4.cell? ⟨rd,1,none⟩=some (.slice n.dA n.dn n.dc):=HR4.out.rd.bx.get 1 _ rfl
 have r2:w4.cell? ⟨rd,2,none⟩=some (.slice n.lA n.ln n.lc):=HR4.out.rd.bx.get 2 _ rfl
 go_wp2_with fail
 refine(Bu w4 B rd n (Nat.le_of_lt HR4.out.rd.m.sa.hB) (jL.out _ HR4.out.kp.low) iy.out r1 r2 (i:Int) 1).mono ?_
 rintro en w5 ⟨rfl,hb⟩
 have gZ:=hide (HR4.out.below hb)
 have bS:=hide (mQ.out.below hb)
 clear hb r1 r2 HR4 mQ
 obtain⟨o1,ho1⟩:∃o1,(aD n.ls ((i:Int),1)).isSome =o1:=⟨_,rfl⟩
 rw[ho1]
 have HO:=hide ho1
 clear ho1
 cases o1
 ·have u7:=hide (show qy w B g A bl mk e rd n (.map (some wm)) nm P (sP n.ls i rs Sw Sn) w5 from by
   unfold sP;rw[if_neg (by rw[HO.out];simp)];exact gZ.out.out)
  go_wp2
  go_end0
  exact⟨rfl,u7.out⟩
 go_wp2_with fail
 have fG:=hide (gZ.out.below (RowKit.Below.refl _ _).drew)
 have Aw:=hide (bS.out.below (RowKit.Below.refl _ _).drew)
 clear gZ bS
 refine aY (fun w'=>(w'.cell? ⟨rd,0,none⟩=some (.pointer (some ⟨mk,0,none⟩))∧w'.cell? ⟨mk,0,none⟩=some (.pointer (some ⟨g,0,none⟩))∧w'.cell? ⟨Nd,5,none⟩=some (.slice rA rn rc))∧(w'.cell? ⟨rd,3,none⟩=some (.map (some wm))∧gY w' wm Mw)) 16 (by kernel_rfl) (HQ.out _ fG.out.rd.bx _ fG.out.rd.m.bx Aw.out fG.out.was.m) (fun hS=>?_)
 refine rP 0 hS ?_
 refine rP 1 hS ?_
 refine rP 2 hS ?_
 refine rP 3 hS ?_
 refine rP 4 hS ?_
 refine rL 5 [15,16] rfl hS (by intro w hSw;obtain⟨⟨s0,s1,s2⟩,s3,s4⟩:=hSw;go_simp;try with_reducible rfl) ?_
 refine rP 6 hS ?_
 refine rP 7 hS ?_
 intro inv
 refine ji (i:=8) (v:=.int .i64 ((bK Mw ((i:Int),1):Nat):Int)) [15,16] rfl (by kernel_rfl) (by kernel_rfl) (by kernel_rfl) (by kernel_rfl) (fun _ _ _ h=>h) inv ⟨by rfl,?_⟩ hS (fun inv2=>?_)
 ·intro w hSw
  obtain⟨⟨s0,s1,s2⟩,s3,s4⟩:=hSw;exact⟨92,_,by go_simp,nY w rd wm Mw s4 fG.out.was.ints s3 (i:Int) 1 (by simp only[aO];omega) (by simp only[aO];omega)⟩
 clear inv
 have inv:=inv2
 clear inv2
 try simp only[Act.put,aK,aL,aM]
 revert inv
 refine rP 9 hS ?_
 refine rP 10 hS ?_
 refine rP 11 hS ?_
 refine rL 12 [14,15,16] rfl hS (by intro w hSw;obtain⟨⟨s0,s1,s2⟩,s3,s4⟩:=hSw;go_simp;try with_reducible rfl) ?_
 refine rP 13 hS ?_
 intro inv
 refine rO 14 inv fun K hK=>?_
 go_simp
 refine(Gc _ B g A4 (rd::nm::([Nd]++bl)) mk e4 fG.out.rd.m r3 (bf (Sw ((i:Int),0)) (dB rs)) P (by rw[fG.out.ext.vars];exact HV.out) Qy.out HP.out.fl).mono ?_
 rintro en w6 hr
 obtain⟨A6,e6,r6,rfl,hrf,hx6,hF6,NR⟩:=fG.out.call hr
 have jh:=hide hrf
 have HF6:=hide (fun h=>(hF6 h).2)
 have gq:=hide (Aw.out.same (NR Nd (by simp)))
 clear hr hrf hx6 hF6 NR hS fG Aw Qy
 have hS:=HQ.out _ jh.out.rd.bx _ jh.out.rd.m.bx gq.out jh.out.was.m
 go_simp
 refine hK.out _ _ (fun _=>HQ.out _ jh.out.rd.bx _ jh.out.rd.m.bx gq.out jh.out.was.m) ?_
 clear hK K hS inv
 intro inv
 try simp only[Act.put,aK,aL,aM]
 have hS:=HQ.out _ jh.out.rd.bx _ jh.out.rd.m.bx gq.out jh.out.was.m
 refine rO 15 inv fun K hK=>?_
 go_simp
 refine(nR w6 B g A6 (rd::nm::([Nd]++bl)) mk e6 jh.out.rd.m (bK Mw ((i:Int),1)) r6 (Sw ((i:Int),1)) (mH (bf (Sw ((i:Int),0)) (dB rs))) P (fun h=>jh.out.was.sw h _) HF6.out HP.out.bk).mono ?_
 rintro en w7 hr
 obtain⟨A7,e7,r7,rfl,hrf,hx7,hF7,Yt⟩:=jh.out.call hr
 have iJ:=hide hrf
 have HF7:=hide (fun h=>(hF7 h).2)
 have lU:=hide (gq.out.same (Yt Nd (by simp)))
 clear hr hrf hx7 hF7 Yt jh gq HF6
 go_simp
 refine hK.out _ _ (fun _=>HQ.out _ iJ.out.rd.bx _ iJ.out.rd.m.bx lU.out iJ.out.was.m) ?_
 clear hK K hS inv
 intro inv
 try simp only[Act.put,aK,aL,aM]
 refine rT 16 inv fun K hK=>?_
 go_simp
 refine(ko w7 B g A7 ([Nd]++bl) mk e7 rd n (.map (some wm)) nm Mn4 _ iJ.out.rd (jL.out _ iJ.out.kp.low) iy.out P (i:Int) 0 r7 (bf (Sw ((i:Int),1)) (mH (bf (Sw ((i:Int),0)) (dB rs)))) HF7.out HP.out.s2).mono ?_
 rintro en w8 ⟨rfl,hr⟩
 obtain⟨A8,e8,Mn8,hrf,JB,he8,acN⟩:=iJ.out.send hr
 have u7:=hide (show qy w B g A bl mk e rd n (.map (some wm)) nm P (sP n.ls i rs Sw Sn) w8 from by
   unfold sP;rw[if_pos (by rw[HO.out])];exact hrf.out)
 clear hr hrf JB he8 acN iJ lU HF7
 go_simp
 refine hK.out _ _ ?_
 clear hK K inv
 intro inv
 try simp only[Act.put,aK,aL,aM]
 refine rD ?_
 clear inv
 go_wp2
 go_end0
 exact⟨rfl,u7.out⟩
end Go.Proofs.YtifkacnoiocebaaGreat
