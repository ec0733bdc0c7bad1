/- A part of the proof: StepHand. -/
import Derived.Test.YtlhmdcgckocidaaGreatHr16
import Derived.Test.YtlhmdcgckocidaaGreatHr17
set_option linter.unusedVariables false
set_option linter.unusedSimpArgs false
set_option maxRecDepth 100000
set_option maxHeartbeats 16000000
namespace Go.Proofs.YtlhmdcgckocidaaGreat
open Go.Maps Go.RowKit
theorem uL {ds:List Dev} {ls:List av} {M:aK} {i y:Int} {p:P4} {ch:Int} (h:bT ds (i,y)=false):eO ds ls M i y p ch= .bad 4:=by simp[eO,h]
theorem MC {ds:List Dev} {ls:List av} {M:aK} {i y:Int} {p:P4} {ch:Int} (h:bT ds (i,y)=true) (h2:aV p=false):eO ds ls M i y p ch= .bad 1:=by simp[eO,h,h2]
theorem JC {ds:List Dev} {ls:List av} {M:aK} {i y:Int} {p:P4} {ch:Int} (h:bT ds (i,y)=true) (h2:aV p=true) {r:Dev} (hr:ds[i.toNat]?=some r):eO ds ls M i y p ch=pY ls i (bD r M i y p ch):=by simp[eO,h,h2,hr]
theorem fq {w:World} {B:Nat} {n:aH} (h:bf w B n):n.au.length=n.dn:=by rw[aH.au,List.length_map,h.eZ]
theorem eT:(Tryz.prog.info? 106).map (·.size)=some 6:=by kernel_rfl
theorem aM.to {W w9 w7:World} {g:Nat} {n:aH} {f o b:Nat} {M M':aK} {k k':Nat} (hM:aM W g n f o b M k) (hN:aL (eX f o b) W.heap.size W w7) (h9:aM w9 g n f o b M' k') (hb:Below W.heap.size w9 w7):aM w7 g n f o b M' k':=by
 have st:bE (fun _=>True) W w7:=fun a v _ hv=>hM.cell hN hv (pE hv)
 exact⟨st _ _ trivial hM.c0,st _ _ trivial hM.c1,st _ _ trivial hM.c2,st _ _ trivial hM.c3,st _ _ trivial hM.c4,hM.net.stay st (fun _ _=>trivial) (fun _ _=>trivial) (fun _ _=>⟨fun _ _=>trivial,fun _ _=>trivial,fun _ _=>trivial⟩) hN.size,
  h9.mf.below hb hM.JD,h9.mo.below hb hM.JE,h9.mb.below hb hM.blt,h9.xS,h9.xU,h9.xV,h9.lf,h9.lo,h9.lb,h9.oo,h9.ob⟩
section
variable {P:Program}
theorem zK (w:World) (d:Nat) (t:TypeId) {ps rs:Array TypeId} {va:Bool} (fn:Fn) (first cap:Array Value) (h:P.underlying t=some (.func ps rs va)):(Op.equalIn (d+1) t (.func fn first cap) .nilFunc).run P w= .ok false w:=by
 simp[Op.equalIn,run_underlying h]
theorem run_equalIn_nil_nil (w:World) (d:Nat) (t:TypeId) {ps rs:Array TypeId} {va:Bool} (h:P.underlying t=some (.func ps rs va)):(Op.equalIn (d+1) t .nilFunc .nilFunc).run P w= .ok true w:=by
 simp[Op.equalIn,run_underlying h]
theorem Dw (w:World) (t:TypeId) {ps rs:Array TypeId} {va:Bool} (fn:Fn) (first cap:Array Value) (h:P.underlying t=some (.func ps rs va)):(binOp .neq t (.func fn first cap) .nilFunc).run P w= .ok (.bool true) w:=by
 simp only[binOp]
 simp[Op.equal,Op.maxDepth,zK w 9999 t fn first cap h]
theorem run_neq_nil_nil (w:World) (t:TypeId) {ps rs:Array TypeId} {va:Bool} (h:P.underlying t=some (.func ps rs va)):(binOp .neq t .nilFunc .nilFunc).run P w= .ok (.bool false) w:=by
 simp only[binOp]
 simp[Op.equal,Op.maxDepth,run_equalIn_nil_nil w 9999 t h]
end
theorem ZN (w:World) (z cs:List Value) (t:TypeId):w.heap.size<((w.alloc (.cells z.toArray t)).setCells w.heap.size 0 cs).heap.size :=by
 have:=(below_setCells (B:=w.heap.size) (Nat.le_refl _) cs 0 (w.alloc (.cells z.toArray t)) (Below.refl _ _)).size
 have e:(w.alloc (.cells z.toArray t)).heap.size =w.heap.size+1:=by simp
 omega
theorem Rm (g:Nat) (n:aH) (f o b:Nat) (M:aK) (k:Nat) (i y:Int) (p:P4) (ch:Int) (W:World) (hM:aM W g n f o b M k) (hE:dD n.au n.ls=0) (hi:ay i) (hy:ay y) (hp:p.ok) (hch:ay ch) (hk:k<1000000):
  Calls Tryz.prog 79 #[.pointer (some ⟨g,0,none⟩),.agg #[.int .i64 i,.int .i64 y],.agg #[.int .i64 p.src,.int .i64 p.dst,.int .i64 p.ah,.int .i64 p.aj],.int .i64 ch] W fun e W'=>
   e= .returned (eO n.au n.ls M i y p ch).val ∧aM W' g n f o b (M.learn (eO n.au n.ls M i y p ch).kn) (k+1)∧aL (eX f o b) W.heap.size W W':=by
 have Dx:=hM.net
 have hok:=dH hE
 have hdv:=jC hE
 have hdl:=fq Dx
 have hdn:n.dn≤10:=by have h1:=hok.dl;omega
 have hln:n.ln≤9223372036854775807:=by have h1:=hok.ll;rw[Dx.llen]at h1;omega
 obtain⟨S,hS⟩:∃S,eO n.au n.ls M i y p ch=S:=⟨_,rfl⟩
 rw[hS]
 have gV:=hide hS
 have bZ:=hide (fun(w':World) (hb:Below W.heap.size W w')=>hM.below hb)
 have jV:=hide (And.intro hM.WE (And.intro hM.JD (And.intro hM.JE hM.blt)))
 have qg:=hide hdl
 have jW:=hide hdv
 have HP:=hide hp
 have mX:=hide hch
 have HK:=hide hk
 have d2:(n.dn:Int)≤10:=by omega
 clear hM hE hok hdv hS hp hch hk Dx hdl
 have hq1:∀(w:World) (fn:Fn) (first cap:Array Value),(binOp .neq 1 (.func fn first cap) .nilFunc).run Tryz.prog w= .ok (.bool true) w:=fun w fn first cap=>Dw w _ fn first cap Tryz.underlying1
 have hq2:∀(w:World),(binOp .neq 1 .nilFunc .nilFunc).run Tryz.prog w= .ok (.bool false) w:=fun w=>run_neq_nil_nil w _ Tryz.underlying1
 go_enter Tryz.func79,Tryz.ntmps79
 go_wp2
 generalize hG:World.alloc (World.alloc (World.alloc W _) _) _=W1
 have HW1:=hide (show W1.heap.size=W.heap.size+3 from by rw[← hG];simp)
 have HQ:=hide (fun(w':World) (hb:Below W1.heap.size W1 w')=>show aB w' W.heap.size #[.int .i64 i,.int .i64 y]∧aB w' (W.heap.size+1) #[.int .i64 p.src,.int .i64 p.dst,.int .i64 p.ah,.int .i64 p.aj]∧aB w' (W.heap.size+1+1) #[.int .i64 0,.int .i64 0,.int .i64 0,.int .i64 0,.int .i64 0,.int .i64 0]∧Below W.heap.size W w' from by
  have q:=gU (B:=W1.heap.size) [(#[.int .i64 i,.int .i64 y],27),(#[.int .i64 p.src,.int .i64 p.dst,.int .i64 p.ah,.int .i64 p.aj],29),(#[.int .i64 0,.int .i64 0,.int .i64 0,.int .i64 0,.int .i64 0,.int .i64 0],106)] W (W':=w') (by rw[← hG]at hb ⊢;exact hb)
  have e:=HW1.out
  exact⟨q.1 0 _ _ rfl (by omega),q.1 1 _ _ rfl (by omega),q.1 2 _ _ rfl (by omega),q.2 (by omega)⟩)
 clear hG
 by_cases h1:i<0
 ·have HS:=hide (show S= .bad 4 from by rw[← gV.out];exact uL (by simp[bT];omega))
  clear gV
  refine bS (by kernel_rfl) (by kernel_rfl) ?_
  intro T hT gt hg1 hgi
  have aU:=hide hg1
  have gX:=hide hgi
  clear hg1 hgi
  have k0:∀t,(gt t).cell? ⟨W.heap.size,0,none⟩=some (.int .i64 i):=fun t=>(HQ.out _ (aU.out t)).1.1 0 _ rfl
  have k1:∀t,(gt t).cell? ⟨W.heap.size,1,none⟩=some (.int .i64 y):=fun t=>(HQ.out _ (aU.out t)).1.1 1 _ rfl
  have k2:∀t,(gt t).cell? ⟨g,0,none⟩=some (.slice n.dA n.dn n.dc):=fun t=>(bZ.out _ (HQ.out _ (aU.out t)).2.2.2).c0
  repeat (go_big_quiet_step (fail))
  refine wpQuiet_nil ?_
  intro _ hw'
  obtain⟨t,rfl⟩:=hw'
  have HB2:=hide (aU.out t)
  generalize gt t=w2 at*
  clear k0 k1 k2 aU gX
  have hb3:=(HQ.out _ HB2.out).2.2.1
  have hbw:=(HQ.out _ HB2.out).2.2.2
  go_wp2_with ((with_reducible show wpList _ _ _ (⟨none,.store 106 (.tmp 8) _,_,_,_,_⟩::_) _ _);refine wpList_store_mid rfl 106 (.tmp 8) (.tmp 51) rfl (W.heap.size+1+1) 0 #[.int .i64 0,.int .i64 0,.int .i64 0,.int .i64 0,.int .i64 0,.int .i64 0] rfl rfl (hb3.there (Nat.le_refl _)) eT (by simp[Value.oneCell']) ?_)
  have hx7:=hb3.all [.int .i64 0,.int .i64 0,.int .i64 0,.int .i64 0,.int .i64 0,.int .i64 0] rfl
  have bI:=below_setCells (B:=W.heap.size) (N:=W.heap.size+1+1) (by omega) [.int .i64 0,.int .i64 0,.int .i64 0,.int .i64 0,.int .i64 0,.int .i64 0] 0 _ hbw
  generalize World.setCells _ _ _ _=w7 at*
  obtain⟨z0,z1,z2,z3,z4,z5⟩:w7.cell? ⟨W.heap.size+1+1,0,none⟩=some (.int .i64 0)∧w7.cell? ⟨W.heap.size+1+1,1,none⟩=some (.int .i64 0)∧w7.cell? ⟨W.heap.size+1+1,2,none⟩=some (.int .i64 0)∧w7.cell? ⟨W.heap.size+1+1,3,none⟩=some (.int .i64 0)∧w7.cell? ⟨W.heap.size+1+1,4,none⟩=some (.int .i64 0)∧w7.cell? ⟨W.heap.size+1+1,5,none⟩=some (.int .i64 0):=
   ⟨hx7.1 0 _ rfl,hx7.1 1 _ rfl,hx7.1 2 _ rfl,hx7.1 3 _ rfl,hx7.1 4 _ rfl,hx7.1 5 _ rfl⟩
  refine bodyPost_ret (v:=.tuple #[.agg #[.int .i64 0,.int .i64 0,.int .i64 0,.int .i64 0,.int .i64 0,.int .i64 0],.int .i64 4]) (by simp[results,Tryz.f79,go_sem,z0,z1,z2,z3,z4,z5]) rfl ⟨by rw[HS.out];rfl,?_,?_⟩
  ·rw[HS.out];exact(bZ.out _ bI).more (Nat.le_succ _)
  ·exact aL.of_below bI
 have i1:(0:Int)≤i:=by omega
 have e1:decide (i<0)=false:=by simp;omega
 by_cases h2:(n.dn:Int)≤i
 ·have HS:=hide (show S= .bad 4 from by rw[← gV.out];exact uL (by have:=qg.out;simp[bT];omega))
  clear gV
  refine bS (by kernel_rfl) (by kernel_rfl) ?_
  intro T hT gt hg1 hgi
  have aU:=hide hg1
  have gX:=hide hgi
  clear hg1 hgi
  have k0:∀t,(gt t).cell? ⟨W.heap.size,0,none⟩=some (.int .i64 i):=fun t=>(HQ.out _ (aU.out t)).1.1 0 _ rfl
  have k1:∀t,(gt t).cell? ⟨W.heap.size,1,none⟩=some (.int .i64 y):=fun t=>(HQ.out _ (aU.out t)).1.1 1 _ rfl
  have k2:∀t,(gt t).cell? ⟨g,0,none⟩=some (.slice n.dA n.dn n.dc):=fun t=>(bZ.out _ (HQ.out _ (aU.out t)).2.2.2).c0
  repeat (go_big_quiet_step (fail))
  refine wpQuiet_nil ?_
  intro _ hw'
  obtain⟨t,rfl⟩:=hw'
  have HB2:=hide (aU.out t)
  generalize gt t=w2 at*
  clear k0 k1 k2 aU gX
  have hb3:=(HQ.out _ HB2.out).2.2.1
  have hbw:=(HQ.out _ HB2.out).2.2.2
  go_wp2_with ((with_reducible show wpList _ _ _ (⟨none,.store 106 (.tmp 8) _,_,_,_,_⟩::_) _ _);refine wpList_store_mid rfl 106 (.tmp 8) (.tmp 51) rfl (W.heap.size+1+1) 0 #[.int .i64 0,.int .i64 0,.int .i64 0,.int .i64 0,.int .i64 0,.int .i64 0] rfl rfl (hb3.there (Nat.le_refl _)) eT (by simp[Value.oneCell']) ?_)
  have hx7:=hb3.all [.int .i64 0,.int .i64 0,.int .i64 0,.int .i64 0,.int .i64 0,.int .i64 0] rfl
  have bI:=below_setCells (B:=W.heap.size) (N:=W.heap.size+1+1) (by omega) [.int .i64 0,.int .i64 0,.int .i64 0,.int .i64 0,.int .i64 0,.int .i64 0] 0 _ hbw
  generalize World.setCells _ _ _ _=w7 at*
  obtain⟨z0,z1,z2,z3,z4,z5⟩:w7.cell? ⟨W.heap.size+1+1,0,none⟩=some (.int .i64 0)∧w7.cell? ⟨W.heap.size+1+1,1,none⟩=some (.int .i64 0)∧w7.cell? ⟨W.heap.size+1+1,2,none⟩=some (.int .i64 0)∧w7.cell? ⟨W.heap.size+1+1,3,none⟩=some (.int .i64 0)∧w7.cell? ⟨W.heap.size+1+1,4,none⟩=some (.int .i64 0)∧w7.cell? ⟨W.heap.size+1+1,5,none⟩=some (.int .i64 0):=
   ⟨hx7.1 0 _ rfl,hx7.1 1 _ rfl,hx7.1 2 _ rfl,hx7.1 3 _ rfl,hx7.1 4 _ rfl,hx7.1 5 _ rfl⟩
  refine bodyPost_ret (v:=.tuple #[.agg #[.int .i64 0,.int .i64 0,.int .i64 0,.int .i64 0,.int .i64 0,.int .i64 0],.int .i64 4]) (by simp[results,Tryz.f79,go_sem,z0,z1,z2,z3,z4,z5]) rfl ⟨by rw[HS.out];rfl,?_,?_⟩
  ·rw[HS.out];exact(bZ.out _ bI).more (Nat.le_succ _)
  ·exact aL.of_below bI
 obtain⟨j,rfl⟩:∃j:Nat,i=(j:Int):=⟨i.toNat,by omega⟩
 have hjl:j<n.ds.length:=by have:=(bZ.out W (Below.refl _ _)).net.eZ;omega
 obtain⟨r,hr⟩:∃r,n.ds[j]?=some r:=⟨_,List.getElem?_eq_getElem hjl⟩
 obtain⟨db,od,dN,JF,JG⟩:=(bZ.out _ (Below.refl _ _)).net.ds.2 (by omega)
 clear JF JG
 have HRR:=hide hr
 have Rn:=hide (show nI n.au (j:Int)=r.kind from by simp[nI,aH.au,hr,aA.dev])
 have i2:(j:Int)<(n.dn:Int):=by omega
 have e2:decide ((n.dn:Int)≤(j:Int))=false:=by simp;omega
 have bU:=hide (fun(w':World) (hb:Below W.heap.size W w')=>dF (b:=db) (o:=od) (w:=w') (r:=r) (k:=j) (by have q:=(bZ.out w' hb).net.ds;rw[dN]at q;exact q) HRR.out)
 by_cases h3:y<0
 ·have HS:=hide (show S= .bad 4 from by rw[← gV.out];exact uL (by simp[bT];omega))
  clear gV
  refine bS (by kernel_rfl) (by kernel_rfl) ?_
  intro T hT gt hg1 hgi
  have aU:=hide hg1
  have gX:=hide hgi
  clear hg1 hgi
  have k0:∀t,(gt t).cell? ⟨W.heap.size,0,none⟩=some (.int .i64 (j:Int)):=fun t=>(HQ.out _ (aU.out t)).1.1 0 _ rfl
  have k1:∀t,(gt t).cell? ⟨W.heap.size,1,none⟩=some (.int .i64 y):=fun t=>(HQ.out _ (aU.out t)).1.1 1 _ rfl
  have k2:∀t,(gt t).cell? ⟨g,0,none⟩=some (.slice n.dA n.dn n.dc):=fun t=>(bZ.out _ (HQ.out _ (aU.out t)).2.2.2).c0
  repeat (go_big_quiet_step (fail))
  refine wpQuiet_nil ?_
  intro _ hw'
  obtain⟨t,rfl⟩:=hw'
  have HB2:=hide (aU.out t)
  generalize gt t=w2 at*
  clear k0 k1 k2 aU gX
  have hb3:=(HQ.out _ HB2.out).2.2.1
  have hbw:=(HQ.out _ HB2.out).2.2.2
  go_wp2_with ((with_reducible show wpList _ _ _ (⟨none,.store 106 (.tmp 8) _,_,_,_,_⟩::_) _ _);refine wpList_store_mid rfl 106 (.tmp 8) (.tmp 51) rfl (W.heap.size+1+1) 0 #[.int .i64 0,.int .i64 0,.int .i64 0,.int .i64 0,.int .i64 0,.int .i64 0] rfl rfl (hb3.there (Nat.le_refl _)) eT (by simp[Value.oneCell']) ?_)
  have hx7:=hb3.all [.int .i64 0,.int .i64 0,.int .i64 0,.int .i64 0,.int .i64 0,.int .i64 0] rfl
  have bI:=below_setCells (B:=W.heap.size) (N:=W.heap.size+1+1) (by omega) [.int .i64 0,.int .i64 0,.int .i64 0,.int .i64 0,.int .i64 0,.int .i64 0] 0 _ hbw
  generalize World.setCells _ _ _ _=w7 at*
  obtain⟨z0,z1,z2,z3,z4,z5⟩:w7.cell? ⟨W.heap.size+1+1,0,none⟩=some (.int .i64 0)∧w7.cell? ⟨W.heap.size+1+1,1,none⟩=some (.int .i64 0)∧w7.cell? ⟨W.heap.size+1+1,2,none⟩=some (.int .i64 0)∧w7.cell? ⟨W.heap.size+1+1,3,none⟩=some (.int .i64 0)∧w7.cell? ⟨W.heap.size+1+1,4,none⟩=some (.int .i64 0)∧w7.cell? ⟨W.heap.size+1+1,5,none⟩=some (.int .i64 0):=
   ⟨hx7.1 0 _ rfl,hx7.1 1 _ rfl,hx7.1 2 _ rfl,hx7.1 3 _ rfl,hx7.1 4 _ rfl,hx7.1 5 _ rfl⟩
  refine bodyPost_ret (v:=.tuple #[.agg #[.int .i64 0,.int .i64 0,.int .i64 0,.int .i64 0,.int .i64 0,.int .i64 0],.int .i64 4]) (by simp[results,Tryz.f79,go_sem,z0,z1,z2,z3,z4,z5]) rfl ⟨by rw[HS.out];rfl,?_,?_⟩
  ·rw[HS.out];exact(bZ.out _ bI).more (Nat.le_succ _)
  ·exact aL.of_below bI
 have i3:(0:Int)≤y:=by omega
 have e3:decide (y<0)=false:=by simp;omega
 have WI:=hide (fun t=>zL r.kind t)
 obtain⟨PF,ZO⟩:∃PF,dL r.kind=PF:=⟨_,rfl⟩
 have ZP:=hide ZO
 simp only[ZO]at WI
 clear ZO
 by_cases h4:PF≤y
 ·have HS:=hide (show S= .bad 4 from by rw[← gV.out];exact uL (by simp[bT,Rn.out,ZP.out];omega))
  clear gV
  refine bS (by kernel_rfl) (by kernel_rfl) ?_
  intro T hT gt hg1 hgi
  have aU:=hide hg1
  have gX:=hide hgi
  clear hg1 hgi
  have k0:∀t,(gt t).cell? ⟨W.heap.size,0,none⟩=some (.int .i64 (j:Int)):=fun t=>(HQ.out _ (aU.out t)).1.1 0 _ rfl
  have k1:∀t,(gt t).cell? ⟨W.heap.size,1,none⟩=some (.int .i64 y):=fun t=>(HQ.out _ (aU.out t)).1.1 1 _ rfl
  have k2:∀t,(gt t).cell? ⟨g,0,none⟩=some (.slice n.dA n.dn n.dc):=fun t=>(bZ.out _ (HQ.out _ (aU.out t)).2.2.2).c0
  rw[dN]at k2
  have k3:∀t,(gt t).cell? ⟨db,od+j*7+1,none⟩=some (.int .i64 r.kind):=fun t=>by have q:=bU.out _ (HQ.out _ (aU.out t)).2.2.2;exact q.2.2.1
  repeat (go_big_quiet_step ((go_at_call 95;exact jU (WI.out _))))
  clear k3
  refine wpQuiet_nil ?_
  intro _ hw'
  obtain⟨t,rfl⟩:=hw'
  have HB2:=hide (aU.out t)
  generalize gt t=w2 at*
  clear k0 k1 k2 aU gX
  have hb3:=(HQ.out _ HB2.out).2.2.1
  have hbw:=(HQ.out _ HB2.out).2.2.2
  go_wp2_with ((with_reducible show wpList _ _ _ (⟨none,.store 106 (.tmp 8) _,_,_,_,_⟩::_) _ _);refine wpList_store_mid rfl 106 (.tmp 8) (.tmp 51) rfl (W.heap.size+1+1) 0 #[.int .i64 0,.int .i64 0,.int .i64 0,.int .i64 0,.int .i64 0,.int .i64 0] rfl rfl (hb3.there (Nat.le_refl _)) eT (by simp[Value.oneCell']) ?_)
  have hx7:=hb3.all [.int .i64 0,.int .i64 0,.int .i64 0,.int .i64 0,.int .i64 0,.int .i64 0] rfl
  have bI:=below_setCells (B:=W.heap.size) (N:=W.heap.size+1+1) (by omega) [.int .i64 0,.int .i64 0,.int .i64 0,.int .i64 0,.int .i64 0,.int .i64 0] 0 _ hbw
  generalize World.setCells _ _ _ _=w7 at*
  obtain⟨z0,z1,z2,z3,z4,z5⟩:w7.cell? ⟨W.heap.size+1+1,0,none⟩=some (.int .i64 0)∧w7.cell? ⟨W.heap.size+1+1,1,none⟩=some (.int .i64 0)∧w7.cell? ⟨W.heap.size+1+1,2,none⟩=some (.int .i64 0)∧w7.cell? ⟨W.heap.size+1+1,3,none⟩=some (.int .i64 0)∧w7.cell? ⟨W.heap.size+1+1,4,none⟩=some (.int .i64 0)∧w7.cell? ⟨W.heap.size+1+1,5,none⟩=some (.int .i64 0):=
   ⟨hx7.1 0 _ rfl,hx7.1 1 _ rfl,hx7.1 2 _ rfl,hx7.1 3 _ rfl,hx7.1 4 _ rfl,hx7.1 5 _ rfl⟩
  refine bodyPost_ret (v:=.tuple #[.agg #[.int .i64 0,.int .i64 0,.int .i64 0,.int .i64 0,.int .i64 0,.int .i64 0],.int .i64 4]) (by simp[results,Tryz.f79,go_sem,z0,z1,z2,z3,z4,z5]) rfl ⟨by rw[HS.out];rfl,?_,?_⟩
  ·rw[HS.out];exact(bZ.out _ bI).more (Nat.le_succ _)
  ·exact aL.of_below bI
 have e4:decide (PF≤y)=false:=by simp;omega
 have hpl:bT n.au ((j:Int),y)=true:=by have:=qg.out;simp[bT,Rn.out,ZP.out];omega
 refine bS (by kernel_rfl) (by kernel_rfl) ?_
 intro T hT gt hg1 hgi
 have aU:=hide hg1
 have gX:=hide hgi
 clear hg1 hgi
 have k0:∀t,(gt t).cell? ⟨W.heap.size,0,none⟩=some (.int .i64 (j:Int)):=fun t=>(HQ.out _ (aU.out t)).1.1 0 _ rfl
 have k1:∀t,(gt t).cell? ⟨W.heap.size,1,none⟩=some (.int .i64 y):=fun t=>(HQ.out _ (aU.out t)).1.1 1 _ rfl
 have k2:∀t,(gt t).cell? ⟨g,0,none⟩=some (.slice n.dA n.dn n.dc):=fun t=>(bZ.out _ (HQ.out _ (aU.out t)).2.2.2).c0
 rw[dN]at k2
 have k3:∀t,(gt t).cell? ⟨db,od+j*7+1,none⟩=some (.int .i64 r.kind):=fun t=>by have q:=bU.out _ (HQ.out _ (aU.out t)).2.2.2;exact q.2.2.1
 repeat (go_big_quiet_step ((go_at_call 95;exact jU (WI.out _))))
 clear k3
 refine wpQuiet_nil ?_
 intro _ hw'
 obtain⟨t,rfl⟩:=hw'
 have HB2:=hide (aU.out t)
 generalize gt t=w2 at*
 clear k0 k1 k2 aU gX
 obtain⟨y0,y1,y2,y3⟩:w2.cell? ⟨W.heap.size+1,0,none⟩=some (.int .i64 p.src)∧w2.cell? ⟨W.heap.size+1,1,none⟩=some (.int .i64 p.dst)∧w2.cell? ⟨W.heap.size+1,2,none⟩=some (.int .i64 p.ah)∧w2.cell? ⟨W.heap.size+1,3,none⟩=some (.int .i64 p.aj):=by
  have q:=(HQ.out _ HB2.out).2.1
  exact⟨q.1 0 _ rfl,q.1 1 _ rfl,q.1 2 _ rfl,q.1 3 _ rfl⟩
 go_wp2_with fail
 refine(qI p w2).mono ?_
 clear y0 y1 y2 y3
 rintro e w3 ⟨he,hb⟩
 have HB3:=hide (HB2.out.trans (hb.mono HB2.out.size))
 clear hb HB2
 cases hrb:aV p
 ·have HS:=hide (show S= .bad 1 from by rw[← gV.out];exact MC hpl hrb)
  rw[hrb]at he
  obtain rfl:e= .returned (.int .i64 1):=he
  have hb3:=(HQ.out _ HB3.out).2.2.1
  have hbw:=(HQ.out _ HB3.out).2.2.2
  clear gV hpl
  go_wp2_with ((with_reducible show wpList _ _ _ (⟨none,.store 106 (.tmp 8) _,_,_,_,_⟩::_) _ _);refine wpList_store_mid rfl 106 (.tmp 8) (.tmp 56) rfl (W.heap.size+1+1) 0 #[.int .i64 0,.int .i64 0,.int .i64 0,.int .i64 0,.int .i64 0,.int .i64 0] rfl rfl (hb3.there (Nat.le_refl _)) eT (by simp[Value.oneCell']) ?_)
  have hx7:=hb3.all [.int .i64 0,.int .i64 0,.int .i64 0,.int .i64 0,.int .i64 0,.int .i64 0] rfl
  have bI:=below_setCells (B:=W.heap.size) (N:=W.heap.size+1+1) (by omega) [.int .i64 0,.int .i64 0,.int .i64 0,.int .i64 0,.int .i64 0,.int .i64 0] 0 _ hbw
  generalize World.setCells _ _ _ _=w7 at*
  obtain⟨z0,z1,z2,z3,z4,z5⟩:w7.cell? ⟨W.heap.size+1+1,0,none⟩=some (.int .i64 0)∧w7.cell? ⟨W.heap.size+1+1,1,none⟩=some (.int .i64 0)∧w7.cell? ⟨W.heap.size+1+1,2,none⟩=some (.int .i64 0)∧w7.cell? ⟨W.heap.size+1+1,3,none⟩=some (.int .i64 0)∧w7.cell? ⟨W.heap.size+1+1,4,none⟩=some (.int .i64 0)∧w7.cell? ⟨W.heap.size+1+1,5,none⟩=some (.int .i64 0):=
   ⟨hx7.1 0 _ rfl,hx7.1 1 _ rfl,hx7.1 2 _ rfl,hx7.1 3 _ rfl,hx7.1 4 _ rfl,hx7.1 5 _ rfl⟩
  refine bodyPost_ret (v:=.tuple #[.agg #[.int .i64 0,.int .i64 0,.int .i64 0,.int .i64 0,.int .i64 0,.int .i64 0],.int .i64 1]) (by simp[results,Tryz.f79,go_sem,z0,z1,z2,z3,z4,z5]) rfl ⟨by rw[HS.out];rfl,?_,?_⟩
  ·rw[HS.out];exact(bZ.out _ bI).more (Nat.le_succ _)
  ·exact aL.of_below bI
 rw[hrb]at he
 obtain rfl:e= .returned (.int .i64 0):=he
 have fH:=hide (show S=pY n.ls (j:Int) (bD r.dev M (j:Int) y p ch)from by rw[← gV.out];exact JC hpl hrb (by simp[aH.au,HRR.out]))
 have nX:=hide (fun(w':World) (hm:aM w' g n f o b M k)=>Mv g n f o b M k j y r p ch w' hm HRR.out hdn HP.out mX.out (jW.out _ (List.mem_map.2 ⟨r,List.mem_of_getElem? HRR.out,rfl⟩)).k1 (jW.out _ (List.mem_map.2 ⟨r,List.mem_of_getElem? HRR.out,rfl⟩)).k5)
 clear gV hpl hrb bU Rn WI ZP e4 h4 e1 e2 e3 h1 h2 h3 dN i1 i2 i3
 obtain⟨X,hX⟩:∃X,bD r.dev M (j:Int) y p ch=X:=⟨_,rfl⟩
 simp only[hX]at nX fH
 clear hX
 obtain⟨⟨pt,⟨qa,qb,qc,qd⟩,kn⟩,ok,er⟩:=X
 simp only at nX
 obtain⟨j0,j1⟩:w3.cell? ⟨W.heap.size,0,none⟩=some (.int .i64 (j:Int))∧w3.cell? ⟨W.heap.size,1,none⟩=some (.int .i64 y):=by
  have q:=(HQ.out _ HB3.out).1
  exact⟨q.1 0 _ rfl,q.1 1 _ rfl⟩
 obtain⟨y0,y1,y2,y3⟩:w3.cell? ⟨W.heap.size+1,0,none⟩=some (.int .i64 p.src)∧w3.cell? ⟨W.heap.size+1,1,none⟩=some (.int .i64 p.dst)∧w3.cell? ⟨W.heap.size+1,2,none⟩=some (.int .i64 p.ah)∧w3.cell? ⟨W.heap.size+1,3,none⟩=some (.int .i64 p.aj):=by
  have q:=(HQ.out _ HB3.out).2.1
  exact⟨q.1 0 _ rfl,q.1 1 _ rfl,q.1 2 _ rfl,q.1 3 _ rfl⟩
 go_wp2_with fail
 refine(nX.out _ (bZ.out _ (HQ.out _ HB3.out).2.2.2)).mono ?_
 clear nX j0 j1 y0 y1 y2 y3
 rintro e w4 ⟨v,rfl,hkn,hb⟩
 have bJ:=hide (HB3.out.trans (hb.mono HB3.out.size))
 have tF:=hide hkn
 have hv1:=hkn.one
 clear hb hkn
 simp only[bq]
 by_cases her:er=0
 ·subst her
  go_wp2_with ((with_reducible show wpList _ _ _ (⟨none,.store 217 (.tmp 11) _,_,_,_,_⟩::_) _ _);refine wpList_store_mid rfl 217 (.tmp 11) (.tmp 64) rfl w4.heap.size 0 #[.int .i64 pt,.int .i64 qa,.int .i64 qb,.int .i64 qc,.int .i64 qd,v] rfl rfl ((aB.new w4 _ _).there (Nat.le_refl _)) bX (Du hv1) ?_;obtain⟨hb4,hx4⟩:=Ck w4 [.int .i64 0,.int .i64 0,.int .i64 0,.int .i64 0,.int .i64 0,.nilFunc] [.int .i64 pt,.int .i64 qa,.int .i64 qb,.int .i64 qc,.int .i64 qd,v] rfl 217;have wL:=hide (ZN w4 [.int .i64 0,.int .i64 0,.int .i64 0,.int .i64 0,.int .i64 0,.nilFunc] [.int .i64 pt,.int .i64 qa,.int .i64 qb,.int .i64 qc,.int .i64 qd,v] 217);generalize World.setCells _ _ _ _=w6 at*;have ig:=hide (bJ.out.trans (hb4.mono bJ.out.size));have gD:=hide hx4;have GY:=hide (tF.out.later (Same.of_below hb4) (Nat.le_refl _));clear hx4 hb4 tF)
  have k0:w6.cell? ⟨W.heap.size,0,none⟩=some (.int .i64 (j:Int)):=(HQ.out _ ig.out).1.1 0 _ rfl
  have Nw:=bZ.out _ (HQ.out _ ig.out).2.2.2
  have k1:=Nw.c0
  have k2:=Nw.c1
  have k3:w6.cell? ⟨w4.heap.size,0,none⟩=some (.int .i64 pt):=gD.out.1 0 _ rfl
  clear Nw
  have JH:=hide (HQ.out _ ig.out).2.2.2
  have oD:=hide (fun(w':World) (hb:Below W.heap.size W w')=>wP n.dA n.dn n.dc n.lA n.ln n.lc n.ls (j:Int) pt w' hln (bZ.out w' hb).net.ls)
  obtain⟨PR,JI⟩:∃PR,aP n.ls ((j:Int),pt)=PR:=⟨_,rfl⟩
  simp only[JI]at oD
  have oF:=hide JI
  clear JI
  obtain⟨PV,JJ⟩:∃PV,rG PR=PV:=⟨_,rfl⟩
  simp only[JJ]at oD
  obtain⟨t1,t2,tb,ZQ,tH⟩:∃t1 t2 tb,PV= .tuple #[.agg #[.int .i64 t1,.int .i64 t2],.bool tb]∧Hid (PR=if tb then some (t1,t2)else none):=by
   rw[← JJ]
   cases PR with
   |none=>exact⟨0,0,false,rfl,hide rfl⟩
   |some x=>exact⟨x.1,x.2,true,rfl,hide rfl⟩
  subst ZQ
  clear JJ
  have n1:W.heap.size≠w6.heap.size:=by have:=JH.out.size;have:=ig.out.size;have:=HW1.out;omega
  have n2:g≠w6.heap.size:=by have:=JH.out.size;have:=jV.out.1;omega
  have n5:w4.heap.size≠w6.heap.size:=by have:=wL.out;omega
  have n3:=Ne.symm n1
  have n4:=Ne.symm n2
  have n6:=Ne.symm n5
  go_region_held3 (fun w'=>w'.cell? ⟨W.heap.size,0,none⟩=some (.int .i64 (j:Int))∧w'.cell? ⟨g,0,none⟩=some (.slice n.dA n.dn n.dc)∧w'.cell? ⟨g,1,none⟩=some (.slice n.lA n.ln n.lc)∧w'.cell? ⟨w4.heap.size,0,none⟩=some (.int .i64 pt)) (go_keep) ((go_at_call 118;refine(oD.out _ (by first | exact JH.out.drew | exact(JH.out.alloc JH.out.size _).drew)).mono ?_;rintro e w7 ⟨rfl,bI⟩;have kE:=hide (show Below w6.heap.size w6 w7 from by first | exact((Below.refl _ w6).drew).trans bI | exact(((Below.refl _ w6).alloc (Nat.le_refl _) _).drew).trans (bI.mono (by simp)));have k0:w7.cell? ⟨W.heap.size,0,none⟩=some (.int .i64 (j:Int)):=(HQ.out _ (ig.out.trans (kE.out.mono ig.out.size))).1.1 0 _ rfl;have k1:=(bZ.out _ (HQ.out _ (ig.out.trans (kE.out.mono ig.out.size))).2.2.2).c0;have k2:=(bZ.out _ (HQ.out _ (ig.out.trans (kE.out.mono ig.out.size))).2.2.2).c1;have k3:w7.cell? ⟨w4.heap.size,0,none⟩=some (.int .i64 pt):=(gD.out.below kE.out wL.out).1 0 _ rfl;(try (have WJ:aB w7 w6.heap.size #[.int .i64 0,.int .i64 0]:=((aB.new w6 #[.int .i64 0,.int .i64 0] 27).below ((Below.refl (w6.heap.size+1) _).drew) (Nat.lt_succ_self _)).below bI (by simp);obtain⟨z0,z1,z2,z3⟩:=(show jo w7 w6.heap.size 0 0 from jo.below (w:=(w6.alloc (.cells #[.int .i64 0,.int .i64 0] 27)).drew) (jo.new w6 0 0 27) bI (by simp))))))
  ·have qh:Below w6.heap.size w6 (w7.alloc (.cells #[.int .i64 t1,.int .i64 t2] 27)):=kE.out.alloc kE.out.size _
   have pK:=aB.new w7 #[.int .i64 t1,.int .i64 t2] 27
   have hq8:w6.heap.size≤w7.heap.size∧w7.heap.size<(w7.alloc (.cells #[.int .i64 t1,.int .i64 t2] 27)).heap.size :=⟨kE.out.size,by simp⟩
   clear k0 k1 k2 k3 n1 n2 n3 n4 n5 n6
   obtain⟨Q,hQ⟩:∃Q,w7.heap.size=Q:=⟨_,rfl⟩
   rw[hQ]at pK hq8 ⊢
   clear hQ
   generalize World.alloc w7 _=w8 at*
   have rH:=hide (ig.out.trans (qh.mono ig.out.size))
   have hb3:=(HQ.out _ rH.out).2.2.1
   have hbw:=(HQ.out _ rH.out).2.2.2
   have hx4:=gD.out.below qh wL.out
   cases ok
   ·have HS:=hide (show S= .bad 7 from by rw[fH.out];simp only[pY,oF.out,tH.out];cases tb<;>rfl)
    go_wp2_with ((with_reducible show wpList _ _ _ (⟨none,.store 106 (.tmp 8) _,_,_,_,_⟩::_) _ _);refine wpList_store_mid rfl 106 (.tmp 8) (.tmp 90) rfl (W.heap.size+1+1) 0 #[.int .i64 0,.int .i64 0,.int .i64 0,.int .i64 0,.int .i64 0,.int .i64 0] rfl rfl (hb3.there (Nat.le_refl _)) eT (by simp[Value.oneCell']) ?_)
    have hx7:=hb3.all [.int .i64 0,.int .i64 0,.int .i64 0,.int .i64 0,.int .i64 0,.int .i64 0] rfl
    have bI:=below_setCells (B:=W.heap.size) (N:=W.heap.size+1+1) (by omega) [.int .i64 0,.int .i64 0,.int .i64 0,.int .i64 0,.int .i64 0,.int .i64 0] 0 _ hbw
    generalize World.setCells _ _ _ _=w7 at*
    obtain⟨z0,z1,z2,z3,z4,z5⟩:w7.cell? ⟨W.heap.size+1+1,0,none⟩=some (.int .i64 0)∧w7.cell? ⟨W.heap.size+1+1,1,none⟩=some (.int .i64 0)∧w7.cell? ⟨W.heap.size+1+1,2,none⟩=some (.int .i64 0)∧w7.cell? ⟨W.heap.size+1+1,3,none⟩=some (.int .i64 0)∧w7.cell? ⟨W.heap.size+1+1,4,none⟩=some (.int .i64 0)∧w7.cell? ⟨W.heap.size+1+1,5,none⟩=some (.int .i64 0):=
     ⟨hx7.1 0 _ rfl,hx7.1 1 _ rfl,hx7.1 2 _ rfl,hx7.1 3 _ rfl,hx7.1 4 _ rfl,hx7.1 5 _ rfl⟩
    refine bodyPost_ret (v:=.tuple #[.agg #[.int .i64 0,.int .i64 0,.int .i64 0,.int .i64 0,.int .i64 0,.int .i64 0],.int .i64 7]) (by simp[results,Tryz.f79,go_sem,z0,z1,z2,z3,z4,z5]) rfl ⟨by rw[HS.out];rfl,?_,?_⟩
    ·rw[HS.out];exact(bZ.out _ bI).more (Nat.le_succ _)
    ·exact aL.of_below bI
   cases tb
   ·have HS:=hide (show S= .bad 7 from by rw[fH.out];simp only[pY,oF.out,tH.out];rfl)
    go_wp2_with ((with_reducible show wpList _ _ _ (⟨none,.store 106 (.tmp 8) _,_,_,_,_⟩::_) _ _);refine wpList_store_mid rfl 106 (.tmp 8) (.tmp 90) rfl (W.heap.size+1+1) 0 #[.int .i64 0,.int .i64 0,.int .i64 0,.int .i64 0,.int .i64 0,.int .i64 0] rfl rfl (hb3.there (Nat.le_refl _)) eT (by simp[Value.oneCell']) ?_)
    have hx7:=hb3.all [.int .i64 0,.int .i64 0,.int .i64 0,.int .i64 0,.int .i64 0,.int .i64 0] rfl
    have bI:=below_setCells (B:=W.heap.size) (N:=W.heap.size+1+1) (by omega) [.int .i64 0,.int .i64 0,.int .i64 0,.int .i64 0,.int .i64 0,.int .i64 0] 0 _ hbw
    generalize World.setCells _ _ _ _=w7 at*
    obtain⟨z0,z1,z2,z3,z4,z5⟩:w7.cell? ⟨W.heap.size+1+1,0,none⟩=some (.int .i64 0)∧w7.cell? ⟨W.heap.size+1+1,1,none⟩=some (.int .i64 0)∧w7.cell? ⟨W.heap.size+1+1,2,none⟩=some (.int .i64 0)∧w7.cell? ⟨W.heap.size+1+1,3,none⟩=some (.int .i64 0)∧w7.cell? ⟨W.heap.size+1+1,4,none⟩=some (.int .i64 0)∧w7.cell? ⟨W.heap.size+1+1,5,none⟩=some (.int .i64 0):=
     ⟨hx7.1 0 _ rfl,hx7.1 1 _ rfl,hx7.1 2 _ rfl,hx7.1 3 _ rfl,hx7.1 4 _ rfl,hx7.1 5 _ rfl⟩
    refine bodyPost_ret (v:=.tuple #[.agg #[.int .i64 0,.int .i64 0,.int .i64 0,.int .i64 0,.int .i64 0,.int .i64 0],.int .i64 7]) (by simp[results,Tryz.f79,go_sem,z0,z1,z2,z3,z4,z5]) rfl ⟨by rw[HS.out];rfl,?_,?_⟩
    ·rw[HS.out];exact(bZ.out _ bI).more (Nat.le_succ _)
    ·exact aL.of_below bI
   have HS:=hide (show S=⟨0,(t1,t2),⟨qa,qb,qc,qd⟩,kn⟩from by rw[fH.out];simp only[pY,oF.out,tH.out];rfl)
   have v5:w8.cell? ⟨w4.heap.size,5,none⟩=some v:=hx4.1 5 _ rfl
   rcases GY.out.later (Same.of_below qh) (Nat.le_refl _)with⟨hkn,hv⟩ | ⟨F,cap,hv,hent,hcall⟩
   ·subst hkn hv
    obtain⟨u0,u1⟩:w8.cell? ⟨Q,0,none⟩=some (.int .i64 t1)∧w8.cell? ⟨Q,1,none⟩=some (.int .i64 t2):=⟨pK.1 0 _ rfl,pK.1 1 _ rfl⟩
    obtain⟨v1,v2,v3,v4⟩:w8.cell? ⟨w4.heap.size,1,none⟩=some (.int .i64 qa)∧w8.cell? ⟨w4.heap.size,2,none⟩=some (.int .i64 qb)∧w8.cell? ⟨w4.heap.size,3,none⟩=some (.int .i64 qc)∧w8.cell? ⟨w4.heap.size,4,none⟩=some (.int .i64 qd):=⟨hx4.1 1 _ rfl,hx4.1 2 _ rfl,hx4.1 3 _ rfl,hx4.1 4 _ rfl⟩
    go_wp2_with ((with_reducible show wpList _ _ _ (⟨none,.store 106 (.tmp 8) _,_,_,_,_⟩::_) _ _);refine wpList_store_mid rfl 106 (.tmp 8) (.tmp 100) rfl (W.heap.size+1+1) 0 #[.int .i64 t1,.int .i64 t2,.int .i64 qa,.int .i64 qb,.int .i64 qc,.int .i64 qd] rfl rfl (hb3.there (Nat.le_refl _)) eT (by simp[Value.oneCell']) ?_)
    have hx7:=hb3.all [.int .i64 t1,.int .i64 t2,.int .i64 qa,.int .i64 qb,.int .i64 qc,.int .i64 qd] rfl
    have bI:=below_setCells (B:=W.heap.size) (N:=W.heap.size+1+1) (by omega) [.int .i64 t1,.int .i64 t2,.int .i64 qa,.int .i64 qb,.int .i64 qc,.int .i64 qd] 0 _ hbw
    generalize World.setCells _ _ _ _=w7 at*
    obtain⟨z0,z1,z2,z3,z4,z5⟩:w7.cell? ⟨W.heap.size+1+1,0,none⟩=some (.int .i64 t1)∧w7.cell? ⟨W.heap.size+1+1,1,none⟩=some (.int .i64 t2)∧w7.cell? ⟨W.heap.size+1+1,2,none⟩=some (.int .i64 qa)∧w7.cell? ⟨W.heap.size+1+1,3,none⟩=some (.int .i64 qb)∧w7.cell? ⟨W.heap.size+1+1,4,none⟩=some (.int .i64 qc)∧w7.cell? ⟨W.heap.size+1+1,5,none⟩=some (.int .i64 qd):=
     ⟨hx7.1 0 _ rfl,hx7.1 1 _ rfl,hx7.1 2 _ rfl,hx7.1 3 _ rfl,hx7.1 4 _ rfl,hx7.1 5 _ rfl⟩
    refine bodyPost_ret (v:=.tuple #[.agg #[.int .i64 t1,.int .i64 t2,.int .i64 qa,.int .i64 qb,.int .i64 qc,.int .i64 qd],.int .i64 0]) (by simp[results,Tryz.f79,go_sem,z0,z1,z2,z3,z4,z5]) rfl ⟨by rw[HS.out];rfl,?_,?_⟩
    ·rw[HS.out];exact(bZ.out _ bI).more (Nat.le_succ _)
    ·exact aL.of_below bI
   ·subst hv
    have Ro:=hide (hcall M k w8 (Same.of_below (Below.refl _ _)) (bZ.out _ hbw) HK.out)
    clear hcall
    go_wp2_with fail
    refine Ro.out.mono ?_
    rintro e w9 ⟨rfl,yZ,rJ⟩
    have ha:∀K,W.heap.size≤K→¬eX f o b K:=fun K hK e=>by have q:=jV.out;rcases e with e | e | e<;>omega
    have hb3:=hb3.near (B:=w8.heap.size) rJ (by have:=hbw.size;have:=rH.out.size;have:=HW1.out;omega) (ha _ (by omega))
    have pK:=pK.near (B:=w8.heap.size) rJ hq8.2 (ha _ (by have:=hq8.1;have:=ig.out.size;have:=HW1.out;omega))
    have hx4:=hx4.near (B:=w8.heap.size) rJ (by have:=qh.size;have:=wL.out;omega) (ha _ (by have:=bJ.out.size;have:=HW1.out;omega))
    have xW:=hide yZ
    have Es:=hide ((aL.of_below (p:=eX f o b) hbw).trans (rJ.mono hbw.size))
    clear hbw yZ rJ v5 Ro
    have hbw:Below W.heap.size w9 w9:=Below.refl _ _
    obtain⟨u0,u1⟩:w9.cell? ⟨Q,0,none⟩=some (.int .i64 t1)∧w9.cell? ⟨Q,1,none⟩=some (.int .i64 t2):=⟨pK.1 0 _ rfl,pK.1 1 _ rfl⟩
    obtain⟨v1,v2,v3,v4⟩:w9.cell? ⟨w4.heap.size,1,none⟩=some (.int .i64 qa)∧w9.cell? ⟨w4.heap.size,2,none⟩=some (.int .i64 qb)∧w9.cell? ⟨w4.heap.size,3,none⟩=some (.int .i64 qc)∧w9.cell? ⟨w4.heap.size,4,none⟩=some (.int .i64 qd):=⟨hx4.1 1 _ rfl,hx4.1 2 _ rfl,hx4.1 3 _ rfl,hx4.1 4 _ rfl⟩
    go_wp2_with ((with_reducible show wpList _ _ _ (⟨none,.store 106 (.tmp 8) _,_,_,_,_⟩::_) _ _);refine wpList_store_mid rfl 106 (.tmp 8) (.tmp 100) rfl (W.heap.size+1+1) 0 #[.int .i64 t1,.int .i64 t2,.int .i64 qa,.int .i64 qb,.int .i64 qc,.int .i64 qd] rfl rfl (hb3.there (Nat.le_refl _)) eT (by simp[Value.oneCell']) ?_)
    have hx7:=hb3.all [.int .i64 t1,.int .i64 t2,.int .i64 qa,.int .i64 qb,.int .i64 qc,.int .i64 qd] rfl
    have bI:=below_setCells (B:=W.heap.size) (N:=W.heap.size+1+1) (by omega) [.int .i64 t1,.int .i64 t2,.int .i64 qa,.int .i64 qb,.int .i64 qc,.int .i64 qd] 0 _ hbw
    generalize World.setCells _ _ _ _=w7 at*
    obtain⟨z0,z1,z2,z3,z4,z5⟩:w7.cell? ⟨W.heap.size+1+1,0,none⟩=some (.int .i64 t1)∧w7.cell? ⟨W.heap.size+1+1,1,none⟩=some (.int .i64 t2)∧w7.cell? ⟨W.heap.size+1+1,2,none⟩=some (.int .i64 qa)∧w7.cell? ⟨W.heap.size+1+1,3,none⟩=some (.int .i64 qb)∧w7.cell? ⟨W.heap.size+1+1,4,none⟩=some (.int .i64 qc)∧w7.cell? ⟨W.heap.size+1+1,5,none⟩=some (.int .i64 qd):=
     ⟨hx7.1 0 _ rfl,hx7.1 1 _ rfl,hx7.1 2 _ rfl,hx7.1 3 _ rfl,hx7.1 4 _ rfl,hx7.1 5 _ rfl⟩
    refine bodyPost_ret (v:=.tuple #[.agg #[.int .i64 t1,.int .i64 t2,.int .i64 qa,.int .i64 qb,.int .i64 qc,.int .i64 qd],.int .i64 0]) (by simp[results,Tryz.f79,go_sem,z0,z1,z2,z3,z4,z5]) rfl ⟨by rw[HS.out];rfl,?_,?_⟩
    ·rw[HS.out];exact aM.to (bZ.out W (Below.refl _ _)) (Es.out.trans (aL.of_below bI)) xW.out bI
    ·exact Es.out.trans (aL.of_below bI)
  ·have qh:Below w6.heap.size w6 ((w7.setCell ⟨w6.heap.size,0,none⟩ (.int .i64 t1)).setCell ⟨w6.heap.size,1,none⟩ (.int .i64 t2)):=(kE.out.setCell (Nat.le_refl _) _).setCell (Nat.le_refl _) _
   have pK:aB ((w7.setCell ⟨w6.heap.size,0,none⟩ (.int .i64 t1)).setCell ⟨w6.heap.size,1,none⟩ (.int .i64 t2)) w6.heap.size #[.int .i64 t1,.int .i64 t2]:=(WJ.set 0 _).set 1 _
   have hq8:w6.heap.size≤w6.heap.size∧w6.heap.size<((w7.setCell ⟨w6.heap.size,0,none⟩ (.int .i64 t1)).setCell ⟨w6.heap.size,1,none⟩ (.int .i64 t2)).heap.size :=⟨Nat.le_refl _,by have:=pE z0;simpa[World.setCell]using this⟩
   clear k0 k1 k2 k3 n1 n2 n3 n4 n5 n6 z0 z1 z2 z3 WJ
   generalize World.setCell (World.setCell w7 _ _) _ _=w8 at*
   have rH:=hide (ig.out.trans (qh.mono ig.out.size))
   have hb3:=(HQ.out _ rH.out).2.2.1
   have hbw:=(HQ.out _ rH.out).2.2.2
   have hx4:=gD.out.below qh wL.out
   cases ok
   ·have HS:=hide (show S= .bad 7 from by rw[fH.out];simp only[pY,oF.out,tH.out];cases tb<;>rfl)
    go_wp2_with ((with_reducible show wpList _ _ _ (⟨none,.store 106 (.tmp 8) _,_,_,_,_⟩::_) _ _);refine wpList_store_mid rfl 106 (.tmp 8) (.tmp 90) rfl (W.heap.size+1+1) 0 #[.int .i64 0,.int .i64 0,.int .i64 0,.int .i64 0,.int .i64 0,.int .i64 0] rfl rfl (hb3.there (Nat.le_refl _)) eT (by simp[Value.oneCell']) ?_)
    have hx7:=hb3.all [.int .i64 0,.int .i64 0,.int .i64 0,.int .i64 0,.int .i64 0,.int .i64 0] rfl
    have bI:=below_setCells (B:=W.heap.size) (N:=W.heap.size+1+1) (by omega) [.int .i64 0,.int .i64 0,.int .i64 0,.int .i64 0,.int .i64 0,.int .i64 0] 0 _ hbw
    generalize World.setCells _ _ _ _=w7 at*
    obtain⟨z0,z1,z2,z3,z4,z5⟩:w7.cell? ⟨W.heap.size+1+1,0,none⟩=some (.int .i64 0)∧w7.cell? ⟨W.heap.size+1+1,1,none⟩=some (.int .i64 0)∧w7.cell? ⟨W.heap.size+1+1,2,none⟩=some (.int .i64 0)∧w7.cell? ⟨W.heap.size+1+1,3,none⟩=some (.int .i64 0)∧w7.cell? ⟨W.heap.size+1+1,4,none⟩=some (.int .i64 0)∧w7.cell? ⟨W.heap.size+1+1,5,none⟩=some (.int .i64 0):=
     ⟨hx7.1 0 _ rfl,hx7.1 1 _ rfl,hx7.1 2 _ rfl,hx7.1 3 _ rfl,hx7.1 4 _ rfl,hx7.1 5 _ rfl⟩
    refine bodyPost_ret (v:=.tuple #[.agg #[.int .i64 0,.int .i64 0,.int .i64 0,.int .i64 0,.int .i64 0,.int .i64 0],.int .i64 7]) (by simp[results,Tryz.f79,go_sem,z0,z1,z2,z3,z4,z5]) rfl ⟨by rw[HS.out];rfl,?_,?_⟩
    ·rw[HS.out];exact(bZ.out _ bI).more (Nat.le_succ _)
    ·exact aL.of_below bI
   cases tb
   ·have HS:=hide (show S= .bad 7 from by rw[fH.out];simp only[pY,oF.out,tH.out];rfl)
    go_wp2_with ((with_reducible show wpList _ _ _ (⟨none,.store 106 (.tmp 8) _,_,_,_,_⟩::_) _ _);refine wpList_store_mid rfl 106 (.tmp 8) (.tmp 90) rfl (W.heap.size+1+1) 0 #[.int .i64 0,.int .i64 0,.int .i64 0,.int .i64 0,.int .i64 0,.int .i64 0] rfl rfl (hb3.there (Nat.le_refl _)) eT (by simp[Value.oneCell']) ?_)
    have hx7:=hb3.all [.int .i64 0,.int .i64 0,.int .i64 0,.int .i64 0,.int .i64 0,.int .i64 0] rfl
    have bI:=below_setCells (B:=W.heap.size) (N:=W.heap.size+1+1) (by omega) [.int .i64 0,.int .i64 0,.int .i64 0,.int .i64 0,.int .i64 0,.int .i64 0] 0 _ hbw
    generalize World.setCells _ _ _ _=w7 at*
    obtain⟨z0,z1,z2,z3,z4,z5⟩:w7.cell? ⟨W.heap.size+1+1,0,none⟩=some (.int .i64 0)∧w7.cell? ⟨W.heap.size+1+1,1,none⟩=some (.int .i64 0)∧w7.cell? ⟨W.heap.size+1+1,2,none⟩=some (.int .i64 0)∧w7.cell? ⟨W.heap.size+1+1,3,none⟩=some (.int .i64 0)∧w7.cell? ⟨W.heap.size+1+1,4,none⟩=some (.int .i64 0)∧w7.cell? ⟨W.heap.size+1+1,5,none⟩=some (.int .i64 0):=
     ⟨hx7.1 0 _ rfl,hx7.1 1 _ rfl,hx7.1 2 _ rfl,hx7.1 3 _ rfl,hx7.1 4 _ rfl,hx7.1 5 _ rfl⟩
    refine bodyPost_ret (v:=.tuple #[.agg #[.int .i64 0,.int .i64 0,.int .i64 0,.int .i64 0,.int .i64 0,.int .i64 0],.int .i64 7]) (by simp[results,Tryz.f79,go_sem,z0,z1,z2,z3,z4,z5]) rfl ⟨by rw[HS.out];rfl,?_,?_⟩
    ·rw[HS.out];exact(bZ.out _ bI).more (Nat.le_succ _)
    ·exact aL.of_below bI
   have HS:=hide (show S=⟨0,(t1,t2),⟨qa,qb,qc,qd⟩,kn⟩from by rw[fH.out];simp only[pY,oF.out,tH.out];rfl)
   have v5:w8.cell? ⟨w4.heap.size,5,none⟩=some v:=hx4.1 5 _ rfl
   rcases GY.out.later (Same.of_below qh) (Nat.le_refl _)with⟨hkn,hv⟩ | ⟨F,cap,hv,hent,hcall⟩
   ·subst hkn hv
    obtain⟨u0,u1⟩:w8.cell? ⟨w6.heap.size,0,none⟩=some (.int .i64 t1)∧w8.cell? ⟨w6.heap.size,1,none⟩=some (.int .i64 t2):=⟨pK.1 0 _ rfl,pK.1 1 _ rfl⟩
    obtain⟨v1,v2,v3,v4⟩:w8.cell? ⟨w4.heap.size,1,none⟩=some (.int .i64 qa)∧w8.cell? ⟨w4.heap.size,2,none⟩=some (.int .i64 qb)∧w8.cell? ⟨w4.heap.size,3,none⟩=some (.int .i64 qc)∧w8.cell? ⟨w4.heap.size,4,none⟩=some (.int .i64 qd):=⟨hx4.1 1 _ rfl,hx4.1 2 _ rfl,hx4.1 3 _ rfl,hx4.1 4 _ rfl⟩
    go_wp2_with ((with_reducible show wpList _ _ _ (⟨none,.store 106 (.tmp 8) _,_,_,_,_⟩::_) _ _);refine wpList_store_mid rfl 106 (.tmp 8) (.tmp 100) rfl (W.heap.size+1+1) 0 #[.int .i64 t1,.int .i64 t2,.int .i64 qa,.int .i64 qb,.int .i64 qc,.int .i64 qd] rfl rfl (hb3.there (Nat.le_refl _)) eT (by simp[Value.oneCell']) ?_)
    have hx7:=hb3.all [.int .i64 t1,.int .i64 t2,.int .i64 qa,.int .i64 qb,.int .i64 qc,.int .i64 qd] rfl
    have bI:=below_setCells (B:=W.heap.size) (N:=W.heap.size+1+1) (by omega) [.int .i64 t1,.int .i64 t2,.int .i64 qa,.int .i64 qb,.int .i64 qc,.int .i64 qd] 0 _ hbw
    generalize World.setCells _ _ _ _=w7 at*
    obtain⟨z0,z1,z2,z3,z4,z5⟩:w7.cell? ⟨W.heap.size+1+1,0,none⟩=some (.int .i64 t1)∧w7.cell? ⟨W.heap.size+1+1,1,none⟩=some (.int .i64 t2)∧w7.cell? ⟨W.heap.size+1+1,2,none⟩=some (.int .i64 qa)∧w7.cell? ⟨W.heap.size+1+1,3,none⟩=some (.int .i64 qb)∧w7.cell? ⟨W.heap.size+1+1,4,none⟩=some (.int .i64 qc)∧w7.cell? ⟨W.heap.size+1+1,5,none⟩=some (.int .i64 qd):=
     ⟨hx7.1 0 _ rfl,hx7.1 1 _ rfl,hx7.1 2 _ rfl,hx7.1 3 _ rfl,hx7.1 4 _ rfl,hx7.1 5 _ rfl⟩
    refine bodyPost_ret (v:=.tuple #[.agg #[.int .i64 t1,.int .i64 t2,.int .i64 qa,.int .i64 qb,.int .i64 qc,.int .i64 qd],.int .i64 0]) (by simp[results,Tryz.f79,go_sem,z0,z1,z2,z3,z4,z5]) rfl ⟨by rw[HS.out];rfl,?_,?_⟩
    ·rw[HS.out];exact(bZ.out _ bI).more (Nat.le_succ _)
    ·exact aL.of_below bI
   ·subst hv
    have Ro:=hide (hcall M k w8 (Same.of_below (Below.refl _ _)) (bZ.out _ hbw) HK.out)
    clear hcall
    go_wp2_with fail
    refine Ro.out.mono ?_
    rintro e w9 ⟨rfl,yZ,rJ⟩
    have ha:∀K,W.heap.size≤K→¬eX f o b K:=fun K hK e=>by have q:=jV.out;rcases e with e | e | e<;>omega
    have hb3:=hb3.near (B:=w8.heap.size) rJ (by have:=hbw.size;have:=rH.out.size;have:=HW1.out;omega) (ha _ (by omega))
    have pK:=pK.near (B:=w8.heap.size) rJ hq8.2 (ha _ (by have:=hq8.1;have:=ig.out.size;have:=HW1.out;omega))
    have hx4:=hx4.near (B:=w8.heap.size) rJ (by have:=qh.size;have:=wL.out;omega) (ha _ (by have:=bJ.out.size;have:=HW1.out;omega))
    have xW:=hide yZ
    have Es:=hide ((aL.of_below (p:=eX f o b) hbw).trans (rJ.mono hbw.size))
    clear hbw yZ rJ v5 Ro
    have hbw:Below W.heap.size w9 w9:=Below.refl _ _
    obtain⟨u0,u1⟩:w9.cell? ⟨w6.heap.size,0,none⟩=some (.int .i64 t1)∧w9.cell? ⟨w6.heap.size,1,none⟩=some (.int .i64 t2):=⟨pK.1 0 _ rfl,pK.1 1 _ rfl⟩
    obtain⟨v1,v2,v3,v4⟩:w9.cell? ⟨w4.heap.size,1,none⟩=some (.int .i64 qa)∧w9.cell? ⟨w4.heap.size,2,none⟩=some (.int .i64 qb)∧w9.cell? ⟨w4.heap.size,3,none⟩=some (.int .i64 qc)∧w9.cell? ⟨w4.heap.size,4,none⟩=some (.int .i64 qd):=⟨hx4.1 1 _ rfl,hx4.1 2 _ rfl,hx4.1 3 _ rfl,hx4.1 4 _ rfl⟩
    go_wp2_with ((with_reducible show wpList _ _ _ (⟨none,.store 106 (.tmp 8) _,_,_,_,_⟩::_) _ _);refine wpList_store_mid rfl 106 (.tmp 8) (.tmp 100) rfl (W.heap.size+1+1) 0 #[.int .i64 t1,.int .i64 t2,.int .i64 qa,.int .i64 qb,.int .i64 qc,.int .i64 qd] rfl rfl (hb3.there (Nat.le_refl _)) eT (by simp[Value.oneCell']) ?_)
    have hx7:=hb3.all [.int .i64 t1,.int .i64 t2,.int .i64 qa,.int .i64 qb,.int .i64 qc,.int .i64 qd] rfl
    have bI:=below_setCells (B:=W.heap.size) (N:=W.heap.size+1+1) (by omega) [.int .i64 t1,.int .i64 t2,.int .i64 qa,.int .i64 qb,.int .i64 qc,.int .i64 qd] 0 _ hbw
    generalize World.setCells _ _ _ _=w7 at*
    obtain⟨z0,z1,z2,z3,z4,z5⟩:w7.cell? ⟨W.heap.size+1+1,0,none⟩=some (.int .i64 t1)∧w7.cell? ⟨W.heap.size+1+1,1,none⟩=some (.int .i64 t2)∧w7.cell? ⟨W.heap.size+1+1,2,none⟩=some (.int .i64 qa)∧w7.cell? ⟨W.heap.size+1+1,3,none⟩=some (.int .i64 qb)∧w7.cell? ⟨W.heap.size+1+1,4,none⟩=some (.int .i64 qc)∧w7.cell? ⟨W.heap.size+1+1,5,none⟩=some (.int .i64 qd):=
     ⟨hx7.1 0 _ rfl,hx7.1 1 _ rfl,hx7.1 2 _ rfl,hx7.1 3 _ rfl,hx7.1 4 _ rfl,hx7.1 5 _ rfl⟩
    refine bodyPost_ret (v:=.tuple #[.agg #[.int .i64 t1,.int .i64 t2,.int .i64 qa,.int .i64 qb,.int .i64 qc,.int .i64 qd],.int .i64 0]) (by simp[results,Tryz.f79,go_sem,z0,z1,z2,z3,z4,z5]) rfl ⟨by rw[HS.out];rfl,?_,?_⟩
    ·rw[HS.out];exact aM.to (bZ.out W (Below.refl _ _)) (Es.out.trans (aL.of_below bI)) xW.out bI
    ·exact Es.out.trans (aL.of_below bI)
 ·have HS:=hide (show S= .bad er from by rw[fH.out];simp[pY,her])
  have d1:(er != 0)=true:=by simpa using her
  go_wp2_with (first | ((with_reducible show wpList _ _ _ (⟨none,.store 217 (.tmp 11) _,_,_,_,_⟩::_) _ _);refine wpList_store_mid rfl 217 (.tmp 11) (.tmp 64) rfl w4.heap.size 0 #[.int .i64 pt,.int .i64 qa,.int .i64 qb,.int .i64 qc,.int .i64 qd,v] rfl rfl ((aB.new w4 _ _).there (Nat.le_refl _)) bX (Du hv1) ?_;obtain⟨hb4,hx4⟩:=Ck w4 [.int .i64 0,.int .i64 0,.int .i64 0,.int .i64 0,.int .i64 0,.nilFunc] [.int .i64 pt,.int .i64 qa,.int .i64 qb,.int .i64 qc,.int .i64 qd,v] rfl 217;generalize World.setCells _ _ _ _=w6 at*;have ig:=hide (bJ.out.trans (hb4.mono bJ.out.size));clear hx4 hb4;have hb3:=(HQ.out _ ig.out).2.2.1;have hbw:=(HQ.out _ ig.out).2.2.2) | ((with_reducible show wpList _ _ _ (⟨none,.store 106 (.tmp 8) _,_,_,_,_⟩::_) _ _);refine wpList_store_mid rfl 106 (.tmp 8) (.tmp 69) rfl (W.heap.size+1+1) 0 #[.int .i64 0,.int .i64 0,.int .i64 0,.int .i64 0,.int .i64 0,.int .i64 0] rfl rfl (hb3.there (Nat.le_refl _)) eT (by simp[Value.oneCell']) ?_))
  have hx7:=hb3.all [.int .i64 0,.int .i64 0,.int .i64 0,.int .i64 0,.int .i64 0,.int .i64 0] rfl
  have bI:=below_setCells (B:=W.heap.size) (N:=W.heap.size+1+1) (by omega) [.int .i64 0,.int .i64 0,.int .i64 0,.int .i64 0,.int .i64 0,.int .i64 0] 0 _ hbw
  generalize World.setCells _ _ _ _=w7 at*
  obtain⟨z0,z1,z2,z3,z4,z5⟩:w7.cell? ⟨W.heap.size+1+1,0,none⟩=some (.int .i64 0)∧w7.cell? ⟨W.heap.size+1+1,1,none⟩=some (.int .i64 0)∧w7.cell? ⟨W.heap.size+1+1,2,none⟩=some (.int .i64 0)∧w7.cell? ⟨W.heap.size+1+1,3,none⟩=some (.int .i64 0)∧w7.cell? ⟨W.heap.size+1+1,4,none⟩=some (.int .i64 0)∧w7.cell? ⟨W.heap.size+1+1,5,none⟩=some (.int .i64 0):=
   ⟨hx7.1 0 _ rfl,hx7.1 1 _ rfl,hx7.1 2 _ rfl,hx7.1 3 _ rfl,hx7.1 4 _ rfl,hx7.1 5 _ rfl⟩
  refine bodyPost_ret (v:=.tuple #[.agg #[.int .i64 0,.int .i64 0,.int .i64 0,.int .i64 0,.int .i64 0,.int .i64 0],.int .i64 er]) (by simp[results,Tryz.f79,go_sem,z0,z1,z2,z3,z4,z5]) rfl ⟨by rw[HS.out];rfl,?_,?_⟩
  ·rw[HS.out];exact(bZ.out _ bI).more (Nat.le_succ _)
  ·exact aL.of_below bI
end Go.Proofs.YtlhmdcgckocidaaGreat
