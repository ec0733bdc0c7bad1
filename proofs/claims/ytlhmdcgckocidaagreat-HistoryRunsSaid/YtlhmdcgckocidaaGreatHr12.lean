/- A part of the proof: StepNatI. -/
import Derived.Test.YtlhmdcgckocidaaGreatHr11
set_option linter.unusedVariables false
set_option linter.unusedSimpArgs false
set_option maxRecDepth 100000
set_option maxHeartbeats 8000000
namespace Go.Proofs.YtlhmdcgckocidaaGreat
open Go.Maps Go.RowKit
theorem Zx (g:Nat) (n:aH) (f o b:Nat) (M:aK) (k:Nat) (i:Nat) (r:aA) (p:P4) (ch:Int) (W:World) (hM:aM W g n f o b M k) (hr:n.ds[i]?=some r) (hn:n.dn≤10) (hp:p.ok):
  Calls Tryz.prog 164 #[.pointer (some ⟨g,0,none⟩),.agg #[.int .i64 (i:Int),.int .i64 1],.agg #[.int .i64 p.src,.int .i64 p.dst,.int .i64 p.ah,.int .i64 p.aj],.int .i64 ch] W fun e W'=>
   e= .returned (.tuple #[bq (jf r.dev M i 1 p ch).1.port (jf r.dev M i 1 p ch).1.q .nilFunc,.bool (jf r.dev M i 1 p ch).2.1,.int .i64 (jf r.dev M i 1 p ch).2.2])∧Below W.heap.size W W':=by
 obtain⟨u,v,tb,hlk,hres⟩:∃u v tb,(∀w',aM w' g n f o b M k→(Instr.lookup 212 (.map (some o)) (.agg #[.int .i64 (i:Int),.int .i64 p.aj]) true).run Tryz.prog w'= .ok (.tuple #[.agg #[.int .i64 u,.int .i64 v],.bool tb]) w')∧
   jf r.dev M i 1 p ch=if p.dst=r.addr∧tb=true then(⟨0,⟨p.src,u,p.ah,v⟩,.nothing⟩,true,0)else(.zero,false,0):=by
  have hk:eD ((i:Int),p.aj):=⟨by have:i<n.dn:=(by rw[← hM.net.eZ];exact(List.getElem?_eq_some_iff.1 hr).1);unfold ay;omega,hp.2.2.2⟩
  cases hO:M.O ((i:Int),p.aj)with
  |none=>
   refine⟨0,0,false,fun w' hm=>?_,?_⟩
   ·have:=hm.lookO _ hk;rw[hO]at this;exact this
   ·simp[jf,hO,aA.dev]
  |some x=>
   refine⟨x.1,x.2,true,fun w' hm=>?_,?_⟩
   ·have:=hm.lookO _ hk;rw[hO]at this;exact this
   ·simp only[jf,hO,aA.dev]
    by_cases e:p.dst=r.addr<;>simp[e]
 obtain⟨NF,GK⟩:∃NF,jf r.dev M i 1 p ch=NF:=⟨_,rfl⟩
 rw[GK]at hres ⊢
 have yS:=hide hres
 have dV:=hide hlk
 clear hres hlk GK
 have bZ:=hide (fun(w':World) (hb:Below W.heap.size W w')=>hM.below hb)
 have hin:i<n.dn:=by rw[← hM.net.eZ];exact(List.getElem?_eq_some_iff.1 hr).1
 clear hM
 obtain⟨dA,dn,dc,ds,lA,ln,lc,ls⟩:=n
 simp only at hr hn hin
 obtain⟨db,od,rfl,hdb,_⟩:=(bZ.out _ (Below.refl _ _)).net.ds.2 (by show 0<dn;omega)
 have HRR:=hide hr
 clear hr hdb
 have i1:(0:Int)≤(i:Int):=by omega
 have i2:(i:Int)<(dn:Int):=by omega
 have i3:(dn:Int)≤10:=by omega
 go_enter Tryz.func164,Tryz.ntmps164
 go_wp2
 generalize hG:World.alloc (World.alloc (World.alloc (World.alloc W _) _) _) _=W1
 have HW1:=hide (show W1.heap.size=W.heap.size+4 from by rw[← hG];simp)
 have HQ:=hide (fun(B:Nat) (w':World) (hb:Below B W1 w')=>gU (B:=B) [(#[.pointer (some ⟨g,0,none⟩)],148),(#[.int .i64 (i:Int),.int .i64 1],27),(#[.int .i64 p.src,.int .i64 p.dst,.int .i64 p.ah,.int .i64 p.aj],29),(#[.int .i64 0,.int .i64 0,.int .i64 0,.int .i64 0,.int .i64 0,.nilFunc],217)] W (W':=w') (by rw[← hG]at hb;exact hb))
 clear hG
 have gB:=hide (fun(w':World) (hb:Below W1.heap.size W1 w')=>show Below W.heap.size W w' from(HQ.out _ w' hb).2 (by rw[HW1.out];omega))
 have HF:=hide (fun(w':World) (hb:Below W1.heap.size W1 w')=>show
   (w'.cell? ⟨W.heap.size,0,none⟩=some (.pointer (some ⟨g,0,none⟩))∧w'.cell? ⟨W.heap.size+1,0,none⟩=some (.int .i64 (i:Int))∧
   w'.cell? ⟨g,0,none⟩=some (.slice (some ⟨db,od,none⟩) dn dc)∧
   (w'.cell? ⟨db,od+i*7,none⟩=some (.string r.name)∧w'.cell? ⟨db,od+i*7+1,none⟩=some (.int .i64 r.kind)∧w'.cell? ⟨db,od+i*7+2,none⟩=some (.int .i64 r.addr)∧w'.cell? ⟨db,od+i*7+3,none⟩=some (.int .u8 r.pool)∧
   w'.cell? ⟨db,od+i*7+4,none⟩=some (.slice r.bA r.bn r.bc)∧w'.cell? ⟨db,od+i*7+5,none⟩=some (.slice r.rA r.rn r.rc)∧w'.cell? ⟨db,od+i*7+6,none⟩=some (.slice r.tA r.tn r.tc)))from by
  have x0:=(HQ.out _ w' hb).1 0 _ _ rfl (by rw[HW1.out];omega)
  have x1:=(HQ.out _ w' hb).1 1 _ _ rfl (by rw[HW1.out];omega)
  have hm:=bZ.out _ (gB.out w' hb)
  obtain⟨_,q0,q1,q2,q3,q4,q5,q6⟩:=dF hm.net.ds HRR.out
  exact⟨x0.1 0 _ rfl,x1.1 0 _ rfl,hm.c0,q0,q1,q2,q3,q4,q5,q6⟩)
 refine aI (fun w'=>Below W1.heap.size W1 w') 10 (by kernel_rfl) ((Below.refl _ _).drew) (fun hS=>?_)
 refine rL 0 [10] rfl hS (by intro w hSw;obtain⟨s0,s1,s2,⟨s3,s4,s5,s6,s7,s8,s9⟩⟩:=HF.out _ hSw;go_simp;try with_reducible rfl) ?_
 refine rP 1 hS ?_
 refine rP 2 hS ?_
 refine rP 3 hS ?_
 refine rL 4 [10] rfl hS (by intro w hSw;obtain⟨s0,s1,s2,⟨s3,s4,s5,s6,s7,s8,s9⟩⟩:=HF.out _ hSw;go_simp;try with_reducible rfl) ?_
 refine rP 5 hS ?_
 refine rL 6 [10] rfl hS (by intro w hSw;obtain⟨s0,s1,s2,⟨s3,s4,s5,s6,s7,s8,s9⟩⟩:=HF.out _ hSw;go_simp;try with_reducible rfl) ?_
 refine rP 7 hS ?_
 refine rL 8 [10] rfl hS (by intro w hSw;obtain⟨s0,s1,s2,⟨s3,s4,s5,s6,s7,s8,s9⟩⟩:=HF.out _ hSw;go_simp;try with_reducible rfl) ?_
 intro inv
 refine rO 9 inv fun K hK=>?_
 go_simp
 refine hK.out _ _ (fun _=>(hS.alloc hS.size _)) ?_
 clear hK K hS inv
 intro inv
 try simp only[Act.put,aD,aF,aG]
 have hxz:aB ((W1.alloc (.cells #[.string ⟨#[]⟩,.int .i64 0,.int .i64 0,.int .u8 0,.slice none 0 0,.slice none 0 0,.slice none 0 0] 86)).drew) W1.heap.size #[.string ⟨#[]⟩,.int .i64 0,.int .i64 0,.int .u8 0,.slice none 0 0,.slice none 0 0,.slice none 0 0]:=(aB.new W1 _ _).below ((Below.refl (W1.heap.size+1) _).drew) (Nat.lt_succ_self _)
 have hbz:Below W1.heap.size W1 ((W1.alloc (.cells #[.string ⟨#[]⟩,.int .i64 0,.int .i64 0,.int .u8 0,.slice none 0 0,.slice none 0 0,.slice none 0 0] 86)).drew):=((Below.refl _ _).alloc (Nat.le_refl _) _).drew
 have cZ:=hide hxz
 clear hxz
 refine rT 10 inv fun K hK=>?_
 rw[if_pos (by rfl)]
 refine wp_store_mid _ _ _ rfl _ _ r.arr rfl rfl (cZ.out.there (Nat.le_refl _)) bY (by first | exact aA.dO _ | simp[Value.oneCell']) ?_
 refine hK.out _ _ ?_
 clear hK K inv
 intro inv
 try simp only[Act.put,aD,aF,aG]
 refine rD ?_
 clear inv
 have hA:nu W g ⟨some ⟨db,od,none⟩,dn,dc,ds,lA,ln,lc,ls⟩ f o b M k i 1 p r W1.heap.size (((W1.alloc (.cells #[.string ⟨#[]⟩,.int .i64 0,.int .i64 0,.int .u8 0,.slice none 0 0,.slice none 0 0,.slice none 0 0] 86)).drew).setCells W1.heap.size 0 r.arr.toList):=by
  have hb2:=below_setCells (B:=W1.heap.size) (Nat.le_refl _) r.arr.toList 0 _ hbz
  have h1:=HW1.out
  have hd:=cZ.out.all r.arr.toList rfl
  rw[Array.toArray_toList]at hd
  have hlt:W1.heap.size<(((W1.alloc (.cells #[.string ⟨#[]⟩,.int .i64 0,.int .i64 0,.int .u8 0,.slice none 0 0,.slice none 0 0,.slice none 0 0] 86)).drew).setCells W1.heap.size 0 r.arr.toList).heap.size :=by
   have:=(below_setCells (B:=W1.heap.size) (Nat.le_refl _) r.arr.toList 0 ((W1.alloc (.cells #[.string ⟨#[]⟩,.int .i64 0,.int .i64 0,.int .u8 0,.slice none 0 0,.slice none 0 0,.slice none 0 0] 86)).drew) (Below.refl _ _)).size
   have e:((W1.alloc (.cells #[.string ⟨#[]⟩,.int .i64 0,.int .i64 0,.int .u8 0,.slice none 0 0,.slice none 0 0,.slice none 0 0] 86)).drew).heap.size =W1.heap.size+1:=by simp
   omega
  exact⟨bZ.out,gB.out _ hb2,(HQ.out _ _ hb2).1 0 _ _ rfl (by omega),(HQ.out _ _ hb2).1 1 _ _ rfl (by omega),(HQ.out _ _ hb2).1 2 _ _ rfl (by omega),(HQ.out _ _ hb2).1 3 _ _ rfl (by omega),hd,by omega,hlt⟩
 obtain⟨G,hG⟩:∃G,W1.heap.size=G:=⟨_,rfl⟩
 rw[hG]at hA ⊢
 clear hG hbz cZ HF HQ gB bZ HW1
 generalize World.setCells _ _ _ _=w2 at*
 have HA:=hide hA
 clear hA i1 i2 i3
 have k1:=HA.out.b1.1 1 _ rfl
 go_wp2
 clear k1
 have HA2:=hide (fun(w':World) (hb:Below w2.heap.size w2 w')=>HA.out.below hb)
 refine aI (fun w'=>Below w2.heap.size w2 w') 14 (by kernel_rfl) ((Below.refl _ _).drew) (fun hS=>?_)
 refine rL 0 [14] rfl hS (by intro w hSw;have hx:=HA2.out _ hSw;have t0:=hx.b0.1 0 _ rfl;have t1:=hx.b1.1 0 _ rfl;have t2:=hx.b2.1 3 _ rfl;have t3:=hx.mem.c3;have t4:=dV.out _ hx.mem;clear hx;go_simp;try with_reducible rfl) ?_
 refine rP 1 hS ?_
 refine rP 2 hS ?_
 refine rL 3 [14] rfl hS (by intro w hSw;have hx:=HA2.out _ hSw;have t0:=hx.b0.1 0 _ rfl;have t1:=hx.b1.1 0 _ rfl;have t2:=hx.b2.1 3 _ rfl;have t3:=hx.mem.c3;have t4:=dV.out _ hx.mem;clear hx;go_simp;try with_reducible rfl) ?_
 refine rP 4 hS ?_
 refine rL 5 [14] rfl hS (by intro w hSw;have hx:=HA2.out _ hSw;have t0:=hx.b0.1 0 _ rfl;have t1:=hx.b1.1 0 _ rfl;have t2:=hx.b2.1 3 _ rfl;have t3:=hx.mem.c3;have t4:=dV.out _ hx.mem;clear hx;go_simp;try with_reducible rfl) ?_
 refine rP 6 hS ?_
 refine rL 7 [14] rfl hS (by intro w hSw;have hx:=HA2.out _ hSw;have t0:=hx.b0.1 0 _ rfl;have t1:=hx.b1.1 0 _ rfl;have t2:=hx.b2.1 3 _ rfl;have t3:=hx.mem.c3;have t4:=dV.out _ hx.mem;clear hx;go_simp;try with_reducible rfl) ?_
 refine rP 8 hS ?_
 refine rL 9 [14] rfl hS (by intro w hSw;have hx:=HA2.out _ hSw;have t0:=hx.b0.1 0 _ rfl;have t1:=hx.b1.1 0 _ rfl;have t2:=hx.b2.1 3 _ rfl;have t3:=hx.mem.c3;have t4:=dV.out _ hx.mem;clear hx;go_simp;try with_reducible rfl) ?_
 refine rP 10 hS ?_
 refine rP 11 hS ?_
 refine rP 12 hS ?_
 intro inv
 refine rO 13 inv fun K hK=>?_
 go_simp
 refine hK.out _ _ (fun _=>(hS.alloc hS.size _)) ?_
 clear hK K hS inv
 intro inv
 try simp only[Act.put,aD,aF,aG]
 have hbz:Below w2.heap.size w2 ((w2.alloc (.cells #[.int .i64 0,.int .i64 0] 227)).drew):=((Below.refl _ _).alloc (Nat.le_refl _) _).drew
 have cZ:=hide (show aB ((w2.alloc (.cells #[.int .i64 0,.int .i64 0] 227)).drew) w2.heap.size #[.int .i64 0,.int .i64 0]from(aB.new w2 _ _).below ((Below.refl (w2.heap.size+1) _).drew) (Nat.lt_succ_self _))
 refine rT 14 inv fun K hK=>?_
 rw[if_pos (by rfl)]
 refine wp_store_mid _ _ _ rfl _ _ #[.int .i64 u,.int .i64 v] rfl rfl (cZ.out.there (Nat.le_refl _)) Eh (by first | exact aA.dO _ | simp[Value.oneCell']) ?_
 refine hK.out _ _ ?_
 clear hK K inv
 intro inv
 try simp only[Act.put,aD,aF,aG]
 refine rT 15 inv fun K hK=>?_
 go_simp
 refine hK.out _ _ ?_
 clear hK K inv
 intro inv
 try simp only[Act.put,aD,aF,aG]
 refine rD ?_
 clear inv
 have hx3:=cZ.out.all [.int .i64 u,.int .i64 v] rfl
 have tu:=HA2.out _ (below_setCells (B:=w2.heap.size) (N:=w2.heap.size) (Nat.le_refl _) [.int .i64 u,.int .i64 v] 0 _ hbz)
 have hsz:w2.heap.size<(((w2.alloc (.cells #[.int .i64 0,.int .i64 0] 227)).drew).setCells w2.heap.size 0 [.int .i64 u,.int .i64 v]).heap.size :=by
  have:=(below_setCells (B:=w2.heap.size) (Nat.le_refl _) [.int .i64 u,.int .i64 v] 0 ((w2.alloc (.cells #[.int .i64 0,.int .i64 0] 227)).drew) (Below.refl _ _)).size
  have e:((w2.alloc (.cells #[.int .i64 0,.int .i64 0] 227)).drew).heap.size =w2.heap.size+1:=by simp
  omega
 have hg2:=HA.out.lt
 clear cZ hbz HA2 HA
 generalize hH:w2.heap.size=H at*
 generalize World.setCells _ _ _ _=w3 at*
 clear hH
 have fJ:=hide tu
 have cu:=hide hx3
 have yT:=hide (And.intro hg2 hsz)
 clear tu hx3 hg2 hsz
 have k1:w3.cell? ⟨W.heap.size+1+1,1,none⟩=some (.int .i64 p.dst):=fJ.out.b2.1 1 _ rfl
 have k2:w3.cell? ⟨G,2,none⟩=some (.int .i64 r.addr):=fJ.out.bd.1 2 _ rfl
 by_cases e1:p.dst=r.addr
 ·cases tb
  ·have fZ:=hide (yS.out.trans (if_neg (show¬(p.dst=r.addr∧false=true)from fun h=>by cases h.2)))
   have d1:(p.dst != r.addr)=false:=by simpa using e1
   clear e1
   go_wp2_with ((with_reducible show wpList _ _ _ (⟨none,.store 217 (.tmp 8) _,_,_,_,_⟩::_) _ _);refine wpList_store_mid rfl 217 (.tmp 8) (.tmp 52) rfl (W.heap.size+1+1+1) 0 #[.int .i64 0,.int .i64 0,.int .i64 0,.int .i64 0,.int .i64 0,.nilFunc] rfl rfl (fJ.out.b3.there (Nat.le_refl _)) bX (by simp[Value.oneCell']) ?_)
   have hx4:=fJ.out.b3.all [.int .i64 0,.int .i64 0,.int .i64 0,.int .i64 0,.int .i64 0,.nilFunc] rfl
   have hb4:=below_setCells (B:=W.heap.size) (N:=W.heap.size+1+1+1) (by omega) [.int .i64 0,.int .i64 0,.int .i64 0,.int .i64 0,.int .i64 0,.nilFunc] 0 _ fJ.out.bl
   generalize World.setCells w3 _ _ _=w4 at*
   obtain⟨z0,z1,z2,z3,z4,z5⟩:w4.cell? ⟨W.heap.size+1+1+1,0,none⟩=some (.int .i64 0)∧w4.cell? ⟨W.heap.size+1+1+1,1,none⟩=some (.int .i64 0)∧w4.cell? ⟨W.heap.size+1+1+1,2,none⟩=some (.int .i64 0)∧w4.cell? ⟨W.heap.size+1+1+1,3,none⟩=some (.int .i64 0)∧w4.cell? ⟨W.heap.size+1+1+1,4,none⟩=some (.int .i64 0)∧w4.cell? ⟨W.heap.size+1+1+1,5,none⟩=some .nilFunc :=
    ⟨hx4.1 0 _ rfl,hx4.1 1 _ rfl,hx4.1 2 _ rfl,hx4.1 3 _ rfl,hx4.1 4 _ rfl,hx4.1 5 _ rfl⟩
   exact bodyPost_ret (v:=.tuple #[bq 0 ⟨0,0,0,0⟩ .nilFunc,.bool false,.int .i64 0]) (by simp[results,Tryz.f164,go_sem,z0,z1,z2,z3,z4,z5,bq]) rfl ⟨by rw[fZ.out];all_goals rfl,hb4⟩
  ·have fZ:=hide (yS.out.trans (if_pos (show p.dst=r.addr∧true=true from⟨e1,rfl⟩)))
   have d1:(p.dst != r.addr)=false:=by simpa using e1
   clear e1
   go_wp2
   clear d1 k1 k2
   refine aI (fun w'=>aB w' H #[.int .i64 u,.int .i64 v]) 7 (by kernel_rfl) (cu.out.below ((Below.refl (H+1) _).drew) (Nat.lt_succ_self _)) (fun hS=>?_)
   refine rP 0 hS ?_
   refine rL 1 [7] rfl hS (by intro w hSw;have t0:=hSw.1 0 _ rfl;have t1:=hSw.1 1 _ rfl;go_simp;try with_reducible rfl) ?_
   refine rP 2 hS ?_
   refine rL 3 [7] rfl hS (by intro w hSw;have t0:=hSw.1 0 _ rfl;have t1:=hSw.1 1 _ rfl;go_simp;try with_reducible rfl) ?_
   refine rP 4 hS ?_
   intro inv
   have k1:w3.cell? ⟨W.heap.size+1+1,1,none⟩=some (.int .i64 p.dst):=fJ.out.b2.1 1 _ rfl
   have k3:w3.cell? ⟨W.heap.size+1+1,3,none⟩=some (.int .i64 p.aj):=fJ.out.b2.1 3 _ rfl
   have kf:=fJ.out.b2.2
   refine rO 5 inv fun K hK=>?_
   go_simp
   refine hK.out _ _ (fun _=>((hS.far _ _ (by show W.heap.size+1+1≠H;have:=fJ.out.hg;have:=yT.out.1;omega)))) ?_
   clear hK K hS inv
   intro inv
   try simp only[Act.put,aD,aF,aG]
   have hS:aB (w3.drew.setCell ⟨W.heap.size+1+1,1,none⟩ (.int .i64 u)) H #[.int .i64 u,.int .i64 v]:=(cu.out.below ((Below.refl (H+1) _).drew) (Nat.lt_succ_self _)).far _ _ (by show W.heap.size+1+1≠H;have:=fJ.out.hg;have:=yT.out.1;omega)
   revert inv
   refine rP 6 hS ?_
   intro inv
   refine rT 7 inv fun K hK=>?_
   go_simp
   refine hK.out _ _ ?_
   clear hK K inv
   intro inv
   try simp only[Act.put,aD,aF,aG]
   refine rD ?_
   clear inv
   have h2:aB (((w3.setCell ⟨W.heap.size+1+1,1,none⟩ (.int .i64 u)).setCell ⟨W.heap.size+1+1,3,none⟩ (.int .i64 v)).drew) (W.heap.size+1+1) #[.int .i64 p.src,.int .i64 u,.int .i64 p.ah,.int .i64 v]:=((fJ.out.b2.set 1 (.int .i64 u)).set 3 (.int .i64 v)).below ((Below.refl (W.heap.size+1+1+1) _).drew) (Nat.lt_succ_self _)
   have h3:aB (((w3.setCell ⟨W.heap.size+1+1,1,none⟩ (.int .i64 u)).setCell ⟨W.heap.size+1+1,3,none⟩ (.int .i64 v)).drew) (W.heap.size+1+1+1) #[.int .i64 0,.int .i64 0,.int .i64 0,.int .i64 0,.int .i64 0,.nilFunc]:=((fJ.out.b3.far _ _ (by show W.heap.size+1+1≠_;omega)).far _ _ (by show W.heap.size+1+1≠_;omega)).below ((Below.refl (W.heap.size+1+1+1+1) _).drew) (Nat.lt_succ_self _)
   have hb5:Below W.heap.size W (((w3.setCell ⟨W.heap.size+1+1,1,none⟩ (.int .i64 u)).setCell ⟨W.heap.size+1+1,3,none⟩ (.int .i64 v)).drew):=((fJ.out.bl.setCell (by show W.heap.size≤W.heap.size+1+1;omega) _).setCell (by show W.heap.size≤W.heap.size+1+1;omega) _).drew
   clear k1 k3 kf
   generalize World.drew (World.setCell (World.setCell w3 _ _) _ _)=w5 at*
   have pI:=hide hb5
   have HH3:=hide h3
   obtain⟨y0,y1,y2,y3⟩:w5.cell? ⟨W.heap.size+1+1,0,none⟩=some (.int .i64 p.src)∧w5.cell? ⟨W.heap.size+1+1,1,none⟩=some (.int .i64 u)∧w5.cell? ⟨W.heap.size+1+1,2,none⟩=some (.int .i64 p.ah)∧w5.cell? ⟨W.heap.size+1+1,3,none⟩=some (.int .i64 v):=⟨h2.1 0 _ rfl,h2.1 1 _ rfl,h2.1 2 _ rfl,h2.1 3 _ rfl⟩
   clear h2 h3 hb5
   go_wp2_with ((with_reducible show wpList _ _ _ (⟨none,.store 217 (.tmp 8) _,_,_,_,_⟩::_) _ _);refine wpList_store_mid rfl 217 (.tmp 8) (.tmp 60) rfl (W.heap.size+1+1+1) 0 #[.int .i64 0,.int .i64 p.src,.int .i64 u,.int .i64 p.ah,.int .i64 v,.nilFunc] rfl rfl (HH3.out.there (Nat.le_refl _)) bX (by simp[Value.oneCell']) ?_)
   have hx4:=HH3.out.all [.int .i64 0,.int .i64 p.src,.int .i64 u,.int .i64 p.ah,.int .i64 v,.nilFunc] rfl
   have hb4:=below_setCells (B:=W.heap.size) (N:=W.heap.size+1+1+1) (by omega) [.int .i64 0,.int .i64 p.src,.int .i64 u,.int .i64 p.ah,.int .i64 v,.nilFunc] 0 _ pI.out
   generalize World.setCells w5 _ _ _=w4 at*
   obtain⟨z0,z1,z2,z3,z4,z5⟩:w4.cell? ⟨W.heap.size+1+1+1,0,none⟩=some (.int .i64 0)∧w4.cell? ⟨W.heap.size+1+1+1,1,none⟩=some (.int .i64 p.src)∧w4.cell? ⟨W.heap.size+1+1+1,2,none⟩=some (.int .i64 u)∧w4.cell? ⟨W.heap.size+1+1+1,3,none⟩=some (.int .i64 p.ah)∧w4.cell? ⟨W.heap.size+1+1+1,4,none⟩=some (.int .i64 v)∧w4.cell? ⟨W.heap.size+1+1+1,5,none⟩=some .nilFunc :=
    ⟨hx4.1 0 _ rfl,hx4.1 1 _ rfl,hx4.1 2 _ rfl,hx4.1 3 _ rfl,hx4.1 4 _ rfl,hx4.1 5 _ rfl⟩
   exact bodyPost_ret (v:=.tuple #[bq 0 ⟨p.src,u,p.ah,v⟩ .nilFunc,.bool true,.int .i64 0]) (by simp[results,Tryz.f164,go_sem,z0,z1,z2,z3,z4,z5,bq]) rfl ⟨by rw[fZ.out];all_goals rfl,hb4⟩
 ·have fZ:=hide (yS.out.trans (if_neg (show¬(p.dst=r.addr∧tb=true)from fun h=>e1 h.1)))
  have d1:(p.dst != r.addr)=true:=by simpa using e1
  clear e1
  go_wp2_with ((with_reducible show wpList _ _ _ (⟨none,.store 217 (.tmp 8) _,_,_,_,_⟩::_) _ _);refine wpList_store_mid rfl 217 (.tmp 8) (.tmp 52) rfl (W.heap.size+1+1+1) 0 #[.int .i64 0,.int .i64 0,.int .i64 0,.int .i64 0,.int .i64 0,.nilFunc] rfl rfl (fJ.out.b3.there (Nat.le_refl _)) bX (by simp[Value.oneCell']) ?_)
  have hx4:=fJ.out.b3.all [.int .i64 0,.int .i64 0,.int .i64 0,.int .i64 0,.int .i64 0,.nilFunc] rfl
  have hb4:=below_setCells (B:=W.heap.size) (N:=W.heap.size+1+1+1) (by omega) [.int .i64 0,.int .i64 0,.int .i64 0,.int .i64 0,.int .i64 0,.nilFunc] 0 _ fJ.out.bl
  generalize World.setCells w3 _ _ _=w4 at*
  obtain⟨z0,z1,z2,z3,z4,z5⟩:w4.cell? ⟨W.heap.size+1+1+1,0,none⟩=some (.int .i64 0)∧w4.cell? ⟨W.heap.size+1+1+1,1,none⟩=some (.int .i64 0)∧w4.cell? ⟨W.heap.size+1+1+1,2,none⟩=some (.int .i64 0)∧w4.cell? ⟨W.heap.size+1+1+1,3,none⟩=some (.int .i64 0)∧w4.cell? ⟨W.heap.size+1+1+1,4,none⟩=some (.int .i64 0)∧w4.cell? ⟨W.heap.size+1+1+1,5,none⟩=some .nilFunc :=
   ⟨hx4.1 0 _ rfl,hx4.1 1 _ rfl,hx4.1 2 _ rfl,hx4.1 3 _ rfl,hx4.1 4 _ rfl,hx4.1 5 _ rfl⟩
  exact bodyPost_ret (v:=.tuple #[bq 0 ⟨0,0,0,0⟩ .nilFunc,.bool false,.int .i64 0]) (by simp[results,Tryz.f164,go_sem,z0,z1,z2,z3,z4,z5,bq]) rfl ⟨by rw[fZ.out];all_goals rfl,hb4⟩
end Go.Proofs.YtlhmdcgckocidaaGreat
