/- A part of the proof: StepBalO. -/
import Derived.Test.YtlhmdcgckocidaaGreatHr11
set_option linter.unusedVariables false
set_option linter.unusedSimpArgs false
set_option maxRecDepth 100000
set_option maxHeartbeats 16000000
namespace Go.Proofs.YtlhmdcgckocidaaGreat
open Go.Maps Go.RowKit
theorem YA (g:Nat) (n:aH) (f o b:Nat) (M:aK) (k:Nat) (i:Nat) (y:Int) (r:aA) (p:P4) (ch:Int) (W:World) (hM:aM W g n f o b M k) (hr:n.ds[i]?=some r) (hn:n.dn≤10) (hp:p.ok) (hy:y≠1) (hch:ay ch):
  Calls Tryz.prog 165 #[.pointer (some ⟨g,0,none⟩),.agg #[.int .i64 (i:Int),.int .i64 y],.agg #[.int .i64 p.src,.int .i64 p.dst,.int .i64 p.ah,.int .i64 p.aj],.int .i64 ch] W fun e W'=>
   ∃v,e= .returned (.tuple #[bq (jm r.dev M i y p ch).1.port (jm r.dev M i y p ch).1.q v,.int .i64 (jm r.dev M i y p ch).2])∧jG W.heap.size W' g n f o b v (jm r.dev M i y p ch).1.kn ∧Below W.heap.size W W':=by
 have hia:ay (i:Int):=by have:i<n.dn:=(by rw[← hM.net.eZ];exact(List.getElem?_eq_some_iff.1 hr).1);unfold ay;omega
 have hbs:=(hM.net.gy r (List.mem_of_getElem? hr)).bs
 have hbc:=(hM.net.gy r (List.mem_of_getElem? hr)).cb
 obtain⟨u,tb,hlk,hmb,hui⟩:∃u tb,(∀w',aM w' g n f o b M k→(Instr.lookup 213 (.map (some b)) (.agg #[.int .i64 (i:Int),.int .i64 p.src,.int .i64 p.dst,.int .i64 p.ah,.int .i64 p.aj]) true).run Tryz.prog w'= .ok (.tuple #[.int .i64 u,.bool tb]) w')∧
   (M.B ((i:Int),p)=if tb then some u else none)∧ay u:=by
  have hk:mF ((i:Int),p):=⟨hia,hp⟩
  cases hO:M.B ((i:Int),p)with
  |none=>
   refine⟨0,false,fun w' hm=>?_,rfl,by simp[ay]⟩
   have:=hm.Em _ hk;rw[hO]at this;exact this
  |some x=>
   refine⟨x,true,fun w' hm=>?_,rfl,hM.ob _ _ hO⟩
   have:=hm.Em _ hk;rw[hO]at this;exact this
 have hres:jm r.dev M i y p ch=if p.dst≠r.addr then((⟨1,p,.nothing⟩,0):qz×Int)else if tb=true then(⟨1,⟨p.src,u,p.ah,p.aj⟩,.back (i,p) u⟩,0)
   else match (motive:=Option Int→qz×Int) (if ch<0 then none else r.bs[ch.toNat]?)with
    |some b=>(⟨1,⟨p.src,b,p.ah,p.aj⟩,.back (i,p) b⟩,0)
    |none=>(.zero,1):=by
  rw[jm,if_neg hy,hmb]
  cases tb<;>rfl
 obtain⟨NF,GK⟩:∃NF,jm r.dev M i y p ch=NF:=⟨_,rfl⟩
 rw[GK]at hres ⊢
 have yS:=hide hres
 have dV:=hide hlk
 have HUI:=hide hui
 have Ra:=hide hia
 have vO:=hide (fun(w':World) (hb:Below W.heap.size W w')=>((hM.below hb).net.gy r (List.mem_of_getElem? hr)).bs)
 have hbl:r.bs.length=r.bn:=hbs.1
 have d0:(y ==1)=false:=by simpa using hy
 clear hres hlk GK hmb hy hui hia hbs
 have bZ:=hide (fun(w':World) (hb:Below W.heap.size W w')=>hM.below hb)
 have hin:i<n.dn:=by rw[← hM.net.eZ];exact(List.getElem?_eq_some_iff.1 hr).1
 clear hM
 obtain⟨dA,dn,dc,ds,lA,ln,lc,ls⟩:=n
 simp only at hr hn hin
 obtain⟨db,od,rfl,hdb,_⟩:=(bZ.out _ (Below.refl _ _)).net.ds.2 (by show 0<dn;omega)
 have HRR:=hide hr
 clear hr hdb
 have i1:(0:Int)≤(i:Int):=by omega
 have i2:(i:Int)<(dn:Int):=by omega
 have i3:(dn:Int)≤10:=by omega
 go_enter Tryz.func165,Tryz.ntmps165
 go_wp2
 generalize hG:World.alloc (World.alloc (World.alloc (World.alloc W _) _) _) _=W1
 have HW1:=hide (show W1.heap.size=W.heap.size+4 from by rw[← hG];simp)
 have HQ:=hide (fun(B:Nat) (w':World) (hb:Below B W1 w')=>gU (B:=B) [(#[.pointer (some ⟨g,0,none⟩)],148),(#[.int .i64 (i:Int),.int .i64 y],27),(#[.int .i64 p.src,.int .i64 p.dst,.int .i64 p.ah,.int .i64 p.aj],29),(#[.int .i64 0,.int .i64 0,.int .i64 0,.int .i64 0,.int .i64 0,.nilFunc],217)] W (W':=w') (by rw[← hG]at hb;exact hb))
 clear hG
 have gB:=hide (fun(w':World) (hb:Below W1.heap.size W1 w')=>show Below W.heap.size W w' from(HQ.out _ w' hb).2 (by rw[HW1.out];omega))
 have HF:=hide (fun(w':World) (hb:Below W1.heap.size W1 w')=>show
   (w'.cell? ⟨W.heap.size,0,none⟩=some (.pointer (some ⟨g,0,none⟩))∧w'.cell? ⟨W.heap.size+1,0,none⟩=some (.int .i64 (i:Int))∧
   w'.cell? ⟨g,0,none⟩=some (.slice (some ⟨db,od,none⟩) dn dc)∧
   (w'.cell? ⟨db,od+i*7,none⟩=some (.string r.name)∧w'.cell? ⟨db,od+i*7+1,none⟩=some (.int .i64 r.kind)∧w'.cell? ⟨db,od+i*7+2,none⟩=some (.int .i64 r.addr)∧w'.cell? ⟨db,od+i*7+3,none⟩=some (.int .u8 r.pool)∧
   w'.cell? ⟨db,od+i*7+4,none⟩=some (.slice r.bA r.bn r.bc)∧w'.cell? ⟨db,od+i*7+5,none⟩=some (.slice r.rA r.rn r.rc)∧w'.cell? ⟨db,od+i*7+6,none⟩=some (.slice r.tA r.tn r.tc)))from by
  have x0:=(HQ.out _ w' hb).1 0 _ _ rfl (by rw[HW1.out];omega)
  have x1:=(HQ.out _ w' hb).1 1 _ _ rfl (by rw[HW1.out];omega)
  have hm:=bZ.out _ (gB.out w' hb)
  obtain⟨_,q0,q1,q2,q3,q4,q5,q6⟩:=dF hm.net.ds HRR.out
  exact⟨x0.1 0 _ rfl,x1.1 0 _ rfl,hm.c0,q0,q1,q2,q3,q4,q5,q6⟩)
 refine aI (fun w'=>Below W1.heap.size W1 w') 10 (by kernel_rfl) ((Below.refl _ _).drew) (fun hS=>?_)
 refine rL 0 [10] rfl hS (by intro w hSw;obtain⟨s0,s1,s2,⟨s3,s4,s5,s6,s7,s8,s9⟩⟩:=HF.out _ hSw;go_simp;try with_reducible rfl) ?_
 refine rP 1 hS ?_
 refine rP 2 hS ?_
 refine rP 3 hS ?_
 refine rL 4 [10] rfl hS (by intro w hSw;obtain⟨s0,s1,s2,⟨s3,s4,s5,s6,s7,s8,s9⟩⟩:=HF.out _ hSw;go_simp;try with_reducible rfl) ?_
 refine rP 5 hS ?_
 refine rL 6 [10] rfl hS (by intro w hSw;obtain⟨s0,s1,s2,⟨s3,s4,s5,s6,s7,s8,s9⟩⟩:=HF.out _ hSw;go_simp;try with_reducible rfl) ?_
 refine rP 7 hS ?_
 refine rL 8 [10] rfl hS (by intro w hSw;obtain⟨s0,s1,s2,⟨s3,s4,s5,s6,s7,s8,s9⟩⟩:=HF.out _ hSw;go_simp;try with_reducible rfl) ?_
 intro inv
 refine rO 9 inv fun K hK=>?_
 go_simp
 refine hK.out _ _ (fun _=>(hS.alloc hS.size _)) ?_
 clear hK K hS inv
 intro inv
 try simp only[Act.put,aD,aF,aG]
 have hxz:aB ((W1.alloc (.cells #[.string ⟨#[]⟩,.int .i64 0,.int .i64 0,.int .u8 0,.slice none 0 0,.slice none 0 0,.slice none 0 0] 86)).drew) W1.heap.size #[.string ⟨#[]⟩,.int .i64 0,.int .i64 0,.int .u8 0,.slice none 0 0,.slice none 0 0,.slice none 0 0]:=(aB.new W1 _ _).below ((Below.refl (W1.heap.size+1) _).drew) (Nat.lt_succ_self _)
 have hbz:Below W1.heap.size W1 ((W1.alloc (.cells #[.string ⟨#[]⟩,.int .i64 0,.int .i64 0,.int .u8 0,.slice none 0 0,.slice none 0 0,.slice none 0 0] 86)).drew):=((Below.refl _ _).alloc (Nat.le_refl _) _).drew
 have cZ:=hide hxz
 clear hxz
 refine rT 10 inv fun K hK=>?_
 rw[if_pos (by rfl)]
 refine wp_store_mid _ _ _ rfl _ _ r.arr rfl rfl (cZ.out.there (Nat.le_refl _)) bY (by first | exact aA.dO _ | simp[Value.oneCell']) ?_
 refine hK.out _ _ ?_
 clear hK K inv
 intro inv
 try simp only[Act.put,aD,aF,aG]
 refine rD ?_
 clear inv
 have hA:nu W g ⟨some ⟨db,od,none⟩,dn,dc,ds,lA,ln,lc,ls⟩ f o b M k i y p r W1.heap.size (((W1.alloc (.cells #[.string ⟨#[]⟩,.int .i64 0,.int .i64 0,.int .u8 0,.slice none 0 0,.slice none 0 0,.slice none 0 0] 86)).drew).setCells W1.heap.size 0 r.arr.toList):=by
  have hb2:=below_setCells (B:=W1.heap.size) (Nat.le_refl _) r.arr.toList 0 _ hbz
  have h1:=HW1.out
  have hd:=cZ.out.all r.arr.toList rfl
  rw[Array.toArray_toList]at hd
  have hlt:W1.heap.size<(((W1.alloc (.cells #[.string ⟨#[]⟩,.int .i64 0,.int .i64 0,.int .u8 0,.slice none 0 0,.slice none 0 0,.slice none 0 0] 86)).drew).setCells W1.heap.size 0 r.arr.toList).heap.size :=by
   have:=(below_setCells (B:=W1.heap.size) (Nat.le_refl _) r.arr.toList 0 ((W1.alloc (.cells #[.string ⟨#[]⟩,.int .i64 0,.int .i64 0,.int .u8 0,.slice none 0 0,.slice none 0 0,.slice none 0 0] 86)).drew) (Below.refl _ _)).size
   have e:((W1.alloc (.cells #[.string ⟨#[]⟩,.int .i64 0,.int .i64 0,.int .u8 0,.slice none 0 0,.slice none 0 0,.slice none 0 0] 86)).drew).heap.size =W1.heap.size+1:=by simp
   omega
  exact⟨bZ.out,gB.out _ hb2,(HQ.out _ _ hb2).1 0 _ _ rfl (by omega),(HQ.out _ _ hb2).1 1 _ _ rfl (by omega),(HQ.out _ _ hb2).1 2 _ _ rfl (by omega),(HQ.out _ _ hb2).1 3 _ _ rfl (by omega),hd,by omega,hlt⟩
 obtain⟨G,hG⟩:∃G,W1.heap.size=G:=⟨_,rfl⟩
 rw[hG]at hA ⊢
 clear hG hbz cZ HF HQ gB bZ HW1
 generalize World.setCells _ _ _ _=w2 at*
 have HA:=hide hA
 clear hA i1 i2 i3
 have k1:w2.cell? ⟨W.heap.size+1,1,none⟩=some (.int .i64 y):=HA.out.b1.1 1 _ rfl
 have k3:w2.cell? ⟨G,2,none⟩=some (.int .i64 r.addr):=HA.out.bd.1 2 _ rfl
 obtain⟨y0,y1,y2,y3⟩:w2.cell? ⟨W.heap.size+1+1,0,none⟩=some (.int .i64 p.src)∧w2.cell? ⟨W.heap.size+1+1,1,none⟩=some (.int .i64 p.dst)∧w2.cell? ⟨W.heap.size+1+1,2,none⟩=some (.int .i64 p.ah)∧w2.cell? ⟨W.heap.size+1+1,3,none⟩=some (.int .i64 p.aj):=⟨HA.out.b2.1 0 _ rfl,HA.out.b2.1 1 _ rfl,HA.out.b2.1 2 _ rfl,HA.out.b2.1 3 _ rfl⟩
 by_cases e1:p.dst=r.addr
 case neg=>
  have fZ:=hide (yS.out.trans (if_pos e1))
  have d1:(p.dst != r.addr)=true:=by simpa using e1
  clear yS dV HUI vO e1
  go_wp2_with ((with_reducible show wpList _ _ _ (⟨none,.store 217 (.tmp 8) _,_,_,_,_⟩::_) _ _);refine wpList_store_mid rfl 217 (.tmp 8) (.tmp 66) rfl (W.heap.size+1+1+1) 0 #[.int .i64 1,.int .i64 p.src,.int .i64 p.dst,.int .i64 p.ah,.int .i64 p.aj,.nilFunc] rfl rfl (HA.out.b3.there (Nat.le_refl _)) bX (by simp[Value.oneCell']) ?_)
  have hx7:=aB.all HA.out.b3 [.int .i64 1,.int .i64 p.src,.int .i64 p.dst,.int .i64 p.ah,.int .i64 p.aj,.nilFunc] rfl
  have bI:=below_setCells (B:=W.heap.size) (N:=W.heap.size+1+1+1) (by omega) [.int .i64 1,.int .i64 p.src,.int .i64 p.dst,.int .i64 p.ah,.int .i64 p.aj,.nilFunc] 0 _ HA.out.bl
  generalize World.setCells _ _ _ _=w7 at*
  obtain⟨z0,z1,z2,z3,z4,z5⟩:w7.cell? ⟨W.heap.size+1+1+1,0,none⟩=some (.int .i64 1)∧w7.cell? ⟨W.heap.size+1+1+1,1,none⟩=some (.int .i64 p.src)∧w7.cell? ⟨W.heap.size+1+1+1,2,none⟩=some (.int .i64 p.dst)∧w7.cell? ⟨W.heap.size+1+1+1,3,none⟩=some (.int .i64 p.ah)∧w7.cell? ⟨W.heap.size+1+1+1,4,none⟩=some (.int .i64 p.aj)∧w7.cell? ⟨W.heap.size+1+1+1,5,none⟩=some (.nilFunc):=
   ⟨hx7.1 0 _ rfl,hx7.1 1 _ rfl,hx7.1 2 _ rfl,hx7.1 3 _ rfl,hx7.1 4 _ rfl,hx7.1 5 _ rfl⟩
  refine bodyPost_ret (v:=.tuple #[bq 1 ⟨p.src,p.dst,p.ah,p.aj⟩ (.nilFunc),.int .i64 0]) (by simp[results,Tryz.f165,go_sem,z0,z1,z2,z3,z4,z5,bq]) rfl ⟨_,by rw[fZ.out];all_goals rfl,?_,bI⟩
  rw[fZ.out]
  exact .inl ⟨rfl,rfl⟩
 have lF:=hide (yS.out.trans (if_neg (by simpa using e1)))
 have d1:(p.dst != r.addr)=false:=by simpa using e1
 clear yS e1
 go_wp2
 have hx3:=aB.new w2 #[.int .i64 p.src,.int .i64 p.dst,.int .i64 p.ah,.int .i64 p.aj] 29
 have tu:=HA.out.alloc (.cells #[.int .i64 p.src,.int .i64 p.dst,.int .i64 p.ah,.int .i64 p.aj] 29)
 have hz3:(w2.alloc (.cells #[.int .i64 p.src,.int .i64 p.dst,.int .i64 p.ah,.int .i64 p.aj] 29)).heap.size =w2.heap.size+1:=by simp
 have hl3:=HA.out.lt
 clear k1 k3 y0 y1 y2 y3 d0 d1 HA
 generalize hH:w2.heap.size=H at*
 clear hH
 generalize World.alloc w2 _=w3 at*
 have fJ:=hide (fun(w':World) (hb:Below w3.heap.size w3 w')=>tu.below hb)
 have GL:=hide (fun(w':World) (hb:Below w3.heap.size w3 w')=>hx3.below hb (by omega))
 have yT:=hide (show G<H∧H<w3.heap.size from⟨hl3,by omega⟩)
 clear tu hx3 hl3 hz3
 refine aI (fun w'=>Below w3.heap.size w3 w') 13 (by kernel_rfl) ((Below.refl _ _).drew) (fun hS=>?_)
 refine rL 0 [13] rfl hS (by intro w hSw;have hx:=fJ.out _ hSw;have t0:=hx.b0.1 0 _ rfl;have t1:=hx.b1.1 0 _ rfl;have t2:=hx.b2.1 0 _ rfl;have t5:=hx.b2.1 1 _ rfl;have t6:=hx.b2.1 2 _ rfl;have t7:=hx.b2.1 3 _ rfl;have t3:=hx.mem.c4;have t4:=dV.out _ hx.mem;clear hx;go_simp;try with_reducible rfl) ?_
 refine rP 1 hS ?_
 refine rP 2 hS ?_
 refine rL 3 [13] rfl hS (by intro w hSw;have hx:=fJ.out _ hSw;have t0:=hx.b0.1 0 _ rfl;have t1:=hx.b1.1 0 _ rfl;have t2:=hx.b2.1 0 _ rfl;have t5:=hx.b2.1 1 _ rfl;have t6:=hx.b2.1 2 _ rfl;have t7:=hx.b2.1 3 _ rfl;have t3:=hx.mem.c4;have t4:=dV.out _ hx.mem;clear hx;go_simp;try with_reducible rfl) ?_
 refine rP 4 hS ?_
 refine rL 5 [13] rfl hS (by intro w hSw;have hx:=fJ.out _ hSw;have t0:=hx.b0.1 0 _ rfl;have t1:=hx.b1.1 0 _ rfl;have t2:=hx.b2.1 0 _ rfl;have t5:=hx.b2.1 1 _ rfl;have t6:=hx.b2.1 2 _ rfl;have t7:=hx.b2.1 3 _ rfl;have t3:=hx.mem.c4;have t4:=dV.out _ hx.mem;clear hx;go_simp;try with_reducible rfl) ?_
 refine rL 6 [13] rfl hS (by intro w hSw;have hx:=fJ.out _ hSw;have t0:=hx.b0.1 0 _ rfl;have t1:=hx.b1.1 0 _ rfl;have t2:=hx.b2.1 0 _ rfl;have t5:=hx.b2.1 1 _ rfl;have t6:=hx.b2.1 2 _ rfl;have t7:=hx.b2.1 3 _ rfl;have t3:=hx.mem.c4;have t4:=dV.out _ hx.mem;clear hx;go_simp;try with_reducible rfl) ?_
 refine rP 7 hS ?_
 refine rL 8 [13] rfl hS (by intro w hSw;have hx:=fJ.out _ hSw;have t0:=hx.b0.1 0 _ rfl;have t1:=hx.b1.1 0 _ rfl;have t2:=hx.b2.1 0 _ rfl;have t5:=hx.b2.1 1 _ rfl;have t6:=hx.b2.1 2 _ rfl;have t7:=hx.b2.1 3 _ rfl;have t3:=hx.mem.c4;have t4:=dV.out _ hx.mem;clear hx;go_simp;try with_reducible rfl) ?_
 refine rP 9 hS ?_
 refine rP 10 hS ?_
 refine rP 11 hS ?_
 intro inv
 refine rO 12 inv fun K hK=>?_
 go_simp
 refine hK.out _ _ (fun _=>(hS.alloc hS.size _)) ?_
 clear hK K hS inv
 intro inv
 try simp only[Act.put,aD,aF,aG]
 refine rT 13 inv fun K hK=>?_
 go_simp
 refine hK.out _ _ ?_
 clear hK K inv
 intro inv
 try simp only[Act.put,aD,aF,aG]
 refine rT 14 inv fun K hK=>?_
 go_simp
 refine hK.out _ _ ?_
 clear hK K inv
 intro inv
 try simp only[Act.put,aD,aF,aG]
 refine rD ?_
 clear inv
 have hb4:Below w3.heap.size w3 ((w3.alloc (.cells #[.int .i64 u] 3)).drew):=((Below.refl _ _).alloc (Nat.le_refl _) _).drew
 have GN:=fJ.out _ hb4
 have Rj:=GL.out _ hb4
 have Bd:aB ((w3.alloc (.cells #[.int .i64 u] 3)).drew) w3.heap.size #[.int .i64 u]:=(aB.new w3 _ _).below ((Below.refl (w3.heap.size+1) _).drew) (Nat.lt_succ_self _)
 have WH:((w3.alloc (.cells #[.int .i64 u] 3)).drew).heap.size =w3.heap.size+1:=by simp
 have hl4:=yT.out
 clear fJ GL yT hb4
 generalize hN:w3.heap.size=N at*
 clear hN
 generalize World.drew (World.alloc w3 _)=w4 at*
 have fK:=hide GN
 have HO4:=hide Rj
 have yU:=hide Bd
 have El:=hide (show G<H∧H<N∧N<w4.heap.size from⟨hl4.1,hl4.2,by omega⟩)
 clear GN Rj Bd WH hl4
 cases tb
 case true=>
  have fZ:=hide (lF.out.trans (if_pos rfl))
  clear lF dV vO
  obtain⟨y0,y1,y2,y3⟩:w4.cell? ⟨W.heap.size+1+1,0,none⟩=some (.int .i64 p.src)∧w4.cell? ⟨W.heap.size+1+1,1,none⟩=some (.int .i64 p.dst)∧w4.cell? ⟨W.heap.size+1+1,2,none⟩=some (.int .i64 p.ah)∧w4.cell? ⟨W.heap.size+1+1,3,none⟩=some (.int .i64 p.aj):=⟨fK.out.b2.1 0 _ rfl,fK.out.b2.1 1 _ rfl,fK.out.b2.1 2 _ rfl,fK.out.b2.1 3 _ rfl⟩
  have kf:=fK.out.b2.2
  have kn:w4.cell? ⟨N,0,none⟩=some (.int .i64 u):=yU.out.1 0 _ rfl
  have hgl:=fK.out.hg
  have hll:=El.out
  have n1:N≠W.heap.size+1+1:=by omega
  have n2:W.heap.size+1+1≠N:=by omega
  have kC:=hide (fun(K:Nat) (vs:Array Value) (h:aB w4 K vs) (h1:W.heap.size+1+1≠K) (h2:N≠K)=>show aB (w4.setCell ⟨W.heap.size+1+1,1,none⟩ (.int .i64 u)) K vs from h.far _ _ h1)
  have iq:=hide (show Below W.heap.size W (w4.setCell ⟨W.heap.size+1+1,1,none⟩ (.int .i64 u))from fK.out.bl.setCell (by show W.heap.size≤W.heap.size+1+1;omega) _)
  have HB0:=hide (kC.out _ _ fK.out.b0 (by omega) (by omega))
  have HB1:=hide (kC.out _ _ fK.out.b1 (by omega) (by omega))
  have HB3:=hide (kC.out _ _ fK.out.b3 (by omega) (by omega))
  have Jy:=hide (kC.out _ _ HO4.out (by omega) (by omega))
  have Bc:=hide (show aB (w4.setCell ⟨W.heap.size+1+1,1,none⟩ (.int .i64 u)) N #[.int .i64 u]from yU.out.far _ _ n2)
  have hsz5:(w4.setCell ⟨W.heap.size+1+1,1,none⟩ (.int .i64 u)).heap.size =w4.heap.size:=by simp[World.setCell]
  have tC:=hide (show W.heap.size+1+1+1<H∧H<N∧N<(w4.setCell ⟨W.heap.size+1+1,1,none⟩ (.int .i64 u)).heap.size from by rw[hsz5];omega)
  clear hgl hll hsz5 kC
  go_wp2_with ((with_reducible show wpList _ _ _ (⟨none,.store 217 (.tmp 8) _,_,_,_,_⟩::_) _ _);refine wpList_store_mid rfl 217 (.tmp 8) (.tmp 101) rfl (W.heap.size+1+1+1) 0 #[.int .i64 1,.int .i64 p.src,.int .i64 u,.int .i64 p.ah,.int .i64 p.aj,.func (.func 193) #[] #[.pointer (some ⟨N,0,none⟩),.pointer (some ⟨W.heap.size,0,none⟩),.pointer (some ⟨W.heap.size+1,0,none⟩),.pointer (some ⟨H,0,none⟩)]] rfl rfl (HB3.out.there (Nat.le_refl _)) bX (by simp[Value.oneCell']) ?_)
  have hx7:=aB.all HB3.out [.int .i64 1,.int .i64 p.src,.int .i64 u,.int .i64 p.ah,.int .i64 p.aj,.func (.func 193) #[] #[.pointer (some ⟨N,0,none⟩),.pointer (some ⟨W.heap.size,0,none⟩),.pointer (some ⟨W.heap.size+1,0,none⟩),.pointer (some ⟨H,0,none⟩)]] rfl
  have bI:=below_setCells (B:=W.heap.size) (N:=W.heap.size+1+1+1) (by omega) [.int .i64 1,.int .i64 p.src,.int .i64 u,.int .i64 p.ah,.int .i64 p.aj,.func (.func 193) #[] #[.pointer (some ⟨N,0,none⟩),.pointer (some ⟨W.heap.size,0,none⟩),.pointer (some ⟨W.heap.size+1,0,none⟩),.pointer (some ⟨H,0,none⟩)]] 0 _ iq.out
  have tF:=hide (show∀w',Same W.heap.size (w4.setCell ⟨W.heap.size+1+1,1,none⟩ (.int .i64 u)).heap.size ((w4.setCell ⟨W.heap.size+1+1,1,none⟩ (.int .i64 u)).setCells (W.heap.size+1+1+1) 0 [.int .i64 1,.int .i64 p.src,.int .i64 u,.int .i64 p.ah,.int .i64 p.aj,.func (.func 193) #[] #[.pointer (some ⟨N,0,none⟩),.pointer (some ⟨W.heap.size,0,none⟩),.pointer (some ⟨W.heap.size+1,0,none⟩),.pointer (some ⟨H,0,none⟩)]]) w'→aB w' N #[.int .i64 u]∧aB w' W.heap.size #[.pointer (some ⟨g,0,none⟩)]∧aB w' (W.heap.size+1) #[.int .i64 (i:Int),.int .i64 y]∧aB w' H #[.int .i64 p.src,.int .i64 p.dst,.int .i64 p.ah,.int .i64 p.aj]from fun w' hb=>by
   have h6:=tC.out
   exact⟨(Bc.out.apart _ _ (by omega)).jS hb (by omega) (by omega),(HB0.out.apart _ _ (by omega)).jS hb (by omega) (by omega),(HB1.out.apart _ _ (by omega)).jS hb (by omega) (by omega),(Jy.out.apart _ _ (by omega)).jS hb (by omega) (by omega)⟩)
  have nJ:=hide (show(w4.setCell ⟨W.heap.size+1+1,1,none⟩ (.int .i64 u)).heap.size ≤((w4.setCell ⟨W.heap.size+1+1,1,none⟩ (.int .i64 u)).setCells (W.heap.size+1+1+1) 0 [.int .i64 1,.int .i64 p.src,.int .i64 u,.int .i64 p.ah,.int .i64 p.aj,.func (.func 193) #[] #[.pointer (some ⟨N,0,none⟩),.pointer (some ⟨W.heap.size,0,none⟩),.pointer (some ⟨W.heap.size+1,0,none⟩),.pointer (some ⟨H,0,none⟩)]]).heap.size from(below_setCells (B:=0) (N:=W.heap.size+1+1+1) (by omega) [.int .i64 1,.int .i64 p.src,.int .i64 u,.int .i64 p.ah,.int .i64 p.aj,.func (.func 193) #[] #[.pointer (some ⟨N,0,none⟩),.pointer (some ⟨W.heap.size,0,none⟩),.pointer (some ⟨W.heap.size+1,0,none⟩),.pointer (some ⟨H,0,none⟩)]] 0 (w4.setCell ⟨W.heap.size+1+1,1,none⟩ (.int .i64 u)) (Below.refl _ _)).size)
  clear y0 y1 y2 y3 kf kn n1 n2
  generalize World.setCells _ _ _ _=w7 at*
  obtain⟨z0,z1,z2,z3,z4,z5⟩:w7.cell? ⟨W.heap.size+1+1+1,0,none⟩=some (.int .i64 1)∧w7.cell? ⟨W.heap.size+1+1+1,1,none⟩=some (.int .i64 p.src)∧w7.cell? ⟨W.heap.size+1+1+1,2,none⟩=some (.int .i64 u)∧w7.cell? ⟨W.heap.size+1+1+1,3,none⟩=some (.int .i64 p.ah)∧w7.cell? ⟨W.heap.size+1+1+1,4,none⟩=some (.int .i64 p.aj)∧w7.cell? ⟨W.heap.size+1+1+1,5,none⟩=some (.func (.func 193) #[] #[.pointer (some ⟨N,0,none⟩),.pointer (some ⟨W.heap.size,0,none⟩),.pointer (some ⟨W.heap.size+1,0,none⟩),.pointer (some ⟨H,0,none⟩)]):=
   ⟨hx7.1 0 _ rfl,hx7.1 1 _ rfl,hx7.1 2 _ rfl,hx7.1 3 _ rfl,hx7.1 4 _ rfl,hx7.1 5 _ rfl⟩
  refine bodyPost_ret (v:=.tuple #[bq 1 ⟨p.src,u,p.ah,p.aj⟩ (.func (.func 193) #[] #[.pointer (some ⟨N,0,none⟩),.pointer (some ⟨W.heap.size,0,none⟩),.pointer (some ⟨W.heap.size+1,0,none⟩),.pointer (some ⟨H,0,none⟩)]),.int .i64 0]) (by simp[results,Tryz.f165,go_sem,z0,z1,z2,z3,z4,z5,bq]) rfl ⟨_,by rw[fZ.out];all_goals rfl,?_,bI⟩
  rw[fZ.out]
  refine .inr ⟨_,_,rfl,CY,fun M' k' w' hb hM' hk'=>?_⟩
  obtain⟨q0,q1,q2,q3⟩:=tF.out w' (hb.mono nJ.out)
  exact GI g _ f o b M' k' N W.heap.size (W.heap.size+1) H (i:Int) y u p w' hM' hk' q0 q1 q2 q3 Ra.out hp HUI.out
 have pJ:=hide (lF.out.trans (if_neg (by simp)))
 clear lF dV
 have kl:w4.cell? ⟨G,4,none⟩=some (.slice r.bA r.bn r.bc):=fK.out.bd.1 4 _ rfl
 have fF:=hide (vO.out w4 fK.out.bl)
 clear vO
 by_cases c1:ch<0
 ·have fZ:=hide (show NF=(.zero,1)from by rw[pJ.out,if_pos c1])
  clear pJ fF
  go_wp2_with ((with_reducible show wpList _ _ _ (⟨none,.store 217 (.tmp 8) _,_,_,_,_⟩::_) _ _);refine wpList_store_mid rfl 217 (.tmp 8) (.tmp 91) rfl (W.heap.size+1+1+1) 0 #[.int .i64 0,.int .i64 0,.int .i64 0,.int .i64 0,.int .i64 0,.nilFunc] rfl rfl (fK.out.b3.there (Nat.le_refl _)) bX (by simp[Value.oneCell']) ?_)
  have hx7:=aB.all fK.out.b3 [.int .i64 0,.int .i64 0,.int .i64 0,.int .i64 0,.int .i64 0,.nilFunc] rfl
  have bI:=below_setCells (B:=W.heap.size) (N:=W.heap.size+1+1+1) (by omega) [.int .i64 0,.int .i64 0,.int .i64 0,.int .i64 0,.int .i64 0,.nilFunc] 0 _ fK.out.bl
  generalize World.setCells _ _ _ _=w7 at*
  obtain⟨z0,z1,z2,z3,z4,z5⟩:w7.cell? ⟨W.heap.size+1+1+1,0,none⟩=some (.int .i64 0)∧w7.cell? ⟨W.heap.size+1+1+1,1,none⟩=some (.int .i64 0)∧w7.cell? ⟨W.heap.size+1+1+1,2,none⟩=some (.int .i64 0)∧w7.cell? ⟨W.heap.size+1+1+1,3,none⟩=some (.int .i64 0)∧w7.cell? ⟨W.heap.size+1+1+1,4,none⟩=some (.int .i64 0)∧w7.cell? ⟨W.heap.size+1+1+1,5,none⟩=some (.nilFunc):=
   ⟨hx7.1 0 _ rfl,hx7.1 1 _ rfl,hx7.1 2 _ rfl,hx7.1 3 _ rfl,hx7.1 4 _ rfl,hx7.1 5 _ rfl⟩
  refine bodyPost_ret (v:=.tuple #[bq 0 ⟨0,0,0,0⟩ (.nilFunc),.int .i64 1]) (by simp[results,Tryz.f165,go_sem,z0,z1,z2,z3,z4,z5,bq]) rfl ⟨_,by rw[fZ.out];all_goals rfl,?_,bI⟩
  rw[fZ.out]
  exact .inl ⟨rfl,rfl⟩
 obtain⟨c,rfl⟩:∃c:Nat,ch=(c:Int):=⟨ch.toNat,by omega⟩
 have OT:=hide (show NF=(match (motive:=Option Int→qz×Int) r.bs[c]? with
    |some b=>(⟨1,⟨p.src,b,p.ah,p.aj⟩,.back (i,p) b⟩,0)
    |none=>(.zero,1))from by rw[pJ.out,if_neg c1];rfl)
 have xO:r.bn≤9223372036854775807:=by have:=hbc.1;have:=hbc.2;unfold maxLen at this;omega
 clear pJ c1 hbc
 obtain⟨bn,hbn⟩:∃bn,r.bn=bn:=⟨_,rfl⟩
 rw[hbn]at kl xO hbl
 have aeI:=hide (show dz w4 W.heap.size r.bA bn r.bs∨True from .inr trivial)
 have hbw:=fF.out
 rw[hbn]at hbw
 have fF:=hide hbw
 clear hbw aeI
 by_cases c2:c<bn
 ·obtain⟨x,hx⟩:∃x,r.bs[c]?=some x:=⟨_,List.getElem?_eq_getElem (by omega)⟩
  obtain⟨bb,oo,GQ,_,hcell⟩:=fF.out.2.2 (by omega)
  have kx:=hcell c x hx
  have hxi:ay x:=fF.out.2.1 x (List.mem_of_getElem? hx)
  have Jq:=hide hxi
  have fZ:=hide (show NF=(⟨1,⟨p.src,x,p.ah,p.aj⟩,.back (i,p) x⟩,0)from by rw[OT.out,hx])
  rw[GQ]at kl
  have j1:(0:Int)≤(c:Int):=by omega
  have j2:(c:Int)<(bn:Int):=by omega
  clear OT fF hcell hx hxi GQ hbn hbl
  obtain⟨y0,y1,y2,y3⟩:w4.cell? ⟨W.heap.size+1+1,0,none⟩=some (.int .i64 p.src)∧w4.cell? ⟨W.heap.size+1+1,1,none⟩=some (.int .i64 p.dst)∧w4.cell? ⟨W.heap.size+1+1,2,none⟩=some (.int .i64 p.ah)∧w4.cell? ⟨W.heap.size+1+1,3,none⟩=some (.int .i64 p.aj):=⟨fK.out.b2.1 0 _ rfl,fK.out.b2.1 1 _ rfl,fK.out.b2.1 2 _ rfl,fK.out.b2.1 3 _ rfl⟩
  have kf:=fK.out.b2.2
  have kn:w4.cell? ⟨N,0,none⟩=some (.int .i64 u):=yU.out.1 0 _ rfl
  have knf:=yU.out.2
  have hgl:=fK.out.hg
  have hll:=El.out
  have n1:N≠W.heap.size+1+1:=by omega
  have n2:W.heap.size+1+1≠N:=by omega
  have kC:=hide (fun(K:Nat) (vs:Array Value) (h:aB w4 K vs) (h1:W.heap.size+1+1≠K) (h2:N≠K)=>show aB ((w4.setCell ⟨N,0,none⟩ (.int .i64 x)).setCell ⟨W.heap.size+1+1,1,none⟩ (.int .i64 x)) K vs from(h.far _ _ h2).far _ _ h1)
  have iq:=hide (show Below W.heap.size W ((w4.setCell ⟨N,0,none⟩ (.int .i64 x)).setCell ⟨W.heap.size+1+1,1,none⟩ (.int .i64 x))from(fK.out.bl.setCell (by show W.heap.size≤N;omega) _).setCell (by show W.heap.size≤W.heap.size+1+1;omega) _)
  have HB0:=hide (kC.out _ _ fK.out.b0 (by omega) (by omega))
  have HB1:=hide (kC.out _ _ fK.out.b1 (by omega) (by omega))
  have HB3:=hide (kC.out _ _ fK.out.b3 (by omega) (by omega))
  have Jy:=hide (kC.out _ _ HO4.out (by omega) (by omega))
  have Bc:=hide (show aB ((w4.setCell ⟨N,0,none⟩ (.int .i64 x)).setCell ⟨W.heap.size+1+1,1,none⟩ (.int .i64 x)) N #[.int .i64 x]from aB.far (vs:=#[.int .i64 x]) (yU.out.set 0 (.int .i64 x)) _ _ n2)
  have hsz5:((w4.setCell ⟨N,0,none⟩ (.int .i64 x)).setCell ⟨W.heap.size+1+1,1,none⟩ (.int .i64 x)).heap.size =w4.heap.size:=by simp[World.setCell]
  have tC:=hide (show W.heap.size+1+1+1<H∧H<N∧N<((w4.setCell ⟨N,0,none⟩ (.int .i64 x)).setCell ⟨W.heap.size+1+1,1,none⟩ (.int .i64 x)).heap.size from by rw[hsz5];omega)
  clear hgl hll hsz5 kC
  go_wp2_with ((with_reducible show wpList _ _ _ (⟨none,.store 217 (.tmp 8) _,_,_,_,_⟩::_) _ _);refine wpList_store_mid rfl 217 (.tmp 8) (.tmp 101) rfl (W.heap.size+1+1+1) 0 #[.int .i64 1,.int .i64 p.src,.int .i64 x,.int .i64 p.ah,.int .i64 p.aj,.func (.func 193) #[] #[.pointer (some ⟨N,0,none⟩),.pointer (some ⟨W.heap.size,0,none⟩),.pointer (some ⟨W.heap.size+1,0,none⟩),.pointer (some ⟨H,0,none⟩)]] rfl rfl (HB3.out.there (Nat.le_refl _)) bX (by simp[Value.oneCell']) ?_)
  have hx7:=aB.all HB3.out [.int .i64 1,.int .i64 p.src,.int .i64 x,.int .i64 p.ah,.int .i64 p.aj,.func (.func 193) #[] #[.pointer (some ⟨N,0,none⟩),.pointer (some ⟨W.heap.size,0,none⟩),.pointer (some ⟨W.heap.size+1,0,none⟩),.pointer (some ⟨H,0,none⟩)]] rfl
  have bI:=below_setCells (B:=W.heap.size) (N:=W.heap.size+1+1+1) (by omega) [.int .i64 1,.int .i64 p.src,.int .i64 x,.int .i64 p.ah,.int .i64 p.aj,.func (.func 193) #[] #[.pointer (some ⟨N,0,none⟩),.pointer (some ⟨W.heap.size,0,none⟩),.pointer (some ⟨W.heap.size+1,0,none⟩),.pointer (some ⟨H,0,none⟩)]] 0 _ iq.out
  have tF:=hide (show∀w',Same W.heap.size ((w4.setCell ⟨N,0,none⟩ (.int .i64 x)).setCell ⟨W.heap.size+1+1,1,none⟩ (.int .i64 x)).heap.size (((w4.setCell ⟨N,0,none⟩ (.int .i64 x)).setCell ⟨W.heap.size+1+1,1,none⟩ (.int .i64 x)).setCells (W.heap.size+1+1+1) 0 [.int .i64 1,.int .i64 p.src,.int .i64 x,.int .i64 p.ah,.int .i64 p.aj,.func (.func 193) #[] #[.pointer (some ⟨N,0,none⟩),.pointer (some ⟨W.heap.size,0,none⟩),.pointer (some ⟨W.heap.size+1,0,none⟩),.pointer (some ⟨H,0,none⟩)]]) w'→aB w' N #[.int .i64 x]∧aB w' W.heap.size #[.pointer (some ⟨g,0,none⟩)]∧aB w' (W.heap.size+1) #[.int .i64 (i:Int),.int .i64 y]∧aB w' H #[.int .i64 p.src,.int .i64 p.dst,.int .i64 p.ah,.int .i64 p.aj]from fun w' hb=>by
   have h6:=tC.out
   exact⟨(Bc.out.apart _ _ (by omega)).jS hb (by omega) (by omega),(HB0.out.apart _ _ (by omega)).jS hb (by omega) (by omega),(HB1.out.apart _ _ (by omega)).jS hb (by omega) (by omega),(Jy.out.apart _ _ (by omega)).jS hb (by omega) (by omega)⟩)
  have nJ:=hide (show((w4.setCell ⟨N,0,none⟩ (.int .i64 x)).setCell ⟨W.heap.size+1+1,1,none⟩ (.int .i64 x)).heap.size ≤(((w4.setCell ⟨N,0,none⟩ (.int .i64 x)).setCell ⟨W.heap.size+1+1,1,none⟩ (.int .i64 x)).setCells (W.heap.size+1+1+1) 0 [.int .i64 1,.int .i64 p.src,.int .i64 x,.int .i64 p.ah,.int .i64 p.aj,.func (.func 193) #[] #[.pointer (some ⟨N,0,none⟩),.pointer (some ⟨W.heap.size,0,none⟩),.pointer (some ⟨W.heap.size+1,0,none⟩),.pointer (some ⟨H,0,none⟩)]]).heap.size from(below_setCells (B:=0) (N:=W.heap.size+1+1+1) (by omega) [.int .i64 1,.int .i64 p.src,.int .i64 x,.int .i64 p.ah,.int .i64 p.aj,.func (.func 193) #[] #[.pointer (some ⟨N,0,none⟩),.pointer (some ⟨W.heap.size,0,none⟩),.pointer (some ⟨W.heap.size+1,0,none⟩),.pointer (some ⟨H,0,none⟩)]] 0 ((w4.setCell ⟨N,0,none⟩ (.int .i64 x)).setCell ⟨W.heap.size+1+1,1,none⟩ (.int .i64 x)) (Below.refl _ _)).size)
  clear y0 y1 y2 y3 kf kn n1 n2
  generalize World.setCells _ _ _ _=w7 at*
  obtain⟨z0,z1,z2,z3,z4,z5⟩:w7.cell? ⟨W.heap.size+1+1+1,0,none⟩=some (.int .i64 1)∧w7.cell? ⟨W.heap.size+1+1+1,1,none⟩=some (.int .i64 p.src)∧w7.cell? ⟨W.heap.size+1+1+1,2,none⟩=some (.int .i64 x)∧w7.cell? ⟨W.heap.size+1+1+1,3,none⟩=some (.int .i64 p.ah)∧w7.cell? ⟨W.heap.size+1+1+1,4,none⟩=some (.int .i64 p.aj)∧w7.cell? ⟨W.heap.size+1+1+1,5,none⟩=some (.func (.func 193) #[] #[.pointer (some ⟨N,0,none⟩),.pointer (some ⟨W.heap.size,0,none⟩),.pointer (some ⟨W.heap.size+1,0,none⟩),.pointer (some ⟨H,0,none⟩)]):=
   ⟨hx7.1 0 _ rfl,hx7.1 1 _ rfl,hx7.1 2 _ rfl,hx7.1 3 _ rfl,hx7.1 4 _ rfl,hx7.1 5 _ rfl⟩
  refine bodyPost_ret (v:=.tuple #[bq 1 ⟨p.src,x,p.ah,p.aj⟩ (.func (.func 193) #[] #[.pointer (some ⟨N,0,none⟩),.pointer (some ⟨W.heap.size,0,none⟩),.pointer (some ⟨W.heap.size+1,0,none⟩),.pointer (some ⟨H,0,none⟩)]),.int .i64 0]) (by simp[results,Tryz.f165,go_sem,z0,z1,z2,z3,z4,z5,bq]) rfl ⟨_,by rw[fZ.out];all_goals rfl,?_,bI⟩
  rw[fZ.out]
  refine .inr ⟨_,_,rfl,CY,fun M' k' w' hb hM' hk'=>?_⟩
  obtain⟨q0,q1,q2,q3⟩:=tF.out w' (hb.mono nJ.out)
  exact GI g _ f o b M' k' N W.heap.size (W.heap.size+1) H (i:Int) y x p w' hM' hk' q0 q1 q2 q3 Ra.out hp Jq.out
 ·have fZ:=hide (show NF=(.zero,1)from by rw[OT.out,List.getElem?_eq_none (by omega)])
  have c3:bn≤c:=by omega
  clear OT fF c2 hbn
  go_wp2_with ((with_reducible show wpList _ _ _ (⟨none,.store 217 (.tmp 8) _,_,_,_,_⟩::_) _ _);refine wpList_store_mid rfl 217 (.tmp 8) (.tmp 91) rfl (W.heap.size+1+1+1) 0 #[.int .i64 0,.int .i64 0,.int .i64 0,.int .i64 0,.int .i64 0,.nilFunc] rfl rfl (fK.out.b3.there (Nat.le_refl _)) bX (by simp[Value.oneCell']) ?_)
  have hx7:=aB.all fK.out.b3 [.int .i64 0,.int .i64 0,.int .i64 0,.int .i64 0,.int .i64 0,.nilFunc] rfl
  have bI:=below_setCells (B:=W.heap.size) (N:=W.heap.size+1+1+1) (by omega) [.int .i64 0,.int .i64 0,.int .i64 0,.int .i64 0,.int .i64 0,.nilFunc] 0 _ fK.out.bl
  generalize World.setCells _ _ _ _=w7 at*
  obtain⟨z0,z1,z2,z3,z4,z5⟩:w7.cell? ⟨W.heap.size+1+1+1,0,none⟩=some (.int .i64 0)∧w7.cell? ⟨W.heap.size+1+1+1,1,none⟩=some (.int .i64 0)∧w7.cell? ⟨W.heap.size+1+1+1,2,none⟩=some (.int .i64 0)∧w7.cell? ⟨W.heap.size+1+1+1,3,none⟩=some (.int .i64 0)∧w7.cell? ⟨W.heap.size+1+1+1,4,none⟩=some (.int .i64 0)∧w7.cell? ⟨W.heap.size+1+1+1,5,none⟩=some (.nilFunc):=
   ⟨hx7.1 0 _ rfl,hx7.1 1 _ rfl,hx7.1 2 _ rfl,hx7.1 3 _ rfl,hx7.1 4 _ rfl,hx7.1 5 _ rfl⟩
  refine bodyPost_ret (v:=.tuple #[bq 0 ⟨0,0,0,0⟩ (.nilFunc),.int .i64 1]) (by simp[results,Tryz.f165,go_sem,z0,z1,z2,z3,z4,z5,bq]) rfl ⟨_,by rw[fZ.out];all_goals rfl,?_,bI⟩
  rw[fZ.out]
  exact .inl ⟨rfl,rfl⟩
end Go.Proofs.YtlhmdcgckocidaaGreat
