/- A part of the proof: WorldC, WorldN, PlayB. -/
import Derived.Test.YtlhmdcgckocidaaGreatHr20
set_option linter.unusedVariables false
set_option linter.unusedSimpArgs false
set_option maxRecDepth 100000
set_option maxHeartbeats 8000000
namespace Go.Proofs.YtlhmdcgckocidaaGreat
open Go.Maps Go.RowKit
def aQ.arr (x:aQ):Array Value:=#[.int .i64 x.d,.int .i64 x.y,.int .i64 x.p.src,.int .i64 x.p.dst,.int .i64 x.p.ah,.int .i64 x.p.aj]
theorem RJ {w:World} {N:Nat} {x:aQ} (h:aB w N x.arr):Reads w (N+1) 6 (some ⟨N,0,none⟩) 1 x.cells:=
 ⟨rfl,fun _=>⟨_,rfl,Nat.lt_succ_self _,fun j u hu=>by
  rw[addr_add,Nat.zero_add]
  exact h.1 j u (by simpa[aQ.cells,aQ.arr]using hu)⟩⟩
theorem BX.none (W:World):BX W [] W:=⟨Below.refl _ _,fun x hx=>by cases hx⟩
theorem dK.look {W w:World} {F:Nat→Prop} {g:Nat} {no:aH} {gm:Nat} {nm:aH} {f o b km:Nat} {A:Option Addr} {c:Nat} {Z:iG} {k:Nat} (h:dK W w F g no gm nm f o b km A c Z k) (x:aQ) (hx:x.ok):
  (Instr.lookup 153 (.map (some km)) (.agg #[.int .i64 x.d,.int .i64 x.y,.int .i64 x.p.src,.int .i64 x.p.dst,.int .i64 x.p.ah,.int .i64 x.p.aj]) false).run Tryz.prog w= .ok (.bool (decide (x∈Z.S))) w:=by
 have:=(h.kn.Cn RH Tryz.underlying153 (z:=.bool false) (by kernel_rfl) (a:=x) hx).2
 simp only[aQ.val]at this
 rw[this]
 simp only[oM]
 by_cases e:x∈Z.S<;>simp[e]
theorem dK.store {W w:World} {F:Nat→Prop} {g:Nat} {no:aH} {gm:Nat} {nm:aH} {f o b km:Nat} {A:Option Addr} {c:Nat} {Z:iG} {k:Nat} (h:dK W w F g no gm nm f o b km A c Z k) (x:aQ) (hx:x.ok) (hk:k<1000000):
  ∃w',(Instr.mapUpdate 153 (.map (some km)) (.agg #[.int .i64 x.d,.int .i64 x.y,.int .i64 x.p.src,.int .i64 x.p.dst,.int .i64 x.p.ah,.int .i64 x.p.aj]) (.bool true)).run Tryz.prog w= .ok () w'∧aS Tryz.prog 106 aQ.val EF w' km (iT (oM Z.S) x (.bool true))∧w.mapTurned w' km:=by
 have hl:=h.lk
 exact h.kn.ze RH Z.S (by unfold maxLen;omega) (fun a _ ha=>by
  by_cases e:a∈Z.S
  ·exact e
  ·simp[oM,e]at ha) Tryz.underlying153 (a:=x) hx (.bool true)
theorem MJ {w w':World} {km:Nat} (h:w.mapTurned w' km):aL (fun j=>j=km) w.heap.size w w':=by
 have hg:=h.grown
 exact⟨hg.os,hg.tape,hg.output,hg.size,fun k hk hp=>hg.block k hk (fun e=>hp (Option.some.inj e))⟩
theorem EG {W0 W:World} {F:Nat→Prop} {g:Nat} {no:aH} {gm:Nat} {nm:aH} {f o b km:Nat} {A:Option Addr} {c:Nat} {Z:iG} {k:Nat} (h:dK W0 W F g no gm nm f o b km A c Z k) (x:aQ) (hx:x.ok) (hl:Z.S.length+1≤k) (hk:k<1000000):
  Calls Tryz.prog 80 #[.pointer (some ⟨g,0,none⟩),.agg #[.int .i64 x.d,.int .i64 x.y,.int .i64 x.p.src,.int .i64 x.p.dst,.int .i64 x.p.ah,.int .i64 x.p.aj]] W fun e W'=>e= .returned (.tuple #[])∧∃A' c' F',dK W0 W' F' g no gm nm f o b km A' c' ⟨Z.M,jh Z.S x⟩ k∧aL F W.heap.size W W'∧∀j,F' j→F j∨W.heap.size≤j:=by
 have HW:=hide h
 have hgl:=(h.fo g h.fg).2
 have hkl:=(h.fo km h.fk).2
 clear h
 go_enter Tryz.func80,Tryz.ntmps80
 go_wp2_with fail
 have cK:=hide (((BX.none W).al #[.int .i64 x.d,.int .i64 x.y,.int .i64 x.p.src,.int .i64 x.p.dst,.int .i64 x.p.ah,.int .i64 x.p.aj] 106).done)
 have hs1:(W.alloc (.cells #[.int .i64 x.d,.int .i64 x.y,.int .i64 x.p.src,.int .i64 x.p.dst,.int .i64 x.p.ah,.int .i64 x.p.aj] 106)).heap.size =W.heap.size+1:=by simp
 generalize World.alloc W _=W1 at*
 have HW1:=hide (HW.out.below cK.out.bl)
 obtain⟨B,hB⟩:∃B,decide (x∈Z.S)=B:=⟨_,rfl⟩
 refine bS (by kernel_rfl) (by kernel_rfl) ?_
 intro T1 hT gt hg1 hgi
 have aU:=hide hg1
 have gX:=hide hgi
 clear hg1 hgi
 have k4:∀t,(gt t).cell? ⟨g,4,none⟩=some (.map (some km)):=fun t=>(HW1.out.below (aU.out t)).c4
 have x0:∀t,(gt t).cell? ⟨W.heap.size,0,none⟩=some (.int .i64 x.d):=fun t=>((cK.out.below (aU.out t)).get 0 rfl).1 0 _ rfl
 have x1:∀t,(gt t).cell? ⟨W.heap.size,1,none⟩=some (.int .i64 x.y):=fun t=>((cK.out.below (aU.out t)).get 0 rfl).1 1 _ rfl
 have x2:∀t,(gt t).cell? ⟨W.heap.size,2,none⟩=some (.int .i64 x.p.src):=fun t=>((cK.out.below (aU.out t)).get 0 rfl).1 2 _ rfl
 have x3:∀t,(gt t).cell? ⟨W.heap.size,3,none⟩=some (.int .i64 x.p.dst):=fun t=>((cK.out.below (aU.out t)).get 0 rfl).1 3 _ rfl
 have x4:∀t,(gt t).cell? ⟨W.heap.size,4,none⟩=some (.int .i64 x.p.ah):=fun t=>((cK.out.below (aU.out t)).get 0 rfl).1 4 _ rfl
 have x5:∀t,(gt t).cell? ⟨W.heap.size,5,none⟩=some (.int .i64 x.p.aj):=fun t=>((cK.out.below (aU.out t)).get 0 rfl).1 5 _ rfl
 have hlk:∀t,(Instr.lookup 153 (.map (some km)) (.agg #[.int .i64 x.d,.int .i64 x.y,.int .i64 x.p.src,.int .i64 x.p.dst,.int .i64 x.p.ah,.int .i64 x.p.aj]) false).run Tryz.prog (gt t)= .ok (.bool B) (gt t):=fun t=>by rw[← hB];exact(HW1.out.below (aU.out t)).look x hx
 repeat (go_big_quiet_step (fail))
 refine wpQuiet_nil ?_
 intro _ hw'
 obtain⟨t,rfl⟩:=hw'
 have bO:=hide (cK.out.below (aU.out t))
 have HW2:=hide (HW1.out.below (aU.out t))
 have hs2:=(aU.out t).size
 generalize gt t=W2 at*
 clear k4 x0 x1 x2 x3 x4 x5 hlk aU gX cK HW1
 cases B
 case true=>
  have e:jh Z.S x=Z.S:=if_pos (by simpa using hB)
  go_wp2
  go_end0
  exact⟨rfl,A,c,F,by rw[e];exact HW2.out,aL.of_below bO.out.bl,fun j e=>Or.inl e⟩
 have hxS:x∉Z.S:=by simpa using hB
 have HCE:=hide (show jh Z.S x=Z.S++[x]from if_neg hxS)
 go_wp2_with fail
 obtain⟨W3,hrun,yc,ht3⟩:=(HW2.out.below (Below.refl _ _).drew).store x hx hk
 have n3:aL (fun j=>j=km) W2.heap.size W2 W3:=(aL.of_below (Below.refl _ _).drew).trans (MJ ht3)
 have pJ:=hide n3
 have nZ:=hide yc
 have hnk:¬(W.heap.size=km):=by omega
 have hbx:=bO.out.get 0 rfl
 have hlt2:=(bO.out.bx _ (List.mem_of_getElem? (i:=0) rfl)).2
 have aeW:=hide (hbx.near n3 hlt2 hnk)
 obtain⟨b0,b1,b2,b3,b4,b5⟩:=(JM hbx).1
 have c4:=HW2.out.c4
 clear n3 yc ht3 hbx
 go_still_tail 5,(by kernel_rfl)
 go_wp2_with fail
 clear b0 b1 b2 b3 b4 b5 c4 hrun
 obtain⟨N,hN⟩:∃N,W.heap.size=N:=⟨_,rfl⟩
 obtain⟨S0,hS0⟩:∃S0,Z.S=S0:=⟨_,rfl⟩
 have HQ:=hide (fun(w':World) (hb:Below W3.heap.size W3 w')=>show(w'.cell? ⟨g,3,none⟩=some (.slice A S0.length c)∧aB w' N #[.int .i64 x.d,.int .i64 x.y,.int .i64 x.p.src,.int .i64 x.p.dst,.int .i64 x.p.ah,.int .i64 x.p.aj]∧w'.ownsRow 0 106 6 (.slice A S0.length c) S0.length (S0.flatMap aQ.cells)∧g<W3.heap.size∧¬(A.map (·.block)=some g)∧¬(A.map (·.block)=some N)∧w'.frozen? ⟨g,3,none⟩=false)from by
  have hs3:=pJ.out.size
  have hw:=HW2.out
  have hAl:∀j,A.map (·.block)=some j→j<W2.heap.size:=fun j e=>(hw.fo j (hw.fa j e)).2
  have hAg:¬(A.map (·.block)=some g):=fun e=>(hw.ga g e).1 rfl
  have Z4:¬(A.map (·.block)=some N):=fun e=>by have:=(HW.out.fo N (HW.out.fa N e)).2;omega
  have Ny:¬g=km:=hw.gk
  refine⟨?_,?_,?_,by omega,hAg,Z4,?_⟩
  ·exact(hb.cell (p:=⟨g,3,none⟩) (by show g<_;omega)).trans ((pJ.out.cell (a:=⟨g,3,none⟩) (by show g<_;omega) Ny).trans (by rw[← hS0];exact hw.c3))
  ·rw[← hN];exact aeW.out.below hb (by omega)
  ·exact own_below (nE (by rw[← hS0];exact hw.own) (fun j hj=>by
    rw[fC]at hj
    exact pJ.out.block j (hAl j hj) (fun e=>(hw.ga j hj).2.1 e))) hb
  ·exact(hb.frozen (p:=⟨g,3,none⟩) (by show g<_;omega)).trans ((pJ.out.frozen (a:=⟨g,3,none⟩) (by show g<_;omega) Ny).trans hw.fz))
 have Z5:N<W3.heap.size:=by have:=pJ.out.size;omega
 have ahQ:S0.length<1000000:=by rw[← hS0];omega
 rw[hN]
 -- R3
 obtain⟨i0,hi0,hz0,hz1,hz2⟩:=info_parts Tryz.infoArrival
 refine aI (fun w'=>w'.cell? ⟨g,3,none⟩=some (.slice A S0.length c)∧w'.cell? ⟨N,0,none⟩=some (.int .i64 x.d)∧w'.cell? ⟨N,1,none⟩=some (.int .i64 x.y)∧w'.cell? ⟨N,2,none⟩=some (.int .i64 x.p.src)∧w'.cell? ⟨N,3,none⟩=some (.int .i64 x.p.dst)∧w'.cell? ⟨N,4,none⟩=some (.int .i64 x.p.ah)∧w'.cell? ⟨N,5,none⟩=some (.int .i64 x.p.aj)) 10 (by kernel_rfl) ⟨(HQ.out _ (Below.refl _ _).drew).1,(HQ.out _ (Below.refl _ _).drew).2.1.1 0 _ rfl,(HQ.out _ (Below.refl _ _).drew).2.1.1 1 _ rfl,(HQ.out _ (Below.refl _ _).drew).2.1.1 2 _ rfl,(HQ.out _ (Below.refl _ _).drew).2.1.1 3 _ rfl,(HQ.out _ (Below.refl _ _).drew).2.1.1 4 _ rfl,(HQ.out _ (Below.refl _ _).drew).2.1.1 5 _ rfl⟩ (fun hS=>?_)
 refine rP 0 hS ?_
 refine rP 1 hS ?_
 refine rP 2 hS ?_
 refine rP 3 hS ?_
 refine rL 4 [10] rfl hS (by intro w hSw;obtain⟨s0,s1,s2,s3,s4,s5,s6⟩:=hSw;go_simp;try with_reducible rfl) ?_
 refine rL 5 [10] rfl hS (by intro w hSw;obtain⟨s0,s1,s2,s3,s4,s5,s6⟩:=hSw;go_simp;try with_reducible rfl) ?_
 intro inv
 refine rO 6 inv fun K hK=>?_
 go_simp
 have hb4:Below W3.heap.size W3 (W3.alloc (.cells #[.int .i64 x.d,.int .i64 x.y,.int .i64 x.p.src,.int .i64 x.p.dst,.int .i64 x.p.ah,.int .i64 x.p.aj] 106)).drew :=((Below.refl _ _).alloc (Nat.le_refl _) _).drew
 have bJ:=hide hb4
 have dW:=hide (show aB (W3.alloc (.cells #[.int .i64 x.d,.int .i64 x.y,.int .i64 x.p.src,.int .i64 x.p.dst,.int .i64 x.p.ah,.int .i64 x.p.aj] 106)).drew W3.heap.size (aQ.arr x)from(aB.new W3 #[.int .i64 x.d,.int .i64 x.y,.int .i64 x.p.src,.int .i64 x.p.dst,.int .i64 x.p.ah,.int .i64 x.p.aj] 106).below (B:=W3.heap.size+1) ((Below.refl _ _).drew) (Nat.lt_succ_self _))
 have hs4:(W3.alloc (.cells #[.int .i64 x.d,.int .i64 x.y,.int .i64 x.p.src,.int .i64 x.p.dst,.int .i64 x.p.ah,.int .i64 x.p.aj] 106)).drew.heap.size =W3.heap.size+1:=by simp
 clear hb4
 refine hK.out _ _ (fun _=>⟨(HQ.out _ bJ.out).1,(HQ.out _ bJ.out).2.1.1 0 _ rfl,(HQ.out _ bJ.out).2.1.1 1 _ rfl,(HQ.out _ bJ.out).2.1.1 2 _ rfl,(HQ.out _ bJ.out).2.1.1 3 _ rfl,(HQ.out _ bJ.out).2.1.1 4 _ rfl,(HQ.out _ bJ.out).2.1.1 5 _ rfl⟩) ?_
 clear hK K hS inv
 intro inv
 try simp only[Act.put,aD,aF,aG]
 refine rO 7 inv fun K hK=>?_
 rw[if_pos (by rfl)]
 refine kY _ (.tmp 20) (.tmp 22) 104 rfl 0 106 i0 _ 6 48 Tryz.underlying104 hi0 hz0 hz1 hz2 rfl (by omega) (.slice A S0.length c) S0.length (S0.flatMap aQ.cells) rfl (HQ.out _ bJ.out).2.2.1 (W3.heap.size+1) (some ⟨W3.heap.size,0,none⟩) 1 1 x.cells rfl (RJ dW.out) x.one (by unfold maxLen;omega) (by omega) (Nat.zero_le _) ?_
 intro v5 w5 hown5 hg5 mO
 obtain⟨g5,c5,rfl,_⟩:=hown5.form (by omega)
 have U1:=hide (HW2.out.come (x:=x) hl (pJ.out.trans ((aL.of_below bJ.out).mono pJ.out.size)) (nZ.out.below bJ.out nZ.out.lt) (by rw[hS0];exact hown5) (by rw[hS0];exact hg5) (by rw[hS0];exact mO))
 have J6:=hg5
 rw[fC]at J6
 have n5:=nD J6
 have s0:w5.cell? ⟨g,3,none⟩=some (.slice A S0.length c):=(n5.cell (a:=⟨g,3,none⟩) (by show g<_;rw[hs4];have:=(HQ.out _ (Below.refl _ _)).2.2.2.1;omega) (HQ.out _ (Below.refl _ _)).2.2.2.2.1).trans (HQ.out _ bJ.out).1
 have RL:w5.frozen? ⟨g,3,none⟩=false:=(n5.frozen (a:=⟨g,3,none⟩) (by show g<_;rw[hs4];have:=(HQ.out _ (Below.refl _ _)).2.2.2.1;omega) (HQ.out _ (Below.refl _ _)).2.2.2.2.1).trans (HQ.out _ bJ.out).2.2.2.2.2.2
 have hbn:=(HQ.out _ bJ.out).2.1.near n5 (by rw[hs4];omega) (HQ.out _ (Below.refl _ _)).2.2.2.2.2.1
 clear hown5 mO hg5 J6 n5
 have hS5:w5.cell? ⟨g,3,none⟩=some (.slice A S0.length c)∧w5.cell? ⟨N,0,none⟩=some (.int .i64 x.d)∧w5.cell? ⟨N,1,none⟩=some (.int .i64 x.y)∧w5.cell? ⟨N,2,none⟩=some (.int .i64 x.p.src)∧w5.cell? ⟨N,3,none⟩=some (.int .i64 x.p.dst)∧w5.cell? ⟨N,4,none⟩=some (.int .i64 x.p.ah)∧w5.cell? ⟨N,5,none⟩=some (.int .i64 x.p.aj):=⟨s0,hbn.1 0 _ rfl,hbn.1 1 _ rfl,hbn.1 2 _ rfl,hbn.1 3 _ rfl,hbn.1 4 _ rfl,hbn.1 5 _ rfl⟩
 refine hK.out _ _ (fun _=>hS5) (fun inv2=>?_)
 clear hK K hbn
 clear inv
 have inv:=inv2
 clear inv2
 try simp only[Act.put,aD,aF,aG]
 have hS:=hS5
 clear hS5
 revert inv
 refine rP 8 hS ?_
 refine rP 9 hS ?_
 intro inv
 refine rT 10 inv fun K hK=>?_
 go_simp
 refine hK.out _ _ ?_
 clear hK K inv
 intro inv
 try simp only[Act.put,aD,aF,aG]
 refine rD ?_
 clear inv
 clear s0 RL hS
 rw[hS0]at U1
 generalize World.setCell w5 _ _=W6 at*
 go_wp2
 go_end0
 try rw[← hN]
 rw[hS0]at HCE
 try rw[hS0]
 rw[HCE.out]
 refine⟨rfl,_,_,_,U1.out.1,(aL.of_below bO.out.bl).trans (U1.out.2.mono bO.out.bl.size),fun j e=>?_⟩
 rcases e with e | e
 ·exact Or.inl e
 ·right;have:=bO.out.bl.size;omega
theorem aS.wG {α:Type} {P:Program} {kt:TypeId} {key:α→Value} {dom:α→Prop} {w:World} {b:Nat} {M:α→Option Value} (h:aS P kt key dom w b M) (a:Addr) (ha:a.block=b):w.cell? a=none:=by
 obtain⟨D,⟨es,clock,hh,_⟩,_⟩:=h
 simp[World.cell?,ha,hh]
theorem aM.wG {w:World} {g:Nat} {n:aH} {f o b:Nat} {M:aK} {k:Nat} (h:aM w g n f o b M k) {j:Nat} (hj:eX f o b j) (a:Addr) (ha:a.block=j):w.cell? a=none:=by
 rcases hj with e | e | e
 ·exact h.mf.wG a (ha.trans e)
 ·exact h.mo.wG a (ha.trans e)
 ·exact h.mb.wG a (ha.trans e)
theorem aM.Z6 {w:World} {g:Nat} {n:aH} {f o b:Nat} {M:aK} {k:Nat} (h:aM w g n f o b M k):¬eX f o b g:=fun e=>by
 have:=h.wG e ⟨g,0,none⟩ rfl
 rw[h.c0]at this
 cases this
section
variable {w:World} {B n s:Nat} {A:Option Addr} {q:Nat→Prop}
theorem Jb {α:Type} {cells:α→List Value} {l:List α} (h:bB cells s w B A n l) (hc:∀r,0<(cells r).length) (hq:∀j,q j→∀a:Addr,a.block=j→w.cell? a=none):0<n→∀a,A=some a→¬q a.block:=fun h0 a ha hj=>by
 obtain⟨b,o,e,_,hg⟩:=h.2 h0
 rw[ha]at e
 cases e
 have hl:0<l.length:=by rw[h.1];exact h0
 have:=hg 0 _ (List.getElem?_eq_getElem hl) 0 _ (List.getElem?_eq_getElem (hc _))
 rw[hq b hj ⟨b,o+0*s+0,none⟩ rfl]at this
 cases this
theorem YO {l:List Int} (h:dz w B A n l) (hq:∀j,q j→∀a:Addr,a.block=j→w.cell? a=none):0<n→∀a,A=some a→¬q a.block:=fun h0 a ha hj=>by
 obtain⟨b,o,e,_,hg⟩:=h.2.2 h0
 rw[ha]at e
 cases e
 have hl:0<l.length:=by rw[h.1];exact h0
 have:=hg 0 _ (List.getElem?_eq_getElem hl)
 rw[hq b hj ⟨b,o+0,none⟩ rfl]at this
 cases this
theorem bf.off {m:aH} (h:bf w B m) (hq:∀j,q j→∀a:Addr,a.block=j→w.cell? a=none):jk (fun j=>¬q j) m where
 d:=Jb h.ds (fun r=>by rw[aA.len];omega) hq
 l:=Jb h.ls (fun r=>by show 0<4;omega) hq
 o x hx:=⟨YO (h.gy x hx).bs hq,Jb (h.gy x hx).rs.sl (fun r=>by rw[aY.len];omega) hq,Jb (h.gy x hx).ts (fun r=>by show 0<3;omega) hq⟩
theorem jk.and {p q:Nat→Prop} {m:aH} (h:jk p m) (h2:jk q m):jk (fun j=>p j∧q j) m:=
 ⟨fun z a e=>⟨h.d z a e,h2.d z a e⟩,fun z a e=>⟨h.l z a e,h2.l z a e⟩,fun x hx=>⟨fun z a e=>⟨(h.o x hx).b z a e,(h2.o x hx).b z a e⟩,fun z a e=>⟨(h.o x hx).r z a e,(h2.o x hx).r z a e⟩,fun z a e=>⟨(h.o x hx).t z a e,(h2.o x hx).t z a e⟩⟩⟩
end
theorem ML:oM []=fun _=>none:=by funext a;simp[oM]
theorem Pq {W0 w:World} {Wn:Nat} (h0:W0.heap.size≤Wn) (h1:Wn≤w.heap.size) {no:aH} {gm:Nat} {nm:aH} {f o b:Nat} (hn:bf w w.heap.size no) (hm:aM w gm nm f o b aK.empty 0) (hs:Wn≤gm∧Wn≤f∧Wn≤o∧Wn≤b)
  (ho:jk (fun j=>j<W0.heap.size∨(Wn≤j∧j<w.heap.size∧¬eX f o b j)) no) (ho2:jk (fun j=>j<W0.heap.size∨(Wn≤j∧j<w.heap.size∧¬eX f o b j)) nm) (t:TypeId):
  dK W0 ((w.alloc (.map #[] 0)).alloc (.cells #[.slice no.dA no.dn no.dc,.slice no.lA no.ln no.lc,.pointer (some ⟨gm,0,none⟩),.slice none 0 0,.map (some w.heap.size)] t)) (fun j=>Wn≤j∧j<w.heap.size+2) (w.heap.size+1) no gm nm f o b w.heap.size none 0 ⟨aK.empty,[]⟩ 0:=by
 have hs1:(w.alloc (.map #[] 0)).heap.size =w.heap.size+1:=by simp
 have hb:Below w.heap.size w ((w.alloc (.map #[] 0)).alloc (.cells #[.slice no.dA no.dn no.dc,.slice no.lA no.ln no.lc,.pointer (some ⟨gm,0,none⟩),.slice none 0 0,.map (some w.heap.size)] t)):=
  ((Below.refl _ _).alloc (Nat.le_refl _) _).alloc (by simp) _
 have hs2:((w.alloc (.map #[] 0)).alloc (.cells #[.slice no.dA no.dn no.dc,.slice no.lA no.ln no.lc,.pointer (some ⟨gm,0,none⟩),.slice none 0 0,.map (some w.heap.size)] t)).heap.size =w.heap.size+2:=by simp
 have hx:=aB.new (w.alloc (.map #[] 0)) #[.slice no.dA no.dn no.dc,.slice no.lA no.ln no.lc,.pointer (some ⟨gm,0,none⟩),.slice none 0 0,.map (some w.heap.size)] t
 rw[hs1]at hx
 have hgm:=pE hm.c0
 simp only at hgm
 have h3:∀j,eX f o b j→j<w.heap.size:=fun j e=>by
  have:=hm.JD
  have:=hm.JE
  have:=hm.blt
  rcases e with e | e | e<;>omega
 have hw:∀j,(j<W0.heap.size∨(Wn≤j∧j<w.heap.size∧¬eX f o b j))→(j<W0.heap.size∨((Wn≤j∧j<w.heap.size+2)∧¬Tn (w.heap.size+1) w.heap.size f o b none j)):=fun j e=>by
  rcases e with e | ⟨e1,e2,e3⟩
  ·exact Or.inl e
  ·refine Or.inr ⟨⟨e1,by omega⟩,fun t=>?_⟩
   rcases t with t | t | t | t
   ·omega
   ·omega
   ·exact e3 t
   ·cases t
 refine⟨hx.1 0 _ rfl,hx.1 1 _ rfl,hx.1 2 _ rfl,hx.1 3 _ rfl,hx.1 4 _ rfl,hx.2 3,World.ownsRow_nil _ _ _ _,hn.below hb hb.size,hm.below hb,?_,fun j e=>⟨by omega,by rw[hs2];exact e.2⟩,⟨by omega,by omega⟩,⟨by omega,by omega⟩,⟨by omega,by omega⟩,fun j e=>⟨(by rcases e with e | e | e<;>omega),(by have:=h3 j e;omega)⟩,fun j e=>(by cases e),(by omega),fun t=>?_,fun j e=>(by have:=h3 j e;omega),fun j e=>(by cases e),ho.weak hw,ho2.weak hw,Nat.le_refl _⟩
 ·show aS _ _ _ _ _ _ (oM [])
  rw[ML]
  exact(aS.made w).below (B:=w.heap.size+1) ((Below.refl _ _).alloc (by simp) _) (by omega)
 ·rcases t with t | t | t | t
  ·omega
  ·omega
  ·exact hm.Z6 t
  ·cases t
structure NB (W:World) (L:List (Nat×Array Value)) (n:aH) (D E:Option (Option Addr×Nat)) (Z:List (Nat×Array Value)) (w:World):Prop where
 box:BX W L w
 d:∀x,D=some x→w.ownsRow W.heap.size 86 7 (.slice x.1 n.dn x.2) n.dn (n.ds.flatMap aA.cells)
 e:∀x,E=some x→w.ownsRow W.heap.size 128 4 (.slice x.1 n.ln x.2) n.ln (n.ls.flatMap av.cells)
 z:∀x∈Z,aB w x.1 x.2∧x.1<w.heap.size∧W.heap.size≤x.1∧(∀y,D=some y→y.1.map (·.block)≠some x.1)∧(∀y,E=some y→y.1.map (·.block)≠some x.1)∧∀y∈L,y.1≠x.1
section
variable {W w w':World} {L Z:List (Nat×Array Value)} {n:aH} {D E:Option (Option Addr×Nat)}
theorem NB.start (h:BX W L w):NB W L n none none [] w:=⟨h,fun x e=>(by cases e),fun x e=>(by cases e),fun x hx=>(by cases hx)⟩
theorem NB.below (h:NB W L n D E Z w) (hb:Below w.heap.size w w'):NB W L n D E Z w':=
 ⟨h.box.below hb,fun x e=>own_below (h.d x e) hb,fun x e=>own_below (h.e x e) hb,fun x hx=>⟨(h.z x hx).1.below hb (h.z x hx).2.1,Nat.lt_of_lt_of_le (h.z x hx).2.1 hb.size,(h.z x hx).2.2⟩⟩
theorem NB.dr (h:NB W L n D E Z w):NB W L n D E Z w.drew:=h.below (Below.refl _ _).drew
theorem NB.dlt (h:NB W L n D E Z w) {x:Option Addr×Nat} (e:D=some x):∀j,x.1.map (·.block)=some j→j<w.heap.size:=fun j hj=>((h.d x e).lt j (by rw[fC];exact hj)).2
theorem NB.elt (h:NB W L n D E Z w) {x:Option Addr×Nat} (e:E=some x):∀j,x.1.map (·.block)=some j→j<w.heap.size:=fun j hj=>((h.e x e).lt j (by rw[fC];exact hj)).2
theorem NB.al (h:NB W L n D E Z w) (vs:Array Value) (t:TypeId):NB W L n D E ((w.heap.size,vs)::Z) (w.alloc (.cells vs t)):=by
 have q:=h.below ((Below.refl _ _).alloc (Nat.le_refl _) (.cells vs t))
 refine⟨q.box,q.d,q.e,fun x hx=>?_⟩
 rcases List.mem_cons.1 hx with rfl | hx
 ·exact⟨aB.new _ _ _,by simp,h.box.bl.size,fun y e e2=>Nat.lt_irrefl _ (h.dlt e _ e2),fun y e e2=>Nat.lt_irrefl _ (h.elt e _ e2),fun y hy=>Nat.ne_of_lt (h.box.bx y hy).2⟩
 ·exact q.z x hx
theorem NB.dev {x:Option Addr×Nat} (h:NB W L n none E Z w) (hb:Below w.heap.size w w') (ho:w'.ownsRow w.heap.size 86 7 (.slice x.1 n.dn x.2) n.dn (n.ds.flatMap aA.cells)):NB W L n (some x) E Z w':=by
 have q:=h.below hb
 refine⟨q.box,fun y e=>?_,q.e,fun z hz=>⟨(q.z z hz).1,(q.z z hz).2.1,(q.z z hz).2.2.1,fun y e e2=>?_,(q.z z hz).2.2.2.2⟩⟩
 ·cases e;exact ho.mono h.box.bl.size
 ·cases e
  have:=(ho.lt _ (by rw[fC];exact e2)).1
  have:=(h.z z hz).2.1
  omega
theorem NB.link {x:Option Addr×Nat} (h:NB W L n D none Z w) (hb:Below w.heap.size w w') (ho:w'.ownsRow w.heap.size 128 4 (.slice x.1 n.ln x.2) n.ln (n.ls.flatMap av.cells)):NB W L n D (some x) Z w':=by
 have q:=h.below hb
 refine⟨q.box,q.d,fun y e=>?_,fun z hz=>⟨(q.z z hz).1,(q.z z hz).2.1,(q.z z hz).2.2.1,(q.z z hz).2.2.2.1,fun y e e2=>?_,(q.z z hz).2.2.2.2.2⟩⟩
 ·cases e;exact ho.mono h.box.bl.size
 ·cases e
  have:=(ho.lt _ (by rw[fC];exact e2)).1
  have:=(h.z z hz).2.1
  omega
theorem NB.set {N:Nat} {vs:Array Value} (h:NB W L n D E ((N,vs)::Z) w) (j:Nat) (v:Value):NB W L n D E [(N,vs.setIfInBounds j v)] (w.setCell ⟨N,j,none⟩ v):=by
 obtain⟨h1,h2,h3,h4,h5,h6⟩:=h.z (N,vs) List.mem_cons_self
 refine⟨⟨h.box.bl.setCell h3 v,fun x hx=>⟨(h.box.bx x hx).1.far _ _ (fun e=>h6 x hx e.symm),by simpa[World.setCell]using(h.box.bx x hx).2⟩⟩,fun x e=>lV (h.d x e) (fun k hk e2=>h4 x e (by rw[fC]at hk;rw[hk];exact congrArg some e2)) _,fun x e=>lV (h.e x e) (fun k hk e2=>h5 x e (by rw[fC]at hk;rw[hk];exact congrArg some e2)) _,fun x hx=>?_⟩
 obtain rfl:=List.mem_singleton.1 hx
 exact⟨h1.set j v,by simpa[World.setCell]using h2,h3,h4,h5,h6⟩
theorem NB.leaf {N:Nat} {vs:Array Value} {a c:Option Addr} {b d:Nat} (h:NB W L n (some (a,b)) (some (c,d)) ((N,vs)::Z) w):∃N' w',N=N'∧w=w'∧NB W L n (some (a,b)) (some (c,d)) [(N',vs)] w':=
 ⟨_,_,rfl,rfl,h.box,h.d,h.e,fun x hx=>by obtain rfl:=List.mem_singleton.1 hx;exact h.z _ List.mem_cons_self⟩
end
theorem MN {P:Program} {c:Code} {Q:Exit→Act→World→Prop} {a:Act} {w:World} (A:Nat→Option Addr→Nat→Option Addr→Nat→Act) (C:Nat→Option Addr→Nat→Option Addr→Nat→World→Prop) (h1:Shut (∀N x1 x2 x3 x4 w',C N x1 x2 x3 x4 w'→Q .normal (A N x1 x2 x3 x4) w')→Code.wp P c Q a w) (h2:∀N x1 x2 x3 x4 w',C N x1 x2 x3 x4 w'→Q .normal (A N x1 x2 x3 x4) w'):Code.wp P c Q a w:=h1 h2
theorem MO (n:aH) (W0 W:World) (h0:W0.heap.size≤W.heap.size) (hn:bf W W.heap.size n) (hnn:jk (fun j=>j<W0.heap.size) n) (hE:dD n.au n.ls=0):
  Calls Tryz.prog 27 #[n.val] W fun e W'=>∃g F no gm nm f o b km,e= .returned (.tuple #[.pointer (some ⟨g,0,none⟩),.int .i64 0])∧dK W0 W' F g no gm nm f o b km none 0 ⟨aK.empty,[]⟩ 0∧(no.au=n.au∧no.ls=n.ls∧nm.au=n.au∧nm.ls=n.ls)∧Below W.heap.size W W'∧∀j,F j→W.heap.size≤j:=by
 have hmm:=@run_makeMap Tryz.prog
 have hdl:=hn.eZ
 have hll:=hn.llen
 have hdn:n.dn≤10:=by rw[← fq hn];exact(dH hE).dl
 have hln:n.ln≤15:=by have h1:=(dH hE).ll;rw[hn.llen]at h1;exact h1
 have kD:=hide (fun(w':World) (hb:Below W.heap.size W w')=>show bf w' w'.heap.size n from hn.below hb hb.size)
 have pQ:=hide (fun(w':World) (hb:Below W.heap.size W w')=>Mx n w' (hn.below hb hb.size) hE)
 have qU:=hide hnn
 have qg:=hide hdl
 have nM:=hide hll
 clear hn hE hnn hdl hll
 show Calls _ _ #[.agg #[.slice n.dA n.dn n.dc,.slice n.lA n.ln n.lc]] W _
 go_enter Tryz.func27,Tryz.ntmps27
 go_wp2_with fail
 have cK:=hide (((BX.none W).al #[.slice n.dA n.dn n.dc,.slice n.lA n.ln n.lc] 25).done)
 generalize World.alloc W _=W1 at*
 refine(pQ.out W1 cK.out.bl).mono ?_
 clear pQ
 rintro e w2 ⟨gm,f,o,b,nm,rfl,hM,hd,hl,hs,hb,hon⟩
 have bO:=hide (cK.out.below hb)
 have HM:=hide hM
 have HDD:=hide (And.intro hd hl)
 have HS:=hide (And.intro cK.out.bl.size hs)
 have RO:=hide hon
 clear hM hd hl hs hb hon cK
 obtain⟨c0,c1⟩:w2.cell? ⟨W.heap.size,0,none⟩=some (.slice n.dA n.dn n.dc)∧w2.cell? ⟨W.heap.size,1,none⟩=some (.slice n.lA n.ln n.lc):=⟨(bO.out.get 0 rfl).1 0 _ rfl,(bO.out.get 0 rfl).1 1 _ rfl⟩
 have n1:=Nat.ne_of_lt (bO.out.bx _ (List.mem_of_getElem? (i:=0) rfl)).2
 have n2:=Ne.symm n1
 go_wp2_with fail
 have HXX:=hide bO.out
 have HX0:=hide (show BX w2 [] w2 from BX.none w2)
 have l6:=hide (And.intro c0 c1)
 have Db:=hide (fun(w':World) (hb:Below w2.heap.size w2 w')=>IL n.ds n.dA n.dn n.dc w' (by omega) (kD.out _ (bO.out.bl.trans (hb.mono bO.out.bl.size))).ds)
 have Ho:=hide (fun(w':World) (hb:Below w2.heap.size w2 w')=>yV n.ls n.lA n.ln n.lc w' (by omega) (kD.out _ (bO.out.bl.trans (hb.mono bO.out.bl.size))).ls)
 have HG:=hide (NB.start (n:=n) (show BX w2 [(W.heap.size,#[.slice n.dA n.dn n.dc,.slice n.lA n.ln n.lc])] w2 from⟨Below.refl _ _,bO.out.bx⟩))
 -- R4
 apply MN (C:=fun N dA dc lA lc w'=>NB w2 [(W.heap.size,#[.slice n.dA n.dn n.dc,.slice n.lA n.ln n.lc])] n (some (dA,dc)) (some (lA,lc)) [(N,#[.slice dA n.dn dc,.slice lA n.ln lc])] w')
 ·intro HK
  go_region_held3 (fun w'=>w'.cell? ⟨W.heap.size,0,none⟩=some (.slice n.dA n.dn n.dc)∧w'.cell? ⟨W.heap.size,1,none⟩=some (.slice n.lA n.ln n.lc)) (go_keep) (first | (go_at_call 76;(first | refine(Db.out _ (HG.out.dr.box.bl)).mono ?_ | refine(Db.out _ (HG.out.al _ _).dr.box.bl).mono ?_ | refine(Db.out _ HG.out.box.bl).mono ?_ | refine(Db.out _ (HG.out.al _ _).box.bl).mono ?_);rintro e wp ⟨v,rfl,hown,hb⟩;obtain⟨dA,dc,rfl,_,_,_⟩:=bB.jP aA.len hown qg.out;(first | have HG:=hide (HG.out.dr.dev (x:=(dA,dc)) hb hown) | have HG:=hide ((HG.out.al _ _).dr.dev (x:=(dA,dc)) hb hown) | have HG:=hide (HG.out.dev (x:=(dA,dc)) hb hown) | have HG:=hide ((HG.out.al _ _).dev (x:=(dA,dc)) hb hown));obtain⟨c0,c1⟩:_∧_:=⟨(HG.out.box.get 0 rfl).1 0 _ rfl,(HG.out.box.get 0 rfl).1 1 _ rfl⟩;have n1:=Nat.ne_of_lt (HG.out.box.bx _ (List.mem_of_getElem? (i:=0) rfl)).2;have n2:=Ne.symm n1;(try obtain⟨z0,z1,f0,f1⟩:_∧_∧_∧_:=⟨(HG.out.z _ List.mem_cons_self).1.1 0 _ rfl,(HG.out.z _ List.mem_cons_self).1.1 1 _ rfl,(HG.out.z _ List.mem_cons_self).1.2 0,(HG.out.z _ List.mem_cons_self).1.2 1⟩)) | (go_at_call 77;(first | refine(Ho.out _ (HG.out.dr.box.bl)).mono ?_ | refine(Ho.out _ (HG.out.al _ _).dr.box.bl).mono ?_ | refine(Ho.out _ HG.out.box.bl).mono ?_ | refine(Ho.out _ (HG.out.al _ _).box.bl).mono ?_);rintro e wp ⟨v,rfl,hown,hb⟩;obtain⟨lA,lc,rfl,_,_,_⟩:=bB.jP av.len hown nM.out;(first | have HG:=hide (HG.out.dr.link (x:=(lA,lc)) hb hown) | have HG:=hide ((HG.out.al _ _).dr.link (x:=(lA,lc)) hb hown) | have HG:=hide (HG.out.link (x:=(lA,lc)) hb hown) | have HG:=hide ((HG.out.al _ _).link (x:=(lA,lc)) hb hown));obtain⟨c0,c1⟩:_∧_:=⟨(HG.out.box.get 0 rfl).1 0 _ rfl,(HG.out.box.get 0 rfl).1 1 _ rfl⟩;have n1:=Nat.ne_of_lt (HG.out.box.bx _ (List.mem_of_getElem? (i:=0) rfl)).2;have n2:=Ne.symm n1;(try obtain⟨z0,z1,f0,f1⟩:_∧_∧_∧_:=⟨(HG.out.z _ List.mem_cons_self).1.1 0 _ rfl,(HG.out.z _ List.mem_cons_self).1.1 1 _ rfl,(HG.out.z _ List.mem_cons_self).1.2 0,(HG.out.z _ List.mem_cons_self).1.2 1⟩)))
  all_goals (first | (obtain⟨N',w',e1,e2,q⟩:=(HG.out.al #[.slice dA n.dn dc,.slice lA n.ln lc] 25).leaf;rw[e2,e1];exact HK.out _ _ _ _ _ _ q) | (obtain⟨N',w',e1,e2,q⟩:=((HG.out.set 0 (.slice dA n.dn dc)).set 1 (.slice lA n.ln lc)).leaf;rw[e2,e1];exact HK.out _ _ _ _ _ _ q))
 clear HG Db Ho c0 c1 n1 n2 HX0 l6
 intro N dA dc lA lc w4 WQ
 have jM:=hide WQ
 obtain⟨z0,z1⟩:w4.cell? ⟨N,0,none⟩=some (.slice dA n.dn dc)∧w4.cell? ⟨N,1,none⟩=some (.slice lA n.ln lc):=⟨(WQ.z _ List.mem_cons_self).1.1 0 _ rfl,(WQ.z _ List.mem_cons_self).1.1 1 _ rfl⟩
 clear WQ
 have bJ:=hide (bO.out.bl.trans (jM.out.box.bl.mono bO.out.bl.size))
 have HWM:=hide (show dK W0 ((w4.alloc (.map #[] 0)).alloc (.cells #[.slice dA n.dn dc,.slice lA n.ln lc,.pointer (some ⟨gm,0,none⟩),.slice none 0 0,.map (some w4.heap.size)] 155)) (fun j=>W.heap.size≤j∧j<w4.heap.size+2) (w4.heap.size+1) ⟨dA,n.dn,dc,n.ds,lA,n.ln,lc,n.ls⟩ gm nm f o b w4.heap.size none 0 ⟨aK.empty,[]⟩ 0 from by
  have hs4:=jM.out.box.bl.size
  have hs2:=bO.out.bl.size
  have hd0:=jM.out.d _ rfl
  have he0:=jM.out.e _ rfl
  obtain⟨_,_,e1,hcd,hsd,had⟩:=bB.jP aA.len hd0 qg.out
  cases e1
  obtain⟨_,_,e1,hcl,hsl,hal⟩:=bB.jP av.len he0 nM.out
  cases e1
  have hnb:=kD.out _ bJ.out
  have zf:=HM.out.below jM.out.box.bl
  have h3:∀j,eX f o b j→j<w2.heap.size:=fun j e=>by
   have:=HM.out.JD
   have:=HM.out.JE
   have:=HM.out.blt
   rcases e with e | e | e<;>omega
  have hsz:=HS.out
  have hno:bf w4 w4.heap.size ⟨dA,n.dn,dc,n.ds,lA,n.ln,lc,n.ls⟩:=⟨hsd,hnb.gy,hsl,hnb.xR,⟨hcd,nS hd0⟩,⟨hcl,nS he0⟩⟩
  refine Pq (by omega) (by omega) hno zf ⟨by omega,by omega,by omega,by omega⟩ ⟨fun z a e=>?_,fun z a e=>?_,fun x hx=>?_⟩ ?_ _
  ·have h1:=had a e
   have h2:=(hd0.lt a.block (by rw[fC];show dA.map _=_;rw[show dA=some a from e];rfl)).2
   exact Or.inr ⟨by omega,h2,fun e3=>by have:=h3 _ e3;omega⟩
  ·have h1:=hal a e
   have h2:=(he0.lt a.block (by rw[fC];show lA.map _=_;rw[show lA=some a from e];rfl)).2
   exact Or.inr ⟨by omega,h2,fun e3=>by have:=h3 _ e3;omega⟩
  ·exact(qU.out.o x hx).weak (fun j e=>Or.inl e)
  ·have q1:=(HM.out.net.on RO.out)
   have q2:=HM.out.net.off (q:=eX f o b) (fun j hj a ha=>HM.out.wG hj a ha)
   exact(q1.and q2).weak (fun j e=>Or.inr ⟨by omega,by omega,e.2⟩))
 have gB:=hide (show Below W.heap.size W ((w4.alloc (.map #[] 0)).alloc (.cells #[.slice dA n.dn dc,.slice lA n.ln lc,.pointer (some ⟨gm,0,none⟩),.slice none 0 0,.map (some w4.heap.size)] 155))from(bJ.out.alloc bJ.out.size _).alloc (by have:=bJ.out.size;simp;omega) _)
 go_wp2
 go_ret2
 exact⟨_,_,_,_,_,_,_,_,_,rfl,HWM.out,⟨rfl,rfl,HDD.out.1,HDD.out.2⟩,gB.out,fun j e=>e.1⟩
end Go.Proofs.YtlhmdcgckocidaaGreat
namespace Go.Proofs.YtlhmdcgckocidaaGreat
open Go.RowKit
theorem YP (g:Nat) (n:aH) (f o b:Nat) (M:aK) (k:Nat) (x:bV) (S:gL) {ds:List Dev} {ls:List av} (hd:n.au=ds) (hl:n.ls=ls) (hE:dD ds ls=0) (hx:x.ok) (hk:k<1000000) (hS:eO ds ls M x.dev x.port x.p x.ch=S) (W:World) (hM:aM W g n f o b M k):
  Calls Tryz.prog 79 #[.pointer (some ⟨g,0,none⟩),.agg #[.int .i64 x.dev,.int .i64 x.port],.agg #[.int .i64 x.p.src,.int .i64 x.p.dst,.int .i64 x.p.ah,.int .i64 x.p.aj],.int .i64 x.ch] W fun e W'=>
   e= .returned S.val∧aM W' g n f o b (M.learn S.kn) (k+1)∧aL (eX f o b) W.heap.size W W':=by
 subst hd hl hS
 exact Rm g n f o b M k x.dev x.port x.p x.ch W hM hE hx.d hx.y hx.p hx.c hk
theorem RQ (g:Nat) (n:aH) (f o b:Nat) (M:aK) (k:Nat) (x:bV) (R:Int) (M':aK) {ds:List Dev} (hd:n.au=ds) (hn:n.dn≤10) (hx:x.ok) (h1:(fT ds M x.dev x.p x.ch).1=R) (h2:(fT ds M x.dev x.p x.ch).2=M') (W:World) (hM:aM W g n f o b M k):
  Calls Tryz.prog 81 #[.pointer (some ⟨g,0,none⟩),.int .i64 x.dev,.agg #[.int .i64 x.p.src,.int .i64 x.p.dst,.int .i64 x.p.ah,.int .i64 x.p.aj],.int .i64 x.ch] W fun e W'=>
   e= .returned (.int .i64 R)∧aM W' g n f o b M' k∧aL (eX f o b) W.heap.size W W':=by
 subst hd h1 h2
 exact MG g n f o b M k x.dev x.p x.ch W hM hn hx.d hx.p hx.c
theorem Hq {w:World} {B b o n k:Nat} {l:List bV} {x:bV} (h:bB bV.cells 8 w B (some ⟨b,o,none⟩) n l) (hx:l[k]?=some x):w.cell? ⟨b,o+k*8,none⟩=some (.int .i64 x.kind)∧w.cell? ⟨b,o+k*8+1,none⟩=some (.int .i64 x.dev)∧w.cell? ⟨b,o+k*8+2,none⟩=some (.int .i64 x.port)∧w.cell? ⟨b,o+k*8+3,none⟩=some (.int .i64 x.p.src)∧w.cell? ⟨b,o+k*8+4,none⟩=some (.int .i64 x.p.dst)∧w.cell? ⟨b,o+k*8+5,none⟩=some (.int .i64 x.p.ah)∧w.cell? ⟨b,o+k*8+6,none⟩=some (.int .i64 x.p.aj)∧w.cell? ⟨b,o+k*8+7,none⟩=some (.int .i64 x.ch):=by
 obtain⟨_,hg⟩:=h.get hx
 exact⟨hg 0 _ rfl,hg 1 _ rfl,hg 2 _ rfl,hg 3 _ rfl,hg 4 _ rfl,hg 5 _ rfl,hg 6 _ rfl,hg 7 _ rfl⟩
end Go.Proofs.YtlhmdcgckocidaaGreat
