/- A part of the proof: Hs11, Hs12. -/
import Derived.Test.YtlhmdcgckocidaaGreatHr38
set_option linter.unusedVariables false
set_option linter.unusedSimpArgs false
set_option maxRecDepth 100000
set_option maxHeartbeats 16000000
namespace Go.Proofs.YtlhmdcgckocidaaGreat
open Go.Maps Go.RowKit
theorem Nf (g NR:Nat) (n:aH) (K:Nat) (i:Nat) (o:Int) (p:P4) (r:aA) (W:World) (hmk:∀w',Below W.heap.size W w'→w'.cell? ⟨g,0,none⟩=some (.slice n.dA n.dn n.dc)∧w'.cell? ⟨g,2,none⟩=some (.pointer (some ⟨NR,0,none⟩))∧fU w' NR n.au n.ls K∧bf w' w'.heap.size n) (hE:dD n.au n.ls=0) (hr:n.ds[i]?=some r) (hp:aV p=true) (hk:r.kind=3) (ho:o=1):
  Calls Tryz.prog 120 #[.pointer (some ⟨g,0,none⟩),.agg #[.int .i64 (i:Int),.int .i64 o],.agg #[.int .i64 p.src,.int .i64 p.dst,.int .i64 p.ah,.int .i64 p.aj]] W (wE W (gG (aJ n.au n.ls K) (i:Int) o r.dev p)):=by
 subst ho
 rw[Om (d:=r.dev) hk]
 have e2:(r.kind ==2)=false:=by rw[hk];rfl
 have e3:(r.kind ==3)=true:=by rw[hk];rfl
 have e4:(r.kind ==4)=false:=by rw[hk];rfl
 have e5:(r.kind ==5)=false:=by rw[hk];rfl
 clear hk
 obtain⟨lb,hlb⟩:∃lb,kM r.rs p=lb:=⟨_,rfl⟩
 have Tv:=hide (show qJ (i:Int) 1 r.dev p=if lb=true then[⟨((i:Int),0),p,none,0,false⟩]else[]from by rw[← hlb];rfl)
 have HLB:=hide hlb
 clear hlb
 have HN:=hide (fun(w':World) (hb:Below W.heap.size W w')=>(hmk w' hb).2.2.2)
 have l6:=hide (fun(w':World) (hb:Below W.heap.size W w')=>(hmk w' hb).1)
 have hN:=HN.out W (Below.refl _ _)
 have hdl:=(dH hE).dl
 rw[fq hN]at hdl
 have hin:i<n.dn:=by rw[← hN.eZ];exact(List.getElem?_eq_some_iff.1 hr).1
 have jW:=hide (hN.gy r (List.mem_of_getElem? hr))
 have vB:=hide (fun(w':World) (hb:Below W.heap.size W w')=>(HN.out w' hb).gy r (List.mem_of_getElem? hr))
 have fQ:=hide hr
 obtain⟨db,od,dN,_⟩:=hN.ds.2 (by omega)
 have bU:=hide dN
 obtain⟨dn,hdn⟩:∃dn,n.dn=dn:=⟨_,rfl⟩
 have fG:=hide hdn
 rw[hdn]at hin hdl
 have HP:=hide (eH hp)
 have oF:=hide hp
 clear hr dN hdn hN hp
 have i1:(0:Int)≤(i:Int):=by omega
 have i2:(i:Int)<(dn:Int):=by omega
 have i3:(dn:Int)≤10:=by omega
 go_enter Tryz.func120,Tryz.ntmps120
 go_wp2_with fail
 have HW1:=hide (((((BX.none W).al #[.int .i64 (i:Int),.int .i64 1] 27).done).al #[.int .i64 p.src,.int .i64 p.dst,.int .i64 p.ah,.int .i64 p.aj] 29).done)
 rw[show(W.alloc (.cells #[.int .i64 (i:Int),.int .i64 1] 27)).heap.size =W.heap.size+1 by simp]at HW1
 generalize World.alloc (World.alloc W _) _=W1 at*
 have HF:=hide (fun(w':World) (hb:Below W1.heap.size W1 w')=>show
   w'.cell? ⟨W.heap.size,0,none⟩=some (.int .i64 (i:Int))∧w'.cell? ⟨g,0,none⟩=some (.slice (some ⟨db,od,none⟩) dn n.dc)∧
   (w'.cell? ⟨db,od+i*7,none⟩=some (.string r.name)∧w'.cell? ⟨db,od+i*7+1,none⟩=some (.int .i64 r.kind)∧w'.cell? ⟨db,od+i*7+2,none⟩=some (.int .i64 r.addr)∧w'.cell? ⟨db,od+i*7+3,none⟩=some (.int .u8 r.pool)∧
   w'.cell? ⟨db,od+i*7+4,none⟩=some (.slice r.bA r.bn r.bc)∧w'.cell? ⟨db,od+i*7+5,none⟩=some (.slice r.rA r.rn r.rc)∧w'.cell? ⟨db,od+i*7+6,none⟩=some (.slice r.tA r.tn r.tc))from by
  have hw:=HW1.out.below hb
  have hs:=(HN.out _ hw.bl).ds
  rw[bU.out]at hs
  obtain⟨_,q⟩:=dF hs fQ.out
  exact⟨(hw.get 1 rfl).1 0 _ rfl,by rw[← bU.out,← fG.out];exact l6.out _ hw.bl,q⟩)
 refine aI (fun w'=>Below W1.heap.size W1 w') 10 (by kernel_rfl) ((Below.refl _ _).drew) (fun hS=>?_)
 refine rP 0 hS ?_
 refine rP 1 hS ?_
 refine rP 2 hS ?_
 refine rP 3 hS ?_
 refine rL 4 [10] rfl hS (by intro w hSw;obtain⟨s0,s1,s2,s3,s4,s5,s6,s7,s8⟩:=HF.out _ hSw;go_simp;try with_reducible rfl) ?_
 refine rP 5 hS ?_
 refine rL 6 [10] rfl hS (by intro w hSw;obtain⟨s0,s1,s2,s3,s4,s5,s6,s7,s8⟩:=HF.out _ hSw;go_simp;try with_reducible rfl) ?_
 refine rP 7 hS ?_
 refine rL 8 [10] rfl hS (by intro w hSw;obtain⟨s0,s1,s2,s3,s4,s5,s6,s7,s8⟩:=HF.out _ hSw;go_simp;try with_reducible rfl) ?_
 intro inv
 refine rO 9 inv fun K hK=>?_
 go_simp
 refine hK.out _ _ (fun _=>(hS.alloc hS.size _)) ?_
 clear hK K hS inv
 intro inv
 try simp only[Act.put,aD,aF,aG]
 have cZ:=hide (show aB ((W1.alloc (.cells #[.string ⟨#[]⟩,.int .i64 0,.int .i64 0,.int .u8 0,.slice none 0 0,.slice none 0 0,.slice none 0 0] 86)).drew) W1.heap.size #[.string ⟨#[]⟩,.int .i64 0,.int .i64 0,.int .u8 0,.slice none 0 0,.slice none 0 0,.slice none 0 0]from(aB.new W1 _ _).below ((Below.refl (W1.heap.size+1) _).drew) (Nat.lt_succ_self _))
 refine rT 10 inv fun K hK=>?_
 rw[if_pos (by rfl)]
 refine wp_store_mid _ _ _ rfl _ _ r.arr rfl rfl (cZ.out.there (Nat.le_refl _)) bY (by first | exact aA.dO _ | simp[Value.oneCell']) ?_
 refine hK.out _ _ ?_
 clear hK K inv
 intro inv
 try simp only[Act.put,aD,aF,aG]
 refine rD ?_
 clear inv
 have HW2:=hide (HW1.out.dev #[.string ⟨#[]⟩,.int .i64 0,.int .i64 0,.int .u8 0,.slice none 0 0,.slice none 0 0,.slice none 0 0] 86 rfl r)
 obtain⟨G,hG⟩:∃G,W1.heap.size=G:=⟨_,rfl⟩
 rw[hG]at HW2
 rw[hG]
 clear hG cZ HF HW1
 generalize World.setCells _ _ _ _=w2 at*
 obtain⟨P,hP⟩:∃P,W.heap.size+1=P:=⟨_,rfl⟩
 obtain⟨A,hA⟩:∃A,W.heap.size=A:=⟨_,rfl⟩
 rw[hP,hA]at HW2
 try rw[hP]
 try rw[hA]
 clear hP hA i1 i2 i3 l6 fQ bU fG
 have hrn:r.rn≤9223372036854775807:=by have:=jW.out.cr;unfold maxLen at this;omega
 have d0:w2.cell? ⟨G,0,none⟩=some (.string r.name):=(HW2.out.get 0 rfl).1 0 _ rfl
 have d1:w2.cell? ⟨G,1,none⟩=some (.int .i64 r.kind):=(HW2.out.get 0 rfl).1 1 _ rfl
 have d2:w2.cell? ⟨G,2,none⟩=some (.int .i64 r.addr):=(HW2.out.get 0 rfl).1 2 _ rfl
 have d3:w2.cell? ⟨G,3,none⟩=some (.int .u8 r.pool):=(HW2.out.get 0 rfl).1 3 _ rfl
 have d4:w2.cell? ⟨G,4,none⟩=some (.slice r.bA r.bn r.bc):=(HW2.out.get 0 rfl).1 4 _ rfl
 have d5:w2.cell? ⟨G,5,none⟩=some (.slice r.rA r.rn r.rc):=(HW2.out.get 0 rfl).1 5 _ rfl
 have d6:w2.cell? ⟨G,6,none⟩=some (.slice r.tA r.tn r.tc):=(HW2.out.get 0 rfl).1 6 _ rfl
 have a0:w2.cell? ⟨A,0,none⟩=some (.int .i64 (i:Int)):=(HW2.out.get 2 rfl).1 0 _ rfl
 have a1:w2.cell? ⟨A,1,none⟩=some (.int .i64 1):=(HW2.out.get 2 rfl).1 1 _ rfl
 have p0:w2.cell? ⟨P,0,none⟩=some (.int .i64 p.src):=(HW2.out.get 1 rfl).1 0 _ rfl
 have p1:w2.cell? ⟨P,1,none⟩=some (.int .i64 p.dst):=(HW2.out.get 1 rfl).1 1 _ rfl
 have p2:w2.cell? ⟨P,2,none⟩=some (.int .i64 p.ah):=(HW2.out.get 1 rfl).1 2 _ rfl
 have p3:w2.cell? ⟨P,3,none⟩=some (.int .i64 p.aj):=(HW2.out.get 1 rfl).1 3 _ rfl
 go_wp2_with fail
 refine(uS r.rs r.rA r.rn r.rc p w2 hrn HP.out (vB.out w2 HW2.out.bl).rs).mono ?_
 rintro e w4 ⟨rfl,hb⟩
 have lH:=hide (HW2.out.below hb)
 clear hb HW2
 clear d0 d1 d2 d3 d4 d5 d6 a0 a1 p0 p1 p2 p3
 rw[HLB.out]
 cases lb
 case false=>
  go_wp2
  go_ret
  exact⟨_,[],rfl,WR.nil _ _,by rw[Tv.out];rfl,lH.out.bl⟩
 have hcall:=yJ
 have iq:=hide (fun(w':World) (hb:Below w4.heap.size w4 w')=>lH.out.below hb)
 go_wp2_with fail
 refine aI (fun w'=>Below w4.heap.size w4 w') 5 (by kernel_rfl) (Below.refl _ _).drew (fun hS=>?_)
 refine rP 0 hS ?_
 refine rL 2 [5] rfl hS (by intro w hSw;have hx:=(iq.out _ hSw).get 1 rfl;have t0:=hx.1 0 _ rfl;have t1:=hx.1 1 _ rfl;have t2:=hx.1 2 _ rfl;have t3:=hx.1 3 _ rfl;clear hx;go_simp;try with_reducible rfl) ?_
 intro inv
 refine rO 1 inv fun K hK=>?_
 go_simp
 refine(yx 0 A (i:Int) 1 w4.drew ((iq.out _ (Below.refl _ _).drew).get 2 rfl)).mono ?_
 rintro e wp ⟨rfl,hb⟩
 have hbp:Below w4.heap.size w4 wp:=(Below.refl _ _).drew.trans hb
 have HV:=hide (WR.one (base:=W.heap.size) (w:=wp) (vs:=#[.int .i64 (i:Int),.int .i64 0,.int .i64 p.src,.int .i64 p.dst,.int .i64 p.ah,.int .i64 p.aj,.pointer none,.int .i64 0,.bool false]) ⟨⟨((i:Int),0),p,none,0,false⟩,0⟩ (Nat.le_trans lH.out.bl.size hbp.size) rfl (fun y e=>by cases e))
 have HB:=hide (lH.out.bl.trans ((hbp.trans ((aC wp (.cells #[.int .i64 (i:Int),.int .i64 0,.int .i64 p.src,.int .i64 p.dst,.int .i64 p.ah,.int .i64 p.aj,.pointer none,.int .i64 0,.bool false] 207)).mono hbp.size)).mono lH.out.bl.size))
 have bJ:=hide (hbp.trans ((aC wp (.cells #[.int .i64 (i:Int),.int .i64 0,.int .i64 p.src,.int .i64 p.dst,.int .i64 p.ah,.int .i64 p.aj,.pointer none,.int .i64 0,.bool false] 207)).mono hbp.size))
 clear hb
 refine hK.out _ _ (fun _=>hbp) ?_
 clear hK K hS inv
 intro inv
 try simp only[Act.put,aD,aF,aG]
 have hS:=hbp
 revert inv
 refine rP 3 hS ?_
 intro inv
 refine rO 4 inv fun K hK=>?_
 go_simp
 refine hK.out _ _ (fun _=>bJ.out) ?_
 clear hK K hS inv
 intro inv
 try simp only[Act.put,aD,aF,aG]
 have hS:=bJ.out
 refine rT 5 inv fun K hK=>?_
 go_simp
 refine hK.out _ _ ?_
 clear hK K inv
 intro inv
 try simp only[Act.put,aD,aF,aG]
 refine rD ?_
 clear inv
 clear hS
 go_wp2
 go_ret
 exact⟨_,_,rfl,HV.out,by rw[Tv.out];rfl,HB.out⟩
theorem Ng (g NR:Nat) (n:aH) (K:Nat) (i:Nat) (o:Int) (p:P4) (r:aA) (W:World) (hmk:∀w',Below W.heap.size W w'→w'.cell? ⟨g,0,none⟩=some (.slice n.dA n.dn n.dc)∧w'.cell? ⟨g,2,none⟩=some (.pointer (some ⟨NR,0,none⟩))∧fU w' NR n.au n.ls K∧bf w' w'.heap.size n) (hE:dD n.au n.ls=0) (hr:n.ds[i]?=some r) (hp:aV p=true) (hk:r.kind=3) (ho:o=0):
  Calls Tryz.prog 120 #[.pointer (some ⟨g,0,none⟩),.agg #[.int .i64 (i:Int),.int .i64 o],.agg #[.int .i64 p.src,.int .i64 p.dst,.int .i64 p.ah,.int .i64 p.aj]] W (wE W (gG (aJ n.au n.ls K) (i:Int) o r.dev p)):=by
 subst ho
 rw[Om (d:=r.dev) hk]
 have e2:(r.kind ==2)=false:=by rw[hk];rfl
 have e3:(r.kind ==3)=true:=by rw[hk];rfl
 have e4:(r.kind ==4)=false:=by rw[hk];rfl
 have e5:(r.kind ==5)=false:=by rw[hk];rfl
 clear hk
 obtain⟨lb,hlb⟩:∃lb,kM r.rs (qy p)=lb:=⟨_,rfl⟩
 have Tv:=hide (show qJ (i:Int) 0 r.dev p=if lb=true then[⟨((i:Int),1),p,some ⟨(i:Int),0,qy p⟩,0,false⟩]else[]from by rw[← hlb];rfl)
 have HLB:=hide hlb
 clear hlb
 have HN:=hide (fun(w':World) (hb:Below W.heap.size W w')=>(hmk w' hb).2.2.2)
 have l6:=hide (fun(w':World) (hb:Below W.heap.size W w')=>(hmk w' hb).1)
 have hN:=HN.out W (Below.refl _ _)
 have hdl:=(dH hE).dl
 rw[fq hN]at hdl
 have hin:i<n.dn:=by rw[← hN.eZ];exact(List.getElem?_eq_some_iff.1 hr).1
 have jW:=hide (hN.gy r (List.mem_of_getElem? hr))
 have vB:=hide (fun(w':World) (hb:Below W.heap.size W w')=>(HN.out w' hb).gy r (List.mem_of_getElem? hr))
 have fQ:=hide hr
 obtain⟨db,od,dN,_⟩:=hN.ds.2 (by omega)
 have bU:=hide dN
 obtain⟨dn,hdn⟩:∃dn,n.dn=dn:=⟨_,rfl⟩
 have fG:=hide hdn
 rw[hdn]at hin hdl
 have HP:=hide (eH hp)
 have oF:=hide hp
 clear hr dN hdn hN hp
 have i1:(0:Int)≤(i:Int):=by omega
 have i2:(i:Int)<(dn:Int):=by omega
 have i3:(dn:Int)≤10:=by omega
 go_enter Tryz.func120,Tryz.ntmps120
 go_wp2_with fail
 have HW1:=hide (((((BX.none W).al #[.int .i64 (i:Int),.int .i64 0] 27).done).al #[.int .i64 p.src,.int .i64 p.dst,.int .i64 p.ah,.int .i64 p.aj] 29).done)
 rw[show(W.alloc (.cells #[.int .i64 (i:Int),.int .i64 0] 27)).heap.size =W.heap.size+1 by simp]at HW1
 generalize World.alloc (World.alloc W _) _=W1 at*
 have HF:=hide (fun(w':World) (hb:Below W1.heap.size W1 w')=>show
   w'.cell? ⟨W.heap.size,0,none⟩=some (.int .i64 (i:Int))∧w'.cell? ⟨g,0,none⟩=some (.slice (some ⟨db,od,none⟩) dn n.dc)∧
   (w'.cell? ⟨db,od+i*7,none⟩=some (.string r.name)∧w'.cell? ⟨db,od+i*7+1,none⟩=some (.int .i64 r.kind)∧w'.cell? ⟨db,od+i*7+2,none⟩=some (.int .i64 r.addr)∧w'.cell? ⟨db,od+i*7+3,none⟩=some (.int .u8 r.pool)∧
   w'.cell? ⟨db,od+i*7+4,none⟩=some (.slice r.bA r.bn r.bc)∧w'.cell? ⟨db,od+i*7+5,none⟩=some (.slice r.rA r.rn r.rc)∧w'.cell? ⟨db,od+i*7+6,none⟩=some (.slice r.tA r.tn r.tc))from by
  have hw:=HW1.out.below hb
  have hs:=(HN.out _ hw.bl).ds
  rw[bU.out]at hs
  obtain⟨_,q⟩:=dF hs fQ.out
  exact⟨(hw.get 1 rfl).1 0 _ rfl,by rw[← bU.out,← fG.out];exact l6.out _ hw.bl,q⟩)
 refine aI (fun w'=>Below W1.heap.size W1 w') 10 (by kernel_rfl) ((Below.refl _ _).drew) (fun hS=>?_)
 refine rP 0 hS ?_
 refine rP 1 hS ?_
 refine rP 2 hS ?_
 refine rP 3 hS ?_
 refine rL 4 [10] rfl hS (by intro w hSw;obtain⟨s0,s1,s2,s3,s4,s5,s6,s7,s8⟩:=HF.out _ hSw;go_simp;try with_reducible rfl) ?_
 refine rP 5 hS ?_
 refine rL 6 [10] rfl hS (by intro w hSw;obtain⟨s0,s1,s2,s3,s4,s5,s6,s7,s8⟩:=HF.out _ hSw;go_simp;try with_reducible rfl) ?_
 refine rP 7 hS ?_
 refine rL 8 [10] rfl hS (by intro w hSw;obtain⟨s0,s1,s2,s3,s4,s5,s6,s7,s8⟩:=HF.out _ hSw;go_simp;try with_reducible rfl) ?_
 intro inv
 refine rO 9 inv fun K hK=>?_
 go_simp
 refine hK.out _ _ (fun _=>(hS.alloc hS.size _)) ?_
 clear hK K hS inv
 intro inv
 try simp only[Act.put,aD,aF,aG]
 have cZ:=hide (show aB ((W1.alloc (.cells #[.string ⟨#[]⟩,.int .i64 0,.int .i64 0,.int .u8 0,.slice none 0 0,.slice none 0 0,.slice none 0 0] 86)).drew) W1.heap.size #[.string ⟨#[]⟩,.int .i64 0,.int .i64 0,.int .u8 0,.slice none 0 0,.slice none 0 0,.slice none 0 0]from(aB.new W1 _ _).below ((Below.refl (W1.heap.size+1) _).drew) (Nat.lt_succ_self _))
 refine rT 10 inv fun K hK=>?_
 rw[if_pos (by rfl)]
 refine wp_store_mid _ _ _ rfl _ _ r.arr rfl rfl (cZ.out.there (Nat.le_refl _)) bY (by first | exact aA.dO _ | simp[Value.oneCell']) ?_
 refine hK.out _ _ ?_
 clear hK K inv
 intro inv
 try simp only[Act.put,aD,aF,aG]
 refine rD ?_
 clear inv
 have HW2:=hide (HW1.out.dev #[.string ⟨#[]⟩,.int .i64 0,.int .i64 0,.int .u8 0,.slice none 0 0,.slice none 0 0,.slice none 0 0] 86 rfl r)
 obtain⟨G,hG⟩:∃G,W1.heap.size=G:=⟨_,rfl⟩
 rw[hG]at HW2
 rw[hG]
 clear hG cZ HF HW1
 generalize World.setCells _ _ _ _=w2 at*
 obtain⟨P,hP⟩:∃P,W.heap.size+1=P:=⟨_,rfl⟩
 obtain⟨A,hA⟩:∃A,W.heap.size=A:=⟨_,rfl⟩
 rw[hP,hA]at HW2
 try rw[hP]
 try rw[hA]
 clear hP hA i1 i2 i3 l6 fQ bU fG
 have hrn:r.rn≤9223372036854775807:=by have:=jW.out.cr;unfold maxLen at this;omega
 have d0:w2.cell? ⟨G,0,none⟩=some (.string r.name):=(HW2.out.get 0 rfl).1 0 _ rfl
 have d1:w2.cell? ⟨G,1,none⟩=some (.int .i64 r.kind):=(HW2.out.get 0 rfl).1 1 _ rfl
 have d2:w2.cell? ⟨G,2,none⟩=some (.int .i64 r.addr):=(HW2.out.get 0 rfl).1 2 _ rfl
 have d3:w2.cell? ⟨G,3,none⟩=some (.int .u8 r.pool):=(HW2.out.get 0 rfl).1 3 _ rfl
 have d4:w2.cell? ⟨G,4,none⟩=some (.slice r.bA r.bn r.bc):=(HW2.out.get 0 rfl).1 4 _ rfl
 have d5:w2.cell? ⟨G,5,none⟩=some (.slice r.rA r.rn r.rc):=(HW2.out.get 0 rfl).1 5 _ rfl
 have d6:w2.cell? ⟨G,6,none⟩=some (.slice r.tA r.tn r.tc):=(HW2.out.get 0 rfl).1 6 _ rfl
 have a0:w2.cell? ⟨A,0,none⟩=some (.int .i64 (i:Int)):=(HW2.out.get 2 rfl).1 0 _ rfl
 have a1:w2.cell? ⟨A,1,none⟩=some (.int .i64 0):=(HW2.out.get 2 rfl).1 1 _ rfl
 have p0:w2.cell? ⟨P,0,none⟩=some (.int .i64 p.src):=(HW2.out.get 1 rfl).1 0 _ rfl
 have p1:w2.cell? ⟨P,1,none⟩=some (.int .i64 p.dst):=(HW2.out.get 1 rfl).1 1 _ rfl
 have p2:w2.cell? ⟨P,2,none⟩=some (.int .i64 p.ah):=(HW2.out.get 1 rfl).1 2 _ rfl
 have p3:w2.cell? ⟨P,3,none⟩=some (.int .i64 p.aj):=(HW2.out.get 1 rfl).1 3 _ rfl
 go_wp2_with fail
 refine(GJ p w2).mono ?_
 rintro e w3 ⟨rfl,hb⟩
 have HW3:=hide (HW2.out.below hb)
 clear hb HW2
 clear d0 d1 d2 d3 d4 d5 d6 a0 a1 p0 p1 p2 p3
 have d5:∀ob,(w3.alloc ob).cell? ⟨G,5,none⟩=some (.slice r.rA r.rn r.rc):=fun ob=>((HW3.out.below (aC w3 ob)).get 0 rfl).1 5 _ rfl
 go_wp2_with fail
 have zi:=hide ((HW3.out.al #[.int .i64 p.dst,.int .i64 p.src,.int .i64 p.aj,.int .i64 p.ah] 29).done)
 obtain⟨Q,hQ⟩:∃Q,w3.heap.size=Q:=⟨_,rfl⟩
 rw[hQ]at zi
 try rw[hQ]
 clear hQ d5 HW3
 generalize World.alloc w3 _=w5 at*
 refine(uS r.rs r.rA r.rn r.rc (qy p) w5 hrn ⟨HP.out.2.1,HP.out.1,HP.out.2.2.2,HP.out.2.2.1⟩ (vB.out w5 zi.out.bl).rs).mono ?_
 rintro e w4 ⟨rfl,hb⟩
 have lH:=hide (zi.out.below hb)
 clear hb zi
 rw[HLB.out]
 cases lb
 case false=>
  go_wp2
  go_ret
  exact⟨_,[],rfl,WR.nil _ _,by rw[Tv.out];rfl,lH.out.bl⟩
 have hcall:=yJ
 have iq:=hide (fun(w':World) (hb:Below w4.heap.size w4 w')=>lH.out.below hb)
 go_wp2_with fail
 refine aI (fun w'=>Below w4.heap.size w4 w') 10 (by kernel_rfl) (Below.refl _ _).drew (fun hS=>?_)
 refine rP 0 hS ?_
 refine rP 3 hS ?_
 refine rL 2 [10] rfl hS (by intro w hSw;have hx:=(iq.out _ hSw).get 2 rfl;have t0:=hx.1 0 _ rfl;have t1:=hx.1 1 _ rfl;have t2:=hx.1 2 _ rfl;have t3:=hx.1 3 _ rfl;clear hx;go_simp;try with_reducible rfl) ?_
 refine rL 5 [10] rfl hS (by intro w hSw;have hx:=(iq.out _ hSw).get 0 rfl;have t0:=hx.1 0 _ rfl;have t1:=hx.1 1 _ rfl;have t2:=hx.1 2 _ rfl;have t3:=hx.1 3 _ rfl;clear hx;go_simp;try with_reducible rfl) ?_
 intro inv
 refine rO 1 inv fun K hK=>?_
 go_simp
 refine(yx 1 A (i:Int) 0 w4.drew ((iq.out _ (Below.refl _ _).drew).get 3 rfl)).mono ?_
 rintro e wp ⟨rfl,hb⟩
 have hbp:Below w4.heap.size w4 wp:=(Below.refl _ _).drew.trans hb
 clear hb
 refine hK.out _ _ (fun _=>hbp) ?_
 clear hK K hS inv
 intro inv
 try simp only[Act.put,aD,aF,aG]
 have hS:=hbp
 refine rO 4 inv fun K hK=>?_
 go_simp
 refine(yx 0 A (i:Int) 0 wp ((iq.out _ hbp).get 3 rfl)).mono ?_
 rintro e wq ⟨rfl,hb⟩
 have hbq:Below w4.heap.size w4 wq:=hbp.trans (hb.mono hbp.size)
 clear hb hbp
 have hba:=hbq.trans ((aC wq (.cells #[.int .i64 (i:Int),.int .i64 0,.int .i64 p.dst,.int .i64 p.src,.int .i64 p.aj,.int .i64 p.ah] 106)).mono hbq.size)
 have hqx:aQ.box (wq.alloc (.cells #[.int .i64 (i:Int),.int .i64 0,.int .i64 p.dst,.int .i64 p.src,.int .i64 p.aj,.int .i64 p.ah] 106)) wq.heap.size ⟨(i:Int),0,qy p⟩:=aB.new wq _ _
 have hqs:(wq.alloc (.cells #[.int .i64 (i:Int),.int .i64 0,.int .i64 p.dst,.int .i64 p.src,.int .i64 p.aj,.int .i64 p.ah] 106)).heap.size =wq.heap.size+1:=by simp
 have HV:=hide (WR.one (base:=W.heap.size) (w:=wq.alloc (.cells #[.int .i64 (i:Int),.int .i64 0,.int .i64 p.dst,.int .i64 p.src,.int .i64 p.aj,.int .i64 p.ah] 106)) (vs:=#[.int .i64 (i:Int),.int .i64 1,.int .i64 p.src,.int .i64 p.dst,.int .i64 p.ah,.int .i64 p.aj,.pointer (some ⟨wq.heap.size,0,none⟩),.int .i64 0,.bool false]) ⟨⟨((i:Int),1),p,some ⟨(i:Int),0,qy p⟩,0,false⟩,wq.heap.size⟩ (Nat.le_trans lH.out.bl.size hba.size) rfl (fun y e=>by
  obtain rfl:=Option.some.inj e
  exact⟨Nat.le_trans lH.out.bl.size hbq.size,by rw[hqs];exact Nat.lt_succ_self _,hqx⟩))
 rw[hqs]at HV
 have bJ:=hide (hba.trans ((aC (wq.alloc (.cells #[.int .i64 (i:Int),.int .i64 0,.int .i64 p.dst,.int .i64 p.src,.int .i64 p.aj,.int .i64 p.ah] 106)) (.cells #[.int .i64 (i:Int),.int .i64 1,.int .i64 p.src,.int .i64 p.dst,.int .i64 p.ah,.int .i64 p.aj,.pointer (some ⟨wq.heap.size,0,none⟩),.int .i64 0,.bool false] 207)).mono hba.size))
 have HB:=hide (lH.out.bl.trans (bJ.out.mono lH.out.bl.size))
 clear hqx hqs
 refine hK.out _ _ (fun _=>hbq) ?_
 clear hK K hS inv
 intro inv
 try simp only[Act.put,aD,aF,aG]
 have hS:=hbq
 revert inv
 refine rP 6 hS ?_
 intro inv
 refine rO 7 inv fun K hK=>?_
 go_simp
 refine hK.out _ _ (fun _=>hba) ?_
 clear hK K hS inv
 intro inv
 try simp only[Act.put,aD,aF,aG]
 have hS:=hba
 revert inv
 refine rP 8 hS ?_
 intro inv
 refine rO 9 inv fun K hK=>?_
 go_simp
 refine hK.out _ _ (fun _=>bJ.out) ?_
 clear hK K hS inv
 intro inv
 try simp only[Act.put,aD,aF,aG]
 have hS:=bJ.out
 refine rT 10 inv fun K hK=>?_
 go_simp
 refine hK.out _ _ ?_
 clear hK K inv
 intro inv
 try simp only[Act.put,aD,aF,aG]
 refine rD ?_
 clear inv
 clear hS
 go_wp2
 go_ret
 exact⟨_,_,rfl,HV.out,by rw[Tv.out];rfl,HB.out⟩
theorem Ih (g NR:Nat) (n:aH) (K:Nat) (i:Nat) (o:Int) (p:P4) (r:aA) (W:World) (hmk:∀w',Below W.heap.size W w'→w'.cell? ⟨g,0,none⟩=some (.slice n.dA n.dn n.dc)∧w'.cell? ⟨g,2,none⟩=some (.pointer (some ⟨NR,0,none⟩))∧fU w' NR n.au n.ls K∧bf w' w'.heap.size n) (hE:dD n.au n.ls=0) (hr:n.ds[i]?=some r) (hp:aV p=true) (ho:r.kind=2∨o=0∨o=1):
  Calls Tryz.prog 120 #[.pointer (some ⟨g,0,none⟩),.agg #[.int .i64 (i:Int),.int .i64 o],.agg #[.int .i64 p.src,.int .i64 p.dst,.int .i64 p.ah,.int .i64 p.aj]] W (wE W (gG (aJ n.au n.ls K) (i:Int) o r.dev p)):=by
 have hd:=jC hE r.dev (List.mem_of_getElem? (xD hr))
 have hk1:1≤r.kind:=hd.k1
 have hk5:r.kind≤5:=hd.k5
 by_cases k2:r.kind=2
 ·exact Qq g NR n K i o p r W hmk hE hr hp k2
 have ho:=ho.resolve_left k2
 by_cases k3:r.kind=3
 ·rcases ho with ho | ho
  ·exact Ng g NR n K i o p r W hmk hE hr hp k3 ho
  ·exact Nf g NR n K i o p r W hmk hE hr hp k3 ho
 by_cases k4:r.kind=4
 ·rcases ho with ho | ho
  ·exact Na g NR n K i o p r W hmk hE hr hp k4 ho
  ·exact M9 g NR n K i o p r W hmk hE hr hp k4 ho
 by_cases k5:r.kind=5
 ·rcases ho with ho | ho
  ·exact Nc g NR n K i o p r W hmk hE hr hp k5 ho
  ·exact Nb g NR n K i o p r W hmk hE hr hp k5 ho
 ·exact Qr g NR n K i o p r W hmk hE hr hp (by omega)
structure zx (i:Int) (x:gN):Prop where
 a1:x.a.1=i
 a2:0≤x.a.2∧x.a.2<4
 ch:0≤x.ch∧x.ch<8
 nd:∀y,x.need=some y→y.d=i∧(0≤y.y∧y.y<4)∧x.fo=false
theorem Ii {bF:Pl→P4→Int} {i o:Int} {d:Dev} {p:P4} (hd:pz d) (ho:d.kind=2∨o=0∨o=1) (hp:aV p=true) {x:gN} (hx:x∈gG bF i o d p):zx i x:=by
 unfold gG at hx
 have hbl:=hd.bl
 have c0:(0:Int)≤0∧(0:Int)<8:=by decide
 have n0:(0:Int)≤0∧(0:Int)<4:=by decide
 have n1:(0:Int)≤1∧(1:Int)<4:=by decide
 by_cases k2:d.kind=2
 ·rw[if_pos k2]at hx
  unfold wX at hx
  split at hx
  ·obtain⟨k,hk,rfl⟩:=List.mem_map.1 hx
   rw[List.mem_range]at hk
   exact⟨rfl,⟨by show 0≤(k:Int);omega,by show(k:Int)<4;omega⟩,c0,fun y e=>by cases e⟩
  ·cases hx
 rw[if_neg k2]at hx
 have ho:=ho.resolve_left k2
 by_cases k3:d.kind=3
 ·rw[if_pos k3]at hx
  unfold qJ at hx
  split at hx
  ·split at hx
   ·obtain rfl:=List.mem_singleton.1 hx
    exact⟨rfl,n0,c0,fun y e=>by cases e⟩
   ·cases hx
  ·split at hx
   ·obtain rfl:=List.mem_singleton.1 hx
    exact⟨rfl,n1,c0,fun y e=>by obtain rfl:=Option.some.inj e;exact⟨rfl,n0,rfl⟩⟩
   ·cases hx
 rw[if_neg k3]at hx
 have o1:0≤1 - o∧1 - o<4:=by omega
 have o2:0≤o∧o<4:=by omega
 by_cases k4:d.kind=4
 ·rw[if_pos k4]at hx
  unfold nT at hx
  split at hx
  ·split at hx
   ·obtain⟨k,hk,rfl⟩:=List.mem_map.1 hx
    obtain⟨_,_,h3,_⟩:=uO hp
    simp only[gq,Bool.and_eq_true,decide_eq_true_eq]at h3
    exact⟨rfl,o1,⟨h3.1,by show p.ah<8;omega⟩,fun y e=>by cases e⟩
   ·cases hx
  ·obtain⟨port,acE,hx⟩:=List.mem_flatMap.1 hx
   rw[List.mem_range]at acE
   unfold zT at hx
   split at hx
   ·obtain⟨k,hk,rfl⟩:=List.mem_map.1 hx
    exact⟨rfl,o1,⟨by show 0≤(port:Int);omega,by show(port:Int)<8;omega⟩,fun y e=>by obtain rfl:=Option.some.inj e;exact⟨rfl,o2,rfl⟩⟩
   ·cases hx
 rw[if_neg k4]at hx
 by_cases k5:d.kind=5
 ·rw[if_pos k5]at hx
  unfold mP at hx
  split at hx
  ·rcases List.mem_append.1 hx with hx | hx
   ·split at hx
    ·obtain rfl:=List.mem_singleton.1 hx
     exact⟨rfl,o1,c0,fun y e=>by cases e⟩
    ·cases hx
   ·obtain⟨k,hk,hx⟩:=List.mem_flatMap.1 hx
    rw[List.mem_range]at hk
    unfold yF at hx
    cases hb:d.backs[k]? with
    |none=>rw[hb]at hx;cases hx
    |some b=>
     rw[hb]at hx
     simp only at hx
     split at hx
     ·obtain rfl:=List.mem_singleton.1 hx
      exact⟨rfl,o1,⟨by show 0≤(k:Int);omega,by show(k:Int)<8;omega⟩,fun y e=>by cases e⟩
     ·cases hx
  ·rcases List.mem_cons.1 hx with rfl | hx
   ·exact⟨rfl,o1,c0,fun y e=>by cases e⟩
   ·split at hx
    ·obtain⟨k,hk,hx⟩:=List.mem_flatMap.1 hx
     rw[List.mem_range]at hk
     unfold Bn at hx
     cases hb:d.backs[k]? with
     |none=>rw[hb]at hx;cases hx
     |some b=>
      rw[hb]at hx
      obtain rfl:=List.mem_singleton.1 hx
      exact⟨rfl,o1,⟨by show 0≤(k:Int);omega,by show(k:Int)<8;omega⟩,fun y e=>by obtain rfl:=Option.some.inj e;exact⟨rfl,o2,rfl⟩⟩
    ·cases hx
 ·rw[if_neg k5]at hx;cases hx
theorem Lp {bF:Pl→P4→Int} {r:Int} {a:Pl} {p:P4} (h:bF a p<0∨r≤bF a p):early bF r a p=false:=by
 unfold early
 rcases h with h | h
 ·rw[show decide (0≤bF a p)=false by simpa using h];rfl
 ·rw[show decide (bF a p<r)=false by simpa using h,Bool.and_false]
theorem Ij {bF:Pl→P4→Int} {r:Int} {a:Pl} {p:P4} (h1:0≤bF a p) (h2:bF a p<r):early bF r a p=true:=by simp[early,h1,h2]
def Ye (bF:Pl→P4→Int) (r:Int):Option aQ→Bool
 |none=>true
 |some y=>early bF r (y.d,y.y) y.p
theorem Qs {bF:Pl→P4→Int} {r:Int} {x:gN} (h1:0≤bF x.a x.p) (h2:bF x.a x.p<r):fP bF r x=Ye bF r x.need:=by
 unfold fP
 rw[Ij h1 h2,Bool.true_and]
 cases x.need<;>rfl
theorem FQ (g NR:Nat) (ds:List Dev) (ls:List av) (K:Nat) (r:bR) (rd:Int) (W:World) (i:Int) (hi:ay i) (hf:zx i r.x) (hnb:∀y,r.x.need=some y→r.nb<W.heap.size∧aQ.box W r.nb y) (hmk:∀w',Below W.heap.size W w'→w'.cell? ⟨g,2,none⟩=some (.pointer (some ⟨NR,0,none⟩))∧fU w' NR ds ls K):
  Calls Tryz.prog 121 #[.pointer (some ⟨g,0,none⟩),.agg #[.int .i64 r.x.a.1,.int .i64 r.x.a.2,.int .i64 r.x.p.src,.int .i64 r.x.p.dst,.int .i64 r.x.p.ah,.int .i64 r.x.p.aj,r.ptr,.int .i64 r.x.ch,.bool r.x.fo],.int .i64 rd] W fun e W'=>e= .returned (.bool (fP (aJ ds ls K) rd r.x))∧Below W.heap.size W W':=by
 obtain⟨⟨⟨a1,a2⟩,⟨s,t,u,v⟩,need,ch,fo⟩,nb⟩:=r
 have vS:=hide hmk
 have hA:=hf.a2
 have hA1:a1=i:=hf.a1
 obtain⟨R1,Tw⟩:∃R1,aJ ds ls K (a1,a2) ⟨s,t,u,v⟩=R1:=⟨_,rfl⟩
 have HRW:=hide (fun w' h=>iZ NR ds ls K (a1,a2) ⟨by rw[hA1];exact hi,by simp only[ay];simp only at hA;omega⟩ ⟨s,t,u,v⟩ w' h)
 rw[Tw]at HRW
 have Aw:=hide (fun h=>show fP (aJ ds ls K) rd ⟨(a1,a2),⟨s,t,u,v⟩,need,ch,fo⟩=false from by
  unfold fP;rw[Lp (by rw[Tw];exact h)];rfl)
 have HRY:=hide (fun(h1:0≤R1) (h2:R1<rd)=>show fP (aJ ds ls K) rd ⟨(a1,a2),⟨s,t,u,v⟩,need,ch,fo⟩=Ye (aJ ds ls K) rd need from
  Qs (by rw[Tw];exact h1) (by rw[Tw];exact h2))
 have Ik:=hide (fun y (e:need=some y)=>show ay y.d∧ay y.y from by
  obtain⟨q1,q2,_⟩:=hf.nd y e
  exact⟨by rw[q1];exact hi,by simp only[ay];omega⟩)
 generalize fP (aJ ds ls K) rd ⟨(a1,a2),⟨s,t,u,v⟩,need,ch,fo⟩=KF at*
 have jM:=hide hnb
 clear hmk hf Tw hA hA1 hnb hi
 obtain⟨pv,hpv⟩:∃pv,bR.ptr ⟨⟨(a1,a2),⟨s,t,u,v⟩,need,ch,fo⟩,nb⟩=pv:=⟨_,rfl⟩
 rw[hpv]
 simp only
 have hpo:pv.oneCell'=true:=by rw[← hpv];cases need<;>rfl
 go_enter Tryz.func121,Tryz.ntmps121
 go_wp2_with fail
 have cK:=hide (((BX.none W).al #[.int .i64 a1,.int .i64 a2,.int .i64 s,.int .i64 t,.int .i64 u,.int .i64 v,pv,.int .i64 ch,.bool fo] 207).done)
 obtain⟨A,hA⟩:∃A,W.heap.size=A:=⟨_,rfl⟩
 rw[hA]at cK
 try rw[hA]
 have HA:=hide hA
 clear hA
 generalize World.alloc W _=w1 at*
 have HB1:=hide cK.out.bl
 refine bS (by kernel_rfl) (by kernel_rfl) ?_
 intro T hT gt hg1 hgi
 have aU:=hide hg1
 have gX:=hide hgi
 clear hg1 hgi
 have k1:∀t,(gt t).cell? ⟨g,2,none⟩=some (.pointer (some ⟨NR,0,none⟩)):=fun t=>(vS.out _ (HB1.out.trans ((aU.out t).mono HB1.out.size))).1
 have Dp:=hide (fun t=>(cK.out.below (aU.out t)).get 0 rfl)
 have c0:∀t,(gt t).cell? ⟨A,0,none⟩=some (.int .i64 a1):=fun t=>(Dp.out t).1 0 _ rfl
 have c1:∀t,(gt t).cell? ⟨A,1,none⟩=some (.int .i64 a2):=fun t=>(Dp.out t).1 1 _ rfl
 have c2:∀q,(gt q).cell? ⟨A,2,none⟩=some (.int .i64 s):=fun q=>(Dp.out q).1 2 _ rfl
 have c3:∀q,(gt q).cell? ⟨A,3,none⟩=some (.int .i64 t):=fun q=>(Dp.out q).1 3 _ rfl
 have c4:∀q,(gt q).cell? ⟨A,4,none⟩=some (.int .i64 u):=fun q=>(Dp.out q).1 4 _ rfl
 have c5:∀q,(gt q).cell? ⟨A,5,none⟩=some (.int .i64 v):=fun q=>(Dp.out q).1 5 _ rfl
 repeat (go_big_quiet_step ((go_at_call 18;exact mE aU.out gX.out (HRW.out _ (vS.out _ (HB1.out.trans ((aU.out _).mono HB1.out.size))).2))))
 refine wpQuiet_nil ?_
 intro _ hw'
 obtain⟨t',rfl⟩:=hw'
 have bO:=hide (cK.out.below (aU.out t'))
 generalize gt t'=w2 at*
 clear aU gX Dp HRW k1 c0 c1 c2 c3 c4 c5 cK HB1
 have HB1:=hide bO.out.bl
 by_cases h1:R1<0
 case pos=>
  have HF:=hide (Aw.out (.inl h1))
  go_wp2
  go_ret
  exact⟨pF HF.out.symm,HB1.out⟩
 have d1:decide (R1<0)=false:=by simpa using h1
 by_cases h2:rd≤R1
 case pos=>
  have HF:=hide (Aw.out (.inr h2))
  go_wp2
  go_ret
  exact⟨pF HF.out.symm,HB1.out⟩
 have d2:decide (rd≤R1)=false:=by simpa using h2
 have HF:=hide (HRY.out (by omega) (by omega))
 clear Aw HRY h1 h2
 have c6:w2.cell? ⟨A,6,none⟩=some pv:=(bO.out.get 0 rfl).1 6 _ rfl
 cases need with
 |none=>
  obtain rfl:Value.pointer none=pv:=hpv
  go_wp2
  go_ret
  exact⟨pF HF.out.symm,HB1.out⟩
 |some y=>
  obtain rfl:Value.pointer (some ⟨nb,0,none⟩)=pv:=hpv
  obtain⟨yd,yy,⟨y0,y1,y2,y3⟩⟩:=y
  have HYB:=hide (jM.out _ rfl)
  obtain⟨R2,hR2⟩:∃R2,aJ ds ls K (yd,yy) ⟨y0,y1,y2,y3⟩=R2:=⟨_,rfl⟩
  have HRW:=hide (fun w' h=>iZ NR ds ls K (yd,yy) (Ik.out _ rfl) ⟨y0,y1,y2,y3⟩ w' h)
  rw[hR2]at HRW
  have HFY:=hide (fun(h1:0≤R2) (h2:R2<rd)=>HF.out.trans (Ij (bF:=aJ ds ls K) (r:=rd) (a:=(yd,yy)) (p:=⟨y0,y1,y2,y3⟩) (by rw[hR2];exact h1) (by rw[hR2];exact h2)))
  have pW:=hide (fun(h:R2<0∨rd≤R2)=>HF.out.trans (Lp (bF:=aJ ds ls K) (r:=rd) (a:=(yd,yy)) (p:=⟨y0,y1,y2,y3⟩) (by rw[hR2];exact h)))
  clear hR2 HF Ik
  go_wp2_with fail
  clear c6
  refine bS (by kernel_rfl) (by kernel_rfl) ?_
  intro T hT gt hg1 hgi
  have aU:=hide hg1
  have gX:=hide hgi
  clear hg1 hgi
  have k1:∀t,(gt t).cell? ⟨g,2,none⟩=some (.pointer (some ⟨NR,0,none⟩)):=fun t=>(vS.out _ (HB1.out.trans ((aU.out t).mono HB1.out.size))).1
  have Dp:=hide (fun t=>(bO.out.below (aU.out t)).get 0 rfl)
  have Lr:=hide (fun t=>show aB (gt t) nb #[.int .i64 yd,.int .i64 yy,.int .i64 y0,.int .i64 y1,.int .i64 y2,.int .i64 y3]from aB.below HYB.out.2 (HB1.out.trans ((aU.out t).mono HB1.out.size)) HYB.out.1)
  have c6:∀t,(gt t).cell? ⟨A,6,none⟩=some (.pointer (some ⟨nb,0,none⟩)):=fun t=>(Dp.out t).1 6 _ rfl
  have c0:∀t,(gt t).cell? ⟨nb,0,none⟩=some (.int .i64 yd):=fun t=>(Lr.out t).1 0 _ rfl
  have c1:∀t,(gt t).cell? ⟨nb,1,none⟩=some (.int .i64 yy):=fun t=>(Lr.out t).1 1 _ rfl
  have c2:∀q,(gt q).cell? ⟨nb,2,none⟩=some (.int .i64 y0):=fun q=>(Lr.out q).1 2 _ rfl
  have c3:∀q,(gt q).cell? ⟨nb,3,none⟩=some (.int .i64 y1):=fun q=>(Lr.out q).1 3 _ rfl
  have c4:∀q,(gt q).cell? ⟨nb,4,none⟩=some (.int .i64 y2):=fun q=>(Lr.out q).1 4 _ rfl
  have c5:∀q,(gt q).cell? ⟨nb,5,none⟩=some (.int .i64 y3):=fun q=>(Lr.out q).1 5 _ rfl
  repeat (go_big_quiet_step ((go_at_call 18;exact mE aU.out gX.out (HRW.out _ (vS.out _ (HB1.out.trans ((aU.out _).mono HB1.out.size))).2))))
  refine wpQuiet_nil ?_
  intro _ hw'
  obtain⟨t',rfl⟩:=hw'
  have HB3:=hide (HB1.out.trans ((aU.out t').mono HB1.out.size))
  generalize gt t'=w3 at*
  clear aU gX Dp Lr HRW k1 c0 c1 c2 c3 c4 c5 c6 bO
  by_cases h1:R2<0
  case pos=>
   have HF:=hide (pW.out (.inl h1))
   have d3:decide (0≤R2)=false:=by simpa using h1
   go_wp2
   go_ret
   exact⟨pF HF.out.symm,HB3.out⟩
  have h1':0≤R2:=by omega
  clear h1
  by_cases h2:rd≤R2
  case pos=>
   have HF:=hide (pW.out (.inr h2))
   have d3:decide (R2<rd)=false:=by simpa using h2
   go_wp2
   go_ret
   exact⟨pF HF.out.symm,HB3.out⟩
  have h2':R2<rd:=by omega
  have HF:=hide (HFY.out h1' h2')
  clear h2
  go_wp2
  go_ret
  exact⟨pF HF.out.symm,HB3.out⟩
end Go.Proofs.YtlhmdcgckocidaaGreat
