/- A part of the proof: Hs10. -/
import Derived.Test.YtlhmdcgckocidaaGreatHr37
set_option linter.unusedVariables false
set_option linter.unusedSimpArgs false
set_option maxRecDepth 100000
set_option maxHeartbeats 16000000
namespace Go.Proofs.YtlhmdcgckocidaaGreat
open Go.Maps Go.RowKit
theorem M9 (g NR:Nat) (n:aH) (K:Nat) (i:Nat) (o:Int) (p:P4) (r:aA) (W:World) (hmk:∀w',Below W.heap.size W w'→w'.cell? ⟨g,0,none⟩=some (.slice n.dA n.dn n.dc)∧w'.cell? ⟨g,2,none⟩=some (.pointer (some ⟨NR,0,none⟩))∧fU w' NR n.au n.ls K∧bf w' w'.heap.size n) (hE:dD n.au n.ls=0) (hr:n.ds[i]?=some r) (hp:aV p=true) (hk:r.kind=4) (ho:o=1):
  Calls Tryz.prog 120 #[.pointer (some ⟨g,0,none⟩),.agg #[.int .i64 (i:Int),.int .i64 o],.agg #[.int .i64 p.src,.int .i64 p.dst,.int .i64 p.ah,.int .i64 p.aj]] W (wE W (gG (aJ n.au n.ls K) (i:Int) o r.dev p)):=by
 subst ho
 rw[Oo (d:=r.dev) hk]
 have e2:(r.kind ==2)=false:=by rw[hk];rfl
 have e3:(r.kind ==3)=false:=by rw[hk];rfl
 have e4:(r.kind ==4)=true:=by rw[hk];rfl
 have e5:(r.kind ==5)=false:=by rw[hk];rfl
 clear hk
 have vS:=hide hmk
 have HN:=hide (fun(w':World) (hb:Below W.heap.size W w')=>(hmk w' hb).2.2.2)
 have l6:=hide (fun(w':World) (hb:Below W.heap.size W w')=>(hmk w' hb).1)
 have hN:=HN.out W (Below.refl _ _)
 have hdl:=(dH hE).dl
 rw[fq hN]at hdl
 have hin:i<n.dn:=by rw[← hN.eZ];exact(List.getElem?_eq_some_iff.1 hr).1
 have jW:=hide (hN.gy r (List.mem_of_getElem? hr))
 have vB:=hide (fun(w':World) (hb:Below W.heap.size W w')=>(HN.out w' hb).gy r (List.mem_of_getElem? hr))
 have fQ:=hide hr
 obtain⟨db,od,dN,_⟩:=hN.ds.2 (by omega)
 have bU:=hide dN
 obtain⟨dn,hdn⟩:∃dn,n.dn=dn:=⟨_,rfl⟩
 have fG:=hide hdn
 rw[hdn]at hin hdl
 have HP:=hide (eH hp)
 have oF:=hide hp
 clear hr dN hdn hN hp
 have i1:(0:Int)≤(i:Int):=by omega
 have i2:(i:Int)<(dn:Int):=by omega
 have i3:(dn:Int)≤10:=by omega
 go_enter Tryz.func120,Tryz.ntmps120
 go_wp2_with fail
 have HW1:=hide (((((BX.none W).al #[.int .i64 (i:Int),.int .i64 1] 27).done).al #[.int .i64 p.src,.int .i64 p.dst,.int .i64 p.ah,.int .i64 p.aj] 29).done)
 rw[show(W.alloc (.cells #[.int .i64 (i:Int),.int .i64 1] 27)).heap.size =W.heap.size+1 by simp]at HW1
 generalize World.alloc (World.alloc W _) _=W1 at*
 have HF:=hide (fun(w':World) (hb:Below W1.heap.size W1 w')=>show
   w'.cell? ⟨W.heap.size,0,none⟩=some (.int .i64 (i:Int))∧w'.cell? ⟨g,0,none⟩=some (.slice (some ⟨db,od,none⟩) dn n.dc)∧
   (w'.cell? ⟨db,od+i*7,none⟩=some (.string r.name)∧w'.cell? ⟨db,od+i*7+1,none⟩=some (.int .i64 r.kind)∧w'.cell? ⟨db,od+i*7+2,none⟩=some (.int .i64 r.addr)∧w'.cell? ⟨db,od+i*7+3,none⟩=some (.int .u8 r.pool)∧
   w'.cell? ⟨db,od+i*7+4,none⟩=some (.slice r.bA r.bn r.bc)∧w'.cell? ⟨db,od+i*7+5,none⟩=some (.slice r.rA r.rn r.rc)∧w'.cell? ⟨db,od+i*7+6,none⟩=some (.slice r.tA r.tn r.tc))from by
  have hw:=HW1.out.below hb
  have hs:=(HN.out _ hw.bl).ds
  rw[bU.out]at hs
  obtain⟨_,q⟩:=dF hs fQ.out
  exact⟨(hw.get 1 rfl).1 0 _ rfl,by rw[← bU.out,← fG.out];exact l6.out _ hw.bl,q⟩)
 refine aI (fun w'=>Below W1.heap.size W1 w') 10 (by kernel_rfl) ((Below.refl _ _).drew) (fun hS=>?_)
 refine rP 0 hS ?_
 refine rP 1 hS ?_
 refine rP 2 hS ?_
 refine rP 3 hS ?_
 refine rL 4 [10] rfl hS (by intro w hSw;obtain⟨s0,s1,s2,s3,s4,s5,s6,s7,s8⟩:=HF.out _ hSw;go_simp;try with_reducible rfl) ?_
 refine rP 5 hS ?_
 refine rL 6 [10] rfl hS (by intro w hSw;obtain⟨s0,s1,s2,s3,s4,s5,s6,s7,s8⟩:=HF.out _ hSw;go_simp;try with_reducible rfl) ?_
 refine rP 7 hS ?_
 refine rL 8 [10] rfl hS (by intro w hSw;obtain⟨s0,s1,s2,s3,s4,s5,s6,s7,s8⟩:=HF.out _ hSw;go_simp;try with_reducible rfl) ?_
 intro inv
 refine rO 9 inv fun K hK=>?_
 go_simp
 refine hK.out _ _ (fun _=>(hS.alloc hS.size _)) ?_
 clear hK K hS inv
 intro inv
 try simp only[Act.put,aD,aF,aG]
 have cZ:=hide (show aB ((W1.alloc (.cells #[.string ⟨#[]⟩,.int .i64 0,.int .i64 0,.int .u8 0,.slice none 0 0,.slice none 0 0,.slice none 0 0] 86)).drew) W1.heap.size #[.string ⟨#[]⟩,.int .i64 0,.int .i64 0,.int .u8 0,.slice none 0 0,.slice none 0 0,.slice none 0 0]from(aB.new W1 _ _).below ((Below.refl (W1.heap.size+1) _).drew) (Nat.lt_succ_self _))
 refine rT 10 inv fun K hK=>?_
 rw[if_pos (by rfl)]
 refine wp_store_mid _ _ _ rfl _ _ r.arr rfl rfl (cZ.out.there (Nat.le_refl _)) bY (by first | exact aA.dO _ | simp[Value.oneCell']) ?_
 refine hK.out _ _ ?_
 clear hK K inv
 intro inv
 try simp only[Act.put,aD,aF,aG]
 refine rD ?_
 clear inv
 have HW2:=hide (HW1.out.dev #[.string ⟨#[]⟩,.int .i64 0,.int .i64 0,.int .u8 0,.slice none 0 0,.slice none 0 0,.slice none 0 0] 86 rfl r)
 obtain⟨G,hG⟩:∃G,W1.heap.size=G:=⟨_,rfl⟩
 rw[hG]at HW2
 rw[hG]
 clear hG cZ HF HW1
 generalize World.setCells _ _ _ _=w2 at*
 obtain⟨P,hP⟩:∃P,W.heap.size+1=P:=⟨_,rfl⟩
 obtain⟨A,hA⟩:∃A,W.heap.size=A:=⟨_,rfl⟩
 rw[hP,hA]at HW2
 try rw[hP]
 try rw[hA]
 clear hP hA i1 i2 i3 l6 fQ bU fG
 have d0:w2.cell? ⟨G,0,none⟩=some (.string r.name):=(HW2.out.get 0 rfl).1 0 _ rfl
 have d1:w2.cell? ⟨G,1,none⟩=some (.int .i64 r.kind):=(HW2.out.get 0 rfl).1 1 _ rfl
 have d2:w2.cell? ⟨G,2,none⟩=some (.int .i64 r.addr):=(HW2.out.get 0 rfl).1 2 _ rfl
 have d3:w2.cell? ⟨G,3,none⟩=some (.int .u8 r.pool):=(HW2.out.get 0 rfl).1 3 _ rfl
 have d4:w2.cell? ⟨G,4,none⟩=some (.slice r.bA r.bn r.bc):=(HW2.out.get 0 rfl).1 4 _ rfl
 have d5:w2.cell? ⟨G,5,none⟩=some (.slice r.rA r.rn r.rc):=(HW2.out.get 0 rfl).1 5 _ rfl
 have d6:w2.cell? ⟨G,6,none⟩=some (.slice r.tA r.tn r.tc):=(HW2.out.get 0 rfl).1 6 _ rfl
 have a0:w2.cell? ⟨A,0,none⟩=some (.int .i64 (i:Int)):=(HW2.out.get 2 rfl).1 0 _ rfl
 have a1:w2.cell? ⟨A,1,none⟩=some (.int .i64 1):=(HW2.out.get 2 rfl).1 1 _ rfl
 have p0:w2.cell? ⟨P,0,none⟩=some (.int .i64 p.src):=(HW2.out.get 1 rfl).1 0 _ rfl
 have p1:w2.cell? ⟨P,1,none⟩=some (.int .i64 p.dst):=(HW2.out.get 1 rfl).1 1 _ rfl
 have p2:w2.cell? ⟨P,2,none⟩=some (.int .i64 p.ah):=(HW2.out.get 1 rfl).1 2 _ rfl
 have p3:w2.cell? ⟨P,3,none⟩=some (.int .i64 p.aj):=(HW2.out.get 1 rfl).1 3 _ rfl
 go_wp2_with fail
 refine(M6 (aJ n.au n.ls K) g r (i:Int) p w2 (by unfold ay;omega) oF.out jW.out.pl).mono ?_
 rintro e w3 ⟨v,l,rfl,hwr,hml,hb⟩
 have HV:=hide (show WR W.heap.size v l w3 from hwr.lo HW2.out.bl.size)
 have HM:=hide hml
 have HB:=hide (HW2.out.bl.trans (hb.mono HW2.out.bl.size))
 clear hwr hml hb HW2
 clear d0 d1 d2 d3 d4 d5 d6 a0 a1 p0 p1 p2 p3
 go_wp2
 go_ret
 exact⟨v,l,rfl,HV.out,HM.out,HB.out⟩
theorem Na (g NR:Nat) (n:aH) (K:Nat) (i:Nat) (o:Int) (p:P4) (r:aA) (W:World) (hmk:∀w',Below W.heap.size W w'→w'.cell? ⟨g,0,none⟩=some (.slice n.dA n.dn n.dc)∧w'.cell? ⟨g,2,none⟩=some (.pointer (some ⟨NR,0,none⟩))∧fU w' NR n.au n.ls K∧bf w' w'.heap.size n) (hE:dD n.au n.ls=0) (hr:n.ds[i]?=some r) (hp:aV p=true) (hk:r.kind=4) (ho:o=0):
  Calls Tryz.prog 120 #[.pointer (some ⟨g,0,none⟩),.agg #[.int .i64 (i:Int),.int .i64 o],.agg #[.int .i64 p.src,.int .i64 p.dst,.int .i64 p.ah,.int .i64 p.aj]] W (wE W (gG (aJ n.au n.ls K) (i:Int) o r.dev p)):=by
 subst ho
 rw[Oo (d:=r.dev) hk]
 have e2:(r.kind ==2)=false:=by rw[hk];rfl
 have e3:(r.kind ==3)=false:=by rw[hk];rfl
 have e4:(r.kind ==4)=true:=by rw[hk];rfl
 have e5:(r.kind ==5)=false:=by rw[hk];rfl
 clear hk
 have vS:=hide hmk
 have HN:=hide (fun(w':World) (hb:Below W.heap.size W w')=>(hmk w' hb).2.2.2)
 have l6:=hide (fun(w':World) (hb:Below W.heap.size W w')=>(hmk w' hb).1)
 have hN:=HN.out W (Below.refl _ _)
 have hdl:=(dH hE).dl
 rw[fq hN]at hdl
 have hin:i<n.dn:=by rw[← hN.eZ];exact(List.getElem?_eq_some_iff.1 hr).1
 have jW:=hide (hN.gy r (List.mem_of_getElem? hr))
 have vB:=hide (fun(w':World) (hb:Below W.heap.size W w')=>(HN.out w' hb).gy r (List.mem_of_getElem? hr))
 have fQ:=hide hr
 obtain⟨db,od,dN,_⟩:=hN.ds.2 (by omega)
 have bU:=hide dN
 obtain⟨dn,hdn⟩:∃dn,n.dn=dn:=⟨_,rfl⟩
 have fG:=hide hdn
 rw[hdn]at hin hdl
 have HP:=hide (eH hp)
 have oF:=hide hp
 clear hr dN hdn hN hp
 have i1:(0:Int)≤(i:Int):=by omega
 have i2:(i:Int)<(dn:Int):=by omega
 have i3:(dn:Int)≤10:=by omega
 go_enter Tryz.func120,Tryz.ntmps120
 go_wp2_with fail
 have HW1:=hide (((((BX.none W).al #[.int .i64 (i:Int),.int .i64 0] 27).done).al #[.int .i64 p.src,.int .i64 p.dst,.int .i64 p.ah,.int .i64 p.aj] 29).done)
 rw[show(W.alloc (.cells #[.int .i64 (i:Int),.int .i64 0] 27)).heap.size =W.heap.size+1 by simp]at HW1
 generalize World.alloc (World.alloc W _) _=W1 at*
 have HF:=hide (fun(w':World) (hb:Below W1.heap.size W1 w')=>show
   w'.cell? ⟨W.heap.size,0,none⟩=some (.int .i64 (i:Int))∧w'.cell? ⟨g,0,none⟩=some (.slice (some ⟨db,od,none⟩) dn n.dc)∧
   (w'.cell? ⟨db,od+i*7,none⟩=some (.string r.name)∧w'.cell? ⟨db,od+i*7+1,none⟩=some (.int .i64 r.kind)∧w'.cell? ⟨db,od+i*7+2,none⟩=some (.int .i64 r.addr)∧w'.cell? ⟨db,od+i*7+3,none⟩=some (.int .u8 r.pool)∧
   w'.cell? ⟨db,od+i*7+4,none⟩=some (.slice r.bA r.bn r.bc)∧w'.cell? ⟨db,od+i*7+5,none⟩=some (.slice r.rA r.rn r.rc)∧w'.cell? ⟨db,od+i*7+6,none⟩=some (.slice r.tA r.tn r.tc))from by
  have hw:=HW1.out.below hb
  have hs:=(HN.out _ hw.bl).ds
  rw[bU.out]at hs
  obtain⟨_,q⟩:=dF hs fQ.out
  exact⟨(hw.get 1 rfl).1 0 _ rfl,by rw[← bU.out,← fG.out];exact l6.out _ hw.bl,q⟩)
 refine aI (fun w'=>Below W1.heap.size W1 w') 10 (by kernel_rfl) ((Below.refl _ _).drew) (fun hS=>?_)
 refine rP 0 hS ?_
 refine rP 1 hS ?_
 refine rP 2 hS ?_
 refine rP 3 hS ?_
 refine rL 4 [10] rfl hS (by intro w hSw;obtain⟨s0,s1,s2,s3,s4,s5,s6,s7,s8⟩:=HF.out _ hSw;go_simp;try with_reducible rfl) ?_
 refine rP 5 hS ?_
 refine rL 6 [10] rfl hS (by intro w hSw;obtain⟨s0,s1,s2,s3,s4,s5,s6,s7,s8⟩:=HF.out _ hSw;go_simp;try with_reducible rfl) ?_
 refine rP 7 hS ?_
 refine rL 8 [10] rfl hS (by intro w hSw;obtain⟨s0,s1,s2,s3,s4,s5,s6,s7,s8⟩:=HF.out _ hSw;go_simp;try with_reducible rfl) ?_
 intro inv
 refine rO 9 inv fun K hK=>?_
 go_simp
 refine hK.out _ _ (fun _=>(hS.alloc hS.size _)) ?_
 clear hK K hS inv
 intro inv
 try simp only[Act.put,aD,aF,aG]
 have cZ:=hide (show aB ((W1.alloc (.cells #[.string ⟨#[]⟩,.int .i64 0,.int .i64 0,.int .u8 0,.slice none 0 0,.slice none 0 0,.slice none 0 0] 86)).drew) W1.heap.size #[.string ⟨#[]⟩,.int .i64 0,.int .i64 0,.int .u8 0,.slice none 0 0,.slice none 0 0,.slice none 0 0]from(aB.new W1 _ _).below ((Below.refl (W1.heap.size+1) _).drew) (Nat.lt_succ_self _))
 refine rT 10 inv fun K hK=>?_
 rw[if_pos (by rfl)]
 refine wp_store_mid _ _ _ rfl _ _ r.arr rfl rfl (cZ.out.there (Nat.le_refl _)) bY (by first | exact aA.dO _ | simp[Value.oneCell']) ?_
 refine hK.out _ _ ?_
 clear hK K inv
 intro inv
 try simp only[Act.put,aD,aF,aG]
 refine rD ?_
 clear inv
 have HW2:=hide (HW1.out.dev #[.string ⟨#[]⟩,.int .i64 0,.int .i64 0,.int .u8 0,.slice none 0 0,.slice none 0 0,.slice none 0 0] 86 rfl r)
 obtain⟨G,hG⟩:∃G,W1.heap.size=G:=⟨_,rfl⟩
 rw[hG]at HW2
 rw[hG]
 clear hG cZ HF HW1
 generalize World.setCells _ _ _ _=w2 at*
 obtain⟨P,hP⟩:∃P,W.heap.size+1=P:=⟨_,rfl⟩
 obtain⟨A,hA⟩:∃A,W.heap.size=A:=⟨_,rfl⟩
 rw[hP,hA]at HW2
 try rw[hP]
 try rw[hA]
 clear hP hA i1 i2 i3 l6 fQ bU fG
 have d0:w2.cell? ⟨G,0,none⟩=some (.string r.name):=(HW2.out.get 0 rfl).1 0 _ rfl
 have d1:w2.cell? ⟨G,1,none⟩=some (.int .i64 r.kind):=(HW2.out.get 0 rfl).1 1 _ rfl
 have d2:w2.cell? ⟨G,2,none⟩=some (.int .i64 r.addr):=(HW2.out.get 0 rfl).1 2 _ rfl
 have d3:w2.cell? ⟨G,3,none⟩=some (.int .u8 r.pool):=(HW2.out.get 0 rfl).1 3 _ rfl
 have d4:w2.cell? ⟨G,4,none⟩=some (.slice r.bA r.bn r.bc):=(HW2.out.get 0 rfl).1 4 _ rfl
 have d5:w2.cell? ⟨G,5,none⟩=some (.slice r.rA r.rn r.rc):=(HW2.out.get 0 rfl).1 5 _ rfl
 have d6:w2.cell? ⟨G,6,none⟩=some (.slice r.tA r.tn r.tc):=(HW2.out.get 0 rfl).1 6 _ rfl
 have a0:w2.cell? ⟨A,0,none⟩=some (.int .i64 (i:Int)):=(HW2.out.get 2 rfl).1 0 _ rfl
 have a1:w2.cell? ⟨A,1,none⟩=some (.int .i64 0):=(HW2.out.get 2 rfl).1 1 _ rfl
 have p0:w2.cell? ⟨P,0,none⟩=some (.int .i64 p.src):=(HW2.out.get 1 rfl).1 0 _ rfl
 have p1:w2.cell? ⟨P,1,none⟩=some (.int .i64 p.dst):=(HW2.out.get 1 rfl).1 1 _ rfl
 have p2:w2.cell? ⟨P,2,none⟩=some (.int .i64 p.ah):=(HW2.out.get 1 rfl).1 2 _ rfl
 have p3:w2.cell? ⟨P,3,none⟩=some (.int .i64 p.aj):=(HW2.out.get 1 rfl).1 3 _ rfl
 go_wp2_with fail
 refine(Qo g NR n.au n.ls K r (i:Int) p w2 (by unfold ay;omega) jW.out.ad oF.out jW.out.pl (fun w' hb=>have q:=vS.out w' (HW2.out.bl.trans (hb.mono HW2.out.bl.size));⟨q.2.1,q.2.2.1⟩)).mono ?_
 rintro e w3 ⟨v,l,rfl,hwr,hml,hb⟩
 have HV:=hide (show WR W.heap.size v l w3 from hwr.lo HW2.out.bl.size)
 have HM:=hide hml
 have HB:=hide (HW2.out.bl.trans (hb.mono HW2.out.bl.size))
 clear hwr hml hb HW2
 clear d0 d1 d2 d3 d4 d5 d6 a0 a1 p0 p1 p2 p3
 go_wp2
 go_ret
 exact⟨v,l,rfl,HV.out,HM.out,HB.out⟩
theorem Nb (g NR:Nat) (n:aH) (K:Nat) (i:Nat) (o:Int) (p:P4) (r:aA) (W:World) (hmk:∀w',Below W.heap.size W w'→w'.cell? ⟨g,0,none⟩=some (.slice n.dA n.dn n.dc)∧w'.cell? ⟨g,2,none⟩=some (.pointer (some ⟨NR,0,none⟩))∧fU w' NR n.au n.ls K∧bf w' w'.heap.size n) (hE:dD n.au n.ls=0) (hr:n.ds[i]?=some r) (hp:aV p=true) (hk:r.kind=5) (ho:o=1):
  Calls Tryz.prog 120 #[.pointer (some ⟨g,0,none⟩),.agg #[.int .i64 (i:Int),.int .i64 o],.agg #[.int .i64 p.src,.int .i64 p.dst,.int .i64 p.ah,.int .i64 p.aj]] W (wE W (gG (aJ n.au n.ls K) (i:Int) o r.dev p)):=by
 subst ho
 rw[Oq (d:=r.dev) hk]
 have e2:(r.kind ==2)=false:=by rw[hk];rfl
 have e3:(r.kind ==3)=false:=by rw[hk];rfl
 have e4:(r.kind ==4)=false:=by rw[hk];rfl
 have e5:(r.kind ==5)=true:=by rw[hk];rfl
 clear hk
 have HB3:=hide (show r.bn≤3 from by
  have h1:=jC hE r.dev (List.mem_of_getElem? (xD hr))
  have h2:=(hmk W (Below.refl _ _)).2.2.2.gy r (List.mem_of_getElem? hr)
  have h3:=h1.bl
  rw[← h2.bs.1];exact h3)
 have vS:=hide hmk
 have HN:=hide (fun(w':World) (hb:Below W.heap.size W w')=>(hmk w' hb).2.2.2)
 have l6:=hide (fun(w':World) (hb:Below W.heap.size W w')=>(hmk w' hb).1)
 have hN:=HN.out W (Below.refl _ _)
 have hdl:=(dH hE).dl
 rw[fq hN]at hdl
 have hin:i<n.dn:=by rw[← hN.eZ];exact(List.getElem?_eq_some_iff.1 hr).1
 have jW:=hide (hN.gy r (List.mem_of_getElem? hr))
 have vB:=hide (fun(w':World) (hb:Below W.heap.size W w')=>(HN.out w' hb).gy r (List.mem_of_getElem? hr))
 have fQ:=hide hr
 obtain⟨db,od,dN,_⟩:=hN.ds.2 (by omega)
 have bU:=hide dN
 obtain⟨dn,hdn⟩:∃dn,n.dn=dn:=⟨_,rfl⟩
 have fG:=hide hdn
 rw[hdn]at hin hdl
 have HP:=hide (eH hp)
 have oF:=hide hp
 clear hr dN hdn hN hp
 have i1:(0:Int)≤(i:Int):=by omega
 have i2:(i:Int)<(dn:Int):=by omega
 have i3:(dn:Int)≤10:=by omega
 go_enter Tryz.func120,Tryz.ntmps120
 go_wp2_with fail
 have HW1:=hide (((((BX.none W).al #[.int .i64 (i:Int),.int .i64 1] 27).done).al #[.int .i64 p.src,.int .i64 p.dst,.int .i64 p.ah,.int .i64 p.aj] 29).done)
 rw[show(W.alloc (.cells #[.int .i64 (i:Int),.int .i64 1] 27)).heap.size =W.heap.size+1 by simp]at HW1
 generalize World.alloc (World.alloc W _) _=W1 at*
 have HF:=hide (fun(w':World) (hb:Below W1.heap.size W1 w')=>show
   w'.cell? ⟨W.heap.size,0,none⟩=some (.int .i64 (i:Int))∧w'.cell? ⟨g,0,none⟩=some (.slice (some ⟨db,od,none⟩) dn n.dc)∧
   (w'.cell? ⟨db,od+i*7,none⟩=some (.string r.name)∧w'.cell? ⟨db,od+i*7+1,none⟩=some (.int .i64 r.kind)∧w'.cell? ⟨db,od+i*7+2,none⟩=some (.int .i64 r.addr)∧w'.cell? ⟨db,od+i*7+3,none⟩=some (.int .u8 r.pool)∧
   w'.cell? ⟨db,od+i*7+4,none⟩=some (.slice r.bA r.bn r.bc)∧w'.cell? ⟨db,od+i*7+5,none⟩=some (.slice r.rA r.rn r.rc)∧w'.cell? ⟨db,od+i*7+6,none⟩=some (.slice r.tA r.tn r.tc))from by
  have hw:=HW1.out.below hb
  have hs:=(HN.out _ hw.bl).ds
  rw[bU.out]at hs
  obtain⟨_,q⟩:=dF hs fQ.out
  exact⟨(hw.get 1 rfl).1 0 _ rfl,by rw[← bU.out,← fG.out];exact l6.out _ hw.bl,q⟩)
 refine aI (fun w'=>Below W1.heap.size W1 w') 10 (by kernel_rfl) ((Below.refl _ _).drew) (fun hS=>?_)
 refine rP 0 hS ?_
 refine rP 1 hS ?_
 refine rP 2 hS ?_
 refine rP 3 hS ?_
 refine rL 4 [10] rfl hS (by intro w hSw;obtain⟨s0,s1,s2,s3,s4,s5,s6,s7,s8⟩:=HF.out _ hSw;go_simp;try with_reducible rfl) ?_
 refine rP 5 hS ?_
 refine rL 6 [10] rfl hS (by intro w hSw;obtain⟨s0,s1,s2,s3,s4,s5,s6,s7,s8⟩:=HF.out _ hSw;go_simp;try with_reducible rfl) ?_
 refine rP 7 hS ?_
 refine rL 8 [10] rfl hS (by intro w hSw;obtain⟨s0,s1,s2,s3,s4,s5,s6,s7,s8⟩:=HF.out _ hSw;go_simp;try with_reducible rfl) ?_
 intro inv
 refine rO 9 inv fun K hK=>?_
 go_simp
 refine hK.out _ _ (fun _=>(hS.alloc hS.size _)) ?_
 clear hK K hS inv
 intro inv
 try simp only[Act.put,aD,aF,aG]
 have cZ:=hide (show aB ((W1.alloc (.cells #[.string ⟨#[]⟩,.int .i64 0,.int .i64 0,.int .u8 0,.slice none 0 0,.slice none 0 0,.slice none 0 0] 86)).drew) W1.heap.size #[.string ⟨#[]⟩,.int .i64 0,.int .i64 0,.int .u8 0,.slice none 0 0,.slice none 0 0,.slice none 0 0]from(aB.new W1 _ _).below ((Below.refl (W1.heap.size+1) _).drew) (Nat.lt_succ_self _))
 refine rT 10 inv fun K hK=>?_
 rw[if_pos (by rfl)]
 refine wp_store_mid _ _ _ rfl _ _ r.arr rfl rfl (cZ.out.there (Nat.le_refl _)) bY (by first | exact aA.dO _ | simp[Value.oneCell']) ?_
 refine hK.out _ _ ?_
 clear hK K inv
 intro inv
 try simp only[Act.put,aD,aF,aG]
 refine rD ?_
 clear inv
 have HW2:=hide (HW1.out.dev #[.string ⟨#[]⟩,.int .i64 0,.int .i64 0,.int .u8 0,.slice none 0 0,.slice none 0 0,.slice none 0 0] 86 rfl r)
 obtain⟨G,hG⟩:∃G,W1.heap.size=G:=⟨_,rfl⟩
 rw[hG]at HW2
 rw[hG]
 clear hG cZ HF HW1
 generalize World.setCells _ _ _ _=w2 at*
 obtain⟨P,hP⟩:∃P,W.heap.size+1=P:=⟨_,rfl⟩
 obtain⟨A,hA⟩:∃A,W.heap.size=A:=⟨_,rfl⟩
 rw[hP,hA]at HW2
 try rw[hP]
 try rw[hA]
 clear hP hA i1 i2 i3 l6 fQ bU fG
 have d0:w2.cell? ⟨G,0,none⟩=some (.string r.name):=(HW2.out.get 0 rfl).1 0 _ rfl
 have d1:w2.cell? ⟨G,1,none⟩=some (.int .i64 r.kind):=(HW2.out.get 0 rfl).1 1 _ rfl
 have d2:w2.cell? ⟨G,2,none⟩=some (.int .i64 r.addr):=(HW2.out.get 0 rfl).1 2 _ rfl
 have d3:w2.cell? ⟨G,3,none⟩=some (.int .u8 r.pool):=(HW2.out.get 0 rfl).1 3 _ rfl
 have d4:w2.cell? ⟨G,4,none⟩=some (.slice r.bA r.bn r.bc):=(HW2.out.get 0 rfl).1 4 _ rfl
 have d5:w2.cell? ⟨G,5,none⟩=some (.slice r.rA r.rn r.rc):=(HW2.out.get 0 rfl).1 5 _ rfl
 have d6:w2.cell? ⟨G,6,none⟩=some (.slice r.tA r.tn r.tc):=(HW2.out.get 0 rfl).1 6 _ rfl
 have a0:w2.cell? ⟨A,0,none⟩=some (.int .i64 (i:Int)):=(HW2.out.get 2 rfl).1 0 _ rfl
 have a1:w2.cell? ⟨A,1,none⟩=some (.int .i64 1):=(HW2.out.get 2 rfl).1 1 _ rfl
 have p0:w2.cell? ⟨P,0,none⟩=some (.int .i64 p.src):=(HW2.out.get 1 rfl).1 0 _ rfl
 have p1:w2.cell? ⟨P,1,none⟩=some (.int .i64 p.dst):=(HW2.out.get 1 rfl).1 1 _ rfl
 have p2:w2.cell? ⟨P,2,none⟩=some (.int .i64 p.ah):=(HW2.out.get 1 rfl).1 2 _ rfl
 have p3:w2.cell? ⟨P,3,none⟩=some (.int .i64 p.aj):=(HW2.out.get 1 rfl).1 3 _ rfl
 go_wp2_with fail
 refine(M8 g r (i:Int) p w2 (by unfold ay;omega) (vB.out w2 HW2.out.bl).bs jW.out.cb HB3.out).mono ?_
 rintro e w3 ⟨v,l,rfl,hwr,hml,hb⟩
 have HV:=hide (show WR W.heap.size v l w3 from hwr.lo HW2.out.bl.size)
 have HM:=hide hml
 have HB:=hide (HW2.out.bl.trans (hb.mono HW2.out.bl.size))
 clear hwr hml hb HW2
 clear d0 d1 d2 d3 d4 d5 d6 a0 a1 p0 p1 p2 p3
 go_wp2
 go_ret
 exact⟨v,l,rfl,HV.out,HM.out,HB.out⟩
theorem Nc (g NR:Nat) (n:aH) (K:Nat) (i:Nat) (o:Int) (p:P4) (r:aA) (W:World) (hmk:∀w',Below W.heap.size W w'→w'.cell? ⟨g,0,none⟩=some (.slice n.dA n.dn n.dc)∧w'.cell? ⟨g,2,none⟩=some (.pointer (some ⟨NR,0,none⟩))∧fU w' NR n.au n.ls K∧bf w' w'.heap.size n) (hE:dD n.au n.ls=0) (hr:n.ds[i]?=some r) (hp:aV p=true) (hk:r.kind=5) (ho:o=0):
  Calls Tryz.prog 120 #[.pointer (some ⟨g,0,none⟩),.agg #[.int .i64 (i:Int),.int .i64 o],.agg #[.int .i64 p.src,.int .i64 p.dst,.int .i64 p.ah,.int .i64 p.aj]] W (wE W (gG (aJ n.au n.ls K) (i:Int) o r.dev p)):=by
 subst ho
 rw[Oq (d:=r.dev) hk]
 have e2:(r.kind ==2)=false:=by rw[hk];rfl
 have e3:(r.kind ==3)=false:=by rw[hk];rfl
 have e4:(r.kind ==4)=false:=by rw[hk];rfl
 have e5:(r.kind ==5)=true:=by rw[hk];rfl
 clear hk
 have HB3:=hide (show r.bn≤3 from by
  have h1:=jC hE r.dev (List.mem_of_getElem? (xD hr))
  have h2:=(hmk W (Below.refl _ _)).2.2.2.gy r (List.mem_of_getElem? hr)
  have h3:=h1.bl
  rw[← h2.bs.1];exact h3)
 have vS:=hide hmk
 have HN:=hide (fun(w':World) (hb:Below W.heap.size W w')=>(hmk w' hb).2.2.2)
 have l6:=hide (fun(w':World) (hb:Below W.heap.size W w')=>(hmk w' hb).1)
 have hN:=HN.out W (Below.refl _ _)
 have hdl:=(dH hE).dl
 rw[fq hN]at hdl
 have hin:i<n.dn:=by rw[← hN.eZ];exact(List.getElem?_eq_some_iff.1 hr).1
 have jW:=hide (hN.gy r (List.mem_of_getElem? hr))
 have vB:=hide (fun(w':World) (hb:Below W.heap.size W w')=>(HN.out w' hb).gy r (List.mem_of_getElem? hr))
 have fQ:=hide hr
 obtain⟨db,od,dN,_⟩:=hN.ds.2 (by omega)
 have bU:=hide dN
 obtain⟨dn,hdn⟩:∃dn,n.dn=dn:=⟨_,rfl⟩
 have fG:=hide hdn
 rw[hdn]at hin hdl
 have HP:=hide (eH hp)
 have oF:=hide hp
 clear hr dN hdn hN hp
 have i1:(0:Int)≤(i:Int):=by omega
 have i2:(i:Int)<(dn:Int):=by omega
 have i3:(dn:Int)≤10:=by omega
 go_enter Tryz.func120,Tryz.ntmps120
 go_wp2_with fail
 have HW1:=hide (((((BX.none W).al #[.int .i64 (i:Int),.int .i64 0] 27).done).al #[.int .i64 p.src,.int .i64 p.dst,.int .i64 p.ah,.int .i64 p.aj] 29).done)
 rw[show(W.alloc (.cells #[.int .i64 (i:Int),.int .i64 0] 27)).heap.size =W.heap.size+1 by simp]at HW1
 generalize World.alloc (World.alloc W _) _=W1 at*
 have HF:=hide (fun(w':World) (hb:Below W1.heap.size W1 w')=>show
   w'.cell? ⟨W.heap.size,0,none⟩=some (.int .i64 (i:Int))∧w'.cell? ⟨g,0,none⟩=some (.slice (some ⟨db,od,none⟩) dn n.dc)∧
   (w'.cell? ⟨db,od+i*7,none⟩=some (.string r.name)∧w'.cell? ⟨db,od+i*7+1,none⟩=some (.int .i64 r.kind)∧w'.cell? ⟨db,od+i*7+2,none⟩=some (.int .i64 r.addr)∧w'.cell? ⟨db,od+i*7+3,none⟩=some (.int .u8 r.pool)∧
   w'.cell? ⟨db,od+i*7+4,none⟩=some (.slice r.bA r.bn r.bc)∧w'.cell? ⟨db,od+i*7+5,none⟩=some (.slice r.rA r.rn r.rc)∧w'.cell? ⟨db,od+i*7+6,none⟩=some (.slice r.tA r.tn r.tc))from by
  have hw:=HW1.out.below hb
  have hs:=(HN.out _ hw.bl).ds
  rw[bU.out]at hs
  obtain⟨_,q⟩:=dF hs fQ.out
  exact⟨(hw.get 1 rfl).1 0 _ rfl,by rw[← bU.out,← fG.out];exact l6.out _ hw.bl,q⟩)
 refine aI (fun w'=>Below W1.heap.size W1 w') 10 (by kernel_rfl) ((Below.refl _ _).drew) (fun hS=>?_)
 refine rP 0 hS ?_
 refine rP 1 hS ?_
 refine rP 2 hS ?_
 refine rP 3 hS ?_
 refine rL 4 [10] rfl hS (by intro w hSw;obtain⟨s0,s1,s2,s3,s4,s5,s6,s7,s8⟩:=HF.out _ hSw;go_simp;try with_reducible rfl) ?_
 refine rP 5 hS ?_
 refine rL 6 [10] rfl hS (by intro w hSw;obtain⟨s0,s1,s2,s3,s4,s5,s6,s7,s8⟩:=HF.out _ hSw;go_simp;try with_reducible rfl) ?_
 refine rP 7 hS ?_
 refine rL 8 [10] rfl hS (by intro w hSw;obtain⟨s0,s1,s2,s3,s4,s5,s6,s7,s8⟩:=HF.out _ hSw;go_simp;try with_reducible rfl) ?_
 intro inv
 refine rO 9 inv fun K hK=>?_
 go_simp
 refine hK.out _ _ (fun _=>(hS.alloc hS.size _)) ?_
 clear hK K hS inv
 intro inv
 try simp only[Act.put,aD,aF,aG]
 have cZ:=hide (show aB ((W1.alloc (.cells #[.string ⟨#[]⟩,.int .i64 0,.int .i64 0,.int .u8 0,.slice none 0 0,.slice none 0 0,.slice none 0 0] 86)).drew) W1.heap.size #[.string ⟨#[]⟩,.int .i64 0,.int .i64 0,.int .u8 0,.slice none 0 0,.slice none 0 0,.slice none 0 0]from(aB.new W1 _ _).below ((Below.refl (W1.heap.size+1) _).drew) (Nat.lt_succ_self _))
 refine rT 10 inv fun K hK=>?_
 rw[if_pos (by rfl)]
 refine wp_store_mid _ _ _ rfl _ _ r.arr rfl rfl (cZ.out.there (Nat.le_refl _)) bY (by first | exact aA.dO _ | simp[Value.oneCell']) ?_
 refine hK.out _ _ ?_
 clear hK K inv
 intro inv
 try simp only[Act.put,aD,aF,aG]
 refine rD ?_
 clear inv
 have HW2:=hide (HW1.out.dev #[.string ⟨#[]⟩,.int .i64 0,.int .i64 0,.int .u8 0,.slice none 0 0,.slice none 0 0,.slice none 0 0] 86 rfl r)
 obtain⟨G,hG⟩:∃G,W1.heap.size=G:=⟨_,rfl⟩
 rw[hG]at HW2
 rw[hG]
 clear hG cZ HF HW1
 generalize World.setCells _ _ _ _=w2 at*
 obtain⟨P,hP⟩:∃P,W.heap.size+1=P:=⟨_,rfl⟩
 obtain⟨A,hA⟩:∃A,W.heap.size=A:=⟨_,rfl⟩
 rw[hP,hA]at HW2
 try rw[hP]
 try rw[hA]
 clear hP hA i1 i2 i3 l6 fQ bU fG
 have d0:w2.cell? ⟨G,0,none⟩=some (.string r.name):=(HW2.out.get 0 rfl).1 0 _ rfl
 have d1:w2.cell? ⟨G,1,none⟩=some (.int .i64 r.kind):=(HW2.out.get 0 rfl).1 1 _ rfl
 have d2:w2.cell? ⟨G,2,none⟩=some (.int .i64 r.addr):=(HW2.out.get 0 rfl).1 2 _ rfl
 have d3:w2.cell? ⟨G,3,none⟩=some (.int .u8 r.pool):=(HW2.out.get 0 rfl).1 3 _ rfl
 have d4:w2.cell? ⟨G,4,none⟩=some (.slice r.bA r.bn r.bc):=(HW2.out.get 0 rfl).1 4 _ rfl
 have d5:w2.cell? ⟨G,5,none⟩=some (.slice r.rA r.rn r.rc):=(HW2.out.get 0 rfl).1 5 _ rfl
 have d6:w2.cell? ⟨G,6,none⟩=some (.slice r.tA r.tn r.tc):=(HW2.out.get 0 rfl).1 6 _ rfl
 have a0:w2.cell? ⟨A,0,none⟩=some (.int .i64 (i:Int)):=(HW2.out.get 2 rfl).1 0 _ rfl
 have a1:w2.cell? ⟨A,1,none⟩=some (.int .i64 0):=(HW2.out.get 2 rfl).1 1 _ rfl
 have p0:w2.cell? ⟨P,0,none⟩=some (.int .i64 p.src):=(HW2.out.get 1 rfl).1 0 _ rfl
 have p1:w2.cell? ⟨P,1,none⟩=some (.int .i64 p.dst):=(HW2.out.get 1 rfl).1 1 _ rfl
 have p2:w2.cell? ⟨P,2,none⟩=some (.int .i64 p.ah):=(HW2.out.get 1 rfl).1 2 _ rfl
 have p3:w2.cell? ⟨P,3,none⟩=some (.int .i64 p.aj):=(HW2.out.get 1 rfl).1 3 _ rfl
 go_wp2_with fail
 refine(Qp g r (i:Int) p w2 (by unfold ay;omega) (vB.out w2 HW2.out.bl).bs jW.out.cb HB3.out).mono ?_
 rintro e w3 ⟨v,l,rfl,hwr,hml,hb⟩
 have HV:=hide (show WR W.heap.size v l w3 from hwr.lo HW2.out.bl.size)
 have HM:=hide hml
 have HB:=hide (HW2.out.bl.trans (hb.mono HW2.out.bl.size))
 clear hwr hml hb HW2
 clear d0 d1 d2 d3 d4 d5 d6 a0 a1 p0 p1 p2 p3
 go_wp2
 go_ret
 exact⟨v,l,rfl,HV.out,HM.out,HB.out⟩
theorem Qr (g NR:Nat) (n:aH) (K:Nat) (i:Nat) (o:Int) (p:P4) (r:aA) (W:World) (hmk:∀w',Below W.heap.size W w'→w'.cell? ⟨g,0,none⟩=some (.slice n.dA n.dn n.dc)∧w'.cell? ⟨g,2,none⟩=some (.pointer (some ⟨NR,0,none⟩))∧fU w' NR n.au n.ls K∧bf w' w'.heap.size n) (hE:dD n.au n.ls=0) (hr:n.ds[i]?=some r) (hp:aV p=true) (hk:r.kind=1):
  Calls Tryz.prog 120 #[.pointer (some ⟨g,0,none⟩),.agg #[.int .i64 (i:Int),.int .i64 o],.agg #[.int .i64 p.src,.int .i64 p.dst,.int .i64 p.ah,.int .i64 p.aj]] W (wE W (gG (aJ n.au n.ls K) (i:Int) o r.dev p)):=by
 rw[VT (d:=r.dev) (by show r.kind≠2;omega) (by show r.kind≠3;omega) (by show r.kind≠4;omega) (by show r.kind≠5;omega)]
 have e2:(r.kind ==2)=false:=by rw[hk];rfl
 have e3:(r.kind ==3)=false:=by rw[hk];rfl
 have e4:(r.kind ==4)=false:=by rw[hk];rfl
 have e5:(r.kind ==5)=false:=by rw[hk];rfl
 clear hk
 have vS:=hide hmk
 have HN:=hide (fun(w':World) (hb:Below W.heap.size W w')=>(hmk w' hb).2.2.2)
 have l6:=hide (fun(w':World) (hb:Below W.heap.size W w')=>(hmk w' hb).1)
 have hN:=HN.out W (Below.refl _ _)
 have hdl:=(dH hE).dl
 rw[fq hN]at hdl
 have hin:i<n.dn:=by rw[← hN.eZ];exact(List.getElem?_eq_some_iff.1 hr).1
 have jW:=hide (hN.gy r (List.mem_of_getElem? hr))
 have vB:=hide (fun(w':World) (hb:Below W.heap.size W w')=>(HN.out w' hb).gy r (List.mem_of_getElem? hr))
 have fQ:=hide hr
 obtain⟨db,od,dN,_⟩:=hN.ds.2 (by omega)
 have bU:=hide dN
 obtain⟨dn,hdn⟩:∃dn,n.dn=dn:=⟨_,rfl⟩
 have fG:=hide hdn
 rw[hdn]at hin hdl
 have HP:=hide (eH hp)
 have oF:=hide hp
 clear hr dN hdn hN hp
 have i1:(0:Int)≤(i:Int):=by omega
 have i2:(i:Int)<(dn:Int):=by omega
 have i3:(dn:Int)≤10:=by omega
 go_enter Tryz.func120,Tryz.ntmps120
 go_wp2_with fail
 have HW1:=hide (((((BX.none W).al #[.int .i64 (i:Int),.int .i64 o] 27).done).al #[.int .i64 p.src,.int .i64 p.dst,.int .i64 p.ah,.int .i64 p.aj] 29).done)
 rw[show(W.alloc (.cells #[.int .i64 (i:Int),.int .i64 o] 27)).heap.size =W.heap.size+1 by simp]at HW1
 generalize World.alloc (World.alloc W _) _=W1 at*
 have HF:=hide (fun(w':World) (hb:Below W1.heap.size W1 w')=>show
   w'.cell? ⟨W.heap.size,0,none⟩=some (.int .i64 (i:Int))∧w'.cell? ⟨g,0,none⟩=some (.slice (some ⟨db,od,none⟩) dn n.dc)∧
   (w'.cell? ⟨db,od+i*7,none⟩=some (.string r.name)∧w'.cell? ⟨db,od+i*7+1,none⟩=some (.int .i64 r.kind)∧w'.cell? ⟨db,od+i*7+2,none⟩=some (.int .i64 r.addr)∧w'.cell? ⟨db,od+i*7+3,none⟩=some (.int .u8 r.pool)∧
   w'.cell? ⟨db,od+i*7+4,none⟩=some (.slice r.bA r.bn r.bc)∧w'.cell? ⟨db,od+i*7+5,none⟩=some (.slice r.rA r.rn r.rc)∧w'.cell? ⟨db,od+i*7+6,none⟩=some (.slice r.tA r.tn r.tc))from by
  have hw:=HW1.out.below hb
  have hs:=(HN.out _ hw.bl).ds
  rw[bU.out]at hs
  obtain⟨_,q⟩:=dF hs fQ.out
  exact⟨(hw.get 1 rfl).1 0 _ rfl,by rw[← bU.out,← fG.out];exact l6.out _ hw.bl,q⟩)
 refine aI (fun w'=>Below W1.heap.size W1 w') 10 (by kernel_rfl) ((Below.refl _ _).drew) (fun hS=>?_)
 refine rP 0 hS ?_
 refine rP 1 hS ?_
 refine rP 2 hS ?_
 refine rP 3 hS ?_
 refine rL 4 [10] rfl hS (by intro w hSw;obtain⟨s0,s1,s2,s3,s4,s5,s6,s7,s8⟩:=HF.out _ hSw;go_simp;try with_reducible rfl) ?_
 refine rP 5 hS ?_
 refine rL 6 [10] rfl hS (by intro w hSw;obtain⟨s0,s1,s2,s3,s4,s5,s6,s7,s8⟩:=HF.out _ hSw;go_simp;try with_reducible rfl) ?_
 refine rP 7 hS ?_
 refine rL 8 [10] rfl hS (by intro w hSw;obtain⟨s0,s1,s2,s3,s4,s5,s6,s7,s8⟩:=HF.out _ hSw;go_simp;try with_reducible rfl) ?_
 intro inv
 refine rO 9 inv fun K hK=>?_
 go_simp
 refine hK.out _ _ (fun _=>(hS.alloc hS.size _)) ?_
 clear hK K hS inv
 intro inv
 try simp only[Act.put,aD,aF,aG]
 have cZ:=hide (show aB ((W1.alloc (.cells #[.string ⟨#[]⟩,.int .i64 0,.int .i64 0,.int .u8 0,.slice none 0 0,.slice none 0 0,.slice none 0 0] 86)).drew) W1.heap.size #[.string ⟨#[]⟩,.int .i64 0,.int .i64 0,.int .u8 0,.slice none 0 0,.slice none 0 0,.slice none 0 0]from(aB.new W1 _ _).below ((Below.refl (W1.heap.size+1) _).drew) (Nat.lt_succ_self _))
 refine rT 10 inv fun K hK=>?_
 rw[if_pos (by rfl)]
 refine wp_store_mid _ _ _ rfl _ _ r.arr rfl rfl (cZ.out.there (Nat.le_refl _)) bY (by first | exact aA.dO _ | simp[Value.oneCell']) ?_
 refine hK.out _ _ ?_
 clear hK K inv
 intro inv
 try simp only[Act.put,aD,aF,aG]
 refine rD ?_
 clear inv
 have HW2:=hide (HW1.out.dev #[.string ⟨#[]⟩,.int .i64 0,.int .i64 0,.int .u8 0,.slice none 0 0,.slice none 0 0,.slice none 0 0] 86 rfl r)
 obtain⟨G,hG⟩:∃G,W1.heap.size=G:=⟨_,rfl⟩
 rw[hG]at HW2
 rw[hG]
 clear hG cZ HF HW1
 generalize World.setCells _ _ _ _=w2 at*
 obtain⟨P,hP⟩:∃P,W.heap.size+1=P:=⟨_,rfl⟩
 obtain⟨A,hA⟩:∃A,W.heap.size=A:=⟨_,rfl⟩
 rw[hP,hA]at HW2
 try rw[hP]
 try rw[hA]
 clear hP hA i1 i2 i3 l6 fQ bU fG
 have d0:w2.cell? ⟨G,0,none⟩=some (.string r.name):=(HW2.out.get 0 rfl).1 0 _ rfl
 have d1:w2.cell? ⟨G,1,none⟩=some (.int .i64 r.kind):=(HW2.out.get 0 rfl).1 1 _ rfl
 have d2:w2.cell? ⟨G,2,none⟩=some (.int .i64 r.addr):=(HW2.out.get 0 rfl).1 2 _ rfl
 have d3:w2.cell? ⟨G,3,none⟩=some (.int .u8 r.pool):=(HW2.out.get 0 rfl).1 3 _ rfl
 have d4:w2.cell? ⟨G,4,none⟩=some (.slice r.bA r.bn r.bc):=(HW2.out.get 0 rfl).1 4 _ rfl
 have d5:w2.cell? ⟨G,5,none⟩=some (.slice r.rA r.rn r.rc):=(HW2.out.get 0 rfl).1 5 _ rfl
 have d6:w2.cell? ⟨G,6,none⟩=some (.slice r.tA r.tn r.tc):=(HW2.out.get 0 rfl).1 6 _ rfl
 have a0:w2.cell? ⟨A,0,none⟩=some (.int .i64 (i:Int)):=(HW2.out.get 2 rfl).1 0 _ rfl
 have a1:w2.cell? ⟨A,1,none⟩=some (.int .i64 o):=(HW2.out.get 2 rfl).1 1 _ rfl
 have p0:w2.cell? ⟨P,0,none⟩=some (.int .i64 p.src):=(HW2.out.get 1 rfl).1 0 _ rfl
 have p1:w2.cell? ⟨P,1,none⟩=some (.int .i64 p.dst):=(HW2.out.get 1 rfl).1 1 _ rfl
 have p2:w2.cell? ⟨P,2,none⟩=some (.int .i64 p.ah):=(HW2.out.get 1 rfl).1 2 _ rfl
 have p3:w2.cell? ⟨P,3,none⟩=some (.int .i64 p.aj):=(HW2.out.get 1 rfl).1 3 _ rfl
 go_wp2
 go_ret
 exact⟨_,[],rfl,WR.nil _ _,rfl,HW2.out.bl⟩
end Go.Proofs.YtlhmdcgckocidaaGreat
