/- wireward/wirelaw.DifferAt: whatever is handed in, it returns true, and leaves the input as it reads. -/
import Derived.Test.YtifkacnoiocebaaGreatDz42
set_option linter.unusedVariables false
set_option linter.unusedSimpArgs false
set_option maxRecDepth 100000
set_option maxHeartbeats 16000000
namespace Go.Proofs.YtifkacnoiocebaaGreat
open Go.Maps Go.RowKit
theorem Tryz.infoFunc:(Tryz.prog.info? 59).map (fun i=>(i.zero,i.size,i.bytes))=some (some .nilFunc,1,8):=by kernel_rfl
theorem RG (w:World) (v:Value) (T:TypeId):Reads (w.alloc (.cells #[v] T)) (w.alloc (.cells #[v] T)).heap.size 1 (some ⟨w.heap.size,0,none⟩) 1 [v]:=
 ⟨rfl,fun _=>⟨_,rfl,by simp,fun j u hu=>by
   rw[addr_add,Nat.zero_add,cell_of_row _ _ _ _ _ _ (heap_alloc_new w _)]
   simpa using hu⟩⟩
theorem Ig {a b:aC} {k:Nat} {r:aC} (hr: [a,b][k]?=some r):(([a,b].flatMap Gw).toArray)[k*2]?=some (.slice r.dA r.dn r.dc)∧(([a,b].flatMap Gw).toArray)[k*2+1]?=some (.slice r.lA r.ln r.lc):=by
 match k,hr with
 |0,hr=>obtain rfl:=Option.some.inj hr;exact⟨rfl,rfl⟩
 |1,hr=>obtain rfl:=Option.some.inj hr;exact⟨rfl,rfl⟩
 |k+2,hr=>cases hr
theorem KJ {nm:ByteArray} {ds:List Dev} {ls:List ah} {C:Int} (h:fq ds ls=C) (hC:C≠0):dS nm ds ls=C:=by
 unfold dS
 rw[if_neg (by rw[h];exact hC),h]
theorem Ih {nm:ByteArray} {ds:List Dev} {ls:List ah} (h:fq ds ls=0) (hC:dK nm ds= -1):dS nm ds ls=4:=by
 unfold dS
 rw[if_pos h,if_pos (by rw[hC];omega)]
theorem RH {nm:ByteArray} {ds:List Dev} {ls:List ah} {k:Nat} (h:fq ds ls=0) (hC:dK nm ds=(k:Int)):dS nm ds ls=0:=by
 unfold dS
 rw[if_pos h,if_neg (by rw[hC];omega)]
theorem Z5 {a:Int} (h:¬bT a):aZ a 2 40000=true:=by
 unfold bT at h
 unfold aZ
 rw[Bool.and_eq_true,decide_eq_true_eq,decide_eq_true_eq]
 omega
theorem D9 (a b:aC) (nm:ByteArray) (most:Int) (W:World) (ha:bq W W.heap.size a) (hb:bq W W.heap.size b) (hmo:aO most):
  Calls Tryz.prog 4 #[a.val,b.val,.string nm,.int .i64 most] W fun e W'=>e= .returned (.bool true)∧RowKit.Below W.heap.size W W':=by
 have HAT:=hide (fun(w':World) (hb':RowKit.Below W.heap.size W w')=>Gz a b nm most hmo w' (ha.below hb' hb'.size) (hb.below hb' hb'.size))
 have jS:=hide (fun(w':World) (hb':RowKit.Below W.heap.size W w') (r:aC) (k:Nat) (hr: [a,b][k]?=some r)=>show bq w' w'.heap.size r from by
  have hm:=List.mem_of_getElem? hr
  simp only[List.mem_cons,List.not_mem_nil,or_false]at hm
  rcases hm with rfl | rfl
  ·exact ha.below hb' hb'.size
  ·exact hb.below hb' hb'.size)
 clear ha hb
 simp only[aC.val]at*
 go_enter Tryz.func4,Tryz.ntmps4
 go_wp2_with fail
 have HB2:=hide (below_alloc3 W (.cells #[.slice a.dA a.dn a.dc,.slice a.lA a.ln a.lc] 25) (.cells #[.slice b.dA b.dn b.dc,.slice b.lA b.ln b.lc] 25))
 have HX0:=hide ((Bx.new W #[.slice a.dA a.dn a.dc,.slice a.lA a.ln a.lc] 25).below (below_alloc2 _ (.cells #[.slice b.dA b.dn b.dc,.slice b.lA b.ln b.lc] 25)))
 have eF:=hide (show Bx ((W.alloc (.cells #[.slice a.dA a.dn a.dc,.slice a.lA a.ln a.lc] 25)).alloc (.cells #[.slice b.dA b.dn b.dc,.slice b.lA b.ln b.lc] 25)) (W.heap.size+1) #[.slice b.dA b.dn b.dc,.slice b.lA b.ln b.lc] 25 from by
  have h:=Bx.new (W.alloc (.cells #[.slice a.dA a.dn a.dc,.slice a.lA a.ln a.lc] 25)) #[.slice b.dA b.dn b.dc,.slice b.lA b.ln b.lc] 25
  simpa using h)
 generalize World.alloc (World.alloc W _) _=w2 at*
 refine(HAT.out w2 HB2.out).mono ?_
 clear HAT
 intro e w3 hat
 obtain⟨hb3,p0,p1,p2,p3,kk,E,rfl,hq⟩:=XC hat
 have HQ:=hide hq
 have HB3:=hide (HB2.out.trans (hb3.mono HB2.out.size))
 have Z6:=hide (HX0.out.below hb3)
 have Me:=hide (eF.out.below hb3)
 clear hat hq hb3 HB2 HX0 eF
 have k0:∀o,(w3.alloc o).cell? ⟨W.heap.size,0,none⟩=some (.slice a.dA a.dn a.dc):=fun o=>(Z6.out.below (below_alloc2 w3 o)).get 0 _ rfl
 have k1:∀o,(w3.alloc o).cell? ⟨W.heap.size,1,none⟩=some (.slice a.lA a.ln a.lc):=fun o=>(Z6.out.below (below_alloc2 w3 o)).get 1 _ rfl
 have k2:∀o,(w3.alloc o).cell? ⟨W.heap.size+1,0,none⟩=some (.slice b.dA b.dn b.dc):=fun o=>(Me.out.below (below_alloc2 w3 o)).get 0 _ rfl
 have k3:∀o,(w3.alloc o).cell? ⟨W.heap.size+1,1,none⟩=some (.slice b.lA b.ln b.lc):=fun o=>(Me.out.below (below_alloc2 w3 o)).get 1 _ rfl
 go_wp2_with fail
 have HD0:=hide (show DA W [a,b] nm most w3.heap.size (w3.heap.size+1) #[.int .i64 p0,.int .i64 p1,.int .i64 p2,.int .i64 p3] 0 (.slice none 0 0) [] ((w3.alloc (.cells #[.int .i64 p0,.int .i64 p1,.int .i64 p2,.int .i64 p3] 29)).alloc (.cells #[.slice a.dA a.dn a.dc,.slice a.lA a.ln a.lc,.slice b.dA b.dn b.dc,.slice b.lA b.ln b.lc] 25))from by
  have hs:=HB3.out.size
  refine⟨HB3.out.trans ((below_alloc3 w3 _ _).mono hs),⟨hs,Nat.lt_succ_self _⟩,(Bx.new w3 _ _).below (below_alloc2 _ _),?_,fun i hi=>absurd hi (Nat.not_lt_zero _),World.ownsRow_nil _ _ _ _,fun _=>rfl,⟨fun _=>rfl,fun _=>rfl⟩,fun i u hu=>by cases hu⟩
  have h:=Bx.new (w3.alloc (.cells #[.int .i64 p0,.int .i64 p1,.int .i64 p2,.int .i64 p3] 29)) #[.slice a.dA a.dn a.dc,.slice a.lA a.ln a.lc,.slice b.dA b.dn b.dc,.slice b.lA b.ln b.lc] 25
  rw[World.size_alloc]at h
  exact h)
 clear k0 k1 k2 k3 Z6 Me HB3
 generalize World.alloc (World.alloc w3 _) _=w5 at*
 obtain⟨PB,hPB⟩:∃PB,w3.heap.size=PB:=⟨_,rfl⟩
 obtain⟨NB,hNB⟩:∃NB,PB+1=NB:=⟨_,rfl⟩
 rw[hPB]at HD0 ⊢
 rw[hNB]at HD0 ⊢
 clear hPB hNB
 go_loopw [12,13,37] (fun sv fv iv wr=>∃(k:Nat) (f:Int) (fs:List Value),k≤2∧iv= .int .i64 (k:Int)∧fv= .int .i64 f∧Hid (DA W [a,b] nm most PB NB #[.int .i64 p0,.int .i64 p1,.int .i64 p2,.int .i64 p3] k sv fs wr)∧Hid ((bT most→0<k→f=1)∧(¬bT most∨k=0→f=0))) (fun _ _ iv _=>2 - (intOf iv).toNat)
 case atStart=>exact⟨0,0,[],by omega,rfl,rfl,HD0,hide ⟨fun _ h=>absurd h (Nat.lt_irrefl _),fun _=>rfl⟩⟩
 case round=>
  clear HD0
  obtain⟨k,f,fs,hk,rfl,rfl,HD,Al⟩:=hrel
  by_cases hk2:k<2
  case neg=>
   as_aux_lemma=>
    obtain rfl:k=2:=by omega
    have hca:=HD.out.zu 0 (by omega) a rfl
    have hcb:=HD.out.zu 1 (by omega) b rfl
    have zw:=hide HD.out.bl
    have x0:=HD.out.px.get 0 _ rfl
    have x1:=HD.out.px.get 1 _ rfl
    have x2:=HD.out.px.get 2 _ rfl
    have x3:=HD.out.px.get 3 _ rfl
    by_cases iQ:bT most
    case pos=>
     obtain⟨rfl,rfl,rfl,rfl,rfl,rfl⟩:=HQ.out.bad hca hcb iQ
     obtain rfl:f=1:=Al.out.1 iQ (by omega)
     clear HQ Al HD iQ hca hcb
     go_wp2
     go_ret
     exact⟨bX (by simp),zw.out⟩
    case neg=>
     obtain rfl:f=0:=Al.out.2 (.inl iQ)
     by_cases h6:E=6
     case pos=>
      obtain⟨rfl,rfl,rfl,rfl,rfl⟩:=HQ.out.full h6
      subst h6
      clear HQ Al HD iQ hca hcb
      go_wp2
      go_ret
      exact⟨bX (by simp),zw.out⟩
     case neg=>
      have hfl:=HD.out.fl.2 iQ
      obtain⟨u0,u1,rfl⟩:∃u0 u1,fs=[u0,u1]:=by
       match fs,hfl with
       |[u0,u1],_=>exact⟨u0,u1,rfl⟩
      obtain⟨c0,d0,F,rfl,hk0,hf0⟩:=HD.out.cl 0 _ rfl
      obtain⟨c1,d1,G,rfl,hk1,hf1⟩:=HD.out.cl 1 _ rfl
      obtain⟨rfl,hlv⟩:=HQ.out.good hca hcb iQ h6 (hf0 a rfl) (hf1 b rfl)
      obtain⟨g,gc,rfl,_⟩:=HD.out.own.form (by simp)
      have uj:=hide (show wr.cell? ⟨g,0,none⟩=some (jZ c0 d0)∧wr.cell? ⟨g,1,none⟩=some (jZ c1 d1)from⟨HD.out.own.cellAt 0 (by simp),HD.out.own.cellAt 1 (by simp)⟩)
      have HLV:=hide hlv
      have HKK:=hide (And.intro hk0 hk1)
      have AO:=hide (fun(w':World) (hb':RowKit.Below wr.heap.size wr w')=>show Calls Tryz.prog 21 #[jZ c0 d0,jZ c1 d1] w' (fun e W'=>e= .returned (.tuple #[.agg #[.int .i64 p0,.int .i64 p1,.int .i64 p2,.int .i64 p3],.int .i64 kk])∧RowKit.Below w'.heap.size w' W')from by
       have h:=Oy w' 20 20 #[.pointer (some ⟨c0,0,none⟩),.pointer (some ⟨d0,0,none⟩)] #[.pointer (some ⟨c1,0,none⟩),.pointer (some ⟨d1,0,none⟩)] F G (fun args w=>by go_simp) (fun args w=>by go_simp)
        (hide fun c w9 hc qw=>Ic c0 d0 F c hc w9 ((HKK.out.1.below hb').below qw)) (hide fun c w9 hc qw=>Ic c1 d1 G c hc w9 ((HKK.out.2.below hb').below qw))
       rw[HLV.out]at h
       exact h)
      have Ii:=hide HD.out.px
      clear HQ Al iQ hca hcb hk0 hk1 hf0 hf1 hlv HKK HLV h6 hfl x0 x1 x2 x3 HD jS
      unfold jZ at*
      go_wp2_with fail
      have HB0:=hide (RowKit.Below.refl wr.heap.size wr).drew
      have M9:=hide (fun(w':World) (hb:RowKit.Below wr.heap.size wr w')=>show w'.cell? ⟨g,0,none⟩=some (.func (.func 20) #[] #[.pointer (some ⟨c0,0,none⟩),.pointer (some ⟨d0,0,none⟩)])∧w'.cell? ⟨g,1,none⟩=some (.func (.func 20) #[] #[.pointer (some ⟨c1,0,none⟩),.pointer (some ⟨d1,0,none⟩)])from⟨(hb.cell (p:=⟨g,0,none⟩) (jO uj.out.1)).trans uj.out.1,(hb.cell (p:=⟨g,1,none⟩) (jO uj.out.2)).trans uj.out.2⟩)
      clear uj
      refine aY (fun w'=>w'.cell? ⟨g,0,none⟩=some (.func (.func 20) #[] #[.pointer (some ⟨c0,0,none⟩),.pointer (some ⟨d0,0,none⟩)])∧w'.cell? ⟨g,1,none⟩=some (.func (.func 20) #[] #[.pointer (some ⟨c1,0,none⟩),.pointer (some ⟨d1,0,none⟩)])) 6 (by kernel_rfl) (M9.out _ HB0.out) (fun hS inv=>?_)
      have jK:Hid ((World.drew wr).heap.size =wr.heap.size):=hide rfl
      generalize World.drew wr=wd at*
      revert inv
      refine rP 0 hS ?_
      refine rP 1 hS ?_
      refine rL 2 [6] rfl hS (by intro w hSw;obtain⟨s0,s1⟩:=hSw;go_simp;try with_reducible rfl) ?_
      refine rP 3 hS ?_
      refine rP 4 hS ?_
      refine rL 5 [6] rfl hS (by intro w hSw;obtain⟨s0,s1⟩:=hSw;go_simp;try with_reducible rfl) ?_
      intro inv
      clear hS
      have hpl:=Ii.out.lt
      refine FJ (i:=6) (j:=10) rfl rfl (by kernel_rfl) inv (fun K hK=>?_) (fun K hK=>?_)
      ·go_simp
       refine(AO.out _ HB0.out).mono ?_
       rintro e w4 ⟨rfl,hb4⟩
       have O1:=HB0.out.trans (hb4.mono (by rw[jK.out];exact Nat.le_refl _))
       have dM:=hide (zw.out.trans (O1.mono zw.out.size))
       have AA:=hide (Ii.out.below O1)
       have Um:=AA.out.lt
       have hS:=M9.out _ O1
       clear zw Ii HB0 AO hb4 O1 jK hpl M9
       go_simp
       refine hK.out _ _ (fun h=>by cases h) ?_
       clear hK K inv
       intro inv
       try simp only[Act.put,aK,aL,aM]
       revert inv
       refine rP 7 hS ?_
       refine rP 8 hS ?_
       refine rP 9 hS ?_
       intro inv
       refine rT 10 inv fun K hK=>?_
       go_simp
       refine hK.out _ _ ?_
       clear hK K inv
       intro inv
       try simp only[Act.put,aK,aL,aM]
       have vD:=hide (dM.out.alloc dM.out.size (.cells #[.int .i64 0,.int .i64 0,.int .i64 0,.int .i64 0] 29))
       have M0:=hide (AA.out.below (below_alloc2 w4 (.cells #[.int .i64 0,.int .i64 0,.int .i64 0,.int .i64 0] 29)))
       have bS:=hide (Bx.new w4 #[.int .i64 0,.int .i64 0,.int .i64 0,.int .i64 0] 29)
       have hne:PB≠w4.heap.size:=by omega
       have hle:W.heap.size≤w4.heap.size:=dM.out.size
       clear hS dM AA Um
       generalize World.alloc w4 _=w5 at*
       generalize w4.heap.size=N at*
       have k0:=bS.out.get 0 _ rfl
       have k1:=bS.out.get 1 _ rfl
       have k2:=bS.out.get 2 _ rfl
       have k3:=bS.out.get 3 _ rfl
       have g0:=bS.out.frozen 0
       have g1:=bS.out.frozen 1
       have g2:=bS.out.frozen 2
       have g3:=bS.out.frozen 3
       refine rT 11 inv fun K hK=>?_
       go_simp
       refine hK.out _ _ ?_
       clear hK K inv
       intro inv
       try simp only[Act.put,aK,aL,aM]
       refine rT 12 inv fun K hK=>?_
       go_simp
       refine hK.out _ _ ?_
       clear hK K inv
       intro inv
       try simp only[Act.put,aK,aL,aM]
       refine rD ?_
       clear inv
       have gq:=hide ((((bS.out.set 0 (.int .i64 p0)).set 1 (.int .i64 p1)).set 2 (.int .i64 p2)).set 3 (.int .i64 p3))
       have FP:=hide ((((M0.out.far ⟨N,0,none⟩ (.int .i64 p0) hne).far ⟨N,1,none⟩ (.int .i64 p1) hne).far ⟨N,2,none⟩ (.int .i64 p2) hne).far ⟨N,3,none⟩ (.int .i64 p3) hne)
       have pz:=hide (show RowKit.Below W.heap.size W ((((w5.setCell ⟨N,0,none⟩ (.int .i64 p0)).setCell ⟨N,1,none⟩ (.int .i64 p1)).setCell ⟨N,2,none⟩ (.int .i64 p2)).setCell ⟨N,3,none⟩ (.int .i64 p3))from(((vD.out.setCell hle _).setCell hle _).setCell hle _).setCell hle _)
       clear k0 k1 k2 k3 g0 g1 g2 g3
       generalize World.setCell (World.setCell (World.setCell (World.setCell w5 _ _) _ _) _ _) _ _=w6 at*
       have k0:=gq.out.get 0 (.int .i64 p0) rfl
       have k1:=gq.out.get 1 (.int .i64 p1) rfl
       have k2:=gq.out.get 2 (.int .i64 p2) rfl
       have k3:=gq.out.get 3 (.int .i64 p3) rfl
       have x0:=FP.out.get 0 _ rfl
       have x1:=FP.out.get 1 _ rfl
       have x2:=FP.out.get 2 _ rfl
       have x3:=FP.out.get 3 _ rfl
       go_wp2
       go_ret
       exact⟨bX (by simp),pz.out⟩
      ·go_simp
       have xA:=HB0.out.trans ((below_alloc2 wd (.cells #[.int .i64 0,.int .i64 0,.int .i64 0,.int .i64 0] 29)).mono (by rw[jK.out];exact Nat.le_refl _))
       have Ry:=hide (Bx.new wd #[.int .i64 0,.int .i64 0,.int .i64 0,.int .i64 0] 29)
       have hS:=M9.out _ xA
       refine hK.out _ _ (fun _=>hS) ?_
       clear hK K inv
       intro inv
       try simp only[Act.put,aK,aL,aM]
       refine rO 6 inv fun K hK=>?_
       go_simp
       refine(AO.out _ xA).mono ?_
       rintro e w5 ⟨rfl,hb4⟩
       have O3:=xA.trans (hb4.mono xA.size)
       have vD:=hide (zw.out.trans (O3.mono zw.out.size))
       have M0:=hide (Ii.out.below O3)
       have bS:=hide (Ry.out.below hb4)
       have hne:PB≠wd.heap.size:=by rw[jK.out];omega
       have hle:W.heap.size≤wd.heap.size:=by rw[jK.out];exact zw.out.size
       have hS:=M9.out _ O3
       clear zw Ii HB0 AO hb4 jK hpl xA O3 Ry M9
       go_simp
       refine hK.out _ _ (fun h=>by cases h) ?_
       clear hK K inv
       intro inv
       try simp only[Act.put,aK,aL,aM]
       revert inv
       refine rP 7 hS ?_
       refine rP 8 hS ?_
       refine rP 9 hS ?_
       intro inv
       clear hS
       generalize wd.heap.size=N at*
       have k0:=bS.out.get 0 _ rfl
       have k1:=bS.out.get 1 _ rfl
       have k2:=bS.out.get 2 _ rfl
       have k3:=bS.out.get 3 _ rfl
       have g0:=bS.out.frozen 0
       have g1:=bS.out.frozen 1
       have g2:=bS.out.frozen 2
       have g3:=bS.out.frozen 3
       refine rT 11 inv fun K hK=>?_
       go_simp
       refine hK.out _ _ ?_
       clear hK K inv
       intro inv
       try simp only[Act.put,aK,aL,aM]
       refine rT 12 inv fun K hK=>?_
       go_simp
       refine hK.out _ _ ?_
       clear hK K inv
       intro inv
       try simp only[Act.put,aK,aL,aM]
       refine rD ?_
       clear inv
       have gq:=hide ((((bS.out.set 0 (.int .i64 p0)).set 1 (.int .i64 p1)).set 2 (.int .i64 p2)).set 3 (.int .i64 p3))
       have FP:=hide ((((M0.out.far ⟨N,0,none⟩ (.int .i64 p0) hne).far ⟨N,1,none⟩ (.int .i64 p1) hne).far ⟨N,2,none⟩ (.int .i64 p2) hne).far ⟨N,3,none⟩ (.int .i64 p3) hne)
       have pz:=hide (show RowKit.Below W.heap.size W ((((w5.setCell ⟨N,0,none⟩ (.int .i64 p0)).setCell ⟨N,1,none⟩ (.int .i64 p1)).setCell ⟨N,2,none⟩ (.int .i64 p2)).setCell ⟨N,3,none⟩ (.int .i64 p3))from(((vD.out.setCell hle _).setCell hle _).setCell hle _).setCell hle _)
       clear k0 k1 k2 k3 g0 g1 g2 g3
       generalize World.setCell (World.setCell (World.setCell (World.setCell w5 _ _) _ _) _ _) _ _=w6 at*
       have k0:=gq.out.get 0 (.int .i64 p0) rfl
       have k1:=gq.out.get 1 (.int .i64 p1) rfl
       have k2:=gq.out.get 2 (.int .i64 p2) rfl
       have k3:=gq.out.get 3 (.int .i64 p3) rfl
       have x0:=FP.out.get 0 _ rfl
       have x1:=FP.out.get 1 _ rfl
       have x2:=FP.out.get 2 _ rfl
       have x3:=FP.out.get 3 _ rfl
       go_wp2
       go_ret
       exact⟨bX (by simp),pz.out⟩
  case pos=>
   obtain⟨r,hr⟩:∃r,[a,b][k]?=some r:=⟨_,List.getElem?_eq_getElem hk2⟩
   have HR:=hide hr
   have q0:wr.cell? ⟨NB,k*2,none⟩=some (.slice r.dA r.dn r.dc):=HD.out.nt.get _ _ (Ig hr).1
   have q1:wr.cell? ⟨NB,k*2+1,none⟩=some (.slice r.lA r.ln r.lc):=HD.out.nt.get _ _ (Ig hr).2
   have xL:=hide (fun(w':World) (hb':RowKit.Below W.heap.size W w')=>jS.out w' hb' r k hr)
   have Ia:=hide (fun(w':World) (hb':RowKit.Below W.heap.size W w')=>La r w' (jS.out w' hb' r k hr))
   simp only[aC.val]at Ia
   have hkI:(k:Int)<2:=by omega
   clear hr jS
   have HD1:=hide (HD.out.below (below_alloc2 wr (.cells #[.slice r.dA r.dn r.dc,.slice r.lA r.ln r.lc] 25)))
   have eF:=hide (Bx.new wr #[.slice r.dA r.dn r.dc,.slice r.lA r.ln r.lc] 25)
   clear HD
   go_wp2_with fail
   clear q0 q1
   generalize World.alloc wr _=w1 at*
   obtain⟨NX,hNX⟩:∃NX,wr.heap.size=NX:=⟨_,rfl⟩
   rw[hNX]at eF ⊢
   clear hNX
   refine(Ia.out w1 HD1.out.bl).mono ?_
   clear Ia
   rintro e w2 ⟨rfl,hb2⟩
   have HD2:=hide (HD1.out.below hb2)
   have bZ:=hide (eF.out.below hb2)
   clear hb2 HD1 eF
   obtain⟨C,hC⟩:∃C,fq r.au r.ls=C:=⟨_,rfl⟩
   rw[hC]
   by_cases hC0:C=0
   case neg=>
    as_aux_lemma=>
     obtain⟨rfl,rfl,rfl,rfl,rfl,RI⟩:=HQ.out.early HR.out (fun i hi q hq=>HD2.out.zu i hi q hq) (by rw[KJ hC hC0];exact hC0)
     rw[KJ hC hC0]at RI
     subst RI
     have x0:=HD2.out.px.get 0 _ rfl
     have x1:=HD2.out.px.get 1 _ rfl
     have x2:=HD2.out.px.get 2 _ rfl
     have x3:=HD2.out.px.get 3 _ rfl
     have e2:(E != 0)=true:=by simpa using hC0
     have zw:=hide HD2.out.bl
     clear hC hC0 HD2 bZ Al HQ HR xL
     go_wp2
     go_ret
     exact⟨bX (by simp),zw.out⟩
   case pos=>
    subst hC0
    have HE:=hide hC
    have Z7:=hide (ND r nm w2 (xL.out w2 HD2.out.bl) (BZ (xL.out w2 HD2.out.bl) hC))
    simp only[aC.val]at Z7
    have y0:=bZ.out.get 0 _ rfl
    have y1:=bZ.out.get 1 _ rfl
    clear hC
    go_wp2_with fail
    refine Z7.out.mono ?_
    clear Z7 y0 y1
    rintro e w3 ⟨rfl,hb3⟩
    have HD3:=hide (HD2.out.below hb3)
    have gL:=hide (bZ.out.below hb3)
    clear hb3 HD2 bZ
    rcases zI nm r.au with hh | ⟨k0,hh,hkl⟩
    ·rw[hh]
     as_aux_lemma=>
      obtain⟨rfl,rfl,rfl,rfl,rfl,RI⟩:=HQ.out.early HR.out (fun i hi q hq=>HD3.out.zu i hi q hq) (by rw[Ih HE.out hh];decide)
      rw[Ih HE.out hh]at RI
      subst RI
      have x0:=HD3.out.px.get 0 _ rfl
      have x1:=HD3.out.px.get 1 _ rfl
      have x2:=HD3.out.px.get 2 _ rfl
      have x3:=HD3.out.px.get 3 _ rfl
      have zw:=hide HD3.out.bl
      clear hh HE HD3 gL Al HQ HR xL
      go_wp2
      go_ret
      exact⟨bX (by simp),zw.out⟩
    ·rw[hh]
     have hk0:decide ((k0:Int)<0)=false:=by simp
     have hdl:r.au.length=r.dn:=by simp only[aC.au,List.length_map];exact(xL.out w3 HD3.out.bl).iK
     have hdn:r.dn≤10:=BZ (xL.out w3 HD3.out.bl) HE.out
     obtain⟨v,hv⟩:=Lr (wT HE.out) k0
     have HV:=hide hv
     have HH:=hide hh
     have jd:=hide hdl
     have Z8:=hide (Lv r k0 v w3 (xL.out w3 HD3.out.bl) HE.out (by omega) hv)
     simp only[aC.val]at Z8
     have kR:=hide (fun q (hq: [a,b][k]?=some q)=>show dS nm q.au q.ls=0 from by
      obtain rfl:=Option.some.inj (hq.symm.trans HR.out)
      exact RH HE.out HH.out)
     have y0:=gL.out.get 0 _ rfl
     have y1:=gL.out.get 1 _ rfl
     clear hv hh hdl
     go_wp2_with fail
     refine Z8.out.mono ?_
     clear Z8 y0 y1 gL hk0
     rintro e w4 ⟨m,g,c,rfl,hm,hmd,hml,UM,hb4⟩
     have HD4:=hide (HD3.out.below hb4)
     have ug:=hide (And.intro hm UM)
     have RJ:=hide (And.intro hmd hml)
     clear hb4 HD3 hm hmd hml UM
     simp only[aC.val]
     have HD5:=hide (HD4.out.below (below_alloc2 w4 (.cells #[.slice m.dA m.dn m.dc,.slice m.lA m.ln m.lc] 25)))
     have bS:=hide (Bx.new w4 #[.slice m.dA m.dn m.dc,.slice m.lA m.ln m.lc] 25)
     have qU:=hide (show bq (w4.alloc (.cells #[.slice m.dA m.dn m.dc,.slice m.lA m.ln m.lc] 25)) (w4.alloc (.cells #[.slice m.dA m.dn m.dc,.slice m.lA m.ln m.lc] 25)).heap.size m∧cu (w4.alloc (.cells #[.slice m.dA m.dn m.dc,.slice m.lA m.ln m.lc] 25)) (w4.alloc (.cells #[.slice m.dA m.dn m.dc,.slice m.lA m.ln m.lc] 25)).heap.size (some ⟨g,0,none⟩) (bM v r.dn).length ((bM v r.dn).map fun(k:Nat)=>(k:Int))from
      ⟨ug.out.1.below (below_alloc2 w4 _) (below_alloc2 w4 _).size,ug.out.2.below (below_alloc2 w4 _) (below_alloc2 w4 _).size⟩)
     by_cases iQ:bT most
     case pos=>
      as_aux_lemma=>
       have HI:=hide (fun w=>dR (n:=most) (lo:=2) (hi:=40000) w (aaE iQ))
       have KL:=hide iQ
       clear iQ ug HD4 bS qU
       go_wp2_with fail
       refine(HI.out _).mono ?_
       clear HI
       rintro e w6 ⟨rfl,rfl⟩
       generalize World.alloc w4 _=w5 at*
       go_wp2_with fail
       go_roundw
       case rel=>exact⟨k+1,1,fs,by omega,by go_num,rfl,hide (HD5.out.skip KL.out kR.out),hide ⟨fun _ _=>rfl,fun h=>by rcases h with h | h;exact absurd KL.out h;omega⟩⟩
       case measure=>simp[intOf];omega
     case neg=>
      as_aux_lemma=>
       have HI:=hide (fun w=>dR (n:=most) (lo:=2) (hi:=40000) w (Z5 iQ))
       have KL:=hide iQ
       clear iQ ug HD4
       go_wp2_with fail
       refine(HI.out _).mono ?_
       clear HI
       rintro e w6 ⟨rfl,rfl⟩
       generalize World.alloc w4 _=w5 at*
       generalize w4.heap.size=MX at*
       have WA:=hide (show xq m from xq.of qU.out.1 (by rw[RJ.out.1,RJ.out.2,← jd.out];exact yg HE.out HV.out.closed))
       have CW:=hide (Lp Xy w5 m qU.out.1 WA.out.hd WA.out.hk)
       have y0:=bS.out.get 0 _ rfl
       have y1:=bS.out.get 1 _ rfl
       go_wp2_with fail
       refine CW.out.mono ?_
       clear CW y0 y1 bS
       rintro e w6 hsp
       unfold Gt at hsp
       obtain⟨s,mb,blk,M,K,rfl,hb6,hst,hfx,hup⟩:=hsp
       have HD6:=hide (HD5.out.below hb6)
       have HI6:=hide (qU.out.2.below hb6 hb6.size)
       have HST:=hide hst
       have HSL:=hide (Gx.of (K:=K) HE.out HH.out HV.out jd.out RJ.out.1 RJ.out.2 hfx)
       clear HD5 qU hb6 hst hfx hup RJ
       have Ao:=below_alloc2 w6 (.cells #[.pointer (some ⟨s,0,none⟩)] 39)
       have HD7:=hide (HD6.out.below Ao)
       have zl:=hide (HI6.out.below Ao Ao.size)
       have pY:=hide (HST.out.up Ao)
       have Rw:=hide (Bx.new w6 #[.pointer (some ⟨s,0,none⟩)] 39)
       clear HD6 HI6 HST Ao
       have M8:=hide (fun(w':World) (hw:cu w' w'.heap.size (some ⟨g,0,none⟩) (bM v r.dn).length ((bM v r.dn).map fun(k:Nat)=>(k:Int)))=>show Calls Tryz.prog 19 #[.slice (some ⟨g,0,none⟩) (bM v r.dn).length c,.int .i64 (k0:Int)] w' (fun e W'=>e= .returned (.int .i64 ((bH v r.dn k0:Nat):Int))∧RowKit.Below w'.heap.size w' W')from by
        have hm0:k0∈bM v r.dn:=KI.2 ⟨by rw[← jd.out];exact hkl,HV.out.host⟩
        have hlo:(bM v r.dn).length ≤r.dn:=by rw[oN];exact uq _ _
        have h:=vZ ((bM v r.dn).map fun(x:Nat)=>(x:Int)) g 0 (bM v r.dn).length c (k0:Int) w' (by omega) hw (List.length_pos_of_mem hm0)
        rw[M7 HV.out.host (by rw[← jd.out];exact hkl)]at h
        exact h)
       go_wp2_with fail
       generalize World.alloc w6 _=w7 at*
       generalize w6.heap.size=cs at*
       refine(M8.out w7 zl.out).mono ?_
       clear M8 zl
       rintro e w8 ⟨rfl,lN⟩
       have sD:=hide (HD7.out.below lN)
       have jR:=hide (pY.out.up lN)
       have xM:=hide (Rw.out.below lN)
       clear HD7 pY Rw lN
       have hnk:bH v r.dn k0≤10:=by have:=yM v r.dn k0;have:=jd.out;omega
       obtain⟨nk,Z9⟩:∃nk:Nat,bH v r.dn k0=nk:=⟨_,rfl⟩
       rw[Z9]at hnk HSL ⊢
       clear Z9
       have HK9:=hide (show pW (w8.alloc (.cells #[.int .i64 (nk:Int),.int .i64 0] 27)) cs w8.heap.size (qG r.au r.ls nm v K)from
        ⟨s,mb,_,_,blk,_,M,(nk:Int),jR.out.up (below_alloc2 w8 _),xM.out.below (below_alloc2 w8 _),Bx.new w8 _ _,⟨by omega,by omega⟩,fun c hc=>⟨iR m.au m.ls K ((nk:Int),0) (pk c),fun _=>by
         rw[xq.Ro _ _ (oZ c hc),wC c hc],fun hD=>WA.out.ZB _ _ (.inl hD),HSL.out.tell c hc⟩⟩)
       have HA9:=hide (HSL.out.any)
       have qw:=below_alloc2 w8 (.cells #[.int .i64 (nk:Int),.int .i64 0] 27)
       have HDa:=hide (sD.out.below qw)
       clear sD jR xM qw HSL WA
       have WB:=hide (fun o=>HDa.out.below (below_alloc2 _ o))
       have HKb:=hide (fun o=>HK9.out.below (below_alloc2 _ o))
       have hfl:fs.length=k:=HDa.out.fl.2 KL.out
       obtain⟨tZ,hi0,hz0,hz1,hz2⟩:=info_parts Tryz.infoFunc
       clear HDa HK9 HE HH HV jd
       have fG:=hide (show Reads ((w8.alloc (.cells #[.int .i64 (nk:Int),.int .i64 0] 27)).alloc (.cells #[jZ cs w8.heap.size] 59)) ((w8.alloc (.cells #[.int .i64 (nk:Int),.int .i64 0] 27)).alloc (.cells #[jZ cs w8.heap.size] 59)).heap.size 1 (some ⟨w8.heap.size+1,0,none⟩) 1 [jZ cs w8.heap.size]from by
        have h:=RG (w8.alloc (.cells #[.int .i64 (nk:Int),.int .i64 0] 27)) (jZ cs w8.heap.size) 59
        rw[World.size_alloc w8]at h
        exact h)
       have fM:=hide (fun(v5:Value) (w9:World) (hown5:w9.ownsRow (NB+1) 59 1 v5 (fs.length+1) (fs++[jZ cs w8.heap.size])) (hg5:((w8.alloc (.cells #[.int .i64 (nk:Int),.int .i64 0] 27)).alloc (.cells #[jZ cs w8.heap.size] 59)).grownBy w9 u12.ownBlock)=>(WB.out (.cells #[jZ cs w8.heap.size] 59)).push KL.out kR.out (fun q hq=>by
        obtain rfl:=Option.some.inj (hq.symm.trans HR.out)
        exact HA9.out) (HKb.out _) hown5 hg5)
       have HOW:=hide (WB.out (.cells #[jZ cs w8.heap.size] 59)).own
       have jM:=hide (show NB+1≤((w8.alloc (.cells #[.int .i64 (nk:Int),.int .i64 0] 27)).alloc (.cells #[jZ cs w8.heap.size] 59)).heap.size from(WB.out (.cells #[jZ cs w8.heap.size] 59)).nt.lt)
       obtain rfl:f=0:=Al.out.2 (.inl KL.out)
       clear kR WB HKb HA9 HR Al HQ
       unfold jZ at*
       go_wp2_with (at_builtin;refine aT _ rfl (.tmp 87) (.tmp 89) 52 rfl (NB+1) 59 tZ _ 1 8 Tryz.underlying52 hi0 hz0 hz1 hz2 rfl (by omega) u12 fs.length fs rfl HOW.out _ (some ⟨w8.heap.size+1,0,none⟩) 1 1 [.func (.func 20) #[] #[.pointer (some ⟨cs,0,none⟩),.pointer (some ⟨w8.heap.size,0,none⟩)]] rfl fG.out (by intro u hu;simp at hu;subst hu;rfl) (by simp only[maxLen];omega) (by omega) jM.out ?_;intro v5 w9 hown5 hg5 iD;have oG:=hide (fM.out v5 w9 hown5 hg5);clear hown5 hg5 iD)
       go_roundw
       case rel=>exact⟨k+1,0,_,by omega,by go_num,rfl,oG,hide ⟨fun h=>absurd h KL.out,fun _=>rfl⟩⟩
       case measure=>simp[intOf];omega
open Go.ChangeAt Go.ChangeShapes Go.WideShapes
theorem FQ (os:Os) (started:os.Started) (H:Type) (enc:TypeId×Value→H):
  ReturnsInHanded {} Tryz.checked os 4 .any (Rows.differAtSpec.pre6 enc Tryz.prog Tryz.f4 Rows.differAtRow.domain false) (Rows.differAtSpec.post enc Tryz.prog Tryz.f4 false true false false):=
 Nf (C:=Tryz.checked) (tb:=4) Tryz.own started (by kernel_rfl) Tryz.func4 Tryz.laidOut (by kernel_rfl) rfl (by kernel_rfl) Tryz.underlying4
  (fun ds h=>by
   match ds,h with
   |[_,_,_,_],_=>exact⟨rfl,rfl,rfl⟩)
  (ChangeSpec.witness6 (enc:=enc) (C:=Tryz.checked) false ⟨#[],#[.agg #[.slice none 0 0,.slice none 0 0],.agg #[.slice none 0 0,.slice none 0 0],.string ⟨#[]⟩,.int .i64 0],[]⟩ 8 (by kernel_rfl) (by kernel_rfl) (by kernel_rfl) (by kernel_rfl))
  (fun W base args ds p hval0 hA0 hlt hsz=>by
   have hval:∀(j:Nat) t v,Tryz.f4.params[j]?=some t→args[j]?=some v→Value.okWide Tryz.prog W .any base t v:=hval0
   have hA:DataW.TrodAll enc Tryz.prog W 0 (fun _=>true) true Tryz.f4.params.toList args.toList ds p:=hA0
   rw[Tryz.params4]at hA hval
   obtain⟨v0,vs0,d0,ds0,p0,q0,hargs,rfl,rfl,h0,r0⟩:=xE hA
   obtain⟨v1,vs1,d1,ds1,p1,q1,rfl,rfl,rfl,h1,r1⟩:=xE r0
   obtain⟨v2,vs2,d2,ds2,p2,q2,rfl,rfl,rfl,h2,r2⟩:=xE r1
   obtain⟨v3,vs3,d3,ds3,p3,q3,rfl,rfl,rfl,h3,r3⟩:=xE r2
   obtain⟨rfl,rfl,rfl⟩:=R4 r3
   obtain rfl:args=#[v0,v1,v2,v3]:=Pm hargs
   obtain⟨n0,hn0,rfl⟩:=KM (hval 0 _ v0 rfl rfl) h0
   obtain⟨n1,hn1,rfl⟩:=KM (hval 1 _ v1 rfl rfl) h1
   obtain⟨s2,rfl⟩:=okWide_string Tryz.underlying9 (hval 2 _ v2 rfl rfl)
   obtain⟨x3,rfl,hx3⟩:=Tg (hval 3 _ v3 rfl rfl) h3
   exact D9 n0 n1 s2 x3 W hn0 hn1 hx3)
theorem differAt_holds:Rows.DifferAtSaid:=
 OpenClaim.holds_of_wide 4 Tryz.f4 rfl rfl rfl rfl rfl rfl rfl ⟨rfl,rfl,rfl,rfl,rfl⟩ rfl rfl rfl rfl rfl (by kernel_rfl) Tryz.func4 (by kernel_rfl)
  (of_decide_eq_true (by kernel_rfl)) (by unfold Func.isWrapper;first | (rw[if_pos (by decide+kernel)];kernel_rfl) | (rw[if_neg (by decide+kernel)];exact⟨rfl,rfl⟩))
  (fun os started H enc _=>FQ os started H enc)
end Go.Proofs.YtifkacnoiocebaaGreat
