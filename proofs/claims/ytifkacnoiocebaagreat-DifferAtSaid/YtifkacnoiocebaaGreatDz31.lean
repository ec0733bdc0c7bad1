/- A part of the proof: Sp10. -/
import Derived.Test.YtifkacnoiocebaaGreatDz29
set_option linter.unusedVariables false
set_option linter.unusedSimpArgs false
set_option maxRecDepth 100000
set_option maxHeartbeats 16000000
namespace Go.Proofs.YtifkacnoiocebaaGreat
open Go.Maps Go.RowKit Go.WideElems
theorem TR (E:SE) (hE:E.Ok) (w:World) (Dn:aB→Nat→Prop) (h:SP E Dn w) (i:Nat) (d:ak) (hd:E.n.ds[i]?=some d) (hok:fU d.dev) (nU:∀p:Nat,(p:Int)<aN d.kind→E.D ((i:Int),(p:Int))) (hkd:d.kind=3):
  Calls Tryz.prog 34 #[.pointer (some ⟨E.s,0,none⟩),.agg #[.slice E.n.dA E.n.dn E.n.dc,.slice E.n.lA E.n.ln E.n.lc],.int .i64 (i:Int),.int .i64 (E.k:Int),.func (.func 32) #[] #[.pointer (some ⟨E.nA,0,none⟩),.pointer (some ⟨E.pS,0,none⟩),.pointer (some ⟨E.kA,0,none⟩),.pointer (some ⟨E.mA,0,none⟩)]] w fun e w'=>e= .returned (.tuple #[])∧SP E (iT E.n.au E.n.ls E.k i d.dev Dn) w'∧KC E.C w w':=by
 have qz:E.n.ln≤9223372036854775807:=by have:=hE.ln;have:=(h.net hE).ls.1;omega
 have HE:=hide hE
 have HS:=hide h
 have tY:=hide nU
 have iG:=h.net hE
 have hil:i<E.n.dn:=by have:=(List.getElem?_eq_some_iff.1 hd).1;have:=iG.iK;omega
 have hdl:=iG.cd
 have gF:=hide (fun(w':World) (dP:aB→Nat→Prop) (h':SP E dP w')=>show bW w' w'.heap.size d from(h'.net hE).qW d (List.mem_of_getElem? hd))
 obtain⟨db,j6,gK,hdb,_⟩:=iG.ds.2 (by omega)
 have HQ:=hide (fun(w':World) (hb:RowKit.Below w.heap.size w w')=>(fP (gK▸((h.up hE hb).net hE).ds) hd).2)
 have fI:=hide (fun(w1:World) (hb:RowKit.Below w.heap.size w w1)=>jJ E.n.dA E.n.dn E.n.dc E.n.lA E.n.ln E.n.lc E.n.ls (i:Int) 1 w1 qz (((h.up hE hb).net hE).ls))
 obtain⟨px,py,hpv⟩:=pV (aD E.n.ls ((i:Int),1))
 simp only[hpv]at fI
 have fK:=hide hok
 have oO:=hide hd
 have HB1:=hide (fun(o:Obj)=>below_alloc2 w o)
 have HB2:=hide (fun(o o':Obj)=>show RowKit.Below w.heap.size w ((w.alloc o).alloc o')from(below_alloc2 w o).trans ((below_alloc2 (w.alloc o) o').mono (below_alloc2 w o).size))
 rw[gK]at fI ⊢
 have Ku:=hide gK
 have hdn:E.n.dn≤maxLen:=by omega
 have GK:=hide hdl
 clear h hE nU iG hd hok hdb hpv gK hdl
 obtain⟨nm,kd,ad,pl,bA,bn,bc,bs,rA,rn,rc,rs,tA,tn,tc,ts⟩:=d
 simp only at hkd HQ
 subst hkd
 have q0:=fun o=>(HQ.out _ (HB1.out o)).1
 have q1:=fun o=>(HQ.out _ (HB1.out o)).2.1
 have q2:=fun o=>(HQ.out _ (HB1.out o)).2.2.1
 have q3:=fun o=>(HQ.out _ (HB1.out o)).2.2.2.1
 have q4:=fun o=>(HQ.out _ (HB1.out o)).2.2.2.2.1
 have q5:=fun o=>(HQ.out _ (HB1.out o)).2.2.2.2.2.1
 have q6:=fun o=>(HQ.out _ (HB1.out o)).2.2.2.2.2.2
 obtain⟨opn,kL⟩:∃opn,(aD E.n.ls ((i:Int),1)).isSome =opn:=⟨_,rfl⟩
 rw[kL]at fI
 have zi:=hide kL
 clear kL
 go_enter Tryz.func34,Tryz.ntmps34
 go_wp2_with fail
 clear q0 q1 q2 q3 q4 q5 q6
 obtain⟨cs,hcs⟩:∃cs:Array Value,#[.string nm,.int .i64 3,.int .i64 ad,.int .u8 pl,.slice bA bn bc,.slice rA rn rc,.slice tA tn tc]=cs:=⟨_,rfl⟩
 have bL:=hide (show cs[1]?=some (.int .i64 3)∧cs[2]?=some (.int .i64 ad)∧cs[3]?=some (.int .u8 pl)∧cs[4]?=some (.slice bA bn bc)∧cs[5]?=some (.slice rA rn rc)∧cs[6]?=some (.slice tA tn tc)∧cs[0]?=some (.string nm)from by rw[← hcs];exact⟨rfl,rfl,rfl,rfl,rfl,rfl,rfl⟩)
 try simp only[hcs]
 have uj:=hide hcs
 clear hcs
 have HD0:=hide (show DW E w (w.heap.size+1) cs Dn ((w.alloc (.cells #[.slice (some ⟨db,j6,none⟩) E.n.dn E.n.dc,.slice E.n.lA E.n.ln E.n.lc] 25)).alloc (.cells cs 81))from
  ⟨HS.out.up HE.out (HB2.out _ _),KC.of_below (HB2.out _ _),by
   have:=Bx.new (w.alloc (.cells #[.slice (some ⟨db,j6,none⟩) E.n.dn E.n.dc,.slice E.n.lA E.n.ln E.n.lc] 25)) cs 81
   simpa using this,by have:=HS.out.sz;omega⟩)
 have kE:=hide (HB2.out (.cells #[.slice (some ⟨db,j6,none⟩) E.n.dn E.n.dc,.slice E.n.lA E.n.ln E.n.lc] 25) (.cells cs 81))
 generalize World.alloc (World.alloc w _) _=w2 at*
 refine(fI.out _ kE.out).mono ?_
 clear fI
 rintro en w3 ⟨rfl,hb3⟩
 have HD3:=hide (HD0.out.below HE.out hb3)
 clear hb3 HD0 kE HQ HB1 HB2
 go_wp2_with fail
 have HD2:=hide (HD3.out.below HE.out (below_alloc2 w3 (.cells #[.int .i64 px,.int .i64 py] 27)))
 clear HD3
 generalize World.alloc w3 _=w4 at*
 obtain⟨Dd,vw⟩:∃Dd,w.heap.size+1=Dd:=⟨_,rfl⟩
 rw[vw]at HD2 ⊢
 have jd:=hide (show w.heap.size≤Dd from by omega)
 clear vw
 obtain⟨WS,hWS⟩:∃WS:Nat→Nat→Bool,(fun(q c:Nat)=>iC E.n.au E.n.ls E.k ((i:Int),(q:Int)) c)=WS:=⟨_,rfl⟩
 have o7:=hide (fun(wr:World) (dP:aB→Nat→Prop) (p c:Nat) (hp:(p:Int)<aN 3) (hc:c<16384) (h:SP E dP wr)=>show Calls Tryz.prog 64 #[.pointer (some ⟨E.s,0,none⟩),.int .i64 i,.int .i64 (p:Int),.int .i64 (c:Int),.int .i64 (E.k:Int)] wr (fun e w'=>e= .returned (.bool (WS p c))∧wr=w')from by
  have:=xg E HE.out wr dP h i p (tY.out p hp) c hc
  rw[← hWS]
  exact this)
 obtain⟨TS,o8⟩:∃TS,Tp (ak.dev ⟨nm,3,ad,pl,bA,bn,bc,bs,rA,rn,rc,rs,tA,tn,tc,ts⟩) opn WS=TS:=⟨_,rfl⟩
 have vv:=hide o8
 have BQ:=hide (fun(x:aB) (c:Nat) (hc:c<16384)=>show aP E.n.ls i WS TS Dn 2 0 x c↔iT E.n.au E.n.ls E.k i (ak.dev ⟨nm,3,ad,pl,bA,bn,bc,bs,rA,rn,rc,rs,tA,tn,tc,ts⟩) Dn x c from by
  rw[← o8,← hWS,← zi.out]
  exact aP.told fK.out (P:=2) (by rfl) x c hc)
 have MP:=hide (fun(p c:Nat)=>show WS p c=iC E.n.au E.n.ls E.k ((i:Int),(p:Int)) c from by rw[← hWS])
 clear hWS o8
 go_loopw [14] (fun iv wr=>iv= .int .i64 0∧Hid (DW E w Dd cs Dn wr)) (fun _ _=>0)
 case atStart=>exact⟨rfl,HD2⟩
 case round=>
  clear HD2
  obtain⟨rfl,HD1⟩:=hrel
  have d1:wr.cell? ⟨Dd,1,none⟩=some (.int .i64 3):=HD1.out.bx.get 1 _ bL.out.1
  go_wp2_with fail
  clear d1
  go_loopw [17] (fun iv wr=>∃p:Nat,p≤2∧iv= .int .i64 (p:Int)∧Hid (DW E w Dd cs (aP E.n.ls i WS TS Dn p 0) wr)) (fun iv _=>2 - (intOf iv).toNat)
  case atStart=>exact⟨0,by omega,rfl,hide (HD1.out.congr (fun x c _=>aP.zero x c))⟩
  case round=>
   clear HD1
   obtain⟨p,hp,rfl,HD⟩:=hrel
   have mW:=hide (iI 3 wr)
   rw[show aN 3=2 from rfl]at mW
   have d1:wr.cell? ⟨Dd,1,none⟩=some (.int .i64 3):=HD.out.bx.get 1 _ bL.out.1
   go_wp2_with fail
   refine mW.out.mono ?_
   clear mW d1
   rintro e w3 ⟨rfl,hb⟩
   have HD3:=hide (HD.out.below HE.out hb)
   clear hb HD
   by_cases hpl:p<2
   case neg=>
    obtain rfl:p=2:=by omega
    go_wp2
    go_end0
    exact⟨rfl,HD3.out.sp.congr (fun x c hc=>BQ.out x c hc),HD3.out.kc⟩
   case pos=>
    rcases(by omega:p=0∨p=1)with rfl | rfl
    ·as_aux_lemma=>
      go_wp2_with fail
      try simp only[Int.natCast_zero,Int.cast_ofNat_Int]
      go_loopw [18] (fun cv wr=>∃c:Nat,c≤16384∧cv= .int .i64 (c:Int)∧Hid (DW E w Dd cs (aP E.n.ls i WS TS Dn 0 c) wr)) (fun cv _=>16384 - (intOf cv).toNat)
      case atStart=>exact⟨0,by omega,rfl,HD3⟩
      case round=>
       clear HD3
       obtain⟨c,hc,rfl,HD⟩:=hrel
       by_cases hcl:c<16384
       case neg=>
        obtain rfl:c=16384:=by omega
        go_wp2
        go_roundw
        case rel=>exact⟨0+1,by omega,by go_num,hide (HD.out.congr (fun x c _=>aP.row x c))⟩
        case measure=>first | (simp[intOf];done) | (simp[intOf];omega)
       case pos=>
        have dY:=hide (show Calls Tryz.prog 64 #[.pointer (some ⟨E.s,0,none⟩),.int .i64 i,.int .i64 0,.int .i64 (c:Int),.int .i64 (E.k:Int)] wr (fun e w'=>e= .returned (.bool (WS 0 c))∧wr=w')from o7.out wr _ 0 c (by rw[show aN 3=2 from rfl];decide) hcl HD.out.sp)
        obtain⟨B,hB⟩:∃B,WS 0 c=B:=⟨_,rfl⟩
        rw[hB]at dY
        have jI:=hide hB
        clear hB
        go_wp2_with fail
        refine dY.out.mono ?_
        clear dY
        rintro e w4 ⟨rfl,rfl⟩
        cases B
        case false=>
         go_wp2
         go_roundw
         case rel=>exact⟨c+1,by omega,by go_num,hide (HD.out.congr (fun x c _=>aP.no jI.out x c))⟩
         case measure=>simp[intOf];omega
        case true=>
         have iE:=hide (iF wr c hcl)
         go_wp2_with fail
         refine iE.out.mono ?_
         clear iE
         rintro e w4 ⟨rfl,hb⟩
         have HD4:=hide (HD.out.below HE.out hb)
         have Fx:=hide hb.size
         clear hb HD
         simp only[fQ]
         obtain⟨a,ha⟩:∃a,c / 1024=a:=⟨_,rfl⟩
         obtain⟨b,hb⟩:∃b,c / 64 % 16=b:=⟨_,rfl⟩
         obtain⟨s,hs⟩:∃s,c / 8 % 8=s:=⟨_,rfl⟩
         obtain⟨t,ht⟩:∃t,c % 8=t:=⟨_,rfl⟩
         have HF:=hide (show dW a b s t∧ay a b s t=c from by have:=jA hcl;rw[ha,hb,hs,ht]at this;exact this)
         rw[ha,hb,hs,ht]
         have kQ:=hide (And.intro ha (And.intro hb (And.intro hs ht)))
         clear ha hb hs ht
         have d1:∀o,(w4.alloc o).cell? ⟨Dd,1,none⟩=some (.int .i64 3):=fun o=>(HD4.out.below HE.out (below_alloc2 w4 o)).bx.get 1 _ bL.out.1
         have d2:∀o,(w4.alloc o).cell? ⟨Dd,2,none⟩=some (.int .i64 ad):=fun o=>(HD4.out.below HE.out (below_alloc2 w4 o)).bx.get 2 _ bL.out.2.1
         have d3:∀o,(w4.alloc o).cell? ⟨Dd,3,none⟩=some (.int .u8 pl):=fun o=>(HD4.out.below HE.out (below_alloc2 w4 o)).bx.get 3 _ bL.out.2.2.1
         have d5:∀o,(w4.alloc o).cell? ⟨Dd,5,none⟩=some (.slice rA rn rc):=fun o=>(HD4.out.below HE.out (below_alloc2 w4 o)).bx.get 5 _ bL.out.2.2.2.2.1
         have d6:∀o,(w4.alloc o).cell? ⟨Dd,6,none⟩=some (.slice tA tn tc):=fun o=>(HD4.out.below HE.out (below_alloc2 w4 o)).bx.get 6 _ bL.out.2.2.2.2.2.1
         go_wp2_with fail
         clear d1 d2 d3 d5 d6
         have HD5:=hide (HD4.out.below HE.out (below_alloc2 w4 (.cells #[.int .i64 (a:Int),.int .i64 (b:Int),.int .i64 (s:Int),.int .i64 (t:Int)] 29)))
         have bS:=hide (Bx.new w4 #[.int .i64 (a:Int),.int .i64 (b:Int),.int .i64 (s:Int),.int .i64 (t:Int)] 29)
         have Az:=hide (show E.N≤w4.heap.size∧w.heap.size≤w4.heap.size from⟨HD4.out.sp.sz,HD4.out.kc.size⟩)
         clear HD4
         generalize World.alloc w4 _=w5 at*
         generalize w4.heap.size=Q at*
         have mE:=gF.out w5 _ HD5.out.sp
         have Am:=hide (yu rs rA rn rc ⟨(a:Int),(b:Int),(s:Int),(t:Int)⟩ w5 (by have:=mE.cr;simp only[maxLen]at this;omega) mE.rs)
         clear mE
         have HO:=hide (show∀o c',TS 0 c o c'↔(iY rs ⟨(a:Int),(b:Int),(s:Int),(t:Int)⟩=true∧o=1∧c'=c)from fun o c'=>by
          rw[← vv.out,Wd rfl]
          unfold MN
          rw[OD kQ.out.1 kQ.out.2.1 kQ.out.2.2.1 kQ.out.2.2.2]
          exact⟨fun h=>h.elim (fun h=>h.2) (fun h=>absurd h.1 (by decide)),fun h=>.inl ⟨rfl,h⟩⟩)
         obtain⟨LB,zk⟩:∃LB,iY rs ⟨(a:Int),(b:Int),(s:Int),(t:Int)⟩=LB:=⟨_,rfl⟩
         simp only[zk]at Am HO
         clear zk
         refine Am.out.mono ?_
         clear Am
         rintro e w6 ⟨rfl,hb⟩
         have HD6:=hide (HD5.out.below HE.out hb)
         have gq:=hide (bS.out.below hb)
         clear hb HD5 bS
         have x0:w6.cell? ⟨Q,0,none⟩=some (.int .i64 (a:Int)):=gq.out.get 0 _ rfl
         have x1:w6.cell? ⟨Q,1,none⟩=some (.int .i64 (b:Int)):=gq.out.get 1 _ rfl
         have x2:w6.cell? ⟨Q,2,none⟩=some (.int .i64 (s:Int)):=gq.out.get 2 _ rfl
         have x3:w6.cell? ⟨Q,3,none⟩=some (.int .i64 (t:Int)):=gq.out.get 3 _ rfl
         cases LB
         case false=>
          have HD7:=hide (HD6.out.congr (fun x c' _=>aP.none_ jI.out hcl (fun o c' h=>by have:=((HO.out o c').1 h).1;cases this) x c'))
          clear HD6
          go_wp2_with fail
          clear x0 x1 x2 x3
          refine(Ac (a:Int) (b:Int) (s:Int) (t:Int) w6).mono ?_
          rintro e w8 ⟨rfl,hb⟩
          have sD:=hide (HD7.out.below HE.out (hb.alloc hb.size (.cells #[.int .i64 (b:Int),.int .i64 (a:Int),.int .i64 (t:Int),.int .i64 (s:Int)] 29)))
          clear hb
          go_wp2_with fail
          go_roundw
          case rel=>exact⟨c+1,by omega,by go_num,sD⟩
          case measure=>simp[intOf];omega
         case true=>
          have fM:=hide (tK E HE.out w6 _ HD6.out.sp (i:Int) ((1:Nat):Int) a b s t HF.out.1)
          simp only[Int.cast_ofNat_Int]at fM
          go_wp2_with fail
          clear x0 x1 x2 x3
          refine fM.out.mono ?_
          clear fM
          rintro e w7 ⟨rfl,hsp,hkc⟩
          rw[HF.out.2]at hsp
          have HD7:=hide ((HD6.out.put HE.out hsp hkc).congr (fun x c' _=>aP.one jI.out hcl (o0:=1) (fun o c'=>by rw[HO.out o c'];simp) x c'))
          have lU:=hide (gq.out.kc hkc (DW.Ab HE.out Az.out.1))
          clear hsp hkc HD6 gq
          have x0:w7.cell? ⟨Q,0,none⟩=some (.int .i64 (a:Int)):=lU.out.get 0 _ rfl
          have x1:w7.cell? ⟨Q,1,none⟩=some (.int .i64 (b:Int)):=lU.out.get 1 _ rfl
          have x2:w7.cell? ⟨Q,2,none⟩=some (.int .i64 (s:Int)):=lU.out.get 2 _ rfl
          have x3:w7.cell? ⟨Q,3,none⟩=some (.int .i64 (t:Int)):=lU.out.get 3 _ rfl
          go_wp2_with fail
          clear x0 x1 x2 x3
          refine(Ac (a:Int) (b:Int) (s:Int) (t:Int) w7).mono ?_
          rintro e w8 ⟨rfl,hb⟩
          have sD:=hide (HD7.out.below HE.out (hb.alloc hb.size (.cells #[.int .i64 (b:Int),.int .i64 (a:Int),.int .i64 (t:Int),.int .i64 (s:Int)] 29)))
          clear hb
          go_wp2_with fail
          go_roundw
          case rel=>exact⟨c+1,by omega,by go_num,sD⟩
          case measure=>simp[intOf];omega
    ·as_aux_lemma=>
      go_wp2_with fail
      try simp only[Int.natCast_zero,Int.cast_ofNat_Int]
      go_loopw [18] (fun cv wr=>∃c:Nat,c≤16384∧cv= .int .i64 (c:Int)∧Hid (DW E w Dd cs (aP E.n.ls i WS TS Dn 1 c) wr)) (fun cv _=>16384 - (intOf cv).toNat)
      case atStart=>exact⟨0,by omega,rfl,HD3⟩
      case round=>
       clear HD3
       obtain⟨c,hc,rfl,HD⟩:=hrel
       by_cases hcl:c<16384
       case neg=>
        obtain rfl:c=16384:=by omega
        go_wp2
        go_roundw
        case rel=>exact⟨1+1,by omega,by go_num,hide (HD.out.congr (fun x c _=>aP.row x c))⟩
        case measure=>first | (simp[intOf];done) | (simp[intOf];omega)
       case pos=>
        have dY:=hide (show Calls Tryz.prog 64 #[.pointer (some ⟨E.s,0,none⟩),.int .i64 i,.int .i64 1,.int .i64 (c:Int),.int .i64 (E.k:Int)] wr (fun e w'=>e= .returned (.bool (WS 1 c))∧wr=w')from o7.out wr _ 1 c (by rw[show aN 3=2 from rfl];decide) hcl HD.out.sp)
        obtain⟨B,hB⟩:∃B,WS 1 c=B:=⟨_,rfl⟩
        rw[hB]at dY
        have jI:=hide hB
        clear hB
        go_wp2_with fail
        refine dY.out.mono ?_
        clear dY
        rintro e w4 ⟨rfl,rfl⟩
        cases B
        case false=>
         go_wp2
         go_roundw
         case rel=>exact⟨c+1,by omega,by go_num,hide (HD.out.congr (fun x c _=>aP.no jI.out x c))⟩
         case measure=>simp[intOf];omega
        case true=>
         have iE:=hide (iF wr c hcl)
         go_wp2_with fail
         refine iE.out.mono ?_
         clear iE
         rintro e w4 ⟨rfl,hb⟩
         have HD4:=hide (HD.out.below HE.out hb)
         have Fx:=hide hb.size
         clear hb HD
         simp only[fQ]
         obtain⟨a,ha⟩:∃a,c / 1024=a:=⟨_,rfl⟩
         obtain⟨b,hb⟩:∃b,c / 64 % 16=b:=⟨_,rfl⟩
         obtain⟨s,hs⟩:∃s,c / 8 % 8=s:=⟨_,rfl⟩
         obtain⟨t,ht⟩:∃t,c % 8=t:=⟨_,rfl⟩
         have HF:=hide (show dW a b s t∧ay a b s t=c from by have:=jA hcl;rw[ha,hb,hs,ht]at this;exact this)
         rw[ha,hb,hs,ht]
         have kQ:=hide (And.intro ha (And.intro hb (And.intro hs ht)))
         clear ha hb hs ht
         have d1:∀o,(w4.alloc o).cell? ⟨Dd,1,none⟩=some (.int .i64 3):=fun o=>(HD4.out.below HE.out (below_alloc2 w4 o)).bx.get 1 _ bL.out.1
         have d2:∀o,(w4.alloc o).cell? ⟨Dd,2,none⟩=some (.int .i64 ad):=fun o=>(HD4.out.below HE.out (below_alloc2 w4 o)).bx.get 2 _ bL.out.2.1
         have d3:∀o,(w4.alloc o).cell? ⟨Dd,3,none⟩=some (.int .u8 pl):=fun o=>(HD4.out.below HE.out (below_alloc2 w4 o)).bx.get 3 _ bL.out.2.2.1
         have d5:∀o,(w4.alloc o).cell? ⟨Dd,5,none⟩=some (.slice rA rn rc):=fun o=>(HD4.out.below HE.out (below_alloc2 w4 o)).bx.get 5 _ bL.out.2.2.2.2.1
         have d6:∀o,(w4.alloc o).cell? ⟨Dd,6,none⟩=some (.slice tA tn tc):=fun o=>(HD4.out.below HE.out (below_alloc2 w4 o)).bx.get 6 _ bL.out.2.2.2.2.2.1
         go_wp2_with fail
         clear d1 d2 d3 d5 d6
         have HD5:=hide (HD4.out.below HE.out (below_alloc2 w4 (.cells #[.int .i64 (a:Int),.int .i64 (b:Int),.int .i64 (s:Int),.int .i64 (t:Int)] 29)))
         have bS:=hide (Bx.new w4 #[.int .i64 (a:Int),.int .i64 (b:Int),.int .i64 (s:Int),.int .i64 (t:Int)] 29)
         have Az:=hide (show E.N≤w4.heap.size∧w.heap.size≤w4.heap.size from⟨HD4.out.sp.sz,HD4.out.kc.size⟩)
         clear HD4
         generalize World.alloc w4 _=w5 at*
         generalize w4.heap.size=Q at*
         have ni:=hide (show dW b a t s from⟨HF.out.1.b,HF.out.1.a,HF.out.1.d,HF.out.1.s⟩)
         have HO:=hide (show∀o c',TS 1 c o c'↔(opn=true∧WS 0 (ay b a t s)=true∧iY rs ⟨(b:Int),(a:Int),(t:Int),(s:Int)⟩=true∧o=0∧c'=c)from fun o c'=>by
          rw[← vv.out,Wd rfl]
          unfold MN
          have e:Cx c=ay b a t s:=by unfold Cx;rw[kQ.out.1,kQ.out.2.1,kQ.out.2.2.1,kQ.out.2.2.2]
          obtain⟨p1,p2,p3,p4⟩:=ni.out.parts
          rw[e,OD p1 p2 p3 p4]
          exact⟨fun h=>h.elim (fun h=>absurd h.1 (by decide)) (fun h=>h.2),fun h=>.inr ⟨rfl,h⟩⟩)
         refine(Ac (a:Int) (b:Int) (s:Int) (t:Int) w5).mono ?_
         rintro e w6 ⟨rfl,hb⟩
         have HD6:=hide (HD5.out.below HE.out (hb.alloc hb.size (.cells #[.int .i64 (b:Int),.int .i64 (a:Int),.int .i64 (t:Int),.int .i64 (s:Int)] 29)))
         have gq:=hide (bS.out.below (hb.alloc hb.size (.cells #[.int .i64 (b:Int),.int .i64 (a:Int),.int .i64 (t:Int),.int .i64 (s:Int)] 29)))
         have HY6:=hide (Bx.new w6 #[.int .i64 (b:Int),.int .i64 (a:Int),.int .i64 (t:Int),.int .i64 (s:Int)] 29)
         clear hb HD5 bS
         cases opn
         case false=>
          have HD7:=hide (HD6.out.congr (fun x c' _=>aP.none_ jI.out hcl (fun o c' h=>by have:=((HO.out o c').1 h).1;cases this) x c'))
          clear HD6
          go_wp2_with fail
          go_roundw
          case rel=>exact⟨c+1,by omega,by go_num,HD7⟩
          case measure=>simp[intOf];omega
         case true=>
          go_wp2_with fail
          generalize World.alloc w6 _=w7 at*
          generalize w6.heap.size=R at*
          have hco:=tH b a t s ni.out.a ni.out.b ni.out.s ni.out.d w7
          refine hco.mono ?_
          clear hco
          rintro e w8 ⟨rfl,hb⟩
          have sD:=hide (HD6.out.below HE.out hb)
          have rY:=hide (gq.out.below hb)
          have CR:=hide (HY6.out.below hb)
          clear hb HD6 gq HY6
          have dY:=hide (show Calls Tryz.prog 64 #[.pointer (some ⟨E.s,0,none⟩),.int .i64 i,.int .i64 0,.int .i64 ((ay b a t s:Nat):Int),.int .i64 (E.k:Int)] w8 (fun e w'=>e= .returned (.bool (WS 0 (ay b a t s)))∧w8=w')from o7.out w8 _ 0 (ay b a t s) (by rw[show aN 3=2 from rfl];decide) ni.out.lt sD.out.sp)
          unfold ay at dY
          obtain⟨B2,hB⟩:∃B2,WS 0 (ay b a t s)=B2:=⟨_,rfl⟩
          have hB2:=hB
          unfold ay at hB2
          simp only[hB2]at dY
          simp only[hB]at HO
          clear hB hB2
          go_wp2_with fail
          refine dY.out.mono ?_
          clear dY
          rintro e w9 ⟨rfl,rfl⟩
          cases B2
          case false=>
           have HD7:=hide (sD.out.congr (fun x c' _=>aP.none_ jI.out hcl (fun o c' h=>by have:=((HO.out o c').1 h).2.1;cases this) x c'))
           go_wp2_with fail
           go_roundw
           case rel=>exact⟨c+1,by omega,by go_num,HD7⟩
           case measure=>simp[intOf];omega
          case true=>
           have mE:=gF.out w8 _ sD.out.sp
           have Am:=hide (yu rs rA rn rc ⟨(b:Int),(a:Int),(t:Int),(s:Int)⟩ w8 (by have:=mE.cr;simp only[maxLen]at this;omega) mE.rs)
           clear mE
           obtain⟨LB,zk⟩:∃LB,iY rs ⟨(b:Int),(a:Int),(t:Int),(s:Int)⟩=LB:=⟨_,rfl⟩
           simp only[zk]at Am HO
           clear zk
           have d5:w8.cell? ⟨Dd,5,none⟩=some (.slice rA rn rc):=sD.out.bx.get 5 _ bL.out.2.2.2.2.1
           have x0:w8.cell? ⟨R,0,none⟩=some (.int .i64 (b:Int)):=CR.out.get 0 _ rfl
           have x1:w8.cell? ⟨R,1,none⟩=some (.int .i64 (a:Int)):=CR.out.get 1 _ rfl
           have x2:w8.cell? ⟨R,2,none⟩=some (.int .i64 (t:Int)):=CR.out.get 2 _ rfl
           have x3:w8.cell? ⟨R,3,none⟩=some (.int .i64 (s:Int)):=CR.out.get 3 _ rfl
           go_wp2_with fail
           clear x0 x1 x2 x3 d5
           refine Am.out.mono ?_
           clear Am
           rintro e w9 ⟨rfl,hb⟩
           have Wm:=hide (sD.out.below HE.out hb)
           have qb:=hide (rY.out.below hb)
           clear hb sD rY CR
           cases LB
           case false=>
            have HD7:=hide (Wm.out.congr (fun x c' _=>aP.none_ jI.out hcl (fun o c' h=>by have:=((HO.out o c').1 h).2.2.1;cases this) x c'))
            go_wp2_with fail
            go_roundw
            case rel=>exact⟨c+1,by omega,by go_num,HD7⟩
            case measure=>simp[intOf];omega
           case true=>
            have fM:=hide (tK E HE.out w9 _ Wm.out.sp (i:Int) ((0:Nat):Int) a b s t HF.out.1)
            simp only[Int.natCast_zero]at fM
            have x0:w9.cell? ⟨Q,0,none⟩=some (.int .i64 (a:Int)):=qb.out.get 0 _ rfl
            have x1:w9.cell? ⟨Q,1,none⟩=some (.int .i64 (b:Int)):=qb.out.get 1 _ rfl
            have x2:w9.cell? ⟨Q,2,none⟩=some (.int .i64 (s:Int)):=qb.out.get 2 _ rfl
            have x3:w9.cell? ⟨Q,3,none⟩=some (.int .i64 (t:Int)):=qb.out.get 3 _ rfl
            go_wp2_with fail
            clear x0 x1 x2 x3
            refine fM.out.mono ?_
            clear fM
            rintro e w7 ⟨rfl,hsp,hkc⟩
            rw[HF.out.2]at hsp
            have HD7:=hide ((Wm.out.put HE.out hsp hkc).congr (fun x c' _=>aP.one jI.out hcl (o0:=0) (fun o c'=>by rw[HO.out o c'];simp) x c'))
            clear hsp hkc Wm qb
            go_wp2_with fail
            go_roundw
            case rel=>exact⟨c+1,by omega,by go_num,HD7⟩
            case measure=>simp[intOf];omega
end Go.Proofs.YtifkacnoiocebaaGreat
