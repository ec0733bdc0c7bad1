/- A part of the proof: Sp12, Sp13. -/
import Derived.Test.YtifkacnoiocebaaGreatDz32
set_option linter.unusedVariables false
set_option linter.unusedSimpArgs false
set_option maxRecDepth 100000
set_option maxHeartbeats 16000000
namespace Go.Proofs.YtifkacnoiocebaaGreat
open Go.Maps Go.RowKit Go.WideElems
theorem Xw (E:SE) (hE:E.Ok) (w:World) (Dn:aB→Nat→Prop) (h:SP E Dn w) (i:Nat) (d:ak) (hd:E.n.ds[i]?=some d) (hok:fU d.dev) (nU:∀p:Nat,(p:Int)<aN d.kind→E.D ((i:Int),(p:Int))) (hkd:d.kind=5):
  Calls Tryz.prog 34 #[.pointer (some ⟨E.s,0,none⟩),.agg #[.slice E.n.dA E.n.dn E.n.dc,.slice E.n.lA E.n.ln E.n.lc],.int .i64 (i:Int),.int .i64 (E.k:Int),.func (.func 32) #[] #[.pointer (some ⟨E.nA,0,none⟩),.pointer (some ⟨E.pS,0,none⟩),.pointer (some ⟨E.kA,0,none⟩),.pointer (some ⟨E.mA,0,none⟩)]] w fun e w'=>e= .returned (.tuple #[])∧SP E (iT E.n.au E.n.ls E.k i d.dev Dn) w'∧KC E.C w w':=by
 have qz:E.n.ln≤9223372036854775807:=by have:=hE.ln;have:=(h.net hE).ls.1;omega
 have HE:=hide hE
 have HS:=hide h
 have tY:=hide nU
 have iG:=h.net hE
 have hil:i<E.n.dn:=by have:=(List.getElem?_eq_some_iff.1 hd).1;have:=iG.iK;omega
 have hdl:=iG.cd
 have gF:=hide (fun(w':World) (dP:aB→Nat→Prop) (h':SP E dP w')=>show bW w' w'.heap.size d from(h'.net hE).qW d (List.mem_of_getElem? hd))
 obtain⟨db,j6,gK,hdb,_⟩:=iG.ds.2 (by omega)
 have HQ:=hide (fun(w':World) (hb:RowKit.Below w.heap.size w w')=>(fP (gK▸((h.up hE hb).net hE).ds) hd).2)
 have fI:=hide (fun(w1:World) (hb:RowKit.Below w.heap.size w w1)=>jJ E.n.dA E.n.dn E.n.dc E.n.lA E.n.ln E.n.lc E.n.ls (i:Int) 1 w1 qz (((h.up hE hb).net hE).ls))
 obtain⟨px,py,hpv⟩:=pV (aD E.n.ls ((i:Int),1))
 simp only[hpv]at fI
 have fK:=hide hok
 have oO:=hide hd
 have HB1:=hide (fun(o:Obj)=>below_alloc2 w o)
 have HB2:=hide (fun(o o':Obj)=>show RowKit.Below w.heap.size w ((w.alloc o).alloc o')from(below_alloc2 w o).trans ((below_alloc2 (w.alloc o) o').mono (below_alloc2 w o).size))
 rw[gK]at fI ⊢
 have Ku:=hide gK
 have hdn:E.n.dn≤maxLen:=by omega
 have GK:=hide hdl
 clear h hE nU iG hd hok hdb hpv gK hdl
 obtain⟨nm,kd,ad,pl,bA,bn,bc,bs,rA,rn,rc,rs,tA,tn,tc,ts⟩:=d
 simp only at hkd HQ
 subst hkd
 have ha16:=fK.out.qA (.inr (.inr rfl))
 have sH:=fK.out.MC
 have hb3:=fK.out.bl
 simp only[ak.dev]at ha16 sH hb3
 have om:=hide (show∃an:Nat,ad=(an:Int)∧an<16 from⟨ad.toNat,by omega,by omega⟩)
 have yt:=hide (And.intro sH hb3)
 clear ha16 sH hb3
 have q0:=fun o=>(HQ.out _ (HB1.out o)).1
 have q1:=fun o=>(HQ.out _ (HB1.out o)).2.1
 have q2:=fun o=>(HQ.out _ (HB1.out o)).2.2.1
 have q3:=fun o=>(HQ.out _ (HB1.out o)).2.2.2.1
 have q4:=fun o=>(HQ.out _ (HB1.out o)).2.2.2.2.1
 have q5:=fun o=>(HQ.out _ (HB1.out o)).2.2.2.2.2.1
 have q6:=fun o=>(HQ.out _ (HB1.out o)).2.2.2.2.2.2
 obtain⟨opn,kL⟩:∃opn,(aD E.n.ls ((i:Int),1)).isSome =opn:=⟨_,rfl⟩
 rw[kL]at fI
 have zi:=hide kL
 clear kL
 go_enter Tryz.func34,Tryz.ntmps34
 go_wp2_with fail
 clear q0 q1 q2 q3 q4 q5 q6
 obtain⟨cs,hcs⟩:∃cs:Array Value,#[.string nm,.int .i64 5,.int .i64 ad,.int .u8 pl,.slice bA bn bc,.slice rA rn rc,.slice tA tn tc]=cs:=⟨_,rfl⟩
 have bL:=hide (show cs[1]?=some (.int .i64 5)∧cs[2]?=some (.int .i64 ad)∧cs[3]?=some (.int .u8 pl)∧cs[4]?=some (.slice bA bn bc)∧cs[5]?=some (.slice rA rn rc)∧cs[6]?=some (.slice tA tn tc)∧cs[0]?=some (.string nm)from by rw[← hcs];exact⟨rfl,rfl,rfl,rfl,rfl,rfl,rfl⟩)
 try simp only[hcs]
 have uj:=hide hcs
 clear hcs
 have HD0:=hide (show DW E w (w.heap.size+1) cs Dn ((w.alloc (.cells #[.slice (some ⟨db,j6,none⟩) E.n.dn E.n.dc,.slice E.n.lA E.n.ln E.n.lc] 25)).alloc (.cells cs 81))from
  ⟨HS.out.up HE.out (HB2.out _ _),KC.of_below (HB2.out _ _),by
   have:=Bx.new (w.alloc (.cells #[.slice (some ⟨db,j6,none⟩) E.n.dn E.n.dc,.slice E.n.lA E.n.ln E.n.lc] 25)) cs 81
   simpa using this,by have:=HS.out.sz;omega⟩)
 have kE:=hide (HB2.out (.cells #[.slice (some ⟨db,j6,none⟩) E.n.dn E.n.dc,.slice E.n.lA E.n.ln E.n.lc] 25) (.cells cs 81))
 generalize World.alloc (World.alloc w _) _=w2 at*
 refine(fI.out _ kE.out).mono ?_
 clear fI
 rintro en w3 ⟨rfl,hb3⟩
 have HD3:=hide (HD0.out.below HE.out hb3)
 clear hb3 HD0 kE HQ HB1 HB2
 go_wp2_with fail
 have HD2:=hide (HD3.out.below HE.out (below_alloc2 w3 (.cells #[.int .i64 px,.int .i64 py] 27)))
 clear HD3
 generalize World.alloc w3 _=w4 at*
 obtain⟨Dd,vw⟩:∃Dd,w.heap.size+1=Dd:=⟨_,rfl⟩
 rw[vw]at HD2 ⊢
 have jd:=hide (show w.heap.size≤Dd from by omega)
 clear vw
 obtain⟨WS,hWS⟩:∃WS:Nat→Nat→Bool,(fun(q c:Nat)=>iC E.n.au E.n.ls E.k ((i:Int),(q:Int)) c)=WS:=⟨_,rfl⟩
 have o7:=hide (fun(wr:World) (dP:aB→Nat→Prop) (p c:Nat) (hp:(p:Int)<aN 5) (hc:c<16384) (h:SP E dP wr)=>show Calls Tryz.prog 64 #[.pointer (some ⟨E.s,0,none⟩),.int .i64 i,.int .i64 (p:Int),.int .i64 (c:Int),.int .i64 (E.k:Int)] wr (fun e w'=>e= .returned (.bool (WS p c))∧wr=w')from by
  have:=xg E HE.out wr dP h i p (tY.out p hp) c hc
  rw[← hWS]
  exact this)
 obtain⟨TS,o8⟩:∃TS,Tp (ak.dev ⟨nm,5,ad,pl,bA,bn,bc,bs,rA,rn,rc,rs,tA,tn,tc,ts⟩) opn WS=TS:=⟨_,rfl⟩
 have vv:=hide o8
 have BQ:=hide (fun(x:aB) (c:Nat) (hc:c<16384)=>show aP E.n.ls i WS TS Dn 2 0 x c↔iT E.n.au E.n.ls E.k i (ak.dev ⟨nm,5,ad,pl,bA,bn,bc,bs,rA,rn,rc,rs,tA,tn,tc,ts⟩) Dn x c from by
  rw[← o8,← hWS,← zi.out]
  exact aP.told fK.out (P:=2) (by rfl) x c hc)
 have MP:=hide (fun(p c:Nat)=>show WS p c=iC E.n.au E.n.ls E.k ((i:Int),(p:Int)) c from by rw[← hWS])
 clear hWS o8
 go_loopw [14] (fun iv wr=>iv= .int .i64 0∧Hid (DW E w Dd cs Dn wr)) (fun _ _=>0)
 case atStart=>exact⟨rfl,HD2⟩
 case round=>
  clear HD2
  obtain⟨rfl,HD1⟩:=hrel
  have d1:wr.cell? ⟨Dd,1,none⟩=some (.int .i64 5):=HD1.out.bx.get 1 _ bL.out.1
  go_wp2_with fail
  clear d1
  go_loopw [17] (fun iv wr=>∃p:Nat,p≤2∧iv= .int .i64 (p:Int)∧Hid (DW E w Dd cs (aP E.n.ls i WS TS Dn p 0) wr)) (fun iv _=>2 - (intOf iv).toNat)
  case atStart=>exact⟨0,by omega,rfl,hide (HD1.out.congr (fun x c _=>aP.zero x c))⟩
  case round=>
   clear HD1
   obtain⟨p,hp,rfl,HD⟩:=hrel
   have mW:=hide (iI 5 wr)
   rw[show aN 5=2 from rfl]at mW
   have d1:wr.cell? ⟨Dd,1,none⟩=some (.int .i64 5):=HD.out.bx.get 1 _ bL.out.1
   go_wp2_with fail
   refine mW.out.mono ?_
   clear mW d1
   rintro e w3 ⟨rfl,hb⟩
   have HD3:=hide (HD.out.below HE.out hb)
   clear hb HD
   by_cases hpl:p<2
   case neg=>
    obtain rfl:p=2:=by omega
    go_wp2
    go_end0
    exact⟨rfl,HD3.out.sp.congr (fun x c hc=>BQ.out x c hc),HD3.out.kc⟩
   case pos=>
    rcases(by omega:p=0∨p=1)with rfl | rfl
    ·as_aux_lemma=>
      go_wp2_with fail
      try simp only[Int.natCast_zero,Int.cast_ofNat_Int]
      go_loopw [18] (fun cv wr=>∃c:Nat,c≤16384∧cv= .int .i64 (c:Int)∧Hid (DW E w Dd cs (aP E.n.ls i WS TS Dn 0 c) wr)) (fun cv _=>16384 - (intOf cv).toNat)
      case atStart=>exact⟨0,by omega,rfl,HD3⟩
      case round=>
       clear HD3
       obtain⟨c,hc,rfl,HD⟩:=hrel
       by_cases hcl:c<16384
       case neg=>
        obtain rfl:c=16384:=by omega
        go_wp2
        go_roundw
        case rel=>exact⟨0+1,by omega,by go_num,hide (HD.out.congr (fun x c _=>aP.row x c))⟩
        case measure=>first | (simp[intOf];done) | (simp[intOf];omega)
       case pos=>
        have dY:=hide (show Calls Tryz.prog 64 #[.pointer (some ⟨E.s,0,none⟩),.int .i64 i,.int .i64 0,.int .i64 (c:Int),.int .i64 (E.k:Int)] wr (fun e w'=>e= .returned (.bool (WS 0 c))∧wr=w')from o7.out wr _ 0 c (by rw[show aN 5=2 from rfl];decide) hcl HD.out.sp)
        obtain⟨B,hB⟩:∃B,WS 0 c=B:=⟨_,rfl⟩
        rw[hB]at dY
        have jI:=hide hB
        clear hB
        go_wp2_with fail
        refine dY.out.mono ?_
        clear dY
        rintro e w4 ⟨rfl,rfl⟩
        cases B
        case false=>
         go_wp2
         go_roundw
         case rel=>exact⟨c+1,by omega,by go_num,hide (HD.out.congr (fun x c _=>aP.no jI.out x c))⟩
         case measure=>simp[intOf];omega
        case true=>
         have iE:=hide (iF wr c hcl)
         go_wp2_with fail
         refine iE.out.mono ?_
         clear iE
         rintro e w4 ⟨rfl,hb⟩
         have HD4:=hide (HD.out.below HE.out hb)
         have Fx:=hide hb.size
         clear hb HD
         simp only[fQ]
         obtain⟨a,ha⟩:∃a,c / 1024=a:=⟨_,rfl⟩
         obtain⟨b,hb⟩:∃b,c / 64 % 16=b:=⟨_,rfl⟩
         obtain⟨s,hs⟩:∃s,c / 8 % 8=s:=⟨_,rfl⟩
         obtain⟨t,ht⟩:∃t,c % 8=t:=⟨_,rfl⟩
         have HF:=hide (show dW a b s t∧ay a b s t=c from by have:=jA hcl;rw[ha,hb,hs,ht]at this;exact this)
         rw[ha,hb,hs,ht]
         have kQ:=hide (And.intro ha (And.intro hb (And.intro hs ht)))
         clear ha hb hs ht
         have d1:∀o,(w4.alloc o).cell? ⟨Dd,1,none⟩=some (.int .i64 5):=fun o=>(HD4.out.below HE.out (below_alloc2 w4 o)).bx.get 1 _ bL.out.1
         have d2:∀o,(w4.alloc o).cell? ⟨Dd,2,none⟩=some (.int .i64 ad):=fun o=>(HD4.out.below HE.out (below_alloc2 w4 o)).bx.get 2 _ bL.out.2.1
         have d3:∀o,(w4.alloc o).cell? ⟨Dd,3,none⟩=some (.int .u8 pl):=fun o=>(HD4.out.below HE.out (below_alloc2 w4 o)).bx.get 3 _ bL.out.2.2.1
         have d5:∀o,(w4.alloc o).cell? ⟨Dd,5,none⟩=some (.slice rA rn rc):=fun o=>(HD4.out.below HE.out (below_alloc2 w4 o)).bx.get 5 _ bL.out.2.2.2.2.1
         have d6:∀o,(w4.alloc o).cell? ⟨Dd,6,none⟩=some (.slice tA tn tc):=fun o=>(HD4.out.below HE.out (below_alloc2 w4 o)).bx.get 6 _ bL.out.2.2.2.2.2.1
         have d0:∀o,(w4.alloc o).cell? ⟨Dd,0,none⟩=some (.string nm):=fun o=>(HD4.out.below HE.out (below_alloc2 w4 o)).bx.get 0 _ bL.out.2.2.2.2.2.2
         have d4:∀o,(w4.alloc o).cell? ⟨Dd,4,none⟩=some (.slice bA bn bc):=fun o=>(HD4.out.below HE.out (below_alloc2 w4 o)).bx.get 4 _ bL.out.2.2.2.1
         go_wp2_with fail
         clear d1 d2 d3 d5 d6
         clear d0 d4
         have HD5:=hide (HD4.out.below HE.out (below_alloc2 w4 (.cells #[.int .i64 (a:Int),.int .i64 (b:Int),.int .i64 (s:Int),.int .i64 (t:Int)] 29)))
         have bS:=hide (Bx.new w4 #[.int .i64 (a:Int),.int .i64 (b:Int),.int .i64 (s:Int),.int .i64 (t:Int)] 29)
         have Az:=hide (show E.N≤w4.heap.size∧w.heap.size≤w4.heap.size from⟨HD4.out.sp.sz,HD4.out.kc.size⟩)
         clear HD4
         generalize World.alloc w4 _=w5 at*
         generalize w4.heap.size=Q at*
         obtain⟨an,han,ha16⟩:=om.out
         subst han
         have Ae:=hide ha16
         clear ha16
         refine(aaz E HE.out w5 _ HD5.out.sp i nm an pl bA bn bc bs rA rn rc rs tA tn tc ts oO.out Ae.out yt.out.1 yt.out.2 a b s t HF.out.1 opn WS).mono ?_
         rintro e w6 ⟨rfl,hsp,hkc⟩
         rw[HF.out.2]at hsp
         have HD6:=hide ((HD5.out.put HE.out hsp hkc).congr (fun x c' _=>show _↔aP E.n.ls i WS TS Dn 0 (c+1) x c' from by
          refine Iff.trans ?_ (aP.step jI.out hcl x c')
          unfold iU
          refine or_congr Iff.rfl (exists_congr fun o=>and_congr ?_ Iff.rfl)
          rw[← vv.out,Wh rfl]))
         clear hsp hkc HD5 bS
         go_wp2_with fail
         go_roundw
         case rel=>exact⟨c+1,by omega,by go_num,HD6⟩
         case measure=>simp[intOf];omega
    ·as_aux_lemma=>
      go_wp2_with fail
      try simp only[Int.natCast_zero,Int.cast_ofNat_Int]
      go_loopw [18] (fun cv wr=>∃c:Nat,c≤16384∧cv= .int .i64 (c:Int)∧Hid (DW E w Dd cs (aP E.n.ls i WS TS Dn 1 c) wr)) (fun cv _=>16384 - (intOf cv).toNat)
      case atStart=>exact⟨0,by omega,rfl,HD3⟩
      case round=>
       clear HD3
       obtain⟨c,hc,rfl,HD⟩:=hrel
       by_cases hcl:c<16384
       case neg=>
        obtain rfl:c=16384:=by omega
        go_wp2
        go_roundw
        case rel=>exact⟨1+1,by omega,by go_num,hide (HD.out.congr (fun x c _=>aP.row x c))⟩
        case measure=>first | (simp[intOf];done) | (simp[intOf];omega)
       case pos=>
        have dY:=hide (show Calls Tryz.prog 64 #[.pointer (some ⟨E.s,0,none⟩),.int .i64 i,.int .i64 1,.int .i64 (c:Int),.int .i64 (E.k:Int)] wr (fun e w'=>e= .returned (.bool (WS 1 c))∧wr=w')from o7.out wr _ 1 c (by rw[show aN 5=2 from rfl];decide) hcl HD.out.sp)
        obtain⟨B,hB⟩:∃B,WS 1 c=B:=⟨_,rfl⟩
        rw[hB]at dY
        have jI:=hide hB
        clear hB
        go_wp2_with fail
        refine dY.out.mono ?_
        clear dY
        rintro e w4 ⟨rfl,rfl⟩
        cases B
        case false=>
         go_wp2
         go_roundw
         case rel=>exact⟨c+1,by omega,by go_num,hide (HD.out.congr (fun x c _=>aP.no jI.out x c))⟩
         case measure=>simp[intOf];omega
        case true=>
         have iE:=hide (iF wr c hcl)
         go_wp2_with fail
         refine iE.out.mono ?_
         clear iE
         rintro e w4 ⟨rfl,hb⟩
         have HD4:=hide (HD.out.below HE.out hb)
         have Fx:=hide hb.size
         clear hb HD
         simp only[fQ]
         obtain⟨a,ha⟩:∃a,c / 1024=a:=⟨_,rfl⟩
         obtain⟨b,hb⟩:∃b,c / 64 % 16=b:=⟨_,rfl⟩
         obtain⟨s,hs⟩:∃s,c / 8 % 8=s:=⟨_,rfl⟩
         obtain⟨t,ht⟩:∃t,c % 8=t:=⟨_,rfl⟩
         have HF:=hide (show dW a b s t∧ay a b s t=c from by have:=jA hcl;rw[ha,hb,hs,ht]at this;exact this)
         rw[ha,hb,hs,ht]
         have kQ:=hide (And.intro ha (And.intro hb (And.intro hs ht)))
         clear ha hb hs ht
         have d1:∀o,(w4.alloc o).cell? ⟨Dd,1,none⟩=some (.int .i64 5):=fun o=>(HD4.out.below HE.out (below_alloc2 w4 o)).bx.get 1 _ bL.out.1
         have d2:∀o,(w4.alloc o).cell? ⟨Dd,2,none⟩=some (.int .i64 ad):=fun o=>(HD4.out.below HE.out (below_alloc2 w4 o)).bx.get 2 _ bL.out.2.1
         have d3:∀o,(w4.alloc o).cell? ⟨Dd,3,none⟩=some (.int .u8 pl):=fun o=>(HD4.out.below HE.out (below_alloc2 w4 o)).bx.get 3 _ bL.out.2.2.1
         have d5:∀o,(w4.alloc o).cell? ⟨Dd,5,none⟩=some (.slice rA rn rc):=fun o=>(HD4.out.below HE.out (below_alloc2 w4 o)).bx.get 5 _ bL.out.2.2.2.2.1
         have d6:∀o,(w4.alloc o).cell? ⟨Dd,6,none⟩=some (.slice tA tn tc):=fun o=>(HD4.out.below HE.out (below_alloc2 w4 o)).bx.get 6 _ bL.out.2.2.2.2.2.1
         have d0:∀o,(w4.alloc o).cell? ⟨Dd,0,none⟩=some (.string nm):=fun o=>(HD4.out.below HE.out (below_alloc2 w4 o)).bx.get 0 _ bL.out.2.2.2.2.2.2
         have d4:∀o,(w4.alloc o).cell? ⟨Dd,4,none⟩=some (.slice bA bn bc):=fun o=>(HD4.out.below HE.out (below_alloc2 w4 o)).bx.get 4 _ bL.out.2.2.2.1
         go_wp2_with fail
         clear d1 d2 d3 d5 d6
         clear d0 d4
         have HD5:=hide (HD4.out.below HE.out (below_alloc2 w4 (.cells #[.int .i64 (a:Int),.int .i64 (b:Int),.int .i64 (s:Int),.int .i64 (t:Int)] 29)))
         have bS:=hide (Bx.new w4 #[.int .i64 (a:Int),.int .i64 (b:Int),.int .i64 (s:Int),.int .i64 (t:Int)] 29)
         have Az:=hide (show E.N≤w4.heap.size∧w.heap.size≤w4.heap.size from⟨HD4.out.sp.sz,HD4.out.kc.size⟩)
         clear HD4
         generalize World.alloc w4 _=w5 at*
         generalize w4.heap.size=Q at*
         obtain⟨an,han,ha16⟩:=om.out
         subst han
         have Ae:=hide ha16
         clear ha16
         refine(aaA E HE.out w5 _ HD5.out.sp i nm an pl bA bn bc bs rA rn rc rs tA tn tc ts oO.out Ae.out yt.out.1 yt.out.2 a b s t HF.out.1 opn WS (fun c hc=>MP.out 0 c) (tY.out 0 (by rw[show aN 5=2 from rfl];decide))).mono ?_
         rintro e w6 ⟨rfl,hsp,hkc⟩
         rw[HF.out.2]at hsp
         have HD6:=hide ((HD5.out.put HE.out hsp hkc).congr (fun x c' _=>show _↔aP E.n.ls i WS TS Dn 1 (c+1) x c' from by
          refine Iff.trans ?_ (aP.step jI.out hcl x c')
          unfold iU
          refine or_congr Iff.rfl (exists_congr fun o=>and_congr ?_ Iff.rfl)
          rw[← vv.out,Wh rfl]))
         clear hsp hkc HD5 bS
         go_wp2_with fail
         go_roundw
         case rel=>exact⟨c+1,by omega,by go_num,HD6⟩
         case measure=>simp[intOf];omega
def kM (ls:List ah) (i o:Nat) (S:Nat→Prop) (f:Nat→Nat) (x:Nat) (Dn:aB→Nat→Prop):aB→Nat→Prop:=fun z c'=>Dn z c'∨∃y,y<x∧S y∧aD ls ((i:Int),(o:Int))=some z∧c'=f y
section
variable {ls:List ah} {i o x:Nat} {S:Nat→Prop} {f:Nat→Nat} {Dn:aB→Nat→Prop}
theorem kM.zero (z:aB) (c':Nat):Dn z c'↔kM ls i o S f 0 Dn z c':=⟨.inl,fun h=>h.elim id (fun⟨j,h,_⟩=>absurd h (Nat.not_lt_zero _))⟩
theorem kM.no (h:¬S x) (z:aB) (c':Nat):kM ls i o S f x Dn z c'↔kM ls i o S f (x+1) Dn z c':=by
 unfold kM
 refine or_congr Iff.rfl ⟨fun⟨y,h1,h2⟩=>⟨y,by omega,h2⟩,fun⟨y,h1,h2,h3⟩=>⟨y,?_,h2,h3⟩⟩
 rcases Nat.lt_or_ge y x with hl | hl
 ·exact hl
 ·obtain rfl:y=x:=by omega
  exact absurd h2 h
theorem kM.yes (h:S x) (z:aB) (c':Nat):nM ls ((i:Int),(o:Int)) (f x) (kM ls i o S f x Dn) z c'↔kM ls i o S f (x+1) Dn z c':=by
 unfold nM kM
 rw[or_assoc]
 refine or_congr Iff.rfl ⟨fun h0=>?_,fun⟨y,h1,h2,h3,h4⟩=>?_⟩
 ·rcases h0 with⟨y,h1,h2⟩ | ⟨h1,h2⟩
  ·exact⟨y,by omega,h2⟩
  ·exact⟨x,by omega,h,h1,h2⟩
 ·rcases Nat.lt_or_ge y x with hl | hl
  ·exact .inl ⟨y,hl,h2,h3,h4⟩
  ·obtain rfl:y=x:=by omega
   exact .inr ⟨h3,h4⟩
theorem kM.done {W:Nat→Nat→Bool} {T:Nat→Nat→Nat→Nat→Prop} {P C:Nat} (h:W P C=true) (hC:C<16384) (hT:∀o' c',T P C o' c'↔(o'=o∧∃y,y<x∧S y∧c'=f y)) (z:aB) (c':Nat):kM ls i o S f x (aP ls i W T Dn P C) z c'↔aP ls i W T Dn P (C+1) z c':=by
 refine Iff.trans ?_ (aP.step h hC z c')
 unfold kM
 refine or_congr Iff.rfl ⟨fun⟨y,h1,h2,h3,h4⟩=>⟨o,(hT _ _).2 ⟨rfl,y,h1,h2,h4⟩,h3⟩,fun⟨o',h1,h2⟩=>?_⟩
 obtain⟨rfl,y,h3,h4,h5⟩:=(hT _ _).1 h1
 exact⟨y,h3,h4,h2,h5⟩
end
def ownB (W:Nat→Nat→Bool) (e:Nat):Bool:=(List.range 128).any fun x=>W 0 (ay (e / 8) (x / 8) (e % 8) (x % 8))
theorem D6 {W:Nat→Nat→Bool} {e:Nat} :ownB W e=true↔Gs W e:=by
 unfold ownB Gs
 rw[List.any_eq_true]
 exact⟨fun⟨x,h1,h2⟩=>⟨x,List.mem_range.1 h1,h2⟩,fun⟨x,h1,h2⟩=>⟨x,List.mem_range.2 h1,h2⟩⟩
def iX (W:Nat→Nat→Bool) (n:Nat):List Nat:=(List.range n).filter (ownB W)
theorem H8 (W:Nat→Nat→Bool) (n:Nat):iX W (n+1)=if ownB W n=true then iX W n++[n]else iX W n:=by
 unfold iX
 rw[List.range_succ,List.filter_append]
 by_cases h:ownB W n=true<;>simp[h]
theorem D7 {W:Nat→Nat→Bool} {n e:Nat} :e∈iX W n↔e<n∧Gs W e:=by
 unfold iX
 rw[List.mem_filter,List.mem_range,D6]
theorem Kw (W:Nat→Nat→Bool) (n:Nat):(iX W n).length ≤n:=by
 have:=List.length_filter_le (ownB W) (List.range n)
 rw[List.length_range]at this
 exact this
def OL (e:Nat):Int×Int:=(((e / 8:Nat):Int),((e % 8:Nat):Int))
def pC (p:P4):List Value:=[.int .i64 p.src,.int .i64 p.dst,.int .i64 p.dz,.int .i64 p.dU]
theorem Zb (p:P4):(pC p).length =4:=rfl
structure OW (E:SE) (w:World) (Dd:Nat) (cs:Array Value) (Dn:aB→Nat→Prop) (W:Nat→Nat→Bool) (e:Nat) (v:Value) (wr:World):Prop where
 dw:DW E w Dd cs Dn wr
 dl:w.heap.size≤Dd
 own:∃L:List P4,wr.ownsRow (Dd+1) 29 4 v (iX W e).length (L.flatMap pC)∧L.map (fun p=>(p.src,p.dz))=(iX W e).map OL
section
variable {E:SE} {w wr w':World} {Dd:Nat} {cs:Array Value} {Dn dP:aB→Nat→Prop} {W:Nat→Nat→Bool} {e:Nat} {v:Value}
theorem DW.grown (h:DW E w Dd cs Dn wr) (hE:E.Ok) (hd:w.heap.size≤Dd) {row:Option Nat} (hg:wr.grownBy w' row) (hr:∀q,row=some q→Dd<q):DW E w Dd cs Dn w':=
 ⟨h.sp.below hE ⟨hg.os,hg.tape,hg.output,hg.size,fun b hb=>hg.block b (by have:=h.sp.sz;omega) (fun e=>by have:=hr b e.symm;have:=h.dd;omega)⟩,
  ⟨h.kc.low.trans ⟨hg.os,hg.tape,hg.output,hg.size,fun b hb=>by omega⟩,fun b hb hc=>(hg.block b (Nat.lt_of_lt_of_le hb h.kc.size) (fun e=>by have:=hr b e.symm;omega)).trans (h.kc.same b hb hc)⟩,h.bx.same (hg.block Dd h.bx.lt (fun e=>Nat.lt_irrefl _ (hr Dd e.symm))),h.dd⟩
theorem OW.start (h:DW E w Dd cs Dn wr) (hd:w.heap.size≤Dd):OW E w Dd cs Dn W 0 (.slice none 0 0) wr:=
 ⟨h,hd,[],World.ownsRow_nil _ _ _ _,rfl⟩
theorem OW.below (h:OW E w Dd cs Dn W e v wr) (hE:E.Ok) (hb:RowKit.Below wr.heap.size wr w'):OW E w Dd cs Dn W e v w':=by
 obtain⟨L,h1,h2⟩:=h.own
 exact⟨h.dw.below hE hb,h.dl,L,own_below h1 hb,h2⟩
theorem OW.put (h:OW E w Dd cs Dn W e v wr) (hE:E.Ok) (hs:SP E dP w') (hk:KC E.C wr w'):OW E w Dd cs dP W e v w':=by
 obtain⟨L,h1,h2⟩:=h.own
 refine⟨h.dw.put hE hs hk,h.dl,L,cZ h1 (fun q hq=>hk.same q (h1.lt q hq).2 (DW.Ab hE (by have:=(h1.lt q hq).1;have:=h.dw.dd;omega))),h2⟩
theorem OW.congr (h:OW E w Dd cs Dn W e v wr) (hc:∀x c,c<16384→(Dn x c↔dP x c)):OW E w Dd cs dP W e v wr:=⟨h.dw.congr hc,h.dl,h.own⟩
theorem OW.set (h:OW E w Dd cs Dn W e v wr) (hE:E.Ok) (a:Addr) (u:Value) (ha:Dd<a.block) (hv:v.ownBlock≠some a.block):OW E w Dd cs Dn W e v (wr.setCell a u):=by
 obtain⟨L,h1,h2⟩:=h.own
 have:=h.dw.dd
 have:=h.dl
 exact⟨h.dw.set hE a u (by omega) (by omega) (by omega),h.dl,L,cZ h1 (fun q hq=>RowKit.Below.heap_setCell wr a u q (fun e=>hv (e▸hq))),h2⟩
theorem OW.next (h:OW E w Dd cs Dn W e v wr) (hn:ownB W e=false):OW E w Dd cs Dn W (e+1) v wr:=by
 have:iX W (e+1)=iX W e:=by rw[H8,hn];simp
 exact⟨h.dw,h.dl,by rw[this];exact h.own⟩
theorem OW.add (h:OW E w Dd cs Dn W e v wr) (hE:E.Ok) (hn:ownB W e=true) {L:List P4} {y1 y2:Int} (hL:L.map (fun p=>(p.src,p.dz))=(iX W e).map OL) {v':Value}
  (hown:w'.ownsRow (Dd+1) 29 4 v' ((iX W e).length +1) (L.flatMap pC++[.int .i64 ((e / 8:Nat):Int),.int .i64 y1,.int .i64 ((e % 8:Nat):Int),.int .i64 y2])) (hg:wr.grownBy w' v.ownBlock):OW E w Dd cs Dn W (e+1) v' w':=by
 obtain⟨L',h1,h2⟩:=h.own
 have hl:iX W (e+1)=iX W e++[e]:=by rw[H8,hn];simp
 refine⟨h.dw.grown hE h.dl hg (fun q hq=>(h1.lt q hq).1),h.dl,L++[⟨((e / 8:Nat):Int),y1,((e % 8:Nat):Int),y2⟩],?_,?_⟩
 ·rw[hl,List.length_append,List.flatMap_append]
  exact hown
 ·rw[hl,List.map_append,List.map_append,hL]
  rfl
theorem OW.sp (h:OW E w Dd cs Dn W e v wr):SP E Dn wr:=h.dw.sp
theorem OW.kc (h:OW E w Dd cs Dn W e v wr):KC E.C w wr:=h.dw.kc
theorem OW.bx (h:OW E w Dd cs Dn W e v wr):Bx wr Dd cs 81:=h.dw.bx
theorem OW.sl (h:OW E w Dd cs Dn W e v wr):∃(A:Option Addr) (c:Nat) (L:List P4),v= .slice A (iX W e).length c∧bD pC 4 wr wr.heap.size A (iX W e).length L∧L.map (fun p=>(p.src,p.dz))=(iX W e).map OL:=by
 obtain⟨L,h1,h2⟩:=h.own
 have hl:L.length=(iX W e).length :=by have:=congrArg List.length h2;simpa using this
 obtain⟨A,c,e1,_,h3,_⟩:=bD.lC Zb h1 hl
 exact⟨A,c,L,e1,h3,h2⟩
end
theorem Tryz.infoPacket:(Tryz.prog.info? 29).map (fun i=>(i.zero,i.size,i.bytes))=some (some (.agg #[.int .i64 0,.int .i64 0,.int .i64 0,.int .i64 0]),4,32):=by kernel_rfl
theorem Ky (w:World) (N:Nat) (a b c d:Value) (h:Bx w N #[a,b,c,d] 29):Reads w w.heap.size 4 (some ⟨N,0,none⟩) 1 [a,b,c,d]:=
 ⟨rfl,fun _=>⟨_,rfl,h.lt,fun j u hu=>by
   rw[addr_add,Nat.zero_add,cell_of_row _ _ _ _ _ _ h]
   simpa using hu⟩⟩
theorem D8 {pl x:Nat} (h:x<16):hasB pl (x:Int)=pl.testBit x:=by
 unfold hasB
 rw[decide_eq_true (by omega:(0:Int)≤(x:Int)),decide_eq_true (by omega:(x:Int)<16)]
 simp
end Go.Proofs.YtifkacnoiocebaaGreat
