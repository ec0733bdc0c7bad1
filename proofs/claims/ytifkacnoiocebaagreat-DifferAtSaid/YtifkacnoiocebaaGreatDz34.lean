/- A part of the proof: Sp14. -/
import Derived.Test.YtifkacnoiocebaaGreatDz33
set_option linter.unusedVariables false
set_option linter.unusedSimpArgs false
set_option maxRecDepth 100000
set_option maxHeartbeats 16000000
namespace Go.Proofs.YtifkacnoiocebaaGreat
open Go.Maps Go.RowKit Go.WideElems
theorem TU (E:SE) (hE:E.Ok) (w:World) (Dn:aB→Nat→Prop) (h:SP E Dn w) (i:Nat) (d:ak) (hd:E.n.ds[i]?=some d) (hok:fU d.dev) (nU:∀p:Nat,(p:Int)<aN d.kind→E.D ((i:Int),(p:Int))) (hkd:d.kind=4) (ho:(aD E.n.ls ((i:Int),1)).isSome =false):
  Calls Tryz.prog 34 #[.pointer (some ⟨E.s,0,none⟩),.agg #[.slice E.n.dA E.n.dn E.n.dc,.slice E.n.lA E.n.ln E.n.lc],.int .i64 (i:Int),.int .i64 (E.k:Int),.func (.func 32) #[] #[.pointer (some ⟨E.nA,0,none⟩),.pointer (some ⟨E.pS,0,none⟩),.pointer (some ⟨E.kA,0,none⟩),.pointer (some ⟨E.mA,0,none⟩)]] w fun e w'=>e= .returned (.tuple #[])∧SP E (iT E.n.au E.n.ls E.k i d.dev Dn) w'∧KC E.C w w':=by
 have Fy:=hide ho
 clear ho
 have qz:E.n.ln≤9223372036854775807:=by have:=hE.ln;have:=(h.net hE).ls.1;omega
 have HE:=hide hE
 have HS:=hide h
 have tY:=hide nU
 have iG:=h.net hE
 have hil:i<E.n.dn:=by have:=(List.getElem?_eq_some_iff.1 hd).1;have:=iG.iK;omega
 have hdl:=iG.cd
 have gF:=hide (fun(w':World) (dP:aB→Nat→Prop) (h':SP E dP w')=>show bW w' w'.heap.size d from(h'.net hE).qW d (List.mem_of_getElem? hd))
 obtain⟨db,j6,gK,hdb,_⟩:=iG.ds.2 (by omega)
 have HQ:=hide (fun(w':World) (hb:RowKit.Below w.heap.size w w')=>(fP (gK▸((h.up hE hb).net hE).ds) hd).2)
 have fI:=hide (fun(w1:World) (hb:RowKit.Below w.heap.size w w1)=>jJ E.n.dA E.n.dn E.n.dc E.n.lA E.n.ln E.n.lc E.n.ls (i:Int) 1 w1 qz (((h.up hE hb).net hE).ls))
 obtain⟨px,py,hpv⟩:=pV (aD E.n.ls ((i:Int),1))
 simp only[hpv]at fI
 have fK:=hide hok
 have oO:=hide hd
 have HB1:=hide (fun(o:Obj)=>below_alloc2 w o)
 have HB2:=hide (fun(o o':Obj)=>show RowKit.Below w.heap.size w ((w.alloc o).alloc o')from(below_alloc2 w o).trans ((below_alloc2 (w.alloc o) o').mono (below_alloc2 w o).size))
 rw[gK]at fI ⊢
 have Ku:=hide gK
 have hdn:E.n.dn≤maxLen:=by omega
 have GK:=hide hdl
 clear h hE nU iG hd hok hdb hpv gK hdl
 obtain⟨nm,kd,ad,pl,bA,bn,bc,bs,rA,rn,rc,rs,tA,tn,tc,ts⟩:=d
 simp only at hkd HQ
 subst hkd
 have ha16:=fK.out.qA (.inr (.inl rfl))
 simp only[ak.dev]at ha16
 have om:=hide (show∃an:Nat,ad=(an:Int)∧an<16 from⟨ad.toNat,by omega,by omega⟩)
 clear ha16
 have q0:=fun o=>(HQ.out _ (HB1.out o)).1
 have q1:=fun o=>(HQ.out _ (HB1.out o)).2.1
 have q2:=fun o=>(HQ.out _ (HB1.out o)).2.2.1
 have q3:=fun o=>(HQ.out _ (HB1.out o)).2.2.2.1
 have q4:=fun o=>(HQ.out _ (HB1.out o)).2.2.2.2.1
 have q5:=fun o=>(HQ.out _ (HB1.out o)).2.2.2.2.2.1
 have q6:=fun o=>(HQ.out _ (HB1.out o)).2.2.2.2.2.2
 obtain⟨opn,kL⟩:∃opn,(aD E.n.ls ((i:Int),1)).isSome =opn:=⟨_,rfl⟩
 rw[kL]at fI
 have zi:=hide kL
 clear kL
 go_enter Tryz.func34,Tryz.ntmps34
 go_wp2_with fail
 clear q0 q1 q2 q3 q4 q5 q6
 obtain⟨cs,hcs⟩:∃cs:Array Value,#[.string nm,.int .i64 4,.int .i64 ad,.int .u8 pl,.slice bA bn bc,.slice rA rn rc,.slice tA tn tc]=cs:=⟨_,rfl⟩
 have bL:=hide (show cs[1]?=some (.int .i64 4)∧cs[2]?=some (.int .i64 ad)∧cs[3]?=some (.int .u8 pl)∧cs[4]?=some (.slice bA bn bc)∧cs[5]?=some (.slice rA rn rc)∧cs[6]?=some (.slice tA tn tc)∧cs[0]?=some (.string nm)from by rw[← hcs];exact⟨rfl,rfl,rfl,rfl,rfl,rfl,rfl⟩)
 try simp only[hcs]
 have uj:=hide hcs
 clear hcs
 have HD0:=hide (show DW E w (w.heap.size+1) cs Dn ((w.alloc (.cells #[.slice (some ⟨db,j6,none⟩) E.n.dn E.n.dc,.slice E.n.lA E.n.ln E.n.lc] 25)).alloc (.cells cs 81))from
  ⟨HS.out.up HE.out (HB2.out _ _),KC.of_below (HB2.out _ _),by
   have:=Bx.new (w.alloc (.cells #[.slice (some ⟨db,j6,none⟩) E.n.dn E.n.dc,.slice E.n.lA E.n.ln E.n.lc] 25)) cs 81
   simpa using this,by have:=HS.out.sz;omega⟩)
 have kE:=hide (HB2.out (.cells #[.slice (some ⟨db,j6,none⟩) E.n.dn E.n.dc,.slice E.n.lA E.n.ln E.n.lc] 25) (.cells cs 81))
 generalize World.alloc (World.alloc w _) _=w2 at*
 refine(fI.out _ kE.out).mono ?_
 clear fI
 rintro en w3 ⟨rfl,hb3⟩
 have HD3:=hide (HD0.out.below HE.out hb3)
 clear hb3 HD0 kE HQ HB1 HB2
 go_wp2_with fail
 have HD2:=hide (HD3.out.below HE.out (below_alloc2 w3 (.cells #[.int .i64 px,.int .i64 py] 27)))
 clear HD3
 generalize World.alloc w3 _=w4 at*
 obtain⟨Dd,vw⟩:∃Dd,w.heap.size+1=Dd:=⟨_,rfl⟩
 rw[vw]at HD2 ⊢
 have jd:=hide (show w.heap.size≤Dd from by omega)
 clear vw
 obtain⟨WS,hWS⟩:∃WS:Nat→Nat→Bool,(fun(q c:Nat)=>iC E.n.au E.n.ls E.k ((i:Int),(q:Int)) c)=WS:=⟨_,rfl⟩
 have o7:=hide (fun(wr:World) (dP:aB→Nat→Prop) (p c:Nat) (hp:(p:Int)<aN 4) (hc:c<16384) (h:SP E dP wr)=>show Calls Tryz.prog 64 #[.pointer (some ⟨E.s,0,none⟩),.int .i64 i,.int .i64 (p:Int),.int .i64 (c:Int),.int .i64 (E.k:Int)] wr (fun e w'=>e= .returned (.bool (WS p c))∧wr=w')from by
  have:=xg E HE.out wr dP h i p (tY.out p hp) c hc
  rw[← hWS]
  exact this)
 obtain⟨TS,o8⟩:∃TS,Tp (ak.dev ⟨nm,4,ad,pl,bA,bn,bc,bs,rA,rn,rc,rs,tA,tn,tc,ts⟩) opn WS=TS:=⟨_,rfl⟩
 have vv:=hide o8
 have BQ:=hide (fun(x:aB) (c:Nat) (hc:c<16384)=>show aP E.n.ls i WS TS Dn 2 0 x c↔iT E.n.au E.n.ls E.k i (ak.dev ⟨nm,4,ad,pl,bA,bn,bc,bs,rA,rn,rc,rs,tA,tn,tc,ts⟩) Dn x c from by
  rw[← o8,← hWS,← zi.out]
  exact aP.told fK.out (P:=2) (by rfl) x c hc)
 have MP:=hide (fun(p c:Nat)=>show WS p c=iC E.n.au E.n.ls E.k ((i:Int),(p:Int)) c from by rw[← hWS])
 clear hWS o8
 obtain rfl:opn=false:=zi.out.symm.trans Fy.out
 go_loopw [13,14] (fun ov iv wr=>ov= .slice none 0 0∧iv= .int .i64 0∧Hid (DW E w Dd cs Dn wr)) (fun _ _ _=>0)
 case atStart=>exact⟨rfl,rfl,HD2⟩
 case round=>
  clear HD2
  obtain⟨rfl,rfl,HD1⟩:=hrel
  have d1:wr.cell? ⟨Dd,1,none⟩=some (.int .i64 4):=HD1.out.bx.get 1 _ bL.out.1
  go_wp2_with fail
  clear d1
  go_loopw [17] (fun iv wr=>∃p:Nat,p≤2∧iv= .int .i64 (p:Int)∧Hid (DW E w Dd cs (aP E.n.ls i WS TS Dn p 0) wr)) (fun iv _=>2 - (intOf iv).toNat)
  case atStart=>exact⟨0,by omega,rfl,hide (HD1.out.congr (fun x c _=>aP.zero x c))⟩
  case round=>
   clear HD1
   obtain⟨p,hp,rfl,HD⟩:=hrel
   have mW:=hide (iI 4 wr)
   rw[show aN 4=2 from rfl]at mW
   have d1:wr.cell? ⟨Dd,1,none⟩=some (.int .i64 4):=HD.out.bx.get 1 _ bL.out.1
   go_wp2_with fail
   refine mW.out.mono ?_
   clear mW d1
   rintro e w3 ⟨rfl,hb⟩
   have HD3:=hide (HD.out.below HE.out hb)
   clear hb HD
   by_cases hpl:p<2
   case neg=>
    obtain rfl:p=2:=by omega
    go_wp2
    go_end0
    exact⟨rfl,HD3.out.sp.congr (fun x c hc=>BQ.out x c hc),HD3.out.kc⟩
   case pos=>
    rcases(by omega:p=0∨p=1)with rfl | rfl
    ·as_aux_lemma=>
      go_wp2_with fail
      try simp only[Int.natCast_zero,Int.cast_ofNat_Int]
      go_loopw [18] (fun cv wr=>∃c:Nat,c≤16384∧cv= .int .i64 (c:Int)∧Hid (DW E w Dd cs (aP E.n.ls i WS TS Dn 0 c) wr)) (fun cv _=>16384 - (intOf cv).toNat)
      case atStart=>exact⟨0,by omega,rfl,HD3⟩
      case round=>
       clear HD3
       obtain⟨c,hc,rfl,HD⟩:=hrel
       by_cases hcl:c<16384
       case neg=>
        obtain rfl:c=16384:=by omega
        go_wp2
        go_roundw
        case rel=>exact⟨0+1,by omega,by go_num,hide (HD.out.congr (fun x c _=>aP.row x c))⟩
        case measure=>first | (simp[intOf];done) | (simp[intOf];omega)
       case pos=>
        have dY:=hide (show Calls Tryz.prog 64 #[.pointer (some ⟨E.s,0,none⟩),.int .i64 i,.int .i64 0,.int .i64 (c:Int),.int .i64 (E.k:Int)] wr (fun e w'=>e= .returned (.bool (WS 0 c))∧wr=w')from o7.out wr _ 0 c (by rw[show aN 4=2 from rfl];decide) hcl HD.out.sp)
        obtain⟨B,hB⟩:∃B,WS 0 c=B:=⟨_,rfl⟩
        rw[hB]at dY
        have jI:=hide hB
        clear hB
        go_wp2_with fail
        refine dY.out.mono ?_
        clear dY
        rintro e w4 ⟨rfl,rfl⟩
        cases B
        case false=>
         go_wp2
         go_roundw
         case rel=>exact⟨c+1,by omega,by go_num,hide (HD.out.congr (fun x c _=>aP.no jI.out x c))⟩
         case measure=>simp[intOf];omega
        case true=>
         have iE:=hide (iF wr c hcl)
         go_wp2_with fail
         refine iE.out.mono ?_
         clear iE
         rintro e w4 ⟨rfl,hb⟩
         have HD4:=hide (HD.out.below HE.out hb)
         have Fx:=hide hb.size
         clear hb HD
         simp only[fQ]
         obtain⟨a,ha⟩:∃a,c / 1024=a:=⟨_,rfl⟩
         obtain⟨b,hb⟩:∃b,c / 64 % 16=b:=⟨_,rfl⟩
         obtain⟨s,hs⟩:∃s,c / 8 % 8=s:=⟨_,rfl⟩
         obtain⟨t,ht⟩:∃t,c % 8=t:=⟨_,rfl⟩
         have HF:=hide (show dW a b s t∧ay a b s t=c from by have:=jA hcl;rw[ha,hb,hs,ht]at this;exact this)
         rw[ha,hb,hs,ht]
         have kQ:=hide (And.intro ha (And.intro hb (And.intro hs ht)))
         clear ha hb hs ht
         have d1:∀o,(w4.alloc o).cell? ⟨Dd,1,none⟩=some (.int .i64 4):=fun o=>(HD4.out.below HE.out (below_alloc2 w4 o)).bx.get 1 _ bL.out.1
         have d2:∀o,(w4.alloc o).cell? ⟨Dd,2,none⟩=some (.int .i64 ad):=fun o=>(HD4.out.below HE.out (below_alloc2 w4 o)).bx.get 2 _ bL.out.2.1
         have d3:∀o,(w4.alloc o).cell? ⟨Dd,3,none⟩=some (.int .u8 pl):=fun o=>(HD4.out.below HE.out (below_alloc2 w4 o)).bx.get 3 _ bL.out.2.2.1
         have d5:∀o,(w4.alloc o).cell? ⟨Dd,5,none⟩=some (.slice rA rn rc):=fun o=>(HD4.out.below HE.out (below_alloc2 w4 o)).bx.get 5 _ bL.out.2.2.2.2.1
         have d6:∀o,(w4.alloc o).cell? ⟨Dd,6,none⟩=some (.slice tA tn tc):=fun o=>(HD4.out.below HE.out (below_alloc2 w4 o)).bx.get 6 _ bL.out.2.2.2.2.2.1
         go_wp2_with fail
         clear d1 d2 d3 d5 d6
         have HD5:=hide (HD4.out.below HE.out (below_alloc2 w4 (.cells #[.int .i64 (a:Int),.int .i64 (b:Int),.int .i64 (s:Int),.int .i64 (t:Int)] 29)))
         have bS:=hide (Bx.new w4 #[.int .i64 (a:Int),.int .i64 (b:Int),.int .i64 (s:Int),.int .i64 (t:Int)] 29)
         have Az:=hide (show E.N≤w4.heap.size∧w.heap.size≤w4.heap.size from⟨HD4.out.sp.sz,HD4.out.kc.size⟩)
         clear HD4
         generalize World.alloc w4 _=w5 at*
         generalize w4.heap.size=Q at*
         obtain⟨an,han,ha16⟩:=om.out
         subst han
         have Ae:=hide ha16
         clear ha16
         have uf:=hide (show pl<65536 from by have h1:=(gF.out w5 _ HD5.out.sp).pl;have h2:pl<256:=h1;omega)
         have HT:=hide (show∀o' c',TS 0 c o' c'↔(o'=1∧∃y,y<8∧pl.testBit y=true∧c'=ay an b y t)from fun o' c'=>by
          rw[← vv.out,IZ rfl]
          unfold Kr
          rw[kQ.out.2.1,kQ.out.2.2.2]
          constructor
          ·rintro(⟨_,y,h1,h2,h3,h4⟩ | ⟨h,_⟩)
           ·exact⟨h3,y,h1,h2,h4⟩
           ·exact absurd h (by decide)
          ·rintro⟨h3,y,h1,h2,h4⟩
           exact .inl ⟨rfl,y,h1,h2,h3,h4⟩)
         go_loopw [23] (fun xv wr=>∃x:Nat,x≤8∧xv= .int .i64 (x:Int)∧Hid (DW E w Dd cs (kM E.n.ls i 1 (fun y=>pl.testBit y=true) (fun y=>ay an b y t) x (aP E.n.ls i WS TS Dn 0 c)) wr∧Bx wr Q #[.int .i64 (a:Int),.int .i64 (b:Int),.int .i64 (s:Int),.int .i64 (t:Int)] 29)) (fun xv _=>8 - (intOf xv).toNat)
         case atStart=>exact⟨0,by omega,rfl,hide ⟨HD5.out.congr (fun z c' _=>kM.zero z c'),bS.out⟩⟩
         case round=>
          clear HD5 bS
          obtain⟨x,hx,rfl,HD⟩:=hrel
          by_cases hxl:x<8
          case neg=>
           obtain rfl:x=8:=by omega
           go_wp2_with fail
           have BR:=hide (HD.out.1.congr (fun z c' _=>kM.done jI.out hcl HT.out z c'))
           clear HD
           go_loopw [25] (fun xv wr=>xv= .int .i64 0∧Hid (DW E w Dd cs (aP E.n.ls i WS TS Dn 0 (c+1)) wr)) (fun _ _=>0)
           case atStart=>exact⟨rfl,BR⟩
           case round=>
            clear BR
            obtain⟨rfl,l6⟩:=hrel
            go_wp2_with fail
            go_roundw
            case rel=>exact⟨c+1,by omega,by go_num,l6⟩
            case measure=>simp[intOf];omega
          case pos=>
           have d3:wr.cell? ⟨Dd,3,none⟩=some (.int .u8 pl):=HD.out.1.bx.get 3 _ bL.out.2.2.1
           obtain⟨B2,hB2⟩:∃B2,hasB pl (x:Int)=B2:=⟨_,rfl⟩
           have H9:=hide (nu wr pl (x:Int) uf.out B2 hB2)
           have HB2:=hide (show pl.testBit x=B2 from by rw[← hB2,D8 (by omega)])
           clear hB2
           have Wo:(pl:Int)<256:=by have h1:=(gF.out wr _ HD.out.1.sp).pl;have h2:pl<256:=h1;omega
           go_wp2_with fail
           clear d3
           refine H9.out.mono ?_
           clear H9
           rintro e w6 ⟨rfl,rfl⟩
           cases B2
           case false=>
            have HD6:=hide (And.intro (HD.out.1.congr (fun z c' _=>kM.no (S:=fun y=>pl.testBit y=true) (by show¬pl.testBit x=true;rw[HB2.out];decide) z c')) HD.out.2)
            clear HD
            go_wp2_with fail
            go_roundw
            case rel=>exact⟨x+1,by omega,by go_num,HD6⟩
            case measure=>simp[intOf];omega
           case true=>
            have HX:=hide HD.out.2
            have x0:wr.cell? ⟨Q,0,none⟩=some (.int .i64 (a:Int)):=HX.out.get 0 _ rfl
            have x1:wr.cell? ⟨Q,1,none⟩=some (.int .i64 (b:Int)):=HX.out.get 1 _ rfl
            have x2:wr.cell? ⟨Q,2,none⟩=some (.int .i64 (s:Int)):=HX.out.get 2 _ rfl
            have x3:wr.cell? ⟨Q,3,none⟩=some (.int .i64 (t:Int)):=HX.out.get 3 _ rfl
            have d2:∀o,(wr.alloc o).cell? ⟨Dd,2,none⟩=some (.int .i64 (an:Int)):=fun o=>(HD.out.1.below HE.out (below_alloc2 wr o)).bx.get 2 _ bL.out.2.1
            go_wp2_with fail
            clear x0 x1 x2 x3
            clear d2
            have HD6:=hide (show DW E w Dd cs (kM E.n.ls i 1 (fun y=>pl.testBit y=true) (fun y=>ay an b y t) x (aP E.n.ls i WS TS Dn 0 c)) (wr.alloc (.cells #[.int .i64 (an:Int),.int .i64 (b:Int),.int .i64 (x:Int),.int .i64 (t:Int)] 29))∧Bx (wr.alloc (.cells #[.int .i64 (an:Int),.int .i64 (b:Int),.int .i64 (x:Int),.int .i64 (t:Int)] 29)) Q #[.int .i64 (a:Int),.int .i64 (b:Int),.int .i64 (s:Int),.int .i64 (t:Int)] 29 from
             ⟨HD.out.1.below HE.out (below_alloc2 wr _),HX.out.below (below_alloc2 wr _)⟩)
            clear HD HX
            generalize World.alloc wr _=w6 at*
            have fM:=hide (tK E HE.out w6 _ HD6.out.1.sp (i:Int) ((1:Nat):Int) an b x t ⟨Ae.out,HF.out.1.b,hxl,HF.out.1.d⟩)
            simp only[Int.cast_ofNat_Int]at fM
            refine fM.out.mono ?_
            clear fM
            rintro e w7 ⟨rfl,hsp,hkc⟩
            have HD7:=hide (And.intro ((HD6.out.1.put HE.out hsp hkc).congr (fun z c' _=>kM.yes (S:=fun y=>pl.testBit y=true) (f:=fun y=>ay an b y t) HB2.out z c')) (HD6.out.2.kc hkc (DW.Ab HE.out Az.out.1)))
            clear hsp hkc HD6
            go_wp2_with fail
            go_roundw
            case rel=>exact⟨x+1,by omega,by go_num,HD7⟩
            case measure=>simp[intOf];omega
    ·as_aux_lemma=>
      go_wp2_with fail
      try simp only[Int.natCast_zero,Int.cast_ofNat_Int]
      go_loopw [18] (fun cv wr=>∃c:Nat,c≤16384∧cv= .int .i64 (c:Int)∧Hid (DW E w Dd cs (aP E.n.ls i WS TS Dn 1 c) wr)) (fun cv _=>16384 - (intOf cv).toNat)
      case atStart=>exact⟨0,by omega,rfl,HD3⟩
      case round=>
       clear HD3
       obtain⟨c,hc,rfl,HD⟩:=hrel
       by_cases hcl:c<16384
       case neg=>
        obtain rfl:c=16384:=by omega
        go_wp2
        go_roundw
        case rel=>exact⟨1+1,by omega,by go_num,hide (HD.out.congr (fun x c _=>aP.row x c))⟩
        case measure=>first | (simp[intOf];done) | (simp[intOf];omega)
       case pos=>
        have dY:=hide (show Calls Tryz.prog 64 #[.pointer (some ⟨E.s,0,none⟩),.int .i64 i,.int .i64 1,.int .i64 (c:Int),.int .i64 (E.k:Int)] wr (fun e w'=>e= .returned (.bool (WS 1 c))∧wr=w')from o7.out wr _ 1 c (by rw[show aN 4=2 from rfl];decide) hcl HD.out.sp)
        obtain⟨B,hB⟩:∃B,WS 1 c=B:=⟨_,rfl⟩
        rw[hB]at dY
        have jI:=hide hB
        clear hB
        go_wp2_with fail
        refine dY.out.mono ?_
        clear dY
        rintro e w4 ⟨rfl,rfl⟩
        cases B
        case false=>
         go_wp2
         go_roundw
         case rel=>exact⟨c+1,by omega,by go_num,hide (HD.out.congr (fun x c _=>aP.no jI.out x c))⟩
         case measure=>simp[intOf];omega
        case true=>
         have iE:=hide (iF wr c hcl)
         go_wp2_with fail
         refine iE.out.mono ?_
         clear iE
         rintro e w4 ⟨rfl,hb⟩
         have HD4:=hide (HD.out.below HE.out hb)
         have Fx:=hide hb.size
         clear hb HD
         simp only[fQ]
         obtain⟨a,ha⟩:∃a,c / 1024=a:=⟨_,rfl⟩
         obtain⟨b,hb⟩:∃b,c / 64 % 16=b:=⟨_,rfl⟩
         obtain⟨s,hs⟩:∃s,c / 8 % 8=s:=⟨_,rfl⟩
         obtain⟨t,ht⟩:∃t,c % 8=t:=⟨_,rfl⟩
         have HF:=hide (show dW a b s t∧ay a b s t=c from by have:=jA hcl;rw[ha,hb,hs,ht]at this;exact this)
         rw[ha,hb,hs,ht]
         have kQ:=hide (And.intro ha (And.intro hb (And.intro hs ht)))
         clear ha hb hs ht
         have d1:∀o,(w4.alloc o).cell? ⟨Dd,1,none⟩=some (.int .i64 4):=fun o=>(HD4.out.below HE.out (below_alloc2 w4 o)).bx.get 1 _ bL.out.1
         have d2:∀o,(w4.alloc o).cell? ⟨Dd,2,none⟩=some (.int .i64 ad):=fun o=>(HD4.out.below HE.out (below_alloc2 w4 o)).bx.get 2 _ bL.out.2.1
         have d3:∀o,(w4.alloc o).cell? ⟨Dd,3,none⟩=some (.int .u8 pl):=fun o=>(HD4.out.below HE.out (below_alloc2 w4 o)).bx.get 3 _ bL.out.2.2.1
         have d5:∀o,(w4.alloc o).cell? ⟨Dd,5,none⟩=some (.slice rA rn rc):=fun o=>(HD4.out.below HE.out (below_alloc2 w4 o)).bx.get 5 _ bL.out.2.2.2.2.1
         have d6:∀o,(w4.alloc o).cell? ⟨Dd,6,none⟩=some (.slice tA tn tc):=fun o=>(HD4.out.below HE.out (below_alloc2 w4 o)).bx.get 6 _ bL.out.2.2.2.2.2.1
         go_wp2_with fail
         clear d1 d2 d3 d5 d6
         have HD5:=hide (HD4.out.below HE.out (below_alloc2 w4 (.cells #[.int .i64 (a:Int),.int .i64 (b:Int),.int .i64 (s:Int),.int .i64 (t:Int)] 29)))
         have bS:=hide (Bx.new w4 #[.int .i64 (a:Int),.int .i64 (b:Int),.int .i64 (s:Int),.int .i64 (t:Int)] 29)
         have Az:=hide (show E.N≤w4.heap.size∧w.heap.size≤w4.heap.size from⟨HD4.out.sp.sz,HD4.out.kc.size⟩)
         clear HD4
         generalize World.alloc w4 _=w5 at*
         generalize w4.heap.size=Q at*
         obtain⟨an,han,ha16⟩:=om.out
         subst han
         have Ae:=hide ha16
         clear ha16
         have uf:=hide (show pl<65536 from by have h1:=(gF.out w5 _ HD5.out.sp).pl;have h2:pl<256:=h1;omega)
         have BR:=hide (HD5.out.congr (fun x c' _=>aP.none_ jI.out hcl (fun o c' h=>by
          rw[← vv.out,IZ rfl]at h
          rcases h with⟨h,_⟩ | ⟨_,_,_,e,_,⟨h,_⟩,_⟩
          ·exact absurd h (by decide)
          ·cases h) x c'))
         clear HD5
         go_loopw [23] (fun xv wr=>xv= .int .i64 0∧Hid (DW E w Dd cs (aP E.n.ls i WS TS Dn 1 (c+1)) wr)) (fun _ _=>0)
         case atStart=>exact⟨rfl,BR⟩
         case round=>
          clear BR
          obtain⟨rfl,HE9⟩:=hrel
          go_wp2_with fail
          go_loopw [25] (fun xv wr=>xv= .int .i64 0∧Hid (DW E w Dd cs (aP E.n.ls i WS TS Dn 1 (c+1)) wr)) (fun _ _=>0)
          case atStart=>exact⟨rfl,HE9⟩
          case round=>
           clear HE9
           obtain⟨rfl,l6⟩:=hrel
           go_wp2_with fail
           go_roundw
           case rel=>exact⟨c+1,by omega,by go_num,l6⟩
           case measure=>simp[intOf];omega
end Go.Proofs.YtifkacnoiocebaaGreat
