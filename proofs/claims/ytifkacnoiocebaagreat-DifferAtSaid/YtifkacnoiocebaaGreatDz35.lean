/- A part of the proof: Sp15. -/
import Derived.Test.YtifkacnoiocebaaGreatDz33
set_option linter.unusedVariables false
set_option linter.unusedSimpArgs false
set_option maxRecDepth 100000
set_option maxHeartbeats 16000000
namespace Go.Proofs.YtifkacnoiocebaaGreat
open Go.Maps Go.RowKit Go.WideElems
def fO (a s:Nat) (l:List Nat) (y:Nat):Nat:=match l[y]? with | some e=>ay a (e / 8) s (e % 8) | none=>0
theorem OM {a s:Nat} {l:List Nat} {y e:Nat} (h:l[y]?=some e):fO a s l y=ay a (e / 8) s (e % 8):=by
 unfold fO
 rw[h]
theorem TV (E:SE) (hE:E.Ok) (w:World) (Dn:aB→Nat→Prop) (h:SP E Dn w) (i:Nat) (d:ak) (hd:E.n.ds[i]?=some d) (hok:fU d.dev) (nU:∀p:Nat,(p:Int)<aN d.kind→E.D ((i:Int),(p:Int))) (hkd:d.kind=4) (ho:(aD E.n.ls ((i:Int),1)).isSome =true):
  Calls Tryz.prog 34 #[.pointer (some ⟨E.s,0,none⟩),.agg #[.slice E.n.dA E.n.dn E.n.dc,.slice E.n.lA E.n.ln E.n.lc],.int .i64 (i:Int),.int .i64 (E.k:Int),.func (.func 32) #[] #[.pointer (some ⟨E.nA,0,none⟩),.pointer (some ⟨E.pS,0,none⟩),.pointer (some ⟨E.kA,0,none⟩),.pointer (some ⟨E.mA,0,none⟩)]] w fun e w'=>e= .returned (.tuple #[])∧SP E (iT E.n.au E.n.ls E.k i d.dev Dn) w'∧KC E.C w w':=by
 have Fy:=hide ho
 clear ho
 have qz:E.n.ln≤9223372036854775807:=by have:=hE.ln;have:=(h.net hE).ls.1;omega
 have HE:=hide hE
 have HS:=hide h
 have tY:=hide nU
 have iG:=h.net hE
 have hil:i<E.n.dn:=by have:=(List.getElem?_eq_some_iff.1 hd).1;have:=iG.iK;omega
 have hdl:=iG.cd
 have gF:=hide (fun(w':World) (dP:aB→Nat→Prop) (h':SP E dP w')=>show bW w' w'.heap.size d from(h'.net hE).qW d (List.mem_of_getElem? hd))
 obtain⟨db,j6,gK,hdb,_⟩:=iG.ds.2 (by omega)
 have HQ:=hide (fun(w':World) (hb:RowKit.Below w.heap.size w w')=>(fP (gK▸((h.up hE hb).net hE).ds) hd).2)
 have fI:=hide (fun(w1:World) (hb:RowKit.Below w.heap.size w w1)=>jJ E.n.dA E.n.dn E.n.dc E.n.lA E.n.ln E.n.lc E.n.ls (i:Int) 1 w1 qz (((h.up hE hb).net hE).ls))
 obtain⟨px,py,hpv⟩:=pV (aD E.n.ls ((i:Int),1))
 simp only[hpv]at fI
 have fK:=hide hok
 have oO:=hide hd
 have HB1:=hide (fun(o:Obj)=>below_alloc2 w o)
 have HB2:=hide (fun(o o':Obj)=>show RowKit.Below w.heap.size w ((w.alloc o).alloc o')from(below_alloc2 w o).trans ((below_alloc2 (w.alloc o) o').mono (below_alloc2 w o).size))
 rw[gK]at fI ⊢
 have Ku:=hide gK
 have hdn:E.n.dn≤maxLen:=by omega
 have GK:=hide hdl
 clear h hE nU iG hd hok hdb hpv gK hdl
 obtain⟨nm,kd,ad,pl,bA,bn,bc,bs,rA,rn,rc,rs,tA,tn,tc,ts⟩:=d
 simp only at hkd HQ
 subst hkd
 have ha16:=fK.out.qA (.inr (.inl rfl))
 simp only[ak.dev]at ha16
 have om:=hide (show∃an:Nat,ad=(an:Int)∧an<16 from⟨ad.toNat,by omega,by omega⟩)
 clear ha16
 have q0:=fun o=>(HQ.out _ (HB1.out o)).1
 have q1:=fun o=>(HQ.out _ (HB1.out o)).2.1
 have q2:=fun o=>(HQ.out _ (HB1.out o)).2.2.1
 have q3:=fun o=>(HQ.out _ (HB1.out o)).2.2.2.1
 have q4:=fun o=>(HQ.out _ (HB1.out o)).2.2.2.2.1
 have q5:=fun o=>(HQ.out _ (HB1.out o)).2.2.2.2.2.1
 have q6:=fun o=>(HQ.out _ (HB1.out o)).2.2.2.2.2.2
 obtain⟨opn,kL⟩:∃opn,(aD E.n.ls ((i:Int),1)).isSome =opn:=⟨_,rfl⟩
 rw[kL]at fI
 have zi:=hide kL
 clear kL
 go_enter Tryz.func34,Tryz.ntmps34
 go_wp2_with fail
 clear q0 q1 q2 q3 q4 q5 q6
 obtain⟨cs,hcs⟩:∃cs:Array Value,#[.string nm,.int .i64 4,.int .i64 ad,.int .u8 pl,.slice bA bn bc,.slice rA rn rc,.slice tA tn tc]=cs:=⟨_,rfl⟩
 have bL:=hide (show cs[1]?=some (.int .i64 4)∧cs[2]?=some (.int .i64 ad)∧cs[3]?=some (.int .u8 pl)∧cs[4]?=some (.slice bA bn bc)∧cs[5]?=some (.slice rA rn rc)∧cs[6]?=some (.slice tA tn tc)∧cs[0]?=some (.string nm)from by rw[← hcs];exact⟨rfl,rfl,rfl,rfl,rfl,rfl,rfl⟩)
 try simp only[hcs]
 have uj:=hide hcs
 clear hcs
 have HD0:=hide (show DW E w (w.heap.size+1) cs Dn ((w.alloc (.cells #[.slice (some ⟨db,j6,none⟩) E.n.dn E.n.dc,.slice E.n.lA E.n.ln E.n.lc] 25)).alloc (.cells cs 81))from
  ⟨HS.out.up HE.out (HB2.out _ _),KC.of_below (HB2.out _ _),by
   have:=Bx.new (w.alloc (.cells #[.slice (some ⟨db,j6,none⟩) E.n.dn E.n.dc,.slice E.n.lA E.n.ln E.n.lc] 25)) cs 81
   simpa using this,by have:=HS.out.sz;omega⟩)
 have kE:=hide (HB2.out (.cells #[.slice (some ⟨db,j6,none⟩) E.n.dn E.n.dc,.slice E.n.lA E.n.ln E.n.lc] 25) (.cells cs 81))
 generalize World.alloc (World.alloc w _) _=w2 at*
 refine(fI.out _ kE.out).mono ?_
 clear fI
 rintro en w3 ⟨rfl,hb3⟩
 have HD3:=hide (HD0.out.below HE.out hb3)
 clear hb3 HD0 kE HQ HB1 HB2
 go_wp2_with fail
 have HD2:=hide (HD3.out.below HE.out (below_alloc2 w3 (.cells #[.int .i64 px,.int .i64 py] 27)))
 clear HD3
 generalize World.alloc w3 _=w4 at*
 obtain⟨Dd,vw⟩:∃Dd,w.heap.size+1=Dd:=⟨_,rfl⟩
 rw[vw]at HD2 ⊢
 have jd:=hide (show w.heap.size≤Dd from by omega)
 clear vw
 obtain⟨WS,hWS⟩:∃WS:Nat→Nat→Bool,(fun(q c:Nat)=>iC E.n.au E.n.ls E.k ((i:Int),(q:Int)) c)=WS:=⟨_,rfl⟩
 have o7:=hide (fun(wr:World) (dP:aB→Nat→Prop) (p c:Nat) (hp:(p:Int)<aN 4) (hc:c<16384) (h:SP E dP wr)=>show Calls Tryz.prog 64 #[.pointer (some ⟨E.s,0,none⟩),.int .i64 i,.int .i64 (p:Int),.int .i64 (c:Int),.int .i64 (E.k:Int)] wr (fun e w'=>e= .returned (.bool (WS p c))∧wr=w')from by
  have:=xg E HE.out wr dP h i p (tY.out p hp) c hc
  rw[← hWS]
  exact this)
 obtain⟨TS,o8⟩:∃TS,Tp (ak.dev ⟨nm,4,ad,pl,bA,bn,bc,bs,rA,rn,rc,rs,tA,tn,tc,ts⟩) opn WS=TS:=⟨_,rfl⟩
 have vv:=hide o8
 have BQ:=hide (fun(x:aB) (c:Nat) (hc:c<16384)=>show aP E.n.ls i WS TS Dn 2 0 x c↔iT E.n.au E.n.ls E.k i (ak.dev ⟨nm,4,ad,pl,bA,bn,bc,bs,rA,rn,rc,rs,tA,tn,tc,ts⟩) Dn x c from by
  rw[← o8,← hWS,← zi.out]
  exact aP.told fK.out (P:=2) (by rfl) x c hc)
 have MP:=hide (fun(p c:Nat)=>show WS p c=iC E.n.au E.n.ls E.k ((i:Int),(p:Int)) c from by rw[← hWS])
 clear hWS o8
 obtain rfl:opn=true:=zi.out.symm.trans Fy.out
 go_loopw [13,14] (fun ov iv wr=>∃e:Nat,e≤128∧iv= .int .i64 (e:Int)∧Hid (OW E w Dd cs Dn WS e ov wr)) (fun _ iv _=>128 - (intOf iv).toNat)
 case atStart=>exact⟨0,by omega,rfl,hide (OW.start HD2.out jd.out)⟩
 case round=>
  clear HD2
  obtain⟨e,he,rfl,HO⟩:=hrel
  by_cases hel:e<128
  case neg=>
   obtain rfl:e=128:=by omega
   obtain⟨OA,oc,L0,hv,_,_⟩:=HO.out.sl
   obtain⟨on,hon⟩:∃on,(iX WS 128).length =on:=⟨_,rfl⟩
   rw[hon]at hv
   subst hv
   have Rj:=hide (And.intro hon (show on≤128 from by rw[← hon];exact Kw WS 128))
   have afG:on≤128:=Rj.out.2
   clear hon
   have HD1:=HO
   clear HO
   have d1:wr.cell? ⟨Dd,1,none⟩=some (.int .i64 4):=HD1.out.bx.get 1 _ bL.out.1
   go_wp2_with fail
   clear d1
   try simp only[Int.cast_ofNat_Int]
   go_loopw [17] (fun iv wr=>∃p:Nat,p≤2∧iv= .int .i64 (p:Int)∧Hid (OW E w Dd cs (aP E.n.ls i WS TS Dn p 0) WS 128 (.slice OA on oc) wr)) (fun iv _=>2 - (intOf iv).toNat)
   case atStart=>exact⟨0,by omega,rfl,hide (HD1.out.congr (fun x c _=>aP.zero x c))⟩
   case round=>
    clear HD1
    obtain⟨p,hp,rfl,HD⟩:=hrel
    have mW:=hide (iI 4 wr)
    rw[show aN 4=2 from rfl]at mW
    have d1:wr.cell? ⟨Dd,1,none⟩=some (.int .i64 4):=HD.out.bx.get 1 _ bL.out.1
    go_wp2_with fail
    refine mW.out.mono ?_
    clear mW d1
    rintro e w3 ⟨rfl,hb⟩
    have HD3:=hide (HD.out.below HE.out hb)
    clear hb HD
    by_cases hpl:p<2
    case neg=>
     obtain rfl:p=2:=by omega
     go_wp2
     go_end0
     exact⟨rfl,HD3.out.sp.congr (fun x c hc=>BQ.out x c hc),HD3.out.kc⟩
    case pos=>
     rcases(by omega:p=0∨p=1)with rfl | rfl
     ·as_aux_lemma=>
       go_wp2_with fail
       try simp only[Int.natCast_zero,Int.cast_ofNat_Int]
       go_loopw [18] (fun cv wr=>∃c:Nat,c≤16384∧cv= .int .i64 (c:Int)∧Hid (OW E w Dd cs (aP E.n.ls i WS TS Dn 0 c) WS 128 (.slice OA on oc) wr)) (fun cv _=>16384 - (intOf cv).toNat)
       case atStart=>exact⟨0,by omega,rfl,HD3⟩
       case round=>
        clear HD3
        obtain⟨c,hc,rfl,HD⟩:=hrel
        by_cases hcl:c<16384
        case neg=>
         obtain rfl:c=16384:=by omega
         go_wp2
         go_roundw
         case rel=>exact⟨0+1,by omega,by go_num,hide (HD.out.congr (fun x c _=>aP.row x c))⟩
         case measure=>first | (simp[intOf];done) | (simp[intOf];omega)
        case pos=>
         have dY:=hide (show Calls Tryz.prog 64 #[.pointer (some ⟨E.s,0,none⟩),.int .i64 i,.int .i64 0,.int .i64 (c:Int),.int .i64 (E.k:Int)] wr (fun e w'=>e= .returned (.bool (WS 0 c))∧wr=w')from o7.out wr _ 0 c (by rw[show aN 4=2 from rfl];decide) hcl HD.out.sp)
         obtain⟨B,hB⟩:∃B,WS 0 c=B:=⟨_,rfl⟩
         rw[hB]at dY
         have jI:=hide hB
         clear hB
         go_wp2_with fail
         refine dY.out.mono ?_
         clear dY
         rintro e w4 ⟨rfl,rfl⟩
         cases B
         case false=>
          go_wp2
          go_roundw
          case rel=>exact⟨c+1,by omega,by go_num,hide (HD.out.congr (fun x c _=>aP.no jI.out x c))⟩
          case measure=>simp[intOf];omega
         case true=>
          have iE:=hide (iF wr c hcl)
          go_wp2_with fail
          refine iE.out.mono ?_
          clear iE
          rintro e w4 ⟨rfl,hb⟩
          have HD4:=hide (HD.out.below HE.out hb)
          have Fx:=hide hb.size
          clear hb HD
          simp only[fQ]
          obtain⟨a,ha⟩:∃a,c / 1024=a:=⟨_,rfl⟩
          obtain⟨b,hb⟩:∃b,c / 64 % 16=b:=⟨_,rfl⟩
          obtain⟨s,hs⟩:∃s,c / 8 % 8=s:=⟨_,rfl⟩
          obtain⟨t,ht⟩:∃t,c % 8=t:=⟨_,rfl⟩
          have HF:=hide (show dW a b s t∧ay a b s t=c from by have:=jA hcl;rw[ha,hb,hs,ht]at this;exact this)
          rw[ha,hb,hs,ht]
          have kQ:=hide (And.intro ha (And.intro hb (And.intro hs ht)))
          clear ha hb hs ht
          have d1:∀o,(w4.alloc o).cell? ⟨Dd,1,none⟩=some (.int .i64 4):=fun o=>(HD4.out.below HE.out (below_alloc2 w4 o)).bx.get 1 _ bL.out.1
          have d2:∀o,(w4.alloc o).cell? ⟨Dd,2,none⟩=some (.int .i64 ad):=fun o=>(HD4.out.below HE.out (below_alloc2 w4 o)).bx.get 2 _ bL.out.2.1
          have d3:∀o,(w4.alloc o).cell? ⟨Dd,3,none⟩=some (.int .u8 pl):=fun o=>(HD4.out.below HE.out (below_alloc2 w4 o)).bx.get 3 _ bL.out.2.2.1
          have d5:∀o,(w4.alloc o).cell? ⟨Dd,5,none⟩=some (.slice rA rn rc):=fun o=>(HD4.out.below HE.out (below_alloc2 w4 o)).bx.get 5 _ bL.out.2.2.2.2.1
          have d6:∀o,(w4.alloc o).cell? ⟨Dd,6,none⟩=some (.slice tA tn tc):=fun o=>(HD4.out.below HE.out (below_alloc2 w4 o)).bx.get 6 _ bL.out.2.2.2.2.2.1
          go_wp2_with fail
          clear d1 d2 d3 d5 d6
          have HD5:=hide (HD4.out.below HE.out (below_alloc2 w4 (.cells #[.int .i64 (a:Int),.int .i64 (b:Int),.int .i64 (s:Int),.int .i64 (t:Int)] 29)))
          have bS:=hide (Bx.new w4 #[.int .i64 (a:Int),.int .i64 (b:Int),.int .i64 (s:Int),.int .i64 (t:Int)] 29)
          have Az:=hide (show E.N≤w4.heap.size∧w.heap.size≤w4.heap.size from⟨HD4.out.sp.sz,HD4.out.kc.size⟩)
          clear HD4
          generalize World.alloc w4 _=w5 at*
          generalize w4.heap.size=Q at*
          obtain⟨an,han,ha16⟩:=om.out
          subst han
          have Ae:=hide ha16
          clear ha16
          have uf:=hide (show pl<65536 from by have h1:=(gF.out w5 _ HD5.out.sp).pl;have h2:pl<256:=h1;omega)
          have HT:=hide (show∀o' c',TS 0 c o' c'↔(o'=1∧∃y,y<8∧pl.testBit y=true∧c'=ay an b y t)from fun o' c'=>by
           rw[← vv.out,IZ rfl]
           unfold Kr
           rw[kQ.out.2.1,kQ.out.2.2.2]
           constructor
           ·rintro(⟨_,y,h1,h2,h3,h4⟩ | ⟨h,_⟩)
            ·exact⟨h3,y,h1,h2,h4⟩
            ·exact absurd h (by decide)
           ·rintro⟨h3,y,h1,h2,h4⟩
            exact .inl ⟨rfl,y,h1,h2,h3,h4⟩)
          go_loopw [23] (fun xv wr=>∃x:Nat,x≤8∧xv= .int .i64 (x:Int)∧Hid (OW E w Dd cs (kM E.n.ls i 1 (fun y=>pl.testBit y=true) (fun y=>ay an b y t) x (aP E.n.ls i WS TS Dn 0 c)) WS 128 (.slice OA on oc) wr∧Bx wr Q #[.int .i64 (a:Int),.int .i64 (b:Int),.int .i64 (s:Int),.int .i64 (t:Int)] 29)) (fun xv _=>8 - (intOf xv).toNat)
          case atStart=>exact⟨0,by omega,rfl,hide ⟨HD5.out.congr (fun z c' _=>kM.zero z c'),bS.out⟩⟩
          case round=>
           clear HD5 bS
           obtain⟨x,hx,rfl,HD⟩:=hrel
           by_cases hxl:x<8
           case neg=>
            obtain rfl:x=8:=by omega
            go_wp2_with fail
            have BR:=hide (HD.out.1.congr (fun z c' _=>kM.done jI.out hcl HT.out z c'))
            clear HD
            go_loopw [25] (fun xv wr=>xv= .int .i64 0∧Hid (OW E w Dd cs (aP E.n.ls i WS TS Dn 0 (c+1)) WS 128 (.slice OA on oc) wr)) (fun _ _=>0)
            case atStart=>exact⟨rfl,BR⟩
            case round=>
             clear BR
             obtain⟨rfl,l6⟩:=hrel
             by_cases hn0:0<on
             ·go_wp2_with fail
              go_roundw
              case rel=>exact⟨c+1,by omega,by go_num,l6⟩
              case measure=>simp[intOf];omega
             ·go_wp2_with fail
              go_roundw
              case rel=>exact⟨c+1,by omega,by go_num,l6⟩
              case measure=>simp[intOf];omega
           case pos=>
            have d3:wr.cell? ⟨Dd,3,none⟩=some (.int .u8 pl):=HD.out.1.bx.get 3 _ bL.out.2.2.1
            obtain⟨B2,hB2⟩:∃B2,hasB pl (x:Int)=B2:=⟨_,rfl⟩
            have H9:=hide (nu wr pl (x:Int) uf.out B2 hB2)
            have HB2:=hide (show pl.testBit x=B2 from by rw[← hB2,D8 (by omega)])
            clear hB2
            have Wo:(pl:Int)<256:=by have h1:=(gF.out wr _ HD.out.1.sp).pl;have h2:pl<256:=h1;omega
            go_wp2_with fail
            clear d3
            refine H9.out.mono ?_
            clear H9
            rintro e w6 ⟨rfl,rfl⟩
            cases B2
            case false=>
             have HD6:=hide (And.intro (HD.out.1.congr (fun z c' _=>kM.no (S:=fun y=>pl.testBit y=true) (by show¬pl.testBit x=true;rw[HB2.out];decide) z c')) HD.out.2)
             clear HD
             go_wp2_with fail
             go_roundw
             case rel=>exact⟨x+1,by omega,by go_num,HD6⟩
             case measure=>simp[intOf];omega
            case true=>
             have HX:=hide HD.out.2
             have x0:wr.cell? ⟨Q,0,none⟩=some (.int .i64 (a:Int)):=HX.out.get 0 _ rfl
             have x1:wr.cell? ⟨Q,1,none⟩=some (.int .i64 (b:Int)):=HX.out.get 1 _ rfl
             have x2:wr.cell? ⟨Q,2,none⟩=some (.int .i64 (s:Int)):=HX.out.get 2 _ rfl
             have x3:wr.cell? ⟨Q,3,none⟩=some (.int .i64 (t:Int)):=HX.out.get 3 _ rfl
             have d2:∀o,(wr.alloc o).cell? ⟨Dd,2,none⟩=some (.int .i64 (an:Int)):=fun o=>(HD.out.1.below HE.out (below_alloc2 wr o)).bx.get 2 _ bL.out.2.1
             go_wp2_with fail
             clear x0 x1 x2 x3
             clear d2
             have HD6:=hide (show OW E w Dd cs (kM E.n.ls i 1 (fun y=>pl.testBit y=true) (fun y=>ay an b y t) x (aP E.n.ls i WS TS Dn 0 c)) WS 128 (.slice OA on oc) (wr.alloc (.cells #[.int .i64 (an:Int),.int .i64 (b:Int),.int .i64 (x:Int),.int .i64 (t:Int)] 29))∧Bx (wr.alloc (.cells #[.int .i64 (an:Int),.int .i64 (b:Int),.int .i64 (x:Int),.int .i64 (t:Int)] 29)) Q #[.int .i64 (a:Int),.int .i64 (b:Int),.int .i64 (s:Int),.int .i64 (t:Int)] 29 from
              ⟨HD.out.1.below HE.out (below_alloc2 wr _),HX.out.below (below_alloc2 wr _)⟩)
             clear HD HX
             generalize World.alloc wr _=w6 at*
             have fM:=hide (tK E HE.out w6 _ HD6.out.1.sp (i:Int) ((1:Nat):Int) an b x t ⟨Ae.out,HF.out.1.b,hxl,HF.out.1.d⟩)
             simp only[Int.cast_ofNat_Int]at fM
             refine fM.out.mono ?_
             clear fM
             rintro e w7 ⟨rfl,hsp,hkc⟩
             have HD7:=hide (And.intro ((HD6.out.1.put HE.out hsp hkc).congr (fun z c' _=>kM.yes (S:=fun y=>pl.testBit y=true) (f:=fun y=>ay an b y t) HB2.out z c')) (HD6.out.2.kc hkc (DW.Ab HE.out Az.out.1)))
             clear hsp hkc HD6
             go_wp2_with fail
             go_roundw
             case rel=>exact⟨x+1,by omega,by go_num,HD7⟩
             case measure=>simp[intOf];omega
     ·as_aux_lemma=>
       go_wp2_with fail
       try simp only[Int.natCast_zero,Int.cast_ofNat_Int]
       go_loopw [18] (fun cv wr=>∃c:Nat,c≤16384∧cv= .int .i64 (c:Int)∧Hid (OW E w Dd cs (aP E.n.ls i WS TS Dn 1 c) WS 128 (.slice OA on oc) wr)) (fun cv _=>16384 - (intOf cv).toNat)
       case atStart=>exact⟨0,by omega,rfl,HD3⟩
       case round=>
        clear HD3
        obtain⟨c,hc,rfl,HD⟩:=hrel
        by_cases hcl:c<16384
        case neg=>
         obtain rfl:c=16384:=by omega
         go_wp2
         go_roundw
         case rel=>exact⟨1+1,by omega,by go_num,hide (HD.out.congr (fun x c _=>aP.row x c))⟩
         case measure=>first | (simp[intOf];done) | (simp[intOf];omega)
        case pos=>
         have dY:=hide (show Calls Tryz.prog 64 #[.pointer (some ⟨E.s,0,none⟩),.int .i64 i,.int .i64 1,.int .i64 (c:Int),.int .i64 (E.k:Int)] wr (fun e w'=>e= .returned (.bool (WS 1 c))∧wr=w')from o7.out wr _ 1 c (by rw[show aN 4=2 from rfl];decide) hcl HD.out.sp)
         obtain⟨B,hB⟩:∃B,WS 1 c=B:=⟨_,rfl⟩
         rw[hB]at dY
         have jI:=hide hB
         clear hB
         go_wp2_with fail
         refine dY.out.mono ?_
         clear dY
         rintro e w4 ⟨rfl,rfl⟩
         cases B
         case false=>
          go_wp2
          go_roundw
          case rel=>exact⟨c+1,by omega,by go_num,hide (HD.out.congr (fun x c _=>aP.no jI.out x c))⟩
          case measure=>simp[intOf];omega
         case true=>
          have iE:=hide (iF wr c hcl)
          go_wp2_with fail
          refine iE.out.mono ?_
          clear iE
          rintro e w4 ⟨rfl,hb⟩
          have HD4:=hide (HD.out.below HE.out hb)
          have Fx:=hide hb.size
          clear hb HD
          simp only[fQ]
          obtain⟨a,ha⟩:∃a,c / 1024=a:=⟨_,rfl⟩
          obtain⟨b,hb⟩:∃b,c / 64 % 16=b:=⟨_,rfl⟩
          obtain⟨s,hs⟩:∃s,c / 8 % 8=s:=⟨_,rfl⟩
          obtain⟨t,ht⟩:∃t,c % 8=t:=⟨_,rfl⟩
          have HF:=hide (show dW a b s t∧ay a b s t=c from by have:=jA hcl;rw[ha,hb,hs,ht]at this;exact this)
          rw[ha,hb,hs,ht]
          have kQ:=hide (And.intro ha (And.intro hb (And.intro hs ht)))
          clear ha hb hs ht
          have d1:∀o,(w4.alloc o).cell? ⟨Dd,1,none⟩=some (.int .i64 4):=fun o=>(HD4.out.below HE.out (below_alloc2 w4 o)).bx.get 1 _ bL.out.1
          have d2:∀o,(w4.alloc o).cell? ⟨Dd,2,none⟩=some (.int .i64 ad):=fun o=>(HD4.out.below HE.out (below_alloc2 w4 o)).bx.get 2 _ bL.out.2.1
          have d3:∀o,(w4.alloc o).cell? ⟨Dd,3,none⟩=some (.int .u8 pl):=fun o=>(HD4.out.below HE.out (below_alloc2 w4 o)).bx.get 3 _ bL.out.2.2.1
          have d5:∀o,(w4.alloc o).cell? ⟨Dd,5,none⟩=some (.slice rA rn rc):=fun o=>(HD4.out.below HE.out (below_alloc2 w4 o)).bx.get 5 _ bL.out.2.2.2.2.1
          have d6:∀o,(w4.alloc o).cell? ⟨Dd,6,none⟩=some (.slice tA tn tc):=fun o=>(HD4.out.below HE.out (below_alloc2 w4 o)).bx.get 6 _ bL.out.2.2.2.2.2.1
          go_wp2_with fail
          clear d1 d2 d3 d5 d6
          have HD5:=hide (HD4.out.below HE.out (below_alloc2 w4 (.cells #[.int .i64 (a:Int),.int .i64 (b:Int),.int .i64 (s:Int),.int .i64 (t:Int)] 29)))
          have bS:=hide (Bx.new w4 #[.int .i64 (a:Int),.int .i64 (b:Int),.int .i64 (s:Int),.int .i64 (t:Int)] 29)
          have Az:=hide (show E.N≤w4.heap.size∧w.heap.size≤w4.heap.size from⟨HD4.out.sp.sz,HD4.out.kc.size⟩)
          clear HD4
          generalize World.alloc w4 _=w5 at*
          generalize w4.heap.size=Q at*
          obtain⟨an,han,ha16⟩:=om.out
          subst han
          have Ae:=hide ha16
          clear ha16
          have uf:=hide (show pl<65536 from by have h1:=(gF.out w5 _ HD5.out.sp).pl;have h2:pl<256:=h1;omega)
          have HT:=hide (show∀o' c',TS 1 c o' c'↔(an=b∧pl.testBit t=true∧∃e,e<128∧Gs WS e∧o'=0∧c'=ay a (e / 8) s (e % 8))from fun o' c'=>by
           rw[← vv.out,IZ rfl]
           unfold Kr
           rw[kQ.out.1,kQ.out.2.1,kQ.out.2.2.1,kQ.out.2.2.2]
           constructor
           ·rintro(⟨h,_⟩ | ⟨_,h1,h2,e,h3,⟨_,h4⟩,h5⟩)
            ·exact absurd h (by decide)
            ·exact⟨h1,h2,e,h3,h4,h5⟩
           ·rintro⟨h1,h2,e,h3,h4,h5⟩
            exact .inr ⟨rfl,h1,h2,e,h3,⟨rfl,h4⟩,h5⟩)
          go_loopw [23] (fun xv wr=>xv= .int .i64 0∧Hid (OW E w Dd cs (aP E.n.ls i WS TS Dn 1 c) WS 128 (.slice OA on oc) wr∧Bx wr Q #[.int .i64 (a:Int),.int .i64 (b:Int),.int .i64 (s:Int),.int .i64 (t:Int)] 29)) (fun _ _=>0)
          case atStart=>exact⟨rfl,hide ⟨HD5.out,bS.out⟩⟩
          case round=>
           clear HD5 bS
           obtain⟨rfl,HD5⟩:=hrel
           go_wp2_with fail
           obtain⟨TB,Zc⟩:∃TB,hasB pl (t:Int)=TB:=⟨_,rfl⟩
           have HTB:=hide (show pl.testBit t=TB from by rw[← Zc,D8 (by have:=HF.out.1.d;omega)])
           have H9:=hide (fun(w':World)=>nu w' pl (t:Int) uf.out TB Zc)
           clear Zc
           have Wo:(pl:Int)<256:=by have h1:=(gF.out wr _ HD5.out.1.sp).pl;have h2:pl<256:=h1;omega
           by_cases hG:an=b∧TB=true
           case neg=>
            have BR:=hide (And.intro (HD5.out.1.congr (fun x c' _=>aP.none_ jI.out hcl (fun o c' h=>by
             have:=(HT.out o c').1 h
             rw[HTB.out]at this
             exact hG ⟨this.1,this.2.1⟩) x c')) HD5.out.2)
            have HG:=hide hG
            clear HD5 hG
            go_loopw [25] (fun xv wr=>xv= .int .i64 0∧Hid (OW E w Dd cs (aP E.n.ls i WS TS Dn 1 (c+1)) WS 128 (.slice OA on oc) wr∧Bx wr Q #[.int .i64 (a:Int),.int .i64 (b:Int),.int .i64 (s:Int),.int .i64 (t:Int)] 29)) (fun _ _=>0)
            case atStart=>exact⟨rfl,BR⟩
            case round=>
             clear BR
             obtain⟨rfl,l6⟩:=hrel
             by_cases hn0:0<on
             case neg=>
              go_wp2_with fail
              go_roundw
              case rel=>exact⟨c+1,by omega,by go_num,hide l6.out.1⟩
              case measure=>simp[intOf];omega
             case pos=>
              have HX:=hide l6.out.2
              have x0:wr.cell? ⟨Q,0,none⟩=some (.int .i64 (a:Int)):=HX.out.get 0 _ rfl
              have x1:wr.cell? ⟨Q,1,none⟩=some (.int .i64 (b:Int)):=HX.out.get 1 _ rfl
              have x2:wr.cell? ⟨Q,2,none⟩=some (.int .i64 (s:Int)):=HX.out.get 2 _ rfl
              have x3:wr.cell? ⟨Q,3,none⟩=some (.int .i64 (t:Int)):=HX.out.get 3 _ rfl
              have d2:wr.cell? ⟨Dd,2,none⟩=some (.int .i64 (an:Int)):=l6.out.1.bx.get 2 _ bL.out.2.1
              have d3:wr.cell? ⟨Dd,3,none⟩=some (.int .u8 pl):=l6.out.1.bx.get 3 _ bL.out.2.2.1
              by_cases hA:b=an
              case neg=>
               have hne:¬((b:Int)=(an:Int)):=by omega
               go_wp2_with fail
               go_roundw
               case rel=>exact⟨c+1,by omega,by go_num,hide l6.out.1⟩
               case measure=>simp[intOf];omega
              case pos=>
               have HTF:TB=false:=by
                cases TB
                ·rfl
                ·exact absurd ⟨hA.symm,rfl⟩ HG.out
               subst HTF
               obtain rfl:=hA
               go_wp2_with fail
               refine(H9.out _).mono ?_
               rintro e w6 ⟨rfl,rfl⟩
               go_wp2_with fail
               go_roundw
               case rel=>exact⟨c+1,by omega,by go_num,hide l6.out.1⟩
               case measure=>simp[intOf];omega
           case pos=>
            obtain⟨rfl,rfl⟩:=hG
            have HGD:=hide (show∀o' c',TS 1 c o' c'↔(o'=0∧∃y,y<on∧True∧c'=fO a s (iX WS 128) y)from fun o' c'=>by
             rw[HT.out o' c']
             constructor
             ·rintro⟨_,_,e,h3,h4,h5,h6⟩
              obtain⟨y,hy⟩:=List.getElem?_of_mem (D7.2 ⟨h3,h4⟩)
              exact⟨h5,y,by rw[← Rj.out.1];exact(List.getElem?_eq_some_iff.1 hy).1,trivial,by rw[OM hy];exact h6⟩
             ·rintro⟨h5,y,h1,_,h6⟩
              obtain⟨e,he⟩:∃e,(iX WS 128)[y]?=some e:=⟨_,List.getElem?_eq_getElem (by rw[Rj.out.1];exact h1)⟩
              have hm:=D7.1 (List.mem_of_getElem? he)
              rw[OM he]at h6
              exact⟨rfl,HTB.out,e,hm.1,hm.2,h5,h6⟩)
            go_loopw [25] (fun xv wr=>∃x:Nat,x≤on∧xv= .int .i64 (x:Int)∧Hid (OW E w Dd cs (kM E.n.ls i 0 (fun _=>True) (fO a s (iX WS 128)) x (aP E.n.ls i WS TS Dn 1 c)) WS 128 (.slice OA on oc) wr∧Bx wr Q #[.int .i64 (a:Int),.int .i64 (an:Int),.int .i64 (s:Int),.int .i64 (t:Int)] 29)) (fun xv _=>on - (intOf xv).toNat)
            case atStart=>exact⟨0,by omega,rfl,hide ⟨HD5.out.1.congr (fun z c' _=>kM.zero z c'),HD5.out.2⟩⟩
            case round=>
             clear HD5
             obtain⟨x,hx,rfl,l6⟩:=hrel
             by_cases hxl:x<on
             case neg=>
              obtain rfl:x=on:=by omega
              go_wp2_with fail
              go_roundw
              case rel=>exact⟨c+1,by omega,by go_num,hide (l6.out.1.congr (fun z c' _=>kM.done jI.out hcl HGD.out z c'))⟩
              case measure=>simp[intOf];omega
             case pos=>
              have HX:=hide l6.out.2
              have x0:wr.cell? ⟨Q,0,none⟩=some (.int .i64 (a:Int)):=HX.out.get 0 _ rfl
              have x1:wr.cell? ⟨Q,1,none⟩=some (.int .i64 (an:Int)):=HX.out.get 1 _ rfl
              have x2:wr.cell? ⟨Q,2,none⟩=some (.int .i64 (s:Int)):=HX.out.get 2 _ rfl
              have x3:wr.cell? ⟨Q,3,none⟩=some (.int .i64 (t:Int)):=HX.out.get 3 _ rfl
              have d2:wr.cell? ⟨Dd,2,none⟩=some (.int .i64 (an:Int)):=l6.out.1.bx.get 2 _ bL.out.2.1
              have d3:wr.cell? ⟨Dd,3,none⟩=some (.int .u8 pl):=l6.out.1.bx.get 3 _ bL.out.2.2.1
              go_wp2_with fail
              refine(H9.out _).mono ?_
              rintro e w6 ⟨rfl,rfl⟩
              clear d2 d3
              go_wp2_with fail
              clear x0 x1 x2 x3
              have Zd:=hide (show∀q,(Value.slice OA on oc).ownBlock =some q→q<wr.heap.size from fun q hq=>by
               obtain⟨L,h1,_⟩:=l6.out.1.own
               exact(h1.lt q hq).2)
              have o9:=hide (show OW E w Dd cs (kM E.n.ls i 0 (fun _=>True) (fO a s (iX WS 128)) x (aP E.n.ls i WS TS Dn 1 c)) WS 128 (.slice OA on oc) (wr.alloc (.cells #[.int .i64 (a:Int),.int .i64 (an:Int),.int .i64 (s:Int),.int .i64 (t:Int)] 29))∧Bx (wr.alloc (.cells #[.int .i64 (a:Int),.int .i64 (an:Int),.int .i64 (s:Int),.int .i64 (t:Int)] 29)) Q #[.int .i64 (a:Int),.int .i64 (an:Int),.int .i64 (s:Int),.int .i64 (t:Int)] 29∧Bx (wr.alloc (.cells #[.int .i64 (a:Int),.int .i64 (an:Int),.int .i64 (s:Int),.int .i64 (t:Int)] 29)) wr.heap.size #[.int .i64 (a:Int),.int .i64 (an:Int),.int .i64 (s:Int),.int .i64 (t:Int)] 29∧Dd<wr.heap.size∧Q<wr.heap.size from
               ⟨l6.out.1.below HE.out (below_alloc2 wr _),HX.out.below (below_alloc2 wr _),Bx.new wr _ _,l6.out.1.bx.lt,HX.out.lt⟩)
              clear l6 HX
              generalize World.alloc wr _=w6 at*
              generalize wr.heap.size=R at*
              obtain⟨OA',oc',L,hv,hsl,hL⟩:=o9.out.1.sl
              rw[Rj.out.1]at hv hsl
              obtain⟨rfl,_,rfl⟩:=Value.slice.inj hv
              clear hv
              obtain⟨g,go0,rfl,hgl,hgc⟩:=hsl.2 (by omega)
              obtain⟨e,hee⟩:∃e,(iX WS 128)[x]?=some e:=⟨_,List.getElem?_eq_getElem (by rw[Rj.out.1];exact hxl)⟩
              obtain⟨p,hpp⟩:∃p,L[x]?=some p:=⟨_,List.getElem?_eq_getElem (by rw[hsl.1];exact hxl)⟩
              have hkk:(p.src,p.dz)=OL e:=by
               have:=congrArg (fun l=>l[x]?) hL
               simp only[List.getElem?_map,hpp,hee,Option.map_some]at this
               exact Option.some.inj this
              have hp1:p.src=((e / 8:Nat):Int):=congrArg Prod.fst hkk
              have hp2:p.dz=((e % 8:Nat):Int):=congrArg Prod.snd hkk
              have g0:w6.cell? ⟨g,go0+x*4,none⟩=some (.int .i64 p.src):=hgc x p hpp 0 _ rfl
              have g2:w6.cell? ⟨g,go0+x*4+2,none⟩=some (.int .i64 p.dz):=hgc x p hpp 2 _ rfl
              rw[hp1]at g0
              rw[hp2]at g2
              have Rk:=hide hee
              have hm:=D7.1 (List.mem_of_getElem? hee)
              obtain⟨e1,he1⟩:∃e1,e / 8=e1:=⟨_,rfl⟩
              obtain⟨e2,he2⟩:∃e2,e % 8=e2:=⟨_,rfl⟩
              have Fg:=hide (show dW a e1 s e2∧fO a s (iX WS 128) x=ay a e1 s e2 from⟨⟨HF.out.1.a,by have:=hm.1;omega,HF.out.1.s,by omega⟩,by rw[OM hee,he1,he2]⟩)
              rw[he1]at g0
              rw[he2]at g2
              have hgR:g≠R:=Nat.ne_of_lt (Zd.out g rfl)
              have hRg:R≠g:=Ne.symm hgR
              clear hsl hL hgl hgc hee hpp hkk hp1 hp2 hm he1 he2 Rk
              have y0:w6.cell? ⟨R,0,none⟩=some (.int .i64 (a:Int)):=o9.out.2.2.1.get 0 _ rfl
              have y1:w6.cell? ⟨R,1,none⟩=some (.int .i64 (an:Int)):=o9.out.2.2.1.get 1 _ rfl
              have y2:w6.cell? ⟨R,2,none⟩=some (.int .i64 (s:Int)):=o9.out.2.2.1.get 2 _ rfl
              have y3:w6.cell? ⟨R,3,none⟩=some (.int .i64 (t:Int)):=o9.out.2.2.1.get 3 _ rfl
              have f1:w6.frozen? ⟨R,1,none⟩=false:=o9.out.2.2.1.frozen 1
              have f3:w6.frozen? ⟨R,3,none⟩=false:=o9.out.2.2.1.frozen 3
              go_region
              clear g0 g2 y0 y1 y2 y3 f1 f3 hgR hRg
              have kG:=hide (show OW E w Dd cs (kM E.n.ls i 0 (fun _=>True) (fO a s (iX WS 128)) x (aP E.n.ls i WS TS Dn 1 c)) WS 128 (.slice (some ⟨g,go0,none⟩) on oc) ((w6.setCell ⟨R,1,none⟩ (.int .i64 (e1:Int))).setCell ⟨R,3,none⟩ (.int .i64 (e2:Int))).drew ∧Bx ((w6.setCell ⟨R,1,none⟩ (.int .i64 (e1:Int))).setCell ⟨R,3,none⟩ (.int .i64 (e2:Int))).drew Q #[.int .i64 (a:Int),.int .i64 (an:Int),.int .i64 (s:Int),.int .i64 (t:Int)] 29∧Bx ((w6.setCell ⟨R,1,none⟩ (.int .i64 (e1:Int))).setCell ⟨R,3,none⟩ (.int .i64 (e2:Int))).drew R #[.int .i64 (a:Int),.int .i64 (e1:Int),.int .i64 (s:Int),.int .i64 (e2:Int)] 29 from by
               have hob:(Value.slice (some ⟨g,go0,none⟩) on oc).ownBlock ≠some R:=fun hq=>by have:=Zd.out R hq;omega
               refine⟨((o9.out.1.set HE.out ⟨R,1,none⟩ (.int .i64 (e1:Int)) o9.out.2.2.2.1 hob).set HE.out ⟨R,3,none⟩ (.int .i64 (e2:Int)) o9.out.2.2.2.1 hob).below HE.out (RowKit.Below.refl _ _).drew,?_,?_⟩
               ·exact((o9.out.2.1.far ⟨R,1,none⟩ (.int .i64 (e1:Int)) (Nat.ne_of_lt o9.out.2.2.2.2)).far ⟨R,3,none⟩ (.int .i64 (e2:Int)) (Nat.ne_of_lt o9.out.2.2.2.2)).below (RowKit.Below.refl _ _).drew
               ·exact((o9.out.2.2.1.set 1 (.int .i64 (e1:Int))).set 3 (.int .i64 (e2:Int))).below (RowKit.Below.refl _ _).drew)
              clear o9 Zd
              generalize World.drew (World.setCell (World.setCell w6 _ _) _ _)=w8 at*
              have y0:w8.cell? ⟨R,0,none⟩=some (.int .i64 (a:Int)):=kG.out.2.2.get 0 _ rfl
              have y1:w8.cell? ⟨R,1,none⟩=some (.int .i64 (e1:Int)):=kG.out.2.2.get 1 _ rfl
              have y2:w8.cell? ⟨R,2,none⟩=some (.int .i64 (s:Int)):=kG.out.2.2.get 2 _ rfl
              have y3:w8.cell? ⟨R,3,none⟩=some (.int .i64 (e2:Int)):=kG.out.2.2.get 3 _ rfl
              have fM:=hide (tK E HE.out w8 _ kG.out.1.sp (i:Int) ((0:Nat):Int) a e1 s e2 Fg.out.1)
              simp only[Int.natCast_zero]at fM
              go_wp2_with fail
              clear y0 y1 y2 y3
              refine fM.out.mono ?_
              clear fM
              rintro e' w9 ⟨rfl,hsp,hkc⟩
              rw[← Fg.out.2]at hsp
              have rZ:=hide (And.intro ((kG.out.1.put HE.out hsp hkc).congr (fun z c' _=>kM.yes (o:=0) (S:=fun _=>True) (f:=fO a s (iX WS 128)) trivial z c')) (kG.out.2.1.kc hkc (DW.Ab HE.out Az.out.1)))
              clear hsp hkc kG
              go_wp2_with fail
              go_roundw
              case rel=>exact⟨x+1,by omega,by go_num,rZ⟩
              case measure=>simp[intOf];omega
  case pos=>
   as_aux_lemma=>
    have d1:wr.cell? ⟨Dd,1,none⟩=some (.int .i64 4):=HO.out.bx.get 1 _ bL.out.1
    go_wp2_with fail
    clear d1
    have he1:(e:Int) / 8=((e / 8:Nat):Int):=by omega
    have he2:(e:Int) % 8=((e % 8:Nat):Int):=by omega
    simp only[he1,he2]
    clear he1 he2
    have HI0:=hide (show OW E w Dd cs Dn WS e u13 (wr.alloc (.cells #[.int .i64 ((e / 8:Nat):Int),.int .i64 0,.int .i64 ((e % 8:Nat):Int),.int .i64 0] 29))∧Bx (wr.alloc (.cells #[.int .i64 ((e / 8:Nat):Int),.int .i64 0,.int .i64 ((e % 8:Nat):Int),.int .i64 0] 29)) wr.heap.size #[.int .i64 ((e / 8:Nat):Int),.int .i64 0,.int .i64 ((e % 8:Nat):Int),.int .i64 0] 29 from
     ⟨HO.out.below HE.out (below_alloc2 wr _),Bx.new wr _ _⟩)
    have HRR:=hide (show Dd<wr.heap.size∧u13.ownBlock≠some wr.heap.size from⟨HO.out.bx.lt,fun hq=>(by obtain⟨L,h1,_⟩:=HO.out.own;exact Nat.lt_irrefl _ (h1.lt _ hq).2)⟩)
    have yE:=hide (show dW (e / 8) 0 (e % 8) 0∧(iX WS e).length ≤128 from⟨⟨by omega,by omega,by omega,by omega⟩,Nat.le_trans (Kw WS e) he⟩)
    clear HO
    generalize World.alloc wr _=w5 at*
    generalize wr.heap.size=R at*
    obtain⟨q1,hq1⟩:∃q1,e / 8=q1:=⟨_,rfl⟩
    obtain⟨q2,hq2⟩:∃q2,e % 8=q2:=⟨_,rfl⟩
    rw[hq1,hq2]at HI0 yE
    simp only[hq1,hq2]
    have MQ:=hide (And.intro hq1 hq2)
    clear hq1 hq2
    go_loopw [13,16] (fun ov xv wr=>∃x:Nat,x≤128∧ov=u13∧xv= .int .i64 (x:Int)∧∃y1 y2:Int,Hid (OW E w Dd cs Dn WS e u13 wr∧Bx wr R #[.int .i64 (q1:Int),.int .i64 y1,.int .i64 (q2:Int),.int .i64 y2] 29∧∀x',x'<x→WS 0 (ay q1 (x' / 8) q2 (x' % 8))=false)) (fun _ xv _=>128 - (intOf xv).toNat)
    case atStart=>exact⟨0,by omega,rfl,rfl,0,0,hide ⟨HI0.out.1,HI0.out.2,fun x' h=>absurd h (Nat.not_lt_zero _)⟩⟩
    case round=>
     clear HI0
     obtain⟨x,hx,rfl,rfl,y1,y2,HI⟩:=hrel
     by_cases hxl:x<128
     case neg=>
      obtain rfl:x=128:=by omega
      have jk:=hide (HI.out.1.next (by
       have h1:¬Gs WS e:=fun⟨x',h1,h2⟩=>by
        rw[MQ.out.1,MQ.out.2]at h2
        rw[HI.out.2.2 x' h1]at h2
        cases h2
       rw[← D6]at h1
       simpa using h1))
      go_wp2_with fail
      go_roundw
      case rel=>exact⟨e+1,by omega,by go_num,jk⟩
      case measure=>simp[intOf];omega
     case pos=>
      have r0:wr.cell? ⟨R,0,none⟩=some (.int .i64 (q1:Int)):=HI.out.2.1.get 0 _ rfl
      have r1:wr.cell? ⟨R,1,none⟩=some (.int .i64 y1):=HI.out.2.1.get 1 _ rfl
      have r2:wr.cell? ⟨R,2,none⟩=some (.int .i64 (q2:Int)):=HI.out.2.1.get 2 _ rfl
      have r3:wr.cell? ⟨R,3,none⟩=some (.int .i64 y2):=HI.out.2.1.get 3 _ rfl
      have f1:wr.frozen? ⟨R,1,none⟩=false:=HI.out.2.1.frozen 1
      have f3:wr.frozen? ⟨R,3,none⟩=false:=HI.out.2.1.frozen 3
      go_wp2_with fail
      clear r0 r1 r2 r3 f1 f3
      have hx1:(x:Int) / 8=((x / 8:Nat):Int):=by omega
      have hx2:(x:Int) % 8=((x % 8:Nat):Int):=by omega
      simp only[hx1,hx2]
      clear hx1 hx2
      have HI2:=hide (show OW E w Dd cs Dn WS e _ ((wr.setCell ⟨R,1,none⟩ (.int .i64 ((x / 8:Nat):Int))).setCell ⟨R,3,none⟩ (.int .i64 ((x % 8:Nat):Int)))∧Bx ((wr.setCell ⟨R,1,none⟩ (.int .i64 ((x / 8:Nat):Int))).setCell ⟨R,3,none⟩ (.int .i64 ((x % 8:Nat):Int))) R #[.int .i64 (q1:Int),.int .i64 ((x / 8:Nat):Int),.int .i64 (q2:Int),.int .i64 ((x % 8:Nat):Int)] 29 from
       ⟨(HI.out.1.set HE.out ⟨R,1,none⟩ _ HRR.out.1 HRR.out.2).set HE.out ⟨R,3,none⟩ _ HRR.out.1 HRR.out.2,(HI.out.2.1.set 1 _).set 3 _⟩)
      have HNO:=hide HI.out.2.2
      clear HI
      generalize World.setCell (World.setCell wr _ _) _ _=w6 at*
      have yI:=hide (show dW q1 (x / 8) q2 (x % 8)from⟨yE.out.1.a,by omega,yE.out.1.s,by omega⟩)
      refine(tH q1 (x / 8) q2 (x % 8) yI.out.a yI.out.b yI.out.s yI.out.d w6).mono ?_
      rintro e' w7 ⟨rfl,hb⟩
      have zl:=hide (And.intro (HI2.out.1.below HE.out hb) (HI2.out.2.below hb))
      clear hb HI2
      have dY:=hide (o7.out w7 _ 0 (ay q1 (x / 8) q2 (x % 8)) (by rw[show aN 4=2 from rfl];decide) yI.out.lt zl.out.1.sp)
      obtain⟨B2,hB⟩:∃B2,WS 0 (ay q1 (x / 8) q2 (x % 8))=B2:=⟨_,rfl⟩
      rw[hB]at dY
      have HB2:=hide hB
      clear hB
      unfold ay at dY
      simp only[Int.natCast_zero]at dY
      go_wp2_with fail
      refine dY.out.mono ?_
      clear dY
      rintro e' w8 ⟨rfl,rfl⟩
      cases B2
      case false=>
       have HI8:=hide (show OW E w Dd cs Dn WS e _ w7∧Bx w7 R #[.int .i64 (q1:Int),.int .i64 ((x / 8:Nat):Int),.int .i64 (q2:Int),.int .i64 ((x % 8:Nat):Int)] 29∧∀x',x'<x+1→WS 0 (ay q1 (x' / 8) q2 (x' % 8))=false from⟨zl.out.1,zl.out.2,fun x' h=>by
        rcases Nat.lt_or_ge x' x with hl | hl
        ·exact HNO.out x' hl
        ·obtain rfl:x'=x:=by omega
         exact HB2.out⟩)
       clear zl
       go_wp2_with fail
       go_roundw
       case rel=>exact⟨x+1,by omega,rfl,by go_num,_,_,HI8⟩
       case measure=>simp[intOf];omega
      case true=>
       have r0:w7.cell? ⟨R,0,none⟩=some (.int .i64 (q1:Int)):=zl.out.2.get 0 _ rfl
       have r1:w7.cell? ⟨R,1,none⟩=some (.int .i64 ((x / 8:Nat):Int)):=zl.out.2.get 1 _ rfl
       have r2:w7.cell? ⟨R,2,none⟩=some (.int .i64 (q2:Int)):=zl.out.2.get 2 _ rfl
       have r3:w7.cell? ⟨R,3,none⟩=some (.int .i64 ((x % 8:Nat):Int)):=zl.out.2.get 3 _ rfl
       have hbt:=HB2.out
       have HOWN:=hide (D6.2 ⟨x,hxl,by rw[MQ.out.1,MQ.out.2];exact hbt⟩)
       clear hbt
       obtain⟨i0,hi0,hz0,hz1,hz2⟩:=info_parts Tryz.infoPacket
       have Zf:=hide (zl.out.1.below HE.out (below_alloc2 w7 (.cells #[.int .i64 (q1:Int),.int .i64 ((x / 8:Nat):Int),.int .i64 (q2:Int),.int .i64 ((x % 8:Nat):Int)] 29)))
       obtain⟨L,hown,hLm⟩:=Zf.out.own
       have hrd:=Ky _ _ _ _ _ _ (Bx.new w7 #[.int .i64 (q1:Int),.int .i64 ((x / 8:Nat):Int),.int .i64 (q2:Int),.int .i64 ((x % 8:Nat):Int)] 29)
       have HOW:=hide hown
       have HLM:=hide hLm
       have fG:=hide hrd
       have hln:=yE.out.2
       have zm:=hide (show Dd+1≤(w7.alloc (.cells #[.int .i64 (q1:Int),.int .i64 ((x / 8:Nat):Int),.int .i64 (q2:Int),.int .i64 ((x % 8:Nat):Int)] 29)).heap.size from Zf.out.bx.lt)
       clear hown hLm hrd zl
       go_wp2_with (at_builtin;refine aT _ rfl (.tmp 72) (.tmp 74) 129 rfl (Dd+1) 29 i0 _ 4 32 Tryz.underlying129 hi0 hz0 hz1 hz2 rfl (by omega) _ (iX WS e).length (L.flatMap pC) rfl HOW.out _ (some ⟨w7.heap.size,0,none⟩) 1 1 [.int .i64 (q1:Int),.int .i64 ((x / 8:Nat):Int),.int .i64 (q2:Int),.int .i64 ((x % 8:Nat):Int)] rfl fG.out (by simp[Value.oneCell']) (by simp only[maxLen];omega) (by omega) zm.out ?_;intro v5 w9 hown5 hg5 iD;have oG:=hide (And.intro hown5 hg5);clear hown5 hg5 iD)
       have jk:=hide (Zf.out.add HE.out HOWN.out HLM.out (y1:=((x / 8:Nat):Int)) (y2:=((x % 8:Nat):Int)) (by rw[MQ.out.1,MQ.out.2];exact oG.out.1) oG.out.2)
       go_roundw
       case rel=>exact⟨e+1,by omega,by go_num,jk⟩
       case measure=>simp[intOf];omega
end Go.Proofs.YtifkacnoiocebaaGreat
