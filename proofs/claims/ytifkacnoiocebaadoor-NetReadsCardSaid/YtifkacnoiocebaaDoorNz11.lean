/- A part of the proof: RefNet, StepNext. -/
import Derived.Test.YtifkacnoiocebaaDoorNz9
import Derived.Test.YtifkacnoiocebaaDoorNz10
set_option linter.unusedVariables false
set_option linter.unusedSimpArgs false
set_option maxRecDepth 100000
set_option maxHeartbeats 16000000
namespace Go.Proofs.YtifkacnoiocebaaDoor
open Go.RowKit
theorem Tryd.infoPair:(Tryd.prog.info? 98).map (fun i=>(i.zero,i.size,i.bytes))=some (some (.agg #[.int .i64 0,.int .i64 0]),2,16):=by kernel_rfl
theorem wJ (X:Int) (n:Nat):dx X 0 ((n:Int) - 1)=(decide (0≤X) && decide (X<(n:Int))):=by
 unfold dx
 rw[Bool.eq_iff_iff];simp;omega
theorem zh (X p:Int):dx X 0 (p - 1)=(decide (0≤X) && decide (X<p)):=by
 unfold dx
 rw[Bool.eq_iff_iff];simp;omega
theorem Dn {s:ByteArray} {b:Bool} {q:Nat} (hq:s.size≤q) (h:b=(dx s.size 1 8 && (s.data.toList.take q).all gG)):b=bT s:=by
 rw[h,List.take_of_length_le (by simpa using hq)]
 unfold bT dx
 generalize s.data.toList.all gG=b
 rw[Bool.eq_iff_iff]
 cases b<;>simp<;>omega
theorem Ae {ds:List ah} {k:Nat} {nm:ByteArray} (h:∀i d,i<k→ds[i]?=some d→bO d.name nm=false):((ds.map ah.dev).take k).any (fun x=>bO x.name nm)=false:=by
 rw[List.any_eq_false]
 intro x hx
 obtain⟨j,hj⟩:=List.getElem?_of_mem hx
 have hjk:j<k:=by have:=(List.getElem?_eq_some_iff.1 hj).1;simp at this;omega
 rw[List.getElem?_take_of_lt hjk,List.getElem?_map]at hj
 cases hd:ds[j]? with
 |none=>rw[hd]at hj;cases hj
 |some d=>rw[hd]at hj;cases hj;simpa[ah.dev]using h j d hjk hd
theorem zB {ds:List ah} {k j:Nat} {d:ah} {nm:ByteArray} (hj:j<k) (hd:ds[j]?=some d) (h:bO d.name nm=true):((ds.map ah.dev).take k).any (fun x=>bO x.name nm)=true:=by
 rw[List.any_eq_true]
 exact⟨d.dev,List.mem_of_getElem? (i:=j) (by rw[List.getElem?_take_of_lt hj,List.getElem?_map,hd];rfl),h⟩
theorem kZ (n:fA) (W:World) (hn:iW W W.heap.size n):
  Calls Tryd.prog 16 #[n.val] W fun e W'=>e= .returned (.int .i64 (jN n.l9 n.ls))∧RowKit.Below W.heap.size W W':=by
 obtain⟨i0,hi0,hz0,hz1,hz2⟩:=info_parts Tryd.infoPair
 obtain⟨dA,dn,dc,ds,lA,ln,lc,ls⟩:=n
 obtain⟨W0,hW0⟩:∃W0,W0=W.alloc (.cells #[.slice dA dn dc,.slice lA ln lc] 25):=⟨_,rfl⟩
 have HB0:=hide (show RowKit.Below W.heap.size W W0 from by rw[hW0];exact(RowKit.Below.refl _ _).alloc (Nat.le_refl _) _)
 have jB:=hide (show W0.heap.size=W.heap.size+1 from by rw[hW0];simp)
 have HQ:=hide (fun(w':World) (hb:RowKit.Below W0.heap.size W0 w')=>show(w'.cell? ⟨W.heap.size,0,none⟩=some (.slice dA dn dc)∧w'.cell? ⟨W.heap.size,1,none⟩=some (.slice lA ln lc))∧iW w' w'.heap.size ⟨dA,dn,dc,ds,lA,ln,lc,ls⟩∧RowKit.Below W.heap.size W w' from by
  have h1:=HB0.out.trans (hb.mono (by rw[jB.out];omega))
  rw[jB.out,hW0]at hb
  exact⟨⟨kH W _ _ rfl hb 0 _ rfl,kH W _ _ rfl hb 1 _ rfl⟩,hn.below h1 h1.size,h1⟩)
 have gI:=hide (show ds.length=dn from hn.uF)
 have wK:=hide (show ls.length=ln from hn.llen)
 have hdc:dn≤dc:=hn.cd.1
 have hlc:ln≤lc:=hn.cl.1
 have HM:=hide (And.intro hn.cd.2 hn.cl.2)
 clear hn
 have HN:=hide (show jN (fA.l9 ⟨dA,dn,dc,ds,lA,ln,lc,ls⟩) ls=if 10<dn∨15<ln then 2 else if fQ [] (ds.map ah.dev)=0 then fV (ds.map ah.dev) [] ls else fQ [] (ds.map ah.dev)from by
  unfold jN fA.l9;rw[List.length_map,gI.out,wK.out])
 simp only[fA.val]at*
 generalize jN _ _=E at*
 obtain⟨x0,x1⟩:=(HQ.out W0 (RowKit.Below.refl _ _)).1
 have HR:=hide (RowKit.Below.refl W0.heap.size W0)
 by_cases h10:10<dn
 ·have HF:=hide (show E=2 from by rw[HN.out,if_pos (.inl h10)])
  clear HN x0 x1
  subst hW0
  go_enter Tryd.func16,Tryd.ntmps16
  go_wp2
  go_ret
  exact⟨aj HF.out.symm,(HQ.out _ HR.out).2.2⟩
 by_cases Dp:15<ln
 ·have HF:=hide (show E=2 from by rw[HN.out,if_pos (.inr Dp)])
  clear HN x0 x1
  subst hW0
  go_enter Tryd.func16,Tryd.ntmps16
  go_wp2
  go_ret
  exact⟨aj HF.out.symm,(HQ.out _ HR.out).2.2⟩
 have jM:=hide (show E=if fQ [] (ds.map ah.dev)=0 then fV (ds.map ah.dev) [] ls else fQ [] (ds.map ah.dev)from by rw[HN.out,if_neg (by omega)])
 clear HN x0 x1
 go_enter Tryd.func16,Tryd.ntmps16
 go_wp2
 rw[← hW0]
 clear hW0
 go_loopw [3] (fun i wr=>∃k:Nat,k≤dn∧i= .int .i64 k∧Hid (fQ [] (ds.map ah.dev)=fQ ((ds.map ah.dev).take k) ((ds.map ah.dev).drop k))∧Hid (RowKit.Below W0.heap.size W0 wr)) (fun i _=>dn - (intOf i).toNat)
 case atStart=>exact⟨0,Nat.zero_le _,rfl,hide rfl,hide (RowKit.Below.refl _ _)⟩
 case round=>
  obtain⟨k,hk,rfl,HC,HB⟩:=hrel
  obtain⟨⟨x0,x1⟩,hna,hbW⟩:=HQ.out wr HB.out
  have gZ:=hide hna
  have aV:=hide hbW
  clear hna hbW
  by_cases hlt:k<dn
  ·obtain⟨r,hr⟩:∃r,ds[k]?=some r:=⟨_,List.getElem?_eq_getElem (by have:=gI.out;omega)⟩
   have HS:=hide (sS (l:=ds.map ah.dev) (k:=k) (d:=r.dev) (by rw[List.getElem?_map,hr];rfl))
   obtain⟨b,o,rfl,_,_⟩:=gZ.out.ds.2 (by show 0<dn;omega)
   obtain⟨nA,q0,q1,q2,q3,q4,q5,q6⟩:=lV gZ.out.ds hr
   have hnm:r.name.size≤9223372036854775807:=by have:=(gZ.out.wL r (List.mem_of_getElem? hr)).nm;unfold maxLen at this;exact this
   have FT:=hide (fun(j:Nat) (d:ah) (hd:ds[j]?=some d) (w':World) (hb:RowKit.Below W0.heap.size W0 w')=>(lV (HQ.out w' hb).2.1.ds hd).2.1)
   obtain⟨nm,kd,ad,pl,bA,bn,bc,bs,rA,rn,rc,rs,tA,tn,tc,ts⟩:=r
   obtain⟨N,hN⟩:∃N,wr.heap.size=N:=⟨_,rfl⟩
   obtain⟨w1,hw1⟩:∃w1,w1=wr.alloc (.cells #[.string nm,.int .i64 kd,.int .i64 ad,.int .u8 pl,.slice bA bn bc,.slice rA rn rc,.slice tA tn tc] 37):=⟨_,rfl⟩
   have HB1:=hide (show RowKit.Below W0.heap.size W0 w1 from by rw[hw1];exact HB.out.alloc HB.out.size _)
   have iZ:=hide (fun(w':World) (hb:RowKit.Below w1.heap.size w1 w')=>show fP w' N ⟨nm,kd,ad,pl,bA,bn,bc,bs,rA,rn,rc,rs,tA,tn,tc,ts⟩∧(w'.cell? ⟨W.heap.size,0,none⟩=some (.slice (some ⟨b,o,none⟩) dn dc)∧w'.cell? ⟨W.heap.size,1,none⟩=some (.slice lA ln lc))∧RowKit.Below W0.heap.size W0 w'∧N<w'.heap.size from by
    have hs:w1.heap.size=N+1:=by rw[hw1,← hN];simp
    have h1:=HB1.out.trans (hb.mono HB1.out.size)
    have h2:=hb.size
    refine⟨fP.below (w:=w1) (by rw[hw1,← hN];exact fP.new wr ⟨nm,kd,ad,pl,bA,bn,bc,bs,rA,rn,rc,rs,tA,tn,tc,ts⟩ _) hb (by omega),(HQ.out w' h1).1,h1,by omega⟩)
   have wM:=hide (zA ⟨nm,kd,ad,pl,bA,bn,bc,bs,rA,rn,rc,rs,tA,tn,tc,ts⟩)
   have Dq:=hide (fun(w':World) (hb:RowKit.Below w1.heap.size w1 w')=>show gL w' w'.heap.size ⟨nm,kd,ad,pl,bA,bn,bc,bs,rA,rn,rc,rs,tA,tn,tc,ts⟩from by
    have h1:=(iZ.out w' hb).2.2.1
    exact(HQ.out w' h1).2.1.wL _ (List.mem_of_getElem? hr))
   clear hr
   simp only[ah.dev]at HS wM
   have HW1:=hide hw1
   clear hw1
   go_wp2_with fail
   refine(bH _ _ _ _).mono ?_
   rintro e w' ⟨rfl,rfl⟩
   rw[← HW1.out]
   clear q0 q1 q2 q3 q4 q5 q6 x0 x1
   obtain⟨⟨y0,y1,y2,y3,y4,y5,y6⟩,⟨x0,x1⟩,_,hNs⟩:=iZ.out w1 (RowKit.Below.refl _ _)
   have Dr:=hide (show dx (nm.size:Int) 1 8=(dx (nm.size:Int) 1 8 && (nm.data.toList.take 0).all gG)from by simp)
   have Hu:=hide (rfl:dx (nm.size:Int) 1 8=dx (nm.size:Int) 1 8)
   go_wp2
   go_loop [5,6] (fun u i=>∃(q:Nat) (bb:Bool),q≤nm.size∧i= .int .i64 q∧u= .bool bb∧Hid (bb=(dx (nm.size:Int) 1 8 && (nm.data.toList.take q).all gG))) (fun _ i=>nm.size - (intOf i).toNat)
   case atStart=>exact⟨0,_,Nat.zero_le _,rfl,rfl,Dr⟩
   case round=>
    clear Dr
    obtain⟨q,bb,hq,rfl,rfl,pF⟩:=hrel
    by_cases FU:q<nm.size
    ·have HT:=hide (show nm.data.toList.take (q+1)=nm.data.toList.take q++[nm[q]]from by rw[List.take_succ_eq_append_getElem (by simpa using FU)];rfl)
     have Ep:=hide (show(dx (nm.size:Int) 1 8 && (nm.data.toList.take (q+1)).all gG)=(bb && gG nm[q])from by rw[HT.out,List.all_append,pF.out];simp[Bool.and_assoc])
     generalize dx (nm.size:Int) 1 8=IN at*
     cases bb
     ·go_wp2
      all_goals
       go_round
       case rel=>exact⟨q+1,_,by omega,by go_num,rfl,hide (by rw[Ep.out];simp)⟩
       case measure=>simp[intOf];omega
     ·go_wp2
      all_goals
       go_round
       case rel=>exact⟨q+1,_,by omega,by go_num,rfl,hide (by rw[Ep.out,Bool.eq_iff_iff];simp[gG]<;>omega)⟩
       case measure=>simp[intOf];omega
    ·have oJ:=hide (Dn (by omega) pF.out)
     clear pF
     cases hbb:bb
     ·subst hbb
      have HF:=hide (show E=3 from by rw[jM.out,HC.out,HS.out];simp[← oJ.out])
      go_wp2
      go_ret
      exact⟨aj HF.out.symm,(HQ.out _ HB1.out).2.2⟩
     subst hbb
     have HR1:=hide (RowKit.Below.refl w1.heap.size w1)
     go_wp2
     clear y0 y1 y2 y3 y4 y5 y6 x0 x1
     go_loopw [8] (fun i wi=>∃j:Nat,j≤k∧i= .int .i64 j∧Hid (∀i d,i<j→ds[i]?=some d→bO d.name nm=false)∧Hid (RowKit.Below w1.heap.size w1 wi)) (fun i _=>k - (intOf i).toNat)
     case atStart=>exact⟨0,Nat.zero_le _,rfl,hide (fun i d h=>absurd h (by omega)),HR1⟩
     case round=>
      clear HR1
      obtain⟨j,hj,rfl,Er,Dt⟩:=hrel
      obtain⟨⟨y0,y1,y2,y3,y4,y5,y6⟩,⟨x0,x1⟩,hbi,_⟩:=iZ.out wr Dt.out
      have zC:=hide hbi
      clear hbi
      by_cases hjk:j<k
      ·obtain⟨d,hd⟩:∃r,ds[j]?=some r:=⟨_,List.getElem?_eq_getElem (by have:=gI.out;omega)⟩
       have q1:=FT.out j d hd wr zC.out
       have Es:=hide hd
       clear hd
       generalize hdn:d.name=Et at*
       have qC:=hide hdn
       clear hdn
       by_cases e:Et.toList=nm.toList
       ·have HF:=hide (show E=5 from by
         have hv:fQ [] (ds.map ah.dev)=5:=by
          have h1:bT nm=true:=oJ.out.symm
          have h2:=zB (nm:=nm) hjk Es.out (by rw[qC.out];simp[bO,e])
          rw[HC.out,HS.out]
          simp only[h1,h2,Bool.true_eq_false,if_false,if_true]
         rw[jM.out,hv];rfl)
        go_wp2
        go_quiet (fail)
        go_wp2
        go_ret
        exact⟨aj HF.out.symm,(HQ.out _ zC.out).2.2.trans (aP _ _ _)⟩
       ·have FV:=hide (show∀i d,i<j+1→ds[i]?=some d→bO d.name nm=false from fun i d hi hd=>by
         rcases(by omega:i<j∨i=j)with h | rfl
         ·exact Er.out i d h hd
         ·have e2:=Es.out
          rw[e2]at hd
          cases hd
          rw[qC.out]
          simp[bO,e])
        have e2:(Et.toList ==nm.toList)=false:=by simpa using e
        go_wp2
        go_quiet (fail)
        go_wp2
        go_roundw
        case rel=>exact⟨j+1,by omega,by go_num,FV,hide (Dt.out.trans (aP _ _ _))⟩
        case measure=>simp[intOf];omega
      ·obtain rfl:j=k:=by omega
       have rR:=hide (Ae Er.out)
       have sU:=hide (wM.out wr (Dq.out wr Dt.out))
       simp only[ah.val]at sU
       obtain⟨DE,Af⟩:∃DE,aX ⟨nm,kd,ad,pl,bs,rs,ts⟩=DE:=⟨_,rfl⟩
       simp only[Af]at HS sU
       clear Af
       go_wp2_with fail
       refine sU.out.mono ?_
       clear sU wM
       rintro e w3 ⟨rfl,hb⟩
       have HB3:=hide (zC.out.trans (hb.mono zC.out.size))
       clear hb y0 y1 y2 y3 y4 y5 y6 x0 x1
       by_cases hde:DE=0
       ·subst hde
        have HF:=hide (show fQ [] (ds.map ah.dev)=fQ ((ds.map ah.dev).take (j+1)) ((ds.map ah.dev).drop (j+1))from by rw[HC.out,HS.out];simp[← oJ.out,rR.out])
        clear HS rR
        go_wp2
        go_roundw
        case rel=>exact⟨j+1,by omega,by go_num,HF,HB3⟩
        case measure=>simp[intOf];omega
       ·have d1:(DE != 0)=true:=by simpa using hde
        have d2:(DE ==0)=false:=by simpa using hde
        have HF:=hide (show E=DE from by rw[jM.out,HC.out,HS.out];simp[← oJ.out,rR.out,hde])
        clear HS rR hde
        go_wp2
        go_ret
        exact⟨aj HF.out.symm,(HQ.out _ HB3.out).2.2⟩
  ·have HF:=hide (show E=fV (ds.map ah.dev) [] ls from by
    have:fQ [] (ds.map ah.dev)=0:=by rw[HC.out,List.drop_of_length_le (by rw[List.length_map];have:=gI.out;omega)];rfl
    rw[jM.out,if_pos this])
   have HO:=hide (World.ownsRow_nil wr W0.heap.size 98 2)
   have Ag:=HB
   go_wp2
   clear HC hk hlt x0 x1 HB gZ aV
   go_loopw [10,11] (fun v i wr=>∃(k:Nat) (ends:List Pl),k≤ln∧i= .int .i64 k∧Hid (E=fV (ds.map ah.dev) ends (ls.drop k))∧Hid (RowKit.Below W0.heap.size W0 wr)∧Hid (wr.ownsRow W0.heap.size 98 2 v ends.length (ends.flatMap fJ))∧Hid (ends.length=2*k)) (fun _ i _=>ln - (intOf i).toNat)
   case atStart=>exact⟨0,[],Nat.zero_le _,rfl,HF,Ag,HO,hide rfl⟩
   case round=>
    clear HF HO Ag
    obtain⟨k,ends,hk,rfl,HC,HB,HO,uV⟩:=hrel
    generalize u10=v at*
    obtain⟨⟨x0,x1⟩,hna,hbW⟩:=HQ.out wr HB.out
    have gZ:=hide hna
    have aV:=hide hbW
    clear hna hbW
    by_cases hlt:k<ln
    ·obtain⟨r,hr⟩:∃r,ls[k]?=some r:=⟨_,List.getElem?_eq_getElem (by have:=wK.out;omega)⟩
     have HBAD:=hide (fun j (hj:j<2) h1 h2=>HC.out.trans (sV (ds:=ds.map ah.dev) (ends:=ends) (j:=j) hr hj h1 h2))
     have sW:=hide (fun h1=>HC.out.trans (rU (ds:=ds.map ah.dev) (ends:=ends) hr h1))
     obtain⟨b,o,rfl,_,_⟩:=gZ.out.ls.2 (by show 0<ln;omega)
     obtain⟨nA,q0,q1,q2,q3⟩:=wN gZ.out.ls hr
     clear hr
     obtain⟨A2,c2,rfl,hc2,_,_⟩:=bD.dw fF HO.out rfl
     obtain⟨ra,rp,rb,rq⟩:=r
     go_wp2
     clear q0 q1 q2 q3 x0 x1
     obtain⟨N,hN⟩:∃N,wr.heap.size=N:=⟨_,rfl⟩
     have sZ:=hide (fun t1 t2=>show RowKit.Below N wr ((wr.alloc (.cells #[.int .i64 ra,.int .i64 rp,.int .i64 rb,.int .i64 rq] t1)).alloc (.cells #[.int .i64 ra,.int .i64 rp,.int .i64 rb,.int .i64 rq] t2))from by rw[← hN];exact((RowKit.Below.refl _ _).alloc (Nat.le_refl _) _).alloc (by simp) _)
     have Ah:=hide (fun t1 t2 (w':World) (hb:RowKit.Below (N+2) ((wr.alloc (.cells #[.int .i64 ra,.int .i64 rp,.int .i64 rb,.int .i64 rq] t1)).alloc (.cells #[.int .i64 ra,.int .i64 rp,.int .i64 rb,.int .i64 rq] t2)) w')=>show(∀j,j<2→w'.cell? ⟨N+1,j*2,none⟩=some (.int .i64 (lg ⟨ra,rp,rb,rq⟩ j).1)∧w'.cell? ⟨N+1,j*2+1,none⟩=some (.int .i64 (lg ⟨ra,rp,rb,rq⟩ j).2))∧Reads w' (N+2) 2 (some ⟨N+1,0,none⟩) 2 [.int .i64 ra,.int .i64 rp,.int .i64 rb,.int .i64 rq]from by
      have hs1:(wr.alloc (.cells #[.int .i64 ra,.int .i64 rp,.int .i64 rb,.int .i64 rq] t1)).heap.size =N+1:=by rw[← hN];simp
      have c2:∀o v,(#[Value.int .i64 ra,.int .i64 rp,.int .i64 rb,.int .i64 rq]:Array Value)[o]?=some v→w'.cell? ⟨N+1,o,none⟩=some v:=fun o v hv=>kH _ _ _ hs1 hb o v hv
      refine⟨fun j hj=>?_,rfl,fun _=>⟨_,rfl,by show N+1<_;omega,fun j u hu=>?_⟩⟩
      ·rcases(by omega:j=0∨j=1)with rfl | rfl
       ·exact⟨c2 0 _ rfl,c2 1 _ rfl⟩
       ·exact⟨c2 2 _ rfl,c2 3 _ rfl⟩
      ·rw[addr_add,Nat.zero_add]
       exact c2 j u (by simpa using hu))
     have HW1:=sZ.out 55 98
     have HW2:=Ah.out 55 98
     have hsA:((wr.alloc (.cells #[.int .i64 ra,.int .i64 rp,.int .i64 rb,.int .i64 rq] 55)).alloc (.cells #[.int .i64 ra,.int .i64 rp,.int .i64 rb,.int .i64 rq] 98)).heap.size =N+2:=by rw[← hN];simp
     clear sZ Ah
     generalize World.alloc (World.alloc wr _) _=wA at*
     have HA1:=hide HW1
     have HA2:=hide HW2
     have tq:=hide hsA
     have qD:W0.heap.size≤N:=by rw[← hN];exact HB.out.size
     have dX:=hide (HB.out.trans (HW1.mono qD))
     have zi:=hide (fun(w':World) (hb:RowKit.Below N wr w')=>own_below HO.out (by rw[hN];exact hb))
     rw[hN]
     clear HW1 HW2 hsA HO HB hN gZ aV
     obtain⟨wo,hwo⟩:∃wo:World,wo=wr:=⟨_,rfl⟩
     rw[← hwo]at HA1 zi
     clear hwo
     have wO:=hide (RowKit.Below.refl wA.heap.size wA)
     go_loopw [14] (fun i wj=>∃j:Nat,j≤2∧i= .int .i64 j∧Hid (∀i,i<j→gQ (ds.map ah.dev) (lg ⟨ra,rp,rb,rq⟩ i)=true)∧Hid (RowKit.Below wA.heap.size wA wj)) (fun i _=>2 - (intOf i).toNat)
     case atStart=>exact⟨0,Nat.zero_le _,rfl,hide (fun i h=>absurd h (by omega)),wO⟩
     case round=>
      clear wO
      obtain⟨j,hj,rfl,HP,HJ⟩:=hrel
      have mQ:=hide (dX.out.trans (HJ.out.mono dX.out.size))
      have uW:=hide (fun(w':World) (hb:RowKit.Below wr.heap.size wr w')=>And.intro (HQ.out w' (mQ.out.trans (hb.mono mQ.out.size))) (HA2.out w' (tq.out▸HJ.out.trans (hb.mono HJ.out.size))))
      by_cases hj2:j<2
      ·have wP:=hide (fun h=>HBAD.out j hj2 HP.out h)
       have Ai:=hide (fun(h:gQ (ds.map ah.dev) (lg ⟨ra,rp,rb,rq⟩ j)=true) i (hi:i<j+1)=>show gQ (ds.map ah.dev) (lg ⟨ra,rp,rb,rq⟩ i)=true from by
        rcases(by omega:i<j∨i=j)with h1 | rfl
        ·exact HP.out i h1
        ·exact h)
       have nT:=hide (fun(w':World) (hb:RowKit.Below wr.heap.size wr w')=>(uW.out w' hb).2.1 j hj2)
       obtain⟨X,Y,wQ⟩:∃X Y,lg ⟨ra,rp,rb,rq⟩ j=(X,Y):=⟨_,_,rfl⟩
       simp only[wQ]at nT wP Ai
       clear wQ
       have j1:(0:Int)≤(j:Int):=by omega
       have j2:(j:Int)<2:=by omega
       have d0:(0:Int)≤(dn:Int):=by omega
       have d1:(dn:Int)≤10:=by omega
       have gZ:=hide (HQ.out wr mQ.out).2.1
       cases e1:(decide (0≤X) && decide (X<(dn:Int)))
       ·have HF:=hide (show E=1 from wP.out (by simp only[gQ,List.length_map,gI.out,e1];rfl))
        go_wp2
        refine bB (by kernel_rfl) (by kernel_rfl) ?_
        intro T hT gt hg hgi
        have aM:=hide hg
        have dz:=hide hgi
        clear hg hgi
        have k0:=fun t=>(nT.out _ (aM.out t)).1
        have k1:=fun t=>(nT.out _ (aM.out t)).2
        have k2:=fun t=>(uW.out _ (aM.out t)).1.1.1
        have gD:=hide (fun t=>eD (gt t) ((wJ X dn).trans e1))
        clear e1
        repeat (go_big_quiet_step ((go_at_call 46;exact bR (gD.out _))))
        refine wpQuiet_nil ?_
        intro _ hw'
        obtain⟨t,rfl⟩:=hw'
        have lu:=hide (HJ.out.trans ((aM.out t).mono HJ.out.size))
        generalize gt t=w9 at*
        clear k0 k1 k2 aM dz
        go_wp2
        go_ret
        exact⟨aj HF.out.symm,(HQ.out _ (dX.out.trans (lu.out.mono dX.out.size))).2.2⟩
       ·have oK:=e1
        simp only[Bool.and_eq_true,decide_eq_true_eq]at oK
        obtain⟨i,rfl⟩:∃i:Nat,X=(i:Int):=⟨X.toNat,by omega⟩
        obtain⟨rd,hrd⟩:∃r,ds[i]?=some r:=⟨_,List.getElem?_eq_getElem (by have:=gI.out;omega)⟩
        have Du:=hide (show qE (ds.map ah.dev) (i:Int)=rd.kind from by simp[qE,hrd,ah.dev])
        obtain⟨db,od,rfl,_,_⟩:=gZ.out.ds.2 (by show 0<dn;omega)
        have Aj:=hide (fun(w':World) (hb:RowKit.Below W0.heap.size W0 w')=>(lV (HQ.out w' hb).2.1.ds hrd).2.2.1)
        have i1:(0:Int)≤(i:Int):=by omega
        have i2:(i:Int)<(dn:Int):=by omega
        have wR:=hide (show gQ (ds.map ah.dev) ((i:Int),Y)=(decide (0≤Y) && decide (Y<dK rd.kind))from by simp only[gQ,List.length_map,gI.out,e1,Du.out];rfl)
        obtain⟨Hw,Hy⟩:=zD rd.kind
        cases e2:(decide (0≤Y) && decide (Y<dK rd.kind))
        ·have HF:=hide (show E=1 from wP.out (by rw[wR.out,e2]))
         go_wp2
         refine bB (by kernel_rfl) (by kernel_rfl) ?_
         intro T hT gt hg hgi
         have aM:=hide hg
         have dz:=hide hgi
         clear hg hgi
         have k0:=fun t=>(nT.out _ (aM.out t)).1
         have k1:=fun t=>(nT.out _ (aM.out t)).2
         have k2:=fun t=>(uW.out _ (aM.out t)).1.1.1
         have k3:=fun t=>Aj.out (gt t) (mQ.out.trans ((aM.out t).mono mQ.out.size))
         have gD:=hide (fun t=>eD (gt t) ((wJ (i:Int) dn).trans e1))
         have iH:=hide (fun t=>qd rd.kind (gt t))
         have wS:=hide (fun t=>eD (gt t) ((zh Y (dK rd.kind)).trans e2))
         clear e1 e2 oK
         generalize dK rd.kind=PF at*
         repeat (go_big_quiet_step (first | (go_at_call_of 46 (Value.int .i64 Y);exact bR (wS.out _)) | (go_at_call 46;exact bR (gD.out _)) | (go_at_call 48;exact jl aM.out dz.out (iH.out _))))
         refine wpQuiet_nil ?_
         intro _ hw'
         obtain⟨t,rfl⟩:=hw'
         have lu:=hide (HJ.out.trans ((aM.out t).mono HJ.out.size))
         generalize gt t=w9 at*
         clear k0 k1 k2 aM dz
         clear k3
         go_wp2
         go_ret
         exact⟨aj HF.out.symm,(HQ.out _ (dX.out.trans (lu.out.mono dX.out.size))).2.2⟩
        ·have HF:=hide (Ai.out (by rw[wR.out,e2]))
         go_wp2
         refine bB (by kernel_rfl) (by kernel_rfl) ?_
         intro T hT gt hg hgi
         have aM:=hide hg
         have dz:=hide hgi
         clear hg hgi
         have k0:=fun t=>(nT.out _ (aM.out t)).1
         have k1:=fun t=>(nT.out _ (aM.out t)).2
         have k2:=fun t=>(uW.out _ (aM.out t)).1.1.1
         have k3:=fun t=>Aj.out (gt t) (mQ.out.trans ((aM.out t).mono mQ.out.size))
         have gD:=hide (fun t=>eD (gt t) ((wJ (i:Int) dn).trans e1))
         have iH:=hide (fun t=>qd rd.kind (gt t))
         have wS:=hide (fun t=>eD (gt t) ((zh Y (dK rd.kind)).trans e2))
         clear e1 e2 oK
         generalize dK rd.kind=PF at*
         repeat (go_big_quiet_step (first | (go_at_call_of 46 (Value.int .i64 Y);exact bR (wS.out _)) | (go_at_call 46;exact bR (gD.out _)) | (go_at_call 48;exact jl aM.out dz.out (iH.out _))))
         refine wpQuiet_nil ?_
         intro _ hw'
         obtain⟨t,rfl⟩:=hw'
         have lu:=hide (HJ.out.trans ((aM.out t).mono HJ.out.size))
         generalize gt t=w9 at*
         clear k0 k1 k2 aM dz
         clear k3
         go_wp2
         go_roundw
         case rel=>exact⟨j+1,by omega,by go_num,HF,lu⟩
         case measure=>simp[intOf];omega
      ·obtain rfl:j=2:=by omega
       have HG:=hide (sW.out HP.out)
       have FW:ends.length≤30:=by have:=uV.out;omega
       have hNM:N+2≤wr.heap.size:=by have:=HJ.out.size;have:=tq.out;omega
       have jc:=hide (uW.out wr (RowKit.Below.refl _ _)).2.2
       have nC:=hide (fun(w':World) (hb:RowKit.Below wr.heap.size wr w')=>zi.out w' (HA1.out.trans ((HJ.out.trans (hb.mono HJ.out.size)).mono (by have:=tq.out;omega))))
       have Ak:=hide (fun(w':World) (hb:RowKit.Below wr.heap.size wr w')=>And.intro ((uW.out w' hb).2.1 0 (by omega)) ((uW.out w' hb).2.1 1 (by omega)))
       simp only[lg,Nat.zero_mul,Nat.one_mul,Nat.zero_add,if_true,Nat.one_ne_zero,if_false,aJ.e1,aJ.e2]at Ak
       clear HP HBAD sW
       have heq:=fun w=>qF w
       go_wp2
       refine bB (by kernel_rfl) (by kernel_rfl) ?_
       intro T hT gt hg hgi
       have aM:=hide hg
       have dz:=hide hgi
       clear hg hgi
       have k0:=fun t=>(Ak.out _ (aM.out t)).1.1
       have k1:=fun t=>(Ak.out _ (aM.out t)).1.2
       have k2:=fun t=>(Ak.out _ (aM.out t)).2.1
       have k3:=fun t=>(Ak.out _ (aM.out t)).2.2
       have gD:=hide (fun t=>pG ends A2 ends.length c2 ra rp (gt t) (by omega) (iL fF (nC.out _ (aM.out t)) rfl))
       have iH:=hide (fun t=>pG ends A2 ends.length c2 rb rq (gt t) (by omega) (iL fF (nC.out _ (aM.out t)) rfl))
       cases e12:gF (ra,rp) (rb,rq)
       case true=>
        repeat (go_big_quiet_step (first | (go_at_call_of 49 (Value.agg #[Value.int .i64 ra,Value.int .i64 rp]);exact jl aM.out dz.out (gD.out _)) | (go_at_call 49;exact jl aM.out dz.out (iH.out _))))
        refine wpQuiet_nil ?_
        intro _ hw'
        obtain⟨t,rfl⟩:=hw'
        have lu:=hide (aM.out t)
        generalize gt t=w9 at*
        clear k0 k1 k2 k3 aM dz
        have HF:=hide (show E=5 from by rw[HG.out];simp only[fZ,aJ.e1,aJ.e2,e12,Bool.true_or,Bool.or_true,if_true])
        go_wp2
        go_ret
        exact⟨aj HF.out.symm,(HQ.out _ (mQ.out.trans (lu.out.mono mQ.out.size))).2.2⟩
       cases a1:ends.any (fun z=>gF (ra,rp) z)
       case true=>
        simp only[a1]at gD
        repeat (go_big_quiet_step (first | (go_at_call_of 49 (Value.agg #[Value.int .i64 ra,Value.int .i64 rp]);exact jl aM.out dz.out (gD.out _)) | (go_at_call 49;exact jl aM.out dz.out (iH.out _))))
        refine wpQuiet_nil ?_
        intro _ hw'
        obtain⟨t,rfl⟩:=hw'
        have lu:=hide (aM.out t)
        generalize gt t=w9 at*
        clear k0 k1 k2 k3 aM dz
        have HF:=hide (show E=5 from by rw[HG.out];simp only[fZ,aJ.e1,aJ.e2,a1,Bool.true_or,Bool.or_true,if_true])
        go_wp2
        go_ret
        exact⟨aj HF.out.symm,(HQ.out _ (mQ.out.trans (lu.out.mono mQ.out.size))).2.2⟩
       simp only[a1]at gD
       cases a2:ends.any (fun z=>gF (rb,rq) z)
       case true=>
        simp only[a2]at iH
        repeat (go_big_quiet_step (first | (go_at_call_of 49 (Value.agg #[Value.int .i64 ra,Value.int .i64 rp]);exact jl aM.out dz.out (gD.out _)) | (go_at_call 49;exact jl aM.out dz.out (iH.out _))))
        refine wpQuiet_nil ?_
        intro _ hw'
        obtain⟨t,rfl⟩:=hw'
        have lu:=hide (aM.out t)
        generalize gt t=w9 at*
        clear k0 k1 k2 k3 aM dz
        have HF:=hide (show E=5 from by rw[HG.out];simp only[fZ,aJ.e1,aJ.e2,a2,Bool.true_or,Bool.or_true,if_true])
        go_wp2
        go_ret
        exact⟨aj HF.out.symm,(HQ.out _ (mQ.out.trans (lu.out.mono mQ.out.size))).2.2⟩
       simp only[a2]at iH
       repeat (go_big_quiet_step (first | (go_at_call_of 49 (Value.agg #[Value.int .i64 ra,Value.int .i64 rp]);exact jl aM.out dz.out (gD.out _)) | (go_at_call 49;exact jl aM.out dz.out (iH.out _))))
       refine wpQuiet_nil ?_
       intro _ hw'
       obtain⟨t,rfl⟩:=hw'
       have lu:=hide (aM.out t)
       generalize gt t=w9 at*
       clear k0 k1 k2 k3 aM dz
       have HF:=hide (show E=fV (ds.map ah.dev) (ends++[(ra,rp),(rb,rq)]) (ls.drop (k+1))from by
        rw[HG.out]
        simp only[fZ,aJ.e1,aJ.e2,e12,a1,a2,Bool.or_false,Bool.false_eq_true,if_false])
       have FX:=hide (uW.out w9 lu.out).2.2
       have HOL:=hide (nC.out w9 lu.out)
       have Eu:=hide (mQ.out.trans (lu.out.mono mQ.out.size))
       have Al:W0.heap.size≤w9.heap.size:=Eu.out.size
       clear e12 a1 a2 HG
       go_wp2_with (at_builtin;refine dS _ rfl (.tmp 170) (.tmp 171) 97 rfl W0.heap.size 98 i0 _ 2 16 Tryd.underlying97 hi0 hz0 hz1 hz2 rfl (by omega) (.slice A2 ends.length c2) ends.length (ends.flatMap fJ) rfl HOL.out (N+2) (some ⟨N+1,0,none⟩) 2 2 [.int .i64 ra,.int .i64 rp,.int .i64 rb,.int .i64 rq] rfl FX.out (by intro u hu;simp at hu;rcases hu with rfl | rfl | rfl | rfl<;>rfl) (by simp only[maxLen];omega) (by omega) (by omega) ?_;intro v5 w5 hown5 hg5 lI;have tu:=hide (nU Eu.out (Nat.le_refl _) hg5 (fun q hq=>(HOL.out.lt q hq).1));have lU:=hide hown5;clear hown5 hg5 lI)
       go_roundw
       case rel=>exact⟨k+1,ends++[(ra,rp),(rb,rq)],by omega,by go_num,HF,tu,hide (by simpa[fJ]using lU.out),hide (by have:=uV.out;simp;omega)⟩
       case measure=>simp[intOf];omega
    ·have HF:=hide (show E=0 from by rw[HC.out,List.drop_of_length_le (by have:=wK.out;omega)];rfl)
     go_wp2
     go_ret
     exact⟨aj HF.out.symm,aV.out⟩
open Go.ChangeAt Go.ChangeShapes Go.WideShapes
theorem CU {w:World} {base e s m n c:Nat} {A:Option Addr} {xs:List Value} (h:w.ownsRow base e s (.slice A n c) m xs):c≤maxLen:=by
 rcases h.2 with⟨e,_⟩ | ⟨q,cap,cur,e,r⟩
 ·simp only[Value.slice.injEq]at e;rw[e.2.2];exact Nat.zero_le _
 ·simp only[Value.slice.injEq]at e;rw[e.2.2];exact r.2.2.2.1
theorem uG {w:World} {B n:Nat} {A:Option Addr} {l:List Int} (h:bD jf 1 w B A n l) (ho:∀x∈l,bG x):jg w B A n l:=
 ⟨h.1,ho,fun h0=>by
  obtain⟨b,o,e,hb,hg⟩:=h.2 h0
  refine⟨b,o,e,hb,fun k x hx=>?_⟩
  have:=hg k x hx 0 _ rfl
  rwa [Nat.mul_one]at this⟩
end Go.Proofs.YtifkacnoiocebaaDoor
