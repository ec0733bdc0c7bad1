/- A part of the proof: RefNet, Ring2, PkChk, Ring3, RgF. -/
import Derived.Test.YtifkacnoiocebaaGreatDz11
import Derived.Test.YtifkacnoiocebaaGreatDz12
set_option linter.unusedVariables false
set_option linter.unusedSimpArgs false
set_option maxRecDepth 100000
set_option maxHeartbeats 16000000
namespace Go.Proofs.YtifkacnoiocebaaGreat
open Go.RowKit
theorem Tryz.infoPair:(Tryz.prog.info? 86).map (fun i=>(i.zero,i.size,i.bytes))=some (some (.agg #[.int .i64 0,.int .i64 0]),2,16):=by kernel_rfl
theorem Jr (X:Int) (n:Nat):aZ X 0 ((n:Int) - 1)=(decide (0≤X) && decide (X<(n:Int))):=by
 unfold aZ
 rw[Bool.eq_iff_iff];simp;omega
theorem L9 (X p:Int):aZ X 0 (p - 1)=(decide (0≤X) && decide (X<p)):=by
 unfold aZ
 rw[Bool.eq_iff_iff];simp;omega
theorem XU {s:ByteArray} {b:Bool} {q:Nat} (hq:s.size≤q) (h:b=(aZ s.size 1 8 && (s.data.toList.take q).all iL)):b=lJ s:=by
 rw[h,List.take_of_length_le (by simpa using hq)]
 unfold lJ aZ
 generalize s.data.toList.all iL=b
 rw[Bool.eq_iff_iff]
 cases b<;>simp<;>omega
theorem P7 {ds:List ak} {k:Nat} {nm:ByteArray} (h:∀i d,i<k→ds[i]?=some d→dQ d.name nm=false):((ds.map ak.dev).take k).any (fun x=>dQ x.name nm)=false:=by
 rw[List.any_eq_false]
 intro x hx
 obtain⟨j,hj⟩:=List.getElem?_of_mem hx
 have hjk:j<k:=by have:=(List.getElem?_eq_some_iff.1 hj).1;simp at this;omega
 rw[List.getElem?_take_of_lt hjk,List.getElem?_map]at hj
 cases hd:ds[j]? with
 |none=>rw[hd]at hj;cases hj
 |some d=>rw[hd]at hj;cases hj;simpa[ak.dev]using h j d hjk hd
theorem Ns {ds:List ak} {k j:Nat} {d:ak} {nm:ByteArray} (hj:j<k) (hd:ds[j]?=some d) (h:dQ d.name nm=true):((ds.map ak.dev).take k).any (fun x=>dQ x.name nm)=true:=by
 rw[List.any_eq_true]
 exact⟨d.dev,List.mem_of_getElem? (i:=j) (by rw[List.getElem?_take_of_lt hj,List.getElem?_map,hd];rfl),h⟩
theorem La (n:aC) (W:World) (hn:bq W W.heap.size n):
  Calls Tryz.prog 6 #[n.val] W fun e W'=>e= .returned (.int .i64 (fq n.au n.ls))∧RowKit.Below W.heap.size W W':=by
 obtain⟨i0,hi0,hz0,hz1,hz2⟩:=info_parts Tryz.infoPair
 obtain⟨dA,dn,dc,ds,lA,ln,lc,ls⟩:=n
 obtain⟨W0,hW0⟩:∃W0,W0=W.alloc (.cells #[.slice dA dn dc,.slice lA ln lc] 25):=⟨_,rfl⟩
 have HB0:=hide (show RowKit.Below W.heap.size W W0 from by rw[hW0];exact(RowKit.Below.refl _ _).alloc (Nat.le_refl _) _)
 have jM:=hide (show W0.heap.size=W.heap.size+1 from by rw[hW0];simp)
 have HQ:=hide (fun(w':World) (hb:RowKit.Below W0.heap.size W0 w')=>show(w'.cell? ⟨W.heap.size,0,none⟩=some (.slice dA dn dc)∧w'.cell? ⟨W.heap.size,1,none⟩=some (.slice lA ln lc))∧bq w' w'.heap.size ⟨dA,dn,dc,ds,lA,ln,lc,ls⟩∧RowKit.Below W.heap.size W w' from by
  have h1:=HB0.out.trans (hb.mono (by rw[jM.out];omega))
  rw[jM.out,hW0]at hb
  exact⟨⟨nH W _ _ rfl hb 0 _ rfl,nH W _ _ rfl hb 1 _ rfl⟩,hn.below h1 h1.size,h1⟩)
 have jd:=hide (show ds.length=dn from hn.iK)
 have jL:=hide (show ls.length=ln from hn.llen)
 have hdc:dn≤dc:=hn.cd.1
 have hlc:ln≤lc:=hn.cl.1
 have HM:=hide (And.intro hn.cd.2 hn.cl.2)
 clear hn
 have HN:=hide (show fq (aC.au ⟨dA,dn,dc,ds,lA,ln,lc,ls⟩) ls=if 10<dn∨15<ln then 2 else if fC [] (ds.map ak.dev)=0 then gB (ds.map ak.dev) [] ls else fC [] (ds.map ak.dev)from by
  unfold fq aC.au;rw[List.length_map,jd.out,jL.out])
 simp only[aC.val]at*
 generalize fq _ _=E at*
 obtain⟨x0,x1⟩:=(HQ.out W0 (RowKit.Below.refl _ _)).1
 have HR:=hide (RowKit.Below.refl W0.heap.size W0)
 by_cases h10:10<dn
 ·have HF:=hide (show E=2 from by rw[HN.out,if_pos (.inl h10)])
  clear HN x0 x1
  subst hW0
  go_enter Tryz.func6,Tryz.ntmps6
  go_wp2
  go_ret
  exact⟨aA HF.out.symm,(HQ.out _ HR.out).2.2⟩
 by_cases XQ:15<ln
 ·have HF:=hide (show E=2 from by rw[HN.out,if_pos (.inr XQ)])
  clear HN x0 x1
  subst hW0
  go_enter Tryz.func6,Tryz.ntmps6
  go_wp2
  go_ret
  exact⟨aA HF.out.symm,(HQ.out _ HR.out).2.2⟩
 have qV:=hide (show E=if fC [] (ds.map ak.dev)=0 then gB (ds.map ak.dev) [] ls else fC [] (ds.map ak.dev)from by rw[HN.out,if_neg (by omega)])
 clear HN x0 x1
 go_enter Tryz.func6,Tryz.ntmps6
 go_wp2
 rw[← hW0]
 clear hW0
 go_loopw [3] (fun i wr=>∃k:Nat,k≤dn∧i= .int .i64 k∧Hid (fC [] (ds.map ak.dev)=fC ((ds.map ak.dev).take k) ((ds.map ak.dev).drop k))∧Hid (RowKit.Below W0.heap.size W0 wr)) (fun i _=>dn - (intOf i).toNat)
 case atStart=>exact⟨0,Nat.zero_le _,rfl,hide rfl,hide (RowKit.Below.refl _ _)⟩
 case round=>
  obtain⟨k,hk,rfl,HC,HB⟩:=hrel
  obtain⟨⟨x0,x1⟩,hna,hbW⟩:=HQ.out wr HB.out
  have jS:=hide hna
  have gD:=hide hbW
  clear hna hbW
  by_cases hlt:k<dn
  ·obtain⟨r,hr⟩:∃r,ds[k]?=some r:=⟨_,List.getElem?_eq_getElem (by have:=jd.out;omega)⟩
   have HS:=hide (Ej (l:=ds.map ak.dev) (k:=k) (d:=r.dev) (by rw[List.getElem?_map,hr];rfl))
   obtain⟨b,o,rfl,_,_⟩:=jS.out.ds.2 (by show 0<dn;omega)
   obtain⟨kD,q0,q1,q2,q3,q4,q5,q6⟩:=fP jS.out.ds hr
   have hnm:r.name.size≤9223372036854775807:=by have:=(jS.out.qW r (List.mem_of_getElem? hr)).nm;unfold maxLen at this;exact this
   have HGN:=hide (fun(j:Nat) (d:ak) (hd:ds[j]?=some d) (w':World) (hb:RowKit.Below W0.heap.size W0 w')=>(fP (HQ.out w' hb).2.1.ds hd).2.1)
   obtain⟨nm,kd,ad,pl,bA,bn,bc,bs,rA,rn,rc,rs,tA,tn,tc,ts⟩:=r
   obtain⟨N,hN⟩:∃N,wr.heap.size=N:=⟨_,rfl⟩
   obtain⟨w1,hw1⟩:∃w1,w1=wr.alloc (.cells #[.string nm,.int .i64 kd,.int .i64 ad,.int .u8 pl,.slice bA bn bc,.slice rA rn rc,.slice tA tn tc] 81):=⟨_,rfl⟩
   have HB1:=hide (show RowKit.Below W0.heap.size W0 w1 from by rw[hw1];exact HB.out.alloc HB.out.size _)
   have eF:=hide (fun(w':World) (hb:RowKit.Below w1.heap.size w1 w')=>show gQ w' N ⟨nm,kd,ad,pl,bA,bn,bc,bs,rA,rn,rc,rs,tA,tn,tc,ts⟩∧(w'.cell? ⟨W.heap.size,0,none⟩=some (.slice (some ⟨b,o,none⟩) dn dc)∧w'.cell? ⟨W.heap.size,1,none⟩=some (.slice lA ln lc))∧RowKit.Below W0.heap.size W0 w'∧N<w'.heap.size from by
    have hs:w1.heap.size=N+1:=by rw[hw1,← hN];simp
    have h1:=HB1.out.trans (hb.mono HB1.out.size)
    have h2:=hb.size
    refine⟨gQ.below (w:=w1) (by rw[hw1,← hN];exact gQ.new wr ⟨nm,kd,ad,pl,bA,bn,bc,bs,rA,rn,rc,rs,tA,tn,tc,ts⟩ _) hb (by omega),(HQ.out w' h1).1,h1,by omega⟩)
   have Jk:=hide (Nr ⟨nm,kd,ad,pl,bA,bn,bc,bs,rA,rn,rc,rs,tA,tn,tc,ts⟩)
   have gF:=hide (fun(w':World) (hb:RowKit.Below w1.heap.size w1 w')=>show bW w' w'.heap.size ⟨nm,kd,ad,pl,bA,bn,bc,bs,rA,rn,rc,rs,tA,tn,tc,ts⟩from by
    have h1:=(eF.out w' hb).2.2.1
    exact(HQ.out w' h1).2.1.qW _ (List.mem_of_getElem? hr))
   clear hr
   simp only[ak.dev]at HS Jk
   have HW1:=hide hw1
   clear hw1
   go_wp2_with fail
   refine(aX _ _ _ _).mono ?_
   rintro e w' ⟨rfl,rfl⟩
   rw[← HW1.out]
   clear q0 q1 q2 q3 q4 q5 q6 x0 x1
   obtain⟨⟨y0,y1,y2,y3,y4,y5,y6⟩,⟨x0,x1⟩,_,hNs⟩:=eF.out w1 (RowKit.Below.refl _ _)
   have XV:=hide (show aZ (nm.size:Int) 1 8=(aZ (nm.size:Int) 1 8 && (nm.data.toList.take 0).all iL)from by simp)
   have HRF:=hide (rfl:aZ (nm.size:Int) 1 8=aZ (nm.size:Int) 1 8)
   go_wp2
   go_loop [5,6] (fun u i=>∃(q:Nat) (bb:Bool),q≤nm.size∧i= .int .i64 q∧u= .bool bb∧Hid (bb=(aZ (nm.size:Int) 1 8 && (nm.data.toList.take q).all iL))) (fun _ i=>nm.size - (intOf i).toNat)
   case atStart=>exact⟨0,_,Nat.zero_le _,rfl,rfl,XV⟩
   case round=>
    clear XV
    obtain⟨q,bb,hq,rfl,rfl,kE⟩:=hrel
    by_cases hqs:q<nm.size
    ·have HT:=hide (show nm.data.toList.take (q+1)=nm.data.toList.take q++[nm[q]]from by rw[List.take_succ_eq_append_getElem (by simpa using hqs)];rfl)
     have tX:=hide (show(aZ (nm.size:Int) 1 8 && (nm.data.toList.take (q+1)).all iL)=(bb && iL nm[q])from by rw[HT.out,List.all_append,kE.out];simp[Bool.and_assoc])
     generalize aZ (nm.size:Int) 1 8=IN at*
     cases bb
     ·go_wp2
      all_goals
       go_round
       case rel=>exact⟨q+1,_,by omega,by go_num,rfl,hide (by rw[tX.out];simp)⟩
       case measure=>simp[intOf];omega
     ·go_wp2
      all_goals
       go_round
       case rel=>exact⟨q+1,_,by omega,by go_num,rfl,hide (by rw[tX.out,Bool.eq_iff_iff];simp[iL]<;>omega)⟩
       case measure=>simp[intOf];omega
    ·have CQ:=hide (XU (by omega) kE.out)
     clear kE
     cases hbb:bb
     ·subst hbb
      have HF:=hide (show E=3 from by rw[qV.out,HC.out,HS.out];simp[← CQ.out])
      go_wp2
      go_ret
      exact⟨aA HF.out.symm,(HQ.out _ HB1.out).2.2⟩
     subst hbb
     have HR1:=hide (RowKit.Below.refl w1.heap.size w1)
     go_wp2
     clear y0 y1 y2 y3 y4 y5 y6 x0 x1
     go_loopw [8] (fun i wi=>∃j:Nat,j≤k∧i= .int .i64 j∧Hid (∀i d,i<j→ds[i]?=some d→dQ d.name nm=false)∧Hid (RowKit.Below w1.heap.size w1 wi)) (fun i _=>k - (intOf i).toNat)
     case atStart=>exact⟨0,Nat.zero_le _,rfl,hide (fun i d h=>absurd h (by omega)),HR1⟩
     case round=>
      clear HR1
      obtain⟨j,hj,rfl,HNo,XW⟩:=hrel
      obtain⟨⟨y0,y1,y2,y3,y4,y5,y6⟩,⟨x0,x1⟩,hbi,_⟩:=eF.out wr XW.out
      have Nt:=hide hbi
      clear hbi
      by_cases hjk:j<k
      ·obtain⟨d,hd⟩:∃r,ds[j]?=some r:=⟨_,List.getElem?_eq_getElem (by have:=jd.out;omega)⟩
       have q1:=HGN.out j d hd wr Nt.out
       have HDJ:=hide hd
       clear hd
       generalize hdn:d.name=dnm at*
       have GK:=hide hdn
       clear hdn
       by_cases e:dnm.toList=nm.toList
       ·have HF:=hide (show E=5 from by
         have hv:fC [] (ds.map ak.dev)=5:=by
          have h1:lJ nm=true:=CQ.out.symm
          have h2:=Ns (nm:=nm) hjk HDJ.out (by rw[GK.out];simp[dQ,e])
          rw[HC.out,HS.out]
          simp only[h1,h2,Bool.true_eq_false,if_false,if_true]
         rw[qV.out,hv];rfl)
        go_wp2
        go_quiet (fail)
        go_wp2
        go_ret
        exact⟨aA HF.out.symm,(HQ.out _ Nt.out).2.2.trans (fT _ _ _)⟩
       ·have HNJ:=hide (show∀i d,i<j+1→ds[i]?=some d→dQ d.name nm=false from fun i d hi hd=>by
         rcases(by omega:i<j∨i=j)with h | rfl
         ·exact HNo.out i d h hd
         ·have e2:=HDJ.out
          rw[e2]at hd
          cases hd
          rw[GK.out]
          simp[dQ,e])
        have e2:(dnm.toList ==nm.toList)=false:=by simpa using e
        go_wp2
        go_quiet (fail)
        go_wp2
        go_roundw
        case rel=>exact⟨j+1,by omega,by go_num,HNJ,hide (XW.out.trans (fT _ _ _))⟩
        case measure=>simp[intOf];omega
      ·obtain rfl:j=k:=by omega
       have om:=hide (P7 HNo.out)
       have yD:=hide (Jk.out wr (gF.out wr XW.out))
       simp only[ak.val]at yD
       obtain⟨DE,PL⟩:∃DE,aS ⟨nm,kd,ad,pl,bs,rs,ts⟩=DE:=⟨_,rfl⟩
       simp only[PL]at HS yD
       clear PL
       go_wp2_with fail
       refine yD.out.mono ?_
       clear yD Jk
       rintro e w3 ⟨rfl,hb⟩
       have HB3:=hide (Nt.out.trans (hb.mono Nt.out.size))
       clear hb y0 y1 y2 y3 y4 y5 y6 x0 x1
       by_cases hde:DE=0
       ·subst hde
        have HF:=hide (show fC [] (ds.map ak.dev)=fC ((ds.map ak.dev).take (j+1)) ((ds.map ak.dev).drop (j+1))from by rw[HC.out,HS.out];simp[← CQ.out,om.out])
        clear HS om
        go_wp2
        go_roundw
        case rel=>exact⟨j+1,by omega,by go_num,HF,HB3⟩
        case measure=>simp[intOf];omega
       ·have d1:(DE != 0)=true:=by simpa using hde
        have d2:(DE ==0)=false:=by simpa using hde
        have HF:=hide (show E=DE from by rw[qV.out,HC.out,HS.out];simp[← CQ.out,om.out,hde])
        clear HS om hde
        go_wp2
        go_ret
        exact⟨aA HF.out.symm,(HQ.out _ HB3.out).2.2⟩
  ·have HF:=hide (show E=gB (ds.map ak.dev) [] ls from by
    have:fC [] (ds.map ak.dev)=0:=by rw[HC.out,List.drop_of_length_le (by rw[List.length_map];have:=jd.out;omega)];rfl
    rw[qV.out,if_pos this])
   have HO:=hide (World.ownsRow_nil wr W0.heap.size 86 2)
   have PN:=HB
   go_wp2
   clear HC hk hlt x0 x1 HB jS gD
   go_loopw [10,11] (fun v i wr=>∃(k:Nat) (ends:List Pl),k≤ln∧i= .int .i64 k∧Hid (E=gB (ds.map ak.dev) ends (ls.drop k))∧Hid (RowKit.Below W0.heap.size W0 wr)∧Hid (wr.ownsRow W0.heap.size 86 2 v ends.length (ends.flatMap gX))∧Hid (ends.length=2*k)) (fun _ i _=>ln - (intOf i).toNat)
   case atStart=>exact⟨0,[],Nat.zero_le _,rfl,HF,PN,HO,hide rfl⟩
   case round=>
    clear HF HO PN
    obtain⟨k,ends,hk,rfl,HC,HB,HO,yE⟩:=hrel
    generalize u10=v at*
    obtain⟨⟨x0,x1⟩,hna,hbW⟩:=HQ.out wr HB.out
    have jS:=hide hna
    have gD:=hide hbW
    clear hna hbW
    by_cases hlt:k<ln
    ·obtain⟨r,hr⟩:∃r,ls[k]?=some r:=⟨_,List.getElem?_eq_getElem (by have:=jL.out;omega)⟩
     have HBAD:=hide (fun j (hj:j<2) h1 h2=>HC.out.trans (El (ds:=ds.map ak.dev) (ends:=ends) (j:=j) hr hj h1 h2))
     have qC:=hide (fun h1=>HC.out.trans (CK (ds:=ds.map ak.dev) (ends:=ends) hr h1))
     obtain⟨b,o,rfl,_,_⟩:=jS.out.ls.2 (by show 0<ln;omega)
     obtain⟨kD,q0,q1,q2,q3⟩:=oM jS.out.ls hr
     clear hr
     obtain⟨A2,c2,rfl,hc2,_,_⟩:=bD.lC gW HO.out rfl
     obtain⟨ra,rp,rb,rq⟩:=r
     go_wp2
     clear q0 q1 q2 q3 x0 x1
     obtain⟨N,hN⟩:∃N,wr.heap.size=N:=⟨_,rfl⟩
     have dY:=hide (fun t1 t2=>show RowKit.Below N wr ((wr.alloc (.cells #[.int .i64 ra,.int .i64 rp,.int .i64 rb,.int .i64 rq] t1)).alloc (.cells #[.int .i64 ra,.int .i64 rp,.int .i64 rb,.int .i64 rq] t2))from by rw[← hN];exact((RowKit.Below.refl _ _).alloc (Nat.le_refl _) _).alloc (by simp) _)
     have PO:=hide (fun t1 t2 (w':World) (hb:RowKit.Below (N+2) ((wr.alloc (.cells #[.int .i64 ra,.int .i64 rp,.int .i64 rb,.int .i64 rq] t1)).alloc (.cells #[.int .i64 ra,.int .i64 rp,.int .i64 rb,.int .i64 rq] t2)) w')=>show(∀j,j<2→w'.cell? ⟨N+1,j*2,none⟩=some (.int .i64 (qm ⟨ra,rp,rb,rq⟩ j).1)∧w'.cell? ⟨N+1,j*2+1,none⟩=some (.int .i64 (qm ⟨ra,rp,rb,rq⟩ j).2))∧Reads w' (N+2) 2 (some ⟨N+1,0,none⟩) 2 [.int .i64 ra,.int .i64 rp,.int .i64 rb,.int .i64 rq]from by
      have hs1:(wr.alloc (.cells #[.int .i64 ra,.int .i64 rp,.int .i64 rb,.int .i64 rq] t1)).heap.size =N+1:=by rw[← hN];simp
      have c2:∀o v,(#[Value.int .i64 ra,.int .i64 rp,.int .i64 rb,.int .i64 rq]:Array Value)[o]?=some v→w'.cell? ⟨N+1,o,none⟩=some v:=fun o v hv=>nH _ _ _ hs1 hb o v hv
      refine⟨fun j hj=>?_,rfl,fun _=>⟨_,rfl,by show N+1<_;omega,fun j u hu=>?_⟩⟩
      ·rcases(by omega:j=0∨j=1)with rfl | rfl
       ·exact⟨c2 0 _ rfl,c2 1 _ rfl⟩
       ·exact⟨c2 2 _ rfl,c2 3 _ rfl⟩
      ·rw[addr_add,Nat.zero_add]
       exact c2 j u (by simpa using hu))
     have HW1:=dY.out 85 86
     have HW2:=PO.out 85 86
     have hsA:((wr.alloc (.cells #[.int .i64 ra,.int .i64 rp,.int .i64 rb,.int .i64 rq] 85)).alloc (.cells #[.int .i64 ra,.int .i64 rp,.int .i64 rb,.int .i64 rq] 86)).heap.size =N+2:=by rw[← hN];simp
     clear dY PO
     generalize World.alloc (World.alloc wr _) _=wA at*
     have HA1:=hide HW1
     have HA2:=hide HW2
     have wM:=hide hsA
     have XR:W0.heap.size≤N:=by rw[← hN];exact HB.out.size
     have bO:=hide (HB.out.trans (HW1.mono XR))
     have Em:=hide (fun(w':World) (hb:RowKit.Below N wr w')=>own_below HO.out (by rw[hN];exact hb))
     rw[hN]
     clear HW1 HW2 hsA HO HB hN jS gD
     obtain⟨wo,hwo⟩:∃wo:World,wo=wr:=⟨_,rfl⟩
     rw[← hwo]at HA1 Em
     clear hwo
     have j4:=hide (RowKit.Below.refl wA.heap.size wA)
     go_loopw [14] (fun i wj=>∃j:Nat,j≤2∧i= .int .i64 j∧Hid (∀i,i<j→dI (ds.map ak.dev) (qm ⟨ra,rp,rb,rq⟩ i)=true)∧Hid (RowKit.Below wA.heap.size wA wj)) (fun i _=>2 - (intOf i).toNat)
     case atStart=>exact⟨0,Nat.zero_le _,rfl,hide (fun i h=>absurd h (by omega)),j4⟩
     case round=>
      clear j4
      obtain⟨j,hj,rfl,HP,HJ⟩:=hrel
      have tQ:=hide (bO.out.trans (HJ.out.mono bO.out.size))
      have GL:=hide (fun(w':World) (hb:RowKit.Below wr.heap.size wr w')=>And.intro (HQ.out w' (tQ.out.trans (hb.mono tQ.out.size))) (HA2.out w' (wM.out▸HJ.out.trans (hb.mono HJ.out.size))))
      by_cases hj2:j<2
      ·have Jl:=hide (fun h=>HBAD.out j hj2 HP.out h)
       have PU:=hide (fun(h:dI (ds.map ak.dev) (qm ⟨ra,rp,rb,rq⟩ j)=true) i (hi:i<j+1)=>show dI (ds.map ak.dev) (qm ⟨ra,rp,rb,rq⟩ i)=true from by
        rcases(by omega:i<j∨i=j)with h1 | rfl
        ·exact HP.out i h1
        ·exact h)
       have Ak:=hide (fun(w':World) (hb:RowKit.Below wr.heap.size wr w')=>(GL.out w' hb).2.1 j hj2)
       obtain⟨X,Y,PV⟩:∃X Y,qm ⟨ra,rp,rb,rq⟩ j=(X,Y):=⟨_,_,rfl⟩
       simp only[PV]at Ak Jl PU
       clear PV
       have j1:(0:Int)≤(j:Int):=by omega
       have j2:(j:Int)<2:=by omega
       have d0:(0:Int)≤(dn:Int):=by omega
       have d1:(dn:Int)≤10:=by omega
       have jS:=hide (HQ.out wr tQ.out).2.1
       cases e1:(decide (0≤X) && decide (X<(dn:Int)))
       ·have HF:=hide (show E=1 from Jl.out (by simp only[dI,List.length_map,jd.out,e1];rfl))
        go_wp2
        refine bB (by kernel_rfl) (by kernel_rfl) ?_
        intro T hT gt hg hgi
        have aJ:=hide hg
        have dZ:=hide hgi
        clear hg hgi
        have k0:=fun t=>(Ak.out _ (aJ.out t)).1
        have k1:=fun t=>(Ak.out _ (aJ.out t)).2
        have k2:=fun t=>(GL.out _ (aJ.out t)).1.1.1
        have iw:=hide (fun t=>dR (gt t) ((Jr X dn).trans e1))
        clear e1
        repeat (go_big_quiet_step ((go_at_call 7;exact gu (iw.out _))))
        refine wpQuiet_nil ?_
        intro _ hw'
        obtain⟨t,rfl⟩:=hw'
        have mJ:=hide (HJ.out.trans ((aJ.out t).mono HJ.out.size))
        generalize gt t=w9 at*
        clear k0 k1 k2 aJ dZ
        go_wp2
        go_ret
        exact⟨aA HF.out.symm,(HQ.out _ (bO.out.trans (mJ.out.mono bO.out.size))).2.2⟩
       ·have rU:=e1
        simp only[Bool.and_eq_true,decide_eq_true_eq]at rU
        obtain⟨i,rfl⟩:∃i:Nat,X=(i:Int):=⟨X.toNat,by omega⟩
        obtain⟨rd,hrd⟩:∃r,ds[i]?=some r:=⟨_,List.getElem?_eq_getElem (by have:=jd.out;omega)⟩
        have GJ:=hide (show lK (ds.map ak.dev) (i:Int)=rd.kind from by simp[lK,hrd,ak.dev])
        obtain⟨db,od,rfl,_,_⟩:=jS.out.ds.2 (by show 0<dn;omega)
        have PW:=hide (fun(w':World) (hb:RowKit.Below W0.heap.size W0 w')=>(fP (HQ.out w' hb).2.1.ds hrd).2.2.1)
        have i1:(0:Int)≤(i:Int):=by omega
        have i2:(i:Int)<(dn:Int):=by omega
        have PX:=hide (show dI (ds.map ak.dev) ((i:Int),Y)=(decide (0≤Y) && decide (Y<aN rd.kind))from by simp only[dI,List.length_map,jd.out,e1,GJ.out];rfl)
        obtain⟨pf1,pf2⟩:=pO rd.kind
        cases e2:(decide (0≤Y) && decide (Y<aN rd.kind))
        ·have HF:=hide (show E=1 from Jl.out (by rw[PX.out,e2]))
         go_wp2
         refine bB (by kernel_rfl) (by kernel_rfl) ?_
         intro T hT gt hg hgi
         have aJ:=hide hg
         have dZ:=hide hgi
         clear hg hgi
         have k0:=fun t=>(Ak.out _ (aJ.out t)).1
         have k1:=fun t=>(Ak.out _ (aJ.out t)).2
         have k2:=fun t=>(GL.out _ (aJ.out t)).1.1.1
         have k3:=fun t=>PW.out (gt t) (tQ.out.trans ((aJ.out t).mono tQ.out.size))
         have iw:=hide (fun t=>dR (gt t) ((Jr (i:Int) dn).trans e1))
         have vN:=hide (fun t=>iI rd.kind (gt t))
         have CO:=hide (fun t=>dR (gt t) ((L9 Y (aN rd.kind)).trans e2))
         clear e1 e2 rU
         generalize aN rd.kind=PF at*
         repeat (go_big_quiet_step (first | (go_at_call_of 7 (Value.int .i64 Y);exact gu (CO.out _)) | (go_at_call 7;exact gu (iw.out _)) | (go_at_call 29;exact eB aJ.out dZ.out (vN.out _))))
         refine wpQuiet_nil ?_
         intro _ hw'
         obtain⟨t,rfl⟩:=hw'
         have mJ:=hide (HJ.out.trans ((aJ.out t).mono HJ.out.size))
         generalize gt t=w9 at*
         clear k0 k1 k2 aJ dZ
         clear k3
         go_wp2
         go_ret
         exact⟨aA HF.out.symm,(HQ.out _ (bO.out.trans (mJ.out.mono bO.out.size))).2.2⟩
        ·have HF:=hide (PU.out (by rw[PX.out,e2]))
         go_wp2
         refine bB (by kernel_rfl) (by kernel_rfl) ?_
         intro T hT gt hg hgi
         have aJ:=hide hg
         have dZ:=hide hgi
         clear hg hgi
         have k0:=fun t=>(Ak.out _ (aJ.out t)).1
         have k1:=fun t=>(Ak.out _ (aJ.out t)).2
         have k2:=fun t=>(GL.out _ (aJ.out t)).1.1.1
         have k3:=fun t=>PW.out (gt t) (tQ.out.trans ((aJ.out t).mono tQ.out.size))
         have iw:=hide (fun t=>dR (gt t) ((Jr (i:Int) dn).trans e1))
         have vN:=hide (fun t=>iI rd.kind (gt t))
         have CO:=hide (fun t=>dR (gt t) ((L9 Y (aN rd.kind)).trans e2))
         clear e1 e2 rU
         generalize aN rd.kind=PF at*
         repeat (go_big_quiet_step (first | (go_at_call_of 7 (Value.int .i64 Y);exact gu (CO.out _)) | (go_at_call 7;exact gu (iw.out _)) | (go_at_call 29;exact eB aJ.out dZ.out (vN.out _))))
         refine wpQuiet_nil ?_
         intro _ hw'
         obtain⟨t,rfl⟩:=hw'
         have mJ:=hide (HJ.out.trans ((aJ.out t).mono HJ.out.size))
         generalize gt t=w9 at*
         clear k0 k1 k2 aJ dZ
         clear k3
         go_wp2
         go_roundw
         case rel=>exact⟨j+1,by omega,by go_num,HF,mJ⟩
         case measure=>simp[intOf];omega
      ·obtain rfl:j=2:=by omega
       have HG:=hide (qC.out HP.out)
       have hEL:ends.length≤30:=by have:=yE.out;omega
       have hNM:N+2≤wr.heap.size:=by have:=HJ.out.size;have:=wM.out;omega
       have fG:=hide (GL.out wr (RowKit.Below.refl _ _)).2.2
       have uO:=hide (fun(w':World) (hb:RowKit.Below wr.heap.size wr w')=>Em.out w' (HA1.out.trans ((HJ.out.trans (hb.mono HJ.out.size)).mono (by have:=wM.out;omega))))
       have tY:=hide (fun(w':World) (hb:RowKit.Below wr.heap.size wr w')=>And.intro ((GL.out w' hb).2.1 0 (by omega)) ((GL.out w' hb).2.1 1 (by omega)))
       simp only[qm,Nat.zero_mul,Nat.one_mul,Nat.zero_add,if_true,Nat.one_ne_zero,if_false,ah.e1,ah.e2]at tY
       clear HP HBAD qC
       have heq:=fun w=>AV w
       go_wp2
       refine bB (by kernel_rfl) (by kernel_rfl) ?_
       intro T hT gt hg hgi
       have aJ:=hide hg
       have dZ:=hide hgi
       clear hg hgi
       have k0:=fun t=>(tY.out _ (aJ.out t)).1.1
       have k1:=fun t=>(tY.out _ (aJ.out t)).1.2
       have k2:=fun t=>(tY.out _ (aJ.out t)).2.1
       have k3:=fun t=>(tY.out _ (aJ.out t)).2.2
       have iw:=hide (fun t=>yG ends A2 ends.length c2 ra rp (gt t) (by omega) (ql gW (uO.out _ (aJ.out t)) rfl))
       have vN:=hide (fun t=>yG ends A2 ends.length c2 rb rq (gt t) (by omega) (ql gW (uO.out _ (aJ.out t)) rfl))
       cases e12:dh (ra,rp) (rb,rq)
       case true=>
        repeat (go_big_quiet_step (first | (go_at_call_of 30 (Value.agg #[Value.int .i64 ra,Value.int .i64 rp]);exact eB aJ.out dZ.out (iw.out _)) | (go_at_call 30;exact eB aJ.out dZ.out (vN.out _))))
        refine wpQuiet_nil ?_
        intro _ hw'
        obtain⟨t,rfl⟩:=hw'
        have mJ:=hide (aJ.out t)
        generalize gt t=w9 at*
        clear k0 k1 k2 k3 aJ dZ
        have HF:=hide (show E=5 from by rw[HG.out];simp only[fE,ah.e1,ah.e2,e12,Bool.true_or,Bool.or_true,if_true])
        go_wp2
        go_ret
        exact⟨aA HF.out.symm,(HQ.out _ (tQ.out.trans (mJ.out.mono tQ.out.size))).2.2⟩
       cases a1:ends.any (fun z=>dh (ra,rp) z)
       case true=>
        simp only[a1]at iw
        repeat (go_big_quiet_step (first | (go_at_call_of 30 (Value.agg #[Value.int .i64 ra,Value.int .i64 rp]);exact eB aJ.out dZ.out (iw.out _)) | (go_at_call 30;exact eB aJ.out dZ.out (vN.out _))))
        refine wpQuiet_nil ?_
        intro _ hw'
        obtain⟨t,rfl⟩:=hw'
        have mJ:=hide (aJ.out t)
        generalize gt t=w9 at*
        clear k0 k1 k2 k3 aJ dZ
        have HF:=hide (show E=5 from by rw[HG.out];simp only[fE,ah.e1,ah.e2,a1,Bool.true_or,Bool.or_true,if_true])
        go_wp2
        go_ret
        exact⟨aA HF.out.symm,(HQ.out _ (tQ.out.trans (mJ.out.mono tQ.out.size))).2.2⟩
       simp only[a1]at iw
       cases a2:ends.any (fun z=>dh (rb,rq) z)
       case true=>
        simp only[a2]at vN
        repeat (go_big_quiet_step (first | (go_at_call_of 30 (Value.agg #[Value.int .i64 ra,Value.int .i64 rp]);exact eB aJ.out dZ.out (iw.out _)) | (go_at_call 30;exact eB aJ.out dZ.out (vN.out _))))
        refine wpQuiet_nil ?_
        intro _ hw'
        obtain⟨t,rfl⟩:=hw'
        have mJ:=hide (aJ.out t)
        generalize gt t=w9 at*
        clear k0 k1 k2 k3 aJ dZ
        have HF:=hide (show E=5 from by rw[HG.out];simp only[fE,ah.e1,ah.e2,a2,Bool.true_or,Bool.or_true,if_true])
        go_wp2
        go_ret
        exact⟨aA HF.out.symm,(HQ.out _ (tQ.out.trans (mJ.out.mono tQ.out.size))).2.2⟩
       simp only[a2]at vN
       repeat (go_big_quiet_step (first | (go_at_call_of 30 (Value.agg #[Value.int .i64 ra,Value.int .i64 rp]);exact eB aJ.out dZ.out (iw.out _)) | (go_at_call 30;exact eB aJ.out dZ.out (vN.out _))))
       refine wpQuiet_nil ?_
       intro _ hw'
       obtain⟨t,rfl⟩:=hw'
       have mJ:=hide (aJ.out t)
       generalize gt t=w9 at*
       clear k0 k1 k2 k3 aJ dZ
       have HF:=hide (show E=gB (ds.map ak.dev) (ends++[(ra,rp),(rb,rq)]) (ls.drop (k+1))from by
        rw[HG.out]
        simp only[fE,ah.e1,ah.e2,e12,a1,a2,Bool.or_false,Bool.false_eq_true,if_false])
       have HRe:=hide (GL.out w9 mJ.out).2.2
       have HOL:=hide (uO.out w9 mJ.out)
       have HW9:=hide (tQ.out.trans (mJ.out.mono tQ.out.size))
       have PZ:W0.heap.size≤w9.heap.size:=HW9.out.size
       clear e12 a1 a2 HG
       go_wp2_with (at_builtin;refine aT _ rfl (.tmp 170) (.tmp 171) 83 rfl W0.heap.size 86 i0 _ 2 16 Tryz.underlying83 hi0 hz0 hz1 hz2 rfl (by omega) (.slice A2 ends.length c2) ends.length (ends.flatMap gX) rfl HOL.out (N+2) (some ⟨N+1,0,none⟩) 2 2 [.int .i64 ra,.int .i64 rp,.int .i64 rb,.int .i64 rq] rfl HRe.out (by intro u hu;simp at hu;rcases hu with rfl | rfl | rfl | rfl<;>rfl) (by simp only[maxLen];omega) (by omega) (by omega) ?_;intro v5 w5 hown5 hg5 iD;have Eo:=hide (l8 HW9.out (Nat.le_refl _) hg5 (fun q hq=>(HOL.out.lt q hq).1));have Aj:=hide hown5;clear hown5 hg5 iD)
       go_roundw
       case rel=>exact⟨k+1,ends++[(ra,rp),(rb,rq)],by omega,by go_num,HF,Eo,hide (by simpa[gX]using Aj.out),hide (by have:=yE.out;simp;omega)⟩
       case measure=>simp[intOf];omega
    ·have HF:=hide (show E=0 from by rw[HC.out,List.drop_of_length_le (by have:=jL.out;omega)];rfl)
     go_wp2
     go_ret
     exact⟨aA HF.out.symm,gD.out⟩
theorem P8:∀(l:List (Array Value×TypeId)) (W:World) {W':World},RowKit.Below (W.heap.size+l.length) (l.foldl (fun w x=>w.alloc (.cells x.1 x.2)) W) W'→
  (∀(i:Nat) c t,l[i]?=some (c,t)→∀(o:Nat) (v:Value),c[o]?=some v→W'.cell? ⟨W.heap.size+i,o,none⟩=some v)∧RowKit.Below W.heap.size W W'∧W.heap.size+l.length≤W'.heap.size:=by
 intro l
 induction l with
 |nil=>
  intro W W' hb
  exact⟨fun i c t h=>by simp at h,by simpa using hb,by have:=hb.size;simpa using this⟩
 |cons x l ih=>
  intro W W' hb
  have hz:(W.alloc (.cells x.1 x.2)).heap.size =W.heap.size+1:=by simp
  obtain⟨h1,h2,h3⟩:=ih (W.alloc (.cells x.1 x.2)) (W':=W') (by
   rw[hz]
   simp only[List.foldl_cons,List.length_cons]at hb
   rw[show W.heap.size+1+l.length=W.heap.size+(l.length+1) by omega]
   exact hb)
  refine⟨fun i c t hi o v hv=>?_,((RowKit.Below.refl _ _).alloc (Nat.le_refl _) _).trans (h2.mono (by omega)),by rw[hz]at h3;simp only[List.length_cons];omega⟩
  cases i with
  |zero=>
   cases hi
   rw[hz]at h2
   exact nH W _ _ rfl h2 o v hv
  |succ i=>
   have:=h1 i c t (by simpa using hi) o v hv
   rw[hz]at this
   rw[show W.heap.size+(i+1)=W.heap.size+1+i by omega]
   exact this
open Go.Maps
theorem Nu (a:Int):aZ a 0 15=(decide (0≤a) && decide (a<16)):=by
 unfold aZ
 rw[Bool.eq_iff_iff];simp;omega
theorem UJ (a:Int):aZ a 0 7=(decide (0≤a) && decide (a<8)):=by
 unfold aZ
 rw[Bool.eq_iff_iff];simp;omega
theorem DF (p:P4) (W:World):Calls Tryz.prog 70 #[.agg #[.int .i64 p.src,.int .i64 p.dst,.int .i64 p.dz,.int .i64 p.dU]] W fun e W'=>e= .returned (.int .i64 (if dH p then 0 else 1))∧RowKit.Below W.heap.size W W':=by
 obtain⟨a,b,c,d⟩:=p
 have HB:=hide (fun o=>show RowKit.Below W.heap.size W (W.alloc o)from(RowKit.Below.refl _ _).alloc (Nat.le_refl _) o)
 have HR:=hide (show dH ⟨a,b,c,d⟩=(aZ a 0 15 && aZ b 0 15 && aZ c 0 7 && aZ d 0 7)from rfl)
 generalize dH _=R at*
 cases e1:aZ a 0 15
 ·have f1:=hide ((Nu a).symm.trans e1)
  have HF:=hide (show R=false from by rw[HR.out,e1];rfl)
  rw[HF.out]
  go_enter Tryz.func70,Tryz.ntmps70
  go_wp2_with (first | (go_at_call_of 73 (Value.int .i64 a);refine(eP _ _ _ _ f1.out).mono ?_;rintro e w1 ⟨rfl,rfl⟩))
  go_ret
  exact⟨rfl,HB.out _⟩
 have f1:=hide ((Nu a).symm.trans e1)
 cases e2:aZ b 0 15
 ·have f2:=hide ((Nu b).symm.trans e2)
  have HF:=hide (show R=false from by rw[HR.out,e1,e2];rfl)
  rw[HF.out]
  go_enter Tryz.func70,Tryz.ntmps70
  go_wp2_with (first | (go_at_call_of 73 (Value.int .i64 a);refine(eP _ _ _ _ f1.out).mono ?_;rintro e w1 ⟨rfl,rfl⟩) | (go_at_call_of 73 (Value.int .i64 b);refine(eP _ _ _ _ f2.out).mono ?_;rintro e w1 ⟨rfl,rfl⟩))
  go_ret
  exact⟨rfl,HB.out _⟩
 have f2:=hide ((Nu b).symm.trans e2)
 cases e3:aZ c 0 7
 ·have f3:=hide ((UJ c).symm.trans e3)
  have HF:=hide (show R=false from by rw[HR.out,e1,e2,e3];rfl)
  rw[HF.out]
  go_enter Tryz.func70,Tryz.ntmps70
  go_wp2_with (first | (go_at_call_of 73 (Value.int .i64 a);refine(eP _ _ _ _ f1.out).mono ?_;rintro e w1 ⟨rfl,rfl⟩) | (go_at_call_of 73 (Value.int .i64 b);refine(eP _ _ _ _ f2.out).mono ?_;rintro e w1 ⟨rfl,rfl⟩) | (go_at_call_of 73 (Value.int .i64 c);refine(eP _ _ _ _ f3.out).mono ?_;rintro e w1 ⟨rfl,rfl⟩))
  go_ret
  exact⟨rfl,HB.out _⟩
 have f3:=hide ((UJ c).symm.trans e3)
 cases e4:aZ d 0 7
 ·have f4:=hide ((UJ d).symm.trans e4)
  have HF:=hide (show R=false from by rw[HR.out,e1,e2,e3,e4];rfl)
  rw[HF.out]
  go_enter Tryz.func70,Tryz.ntmps70
  go_wp2_with (first | (go_at_call_of 73 (Value.int .i64 a);refine(eP _ _ _ _ f1.out).mono ?_;rintro e w1 ⟨rfl,rfl⟩) | (go_at_call_of 73 (Value.int .i64 b);refine(eP _ _ _ _ f2.out).mono ?_;rintro e w1 ⟨rfl,rfl⟩) | (go_at_call_of 73 (Value.int .i64 c);refine(eP _ _ _ _ f3.out).mono ?_;rintro e w1 ⟨rfl,rfl⟩) | (go_at_call_of 73 (Value.int .i64 d);refine(eP _ _ _ _ f4.out).mono ?_;rintro e w1 ⟨rfl,rfl⟩))
  go_ret
  exact⟨rfl,HB.out _⟩
 ·have f4:=hide ((UJ d).symm.trans e4)
  have HF:=hide (show R=true from by rw[HR.out,e1,e2,e3,e4];rfl)
  rw[HF.out]
  go_enter Tryz.func70,Tryz.ntmps70
  go_wp2_with (first | (go_at_call_of 73 (Value.int .i64 a);refine(eP _ _ _ _ f1.out).mono ?_;rintro e w1 ⟨rfl,rfl⟩) | (go_at_call_of 73 (Value.int .i64 b);refine(eP _ _ _ _ f2.out).mono ?_;rintro e w1 ⟨rfl,rfl⟩) | (go_at_call_of 73 (Value.int .i64 c);refine(eP _ _ _ _ f3.out).mono ?_;rintro e w1 ⟨rfl,rfl⟩) | (go_at_call_of 73 (Value.int .i64 d);refine(eP _ _ _ _ f4.out).mono ?_;rintro e w1 ⟨rfl,rfl⟩))
  go_ret
  exact⟨rfl,HB.out _⟩
end Go.Proofs.YtifkacnoiocebaaGreat
namespace Go.Proofs.YtifkacnoiocebaaGreat
open Go.RowKit
theorem Js (k:Int):0≤aN k∧aN k≤4:=by
 unfold aN
 repeat' split
 all_goals omega
open aj
theorem WM (l:List aG) (port:Int) (c:Nat) (hc:c<16384):outs (bU 65535 (fD (je l port) 16) 255 255) (aH c)=je l port (c / 64 % 16):=by
 rw[DI _ _ _ _ c hc]
 have h16:∀i:Fin 16,Nat.testBit 65535 i.val=true:=by decide+kernel
 have h8:∀i:Fin 8,Nat.testBit 255 i.val=true:=by decide+kernel
 have a:=h16 ⟨c / 1024,by omega⟩
 have b:=h8 ⟨c / 8 % 8,by omega⟩
 have d:=h8 ⟨c % 8,by omega⟩
 simp only at a b d
 unfold yJ
 rw[a,b,d,P9]
 have:c / 64 % 16<16:=by omega
 simp[this]
theorem jD (F G:aj.Fn) (x:iq):bf F G x=(F x && G x):=by unfold bf bE;cases F x<;>simp
theorem Qa (F G:aj.Fn) (x:iq):vO F G x=(F x || G x):=by unfold vO bE;cases F x<;>simp
theorem GN {p q:Nat→Bool} :∀ {l:List Nat},(∀a∈l,p a=true→q a=true)→(∃a∈l,q a=true∧p a=false)→l.countP p<l.countP q:=by
 intro l
 induction l with
 |nil=>rintro _ ⟨a,ha,_⟩;simp at ha
 |cons b l ih=>
  intro h hx
  have hle:l.countP p≤l.countP q:=List.countP_mono_left (fun a ha=>h a (by simp[ha]))
  have hb:=h b (by simp)
  obtain⟨a,ha,h1,h2⟩:=hx
  rw[List.countP_cons,List.countP_cons]
  rcases List.mem_cons.1 ha with rfl | ha'
  ·rw[h1,h2];simp;omega
  ·have:=ih (fun a ha=>h a (by simp[ha])) ⟨a,ha',h1,h2⟩
   cases hp:p b
   ·cases hq:q b<;>simp<;>omega
   ·rw[hb hp];simp;omega
def jW (S:Pl→aj.Fn) (l:List Pl):Nat:=(l.map fun x=>cntF 14 14 (S x)).sum
theorem Qb {F G:aj.Fn} (h:∀a,F a=true→G a=true):cntF 14 14 F≤cntF 14 14 G:=List.countP_mono_left (fun r _=>h _)
theorem cnt_lt {F G:aj.Fn} (hF:aj.Below 14 F) (hG:aj.Below 14 G) (h:∀a,F a=true→G a=true) (hne:F≠G):cntF 14 14 F<cntF 14 14 G:=by
 refine GN (fun r _=>h _) ?_
 rcases Classical.em (∃a,G a=true∧F a=false)with⟨a,h1,h2⟩ | hno
 ·have hcode:∀u,u<14→a u=Sv 14 (pQ a 14) u:=fun u hu=>(AY a 14 u hu).symm
  exact⟨pQ a 14,List.mem_range.2 (wN a 14),by rw[← hG a _ hcode];exact h1,by rw[← hF a _ hcode];exact h2⟩
 ·refine absurd (funext fun a=>?_) hne
  cases hf:F a
  ·cases hg:G a
   ·rfl
   ·exact absurd ⟨a,hg,hf⟩ hno
  ·rw[h a hf]
theorem WO {S S':Pl→aj.Fn} (h:∀x a,S' x a=true→S x a=true):∀l,jW S' l≤jW S l:=by
 intro l
 induction l with
 |nil=>simp[jW]
 |cons x l ih=>
  have:=Qb (h x)
  simp only[jW,List.map_cons,List.sum_cons]at*
  omega
theorem Mc {S S':Pl→aj.Fn} (hb:∀x,aj.Below 14 (S x)) (hb':∀x,aj.Below 14 (S' x)) (h:∀x a,S' x a=true→S x a=true) {x:Pl} (hne:S' x≠S x):∀l,x∈l→jW S' l<jW S l:=by
 intro l
 induction l with
 |nil=>intro hx;simp at hx
 |cons y l ih=>
  intro hx
  have h1:=Qb (h y)
  have h2:=WO h l
  rcases List.mem_cons.1 hx with rfl | hx'
  ·have:=cnt_lt (hb' x) (hb x) (h x) hne
   simp only[jW,List.map_cons,List.sum_cons]at*
   omega
  ·have:=ih hx'
   simp only[jW,List.map_cons,List.sum_cons]at*
   omega
end Go.Proofs.YtifkacnoiocebaaGreat
