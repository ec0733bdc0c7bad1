/- A part of the proof: NetCheck. -/
import Derived.Test.YtifkacnoiocebaaGreatDz9
set_option linter.unusedVariables false
set_option linter.unusedSimpArgs false
set_option maxRecDepth 100000
set_option maxHeartbeats 16000000
namespace Go.Proofs.YtifkacnoiocebaaGreat
open Go.RowKit
theorem nH (w:World) (cs:Array Value) (t:TypeId) {w':World} {N:Nat} (hN:w.heap.size=N) (hb:Below (N+1) (w.alloc (.cells cs t)) w') (o:Nat) (v:Value) (hv:cs[o]?=some v):w'.cell? ⟨N,o,none⟩=some v:=by
 subst hN
 have h:=(hb.block w.heap.size (Nat.lt_succ_self _)).trans (heap_alloc_new w _)
 rw[cell_of_row _ _ _ _ _ _ h]
 exact hv
theorem ql {α:Type} {cells:α→List Value} {s n base e c:Nat} {w:World} {A:Option Addr} {l:List α} (hs:∀r,(cells r).length =s) (h:w.ownsRow base e s (.slice A n c) n (l.flatMap cells)) (hl:l.length=n):bD cells s w w.heap.size A n l:=by
 obtain⟨A',c',e',_,h',_⟩:=bD.lC hs h hl
 cases e'
 exact h'
theorem Tryz.infoPlace:(Tryz.prog.info? 27).map (fun i=>(i.zero,i.size,i.bytes))=some (some (.agg #[.int .i64 0,.int .i64 0]),2,16):=by kernel_rfl
theorem vG (n:aC) (W:World) (hn:bq W W.heap.size n):
  Calls Tryz.prog 22 #[n.val] W fun e W'=>e= .returned (.int .i64 (fq n.au n.ls))∧RowKit.Below W.heap.size W W':=by
 obtain⟨i0,hi0,hz0,hz1,hz2⟩:=info_parts Tryz.infoPlace
 obtain⟨dA,dn,dc,ds,lA,ln,lc,ls⟩:=n
 obtain⟨W0,hW0⟩:∃W0,W0=W.alloc (.cells #[.slice dA dn dc,.slice lA ln lc] 25):=⟨_,rfl⟩
 have HB0:=hide (show RowKit.Below W.heap.size W W0 from by rw[hW0];exact(RowKit.Below.refl _ _).alloc (Nat.le_refl _) _)
 have jM:=hide (show W0.heap.size=W.heap.size+1 from by rw[hW0];simp)
 have HQ:=hide (fun(w':World) (hb:RowKit.Below W0.heap.size W0 w')=>show(w'.cell? ⟨W.heap.size,0,none⟩=some (.slice dA dn dc)∧w'.cell? ⟨W.heap.size,1,none⟩=some (.slice lA ln lc))∧bq w' w'.heap.size ⟨dA,dn,dc,ds,lA,ln,lc,ls⟩∧RowKit.Below W.heap.size W w' from by
  have h1:=HB0.out.trans (hb.mono (by rw[jM.out];omega))
  rw[jM.out,hW0]at hb
  exact⟨⟨nH W _ _ rfl hb 0 _ rfl,nH W _ _ rfl hb 1 _ rfl⟩,hn.below h1 h1.size,h1⟩)
 have jd:=hide (show ds.length=dn from hn.iK)
 have jL:=hide (show ls.length=ln from hn.llen)
 have hdc:dn≤dc:=hn.cd.1
 have hlc:ln≤lc:=hn.cl.1
 have HM:=hide (And.intro hn.cd.2 hn.cl.2)
 clear hn
 have HN:=hide (show fq (aC.au ⟨dA,dn,dc,ds,lA,ln,lc,ls⟩) ls=if 10<dn∨15<ln then 2 else if fC [] (ds.map ak.dev)=0 then gB (ds.map ak.dev) [] ls else fC [] (ds.map ak.dev)from by
  unfold fq aC.au;rw[List.length_map,jd.out,jL.out])
 simp only[aC.val]at*
 generalize fq _ _=E at*
 obtain⟨x0,x1⟩:=(HQ.out W0 (RowKit.Below.refl _ _)).1
 have HR:=hide (RowKit.Below.refl W0.heap.size W0)
 by_cases h10:10<dn
 ·have HF:=hide (show E=2 from by rw[HN.out,if_pos (.inl h10)])
  clear HN x0 x1
  subst hW0
  go_enter Tryz.func22,Tryz.ntmps22
  go_wp2
  go_ret
  exact⟨aA HF.out.symm,(HQ.out _ HR.out).2.2⟩
 by_cases XQ:15<ln
 ·have HF:=hide (show E=2 from by rw[HN.out,if_pos (.inr XQ)])
  clear HN x0 x1
  subst hW0
  go_enter Tryz.func22,Tryz.ntmps22
  go_wp2
  go_ret
  exact⟨aA HF.out.symm,(HQ.out _ HR.out).2.2⟩
 have qV:=hide (show E=if fC [] (ds.map ak.dev)=0 then gB (ds.map ak.dev) [] ls else fC [] (ds.map ak.dev)from by rw[HN.out,if_neg (by omega)])
 clear HN x0 x1
 go_enter Tryz.func22,Tryz.ntmps22
 go_wp2
 rw[← hW0]
 clear hW0
 go_loopw [26] (fun i wr=>∃k:Nat,k≤dn∧i= .int .i64 k∧Hid (fC [] (ds.map ak.dev)=fC ((ds.map ak.dev).take k) ((ds.map ak.dev).drop k))∧Hid (RowKit.Below W0.heap.size W0 wr)) (fun i _=>dn - (intOf i).toNat)
 case atStart=>exact⟨0,Nat.zero_le _,rfl,hide rfl,hide (RowKit.Below.refl _ _)⟩
 case round=>
  obtain⟨k,hk,rfl,HC,HB⟩:=hrel
  obtain⟨⟨x0,x1⟩,hna,hbW⟩:=HQ.out wr HB.out
  have jS:=hide hna
  have gD:=hide hbW
  clear hna hbW
  by_cases hlt:k<dn
  ·obtain⟨r,hr⟩:∃r,ds[k]?=some r:=⟨_,List.getElem?_eq_getElem (by have:=jd.out;omega)⟩
   have HS:=hide (Ej (l:=ds.map ak.dev) (k:=k) (d:=r.dev) (by rw[List.getElem?_map,hr];rfl))
   obtain⟨b,o,rfl,_,_⟩:=jS.out.ds.2 (by show 0<dn;omega)
   obtain⟨kD,q0,q1,q2,q3,q4,q5,q6⟩:=fP jS.out.ds hr
   have Sc:=jS.out.qW r (List.mem_of_getElem? hr)
   have HDK:=hide Sc
   have hnm:=Sc.nm
   obtain⟨nm,kd,ad,pl,bA,bn,bc,bs,rA,rn,rc,rs,tA,tn,tc,ts⟩:=r
   have hN:∃N,wr.heap.size=N:=⟨_,rfl⟩
   obtain⟨N,hN⟩:=hN
   obtain⟨w1,hw1⟩:∃w1,w1=wr.alloc (.cells #[.string nm,.int .i64 kd,.int .i64 ad,.int .u8 pl,.slice bA bn bc,.slice rA rn rc,.slice tA tn tc] 81):=⟨_,rfl⟩
   have HB1:=hide (show RowKit.Below W0.heap.size W0 w1 from by rw[hw1];exact HB.out.alloc HB.out.size _)
   have eF:=hide (fun(w':World) (hb:RowKit.Below w1.heap.size w1 w')=>show gQ w' N ⟨nm,kd,ad,pl,bA,bn,bc,bs,rA,rn,rc,rs,tA,tn,tc,ts⟩∧(w'.cell? ⟨W.heap.size,0,none⟩=some (.slice (some ⟨b,o,none⟩) dn dc)∧w'.cell? ⟨W.heap.size,1,none⟩=some (.slice lA ln lc))∧RowKit.Below W0.heap.size W0 w'∧N<w'.heap.size from by
    have hs:w1.heap.size=N+1:=by rw[hw1,← hN];simp
    have h1:=HB1.out.trans (hb.mono HB1.out.size)
    have h2:=hb.size
    refine⟨gQ.below (w:=w1) (by rw[hw1,← hN];exact gQ.new wr ⟨nm,kd,ad,pl,bA,bn,bc,bs,rA,rn,rc,rs,tA,tn,tc,ts⟩ _) hb (by omega),(HQ.out w' h1).1,h1,by omega⟩)
   have Jk:=hide (KX ⟨nm,kd,ad,pl,bA,bn,bc,bs,rA,rn,rc,rs,tA,tn,tc,ts⟩)
   have gF:=hide (fun(w':World) (hb:RowKit.Below w1.heap.size w1 w')=>show bW w' w'.heap.size ⟨nm,kd,ad,pl,bA,bn,bc,bs,rA,rn,rc,rs,tA,tn,tc,ts⟩from by
    have h1:=(eF.out w' hb).2.2.1
    exact(HQ.out w' h1).2.1.qW _ (List.mem_of_getElem? hr))
   clear hr Sc
   simp only[ak.dev]at HS Jk
   have HW1:=hide hw1
   clear hw1
   go_wp2_with fail
   refine(Nl nm _ hnm).mono ?_
   rintro e w' ⟨rfl,rfl⟩
   rw[← HW1.out]
   clear q0 q1 q2 q3 q4 q5 q6 x0 x1
   obtain⟨⟨y0,y1,y2,y3,y4,y5,y6⟩,⟨x0,x1⟩,_,hNs⟩:=eF.out w1 (RowKit.Below.refl _ _)
   cases e1:lJ nm
   ·have HF:=hide (show E=3 from by rw[qV.out,HC.out,HS.out];simp[e1])
    go_wp2
    go_ret
    exact⟨aA HF.out.symm,(HQ.out _ HB1.out).2.2⟩
   have HCT:=hide (AR (ds.take k) (some ⟨b,o,none⟩) k dc 50 #[.pointer (some ⟨N,0,none⟩)] (fun x=>dQ x.name nm) w1 (by omega) ((HQ.out _ HB1.out).2.1.ds.take (by show k≤dn;omega)) (fun args w=>by go_simp) (hide (fun r w' hr hw'=>by
    obtain⟨⟨z0,_⟩,_,_,xK⟩:=eF.out w' hw'
    exact F5 r nm N w' xK z0)))
   have om:=hide (show((ds.map ak.dev).take k).any (fun x=>dQ x.name nm)=(ds.take k).any (fun x=>dQ x.name nm)from by rw[← List.map_take,List.any_map];rfl)
   have g1:(k:Int)≤(dc:Int):=by omega
   have g2:dc≤9223372036854775807:=by have:=HM.out.1;unfold maxLen at this;exact this
   go_wp2_with fail
   refine HCT.out.mono ?_
   clear HCT
   rintro e w2 ⟨rfl,hb⟩
   have HB2:=hide hb
   clear hb y0 y1 y2 y3 y4 y5 y6 x0 x1
   obtain⟨⟨y0,y1,y2,y3,y4,y5,y6⟩,⟨x0,x1⟩,hb2,_⟩:=eF.out w2 HB2.out
   have Sd:=hide hb2
   clear hb2
   generalize hany:(ds.take k).any (fun x=>dQ x.name nm)=ANY at*
   clear hany
   cases ANY
   case true=>
    have HF:=hide (show E=5 from by rw[qV.out,HC.out,HS.out];simp[e1,om.out])
    go_wp2
    go_ret
    exact⟨aA HF.out.symm,(HQ.out _ Sd.out).2.2⟩
   have yD:=hide (Jk.out w2 (gF.out w2 HB2.out))
   simp only[ak.val]at yD
   obtain⟨DE,PL⟩:∃DE,aS ⟨nm,kd,ad,pl,bs,rs,ts⟩=DE:=⟨_,rfl⟩
   simp only[PL]at HS yD
   clear PL
   go_wp2_with fail
   refine yD.out.mono ?_
   clear yD Jk
   rintro e w3 ⟨rfl,hb⟩
   have HB3:=hide (Sd.out.trans (hb.mono Sd.out.size))
   clear hb y0 y1 y2 y3 y4 y5 y6 x0 x1
   by_cases hde:DE=0
   ·subst hde
    have HF:=hide (show fC [] (ds.map ak.dev)=fC ((ds.map ak.dev).take (k+1)) ((ds.map ak.dev).drop (k+1))from by rw[HC.out,HS.out];simp[e1,om.out])
    clear HS e1 om
    go_wp2
    go_roundw
    case rel=>exact⟨k+1,by omega,by go_num,HF,HB3⟩
    case measure=>simp[intOf];omega
   ·have d1:(DE != 0)=true:=by simpa using hde
    have d2:(DE ==0)=false:=by simpa using hde
    have HF:=hide (show E=DE from by rw[qV.out,HC.out,HS.out];simp[e1,om.out,hde])
    clear HS e1 om hde
    go_wp2
    go_ret
    exact⟨aA HF.out.symm,(HQ.out _ HB3.out).2.2⟩
  ·have HF:=hide (show E=gB (ds.map ak.dev) [] ls from by
    have:fC [] (ds.map ak.dev)=0:=by rw[HC.out,List.drop_of_length_le (by rw[List.length_map];have:=jd.out;omega)];rfl
    rw[qV.out,if_pos this])
   have HO:=hide (World.ownsRow_nil wr W0.heap.size 27 2)
   have PN:=HB
   go_wp2
   clear HC hk hlt x0 x1 HB jS gD
   go_loopw [6,50] (fun v i wr=>∃(k:Nat) (ends:List Pl),k≤ln∧i= .int .i64 k∧Hid (E=gB (ds.map ak.dev) ends (ls.drop k))∧Hid (RowKit.Below W0.heap.size W0 wr)∧Hid (wr.ownsRow W0.heap.size 27 2 v ends.length (ends.flatMap gX))∧Hid (ends.length=2*k)) (fun _ i _=>ln - (intOf i).toNat)
   case atStart=>exact⟨0,[],Nat.zero_le _,rfl,HF,PN,HO,hide rfl⟩
   case round=>
    clear HF HO PN
    obtain⟨k,ends,hk,rfl,HC,HB,HO,yE⟩:=hrel
    generalize u6=v at*
    obtain⟨⟨x0,x1⟩,hna,hbW⟩:=HQ.out wr HB.out
    have jS:=hide hna
    have gD:=hide hbW
    clear hna hbW
    by_cases hlt:k<ln
    ·obtain⟨r,hr⟩:∃r,ls[k]?=some r:=⟨_,List.getElem?_eq_getElem (by have:=jL.out;omega)⟩
     have HBAD:=hide (fun j (hj:j<2) h1 h2=>HC.out.trans (El (ds:=ds.map ak.dev) (ends:=ends) (j:=j) hr hj h1 h2))
     have qC:=hide (fun h1=>HC.out.trans (CK (ds:=ds.map ak.dev) (ends:=ends) hr h1))
     obtain⟨b,o,rfl,_,_⟩:=jS.out.ls.2 (by show 0<ln;omega)
     obtain⟨kD,q0,q1,q2,q3⟩:=oM jS.out.ls hr
     obtain⟨hka,hkp,hkb,hkq⟩:=jS.out.L6 r (List.mem_of_getElem? hr)
     clear hka hkp hkb hkq hr
     obtain⟨A2,c2,rfl,hc2,_,_⟩:=bD.lC gW HO.out rfl
     obtain⟨ra,rp,rb,rq⟩:=r
     go_wp2
     clear q0 q1 q2 q3 x0 x1
     obtain⟨N,hN⟩:∃N,wr.heap.size=N:=⟨_,rfl⟩
     have dY:=hide (fun t1 t2=>show RowKit.Below N wr ((wr.alloc (.cells #[.int .i64 ra,.int .i64 rp,.int .i64 rb,.int .i64 rq] t1)).alloc (.cells #[.int .i64 ra,.int .i64 rp,.int .i64 rb,.int .i64 rq] t2))from by rw[← hN];exact((RowKit.Below.refl _ _).alloc (Nat.le_refl _) _).alloc (by simp) _)
     have PO:=hide (fun t1 t2 (w':World) (hb:RowKit.Below (N+2) ((wr.alloc (.cells #[.int .i64 ra,.int .i64 rp,.int .i64 rb,.int .i64 rq] t1)).alloc (.cells #[.int .i64 ra,.int .i64 rp,.int .i64 rb,.int .i64 rq] t2)) w')=>show(w'.cell? ⟨N,0,none⟩=some (.int .i64 ra)∧w'.cell? ⟨N,1,none⟩=some (.int .i64 rp)∧w'.cell? ⟨N,2,none⟩=some (.int .i64 rb)∧w'.cell? ⟨N,3,none⟩=some (.int .i64 rq))∧(∀j,j<2→w'.cell? ⟨N+1,j*2,none⟩=some (.int .i64 (qm ⟨ra,rp,rb,rq⟩ j).1)∧w'.cell? ⟨N+1,j*2+1,none⟩=some (.int .i64 (qm ⟨ra,rp,rb,rq⟩ j).2))from by
      have hs1:(wr.alloc (.cells #[.int .i64 ra,.int .i64 rp,.int .i64 rb,.int .i64 rq] t1)).heap.size =N+1:=by rw[← hN];simp
      have c1:∀o v,(#[Value.int .i64 ra,.int .i64 rp,.int .i64 rb,.int .i64 rq]:Array Value)[o]?=some v→w'.cell? ⟨N,o,none⟩=some v:=fun o v hv=>by
       rw[hb.cell (p:=⟨N,o,none⟩) (by show N<_;omega),World.cell?_alloc_lt _ _ _ (by show N<_;omega),← hN,cell_of_row _ _ _ _ _ _ (heap_alloc_new wr _)]
       exact hv
      have c2:∀o v,(#[Value.int .i64 ra,.int .i64 rp,.int .i64 rb,.int .i64 rq]:Array Value)[o]?=some v→w'.cell? ⟨N+1,o,none⟩=some v:=fun o v hv=>nH _ _ _ hs1 hb o v hv
      refine⟨⟨c1 0 _ rfl,c1 1 _ rfl,c1 2 _ rfl,c1 3 _ rfl⟩,fun j hj=>?_⟩
      rcases(by omega:j=0∨j=1)with rfl | rfl
      ·exact⟨c2 0 _ rfl,c2 1 _ rfl⟩
      ·exact⟨c2 2 _ rfl,c2 3 _ rfl⟩)
     have HW1:=dY.out 85 27
     have HW2:=PO.out 85 27
     have hsA:((wr.alloc (.cells #[.int .i64 ra,.int .i64 rp,.int .i64 rb,.int .i64 rq] 85)).alloc (.cells #[.int .i64 ra,.int .i64 rp,.int .i64 rb,.int .i64 rq] 27)).heap.size =N+2:=by rw[← hN];simp
     clear dY PO
     generalize World.alloc (World.alloc wr _) _=wA at*
     have HA1:=hide HW1
     have HA2:=hide HW2
     have wM:=hide hsA
     have XR:W0.heap.size≤N:=by rw[← hN];exact HB.out.size
     have bO:=hide (HB.out.trans (HW1.mono XR))
     have Em:=hide (fun(w':World) (hb:RowKit.Below N wr w')=>own_below HO.out (by rw[hN];exact hb))
     rw[hN]
     clear HW1 HW2 hsA HO HB hN jS gD
     obtain⟨wo,hwo⟩:∃wo:World,wo=wr:=⟨_,rfl⟩
     rw[← hwo]at HA1 Em
     clear hwo
     have j4:=hide (RowKit.Below.refl wA.heap.size wA)
     go_loopw [66] (fun i wj=>∃j:Nat,j≤2∧i= .int .i64 j∧Hid (∀i,i<j→dI (ds.map ak.dev) (qm ⟨ra,rp,rb,rq⟩ i)=true)∧Hid (RowKit.Below wA.heap.size wA wj)) (fun i _=>2 - (intOf i).toNat)
     case atStart=>exact⟨0,Nat.zero_le _,rfl,hide (fun i h=>absurd h (by omega)),j4⟩
     case round=>
      clear j4
      obtain⟨j,hj,rfl,HP,HJ⟩:=hrel
      have tQ:=hide (bO.out.trans (HJ.out.mono bO.out.size))
      have hNA:N+2≤wr.heap.size:=by have:=HJ.out.size;have:=wM.out;omega
      by_cases hj2:j<2
      ·obtain⟨q0,q1⟩:=(HA2.out wr (wM.out▸HJ.out)).2 j hj2
       have Jl:=hide (fun h=>HBAD.out j hj2 HP.out h)
       have PU:=hide (fun(h:dI (ds.map ak.dev) (qm ⟨ra,rp,rb,rq⟩ j)=true) i (hi:i<j+1)=>show dI (ds.map ak.dev) (qm ⟨ra,rp,rb,rq⟩ i)=true from by
        rcases(by omega:i<j∨i=j)with h1 | rfl
        ·exact HP.out i h1
        ·exact h)
       obtain⟨X,Y,PV⟩:∃X Y,qm ⟨ra,rp,rb,rq⟩ j=(X,Y):=⟨_,_,rfl⟩
       simp only[PV]at q0 q1 Jl PU
       clear PV
       have hMl:W.heap.size<wr.heap.size:=by have:=tQ.out.size;have:=jM.out;omega
       obtain⟨⟨x0,x1⟩,hna,hbW⟩:=HQ.out wr tQ.out
       have jS:=hide hna
       have gD:=hide hbW
       clear hna hbW
       obtain⟨M,hM⟩:∃M,wr.heap.size=M:=⟨_,rfl⟩
       have tT:=hide (fun(w':World) (hb:RowKit.Below (M+1) (wr.alloc (.cells #[.int .i64 X,.int .i64 Y] 27)) w')=>show(w'.cell? ⟨M,0,none⟩=some (.int .i64 X)∧w'.cell? ⟨M,1,none⟩=some (.int .i64 Y))∧RowKit.Below wA.heap.size wA w' from
        ⟨⟨nH wr _ _ hM hb 0 _ rfl,nH wr _ _ hM hb 1 _ rfl⟩,HJ.out.trans ((((RowKit.Below.refl wr.heap.size wr).alloc (Nat.le_refl _) _).trans (hb.mono (by omega))).mono HJ.out.size)⟩)
       cases e1:(decide (0≤X) && decide (X<(dn:Int)))
       ·have HF:=hide (show E=1 from Jl.out (by simp only[dI,List.length_map,jd.out,e1];rfl))
        go_wp2
        have GH:=tT.out
        have hsB:(wr.alloc (.cells #[.int .i64 X,.int .i64 Y] 27)).heap.size =M+1:=by simp[hM]
        clear tT q0 q1 x0 x1 hM
        generalize World.alloc wr _=wB at*
        have tT:=hide GH
        have jw:=hide hsB
        clear GH hsB
        refine bB (by kernel_rfl) (by kernel_rfl) ?_
        intro T hT gt hg hgi
        have aJ:=hide hg
        have dZ:=hide hgi
        clear hg hgi
        have yF:=hide (fun t=>(tT.out _ (jw.out▸aJ.out t)).2)
        have GI:=hide (fun t=>HQ.out _ (bO.out.trans ((yF.out t).mono bO.out.size)))
        have k0:=fun t=>(tT.out _ (jw.out▸aJ.out t)).1.1
        have k1:=fun t=>(tT.out _ (jw.out▸aJ.out t)).1.2
        have k2:=fun t=>(GI.out t).1.1
        have iw:=hide (fun t=>bF X dn (gt t) false e1)
        clear e1
        repeat (go_big_quiet_step ((go_at_call 52;exact gu (iw.out _))))
        refine wpQuiet_nil ?_
        intro _ hw'
        obtain⟨t,rfl⟩:=hw'
        have mJ:=hide (yF.out t)
        generalize gt t=w9 at*
        clear k0 k1 k2 aJ dZ GI yF
        go_wp2
        go_ret
        exact⟨aA HF.out.symm,(HQ.out _ (bO.out.trans (mJ.out.mono bO.out.size))).2.2⟩
       ·have rU:=e1
        simp only[Bool.and_eq_true,decide_eq_true_eq]at rU
        obtain⟨i,rfl⟩:∃i:Nat,X=(i:Int):=⟨X.toNat,by omega⟩
        obtain⟨rd,hrd⟩:∃r,ds[i]?=some r:=⟨_,List.getElem?_eq_getElem (by have:=jd.out;omega)⟩
        have GJ:=hide (show lK (ds.map ak.dev) (i:Int)=rd.kind from by simp[lK,hrd,ak.dev])
        obtain⟨db,od,rfl,_,_⟩:=jS.out.ds.2 (by show 0<dn;omega)
        have PW:=hide (fun(w':World) (hb:RowKit.Below W0.heap.size W0 w')=>(fP (HQ.out w' hb).2.1.ds hrd).2.2.1)
        have i1:(0:Int)≤(i:Int):=by omega
        have i2:(i:Int)<(dn:Int):=by omega
        have i3:(dn:Int)≤9223372036854775807:=by omega
        have PX:=hide (show dI (ds.map ak.dev) ((i:Int),Y)=(decide (0≤Y) && decide (Y<aN rd.kind))from by simp only[dI,List.length_map,jd.out,e1,GJ.out];rfl)
        cases e2:(decide (0≤Y) && decide (Y<aN rd.kind))
        ·have HF:=hide (show E=1 from Jl.out (by rw[PX.out,e2]))
         go_wp2
         have GH:=tT.out
         have hsB:(wr.alloc (.cells #[.int .i64 (i:Int),.int .i64 Y] 27)).heap.size =M+1:=by simp[hM]
         clear tT q0 q1 x0 x1 hM
         generalize World.alloc wr _=wB at*
         have tT:=hide GH
         have jw:=hide hsB
         clear GH hsB
         refine bB (by kernel_rfl) (by kernel_rfl) ?_
         intro T hT gt hg hgi
         have aJ:=hide hg
         have dZ:=hide hgi
         clear hg hgi
         have yF:=hide (fun t=>(tT.out _ (jw.out▸aJ.out t)).2)
         have GI:=hide (fun t=>HQ.out _ (bO.out.trans ((yF.out t).mono bO.out.size)))
         have k0:=fun t=>(tT.out _ (jw.out▸aJ.out t)).1.1
         have k1:=fun t=>(tT.out _ (jw.out▸aJ.out t)).1.2
         have k2:=fun t=>(GI.out t).1.1
         have k3:=fun t=>PW.out (gt t) (bO.out.trans ((yF.out t).mono bO.out.size))
         have iw:=hide (fun t=>bF i dn (gt t) true e1)
         have vN:=hide (fun t=>En rd.kind (gt t))
         have CO:=hide (fun t=>bF Y (aN rd.kind) (gt t) false e2)
         clear e1 e2 rU
         generalize aN rd.kind=PF at*
         repeat (go_big_quiet_step (first | (go_at_call_of 52 (Value.int .i64 dn);exact gu (iw.out _)) | (go_at_call 52;exact gu (CO.out _)) | (go_at_call 53;exact gu (vN.out _))))
         refine wpQuiet_nil ?_
         intro _ hw'
         obtain⟨t,rfl⟩:=hw'
         have mJ:=hide (yF.out t)
         generalize gt t=w9 at*
         clear k0 k1 k2 aJ dZ GI yF
         clear k3
         go_wp2
         go_ret
         exact⟨aA HF.out.symm,(HQ.out _ (bO.out.trans (mJ.out.mono bO.out.size))).2.2⟩
        ·have HF:=hide (PU.out (by rw[PX.out,e2]))
         go_wp2
         have GH:=tT.out
         have hsB:(wr.alloc (.cells #[.int .i64 (i:Int),.int .i64 Y] 27)).heap.size =M+1:=by simp[hM]
         clear tT q0 q1 x0 x1 hM
         generalize World.alloc wr _=wB at*
         have tT:=hide GH
         have jw:=hide hsB
         clear GH hsB
         refine bB (by kernel_rfl) (by kernel_rfl) ?_
         intro T hT gt hg hgi
         have aJ:=hide hg
         have dZ:=hide hgi
         clear hg hgi
         have yF:=hide (fun t=>(tT.out _ (jw.out▸aJ.out t)).2)
         have GI:=hide (fun t=>HQ.out _ (bO.out.trans ((yF.out t).mono bO.out.size)))
         have k0:=fun t=>(tT.out _ (jw.out▸aJ.out t)).1.1
         have k1:=fun t=>(tT.out _ (jw.out▸aJ.out t)).1.2
         have k2:=fun t=>(GI.out t).1.1
         have k3:=fun t=>PW.out (gt t) (bO.out.trans ((yF.out t).mono bO.out.size))
         have iw:=hide (fun t=>bF i dn (gt t) true e1)
         have vN:=hide (fun t=>En rd.kind (gt t))
         have CO:=hide (fun t=>bF Y (aN rd.kind) (gt t) true e2)
         clear e1 e2 rU
         generalize aN rd.kind=PF at*
         repeat (go_big_quiet_step (first | (go_at_call_of 52 (Value.int .i64 dn);exact gu (iw.out _)) | (go_at_call 52;exact gu (CO.out _)) | (go_at_call 53;exact gu (vN.out _))))
         refine wpQuiet_nil ?_
         intro _ hw'
         obtain⟨t,rfl⟩:=hw'
         have mJ:=hide (yF.out t)
         generalize gt t=w9 at*
         clear k0 k1 k2 aJ dZ GI yF
         clear k3
         go_wp2
         go_roundw
         case rel=>exact⟨j+1,by omega,by go_num,HF,mJ⟩
         case measure=>simp[intOf];omega
      ·obtain rfl:j=2:=by omega
       have HG:=hide (qC.out HP.out)
       obtain⟨y0,y1,y2,y3⟩:=(HA2.out wr (wM.out▸HJ.out)).1
       have hEL:ends.length≤30:=by have:=yE.out;omega
       have hNM:N+2≤wr.heap.size:=hNA
       clear HP HBAD qC hNA
       go_wp2
       obtain⟨M,hM⟩:∃M,wr.heap.size=M:=⟨_,rfl⟩
       have ng:Hid (∀(u v:Pl),Below wr.heap.size wr ((wr.alloc (.cells #[.int .i64 u.1,.int .i64 u.2] 27)).alloc (.cells #[.int .i64 v.1,.int .i64 v.2] 27))∧((wr.alloc (.cells #[.int .i64 u.1,.int .i64 u.2] 27)).alloc (.cells #[.int .i64 v.1,.int .i64 v.2] 27)).heap.size =M+2∧
         jQ ((wr.alloc (.cells #[.int .i64 u.1,.int .i64 u.2] 27)).alloc (.cells #[.int .i64 v.1,.int .i64 v.2] 27)) M u.1 u.2∧jQ ((wr.alloc (.cells #[.int .i64 u.1,.int .i64 u.2] 27)).alloc (.cells #[.int .i64 v.1,.int .i64 v.2] 27)) (M+1) v.1 v.2):=hide (fun u v=>by
        have hb1:Below wr.heap.size wr (wr.alloc (.cells #[.int .i64 u.1,.int .i64 u.2] 27)):=(Below.refl _ _).alloc (Nat.le_refl _) _
        have hs:(wr.alloc (.cells #[.int .i64 u.1,.int .i64 u.2] 27)).heap.size =M+1:=by rw[← hM];simp
        have b1:=jQ.new wr u.1 u.2 27
        have b2:=jQ.new (wr.alloc (.cells #[.int .i64 u.1,.int .i64 u.2] 27)) v.1 v.2 27
        rw[hM]at b1
        rw[hs]at b2
        refine⟨hb1.alloc hb1.size _,by simp;omega,b1.below ((Below.refl _ _).alloc (Nat.le_refl _) _) (by omega),b2⟩)
       go_region_held3 (fun w'=>w'.cell? ⟨N,0,none⟩=some (.int .i64 ra)∧w'.cell? ⟨N,1,none⟩=some (.int .i64 rp)∧w'.cell? ⟨N,2,none⟩=some (.int .i64 rb)∧w'.cell? ⟨N,3,none⟩=some (.int .i64 rq)) (go_keep) (fail)
       ·obtain⟨hbz,hsz,b1,b2⟩:=ng.out (ra,rp) (rb,rq)
        have jT:=hide (HJ.out.trans (hbz.mono HJ.out.size))
        have PY:=hide hsz
        generalize World.alloc (World.alloc wr _) _=wz at*
        have lI:=hide (fun(w':World) (hb:RowKit.Below wz.heap.size wz w')=>And.intro (b1.below hb (by have:=PY.out;omega)) (b2.below hb (by have:=PY.out;omega)))
        have oq:=hide (fun(w':World) (hb:RowKit.Below wz.heap.size wz w')=>jT.out.trans (hb.mono jT.out.size))
        have uO:=hide (fun(w':World) (hb:RowKit.Below wz.heap.size wz w')=>Em.out w' (HA1.out.trans ((jT.out.trans (hb.mono jT.out.size)).mono (by have:=wM.out;omega))))
        have HD:=hide ((RowKit.Below.refl wz.heap.size wz).drew)
        clear hbz ng b1 b2 y0 y1 y2 y3 hM hsz jT
        obtain⟨⟨u0,u1,_,_⟩,⟨v0,v1,_,_⟩⟩:=lI.out _ HD.out
        cases e1:(ra ==rb)
        ·have iw:=hide (iP ends A2 ends.length c2 ra rp _ (by omega) (ql gW (uO.out _ HD.out) rfl))
         go_wp2_with fail
         refine iw.out.mono ?_
         clear iw
         rintro e w3 ⟨rfl,hb⟩
         have HB3:=hide (HD.out.trans (hb.mono HD.out.size))
         clear hb u0 u1 v0 v1
         obtain⟨⟨u0,u1,_,_⟩,⟨v0,v1,_,_⟩⟩:=lI.out _ HB3.out
         cases a1:ends.any (fun z=>dh (ra,rp) z)
         case true=>
          have HF:=hide (show E=5 from by rw[HG.out];simp only[fE,ah.e1,ah.e2,a1,Bool.true_or,Bool.or_true,if_true])
          clear a1
          go_wp2
          go_ret
          exact⟨aA HF.out.symm,(HQ.out _ (bO.out.trans ((oq.out _ HB3.out).mono bO.out.size))).2.2⟩
         have Dz:=hide a1
         clear a1
         have iw:=hide (iP ends A2 ends.length c2 rb rq w3 (by omega) (ql gW (uO.out _ HB3.out) rfl))
         go_wp2_with fail
         refine iw.out.mono ?_
         clear iw
         rintro e w4 ⟨rfl,hb⟩
         have dM:=hide (HB3.out.trans (hb.mono HB3.out.size))
         clear hb u0 u1 v0 v1
         obtain⟨⟨u0,u1,_,_⟩,⟨v0,v1,_,_⟩⟩:=lI.out _ dM.out
         cases a2:ends.any (fun z=>dh (rb,rq) z)
         case true=>
          have HF:=hide (show E=5 from by rw[HG.out];simp only[fE,ah.e1,ah.e2,a2,Bool.true_or,Bool.or_true,if_true])
          clear a2
          go_wp2
          go_ret
          exact⟨aA HF.out.symm,(HQ.out _ (bO.out.trans ((oq.out _ dM.out).mono bO.out.size))).2.2⟩
         have HF:=hide (show E=gB (ds.map ak.dev) (ends++[(ra,rp),(rb,rq)]) (ls.drop (k+1))from by
          rw[HG.out]
          have h1:=Dz.out
          simp only[fE,dh,ah.e1,ah.e2,h1,a2,e1,Bool.false_and,Bool.and_false,Bool.or_false,Bool.false_eq_true,if_false]at h1 a2 ⊢
          try simp only[h1,a2,Bool.false_or,Bool.false_eq_true,if_false])
         clear a2 HG
         have tV:=hide (show RowKit.Below wz.heap.size wz (w4.alloc (.cells #[.int .i64 ra,.int .i64 rp,.int .i64 rb,.int .i64 rq] 27))from dM.out.alloc dM.out.size _)
         have rQ:=hide (show Reads (w4.alloc (.cells #[.int .i64 ra,.int .i64 rp,.int .i64 rb,.int .i64 rq] 27)) (w4.heap.size+1) 2 (some ⟨w4.heap.size,0,none⟩) 2 [.int .i64 ra,.int .i64 rp,.int .i64 rb,.int .i64 rq]from
          ⟨rfl,fun _=>⟨_,rfl,Nat.lt_succ_self _,fun j u hu=>by
           rw[addr_add,Nat.zero_add,cell_of_row _ _ _ _ _ _ (heap_alloc_new w4 _)]
           simpa using hu⟩⟩)
         have HOL:=hide (uO.out _ tV.out)
         have PZ:W0.heap.size≤w4.heap.size:=by have h1:=(oq.out _ dM.out).size;have:=bO.out.size;omega
         go_wp2_with (at_builtin;refine aT _ rfl (.tmp 115) (.tmp 118) 113 rfl W0.heap.size 27 i0 _ 2 16 Tryz.underlying113 hi0 hz0 hz1 hz2 rfl (by omega) (.slice A2 ends.length c2) ends.length (ends.flatMap gX) rfl HOL.out (w4.heap.size+1) (some ⟨w4.heap.size,0,none⟩) 2 2 [.int .i64 ra,.int .i64 rp,.int .i64 rb,.int .i64 rq] rfl rQ.out (by intro u hu;simp at hu;rcases hu with rfl | rfl | rfl | rfl<;>rfl) (by simp only[maxLen];omega) (by omega) (by simp;omega) ?_;intro v5 w5 hown5 hg5 iD;have Eo:=hide (l8 (bO.out.trans ((oq.out _ tV.out).mono bO.out.size)) (Nat.le_refl _) hg5 (fun q hq=>(HOL.out.lt q hq).1));have Aj:=hide hown5;clear hown5 hg5 iD)
         go_roundw
         case rel=>exact⟨k+1,ends++[(ra,rp),(rb,rq)],by omega,by go_num,HF,Eo,hide (by simpa[gX]using Aj.out),hide (by have:=yE.out;simp;omega)⟩
         case measure=>simp[intOf];omega
        cases e2:(rp ==rq)
        ·have iw:=hide (iP ends A2 ends.length c2 ra rp _ (by omega) (ql gW (uO.out _ HD.out) rfl))
         go_wp2_with fail
         refine iw.out.mono ?_
         clear iw
         rintro e w3 ⟨rfl,hb⟩
         have HB3:=hide (HD.out.trans (hb.mono HD.out.size))
         clear hb u0 u1 v0 v1
         obtain⟨⟨u0,u1,_,_⟩,⟨v0,v1,_,_⟩⟩:=lI.out _ HB3.out
         cases a1:ends.any (fun z=>dh (ra,rp) z)
         case true=>
          have HF:=hide (show E=5 from by rw[HG.out];simp only[fE,ah.e1,ah.e2,a1,Bool.true_or,Bool.or_true,if_true])
          clear a1
          go_wp2
          go_ret
          exact⟨aA HF.out.symm,(HQ.out _ (bO.out.trans ((oq.out _ HB3.out).mono bO.out.size))).2.2⟩
         have Dz:=hide a1
         clear a1
         have iw:=hide (iP ends A2 ends.length c2 rb rq w3 (by omega) (ql gW (uO.out _ HB3.out) rfl))
         go_wp2_with fail
         refine iw.out.mono ?_
         clear iw
         rintro e w4 ⟨rfl,hb⟩
         have dM:=hide (HB3.out.trans (hb.mono HB3.out.size))
         clear hb u0 u1 v0 v1
         obtain⟨⟨u0,u1,_,_⟩,⟨v0,v1,_,_⟩⟩:=lI.out _ dM.out
         cases a2:ends.any (fun z=>dh (rb,rq) z)
         case true=>
          have HF:=hide (show E=5 from by rw[HG.out];simp only[fE,ah.e1,ah.e2,a2,Bool.true_or,Bool.or_true,if_true])
          clear a2
          go_wp2
          go_ret
          exact⟨aA HF.out.symm,(HQ.out _ (bO.out.trans ((oq.out _ dM.out).mono bO.out.size))).2.2⟩
         have HF:=hide (show E=gB (ds.map ak.dev) (ends++[(ra,rp),(rb,rq)]) (ls.drop (k+1))from by
          rw[HG.out]
          have h1:=Dz.out
          simp only[fE,dh,ah.e1,ah.e2,h1,a2,e1,e2,Bool.false_and,Bool.and_false,Bool.or_false,Bool.false_eq_true,if_false]at h1 a2 ⊢
          try simp only[h1,a2,Bool.false_or,Bool.false_eq_true,if_false])
         clear a2 HG
         have tV:=hide (show RowKit.Below wz.heap.size wz (w4.alloc (.cells #[.int .i64 ra,.int .i64 rp,.int .i64 rb,.int .i64 rq] 27))from dM.out.alloc dM.out.size _)
         have rQ:=hide (show Reads (w4.alloc (.cells #[.int .i64 ra,.int .i64 rp,.int .i64 rb,.int .i64 rq] 27)) (w4.heap.size+1) 2 (some ⟨w4.heap.size,0,none⟩) 2 [.int .i64 ra,.int .i64 rp,.int .i64 rb,.int .i64 rq]from
          ⟨rfl,fun _=>⟨_,rfl,Nat.lt_succ_self _,fun j u hu=>by
           rw[addr_add,Nat.zero_add,cell_of_row _ _ _ _ _ _ (heap_alloc_new w4 _)]
           simpa using hu⟩⟩)
         have HOL:=hide (uO.out _ tV.out)
         have PZ:W0.heap.size≤w4.heap.size:=by have h1:=(oq.out _ dM.out).size;have:=bO.out.size;omega
         go_wp2_with (at_builtin;refine aT _ rfl (.tmp 115) (.tmp 118) 113 rfl W0.heap.size 27 i0 _ 2 16 Tryz.underlying113 hi0 hz0 hz1 hz2 rfl (by omega) (.slice A2 ends.length c2) ends.length (ends.flatMap gX) rfl HOL.out (w4.heap.size+1) (some ⟨w4.heap.size,0,none⟩) 2 2 [.int .i64 ra,.int .i64 rp,.int .i64 rb,.int .i64 rq] rfl rQ.out (by intro u hu;simp at hu;rcases hu with rfl | rfl | rfl | rfl<;>rfl) (by simp only[maxLen];omega) (by omega) (by simp;omega) ?_;intro v5 w5 hown5 hg5 iD;have Eo:=hide (l8 (bO.out.trans ((oq.out _ tV.out).mono bO.out.size)) (Nat.le_refl _) hg5 (fun q hq=>(HOL.out.lt q hq).1));have Aj:=hide hown5;clear hown5 hg5 iD)
         go_roundw
         case rel=>exact⟨k+1,ends++[(ra,rp),(rb,rq)],by omega,by go_num,HF,Eo,hide (by simpa[gX]using Aj.out),hide (by have:=yE.out;simp;omega)⟩
         case measure=>simp[intOf];omega
        have HF:=hide (show E=5 from by rw[HG.out];simp[fE,dh,ah.e1,ah.e2,e1,e2])
        go_wp2
        go_ret
        exact⟨aA HF.out.symm,(HQ.out _ (bO.out.trans ((oq.out _ HD.out).mono bO.out.size))).2.2⟩
       ·obtain⟨hbz,hsz,b1,b2⟩:=ng.out (rb,rq) (ra,rp)
        have jT:=hide (HJ.out.trans (hbz.mono HJ.out.size))
        have PY:=hide hsz
        generalize World.alloc (World.alloc wr _) _=wz at*
        have lI:=hide (fun(w':World) (hb:RowKit.Below wz.heap.size wz w')=>And.intro (b1.below hb (by have:=PY.out;omega)) (b2.below hb (by have:=PY.out;omega)))
        have oq:=hide (fun(w':World) (hb:RowKit.Below wz.heap.size wz w')=>jT.out.trans (hb.mono jT.out.size))
        have uO:=hide (fun(w':World) (hb:RowKit.Below wz.heap.size wz w')=>Em.out w' (HA1.out.trans ((jT.out.trans (hb.mono jT.out.size)).mono (by have:=wM.out;omega))))
        have HD:=hide ((RowKit.Below.refl wz.heap.size wz).drew)
        clear hbz ng b1 b2 y0 y1 y2 y3 hM hsz jT
        obtain⟨⟨u0,u1,_,_⟩,⟨v0,v1,_,_⟩⟩:=lI.out _ HD.out
        cases e1:(ra ==rb)
        ·have iw:=hide (iP ends A2 ends.length c2 ra rp _ (by omega) (ql gW (uO.out _ HD.out) rfl))
         go_wp2_with fail
         refine iw.out.mono ?_
         clear iw
         rintro e w3 ⟨rfl,hb⟩
         have HB3:=hide (HD.out.trans (hb.mono HD.out.size))
         clear hb u0 u1 v0 v1
         obtain⟨⟨u0,u1,_,_⟩,⟨v0,v1,_,_⟩⟩:=lI.out _ HB3.out
         cases a1:ends.any (fun z=>dh (ra,rp) z)
         case true=>
          have HF:=hide (show E=5 from by rw[HG.out];simp only[fE,ah.e1,ah.e2,a1,Bool.true_or,Bool.or_true,if_true])
          clear a1
          go_wp2
          go_ret
          exact⟨aA HF.out.symm,(HQ.out _ (bO.out.trans ((oq.out _ HB3.out).mono bO.out.size))).2.2⟩
         have Dz:=hide a1
         clear a1
         have iw:=hide (iP ends A2 ends.length c2 rb rq w3 (by omega) (ql gW (uO.out _ HB3.out) rfl))
         go_wp2_with fail
         refine iw.out.mono ?_
         clear iw
         rintro e w4 ⟨rfl,hb⟩
         have dM:=hide (HB3.out.trans (hb.mono HB3.out.size))
         clear hb u0 u1 v0 v1
         obtain⟨⟨u0,u1,_,_⟩,⟨v0,v1,_,_⟩⟩:=lI.out _ dM.out
         cases a2:ends.any (fun z=>dh (rb,rq) z)
         case true=>
          have HF:=hide (show E=5 from by rw[HG.out];simp only[fE,ah.e1,ah.e2,a2,Bool.true_or,Bool.or_true,if_true])
          clear a2
          go_wp2
          go_ret
          exact⟨aA HF.out.symm,(HQ.out _ (bO.out.trans ((oq.out _ dM.out).mono bO.out.size))).2.2⟩
         have HF:=hide (show E=gB (ds.map ak.dev) (ends++[(ra,rp),(rb,rq)]) (ls.drop (k+1))from by
          rw[HG.out]
          have h1:=Dz.out
          simp only[fE,dh,ah.e1,ah.e2,h1,a2,e1,Bool.false_and,Bool.and_false,Bool.or_false,Bool.false_eq_true,if_false]at h1 a2 ⊢
          try simp only[h1,a2,Bool.false_or,Bool.false_eq_true,if_false])
         clear a2 HG
         have tV:=hide (show RowKit.Below wz.heap.size wz (w4.alloc (.cells #[.int .i64 ra,.int .i64 rp,.int .i64 rb,.int .i64 rq] 27))from dM.out.alloc dM.out.size _)
         have rQ:=hide (show Reads (w4.alloc (.cells #[.int .i64 ra,.int .i64 rp,.int .i64 rb,.int .i64 rq] 27)) (w4.heap.size+1) 2 (some ⟨w4.heap.size,0,none⟩) 2 [.int .i64 ra,.int .i64 rp,.int .i64 rb,.int .i64 rq]from
          ⟨rfl,fun _=>⟨_,rfl,Nat.lt_succ_self _,fun j u hu=>by
           rw[addr_add,Nat.zero_add,cell_of_row _ _ _ _ _ _ (heap_alloc_new w4 _)]
           simpa using hu⟩⟩)
         have HOL:=hide (uO.out _ tV.out)
         have PZ:W0.heap.size≤w4.heap.size:=by have h1:=(oq.out _ dM.out).size;have:=bO.out.size;omega
         go_wp2_with (at_builtin;refine aT _ rfl (.tmp 115) (.tmp 118) 113 rfl W0.heap.size 27 i0 _ 2 16 Tryz.underlying113 hi0 hz0 hz1 hz2 rfl (by omega) (.slice A2 ends.length c2) ends.length (ends.flatMap gX) rfl HOL.out (w4.heap.size+1) (some ⟨w4.heap.size,0,none⟩) 2 2 [.int .i64 ra,.int .i64 rp,.int .i64 rb,.int .i64 rq] rfl rQ.out (by intro u hu;simp at hu;rcases hu with rfl | rfl | rfl | rfl<;>rfl) (by simp only[maxLen];omega) (by omega) (by simp;omega) ?_;intro v5 w5 hown5 hg5 iD;have Eo:=hide (l8 (bO.out.trans ((oq.out _ tV.out).mono bO.out.size)) (Nat.le_refl _) hg5 (fun q hq=>(HOL.out.lt q hq).1));have Aj:=hide hown5;clear hown5 hg5 iD)
         go_roundw
         case rel=>exact⟨k+1,ends++[(ra,rp),(rb,rq)],by omega,by go_num,HF,Eo,hide (by simpa[gX]using Aj.out),hide (by have:=yE.out;simp;omega)⟩
         case measure=>simp[intOf];omega
        cases e2:(rp ==rq)
        ·have iw:=hide (iP ends A2 ends.length c2 ra rp _ (by omega) (ql gW (uO.out _ HD.out) rfl))
         go_wp2_with fail
         refine iw.out.mono ?_
         clear iw
         rintro e w3 ⟨rfl,hb⟩
         have HB3:=hide (HD.out.trans (hb.mono HD.out.size))
         clear hb u0 u1 v0 v1
         obtain⟨⟨u0,u1,_,_⟩,⟨v0,v1,_,_⟩⟩:=lI.out _ HB3.out
         cases a1:ends.any (fun z=>dh (ra,rp) z)
         case true=>
          have HF:=hide (show E=5 from by rw[HG.out];simp only[fE,ah.e1,ah.e2,a1,Bool.true_or,Bool.or_true,if_true])
          clear a1
          go_wp2
          go_ret
          exact⟨aA HF.out.symm,(HQ.out _ (bO.out.trans ((oq.out _ HB3.out).mono bO.out.size))).2.2⟩
         have Dz:=hide a1
         clear a1
         have iw:=hide (iP ends A2 ends.length c2 rb rq w3 (by omega) (ql gW (uO.out _ HB3.out) rfl))
         go_wp2_with fail
         refine iw.out.mono ?_
         clear iw
         rintro e w4 ⟨rfl,hb⟩
         have dM:=hide (HB3.out.trans (hb.mono HB3.out.size))
         clear hb u0 u1 v0 v1
         obtain⟨⟨u0,u1,_,_⟩,⟨v0,v1,_,_⟩⟩:=lI.out _ dM.out
         cases a2:ends.any (fun z=>dh (rb,rq) z)
         case true=>
          have HF:=hide (show E=5 from by rw[HG.out];simp only[fE,ah.e1,ah.e2,a2,Bool.true_or,Bool.or_true,if_true])
          clear a2
          go_wp2
          go_ret
          exact⟨aA HF.out.symm,(HQ.out _ (bO.out.trans ((oq.out _ dM.out).mono bO.out.size))).2.2⟩
         have HF:=hide (show E=gB (ds.map ak.dev) (ends++[(ra,rp),(rb,rq)]) (ls.drop (k+1))from by
          rw[HG.out]
          have h1:=Dz.out
          simp only[fE,dh,ah.e1,ah.e2,h1,a2,e1,e2,Bool.false_and,Bool.and_false,Bool.or_false,Bool.false_eq_true,if_false]at h1 a2 ⊢
          try simp only[h1,a2,Bool.false_or,Bool.false_eq_true,if_false])
         clear a2 HG
         have tV:=hide (show RowKit.Below wz.heap.size wz (w4.alloc (.cells #[.int .i64 ra,.int .i64 rp,.int .i64 rb,.int .i64 rq] 27))from dM.out.alloc dM.out.size _)
         have rQ:=hide (show Reads (w4.alloc (.cells #[.int .i64 ra,.int .i64 rp,.int .i64 rb,.int .i64 rq] 27)) (w4.heap.size+1) 2 (some ⟨w4.heap.size,0,none⟩) 2 [.int .i64 ra,.int .i64 rp,.int .i64 rb,.int .i64 rq]from
          ⟨rfl,fun _=>⟨_,rfl,Nat.lt_succ_self _,fun j u hu=>by
           rw[addr_add,Nat.zero_add,cell_of_row _ _ _ _ _ _ (heap_alloc_new w4 _)]
           simpa using hu⟩⟩)
         have HOL:=hide (uO.out _ tV.out)
         have PZ:W0.heap.size≤w4.heap.size:=by have h1:=(oq.out _ dM.out).size;have:=bO.out.size;omega
         go_wp2_with (at_builtin;refine aT _ rfl (.tmp 115) (.tmp 118) 113 rfl W0.heap.size 27 i0 _ 2 16 Tryz.underlying113 hi0 hz0 hz1 hz2 rfl (by omega) (.slice A2 ends.length c2) ends.length (ends.flatMap gX) rfl HOL.out (w4.heap.size+1) (some ⟨w4.heap.size,0,none⟩) 2 2 [.int .i64 ra,.int .i64 rp,.int .i64 rb,.int .i64 rq] rfl rQ.out (by intro u hu;simp at hu;rcases hu with rfl | rfl | rfl | rfl<;>rfl) (by simp only[maxLen];omega) (by omega) (by simp;omega) ?_;intro v5 w5 hown5 hg5 iD;have Eo:=hide (l8 (bO.out.trans ((oq.out _ tV.out).mono bO.out.size)) (Nat.le_refl _) hg5 (fun q hq=>(HOL.out.lt q hq).1));have Aj:=hide hown5;clear hown5 hg5 iD)
         go_roundw
         case rel=>exact⟨k+1,ends++[(ra,rp),(rb,rq)],by omega,by go_num,HF,Eo,hide (by simpa[gX]using Aj.out),hide (by have:=yE.out;simp;omega)⟩
         case measure=>simp[intOf];omega
        have HF:=hide (show E=5 from by rw[HG.out];simp[fE,dh,ah.e1,ah.e2,e1,e2])
        go_wp2
        go_ret
        exact⟨aA HF.out.symm,(HQ.out _ (bO.out.trans ((oq.out _ HD.out).mono bO.out.size))).2.2⟩
    ·have HF:=hide (show E=0 from by rw[HC.out,List.drop_of_length_le (by have:=jL.out;omega)];rfl)
     go_wp2
     go_ret
     exact⟨aA HF.out.symm,gD.out⟩
end Go.Proofs.YtifkacnoiocebaaGreat
