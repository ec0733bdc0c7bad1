/- A part of the proof: NetCheck. -/
import Derived.Test.YtifkacnoiocebaaDoorNz4
set_option linter.unusedVariables false
set_option linter.unusedSimpArgs false
set_option maxRecDepth 100000
set_option maxHeartbeats 16000000
namespace Go.Proofs.YtifkacnoiocebaaDoor
open Go.RowKit
theorem kH (w:World) (cs:Array Value) (t:TypeId) {w':World} {N:Nat} (hN:w.heap.size=N) (hb:Below (N+1) (w.alloc (.cells cs t)) w') (o:Nat) (v:Value) (hv:cs[o]?=some v):w'.cell? ⟨N,o,none⟩=some v:=by
 subst hN
 have h:=(hb.block w.heap.size (Nat.lt_succ_self _)).trans (heap_alloc_new w _)
 rw[cell_of_row _ _ _ _ _ _ h]
 exact hv
theorem iL {α:Type} {cells:α→List Value} {s n base e c:Nat} {w:World} {A:Option Addr} {l:List α} (hs:∀r,(cells r).length =s) (h:w.ownsRow base e s (.slice A n c) n (l.flatMap cells)) (hl:l.length=n):bD cells s w w.heap.size A n l:=by
 obtain⟨A',c',e',_,h',_⟩:=bD.dw hs h hl
 cases e'
 exact h'
theorem Tryd.infoPlace:(Tryd.prog.info? 85).map (fun i=>(i.zero,i.size,i.bytes))=some (some (.agg #[.int .i64 0,.int .i64 0]),2,16):=by kernel_rfl
theorem vS (n:fA) (W:World) (hn:iW W W.heap.size n):
  Calls Tryd.prog 12 #[n.val] W fun e W'=>e= .returned (.int .i64 (jN n.l9 n.ls))∧RowKit.Below W.heap.size W W':=by
 obtain⟨i0,hi0,hz0,hz1,hz2⟩:=info_parts Tryd.infoPlace
 obtain⟨dA,dn,dc,ds,lA,ln,lc,ls⟩:=n
 obtain⟨W0,hW0⟩:∃W0,W0=W.alloc (.cells #[.slice dA dn dc,.slice lA ln lc] 25):=⟨_,rfl⟩
 have HB0:=hide (show RowKit.Below W.heap.size W W0 from by rw[hW0];exact(RowKit.Below.refl _ _).alloc (Nat.le_refl _) _)
 have jB:=hide (show W0.heap.size=W.heap.size+1 from by rw[hW0];simp)
 have HQ:=hide (fun(w':World) (hb:RowKit.Below W0.heap.size W0 w')=>show(w'.cell? ⟨W.heap.size,0,none⟩=some (.slice dA dn dc)∧w'.cell? ⟨W.heap.size,1,none⟩=some (.slice lA ln lc))∧iW w' w'.heap.size ⟨dA,dn,dc,ds,lA,ln,lc,ls⟩∧RowKit.Below W.heap.size W w' from by
  have h1:=HB0.out.trans (hb.mono (by rw[jB.out];omega))
  rw[jB.out,hW0]at hb
  exact⟨⟨kH W _ _ rfl hb 0 _ rfl,kH W _ _ rfl hb 1 _ rfl⟩,hn.below h1 h1.size,h1⟩)
 have gI:=hide (show ds.length=dn from hn.uF)
 have wK:=hide (show ls.length=ln from hn.llen)
 have hdc:dn≤dc:=hn.cd.1
 have hlc:ln≤lc:=hn.cl.1
 have HM:=hide (And.intro hn.cd.2 hn.cl.2)
 clear hn
 have HN:=hide (show jN (fA.l9 ⟨dA,dn,dc,ds,lA,ln,lc,ls⟩) ls=if 10<dn∨15<ln then 2 else if fQ [] (ds.map ah.dev)=0 then fV (ds.map ah.dev) [] ls else fQ [] (ds.map ah.dev)from by
  unfold jN fA.l9;rw[List.length_map,gI.out,wK.out])
 simp only[fA.val]at*
 generalize jN _ _=E at*
 obtain⟨x0,x1⟩:=(HQ.out W0 (RowKit.Below.refl _ _)).1
 have HR:=hide (RowKit.Below.refl W0.heap.size W0)
 by_cases h10:10<dn
 ·have HF:=hide (show E=2 from by rw[HN.out,if_pos (.inl h10)])
  clear HN x0 x1
  subst hW0
  go_enter Tryd.func12,Tryd.ntmps12
  go_wp2
  go_ret
  exact⟨aj HF.out.symm,(HQ.out _ HR.out).2.2⟩
 by_cases Dp:15<ln
 ·have HF:=hide (show E=2 from by rw[HN.out,if_pos (.inr Dp)])
  clear HN x0 x1
  subst hW0
  go_enter Tryd.func12,Tryd.ntmps12
  go_wp2
  go_ret
  exact⟨aj HF.out.symm,(HQ.out _ HR.out).2.2⟩
 have jM:=hide (show E=if fQ [] (ds.map ah.dev)=0 then fV (ds.map ah.dev) [] ls else fQ [] (ds.map ah.dev)from by rw[HN.out,if_neg (by omega)])
 clear HN x0 x1
 go_enter Tryd.func12,Tryd.ntmps12
 go_wp2
 rw[← hW0]
 clear hW0
 go_loopw [26] (fun i wr=>∃k:Nat,k≤dn∧i= .int .i64 k∧Hid (fQ [] (ds.map ah.dev)=fQ ((ds.map ah.dev).take k) ((ds.map ah.dev).drop k))∧Hid (RowKit.Below W0.heap.size W0 wr)) (fun i _=>dn - (intOf i).toNat)
 case atStart=>exact⟨0,Nat.zero_le _,rfl,hide rfl,hide (RowKit.Below.refl _ _)⟩
 case round=>
  obtain⟨k,hk,rfl,HC,HB⟩:=hrel
  obtain⟨⟨x0,x1⟩,hna,hbW⟩:=HQ.out wr HB.out
  have gZ:=hide hna
  have aV:=hide hbW
  clear hna hbW
  by_cases hlt:k<dn
  ·obtain⟨r,hr⟩:∃r,ds[k]?=some r:=⟨_,List.getElem?_eq_getElem (by have:=gI.out;omega)⟩
   have HS:=hide (sS (l:=ds.map ah.dev) (k:=k) (d:=r.dev) (by rw[List.getElem?_map,hr];rfl))
   obtain⟨b,o,rfl,_,_⟩:=gZ.out.ds.2 (by show 0<dn;omega)
   obtain⟨nA,q0,q1,q2,q3,q4,q5,q6⟩:=lV gZ.out.ds hr
   have Cn:=gZ.out.wL r (List.mem_of_getElem? hr)
   have HDK:=hide Cn
   have hnm:=Cn.nm
   obtain⟨nm,kd,ad,pl,bA,bn,bc,bs,rA,rn,rc,rs,tA,tn,tc,ts⟩:=r
   have hN:∃N,wr.heap.size=N:=⟨_,rfl⟩
   obtain⟨N,hN⟩:=hN
   obtain⟨w1,hw1⟩:∃w1,w1=wr.alloc (.cells #[.string nm,.int .i64 kd,.int .i64 ad,.int .u8 pl,.slice bA bn bc,.slice rA rn rc,.slice tA tn tc] 37):=⟨_,rfl⟩
   have HB1:=hide (show RowKit.Below W0.heap.size W0 w1 from by rw[hw1];exact HB.out.alloc HB.out.size _)
   have iZ:=hide (fun(w':World) (hb:RowKit.Below w1.heap.size w1 w')=>show fP w' N ⟨nm,kd,ad,pl,bA,bn,bc,bs,rA,rn,rc,rs,tA,tn,tc,ts⟩∧(w'.cell? ⟨W.heap.size,0,none⟩=some (.slice (some ⟨b,o,none⟩) dn dc)∧w'.cell? ⟨W.heap.size,1,none⟩=some (.slice lA ln lc))∧RowKit.Below W0.heap.size W0 w'∧N<w'.heap.size from by
    have hs:w1.heap.size=N+1:=by rw[hw1,← hN];simp
    have h1:=HB1.out.trans (hb.mono HB1.out.size)
    have h2:=hb.size
    refine⟨fP.below (w:=w1) (by rw[hw1,← hN];exact fP.new wr ⟨nm,kd,ad,pl,bA,bn,bc,bs,rA,rn,rc,rs,tA,tn,tc,ts⟩ _) hb (by omega),(HQ.out w' h1).1,h1,by omega⟩)
   have wM:=hide (y7 ⟨nm,kd,ad,pl,bA,bn,bc,bs,rA,rn,rc,rs,tA,tn,tc,ts⟩)
   have Dq:=hide (fun(w':World) (hb:RowKit.Below w1.heap.size w1 w')=>show gL w' w'.heap.size ⟨nm,kd,ad,pl,bA,bn,bc,bs,rA,rn,rc,rs,tA,tn,tc,ts⟩from by
    have h1:=(iZ.out w' hb).2.2.1
    exact(HQ.out w' h1).2.1.wL _ (List.mem_of_getElem? hr))
   clear hr Cn
   simp only[ah.dev]at HS wM
   have HW1:=hide hw1
   clear hw1
   go_wp2_with fail
   refine(kV nm _ hnm).mono ?_
   rintro e w' ⟨rfl,rfl⟩
   rw[← HW1.out]
   clear q0 q1 q2 q3 q4 q5 q6 x0 x1
   obtain⟨⟨y0,y1,y2,y3,y4,y5,y6⟩,⟨x0,x1⟩,_,hNs⟩:=iZ.out w1 (RowKit.Below.refl _ _)
   cases e1:bT nm
   ·have HF:=hide (show E=3 from by rw[jM.out,HC.out,HS.out];simp[e1])
    go_wp2
    go_ret
    exact⟨aj HF.out.symm,(HQ.out _ HB1.out).2.2⟩
   have Fh:=hide (qo (ds.take k) (some ⟨b,o,none⟩) k dc 35 #[.pointer (some ⟨N,0,none⟩)] (fun x=>bO x.name nm) w1 (by omega) ((HQ.out _ HB1.out).2.1.ds.take (by show k≤dn;omega)) (fun args w=>by go_simp) (hide (fun r w' hr hw'=>by
    obtain⟨⟨z0,_⟩,_,_,Cu⟩:=iZ.out w' hw'
    exact uS r nm N w' Cu z0)))
   have rR:=hide (show((ds.map ah.dev).take k).any (fun x=>bO x.name nm)=(ds.take k).any (fun x=>bO x.name nm)from by rw[← List.map_take,List.any_map];rfl)
   have g1:(k:Int)≤(dc:Int):=by omega
   have g2:dc≤9223372036854775807:=by have:=HM.out.1;unfold maxLen at this;exact this
   go_wp2_with fail
   refine Fh.out.mono ?_
   clear Fh
   rintro e w2 ⟨rfl,hb⟩
   have HB2:=hide hb
   clear hb y0 y1 y2 y3 y4 y5 y6 x0 x1
   obtain⟨⟨y0,y1,y2,y3,y4,y5,y6⟩,⟨x0,x1⟩,hb2,_⟩:=iZ.out w2 HB2.out
   have Co:=hide hb2
   clear hb2
   generalize hany:(ds.take k).any (fun x=>bO x.name nm)=ANY at*
   clear hany
   cases ANY
   case true=>
    have HF:=hide (show E=5 from by rw[jM.out,HC.out,HS.out];simp[e1,rR.out])
    go_wp2
    go_ret
    exact⟨aj HF.out.symm,(HQ.out _ Co.out).2.2⟩
   have sU:=hide (wM.out w2 (Dq.out w2 HB2.out))
   simp only[ah.val]at sU
   obtain⟨DE,Af⟩:∃DE,aX ⟨nm,kd,ad,pl,bs,rs,ts⟩=DE:=⟨_,rfl⟩
   simp only[Af]at HS sU
   clear Af
   go_wp2_with fail
   refine sU.out.mono ?_
   clear sU wM
   rintro e w3 ⟨rfl,hb⟩
   have HB3:=hide (Co.out.trans (hb.mono Co.out.size))
   clear hb y0 y1 y2 y3 y4 y5 y6 x0 x1
   by_cases hde:DE=0
   ·subst hde
    have HF:=hide (show fQ [] (ds.map ah.dev)=fQ ((ds.map ah.dev).take (k+1)) ((ds.map ah.dev).drop (k+1))from by rw[HC.out,HS.out];simp[e1,rR.out])
    clear HS e1 rR
    go_wp2
    go_roundw
    case rel=>exact⟨k+1,by omega,by go_num,HF,HB3⟩
    case measure=>simp[intOf];omega
   ·have d1:(DE != 0)=true:=by simpa using hde
    have d2:(DE ==0)=false:=by simpa using hde
    have HF:=hide (show E=DE from by rw[jM.out,HC.out,HS.out];simp[e1,rR.out,hde])
    clear HS e1 rR hde
    go_wp2
    go_ret
    exact⟨aj HF.out.symm,(HQ.out _ HB3.out).2.2⟩
  ·have HF:=hide (show E=fV (ds.map ah.dev) [] ls from by
    have:fQ [] (ds.map ah.dev)=0:=by rw[HC.out,List.drop_of_length_le (by rw[List.length_map];have:=gI.out;omega)];rfl
    rw[jM.out,if_pos this])
   have HO:=hide (World.ownsRow_nil wr W0.heap.size 85 2)
   have Ag:=HB
   go_wp2
   clear HC hk hlt x0 x1 HB gZ aV
   go_loopw [6,50] (fun v i wr=>∃(k:Nat) (ends:List Pl),k≤ln∧i= .int .i64 k∧Hid (E=fV (ds.map ah.dev) ends (ls.drop k))∧Hid (RowKit.Below W0.heap.size W0 wr)∧Hid (wr.ownsRow W0.heap.size 85 2 v ends.length (ends.flatMap fJ))∧Hid (ends.length=2*k)) (fun _ i _=>ln - (intOf i).toNat)
   case atStart=>exact⟨0,[],Nat.zero_le _,rfl,HF,Ag,HO,hide rfl⟩
   case round=>
    clear HF HO Ag
    obtain⟨k,ends,hk,rfl,HC,HB,HO,uV⟩:=hrel
    generalize u6=v at*
    obtain⟨⟨x0,x1⟩,hna,hbW⟩:=HQ.out wr HB.out
    have gZ:=hide hna
    have aV:=hide hbW
    clear hna hbW
    by_cases hlt:k<ln
    ·obtain⟨r,hr⟩:∃r,ls[k]?=some r:=⟨_,List.getElem?_eq_getElem (by have:=wK.out;omega)⟩
     have HBAD:=hide (fun j (hj:j<2) h1 h2=>HC.out.trans (sV (ds:=ds.map ah.dev) (ends:=ends) (j:=j) hr hj h1 h2))
     have sW:=hide (fun h1=>HC.out.trans (rU (ds:=ds.map ah.dev) (ends:=ends) hr h1))
     obtain⟨b,o,rfl,_,_⟩:=gZ.out.ls.2 (by show 0<ln;omega)
     obtain⟨nA,q0,q1,q2,q3⟩:=wN gZ.out.ls hr
     obtain⟨hka,hkp,hkb,hkq⟩:=gZ.out.rV r (List.mem_of_getElem? hr)
     clear hka hkp hkb hkq hr
     obtain⟨A2,c2,rfl,hc2,_,_⟩:=bD.dw fF HO.out rfl
     obtain⟨ra,rp,rb,rq⟩:=r
     go_wp2
     clear q0 q1 q2 q3 x0 x1
     obtain⟨N,hN⟩:∃N,wr.heap.size=N:=⟨_,rfl⟩
     have sZ:=hide (fun t1 t2=>show RowKit.Below N wr ((wr.alloc (.cells #[.int .i64 ra,.int .i64 rp,.int .i64 rb,.int .i64 rq] t1)).alloc (.cells #[.int .i64 ra,.int .i64 rp,.int .i64 rb,.int .i64 rq] t2))from by rw[← hN];exact((RowKit.Below.refl _ _).alloc (Nat.le_refl _) _).alloc (by simp) _)
     have Ah:=hide (fun t1 t2 (w':World) (hb:RowKit.Below (N+2) ((wr.alloc (.cells #[.int .i64 ra,.int .i64 rp,.int .i64 rb,.int .i64 rq] t1)).alloc (.cells #[.int .i64 ra,.int .i64 rp,.int .i64 rb,.int .i64 rq] t2)) w')=>show(w'.cell? ⟨N,0,none⟩=some (.int .i64 ra)∧w'.cell? ⟨N,1,none⟩=some (.int .i64 rp)∧w'.cell? ⟨N,2,none⟩=some (.int .i64 rb)∧w'.cell? ⟨N,3,none⟩=some (.int .i64 rq))∧(∀j,j<2→w'.cell? ⟨N+1,j*2,none⟩=some (.int .i64 (lg ⟨ra,rp,rb,rq⟩ j).1)∧w'.cell? ⟨N+1,j*2+1,none⟩=some (.int .i64 (lg ⟨ra,rp,rb,rq⟩ j).2))from by
      have hs1:(wr.alloc (.cells #[.int .i64 ra,.int .i64 rp,.int .i64 rb,.int .i64 rq] t1)).heap.size =N+1:=by rw[← hN];simp
      have c1:∀o v,(#[Value.int .i64 ra,.int .i64 rp,.int .i64 rb,.int .i64 rq]:Array Value)[o]?=some v→w'.cell? ⟨N,o,none⟩=some v:=fun o v hv=>by
       rw[hb.cell (p:=⟨N,o,none⟩) (by show N<_;omega),World.cell?_alloc_lt _ _ _ (by show N<_;omega),← hN,cell_of_row _ _ _ _ _ _ (heap_alloc_new wr _)]
       exact hv
      have c2:∀o v,(#[Value.int .i64 ra,.int .i64 rp,.int .i64 rb,.int .i64 rq]:Array Value)[o]?=some v→w'.cell? ⟨N+1,o,none⟩=some v:=fun o v hv=>kH _ _ _ hs1 hb o v hv
      refine⟨⟨c1 0 _ rfl,c1 1 _ rfl,c1 2 _ rfl,c1 3 _ rfl⟩,fun j hj=>?_⟩
      rcases(by omega:j=0∨j=1)with rfl | rfl
      ·exact⟨c2 0 _ rfl,c2 1 _ rfl⟩
      ·exact⟨c2 2 _ rfl,c2 3 _ rfl⟩)
     have HW1:=sZ.out 55 85
     have HW2:=Ah.out 55 85
     have hsA:((wr.alloc (.cells #[.int .i64 ra,.int .i64 rp,.int .i64 rb,.int .i64 rq] 55)).alloc (.cells #[.int .i64 ra,.int .i64 rp,.int .i64 rb,.int .i64 rq] 85)).heap.size =N+2:=by rw[← hN];simp
     clear sZ Ah
     generalize World.alloc (World.alloc wr _) _=wA at*
     have HA1:=hide HW1
     have HA2:=hide HW2
     have tq:=hide hsA
     have qD:W0.heap.size≤N:=by rw[← hN];exact HB.out.size
     have dX:=hide (HB.out.trans (HW1.mono qD))
     have zi:=hide (fun(w':World) (hb:RowKit.Below N wr w')=>own_below HO.out (by rw[hN];exact hb))
     rw[hN]
     clear HW1 HW2 hsA HO HB hN gZ aV
     obtain⟨wo,hwo⟩:∃wo:World,wo=wr:=⟨_,rfl⟩
     rw[← hwo]at HA1 zi
     clear hwo
     have wO:=hide (RowKit.Below.refl wA.heap.size wA)
     go_loopw [66] (fun i wj=>∃j:Nat,j≤2∧i= .int .i64 j∧Hid (∀i,i<j→gQ (ds.map ah.dev) (lg ⟨ra,rp,rb,rq⟩ i)=true)∧Hid (RowKit.Below wA.heap.size wA wj)) (fun i _=>2 - (intOf i).toNat)
     case atStart=>exact⟨0,Nat.zero_le _,rfl,hide (fun i h=>absurd h (by omega)),wO⟩
     case round=>
      clear wO
      obtain⟨j,hj,rfl,HP,HJ⟩:=hrel
      have mQ:=hide (dX.out.trans (HJ.out.mono dX.out.size))
      have Fj:N+2≤wr.heap.size:=by have:=HJ.out.size;have:=tq.out;omega
      by_cases hj2:j<2
      ·obtain⟨q0,q1⟩:=(HA2.out wr (tq.out▸HJ.out)).2 j hj2
       have wP:=hide (fun h=>HBAD.out j hj2 HP.out h)
       have Ai:=hide (fun(h:gQ (ds.map ah.dev) (lg ⟨ra,rp,rb,rq⟩ j)=true) i (hi:i<j+1)=>show gQ (ds.map ah.dev) (lg ⟨ra,rp,rb,rq⟩ i)=true from by
        rcases(by omega:i<j∨i=j)with h1 | rfl
        ·exact HP.out i h1
        ·exact h)
       obtain⟨X,Y,wQ⟩:∃X Y,lg ⟨ra,rp,rb,rq⟩ j=(X,Y):=⟨_,_,rfl⟩
       simp only[wQ]at q0 q1 wP Ai
       clear wQ
       have I6:W.heap.size<wr.heap.size:=by have:=mQ.out.size;have:=jB.out;omega
       obtain⟨⟨x0,x1⟩,hna,hbW⟩:=HQ.out wr mQ.out
       have gZ:=hide hna
       have aV:=hide hbW
       clear hna hbW
       obtain⟨M,hM⟩:∃M,wr.heap.size=M:=⟨_,rfl⟩
       have mU:=hide (fun(w':World) (hb:RowKit.Below (M+1) (wr.alloc (.cells #[.int .i64 X,.int .i64 Y] 85)) w')=>show(w'.cell? ⟨M,0,none⟩=some (.int .i64 X)∧w'.cell? ⟨M,1,none⟩=some (.int .i64 Y))∧RowKit.Below wA.heap.size wA w' from
        ⟨⟨kH wr _ _ hM hb 0 _ rfl,kH wr _ _ hM hb 1 _ rfl⟩,HJ.out.trans ((((RowKit.Below.refl wr.heap.size wr).alloc (Nat.le_refl _) _).trans (hb.mono (by omega))).mono HJ.out.size)⟩)
       cases e1:(decide (0≤X) && decide (X<(dn:Int)))
       ·have HF:=hide (show E=1 from wP.out (by simp only[gQ,List.length_map,gI.out,e1];rfl))
        go_wp2
        have vM:=mU.out
        have hsB:(wr.alloc (.cells #[.int .i64 X,.int .i64 Y] 85)).heap.size =M+1:=by simp[hM]
        clear mU q0 q1 x0 x1 hM
        generalize World.alloc wr _=wB at*
        have mU:=hide vM
        have rz:=hide hsB
        clear vM hsB
        refine bB (by kernel_rfl) (by kernel_rfl) ?_
        intro T hT gt hg hgi
        have aM:=hide hg
        have dz:=hide hgi
        clear hg hgi
        have pX:=hide (fun t=>(mU.out _ (rz.out▸aM.out t)).2)
        have vN:=hide (fun t=>HQ.out _ (dX.out.trans ((pX.out t).mono dX.out.size)))
        have k0:=fun t=>(mU.out _ (rz.out▸aM.out t)).1.1
        have k1:=fun t=>(mU.out _ (rz.out▸aM.out t)).1.2
        have k2:=fun t=>(vN.out t).1.1
        have gD:=hide (fun t=>bE X dn (gt t) false e1)
        clear e1
        repeat (go_big_quiet_step ((go_at_call 37;exact bR (gD.out _))))
        refine wpQuiet_nil ?_
        intro _ hw'
        obtain⟨t,rfl⟩:=hw'
        have lu:=hide (pX.out t)
        generalize gt t=w9 at*
        clear k0 k1 k2 aM dz vN pX
        go_wp2
        go_ret
        exact⟨aj HF.out.symm,(HQ.out _ (dX.out.trans (lu.out.mono dX.out.size))).2.2⟩
       ·have oK:=e1
        simp only[Bool.and_eq_true,decide_eq_true_eq]at oK
        obtain⟨i,rfl⟩:∃i:Nat,X=(i:Int):=⟨X.toNat,by omega⟩
        obtain⟨rd,hrd⟩:∃r,ds[i]?=some r:=⟨_,List.getElem?_eq_getElem (by have:=gI.out;omega)⟩
        have Du:=hide (show qE (ds.map ah.dev) (i:Int)=rd.kind from by simp[qE,hrd,ah.dev])
        obtain⟨db,od,rfl,_,_⟩:=gZ.out.ds.2 (by show 0<dn;omega)
        have Aj:=hide (fun(w':World) (hb:RowKit.Below W0.heap.size W0 w')=>(lV (HQ.out w' hb).2.1.ds hrd).2.2.1)
        have i1:(0:Int)≤(i:Int):=by omega
        have i2:(i:Int)<(dn:Int):=by omega
        have i3:(dn:Int)≤9223372036854775807:=by omega
        have wR:=hide (show gQ (ds.map ah.dev) ((i:Int),Y)=(decide (0≤Y) && decide (Y<dK rd.kind))from by simp only[gQ,List.length_map,gI.out,e1,Du.out];rfl)
        cases e2:(decide (0≤Y) && decide (Y<dK rd.kind))
        ·have HF:=hide (show E=1 from wP.out (by rw[wR.out,e2]))
         go_wp2
         have vM:=mU.out
         have hsB:(wr.alloc (.cells #[.int .i64 (i:Int),.int .i64 Y] 85)).heap.size =M+1:=by simp[hM]
         clear mU q0 q1 x0 x1 hM
         generalize World.alloc wr _=wB at*
         have mU:=hide vM
         have rz:=hide hsB
         clear vM hsB
         refine bB (by kernel_rfl) (by kernel_rfl) ?_
         intro T hT gt hg hgi
         have aM:=hide hg
         have dz:=hide hgi
         clear hg hgi
         have pX:=hide (fun t=>(mU.out _ (rz.out▸aM.out t)).2)
         have vN:=hide (fun t=>HQ.out _ (dX.out.trans ((pX.out t).mono dX.out.size)))
         have k0:=fun t=>(mU.out _ (rz.out▸aM.out t)).1.1
         have k1:=fun t=>(mU.out _ (rz.out▸aM.out t)).1.2
         have k2:=fun t=>(vN.out t).1.1
         have k3:=fun t=>Aj.out (gt t) (dX.out.trans ((pX.out t).mono dX.out.size))
         have gD:=hide (fun t=>bE i dn (gt t) true e1)
         have iH:=hide (fun t=>uo rd.kind (gt t))
         have wS:=hide (fun t=>bE Y (dK rd.kind) (gt t) false e2)
         clear e1 e2 oK
         generalize dK rd.kind=PF at*
         repeat (go_big_quiet_step (first | (go_at_call_of 37 (Value.int .i64 dn);exact bR (gD.out _)) | (go_at_call 37;exact bR (wS.out _)) | (go_at_call 38;exact bR (iH.out _))))
         refine wpQuiet_nil ?_
         intro _ hw'
         obtain⟨t,rfl⟩:=hw'
         have lu:=hide (pX.out t)
         generalize gt t=w9 at*
         clear k0 k1 k2 aM dz vN pX
         clear k3
         go_wp2
         go_ret
         exact⟨aj HF.out.symm,(HQ.out _ (dX.out.trans (lu.out.mono dX.out.size))).2.2⟩
        ·have HF:=hide (Ai.out (by rw[wR.out,e2]))
         go_wp2
         have vM:=mU.out
         have hsB:(wr.alloc (.cells #[.int .i64 (i:Int),.int .i64 Y] 85)).heap.size =M+1:=by simp[hM]
         clear mU q0 q1 x0 x1 hM
         generalize World.alloc wr _=wB at*
         have mU:=hide vM
         have rz:=hide hsB
         clear vM hsB
         refine bB (by kernel_rfl) (by kernel_rfl) ?_
         intro T hT gt hg hgi
         have aM:=hide hg
         have dz:=hide hgi
         clear hg hgi
         have pX:=hide (fun t=>(mU.out _ (rz.out▸aM.out t)).2)
         have vN:=hide (fun t=>HQ.out _ (dX.out.trans ((pX.out t).mono dX.out.size)))
         have k0:=fun t=>(mU.out _ (rz.out▸aM.out t)).1.1
         have k1:=fun t=>(mU.out _ (rz.out▸aM.out t)).1.2
         have k2:=fun t=>(vN.out t).1.1
         have k3:=fun t=>Aj.out (gt t) (dX.out.trans ((pX.out t).mono dX.out.size))
         have gD:=hide (fun t=>bE i dn (gt t) true e1)
         have iH:=hide (fun t=>uo rd.kind (gt t))
         have wS:=hide (fun t=>bE Y (dK rd.kind) (gt t) true e2)
         clear e1 e2 oK
         generalize dK rd.kind=PF at*
         repeat (go_big_quiet_step (first | (go_at_call_of 37 (Value.int .i64 dn);exact bR (gD.out _)) | (go_at_call 37;exact bR (wS.out _)) | (go_at_call 38;exact bR (iH.out _))))
         refine wpQuiet_nil ?_
         intro _ hw'
         obtain⟨t,rfl⟩:=hw'
         have lu:=hide (pX.out t)
         generalize gt t=w9 at*
         clear k0 k1 k2 aM dz vN pX
         clear k3
         go_wp2
         go_roundw
         case rel=>exact⟨j+1,by omega,by go_num,HF,lu⟩
         case measure=>simp[intOf];omega
      ·obtain rfl:j=2:=by omega
       have HG:=hide (sW.out HP.out)
       obtain⟨y0,y1,y2,y3⟩:=(HA2.out wr (tq.out▸HJ.out)).1
       have FW:ends.length≤30:=by have:=uV.out;omega
       have hNM:N+2≤wr.heap.size:=Fj
       clear HP HBAD sW Fj
       go_wp2
       obtain⟨M,hM⟩:∃M,wr.heap.size=M:=⟨_,rfl⟩
       have vF:Hid (∀(u v:Pl),Below wr.heap.size wr ((wr.alloc (.cells #[.int .i64 u.1,.int .i64 u.2] 85)).alloc (.cells #[.int .i64 v.1,.int .i64 v.2] 85))∧((wr.alloc (.cells #[.int .i64 u.1,.int .i64 u.2] 85)).alloc (.cells #[.int .i64 v.1,.int .i64 v.2] 85)).heap.size =M+2∧
         nM ((wr.alloc (.cells #[.int .i64 u.1,.int .i64 u.2] 85)).alloc (.cells #[.int .i64 v.1,.int .i64 v.2] 85)) M u.1 u.2∧nM ((wr.alloc (.cells #[.int .i64 u.1,.int .i64 u.2] 85)).alloc (.cells #[.int .i64 v.1,.int .i64 v.2] 85)) (M+1) v.1 v.2):=hide (fun u v=>by
        have hb1:Below wr.heap.size wr (wr.alloc (.cells #[.int .i64 u.1,.int .i64 u.2] 85)):=(Below.refl _ _).alloc (Nat.le_refl _) _
        have hs:(wr.alloc (.cells #[.int .i64 u.1,.int .i64 u.2] 85)).heap.size =M+1:=by rw[← hM];simp
        have b1:=nM.new wr u.1 u.2 85
        have b2:=nM.new (wr.alloc (.cells #[.int .i64 u.1,.int .i64 u.2] 85)) v.1 v.2 85
        rw[hM]at b1
        rw[hs]at b2
        refine⟨hb1.alloc hb1.size _,by simp;omega,b1.below ((Below.refl _ _).alloc (Nat.le_refl _) _) (by omega),b2⟩)
       go_region_held3 (fun w'=>w'.cell? ⟨N,0,none⟩=some (.int .i64 ra)∧w'.cell? ⟨N,1,none⟩=some (.int .i64 rp)∧w'.cell? ⟨N,2,none⟩=some (.int .i64 rb)∧w'.cell? ⟨N,3,none⟩=some (.int .i64 rq)) (go_keep) (fail)
       ·obtain⟨hbz,hsz,b1,b2⟩:=vF.out (ra,rp) (rb,rq)
        have rC:=hide (HJ.out.trans (hbz.mono HJ.out.size))
        have Bp:=hide hsz
        generalize World.alloc (World.alloc wr _) _=wz at*
        have fq:=hide (fun(w':World) (hb:RowKit.Below wz.heap.size wz w')=>And.intro (b1.below hb (by have:=Bp.out;omega)) (b2.below hb (by have:=Bp.out;omega)))
        have mP:=hide (fun(w':World) (hb:RowKit.Below wz.heap.size wz w')=>rC.out.trans (hb.mono rC.out.size))
        have nC:=hide (fun(w':World) (hb:RowKit.Below wz.heap.size wz w')=>zi.out w' (HA1.out.trans ((rC.out.trans (hb.mono rC.out.size)).mono (by have:=tq.out;omega))))
        have HD:=hide ((RowKit.Below.refl wz.heap.size wz).drew)
        clear hbz vF b1 b2 y0 y1 y2 y3 hM hsz rC
        obtain⟨⟨u0,u1,_,_⟩,⟨v0,v1,_,_⟩⟩:=fq.out _ HD.out
        cases e1:(ra ==rb)
        ·have gD:=hide (gK ends A2 ends.length c2 ra rp _ (by omega) (iL fF (nC.out _ HD.out) rfl))
         go_wp2_with fail
         refine gD.out.mono ?_
         clear gD
         rintro e w3 ⟨rfl,hb⟩
         have HB3:=hide (HD.out.trans (hb.mono HD.out.size))
         clear hb u0 u1 v0 v1
         obtain⟨⟨u0,u1,_,_⟩,⟨v0,v1,_,_⟩⟩:=fq.out _ HB3.out
         cases a1:ends.any (fun z=>gF (ra,rp) z)
         case true=>
          have HF:=hide (show E=5 from by rw[HG.out];simp only[fZ,aJ.e1,aJ.e2,a1,Bool.true_or,Bool.or_true,if_true])
          clear a1
          go_wp2
          go_ret
          exact⟨aj HF.out.symm,(HQ.out _ (dX.out.trans ((mP.out _ HB3.out).mono dX.out.size))).2.2⟩
         have sN:=hide a1
         clear a1
         have gD:=hide (gK ends A2 ends.length c2 rb rq w3 (by omega) (iL fF (nC.out _ HB3.out) rfl))
         go_wp2_with fail
         refine gD.out.mono ?_
         clear gD
         rintro e w4 ⟨rfl,hb⟩
         have aK:=hide (HB3.out.trans (hb.mono HB3.out.size))
         clear hb u0 u1 v0 v1
         obtain⟨⟨u0,u1,_,_⟩,⟨v0,v1,_,_⟩⟩:=fq.out _ aK.out
         cases a2:ends.any (fun z=>gF (rb,rq) z)
         case true=>
          have HF:=hide (show E=5 from by rw[HG.out];simp only[fZ,aJ.e1,aJ.e2,a2,Bool.true_or,Bool.or_true,if_true])
          clear a2
          go_wp2
          go_ret
          exact⟨aj HF.out.symm,(HQ.out _ (dX.out.trans ((mP.out _ aK.out).mono dX.out.size))).2.2⟩
         have HF:=hide (show E=fV (ds.map ah.dev) (ends++[(ra,rp),(rb,rq)]) (ls.drop (k+1))from by
          rw[HG.out]
          have h1:=sN.out
          simp only[fZ,gF,aJ.e1,aJ.e2,h1,a2,e1,Bool.false_and,Bool.and_false,Bool.or_false,Bool.false_eq_true,if_false]at h1 a2 ⊢
          try simp only[h1,a2,Bool.false_or,Bool.false_eq_true,if_false])
         clear a2 HG
         have rE:=hide (show RowKit.Below wz.heap.size wz (w4.alloc (.cells #[.int .i64 ra,.int .i64 rp,.int .i64 rb,.int .i64 rq] 85))from aK.out.alloc aK.out.size _)
         have kF:=hide (show Reads (w4.alloc (.cells #[.int .i64 ra,.int .i64 rp,.int .i64 rb,.int .i64 rq] 85)) (w4.heap.size+1) 2 (some ⟨w4.heap.size,0,none⟩) 2 [.int .i64 ra,.int .i64 rp,.int .i64 rb,.int .i64 rq]from
          ⟨rfl,fun _=>⟨_,rfl,Nat.lt_succ_self _,fun j u hu=>by
           rw[addr_add,Nat.zero_add,cell_of_row _ _ _ _ _ _ (heap_alloc_new w4 _)]
           simpa using hu⟩⟩)
         have HOL:=hide (nC.out _ rE.out)
         have Al:W0.heap.size≤w4.heap.size:=by have h1:=(mP.out _ aK.out).size;have:=dX.out.size;omega
         go_wp2_with (at_builtin;refine dS _ rfl (.tmp 115) (.tmp 118) 83 rfl W0.heap.size 85 i0 _ 2 16 Tryd.underlying83 hi0 hz0 hz1 hz2 rfl (by omega) (.slice A2 ends.length c2) ends.length (ends.flatMap fJ) rfl HOL.out (w4.heap.size+1) (some ⟨w4.heap.size,0,none⟩) 2 2 [.int .i64 ra,.int .i64 rp,.int .i64 rb,.int .i64 rq] rfl kF.out (by intro u hu;simp at hu;rcases hu with rfl | rfl | rfl | rfl<;>rfl) (by simp only[maxLen];omega) (by omega) (by simp;omega) ?_;intro v5 w5 hown5 hg5 lI;have tu:=hide (nU (dX.out.trans ((mP.out _ rE.out).mono dX.out.size)) (Nat.le_refl _) hg5 (fun q hq=>(HOL.out.lt q hq).1));have lU:=hide hown5;clear hown5 hg5 lI)
         go_roundw
         case rel=>exact⟨k+1,ends++[(ra,rp),(rb,rq)],by omega,by go_num,HF,tu,hide (by simpa[fJ]using lU.out),hide (by have:=uV.out;simp;omega)⟩
         case measure=>simp[intOf];omega
        cases e2:(rp ==rq)
        ·have gD:=hide (gK ends A2 ends.length c2 ra rp _ (by omega) (iL fF (nC.out _ HD.out) rfl))
         go_wp2_with fail
         refine gD.out.mono ?_
         clear gD
         rintro e w3 ⟨rfl,hb⟩
         have HB3:=hide (HD.out.trans (hb.mono HD.out.size))
         clear hb u0 u1 v0 v1
         obtain⟨⟨u0,u1,_,_⟩,⟨v0,v1,_,_⟩⟩:=fq.out _ HB3.out
         cases a1:ends.any (fun z=>gF (ra,rp) z)
         case true=>
          have HF:=hide (show E=5 from by rw[HG.out];simp only[fZ,aJ.e1,aJ.e2,a1,Bool.true_or,Bool.or_true,if_true])
          clear a1
          go_wp2
          go_ret
          exact⟨aj HF.out.symm,(HQ.out _ (dX.out.trans ((mP.out _ HB3.out).mono dX.out.size))).2.2⟩
         have sN:=hide a1
         clear a1
         have gD:=hide (gK ends A2 ends.length c2 rb rq w3 (by omega) (iL fF (nC.out _ HB3.out) rfl))
         go_wp2_with fail
         refine gD.out.mono ?_
         clear gD
         rintro e w4 ⟨rfl,hb⟩
         have aK:=hide (HB3.out.trans (hb.mono HB3.out.size))
         clear hb u0 u1 v0 v1
         obtain⟨⟨u0,u1,_,_⟩,⟨v0,v1,_,_⟩⟩:=fq.out _ aK.out
         cases a2:ends.any (fun z=>gF (rb,rq) z)
         case true=>
          have HF:=hide (show E=5 from by rw[HG.out];simp only[fZ,aJ.e1,aJ.e2,a2,Bool.true_or,Bool.or_true,if_true])
          clear a2
          go_wp2
          go_ret
          exact⟨aj HF.out.symm,(HQ.out _ (dX.out.trans ((mP.out _ aK.out).mono dX.out.size))).2.2⟩
         have HF:=hide (show E=fV (ds.map ah.dev) (ends++[(ra,rp),(rb,rq)]) (ls.drop (k+1))from by
          rw[HG.out]
          have h1:=sN.out
          simp only[fZ,gF,aJ.e1,aJ.e2,h1,a2,e1,e2,Bool.false_and,Bool.and_false,Bool.or_false,Bool.false_eq_true,if_false]at h1 a2 ⊢
          try simp only[h1,a2,Bool.false_or,Bool.false_eq_true,if_false])
         clear a2 HG
         have rE:=hide (show RowKit.Below wz.heap.size wz (w4.alloc (.cells #[.int .i64 ra,.int .i64 rp,.int .i64 rb,.int .i64 rq] 85))from aK.out.alloc aK.out.size _)
         have kF:=hide (show Reads (w4.alloc (.cells #[.int .i64 ra,.int .i64 rp,.int .i64 rb,.int .i64 rq] 85)) (w4.heap.size+1) 2 (some ⟨w4.heap.size,0,none⟩) 2 [.int .i64 ra,.int .i64 rp,.int .i64 rb,.int .i64 rq]from
          ⟨rfl,fun _=>⟨_,rfl,Nat.lt_succ_self _,fun j u hu=>by
           rw[addr_add,Nat.zero_add,cell_of_row _ _ _ _ _ _ (heap_alloc_new w4 _)]
           simpa using hu⟩⟩)
         have HOL:=hide (nC.out _ rE.out)
         have Al:W0.heap.size≤w4.heap.size:=by have h1:=(mP.out _ aK.out).size;have:=dX.out.size;omega
         go_wp2_with (at_builtin;refine dS _ rfl (.tmp 115) (.tmp 118) 83 rfl W0.heap.size 85 i0 _ 2 16 Tryd.underlying83 hi0 hz0 hz1 hz2 rfl (by omega) (.slice A2 ends.length c2) ends.length (ends.flatMap fJ) rfl HOL.out (w4.heap.size+1) (some ⟨w4.heap.size,0,none⟩) 2 2 [.int .i64 ra,.int .i64 rp,.int .i64 rb,.int .i64 rq] rfl kF.out (by intro u hu;simp at hu;rcases hu with rfl | rfl | rfl | rfl<;>rfl) (by simp only[maxLen];omega) (by omega) (by simp;omega) ?_;intro v5 w5 hown5 hg5 lI;have tu:=hide (nU (dX.out.trans ((mP.out _ rE.out).mono dX.out.size)) (Nat.le_refl _) hg5 (fun q hq=>(HOL.out.lt q hq).1));have lU:=hide hown5;clear hown5 hg5 lI)
         go_roundw
         case rel=>exact⟨k+1,ends++[(ra,rp),(rb,rq)],by omega,by go_num,HF,tu,hide (by simpa[fJ]using lU.out),hide (by have:=uV.out;simp;omega)⟩
         case measure=>simp[intOf];omega
        have HF:=hide (show E=5 from by rw[HG.out];simp[fZ,gF,aJ.e1,aJ.e2,e1,e2])
        go_wp2
        go_ret
        exact⟨aj HF.out.symm,(HQ.out _ (dX.out.trans ((mP.out _ HD.out).mono dX.out.size))).2.2⟩
       ·obtain⟨hbz,hsz,b1,b2⟩:=vF.out (rb,rq) (ra,rp)
        have rC:=hide (HJ.out.trans (hbz.mono HJ.out.size))
        have Bp:=hide hsz
        generalize World.alloc (World.alloc wr _) _=wz at*
        have fq:=hide (fun(w':World) (hb:RowKit.Below wz.heap.size wz w')=>And.intro (b1.below hb (by have:=Bp.out;omega)) (b2.below hb (by have:=Bp.out;omega)))
        have mP:=hide (fun(w':World) (hb:RowKit.Below wz.heap.size wz w')=>rC.out.trans (hb.mono rC.out.size))
        have nC:=hide (fun(w':World) (hb:RowKit.Below wz.heap.size wz w')=>zi.out w' (HA1.out.trans ((rC.out.trans (hb.mono rC.out.size)).mono (by have:=tq.out;omega))))
        have HD:=hide ((RowKit.Below.refl wz.heap.size wz).drew)
        clear hbz vF b1 b2 y0 y1 y2 y3 hM hsz rC
        obtain⟨⟨u0,u1,_,_⟩,⟨v0,v1,_,_⟩⟩:=fq.out _ HD.out
        cases e1:(ra ==rb)
        ·have gD:=hide (gK ends A2 ends.length c2 ra rp _ (by omega) (iL fF (nC.out _ HD.out) rfl))
         go_wp2_with fail
         refine gD.out.mono ?_
         clear gD
         rintro e w3 ⟨rfl,hb⟩
         have HB3:=hide (HD.out.trans (hb.mono HD.out.size))
         clear hb u0 u1 v0 v1
         obtain⟨⟨u0,u1,_,_⟩,⟨v0,v1,_,_⟩⟩:=fq.out _ HB3.out
         cases a1:ends.any (fun z=>gF (ra,rp) z)
         case true=>
          have HF:=hide (show E=5 from by rw[HG.out];simp only[fZ,aJ.e1,aJ.e2,a1,Bool.true_or,Bool.or_true,if_true])
          clear a1
          go_wp2
          go_ret
          exact⟨aj HF.out.symm,(HQ.out _ (dX.out.trans ((mP.out _ HB3.out).mono dX.out.size))).2.2⟩
         have sN:=hide a1
         clear a1
         have gD:=hide (gK ends A2 ends.length c2 rb rq w3 (by omega) (iL fF (nC.out _ HB3.out) rfl))
         go_wp2_with fail
         refine gD.out.mono ?_
         clear gD
         rintro e w4 ⟨rfl,hb⟩
         have aK:=hide (HB3.out.trans (hb.mono HB3.out.size))
         clear hb u0 u1 v0 v1
         obtain⟨⟨u0,u1,_,_⟩,⟨v0,v1,_,_⟩⟩:=fq.out _ aK.out
         cases a2:ends.any (fun z=>gF (rb,rq) z)
         case true=>
          have HF:=hide (show E=5 from by rw[HG.out];simp only[fZ,aJ.e1,aJ.e2,a2,Bool.true_or,Bool.or_true,if_true])
          clear a2
          go_wp2
          go_ret
          exact⟨aj HF.out.symm,(HQ.out _ (dX.out.trans ((mP.out _ aK.out).mono dX.out.size))).2.2⟩
         have HF:=hide (show E=fV (ds.map ah.dev) (ends++[(ra,rp),(rb,rq)]) (ls.drop (k+1))from by
          rw[HG.out]
          have h1:=sN.out
          simp only[fZ,gF,aJ.e1,aJ.e2,h1,a2,e1,Bool.false_and,Bool.and_false,Bool.or_false,Bool.false_eq_true,if_false]at h1 a2 ⊢
          try simp only[h1,a2,Bool.false_or,Bool.false_eq_true,if_false])
         clear a2 HG
         have rE:=hide (show RowKit.Below wz.heap.size wz (w4.alloc (.cells #[.int .i64 ra,.int .i64 rp,.int .i64 rb,.int .i64 rq] 85))from aK.out.alloc aK.out.size _)
         have kF:=hide (show Reads (w4.alloc (.cells #[.int .i64 ra,.int .i64 rp,.int .i64 rb,.int .i64 rq] 85)) (w4.heap.size+1) 2 (some ⟨w4.heap.size,0,none⟩) 2 [.int .i64 ra,.int .i64 rp,.int .i64 rb,.int .i64 rq]from
          ⟨rfl,fun _=>⟨_,rfl,Nat.lt_succ_self _,fun j u hu=>by
           rw[addr_add,Nat.zero_add,cell_of_row _ _ _ _ _ _ (heap_alloc_new w4 _)]
           simpa using hu⟩⟩)
         have HOL:=hide (nC.out _ rE.out)
         have Al:W0.heap.size≤w4.heap.size:=by have h1:=(mP.out _ aK.out).size;have:=dX.out.size;omega
         go_wp2_with (at_builtin;refine dS _ rfl (.tmp 115) (.tmp 118) 83 rfl W0.heap.size 85 i0 _ 2 16 Tryd.underlying83 hi0 hz0 hz1 hz2 rfl (by omega) (.slice A2 ends.length c2) ends.length (ends.flatMap fJ) rfl HOL.out (w4.heap.size+1) (some ⟨w4.heap.size,0,none⟩) 2 2 [.int .i64 ra,.int .i64 rp,.int .i64 rb,.int .i64 rq] rfl kF.out (by intro u hu;simp at hu;rcases hu with rfl | rfl | rfl | rfl<;>rfl) (by simp only[maxLen];omega) (by omega) (by simp;omega) ?_;intro v5 w5 hown5 hg5 lI;have tu:=hide (nU (dX.out.trans ((mP.out _ rE.out).mono dX.out.size)) (Nat.le_refl _) hg5 (fun q hq=>(HOL.out.lt q hq).1));have lU:=hide hown5;clear hown5 hg5 lI)
         go_roundw
         case rel=>exact⟨k+1,ends++[(ra,rp),(rb,rq)],by omega,by go_num,HF,tu,hide (by simpa[fJ]using lU.out),hide (by have:=uV.out;simp;omega)⟩
         case measure=>simp[intOf];omega
        cases e2:(rp ==rq)
        ·have gD:=hide (gK ends A2 ends.length c2 ra rp _ (by omega) (iL fF (nC.out _ HD.out) rfl))
         go_wp2_with fail
         refine gD.out.mono ?_
         clear gD
         rintro e w3 ⟨rfl,hb⟩
         have HB3:=hide (HD.out.trans (hb.mono HD.out.size))
         clear hb u0 u1 v0 v1
         obtain⟨⟨u0,u1,_,_⟩,⟨v0,v1,_,_⟩⟩:=fq.out _ HB3.out
         cases a1:ends.any (fun z=>gF (ra,rp) z)
         case true=>
          have HF:=hide (show E=5 from by rw[HG.out];simp only[fZ,aJ.e1,aJ.e2,a1,Bool.true_or,Bool.or_true,if_true])
          clear a1
          go_wp2
          go_ret
          exact⟨aj HF.out.symm,(HQ.out _ (dX.out.trans ((mP.out _ HB3.out).mono dX.out.size))).2.2⟩
         have sN:=hide a1
         clear a1
         have gD:=hide (gK ends A2 ends.length c2 rb rq w3 (by omega) (iL fF (nC.out _ HB3.out) rfl))
         go_wp2_with fail
         refine gD.out.mono ?_
         clear gD
         rintro e w4 ⟨rfl,hb⟩
         have aK:=hide (HB3.out.trans (hb.mono HB3.out.size))
         clear hb u0 u1 v0 v1
         obtain⟨⟨u0,u1,_,_⟩,⟨v0,v1,_,_⟩⟩:=fq.out _ aK.out
         cases a2:ends.any (fun z=>gF (rb,rq) z)
         case true=>
          have HF:=hide (show E=5 from by rw[HG.out];simp only[fZ,aJ.e1,aJ.e2,a2,Bool.true_or,Bool.or_true,if_true])
          clear a2
          go_wp2
          go_ret
          exact⟨aj HF.out.symm,(HQ.out _ (dX.out.trans ((mP.out _ aK.out).mono dX.out.size))).2.2⟩
         have HF:=hide (show E=fV (ds.map ah.dev) (ends++[(ra,rp),(rb,rq)]) (ls.drop (k+1))from by
          rw[HG.out]
          have h1:=sN.out
          simp only[fZ,gF,aJ.e1,aJ.e2,h1,a2,e1,e2,Bool.false_and,Bool.and_false,Bool.or_false,Bool.false_eq_true,if_false]at h1 a2 ⊢
          try simp only[h1,a2,Bool.false_or,Bool.false_eq_true,if_false])
         clear a2 HG
         have rE:=hide (show RowKit.Below wz.heap.size wz (w4.alloc (.cells #[.int .i64 ra,.int .i64 rp,.int .i64 rb,.int .i64 rq] 85))from aK.out.alloc aK.out.size _)
         have kF:=hide (show Reads (w4.alloc (.cells #[.int .i64 ra,.int .i64 rp,.int .i64 rb,.int .i64 rq] 85)) (w4.heap.size+1) 2 (some ⟨w4.heap.size,0,none⟩) 2 [.int .i64 ra,.int .i64 rp,.int .i64 rb,.int .i64 rq]from
          ⟨rfl,fun _=>⟨_,rfl,Nat.lt_succ_self _,fun j u hu=>by
           rw[addr_add,Nat.zero_add,cell_of_row _ _ _ _ _ _ (heap_alloc_new w4 _)]
           simpa using hu⟩⟩)
         have HOL:=hide (nC.out _ rE.out)
         have Al:W0.heap.size≤w4.heap.size:=by have h1:=(mP.out _ aK.out).size;have:=dX.out.size;omega
         go_wp2_with (at_builtin;refine dS _ rfl (.tmp 115) (.tmp 118) 83 rfl W0.heap.size 85 i0 _ 2 16 Tryd.underlying83 hi0 hz0 hz1 hz2 rfl (by omega) (.slice A2 ends.length c2) ends.length (ends.flatMap fJ) rfl HOL.out (w4.heap.size+1) (some ⟨w4.heap.size,0,none⟩) 2 2 [.int .i64 ra,.int .i64 rp,.int .i64 rb,.int .i64 rq] rfl kF.out (by intro u hu;simp at hu;rcases hu with rfl | rfl | rfl | rfl<;>rfl) (by simp only[maxLen];omega) (by omega) (by simp;omega) ?_;intro v5 w5 hown5 hg5 lI;have tu:=hide (nU (dX.out.trans ((mP.out _ rE.out).mono dX.out.size)) (Nat.le_refl _) hg5 (fun q hq=>(HOL.out.lt q hq).1));have lU:=hide hown5;clear hown5 hg5 lI)
         go_roundw
         case rel=>exact⟨k+1,ends++[(ra,rp),(rb,rq)],by omega,by go_num,HF,tu,hide (by simpa[fJ]using lU.out),hide (by have:=uV.out;simp;omega)⟩
         case measure=>simp[intOf];omega
        have HF:=hide (show E=5 from by rw[HG.out];simp[fZ,gF,aJ.e1,aJ.e2,e1,e2])
        go_wp2
        go_ret
        exact⟨aj HF.out.symm,(HQ.out _ (dX.out.trans ((mP.out _ HD.out).mono dX.out.size))).2.2⟩
    ·have HF:=hide (show E=0 from by rw[HC.out,List.drop_of_length_le (by have:=wK.out;omega)];rfl)
     go_wp2
     go_ret
     exact⟨aj HF.out.symm,aV.out⟩
end Go.Proofs.YtifkacnoiocebaaDoor
