/- A part of the proof: NetCheck. -/
import Derived.Test.YtlhmdcgckocidaaGreatHr7
set_option linter.unusedVariables false
set_option linter.unusedSimpArgs false
set_option maxRecDepth 100000
set_option maxHeartbeats 16000000
namespace Go.Proofs.YtlhmdcgckocidaaGreat
open Go.RowKit
theorem uD (w:World) (cs:Array Value) (t:TypeId) {w':World} {N:Nat} (hN:w.heap.size=N) (hb:Below (N+1) (w.alloc (.cells cs t)) w') (o:Nat) (v:Value) (hv:cs[o]?=some v):w'.cell? ⟨N,o,none⟩=some v:=by
 subst hN
 have h:=(hb.block w.heap.size (Nat.lt_succ_self _)).trans (heap_alloc_new w _)
 rw[cell_of_row _ _ _ _ _ _ h]
 exact hv
theorem sZ {α:Type} {cells:α→List Value} {s n base e c:Nat} {w:World} {A:Option Addr} {l:List α} (hs:∀r,(cells r).length =s) (h:w.ownsRow base e s (.slice A n c) n (l.flatMap cells)) (hl:l.length=n):bB cells s w w.heap.size A n l:=by
 obtain⟨A',c',e',_,h',_⟩:=bB.jP hs h hl
 cases e'
 exact h'
theorem Tryz.infoPlace:(Tryz.prog.info? 27).map (fun i=>(i.zero,i.size,i.bytes))=some (some (.agg #[.int .i64 0,.int .i64 0]),2,16):=by kernel_rfl
theorem vG (n:aH) (W:World) (hn:bf W W.heap.size n):
  Calls Tryz.prog 51 #[n.val] W fun e W'=>e= .returned (.int .i64 (dD n.au n.ls))∧RowKit.Below W.heap.size W W':=by
 obtain⟨i0,hi0,hz0,hz1,hz2⟩:=info_parts Tryz.infoPlace
 obtain⟨dA,dn,dc,ds,lA,ln,lc,ls⟩:=n
 obtain⟨W0,hW0⟩:∃W0,W0=W.alloc (.cells #[.slice dA dn dc,.slice lA ln lc] 25):=⟨_,rfl⟩
 have HB0:=hide (show RowKit.Below W.heap.size W W0 from by rw[hW0];exact(RowKit.Below.refl _ _).alloc (Nat.le_refl _) _)
 have nJ:=hide (show W0.heap.size=W.heap.size+1 from by rw[hW0];simp)
 have HQ:=hide (fun(w':World) (hb:RowKit.Below W0.heap.size W0 w')=>show(w'.cell? ⟨W.heap.size,0,none⟩=some (.slice dA dn dc)∧w'.cell? ⟨W.heap.size,1,none⟩=some (.slice lA ln lc))∧bf w' w'.heap.size ⟨dA,dn,dc,ds,lA,ln,lc,ls⟩∧RowKit.Below W.heap.size W w' from by
  have h1:=HB0.out.trans (hb.mono (by rw[nJ.out];omega))
  rw[nJ.out,hW0]at hb
  exact⟨⟨uD W _ _ rfl hb 0 _ rfl,uD W _ _ rfl hb 1 _ rfl⟩,hn.below h1 h1.size,h1⟩)
 have qg:=hide (show ds.length=dn from hn.eZ)
 have nM:=hide (show ls.length=ln from hn.llen)
 have hdc:dn≤dc:=hn.cd.1
 have hlc:ln≤lc:=hn.cl.1
 have HM:=hide (And.intro hn.cd.2 hn.cl.2)
 clear hn
 have HN:=hide (show dD (aH.au ⟨dA,dn,dc,ds,lA,ln,lc,ls⟩) ls=if 10<dn∨15<ln then 2 else if jI [] (ds.map aA.dev)=0 then ji (ds.map aA.dev) [] ls else jI [] (ds.map aA.dev)from by
  unfold dD aH.au;rw[List.length_map,qg.out,nM.out])
 simp only[aH.val]at*
 generalize dD _ _=E at*
 obtain⟨x0,x1⟩:=(HQ.out W0 (RowKit.Below.refl _ _)).1
 have HR:=hide (RowKit.Below.refl W0.heap.size W0)
 by_cases h10:10<dn
 ·have HF:=hide (show E=2 from by rw[HN.out,if_pos (.inl h10)])
  clear HN x0 x1
  subst hW0
  go_enter Tryz.func51,Tryz.ntmps51
  go_wp2
  go_ret
  exact⟨aO HF.out.symm,(HQ.out _ HR.out).2.2⟩
 by_cases h15:15<ln
 ·have HF:=hide (show E=2 from by rw[HN.out,if_pos (.inr h15)])
  clear HN x0 x1
  subst hW0
  go_enter Tryz.func51,Tryz.ntmps51
  go_wp2
  go_ret
  exact⟨aO HF.out.symm,(HQ.out _ HR.out).2.2⟩
 have fZ:=hide (show E=if jI [] (ds.map aA.dev)=0 then ji (ds.map aA.dev) [] ls else jI [] (ds.map aA.dev)from by rw[HN.out,if_neg (by omega)])
 clear HN x0 x1
 go_enter Tryz.func51,Tryz.ntmps51
 go_wp2
 rw[← hW0]
 clear hW0
 go_loopw [26] (fun i wr=>∃k:Nat,k≤dn∧i= .int .i64 k∧Hid (jI [] (ds.map aA.dev)=jI ((ds.map aA.dev).take k) ((ds.map aA.dev).drop k))∧Hid (RowKit.Below W0.heap.size W0 wr)) (fun i _=>dn - (intOf i).toNat)
 case atStart=>exact⟨0,Nat.zero_le _,rfl,hide rfl,hide (RowKit.Below.refl _ _)⟩
 case round=>
  obtain⟨k,hk,rfl,HC,HB⟩:=hrel
  obtain⟨⟨x0,x1⟩,hna,hbW⟩:=HQ.out wr HB.out
  have kD:=hide hna
  have fF:=hide hbW
  clear hna hbW
  by_cases hlt:k<dn
  ·obtain⟨r,hr⟩:∃r,ds[k]?=some r:=⟨_,List.getElem?_eq_getElem (by have:=qg.out;omega)⟩
   have HS:=hide (QS (l:=ds.map aA.dev) (k:=k) (d:=r.dev) (by rw[List.getElem?_map,hr];rfl))
   obtain⟨b,o,rfl,_,_⟩:=kD.out.ds.2 (by show 0<dn;omega)
   obtain⟨mH,q0,q1,q2,q3,q4,q5,q6⟩:=dF kD.out.ds hr
   have Wz:=kD.out.gy r (List.mem_of_getElem? hr)
   have HDK:=hide Wz
   have hnm:=Wz.nm
   obtain⟨nm,kd,ad,pl,bA,bn,bc,bs,rA,rn,rc,rs,tA,tn,tc,ts⟩:=r
   have hN:∃N,wr.heap.size=N:=⟨_,rfl⟩
   obtain⟨N,hN⟩:=hN
   obtain⟨w1,hw1⟩:∃w1,w1=wr.alloc (.cells #[.string nm,.int .i64 kd,.int .i64 ad,.int .u8 pl,.slice bA bn bc,.slice rA rn rc,.slice tA tn tc] 86):=⟨_,rfl⟩
   have HB1:=hide (show RowKit.Below W0.heap.size W0 w1 from by rw[hw1];exact HB.out.alloc HB.out.size _)
   have cK:=hide (fun(w':World) (hb:RowKit.Below w1.heap.size w1 w')=>show o9 w' N ⟨nm,kd,ad,pl,bA,bn,bc,bs,rA,rn,rc,rs,tA,tn,tc,ts⟩∧(w'.cell? ⟨W.heap.size,0,none⟩=some (.slice (some ⟨b,o,none⟩) dn dc)∧w'.cell? ⟨W.heap.size,1,none⟩=some (.slice lA ln lc))∧RowKit.Below W0.heap.size W0 w'∧N<w'.heap.size from by
    have hs:w1.heap.size=N+1:=by rw[hw1,← hN];simp
    have h1:=HB1.out.trans (hb.mono HB1.out.size)
    have h2:=hb.size
    refine⟨o9.below (w:=w1) (by rw[hw1,← hN];exact o9.new wr ⟨nm,kd,ad,pl,bA,bn,bc,bs,rA,rn,rc,rs,tA,tn,tc,ts⟩ _) hb (by omega),(HQ.out w' h1).1,h1,by omega⟩)
   have vB:=hide (Nn ⟨nm,kd,ad,pl,bA,bn,bc,bs,rA,rn,rc,rs,tA,tn,tc,ts⟩)
   have bU:=hide (fun(w':World) (hb:RowKit.Below w1.heap.size w1 w')=>show fV w' w'.heap.size ⟨nm,kd,ad,pl,bA,bn,bc,bs,rA,rn,rc,rs,tA,tn,tc,ts⟩from by
    have h1:=(cK.out w' hb).2.2.1
    exact(HQ.out w' h1).2.1.gy _ (List.mem_of_getElem? hr))
   clear hr Wz
   simp only[aA.dev]at HS vB
   have HW1:=hide hw1
   clear hw1
   go_wp2_with fail
   refine(QM nm _ hnm).mono ?_
   rintro e w' ⟨rfl,rfl⟩
   rw[← HW1.out]
   clear q0 q1 q2 q3 q4 q5 q6 x0 x1
   obtain⟨⟨y0,y1,y2,y3,y4,y5,y6⟩,⟨x0,x1⟩,_,hNs⟩:=cK.out w1 (RowKit.Below.refl _ _)
   cases e1:lD nm
   ·have HF:=hide (show E=3 from by rw[fZ.out,HC.out,HS.out];simp[e1])
    go_wp2
    go_ret
    exact⟨aO HF.out.symm,(HQ.out _ HB1.out).2.2⟩
   have HCT:=hide (AR (ds.take k) (some ⟨b,o,none⟩) k dc 92 #[.pointer (some ⟨N,0,none⟩)] (fun x=>ku x.name nm) w1 (by omega) ((HQ.out _ HB1.out).2.1.ds.take (by show k≤dn;omega)) (fun args w=>by go_simp) (hide (fun r w' hr hw'=>by
    obtain⟨⟨z0,_⟩,_,_,Z5⟩:=cK.out w' hw'
    exact GA r nm N w' Z5 z0)))
   have Uo:=hide (show((ds.map aA.dev).take k).any (fun x=>ku x.name nm)=(ds.take k).any (fun x=>ku x.name nm)from by rw[← List.map_take,List.any_map];rfl)
   have g1:(k:Int)≤(dc:Int):=by omega
   have g2:dc≤9223372036854775807:=by have:=HM.out.1;unfold maxLen at this;exact this
   go_wp2_with fail
   refine HCT.out.mono ?_
   clear HCT
   rintro e w2 ⟨rfl,hb⟩
   have HB2:=hide hb
   clear hb y0 y1 y2 y3 y4 y5 y6 x0 x1
   obtain⟨⟨y0,y1,y2,y3,y4,y5,y6⟩,⟨x0,x1⟩,hb2,_⟩:=cK.out w2 HB2.out
   have WA:=hide hb2
   clear hb2
   generalize hany:(ds.take k).any (fun x=>ku x.name nm)=ANY at*
   clear hany
   cases ANY
   case true=>
    have HF:=hide (show E=5 from by rw[fZ.out,HC.out,HS.out];simp[e1,Uo.out])
    go_wp2
    go_ret
    exact⟨aO HF.out.symm,(HQ.out _ WA.out).2.2⟩
   have Yn:=hide (vB.out w2 (bU.out w2 HB2.out))
   simp only[aA.val]at Yn
   obtain⟨DE,hDE⟩:∃DE,dG ⟨nm,kd,ad,pl,bs,rs,ts⟩=DE:=⟨_,rfl⟩
   simp only[hDE]at HS Yn
   clear hDE
   go_wp2_with fail
   refine Yn.out.mono ?_
   clear Yn vB
   rintro e w3 ⟨rfl,hb⟩
   have HB3:=hide (WA.out.trans (hb.mono WA.out.size))
   clear hb y0 y1 y2 y3 y4 y5 y6 x0 x1
   by_cases hde:DE=0
   ·subst hde
    have HF:=hide (show jI [] (ds.map aA.dev)=jI ((ds.map aA.dev).take (k+1)) ((ds.map aA.dev).drop (k+1))from by rw[HC.out,HS.out];simp[e1,Uo.out])
    clear HS e1 Uo
    go_wp2
    go_roundw
    case rel=>exact⟨k+1,by omega,by go_num,HF,HB3⟩
    case measure=>simp[intOf];omega
   ·have d1:(DE != 0)=true:=by simpa using hde
    have d2:(DE ==0)=false:=by simpa using hde
    have HF:=hide (show E=DE from by rw[fZ.out,HC.out,HS.out];simp[e1,Uo.out,hde])
    clear HS e1 Uo hde
    go_wp2
    go_ret
    exact⟨aO HF.out.symm,(HQ.out _ HB3.out).2.2⟩
  ·have HF:=hide (show E=ji (ds.map aA.dev) [] ls from by
    have:jI [] (ds.map aA.dev)=0:=by rw[HC.out,List.drop_of_length_le (by rw[List.length_map];have:=qg.out;omega)];rfl
    rw[fZ.out,if_pos this])
   have HO:=hide (World.ownsRow_nil wr W0.heap.size 27 2)
   have HBs:=HB
   go_wp2
   clear HC hk hlt x0 x1 HB kD fF
   go_loopw [6,50] (fun v i wr=>∃(k:Nat) (ends:List Pl),k≤ln∧i= .int .i64 k∧Hid (E=ji (ds.map aA.dev) ends (ls.drop k))∧Hid (RowKit.Below W0.heap.size W0 wr)∧Hid (wr.ownsRow W0.heap.size 27 2 v ends.length (ends.flatMap ko))∧Hid (ends.length=2*k)) (fun _ i _=>ln - (intOf i).toNat)
   case atStart=>exact⟨0,[],Nat.zero_le _,rfl,HF,HBs,HO,hide rfl⟩
   case round=>
    clear HF HO HBs
    obtain⟨k,ends,hk,rfl,HC,HB,HO,Uq⟩:=hrel
    generalize u6=v at*
    obtain⟨⟨x0,x1⟩,hna,hbW⟩:=HQ.out wr HB.out
    have kD:=hide hna
    have fF:=hide hbW
    clear hna hbW
    by_cases hlt:k<ln
    ·obtain⟨r,hr⟩:∃r,ls[k]?=some r:=⟨_,List.getElem?_eq_getElem (by have:=nM.out;omega)⟩
     have HBAD:=hide (fun j (hj:j<2) h1 h2=>HC.out.trans (QT (ds:=ds.map aA.dev) (ends:=ends) (j:=j) hr hj h1 h2))
     have Yo:=hide (fun h1=>HC.out.trans (Ns (ds:=ds.map aA.dev) (ends:=ends) hr h1))
     obtain⟨b,o,rfl,_,_⟩:=kD.out.ls.2 (by show 0<ln;omega)
     obtain⟨mH,q0,q1,q2,q3⟩:=Lu kD.out.ls hr
     obtain⟨hka,hkp,hkb,hkq⟩:=kD.out.xR r (List.mem_of_getElem? hr)
     clear hka hkp hkb hkq hr
     obtain⟨A2,c2,rfl,hc2,_,_⟩:=bB.jP jE HO.out rfl
     obtain⟨ra,rp,rb,rq⟩:=r
     go_wp2
     clear q0 q1 q2 q3 x0 x1
     obtain⟨N,hN⟩:∃N,wr.heap.size=N:=⟨_,rfl⟩
     have NP:=hide (fun t1 t2=>show RowKit.Below N wr ((wr.alloc (.cells #[.int .i64 ra,.int .i64 rp,.int .i64 rb,.int .i64 rq] t1)).alloc (.cells #[.int .i64 ra,.int .i64 rp,.int .i64 rb,.int .i64 rq] t2))from by rw[← hN];exact((RowKit.Below.refl _ _).alloc (Nat.le_refl _) _).alloc (by simp) _)
     have HWC:=hide (fun t1 t2 (w':World) (hb:RowKit.Below (N+2) ((wr.alloc (.cells #[.int .i64 ra,.int .i64 rp,.int .i64 rb,.int .i64 rq] t1)).alloc (.cells #[.int .i64 ra,.int .i64 rp,.int .i64 rb,.int .i64 rq] t2)) w')=>show(w'.cell? ⟨N,0,none⟩=some (.int .i64 ra)∧w'.cell? ⟨N,1,none⟩=some (.int .i64 rp)∧w'.cell? ⟨N,2,none⟩=some (.int .i64 rb)∧w'.cell? ⟨N,3,none⟩=some (.int .i64 rq))∧(∀j,j<2→w'.cell? ⟨N+1,j*2,none⟩=some (.int .i64 (yB ⟨ra,rp,rb,rq⟩ j).1)∧w'.cell? ⟨N+1,j*2+1,none⟩=some (.int .i64 (yB ⟨ra,rp,rb,rq⟩ j).2))from by
      have hs1:(wr.alloc (.cells #[.int .i64 ra,.int .i64 rp,.int .i64 rb,.int .i64 rq] t1)).heap.size =N+1:=by rw[← hN];simp
      have c1:∀o v,(#[Value.int .i64 ra,.int .i64 rp,.int .i64 rb,.int .i64 rq]:Array Value)[o]?=some v→w'.cell? ⟨N,o,none⟩=some v:=fun o v hv=>by
       rw[hb.cell (p:=⟨N,o,none⟩) (by show N<_;omega),World.cell?_alloc_lt _ _ _ (by show N<_;omega),← hN,cell_of_row _ _ _ _ _ _ (heap_alloc_new wr _)]
       exact hv
      have c2:∀o v,(#[Value.int .i64 ra,.int .i64 rp,.int .i64 rb,.int .i64 rq]:Array Value)[o]?=some v→w'.cell? ⟨N+1,o,none⟩=some v:=fun o v hv=>uD _ _ _ hs1 hb o v hv
      refine⟨⟨c1 0 _ rfl,c1 1 _ rfl,c1 2 _ rfl,c1 3 _ rfl⟩,fun j hj=>?_⟩
      rcases(by omega:j=0∨j=1)with rfl | rfl
      ·exact⟨c2 0 _ rfl,c2 1 _ rfl⟩
      ·exact⟨c2 2 _ rfl,c2 3 _ rfl⟩)
     have HW1:=NP.out 128 27
     have HW2:=HWC.out 128 27
     have hsA:((wr.alloc (.cells #[.int .i64 ra,.int .i64 rp,.int .i64 rb,.int .i64 rq] 128)).alloc (.cells #[.int .i64 ra,.int .i64 rp,.int .i64 rb,.int .i64 rq] 27)).heap.size =N+2:=by rw[← hN];simp
     clear NP HWC
     generalize World.alloc (World.alloc wr _) _=wA at*
     have HA1:=hide HW1
     have HA2:=hide HW2
     have Ur:=hide hsA
     have Oi:W0.heap.size≤N:=by rw[← hN];exact HB.out.size
     have dY:=hide (HB.out.trans (HW1.mono Oi))
     have HOA:=hide (fun(w':World) (hb:RowKit.Below N wr w')=>own_below HO.out (by rw[hN];exact hb))
     rw[hN]
     clear HW1 HW2 hsA HO HB hN kD fF
     obtain⟨wo,hwo⟩:∃wo:World,wo=wr:=⟨_,rfl⟩
     rw[← hwo]at HA1 HOA
     clear hwo
     have je:=hide (RowKit.Below.refl wA.heap.size wA)
     go_loopw [66] (fun i wj=>∃j:Nat,j≤2∧i= .int .i64 j∧Hid (∀i,i<j→bT (ds.map aA.dev) (yB ⟨ra,rp,rb,rq⟩ i)=true)∧Hid (RowKit.Below wA.heap.size wA wj)) (fun i _=>2 - (intOf i).toNat)
     case atStart=>exact⟨0,Nat.zero_le _,rfl,hide (fun i h=>absurd h (by omega)),je⟩
     case round=>
      clear je
      obtain⟨j,hj,rfl,HP,HJ⟩:=hrel
      have HJ0:=hide (dY.out.trans (HJ.out.mono dY.out.size))
      have hNA:N+2≤wr.heap.size:=by have:=HJ.out.size;have:=Ur.out;omega
      by_cases hj2:j<2
      ·obtain⟨q0,q1⟩:=(HA2.out wr (Ur.out▸HJ.out)).2 j hj2
       have HBJ:=hide (fun h=>HBAD.out j hj2 HP.out h)
       have HPJ:=hide (fun(h:bT (ds.map aA.dev) (yB ⟨ra,rp,rb,rq⟩ j)=true) i (hi:i<j+1)=>show bT (ds.map aA.dev) (yB ⟨ra,rp,rb,rq⟩ i)=true from by
        rcases(by omega:i<j∨i=j)with h1 | rfl
        ·exact HP.out i h1
        ·exact h)
       obtain⟨X,Y,hXY⟩:∃X Y,yB ⟨ra,rp,rb,rq⟩ j=(X,Y):=⟨_,_,rfl⟩
       simp only[hXY]at q0 q1 HBJ HPJ
       clear hXY
       have hMl:W.heap.size<wr.heap.size:=by have:=HJ0.out.size;have:=nJ.out;omega
       obtain⟨⟨x0,x1⟩,hna,hbW⟩:=HQ.out wr HJ0.out
       have kD:=hide hna
       have fF:=hide hbW
       clear hna hbW
       obtain⟨M,hM⟩:∃M,wr.heap.size=M:=⟨_,rfl⟩
       have qx:=hide (fun(w':World) (hb:RowKit.Below (M+1) (wr.alloc (.cells #[.int .i64 X,.int .i64 Y] 27)) w')=>show(w'.cell? ⟨M,0,none⟩=some (.int .i64 X)∧w'.cell? ⟨M,1,none⟩=some (.int .i64 Y))∧RowKit.Below wA.heap.size wA w' from
        ⟨⟨uD wr _ _ hM hb 0 _ rfl,uD wr _ _ hM hb 1 _ rfl⟩,HJ.out.trans ((((RowKit.Below.refl wr.heap.size wr).alloc (Nat.le_refl _) _).trans (hb.mono (by omega))).mono HJ.out.size)⟩)
       cases e1:(decide (0≤X) && decide (X<(dn:Int)))
       ·have HF:=hide (show E=1 from HBJ.out (by simp only[bT,List.length_map,qg.out,e1];rfl))
        go_wp2
        have Iy:=qx.out
        have hsB:(wr.alloc (.cells #[.int .i64 X,.int .i64 Y] 27)).heap.size =M+1:=by simp[hM]
        clear qx q0 q1 x0 x1 hM
        generalize World.alloc wr _=wB at*
        have qx:=hide Iy
        have xQ:=hide hsB
        clear Iy hsB
        refine bS (by kernel_rfl) (by kernel_rfl) ?_
        intro T hT gt hg hgi
        have aU:=hide hg
        have gX:=hide hgi
        clear hg hgi
        have zC:=hide (fun t=>(qx.out _ (xQ.out▸aU.out t)).2)
        have Iz:=hide (fun t=>HQ.out _ (dY.out.trans ((zC.out t).mono dY.out.size)))
        have k0:=fun t=>(qx.out _ (xQ.out▸aU.out t)).1.1
        have k1:=fun t=>(qx.out _ (xQ.out▸aU.out t)).1.2
        have k2:=fun t=>(Iz.out t).1.1
        have kJ:=hide (fun t=>bK X dn (gt t) false e1)
        clear e1
        repeat (go_big_quiet_step ((go_at_call 94;exact jU (kJ.out _))))
        refine wpQuiet_nil ?_
        intro _ hw'
        obtain⟨t,rfl⟩:=hw'
        have BA:=hide (zC.out t)
        generalize gt t=w9 at*
        clear k0 k1 k2 aU gX Iz zC
        go_wp2
        go_ret
        exact⟨aO HF.out.symm,(HQ.out _ (dY.out.trans (BA.out.mono dY.out.size))).2.2⟩
       ·have Ap:=e1
        simp only[Bool.and_eq_true,decide_eq_true_eq]at Ap
        obtain⟨i,rfl⟩:∃i:Nat,X=(i:Int):=⟨X.toNat,by omega⟩
        obtain⟨rd,hrd⟩:∃r,ds[i]?=some r:=⟨_,List.getElem?_eq_getElem (by have:=qg.out;omega)⟩
        have Rn:=hide (show nI (ds.map aA.dev) (i:Int)=rd.kind from by simp[nI,hrd,aA.dev])
        obtain⟨db,od,rfl,_,_⟩:=kD.out.ds.2 (by show 0<dn;omega)
        have HKC:=hide (fun(w':World) (hb:RowKit.Below W0.heap.size W0 w')=>(dF (HQ.out w' hb).2.1.ds hrd).2.2.1)
        have i1:(0:Int)≤(i:Int):=by omega
        have i2:(i:Int)<(dn:Int):=by omega
        have i3:(dn:Int)≤9223372036854775807:=by omega
        have HPB:=hide (show bT (ds.map aA.dev) ((i:Int),Y)=(decide (0≤Y) && decide (Y<dL rd.kind))from by simp only[bT,List.length_map,qg.out,e1,Rn.out];rfl)
        cases e2:(decide (0≤Y) && decide (Y<dL rd.kind))
        ·have HF:=hide (show E=1 from HBJ.out (by rw[HPB.out,e2]))
         go_wp2
         have Iy:=qx.out
         have hsB:(wr.alloc (.cells #[.int .i64 (i:Int),.int .i64 Y] 27)).heap.size =M+1:=by simp[hM]
         clear qx q0 q1 x0 x1 hM
         generalize World.alloc wr _=wB at*
         have qx:=hide Iy
         have xQ:=hide hsB
         clear Iy hsB
         refine bS (by kernel_rfl) (by kernel_rfl) ?_
         intro T hT gt hg hgi
         have aU:=hide hg
         have gX:=hide hgi
         clear hg hgi
         have zC:=hide (fun t=>(qx.out _ (xQ.out▸aU.out t)).2)
         have Iz:=hide (fun t=>HQ.out _ (dY.out.trans ((zC.out t).mono dY.out.size)))
         have k0:=fun t=>(qx.out _ (xQ.out▸aU.out t)).1.1
         have k1:=fun t=>(qx.out _ (xQ.out▸aU.out t)).1.2
         have k2:=fun t=>(Iz.out t).1.1
         have k3:=fun t=>HKC.out (gt t) (dY.out.trans ((zC.out t).mono dY.out.size))
         have kJ:=hide (fun t=>bK i dn (gt t) true e1)
         have Sq:=hide (fun t=>zL rd.kind (gt t))
         have NQ:=hide (fun t=>bK Y (dL rd.kind) (gt t) false e2)
         clear e1 e2 Ap
         generalize dL rd.kind=PF at*
         repeat (go_big_quiet_step (first | (go_at_call_of 94 (Value.int .i64 dn);exact jU (kJ.out _)) | (go_at_call 94;exact jU (NQ.out _)) | (go_at_call 95;exact jU (Sq.out _))))
         refine wpQuiet_nil ?_
         intro _ hw'
         obtain⟨t,rfl⟩:=hw'
         have BA:=hide (zC.out t)
         generalize gt t=w9 at*
         clear k0 k1 k2 aU gX Iz zC
         clear k3
         go_wp2
         go_ret
         exact⟨aO HF.out.symm,(HQ.out _ (dY.out.trans (BA.out.mono dY.out.size))).2.2⟩
        ·have HF:=hide (HPJ.out (by rw[HPB.out,e2]))
         go_wp2
         have Iy:=qx.out
         have hsB:(wr.alloc (.cells #[.int .i64 (i:Int),.int .i64 Y] 27)).heap.size =M+1:=by simp[hM]
         clear qx q0 q1 x0 x1 hM
         generalize World.alloc wr _=wB at*
         have qx:=hide Iy
         have xQ:=hide hsB
         clear Iy hsB
         refine bS (by kernel_rfl) (by kernel_rfl) ?_
         intro T hT gt hg hgi
         have aU:=hide hg
         have gX:=hide hgi
         clear hg hgi
         have zC:=hide (fun t=>(qx.out _ (xQ.out▸aU.out t)).2)
         have Iz:=hide (fun t=>HQ.out _ (dY.out.trans ((zC.out t).mono dY.out.size)))
         have k0:=fun t=>(qx.out _ (xQ.out▸aU.out t)).1.1
         have k1:=fun t=>(qx.out _ (xQ.out▸aU.out t)).1.2
         have k2:=fun t=>(Iz.out t).1.1
         have k3:=fun t=>HKC.out (gt t) (dY.out.trans ((zC.out t).mono dY.out.size))
         have kJ:=hide (fun t=>bK i dn (gt t) true e1)
         have Sq:=hide (fun t=>zL rd.kind (gt t))
         have NQ:=hide (fun t=>bK Y (dL rd.kind) (gt t) true e2)
         clear e1 e2 Ap
         generalize dL rd.kind=PF at*
         repeat (go_big_quiet_step (first | (go_at_call_of 94 (Value.int .i64 dn);exact jU (kJ.out _)) | (go_at_call 94;exact jU (NQ.out _)) | (go_at_call 95;exact jU (Sq.out _))))
         refine wpQuiet_nil ?_
         intro _ hw'
         obtain⟨t,rfl⟩:=hw'
         have BA:=hide (zC.out t)
         generalize gt t=w9 at*
         clear k0 k1 k2 aU gX Iz zC
         clear k3
         go_wp2
         go_roundw
         case rel=>exact⟨j+1,by omega,by go_num,HF,BA⟩
         case measure=>simp[intOf];omega
      ·obtain rfl:j=2:=by omega
       have HG:=hide (Yo.out HP.out)
       obtain⟨y0,y1,y2,y3⟩:=(HA2.out wr (Ur.out▸HJ.out)).1
       have hEL:ends.length≤30:=by have:=Uq.out;omega
       have hNM:N+2≤wr.heap.size:=hNA
       clear HP HBAD Yo hNA
       go_wp2
       obtain⟨M,hM⟩:∃M,wr.heap.size=M:=⟨_,rfl⟩
       have oV:Hid (∀(u v:Pl),Below wr.heap.size wr ((wr.alloc (.cells #[.int .i64 u.1,.int .i64 u.2] 27)).alloc (.cells #[.int .i64 v.1,.int .i64 v.2] 27))∧((wr.alloc (.cells #[.int .i64 u.1,.int .i64 u.2] 27)).alloc (.cells #[.int .i64 v.1,.int .i64 v.2] 27)).heap.size =M+2∧
         jo ((wr.alloc (.cells #[.int .i64 u.1,.int .i64 u.2] 27)).alloc (.cells #[.int .i64 v.1,.int .i64 v.2] 27)) M u.1 u.2∧jo ((wr.alloc (.cells #[.int .i64 u.1,.int .i64 u.2] 27)).alloc (.cells #[.int .i64 v.1,.int .i64 v.2] 27)) (M+1) v.1 v.2):=hide (fun u v=>by
        have hb1:Below wr.heap.size wr (wr.alloc (.cells #[.int .i64 u.1,.int .i64 u.2] 27)):=(Below.refl _ _).alloc (Nat.le_refl _) _
        have hs:(wr.alloc (.cells #[.int .i64 u.1,.int .i64 u.2] 27)).heap.size =M+1:=by rw[← hM];simp
        have b1:=jo.new wr u.1 u.2 27
        have b2:=jo.new (wr.alloc (.cells #[.int .i64 u.1,.int .i64 u.2] 27)) v.1 v.2 27
        rw[hM]at b1
        rw[hs]at b2
        refine⟨hb1.alloc hb1.size _,by simp;omega,b1.below ((Below.refl _ _).alloc (Nat.le_refl _) _) (by omega),b2⟩)
       go_region_held3 (fun w'=>w'.cell? ⟨N,0,none⟩=some (.int .i64 ra)∧w'.cell? ⟨N,1,none⟩=some (.int .i64 rp)∧w'.cell? ⟨N,2,none⟩=some (.int .i64 rb)∧w'.cell? ⟨N,3,none⟩=some (.int .i64 rq)) (go_keep) (fail)
       ·obtain⟨hbz,hsz,b1,b2⟩:=oV.out (ra,rp) (rb,rq)
        have jR:=hide (HJ.out.trans (hbz.mono HJ.out.size))
        have Us:=hide hsz
        generalize World.alloc (World.alloc wr _) _=wz at*
        have iq:=hide (fun(w':World) (hb:RowKit.Below wz.heap.size wz w')=>And.intro (b1.below hb (by have:=Us.out;omega)) (b2.below hb (by have:=Us.out;omega)))
        have oz:=hide (fun(w':World) (hb:RowKit.Below wz.heap.size wz w')=>jR.out.trans (hb.mono jR.out.size))
        have zD:=hide (fun(w':World) (hb:RowKit.Below wz.heap.size wz w')=>HOA.out w' (HA1.out.trans ((jR.out.trans (hb.mono jR.out.size)).mono (by have:=Ur.out;omega))))
        have HD:=hide ((RowKit.Below.refl wz.heap.size wz).drew)
        clear hbz oV b1 b2 y0 y1 y2 y3 hM hsz jR
        obtain⟨⟨u0,u1,_,_⟩,⟨v0,v1,_,_⟩⟩:=iq.out _ HD.out
        cases e1:(ra ==rb)
        ·have kJ:=hide (iM ends A2 ends.length c2 ra rp _ (by omega) (sZ jE (zD.out _ HD.out) rfl))
         go_wp2_with fail
         refine kJ.out.mono ?_
         clear kJ
         rintro e w3 ⟨rfl,hb⟩
         have HB3:=hide (HD.out.trans (hb.mono HD.out.size))
         clear hb u0 u1 v0 v1
         obtain⟨⟨u0,u1,_,_⟩,⟨v0,v1,_,_⟩⟩:=iq.out _ HB3.out
         cases a1:ends.any (fun z=>fE (ra,rp) z)
         case true=>
          have HF:=hide (show E=5 from by rw[HG.out];simp only[iC,av.e1,av.e2,a1,Bool.true_or,Bool.or_true,if_true])
          clear a1
          go_wp2
          go_ret
          exact⟨aO HF.out.symm,(HQ.out _ (dY.out.trans ((oz.out _ HB3.out).mono dY.out.size))).2.2⟩
         have Eb:=hide a1
         clear a1
         have kJ:=hide (iM ends A2 ends.length c2 rb rq w3 (by omega) (sZ jE (zD.out _ HB3.out) rfl))
         go_wp2_with fail
         refine kJ.out.mono ?_
         clear kJ
         rintro e w4 ⟨rfl,hb⟩
         have bJ:=hide (HB3.out.trans (hb.mono HB3.out.size))
         clear hb u0 u1 v0 v1
         obtain⟨⟨u0,u1,_,_⟩,⟨v0,v1,_,_⟩⟩:=iq.out _ bJ.out
         cases a2:ends.any (fun z=>fE (rb,rq) z)
         case true=>
          have HF:=hide (show E=5 from by rw[HG.out];simp only[iC,av.e1,av.e2,a2,Bool.true_or,Bool.or_true,if_true])
          clear a2
          go_wp2
          go_ret
          exact⟨aO HF.out.symm,(HQ.out _ (dY.out.trans ((oz.out _ bJ.out).mono dY.out.size))).2.2⟩
         have HF:=hide (show E=ji (ds.map aA.dev) (ends++[(ra,rp),(rb,rq)]) (ls.drop (k+1))from by
          rw[HG.out]
          have h1:=Eb.out
          simp only[iC,fE,av.e1,av.e2,h1,a2,e1,Bool.false_and,Bool.and_false,Bool.or_false,Bool.false_eq_true,if_false]at h1 a2 ⊢
          try simp only[h1,a2,Bool.false_or,Bool.false_eq_true,if_false])
         clear a2 HG
         have pR:=hide (show RowKit.Below wz.heap.size wz (w4.alloc (.cells #[.int .i64 ra,.int .i64 rp,.int .i64 rb,.int .i64 rq] 27))from bJ.out.alloc bJ.out.size _)
         have wO:=hide (show Reads (w4.alloc (.cells #[.int .i64 ra,.int .i64 rp,.int .i64 rb,.int .i64 rq] 27)) (w4.heap.size+1) 2 (some ⟨w4.heap.size,0,none⟩) 2 [.int .i64 ra,.int .i64 rp,.int .i64 rb,.int .i64 rq]from
          ⟨rfl,fun _=>⟨_,rfl,Nat.lt_succ_self _,fun j u hu=>by
           rw[addr_add,Nat.zero_add,cell_of_row _ _ _ _ _ _ (heap_alloc_new w4 _)]
           simpa using hu⟩⟩)
         have HOL:=hide (zD.out _ pR.out)
         have WC:W0.heap.size≤w4.heap.size:=by have h1:=(oz.out _ bJ.out).size;have:=dY.out.size;omega
         go_wp2_with (at_builtin;refine bM _ rfl (.tmp 115) (.tmp 118) 173 rfl W0.heap.size 27 i0 _ 2 16 Tryz.underlying173 hi0 hz0 hz1 hz2 rfl (by omega) (.slice A2 ends.length c2) ends.length (ends.flatMap ko) rfl HOL.out (w4.heap.size+1) (some ⟨w4.heap.size,0,none⟩) 2 2 [.int .i64 ra,.int .i64 rp,.int .i64 rb,.int .i64 rq] rfl wO.out (by intro u hu;simp at hu;rcases hu with rfl | rfl | rfl | rfl<;>rfl) (by simp only[maxLen];omega) (by omega) (by simp;omega) ?_;intro v5 w5 hown5 hg5 mO;have Mh:=hide (Al (dY.out.trans ((oz.out _ pR.out).mono dY.out.size)) (Nat.le_refl _) hg5 (fun q hq=>(HOL.out.lt q hq).1));have vP:=hide hown5;clear hown5 hg5 mO)
         go_roundw
         case rel=>exact⟨k+1,ends++[(ra,rp),(rb,rq)],by omega,by go_num,HF,Mh,hide (by simpa[ko]using vP.out),hide (by have:=Uq.out;simp;omega)⟩
         case measure=>simp[intOf];omega
        cases e2:(rp ==rq)
        ·have kJ:=hide (iM ends A2 ends.length c2 ra rp _ (by omega) (sZ jE (zD.out _ HD.out) rfl))
         go_wp2_with fail
         refine kJ.out.mono ?_
         clear kJ
         rintro e w3 ⟨rfl,hb⟩
         have HB3:=hide (HD.out.trans (hb.mono HD.out.size))
         clear hb u0 u1 v0 v1
         obtain⟨⟨u0,u1,_,_⟩,⟨v0,v1,_,_⟩⟩:=iq.out _ HB3.out
         cases a1:ends.any (fun z=>fE (ra,rp) z)
         case true=>
          have HF:=hide (show E=5 from by rw[HG.out];simp only[iC,av.e1,av.e2,a1,Bool.true_or,Bool.or_true,if_true])
          clear a1
          go_wp2
          go_ret
          exact⟨aO HF.out.symm,(HQ.out _ (dY.out.trans ((oz.out _ HB3.out).mono dY.out.size))).2.2⟩
         have Eb:=hide a1
         clear a1
         have kJ:=hide (iM ends A2 ends.length c2 rb rq w3 (by omega) (sZ jE (zD.out _ HB3.out) rfl))
         go_wp2_with fail
         refine kJ.out.mono ?_
         clear kJ
         rintro e w4 ⟨rfl,hb⟩
         have bJ:=hide (HB3.out.trans (hb.mono HB3.out.size))
         clear hb u0 u1 v0 v1
         obtain⟨⟨u0,u1,_,_⟩,⟨v0,v1,_,_⟩⟩:=iq.out _ bJ.out
         cases a2:ends.any (fun z=>fE (rb,rq) z)
         case true=>
          have HF:=hide (show E=5 from by rw[HG.out];simp only[iC,av.e1,av.e2,a2,Bool.true_or,Bool.or_true,if_true])
          clear a2
          go_wp2
          go_ret
          exact⟨aO HF.out.symm,(HQ.out _ (dY.out.trans ((oz.out _ bJ.out).mono dY.out.size))).2.2⟩
         have HF:=hide (show E=ji (ds.map aA.dev) (ends++[(ra,rp),(rb,rq)]) (ls.drop (k+1))from by
          rw[HG.out]
          have h1:=Eb.out
          simp only[iC,fE,av.e1,av.e2,h1,a2,e1,e2,Bool.false_and,Bool.and_false,Bool.or_false,Bool.false_eq_true,if_false]at h1 a2 ⊢
          try simp only[h1,a2,Bool.false_or,Bool.false_eq_true,if_false])
         clear a2 HG
         have pR:=hide (show RowKit.Below wz.heap.size wz (w4.alloc (.cells #[.int .i64 ra,.int .i64 rp,.int .i64 rb,.int .i64 rq] 27))from bJ.out.alloc bJ.out.size _)
         have wO:=hide (show Reads (w4.alloc (.cells #[.int .i64 ra,.int .i64 rp,.int .i64 rb,.int .i64 rq] 27)) (w4.heap.size+1) 2 (some ⟨w4.heap.size,0,none⟩) 2 [.int .i64 ra,.int .i64 rp,.int .i64 rb,.int .i64 rq]from
          ⟨rfl,fun _=>⟨_,rfl,Nat.lt_succ_self _,fun j u hu=>by
           rw[addr_add,Nat.zero_add,cell_of_row _ _ _ _ _ _ (heap_alloc_new w4 _)]
           simpa using hu⟩⟩)
         have HOL:=hide (zD.out _ pR.out)
         have WC:W0.heap.size≤w4.heap.size:=by have h1:=(oz.out _ bJ.out).size;have:=dY.out.size;omega
         go_wp2_with (at_builtin;refine bM _ rfl (.tmp 115) (.tmp 118) 173 rfl W0.heap.size 27 i0 _ 2 16 Tryz.underlying173 hi0 hz0 hz1 hz2 rfl (by omega) (.slice A2 ends.length c2) ends.length (ends.flatMap ko) rfl HOL.out (w4.heap.size+1) (some ⟨w4.heap.size,0,none⟩) 2 2 [.int .i64 ra,.int .i64 rp,.int .i64 rb,.int .i64 rq] rfl wO.out (by intro u hu;simp at hu;rcases hu with rfl | rfl | rfl | rfl<;>rfl) (by simp only[maxLen];omega) (by omega) (by simp;omega) ?_;intro v5 w5 hown5 hg5 mO;have Mh:=hide (Al (dY.out.trans ((oz.out _ pR.out).mono dY.out.size)) (Nat.le_refl _) hg5 (fun q hq=>(HOL.out.lt q hq).1));have vP:=hide hown5;clear hown5 hg5 mO)
         go_roundw
         case rel=>exact⟨k+1,ends++[(ra,rp),(rb,rq)],by omega,by go_num,HF,Mh,hide (by simpa[ko]using vP.out),hide (by have:=Uq.out;simp;omega)⟩
         case measure=>simp[intOf];omega
        have HF:=hide (show E=5 from by rw[HG.out];simp[iC,fE,av.e1,av.e2,e1,e2])
        go_wp2
        go_ret
        exact⟨aO HF.out.symm,(HQ.out _ (dY.out.trans ((oz.out _ HD.out).mono dY.out.size))).2.2⟩
       ·obtain⟨hbz,hsz,b1,b2⟩:=oV.out (rb,rq) (ra,rp)
        have jR:=hide (HJ.out.trans (hbz.mono HJ.out.size))
        have Us:=hide hsz
        generalize World.alloc (World.alloc wr _) _=wz at*
        have iq:=hide (fun(w':World) (hb:RowKit.Below wz.heap.size wz w')=>And.intro (b1.below hb (by have:=Us.out;omega)) (b2.below hb (by have:=Us.out;omega)))
        have oz:=hide (fun(w':World) (hb:RowKit.Below wz.heap.size wz w')=>jR.out.trans (hb.mono jR.out.size))
        have zD:=hide (fun(w':World) (hb:RowKit.Below wz.heap.size wz w')=>HOA.out w' (HA1.out.trans ((jR.out.trans (hb.mono jR.out.size)).mono (by have:=Ur.out;omega))))
        have HD:=hide ((RowKit.Below.refl wz.heap.size wz).drew)
        clear hbz oV b1 b2 y0 y1 y2 y3 hM hsz jR
        obtain⟨⟨u0,u1,_,_⟩,⟨v0,v1,_,_⟩⟩:=iq.out _ HD.out
        cases e1:(ra ==rb)
        ·have kJ:=hide (iM ends A2 ends.length c2 ra rp _ (by omega) (sZ jE (zD.out _ HD.out) rfl))
         go_wp2_with fail
         refine kJ.out.mono ?_
         clear kJ
         rintro e w3 ⟨rfl,hb⟩
         have HB3:=hide (HD.out.trans (hb.mono HD.out.size))
         clear hb u0 u1 v0 v1
         obtain⟨⟨u0,u1,_,_⟩,⟨v0,v1,_,_⟩⟩:=iq.out _ HB3.out
         cases a1:ends.any (fun z=>fE (ra,rp) z)
         case true=>
          have HF:=hide (show E=5 from by rw[HG.out];simp only[iC,av.e1,av.e2,a1,Bool.true_or,Bool.or_true,if_true])
          clear a1
          go_wp2
          go_ret
          exact⟨aO HF.out.symm,(HQ.out _ (dY.out.trans ((oz.out _ HB3.out).mono dY.out.size))).2.2⟩
         have Eb:=hide a1
         clear a1
         have kJ:=hide (iM ends A2 ends.length c2 rb rq w3 (by omega) (sZ jE (zD.out _ HB3.out) rfl))
         go_wp2_with fail
         refine kJ.out.mono ?_
         clear kJ
         rintro e w4 ⟨rfl,hb⟩
         have bJ:=hide (HB3.out.trans (hb.mono HB3.out.size))
         clear hb u0 u1 v0 v1
         obtain⟨⟨u0,u1,_,_⟩,⟨v0,v1,_,_⟩⟩:=iq.out _ bJ.out
         cases a2:ends.any (fun z=>fE (rb,rq) z)
         case true=>
          have HF:=hide (show E=5 from by rw[HG.out];simp only[iC,av.e1,av.e2,a2,Bool.true_or,Bool.or_true,if_true])
          clear a2
          go_wp2
          go_ret
          exact⟨aO HF.out.symm,(HQ.out _ (dY.out.trans ((oz.out _ bJ.out).mono dY.out.size))).2.2⟩
         have HF:=hide (show E=ji (ds.map aA.dev) (ends++[(ra,rp),(rb,rq)]) (ls.drop (k+1))from by
          rw[HG.out]
          have h1:=Eb.out
          simp only[iC,fE,av.e1,av.e2,h1,a2,e1,Bool.false_and,Bool.and_false,Bool.or_false,Bool.false_eq_true,if_false]at h1 a2 ⊢
          try simp only[h1,a2,Bool.false_or,Bool.false_eq_true,if_false])
         clear a2 HG
         have pR:=hide (show RowKit.Below wz.heap.size wz (w4.alloc (.cells #[.int .i64 ra,.int .i64 rp,.int .i64 rb,.int .i64 rq] 27))from bJ.out.alloc bJ.out.size _)
         have wO:=hide (show Reads (w4.alloc (.cells #[.int .i64 ra,.int .i64 rp,.int .i64 rb,.int .i64 rq] 27)) (w4.heap.size+1) 2 (some ⟨w4.heap.size,0,none⟩) 2 [.int .i64 ra,.int .i64 rp,.int .i64 rb,.int .i64 rq]from
          ⟨rfl,fun _=>⟨_,rfl,Nat.lt_succ_self _,fun j u hu=>by
           rw[addr_add,Nat.zero_add,cell_of_row _ _ _ _ _ _ (heap_alloc_new w4 _)]
           simpa using hu⟩⟩)
         have HOL:=hide (zD.out _ pR.out)
         have WC:W0.heap.size≤w4.heap.size:=by have h1:=(oz.out _ bJ.out).size;have:=dY.out.size;omega
         go_wp2_with (at_builtin;refine bM _ rfl (.tmp 115) (.tmp 118) 173 rfl W0.heap.size 27 i0 _ 2 16 Tryz.underlying173 hi0 hz0 hz1 hz2 rfl (by omega) (.slice A2 ends.length c2) ends.length (ends.flatMap ko) rfl HOL.out (w4.heap.size+1) (some ⟨w4.heap.size,0,none⟩) 2 2 [.int .i64 ra,.int .i64 rp,.int .i64 rb,.int .i64 rq] rfl wO.out (by intro u hu;simp at hu;rcases hu with rfl | rfl | rfl | rfl<;>rfl) (by simp only[maxLen];omega) (by omega) (by simp;omega) ?_;intro v5 w5 hown5 hg5 mO;have Mh:=hide (Al (dY.out.trans ((oz.out _ pR.out).mono dY.out.size)) (Nat.le_refl _) hg5 (fun q hq=>(HOL.out.lt q hq).1));have vP:=hide hown5;clear hown5 hg5 mO)
         go_roundw
         case rel=>exact⟨k+1,ends++[(ra,rp),(rb,rq)],by omega,by go_num,HF,Mh,hide (by simpa[ko]using vP.out),hide (by have:=Uq.out;simp;omega)⟩
         case measure=>simp[intOf];omega
        cases e2:(rp ==rq)
        ·have kJ:=hide (iM ends A2 ends.length c2 ra rp _ (by omega) (sZ jE (zD.out _ HD.out) rfl))
         go_wp2_with fail
         refine kJ.out.mono ?_
         clear kJ
         rintro e w3 ⟨rfl,hb⟩
         have HB3:=hide (HD.out.trans (hb.mono HD.out.size))
         clear hb u0 u1 v0 v1
         obtain⟨⟨u0,u1,_,_⟩,⟨v0,v1,_,_⟩⟩:=iq.out _ HB3.out
         cases a1:ends.any (fun z=>fE (ra,rp) z)
         case true=>
          have HF:=hide (show E=5 from by rw[HG.out];simp only[iC,av.e1,av.e2,a1,Bool.true_or,Bool.or_true,if_true])
          clear a1
          go_wp2
          go_ret
          exact⟨aO HF.out.symm,(HQ.out _ (dY.out.trans ((oz.out _ HB3.out).mono dY.out.size))).2.2⟩
         have Eb:=hide a1
         clear a1
         have kJ:=hide (iM ends A2 ends.length c2 rb rq w3 (by omega) (sZ jE (zD.out _ HB3.out) rfl))
         go_wp2_with fail
         refine kJ.out.mono ?_
         clear kJ
         rintro e w4 ⟨rfl,hb⟩
         have bJ:=hide (HB3.out.trans (hb.mono HB3.out.size))
         clear hb u0 u1 v0 v1
         obtain⟨⟨u0,u1,_,_⟩,⟨v0,v1,_,_⟩⟩:=iq.out _ bJ.out
         cases a2:ends.any (fun z=>fE (rb,rq) z)
         case true=>
          have HF:=hide (show E=5 from by rw[HG.out];simp only[iC,av.e1,av.e2,a2,Bool.true_or,Bool.or_true,if_true])
          clear a2
          go_wp2
          go_ret
          exact⟨aO HF.out.symm,(HQ.out _ (dY.out.trans ((oz.out _ bJ.out).mono dY.out.size))).2.2⟩
         have HF:=hide (show E=ji (ds.map aA.dev) (ends++[(ra,rp),(rb,rq)]) (ls.drop (k+1))from by
          rw[HG.out]
          have h1:=Eb.out
          simp only[iC,fE,av.e1,av.e2,h1,a2,e1,e2,Bool.false_and,Bool.and_false,Bool.or_false,Bool.false_eq_true,if_false]at h1 a2 ⊢
          try simp only[h1,a2,Bool.false_or,Bool.false_eq_true,if_false])
         clear a2 HG
         have pR:=hide (show RowKit.Below wz.heap.size wz (w4.alloc (.cells #[.int .i64 ra,.int .i64 rp,.int .i64 rb,.int .i64 rq] 27))from bJ.out.alloc bJ.out.size _)
         have wO:=hide (show Reads (w4.alloc (.cells #[.int .i64 ra,.int .i64 rp,.int .i64 rb,.int .i64 rq] 27)) (w4.heap.size+1) 2 (some ⟨w4.heap.size,0,none⟩) 2 [.int .i64 ra,.int .i64 rp,.int .i64 rb,.int .i64 rq]from
          ⟨rfl,fun _=>⟨_,rfl,Nat.lt_succ_self _,fun j u hu=>by
           rw[addr_add,Nat.zero_add,cell_of_row _ _ _ _ _ _ (heap_alloc_new w4 _)]
           simpa using hu⟩⟩)
         have HOL:=hide (zD.out _ pR.out)
         have WC:W0.heap.size≤w4.heap.size:=by have h1:=(oz.out _ bJ.out).size;have:=dY.out.size;omega
         go_wp2_with (at_builtin;refine bM _ rfl (.tmp 115) (.tmp 118) 173 rfl W0.heap.size 27 i0 _ 2 16 Tryz.underlying173 hi0 hz0 hz1 hz2 rfl (by omega) (.slice A2 ends.length c2) ends.length (ends.flatMap ko) rfl HOL.out (w4.heap.size+1) (some ⟨w4.heap.size,0,none⟩) 2 2 [.int .i64 ra,.int .i64 rp,.int .i64 rb,.int .i64 rq] rfl wO.out (by intro u hu;simp at hu;rcases hu with rfl | rfl | rfl | rfl<;>rfl) (by simp only[maxLen];omega) (by omega) (by simp;omega) ?_;intro v5 w5 hown5 hg5 mO;have Mh:=hide (Al (dY.out.trans ((oz.out _ pR.out).mono dY.out.size)) (Nat.le_refl _) hg5 (fun q hq=>(HOL.out.lt q hq).1));have vP:=hide hown5;clear hown5 hg5 mO)
         go_roundw
         case rel=>exact⟨k+1,ends++[(ra,rp),(rb,rq)],by omega,by go_num,HF,Mh,hide (by simpa[ko]using vP.out),hide (by have:=Uq.out;simp;omega)⟩
         case measure=>simp[intOf];omega
        have HF:=hide (show E=5 from by rw[HG.out];simp[iC,fE,av.e1,av.e2,e1,e2])
        go_wp2
        go_ret
        exact⟨aO HF.out.symm,(HQ.out _ (dY.out.trans ((oz.out _ HD.out).mono dY.out.size))).2.2⟩
    ·have HF:=hide (show E=0 from by rw[HC.out,List.drop_of_length_le (by have:=nM.out;omega)];rfl)
     go_wp2
     go_ret
     exact⟨aO HF.out.symm,fF.out⟩
end Go.Proofs.YtlhmdcgckocidaaGreat
