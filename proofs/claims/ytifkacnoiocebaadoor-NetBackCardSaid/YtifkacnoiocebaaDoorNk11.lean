/- A part of the proof: NetCheck. -/
import Derived.Test.YtifkacnoiocebaaDoorNk4
set_option linter.unusedVariables false
set_option linter.unusedSimpArgs false
set_option maxRecDepth 100000
set_option maxHeartbeats 16000000
namespace Go.Proofs.YtifkacnoiocebaaDoor
open Go.RowKit
theorem nu (w:World) (cs:Array Value) (t:TypeId) {w':World} {N:Nat} (hN:w.heap.size=N) (hb:Below (N+1) (w.alloc (.cells cs t)) w') (o:Nat) (v:Value) (hv:cs[o]?=some v):w'.cell? ⟨N,o,none⟩=some v:=by
 subst hN
 have h:=(hb.block w.heap.size (Nat.lt_succ_self _)).trans (heap_alloc_new w _)
 rw[cell_of_row _ _ _ _ _ _ h]
 exact hv
theorem iy {α:Type} {cells:α→List Value} {s n base e c:Nat} {w:World} {A:Option Addr} {l:List α} (hs:∀r,(cells r).length =s) (h:w.ownsRow base e s (.slice A n c) n (l.flatMap cells)) (hl:l.length=n):bN cells s w w.heap.size A n l:=by
 obtain⟨A',c',e',_,h',_⟩:=bN.jZ hs h hl
 cases e'
 exact h'
theorem Tryd.infoPlace:(Tryd.prog.info? 85).map (fun i=>(i.zero,i.size,i.bytes))=some (some (.agg #[.int .i64 0,.int .i64 0]),2,16):=by kernel_rfl
theorem pV (n:bK) (W:World) (hn:fO W W.heap.size n):
  Calls Tryd.prog 12 #[n.val] W fun e W'=>e= .returned (.int .i64 (fE n.bI n.ls))∧RowKit.Below W.heap.size W W':=by
 obtain⟨i0,hi0,hz0,hz1,hz2⟩:=info_parts Tryd.infoPlace
 obtain⟨dA,dn,dc,ds,lA,ln,lc,ls⟩:=n
 obtain⟨W0,hW0⟩:∃W0,W0=W.alloc (.cells #[.slice dA dn dc,.slice lA ln lc] 25):=⟨_,rfl⟩
 have HB0:=hide (show RowKit.Below W.heap.size W W0 from by rw[hW0];exact(RowKit.Below.refl _ _).alloc (Nat.le_refl _) _)
 have l8:=hide (show W0.heap.size=W.heap.size+1 from by rw[hW0];simp)
 have HQ:=hide (fun(w':World) (hb:RowKit.Below W0.heap.size W0 w')=>show(w'.cell? ⟨W.heap.size,0,none⟩=some (.slice dA dn dc)∧w'.cell? ⟨W.heap.size,1,none⟩=some (.slice lA ln lc))∧fO w' w'.heap.size ⟨dA,dn,dc,ds,lA,ln,lc,ls⟩∧RowKit.Below W.heap.size W w' from by
  have h1:=HB0.out.trans (hb.mono (by rw[l8.out];omega))
  rw[l8.out,hW0]at hb
  exact⟨⟨nu W _ _ rfl hb 0 _ rfl,nu W _ _ rfl hb 1 _ rfl⟩,hn.below h1 h1.size,h1⟩)
 have jk:=hide (show ds.length=dn from hn.qA)
 have Eo:=hide (show ls.length=ln from hn.llen)
 have hdc:dn≤dc:=hn.cd.1
 have hlc:ln≤lc:=hn.cl.1
 have HM:=hide (And.intro hn.cd.2 hn.cl.2)
 clear hn
 have HN:=hide (show fE (bK.bI ⟨dA,dn,dc,ds,lA,ln,lc,ls⟩) ls=if 10<dn∨15<ln then 2 else if fD [] (ds.map ah.dev)=0 then gu (ds.map ah.dev) [] ls else fD [] (ds.map ah.dev)from by
  unfold fE bK.bI;rw[List.length_map,jk.out,Eo.out])
 simp only[bK.val]at*
 generalize fE _ _=E at*
 obtain⟨x0,x1⟩:=(HQ.out W0 (RowKit.Below.refl _ _)).1
 have HR:=hide (RowKit.Below.refl W0.heap.size W0)
 by_cases h10:10<dn
 ·have HF:=hide (show E=2 from by rw[HN.out,if_pos (.inl h10)])
  clear HN x0 x1
  subst hW0
  go_enter Tryd.func12,Tryd.ntmps12
  go_wp2
  go_ret
  exact⟨aB HF.out.symm,(HQ.out _ HR.out).2.2⟩
 by_cases qB:15<ln
 ·have HF:=hide (show E=2 from by rw[HN.out,if_pos (.inr qB)])
  clear HN x0 x1
  subst hW0
  go_enter Tryd.func12,Tryd.ntmps12
  go_wp2
  go_ret
  exact⟨aB HF.out.symm,(HQ.out _ HR.out).2.2⟩
 have zm:=hide (show E=if fD [] (ds.map ah.dev)=0 then gu (ds.map ah.dev) [] ls else fD [] (ds.map ah.dev)from by rw[HN.out,if_neg (by omega)])
 clear HN x0 x1
 go_enter Tryd.func12,Tryd.ntmps12
 go_wp2
 rw[← hW0]
 clear hW0
 go_loopw [26] (fun i wr=>∃k:Nat,k≤dn∧i= .int .i64 k∧Hid (fD [] (ds.map ah.dev)=fD ((ds.map ah.dev).take k) ((ds.map ah.dev).drop k))∧Hid (RowKit.Below W0.heap.size W0 wr)) (fun i _=>dn - (intOf i).toNat)
 case atStart=>exact⟨0,Nat.zero_le _,rfl,hide rfl,hide (RowKit.Below.refl _ _)⟩
 case round=>
  obtain⟨k,hk,rfl,HC,HB⟩:=hrel
  obtain⟨⟨x0,x1⟩,hna,hbW⟩:=HQ.out wr HB.out
  have iN:=hide hna
  have aA:=hide hbW
  clear hna hbW
  by_cases hlt:k<dn
  ·obtain⟨r,hr⟩:∃r,ds[k]?=some r:=⟨_,List.getElem?_eq_getElem (by have:=jk.out;omega)⟩
   have HS:=hide (zO (l:=ds.map ah.dev) (k:=k) (d:=r.dev) (by rw[List.getElem?_map,hr];rfl))
   obtain⟨b,o,rfl,_,_⟩:=iN.out.ds.2 (by show 0<dn;omega)
   obtain⟨rM,q0,q1,q2,q3,q4,q5,q6⟩:=oM iN.out.ds hr
   have Ck:=iN.out.uW r (List.mem_of_getElem? hr)
   have HDK:=hide Ck
   have hnm:=Ck.nm
   obtain⟨nm,kd,ad,pl,bA,bn,bc,bs,rA,rn,rc,rs,tA,tn,tc,ts⟩:=r
   have hN:∃N,wr.heap.size=N:=⟨_,rfl⟩
   obtain⟨N,hN⟩:=hN
   obtain⟨w1,hw1⟩:∃w1,w1=wr.alloc (.cells #[.string nm,.int .i64 kd,.int .i64 ad,.int .u8 pl,.slice bA bn bc,.slice rA rn rc,.slice tA tn tc] 37):=⟨_,rfl⟩
   have HB1:=hide (show RowKit.Below W0.heap.size W0 w1 from by rw[hw1];exact HB.out.alloc HB.out.size _)
   have fF:=hide (fun(w':World) (hb:RowKit.Below w1.heap.size w1 w')=>show kE w' N ⟨nm,kd,ad,pl,bA,bn,bc,bs,rA,rn,rc,rs,tA,tn,tc,ts⟩∧(w'.cell? ⟨W.heap.size,0,none⟩=some (.slice (some ⟨b,o,none⟩) dn dc)∧w'.cell? ⟨W.heap.size,1,none⟩=some (.slice lA ln lc))∧RowKit.Below W0.heap.size W0 w'∧N<w'.heap.size from by
    have hs:w1.heap.size=N+1:=by rw[hw1,← hN];simp
    have h1:=HB1.out.trans (hb.mono HB1.out.size)
    have h2:=hb.size
    refine⟨kE.below (w:=w1) (by rw[hw1,← hN];exact kE.new wr ⟨nm,kd,ad,pl,bA,bn,bc,bs,rA,rn,rc,rs,tA,tn,tc,ts⟩ _) hb (by omega),(HQ.out w' h1).1,h1,by omega⟩)
   have Ep:=hide (yE ⟨nm,kd,ad,pl,bA,bn,bc,bs,rA,rn,rc,rs,tA,tn,tc,ts⟩)
   have Hy:=hide (fun(w':World) (hb:RowKit.Below w1.heap.size w1 w')=>show jE w' w'.heap.size ⟨nm,kd,ad,pl,bA,bn,bc,bs,rA,rn,rc,rs,tA,tn,tc,ts⟩from by
    have h1:=(fF.out w' hb).2.2.1
    exact(HQ.out w' h1).2.1.uW _ (List.mem_of_getElem? hr))
   clear hr Ck
   simp only[ah.dev]at HS Ep
   have HW1:=hide hw1
   clear hw1
   go_wp2_with fail
   refine(jT nm _ hnm).mono ?_
   rintro e w' ⟨rfl,rfl⟩
   rw[← HW1.out]
   clear q0 q1 q2 q3 q4 q5 q6 x0 x1
   obtain⟨⟨y0,y1,y2,y3,y4,y5,y6⟩,⟨x0,x1⟩,_,hNs⟩:=fF.out w1 (RowKit.Below.refl _ _)
   cases e1:bT nm
   ·have HF:=hide (show E=3 from by rw[zm.out,HC.out,HS.out];simp[e1])
    go_wp2
    go_ret
    exact⟨aB HF.out.symm,(HQ.out _ HB1.out).2.2⟩
   have FC:=hide (qm (ds.take k) (some ⟨b,o,none⟩) k dc 35 #[.pointer (some ⟨N,0,none⟩)] (fun x=>eG x.name nm) w1 (by omega) ((HQ.out _ HB1.out).2.1.ds.take (by show k≤dn;omega)) (fun args w=>by go_simp) (hide (fun r w' hr hw'=>by
    obtain⟨⟨z0,_⟩,_,_,FD⟩:=fF.out w' hw'
    exact uE r nm N w' FD z0)))
   have AZ:=hide (show((ds.map ah.dev).take k).any (fun x=>eG x.name nm)=(ds.take k).any (fun x=>eG x.name nm)from by rw[← List.map_take,List.any_map];rfl)
   have g1:(k:Int)≤(dc:Int):=by omega
   have g2:dc≤9223372036854775807:=by have:=HM.out.1;unfold maxLen at this;exact this
   go_wp2_with fail
   refine FC.out.mono ?_
   clear FC
   rintro e w2 ⟨rfl,hb⟩
   have HB2:=hide hb
   clear hb y0 y1 y2 y3 y4 y5 y6 x0 x1
   obtain⟨⟨y0,y1,y2,y3,y4,y5,y6⟩,⟨x0,x1⟩,hb2,_⟩:=fF.out w2 HB2.out
   have Cm:=hide hb2
   clear hb2
   generalize hany:(ds.take k).any (fun x=>eG x.name nm)=ANY at*
   clear hany
   cases ANY
   case true=>
    have HF:=hide (show E=5 from by rw[zm.out,HC.out,HS.out];simp[e1,AZ.out])
    go_wp2
    go_ret
    exact⟨aB HF.out.symm,(HQ.out _ Cm.out).2.2⟩
   have Dh:=hide (Ep.out w2 (Hy.out w2 HB2.out))
   simp only[ah.val]at Dh
   obtain⟨DE,FE⟩:∃DE,bL ⟨nm,kd,ad,pl,bs,rs,ts⟩=DE:=⟨_,rfl⟩
   simp only[FE]at HS Dh
   clear FE
   go_wp2_with fail
   refine Dh.out.mono ?_
   clear Dh Ep
   rintro e w3 ⟨rfl,hb⟩
   have HB3:=hide (Cm.out.trans (hb.mono Cm.out.size))
   clear hb y0 y1 y2 y3 y4 y5 y6 x0 x1
   by_cases hde:DE=0
   ·subst hde
    have HF:=hide (show fD [] (ds.map ah.dev)=fD ((ds.map ah.dev).take (k+1)) ((ds.map ah.dev).drop (k+1))from by rw[HC.out,HS.out];simp[e1,AZ.out])
    clear HS e1 AZ
    go_wp2
    go_roundw
    case rel=>exact⟨k+1,by omega,by go_num,HF,HB3⟩
    case measure=>simp[intOf];omega
   ·have d1:(DE != 0)=true:=by simpa using hde
    have d2:(DE ==0)=false:=by simpa using hde
    have HF:=hide (show E=DE from by rw[zm.out,HC.out,HS.out];simp[e1,AZ.out,hde])
    clear HS e1 AZ hde
    go_wp2
    go_ret
    exact⟨aB HF.out.symm,(HQ.out _ HB3.out).2.2⟩
  ·have HF:=hide (show E=gu (ds.map ah.dev) [] ls from by
    have:fD [] (ds.map ah.dev)=0:=by rw[HC.out,List.drop_of_length_le (by rw[List.length_map];have:=jk.out;omega)];rfl
    rw[zm.out,if_pos this])
   have HO:=hide (World.ownsRow_nil wr W0.heap.size 85 2)
   have FH:=HB
   go_wp2
   clear HC hk hlt x0 x1 HB iN aA
   go_loopw [6,50] (fun v i wr=>∃(k:Nat) (ends:List Pl),k≤ln∧i= .int .i64 k∧Hid (E=gu (ds.map ah.dev) ends (ls.drop k))∧Hid (RowKit.Below W0.heap.size W0 wr)∧Hid (wr.ownsRow W0.heap.size 85 2 v ends.length (ends.flatMap gL))∧Hid (ends.length=2*k)) (fun _ i _=>ln - (intOf i).toNat)
   case atStart=>exact⟨0,[],Nat.zero_le _,rfl,HF,FH,HO,hide rfl⟩
   case round=>
    clear HF HO FH
    obtain⟨k,ends,hk,rfl,HC,HB,HO,A8⟩:=hrel
    generalize u6=v at*
    obtain⟨⟨x0,x1⟩,hna,hbW⟩:=HQ.out wr HB.out
    have iN:=hide hna
    have aA:=hide hbW
    clear hna hbW
    by_cases hlt:k<ln
    ·obtain⟨r,hr⟩:∃r,ls[k]?=some r:=⟨_,List.getElem?_eq_getElem (by have:=Eo.out;omega)⟩
     have HBAD:=hide (fun j (hj:j<2) h1 h2=>HC.out.trans (zP (ds:=ds.map ah.dev) (ends:=ends) (j:=j) hr hj h1 h2))
     have Di:=hide (fun h1=>HC.out.trans (yF (ds:=ds.map ah.dev) (ends:=ends) hr h1))
     obtain⟨b,o,rfl,_,_⟩:=iN.out.ls.2 (by show 0<ln;omega)
     obtain⟨rM,q0,q1,q2,q3⟩:=Cn iN.out.ls hr
     obtain⟨hka,hkp,hkb,hkq⟩:=iN.out.rQ r (List.mem_of_getElem? hr)
     clear hka hkp hkb hkq hr
     obtain⟨A2,c2,rfl,hc2,_,_⟩:=bN.jZ gq HO.out rfl
     obtain⟨ra,rp,rb,rq⟩:=r
     go_wp2
     clear q0 q1 q2 q3 x0 x1
     obtain⟨N,hN⟩:∃N,wr.heap.size=N:=⟨_,rfl⟩
     have FI:=hide (fun t1 t2=>show RowKit.Below N wr ((wr.alloc (.cells #[.int .i64 ra,.int .i64 rp,.int .i64 rb,.int .i64 rq] t1)).alloc (.cells #[.int .i64 ra,.int .i64 rp,.int .i64 rb,.int .i64 rq] t2))from by rw[← hN];exact((RowKit.Below.refl _ _).alloc (Nat.le_refl _) _).alloc (by simp) _)
     have FJ:=hide (fun t1 t2 (w':World) (hb:RowKit.Below (N+2) ((wr.alloc (.cells #[.int .i64 ra,.int .i64 rp,.int .i64 rb,.int .i64 rq] t1)).alloc (.cells #[.int .i64 ra,.int .i64 rp,.int .i64 rb,.int .i64 rq] t2)) w')=>show(w'.cell? ⟨N,0,none⟩=some (.int .i64 ra)∧w'.cell? ⟨N,1,none⟩=some (.int .i64 rp)∧w'.cell? ⟨N,2,none⟩=some (.int .i64 rb)∧w'.cell? ⟨N,3,none⟩=some (.int .i64 rq))∧(∀j,j<2→w'.cell? ⟨N+1,j*2,none⟩=some (.int .i64 (nR ⟨ra,rp,rb,rq⟩ j).1)∧w'.cell? ⟨N+1,j*2+1,none⟩=some (.int .i64 (nR ⟨ra,rp,rb,rq⟩ j).2))from by
      have hs1:(wr.alloc (.cells #[.int .i64 ra,.int .i64 rp,.int .i64 rb,.int .i64 rq] t1)).heap.size =N+1:=by rw[← hN];simp
      have c1:∀o v,(#[Value.int .i64 ra,.int .i64 rp,.int .i64 rb,.int .i64 rq]:Array Value)[o]?=some v→w'.cell? ⟨N,o,none⟩=some v:=fun o v hv=>by
       rw[hb.cell (p:=⟨N,o,none⟩) (by show N<_;omega),World.cell?_alloc_lt _ _ _ (by show N<_;omega),← hN,cell_of_row _ _ _ _ _ _ (heap_alloc_new wr _)]
       exact hv
      have c2:∀o v,(#[Value.int .i64 ra,.int .i64 rp,.int .i64 rb,.int .i64 rq]:Array Value)[o]?=some v→w'.cell? ⟨N+1,o,none⟩=some v:=fun o v hv=>nu _ _ _ hs1 hb o v hv
      refine⟨⟨c1 0 _ rfl,c1 1 _ rfl,c1 2 _ rfl,c1 3 _ rfl⟩,fun j hj=>?_⟩
      rcases(by omega:j=0∨j=1)with rfl | rfl
      ·exact⟨c2 0 _ rfl,c2 1 _ rfl⟩
      ·exact⟨c2 2 _ rfl,c2 3 _ rfl⟩)
     have HW1:=FI.out 55 85
     have HW2:=FJ.out 55 85
     have hsA:((wr.alloc (.cells #[.int .i64 ra,.int .i64 rp,.int .i64 rb,.int .i64 rq] 55)).alloc (.cells #[.int .i64 ra,.int .i64 rp,.int .i64 rb,.int .i64 rq] 85)).heap.size =N+2:=by rw[← hN];simp
     clear FI FJ
     generalize World.alloc (World.alloc wr _) _=wA at*
     have HA1:=hide HW1
     have HA2:=hide HW2
     have A9:=hide hsA
     have Ba:W0.heap.size≤N:=by rw[← hN];exact HB.out.size
     have dU:=hide (HB.out.trans (HW1.mono Ba))
     have Er:=hide (fun(w':World) (hb:RowKit.Below N wr w')=>own_below HO.out (by rw[hN];exact hb))
     rw[hN]
     clear HW1 HW2 hsA HO HB hN iN aA
     obtain⟨wo,hwo⟩:∃wo:World,wo=wr:=⟨_,rfl⟩
     rw[← hwo]at HA1 Er
     clear hwo
     have Dj:=hide (RowKit.Below.refl wA.heap.size wA)
     go_loopw [66] (fun i wj=>∃j:Nat,j≤2∧i= .int .i64 j∧Hid (∀i,i<j→eY (ds.map ah.dev) (nR ⟨ra,rp,rb,rq⟩ i)=true)∧Hid (RowKit.Below wA.heap.size wA wj)) (fun i _=>2 - (intOf i).toNat)
     case atStart=>exact⟨0,Nat.zero_le _,rfl,hide (fun i h=>absurd h (by omega)),Dj⟩
     case round=>
      clear Dj
      obtain⟨j,hj,rfl,HP,HJ⟩:=hrel
      have FK:=hide (dU.out.trans (HJ.out.mono dU.out.size))
      have FL:N+2≤wr.heap.size:=by have:=HJ.out.size;have:=A9.out;omega
      by_cases hj2:j<2
      ·obtain⟨q0,q1⟩:=(HA2.out wr (A9.out▸HJ.out)).2 j hj2
       have Es:=hide (fun h=>HBAD.out j hj2 HP.out h)
       have FM:=hide (fun(h:eY (ds.map ah.dev) (nR ⟨ra,rp,rb,rq⟩ j)=true) i (hi:i<j+1)=>show eY (ds.map ah.dev) (nR ⟨ra,rp,rb,rq⟩ i)=true from by
        rcases(by omega:i<j∨i=j)with h1 | rfl
        ·exact HP.out i h1
        ·exact h)
       obtain⟨X,Y,FN⟩:∃X Y,nR ⟨ra,rp,rb,rq⟩ j=(X,Y):=⟨_,_,rfl⟩
       simp only[FN]at q0 q1 Es FM
       clear FN
       have Jj:W.heap.size<wr.heap.size:=by have:=FK.out.size;have:=l8.out;omega
       obtain⟨⟨x0,x1⟩,hna,hbW⟩:=HQ.out wr FK.out
       have iN:=hide hna
       have aA:=hide hbW
       clear hna hbW
       obtain⟨M,hM⟩:∃M,wr.heap.size=M:=⟨_,rfl⟩
       have lK:=hide (fun(w':World) (hb:RowKit.Below (M+1) (wr.alloc (.cells #[.int .i64 X,.int .i64 Y] 85)) w')=>show(w'.cell? ⟨M,0,none⟩=some (.int .i64 X)∧w'.cell? ⟨M,1,none⟩=some (.int .i64 Y))∧RowKit.Below wA.heap.size wA w' from
        ⟨⟨nu wr _ _ hM hb 0 _ rfl,nu wr _ _ hM hb 1 _ rfl⟩,HJ.out.trans ((((RowKit.Below.refl wr.heap.size wr).alloc (Nat.le_refl _) _).trans (hb.mono (by omega))).mono HJ.out.size)⟩)
       cases e1:(decide (0≤X) && decide (X<(dn:Int)))
       ·have HF:=hide (show E=1 from Es.out (by simp only[eY,List.length_map,jk.out,e1];rfl))
        go_wp2
        have uX:=lK.out
        have hsB:(wr.alloc (.cells #[.int .i64 X,.int .i64 Y] 85)).heap.size =M+1:=by simp[hM]
        clear lK q0 q1 x0 x1 hM
        generalize World.alloc wr _=wB at*
        have lK:=hide uX
        have qC:=hide hsB
        clear uX hsB
        refine aU (by kernel_rfl) (by kernel_rfl) ?_
        intro T hT gt hg hgi
        have aO:=hide hg
        have eX:=hide hgi
        clear hg hgi
        have oN:=hide (fun t=>(lK.out _ (qC.out▸aO.out t)).2)
        have uY:=hide (fun t=>HQ.out _ (dU.out.trans ((oN.out t).mono dU.out.size)))
        have k0:=fun t=>(lK.out _ (qC.out▸aO.out t)).1.1
        have k1:=fun t=>(lK.out _ (qC.out▸aO.out t)).1.2
        have k2:=fun t=>(uY.out t).1.1
        have iA:=hide (fun t=>aQ X dn (gt t) false e1)
        clear e1
        repeat (go_big_quiet_step ((go_at_call 37;exact bX (iA.out _))))
        refine wpQuiet_nil ?_
        intro _ hw'
        obtain⟨t,rfl⟩:=hw'
        have Bb:=hide (oN.out t)
        generalize gt t=w9 at*
        clear k0 k1 k2 aO eX uY oN
        go_wp2
        go_ret
        exact⟨aB HF.out.symm,(HQ.out _ (dU.out.trans (Bb.out.mono dU.out.size))).2.2⟩
       ·have Bc:=e1
        simp only[Bool.and_eq_true,decide_eq_true_eq]at Bc
        obtain⟨i,rfl⟩:∃i:Nat,X=(i:Int):=⟨X.toNat,by omega⟩
        obtain⟨rd,hrd⟩:∃r,ds[i]?=some r:=⟨_,List.getElem?_eq_getElem (by have:=jk.out;omega)⟩
        have Hz:=hide (show oO (ds.map ah.dev) (i:Int)=rd.kind from by simp[oO,hrd,ah.dev])
        obtain⟨db,od,rfl,_,_⟩:=iN.out.ds.2 (by show 0<dn;omega)
        have FP:=hide (fun(w':World) (hb:RowKit.Below W0.heap.size W0 w')=>(oM (HQ.out w' hb).2.1.ds hrd).2.2.1)
        have i1:(0:Int)≤(i:Int):=by omega
        have i2:(i:Int)<(dn:Int):=by omega
        have i3:(dn:Int)≤9223372036854775807:=by omega
        have zn:=hide (show eY (ds.map ah.dev) ((i:Int),Y)=(decide (0≤Y) && decide (Y<dV rd.kind))from by simp only[eY,List.length_map,jk.out,e1,Hz.out];rfl)
        cases e2:(decide (0≤Y) && decide (Y<dV rd.kind))
        ·have HF:=hide (show E=1 from Es.out (by rw[zn.out,e2]))
         go_wp2
         have uX:=lK.out
         have hsB:(wr.alloc (.cells #[.int .i64 (i:Int),.int .i64 Y] 85)).heap.size =M+1:=by simp[hM]
         clear lK q0 q1 x0 x1 hM
         generalize World.alloc wr _=wB at*
         have lK:=hide uX
         have qC:=hide hsB
         clear uX hsB
         refine aU (by kernel_rfl) (by kernel_rfl) ?_
         intro T hT gt hg hgi
         have aO:=hide hg
         have eX:=hide hgi
         clear hg hgi
         have oN:=hide (fun t=>(lK.out _ (qC.out▸aO.out t)).2)
         have uY:=hide (fun t=>HQ.out _ (dU.out.trans ((oN.out t).mono dU.out.size)))
         have k0:=fun t=>(lK.out _ (qC.out▸aO.out t)).1.1
         have k1:=fun t=>(lK.out _ (qC.out▸aO.out t)).1.2
         have k2:=fun t=>(uY.out t).1.1
         have k3:=fun t=>FP.out (gt t) (dU.out.trans ((oN.out t).mono dU.out.size))
         have iA:=hide (fun t=>aQ i dn (gt t) true e1)
         have jl:=hide (fun t=>tu rd.kind (gt t))
         have Et:=hide (fun t=>aQ Y (dV rd.kind) (gt t) false e2)
         clear e1 e2 Bc
         generalize dV rd.kind=PF at*
         repeat (go_big_quiet_step (first | (go_at_call_of 37 (Value.int .i64 dn);exact bX (iA.out _)) | (go_at_call 37;exact bX (Et.out _)) | (go_at_call 38;exact bX (jl.out _))))
         refine wpQuiet_nil ?_
         intro _ hw'
         obtain⟨t,rfl⟩:=hw'
         have Bb:=hide (oN.out t)
         generalize gt t=w9 at*
         clear k0 k1 k2 aO eX uY oN
         clear k3
         go_wp2
         go_ret
         exact⟨aB HF.out.symm,(HQ.out _ (dU.out.trans (Bb.out.mono dU.out.size))).2.2⟩
        ·have HF:=hide (FM.out (by rw[zn.out,e2]))
         go_wp2
         have uX:=lK.out
         have hsB:(wr.alloc (.cells #[.int .i64 (i:Int),.int .i64 Y] 85)).heap.size =M+1:=by simp[hM]
         clear lK q0 q1 x0 x1 hM
         generalize World.alloc wr _=wB at*
         have lK:=hide uX
         have qC:=hide hsB
         clear uX hsB
         refine aU (by kernel_rfl) (by kernel_rfl) ?_
         intro T hT gt hg hgi
         have aO:=hide hg
         have eX:=hide hgi
         clear hg hgi
         have oN:=hide (fun t=>(lK.out _ (qC.out▸aO.out t)).2)
         have uY:=hide (fun t=>HQ.out _ (dU.out.trans ((oN.out t).mono dU.out.size)))
         have k0:=fun t=>(lK.out _ (qC.out▸aO.out t)).1.1
         have k1:=fun t=>(lK.out _ (qC.out▸aO.out t)).1.2
         have k2:=fun t=>(uY.out t).1.1
         have k3:=fun t=>FP.out (gt t) (dU.out.trans ((oN.out t).mono dU.out.size))
         have iA:=hide (fun t=>aQ i dn (gt t) true e1)
         have jl:=hide (fun t=>tu rd.kind (gt t))
         have Et:=hide (fun t=>aQ Y (dV rd.kind) (gt t) true e2)
         clear e1 e2 Bc
         generalize dV rd.kind=PF at*
         repeat (go_big_quiet_step (first | (go_at_call_of 37 (Value.int .i64 dn);exact bX (iA.out _)) | (go_at_call 37;exact bX (Et.out _)) | (go_at_call 38;exact bX (jl.out _))))
         refine wpQuiet_nil ?_
         intro _ hw'
         obtain⟨t,rfl⟩:=hw'
         have Bb:=hide (oN.out t)
         generalize gt t=w9 at*
         clear k0 k1 k2 aO eX uY oN
         clear k3
         go_wp2
         go_roundw
         case rel=>exact⟨j+1,by omega,by go_num,HF,Bb⟩
         case measure=>simp[intOf];omega
      ·obtain rfl:j=2:=by omega
       have HG:=hide (Di.out HP.out)
       obtain⟨y0,y1,y2,y3⟩:=(HA2.out wr (A9.out▸HJ.out)).1
       have Jk:ends.length≤30:=by have:=A8.out;omega
       have hNM:N+2≤wr.heap.size:=FL
       clear HP HBAD Di FL
       go_wp2
       obtain⟨M,hM⟩:∃M,wr.heap.size=M:=⟨_,rfl⟩
       have Dk:Hid (∀(u v:Pl),Below wr.heap.size wr ((wr.alloc (.cells #[.int .i64 u.1,.int .i64 u.2] 85)).alloc (.cells #[.int .i64 v.1,.int .i64 v.2] 85))∧((wr.alloc (.cells #[.int .i64 u.1,.int .i64 u.2] 85)).alloc (.cells #[.int .i64 v.1,.int .i64 v.2] 85)).heap.size =M+2∧
         ny ((wr.alloc (.cells #[.int .i64 u.1,.int .i64 u.2] 85)).alloc (.cells #[.int .i64 v.1,.int .i64 v.2] 85)) M u.1 u.2∧ny ((wr.alloc (.cells #[.int .i64 u.1,.int .i64 u.2] 85)).alloc (.cells #[.int .i64 v.1,.int .i64 v.2] 85)) (M+1) v.1 v.2):=hide (fun u v=>by
        have hb1:Below wr.heap.size wr (wr.alloc (.cells #[.int .i64 u.1,.int .i64 u.2] 85)):=(Below.refl _ _).alloc (Nat.le_refl _) _
        have hs:(wr.alloc (.cells #[.int .i64 u.1,.int .i64 u.2] 85)).heap.size =M+1:=by rw[← hM];simp
        have b1:=ny.new wr u.1 u.2 85
        have b2:=ny.new (wr.alloc (.cells #[.int .i64 u.1,.int .i64 u.2] 85)) v.1 v.2 85
        rw[hM]at b1
        rw[hs]at b2
        refine⟨hb1.alloc hb1.size _,by simp;omega,b1.below ((Below.refl _ _).alloc (Nat.le_refl _) _) (by omega),b2⟩)
       go_region_held3 (fun w'=>w'.cell? ⟨N,0,none⟩=some (.int .i64 ra)∧w'.cell? ⟨N,1,none⟩=some (.int .i64 rp)∧w'.cell? ⟨N,2,none⟩=some (.int .i64 rb)∧w'.cell? ⟨N,3,none⟩=some (.int .i64 rq)) (go_keep) (fail)
       ·obtain⟨hbz,hsz,b1,b2⟩:=Dk.out (ra,rp) (rb,rq)
        have qD:=hide (HJ.out.trans (hbz.mono HJ.out.size))
        have Bd:=hide hsz
        generalize World.alloc (World.alloc wr _) _=wz at*
        have iJ:=hide (fun(w':World) (hb:RowKit.Below wz.heap.size wz w')=>And.intro (b1.below hb (by have:=Bd.out;omega)) (b2.below hb (by have:=Bd.out;omega)))
        have kV:=hide (fun(w':World) (hb:RowKit.Below wz.heap.size wz w')=>qD.out.trans (hb.mono qD.out.size))
        have oP:=hide (fun(w':World) (hb:RowKit.Below wz.heap.size wz w')=>Er.out w' (HA1.out.trans ((qD.out.trans (hb.mono qD.out.size)).mono (by have:=A9.out;omega))))
        have HD:=hide ((RowKit.Below.refl wz.heap.size wz).drew)
        clear hbz Dk b1 b2 y0 y1 y2 y3 hM hsz qD
        obtain⟨⟨u0,u1,_,_⟩,⟨v0,v1,_,_⟩⟩:=iJ.out _ HD.out
        cases e1:(ra ==rb)
        ·have iA:=hide (eZ ends A2 ends.length c2 ra rp _ (by omega) (iy gq (oP.out _ HD.out) rfl))
         go_wp2_with fail
         refine iA.out.mono ?_
         clear iA
         rintro e w3 ⟨rfl,hb⟩
         have HB3:=hide (HD.out.trans (hb.mono HD.out.size))
         clear hb u0 u1 v0 v1
         obtain⟨⟨u0,u1,_,_⟩,⟨v0,v1,_,_⟩⟩:=iJ.out _ HB3.out
         cases a1:ends.any (fun z=>iB (ra,rp) z)
         case true=>
          have HF:=hide (show E=5 from by rw[HG.out];simp only[fq,au.e1,au.e2,a1,Bool.true_or,Bool.or_true,if_true])
          clear a1
          go_wp2
          go_ret
          exact⟨aB HF.out.symm,(HQ.out _ (dU.out.trans ((kV.out _ HB3.out).mono dU.out.size))).2.2⟩
         have sH:=hide a1
         clear a1
         have iA:=hide (eZ ends A2 ends.length c2 rb rq w3 (by omega) (iy gq (oP.out _ HB3.out) rfl))
         go_wp2_with fail
         refine iA.out.mono ?_
         clear iA
         rintro e w4 ⟨rfl,hb⟩
         have ak:=hide (HB3.out.trans (hb.mono HB3.out.size))
         clear hb u0 u1 v0 v1
         obtain⟨⟨u0,u1,_,_⟩,⟨v0,v1,_,_⟩⟩:=iJ.out _ ak.out
         cases a2:ends.any (fun z=>iB (rb,rq) z)
         case true=>
          have HF:=hide (show E=5 from by rw[HG.out];simp only[fq,au.e1,au.e2,a2,Bool.true_or,Bool.or_true,if_true])
          clear a2
          go_wp2
          go_ret
          exact⟨aB HF.out.symm,(HQ.out _ (dU.out.trans ((kV.out _ ak.out).mono dU.out.size))).2.2⟩
         have HF:=hide (show E=gu (ds.map ah.dev) (ends++[(ra,rp),(rb,rq)]) (ls.drop (k+1))from by
          rw[HG.out]
          have h1:=sH.out
          simp only[fq,iB,au.e1,au.e2,h1,a2,e1,Bool.false_and,Bool.and_false,Bool.or_false,Bool.false_eq_true,if_false]at h1 a2 ⊢
          try simp only[h1,a2,Bool.false_or,Bool.false_eq_true,if_false])
         clear a2 HG
         have jF:=hide (show RowKit.Below wz.heap.size wz (w4.alloc (.cells #[.int .i64 ra,.int .i64 rp,.int .i64 rb,.int .i64 rq] 85))from ak.out.alloc ak.out.size _)
         have fT:=hide (show Reads (w4.alloc (.cells #[.int .i64 ra,.int .i64 rp,.int .i64 rb,.int .i64 rq] 85)) (w4.heap.size+1) 2 (some ⟨w4.heap.size,0,none⟩) 2 [.int .i64 ra,.int .i64 rp,.int .i64 rb,.int .i64 rq]from
          ⟨rfl,fun _=>⟨_,rfl,Nat.lt_succ_self _,fun j u hu=>by
           rw[addr_add,Nat.zero_add,cell_of_row _ _ _ _ _ _ (heap_alloc_new w4 _)]
           simpa using hu⟩⟩)
         have HOL:=hide (oP.out _ jF.out)
         have Dl:W0.heap.size≤w4.heap.size:=by have h1:=(kV.out _ ak.out).size;have:=dU.out.size;omega
         go_wp2_with (at_builtin;refine aY _ rfl (.tmp 115) (.tmp 118) 83 rfl W0.heap.size 85 i0 _ 2 16 Tryd.underlying83 hi0 hz0 hz1 hz2 rfl (by omega) (.slice A2 ends.length c2) ends.length (ends.flatMap gL) rfl HOL.out (w4.heap.size+1) (some ⟨w4.heap.size,0,none⟩) 2 2 [.int .i64 ra,.int .i64 rp,.int .i64 rb,.int .i64 rq] rfl fT.out (by intro u hu;simp at hu;rcases hu with rfl | rfl | rfl | rfl<;>rfl) (by simp only[maxLen];omega) (by omega) (by simp;omega) ?_;intro v5 w5 hown5 hg5 gP;have wO:=hide (pF (dU.out.trans ((kV.out _ jF.out).mono dU.out.size)) (Nat.le_refl _) hg5 (fun q hq=>(HOL.out.lt q hq).1));have iK:=hide hown5;clear hown5 hg5 gP)
         go_roundw
         case rel=>exact⟨k+1,ends++[(ra,rp),(rb,rq)],by omega,by go_num,HF,wO,hide (by simpa[gL]using iK.out),hide (by have:=A8.out;simp;omega)⟩
         case measure=>simp[intOf];omega
        cases e2:(rp ==rq)
        ·have iA:=hide (eZ ends A2 ends.length c2 ra rp _ (by omega) (iy gq (oP.out _ HD.out) rfl))
         go_wp2_with fail
         refine iA.out.mono ?_
         clear iA
         rintro e w3 ⟨rfl,hb⟩
         have HB3:=hide (HD.out.trans (hb.mono HD.out.size))
         clear hb u0 u1 v0 v1
         obtain⟨⟨u0,u1,_,_⟩,⟨v0,v1,_,_⟩⟩:=iJ.out _ HB3.out
         cases a1:ends.any (fun z=>iB (ra,rp) z)
         case true=>
          have HF:=hide (show E=5 from by rw[HG.out];simp only[fq,au.e1,au.e2,a1,Bool.true_or,Bool.or_true,if_true])
          clear a1
          go_wp2
          go_ret
          exact⟨aB HF.out.symm,(HQ.out _ (dU.out.trans ((kV.out _ HB3.out).mono dU.out.size))).2.2⟩
         have sH:=hide a1
         clear a1
         have iA:=hide (eZ ends A2 ends.length c2 rb rq w3 (by omega) (iy gq (oP.out _ HB3.out) rfl))
         go_wp2_with fail
         refine iA.out.mono ?_
         clear iA
         rintro e w4 ⟨rfl,hb⟩
         have ak:=hide (HB3.out.trans (hb.mono HB3.out.size))
         clear hb u0 u1 v0 v1
         obtain⟨⟨u0,u1,_,_⟩,⟨v0,v1,_,_⟩⟩:=iJ.out _ ak.out
         cases a2:ends.any (fun z=>iB (rb,rq) z)
         case true=>
          have HF:=hide (show E=5 from by rw[HG.out];simp only[fq,au.e1,au.e2,a2,Bool.true_or,Bool.or_true,if_true])
          clear a2
          go_wp2
          go_ret
          exact⟨aB HF.out.symm,(HQ.out _ (dU.out.trans ((kV.out _ ak.out).mono dU.out.size))).2.2⟩
         have HF:=hide (show E=gu (ds.map ah.dev) (ends++[(ra,rp),(rb,rq)]) (ls.drop (k+1))from by
          rw[HG.out]
          have h1:=sH.out
          simp only[fq,iB,au.e1,au.e2,h1,a2,e1,e2,Bool.false_and,Bool.and_false,Bool.or_false,Bool.false_eq_true,if_false]at h1 a2 ⊢
          try simp only[h1,a2,Bool.false_or,Bool.false_eq_true,if_false])
         clear a2 HG
         have jF:=hide (show RowKit.Below wz.heap.size wz (w4.alloc (.cells #[.int .i64 ra,.int .i64 rp,.int .i64 rb,.int .i64 rq] 85))from ak.out.alloc ak.out.size _)
         have fT:=hide (show Reads (w4.alloc (.cells #[.int .i64 ra,.int .i64 rp,.int .i64 rb,.int .i64 rq] 85)) (w4.heap.size+1) 2 (some ⟨w4.heap.size,0,none⟩) 2 [.int .i64 ra,.int .i64 rp,.int .i64 rb,.int .i64 rq]from
          ⟨rfl,fun _=>⟨_,rfl,Nat.lt_succ_self _,fun j u hu=>by
           rw[addr_add,Nat.zero_add,cell_of_row _ _ _ _ _ _ (heap_alloc_new w4 _)]
           simpa using hu⟩⟩)
         have HOL:=hide (oP.out _ jF.out)
         have Dl:W0.heap.size≤w4.heap.size:=by have h1:=(kV.out _ ak.out).size;have:=dU.out.size;omega
         go_wp2_with (at_builtin;refine aY _ rfl (.tmp 115) (.tmp 118) 83 rfl W0.heap.size 85 i0 _ 2 16 Tryd.underlying83 hi0 hz0 hz1 hz2 rfl (by omega) (.slice A2 ends.length c2) ends.length (ends.flatMap gL) rfl HOL.out (w4.heap.size+1) (some ⟨w4.heap.size,0,none⟩) 2 2 [.int .i64 ra,.int .i64 rp,.int .i64 rb,.int .i64 rq] rfl fT.out (by intro u hu;simp at hu;rcases hu with rfl | rfl | rfl | rfl<;>rfl) (by simp only[maxLen];omega) (by omega) (by simp;omega) ?_;intro v5 w5 hown5 hg5 gP;have wO:=hide (pF (dU.out.trans ((kV.out _ jF.out).mono dU.out.size)) (Nat.le_refl _) hg5 (fun q hq=>(HOL.out.lt q hq).1));have iK:=hide hown5;clear hown5 hg5 gP)
         go_roundw
         case rel=>exact⟨k+1,ends++[(ra,rp),(rb,rq)],by omega,by go_num,HF,wO,hide (by simpa[gL]using iK.out),hide (by have:=A8.out;simp;omega)⟩
         case measure=>simp[intOf];omega
        have HF:=hide (show E=5 from by rw[HG.out];simp[fq,iB,au.e1,au.e2,e1,e2])
        go_wp2
        go_ret
        exact⟨aB HF.out.symm,(HQ.out _ (dU.out.trans ((kV.out _ HD.out).mono dU.out.size))).2.2⟩
       ·obtain⟨hbz,hsz,b1,b2⟩:=Dk.out (rb,rq) (ra,rp)
        have qD:=hide (HJ.out.trans (hbz.mono HJ.out.size))
        have Bd:=hide hsz
        generalize World.alloc (World.alloc wr _) _=wz at*
        have iJ:=hide (fun(w':World) (hb:RowKit.Below wz.heap.size wz w')=>And.intro (b1.below hb (by have:=Bd.out;omega)) (b2.below hb (by have:=Bd.out;omega)))
        have kV:=hide (fun(w':World) (hb:RowKit.Below wz.heap.size wz w')=>qD.out.trans (hb.mono qD.out.size))
        have oP:=hide (fun(w':World) (hb:RowKit.Below wz.heap.size wz w')=>Er.out w' (HA1.out.trans ((qD.out.trans (hb.mono qD.out.size)).mono (by have:=A9.out;omega))))
        have HD:=hide ((RowKit.Below.refl wz.heap.size wz).drew)
        clear hbz Dk b1 b2 y0 y1 y2 y3 hM hsz qD
        obtain⟨⟨u0,u1,_,_⟩,⟨v0,v1,_,_⟩⟩:=iJ.out _ HD.out
        cases e1:(ra ==rb)
        ·have iA:=hide (eZ ends A2 ends.length c2 ra rp _ (by omega) (iy gq (oP.out _ HD.out) rfl))
         go_wp2_with fail
         refine iA.out.mono ?_
         clear iA
         rintro e w3 ⟨rfl,hb⟩
         have HB3:=hide (HD.out.trans (hb.mono HD.out.size))
         clear hb u0 u1 v0 v1
         obtain⟨⟨u0,u1,_,_⟩,⟨v0,v1,_,_⟩⟩:=iJ.out _ HB3.out
         cases a1:ends.any (fun z=>iB (ra,rp) z)
         case true=>
          have HF:=hide (show E=5 from by rw[HG.out];simp only[fq,au.e1,au.e2,a1,Bool.true_or,Bool.or_true,if_true])
          clear a1
          go_wp2
          go_ret
          exact⟨aB HF.out.symm,(HQ.out _ (dU.out.trans ((kV.out _ HB3.out).mono dU.out.size))).2.2⟩
         have sH:=hide a1
         clear a1
         have iA:=hide (eZ ends A2 ends.length c2 rb rq w3 (by omega) (iy gq (oP.out _ HB3.out) rfl))
         go_wp2_with fail
         refine iA.out.mono ?_
         clear iA
         rintro e w4 ⟨rfl,hb⟩
         have ak:=hide (HB3.out.trans (hb.mono HB3.out.size))
         clear hb u0 u1 v0 v1
         obtain⟨⟨u0,u1,_,_⟩,⟨v0,v1,_,_⟩⟩:=iJ.out _ ak.out
         cases a2:ends.any (fun z=>iB (rb,rq) z)
         case true=>
          have HF:=hide (show E=5 from by rw[HG.out];simp only[fq,au.e1,au.e2,a2,Bool.true_or,Bool.or_true,if_true])
          clear a2
          go_wp2
          go_ret
          exact⟨aB HF.out.symm,(HQ.out _ (dU.out.trans ((kV.out _ ak.out).mono dU.out.size))).2.2⟩
         have HF:=hide (show E=gu (ds.map ah.dev) (ends++[(ra,rp),(rb,rq)]) (ls.drop (k+1))from by
          rw[HG.out]
          have h1:=sH.out
          simp only[fq,iB,au.e1,au.e2,h1,a2,e1,Bool.false_and,Bool.and_false,Bool.or_false,Bool.false_eq_true,if_false]at h1 a2 ⊢
          try simp only[h1,a2,Bool.false_or,Bool.false_eq_true,if_false])
         clear a2 HG
         have jF:=hide (show RowKit.Below wz.heap.size wz (w4.alloc (.cells #[.int .i64 ra,.int .i64 rp,.int .i64 rb,.int .i64 rq] 85))from ak.out.alloc ak.out.size _)
         have fT:=hide (show Reads (w4.alloc (.cells #[.int .i64 ra,.int .i64 rp,.int .i64 rb,.int .i64 rq] 85)) (w4.heap.size+1) 2 (some ⟨w4.heap.size,0,none⟩) 2 [.int .i64 ra,.int .i64 rp,.int .i64 rb,.int .i64 rq]from
          ⟨rfl,fun _=>⟨_,rfl,Nat.lt_succ_self _,fun j u hu=>by
           rw[addr_add,Nat.zero_add,cell_of_row _ _ _ _ _ _ (heap_alloc_new w4 _)]
           simpa using hu⟩⟩)
         have HOL:=hide (oP.out _ jF.out)
         have Dl:W0.heap.size≤w4.heap.size:=by have h1:=(kV.out _ ak.out).size;have:=dU.out.size;omega
         go_wp2_with (at_builtin;refine aY _ rfl (.tmp 115) (.tmp 118) 83 rfl W0.heap.size 85 i0 _ 2 16 Tryd.underlying83 hi0 hz0 hz1 hz2 rfl (by omega) (.slice A2 ends.length c2) ends.length (ends.flatMap gL) rfl HOL.out (w4.heap.size+1) (some ⟨w4.heap.size,0,none⟩) 2 2 [.int .i64 ra,.int .i64 rp,.int .i64 rb,.int .i64 rq] rfl fT.out (by intro u hu;simp at hu;rcases hu with rfl | rfl | rfl | rfl<;>rfl) (by simp only[maxLen];omega) (by omega) (by simp;omega) ?_;intro v5 w5 hown5 hg5 gP;have wO:=hide (pF (dU.out.trans ((kV.out _ jF.out).mono dU.out.size)) (Nat.le_refl _) hg5 (fun q hq=>(HOL.out.lt q hq).1));have iK:=hide hown5;clear hown5 hg5 gP)
         go_roundw
         case rel=>exact⟨k+1,ends++[(ra,rp),(rb,rq)],by omega,by go_num,HF,wO,hide (by simpa[gL]using iK.out),hide (by have:=A8.out;simp;omega)⟩
         case measure=>simp[intOf];omega
        cases e2:(rp ==rq)
        ·have iA:=hide (eZ ends A2 ends.length c2 ra rp _ (by omega) (iy gq (oP.out _ HD.out) rfl))
         go_wp2_with fail
         refine iA.out.mono ?_
         clear iA
         rintro e w3 ⟨rfl,hb⟩
         have HB3:=hide (HD.out.trans (hb.mono HD.out.size))
         clear hb u0 u1 v0 v1
         obtain⟨⟨u0,u1,_,_⟩,⟨v0,v1,_,_⟩⟩:=iJ.out _ HB3.out
         cases a1:ends.any (fun z=>iB (ra,rp) z)
         case true=>
          have HF:=hide (show E=5 from by rw[HG.out];simp only[fq,au.e1,au.e2,a1,Bool.true_or,Bool.or_true,if_true])
          clear a1
          go_wp2
          go_ret
          exact⟨aB HF.out.symm,(HQ.out _ (dU.out.trans ((kV.out _ HB3.out).mono dU.out.size))).2.2⟩
         have sH:=hide a1
         clear a1
         have iA:=hide (eZ ends A2 ends.length c2 rb rq w3 (by omega) (iy gq (oP.out _ HB3.out) rfl))
         go_wp2_with fail
         refine iA.out.mono ?_
         clear iA
         rintro e w4 ⟨rfl,hb⟩
         have ak:=hide (HB3.out.trans (hb.mono HB3.out.size))
         clear hb u0 u1 v0 v1
         obtain⟨⟨u0,u1,_,_⟩,⟨v0,v1,_,_⟩⟩:=iJ.out _ ak.out
         cases a2:ends.any (fun z=>iB (rb,rq) z)
         case true=>
          have HF:=hide (show E=5 from by rw[HG.out];simp only[fq,au.e1,au.e2,a2,Bool.true_or,Bool.or_true,if_true])
          clear a2
          go_wp2
          go_ret
          exact⟨aB HF.out.symm,(HQ.out _ (dU.out.trans ((kV.out _ ak.out).mono dU.out.size))).2.2⟩
         have HF:=hide (show E=gu (ds.map ah.dev) (ends++[(ra,rp),(rb,rq)]) (ls.drop (k+1))from by
          rw[HG.out]
          have h1:=sH.out
          simp only[fq,iB,au.e1,au.e2,h1,a2,e1,e2,Bool.false_and,Bool.and_false,Bool.or_false,Bool.false_eq_true,if_false]at h1 a2 ⊢
          try simp only[h1,a2,Bool.false_or,Bool.false_eq_true,if_false])
         clear a2 HG
         have jF:=hide (show RowKit.Below wz.heap.size wz (w4.alloc (.cells #[.int .i64 ra,.int .i64 rp,.int .i64 rb,.int .i64 rq] 85))from ak.out.alloc ak.out.size _)
         have fT:=hide (show Reads (w4.alloc (.cells #[.int .i64 ra,.int .i64 rp,.int .i64 rb,.int .i64 rq] 85)) (w4.heap.size+1) 2 (some ⟨w4.heap.size,0,none⟩) 2 [.int .i64 ra,.int .i64 rp,.int .i64 rb,.int .i64 rq]from
          ⟨rfl,fun _=>⟨_,rfl,Nat.lt_succ_self _,fun j u hu=>by
           rw[addr_add,Nat.zero_add,cell_of_row _ _ _ _ _ _ (heap_alloc_new w4 _)]
           simpa using hu⟩⟩)
         have HOL:=hide (oP.out _ jF.out)
         have Dl:W0.heap.size≤w4.heap.size:=by have h1:=(kV.out _ ak.out).size;have:=dU.out.size;omega
         go_wp2_with (at_builtin;refine aY _ rfl (.tmp 115) (.tmp 118) 83 rfl W0.heap.size 85 i0 _ 2 16 Tryd.underlying83 hi0 hz0 hz1 hz2 rfl (by omega) (.slice A2 ends.length c2) ends.length (ends.flatMap gL) rfl HOL.out (w4.heap.size+1) (some ⟨w4.heap.size,0,none⟩) 2 2 [.int .i64 ra,.int .i64 rp,.int .i64 rb,.int .i64 rq] rfl fT.out (by intro u hu;simp at hu;rcases hu with rfl | rfl | rfl | rfl<;>rfl) (by simp only[maxLen];omega) (by omega) (by simp;omega) ?_;intro v5 w5 hown5 hg5 gP;have wO:=hide (pF (dU.out.trans ((kV.out _ jF.out).mono dU.out.size)) (Nat.le_refl _) hg5 (fun q hq=>(HOL.out.lt q hq).1));have iK:=hide hown5;clear hown5 hg5 gP)
         go_roundw
         case rel=>exact⟨k+1,ends++[(ra,rp),(rb,rq)],by omega,by go_num,HF,wO,hide (by simpa[gL]using iK.out),hide (by have:=A8.out;simp;omega)⟩
         case measure=>simp[intOf];omega
        have HF:=hide (show E=5 from by rw[HG.out];simp[fq,iB,au.e1,au.e2,e1,e2])
        go_wp2
        go_ret
        exact⟨aB HF.out.symm,(HQ.out _ (dU.out.trans ((kV.out _ HD.out).mono dU.out.size))).2.2⟩
    ·have HF:=hide (show E=0 from by rw[HC.out,List.drop_of_length_le (by have:=Eo.out;omega)];rfl)
     go_wp2
     go_ret
     exact⟨aB HF.out.symm,aA.out⟩
end Go.Proofs.YtifkacnoiocebaaDoor
