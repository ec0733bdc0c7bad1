/- A part of the proof: Vd3. -/
import Derived.Test.YtifkacnoiocebaaGreatDz15
set_option linter.unusedVariables false
set_option linter.unusedSimpArgs false
set_option maxRecDepth 100000
set_option maxHeartbeats 8000000
namespace Go.Proofs.YtifkacnoiocebaaGreat
open Go.ChangeAt Go.ChangeShapes Go.RowKit Go.WideShapes
theorem SC (w:World) (N:Nat) (u v t:Value) {q:Nat} (hq:q≠N):(qg w N u v t).heap[q]?=w.heap[q]?:=
 (RowKit.Below.heap_setCell _ _ _ _ hq).trans ((RowKit.Below.heap_setCell _ _ _ _ hq).trans (RowKit.Below.heap_setCell _ _ _ _ hq))
theorem Lb {w4 w5 w6 w7:World} {N B:Nat} {r:ak} {B1 B2 B3:Option Addr} {e1 e2 e3:Nat} (hz:N<w4.heap.size) (h5:Below w4.heap.size w4 w5) (h6:Below w5.heap.size w5 w6) (h7:Below w6.heap.size w6 w7) (hr:bW w4 B r)
  (o1:w5.ownsRow w4.heap.size 3 1 (.slice B1 r.bn e1) r.bn (r.bs.flatMap nI)) (o2:w6.ownsRow w5.heap.size 161 5 (.slice B2 r.rn e2) r.rn (r.rs.flatMap bg.cells)) (o3:w7.ownsRow w6.heap.size 159 3 (.slice B3 r.tn e3) r.tn (r.ts.flatMap aG.cells))
  (u v t:Value):
  bW (qg w7 N u v t) w7.heap.size ⟨r.name,r.kind,r.addr,r.pool,B1,r.bn,e1,r.bs,B2,r.rn,e2,r.rs,B3,r.tn,e3,r.ts⟩∧
  pR (fun q=>w4.heap.size≤q∧q<w7.heap.size) ⟨r.name,r.kind,r.addr,r.pool,B1,r.bn,e1,r.bs,B2,r.rn,e2,r.rs,B3,r.tn,e3,r.ts⟩:=by
 have s5:=h5.size
 have s6:=h6.size
 have s7:=h7.size
 obtain⟨A1,k1,f1,c1,sl1,g1⟩:=bD.lC wR o1 hr.bs.1
 obtain⟨A2,k2,f2,c2,sl2,g2⟩:=bD.lC bg.len o2 hr.rs.1
 obtain⟨A3,k3,f3,c3,sl3,g3⟩:=bD.lC aG.len o3 hr.ts.1
 cases f1
 cases f2
 cases f3
 have l1:∀a,B1=some a→w4.heap.size≤a.block∧a.block<w5.heap.size:=fun a ha=>o1.lt a.block (by rw[ha];rfl)
 have l2:∀a,B2=some a→w5.heap.size≤a.block∧a.block<w6.heap.size:=fun a ha=>o2.lt a.block (by rw[ha];rfl)
 have l3:∀a,B3=some a→w6.heap.size≤a.block∧a.block<w7.heap.size:=fun a ha=>o3.lt a.block (by rw[ha];rfl)
 have st7:bG (fun q=>q≠N) w7 (qg w7 N u v t):=Qh w7 N u v t
 have st6:bG (fun q=>q≠N∧q<w6.heap.size) w6 (qg w7 N u v t):=((bG.of_below h7).weak (fun q hq=>hq.2)).trans (st7.weak (fun q hq=>hq.1))
 have st5:bG (fun q=>q≠N∧q<w5.heap.size) w5 (qg w7 N u v t):=((bG.of_below h6).weak (fun q hq=>hq.2)).trans (st6.weak (fun q hq=>⟨hq.1,by omega⟩))
 refine⟨⟨hr.nm,hr.kd,hr.ad,hr.pl,?_,?_,?_,hr.tok,⟨c1,uy o1⟩,⟨c2,uy o2⟩,⟨c3,uy o3⟩⟩,⟨fun a ha=>?_,fun a ha=>?_,fun a ha=>?_⟩⟩
 ·exact WR (sl1.stay st5 (fun a ha=>by have:=l1 a ha;omega) (by omega)) hr.bs.2.1
 ·exact(sl2.stay st6 (fun a ha=>by have:=l2 a ha;omega) (by omega)).rules hr.rs.2.1
 ·exact sl3.stay st7 (fun a ha=>by have:=l3 a ha;omega) (by omega)
 ·have:=l1 a ha;omega
 ·have:=l2 a ha;omega
 ·have:=l3 a ha;omega
theorem wT {ds:List Dev} {ls:List ah} (h:fq ds ls=0):yL ls ds.length:=by
 have hn:=mK h
 intro l hl
 have h1:=hn.pl l.e1 (pK.2 ⟨l,hl,.inl rfl⟩)
 have h2:=hn.pl l.e2 (pK.2 ⟨l,hl,.inr rfl⟩)
 exact⟨(lQ.1 h1).1,(lQ.1 h2).1⟩
theorem Er (v:Nat→Bool) (n:Nat) {ls:List ah} {j:Nat} {l:ah} (h:ls[j]?=some l):fH v n (ls.take (j+1))=fH v n (ls.take j)++if v l.a.toNat=true then[II v n l]else[]:=by
 obtain⟨hk,e⟩:=List.getElem?_eq_some_iff.1 h
 unfold fH
 rw[List.take_succ_eq_append_getElem hk,e,List.filter_append,List.map_append]
 by_cases hp:v l.a.toNat=true
 ·rw[if_pos hp,List.filter_cons_of_pos (p:=fun l:ah=>v l.a.toNat) hp];rfl
 ·rw[if_neg hp,List.filter_cons_of_neg (p:=fun l:ah=>v l.a.toNat) hp];rfl
structure Ck (L:Nat) (n:aC):Prop where
 d:∀a,n.dA=some a→L≤a.block
 l:∀a,n.lA=some a→L≤a.block
 o:∀d∈n.ds,pR (fun k=>L≤k) d
theorem Ck.less {L L':Nat} {n:aC} (h:Ck L n) (hL:L'≤L):Ck L' n:=⟨fun a e=>Nat.le_trans hL (h.d a e),fun a e=>Nat.le_trans hL (h.l a e),fun d hd=>(h.o d hd).weak (fun _ hk=>Nat.le_trans hL hk)⟩
def WW (n:aC) (i0:Nat) (W:World) (e:Ending) (W':World):Prop:=∃(m:aC) (A:Option Addr) (c:Nat) (v:Nat→Bool),
 e= .returned (.tuple #[m.val,.slice A (bM v n.dn).length c])∧bq W' W'.heap.size m∧Ck W.heap.size m∧jf n.ls i0 v∧m.au=bP v n.au n.dn∧m.ls=fH v n.dn n.ls∧cu W' W'.heap.size A (bM v n.dn).length ((bM v n.dn).map fun(k:Nat)=>(k:Int))∧Below W.heap.size W W'
theorem Lc (n:aC) (i0:Nat) (W:World) (hn:bq W W.heap.size n) (hE:fq n.au n.ls=0) (hi:i0<n.dn):
  Calls Tryz.prog 104 #[n.val,.int .i64 (i0:Int)] W (WW n i0 W):=by
 have hok:=mK hE
 have hdn:n.dn≤10:=by have h1:=hok.dl;have h2:=hn.iK;simp only[aC.au,List.length_map]at h1;omega
 have hln:n.ln≤15:=by have h1:=hok.ll;have h2:=hn.llen;omega
 have Md:yL n.ls n.dn:=by
  have h1:=wT hE
  have h2:n.au.length=n.dn:=by simp only[aC.au,List.length_map];exact hn.iK
  rwa [h2]at h1
 have HDK:=hide (fun(d:ak) (hd:d∈n.ds)=>yc hE d.dev (List.mem_map_of_mem hd))
 have rX:=hide (fun(w':World) (hb:Below W.heap.size W w')=>show bq w' W.heap.size n from hn.below hb (Nat.le_refl _))
 have xL:=hide (fun(w':World) (hb:Below W.heap.size W w')=>Qd n i0 w' (hn.below hb hb.size) hdn hln Md hi)
 have jd:=hide hn.iK
 have jL:=hide hn.llen
 have UK:=hide Md
 clear hn hE hok Md
 obtain⟨dA,dn,dc,ds,lA,ln,lc,ls⟩:=n
 simp only[aC.val,aC.au]at*
 have UM:=fun w=>SB dn (by omega) w
 go_enter Tryz.func104,Tryz.ntmps104
 go_wp2_with fail
 have hb1:Below W.heap.size W ((W.alloc (.cells #[.slice dA dn dc,.slice lA ln lc] 25)).alloc (.cells #[.slice none 0 0,.slice none 0 0] 25)):=((Below.refl _ _).alloc (Nat.le_refl _) _).alloc (by simp) _
 have hx1:=(Bx.new W #[.slice dA dn dc,.slice lA ln lc] 25).below (below_alloc2 (W.alloc (.cells #[.slice dA dn dc,.slice lA ln lc] 25)) (.cells #[.slice none 0 0,.slice none 0 0] 25))
 have hr1:Bx ((W.alloc (.cells #[.slice dA dn dc,.slice lA ln lc] 25)).alloc (.cells #[.slice none 0 0,.slice none 0 0] 25)) (W.heap.size+1) #[.slice none 0 0,.slice none 0 0] 25:=by
  have h:=Bx.new (W.alloc (.cells #[.slice dA dn dc,.slice lA ln lc] 25)) #[.slice none 0 0,.slice none 0 0] 25
  simpa using h
 have hs1:((W.alloc (.cells #[.slice dA dn dc,.slice lA ln lc] 25)).alloc (.cells #[.slice none 0 0,.slice none 0 0] 25)).heap.size =W.heap.size+2:=by simp
 have HB1:=hide hb1
 have eF:=hide hx1
 have HR1:=hide hr1
 clear hb1 hx1 hr1
 generalize World.alloc (World.alloc W _) _=w1 at*
 refine(xL.out w1 HB1.out).mono ?_
 clear xL
 rintro e w2 ⟨Nb,v,rfl,hN,hbb,Cm,hb⟩
 simp only at hbb Cm
 have aak:=hide Cm
 have hg2:=hb.size
 have HB2:=hide (HB1.out.trans (hb.mono HB1.out.size))
 have bZ:=hide (eF.out.below hb)
 have HR2:=hide (HR1.out.below hb)
 have kE:=hide hbb
 have hNb:=hbb.lt
 clear hb HB1 eF HR1 hbb Cm
 have x0:∀o1,(w2.alloc o1).cell? ⟨W.heap.size,0,none⟩=some (.slice dA dn dc):=fun o1=>(bZ.out.below (below_alloc2 w2 o1)).get 0 _ rfl
 have x0':∀o1 o2,((w2.alloc o1).alloc o2).cell? ⟨W.heap.size,0,none⟩=some (.slice dA dn dc):=fun o1 o2=>((bZ.out.below (below_alloc2 w2 o1)).below (below_alloc2 _ o2)).get 0 _ rfl
 go_wp2_with fail
 clear x0 x0' UM
 have hb3:=(below_alloc2 w2 (.cells #[.slice none 0 0,.slice none 0 0] 25)).trans ((below_alloc2 (w2.alloc (.cells #[.slice none 0 0,.slice none 0 0] 25)) (.cells (mG (fun _=>0) dn) 3)).mono (below_alloc2 w2 _).size)
 have hs3:((w2.alloc (.cells #[.slice none 0 0,.slice none 0 0] 25)).alloc (.cells (mG (fun _=>0) dn) 3)).heap.size =w2.heap.size+2:=by simp
 have gH:=hide (show ou W ⟨dA,dn,dc,ds,lA,ln,lc,ls⟩ v ((w2.alloc (.cells #[.slice none 0 0,.slice none 0 0] 25)).alloc (.cells (mG (fun _=>0) dn) 3)) w2.heap.size Nb (.slice none 0 0) (.slice none 0 0) (.slice none 0 0) (bH v 0) (bM v 0) [] []from
  ⟨HB2.out.trans (hb3.mono HB2.out.size),⟨by omega,by omega,by omega⟩,bZ.out.below hb3,HR2.out.below hb3,kE.out.below hb3,(Bx.new w2 _ _).below (below_alloc2 _ _),by
   have h:=Bx.new (w2.alloc (.cells #[.slice none 0 0,.slice none 0 0] 25)) (mG (fun _=>0) dn) 3
   have e:bH v 0=fun _=>0:=by funext i;unfold bH;rw[if_neg (fun h=>by omega)]
   rw[e]
   simpa using h,World.ownsRow_nil _ _ _ _,World.ownsRow_nil _ _ _ _,World.ownsRow_nil _ _ _ _,fun q hq=>by(cases hq),fun q hq=>by(cases hq),fun q hq=>by(cases hq),fun d hd=>by(cases hd),fun d hd=>by(cases hd)⟩)
 clear hb3 hs3 HB2 bZ HR2 kE hN hNb hg2 hs1
 generalize World.alloc (World.alloc w2 _) _=w4 at*
 generalize w2.heap.size=g at*
 go_loopw [8,24] (fun o i wr=>∃(k:Nat) (V O:Value) (ds':List ak),k≤dn∧o=O∧i= .int .i64 (k:Int)∧Hid (ou W ⟨dA,dn,dc,ds,lA,ln,lc,ls⟩ v wr g Nb V O (.slice none 0 0) (bH v k) (bM v k) ds' [])∧Hid (ds'.map ak.dev=bP v (ds.map ak.dev) k)) (fun _ i _=>dn - (intOf i).toNat)
 case atStart=>exact⟨0,_,_,[],Nat.zero_le _,rfl,rfl,gH,hide rfl⟩
 case round=>
  clear gH
  obtain⟨k,V,O,ds',hk,rfl,rfl,HS,HP⟩:=hrel
  generalize u8=O at*
  by_cases hlt:k<dn
  ·obtain⟨r,hr⟩:∃r,ds[k]?=some r:=⟨_,List.getElem?_eq_getElem (by have:=jd.out;omega)⟩
   have hna:=rX.out wr HS.out.bl
   obtain⟨b,o,rfl,_,_⟩:=hna.ds.2 (by show 0<dn;omega)
   obtain⟨_,q0,q1,q2,q3,q4,q5,q6⟩:=fP hna.ds hr
   have gF:=hide (fun(w':World) (hb:Below W.heap.size W w')=>show bW w' w'.heap.size r from((rX.out w' hb).qW r (List.mem_of_getElem? hr)).below (Below.refl _ _) hb.size)
   have fK:=hide (HDK.out r (List.mem_of_getElem? hr))
   have HRR:=hide (show(ds.map ak.dev)[k]?=some r.dev from by rw[List.getElem?_map,hr];rfl)
   have Bc:=hide (show r.bs.length=r.bn∧r.rs.length=r.rn∧r.ts.length=r.tn from⟨(gF.out _ HS.out.bl).bs.1,(gF.out _ HS.out.bl).rs.1,(gF.out _ HS.out.bl).ts.1⟩)
   clear hr hna
   obtain⟨nm,kd,ad,pl,bA,bn,bc,bs,rA,rn,rc,rs,tA,tn,tc,ts⟩:=r
   simp only at q0 q1 q2 q3 q4 q5 q6 fK gF Bc
   obtain⟨vb,hvb⟩:∃vb,v k=vb:=⟨_,rfl⟩
   have CS:=hide hvb
   have hcb:=HS.out.bx.get k _ (lM v hlt)
   rw[hvb]at hcb
   clear hvb
   have hor:=HS.out.ord
   cases vb
   ·have jR:=hide (HS.out.below (below_alloc2 wr (.cells #[.string nm,.int .i64 kd,.int .i64 ad,.int .u8 pl,.slice bA bn bc,.slice rA rn rc,.slice tA tn tc] 81)))
    rw[← WT CS.out,← F8 CS.out]at jR
    have UN:=hide (show ds'.map ak.dev=bP v (ds.map ak.dev) (k+1)from by rw[wS CS.out];exact HP.out)
    have Ny:∀o1,(wr.alloc o1).cell? ⟨Nb,k,none⟩=some (.bool false):=fun o1=>by
     have h:=(HS.out.below (below_alloc2 wr o1)).bx.get k _ (lM v hlt)
     rw[CS.out]at h;exact h
    clear HS HP hcb
    go_wp2_with fail
    go_roundw
    case rel=>exact⟨k+1,V,O,ds',by omega,rfl,by go_num,jR,UN⟩
    case measure=>simp[intOf];omega
   ·have afk:(bM v k).length ≤10:=by have:=uq k v;rw[oN];omega
    obtain⟨A0,c0,rfl,hc0,_⟩:=CU HS.out.old (fun x hx=>by
     unfold bM at hx
     have:=List.mem_range.1 (List.mem_filter.1 hx).1
     omega)
    have Am:=hide (oN v k)
    have Ny:∀o1,(wr.alloc o1).cell? ⟨Nb,k,none⟩=some (.bool true):=fun o1=>by
     have h:=(HS.out.below (below_alloc2 wr o1)).bx.get k _ (lM v hlt)
     rw[CS.out]at h;exact h
    have hw8:∀o1,(wr.alloc o1).cell? ⟨g+1,k,none⟩=some (.int .i64 ((bH v k k:Nat):Int)):=fun o1=>(HS.out.below (below_alloc2 wr o1)).wx.get k _ (uQ _ hlt)
    have hf8:∀o1,(wr.alloc o1).frozen? ⟨g+1,k,none⟩=false:=fun o1=>(HS.out.below (below_alloc2 wr o1)).wx.frozen k
    obtain⟨tZ,hi0,hz0,hz1,hz2⟩:=info_parts Tryz.infoInt
    have wM:=hide (show ou W ⟨some ⟨b,o,none⟩,dn,dc,ds,lA,ln,lc,ls⟩ v (wr.setCell ⟨g+1,k,none⟩ (.int .i64 ((bM v k).length :Int))) g Nb V (.slice A0 (bM v k).length c0) (.slice none 0 0) (bH v (k+1)) (bM v k) ds' []from by
     have h:=HS.out.now k (bM v k).length
     rw[oN]at h
     rw[oN]
     rw[← SA CS.out]
     exact h)
    have hsA:(wr.setCell ⟨g+1,k,none⟩ (.int .i64 ((bM v k).length :Int))).heap.size =wr.heap.size:=size_setCell _ _ _
    have hb6:=(below_alloc2 (wr.setCell ⟨g+1,k,none⟩ (.int .i64 ((bM v k).length :Int))) (.cells #[.string nm,.int .i64 kd,.int .i64 ad,.int .u8 pl,.slice bA bn bc,.slice rA rn rc,.slice tA tn tc] 81)).trans ((below_alloc2 ((wr.setCell ⟨g+1,k,none⟩ (.int .i64 ((bM v k).length :Int))).alloc (.cells #[.string nm,.int .i64 kd,.int .i64 ad,.int .u8 pl,.slice bA bn bc,.slice rA rn rc,.slice tA tn tc] 81)) (.cells #[.int .i64 (k:Int)] 3)).mono (below_alloc2 _ _).size)
    have wK:=hide (wM.out.below hb6)
    have gq:=hide (show qD (((wr.setCell ⟨g+1,k,none⟩ (.int .i64 ((bM v k).length :Int))).alloc (.cells #[.string nm,.int .i64 kd,.int .i64 ad,.int .u8 pl,.slice bA bn bc,.slice rA rn rc,.slice tA tn tc] 81)).alloc (.cells #[.int .i64 (k:Int)] 3)) wr.heap.size ⟨nm,kd,ad,pl,bA,bn,bc,bs,rA,rn,rc,rs,tA,tn,tc,ts⟩from by
     have hx:=qD.new (wr.setCell ⟨g+1,k,none⟩ (.int .i64 ((bM v k).length :Int))) ⟨nm,kd,ad,pl,bA,bn,bc,bs,rA,rn,rc,rs,tA,tn,tc,ts⟩ 81
     rw[hsA]at hx
     exact hx.below (below_alloc2 _ _) (by simp[hsA]))
    have rQ:=hide (show Reads (((wr.setCell ⟨g+1,k,none⟩ (.int .i64 ((bM v k).length :Int))).alloc (.cells #[.string nm,.int .i64 kd,.int .i64 ad,.int .u8 pl,.slice bA bn bc,.slice rA rn rc,.slice tA tn tc] 81)).alloc (.cells #[.int .i64 (k:Int)] 3)) (wr.heap.size+2) 1 (some ⟨wr.heap.size+1,0,none⟩) 1 [.int .i64 (k:Int)]from
     ⟨rfl,fun _=>⟨_,rfl,by show wr.heap.size+1<wr.heap.size+2;omega,fun j u hu=>by
      have hx:=heap_alloc_new ((wr.setCell ⟨g+1,k,none⟩ (.int .i64 ((bM v k).length :Int))).alloc (.cells #[.string nm,.int .i64 kd,.int .i64 ad,.int .u8 pl,.slice bA bn bc,.slice rA rn rc,.slice tA tn tc] 81)) (.cells #[.int .i64 (k:Int)] 3)
      rw[World.size_alloc,hsA]at hx
      rw[addr_add,Nat.zero_add,cell_of_row _ _ _ _ _ _ hx]
      simpa using hu⟩⟩)
    have hs6:(((wr.setCell ⟨g+1,k,none⟩ (.int .i64 ((bM v k).length :Int))).alloc (.cells #[.string nm,.int .i64 kd,.int .i64 ad,.int .u8 pl,.slice bA bn bc,.slice rA rn rc,.slice tA tn tc] 81)).alloc (.cells #[.int .i64 (k:Int)] 3)).heap.size =wr.heap.size+2:=by simp[hsA]
    have hgh:g+1<wr.heap.size:=hor.2.2
    have JA:=hide (show(∀q,V.ownBlock=some q→q<wr.heap.size)∧(∀q,(Value.slice A0 (bM v k).length c0).ownBlock =some q→q<wr.heap.size)∧(∀d∈ds',pR (fun q=>q<wr.heap.size) d)from
     ⟨fun q hq=>(HS.out.own.lt q hq).2,fun q hq=>(HS.out.old.lt q hq).2,fun d hd=>(HS.out.don d hd).weak (fun q hq=>hq.2.1)⟩)
    clear wM hb6 HS hcb
    go_wp2_with (at_builtin;refine aT _ rfl (.tmp 38) (.tmp 40) 55 rfl (g+2) 3 tZ _ 1 8 Tryz.underlying55 hi0 hz0 hz1 hz2 rfl (by omega) (.slice A0 (bM v k).length c0) (bM v k).length (intCells (bM v k)) rfl wK.out.old (wr.heap.size+2) (some ⟨wr.heap.size+1,0,none⟩) 1 1 [.int .i64 (k:Int)] rfl rQ.out (by intro u hu;simp at hu;subst hu;rfl) (by simp only[maxLen];omega) (by omega) (by rw[hs6];omega) ?_;intro v9 w9 jX qp sj;obtain⟨g9,d9,rfl,_⟩:=jX.form (by omega);have HT:=hide (And.intro jX (And.intro qp sj));clear jX qp sj)
    have UO:∀q,q<wr.heap.size+2→(Value.slice A0 (bM v k).length c0).ownBlock ≠some q→w9.heap[q]?=_:=fun q hq hne=>bY HT.out.2.1 (by rw[hs6];exact hq) hne
    have hO9:∀q,(Value.slice (some ⟨g9,0,none⟩) ((bM v k).length +1) d9).ownBlock =some q→q≠wr.heap.size:=fun q hq=>by
     rcases HT.out.2.2 with e | e
     ·have:=JA.out.2.1 q (e▸hq);omega
     ·rw[e,hs6]at hq;simp only[Option.some.injEq]at hq;omega
    have Mg:=hide hO9
    have fV:=hide (show ou W ⟨some ⟨b,o,none⟩,dn,dc,ds,lA,ln,lc,ls⟩ v w9 g Nb V (.slice (some ⟨g9,0,none⟩) ((bM v k).length +1) d9) (.slice none 0 0) (bH v (k+1)) (bM v (k+1)) ds' []from by
     rw[zG CS.out]
     exact wK.out.WU HT.out.1 HT.out.2.1 HT.out.2.2)
    have Mh:qD w9 wr.heap.size ⟨nm,kd,ad,pl,bA,bn,bc,bs,rA,rn,rc,rs,tA,tn,tc,ts⟩:=by
     have hst:bG (fun q=>some q≠(Value.slice A0 (bM v k).length c0).ownBlock) _ w9:=bG.l7 HT.out.2.1
     have hne:(Value.slice A0 (bM v k).length c0).ownBlock ≠some wr.heap.size:=fun e=>by have:=JA.out.2.1 _ e;omega
     have qw:=UO wr.heap.size (by omega) hne
     obtain⟨⟨y0,y1,y2,y3,y4,y5,y6⟩,yf⟩:=gq.out
     exact⟨⟨hst _ _ (fun e=>hne e.symm) y0,hst _ _ (fun e=>hne e.symm) y1,hst _ _ (fun e=>hne e.symm) y2,hst _ _ (fun e=>hne e.symm) y3,hst _ _ (fun e=>hne e.symm) y4,hst _ _ (fun e=>hne e.symm) y5,hst _ _ (fun e=>hne e.symm) y6⟩,fun q=>(World.frozen?_of_block (a:=⟨wr.heap.size,q,none⟩) qw).trans (yf q)⟩
    have UQ:wr.heap.size<w9.heap.size:=by have:=HT.out.2.1.size;rw[hs6]at this;omega
    have Bd:=hide (show bn≤3∧rn≤8∧tn≤8 from by
     have h1:=fK.out.bl
     have h2:=fK.out.rl
     have h3:=fK.out.tl
     have h4:=Bc.out
     simp only[ak.dev]at h1 h2 h3
     omega)
    have HVO:=hide (show∀q,(Value.slice (some ⟨g9,0,none⟩) ((bM v k).length +1) d9).ownBlock =some q→q<w9.heap.size from fun q hq=>(HT.out.1.lt q hq).2)
    clear q0 q1 q2 q3 q4 q5 q6 Ny hw8 hf8 wK gq rQ UO hO9 HT hs6 hsA
    obtain⟨h,hh⟩:∃h,wr.heap.size=h:=⟨_,rfl⟩
    rw[hh]at JA Mh UQ Mg hgh ⊢
    have HQ:=hide (fun(w':World) (hb:Below w9.heap.size w9 w')=>show qD w' h ⟨nm,kd,ad,pl,bA,bn,bc,bs,rA,rn,rc,rs,tA,tn,tc,ts⟩from Mh.below hb UQ)
    have Qk:=hide (fun(w':World) (hb:Below w9.heap.size w9 w')=>show Below W.heap.size W w' from fV.out.bl.trans (hb.mono fV.out.bl.size))
    clear Mh hh hor
    generalize Value.slice (some ⟨g9,0,none⟩) ((bM v k).length +1) d9=O9 at*
    generalize w9=w4 at*
    obtain⟨⟨_,_,_,_,x4,x5,x6⟩,xf⟩:=HQ.out w4 (Below.refl _ _)
    simp only at x4 x5 x6
    refine aY (fun w'=>w'.cell? ⟨h,4,none⟩=some (.slice bA bn bc)∧w'.cell? ⟨h,5,none⟩=some (.slice rA rn rc)∧w'.cell? ⟨h,6,none⟩=some (.slice tA tn tc)) 10 (by kernel_rfl) ⟨by simpa using x4,by simpa using x5,by simpa using x6⟩ (fun hS inv=>?_)
    refine nW (i:=0) (v:=?_) rfl (by kernel_rfl) (by kernel_rfl) (by kernel_rfl) (by kernel_rfl) (fun _ _ _ h=>h) inv (Or.inl ⟨by rfl,?_⟩) (fun _=>hS) (fun inv=>?_)
    rotate_left
    ·intro w _
     go_simp
     try with_reducible rfl
    try simp only[Act.put,aK,aL,aM]
    refine nW (i:=3) (v:=?_) rfl (by kernel_rfl) (by kernel_rfl) (by kernel_rfl) (by kernel_rfl) (fun _ _ _ h=>h) inv (Or.inl ⟨by rfl,?_⟩) (fun _=>hS) (fun inv=>?_)
    rotate_left
    ·intro w _
     go_simp
     try with_reducible rfl
    try simp only[Act.put,aK,aL,aM]
    refine nW (i:=6) (v:=?_) rfl (by kernel_rfl) (by kernel_rfl) (by kernel_rfl) (by kernel_rfl) (fun _ _ _ h=>h) inv (Or.inl ⟨by rfl,?_⟩) (fun _=>hS) (fun inv=>?_)
    rotate_left
    ·intro w _
     go_simp
     try with_reducible rfl
    try simp only[Act.put,aK,aL,aM]
    refine uK (i:=1) (v:=?_) [2,5,8,10] rfl (by kernel_rfl) (by kernel_rfl) (by kernel_rfl) (by kernel_rfl) (fun _ _ _ h=>h) inv (Or.inl ⟨by rfl,?_⟩) hS (fun inv=>?_)
    rotate_left
    ·intro w hSw
     obtain⟨s1,s2,s3⟩:=hSw
     go_simp
     try with_reducible rfl
    try simp only[Act.put,aK,aL,aM]
    refine uK (i:=4) (v:=?_) [5,8,10] rfl (by kernel_rfl) (by kernel_rfl) (by kernel_rfl) (by kernel_rfl) (fun _ _ _ h=>h) inv (Or.inl ⟨by rfl,?_⟩) hS (fun inv=>?_)
    rotate_left
    ·intro w hSw
     obtain⟨s1,s2,s3⟩:=hSw
     go_simp
     try with_reducible rfl
    try simp only[Act.put,aK,aL,aM]
    refine uK (i:=7) (v:=?_) [8,10] rfl (by kernel_rfl) (by kernel_rfl) (by kernel_rfl) (by kernel_rfl) (fun _ _ _ h=>h) inv (Or.inl ⟨by rfl,?_⟩) hS (fun inv=>?_)
    rotate_left
    ·intro w hSw
     obtain⟨s1,s2,s3⟩:=hSw
     go_simp
     try with_reducible rfl
    try simp only[Act.put,aK,aL,aM]
    refine rO 2 inv fun K hK=>?_
    go_simp
    go_at_call 129
    refine(Ip bs bA bn bc _ (by have:=Bd.out.1;omega) (WQ (gF.out _ (Qk.out _ (by first | exact Below.refl _ _ | exact(Below.refl _ _).drew))).bs)).mono ?_
    rintro e w5 ⟨v1,rfl,ho1,hb5⟩
    have H5:=hide (show Below w4.heap.size w4 w5 from by first | exact hb5 | exact((Below.refl _ _).drew).trans hb5)
    have ho1:w5.ownsRow w4.heap.size 3 1 v1 bn (bs.flatMap nI):=ho1
    obtain⟨B1,e1,rfl,he1,hs1,hg1⟩:=bD.lC wR ho1 Bc.out.1
    have HO1:=hide ho1
    clear he1 hs1 hg1
    obtain⟨⟨_,_,_,_,x4,x5,x6⟩,xf⟩:=HQ.out w5 H5.out
    simp only at x4 x5 x6
    clear ho1 hb5
    go_wp2_with fail
    refine hK.out _ _ (fun _=>⟨x4,x5,x6⟩) (fun inv=>?_)
    clear hK K hS
    have hS:=And.intro x4 (And.intro x5 x6)
    try simp only[Act.put,aK,aL,aM]
    refine nW (i:=9) (v:=?_) rfl (by kernel_rfl) (by kernel_rfl) (by kernel_rfl) (by kernel_rfl) (fun _ _ _ h=>h) inv (Or.inl ⟨by rfl,?_⟩) (fun _=>hS) (fun inv=>?_)
    rotate_left
    ·intro w _
     go_simp
     try with_reducible rfl
    try simp only[Act.put,aK,aL,aM]
    refine rO 5 inv fun K hK=>?_
    go_simp
    go_at_call 130
    refine(FZ rs rA rn rc _ (by have:=Bd.out.2.1;omega) (gF.out _ (Qk.out _ (by first | exact H5.out | exact H5.out.drew))).rs.sl).mono ?_
    rintro e w6 ⟨v2,rfl,ho2,hb6⟩
    have hb6:Below w5.heap.size w5 w6:=(by first | exact hb6 | exact((Below.refl _ _).drew).trans hb6)
    have H56:=hide hb6
    have H6:=hide (H5.out.trans (hb6.mono H5.out.size))
    have ho2:w6.ownsRow w5.heap.size 161 5 v2 rn (rs.flatMap bg.cells):=ho2
    obtain⟨B2,e2,rfl,he2,hs2,hg2⟩:=bD.lC bg.len ho2 Bc.out.2.1
    have mO:=hide ho2
    clear he2 hs2 hg2
    obtain⟨⟨_,_,_,_,x4,x5,x6⟩,xf⟩:=HQ.out w6 H6.out
    simp only at x4 x5 x6
    clear ho2 hb6
    go_wp2_with fail
    refine hK.out _ _ (fun _=>⟨x4,x5,x6⟩) (fun inv=>?_)
    clear hK K hS
    have hS:=And.intro x4 (And.intro x5 x6)
    try simp only[Act.put,aK,aL,aM]
    refine rO 8 inv fun K hK=>?_
    go_simp
    go_at_call 131
    refine(Es ts tA tn tc _ (by have:=Bd.out.2.2;omega) (gF.out _ (Qk.out _ (by first | exact H6.out | exact H6.out.drew))).ts).mono ?_
    rintro e w7 ⟨v3,rfl,ho3,Ao⟩
    have Ao:Below w6.heap.size w6 w7:=(by first | exact Ao | exact((Below.refl _ _).drew).trans Ao)
    have H67:=hide Ao
    have H7:=hide (H6.out.trans (Ao.mono H6.out.size))
    have ho3:w7.ownsRow w6.heap.size 159 3 v3 tn (ts.flatMap aG.cells):=ho3
    obtain⟨B3,e3,rfl,uR,hs3,hg3⟩:=bD.lC aG.len ho3 Bc.out.2.2
    have GU:=hide ho3
    clear uR hs3 hg3
    obtain⟨⟨_,_,_,_,x4,x5,x6⟩,xf⟩:=HQ.out w7 H7.out
    simp only at x4 x5 x6
    clear ho3 Ao
    go_wp2_with fail
    refine hK.out _ _ (fun _=>⟨x4,x5,x6⟩) (fun inv=>?_)
    clear hK K hS
    have hS:=And.intro x4 (And.intro x5 x6)
    try simp only[Act.put,aK,aL,aM]
    refine rT 10 inv fun K hK=>?_
    go_simp
    refine hK.out _ _ (fun inv=>?_)
    clear hK K
    try simp only[Act.put,aK,aL,aM]
    refine rT 11 inv fun K hK=>?_
    go_simp
    refine hK.out _ _ (fun inv=>?_)
    clear hK K
    try simp only[Act.put,aK,aL,aM]
    refine rT 12 inv fun K hK=>?_
    go_simp
    refine hK.out _ _ (fun inv=>?_)
    clear hK K
    try simp only[Act.put,aK,aL,aM]
    refine rT 13 inv fun K hK=>?_
    go_simp
    refine hK.out _ _ (fun inv=>?_)
    clear hK K
    try simp only[Act.put,aK,aL,aM]
    refine rT 14 inv fun K hK=>?_
    go_simp
    refine hK.out _ _ (fun inv=>?_)
    clear hK K
    try simp only[Act.put,aK,aL,aM]
    refine rD ?_
    have JB:=(HQ.out w7 H7.out).qg B1 B2 B3 bn rn tn e1 e2 e3 bs rs ts
    obtain⟨X3,SF⟩:=Lb UQ H5.out H56.out H67.out (gF.out _ (Qk.out _ (Below.refl _ _))) HO1.out mO.out GU.out (.slice B1 bn e1) (.slice B2 rn e2) (.slice B3 tn e3)
    have X4:=Qg w7 h (.slice B1 bn e1) (.slice B2 rn e2) (.slice B3 tn e3)
    rw[← X4]at X3 SF
    have hss:=Nw (Below.refl 0 w7) (Nat.zero_le h) (.slice B1 bn e1) (.slice B2 rn e2) (.slice B3 tn e3)
    have xM:=hide (show ou W ⟨some ⟨b,o,none⟩,dn,dc,ds,lA,ln,lc,ls⟩ v (qg w7 h (.slice B1 bn e1) (.slice B2 rn e2) (.slice B3 tn e3)) g Nb V O9 (.slice none 0 0) (bH v (k+1)) (bM v (k+1)) ds' []from
     (fV.out.below H7.out).keep h (Nat.le_of_eq X4.symm) hss.os hss.tape hss.output (fun q _ hq=>SC w7 h _ _ _ hq) hgh (fun e=>Nat.lt_irrefl _ (JA.out.1 h e)) (fun e=>Mg.out h e rfl) (fun e=>by cases e) (fun d hd=>(JA.out.2.2 d hd).weak (fun q hq=>by omega)))
    have sD:=hide X3
    have JC:=hide (show pR (fun q=>g+2≤q∧q<((qg w7 h (.slice B1 bn e1) (.slice B2 rn e2) (.slice B3 tn e3))).heap.size ∧V.ownBlock≠some q∧O9.ownBlock≠some q∧(Value.slice none 0 0).ownBlock ≠some q) ⟨nm,kd,ad,pl,B1,bn,e1,bs,B2,rn,e2,rs,B3,tn,e3,ts⟩from SF.weak (fun q hq=>⟨by have:=hq.1;omega,hq.2,fun e=>by have h1:=JA.out.1 q e;have:=hq.1;omega,fun e=>by have h1:=HVO.out q e;have:=hq.1;omega,fun e=>by cases e⟩))
    clear X3 SF X4 hss H5 H56 H67 H6 H7 HO1 mO GU HQ Qk fV JA Mg HVO inv hS x4 x5 x6 xf UQ
    unfold qg at JB xM sD JC
    generalize World.setCell (World.setCell (World.setCell w7 _ _) _ _) _ _=w8 at*
    obtain⟨⟨y0,y1,y2,y3,y4,y5,y6⟩,_⟩:=JB
    simp only at y0 y1 y2 y3 y4 y5 y6
    have gx:=xM.out.gx.get 0 _ rfl
    have hba:=below_alloc2 w8 (.cells #[.string nm,.int .i64 kd,.int .i64 ad,.int .u8 pl,.slice B1 bn e1,.slice B2 rn e2,.slice B3 tn e3] 81)
    have Et:=hide (xM.out.below hba)
    have mE:=hide (sD.out.below hba hba.size)
    have jS:=hide (JC.out.weak (q:=fun q=>g+2≤q∧q<(w8.alloc (.cells #[.string nm,.int .i64 kd,.int .i64 ad,.int .u8 pl,.slice B1 bn e1,.slice B2 rn e2,.slice B3 tn e3] 81)).heap.size ∧V.ownBlock≠some q∧O9.ownBlock≠some q∧(Value.slice none 0 0).ownBlock ≠some q) (fun q hq=>⟨hq.1,Nat.lt_of_lt_of_le hq.2.1 hba.size,hq.2.2⟩))
    have hgc:=fun o1=>(xM.out.below (below_alloc2 w8 o1)).gx.get 0 _ rfl
    have rQ:=hide (show Reads (w8.alloc (.cells #[.string nm,.int .i64 kd,.int .i64 ad,.int .u8 pl,.slice B1 bn e1,.slice B2 rn e2,.slice B3 tn e3] 81)) (w8.heap.size+1) 7 (some ⟨w8.heap.size,0,none⟩) 1 (ak.cells ⟨nm,kd,ad,pl,B1,bn,e1,bs,B2,rn,e2,rs,B3,tn,e3,ts⟩)from
     ⟨rfl,fun _=>⟨_,rfl,Nat.lt_succ_self _,fun j u hu=>by
      rw[addr_add,Nat.zero_add,cell_of_row _ _ _ _ _ _ (heap_alloc_new w8 _)]
      simpa[ak.cells]using hu⟩⟩)
    have acI:ds'.length≤10:=by
     have h1:=congrArg List.length HP.out
     rw[List.length_map]at h1
     have h2:(bP v (ds.map ak.dev) k).length ≤k:=by
      unfold bP
      have h3:=List.length_filterMap_le (fun i=>(ds.map ak.dev)[i]?) (bM v k)
      have h4:=uq k v
      rw[oN]at h3
      omega
     omega
    have HGM:=hide (fun(w9:World) (hg:(w8.alloc (.cells #[.string nm,.int .i64 kd,.int .i64 ad,.int .u8 pl,.slice B1 bn e1,.slice B2 rn e2,.slice B3 tn e3] 81)).grownBy w9 V.ownBlock)=>show Bx w9 g #[V,.slice none 0 0] 25 from Et.out.gx.same (bY hg Et.out.gx.lt (fun e=>by have:=(Et.out.own.lt g e).1;omega)))
    obtain⟨i1,hi1,hy0',acJ,acK⟩:=info_parts Tryz.infoDevice
    have acL:g+2≤(w8.alloc (.cells #[.string nm,.int .i64 kd,.int .i64 ad,.int .u8 pl,.slice B1 bn e1,.slice B2 rn e2,.slice B3 tn e3] 81)).heap.size :=Et.out.ord.2.2
    clear hba xM sD JC
    go_wp2_with (at_builtin;go_loud (refine aT _ rfl (.tmp 55) (.tmp 57) 22 rfl (g+2) 81 i1 _ 7 112 Tryz.underlying22 hi1 hy0' acJ acK rfl (by omega) V ds'.length (ds'.flatMap ak.cells) rfl Et.out.own (w8.heap.size+1) (some ⟨w8.heap.size,0,none⟩) 1 1 _ rfl rQ.out (ak.one _) (by simp only[maxLen];omega) (by omega) (by exact acL) ?_);intro v9 w9 jX qp sj;obtain⟨g9',d9',rfl,_⟩:=jX.form (by omega);have z0:=(HGM.out w9 qp).get 0 _ rfl;have z1:=(HGM.out w9 qp).frozen 0;have HT:=hide (And.intro jX (And.intro qp sj));clear jX qp sj)
    have HN:=hide (Et.out.F9 (d:=⟨nm,kd,ad,pl,B1,bn,e1,bs,B2,rn,e2,rs,B3,tn,e3,ts⟩) mE.out jS.out HT.out.1 HT.out.2.1 HT.out.2.2)
    have Ql:=hide (show(ds'++[(⟨nm,kd,ad,pl,B1,bn,e1,bs,B2,rn,e2,rs,B3,tn,e3,ts⟩:ak)]).map ak.dev=bP v (ds.map ak.dev) (k+1)from by
     rw[qZ CS.out HRR.out,List.map_append,HP.out];rfl)
    go_roundw
    case rel=>exact⟨k+1,_,O9,ds'++[⟨nm,kd,ad,pl,B1,bn,e1,bs,B2,rn,e2,rs,B3,tn,e3,ts⟩],by omega,rfl,by go_num,HN,Ql⟩
    case measure=>simp[intOf];omega
  ·obtain rfl:k=dn:=by omega
   have x1:wr.cell? ⟨W.heap.size,1,none⟩=some (.slice lA ln lc):=HS.out.nx.get 1 _ rfl
   go_wp2_with fail
   clear x1
   go_loopw [64] (fun i wr=>∃(j:Nat) (L:Value) (ls':List ah),j≤ln∧i= .int .i64 (j:Int)∧Hid (ou W ⟨dA,k,dc,ds,lA,ln,lc,ls⟩ v wr g Nb V O L (bH v k) (bM v k) ds' ls')∧Hid (ls'=fH v k (ls.take j))) (fun i _=>ln - (intOf i).toNat)
   case atStart=>exact⟨0,_,[],Nat.zero_le _,rfl,HS,hide rfl⟩
   case round=>
    clear HS
    obtain⟨j,L,ls',hj,rfl,HS,uf⟩:=hrel
    by_cases hjl:j<ln
    ·obtain⟨r,hr⟩:∃r,ls[j]?=some r:=⟨_,List.getElem?_eq_getElem (by have:=jL.out;omega)⟩
     have hna:=rX.out wr HS.out.bl
     obtain⟨lb,lo,rfl,_,_⟩:=hna.ls.2 (by show 0<ln;omega)
     obtain⟨_,q0,q1,q2,q3⟩:=oM hna.ls hr
     obtain⟨⟨ha1,ha2⟩,hb1,hb2⟩:=UK.out r (List.mem_of_getElem? hr)
     have j3:=hide (Er v k hr)
     clear hna hr
     obtain⟨ra,rp,rb,rq⟩:=r
     simp only at q0 q1 q2 q3 ha1 ha2 hb1 hb2
     obtain⟨an,rfl⟩:∃an:Nat,ra=(an:Int):=⟨ra.toNat,by omega⟩
     obtain⟨bn,rfl⟩:∃bn:Nat,rb=(bn:Int):=⟨rb.toNat,by omega⟩
     have han:an<k:=by omega
     have hbn:bn<k:=by omega
     clear ha1 ha2 hb1 hb2
     obtain⟨va,hva⟩:∃va,v an=va:=⟨_,rfl⟩
     have qo:=hide hva
     have lN:=below_alloc2 wr (.cells #[.int .i64 (an:Int),.int .i64 rp,.int .i64 (bn:Int),.int .i64 rq] 85)
     have jR:=hide (HS.out.below lN)
     have kG:=hide (Bx.new wr #[.int .i64 (an:Int),.int .i64 rp,.int .i64 (bn:Int),.int .i64 rq] 85)
     have Ny:∀o1,(wr.alloc o1).cell? ⟨Nb,an,none⟩=some (.bool va):=fun o1=>by
      have h:=(HS.out.below (below_alloc2 wr o1)).bx.get an _ (lM v han)
      rw[hva]at h;exact h
     have hLN:∀q,wr.heap.size=q→L.ownBlock≠some q:=fun q hq e=>by have:=(HS.out.j5.lt q e).2;omega
     clear lN hva HS
     cases va
     ·have HN:=hide (show ls'=fH v k (ls.take (j+1))from by rw[j3.out,if_neg (by show¬v an=true;rw[qo.out];decide),List.append_nil];exact uf.out)
      go_wp2_with fail
      go_roundw
      case rel=>exact⟨j+1,L,ls',by omega,by go_num,jR,HN⟩
      case measure=>simp[intOf];omega
     ·have HN:=hide (show ls'++[II v k ⟨(an:Int),rp,(bn:Int),rq⟩]=fH v k (ls.take (j+1))from by rw[j3.out,if_pos (by show v an=true;exact qo.out),← uf.out])
      go_wp2_with fail
      clear q0 q1 q2 q3 Ny
      generalize World.alloc wr _=w8 at*
      obtain⟨N8,hN8⟩:∃N8,wr.heap.size=N8:=⟨_,rfl⟩
      rw[hN8]at kG hLN ⊢
      clear hN8
      have HQ:=hide (fun(w':World) (h1:Bx w' g #[V,L] 25) (h2:Bx w' (g+1) (mG (bH v k) k) 3) (h3:Bx w' N8 #[.int .i64 (an:Int),.int .i64 rp,.int .i64 (bn:Int),.int .i64 rq] 85)=>show(w'.cell? ⟨g,1,none⟩=some L∧w'.cell? ⟨g+1,an,none⟩=some (.int .i64 ((bH v k an:Nat):Int))∧w'.cell? ⟨g+1,bn,none⟩=some (.int .i64 ((bH v k bn:Nat):Int)))∧w'.cell? ⟨N8,0,none⟩=some (.int .i64 (an:Int))∧w'.cell? ⟨N8,1,none⟩=some (.int .i64 rp)∧w'.cell? ⟨N8,2,none⟩=some (.int .i64 (bn:Int))∧w'.cell? ⟨N8,3,none⟩=some (.int .i64 rq)from
       ⟨⟨h1.get 1 _ rfl,h2.get an _ (uQ _ han),h2.get bn _ (uQ _ hbn)⟩,h3.get 0 _ rfl,h3.get 1 _ rfl,h3.get 2 _ rfl,h3.get 3 _ rfl⟩)
      have hNL:=kG.out.lt
      have hdr:=(Below.refl w8.heap.size w8).drew
      have fV:=hide (jR.out.below hdr)
      have rZ:=hide (kG.out.below hdr)
      clear hdr jR kG
      refine aY (fun w'=>(w'.cell? ⟨g,1,none⟩=some L∧w'.cell? ⟨g+1,an,none⟩=some (.int .i64 ((bH v k an:Nat):Int))∧w'.cell? ⟨g+1,bn,none⟩=some (.int .i64 ((bH v k bn:Nat):Int)))∧w'.cell? ⟨N8,0,none⟩=some (.int .i64 (an:Int))∧w'.cell? ⟨N8,1,none⟩=some (.int .i64 rp)∧w'.cell? ⟨N8,2,none⟩=some (.int .i64 (bn:Int))∧w'.cell? ⟨N8,3,none⟩=some (.int .i64 rq)) 20 (by kernel_rfl) (HQ.out _ fV.out.gx fV.out.wx rZ.out) (fun hS inv=>?_)
      generalize World.drew w8=wd at*
      revert inv
      refine rP 0 hS ?_
      refine rL 1 [18,20] rfl hS (by intro w hSw;obtain⟨⟨s0,s1,s2⟩,s3,s4,s5,s6⟩:=hSw;go_simp;try with_reducible rfl) ?_
      refine rP 2 hS ?_
      refine rP 3 hS ?_
      refine rL 4 [5,6,16,17,18,20] rfl hS (by intro w hSw;obtain⟨⟨s0,s1,s2⟩,s3,s4,s5,s6⟩:=hSw;go_simp;try with_reducible rfl) ?_
      refine rP 5 hS ?_
      refine rL 6 [16,17,18,20] rfl hS (by intro w hSw;obtain⟨⟨s0,s1,s2⟩,s3,s4,s5,s6⟩:=hSw;go_simp;try with_reducible rfl) ?_
      refine rP 7 hS ?_
      refine rL 8 [16,17,18,20] rfl hS (by intro w hSw;obtain⟨⟨s0,s1,s2⟩,s3,s4,s5,s6⟩:=hSw;go_simp;try with_reducible rfl) ?_
      refine rP 9 hS ?_
      refine rP 10 hS ?_
      refine rL 11 [12,13,16,17,18,20] rfl hS (by intro w hSw;obtain⟨⟨s0,s1,s2⟩,s3,s4,s5,s6⟩:=hSw;go_simp;try with_reducible rfl) ?_
      refine rP 12 hS ?_
      refine rL 13 [16,17,18,20] rfl hS (by intro w hSw;obtain⟨⟨s0,s1,s2⟩,s3,s4,s5,s6⟩:=hSw;go_simp;try with_reducible rfl) ?_
      refine rP 14 hS ?_
      refine rL 15 [16,17,18,20] rfl hS (by intro w hSw;obtain⟨⟨s0,s1,s2⟩,s3,s4,s5,s6⟩:=hSw;go_simp;try with_reducible rfl) ?_
      refine rP 16 hS ?_
      intro inv
      refine rO 17 inv fun K hK=>?_
      go_simp
      have Ga:=below_alloc2 wd (.cells #[.int .i64 ((bH v k an:Nat):Int),.int .i64 rp,.int .i64 ((bH v k bn:Nat):Int),.int .i64 rq] 85)
      have mM:=hide (Bx.new wd #[.int .i64 ((bH v k an:Nat):Int),.int .i64 rp,.int .i64 ((bH v k bn:Nat):Int),.int .i64 rq] 85)
      have jg:=hide (fV.out.below Ga)
      have qd:=hide (rZ.out.below Ga)
      have Nz:(wd.alloc (.cells #[.int .i64 ((bH v k an:Nat):Int),.int .i64 rp,.int .i64 ((bH v k bn:Nat):Int),.int .i64 rq] 85)).heap.size =wd.heap.size+1:=by simp
      clear Ga fV rZ hS
      generalize World.alloc wd _=jN at*
      have hS:=HQ.out _ jg.out.gx jg.out.wx qd.out
      refine hK.out _ _ (fun _=>hS) ?_
      clear hK K hS inv
      intro inv
      try simp only[Act.put,aK,aL,aM]
      obtain⟨tZ,hi0,hz0,hz1,hz2⟩:=info_parts Tryz.infoLink
      have X5:g+2≤jN.heap.size:=jg.out.ord.2.2
      have hll:ls'.length≤15:=by
       have h1:=congrArg List.length uf.out
       have h2:=List.length_filter_le (fun l=>v l.a.toNat) (ls.take j)
       have h3:=List.length_take_le j ls
       unfold fH at h1
       rw[List.length_map]at h1
       omega
      refine rO 18 inv fun K hK=>?_
      rw[if_pos (by rfl)]
      refine nP _ (.tmp 74) (.tmp 90) 23 rfl (g+2) 85 tZ _ 4 32 Tryz.underlying23 hi0 hz0 hz1 hz2 rfl (by omega) L ls'.length (ls'.flatMap ah.cells) rfl jg.out.j5 (wd.heap.size+1) (some ⟨wd.heap.size,0,none⟩) 1 1 (ah.cells ⟨((bH v k an:Nat):Int),rp,((bH v k bn:Nat):Int),rq⟩) rfl ⟨rfl,fun _=>⟨_,rfl,Nat.lt_succ_self _,fun j' u hu=>by
       rw[addr_add,Nat.zero_add]
       exact mM.out.get j' u (by simpa[ah.cells]using hu)⟩⟩ (ah.one _) (by simp only[maxLen];omega) (by omega) (by omega) ?_
      intro v9 w9 jX qp sj
      obtain⟨g9,d9,rfl,_⟩:=jX.form (by omega)
      have GV:=hide (show Bx w9 g #[V,L] 25 from jg.out.gx.same (bY qp jg.out.gx.lt (fun e=>by have:=(jg.out.j5.lt g e).1;omega)))
      have X6:=hide (show Bx w9 (g+1) (mG (bH v k) k) 3 from jg.out.wx.same (bY qp jg.out.wx.lt (fun e=>by have:=(jg.out.j5.lt _ e).1;omega)))
      have HLX:=hide (show w9.cell? ⟨N8,0,none⟩=some (.int .i64 (an:Int))∧w9.cell? ⟨N8,1,none⟩=some (.int .i64 rp)∧w9.cell? ⟨N8,2,none⟩=some (.int .i64 (bn:Int))∧w9.cell? ⟨N8,3,none⟩=some (.int .i64 rq)from by
       have hb:=bY qp qd.out.lt (hLN N8 rfl)
       have h3:=qd.out.same hb
       exact⟨h3.get 0 _ rfl,h3.get 1 _ rfl,h3.get 2 _ rfl,h3.get 3 _ rfl⟩)
      have fM:=hide (jg.out.DJ (l:=⟨((bH v k an:Nat):Int),rp,((bH v k bn:Nat):Int),rq⟩) jX qp sj)
      clear jX qp sj
      have hS:(w9.cell? ⟨g,1,none⟩=some L∧w9.cell? ⟨g+1,an,none⟩=some (.int .i64 ((bH v k an:Nat):Int))∧w9.cell? ⟨g+1,bn,none⟩=some (.int .i64 ((bH v k bn:Nat):Int)))∧w9.cell? ⟨N8,0,none⟩=some (.int .i64 (an:Int))∧w9.cell? ⟨N8,1,none⟩=some (.int .i64 rp)∧w9.cell? ⟨N8,2,none⟩=some (.int .i64 (bn:Int))∧w9.cell? ⟨N8,3,none⟩=some (.int .i64 rq):=⟨⟨GV.out.get 1 _ rfl,X6.out.get an _ (uQ _ han),X6.out.get bn _ (uQ _ hbn)⟩,HLX.out⟩
      refine hK.out _ _ (fun _=>hS) ?_
      clear hK K inv
      intro inv
      try simp only[Act.put,aK,aL,aM]
      revert inv
      refine rP 19 hS ?_
      intro inv
      have s0:w9.cell? ⟨g,1,none⟩=some L:=GV.out.get 1 _ rfl
      have f0:w9.frozen? ⟨g,1,none⟩=false:=GV.out.frozen 1
      refine rT 20 inv fun K hK=>?_
      go_simp
      refine hK.out _ _ ?_
      clear hK K inv
      intro inv
      try simp only[Act.put,aK,aL,aM]
      refine rD ?_
      clear inv
      clear s0 f0 hS GV X6 HLX HQ
      go_wp2_with fail
      go_roundw
      case rel=>exact⟨j+1,_,ls'++[⟨((bH v k an:Nat):Int),rp,((bH v k bn:Nat):Int),rq⟩],by omega,by go_num,fM,hide HN.out⟩
      case measure=>simp[intOf];omega
    ·obtain rfl:j=ln:=by omega
     obtain⟨A1,c1,rfl,hc1,hs1,hA1⟩:=bD.lC ak.len HS.out.own rfl
     have hm1:c1≤maxLen:=uy HS.out.own
     obtain⟨A2,c2,rfl,hc2,hs2,hA2⟩:=bD.lC ah.len HS.out.j5 rfl
     have hm2:c2≤maxLen:=uy HS.out.j5
     obtain⟨A3,c3,rfl,hc3,hs3⟩:=CU HS.out.old (fun x hx=>by
      unfold bM at hx
      have:=List.mem_range.1 (List.mem_filter.1 hx).1
      omega)
     have JD:=hide (And.intro hs1 (And.intro hs2 hs3))
     have k0:=HS.out.gx.get 0 _ rfl
     have k1:=HS.out.gx.get 1 _ rfl
     have r0:=HS.out.rx.get 0 _ rfl
     have r1:=HS.out.rx.get 1 _ rfl
     have f2:=HS.out.rx.frozen 0
     have f3:=HS.out.rx.frozen 1
     have hor:=HS.out.ord
     have hgn:g≠W.heap.size+1:=by omega
     clear hs1 hs2 hs3
     go_wp2
     have hst:bG (fun q=>q≠W.heap.size+1) wr ((wr.setCell ⟨W.heap.size+1,0,none⟩ (.slice A1 ds'.length c1)).setCell ⟨W.heap.size+1,1,none⟩ (.slice A2 ls'.length c2)):=(bG.kH ⟨W.heap.size+1,0,none⟩ _).trans (bG.kH ⟨W.heap.size+1,1,none⟩ _)
     have zH:(((wr.setCell ⟨W.heap.size+1,0,none⟩ (.slice A1 ds'.length c1)).setCell ⟨W.heap.size+1,1,none⟩ (.slice A2 ls'.length c2))).heap.size =wr.heap.size:=by simp[World.setCell]
     have hA3:∀a,A3=some a→g+2≤a.block:=fun a ha=>by
      have:=(HS.out.old.lt a.block (by rw[ha];rfl)).1
      exact this
     have hlk:∀l∈ls',l.ok:=fun l hl=>by
      rw[uf.out]at hl
      unfold fH at hl
      obtain⟨l0,hl0,rfl⟩:=List.mem_map.1 hl
      have hm0:=List.mem_of_mem_take (List.mem_filter.1 hl0).1
      have h0:=(rX.out wr HS.out.bl).L6 l0 hm0
      have h1:=UK.out l0 hm0
      have n1:=yM v k l0.a.toNat
      have n2:=yM v k l0.b.toNat
      refine⟨?_,h0.2.1,?_,h0.2.2.2⟩
      ·show aO ((bH v k l0.a.toNat:Nat):Int)
       simp only[aO];omega
      ·show aO ((bH v k l0.b.toNat:Nat):Int)
       simp only[aO];omega
     refine bodyPost_ret (v:=.tuple #[.agg #[.slice A1 ds'.length c1,.slice A2 ls'.length c2],.slice A3 (bM v k).length c3]) (by simp[results,Tryz.f104,go_sem,r0,r1]) rfl ⟨⟨A1,ds'.length,c1,ds',A2,ls'.length,c2,ls'⟩,A3,c3,v,rfl,?_,⟨fun a ha=>by have:=hA1 a ha;omega,fun a ha=>by have:=hA2 a ha;omega,fun d hd=>(HS.out.don d hd).weak (fun q hq=>by have:=hq.1;omega)⟩,aak.out,HP.out,?_,?_,?_⟩
     ·rw[zH]
      exact⟨JD.out.1.stay hst (fun a ha=>by have:=hA1 a ha;omega) (Nat.le_refl _),fun d hd=>(HS.out.dev d hd).stay hst ((HS.out.don d hd).weak (fun q hq=>by have:=hq.1;omega)) (Nat.le_refl _),JD.out.2.1.stay hst (fun a ha=>by have:=hA2 a ha;omega) (Nat.le_refl _),hlk,⟨hc1,hm1⟩,⟨hc2,hm2⟩⟩
     ·have h:=uf.out
      rw[List.take_of_length_le (Nat.le_of_eq jL.out)]at h
      exact h
     ·rw[zH]
      exact JD.out.2.2.stay hst (fun a ha=>by have:=hA3 a ha;omega) (Nat.le_refl _)
     ·exact(HS.out.bl.setCell (by show _≤W.heap.size+1;omega) _).setCell (by show _≤W.heap.size+1;omega) _
end Go.Proofs.YtifkacnoiocebaaGreat
