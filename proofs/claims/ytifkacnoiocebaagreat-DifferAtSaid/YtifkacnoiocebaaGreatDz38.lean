/- A part of the proof: Sp18, Rd14, RdR, RdF, Sp21. -/
import Derived.Test.YtifkacnoiocebaaGreatDz30
import Derived.Test.YtifkacnoiocebaaGreatDz31
import Derived.Test.YtifkacnoiocebaaGreatDz34
import Derived.Test.YtifkacnoiocebaaGreatDz35
import Derived.Test.YtifkacnoiocebaaGreatDz37
set_option linter.unusedVariables false
set_option linter.unusedSimpArgs false
set_option maxRecDepth 100000
set_option maxHeartbeats 8000000
namespace Go.Proofs.YtifkacnoiocebaaGreat
open Go.Maps Go.RowKit Go.WideElems
theorem MV {ds:List Dev} {ls:List ah} (hd:∀d∈ds,fU d) (hr:∀d∈ds,∀r∈d.rules,r.ok) {x:Pl} {c:Nat} (hc:c<16384):∀k,iC ds ls k x c=true→∃y,aD ls y=some x
 |0,h=>by
  obtain⟨hf,e⟩:=jA hc
  have h1:=E9 (ds:=ds) (ls:=ls) (x:=x) hf
  unfold Gr at h1
  rw[e]at h1
  obtain⟨i,d,_,_,h2,_⟩:=h1.1 h
  exact⟨_,h2⟩
 |k+1,h=>by
  rcases(zf hd hr k x c hc).1 h with h | ⟨i,d,o,_,h2,_⟩
  ·exact MV hd hr hc k h
  ·exact⟨_,h2⟩
section
variable {w w':World} {s mb:Nat} {rd:Int} {D:aB→Prop} {blk:aB→Nat} {T:aB→Nat→Int} {M:aB→Option Value}
theorem gV.up (h:gV w s mb rd D blk T M) (hb:RowKit.Below w.heap.size w w'):gV w' s mb rd D blk T M:=
 h.same (fun b hh=>hb.block b (by
  rcases hh with rfl | rfl | ⟨x,hx,rfl⟩
  ·exact jO h.c0
  ·exact h.mp.lt
  ·exact jO (h.tab x hx 0 (by omega))))
theorem gV.look (h:gV w s mb rd D blk T M) (x y:Int) (hx:aO x) (hy:aO y):(D (x,y)∧(Instr.lookup 42 (.map (some mb)) (.agg #[.int .i64 x,.int .i64 y]) false).run Tryz.prog w= .ok (.slice (some ⟨blk (x,y),0,none⟩) 16384 16384) w)∨
  (¬D (x,y)∧(Instr.lookup 42 (.map (some mb)) (.agg #[.int .i64 x,.int .i64 y]) false).run Tryz.prog w= .ok (.slice none 0 0) w):=by
 have hl:=h.mp.IY x y hx hy
 by_cases hD:D (x,y)
 ·rw[h.val _ hD]at hl
  exact .inl ⟨hD,hl⟩
 ·rw[h.no _ hD]at hl
  exact .inr ⟨hD,hl⟩
end
theorem Gu (W:World) (s mb:Nat) (rd:Int) (D:aB→Prop) (blk:aB→Nat) (T:aB→Nat→Int) (M:aB→Option Value) (h:gV W s mb rd D blk T M) (x y:Int) (hx:aO x) (hy:aO y) (p:P4) (R:Int) (hR1:D (x,y)→dH p=true→R=T (x,y) (iV p)) (hR2:(¬D (x,y)∨dH p=false)→R= -1):
  Calls Tryz.prog 11 #[.pointer (some ⟨s,0,none⟩),.agg #[.int .i64 x,.int .i64 y],.agg #[.int .i64 p.src,.int .i64 p.dst,.int .i64 p.dz,.int .i64 p.dU]] W fun e W'=>e= .returned (.int .i64 R)∧RowKit.Below W.heap.size W W':=by
 obtain⟨a,b,c,d⟩:=p
 simp only
 have HS:=hide h
 have HR1:=hide hR1
 have HR2:=hide hR2
 have HG:∃W1,W1=(W.alloc (.cells #[.int .i64 x,.int .i64 y] 27)).alloc (.cells #[.int .i64 a,.int .i64 b,.int .i64 c,.int .i64 d] 29):=⟨_,rfl⟩
 obtain⟨W1,hG⟩:=HG
 have hb1:RowKit.Below W.heap.size W W1:=by rw[hG];exact(below_alloc2 W _).trans ((below_alloc2 _ _).mono (by simp))
 have HB1:=hide hb1
 have hz:W1.heap.size=W.heap.size+2:=by rw[hG];simp
 have HZ:=hide hz
 have hb0:dO W1 W.heap.size #[.int .i64 x,.int .i64 y]:=by rw[hG];exact(dO.new W _ _).below (below_alloc2 _ _) (by simp)
 have hbp:dO W1 (W.heap.size+1) #[.int .i64 a,.int .i64 b,.int .i64 c,.int .i64 d]:=by
  rw[hG]
  have:=dO.new (W.alloc (.cells #[.int .i64 x,.int .i64 y] 27)) #[.int .i64 a,.int .i64 b,.int .i64 c,.int .i64 d] 29
  simpa using this
 have HX:=hide (And.intro hb0 hbp)
 have HGG:=hide hG
 clear h hR1 hR2 hG hb1 hz hb0 hbp
 go_enter Tryz.func11,Tryz.ntmps11
 go_wp2_with fail
 rw[← HGG.out]
 have c1:W1.cell? ⟨s,1,none⟩=some (.map (some mb)):=(HS.out.up HB1.out).c1
 have z0:W1.cell? ⟨W.heap.size,0,none⟩=some (.int .i64 x):=HX.out.1.1 0 _ rfl
 have z1:W1.cell? ⟨W.heap.size,1,none⟩=some (.int .i64 y):=HX.out.1.1 1 _ rfl
 have HB2:=hide HB1.out.drew
 have bZ:=hide (And.intro (HX.out.1.below (RowKit.Below.refl _ W1).drew (jO (HX.out.1.1 0 _ rfl))) (HX.out.2.below (RowKit.Below.refl _ W1).drew (jO (HX.out.2.1 0 _ rfl))))
 have HS2:=hide (HS.out.up HB2.out)
 rcases HS2.out.look x y hx hy with⟨hD,hlk⟩ | ⟨hD,hlk⟩
 ·go_region
  have p0:W1.drew.cell? ⟨W.heap.size+1,0,none⟩=some (.int .i64 a):=bZ.out.2.1 0 _ rfl
  have p1:W1.drew.cell? ⟨W.heap.size+1,1,none⟩=some (.int .i64 b):=bZ.out.2.1 1 _ rfl
  have p2:W1.drew.cell? ⟨W.heap.size+1,2,none⟩=some (.int .i64 c):=bZ.out.2.1 2 _ rfl
  have p3:W1.drew.cell? ⟨W.heap.size+1,3,none⟩=some (.int .i64 d):=bZ.out.2.1 3 _ rfl
  clear hlk c1 z0 z1 HX HGG HZ
  generalize World.drew W1=W2 at*
  obtain⟨RB,Zq⟩:∃RB,dH ⟨a,b,c,d⟩=RB:=⟨_,rfl⟩
  have Wu:=hide (Tf ⟨a,b,c,d⟩ W2 RB Zq)
  have Bd:=hide Zq
  clear Zq
  go_wp2_with fail
  refine Wu.out.mono ?_
  clear Wu p0 p1 p2 p3
  rintro e w3 ⟨rfl,hb3⟩
  have HB3:=hide (HB2.out.trans (hb3.mono HB2.out.size))
  have jK:=hide (HS2.out.up hb3)
  have gL:=hide (bZ.out.2.below hb3 (jO (bZ.out.2.1 0 _ rfl)))
  clear hb3 bZ HS2 HB2
  cases RB
  case false=>
   have hR:=HR2.out (.inr Bd.out)
   subst hR
   go_wp2_with fail
   go_ret
   exact⟨rfl,HB3.out⟩
  case true=>
   have hr:=Bd.out
   simp only[dH,aZ,Bool.and_eq_true,decide_eq_true_eq]at hr
   have hR:=HR1.out hD Bd.out
   obtain⟨an,rfl⟩:∃n:Nat,a=(n:Int):=⟨a.toNat,by omega⟩
   obtain⟨bn,rfl⟩:∃n:Nat,b=(n:Int):=⟨b.toNat,by omega⟩
   obtain⟨cn,rfl⟩:∃n:Nat,c=(n:Int):=⟨c.toNat,by omega⟩
   obtain⟨dn,rfl⟩:∃n:Nat,d=(n:Int):=⟨d.toNat,by omega⟩
   have hcp:iV ⟨(an:Int),(bn:Int),(cn:Int),(dn:Int)⟩=an*1024+bn*64+cn*8+dn:=by simp[iV]
   rw[hcp]at hR
   have CP:=hide (tH an bn cn dn (by omega) (by omega) (by omega) (by omega) w3)
   have hlt:an*1024+bn*64+cn*8+dn<16384:=by omega
   obtain⟨cc,hcc⟩:∃cc,an*1024+bn*64+cn*8+dn=cc:=⟨_,rfl⟩
   rw[hcc]at hR hlt CP
   have p0:w3.cell? ⟨W.heap.size+1,0,none⟩=some (.int .i64 (an:Int)):=gL.out.1 0 _ rfl
   have p1:w3.cell? ⟨W.heap.size+1,1,none⟩=some (.int .i64 (bn:Int)):=gL.out.1 1 _ rfl
   have p2:w3.cell? ⟨W.heap.size+1,2,none⟩=some (.int .i64 (cn:Int)):=gL.out.1 2 _ rfl
   have p3:w3.cell? ⟨W.heap.size+1,3,none⟩=some (.int .i64 (dn:Int)):=gL.out.1 3 _ rfl
   have kJ:=hide hlt
   have HRR:=hide hR
   clear hr hcp hcc hlt hR
   go_wp2_with fail
   clear p0 p1 p2 p3
   refine CP.out.mono ?_
   clear CP
   rintro e w4 ⟨rfl,hb4⟩
   have t0:w4.cell? ⟨blk (x,y),cc,none⟩=some (.int .i64 (T (x,y) cc)):=(jK.out.up hb4).tab _ hD cc kJ.out
   have dM:=hide (HB3.out.trans (hb4.mono HB3.out.size))
   have hci:(cc:Int)<16384:=by have:=kJ.out;omega
   clear hb4
   go_wp2_with fail
   go_ret
   exact⟨by rw[HRR.out];rfl,dM.out⟩
 ·go_region
  have hR:=HR2.out (.inl hD)
  subst hR
  clear hlk c1 z0 z1
  generalize World.drew W1=W2 at*
  go_wp2_with fail
  go_ret
  exact⟨rfl,HB2.out⟩
end Go.Proofs.YtifkacnoiocebaaGreat
namespace Go.Proofs.YtifkacnoiocebaaGreat
open aj Go.Maps Go.RowKit
theorem nK.below {A:St} {M:aB→Option Value} {S:Pl→aj.Fn} {ks:List Pl} (h:nK A M S ks) (hv:A.vars=14) (i:Inv A) (x:Pl):aj.Below 14 (S x):=by
 rw[← (h.vR x).2,← hv]
 exact Pt i.ok _ (h.vR x).1
theorem OO {ds:List Dev} {ls:List ah} {k d:Nat} (h:ds.length=d):gT ds ls (aF ds ls k) (aF ds ls k) d=aF ds ls (k+1):=by subst h;rfl
theorem mg.add {wr:World} {B g rb base:Nat} {A:St} {v:Value} {L:List gU} {ks:List Pl} {er:Nat} (more:List Nat) (h:mg wr B g A rb base v L ks er []) (hsa:AS wr B g A (v.ownBlock.toList++(more++rb::L.map gU.blk))) (hap:∀q,v.ownBlock=some q→q∉more) (hrb:rb∉more):mg wr B g A rb base v L ks er more:=
 ⟨hsa,h.own,fun q hq hm=>by
  rcases List.mem_append.1 hm with a | a
  ·exact hap q hq a
  ·exact h.ap q hq (by simpa using a),h.bx,h.ents,fun hm=>by
  rcases List.mem_append.1 hm with a | a
  ·exact hrb a
  ·exact h.ne (by simpa using a)⟩
theorem Ua (W:World) (a b:Nat) (Ma Mb:aB→Option Value) (ha:aV Tryz.prog 27 eG eU W a Ma) (hb:aV Tryz.prog 27 eG eU W b Mb) (iA:Ints Ma) (iB:Ints Mb) (r:Bool) (hr:r=true↔∀x,(Mb x).isSome =true→bK Ma x=bK Mb x):
  Calls Tryz.prog 27 #[.map (some a),.map (some b)] W fun e W'=>e= .returned (.bool r)∧RowKit.Below W.heap.size W W':=
 (Ol W a b Ma Mb ha hb iA iB).mono fun e w' ⟨h1,h2⟩=>by
  rcases h2 with⟨rfl,h⟩ | ⟨rfl,x,hx,hne⟩
  ·exact⟨by rw[hr.2 h],h1⟩
  ·exact⟨by rw[Bool.eq_false_iff.2 (fun hh=>hne (hr.1 hh x hx))],h1⟩
theorem IG (n:aC) (most:Nat) (W:World) (hn:bq W W.heap.size n) (hE:fq n.au n.ls=0) (hm1:2≤most) (hm2:most≤40000):
  (P:aj.Fn→Prop)→(Gi P n.au n.ls (fun _ _=>false))→(∀k,J5 P n.au n.ls (aF n.au n.ls k) (aF n.au n.ls k))→
  Calls Tryz.prog 5 #[n.val,.int .i64 (most:Int)] W (BL n most P W):=by
 intro P hP1 hP2
 have HP:=hide (And.intro hP1 hP2)
 have HD:=hide (And.intro (yc hE) (And.intro (Lj hE) (show n.dn≤10 from by have:=(mK hE).dl;have:=hn.iK;simp only[aC.au,List.length_map]at*;omega)))
 have jd:=hide hn.iK
 clear hP1 hP2
 have rX:=hide (fun(w':World) (hb:RowKit.Below W.heap.size W w') (B':Nat) (hB:W.heap.size≤B')=>show bq w' B' n from hn.below hb hB)
 have HC:=hide (fun(w':World) (hb:RowKit.Below W.heap.size W w')=>vG n w' (hn.below hb hb.size))
 have HE:=hide hE
 simp only[hE]at HC
 clear hn hE
 have hmm:=@run_makeMap Tryz.prog
 obtain⟨dA,dn,dc,ds,lA,ln,lc,ls⟩:=n
 simp only[aC.val,aC.au]at*
 go_enter Tryz.func5,Tryz.ntmps5
 go_wp2_with fail
 have hb0:=below_alloc2 W (.cells #[.slice dA dn dc,.slice lA ln lc] 25)
 have HB0:=hide hb0
 have HX0:=hide (Bx.new W #[.slice dA dn dc,.slice lA ln lc] 25)
 refine(HC.out _ hb0).mono ?_
 clear HC
 rintro e w1 ⟨rfl,hb⟩
 have HB1:=hide (HB0.out.trans (hb.mono HB0.out.size))
 have eF:=hide (HX0.out.below hb)
 clear hb hb0 HB0 HX0
 go_wp2_with fail
 refine(Zr w1 14 most (by omega) (by omega) hm1 hm2).mono ?_
 rintro e w2 ⟨g,rfl,has,hb⟩
 have HA2:=hide has
 have HB2:=hide (HB1.out.trans (hb.mono HB1.out.size))
 have bZ:=hide (eF.out.below hb)
 clear has hb
 have x0:∀o1 o2,((w2.alloc o1).alloc o2).cell? ⟨W.heap.size,0,none⟩=some (.slice dA dn dc):=fun o1 o2=>((bZ.out.below (below_alloc2 w2 o1)).below (below_alloc2 _ o2)).get 0 _ rfl
 have x1:∀o1 o2,((w2.alloc o1).alloc o2).cell? ⟨W.heap.size,1,none⟩=some (.slice lA ln lc):=fun o1 o2=>((bZ.out.below (below_alloc2 w2 o1)).below (below_alloc2 _ o2)).get 1 _ rfl
 have CQ:=hide (QN HA2.out ⟨dA,dn,dc,ds,lA,ln,lc,ls⟩)
 go_wp2_with fail
 clear x0 x1 hmm
 generalize World.alloc (World.alloc (World.alloc (World.alloc w2 _) _) _) _=w6 at*
 have pz:=hide (HB2.out.trans (CQ.out.2.2.mono HB2.out.size))
 have gq:=hide (bZ.out.below CQ.out.2.2)
 generalize w2.heap.size=N at*
 generalize N+1+1+1=rd at*
 generalize N+1+1=nm at*
 generalize N+1=mk at*
 refine(Lg w6 w1.heap.size g (pI 14 most) [N] mk 0 rd ⟨dA,dn,dc,ds,lA,ln,lc,ls⟩ (.map none) nm _ _ CQ.out.1 rfl (rX.out w6 pz.out _ HB1.out.size) HD.out.1 HD.out.2.2 HD.out.2.1 P HP.out.1).mono ?_
 rintro e w7 ⟨rfl,A7,e7,Mn7,hrd,hx7,Zt,OP,he7⟩
 have HN0:=hide (NS.start (base:=W.heap.size) (n:=⟨dA,dn,dc,ds,lA,ln,lc,ls⟩) (by
  have h0:=hrd
  rw[show jq (aC.au ⟨dA,dn,dc,ds,lA,ln,lc,ls⟩) (aC.ls ⟨dA,dn,dc,ds,lA,ln,lc,ls⟩) (fun _ _=>false) (aC.dn ⟨dA,dn,dc,ds,lA,ln,lc,ls⟩)=aF (aC.au ⟨dA,dn,dc,ds,lA,ln,lc,ls⟩) ls 0 from by
   unfold aF QH;rw[show(aC.au ⟨dA,dn,dc,ds,lA,ln,lc,ls⟩).length =dn from by simp only[aC.au,List.length_map];exact jd.out]]at h0
  exact h0) (CQ.out.2.1.kp OP (by simp)))
 have zo:=hide (pz.out.trans (OP.low.mono HB1.out.size))
 have lU:=hide (gq.out.same (OP.low.block _ (Nat.lt_of_lt_of_le eF.out.lt (Nat.le_refl _))))
 have HV7:=hide (show A7.vars=14 from hx7.vars)
 have HE7:=hide (And.intro hx7 Zt)
 clear hrd hx7 Zt OP he7 CQ pz gq bZ HA2
 go_wp2_with fail
 clear HB2
 generalize e7=er at*
 go_loopg [10] ((aR ls).length *16384 - jW (aF (ds.map ak.dev) ls 0) (aR ls)) (fun m u wr=>∃(k rd:Nat) (dV:Value) (nm:Nat) (A:St) (er:Nat) (v:Value) (L:List gU) (Mn:aB→Option Value),u= .pointer (some ⟨rd,0,none⟩)∧Hid (NS wr w1.heap.size g A N W.heap.size v L k mk er rd ⟨dA,dn,dc,ds,lA,ln,lc,ls⟩ dV nm Mn)∧Hid (m=(aR ls).length *16384 - jW (aF (ds.map ak.dev) ls k) (aR ls))∧Hid (k+m≤491520)∧Hid (RowKit.Below W.heap.size W wr)∧Hid (Bx wr W.heap.size #[.slice dA dn dc,.slice lA ln lc] 25)∧Hid (A.vars=14)∧Hid (Ext (pI 14 most) A∧qx P (pI 14 most) A)∧Hid (∀j,j<k→aF (ds.map ak.dev) ls (j+1)≠aF (ds.map ak.dev) ls j))
 case atStart=>exact⟨0,rd,.map none,nm,A7,er,.slice none 0 0,[],Mn7,rfl,HN0,hide rfl,hide (by have h1:=HD.out.2.1.len;have h2:=zN ls;omega),zo,lU,HV7,HE7,hide (fun j hj=>absurd hj (Nat.not_lt_zero _))⟩
 case round=>
  clear HN0 zo lU HV7 HE7
  obtain⟨k,rd',dV,nm',A,Fa,v,L,Mn,rfl,HN,Qe,MS,HB,HX,HV,HE,HUP⟩:=hrel
  have HER:=hide HN.out.QT.m.er
  have HLS:=hide HN.out.ls
  obtain⟨i0,hi0,hz0,hz1,hz2⟩:=info_parts Tryz.infoSum
  have HQ:=hide (fun(w':World) (h1:Bx w' N #[v,.pointer (some ⟨g,0,none⟩)] 68) (h2:Bx w' rd' #[.pointer (some ⟨mk,0,none⟩),.slice dA dn dc,.slice lA ln lc,dV,.map (some nm')] 75)=>
   show w'.cell? ⟨N,0,none⟩=some v∧w'.cell? ⟨rd',4,none⟩=some (.map (some nm'))from⟨h1.get 0 _ rfl,h2.get 4 _ rfl⟩)
  go_wp2_with fail
  have eY:=hide (HN.out.su.below (RowKit.Below.refl _ _).drew)
  have HR1:=hide (HN.out.QT.below (RowKit.Below.refl _ _).drew)
  refine aY (fun w'=>w'.cell? ⟨N,0,none⟩=some v∧w'.cell? ⟨rd',4,none⟩=some (.map (some nm'))) 13 (by kernel_rfl) (HQ.out _ eY.out.bx HR1.out.bx) (fun hS=>?_)
  refine rP 0 hS ?_
  refine rP 1 hS ?_
  refine rP 2 hS ?_
  refine rP 3 hS ?_
  refine rL 4 [10,13] rfl hS (by intro w hSw;obtain⟨s0,s1⟩:=hSw;go_simp;try with_reducible rfl) ?_
  refine rP 5 hS ?_
  refine rP 6 hS ?_
  refine rP 7 hS ?_
  refine rL 8 [9,10,13] rfl hS (by intro w hSw;obtain⟨s0,s1⟩:=hSw;go_simp;try with_reducible rfl) ?_
  intro inv
  refine rO 9 inv fun K hK=>?_
  go_simp
  have hb4:RowKit.Below wr.heap.size wr (wr.alloc (.cells #[.map (some nm')] 73)).drew :=((RowKit.Below.refl _ _).alloc (Nat.le_refl _) _).drew
  have mQ:=hide (show Bx (wr.alloc (.cells #[.map (some nm')] 73)).drew wr.heap.size #[.map (some nm')] 73 from Bx.new wr #[.map (some nm')] 73)
  have oK:=hide (HN.out.su.below hb4)
  have HR4:=hide (HN.out.QT.below hb4)
  have hs4:(wr.alloc (.cells #[.map (some nm')] 73)).drew.heap.size =wr.heap.size+1:=by simp
  have hBs:=HB.out.size
  have Zu:=hide (HX.out.below hb4)
  have Zv:=hide (HB.out.trans (hb4.mono hBs))
  clear hb4 eY HR1
  refine hK.out _ _ (fun _=>HQ.out _ oK.out.bx HR4.out.bx) ?_
  clear hK K hS inv
  intro inv
  try simp only[Act.put,aK,aL,aM]
  generalize World.drew _=w4 at*
  have hS:=HQ.out _ oK.out.bx HR4.out.bx
  have hnr:=HN.out.QT.ne
  have hma:=HN.out.QT.m.ap
  simp only[List.mem_append,List.mem_cons,List.not_mem_nil,or_false,not_or]at hnr hma
  have Ba:=hide (And.intro hnr hma)
  clear hnr hma
  have hLk:L.length=k:=by have:=congrArg List.length HN.out.ls;simpa using this
  have UO:L.length≤491520:=by have:=MS.out;omega
  have iy:=hide hLk
  clear hLk
  refine rO 10 inv fun K hK=>?_
  rw[if_pos (by rfl)]
  refine nP _ (.tmp 41) (.tmp 46) 66 rfl W.heap.size 73 i0 _ 1 8 Tryz.underlying66 hi0 hz0 hz1 hz2 rfl (by omega) v L.length (L.map fun e=>.map (some e.blk)) rfl oK.out.own (wr.heap.size+1) (some ⟨wr.heap.size,0,none⟩) 1 1 [.map (some nm')] rfl (QS mQ.out) (fun u hu=>by simp at hu;subst hu;rfl) (by unfold maxLen;omega) (by omega) (by omega) ?_
  intro v5 w5 hown5 hg5 iD
  obtain⟨g5,c5,rfl,_⟩:=hown5.form (by omega)
  have OQ:=oK.out.grow hown5 hg5 iD
  have hps:=oK.out.push (e:=⟨nm',Mn,aF (ds.map ak.dev) ls k⟩) hown5 hg5 iD (by simp) HR4.out.mn ⟨HR4.out.ints,HR4.out.keys,HR4.out.sn⟩
  have j3:=hide hps
  have FB:=hide (oK.out.bx.kp OQ (by simp))
  have gZ:=hide (HR4.out.bx.kp OQ (by simp))
  have qU:=hide (HR4.out.m.bx.kp OQ (by simp))
  have fz5:w5.frozen? ⟨N,0,none⟩=false:=FB.out.frozen 0
  have s0:w5.cell? ⟨N,0,none⟩=some v:=FB.out.get 0 _ rfl
  clear hown5 hg5 iD OQ hps hS
  refine hK.out _ _ (fun _=>HQ.out _ FB.out gZ.out) ?_
  clear hK K inv
  intro inv
  try simp only[Act.put,aK,aL,aM]
  have hS:=HQ.out _ FB.out gZ.out
  revert inv
  refine rP 11 hS ?_
  refine rP 12 hS ?_
  intro inv
  refine rT 13 inv fun K hK=>?_
  go_simp
  refine hK.out _ _ ?_
  clear hK K inv
  intro inv
  try simp only[Act.put,aK,aL,aM]
  refine rD ?_
  clear inv
  clear s0 fz5 hS
  have hKP:=j3.out.2
  have jh:=hide (gZ.out.far ⟨N,0,none⟩ (.slice (some ⟨g5,0,none⟩) (L.length+1) c5) (by have:=HN.out.su.ne;simp only[List.mem_append,List.mem_cons,not_or]at this;exact fun e=>this.1.1 e.symm))
  have Ew:=hide (qU.out.far ⟨N,0,none⟩ (.slice (some ⟨g5,0,none⟩) (L.length+1) c5) (by have:=HN.out.su.ne;simp only[List.mem_append,List.mem_cons,not_or]at this;exact fun e=>this.1.2.2.1 e.symm))
  clear hKP FB gZ qU hs4
  generalize World.setCell w5 _ _=w6' at*
  have gq:=hide (Zu.out.same (j3.out.2.low.block _ eF.out.lt))
  have pz:=hide (Zv.out.trans (j3.out.2.low.mono HB1.out.size))
  have Zw:=hide j3.out.1
  clear j3 Zu Zv oK HR4 mQ HN HB HX hBs
  generalize Value.slice (some ⟨g5,0,none⟩) (L.length+1) c5=v6 at*
  go_wp2_with fail
  have Rn:=hide (fun(w':World) (h1:Bx w' rd' #[.pointer (some ⟨mk,0,none⟩),.slice dA dn dc,.slice lA ln lc,dV,.map (some nm')] 75) (h2:Bx w' W.heap.size #[.slice dA dn dc,.slice lA ln lc] 25)=>
   show w'.cell? ⟨rd',0,none⟩=some (.pointer (some ⟨mk,0,none⟩))∧w'.cell? ⟨rd',4,none⟩=some (.map (some nm'))∧w'.cell? ⟨W.heap.size,0,none⟩=some (.slice dA dn dc)∧w'.cell? ⟨W.heap.size,1,none⟩=some (.slice lA ln lc)from⟨h1.get 0 _ rfl,h1.get 4 _ rfl,h2.get 0 _ rfl,h2.get 1 _ rfl⟩)
  have iJ:=hide (jh.out.below (RowKit.Below.refl _ _).drew)
  have G8:=hide (Ew.out.below (RowKit.Below.refl _ _).drew)
  have lU:=hide (gq.out.below (RowKit.Below.refl _ _).drew)
  have pY:=hide (Zw.out.below (RowKit.Below.refl _ _).drew)
  have zo:=hide (pz.out.trans ((RowKit.Below.refl _ _).drew.mono pz.out.size))
  clear jh Ew gq Zw pz
  refine aY (fun w'=>w'.cell? ⟨rd',0,none⟩=some (.pointer (some ⟨mk,0,none⟩))∧w'.cell? ⟨rd',4,none⟩=some (.map (some nm'))∧w'.cell? ⟨W.heap.size,0,none⟩=some (.slice dA dn dc)∧w'.cell? ⟨W.heap.size,1,none⟩=some (.slice lA ln lc)) 16 (by kernel_rfl) (Rn.out _ iJ.out lU.out) (fun hS=>?_)
  refine rP 0 hS ?_
  refine rP 1 hS ?_
  refine rP 2 hS ?_
  refine rL 3 [14,15,16] rfl hS (by intro w hSw;obtain⟨s0,s1,s2,s3⟩:=hSw;go_simp;try with_reducible rfl) ?_
  refine rL 4 [14,15,16] rfl hS (by intro w hSw;obtain⟨s0,s1,s2,s3⟩:=hSw;go_simp;try with_reducible rfl) ?_
  refine rP 5 hS ?_
  refine rP 6 hS ?_
  refine rP 7 hS ?_
  refine rL 8 [14,15,16] rfl hS (by intro w hSw;obtain⟨s0,s1,s2,s3⟩:=hSw;go_simp;try with_reducible rfl) ?_
  refine rP 9 hS ?_
  refine rP 10 hS ?_
  refine rP 11 hS ?_
  refine rL 12 [13,14,15,16] rfl hS (by intro w hSw;obtain⟨s0,s1,s2,s3⟩:=hSw;go_simp;try with_reducible rfl) ?_
  intro inv
  refine rO 13 inv fun K hK=>?_
  go_simp
  have hent:=pY.out.ents ⟨nm',Mn,aF (ds.map ak.dev) ls k⟩ (by simp)
  refine(Lh _ nm' Mn hent.1 hent.2.ints (aR ls) (by have h1:=HD.out.2.1.len;have h2:=zN ls;unfold maxLen;omega) hent.2.keys).mono ?_
  clear hent
  rintro en w8 ⟨lN,nb,hnb,rfl,Ms⟩
  have jH:=hide (iJ.out.below lN)
  have Ey:=hide (G8.out.below lN)
  have rY:=hide (lU.out.below lN)
  have jR:=hide (pY.out.below lN)
  have kF:=hide (zo.out.trans (lN.mono zo.out.size))
  have xM:=hide (And.intro Ms hnb)
  have HA8:=hide (pY.out.sa.add lN.size (fun i hi _=>lN.block i hi) hnb Ms.lt)
  have Zx:=hide (fun hj=>(Nat.not_lt.2 hnb (pY.out.sa.lt nb hj).2:False))
  clear lN Ms hS hnb
  go_simp
  refine hK.out _ _ (fun _=>Rn.out _ jH.out rY.out) ?_
  clear hK K inv
  intro inv
  try simp only[Act.put,aK,aL,aM]
  have hS:=Rn.out _ jH.out rY.out
  revert inv
  refine rP 14 hS ?_
  intro inv
  refine rO 15 inv fun K hK=>?_
  go_simp
  have Ub:=TD (n:=⟨dA,dn,dc,ds,lA,ln,lc,ls⟩) (Mn:=Mn) (S:=aF (ds.map ak.dev) ls k) jR.out HA8.out Ey.out HER.out (by simp) xM.out.1 (fun hj=>Zx.out hj) Ba.out.2.1 (by
   have h1:=Ba.out.2.2.2.2.2
   have h2:=Ba.out.2.2.1
   simp only[List.map_append,List.map_cons,List.map_nil,List.mem_append,List.mem_singleton,not_or]
   exact⟨h1,h2⟩)
  have Ia:=hide Ub.1
  have Zy:=hide Ub.2
  have qw:=below_alloc2 w8 (.cells #[.pointer (some ⟨mk,0,none⟩),.slice dA dn dc,.slice lA ln lc,.map (some nm'),.map (some nb)] 75)
  have oP:=hide (jH.out.below qw)
  have qb:=hide (rY.out.below qw)
  have fV:=hide ((jR.out.less (more':=[]) (by simp)).below qw)
  have kP:=hide (kF.out.trans (qw.mono kF.out.size))
  clear qw Ub jH rY jR kF HA8 Zx Ey xM iJ G8 lU pY zo hS
  simp only[aC.au,aC.ls]at Ia Zy
  generalize World.alloc w8 _=w9 at*
  generalize w8.heap.size=rn at*
  have hS:=Rn.out _ oP.out qb.out
  refine hK.out _ _ (fun _=>hS) ?_
  clear hK K hS inv
  intro inv
  try simp only[Act.put,aK,aL,aM]
  refine rT 16 inv fun K hK=>?_
  go_simp
  refine hK.out _ _ ?_
  clear hK K inv
  intro inv
  try simp only[Act.put,aK,aL,aM]
  refine rD ?_
  clear inv
  clear HQ Rn
  go_wp2_with fail
  have hinv:=Ia.out.inv
  have HIV:=hide hinv
  clear hinv
  refine(Oi w9 w1.heap.size g A _ mk Fa rn ⟨dA,dn,dc,ds,lA,ln,lc,ls⟩ nm' nb Mn Mn _ _ Ia.out Zy.out HV.out (rX.out w9 kP.out _ HB1.out.size) HD.out.1 HD.out.2.2 HD.out.2.1 P (HP.out.2 k)).mono ?_
  rintro en jN ⟨rfl,Ez,e10,uF,hrd,Bo,Wv,FC,Uc⟩
  have fG:=hide (show RD jN w1.heap.size g Ez (rd'::(v6.ownBlock.toList++N::(L++[(⟨nm',Mn,aF (ds.map ak.dev) ls k⟩:gU)]).map gU.blk)) mk e10 rn ⟨dA,dn,dc,ds,lA,ln,lc,ls⟩ (.map (some nm')) nb uF (aF (ds.map ak.dev) ls (k+1))from by
   have h0:=hrd
   have e1:gT (ds.map ak.dev) ls (aF (ds.map ak.dev) ls k) (aF (ds.map ak.dev) ls k) dn=aF (ds.map ak.dev) ls (k+1):=OO (by simp only[List.length_map];exact jd.out)
   rw[← e1]
   exact h0)
  have jg:=hide (fV.out.kept (Fa:=e10) (fG.out.m.sa.mono (fun j hj=>by
   simp only[List.nil_append]at hj
   simp only[List.mem_cons]
   exact .inr (.inr (.inr (.inr hj))))) Bo (FC.mono (fun j hj=>by
   simp only[List.nil_append]at hj
   exact List.mem_cons_of_mem _ hj)) Uc)
  have vI:=hide (oP.out.kp FC (by simp))
  have uw:=hide (kP.out.trans (FC.low.mono HB1.out.size))
  have mM:=hide (qb.out.same (FC.low.block _ eF.out.lt))
  have Ud:=hide (And.intro (HE.out.1.trans Bo) (HE.out.2.trans Wv HIV.out Bo))
  have OT:=hide (show Ez.vars=14 from Bo.vars.trans HV.out)
  have ac4:=hide Uc
  clear hrd Bo Wv FC Uc fV oP kP qb HE HV Ia Zy HIV
  have her:=fG.out.m.er
  have c0:jN.cell? ⟨rn,0,none⟩=some (.pointer (some ⟨mk,0,none⟩)):=fG.out.bx.get 0 _ rfl
  rcases her with rfl | ⟨rfl,hfull⟩
  case inr=>
   have c1:jN.cell? ⟨mk,1,none⟩=some (.int .i64 6):=fG.out.m.bx.get 1 _ rfl
   have HF:=hide (fun(w':World) (hb:RowKit.Below jN.heap.size jN w')=>show BL ⟨dA,dn,dc,ds,lA,ln,lc,ls⟩ most P W (.returned (.tuple #[.pointer none,.int .i64 6])) w' from⟨uw.out.trans (hb.mono uw.out.size),.inr ⟨Ez,rfl,Ud.out.1,Ud.out.2,hfull⟩⟩)
   clear hfull
   have HK0:=hide c0
   have Hg:=hide c1
   go_wp2_with fail
   clear c0 c1
   refine bB (by kernel_rfl) (by kernel_rfl) ?_
   intro T hT gt hg1 hgi
   have aJ:=hide hg1
   clear hg1 hgi
   have k0:∀t,(gt t).cell? ⟨rn,0,none⟩=some (.pointer (some ⟨mk,0,none⟩)):=fun t=>(fG.out.bx.below (aJ.out t)).get 0 _ rfl
   have k1:∀t,(gt t).cell? ⟨mk,1,none⟩=some (.int .i64 6):=fun t=>(fG.out.m.bx.below (aJ.out t)).get 1 _ rfl
   repeat (go_big_quiet_step (fail))
   refine wpQuiet_nil ?_
   intro _ hw'
   obtain⟨t,rfl⟩:=hw'
   have yT:=hide (HF.out _ (aJ.out t))
   clear HF k0 k1
   generalize gt t=Ar at*
   go_wp2
   go_ret2
   exact yT.out
  case inl=>
   have c1:jN.cell? ⟨mk,1,none⟩=some (.int .i64 0):=fG.out.m.bx.get 1 _ rfl
   obtain rfl:Fa=0:=ac4.out rfl
   have hent:=jg.out.ents (⟨nm',Mn,aF (ds.map ak.dev) ls k⟩:gU) (by simp)
   have Ue:=hide hent
   have Ww:=hide hent.2.ok
   have Wx:=hide (show nK Ez uF (aF (ds.map ak.dev) ls (k+1)) (aR ls)from⟨fG.out.ints,fG.out.keys,fun x=>fG.out.sn rfl x⟩)
   clear hent
   obtain⟨r,hr⟩:∃r:Bool,r=true↔∀x,(uF x).isSome =true→bK Mn x=bK uF x:=by
    rcases Classical.em (∀x,(uF x).isSome =true→bK Mn x=bK uF x)with h | h
    ·exact⟨true,⟨fun _=>h,fun _=>rfl⟩⟩
    ·exact⟨false,⟨fun hh=>Bool.noConfusion hh,fun hh=>absurd hh h⟩⟩
   have Bd:=hide hr
   clear hr
   go_wp2_with fail
   clear c0 c1
   refine bB (by kernel_rfl) (by kernel_rfl) ?_
   intro T hT gt hg1 hgi
   have aJ:=hide hg1
   have dZ:=hide hgi
   clear hg1 hgi
   have k0:∀t,(gt t).cell? ⟨rd',4,none⟩=some (.map (some nm')):=fun t=>(vI.out.below (aJ.out t)).get 4 _ rfl
   have k1:∀t,(gt t).cell? ⟨rn,4,none⟩=some (.map (some nb)):=fun t=>(fG.out.bx.below (aJ.out t)).get 4 _ rfl
   repeat (go_big_quiet_step ((go_at_call 27;exact eB aJ.out dZ.out (Ua _ nm' nb Mn uF (Ue.out.1.same ((aJ.out _).block _ Ue.out.1.lt)) (fG.out.mn.same ((aJ.out _).block _ fG.out.mn.lt)) Ww.out.ints Wx.out.ints r Bd.out))))
   refine wpQuiet_nil ?_
   intro _ hw'
   obtain⟨t,rfl⟩:=hw'
   have Af:=hide (fG.out.below (aJ.out t))
   have Zz:=hide (jg.out.below (aJ.out t))
   have Bb:=hide (uw.out.trans ((aJ.out t).mono uw.out.size))
   have wP:=hide (mM.out.below (aJ.out t))
   generalize gt t=Ar at*
   clear aJ dZ k0 k1 fG jg uw mM vI Ue
   have jL:=hide (show(L++[(⟨nm',Mn,aF (ds.map ak.dev) ls k⟩:gU)]).map gU.S=(List.range (k+1)).map (aF (ds.map ak.dev) ls)from by
    rw[List.map_append,HLS.out,List.range_succ,List.map_append]
    rfl)
   cases r
   ·-- it went on
    have hne:∃x,(uF x).isSome =true∧bK Mn x≠bK uF x:=by
     have h2:¬_:=fun h=>Bool.noConfusion (Bd.out.2 h)
     exact Classical.byContradiction (fun h=>h2 (fun x hx=>Classical.byContradiction (fun h3=>h ⟨x,hx,h3⟩)))
    obtain⟨x,hx,hd⟩:=hne
    obtain⟨hxk,hxd⟩:=Ww.out.diff Af.out.inv Wx.out hx hd
    have hlt2:jW (aF (ds.map ak.dev) ls k) (aR ls)<jW (aF (ds.map ak.dev) ls (k+1)) (aR ls):=
     Mc (fun y=>Wx.out.below OT.out Af.out.inv y) (fun y=>Ww.out.below OT.out Af.out.inv y) (zU _ _ _) hxd _ hxk
    have hmx:=DX (aF (ds.map ak.dev) ls (k+1)) (aR ls)
    have jk:=hide (And.intro hlt2 hmx)
    have ac5:=hide (show∀j,j<k+1→aF (ds.map ak.dev) ls (j+1)≠aF (ds.map ak.dev) ls j from fun j hj=>by
     rcases Nat.lt_succ_iff_lt_or_eq.1 hj with a | rfl
     ·exact HUP.out j a
     ·exact fun e=>hxd (by rw[e]))
    have hn1:=Af.out.ne
    have hn2:=Af.out.m.ap
    simp only[List.mem_cons,List.mem_append,not_or]at hn1 hn2
    have HNS:=hide (show NS Ar w1.heap.size g Ez N W.heap.size v6 (L++[(⟨nm',Mn,aF (ds.map ak.dev) ls k⟩:gU)]) (k+1) mk 0 rn ⟨dA,dn,dc,ds,lA,ln,lc,ls⟩ (.map (some nm')) nb uF from
     ⟨Af.out.less (fun j hj=>List.mem_cons_of_mem _ hj),Zz.out.add [rn,nb,mk] (Af.out.m.sa.mono (fun j hj=>by
      simp only[List.mem_append,List.mem_cons,List.not_mem_nil,or_false]at hj ⊢
      rcases hj with a | (a | a | a) | a | a
      ·exact .inr (.inr (.inr (.inr (.inl a))))
      ·exact .inr (.inl a)
      ·exact .inr (.inr (.inl a))
      ·exact .inl a
      ·exact .inr (.inr (.inr (.inr (.inr (.inl a)))))
      ·exact .inr (.inr (.inr (.inr (.inr (.inr a))))))) (fun q hq hm=>by
      have hqo:q∈v6.ownBlock.toList:=by simp[hq]
      simp only[List.mem_cons,List.not_mem_nil,or_false]at hm
      rcases hm with rfl | rfl | rfl
      ·exact hn1.2.1.2.1 hqo
      ·exact hn1.2.2.2.1 hqo
      ·exact hn2.2.2.2.1 hqo) (by
      simp only[List.mem_cons,List.not_mem_nil,or_false,not_or]
      exact⟨fun e=>hn1.2.1.2.2.1 e.symm,fun e=>hn1.2.2.2.2.1 e.symm,fun e=>hn2.2.2.2.2.1 e.symm⟩),jL.out⟩)
    have XJ:=Qe.out
    have hkm:=MS.out
    have HG2:=hide (show(aR ls).length *16384 - jW (aF (ds.map ak.dev) ls (k+1)) (aR ls)<gk∧k+1+((aR ls).length *16384 - jW (aF (ds.map ak.dev) ls (k+1)) (aR ls))≤491520 from by omega)
    clear hlt2 hmx hx hd hxk hxd hn1 hn2 XJ hkm
    go_wp2_with fail
    go_roundg ((aR ls).length *16384 - jW (aF (ds.map ak.dev) ls (k+1)) (aR ls))
    case measure=>exact HG2.out.1
    case rel=>exact⟨k+1,rn,.map (some nm'),nb,Ez,0,v6,L++[(⟨nm',Mn,aF (ds.map ak.dev) ls k⟩:gU)],uF,rfl,HNS,hide rfl,hide HG2.out.2,Bb,wP,OT,Ud,ac5⟩
   ·have hall:=Bd.out.1 rfl
    have yI:=hide (show aF (ds.map ak.dev) ls (k+1)=aF (ds.map ak.dev) ls k from funext fun x=>Ww.out.same Wx.out (zU _ _ _) hall x)
    clear hall
    have hlen:(L++[(⟨nm',Mn,aF (ds.map ak.dev) ls k⟩:gU)]).length =k+1:=by rw[List.length_append,iy.out];rfl
    obtain⟨sA,sc,hre,hlo1,hlo2,hlo3⟩:=Zz.out.reach OT.out (by omega) (by have:=MS.out;omega)
    have hlo0:=HB1.out.size
    have HF:=hide (show BL ⟨dA,dn,dc,ds,lA,ln,lc,ls⟩ most P W (.returned (.tuple #[.pointer (some ⟨N,0,none⟩),.int .i64 0])) Ar from
     ⟨Bb.out,.inl ⟨N,k,rfl,⟨⟨_,_,_,_,_,_,hre,jL.out,hlo0,by omega,hlo1,fun e he=>by have:=hlo3 e he;omega⟩,yI.out,HUP.out⟩⟩⟩)
    clear hre hlen hlo0 hlo1 hlo2 hlo3
    go_wp2
    go_ret2
    exact HF.out
theorem cnt1:∀n,(List.range n).countP (fun c=>decide (c / 1024=1))=min (n - 1024) 1024:=by
 intro n
 induction n with
 |zero=>rfl
 |succ n ih=>
  rw[List.range_succ,List.countP_append,ih,List.countP_singleton]
  split<;>rename_i h<;>simp only[decide_eq_true_eq]at h<;>omega
def vM:aj.Fn→Prop:=fun _=>True
theorem mX (F:aj.Fn):PC vM F:=fun _ _=>trivial
theorem uN (ls:List ah) (x:Pl) (F:aj.Fn) (S:Pl→aj.Fn):nS vM ls x F S:=fun _ _ _ _=>trivial
theorem BX (F:aj.Fn) (a n:Nat):uM vM F a n:=fun _ _=>⟨mX _,mX _,mX _⟩
theorem zq (m:M4):rE vM m:=fun _ _=>trivial
theorem swapT (F:aj.Fn) (i j:Nat):Bl vM F i j:=⟨mX _,mX _,mX _,mX _,mX _,mX _,mX _,mX _,mX _,mX _,mX _⟩
theorem OU (F:aj.Fn):Bp vM F:=⟨fun _ _=>swapT _ _ _,fun _ _=>swapT _ _ _⟩
theorem ZA (rs:List bg):NQ vM rs:=⟨fun _ _ _ _=>trivial,fun _ _ _=>trivial⟩
theorem toT (F:aj.Fn) (a:Nat):Ti vM F a:=⟨BX _ _ _,zq _,mX _⟩
theorem aaC (F:aj.Fn) (a:Nat):JQ vM F a:=⟨BX _ _ _,zq _,mX _⟩
theorem firstT (ds:List Dev) (ls:List ah) (S:Pl→aj.Fn):Gi vM ds ls S:=fun _ _ _ _=>⟨zq _,uN _ _ _ _⟩
theorem aaD (ds:List Dev) (ls:List ah) (S S':Pl→aj.Fn):J5 vM ds ls S S':=fun _ _ _=>
 ⟨fun _=>⟨ZA _,fun _ _=>mX _,fun _ _ _ _=>trivial,fun _ _ _ _=>mX _,fun _ _ _ _=>uN _ _ _ _⟩,
  fun _=>⟨ZA _,mX _,uN _ _ _ _,OU _,mX _,uN _ _ _ _⟩,
  fun _=>⟨BX _ _ _,BX _ _ _,zq _,mX _,uN _ _ _ _,zq _,mX _,BX _ _ _,BX _ _ _,BX _ _ _,BX _ _ _,OU _,mX _,uN _ _ _ _⟩,
  fun _=>⟨zq _,mX _,mX _,mX _,uN _ _ _ _,uN _ _ _ _,fun _ _ _=>toT _ _,fun _ _ _=>uN _ _ _ _,fun _ _ _=>OU _,fun _ _ _=>mX _,fun _ _ _=>aaC _ _,fun _ _ _=>uN _ _ _ _⟩⟩
end Go.Proofs.YtifkacnoiocebaaGreat
namespace Go.Proofs.YtifkacnoiocebaaGreat
open Go.Maps Go.RowKit Go.WideElems
theorem Xy:Rm:=by
 intro E hE w Dn h i d hd hok nU
 have h1:1≤d.kind:=hok.k1
 have h5:d.kind≤5:=hok.k5
 rcases(by omega:d.kind=1∨d.kind=2∨d.kind=3∨d.kind=4∨d.kind=5)with e | e | e | e | e
 ·exact TQ E hE w Dn h i d hd hok nU e
 ·exact OH E hE w Dn h i d hd hok nU e
 ·exact TR E hE w Dn h i d hd hok nU e
 ·cases ho:(aD E.n.ls ((i:Int),1)).isSome with
  |false=>exact TU E hE w Dn h i d hd hok nU e ho
  |true=>exact TV E hE w Dn h i d hd hok nU e ho
 ·exact Xw E hE w Dn h i d hd hok nU e
section
variable {n:aC} {K:Nat}
structure xq (n:aC):Prop where
 hd:∀d∈n.au,fU d
 hr:∀d∈n.au,∀r∈d.rules,r.ok
 hk:Np n.au n.ls
theorem xq.of {W:World} {B:Nat} (hn:bq W B n) (hE:fq n.au n.ls=0):xq n:=
 ⟨yc hE,fun d hd=>by
  simp only[aC.au,List.mem_map]at hd
  obtain⟨dv,hdv,rfl⟩:=hd
  exact(hn.qW dv hdv).rs.2.1,mK hE⟩
theorem xq.out (h:xq n) {x:aB} (hx:¬PD n.au n.au.length 0 x) (k c:Nat) (hc:c<16384):aF n.au n.ls k x (aH c)=false:=by
 cases e:aF n.au n.ls k x (aH c)with
 |false=>rfl
 |true=>
  obtain⟨y,hy⟩:=MV h.hd h.hr hc k e
  exact absurd (PD.place.2 (h.hk.pl x (zM hy))) hx
theorem xq.Ro (p:P4) (x:aB) (hp:dH p=true):iR n.au n.ls K x p=eT n.au n.ls K x (iV p):=by
 have hr:=hp
 simp only[dH,aZ,Bool.and_eq_true,decide_eq_true_eq]at hr
 have hc:iV p<16384:=by unfold iV;omega
 unfold eT iR
 rw[hp,oZ _ hc,wC _ hc]
theorem xq.ZB (h:xq n) (p:P4) (x:aB) (hx:¬PD n.au n.au.length 0 x∨dH p=false):iR n.au n.ls K x p= -1:=by
 by_cases hp:dH p=true
 ·have hx:=hx.resolve_right (by rw[hp];decide)
  have hr:=hp
  simp only[dH,aZ,Bool.and_eq_true,decide_eq_true_eq]at hr
  have hc:iV p<16384:=by unfold iV;omega
  have h1:=ze n.au n.ls K x (iV p) hc
  have h2:¬ 0≤eT n.au n.ls K x (iV p):=fun q=>by
   have:=h1.1 q
   unfold iC at this
   rw[h.out hx K _ hc]at this
   cases this
  have h3: -1≤eT n.au n.ls K x (iV p):=by
   unfold eT iR
   split
   ·exact(Dk _ _ _).1
   ·exact Int.le_refl _
  rw[xq.Ro p x hp]
  omega
 ·unfold iR
  rw[if_neg hp]
end
theorem aaE {a:Int} (h:bT a):aZ a 2 40000=false:=by
 unfold bT at h
 unfold aZ
 rw[Bool.and_eq_false_iff,decide_eq_false_iff_not,decide_eq_false_iff_not]
 omega
end Go.Proofs.YtifkacnoiocebaaGreat
