/- A part of the proof: WorldD, WorldE, WorldR. -/
import Derived.Test.YtlhmdcgckocidaaGreatHr21
set_option linter.unusedVariables false
set_option linter.unusedSimpArgs false
set_option maxRecDepth 100000
set_option maxHeartbeats 16000000
namespace Go.Proofs.YtlhmdcgckocidaaGreat
open Go.Maps Go.RowKit
theorem eH {p:P4} (h:aV p=true):p.ok:=by
 obtain⟨h1,h2,h3,h4⟩:=uO h
 simp only[gq,Bool.and_eq_true,decide_eq_true_eq]at h1 h2 h3 h4
 exact⟨by unfold ay;omega,by unfold ay;omega,by unfold ay;omega,by unfold ay;omega⟩
theorem U2 (k:Int):dL k≤4:=by
 unfold dL
 repeat' split
 all_goals omega
theorem J7 {ds:List Dev} {x:Pl} (hd:ds.length≤10) (h:bT ds x=true):ay x.1∧ay x.2:=by
 have q:=vY.1 h
 have:=U2 (nI ds x.1)
 exact⟨by unfold ay;omega,by unfold ay;omega⟩
theorem J8 {W W2:World} {a1 a2:Array Value} {t1 t2:TypeId} (hG:(W.alloc (.cells a1 t1)).alloc (.cells a2 t2)=W2):BX W [(W.heap.size+1,a2),(W.heap.size,a1)] W2∧W2.heap.size=W.heap.size+2:=by
 have e:=gU (B:=W2.heap.size) [(a1,t1),(a2,t2)] W (W':=W2) (by rw[← hG];exact Below.refl _ _)
 have hs:W2.heap.size=W.heap.size+2:=by rw[← hG];simp
 refine⟨⟨e.2 (by omega),fun x hx=>?_⟩,hs⟩
 rcases List.mem_cons.1 hx with rfl | hx
 ·exact⟨e.1 1 _ _ rfl (by omega),by simp;omega⟩
 ·obtain rfl:=List.mem_singleton.1 hx
  exact⟨e.1 0 _ _ rfl (by omega),by simp;omega⟩
theorem Z7 {W W2:World} {a1:Array Value} {t1:TypeId} (hG:W.alloc (.cells a1 t1)=W2):BX W [(W.heap.size,a1)] W2∧W2.heap.size=W.heap.size+1:=by
 have e:=gU (B:=W2.heap.size) [(a1,t1)] W (W':=W2) (by rw[← hG];exact Below.refl _ _)
 have hs:W2.heap.size=W.heap.size+1:=by rw[← hG];simp
 refine⟨⟨e.2 (by omega),fun x hx=>?_⟩,hs⟩
 obtain rfl:=List.mem_singleton.1 hx
 exact⟨e.1 0 _ _ rfl (by omega),by simp;omega⟩
theorem aC (w:World) (o:Obj):Below w.heap.size w (w.alloc o):=(Below.refl _ _).alloc (Nat.le_refl _) o
theorem Ar {W0 W:World} {F:Nat→Prop} {g:Nat} {no:aH} {gm:Nat} {nm:aH} {f o b km:Nat} {A:Option Addr} {c:Nat} {Z:iG} {k:Nat} (h:dK W0 W F g no gm nm f o b km A c Z k) (y:aQ) (hy:y.ok):
  Calls Tryz.prog 28 #[.pointer (some ⟨g,0,none⟩),.agg #[.int .i64 y.d,.int .i64 y.y],.agg #[.int .i64 y.p.src,.int .i64 y.p.dst,.int .i64 y.p.ah,.int .i64 y.p.aj]] W fun e W'=>e= .returned (.bool (decide (y∈Z.S)))∧Below W.heap.size W W':=by
 have HW:=hide h
 clear h
 obtain⟨B,hB⟩:∃B,decide (y∈Z.S)=B:=⟨_,rfl⟩
 rw[hB]
 go_enter Tryz.func28,Tryz.ntmps28
 go_wp2_with fail
 generalize hG:World.alloc (World.alloc W _) _=W2
 have HX:=hide (J8 hG).1
 clear hG
 refine bS (by kernel_rfl) (by kernel_rfl) ?_
 intro T hT gt hg1 hgi
 have aU:=hide hg1
 have gX:=hide hgi
 clear hg1 hgi
 have k4:∀t,(gt t).cell? ⟨g,4,none⟩=some (.map (some km)):=fun t=>(HW.out.below (HX.out.below (aU.out t)).bl).c4
 have x0:∀t,(gt t).cell? ⟨W.heap.size,0,none⟩=some (.int .i64 y.d):=fun t=>((HX.out.below (aU.out t)).get 1 rfl).1 0 _ rfl
 have x1:∀t,(gt t).cell? ⟨W.heap.size,1,none⟩=some (.int .i64 y.y):=fun t=>((HX.out.below (aU.out t)).get 1 rfl).1 1 _ rfl
 have z0:∀t,(gt t).cell? ⟨W.heap.size+1,0,none⟩=some (.int .i64 y.p.src):=fun t=>((HX.out.below (aU.out t)).get 0 rfl).1 0 _ rfl
 have z1:∀t,(gt t).cell? ⟨W.heap.size+1,1,none⟩=some (.int .i64 y.p.dst):=fun t=>((HX.out.below (aU.out t)).get 0 rfl).1 1 _ rfl
 have z2:∀t,(gt t).cell? ⟨W.heap.size+1,2,none⟩=some (.int .i64 y.p.ah):=fun t=>((HX.out.below (aU.out t)).get 0 rfl).1 2 _ rfl
 have z3:∀t,(gt t).cell? ⟨W.heap.size+1,3,none⟩=some (.int .i64 y.p.aj):=fun t=>((HX.out.below (aU.out t)).get 0 rfl).1 3 _ rfl
 have hlk:∀t,(Instr.lookup 153 (.map (some km)) (.agg #[.int .i64 y.d,.int .i64 y.y,.int .i64 y.p.src,.int .i64 y.p.dst,.int .i64 y.p.ah,.int .i64 y.p.aj]) false).run Tryz.prog (gt t)= .ok (.bool B) (gt t):=fun t=>by rw[← hB];exact(HW.out.below (HX.out.below (aU.out t)).bl).look y hy
 repeat (go_big_quiet_step (fail))
 refine wpQuiet_nil ?_
 intro _ hw'
 obtain⟨t,rfl⟩:=hw'
 have HB:=hide (HX.out.below (aU.out t)).bl
 generalize gt t=W3 at*
 clear k4 x0 x1 z0 z1 z2 z3 hlk aU gX
 go_wp2
 go_ret
 exact⟨rfl,HB.out⟩
theorem MP {W0 W:World} {F:Nat→Prop} {g:Nat} {no:aH} {gm:Nat} {nm:aH} {f o b km:Nat} {A:Option Addr} {c:Nat} {Z:iG} {k:Nat} (h:dK W0 W F g no gm nm f o b km A c Z k) {ds:List Dev} {ls:List av} (hds:no.au=ds) (hls:no.ls=ls) (hE:dD ds ls=0) (i:Int) (p:P4) (hi:ay i) (hp:p.ok) (hl:Z.S.length+1≤k) (hk:k<1000000):
  Calls Tryz.prog 78 #[.pointer (some ⟨g,0,none⟩),.int .i64 i,.agg #[.int .i64 p.src,.int .i64 p.dst,.int .i64 p.ah,.int .i64 p.aj]] W fun e W'=>e= .returned (.int .i64 (kW ds ls Z.S i p).1)∧∃A' c' F',dK W0 W' F' g no gm nm f o b km A' c' ⟨Z.M,(kW ds ls Z.S i p).2⟩ k∧aL F W.heap.size W W'∧∀j,F' j→F j∨W.heap.size≤j:=by
 have HW:=hide h
 have hdl:=fq h.net
 have hdn:no.dn≤10:=by rw[← hdl,hds];exact(dH hE).dl
 have hln:no.ln≤9223372036854775807:=by have h1:=(dH hE).ll;have:=h.net.llen;rw[← hls]at h1;omega
 have hgl:=(h.fo g h.fg).2
 clear h
 obtain⟨R,hR⟩:∃R,kW ds ls Z.S i p=R:=⟨_,rfl⟩
 rw[hR]
 have HR:=hide hR
 clear hR
 have HD:=hide hds
 have HL:=hide hls
 have HE:=hide hE
 have qg:=hide hdl
 clear hds hls hE hdl
 have hc0:=fun(o':Obj)=>(HW.out.below (aC W o')).c0
 by_cases h1:i<0
 case pos=>
  have HS:=hide (show R=(4,Z.S)from by rw[← HR.out];exact JZ (by simp only[gq,Bool.and_eq_false_iff,decide_eq_false_iff_not];omega))
  go_enter Tryz.func78,Tryz.ntmps78
  go_wp2
  go_ret
  exact⟨gH (by rw[HS.out]),A,c,F,by rw[HS.out];exact HW.out.below (aC W _),aL.of_below (aC W _),fun j e=>Or.inl e⟩
 by_cases h2:(no.dn:Int)≤i
 case pos=>
  have HS:=hide (show R=(4,Z.S)from by rw[← HR.out];exact JZ (by simp only[gq,Bool.and_eq_false_iff,decide_eq_false_iff_not];rw[← HD.out,qg.out];omega))
  go_enter Tryz.func78,Tryz.ntmps78
  go_wp2
  go_ret
  exact⟨gH (by rw[HS.out]),A,c,F,by rw[HS.out];exact HW.out.below (aC W _),aL.of_below (aC W _),fun j e=>Or.inl e⟩
 have hn:=HW.out.net
 obtain⟨j,rfl⟩:∃j:Nat,i=(j:Int):=⟨i.toNat,by omega⟩
 have hjl:j<no.ds.length:=by have:=hn.eZ;omega
 obtain⟨r,hr⟩:∃r,no.ds[j]?=some r:=⟨_,List.getElem?_eq_getElem hjl⟩
 obtain⟨db,od,dN,JF,JG⟩:=hn.ds.2 (by omega)
 clear JF JG hn
 have hdr:ds[(j:Int).toNat]?=some r.dev:=by rw[← HD.out,aH.au,List.getElem?_map,Int.toNat_natCast,hr];rfl
 have HI:=hide (show kW ds ls Z.S (j:Int) p=nV ls Z.S (j:Int) p r.dev from He (by simp only[gq,Bool.and_eq_true,decide_eq_true_eq];rw[← HD.out,qg.out];omega) hdr)
 rw[HR.out]at HI
 clear hdr HR
 have qj:=hide (fun(w':World) (hb:Below W.heap.size W w')=>dF (b:=db) (o:=od) (w:=w') (r:=r) (k:=j) (by have q:=(HW.out.below hb).net.ds;rw[dN]at q;exact q) hr)
 have k0:=fun(o':Obj)=>(by have q:=(HW.out.below (aC W o')).c0;rw[dN]at q;exact q:(W.alloc o').cell? ⟨g,0,none⟩=some (.slice (some ⟨db,od,none⟩) no.dn no.dc))
 have d0:=fun(o':Obj)=>(qj.out _ (aC W o')).2.1
 have d1:=fun(o':Obj)=>(qj.out _ (aC W o')).2.2.1
 have d2:=fun(o':Obj)=>(qj.out _ (aC W o')).2.2.2.1
 have d3:=fun(o':Obj)=>(qj.out _ (aC W o')).2.2.2.2.1
 have d4:=fun(o':Obj)=>(qj.out _ (aC W o')).2.2.2.2.2.1
 have d5:=fun(o':Obj)=>(qj.out _ (aC W o')).2.2.2.2.2.2.1
 have d6:=fun(o':Obj)=>(qj.out _ (aC W o')).2.2.2.2.2.2.2
 clear hc0
 have i1:(0:Int)≤(j:Int):=by omega
 have i2:(j:Int)<(no.dn:Int):=by omega
 by_cases h3:r.kind≠1
 case pos=>
  have HS:=hide (show R=(1,Z.S)from by rw[HI.out];exact Rz h3)
  have e3:(r.kind != 1)=true:=by simpa using h3
  go_enter Tryz.func78,Tryz.ntmps78
  go_wp2
  go_ret
  have hb:Below W.heap.size W ((W.alloc (.cells #[.int .i64 p.src,.int .i64 p.dst,.int .i64 p.ah,.int .i64 p.aj] 29)).alloc (.cells #[.string r.name,.int .i64 r.kind,.int .i64 r.addr,.int .u8 r.pool,.slice r.bA r.bn r.bc,.slice r.rA r.rn r.rc,.slice r.tA r.tn r.tc] 86)):=(aC W _).trans ((aC _ _).mono (by simp))
  exact⟨gH (by rw[HS.out]),A,c,F,by rw[HS.out];exact HW.out.below hb,aL.of_below hb,fun j e=>Or.inl e⟩
 have e3:(r.kind != 1)=false:=by simpa using h3
 have Bl:=hide (Classical.not_not.1 h3)
 clear h3
 go_enter Tryz.func78,Tryz.ntmps78
 go_wp2_with fail
 generalize hG:World.alloc (World.alloc W _) _=W2
 have bO:=hide (J8 hG).1
 clear hG k0 d0 d1 d2 d3 d4 d5 d6 e3 qj h1 h2
 refine(qI p W2).mono ?_
 rintro e W3 ⟨he,hb⟩
 have cu:=hide (bO.out.below hb)
 clear hb bO
 by_cases h4:aV p=false
 case pos=>
  have HS:=hide (show R=(1,Z.S)from by rw[HI.out];exact Pm Bl.out h4)
  rw[h4]at he
  obtain rfl:e= .returned (.int .i64 1):=he
  go_wp2
  go_ret
  exact⟨gH (by rw[HS.out]),A,c,F,by rw[HS.out];exact HW.out.below cu.out.bl,aL.of_below cu.out.bl,fun j e=>Or.inl e⟩
 have h4':aV p=true:=by simpa using h4
 rw[h4']at he
 obtain rfl:e= .returned (.int .i64 0):=he
 have NM:=hide h4'
 clear h4'
 clear h4
 have p0:=(cu.out.get 1 rfl).1 0 _ rfl
 have a2:=(cu.out.get 0 rfl).1 2 _ rfl
 by_cases h5:p.src≠r.addr
 case pos=>
  have HS:=hide (show R=(1,Z.S)from by rw[HI.out];exact UW Bl.out NM.out h5)
  have e5:(p.src != r.addr)=true:=by simpa using h5
  go_wp2
  go_ret
  exact⟨gH (by rw[HS.out]),A,c,F,by rw[HS.out];exact HW.out.below cu.out.bl,aL.of_below cu.out.bl,fun j e=>Or.inl e⟩
 have e5:(p.src != r.addr)=false:=by simpa using h5
 have HK3:=hide (Classical.not_not.1 h5)
 clear h5
 have g0:=(HW.out.below cu.out.bl).c0
 have g1:=(HW.out.below cu.out.bl).c1
 have oD:=hide (wP (some ⟨db,od,none⟩) no.dn no.dc no.lA no.ln no.lc no.ls (j:Int) 0 W3 hln (HW.out.below cu.out.bl).net.ls)
 rw[HL.out]at oD
 go_wp2_with fail
 refine oD.out.mono ?_
 clear oD p0 a2 g0 g1 e5
 rintro e W4 ⟨rfl,hb⟩
 have dW:=hide (cu.out.below hb)
 clear hb cu
 cases hpe:aP ls ((j:Int),0)with
 |none=>
  have HS:=hide (show R=(7,Z.S)from by rw[HI.out];exact RA Bl.out NM.out HK3.out hpe)
  simp only[rG]
  go_wp2
  go_ret
  have hb:Below W.heap.size W (W4.alloc (.cells #[.int .i64 0,.int .i64 0] 27)):=dW.out.bl.trans ((aC _ _).mono dW.out.bl.size)
  exact⟨gH (by rw[HS.out]),A,c,F,by rw[HS.out];exact HW.out.below hb,aL.of_below hb,fun j e=>Or.inl e⟩
 |some z=>
  have HS:=hide (show R=(0,jh Z.S ⟨z.1,z.2,p⟩)from by rw[HI.out];exact Hf Bl.out NM.out HK3.out hpe)
  have hzp:=J7 (dH HE.out).dl (rW HE.out hpe)
  simp only[rG]
  have p0:=fun(o':Obj)=>((dW.out.below (aC _ o')).get 1 rfl).1 0 _ rfl
  have p1:=fun(o':Obj)=>((dW.out.below (aC _ o')).get 1 rfl).1 1 _ rfl
  have p2:=fun(o':Obj)=>((dW.out.below (aC _ o')).get 1 rfl).1 2 _ rfl
  have p3:=fun(o':Obj)=>((dW.out.below (aC _ o')).get 1 rfl).1 3 _ rfl
  go_wp2_with fail
  have pI:=hide (show Below W.heap.size W (W4.alloc (.cells #[.int .i64 z.1,.int .i64 z.2] 27))from dW.out.bl.trans ((aC _ _).mono dW.out.bl.size))
  generalize World.alloc W4 _=W5 at*
  clear p0 p1 p2 p3
  refine(EG (HW.out.below pI.out) ⟨z.1,z.2,p⟩ ⟨hzp.1,hzp.2,hp⟩ hl hk).mono ?_
  rintro e W6 ⟨rfl,A',c',F',hw,hn,hF⟩
  have ql:=hide hw
  have CZ:=hide hn
  have Hr:=hide hF
  clear hw hn hF
  go_wp2
  go_ret
  refine⟨gH (by rw[HS.out]),A',c',F',by rw[HS.out];exact ql.out,(aL.of_below pI.out).trans (CZ.out.mono pI.out.size),fun j e=>?_⟩
  rcases Hr.out j e with e | e
  ·exact Or.inl e
  ·right;have:=pI.out.size;omega
theorem FB.WT {W w w0:World} {L Z:List (Nat×Array Value)} {g:Nat} {n:aH} {f o b:Nat} {M M':aK} {k k':Nat} {N:Nat} {vs:Array Value} (h:FB W L g n f o b M k w0 ((N,vs)::Z) M' k' w):∃N' w',N=N'∧w=w'∧(FA W ((N',vs)::L) g n f o b M' k' w'∧aL (eX f o b) w0.heap.size w0 w'):=⟨_,_,rfl,rfl,h.done,h.near⟩
theorem FB.ne {W w w0:World} {L Z:List (Nat×Array Value)} {g:Nat} {n:aH} {f o b:Nat} {M M':aK} {k k':Nat} (h:FB W L g n f o b M k w0 Z M' k' w) (i:Nat) {x:Nat×Array Value} (hx:L[i]?=some x):aB w x.1 x.2∧x.1≠w.heap.size∧w.heap.size≠x.1:=by
 have q:=h.fa.box.bx _ (List.mem_of_getElem? hx)
 exact⟨q.1,Nat.ne_of_lt q.2,Ne.symm (Nat.ne_of_lt q.2)⟩
theorem RU {w:World} {N:Nat} {a b:Int} (q:aB w N #[.int .i64 a,.int .i64 b]):w.cell? ⟨N,0,none⟩=some (.int .i64 a)∧w.cell? ⟨N,1,none⟩=some (.int .i64 b):=⟨q.1 0 _ rfl,q.1 1 _ rfl⟩
theorem BX.aco {W0 W w:World} {L:List (Nat×Array Value)} (h:BX W L w) (hb:Below W0.heap.size W0 W):BX W0 L w:=⟨hb.trans (h.bl.mono hb.size),h.bx⟩
theorem U3 {ds:List Dev} {ls:List av} {M:aK} {i y:Int} {p:P4} {ch:Int} (hE:dD ds ls=0) (hM:nY M) {S:gL} (hS:eO ds ls M i y p ch=S) (h0:S.e=0):(⟨S.to.1,S.to.2,S.q⟩:aQ).ok :=by
 have q:=(Hg (i:=i) (y:=y) (p:=p) (ch:=ch) hE hM).2
 rw[hS]at q
 have q2:=q h0
 have q3:=J7 (dH hE).dl q2.2
 exact⟨q3.1,q3.2,eH q2.1⟩
theorem J9 {W0 W:World} {F:Nat→Prop} {g:Nat} {no:aH} {gm:Nat} {nm:aH} {f o b km:Nat} {A:Option Addr} {c:Nat} {Z:iG} {k:Nat} (h:dK W0 W F g no gm nm f o b km A c Z k) (hb0:Below W0.heap.size W0 W) {ds:List Dev} {ls:List av} (hds:no.au=ds) (hls:no.ls=ls) (U4:nm.au=ds) (Z8:nm.ls=ls) (hE:dD ds ls=0) (hG:uN ds Z) (x:bV) (hx:x.ok) (hk:k<100000):
  Calls Tryz.prog 29 #[.pointer (some ⟨g,0,none⟩),.agg #[.int .i64 x.kind,.int .i64 x.dev,.int .i64 x.port,.int .i64 x.p.src,.int .i64 x.p.dst,.int .i64 x.p.ah,.int .i64 x.p.aj,.int .i64 x.ch]] W fun e W'=>e= .returned (.int .i64 (eU ds ls Z x).1)∧∃A' c' F',dK W0 W' F' g no gm nm f o b km A' c' (eU ds ls Z x).2 (k+1)∧aL F W.heap.size W W'∧∀j,F' j→F j∨W.heap.size≤j:=by
 have HW:=hide h
 have hgl:=(h.fo g h.fg).2
 have hlk:=h.lk
 have hdn:nm.dn≤10:=by rw[← fq h.mem.net,U4];exact(dH hE).dl
 have qX:=hide (show¬eX f o b g from fun e=>(h.g3 g e).1 rfl)
 clear h
 have HD:=hide (And.intro hds (And.intro hls (And.intro U4 Z8)))
 have HE:=hide hE
 have HGO:=hide hG
 have HX:=hide hx
 have HB0:=hide hb0
 clear hds hls U4 Z8 hE hG hx hb0
 by_cases h1:x.kind=1
 case pos=>
  have HS:=hide (show eU ds ls Z x=((kW ds ls Z.S x.dev x.p).1,⟨Z.M,(kW ds ls Z.S x.dev x.p).2⟩)from if_pos h1)
  have e1:(x.kind ==1)=true:=by simpa using h1
  clear h1
  go_enter Tryz.func29,Tryz.ntmps29
  go_wp2_with fail
  have HB1:=hide (aC W (.cells #[.int .i64 x.kind,.int .i64 x.dev,.int .i64 x.port,.int .i64 x.p.src,.int .i64 x.p.dst,.int .i64 x.p.ah,.int .i64 x.p.aj,.int .i64 x.ch] 58))
  generalize World.alloc W _=W1 at*
  refine(MP ((HW.out.below HB1.out).up (Nat.le_succ k)) HD.out.1 HD.out.2.1 HE.out x.dev x.p HX.out.d HX.out.p (by omega) (by omega)).mono ?_
  rintro e W6 ⟨rfl,A',c',F',hw,hn,hF⟩
  have ql:=hide hw
  have CZ:=hide hn
  have Hr:=hide hF
  clear hw hn hF
  go_wp2
  go_ret
  refine⟨gH (by rw[HS.out]),A',c',F',by rw[HS.out];exact ql.out,(aL.of_below HB1.out).trans (CZ.out.mono HB1.out.size),fun j e=>?_⟩
  rcases Hr.out j e with e | e
  ·exact Or.inl e
  ·right;have:=HB1.out.size;omega
 have e1:(x.kind ==1)=false:=by simpa using h1
 have H1:=hide h1
 clear h1
 by_cases h2:x.kind=2
 case pos=>
  have e2:(x.kind ==2)=true:=by simpa using h2
  have H2:=hide h2
  clear h2
  obtain⟨B,hB⟩:∃B,decide ((⟨x.dev,x.port,x.p⟩:aQ)∈Z.S)=B:=⟨_,rfl⟩
  have Au:=hide (fun(w':World) (hb:Below W.heap.size W w')=>Ar (HW.out.below hb) ⟨x.dev,x.port,x.p⟩ ⟨HX.out.d,HX.out.y,HX.out.p⟩)
  rw[hB]at Au
  go_enter Tryz.func29,Tryz.ntmps29
  go_wp2_with fail
  generalize hG:World.alloc (World.alloc W _) _=W2
  have bO:=hide (J8 hG).1
  clear hG
  refine(Au.out W2 bO.out.bl).mono ?_
  clear Au
  rintro e W3 ⟨rfl,hb⟩
  have cu:=hide (bO.out.below hb)
  clear hb bO
  cases B
  case false=>
   have HS:=hide (show eU ds ls Z x=(7,Z)from by rw[eU,if_neg H1.out,if_pos H2.out,if_neg (by simpa using hB)])
   go_wp2
   go_ret
   exact⟨gH (by rw[HS.out]),A,c,F,by rw[HS.out];exact(HW.out.below cu.out.bl).up (Nat.le_succ k),aL.of_below cu.out.bl,fun j e=>Or.inl e⟩
  obtain⟨S,hS⟩:∃S,eO ds ls Z.M x.dev x.port x.p x.ch=S:=⟨_,rfl⟩
  have HS:=hide (show eU ds ls Z x=(S.e,⟨Z.M.learn S.kn,S.come Z.S⟩)from by rw[eU,if_neg H1.out,if_pos H2.out,if_pos (by simpa using hB),hS])
  have Z9:=hide (U3 HE.out ⟨HGO.out.o,HGO.out.b⟩ hS)
  have HW3:=hide (HW.out.below cu.out.bl)
  have HFA:=hide (show FA W0 [(W.heap.size+1,#[.int .i64 x.dev,.int .i64 x.port]),(W.heap.size,#[.int .i64 x.kind,.int .i64 x.dev,.int .i64 x.port,.int .i64 x.p.src,.int .i64 x.p.dst,.int .i64 x.p.ah,.int .i64 x.p.aj,.int .i64 x.ch])] gm nm f o b Z.M k W3 from
   ⟨cu.out.aco HB0.out,HW3.out.mem,fun y hy e=>by
    have h3:=(HW.out.fo _ (HW.out.f3 _ e)).2
    rcases List.mem_cons.1 hy with rfl | hy
    ·simp only at h3;omega
    ·obtain rfl:=List.mem_singleton.1 hy
     simp only at h3;omega,fun j e=>(HW.out.fo j (HW.out.f3 j e)).1⟩)
  have Ht:=hide (show g<W3.heap.size∧W3.cell? ⟨g,2,none⟩=some (.pointer (some ⟨gm,0,none⟩))from⟨(HW3.out.fo g HW3.out.fg).2,HW3.out.c2⟩)
  have HH:=hide (fun(w':World) (hm:aM w' gm nm f o b Z.M k)=>YP gm nm f o b Z.M k x S HD.out.2.2.1 HD.out.2.2.2 HE.out HX.out (by omega) hS w' hm)
  clear hS hB
  obtain⟨Se,⟨Ka,Kc⟩,⟨Sa,Sb,Sc,Sd⟩,Sk⟩:=S
  simp only[gL.val]at HH
  go_wp2_with fail
  have HG:=hide HFA.out.start
  have pJ:=hide cu.out.bl
  clear HFA cu
  have c2:=(HG.out.near.cell (a:=⟨g,2,none⟩) Ht.out.1 qX.out).trans Ht.out.2
  obtain⟨p0,p1⟩:=RU (HG.out.ne 0 rfl).1
  obtain⟨b0,b1,b2,b3,b4,b5,b6,b7⟩:=J5 (HG.out.ne 1 rfl).1
  have n1:=(HG.out.ne 0 rfl).2
  have n2:=(HG.out.ne 1 rfl).2
  have n3:g≠_∧_≠g:=⟨Nat.ne_of_lt (Nat.lt_of_lt_of_le Ht.out.1 HG.out.near.size),Ne.symm (Nat.ne_of_lt (Nat.lt_of_lt_of_le Ht.out.1 HG.out.near.size))⟩
  have n1a:=n1.1
  have n1b:=n1.2
  have n2a:=n2.1
  have n2b:=n2.2
  have n3a:=n3.1
  have n3b:=n3.2
  apply Et (C:=fun N w'=>FA W0 ((N,#[.int .i64 Ka,.int .i64 Kc,.int .i64 Sa,.int .i64 Sb,.int .i64 Sc,.int .i64 Sd])::[(W.heap.size+1,#[.int .i64 x.dev,.int .i64 x.port]),(W.heap.size,#[.int .i64 x.kind,.int .i64 x.dev,.int .i64 x.port,.int .i64 x.p.src,.int .i64 x.p.dst,.int .i64 x.p.ah,.int .i64 x.p.aj,.int .i64 x.ch])]) gm nm f o b (Z.M.learn Sk) (k+1) w'∧aL (eX f o b) W3.heap.size W3 w')
  ·intro HK
   go_region_held3 (fun w'=>w'.cell? ⟨g,2,none⟩=some (.pointer (some ⟨gm,0,none⟩))∧w'.cell? ⟨W.heap.size+1,0,none⟩=some (.int .i64 x.dev)∧w'.cell? ⟨W.heap.size+1,1,none⟩=some (.int .i64 x.port)∧w'.cell? ⟨W.heap.size,3,none⟩=some (.int .i64 x.p.src)∧w'.cell? ⟨W.heap.size,4,none⟩=some (.int .i64 x.p.dst)∧w'.cell? ⟨W.heap.size,5,none⟩=some (.int .i64 x.p.ah)∧w'.cell? ⟨W.heap.size,6,none⟩=some (.int .i64 x.p.aj)∧w'.cell? ⟨W.heap.size,7,none⟩=some (.int .i64 x.ch)) (go_keep) ((go_at_call 79;refine(HH.out _ ?_).mono ?_;(first | exact HG.out.d.mem | exact(HG.out.al _ _).d.mem | exact HG.out.mem | exact(HG.out.al _ _).mem);rintro e wp ⟨rfl,hm,hn⟩;(first | have HG:=hide (HG.out.d.step hm hn) | have HG:=hide ((HG.out.al _ _).d.step hm hn) | have HG:=hide (HG.out.step hm hn) | have HG:=hide ((HG.out.al _ _).step hm hn));have c2:=(HG.out.near.cell (a:=⟨g,2,none⟩) Ht.out.1 qX.out).trans Ht.out.2;obtain⟨p0,p1⟩:=RU (HG.out.ne 0 rfl).1;obtain⟨b0,b1,b2,b3,b4,b5,b6,b7⟩:=J5 (HG.out.ne 1 rfl).1;have n1:=(HG.out.ne 0 rfl).2;have n2:=(HG.out.ne 1 rfl).2;have n3:g≠_∧_≠g:=⟨Nat.ne_of_lt (Nat.lt_of_lt_of_le Ht.out.1 HG.out.near.size),Ne.symm (Nat.ne_of_lt (Nat.lt_of_lt_of_le Ht.out.1 HG.out.near.size))⟩;have n1a:=n1.1;have n1b:=n1.2;have n2a:=n2.1;have n2b:=n2.2;have n3a:=n3.1;have n3b:=n3.2;(try obtain⟨⟨z0,z1,z2,z3,z4,z5⟩,f0,f1,f2,f3,f4,f5⟩:=JM (HG.out.z _ List.mem_cons_self).1)))
   all_goals (first | (obtain⟨N',w',e1,e2,q⟩:=(HG.out.al #[.int .i64 Ka,.int .i64 Kc,.int .i64 Sa,.int .i64 Sb,.int .i64 Sc,.int .i64 Sd] 106).WT;rw[e2,e1];exact HK.out _ _ q) | (obtain⟨N',w',e1,e2,q⟩:=(((((((HG.out.set 0 (.int .i64 Ka)).set 1 (.int .i64 Kc)).set 2 (.int .i64 Sa)).set 3 (.int .i64 Sb)).set 4 (.int .i64 Sc)).set 5 (.int .i64 Sd))).WT;rw[e2,e1];exact HK.out _ _ q))
  clear HG HH p0 p1 b0 b1 b2 b3 b4 b5 b6 b7 n1 n2 n3 n1a n1b n2a n2b n3a n3b c2
  intro N W4 RV
  have Ke:=hide RV.1
  have yU:=hide RV.2
  have lH:=hide (HW3.out.hand RV.1.mem RV.2 (Nat.le_succ k))
  clear RV
  have qU:=hide (show aL F W.heap.size W W4 from(aL.of_below pJ.out).trans ((yU.out.weak (fun j e=>HW3.out.f3 j e)).mono pJ.out.size))
  have nJ:=hide (Nat.le_trans pJ.out.size yU.out.size)
  clear pJ yU
  by_cases h5:Se=0
  case pos=>
   have hse:=h5
   subst h5
   have HC:=hide (show(gL.mk 0 (Ka,Kc) ⟨Sa,Sb,Sc,Sd⟩ Sk).come Z.S=jh Z.S ⟨Ka,Kc,⟨Sa,Sb,Sc,Sd⟩⟩from if_pos rfl)
   obtain⟨z0,z1,z2,z3,z4,z5⟩:=(JM (Ke.out.box.get 0 rfl)).1
   go_wp2_with fail
   refine(EG lH.out ⟨Ka,Kc,⟨Sa,Sb,Sc,Sd⟩⟩ (Z9.out (by trivial)) (by show Z.S.length+1≤k+1;omega) (by omega)).mono ?_
   rintro e W6 ⟨rfl,A',c',F',hw,hn,hF⟩
   have ql:=hide hw
   have CZ:=hide hn
   have Hr:=hide hF
   clear hw hn hF z0 z1 z2 z3 z4 z5
   go_wp2
   go_ret
   refine⟨gH (by rw[HS.out]),A',c',F',by rw[HS.out,HC.out];exact ql.out,qU.out.trans (CZ.out.mono nJ.out),fun j e=>?_⟩
   rcases Hr.out j e with e | e
   ·exact Or.inl e
   ·right;have:=nJ.out;omega
  have e5:(Se ==0)=false:=by simpa using h5
  have HC:=hide (show(gL.mk Se (Ka,Kc) ⟨Sa,Sb,Sc,Sd⟩ Sk).come Z.S=Z.S from if_neg h5)
  go_wp2
  go_ret
  exact⟨gH (by rw[HS.out]),A,c,F,by rw[HS.out,HC.out];exact lH.out,qU.out,fun j e=>Or.inl e⟩
 have e2:(x.kind ==2)=false:=by simpa using h2
 have H2:=hide h2
 clear h2
 by_cases h3:x.kind=3
 case pos=>
  have e3:(x.kind ==3)=true:=by simpa using h3
  have H3:=hide h3
  clear h3
  obtain⟨R,hR⟩:∃R,fT ds Z.M x.dev x.p x.ch=R:=⟨_,rfl⟩
  have HS:=hide (show eU ds ls Z x=(R.1,⟨R.2,Z.S⟩)from by rw[eU,if_neg H1.out,if_neg H2.out,if_pos H3.out,hR])
  have HFO:=hide (fun(w':World) (hb:Below W.heap.size W w')=>RQ gm nm f o b Z.M k x R.1 R.2 HD.out.2.2.1 hdn HX.out (by rw[hR]) (by rw[hR]) w' (HW.out.below hb).mem)
  go_enter Tryz.func29,Tryz.ntmps29
  go_wp2_with fail
  generalize hG:World.alloc W _=W1
  have cK:=hide (Z7 hG).1
  clear hG
  obtain⟨b0,b1,b2,b3,b4,b5,b6,b7⟩:=J5 (cK.out.get 0 rfl)
  have c2:=(HW.out.below cK.out.bl).c2
  go_still_tail 10,(by kernel_rfl)
  clear b0 b1 b2 b3 b4 b5 b6 b7 c2
  go_wp2_with fail
  refine(HFO.out _ cK.out.bl.drew).mono ?_
  rintro e W4 ⟨rfl,hm,hn⟩
  have lH:=hide ((HW.out.below cK.out.bl.drew).hand hm hn (Nat.le_refl k))
  have qU:=hide (show aL F W.heap.size W W4 from(aL.of_below cK.out.bl.drew).trans ((hn.weak (fun j e=>HW.out.f3 j e)).mono cK.out.bl.drew.size))
  clear hm hn HFO
  go_wp2
  go_ret
  exact⟨gH (by rw[HS.out]),A,c,F,by rw[HS.out];exact lH.out.up (Nat.le_succ k),qU.out,fun j e=>Or.inl e⟩
 have e3:(x.kind ==3)=false:=by simpa using h3
 have H3:=hide h3
 clear h3
 have HS:=hide (show eU ds ls Z x=(1,Z)from by rw[eU,if_neg H1.out,if_neg H2.out,if_neg H3.out])
 go_enter Tryz.func29,Tryz.ntmps29
 go_wp2
 go_ret
 exact⟨gH (by rw[HS.out]),A,c,F,by rw[HS.out];exact(HW.out.below (aC W _)).up (Nat.le_succ k),aL.of_below (aC W _),fun j e=>Or.inl e⟩
def kT (ds:List Dev) (ls:List av) (l:List bV):Nat→iG
 |0=>⟨aK.empty,[]⟩
 |k+1=>match l[k]? with
  |some x=>(eU ds ls (kT ds ls l k) x).2
  |none=>kT ds ls l k
def Kg (ds:List Dev) (ls:List av) (l:List bV) (k:Nat):Int:=match l[k]? with
 |some x=>(eU ds ls (kT ds ls l k) x).1
 |none=>0
theorem tV {ds:List Dev} {ls:List av} {l:List bV} {k:Nat} {x:bV} (h:l[k]?=some x):kT ds ls l (k+1)=(eU ds ls (kT ds ls l k) x).2:=by simp[kT,h]
theorem EH {ds:List Dev} {ls:List av} {l:List bV} {k:Nat} {x:bV} (h:l[k]?=some x):Kg ds ls l k=(eU ds ls (kT ds ls l k) x).1:=by simp[Kg,h]
theorem tX {ds:List Dev} {ls:List av} (hE:dD ds ls=0) (l:List bV):∀k,uN ds (kT ds ls l k)
 |0=>⟨fun a v h=>by simp[kT,aK.empty]at h,fun a v h=>by simp[kT,aK.empty]at h,fun x hx=>by simp[kT]at hx,by simp[kT]⟩
 |k+1=>by
  have h:=tX hE l k
  cases hx:l[k]? with
  |none=>simpa[kT,hx]using h
  |some x=>rw[tV hx];exact(NK hE h x).1
def iK (W w:World) (F:Nat→Prop) (g:Nat) (ds:List Dev) (ls:List av) (Z:iG) (k:Nat):Prop:=
 ∃no gm nm f o b km A c,dK W w F g no gm nm f o b km A c Z k∧no.au=ds∧no.ls=ls∧nm.au=ds∧nm.ls=ls
section
variable {W w w':World} {F F' q:Nat→Prop} {g:Nat} {ds:List Dev} {ls:List av} {Z:iG} {k k':Nat} {gt0:Nat} {n:aH} {T:TS}
theorem iK.stay (h:iK W w F g ds ls Z k) (hn:aL q w.heap.size w w') (hq:∀j,q j→W.heap.size≤j∧¬F j):iK W w' F g ds ls Z k:=by
 obtain⟨no,gm,nm,f,o,b,km,A,c,h1,h2⟩:=h
 exact⟨no,gm,nm,f,o,b,km,A,c,h1.stay hn hq,h2⟩
theorem iK.below (h:iK W w F g ds ls Z k) (hb:Below w.heap.size w w'):iK W w' F g ds ls Z k:=
 h.stay (q:=fun _=>False) (aL.of_below hb) (fun _ e=>e.elim)
theorem iK.fo (h:iK W w F g ds ls Z k):yE W w F:=by
 obtain⟨no,gm,nm,f,o,b,km,A,c,h1,h2⟩:=h
 exact h1.fo
theorem iK.up (h:iK W w F g ds ls Z k) (hk:k≤k'):iK W w F g ds ls Z k':=by
 obtain⟨no,gm,nm,f,o,b,km,A,c,h1,h2⟩:=h
 exact⟨no,gm,nm,f,o,b,km,A,c,h1.up hk,h2⟩
theorem Hu (h:iK W w F g ds ls Z k) (hb0:Below W.heap.size W w) (hE:dD ds ls=0) (hG:uN ds Z) (x:bV) (hx:x.ok) (hk:k<100000):
  Calls Tryz.prog 29 #[.pointer (some ⟨g,0,none⟩),.agg #[.int .i64 x.kind,.int .i64 x.dev,.int .i64 x.port,.int .i64 x.p.src,.int .i64 x.p.dst,.int .i64 x.p.ah,.int .i64 x.p.aj,.int .i64 x.ch]] w fun e w'=>e= .returned (.int .i64 (eU ds ls Z x).1)∧∃F',iK W w' F' g ds ls (eU ds ls Z x).2 (k+1)∧aL F w.heap.size w w'∧∀j,F' j→F j∨w.heap.size≤j:=by
 obtain⟨no,gm,nm,f,o,b,km,A,c,h1,h2,h3,h4,h5⟩:=h
 refine(J9 h1 hb0 h2 h3 h4 h5 hE hG x hx hk).mono ?_
 rintro e w' ⟨he,A',c',F',hw,hn,hF⟩
 exact⟨he,F',⟨no,gm,nm,f,o,b,km,A',c',hw,h2,h3,h4,h5⟩,hn,hF⟩
theorem rX (h:iK W w F g ds ls Z k) (y:aQ) (hy:y.ok):
  Calls Tryz.prog 28 #[.pointer (some ⟨g,0,none⟩),.agg #[.int .i64 y.d,.int .i64 y.y],.agg #[.int .i64 y.p.src,.int .i64 y.p.dst,.int .i64 y.p.ah,.int .i64 y.p.aj]] w fun e w'=>e= .returned (.bool (decide (y∈Z.S)))∧Below w.heap.size w w':=by
 obtain⟨no,gm,nm,f,o,b,km,A,c,h1,h2⟩:=h
 exact Ar h1 y hy
end
theorem vZ (n:aH) (W0 W:World) (h0:W0.heap.size≤W.heap.size) (hn:bf W W.heap.size n) (hnn:jk (fun j=>j<W0.heap.size) n) (hE:dD n.au n.ls=0):
  Calls Tryz.prog 27 #[n.val] W fun e W'=>∃g F,e= .returned (.tuple #[.pointer (some ⟨g,0,none⟩),.int .i64 0])∧iK W0 W' F g n.au n.ls ⟨aK.empty,[]⟩ 0∧Below W.heap.size W W'∧∀j,F j→W.heap.size≤j:=by
 refine(MO n W0 W h0 hn hnn hE).mono ?_
 rintro e W' ⟨g,F,no,gm,nm,f,o,b,km,he,hw,⟨h1,h2,h3,h4⟩,hb,hF⟩
 exact⟨g,F,he,⟨no,gm,nm,f,o,b,km,none,0,hw,h1,h2,h3,h4⟩,hb,hF⟩
theorem rY {w:World} {n:aH} (h:bf w w.heap.size n):jk (fun j=>j<w.heap.size) n:=
 (h.on (K:=0) ⟨fun _ _=>Nat.zero_le _,fun _ _=>Nat.zero_le _,fun _ _=>⟨fun _ _=>Nat.zero_le _,fun _ _=>Nat.zero_le _,fun _ _=>Nat.zero_le _⟩⟩).weak (fun j e=>e.2)
end Go.Proofs.YtlhmdcgckocidaaGreat
