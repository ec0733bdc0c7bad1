/- A part of the proof: Hs15. -/
import Derived.Test.YtlhmdcgckocidaaGreatHr41
set_option linter.unusedVariables false
set_option linter.unusedSimpArgs false
set_option maxRecDepth 100000
set_option maxHeartbeats 16000000
namespace Go.Proofs.YtlhmdcgckocidaaGreat
open Go.Maps Go.RowKit
theorem Io {bF:Pl→P4→Int} {r:Int} {a:Pl} {p:P4} (h:early bF r a p=true):0≤bF a p∧bF a p<r:=by
 simpa[early]using h
theorem Nj {bF:Pl→P4→Int} {r:Int} {x:gN} (h:fP bF r x=true):(0≤bF x.a x.p∧bF x.a x.p<r)∧∀y,x.need=some y→0≤bF (y.d,y.y) y.p∧bF (y.d,y.y) y.p<r:=by
 unfold fP at h
 rw[Bool.and_eq_true]at h
 refine⟨Io h.1,fun y hy=>?_⟩
 have h2:=h.2
 rw[hy]at h2
 exact Io h2
theorem FT {W0 W:World} {F:Nat→Prop} {g NR gw:Nat} {n:aH} {S:bP} {k K f:Nat} (h:iU W0 W F g NR gw n S k) (hb0:Below W0.heap.size W0 W) (hN:bf W0 W0.heap.size n) (hE:dD n.au n.ls=0) (HB:o7 W0 g NR gw n K f) (hO:gI n.au n.ls S) (hk:k≤20*S.L.length) {i:Nat} {r:aA} (hr:n.ds[i]?=some r)
  (x:bR) (hf:zx (i:Int) x.x) (hnb:∀y,x.x.need=some y→x.nb<W.heap.size∧aQ.box W x.nb y∧¬F x.nb) {rd:Int} (hkn:fP (aJ n.au n.ls K) rd x.x=true) (hrd:rd≤(f:Int)):
  Calls Tryz.prog 122 #[.pointer (some ⟨g,0,none⟩),.agg #[.int .i64 x.x.a.1,.int .i64 x.x.a.2,.int .i64 x.x.p.src,.int .i64 x.x.p.dst,.int .i64 x.x.p.ah,.int .i64 x.x.p.aj,x.ptr,.int .i64 x.x.ch,.bool x.x.fo]] W fun e W'=>e= .returned (.bool (iD n.au n.ls r.dev (cO n.au n.ls (aJ n.au n.ls K) f) S x.x).1)∧∃k',kP W0 W W' F g NR gw n (iD n.au n.ls r.dev (cO n.au n.ls (aJ n.au n.ls K) f) S x.x).2 k'∧Dq k' (iD n.au n.ls r.dev (cO n.au n.ls (aJ n.au n.ls K) f) S x.x):=by
 obtain⟨⟨⟨a1,a2⟩,⟨s,t,u,v⟩,need,ch,fo⟩,nb⟩:=x
 obtain⟨⟨k1,k2⟩,k3⟩:=Nj hkn
 have hdl:=(dH hE).dl
 rw[fq hN]at hdl
 have hin:i<n.dn:=by rw[← hN.eZ];exact(List.getElem?_eq_some_iff.1 hr).1
 have hia:ay (i:Int):=by unfold ay;omega
 have ha1:a1=(i:Int):=hf.a1
 subst ha1
 have ha2:ay a2:=by have:=hf.a2;simp only at this;simp only[ay];omega
 have hch:ay ch:=by have:=hf.ch;simp only at this;simp only[ay];omega
 have hp:aV ⟨s,t,u,v⟩=true:=((qw _ _ _ _ _).1 k1).1
 have hr1:0≤aJ n.au n.ls K ((i:Int),a2) ⟨s,t,u,v⟩∧aJ n.au n.ls K ((i:Int),a2) ⟨s,t,u,v⟩ <(f:Int):=⟨k1,by simp only at k2;omega⟩
 obtain⟨⟨b1,S1⟩,hB⟩:∃B,cO n.au n.ls (aJ n.au n.ls K) f S ((i:Int),a2) ⟨s,t,u,v⟩=B:=⟨_,rfl⟩
 cases b1
 case false=>
  rw[V4 hB]
  exact LA h hb0 HB hO hk r.dev (i:Int) a2 s t u v ch _ fo (by cases need<;>rfl) hp hia ha2 hr1 hB
 cases need with
 |none=>
  rw[Qw hB rfl]
  cases fo
  ·have e:kI n.au n.ls r.dev S1 ⟨((i:Int),a2),⟨s,t,u,v⟩,none,ch,false⟩=S1:=rfl
   rw[e]
   exact Gx h hb0 hN hE HB hO hk hr a2 s t u v ch hp ha2 hch hr1 hB rfl
  ·exact D6 h hb0 hN hE HB hO hk hr a2 s t u v ch hp ha2 hch hr1 hB rfl
 |some y=>
  obtain⟨q1,q2,q3⟩:=hf.nd y rfl
  simp only at q3
  subst q3
  obtain⟨yd,y2,⟨z0,z1,z2,z3⟩⟩:=y
  simp only at q1 q2
  subst q1
  obtain⟨l1,l2⟩:=k3 _ rfl
  have hpz:aV ⟨z0,z1,z2,z3⟩=true:=((qw _ _ _ _ _).1 l1).1
  have hr2:0≤aJ n.au n.ls K ((i:Int),y2) ⟨z0,z1,z2,z3⟩∧aJ n.au n.ls K ((i:Int),y2) ⟨z0,z1,z2,z3⟩ <(f:Int):=⟨l1,by simp only at l2;omega⟩
  have hy2:ay y2:=by simp only[ay];omega
  obtain⟨⟨b2,S2⟩,hB2⟩:∃B,cO n.au n.ls (aJ n.au n.ls K) f S1 ((i:Int),y2) ⟨z0,z1,z2,z3⟩=B:=⟨_,rfl⟩
  cases b2
  case false=>
   rw[I5 hB rfl hB2]
   exact D7 h hb0 hN hE HB hO hk hr a2 s t u v ch nb y2 z0 z1 z2 z3 (hnb _ rfl) hp hpz ha2 hy2 hch hr1 hr2 hB hB2
  obtain⟨⟨b4,S4⟩,hH⟩:∃B,bW n.au n.ls S2 r.dev (i:Int) y2 ⟨z0,z1,z2,z3⟩ ch=B:=⟨_,rfl⟩
  cases b4
  case false=>
   rw[Lv hB rfl rfl hB2 hH]
   exact FR h hb0 hN hE HB hO hk hr a2 s t u v ch nb y2 z0 z1 z2 z3 (hnb _ rfl) hp hpz ha2 hy2 hch hr1 hr2 hB hB2 hH
  rw[I6 hB rfl rfl hB2 hH]
  exact I7 h hb0 hN hE HB hO hk hr a2 s t u v ch nb y2 z0 z1 z2 z3 (hnb _ rfl) hp hpz ha2 hy2 hch hr1 hr2 hB hB2 hH rfl
section
variable {ds:List Dev} {ls:List av} {bF:Pl→P4→Int} {f:Nat} {S:bP} {a z:Pl} {p:P4} {d:Dev}
theorem Qx (h:(⟨a.1,a.2,p⟩:aQ)∈S.Z.S):cO ds ls bF (f+1) S a p=(true,S):=by rw[cO,if_pos h]
theorem Qy (h:¬(⟨a.1,a.2,p⟩:aQ)∈S.Z.S) (hp:aP ls a=none):cO ds ls bF (f+1) S a p=(false,S):=by rw[cO,if_neg h,hp]
theorem Qz (h:¬(⟨a.1,a.2,p⟩:aQ)∈S.Z.S) (hp:aP ls a=some z) (hf:S.full=true):cO ds ls bF (f+1) S a p=(false,S):=by
 rw[cO,if_neg h,hp]
 simp only
 rw[if_pos hf]
theorem QA (h:¬(⟨a.1,a.2,p⟩:aQ)∈S.Z.S) (hp:aP ls a=some z) (hf:S.full=false) (hd:ds[z.1.toNat]?=some d) (h0:bF a p=0∧d.kind=1):cO ds ls bF (f+1) S a p=iN ds ls S ⟨1,z.1,0,p,0⟩:=by
 rw[cO,if_neg h,hp]
 simp only
 rw[if_neg (by rw[hf];simp),hd]
 simp only
 rw[if_pos h0]
theorem FU (h:¬(⟨a.1,a.2,p⟩:aQ)∈S.Z.S) (hp:aP ls a=some z) (hf:S.full=false) (hd:ds[z.1.toNat]?=some d) (h0:¬(bF a p=0∧d.kind=1)) (hx:(gG bF z.1 z.2 d p).find? (fP bF (bF a p))=none):cO ds ls bF (f+1) S a p=(false,S):=by
 rw[cO,if_neg h,hp]
 simp only
 rw[if_neg (by rw[hf];simp),hd]
 simp only
 rw[if_neg h0,hx]
theorem Ip {x:gN} (h:¬(⟨a.1,a.2,p⟩:aQ)∈S.Z.S) (hp:aP ls a=some z) (hf:S.full=false) (hd:ds[z.1.toNat]?=some d) (h0:¬(bF a p=0∧d.kind=1)) (hx:(gG bF z.1 z.2 d p).find? (fP bF (bF a p))=some x):cO ds ls bF (f+1) S a p=iD ds ls d (cO ds ls bF f) S x:=by
 rw[cO,if_neg h,hp]
 simp only
 rw[if_neg (by rw[hf];simp),hd]
 simp only
 rw[if_neg h0,hx]
end
theorem LC {a b c d e f g:Int} {v:Value} {t:Bool} (h:v.oneCell'=true):(#[.int .i64 a,.int .i64 b,.int .i64 c,.int .i64 d,.int .i64 e,.int .i64 f,v,.int .i64 g,.bool t]:Array Value).all (·.oneCell')=true:=by
 rw[← Array.all_toList]
 simp only[List.all_cons,List.all_nil,h]
 rfl
theorem LD:(Tryz.prog.info? 207).map (·.size)=some 9:=by kernel_rfl
theorem Iq {α:Type} (P:α→Bool) (L:List α) {q:Nat} {x:α} (h:L[q]?=some x):(L.drop q).find? P=if P x then some x else(L.drop (q+1)).find? P:=by
 obtain⟨hq,e⟩:=List.getElem?_eq_some_iff.1 h
 rw[List.drop_eq_getElem_cons hq,e,List.find?_cons]
 cases P x<;>rfl
section
variable {W0 W w w':World} {L:List (Nat×Array Value)} {F:Nat→Prop} {g NR gw:Nat} {n:aH} {S:bP} {k:Nat}
theorem Hw.has (h:Hw W0 W L F g NR gw n S k w) (y:aQ) (hy:y.ok):
  Calls Tryz.prog 28 #[.pointer (some ⟨gw,0,none⟩),.agg #[.int .i64 y.d,.int .i64 y.y],.agg #[.int .i64 y.p.src,.int .i64 y.p.dst,.int .i64 y.p.ah,.int .i64 y.p.aj]] w fun e w'=>e= .returned (.bool (decide (y∈S.Z.S)))∧Below w.heap.size w w':=by
 obtain⟨F',h1,_⟩:=h
 obtain⟨F1,A,c,h2⟩:=h1.a
 exact rX h2.wd y hy
theorem Hw.more {N:Nat} {vs:Array Value} (h:Hw W0 W L F g NR gw n S k w) (hb:Below w.heap.size w w') (hx':aB w' N vs) (h1:w.heap.size≤N) (h2:N<w'.heap.size):Hw W0 W ((N,vs)::L) F g NR gw n S k w':=by
 obtain⟨F',q,hn,hF⟩:=h
 have q2:=q.below hb
 refine⟨F',⟨⟨q2.box.bl,fun x hx=>?_⟩,q2.a,fun x hx=>?_⟩,hn.trans ((aL.of_below hb).mono hn.size),hF⟩
 ·rcases List.mem_cons.1 hx with rfl | hx
  ·exact⟨hx',h2⟩
  ·exact q2.box.bx x hx
 ·rcases List.mem_cons.1 hx with rfl | hx
  ·intro e
   have:=(q.a.fo _ e).2
   simp only at this
   omega
  ·exact q2.dl x hx
end
theorem QB {W0:World} {g NR gw:Nat} {n:aH} {K f:Nat} (hN:bf W0 W0.heap.size n) (hE:dD n.au n.ls=0) (hRe:∀w',Below W0.heap.size W0 w'→fU w' NR n.au n.ls K) (HB:o7 W0 g NR gw n K f):o7 W0 g NR gw n K (f+1):=by
 intro W F S k a p h hb0 hO hk hp ha1 ha2 hrd
 obtain⟨a1,a2⟩:=a
 obtain⟨ps,pd,pu,pv⟩:=p
 obtain⟨⟨Rb,RS⟩,hR⟩:∃R,cO n.au n.ls (aJ n.au n.ls K) (f+1) S (a1,a2) ⟨ps,pd,pu,pv⟩=R:=⟨_,rfl⟩
 obtain⟨RP,zw⟩:∃RP,aJ n.au n.ls K (a1,a2) ⟨ps,pd,pu,pv⟩=RP:=⟨_,rfl⟩
 rw[hR]
 rw[zw]at hrd
 replace hrd:=hrd.2
 have HR:=hide hR
 have Ai:=hide zw
 have HO:=hide hO
 have oF:=hide hp
 have tK:=hide (eH hp)
 have HW0:=hide (Hw.start h hb0)
 have jM:=hide hN
 have HE:=hide hE
 have Av:=hide hRe
 have HBC:=hide HB
 have yA:=hide (show ay a1∧ay a2 from⟨ha1,ha2⟩)
 have aif:k<99000:=by have:=hO.le;omega
 obtain⟨M,hM⟩:∃M,decide ((⟨a1,a2,⟨ps,pd,pu,pv⟩⟩:aQ)∈S.Z.S)=M:=⟨_,rfl⟩
 have TB:=hide hM
 have HRW:=hide (fun w' h=>iZ NR n.au n.ls K (a1,a2) yA.out ⟨ps,pd,pu,pv⟩ w' h)
 rw[zw]at HRW
 have Au:=hide (fun(w':World) (L:List (Nat×Array Value)) (h:Hw W0 W L F g NR gw n S k w')=>h.has ⟨a1,a2,⟨ps,pd,pu,pv⟩⟩ ⟨ha1,ha2,eH hp⟩)
 simp only[hM]at Au
 clear h hb0 hN hE hRe HB hO hp ha1 ha2 hR hM zw
 show Calls _ _ #[_,.agg #[.int .i64 a1,.int .i64 a2],.agg #[.int .i64 ps,.int .i64 pd,.int .i64 pu,.int .i64 pv]] W _
 go_enter Tryz.func73,Tryz.ntmps73
 go_wp2_with fail
 have HW1:=hide ((HW0.out.al #[.int .i64 a1,.int .i64 a2] 27).al #[.int .i64 ps,.int .i64 pd,.int .i64 pu,.int .i64 pv] 29)
 rw[show(W.alloc (.cells #[.int .i64 a1,.int .i64 a2] 27)).heap.size =W.heap.size+1 by simp]at HW1
 generalize World.alloc (World.alloc W _) _=w1 at*
 obtain⟨P,hP⟩:∃P,W.heap.size+1=P:=⟨_,rfl⟩
 obtain⟨A,hA⟩:∃A,W.heap.size=A:=⟨_,rfl⟩
 rw[hP,hA]at HW1
 try rw[hP]
 try rw[hA]
 clear hP hA HW0
 refine bS (by kernel_rfl) (by kernel_rfl) ?_
 intro T hT gt hg1 hgi
 have aU:=hide hg1
 have gX:=hide hgi
 clear hg1 hgi
 have HT:=hide (fun t=>HW1.out.below (aU.out t))
 have b0:∀t,(gt t).cell? ⟨A,0,none⟩=some (.int .i64 a1):=fun t=>((HT.out t).get 1 rfl).1 0 _ rfl
 have b1:∀t,(gt t).cell? ⟨A,1,none⟩=some (.int .i64 a2):=fun t=>((HT.out t).get 1 rfl).1 1 _ rfl
 have b2:∀t,(gt t).cell? ⟨P,0,none⟩=some (.int .i64 ps):=fun t=>((HT.out t).get 0 rfl).1 0 _ rfl
 have b3:∀t,(gt t).cell? ⟨P,1,none⟩=some (.int .i64 pd):=fun t=>((HT.out t).get 0 rfl).1 1 _ rfl
 have b4:∀t,(gt t).cell? ⟨P,2,none⟩=some (.int .i64 pu):=fun t=>((HT.out t).get 0 rfl).1 2 _ rfl
 have b5:∀t,(gt t).cell? ⟨P,3,none⟩=some (.int .i64 pv):=fun t=>((HT.out t).get 0 rfl).1 3 _ rfl
 have k1:∀t,(gt t).cell? ⟨g,3,none⟩=some (.pointer (some ⟨gw,0,none⟩)):=fun t=>(HT.out t).cells.2.2.2.1
 repeat (go_big_quiet_step ((go_at_call 28;exact mE aU.out gX.out (Au.out _ _ (HT.out _)))))
 refine wpQuiet_nil ?_
 intro _ hw'
 obtain⟨t',rfl⟩:=hw'
 have HW2:=hide (HT.out t')
 generalize gt t'=w2 at*
 clear aU gX HT b0 b1 b2 b3 b4 b5 k1 HW1
 have HW1:=HW2
 clear HW2
 clear Au
 cases M
 case true=>
  have HF:=hide (show(Rb,RS)=(true,S)from HR.out.symm.trans (Qx (by simpa using TB.out)))
  cases HF.out
  go_wp2
  go_ret
  exact⟨rfl,k,HW1.out.go,by show k≤20*S.L.length+40;omega,fun _=>hk⟩
 have LG:=hide (show¬(⟨a1,a2,⟨ps,pd,pu,pv⟩⟩:aQ)∈S.Z.S from by simpa using TB.out)
 go_wp2_with fail
 refine bS (by kernel_rfl) (by kernel_rfl) ?_
 intro T hT gt hg1 hgi
 have aU:=hide hg1
 have gX:=hide hgi
 clear hg1 hgi
 have HT:=hide (fun t=>HW1.out.below (aU.out t))
 have b0:∀t,(gt t).cell? ⟨A,0,none⟩=some (.int .i64 a1):=fun t=>((HT.out t).get 1 rfl).1 0 _ rfl
 have b1:∀t,(gt t).cell? ⟨A,1,none⟩=some (.int .i64 a2):=fun t=>((HT.out t).get 1 rfl).1 1 _ rfl
 have b2:∀t,(gt t).cell? ⟨P,0,none⟩=some (.int .i64 ps):=fun t=>((HT.out t).get 0 rfl).1 0 _ rfl
 have b3:∀t,(gt t).cell? ⟨P,1,none⟩=some (.int .i64 pd):=fun t=>((HT.out t).get 0 rfl).1 1 _ rfl
 have b4:∀t,(gt t).cell? ⟨P,2,none⟩=some (.int .i64 pu):=fun t=>((HT.out t).get 0 rfl).1 2 _ rfl
 have b5:∀t,(gt t).cell? ⟨P,3,none⟩=some (.int .i64 pv):=fun t=>((HT.out t).get 0 rfl).1 3 _ rfl
 have k1:∀t,(gt t).cell? ⟨g,2,none⟩=some (.pointer (some ⟨NR,0,none⟩)):=fun t=>(HT.out t).cells.2.2.1
 repeat (go_big_quiet_step ((go_at_call 18;exact mE aU.out gX.out (HRW.out _ (Av.out _ (HT.out _).bl)))))
 refine wpQuiet_nil ?_
 intro _ hw'
 obtain⟨t',rfl⟩:=hw'
 have HW2:=hide (HT.out t')
 generalize gt t'=w2 at*
 clear aU gX HT b0 b1 b2 b3 b4 b5 k1 HW1
 have HW1:=HW2
 clear HW2
 clear HRW
 go_wp2_with fail
 have hll:n.ln≤15:=by have:=(dH HE.out).ll;rw[← jM.out.ls.1];exact this
 have hln:n.ln≤9223372036854775807:=by omega
 have oD:=hide (fun(w':World) (hb:Below W0.heap.size W0 w')=>wP n.dA n.dn n.dc n.lA n.ln n.lc n.ls a1 a2 w' hln (jM.out.below hb hb.size).ls)
 clear hln hll
 obtain⟨PR,JI⟩:∃PR,aP n.ls (a1,a2)=PR:=⟨_,rfl⟩
 simp only[JI]at oD
 have dP:=hide JI
 clear JI
 obtain⟨PV,JJ⟩:∃PV,rG PR=PV:=⟨_,rfl⟩
 simp only[JJ]at oD
 obtain⟨t1,t2,tb,ZQ,tH⟩:∃t1 t2 tb,PV= .tuple #[.agg #[.int .i64 t1,.int .i64 t2],.bool tb]∧Hid (PR=if tb then some (t1,t2)else none):=by
  rw[← JJ]
  cases PR with
  |none=>exact⟨0,0,false,rfl,hide rfl⟩
  |some x=>exact⟨x.1,x.2,true,rfl,hide rfl⟩
 subst ZQ
 clear JJ
 have k0:=HW1.out.cells.1
 have k1:=HW1.out.cells.2.1
 have k2:w2.cell? ⟨A,0,none⟩=some (.int .i64 a1):=(HW1.out.get 1 rfl).1 0 _ rfl
 have k3:w2.cell? ⟨A,1,none⟩=some (.int .i64 a2):=(HW1.out.get 1 rfl).1 1 _ rfl
 have n1:A≠w2.heap.size:=Nat.ne_of_lt (HW1.out.lt 1 rfl)
 have n2:g≠w2.heap.size:=Nat.ne_of_lt (pE k0)
 have n3:=Ne.symm n1
 have n4:=Ne.symm n2
 apply Et (C:=fun N w'=>Below w2.heap.size w2 w'∧aB w' N #[.int .i64 t1,.int .i64 t2]∧w2.heap.size≤N∧N<w'.heap.size)
 ·intro HK
  go_region_held3 (fun w'=>w'.cell? ⟨g,0,none⟩=some (.slice n.dA n.dn n.dc)∧w'.cell? ⟨g,1,none⟩=some (.slice n.lA n.ln n.lc)∧w'.cell? ⟨A,0,none⟩=some (.int .i64 a1)∧w'.cell? ⟨A,1,none⟩=some (.int .i64 a2)) (go_keep) ((go_at_call 118;refine(oD.out _ (by first | exact HW1.out.d.bl | exact(HW1.out.al _ _).d.bl)).mono ?_;rintro e w7 ⟨rfl,bI⟩;have kE:=hide (show Below w2.heap.size w2 w7 from by first | exact((Below.refl _ w2).drew).trans bI | exact(((Below.refl _ w2).alloc (Nat.le_refl _) _).drew).trans (bI.mono (by simp)));have k0:=(HW1.out.below kE.out).cells.1;have k1:=(HW1.out.below kE.out).cells.2.1;have k2:w7.cell? ⟨A,0,none⟩=some (.int .i64 a1):=((HW1.out.below kE.out).get 1 rfl).1 0 _ rfl;have k3:w7.cell? ⟨A,1,none⟩=some (.int .i64 a2):=((HW1.out.below kE.out).get 1 rfl).1 1 _ rfl;(try (have WJ:aB w7 w2.heap.size #[.int .i64 0,.int .i64 0]:=((aB.new w2 #[.int .i64 0,.int .i64 0] 27).below ((Below.refl (w2.heap.size+1) _).drew) (Nat.lt_succ_self _)).below bI (by simp);obtain⟨z0,z1,z2,z3⟩:=(show jo w7 w2.heap.size 0 0 from jo.below (w:=(w2.alloc (.cells #[.int .i64 0,.int .i64 0] 27)).drew) (jo.new w2 0 0 27) bI (by simp))))))
  all_goals (first
   |(obtain⟨N',w',e1,e2,q⟩:∃N' w',w7.heap.size=N'∧w7.alloc (.cells #[.int .i64 t1,.int .i64 t2] 27)=w'∧(Below w2.heap.size w2 w'∧aB w' N' #[.int .i64 t1,.int .i64 t2]∧w2.heap.size≤N'∧N'<w'.heap.size):=⟨_,_,rfl,rfl,kE.out.alloc kE.out.size _,aB.new w7 _ _,kE.out.size,by simp⟩
     rw[e2,e1]
     exact HK.out _ _ q)
   |(obtain⟨N',w',e1,e2,q⟩:∃N' w',w2.heap.size=N'∧(w7.setCell ⟨w2.heap.size,0,none⟩ (.int .i64 t1)).setCell ⟨w2.heap.size,1,none⟩ (.int .i64 t2)=w'∧(Below w2.heap.size w2 w'∧aB w' N' #[.int .i64 t1,.int .i64 t2]∧w2.heap.size≤N'∧N'<w'.heap.size):=⟨_,_,rfl,rfl,(kE.out.setCell (Nat.le_refl _) _).setCell (Nat.le_refl _) _,(WJ.set 0 _).set 1 _,Nat.le_refl _,by have:=pE z0;simpa[World.setCell]using this⟩
     rw[e2,e1]
     exact HK.out _ _ q))
 clear k0 k1 k2 k3 n1 n2 n3 n4 oD
 intro N w3 hC
 have HW3:=hide (HW1.out.more hC.1 hC.2.1 hC.2.2.1 hC.2.2.2)
 clear hC HW1
 have c5:=HW3.out.cells.2.2.2.2
 cases tb
 case false=>
  have HF:=hide (show(Rb,RS)=(false,S)from HR.out.symm.trans (Qy LG.out (by rw[dP.out];exact tH.out)))
  cases HF.out
  go_wp2
  go_ret
  exact⟨rfl,k,HW3.out.go,by show k≤20*S.L.length+40;omega,fun e=>by cases e⟩
 have jL:=hide (show aP n.ls (a1,a2)=some (t1,t2)from by rw[dP.out];exact tH.out)
 clear dP tH PR
 cases hfl:S.full
 case true=>
  rw[hfl]at c5
  have HF:=hide (show(Rb,RS)=(false,S)from HR.out.symm.trans (Qz LG.out jL.out hfl))
  cases HF.out
  clear hfl
  go_wp2
  go_ret
  exact⟨rfl,k,HW3.out.go,by show k≤20*S.L.length+40;omega,fun e=>by cases e⟩
 rw[hfl]at c5
 have Jw:=hide hfl
 clear hfl
 have hpl:=vY.1 (rW HE.out jL.out)
 have hdl:=(dH HE.out).dl
 have V5:=fq jM.out
 obtain⟨⟨g1,g2⟩,_⟩:=hpl
 simp only at g1 g2
 obtain⟨j,rfl⟩:∃j:Nat,t1=(j:Int):=⟨_,(Int.toNat_of_nonneg g1).symm⟩
 have hjn:j<n.dn:=by rw[← V5];omega
 rw[V5]at hdl
 obtain⟨r,hr⟩:∃r,n.ds[j]?=some r:=⟨_,List.getElem?_eq_getElem (by rw[jM.out.eZ];exact hjn)⟩
 have hdv:n.au[((j:Int),t2).1.toNat]?=some r.dev:=by show n.au[((j:Int)).toNat]?=some r.dev;rw[Int.toNat_natCast];exact xD hr
 have Yf:=hide (EL HE.out jL.out hdv)
 have jW:=hide hdv
 have fQ:=hide hr
 obtain⟨db,od,dN,_⟩:=(jM.out.below HW3.out.bl HW3.out.bl.size).ds.2 (by omega)
 have bU:=hide dN
 obtain⟨dn,hdn⟩:∃dn,n.dn=dn:=⟨_,rfl⟩
 have fG:=hide hdn
 rw[hdn]at hjn hdl
 clear hdv hr dN hdn V5 g1 g2
 have HJ:=hide (show ay (j:Int)from by unfold ay;omega)
 have qj:=hide (jC HE.out r.dev (List.mem_of_getElem? (xD fQ.out)))
 have i1:(0:Int)≤(j:Int):=by omega
 have i2:(j:Int)<(dn:Int):=by omega
 have i3:(dn:Int)≤10:=by omega
 go_wp2_with fail
 have HW1:=HW3
 clear HW3 c5
 obtain⟨W1,hW1⟩:∃W1,w3=W1:=⟨_,rfl⟩
 subst hW1
 have HF:=hide (fun(w':World) (hb:Below w3.heap.size w3 w')=>show
   w'.cell? ⟨N,0,none⟩=some (.int .i64 (j:Int))∧w'.cell? ⟨g,0,none⟩=some (.slice (some ⟨db,od,none⟩) dn n.dc)∧
   (w'.cell? ⟨db,od+j*7,none⟩=some (.string r.name)∧w'.cell? ⟨db,od+j*7+1,none⟩=some (.int .i64 r.kind)∧w'.cell? ⟨db,od+j*7+2,none⟩=some (.int .i64 r.addr)∧w'.cell? ⟨db,od+j*7+3,none⟩=some (.int .u8 r.pool)∧
   w'.cell? ⟨db,od+j*7+4,none⟩=some (.slice r.bA r.bn r.bc)∧w'.cell? ⟨db,od+j*7+5,none⟩=some (.slice r.rA r.rn r.rc)∧w'.cell? ⟨db,od+j*7+6,none⟩=some (.slice r.tA r.tn r.tc))from by
  have hw:=HW1.out.below hb
  have hs:=(jM.out.below hw.bl hw.bl.size).ds
  rw[bU.out]at hs
  obtain⟨_,q⟩:=dF hs fQ.out
  exact⟨(hw.get 0 rfl).1 0 _ rfl,by rw[← bU.out,← fG.out];exact hw.cells.1,q⟩)
 generalize w3=W1 at*
 refine aI (fun w'=>Below W1.heap.size W1 w') 10 (by kernel_rfl) ((Below.refl _ _).drew) (fun hS=>?_)
 refine rP 0 hS ?_
 refine rP 1 hS ?_
 refine rP 2 hS ?_
 refine rP 3 hS ?_
 refine rL 4 [10] rfl hS (by intro w hSw;obtain⟨s0,s1,s2,s3,s4,s5,s6,s7,s8⟩:=HF.out _ hSw;go_simp;try with_reducible rfl) ?_
 refine rP 5 hS ?_
 refine rL 6 [10] rfl hS (by intro w hSw;obtain⟨s0,s1,s2,s3,s4,s5,s6,s7,s8⟩:=HF.out _ hSw;go_simp;try with_reducible rfl) ?_
 refine rP 7 hS ?_
 refine rL 8 [10] rfl hS (by intro w hSw;obtain⟨s0,s1,s2,s3,s4,s5,s6,s7,s8⟩:=HF.out _ hSw;go_simp;try with_reducible rfl) ?_
 intro inv
 refine rO 9 inv fun K hK=>?_
 go_simp
 refine hK.out _ _ (fun _=>(hS.alloc hS.size _)) ?_
 clear hK K hS inv
 intro inv
 try simp only[Act.put,aD,aF,aG]
 have cZ:=hide (show aB ((W1.alloc (.cells #[.string ⟨#[]⟩,.int .i64 0,.int .i64 0,.int .u8 0,.slice none 0 0,.slice none 0 0,.slice none 0 0] 86)).drew) W1.heap.size #[.string ⟨#[]⟩,.int .i64 0,.int .i64 0,.int .u8 0,.slice none 0 0,.slice none 0 0,.slice none 0 0]from(aB.new W1 _ _).below ((Below.refl (W1.heap.size+1) _).drew) (Nat.lt_succ_self _))
 refine rT 10 inv fun K hK=>?_
 rw[if_pos (by rfl)]
 refine wp_store_mid _ _ _ rfl _ _ r.arr rfl rfl (cZ.out.there (Nat.le_refl _)) bY (by first | exact aA.dO _ | simp[Value.oneCell']) ?_
 refine hK.out _ _ ?_
 clear hK K inv
 intro inv
 try simp only[Act.put,aD,aF,aG]
 refine rD ?_
 clear inv
 have HW2:=hide (HW1.out.dev #[.string ⟨#[]⟩,.int .i64 0,.int .i64 0,.int .u8 0,.slice none 0 0,.slice none 0 0,.slice none 0 0] 86 rfl r)
 obtain⟨G,hG⟩:∃G,W1.heap.size=G:=⟨_,rfl⟩
 rw[hG]at HW2
 rw[hG]
 clear hG cZ HF HW1
 generalize World.setCells _ _ _ _=w2 at*
 clear i1 i2 i3 bU fG hjn hdl
 have d1:w2.cell? ⟨G,1,none⟩=some (.int .i64 r.kind):=(HW2.out.get 0 rfl).1 1 _ rfl
 have n0:w2.cell? ⟨N,0,none⟩=some (.int .i64 (j:Int)):=(HW2.out.get 1 rfl).1 0 _ rfl
 have n1:w2.cell? ⟨N,1,none⟩=some (.int .i64 t2):=(HW2.out.get 1 rfl).1 1 _ rfl
 have p0:w2.cell? ⟨P,0,none⟩=some (.int .i64 ps):=(HW2.out.get 2 rfl).1 0 _ rfl
 have p1:w2.cell? ⟨P,1,none⟩=some (.int .i64 pd):=(HW2.out.get 2 rfl).1 1 _ rfl
 have p2:w2.cell? ⟨P,2,none⟩=some (.int .i64 pu):=(HW2.out.get 2 rfl).1 2 _ rfl
 have p3:w2.cell? ⟨P,3,none⟩=some (.int .i64 pv):=(HW2.out.get 2 rfl).1 3 _ rfl
 by_cases hho:RP=0∧r.kind=1
 case pos=>
  have e0:(RP ==0)=true:=by simpa using hho.1
  have e1:(r.kind ==1)=true:=by simpa using hho.2
  have HF:=hide (show(Rb,RS)=iN n.au n.ls S ⟨1,(j:Int),0,⟨ps,pd,pu,pv⟩,0⟩from HR.out.symm.trans (QA LG.out jL.out Jw.out jW.out (by rw[Ai.out];exact hho)))
  clear hho
  go_wp2_with fail
  refine(HW2.out.act HE.out HO.out 1 (j:Int) 0 ps pd pu pv 0 ⟨by simp[ay],HJ.out,by simp[ay],tK.out,by simp[ay]⟩ (by omega)).mono ?_
  rintro e w9 ⟨rfl,lQ⟩
  have xE:=hide lQ
  clear lQ HW2 d1 n0 n1 p0 p1 p2 p3
  go_wp2
  go_ret
  refine⟨pF (by rw[← HF.out]),k+1,by have:=xE.out.go;rw[← HF.out]at this;exact this,?_⟩
  have hgo:=(wC (ds:=n.au) (ls:=n.ls) S ⟨1,(j:Int),0,⟨ps,pd,pu,pv⟩,0⟩).len
  have hye:=fun e=>(Cv (ds:=n.au) (ls:=n.ls) (S:=S) (x:=⟨1,(j:Int),0,⟨ps,pd,pu,pv⟩,0⟩) e).2.2
  rw[← HF.out]at hgo hye
  refine⟨?_,fun e=>?_⟩
  ·show k+1≤20*RS.L.length+40
   simp only at hgo;omega
  ·have:=congrArg (fun S:bP=>S.L.length) (hye e)
   simp only[List.length_append,List.length_singleton]at this
   show k+1≤20*RS.L.length
   omega
 by_cases h0:RP=0
 case pos=>
  have e0:(RP ==0)=true:=by simpa using h0
  have e1:(r.kind ==1)=false:=by simpa using fun e=>hho ⟨h0,e⟩
  clear h0
  go_wp2_with fail
  obtain⟨F',h1,hn1,hF1⟩:=HW2.out
  have zy:=hide h1
  have lF:=hide hn1
  have oV:=hide hF1
  clear h1 hn1 hF1 HW2 d1 n0 n1 p0 p1 p2 p3
  refine(Ih g NR n K j t2 ⟨ps,pd,pu,pv⟩ r w2 (fun w' hb=>have q:=zy.out.below hb;⟨q.a.cells.1,q.a.cells.2.2.1,Av.out _ q.box.bl,jM.out.below q.box.bl q.box.bl.size⟩) HE.out fQ.out oF.out Yf.out.2.2).mono ?_
  rintro e w4 ⟨v,l,rfl,hwr,hml,hb⟩
  obtain⟨A4,c4,rfl,hlc,hsl⟩:=hwr.sl
  have TD:=hide hwr
  have HSL:=hide hsl
  have bJ:=hide hb
  have KW:=hide hml
  have hc4:=nS hwr.own
  have hc5:c4≤9223372036854775807:=by unfold maxLen at hc4;omega
  have kC:=hide (show∀x∈l,zx (j:Int) x.x from fun x hx=>Ii qj.out Yf.out.2.2 oF.out (by rw[← hml];exact List.mem_map.2 ⟨x,hx,rfl⟩))
  clear hwr hml hb hsl hc4
  obtain⟨m,hm⟩:∃m,l.length=m:=⟨_,rfl⟩
  rw[hm]at HSL hlc
  try rw[hm]
  have TF:=hide hm
  clear hm
  go_wp2_with fail
  go_loopw [71] (fun iv wr=>∃q:Nat,q≤m∧iv= .int .i64 (q:Int)∧Hid ((l.map (·.x)).find? (fP (aJ n.au n.ls K) RP)=((l.map (·.x)).drop q).find? (fP (aJ n.au n.ls K) RP))∧Hid (Below w4.heap.size w4 wr)) (fun iv _=>m - (intOf iv).toNat)
  case atStart=>exact⟨0,Nat.zero_le _,rfl,hide rfl,hide (Below.refl _ _)⟩
  case round=>
   obtain⟨q,hq,rfl,FV,HB⟩:=hrel
   have fF:=hide (bJ.out.trans (HB.out.mono bJ.out.size))
   by_cases hlt:q<m
   case neg=>
    obtain rfl:q=m:=by omega
    have HF:=hide (show(Rb,RS)=(false,S)from HR.out.symm.trans (FU LG.out jL.out Jw.out jW.out (by rw[Ai.out];exact hho) (by rw[Ai.out];show((gG (aJ n.au n.ls K) (j:Int) t2 r.dev ⟨ps,pd,pu,pv⟩).find? (fP (aJ n.au n.ls K) RP))=none;rw[← KW.out,FV.out,List.drop_of_length_le (by rw[List.length_map,TF.out];omega)];rfl)))
    cases HF.out
    go_wp2
    go_ret
    exact⟨rfl,k,⟨F',(zy.out.below fF.out).a,lF.out.trans ((aL.of_below fF.out).mono lF.out.size),oV.out⟩,by show k≤20*S.L.length+40;omega,fun e=>by cases e⟩
   case pos=>
    obtain⟨x,hx⟩:∃x,l[q]?=some x:=⟨_,List.getElem?_eq_getElem (by rw[TF.out];exact hlt)⟩
    have hxs:=HSL.out.below HB.out HB.out.size
    obtain⟨b4,o4,rfl,_⟩:=hxs.2 (by omega)
    obtain⟨_,hg⟩:=hxs.get hx
    have s0:wr.cell? ⟨b4,o4+q*9,none⟩=some (.int .i64 x.x.a.1):=hg 0 _ rfl
    have s1:wr.cell? ⟨b4,o4+q*9+1,none⟩=some (.int .i64 x.x.a.2):=hg 1 _ rfl
    have s2:wr.cell? ⟨b4,o4+q*9+2,none⟩=some (.int .i64 x.x.p.src):=hg 2 _ rfl
    have s3:wr.cell? ⟨b4,o4+q*9+3,none⟩=some (.int .i64 x.x.p.dst):=hg 3 _ rfl
    have s4:wr.cell? ⟨b4,o4+q*9+4,none⟩=some (.int .i64 x.x.p.ah):=hg 4 _ rfl
    have s5:wr.cell? ⟨b4,o4+q*9+5,none⟩=some (.int .i64 x.x.p.aj):=hg 5 _ rfl
    have s6:wr.cell? ⟨b4,o4+q*9+6,none⟩=some x.ptr:=hg 6 _ rfl
    have s7:wr.cell? ⟨b4,o4+q*9+7,none⟩=some (.int .i64 x.x.ch):=hg 7 _ rfl
    have s8:wr.cell? ⟨b4,o4+q*9+8,none⟩=some (.bool x.x.fo):=hg 8 _ rfl
    obtain⟨xp,hxp⟩:∃xp,x.ptr=xp:=⟨_,rfl⟩
    have hpo:xp.oneCell'=true:=by rw[← hxp];exact x.one _ (by simp[bR.cells])
    rw[hxp]at s6
    have TG:=hide hxp
    clear hxp
    have FW:=hide (List.mem_of_getElem? hx)
    have oq:=hide (Iq (fP (aJ n.au n.ls K) RP) (l.map (·.x)) (q:=q) (x:=x.x) (by simp[hx]))
    have j1:(0:Int)≤(q:Int):=by omega
    have j2:(q:Int)<(m:Int):=by omega
    have j3:(m:Int)≤(c4:Int):=by omega
    clear hx hxs hg
    have hx0:=aB.new wr #[.int .i64 0,.int .i64 0,.int .i64 0,.int .i64 0,.int .i64 0,.int .i64 0,.pointer none,.int .i64 0,.bool false] 207
    go_wp2_with ((with_reducible show wpList _ _ _ (⟨none,.store 207 (.tmp 12) _,_,_,_,_⟩::_) _ _);refine wpList_store_mid rfl 207 (.tmp 12) (.tmp 74) rfl wr.heap.size 0 #[.int .i64 x.x.a.1,.int .i64 x.x.a.2,.int .i64 x.x.p.src,.int .i64 x.x.p.dst,.int .i64 x.x.p.ah,.int .i64 x.x.p.aj,xp,.int .i64 x.x.ch,.bool x.x.fo] rfl rfl (hx0.there (Nat.le_refl _)) LD (LC hpo) ?_;apply Ag)
    refine hide ?_
    clear s0 s1 s2 s3 s4 s5 s6 s7 s8
    have hz0:(wr.alloc (.cells #[.int .i64 0,.int .i64 0,.int .i64 0,.int .i64 0,.int .i64 0,.int .i64 0,.pointer none,.int .i64 0,.bool false] 207)).heap.size =wr.heap.size+1:=by simp
    have hb5:Below wr.heap.size wr ((wr.alloc (.cells #[.int .i64 0,.int .i64 0,.int .i64 0,.int .i64 0,.int .i64 0,.int .i64 0,.pointer none,.int .i64 0,.bool false] 207)).setCells wr.heap.size 0 [.int .i64 x.x.a.1,.int .i64 x.x.a.2,.int .i64 x.x.p.src,.int .i64 x.x.p.dst,.int .i64 x.x.p.ah,.int .i64 x.x.p.aj,xp,.int .i64 x.x.ch,.bool x.x.fo]):=below_setCells (Nat.le_refl _) _ 0 _ (aC wr _)
    have Ot:=(qB (wr.alloc (.cells #[.int .i64 0,.int .i64 0,.int .i64 0,.int .i64 0,.int .i64 0,.int .i64 0,.pointer none,.int .i64 0,.bool false] 207)) wr.heap.size [.int .i64 x.x.a.1,.int .i64 x.x.a.2,.int .i64 x.x.p.src,.int .i64 x.x.p.dst,.int .i64 x.x.p.ah,.int .i64 x.x.p.aj,xp,.int .i64 x.x.ch,.bool x.x.fo]).size
    have dR:=hide (show aB ((wr.alloc (.cells #[.int .i64 0,.int .i64 0,.int .i64 0,.int .i64 0,.int .i64 0,.int .i64 0,.pointer none,.int .i64 0,.bool false] 207)).setCells wr.heap.size 0 [.int .i64 x.x.a.1,.int .i64 x.x.a.2,.int .i64 x.x.p.src,.int .i64 x.x.p.dst,.int .i64 x.x.p.ah,.int .i64 x.x.p.aj,xp,.int .i64 x.x.ch,.bool x.x.fo]) wr.heap.size #[.int .i64 x.x.a.1,.int .i64 x.x.a.2,.int .i64 x.x.p.src,.int .i64 x.x.p.dst,.int .i64 x.x.p.ah,.int .i64 x.x.p.aj,xp,.int .i64 x.x.ch,.bool x.x.fo]∧wr.heap.size<((wr.alloc (.cells #[.int .i64 0,.int .i64 0,.int .i64 0,.int .i64 0,.int .i64 0,.int .i64 0,.pointer none,.int .i64 0,.bool false] 207)).setCells wr.heap.size 0 [.int .i64 x.x.a.1,.int .i64 x.x.a.2,.int .i64 x.x.p.src,.int .i64 x.x.p.dst,.int .i64 x.x.p.ah,.int .i64 x.x.p.aj,xp,.int .i64 x.x.ch,.bool x.x.fo]).heap.size from⟨hx0.all [.int .i64 x.x.a.1,.int .i64 x.x.a.2,.int .i64 x.x.p.src,.int .i64 x.x.p.dst,.int .i64 x.x.p.ah,.int .i64 x.x.p.aj,xp,.int .i64 x.x.ch,.bool x.x.fo] rfl,by omega⟩)
    have pI:=hide (HB.out.trans (hb5.mono HB.out.size))
    clear hb5 Ot hz0 hx0
    obtain⟨B5,LH⟩:∃B5,wr.heap.size=B5:=⟨_,rfl⟩
    rw[LH]at dR pI
    try rw[LH]
    generalize World.setCells _ _ _ _=w5 at*
    clear LH
    have r0:w5.cell? ⟨B5,0,none⟩=some (.int .i64 x.x.a.1):=dR.out.1.1 0 _ rfl
    have r1:w5.cell? ⟨B5,1,none⟩=some (.int .i64 x.x.a.2):=dR.out.1.1 1 _ rfl
    have r2:w5.cell? ⟨B5,2,none⟩=some (.int .i64 x.x.p.src):=dR.out.1.1 2 _ rfl
    have r3:w5.cell? ⟨B5,3,none⟩=some (.int .i64 x.x.p.dst):=dR.out.1.1 3 _ rfl
    have r4:w5.cell? ⟨B5,4,none⟩=some (.int .i64 x.x.p.ah):=dR.out.1.1 4 _ rfl
    have r5:w5.cell? ⟨B5,5,none⟩=some (.int .i64 x.x.p.aj):=dR.out.1.1 5 _ rfl
    have r6:w5.cell? ⟨B5,6,none⟩=some xp:=dR.out.1.1 6 _ rfl
    have r7:w5.cell? ⟨B5,7,none⟩=some (.int .i64 x.x.ch):=dR.out.1.1 7 _ rfl
    have r8:w5.cell? ⟨B5,8,none⟩=some (.bool x.x.fo):=dR.out.1.1 8 _ rfl
    go_wp2_with fail
    clear r0 r1 r2 r3 r4 r5 r6 r7 r8
    have zi:=hide (bJ.out.trans (pI.out.mono bJ.out.size))
    have Ik:=hide (fun y (hy:x.x.need=some y)=>(TD.out.below pI.out).nd x FW.out y hy)
    have LJ:=hide (FQ g NR n.au n.ls K x RP w5 (j:Int) HJ.out (kC.out x FW.out) (fun y hy=>⟨(Ik.out y hy).2.1,(Ik.out y hy).2.2.1⟩) (fun w' hb=>have q:=zy.out.below (zi.out.trans (hb.mono zi.out.size));⟨q.a.cells.2.2.1,Av.out _ q.box.bl⟩))
    rw[TG.out]at LJ
    refine LJ.out.mono ?_
    clear LJ
    rintro e w6 ⟨rfl,hb6⟩
    have ig:=hide (pI.out.trans (hb6.mono pI.out.size))
    have gD:=hide (And.intro (dR.out.1.below hb6 dR.out.2) (Nat.lt_of_lt_of_le dR.out.2 hb6.size))
    clear hb6 dR
    cases hkn:fP (aJ n.au n.ls K) RP x.x
    case false=>
     rw[hkn]at oq
     clear hkn
     go_wp2
     go_roundw
     case rel=>exact⟨q+1,by omega,by go_num,hide (FV.out.trans oq.out),ig⟩
     case measure=>simp[intOf];omega
    case true=>
     rw[hkn]at oq
     have HF:=hide (show(Rb,RS)=iD n.au n.ls r.dev (cO n.au n.ls (aJ n.au n.ls K) f) S x.x from HR.out.symm.trans (Ip LG.out jL.out Jw.out jW.out (by rw[Ai.out];exact hho) (by rw[Ai.out];show((gG (aJ n.au n.ls K) (j:Int) t2 r.dev ⟨ps,pd,pu,pv⟩).find? (fP (aJ n.au n.ls K) RP))=some x.x;rw[← KW.out];exact FV.out.trans oq.out)))
     have ql:=hide (bJ.out.trans (ig.out.mono bJ.out.size))
     have LK:=hide (FT (F:=F') (zy.out.below ql.out).a (zy.out.below ql.out).box.bl jM.out HE.out HBC.out HO.out hk fQ.out x (kC.out x FW.out) (fun y hy=>by
      obtain⟨u1,u2,u3,_⟩:=(TD.out.below ig.out).nd x FW.out y hy
      exact⟨u2,u3,fun e=>by have:=(zy.out.a.fo _ e).2;omega⟩) (rd:=RP) hkn (by omega))
     rw[← HF.out,TG.out]at LK
     clear hkn FV oq
     have s0:w6.cell? ⟨B5,0,none⟩=some (.int .i64 x.x.a.1):=gD.out.1.1 0 _ rfl
     have s1:w6.cell? ⟨B5,1,none⟩=some (.int .i64 x.x.a.2):=gD.out.1.1 1 _ rfl
     have s2:w6.cell? ⟨B5,2,none⟩=some (.int .i64 x.x.p.src):=gD.out.1.1 2 _ rfl
     have s3:w6.cell? ⟨B5,3,none⟩=some (.int .i64 x.x.p.dst):=gD.out.1.1 3 _ rfl
     have s4:w6.cell? ⟨B5,4,none⟩=some (.int .i64 x.x.p.ah):=gD.out.1.1 4 _ rfl
     have s5:w6.cell? ⟨B5,5,none⟩=some (.int .i64 x.x.p.aj):=gD.out.1.1 5 _ rfl
     have s6:w6.cell? ⟨B5,6,none⟩=some xp:=gD.out.1.1 6 _ rfl
     have s7:w6.cell? ⟨B5,7,none⟩=some (.int .i64 x.x.ch):=gD.out.1.1 7 _ rfl
     have s8:w6.cell? ⟨B5,8,none⟩=some (.bool x.x.fo):=gD.out.1.1 8 _ rfl
     go_wp2_with fail
     refine LK.out.mono ?_
     rintro e w9 ⟨rfl,k9,Ep,Ou⟩
     have Er:=hide Ep
     have HK9:=hide Ou
     clear Ep Ou LK s0 s1 s2 s3 s4 s5 s6 s7 s8
     go_wp2
     go_ret
     obtain⟨Ol,u1,u2,u3⟩:=Er.out
     refine⟨rfl,k9,⟨Ol,u1,yg (lF.out.trans ((aL.of_below ql.out).mono lF.out.size)) oV.out u2,fun x' e=>?_⟩,HK9.out⟩
     rcases u3 x' e with e | e
     ·exact oV.out x' e
     ·have:=lF.out.size;have:=ql.out.size;right;omega
 case neg=>
  have e0:(RP ==0)=false:=by simpa using h0
  clear h0
  go_wp2_with fail
  obtain⟨F',h1,hn1,hF1⟩:=HW2.out
  have zy:=hide h1
  have lF:=hide hn1
  have oV:=hide hF1
  clear h1 hn1 hF1 HW2 d1 n0 n1 p0 p1 p2 p3
  refine(Ih g NR n K j t2 ⟨ps,pd,pu,pv⟩ r w2 (fun w' hb=>have q:=zy.out.below hb;⟨q.a.cells.1,q.a.cells.2.2.1,Av.out _ q.box.bl,jM.out.below q.box.bl q.box.bl.size⟩) HE.out fQ.out oF.out Yf.out.2.2).mono ?_
  rintro e w4 ⟨v,l,rfl,hwr,hml,hb⟩
  obtain⟨A4,c4,rfl,hlc,hsl⟩:=hwr.sl
  have TD:=hide hwr
  have HSL:=hide hsl
  have bJ:=hide hb
  have KW:=hide hml
  have hc4:=nS hwr.own
  have hc5:c4≤9223372036854775807:=by unfold maxLen at hc4;omega
  have kC:=hide (show∀x∈l,zx (j:Int) x.x from fun x hx=>Ii qj.out Yf.out.2.2 oF.out (by rw[← hml];exact List.mem_map.2 ⟨x,hx,rfl⟩))
  clear hwr hml hb hsl hc4
  obtain⟨m,hm⟩:∃m,l.length=m:=⟨_,rfl⟩
  rw[hm]at HSL hlc
  try rw[hm]
  have TF:=hide hm
  clear hm
  go_wp2_with fail
  go_loopw [71] (fun iv wr=>∃q:Nat,q≤m∧iv= .int .i64 (q:Int)∧Hid ((l.map (·.x)).find? (fP (aJ n.au n.ls K) RP)=((l.map (·.x)).drop q).find? (fP (aJ n.au n.ls K) RP))∧Hid (Below w4.heap.size w4 wr)) (fun iv _=>m - (intOf iv).toNat)
  case atStart=>exact⟨0,Nat.zero_le _,rfl,hide rfl,hide (Below.refl _ _)⟩
  case round=>
   obtain⟨q,hq,rfl,FV,HB⟩:=hrel
   have fF:=hide (bJ.out.trans (HB.out.mono bJ.out.size))
   by_cases hlt:q<m
   case neg=>
    obtain rfl:q=m:=by omega
    have HF:=hide (show(Rb,RS)=(false,S)from HR.out.symm.trans (FU LG.out jL.out Jw.out jW.out (by rw[Ai.out];exact hho) (by rw[Ai.out];show((gG (aJ n.au n.ls K) (j:Int) t2 r.dev ⟨ps,pd,pu,pv⟩).find? (fP (aJ n.au n.ls K) RP))=none;rw[← KW.out,FV.out,List.drop_of_length_le (by rw[List.length_map,TF.out];omega)];rfl)))
    cases HF.out
    go_wp2
    go_ret
    exact⟨rfl,k,⟨F',(zy.out.below fF.out).a,lF.out.trans ((aL.of_below fF.out).mono lF.out.size),oV.out⟩,by show k≤20*S.L.length+40;omega,fun e=>by cases e⟩
   case pos=>
    obtain⟨x,hx⟩:∃x,l[q]?=some x:=⟨_,List.getElem?_eq_getElem (by rw[TF.out];exact hlt)⟩
    have hxs:=HSL.out.below HB.out HB.out.size
    obtain⟨b4,o4,rfl,_⟩:=hxs.2 (by omega)
    obtain⟨_,hg⟩:=hxs.get hx
    have s0:wr.cell? ⟨b4,o4+q*9,none⟩=some (.int .i64 x.x.a.1):=hg 0 _ rfl
    have s1:wr.cell? ⟨b4,o4+q*9+1,none⟩=some (.int .i64 x.x.a.2):=hg 1 _ rfl
    have s2:wr.cell? ⟨b4,o4+q*9+2,none⟩=some (.int .i64 x.x.p.src):=hg 2 _ rfl
    have s3:wr.cell? ⟨b4,o4+q*9+3,none⟩=some (.int .i64 x.x.p.dst):=hg 3 _ rfl
    have s4:wr.cell? ⟨b4,o4+q*9+4,none⟩=some (.int .i64 x.x.p.ah):=hg 4 _ rfl
    have s5:wr.cell? ⟨b4,o4+q*9+5,none⟩=some (.int .i64 x.x.p.aj):=hg 5 _ rfl
    have s6:wr.cell? ⟨b4,o4+q*9+6,none⟩=some x.ptr:=hg 6 _ rfl
    have s7:wr.cell? ⟨b4,o4+q*9+7,none⟩=some (.int .i64 x.x.ch):=hg 7 _ rfl
    have s8:wr.cell? ⟨b4,o4+q*9+8,none⟩=some (.bool x.x.fo):=hg 8 _ rfl
    obtain⟨xp,hxp⟩:∃xp,x.ptr=xp:=⟨_,rfl⟩
    have hpo:xp.oneCell'=true:=by rw[← hxp];exact x.one _ (by simp[bR.cells])
    rw[hxp]at s6
    have TG:=hide hxp
    clear hxp
    have FW:=hide (List.mem_of_getElem? hx)
    have oq:=hide (Iq (fP (aJ n.au n.ls K) RP) (l.map (·.x)) (q:=q) (x:=x.x) (by simp[hx]))
    have j1:(0:Int)≤(q:Int):=by omega
    have j2:(q:Int)<(m:Int):=by omega
    have j3:(m:Int)≤(c4:Int):=by omega
    clear hx hxs hg
    have hx0:=aB.new wr #[.int .i64 0,.int .i64 0,.int .i64 0,.int .i64 0,.int .i64 0,.int .i64 0,.pointer none,.int .i64 0,.bool false] 207
    go_wp2_with ((with_reducible show wpList _ _ _ (⟨none,.store 207 (.tmp 12) _,_,_,_,_⟩::_) _ _);refine wpList_store_mid rfl 207 (.tmp 12) (.tmp 74) rfl wr.heap.size 0 #[.int .i64 x.x.a.1,.int .i64 x.x.a.2,.int .i64 x.x.p.src,.int .i64 x.x.p.dst,.int .i64 x.x.p.ah,.int .i64 x.x.p.aj,xp,.int .i64 x.x.ch,.bool x.x.fo] rfl rfl (hx0.there (Nat.le_refl _)) LD (LC hpo) ?_;apply Ag)
    refine hide ?_
    clear s0 s1 s2 s3 s4 s5 s6 s7 s8
    have hz0:(wr.alloc (.cells #[.int .i64 0,.int .i64 0,.int .i64 0,.int .i64 0,.int .i64 0,.int .i64 0,.pointer none,.int .i64 0,.bool false] 207)).heap.size =wr.heap.size+1:=by simp
    have hb5:Below wr.heap.size wr ((wr.alloc (.cells #[.int .i64 0,.int .i64 0,.int .i64 0,.int .i64 0,.int .i64 0,.int .i64 0,.pointer none,.int .i64 0,.bool false] 207)).setCells wr.heap.size 0 [.int .i64 x.x.a.1,.int .i64 x.x.a.2,.int .i64 x.x.p.src,.int .i64 x.x.p.dst,.int .i64 x.x.p.ah,.int .i64 x.x.p.aj,xp,.int .i64 x.x.ch,.bool x.x.fo]):=below_setCells (Nat.le_refl _) _ 0 _ (aC wr _)
    have Ot:=(qB (wr.alloc (.cells #[.int .i64 0,.int .i64 0,.int .i64 0,.int .i64 0,.int .i64 0,.int .i64 0,.pointer none,.int .i64 0,.bool false] 207)) wr.heap.size [.int .i64 x.x.a.1,.int .i64 x.x.a.2,.int .i64 x.x.p.src,.int .i64 x.x.p.dst,.int .i64 x.x.p.ah,.int .i64 x.x.p.aj,xp,.int .i64 x.x.ch,.bool x.x.fo]).size
    have dR:=hide (show aB ((wr.alloc (.cells #[.int .i64 0,.int .i64 0,.int .i64 0,.int .i64 0,.int .i64 0,.int .i64 0,.pointer none,.int .i64 0,.bool false] 207)).setCells wr.heap.size 0 [.int .i64 x.x.a.1,.int .i64 x.x.a.2,.int .i64 x.x.p.src,.int .i64 x.x.p.dst,.int .i64 x.x.p.ah,.int .i64 x.x.p.aj,xp,.int .i64 x.x.ch,.bool x.x.fo]) wr.heap.size #[.int .i64 x.x.a.1,.int .i64 x.x.a.2,.int .i64 x.x.p.src,.int .i64 x.x.p.dst,.int .i64 x.x.p.ah,.int .i64 x.x.p.aj,xp,.int .i64 x.x.ch,.bool x.x.fo]∧wr.heap.size<((wr.alloc (.cells #[.int .i64 0,.int .i64 0,.int .i64 0,.int .i64 0,.int .i64 0,.int .i64 0,.pointer none,.int .i64 0,.bool false] 207)).setCells wr.heap.size 0 [.int .i64 x.x.a.1,.int .i64 x.x.a.2,.int .i64 x.x.p.src,.int .i64 x.x.p.dst,.int .i64 x.x.p.ah,.int .i64 x.x.p.aj,xp,.int .i64 x.x.ch,.bool x.x.fo]).heap.size from⟨hx0.all [.int .i64 x.x.a.1,.int .i64 x.x.a.2,.int .i64 x.x.p.src,.int .i64 x.x.p.dst,.int .i64 x.x.p.ah,.int .i64 x.x.p.aj,xp,.int .i64 x.x.ch,.bool x.x.fo] rfl,by omega⟩)
    have pI:=hide (HB.out.trans (hb5.mono HB.out.size))
    clear hb5 Ot hz0 hx0
    obtain⟨B5,LH⟩:∃B5,wr.heap.size=B5:=⟨_,rfl⟩
    rw[LH]at dR pI
    try rw[LH]
    generalize World.setCells _ _ _ _=w5 at*
    clear LH
    have r0:w5.cell? ⟨B5,0,none⟩=some (.int .i64 x.x.a.1):=dR.out.1.1 0 _ rfl
    have r1:w5.cell? ⟨B5,1,none⟩=some (.int .i64 x.x.a.2):=dR.out.1.1 1 _ rfl
    have r2:w5.cell? ⟨B5,2,none⟩=some (.int .i64 x.x.p.src):=dR.out.1.1 2 _ rfl
    have r3:w5.cell? ⟨B5,3,none⟩=some (.int .i64 x.x.p.dst):=dR.out.1.1 3 _ rfl
    have r4:w5.cell? ⟨B5,4,none⟩=some (.int .i64 x.x.p.ah):=dR.out.1.1 4 _ rfl
    have r5:w5.cell? ⟨B5,5,none⟩=some (.int .i64 x.x.p.aj):=dR.out.1.1 5 _ rfl
    have r6:w5.cell? ⟨B5,6,none⟩=some xp:=dR.out.1.1 6 _ rfl
    have r7:w5.cell? ⟨B5,7,none⟩=some (.int .i64 x.x.ch):=dR.out.1.1 7 _ rfl
    have r8:w5.cell? ⟨B5,8,none⟩=some (.bool x.x.fo):=dR.out.1.1 8 _ rfl
    go_wp2_with fail
    clear r0 r1 r2 r3 r4 r5 r6 r7 r8
    have zi:=hide (bJ.out.trans (pI.out.mono bJ.out.size))
    have Ik:=hide (fun y (hy:x.x.need=some y)=>(TD.out.below pI.out).nd x FW.out y hy)
    have LJ:=hide (FQ g NR n.au n.ls K x RP w5 (j:Int) HJ.out (kC.out x FW.out) (fun y hy=>⟨(Ik.out y hy).2.1,(Ik.out y hy).2.2.1⟩) (fun w' hb=>have q:=zy.out.below (zi.out.trans (hb.mono zi.out.size));⟨q.a.cells.2.2.1,Av.out _ q.box.bl⟩))
    rw[TG.out]at LJ
    refine LJ.out.mono ?_
    clear LJ
    rintro e w6 ⟨rfl,hb6⟩
    have ig:=hide (pI.out.trans (hb6.mono pI.out.size))
    have gD:=hide (And.intro (dR.out.1.below hb6 dR.out.2) (Nat.lt_of_lt_of_le dR.out.2 hb6.size))
    clear hb6 dR
    cases hkn:fP (aJ n.au n.ls K) RP x.x
    case false=>
     rw[hkn]at oq
     clear hkn
     go_wp2
     go_roundw
     case rel=>exact⟨q+1,by omega,by go_num,hide (FV.out.trans oq.out),ig⟩
     case measure=>simp[intOf];omega
    case true=>
     rw[hkn]at oq
     have HF:=hide (show(Rb,RS)=iD n.au n.ls r.dev (cO n.au n.ls (aJ n.au n.ls K) f) S x.x from HR.out.symm.trans (Ip LG.out jL.out Jw.out jW.out (by rw[Ai.out];exact hho) (by rw[Ai.out];show((gG (aJ n.au n.ls K) (j:Int) t2 r.dev ⟨ps,pd,pu,pv⟩).find? (fP (aJ n.au n.ls K) RP))=some x.x;rw[← KW.out];exact FV.out.trans oq.out)))
     have ql:=hide (bJ.out.trans (ig.out.mono bJ.out.size))
     have LK:=hide (FT (F:=F') (zy.out.below ql.out).a (zy.out.below ql.out).box.bl jM.out HE.out HBC.out HO.out hk fQ.out x (kC.out x FW.out) (fun y hy=>by
      obtain⟨u1,u2,u3,_⟩:=(TD.out.below ig.out).nd x FW.out y hy
      exact⟨u2,u3,fun e=>by have:=(zy.out.a.fo _ e).2;omega⟩) (rd:=RP) hkn (by omega))
     rw[← HF.out,TG.out]at LK
     clear hkn FV oq
     have s0:w6.cell? ⟨B5,0,none⟩=some (.int .i64 x.x.a.1):=gD.out.1.1 0 _ rfl
     have s1:w6.cell? ⟨B5,1,none⟩=some (.int .i64 x.x.a.2):=gD.out.1.1 1 _ rfl
     have s2:w6.cell? ⟨B5,2,none⟩=some (.int .i64 x.x.p.src):=gD.out.1.1 2 _ rfl
     have s3:w6.cell? ⟨B5,3,none⟩=some (.int .i64 x.x.p.dst):=gD.out.1.1 3 _ rfl
     have s4:w6.cell? ⟨B5,4,none⟩=some (.int .i64 x.x.p.ah):=gD.out.1.1 4 _ rfl
     have s5:w6.cell? ⟨B5,5,none⟩=some (.int .i64 x.x.p.aj):=gD.out.1.1 5 _ rfl
     have s6:w6.cell? ⟨B5,6,none⟩=some xp:=gD.out.1.1 6 _ rfl
     have s7:w6.cell? ⟨B5,7,none⟩=some (.int .i64 x.x.ch):=gD.out.1.1 7 _ rfl
     have s8:w6.cell? ⟨B5,8,none⟩=some (.bool x.x.fo):=gD.out.1.1 8 _ rfl
     go_wp2_with fail
     refine LK.out.mono ?_
     rintro e w9 ⟨rfl,k9,Ep,Ou⟩
     have Er:=hide Ep
     have HK9:=hide Ou
     clear Ep Ou LK s0 s1 s2 s3 s4 s5 s6 s7 s8
     go_wp2
     go_ret
     obtain⟨Ol,u1,u2,u3⟩:=Er.out
     refine⟨rfl,k9,⟨Ol,u1,yg (lF.out.trans ((aL.of_below ql.out).mono lF.out.size)) oV.out u2,fun x' e=>?_⟩,HK9.out⟩
     rcases u3 x' e with e | e
     ·exact oV.out x' e
     ·have:=lF.out.size;have:=ql.out.size;right;omega
theorem Ir {W0:World} {g NR gw:Nat} {n:aH} {K:Nat} (hN:bf W0 W0.heap.size n) (hE:dD n.au n.ls=0) (hRe:∀w',Below W0.heap.size W0 w'→fU w' NR n.au n.ls K):∀f,o7 W0 g NR gw n K f
 |0=>fun W F S k a p _ _ _ _ _ _ _ hr=>absurd hr.2 (by have:=hr.1;omega)
 |f+1=>QB hN hE hRe (Ir hN hE hRe f)
end Go.Proofs.YtlhmdcgckocidaaGreat
