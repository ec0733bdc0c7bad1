/- A part of the proof: Nb2, No2, Nb3, CardB. -/
import Derived.Test.YtifkacnoiocebaaDoorNk21
import Derived.Deep.CutRange
import Derived.Deep.DeepHandedRow
import Derived.LaidMore
import Derived.Shelf.Vars
import Derived.ChangeMaps5
set_option linter.unusedVariables false
set_option linter.unusedSimpArgs false
set_option maxRecDepth 100000
set_option maxHeartbeats 8000000
namespace Go.Proofs.YtifkacnoiocebaaDoor
open Go.RowKit
theorem xG (l:List UInt8):(∃k e,fG l=(⟨[],[]⟩,k,e)∧e≠0)∨∃S:dH,fG l=(S,0,0)∧fE S.ds S.ls=0:=by
 unfold fG
 split
 ·exact .inl ⟨0,2,rfl,by decide⟩
 ·split
  ·exact .inl ⟨_,3,rfl,by decide⟩
  ·split
   ·exact .inl ⟨_,3,rfl,by decide⟩
   ·split
    ·rename_i h;exact .inr ⟨_,rfl,h⟩
    ·rename_i h;exact .inl ⟨0,_,rfl,h⟩
theorem sN {n:bK} {w:World} {B:Nat} (hn:fO w B n):∀d∈n.bI,d.pool<256∧∀r∈d.rules,r.m.ok:=fun d hd=>by
 obtain⟨x,hx,rfl⟩:=List.mem_map.1 hd
 have h:=hn.uW x hx
 exact⟨h.pl,h.rs.2.1⟩
theorem xH {ds:List Dev} {ls:List au} (h:fE ds ls=0) (hg:∀d∈ds,d.pool<256∧∀r∈d.rules,r.m.ok):(iP ds ls).length ≤100000:=by
 have hk:=lV h
 have htx:∀d∈ds,qO d:=fun d hd=>Ah (uN (nX ds [] hk.de d hd)) (nY ds [] hk.de d hd) (hg d hd).1
 have h1:=dY jO 3000 ds (fun d hd=>sI (htx d hd))
 have h2:=dY (jW ds) 30 ls (fun l hl=>by
  have hl:=rE h hl
  exact vK (fun d hd=>(htx d hd).nm) l hl.p.2 hl.q.2)
 have h3:=hk.dl
 have h4:=hk.ll
 unfold iP
 rw[List.length_append]
 omega
theorem uh {n:bK} {w:World} {B:Nat} (hn:fO w B n) (h:fE n.bI n.ls=0):(4096<(iP n.bI n.ls).length ∧fG (iP n.bI n.ls)=(⟨[],[]⟩,0,2))∨((iP n.bI n.ls).length ≤4096∧fG (iP n.bI n.ls)=(⟨n.bI,n.ls⟩,0,0)):=by
 by_cases hl:4096<(iP n.bI n.ls).length
 ·exact .inl ⟨hl,CR hl⟩
 ·exact .inr ⟨by omega,Ak h (sN hn) (by omega)⟩
def uj:Dev:=⟨⟨#[97]⟩,4,3,6,[],[],[]⟩
theorem zG:fE [uj] []=0:=by decide+kernel
theorem Ee:iQ [uj] []=[110,97,116,32,97,32,51,32,49,44,50,10]:=by
 unfold iQ
 rw[if_pos zG]
 have h3:Lib.decDigits 3=[51]:=lQ 3 (by omega)
 have h1:Lib.decDigits 1=[49]:=lQ 1 (by omega)
 have h2:Lib.decDigits 2=[50]:=lQ 2 (by omega)
 have hp:dS 6=[1,2]:=by decide+kernel
 simp[iP,jO,mP,nZ,aN,uj,iG,aS,h1,h2,h3,hp]
theorem Ef {w:World} {Y:Nat} (h:Bx w Y #[.string ⟨#[97]⟩,.int .i64 4,.int .i64 3,.int .u8 6,.slice none 0 0,.slice none 0 0,.slice none 0 0] 37):
  fO w w.heap.size ⟨some ⟨Y,0,none⟩,1,1,[⟨⟨#[97]⟩,4,3,6,none,0,0,[],none,0,0,[],none,0,0,[]⟩],none,0,0,[]⟩:=by
 have hn:NG w 0 [⟨⟨#[97]⟩,4,3,6,none,0,0,[],none,0,0,[],none,0,0,[]⟩] [] (.slice (some ⟨Y,0,none⟩) 1 1) (.slice none 0 0):=by
  refine⟨⟨rfl,.inr ⟨Y,1,_,rfl,Nat.zero_le _,h,Nat.le_refl _,by unfold maxLen;omega,rfl,rfl⟩⟩,World.ownsRow_nil _ _ _ _,fun y hy=>?_,fun y hy=>?_,fun y hy=>?_,fun y hy=>?_,fun y hy=>(nomatch hy),fun i j y z q hij hy hz=>?_,fun i j y z q hij hy hz=>?_⟩
  ·rcases List.mem_singleton.1 hy with rfl;exact⟨World.ownsRow_nil _ _ _ _,rfl⟩
  ·rcases List.mem_singleton.1 hy with rfl;exact⟨World.ownsRow_nil _ _ _ _,rfl⟩
  ·rcases List.mem_singleton.1 hy with rfl;exact⟨World.ownsRow_nil _ _ _ _,rfl⟩
  ·rcases List.mem_singleton.1 hy with rfl
   exact gM (nm:=[97]) (by simp) (by omega) (by omega) (by omega) (bs:=[]) (fun y hy=>(nomatch hy))
  ·have h1:=(List.getElem?_eq_some_iff.1 hy).1
   have h2:=(List.getElem?_eq_some_iff.1 hz).1
   simp at h1 h2
   omega
  ·have h1:=(List.getElem?_eq_some_iff.1 hy).1
   have h2:=(List.getElem?_eq_some_iff.1 hz).1
   simp at h1 h2
   omega
 exact hn.zQ
open Go.Maps
theorem wu (l:List au) (A1 A2:Option Addr) (n c1 c2:Nat) (W:World) (hn:n≤9223372036854775807) (h1:bN au.cells 4 W W.heap.size A1 n l) (h2:bN au.cells 4 W W.heap.size A2 n l):
  Calls Tryd.prog 17 #[.slice A1 n c1,.slice A2 n c2] W fun e W'=>e= .returned (.bool true)∧RowKit.Below W.heap.size W W':=by
 have H1:=hide h1
 have H2:=hide h2
 clear h1 h2
 go_enter Tryd.func17,Tryd.ntmps17
 go_wp2
 go_loopw [13] (fun i wr=>∃k:Nat,k≤n∧i= .int .i64 k∧Hid (RowKit.Below W.heap.size W wr)) (fun i _=>n - (intOf i).toNat)
 case atStart=>exact⟨0,Nat.zero_le _,rfl,hide (RowKit.Below.refl _ _)⟩
 case round=>
  obtain⟨k,hk,rfl,HB⟩:=hrel
  by_cases hlt:k<n
  ·obtain⟨z,hz⟩:∃r,l[k]?=some r:=⟨_,List.getElem?_eq_getElem (by have:=H1.out.1;omega)⟩
   obtain⟨b,o,rfl,_,_⟩:=H1.out.2 (by omega)
   obtain⟨b',o',rfl,_,_⟩:=H2.out.2 (by omega)
   obtain⟨_,hg⟩:=(H1.out.below HB.out HB.out.size).get hz
   obtain⟨_,hg'⟩:=(H2.out.below HB.out HB.out.size).get hz
   have q0:=hg 0 _ rfl
   have q1:=hg 1 _ rfl
   have q2:=hg 2 _ rfl
   have p0:=hg' 0 _ rfl
   have p1:=hg' 1 _ rfl
   have p2:=hg' 2 _ rfl
   have q3:=hg 3 _ rfl
   have p3:=hg' 3 _ rfl
   clear hg hg' hz
   rw[Nat.add_zero]at q0 p0
   go_wp2
   go_quiet (fail)
   go_wp2
   go_roundw
   case rel=>exact⟨k+1,by omega,by go_num,hide (HB.out.trans (je _ _ _))⟩
   case measure=>simp[intOf];omega
  ·go_wp2
   go_ret
   exact⟨rfl,HB.out⟩
theorem wC (l:List aW) (A1 A2:Option Addr) (n c1 c2:Nat) (W:World) (hn:n≤9223372036854775807) (h1:bN aW.cells 5 W W.heap.size A1 n l) (h2:bN aW.cells 5 W W.heap.size A2 n l):
  Calls Tryd.prog 21 #[.slice A1 n c1,.slice A2 n c2] W fun e W'=>e= .returned (.bool true)∧RowKit.Below W.heap.size W W':=by
 have H1:=hide h1
 have H2:=hide h2
 clear h1 h2
 go_enter Tryd.func21,Tryd.ntmps21
 go_wp2
 go_loopw [13] (fun i wr=>∃k:Nat,k≤n∧i= .int .i64 k∧Hid (RowKit.Below W.heap.size W wr)) (fun i _=>n - (intOf i).toNat)
 case atStart=>exact⟨0,Nat.zero_le _,rfl,hide (RowKit.Below.refl _ _)⟩
 case round=>
  obtain⟨k,hk,rfl,HB⟩:=hrel
  by_cases hlt:k<n
  ·obtain⟨z,hz⟩:∃r,l[k]?=some r:=⟨_,List.getElem?_eq_getElem (by have:=H1.out.1;omega)⟩
   obtain⟨b,o,rfl,_,_⟩:=H1.out.2 (by omega)
   obtain⟨b',o',rfl,_,_⟩:=H2.out.2 (by omega)
   obtain⟨_,hg⟩:=(H1.out.below HB.out HB.out.size).get hz
   obtain⟨_,hg'⟩:=(H2.out.below HB.out HB.out.size).get hz
   have q0:=hg 0 _ rfl
   have q1:=hg 1 _ rfl
   have q2:=hg 2 _ rfl
   have p0:=hg' 0 _ rfl
   have p1:=hg' 1 _ rfl
   have p2:=hg' 2 _ rfl
   have q3:=hg 3 _ rfl
   have p3:=hg' 3 _ rfl
   have q4:=hg 4 _ rfl
   have p4:=hg' 4 _ rfl
   clear hg hg' hz
   rw[Nat.add_zero]at q0 p0
   go_wp2
   go_quiet (fail)
   go_wp2
   go_roundw
   case rel=>exact⟨k+1,by omega,by go_num,hide (HB.out.trans (je _ _ _))⟩
   case measure=>simp[intOf];omega
  ·go_wp2
   go_ret
   exact⟨rfl,HB.out⟩
theorem uP (l:List aI) (A1 A2:Option Addr) (n c1 c2:Nat) (W:World) (hn:n≤9223372036854775807) (h1:bN aI.cells 3 W W.heap.size A1 n l) (h2:bN aI.cells 3 W W.heap.size A2 n l):
  Calls Tryd.prog 22 #[.slice A1 n c1,.slice A2 n c2] W fun e W'=>e= .returned (.bool true)∧RowKit.Below W.heap.size W W':=by
 have H1:=hide h1
 have H2:=hide h2
 clear h1 h2
 go_enter Tryd.func22,Tryd.ntmps22
 go_wp2
 go_loopw [13] (fun i wr=>∃k:Nat,k≤n∧i= .int .i64 k∧Hid (RowKit.Below W.heap.size W wr)) (fun i _=>n - (intOf i).toNat)
 case atStart=>exact⟨0,Nat.zero_le _,rfl,hide (RowKit.Below.refl _ _)⟩
 case round=>
  obtain⟨k,hk,rfl,HB⟩:=hrel
  by_cases hlt:k<n
  ·obtain⟨z,hz⟩:∃r,l[k]?=some r:=⟨_,List.getElem?_eq_getElem (by have:=H1.out.1;omega)⟩
   obtain⟨b,o,rfl,_,_⟩:=H1.out.2 (by omega)
   obtain⟨b',o',rfl,_,_⟩:=H2.out.2 (by omega)
   obtain⟨_,hg⟩:=(H1.out.below HB.out HB.out.size).get hz
   obtain⟨_,hg'⟩:=(H2.out.below HB.out HB.out.size).get hz
   have q0:=hg 0 _ rfl
   have q1:=hg 1 _ rfl
   have q2:=hg 2 _ rfl
   have p0:=hg' 0 _ rfl
   have p1:=hg' 1 _ rfl
   have p2:=hg' 2 _ rfl
   clear hg hg' hz
   rw[Nat.add_zero]at q0 p0
   go_wp2
   go_quiet (fail)
   go_wp2
   go_roundw
   case rel=>exact⟨k+1,by omega,by go_num,hide (HB.out.trans (je _ _ _))⟩
   case measure=>simp[intOf];omega
  ·go_wp2
   go_ret
   exact⟨rfl,HB.out⟩
theorem vN (w:World) (o o':Obj):RowKit.Below w.heap.size w ((w.alloc o).alloc o'):=(below_alloc2 w o).trans ((below_alloc2 (w.alloc o) o').mono (below_alloc2 w o).size)
structure mZ (w:World) (B:Nat) (x y:ah):Prop where
 ax:jE w B x
 ay:jE w B y
 e:x.dev=y.dev
theorem mZ.below {w w':World} {B B':Nat} {x y:ah} (h:mZ w B x y) (hB:RowKit.Below B w w') (hB':B≤B'):mZ w' B' x y:=⟨h.ax.below hB hB',h.ay.below hB hB',h.e⟩
theorem mZ.lens {w:World} {B:Nat} {x y:ah} (h:mZ w B x y):x.bn=y.bn∧x.rn=y.rn∧x.tn=y.tn:=by
 have h1:=h.ax.bs.1
 have h2:=h.ay.bs.1
 have h3:=h.ax.rs.1
 have h4:=h.ay.rs.1
 have h5:=h.ax.ts.1
 have h6:=h.ay.ts.1
 obtain⟨_,_,_,_,_,_,_,b1,_,_,_,r1,_,_,_,t1⟩:=x
 obtain⟨_,_,_,_,_,_,_,b2,_,_,_,r2,_,_,_,t2⟩:=y
 have he:=h.e
 simp only[ah.dev,Dev.mk.injEq]at he h1 h2 h3 h4 h5 h6 ⊢
 obtain⟨_,_,_,_,rfl,rfl,rfl⟩:=he
 omega
theorem xI (x y:ah) (W:World) (h:mZ W W.heap.size x y):
  Calls Tryd.prog 19 #[x.val,y.val] W fun e W'=>e= .returned (.bool true)∧RowKit.Below W.heap.size W W':=by
 have HS:=hide h
 obtain⟨l1,l2,l3⟩:=h.lens
 have he:=h.e
 have hc1:=h.ax.cb
 have hc2:=h.ax.cr
 have hc3:=h.ax.ct
 clear h
 obtain⟨nm,kd,ad,pl,bA,bn,bc,bs,rA,rn,rc,rs,tA,tn,tc,ts⟩:=x
 obtain⟨nm',kd',El,EZ,vO,Gb,bc',bs',vP,Gc,rc',rs',vQ,Gd,vR,ts'⟩:=y
 simp only[ah.dev,Dev.mk.injEq,ah.val,maxLen]at*
 obtain⟨rfl,rfl,rfl,hpl,rfl,rfl,rfl⟩:=he
 obtain rfl:pl=EZ:=by omega
 subst l1 l2 l3
 have Gf:=hide (fun(w':World) (hb:RowKit.Below W.heap.size W w')=>BJ bs bA vO bn bc bc' w' (by omega) (HS.out.below hb hb.size).ax.bs (HS.out.below hb hb.size).ay.bs)
 have Gg:=hide (fun(w':World) (hb:RowKit.Below W.heap.size W w')=>wC rs rA vP rn rc rc' w' (by omega) (HS.out.below hb hb.size).ax.rs.sl (HS.out.below hb hb.size).ay.rs.sl)
 have Gh:=hide (fun(w':World) (hb:RowKit.Below W.heap.size W w')=>uP ts tA vQ tn tc vR w' (by omega) (HS.out.below hb hb.size).ax.ts (HS.out.below hb hb.size).ay.ts)
 clear HS
 go_enter Tryd.func19,Tryd.ntmps19
 go_wp2_with fail
 have HB2:=hide (vN W (.cells #[.string nm,.int .i64 kd,.int .i64 ad,.int .u8 (pl:Int),.slice bA bn bc,.slice rA rn rc,.slice tA tn tc] 37) (.cells #[.string nm,.int .i64 kd,.int .i64 ad,.int .u8 (pl:Int),.slice vO bn bc',.slice vP rn rc',.slice vQ tn vR] 37))
 have HX0:=hide ((Bx.new W #[.string nm,.int .i64 kd,.int .i64 ad,.int .u8 (pl:Int),.slice bA bn bc,.slice rA rn rc,.slice tA tn tc] 37).below (below_alloc2 _ (.cells #[.string nm,.int .i64 kd,.int .i64 ad,.int .u8 (pl:Int),.slice vO bn bc',.slice vP rn rc',.slice vQ tn vR] 37)))
 have fF:=hide (show Bx ((W.alloc (.cells #[.string nm,.int .i64 kd,.int .i64 ad,.int .u8 (pl:Int),.slice bA bn bc,.slice rA rn rc,.slice tA tn tc] 37)).alloc (.cells #[.string nm,.int .i64 kd,.int .i64 ad,.int .u8 (pl:Int),.slice vO bn bc',.slice vP rn rc',.slice vQ tn vR] 37)) (W.heap.size+1) #[.string nm,.int .i64 kd,.int .i64 ad,.int .u8 (pl:Int),.slice vO bn bc',.slice vP rn rc',.slice vQ tn vR] 37 from by
  have h:=Bx.new (W.alloc (.cells #[.string nm,.int .i64 kd,.int .i64 ad,.int .u8 (pl:Int),.slice bA bn bc,.slice rA rn rc,.slice tA tn tc] 37)) #[.string nm,.int .i64 kd,.int .i64 ad,.int .u8 (pl:Int),.slice vO bn bc',.slice vP rn rc',.slice vQ tn vR] 37
  simpa using h)
 generalize World.alloc (World.alloc W _) _=w2 at*
 refine(Gf.out w2 HB2.out).mono ?_
 clear Gf
 rintro e w3 ⟨rfl,hb⟩
 have HB3:=hide (HB2.out.trans (hb.mono HB2.out.size))
 have lH:=hide (HX0.out.below hb)
 have lI:=hide (fF.out.below hb)
 clear hb HB2 HX0 fF
 have HX0:=lH
 have fF:=lI
 clear lH lI
 have y0:=HX0.out.get 5 _ rfl
 have y1:=fF.out.get 5 _ rfl
 go_wp2_with fail
 clear y0 y1
 refine(Gg.out w3 HB3.out).mono ?_
 clear Gg
 rintro e w4 ⟨rfl,hb⟩
 have ak:=hide (HB3.out.trans (hb.mono HB3.out.size))
 have lH:=hide (HX0.out.below hb)
 have lI:=hide (fF.out.below hb)
 clear hb HB3 HX0 fF
 have HX0:=lH
 have fF:=lI
 clear lH lI
 have y0:=HX0.out.get 6 _ rfl
 have y1:=fF.out.get 6 _ rfl
 go_wp2_with fail
 clear y0 y1
 refine(Gh.out w4 ak.out).mono ?_
 clear Gh
 rintro e w5 ⟨rfl,hb⟩
 have bH:=hide (ak.out.trans (hb.mono ak.out.size))
 have lH:=hide (HX0.out.below hb)
 have lI:=hide (fF.out.below hb)
 clear hb ak HX0 fF
 have HX0:=lH
 have fF:=lI
 clear lH lI
 go_wp2
 go_ret
 exact⟨rfl,bH.out⟩
structure oW (w:World) (B:Nat) (x y:bK):Prop where
 ax:fO w B x
 ay:fO w B y
 ed:x.bI=y.bI
 el:x.ls=y.ls
theorem oW.below {w w':World} {B B':Nat} {x y:bK} (h:oW w B x y) (hB:RowKit.Below B w w') (hB':B≤B'):oW w' B' x y:=⟨h.ax.below hB hB',h.ay.below hB hB',h.ed,h.el⟩
theorem uQ (x y:bK) (W:World) (h:oW W W.heap.size x y):
  Calls Tryd.prog 18 #[.slice x.dA x.dn x.dc,.slice y.dA y.dn y.dc,.func (.func 19) #[] #[]] W fun e W'=>e= .returned (.bool true)∧RowKit.Below W.heap.size W W':=by
 have HS:=hide h
 have hn:x.dn=y.dn:=by
  have h1:=congrArg List.length h.ed
  simp only[bK.bI,List.length_map]at h1
  have:=h.ax.qA
  have:=h.ay.qA
  omega
 have hc:=h.ax.cd
 have Gi:=hide (fun(w':World) (hb:RowKit.Below W.heap.size W w') (j:Nat) (r r':ah) (hr:x.ds[j]?=some r) (hr':y.ds[j]?=some r')=>show Calls Tryd.prog 19 #[r.val,r'.val] w' (fun e W'=>e= .returned (.bool true)∧RowKit.Below w'.heap.size w' W')from xI r r' w' ⟨(h.below hb hb.size).ax.uW r (List.mem_of_getElem? hr),(h.below hb hb.size).ay.uW r' (List.mem_of_getElem? hr'),by
  have e:=congrArg (fun l=>l[j]?) h.ed
  simp only[bK.bI,List.getElem?_map,hr,hr',Option.map_some,Option.some.injEq]at e
  exact e⟩)
 have gG:=hide (show x.ds.length=x.dn∧y.ds.length=x.dn from⟨h.ax.qA,by rw[hn];exact h.ay.qA⟩)
 simp only[maxLen]at hc
 clear h
 rw[← hn]
 have HN:=hide hn
 clear hn
 go_enter Tryd.func18,Tryd.ntmps18
 go_wp2_with fail
 go_loopw [17] (fun i wr=>∃k:Nat,k≤x.dn∧i= .int .i64 k∧Hid (RowKit.Below W.heap.size W wr)) (fun i _=>x.dn - (intOf i).toNat)
 case atStart=>exact⟨0,Nat.zero_le _,rfl,hide (RowKit.Below.refl _ _)⟩
 case round=>
  obtain⟨k,hk,rfl,HB⟩:=hrel
  by_cases hlt:k<x.dn
  case neg=>
   go_wp2
   go_ret
   exact⟨rfl,HB.out⟩
  case pos=>
   obtain⟨r,hr⟩:∃r,x.ds[k]?=some r:=⟨_,List.getElem?_eq_getElem (by have:=gG.out.1;omega)⟩
   obtain⟨r',hr'⟩:∃r,y.ds[k]?=some r:=⟨_,List.getElem?_eq_getElem (by have:=gG.out.2;omega)⟩
   have HC:=hide (fun(w':World) (hb:RowKit.Below W.heap.size W w')=>Gi.out w' hb k r r' hr hr')
   have HA:=hide (fun(w':World) (hb:RowKit.Below W.heap.size W w')=>And.intro ((HS.out.below hb hb.size).ax.ds) ((HS.out.below hb hb.size).ay.ds))
   obtain⟨b,o,e1,_,_⟩:=HS.out.ax.ds.2 (by omega)
   obtain⟨b',o',e2,_,_⟩:=HS.out.ay.ds.2 (by have:=HN.out;omega)
   rw[e1,e2]at HA
   rw[e1,e2]
   have HQ:=hide (fun(w':World) (hb:RowKit.Below W.heap.size W w')=>And.intro (oM (HA.out w' hb).1 hr).2 (oM (HA.out w' hb).2 hr').2)
   clear hr hr' HA e1 e2
   obtain⟨nm,kd,ad,pl,bA,bn,bc,bs,rA,rn,rc,rs,tA,tn,tc,ts⟩:=r
   obtain⟨nm',kd',El,EZ,vO,Gb,bc',bs',vP,Gc,rc',rs',vQ,Gd,vR,ts'⟩:=r'
   simp only[ah.val]at HC HQ
   obtain⟨⟨q0,q1,q2,q3,q4,q5,q6⟩,_⟩:=HQ.out wr HB.out
   have HB1:=hide (HB.out.trans ((below_alloc2 wr (.cells #[.string nm,.int .i64 kd,.int .i64 ad,.int .u8 (pl:Int),.slice bA bn bc,.slice rA rn rc,.slice tA tn tc] 37)).mono HB.out.size))
   obtain⟨_,p0,p1,p2,p3,p4,p5,p6⟩:=HQ.out _ HB1.out
   have HB2:=hide (HB1.out.trans ((below_alloc2 (wr.alloc (.cells #[.string nm,.int .i64 kd,.int .i64 ad,.int .u8 (pl:Int),.slice bA bn bc,.slice rA rn rc,.slice tA tn tc] 37)) (.cells #[.string nm',.int .i64 kd',.int .i64 El,.int .u8 (EZ:Int),.slice vO Gb bc',.slice vP Gc rc',.slice vQ Gd vR] 37)).mono HB1.out.size))
   clear HQ Gi
   go_wp2_with fail
   clear q0 q1 q2 q3 q4 q5 q6 p0 p1 p2 p3 p4 p5 p6
   refine(HC.out _ HB2.out).mono ?_
   clear HC
   rintro e w3 ⟨rfl,hb3⟩
   have HB3:=hide (HB2.out.trans (hb3.mono HB2.out.size))
   clear hb3 HB2 HB1 HB
   go_wp2_with fail
   go_roundw
   case rel=>exact⟨k+1,by omega,by go_num,HB3⟩
   case measure=>simp[intOf];omega
theorem qX (x y:bK) (W:World) (h:oW W W.heap.size x y):
  Calls Tryd.prog 7 #[x.val,y.val] W fun e W'=>e= .returned (.bool true)∧RowKit.Below W.heap.size W W':=by
 have hn:x.ln=y.ln:=by
  have h1:=congrArg List.length h.el
  have:=h.ax.llen
  have:=h.ay.llen
  omega
 have HS:=hide h
 have hc:=h.ax.cl
 have HL:=hide (fun(w':World) (hb:RowKit.Below W.heap.size W w')=>show Calls Tryd.prog 17 #[.slice x.lA x.ln x.lc,.slice y.lA y.ln y.lc] w' (fun e W'=>e= .returned (.bool true)∧RowKit.Below w'.heap.size w' W')from by
  have h1:=(h.below hb hb.size).ax.ls
  have h2:=(h.below hb hb.size).ay.ls
  rw[← h.el,← hn]at h2
  rw[← hn]
  exact wu x.ls x.lA y.lA x.ln x.lc y.lc w' (by have:=hc;simp only[maxLen]at this;omega) h1 h2)
 have HD:=hide (fun(w':World) (hb:RowKit.Below W.heap.size W w')=>uQ x y w' (h.below hb hb.size))
 clear h hc hn HS
 simp only[bK.val]at*
 go_enter Tryd.func7,Tryd.ntmps7
 go_wp2_with fail
 have HB2:=hide (vN W (.cells #[.slice x.dA x.dn x.dc,.slice x.lA x.ln x.lc] 25) (.cells #[.slice y.dA y.dn y.dc,.slice y.lA y.ln y.lc] 25))
 have HX0:=hide ((Bx.new W #[.slice x.dA x.dn x.dc,.slice x.lA x.ln x.lc] 25).below (below_alloc2 _ (.cells #[.slice y.dA y.dn y.dc,.slice y.lA y.ln y.lc] 25)))
 have fF:=hide (show Bx ((W.alloc (.cells #[.slice x.dA x.dn x.dc,.slice x.lA x.ln x.lc] 25)).alloc (.cells #[.slice y.dA y.dn y.dc,.slice y.lA y.ln y.lc] 25)) (W.heap.size+1) #[.slice y.dA y.dn y.dc,.slice y.lA y.ln y.lc] 25 from by
  have h:=Bx.new (W.alloc (.cells #[.slice x.dA x.dn x.dc,.slice x.lA x.ln x.lc] 25)) #[.slice y.dA y.dn y.dc,.slice y.lA y.ln y.lc] 25
  simpa using h)
 generalize World.alloc (World.alloc W _) _=w2 at*
 refine(HL.out w2 HB2.out).mono ?_
 clear HL
 rintro e w3 ⟨rfl,hb⟩
 have HB3:=hide (HB2.out.trans (hb.mono HB2.out.size))
 have lH:=hide (HX0.out.below hb)
 have lI:=hide (fF.out.below hb)
 clear hb HB2 HX0 fF
 have HX0:=lH
 have fF:=lI
 clear lH lI
 have y0:=HX0.out.get 0 _ rfl
 have y1:=fF.out.get 0 _ rfl
 go_wp2_with fail
 clear y0 y1
 refine(HD.out w3 HB3.out).mono ?_
 clear HD
 rintro e w4 ⟨rfl,hb⟩
 have ak:=hide (HB3.out.trans (hb.mono HB3.out.size))
 have lH:=hide (HX0.out.below hb)
 have lI:=hide (fF.out.below hb)
 clear hb HB3 HX0 fF
 have HX0:=lH
 have fF:=lI
 clear lH lI
 go_wp2
 go_ret
 exact⟨rfl,ak.out⟩
end Go.Proofs.YtifkacnoiocebaaDoor
namespace Go.Proofs.YtifkacnoiocebaaDoor
open Go.RowKit
theorem xJ {l:List UInt8} {S:dH} {k:Nat} {er:Int} (hr:fG l=(S,k,er)) {W W':World} {e:Ending} (h:rF l W e W'):
  Below W.heap.size W W'∧∃n:bK,e= .returned (.tuple #[n.val,.int .i64 (k:Int),.int .i64 er])∧fO W' W'.heap.size n∧n.bI=S.ds∧n.ls=S.ls:=by
 unfold rF at h
 rw[hr]at h
 exact h
theorem xK (n:bK) (l:List UInt8) (W:World) (hn:fO W W.heap.size n) (hl:l.length≤9223372036854775807) (hm:dF W):
  Calls Tryd.prog 4 #[n.val,.string ⟨l.toArray⟩] W fun e W'=>e= .returned (.bool true)∧Below W.heap.size W W':=by
 obtain⟨B,hB⟩:∃B,W.heap.size=B:=⟨_,rfl⟩
 have zH:=hide (fun w (hb:Below W.heap.size W w)=>mH n w (hn.below hb hb.size))
 have E5:=hide (fun w (h:dF w)=>oI l w hl h)
 have E8:=hide (fun h:fE n.bI n.ls=0=>uh hn h)
 have mJ:=hide (fun h:fE n.bI n.ls=0=>xH h (sN hn))
 have E9:=hide (fun h:fE n.bI n.ls=0=>show iQ n.bI n.ls=iP n.bI n.ls from by rw[iQ,if_pos h])
 obtain⟨E,hE⟩:∃E,fE n.bI n.ls=E:=⟨_,rfl⟩
 obtain⟨PT,Gj⟩:∃PT,iQ n.bI n.ls=PT:=⟨_,rfl⟩
 simp only[hE,Gj]at zH E8 mJ E9
 have zI:=hide (fun h:E=0=>show(PT.length≤100000)∧((4096<PT.length∧fG PT=(⟨[],[]⟩,0,2))∨(PT.length≤4096∧fG PT=(⟨n.bI,n.ls⟩,0,0)))from by
  have h1:=E9.out h
  have h2:=E8.out h
  have h3:=mJ.out h
  rw[← h1]at h2 h3
  exact⟨h3,h2⟩)
 have HM:=hide hm
 have Fa:=hide (fun w (hb:Below W.heap.size W w)=>hn.below hb hb.size)
 obtain⟨dv,hdv⟩:∃dv,n.bI=dv:=⟨_,rfl⟩
 obtain⟨lv,hlv⟩:∃lv,n.ls=lv:=⟨_,rfl⟩
 have tV:=hide (And.intro hdv hlv)
 simp only[hdv,hlv]at zI
 clear hE Gj E8 mJ E9 hdv hlv hl hm
 obtain⟨s,hss⟩:∃s:ByteArray,⟨l.toArray⟩=s:=⟨_,rfl⟩
 obtain⟨sT,DJ⟩:∃s:ByteArray,⟨PT.toArray⟩=s:=⟨_,rfl⟩
 have G8:sT.size=PT.length:=by rw[← DJ];exact List.size_toArray
 have p8:=hide (fun w (h:dF w) (hl:PT.length≤100000)=>show Calls Tryd.prog 5 #[.string sT] w (rF PT w)from by rw[← DJ];exact oI PT w (by omega) h)
 simp only[DJ]at zH
 simp only[hss]at E5 ⊢
 obtain⟨tl,htl⟩:∃tl,PT.length=tl:=⟨_,rfl⟩
 rw[htl]at G8
 simp only[htl]at zI p8
 obtain⟨dA,dn,dc,ds,lA,ln,lc,ls⟩:=n
 simp only[bK.val]at zH ⊢
 simp only[hB]at zH Fa ⊢
 clear hss DJ htl hn
 go_enter Tryd.func4,Tryd.ntmps4
 go_upto_region 1 with fail
 obtain⟨w0,hw0⟩:∃w0,w0=W.alloc (.cells #[.slice dA dn dc,.slice lA ln lc] 25):=⟨_,rfl⟩
 have HB0:=hide (show Below B W w0 from by rw[hw0,← hB];exact below_alloc2 W _)
 have HX0:=hide (show Bx w0 B #[.slice dA dn dc,.slice lA ln lc] 25 from by rw[hw0,← hB];exact Bx.new W _ _)
 rw[← hw0]
 clear hw0
 obtain⟨fP,hi0,hz0,hz1,hz2⟩:=info_parts Tryd.infoDevice
 obtain⟨Y,hY⟩:∃Y,w0.heap.size=Y:=⟨_,rfl⟩
 have JG:B+1≤Y:=by have:=HX0.out.lt;omega
 obtain⟨w1,hw1⟩:∃w1,w1=w0.alloc (.cells #[.string ⟨#[97]⟩,.int .i64 4,.int .i64 3,.int .u8 6,.slice none 0 0,.slice none 0 0,.slice none 0 0] 37):=⟨_,rfl⟩
 have hb1:=below_alloc2 w0 (.cells #[.string ⟨#[97]⟩,.int .i64 4,.int .i64 3,.int .u8 6,.slice none 0 0,.slice none 0 0,.slice none 0 0] 37)
 rw[← hw1]at hb1
 have Fb:=hide ((mH _ w1 (Ef (Y:=Y) (show Bx w1 Y _ _ from by rw[hw1,← hY];exact Bx.new w0 _ _))).mono (fun e w' h=>show e= .returned (.tuple #[.string ⟨#[110,97,116,32,97,32,51,32,49,44,50,10]⟩,.int .i64 0])∧Below w1.heap.size w1 w' from by
  have h':e= .returned (.tuple #[.string ⟨(iQ [uj] []).toArray⟩,.int .i64 (fE [uj] [])])∧_:=h
  rw[Ee,zG]at h'
  exact h'))
 have fF:=hide (HX0.out.below hb1)
 have HB1:=hide (HB0.out.trans (hb1.mono (by omega)))
 simp only[bK.val]at Fb
 clear hb1 HX0 HB0
 go_wp2_with (refine wpList_buildSlice rfl 22 37 1 #[(0,.tmp 20)] rfl #[.string ⟨#[97]⟩,.int .i64 4,.int .i64 3,.int .u8 6,.slice none 0 0,.slice none 0 0,.slice none 0 0] fP _ Tryd.underlying22 hi0 hz0 (by rw[hz1];omega) (by rw[hz1];omega) (by rw[hz1,Array.toList_map];exact fV ⟨#[97]⟩ 4 3 6 none none none 0 0 0 0 0 0) ?_)
 rw[← hw1]
 refine Fb.out.mono ?_
 rintro e w2 ⟨rfl,hb2⟩
 have gY:=hide (fF.out.below hb2)
 have HB2:=hide (HB1.out.trans (hb2.mono (by have:=fF.out.lt;omega)))
 have x0:w2.cell? ⟨B,0,none⟩=some (.slice dA dn dc):=gY.out.get 0 _ rfl
 have x1:w2.cell? ⟨B,1,none⟩=some (.slice lA ln lc):=gY.out.get 1 _ rfl
 clear Fb hb2 fF HB1 hw1 hY
 go_wp2_with fail
 refine(zH.out _ HB2.out).mono ?_
 rintro e w3 ⟨rfl,hb3⟩
 have ou:=hide (gY.out.below hb3)
 have HB3:=hide (HB2.out.trans (hb3.mono (by have:=gY.out.lt;omega)))
 clear gY HB2 hb3 x0 x1
 go_upto_if 38 with fail
 go_cut [9,10,11]from 39 to 66 (fun s9 s10 s11 wx=>Hid (Below B W wx))
 case first=>
  by_cases hE:E=0
  case neg=>
   have e1:(E ==0)=false:=by simpa using hE
   go_wp2
   go_meet
   exact HB3
  case pos=>
   subst hE
   obtain⟨Gl,hcs⟩:=zI.out rfl
   have Fe:=hide hcs
   have DK:=hide (HM.out.below (show Below W.heap.size W w3 from by rw[hB];exact HB3.out))
   clear hcs
   rcases Fe.out with⟨htl,hr⟩ | ⟨htl,hr⟩
   ·have HR:=hide hr
    have d1:decide (4096<tl)=true:=decide_eq_true htl
    have d2:decide (tl≤4096)=false:=decide_eq_false (by omega)
    have d3:decide ((4096:Int)<(tl:Int))=true:=decide_eq_true (by omega)
    have d4:decide ((tl:Int)≤4096)=false:=decide_eq_false (by omega)
    clear hr Fe
    go_wp2_with fail
    refine(p8.out _ DK.out Gl).mono ?_
    rintro e w5 ⟨hb5,⟨kN,ku,kP,ds',kQ,kR,kS,ls'⟩,he,mD,hd5,hl5⟩
    rw[HR.out]at he hd5 hl5
    simp only[bK.val]at he
    subst he
    obtain⟨Z,hZ⟩:∃Z,w5.heap.size=Z:=⟨_,rfl⟩
    obtain⟨w6,iV⟩:∃w6,w6=w5.alloc (.cells #[.slice kN ku kP,.slice kQ kR kS] 25):=⟨_,rfl⟩
    have hb6:=below_alloc2 w5 (.cells #[.slice kN ku kP,.slice kQ kR kS] 25)
    rw[← iV]at hb6
    have xL:=hide (show Bx w6 Z #[.slice kN ku kP,.slice kQ kR kS] 25 from by rw[iV,← hZ];exact Bx.new w5 _ _)
    have qY:=hide (mD.below hb6 hb6.size)
    have kH:=hb5.trans (hb6.mono hb5.size)
    have HD6:=hide (And.intro hd5 hl5)
    clear mD hb5 hb6 hd5 hl5
    have dR:=hide (HB3.out.trans (kH.mono (by have:=ou.out.lt;omega)))
    rw[iV]at dR
    clear iV kH
    go_wp2_with fail
    go_meet
    exact dR
   ·have HR:=hide hr
    have d1:decide (4096<tl)=false:=decide_eq_false (by omega)
    have d2:decide (tl≤4096)=true:=decide_eq_true htl
    have d3:decide ((4096:Int)<(tl:Int))=false:=decide_eq_false (by omega)
    have d4:decide ((tl:Int)≤4096)=true:=decide_eq_true (by omega)
    clear hr Fe
    go_wp2_with fail
    refine(p8.out _ DK.out Gl).mono ?_
    rintro e w5 ⟨hb5,⟨kN,ku,kP,ds',kQ,kR,kS,ls'⟩,he,mD,hd5,hl5⟩
    rw[HR.out]at he hd5 hl5
    simp only[bK.val]at he
    subst he
    obtain⟨Z,hZ⟩:∃Z,w5.heap.size=Z:=⟨_,rfl⟩
    obtain⟨w6,iV⟩:∃w6,w6=w5.alloc (.cells #[.slice kN ku kP,.slice kQ kR kS] 25):=⟨_,rfl⟩
    have hb6:=below_alloc2 w5 (.cells #[.slice kN ku kP,.slice kQ kR kS] 25)
    rw[← iV]at hb6
    have xL:=hide (show Bx w6 Z #[.slice kN ku kP,.slice kQ kR kS] 25 from by rw[iV,← hZ];exact Bx.new w5 _ _)
    have qY:=hide (mD.below hb6 hb6.size)
    have kH:=hb5.trans (hb6.mono hb5.size)
    have HD6:=hide (And.intro hd5 hl5)
    clear mD hb5 hb6 hd5 hl5
    have dR:=hide (HB3.out.trans (kH.mono (by have:=ou.out.lt;omega)))
    have gB:=hide (ou.out.below kH)
    have BK:=hide (qX ⟨kN,ku,kP,ds',kQ,kR,kS,ls'⟩ ⟨dA,dn,dc,ds,lA,ln,lc,ls⟩ w6 ⟨qY.out,Fa.out w6 dR.out,HD6.out.1.trans tV.out.1.symm,HD6.out.2.trans tV.out.2.symm⟩)
    simp only[bK.val]at BK
    have y0:w6.cell? ⟨B,0,none⟩=some (.slice dA dn dc):=gB.out.get 0 _ rfl
    have y1:w6.cell? ⟨B,1,none⟩=some (.slice lA ln lc):=gB.out.get 1 _ rfl
    have z0:w6.cell? ⟨Z,0,none⟩=some (.slice kN ku kP):=xL.out.get 0 _ rfl
    have z1:w6.cell? ⟨Z,1,none⟩=some (.slice kQ kR kS):=xL.out.get 1 _ rfl
    rw[iV]at y0 y1 z0 z1
    clear kH
    go_wp2_with fail
    rw[← iV]
    refine BK.out.mono ?_
    rintro e w7 ⟨rfl,om⟩
    have bM:=hide (dR.out.trans (om.mono (by have:=gB.out.lt;omega)))
    clear iV y0 y1 z0 z1 om
    go_wp2_with fail
    go_meet
    exact bM
 case rest=>
 have DL:=hcut
 clear hcut HB3 ou
 have JH:B≤wc.heap.size:=by rw[← hB];exact DL.out.size
 have Gm:=hide (HM.out.below (show Below W.heap.size W wc from by rw[hB];exact DL.out))
 have qZ:=hide (E5.out wc Gm.out)
 rcases xG l with⟨k,er,hr,her⟩ | ⟨S,hr,hS⟩
 ·have e1:(er ==0)=false:=by simpa using her
  have e2:(er != 0)=true:=by simpa using her
  have qZ:=hide (qZ.out.mono (fun e w' h=>xJ hr h))
  go_wp2_with fail
  refine qZ.out.mono ?_
  rintro e w5 ⟨hb5,⟨kN,ku,kP,ds',kQ,kR,kS,ls'⟩,rfl,mD,hd5,hl5⟩
  have hdn:ku=0:=by
   have h1:=mD.qA
   have h2:=congrArg List.length hd5
   simp only[bK.bI,List.length_map,List.length_nil]at h1 h2
   omega
  subst hdn
  simp only[bK.val]
  have bH:=hide (DL.out.trans (hb5.mono (by omega)))
  have hk0:(0:Int)≤(k:Int):=by omega
  clear mD hd5 hl5 hb5 qZ
  go_wp2_with fail
  go_ret
  exact⟨rfl,bH.out.alloc (by have:=bH.out.size;omega) _⟩
 have qZ:=hide (qZ.out.mono (fun e w' h=>xJ hr h))
 have hw1:W.heap.size≤wc.heap.size:=by omega
 go_wp2_with fail
 refine qZ.out.mono ?_
 rintro e w5 ⟨hb5,⟨p9,qb,qc,xM,lA2,qd,qg,qh⟩,rfl,mD,hd5,hl5⟩
 have hb6:=below_alloc2 w5 (.cells #[.slice p9 qb qc,.slice lA2 qd qg] 25)
 obtain⟨X,hX⟩:∃X,w5.heap.size=X:=⟨_,rfl⟩
 obtain⟨w6,iV⟩:∃w6,w6=w5.alloc (.cells #[.slice p9 qb qc,.slice lA2 qd qg] 25):=⟨_,rfl⟩
 rw[← iV]at hb6
 have gB:=hide (show Bx w6 X #[.slice p9 qb qc,.slice lA2 qd qg] 25 from by rw[iV,← hX];exact Bx.new w5 _ _)
 have dR:=hide (DL.out.trans ((hb5.trans (hb6.mono hb5.size)).mono (by omega)))
 have qY:=hide (mD.below hb6 hb6.size)
 have hE2:fE (bK.bI ⟨p9,qb,qc,xM,lA2,qd,qg,qh⟩) qh=0:=by
  have h1:bK.bI ⟨p9,qb,qc,xM,lA2,qd,qg,qh⟩=S.ds:=hd5
  have h2:qh=S.ls:=hl5
  rw[h1,h2];exact hS
 have BL:=hide (mH ⟨p9,qb,qc,xM,lA2,qd,qg,qh⟩ w6 qY.out)
 have jo:=hide (uh qY.out hE2)
 have Fg:=xH hE2 (sN qY.out)
 have hpt:iQ (bK.bI ⟨p9,qb,qc,xM,lA2,qd,qg,qh⟩) qh=iP (bK.bI ⟨p9,qb,qc,xM,lA2,qd,qg,qh⟩) qh:=by rw[iQ,if_pos hE2]
 simp only[hpt,hE2]at BL
 obtain⟨P2,hP2⟩:∃P2,iP (bK.bI ⟨p9,qb,qc,xM,lA2,qd,qg,qh⟩) qh=P2:=⟨_,rfl⟩
 simp only[hP2]at BL jo Fg
 obtain⟨t2,ht2⟩:∃s:ByteArray,⟨P2.toArray⟩=s:=⟨_,rfl⟩
 have hsz2:t2.size=P2.length:=by rw[← ht2];exact List.size_toArray
 have p8:=hide (fun w (h:dF w)=>show Calls Tryd.prog 5 #[.string t2] w (rF P2 w)from by rw[← ht2];exact oI P2 w (by omega) h)
 simp only[ht2,bK.val]at BL
 obtain⟨DN,htl⟩:∃tl,P2.length=tl:=⟨_,rfl⟩
 simp only[htl]at jo hsz2 Fg
 have x0:w6.cell? ⟨X,0,none⟩=some (.slice p9 qb qc):=gB.out.get 0 _ rfl
 have x1:w6.cell? ⟨X,1,none⟩=some (.slice lA2 qd qg):=gB.out.get 1 _ rfl
 rw[iV]at x0 x1
 clear hb5 hb6 mD hd5 hl5 hpt hP2 ht2 htl hE2 hS hr qZ
 simp only[bK.val]
 go_wp2_with fail
 rw[← iV]
 refine BL.out.mono ?_
 rintro e w7 ⟨rfl,om⟩
 have dx:=hide (gB.out.below om)
 have JI:=gB.out.lt
 have bM:=hide (dR.out.trans (om.mono (by have:=dR.out.size;omega)))
 have Im:=hide (qY.out.below om om.size)
 have vC:=hide (HM.out.below (show Below W.heap.size W w7 from by rw[hB];exact bM.out))
 clear om BL x0 x1 iV gB dR qY zH E5 Fa tV zI Gm
 rcases jo.out with⟨htl,hr⟩ | ⟨htl,hr⟩
 ·have HR:=hide hr
  have d1:decide (4096<DN)=true:=decide_eq_true htl
  have d3:decide ((4096:Int)<(DN:Int))=true:=decide_eq_true (by omega)
  clear hr jo
  go_wp2_with fail
  refine(p8.out _ vC.out).mono ?_
  rintro e w5 ⟨hb5,⟨kN,ku,kP,ds',kQ,kR,kS,ls'⟩,he,mD,hd5,hl5⟩
  rw[HR.out]at he hd5 hl5
  simp only[bK.val]at he
  subst he
  obtain⟨Z,hZ⟩:∃Z,w5.heap.size=Z:=⟨_,rfl⟩
  obtain⟨w6,iV⟩:∃w6,w6=w5.alloc (.cells #[.slice kN ku kP,.slice kQ kR kS] 25):=⟨_,rfl⟩
  have hb6:=below_alloc2 w5 (.cells #[.slice kN ku kP,.slice kQ kR kS] 25)
  rw[← iV]at hb6
  have xL:=hide (show Bx w6 Z #[.slice kN ku kP,.slice kQ kR kS] 25 from by rw[iV,← hZ];exact Bx.new w5 _ _)
  have qY:=hide (mD.below hb6 hb6.size)
  have kH:=hb5.trans (hb6.mono hb5.size)
  have HD6:=hide (And.intro hd5 hl5)
  clear mD hb5 hb6 hd5 hl5
  have aR:=hide (bM.out.trans (kH.mono (by have:=bM.out.size;omega)))
  rw[iV]at aR
  clear iV kH
  go_wp2_with fail
  go_ret
  exact⟨rfl,aR.out⟩
 ·have HR:=hide hr
  have d1:decide (4096<DN)=false:=decide_eq_false (by omega)
  have d3:decide ((4096:Int)<(DN:Int))=false:=decide_eq_false (by omega)
  clear hr jo
  go_wp2_with fail
  refine(p8.out _ vC.out).mono ?_
  rintro e w5 ⟨hb5,⟨kN,ku,kP,ds',kQ,kR,kS,ls'⟩,he,mD,hd5,hl5⟩
  rw[HR.out]at he hd5 hl5
  simp only[bK.val]at he
  subst he
  obtain⟨Z,hZ⟩:∃Z,w5.heap.size=Z:=⟨_,rfl⟩
  obtain⟨w6,iV⟩:∃w6,w6=w5.alloc (.cells #[.slice kN ku kP,.slice kQ kR kS] 25):=⟨_,rfl⟩
  have hb6:=below_alloc2 w5 (.cells #[.slice kN ku kP,.slice kQ kR kS] 25)
  rw[← iV]at hb6
  have xL:=hide (show Bx w6 Z #[.slice kN ku kP,.slice kQ kR kS] 25 from by rw[iV,← hZ];exact Bx.new w5 _ _)
  have qY:=hide (mD.below hb6 hb6.size)
  have kH:=hb5.trans (hb6.mono hb5.size)
  have HD6:=hide (And.intro hd5 hl5)
  clear mD hb5 hb6 hd5 hl5
  have aR:=hide (bM.out.trans (kH.mono (by have:=bM.out.size;omega)))
  have aC:=hide (dx.out.below kH)
  have BK:=hide (qX ⟨p9,qb,qc,xM,lA2,qd,qg,qh⟩ ⟨kN,ku,kP,ds',kQ,kR,kS,ls'⟩ w6 ⟨Im.out.below kH kH.size,qY.out,HD6.out.1.symm,HD6.out.2.symm⟩)
  simp only[bK.val]at BK
  have y0:w6.cell? ⟨X,0,none⟩=some (.slice p9 qb qc):=aC.out.get 0 _ rfl
  have y1:w6.cell? ⟨X,1,none⟩=some (.slice lA2 qd qg):=aC.out.get 1 _ rfl
  have z0:w6.cell? ⟨Z,0,none⟩=some (.slice kN ku kP):=xL.out.get 0 _ rfl
  have z1:w6.cell? ⟨Z,1,none⟩=some (.slice kQ kR kS):=xL.out.get 1 _ rfl
  rw[iV]at y0 y1 z0 z1
  clear kH
  go_wp2_with fail
  rw[← iV]
  refine BK.out.mono ?_
  rintro e w8 ⟨rfl,Gn⟩
  have eH:=hide (aR.out.trans (Gn.mono (by have:=aC.out.lt;have:=aR.out.size;omega)))
  clear iV y0 y1 z0 z1 Gn
  go_wp2_with fail
  go_ret
  exact⟨rfl,eH.out⟩
open Go.ChangeAt Go.ChangeShapes Go.Maps Go.WideShapes
theorem CW {w:World} {b o:Nat} {v:Value} (h:w.cell? ⟨b,o,none⟩=some v):b<w.heap.size:=by
 unfold World.cell? at h
 by_cases hb:b<w.heap.size
 ·exact hb
 ·simp[Array.getElem?_eq_none (Nat.le_of_not_lt hb)]at h
theorem xO {W:World} (h:W.ShapedOpen Tryd.prog):dF W:=by
 obtain⟨m,e⟩:=Go.Proofs.cell_of_shapedOpen_int (g:=0) (zero:=#[.int .i64 0]) (t:=3) h (of_decide_eq_true (by kernel_rfl)) (by kernel_rfl) rfl (by kernel_rfl) (by kernel_rfl) Tryd.underlying3
 exact⟨CW e,m,e⟩
end Go.Proofs.YtifkacnoiocebaaDoor
