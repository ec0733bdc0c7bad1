/- A part of the proof: Vd4, Sw3, Sw1, Sw2, Sw4. -/
import Derived.Test.YtifkacnoiocebaaGreatDz16
set_option linter.unusedVariables false
set_option linter.unusedSimpArgs false
set_option maxRecDepth 100000
set_option maxHeartbeats 8000000
namespace Go.Proofs.YtifkacnoiocebaaGreat
open Go.Maps Go.RowKit
theorem Iq (x:ak) (nm:ByteArray) (k:Nat) (w:World) (hk:k<w.heap.size) (h0:w.cell? ⟨k,0,none⟩=some (.string nm)):
  Calls Tryz.prog 142 (#[x.val]++#[.pointer (some ⟨k,0,none⟩)]) w fun e W'=>e= .returned (.bool (decide (x.kind=1) && dQ x.name nm))∧Below w.heap.size w W':=by
 have hne:k≠w.heap.size:=by omega
 obtain⟨xn,xk,xa,xp,bA,bn,bc,bs,rA,rn,rc,rs,tA,tn,tc,ts⟩:=x
 show Calls Tryz.prog 142 #[.agg #[.string xn,.int .i64 xk,.int .i64 xa,.int .u8 xp,.slice bA bn bc,.slice rA rn rc,.slice tA tn tc],.pointer (some ⟨k,0,none⟩)] w _
 have HB:=hide (fun o=>show Below w.heap.size w (w.alloc o)from(Below.refl _ _).alloc (Nat.le_refl _) _)
 have hk1:∀o,(w.alloc o).cell? ⟨k,0,none⟩=some (.string nm):=fun o=>(((Below.refl _ _).alloc (Nat.le_refl _) o).cell (p:=⟨k,0,none⟩) hk).trans h0
 by_cases ek:xk=1
 ·subst ek
  by_cases e:xn.toList=nm.toList
  all_goals
   go_enter Tryz.func142,Tryz.ntmps142
   go_wp2
   go_ret
   exact⟨bX (by simp[dQ,e]),HB.out _⟩
 ·have ek2:(xk ==1)=false:=by simpa using ek
  go_enter Tryz.func142,Tryz.ntmps142
  go_wp2
  go_ret
  exact⟨bX (by simp[ek]),HB.out _⟩
def lS (nm:ByteArray) (d:Dev):Bool:=decide (d.kind=1) && dQ d.name nm
def dK (nm:ByteArray) (ds:List Dev):Int:=jy (lS nm) ds
theorem DK {α β:Type} (f:α→β) (p:β→Bool) (l:List α):jy (fun a=>p (f a)) l=jy p (l.map f):=by
 unfold jy
 rw[List.findIdx?_map]
 rfl
theorem zI (nm:ByteArray) (ds:List Dev):dK nm ds= -1∨∃k:Nat,dK nm ds=(k:Int)∧k<ds.length:=by
 rcases nC (lS nm) ds with⟨k,r,h1,h2,_⟩ | h
 ·exact .inr ⟨k,h1,h2⟩
 ·exact .inl h.1
theorem NA (n:aC) (nm:ByteArray) (W:World) (hn:bq W W.heap.size n) (hd:n.dn≤10):
  Calls Tryz.prog 127 #[n.val,.string nm] W fun e W'=>e= .returned (.int .i64 (dK nm n.au))∧Below W.heap.size W W':=by
 have rX:=hide (fun(w':World) (hb:Below W.heap.size W w')=>show bq w' w'.heap.size n from hn.below hb hb.size)
 clear hn
 obtain⟨dA,dn,dc,ds,lA,ln,lc,ls⟩:=n
 simp only[aC.val,aC.au]at*
 have HID:=hide (show jy (fun d:ak=>decide (d.kind=1) && dQ d.name nm) ds=dK nm (ds.map ak.dev)from DK ak.dev (lS nm) ds)
 go_enter Tryz.func127,Tryz.ntmps127
 go_wp2_with fail
 have hb2:=(below_alloc2 W (.cells #[.slice dA dn dc,.slice lA ln lc] 25)).trans ((below_alloc2 (W.alloc (.cells #[.slice dA dn dc,.slice lA ln lc] 25)) (.cells #[.string nm] 9)).mono (below_alloc2 W _).size)
 have HB2:=hide hb2
 have bZ:=hide (show Bx ((W.alloc (.cells #[.slice dA dn dc,.slice lA ln lc] 25)).alloc (.cells #[.string nm] 9)) (W.heap.size+1) #[.string nm] 9 from by
  have h:=Bx.new (W.alloc (.cells #[.slice dA dn dc,.slice lA ln lc] 25)) #[.string nm] 9
  simpa using h)
 clear hb2
 generalize World.alloc (World.alloc W _) _=w2 at*
 have jS:=hide ((rX.out w2 HB2.out).ds)
 refine(nJ ds dA dn dc 142 #[.pointer (some ⟨W.heap.size+1,0,none⟩)] (fun d=>decide (d.kind=1) && dQ d.name nm) w2 (by omega) jS.out (fun args w=>by go_simp) (hide (fun r w' hr hw'=>Iq r nm (W.heap.size+1) w' (Nat.lt_of_lt_of_le bZ.out.lt hw'.size) ((bZ.out.below hw').get 0 _ rfl)))).mono ?_
 rintro e w3 ⟨rfl,hb⟩
 rw[HID.out]
 have HB3:=hide (HB2.out.trans (hb.mono HB2.out.size))
 clear hb
 go_wp2
 go_ret
 exact⟨rfl,HB3.out⟩
theorem CV {nm:ByteArray} {ds:List Dev} {k:Nat} {d:Dev} (hd:ds[k]?=some d) (hy:lS nm d=true) (hl:∀j e,j<k→ds[j]?=some e→lS nm e=false):dK nm ds=(k:Int):=by
 rcases nC (lS nm) ds with⟨j,r,h1,h2,h3,h4,h5⟩ | h
 ·unfold dK
  rw[h1]
  rcases Nat.lt_trichotomy j k with hl' | hl' | hl'
  ·rw[hl j r hl' h3]at h4;cases h4
  ·rw[hl']
  ·rw[h5 k d hl' hd]at hy;cases hy
 ·rw[h.2 d (List.mem_of_getElem? hd)]at hy;cases hy
theorem NC {nm:ByteArray} {ds:List Dev} (hl:∀j e,j<ds.length→ds[j]?=some e→lS nm e=false):dK nm ds= -1:=by
 rcases nC (lS nm) ds with⟨j,r,h1,h2,h3,h4,h5⟩ | h
 ·rw[hl j r h2 h3]at h4;cases h4
 ·exact h.1
theorem ND (n:aC) (nm:ByteArray) (W:World) (hn:bq W W.heap.size n) (hd:n.dn≤10):
  Calls Tryz.prog 17 #[n.val,.string nm] W fun e W'=>e= .returned (.int .i64 (dK nm n.au))∧RowKit.Below W.heap.size W W':=by
 have HN:=hide hn
 have hb1:=below_alloc2 W (.cells #[.slice n.dA n.dn n.dc,.slice n.lA n.ln n.lc] 25)
 have HB1:=hide hb1
 have HX:=hide (Bx.new W #[.slice n.dA n.dn n.dc,.slice n.lA n.ln n.lc] 25)
 have jd:=hide (show n.au.length=n.dn from by simp only[aC.au,List.length_map];exact hn.iK)
 have hcd:=hn.cd
 simp only[aC.val,maxLen]at*
 clear hn hb1
 go_enter Tryz.func17,Tryz.ntmps17
 go_wp2_with fail
 generalize World.alloc W _=W1 at*
 have Eu:=hide (HN.out.below HB1.out (Nat.le_refl _))
 go_loopw [5] (fun iv wr=>∃i:Nat,i≤n.dn∧iv= .int .i64 (i:Int)∧Hid (wr=W1)∧Hid (∀j e,j<i→n.au[j]?=some e→lS nm e=false)) (fun iv _=>n.dn - (intOf iv).toNat)
 case atStart=>exact⟨0,Nat.zero_le _,rfl,hide rfl,hide (fun j e h=>absurd h (Nat.not_lt_zero _))⟩
 case round=>
  obtain⟨i,hi,rfl,hw,HL⟩:=hrel
  obtain rfl:=hw.out
  clear hw
  have x0:wr.cell? ⟨W.heap.size,0,none⟩=some (.slice n.dA n.dn n.dc):=HX.out.get 0 _ rfl
  by_cases hil:i<n.dn
  case neg=>
   obtain rfl:i=n.dn:=by omega
   have HR:=hide (NC (nm:=nm) (ds:=n.au) (fun j e h=>HL.out j e (by rw[← jd.out];exact h)))
   go_wp2_with fail
   go_ret
   exact⟨by rw[HR.out];rfl,HB1.out⟩
  case pos=>
   obtain⟨r,hr⟩:∃r,n.ds[i]?=some r:=⟨_,List.getElem?_eq_getElem (by have:=HN.out.iK;omega)⟩
   have oO:=hide (show n.au[i]?=some r.dev from by simp only[aC.au,List.getElem?_map,hr,Option.map_some])
   obtain⟨db,j6,gK,_,_⟩:=Eu.out.ds.2 (by omega)
   have hq:=fP (gK▸Eu.out.ds) hr
   have q0:=hq.2.1
   have q1:=hq.2.2.1
   rw[gK]at x0
   have hii:(i:Int)<n.dn:=by omega
   clear hq hr gK
   obtain⟨rn,rk,ra,rp,bA,bn,bc,bs,rA,rnn,rc,rs,tA,tn,tc,ts⟩:=r
   simp only at q0 q1
   by_cases ek:rk=1
   case neg=>
    have ek2:(rk ==1)=false:=by simpa using ek
    have HL2:=hide (show∀j e,j<i+1→n.au[j]?=some e→lS nm e=false from fun j e h he=>by
     rcases Nat.lt_or_ge j i with hl | hl
     ·exact HL.out j e hl he
     ·obtain rfl:j=i:=by omega
      obtain rfl:=Option.some.inj (oO.out.symm.trans he)
      simp[lS,ak.dev,ek])
    go_wp2_with fail
    go_roundw
    case rel=>exact⟨i+1,by omega,by go_num,(by first | exact hide rfl | exact hide trivial),HL2⟩
    case measure=>simp[intOf];omega
   case pos=>
    subst ek
    by_cases e:rn.toList=nm.toList
    case neg=>
     have e2:(rn.toList ==nm.toList)=false:=by simpa using e
     have HL2:=hide (show∀j e,j<i+1→n.au[j]?=some e→lS nm e=false from fun j d h he=>by
      rcases Nat.lt_or_ge j i with hl | hl
      ·exact HL.out j d hl he
      ·obtain rfl:j=i:=by omega
       obtain rfl:=Option.some.inj (oO.out.symm.trans he)
       simp[lS,ak.dev,dQ,e])
     go_wp2_with fail
     go_roundw
     case rel=>exact⟨i+1,by omega,by go_num,(by first | exact hide rfl | exact hide trivial),HL2⟩
     case measure=>simp[intOf];omega
    case pos=>
     have e2:(rn.toList ==nm.toList)=true:=by simpa using e
     have HR:=hide (CV (nm:=nm) oO.out (by simp[lS,ak.dev,dQ,e]) HL.out)
     go_wp2_with fail
     go_ret
     exact⟨by rw[HR.out];rfl,HB1.out⟩
open Go.WideElems
theorem SG (a:Int) (W:World):Calls Tryz.prog 137 #[.int .i64 a] W fun e W'=>e= .returned (.bool false)∧W=W':=by
 go_enter Tryz.func137,Tryz.ntmps137
 go_wp2
 go_ret
 exact⟨by simp,rfl⟩
theorem Bf (a b:Int) (W:World):Calls Tryz.prog 111 #[.int .i64 a,.int .i64 b] W fun e W'=>e= .returned (.bool (decide (a<b)))∧W=W':=by
 have jS:=hide (SG a W)
 go_enter Tryz.func111,Tryz.ntmps111
 go_wp2_with fail
 refine jS.out.mono ?_
 rintro e w1 ⟨rfl,rfl⟩
 by_cases h:a<b
 all_goals
  go_wp2
  go_ret
  exact⟨bX (by simp[h]),rfl⟩
theorem NG (x:Nat) (hx:x≤12) (W:World):Calls Tryz.prog 115 #[.int .u64 (x:Int)] W fun e W'=>(∃v:Int,e= .returned (.int .i64 v))∧W=W':=by
 rcases(by omega:x=0∨x=1∨x=2∨x=3∨x=4∨x=5∨x=6∨x=7∨x=8∨x=9∨x=10∨x=11∨x=12)with rfl | rfl | rfl | rfl | rfl | rfl | rfl | rfl | rfl | rfl | rfl | rfl | rfl
 all_goals
  go_enter Tryz.func115,Tryz.ntmps115
  go_wp2
  go_ret
  exact⟨⟨_,rfl⟩,rfl⟩
theorem SH (x:Nat) (hx:x≤12) (W:World):Calls Tryz.prog 80 #[.int .u64 (x:Int)] W fun e W'=>(∃v:Int,e= .returned (.int .i64 v))∧W=W':=by
 have HL:=hide (NG x hx W)
 go_enter Tryz.func80,Tryz.ntmps80
 go_wp2_with fail
 refine HL.out.mono ?_
 rintro e w1 ⟨⟨v,rfl⟩,rfl⟩
 go_wp2
 go_ret
 exact⟨⟨_,rfl⟩,rfl⟩
def Bg (L:List Nat) (i:Nat):Prop:=∀a b x y,a<b→b<i→L[a]?=some x→L[b]?=some y→x≤y
structure yN (L:List Nat) (i j:Nat):Prop where
 o:∀a b x y,a<b→b≤i→a≠j→b≠j→L[a]?=some x→L[b]?=some y→x≤y
 u:∀b x y,j<b→b≤i→L[j]?=some x→L[b]?=some y→x≤y
theorem yN.start {L:List Nat} {i:Nat} (h:Bg L i):yN L i i:=
 ⟨fun a b x y h1 h2 _ h4 h5 h6=>h a b x y h1 (by omega) h5 h6,fun b x y h1 h2=>by omega⟩
theorem yN.zero {L:List Nat} {i:Nat} (h:yN L i 0):Bg L (i+1):=fun a b x y h1 h2 h5 h6=>by
 by_cases e:a=0
 ·subst e
  exact h.u b x y h1 (by omega) h5 h6
 ·exact h.o a b x y h1 (by omega) e (by omega) h5 h6
theorem yN.stop {L:List Nat} {i j x x':Nat} (h:yN L i (j+1)) (hj:j+1≤i) (hx:L[j+1]?=some x) (hx':L[j]?=some x') (hn:¬x<x'):Bg L (i+1):=fun a b u v h1 h2 h5 h6=>by
 by_cases e:a=j+1
 ·subst e
  exact h.u b u v h1 (by omega) h5 h6
 ·by_cases e2:b=j+1
  ·subst e2
   obtain rfl:x=v:=Option.some.inj (hx.symm.trans h6)
   by_cases e3:a=j
   ·subst e3
    obtain rfl:x'=u:=Option.some.inj (hx'.symm.trans h5)
    omega
   ·have:=h.o a j u x' (by omega) (by omega) e (by omega) h5 hx'
    omega
  ·exact h.o a b u v h1 (by omega) e e2 h5 h6
theorem yN.swap {L:List Nat} {i j x x':Nat} (h:yN L i (j+1)) (hj:j+1≤i) (hx:L[j+1]?=some x) (hx':L[j]?=some x') (hl:x<x'):yN ((L.set (j+1) x').set j x) i j:=by
 have hl1:=(List.getElem?_eq_some_iff.1 hx).1
 have g:∀a u,a≠j→a≠j+1→((L.set (j+1) x').set j x)[a]?=some u→L[a]?=some u:=fun a u h1 h2 hu=>by
  rw[List.getElem?_set_ne (by omega),List.getElem?_set_ne (by omega)]at hu
  exact hu
 have g1:∀u,((L.set (j+1) x').set j x)[j+1]?=some u→u=x':=fun u hu=>by
  rw[List.getElem?_set_ne (by omega),List.getElem?_set_self (by omega)]at hu
  exact(Option.some.inj hu).symm
 have g0:∀u,((L.set (j+1) x').set j x)[j]?=some u→u=x:=fun u hu=>by
  rw[List.getElem?_set_self (by simp;omega)]at hu
  exact(Option.some.inj hu).symm
 refine⟨fun a b u v h1 h2 h3 h4 h5 h6=>?_,fun b u v h1 h2 h5 h6=>?_⟩
 ·by_cases e:a=j+1
  ·subst e
   rw[g1 u h5]
   exact h.o j b x' v (by omega) h2 (by omega) (by omega) hx' (g b v h4 (by omega) h6)
  ·by_cases e2:b=j+1
   ·subst e2
    rw[g1 v h6]
    exact h.o a j u x' (by omega) (by omega) e (by omega) (g a u h3 e h5) hx'
   ·exact h.o a b u v h1 h2 e e2 (g a u h3 e h5) (g b v h4 e2 h6)
 ·rw[g0 u h5]
  by_cases e:b=j+1
  ·subst e
   rw[g1 v h6]
   omega
  ·exact h.u b x v (by omega) h2 hx (g b v (by omega) e h6)
theorem Qm {L:List Nat} {j x x':Nat} (hx:L[j+1]?=some x) (hx':L[j]?=some x'):((L.set (j+1) x').set j x).Perm L:=by
 obtain⟨h1,rfl⟩:=List.getElem?_eq_some_iff.1 hx
 obtain⟨h2,rfl⟩:=List.getElem?_eq_some_iff.1 hx'
 exact List.set_set_perm h1 h2
theorem Bh (L:List Nat) (j x:Nat):intCells (L.set j x)=(intCells L).set j (.int .i64 (x:Int)):=by
 unfold intCells
 rw[List.map_set]
theorem sF {L:List Nat} {j x:Nat} (h:L[j]?=some x):(intCells L)[j]?=some (.int .i64 (x:Int)):=by
 unfold intCells
 rw[List.getElem?_map,h]
 rfl
structure kI (w0:World) (base g n c:Nat) (L0 L:List Nat) (w:World):Prop where
 own:w.ownsRow base 3 1 (.slice (some ⟨g,0,none⟩) n c) n (intCells L)
 gr:w0.grownBy w (some g)
 sz:w.heap.size=w0.heap.size
 pm:L.Perm L0
theorem grownBy_drew (w:World) (row:Option Nat):w.grownBy w.drew row:=⟨rfl,rfl,rfl,Nat.le_refl _,fun _ _ _=>rfl⟩
theorem kI.drew {w0 w:World} {base g n c:Nat} {L0 L:List Nat} (h:kI w0 base g n c L0 L w):kI w0 base g n c L0 L w.drew:=
 ⟨cZ h.own (fun _ _=>rfl),h.gr.trans (grownBy_drew w _),h.sz,h.pm⟩
theorem kI.drewN {w0 w:World} {base g n c:Nat} {L0 L:List Nat} (h:kI w0 base g n c L0 L w) (k:Nat):kI w0 base g n c L0 L (w.drewN k):=
 ⟨cZ h.own (fun _ _=>rfl),h.gr.trans ⟨rfl,rfl,rfl,Nat.le_refl _,fun _ _ _=>rfl⟩,h.sz,h.pm⟩
theorem kI.cell {w0 w:World} {base g n c:Nat} {L0 L:List Nat} (h:kI w0 base g n c L0 L w) {j x:Nat} (hj:L[j]?=some x):w.cell? ⟨g,j,none⟩=some (.int .i64 (x:Int)):=by
 have hl:L.length=n:=by have:=h.own.1;simpa[intCells]using this
 rw[h.own.cellAt j (by have:=(List.getElem?_eq_some_iff.1 hj).1;omega)]
 exact sF hj
theorem kI.swap {w0 w:World} {base g n c:Nat} {L0 L:List Nat} (h:kI w0 base g n c L0 L w) {j x x':Nat} (hx:L[j+1]?=some x) (hx':L[j]?=some x'):kI w0 base g n c L0 ((L.set (j+1) x').set j x) ((w.setCell ⟨g,j+1,none⟩ (.int .i64 (x':Int))).setCell ⟨g,j,none⟩ (.int .i64 (x:Int))):=by
 obtain⟨h1,g1⟩:=h.own.stored (j+1) (.int .i64 (x':Int))
 obtain⟨h2,g2⟩:=h1.stored j (.int .i64 (x:Int))
 refine⟨?_,h.gr.trans (g1.trans g2),by rw[size_setCell,size_setCell];exact h.sz,(Qm hx hx').trans h.pm⟩
 rw[Bh,Bh]
 exact h2
theorem SI (w0:World) (base g n c:Nat) (L:List Nat) (h:w0.ownsRow base 3 1 (.slice (some ⟨g,0,none⟩) n c) n (intCells L)) (hn:n≤12) (hc:n≤c):
  Calls Tryz.prog 105 #[.slice (some ⟨g,0,none⟩) n c,.int .i64 0,.int .i64 (n:Int)] w0 fun e w'=>e= .returned (.tuple #[])∧∃L',kI w0 base g n c L L' w'∧Bg L' n:=by
 have j4:=hide (show kI w0 base g n c L L w0 from⟨h,⟨rfl,rfl,rfl,Nat.le_refl _,fun _ _ _=>rfl⟩,rfl,List.Perm.refl _⟩)
 have hlen:L.length=n:=by have:=h.1;simpa[intCells]using this
 have Bc:=hide hlen
 clear h hlen
 go_enter Tryz.func105,Tryz.ntmps105
 go_wp2_with fail
 go_loopw [6] (fun iv wr=>∃i:Nat,1≤i∧i≤n+1∧iv= .int .i64 (i:Int)∧∃L',Hid (kI w0 base g n c L L' wr∧Bg L' i)) (fun iv _=>n+1 - (intOf iv).toNat)
 case atStart=>exact⟨1,Nat.le_refl _,by omega,rfl,L,hide ⟨j4.out,fun a b x y h1 h2=>by omega⟩⟩
 case round=>
  clear j4
  obtain⟨i,hi1,hi2,rfl,L1,HR⟩:=hrel
  by_cases hil:i<n
  case neg=>
   have HF:=hide (show∃L',kI w0 base g n c L L' wr∧Bg L' n from⟨L1,HR.out.1,fun a b x y h1 h2=>HR.out.2 a b x y h1 (by omega)⟩)
   go_wp2_with fail
   go_end0
   exact⟨rfl,HF.out⟩
  case pos=>
   go_wp2_with fail
   go_loopw [7] (fun jv wr=>∃j:Nat,j≤i∧jv= .int .i64 (j:Int)∧∃L',Hid (kI w0 base g n c L L' wr∧yN L' i j)) (fun jv _=>(intOf jv).toNat)
   case atStart=>exact⟨i,Nat.le_refl _,rfl,L1,hide ⟨HR.out.1,yN.start HR.out.2⟩⟩
   case round=>
    clear HR
    obtain⟨j,hj,rfl,L2,HR⟩:=hrel
    have HL2:=hide (show L2.length=n from by rw[HR.out.1.pm.length_eq];exact Bc.out)
    by_cases hj0:0<j
    case neg=>
     obtain rfl:j=0:=by omega
     have HN:=hide (fun k=>show kI w0 base g n c L L2 (wr.drewN k)∧Bg L2 (i+1)from⟨HR.out.1.drewN k,HR.out.2.zero⟩)
     clear HR
     simp only[Int.natCast_zero]
     go_wp2_with fail
     go_quiet (fail)
     go_wp2_with fail
     go_roundw
     case rel=>exact⟨i+1,by omega,by omega,by go_num,L2,hide (HN.out _)⟩
     case measure=>simp[intOf];omega
    case pos=>
     obtain⟨k,rfl⟩:∃k,j=k+1:=⟨j - 1,by omega⟩
     obtain⟨x,hx⟩:∃x,L2[k+1]?=some x:=⟨_,List.getElem?_eq_getElem (by have:=HL2.out;omega)⟩
     obtain⟨x',hx'⟩:∃x',L2[k]?=some x':=⟨_,List.getElem?_eq_getElem (by have:=HL2.out;omega)⟩
     have HX:=hide (And.intro hx hx')
     clear hx hx'
     have hkn:(k:Int)+1<n:=by omega
     have hk1:(((k+1:Nat):Int))=(k:Int)+1:=by omega
     simp only[hk1]
     clear hk1
     have c0:wr.cell? ⟨g,k,none⟩=some (.int .i64 (x':Int)):=HR.out.1.cell HX.out.2
     have c1:wr.cell? ⟨g,k+1,none⟩=some (.int .i64 (x:Int)):=HR.out.1.cell HX.out.1
     have hcn:(k:Int)+1<n:=hkn
     go_wp2_with fail
     by_cases hlt:x<x'
     case neg=>
      have hd:decide ((x:Int)<(x':Int))=false:=by simp;omega
      have HN:=hide (fun m=>show kI w0 base g n c L L2 (wr.drewN m)∧Bg L2 (i+1)from⟨HR.out.1.drewN m,HR.out.2.stop hj HX.out.1 HX.out.2 hlt⟩)
      clear HR
      go_quiet ((go_at_call 111;exact bJ (Bf _ _ _)))
      go_wp2_with fail
      go_roundw
      case rel=>exact⟨i+1,by omega,by omega,by go_num,L2,hide (HN.out _)⟩
      case measure=>simp[intOf];omega
     case pos=>
      have hd:decide ((x:Int)<(x':Int))=true:=by simp;omega
      have HN:=hide (fun m=>show kI w0 base g n c L L2 (wr.drewN m)∧yN L2 i (k+1)from⟨HR.out.1.drewN m,HR.out.2⟩)
      clear HR
      go_quiet ((go_at_call 111;exact bJ (Bf _ _ _)))
      go_wp2_with fail
      have qV:=hide (HN.out nq)
      clear HN c0 c1
      generalize World.drewN wr nq=w2 at*
      have c0:w2.cell? ⟨g,k,none⟩=some (.int .i64 (x':Int)):=qV.out.1.cell HX.out.2
      have c1:w2.cell? ⟨g,k+1,none⟩=some (.int .i64 (x:Int)):=qV.out.1.cell HX.out.1
      have f0:w2.frozen? ⟨g,k,none⟩=false:=qV.out.1.own.frozenAt k
      have f1:w2.frozen? ⟨g,k+1,none⟩=false:=qV.out.1.own.frozenAt (k+1)
      have CW:=hide (show kI w0 base g n c L ((L2.set (k+1) x').set k x) ((w2.setCell ⟨g,k+1,none⟩ (.int .i64 (x':Int))).setCell ⟨g,k,none⟩ (.int .i64 (x:Int))).drew ∧yN ((L2.set (k+1) x').set k x) i k from
       ⟨(qV.out.1.swap HX.out.1 HX.out.2).drew,qV.out.2.swap hj HX.out.1 HX.out.2 hlt⟩)
      clear qV
      go_region
      clear c0 c1 f0 f1
      go_wp2_with fail
      go_roundw
      case rel=>exact⟨k,by omega,by go_num,_,CW⟩
      case measure=>first | (simp[intOf];done) | (simp[intOf];omega)
theorem SK {w0:World} {base g n c:Nat} {L:List Nat} (h:w0.ownsRow base 3 1 (.slice (some ⟨g,0,none⟩) n c) n (intCells L)):n≤c∧c≤maxLen:=by
 rcases h.2 with⟨e,_⟩ | ⟨g',cap,cur,e,_,_,h1,h2,_⟩
 ·cases e
 ·simp only[Value.slice.injEq]at e
  obtain⟨_,_,rfl⟩:=e
  exact⟨h1,h2⟩
theorem SL (w0:World) (base g n c:Nat) (lim:Int) (L:List Nat) (h:w0.ownsRow base 3 1 (.slice (some ⟨g,0,none⟩) n c) n (intCells L)) (hn:n≤12):
  Calls Tryz.prog 79 #[.slice (some ⟨g,0,none⟩) n c,.int .i64 0,.int .i64 (n:Int),.int .i64 lim] w0 fun e w'=>e= .returned (.tuple #[])∧∃L',kI w0 base g n c L L' w'∧Bg L' n:=by
 have HI:=hide (SI w0 base g n c L h hn (SK h).1)
 clear h
 go_enter Tryz.func79,Tryz.ntmps79
 go_wp2_with fail
 go_loopw [1,2] (fun av bv wr=>av= .int .i64 0∧bv= .int .i64 (n:Int)∧Hid (wr=w0)) (fun _ _ _=>0)
 case atStart=>exact⟨rfl,rfl,hide rfl⟩
 case round=>
  obtain⟨rfl,rfl,hw⟩:=hrel
  obtain rfl:=hw.out
  go_wp2_with fail
  refine HI.out.mono ?_
  rintro e w1 ⟨rfl,hh⟩
  have HH:=hide hh
  clear hh
  go_wp2_with fail
  exact bodyPost_ret (results_none (by rfl) _ _ _) rfl ⟨rfl,HH.out⟩
theorem Qn (w0:World) (base g n c:Nat) (L:List Nat) (h:w0.ownsRow base 3 1 (.slice (some ⟨g,0,none⟩) n c) n (intCells L)) (hn:n≤12):
  Calls Tryz.prog 47 #[.slice (some ⟨g,0,none⟩) n c] w0 fun e w'=>e= .returned (.tuple #[])∧∃L',kI w0 base g n c L L' w'∧Bg L' n:=by
 have HL:=hide (SH n hn w0)
 have HP:=hide (fun lim=>SL w0 base g n c lim L h hn)
 clear h
 go_enter Tryz.func47,Tryz.ntmps47
 go_wp2_with fail
 refine HL.out.mono ?_
 rintro e w1 ⟨⟨v,rfl⟩,rfl⟩
 go_wp2_with fail
 refine(HP.out v).mono ?_
 rintro e w2 ⟨rfl,hh⟩
 have HH:=hide hh
 clear hh
 go_wp2_with fail
 go_end0
 exact⟨rfl,HH.out⟩
end Go.Proofs.YtifkacnoiocebaaGreat
namespace Go.Proofs.YtifkacnoiocebaaGreat
open Go.Maps Go.RowKit
def Closed (ls:List ah) (v:Nat→Bool):Prop:=∀l∈ls,v l.a.toNat=v l.b.toNat
theorem CX (ls:List ah):∀(v:Nat→Bool) (i:Nat),v i=true→ig ls v i=true:=by
 induction ls with
 |nil=>exact fun v i h=>h
 |cons l ls ih=>exact fun v i h=>ih _ i (l9 v l i h)
theorem yO:∀ {ls:List ah} {v:Nat→Bool},ig ls v=v→Closed ls v
 |[],v,_=>fun l h=>by cases h
 |l::ls,v,h=>by
  have h1:ig ls (cO v l)=v:=h
  have h2:cO v l=v:=by
   funext i
   cases e:v i with
   |true=>exact l9 v l i e
   |false=>
    cases e2:cO v l i with
    |false=>rfl
    |true=>
     have:=CX ls _ i e2
     rw[h1,e]at this
     cases this
  rw[h2]at h1
  have h3:v l.a.toNat=v l.b.toNat:=by
   by_cases e:v l.a.toNat=v l.b.toNat
   ·exact e
   ·unfold cO at h2
    rw[if_neg e]at h2
    have ha:=congrFun h2 l.a.toNat
    have hb:=congrFun h2 l.b.toNat
    by_cases e2:l.a.toNat=l.b.toNat
    ·rw[e2]
    ·simp[e2]at ha hb
     rw[ha,hb]
  intro x hx
  rcases List.mem_cons.1 hx with rfl | hx
  ·exact h3
  ·exact yO h1 x hx
theorem WX {ls:List ah} {c:Nat→Bool} (hc:Closed ls c):∀ {v:Nat→Bool},(∀i,v i=true→c i=true)→∀i,ig ls v i=true→c i=true:=by
 induction ls with
 |nil=>exact fun hv i h=>hv i h
 |cons l ls ih=>
  intro v hv i h
  refine ih (fun x hx=>hc x (List.mem_cons_of_mem _ hx)) (v:=cO v l) (fun j hj=>?_) i h
  have hl:=hc l List.mem_cons_self
  unfold cO at hj
  split at hj
  ·exact hv j hj
  ·rename_i hne
   have hor:c l.a.toNat=true:=by
    cases e1:v l.a.toNat with
    |true=>exact hv _ e1
    |false=>
     cases e2:v l.b.toNat with
     |true=>rw[hl];exact hv _ e2
     |false=>rw[e1,e2]at hne;exact absurd rfl hne
   simp only at hj
   by_cases a1:j=l.b.toNat
   ·rw[a1,← hl];exact hor
   ·rw[if_neg a1]at hj
    by_cases a2:j=l.a.toNat
    ·rw[a2];exact hor
    ·rw[if_neg a2]at hj
     exact hv j hj
theorem jf.least {ls:List ah} {i0:Nat} {v c:Nat→Bool} (h:jf ls i0 v) (hc:Closed ls c) (h0:c i0=true) (i:Nat) (hi:v i=true):c i=true:=by
 obtain⟨_,k,rfl⟩:=h
 have:∀k i,iM ls (fun i=>decide (i=i0)) k i=true→c i=true:=fun k=>by
  induction k with
  |zero=>
   intro i h
   have h1:i=i0:=of_decide_eq_true h
   rw[h1];exact h0
  |succ k ih=>exact fun i h=>WX hc ih i h
 exact this k i hi
theorem jf.host {ls:List ah} {i0:Nat} {v:Nat→Bool} (h:jf ls i0 v):v i0=true:=by
 obtain⟨_,k,rfl⟩:=h
 have:∀k,iM ls (fun i=>decide (i=i0)) k i0=true:=fun k=>by
  induction k with
  |zero=>exact decide_eq_true rfl
  |succ k ih=>exact CX ls _ i0 ih
 exact this k
theorem jf.closed {ls:List ah} {i0:Nat} {v:Nat→Bool} (h:jf ls i0 v):Closed ls v:=yO h.1
structure NL (ls:List ah) (dn i0:Nat) (v:Nat→Bool) (i k:Nat) (N:List Nat):Prop where
 nd:N.Nodup
 hd:i0∈N
 inv:∀x∈N,v x=true
 lt:∀x∈N,x<dn
 done:∀m x,m<i→N[m]?=some x→∀l∈ls,(l.a.toNat=x→l.b.toNat∈N)∧(l.b.toNat=x→l.a.toNat∈N)
 part:∀x,N[i]?=some x→∀q l,q<k→ls[q]?=some l→(l.a.toNat=x→l.b.toNat∈N)∧(l.b.toNat=x→l.a.toNat∈N)
theorem lT {N:List Nat} {dn:Nat} (hn:N.Nodup) (hl:∀x∈N,x<dn):N.length≤dn:=by
 have h1:N ⊆ List.range dn:=fun x hx=>List.mem_range.2 (hl x hx)
 have h2:=nE N (List.range dn) hn h1
 simpa using h2
theorem NL.start {ls:List ah} {dn i0:Nat} {v:Nat→Bool} (h:jf ls i0 v) (hi:i0<dn):NL ls dn i0 v 0 0 [i0]:=
 ⟨by simp,by simp,fun x hx=>by rw[List.mem_singleton.1 hx];exact h.host,fun x hx=>by rw[List.mem_singleton.1 hx];exact hi,fun m x h=>absurd h (Nat.not_lt_zero _),fun x _ q l h=>absurd h (Nat.not_lt_zero _)⟩
theorem NL.row {ls:List ah} {dn i0:Nat} {v:Nat→Bool} {i:Nat} {N:List Nat} (h:NL ls dn i0 v i ls.length N):NL ls dn i0 v (i+1) 0 N:=
 ⟨h.nd,h.hd,h.inv,h.lt,fun m x hm hx l hl=>by
  rcases Nat.lt_or_ge m i with hl' | hl'
  ·exact h.done m x hl' hx l hl
  ·obtain rfl:m=i:=by omega
   obtain⟨q,hq⟩:=List.getElem?_of_mem hl
   exact h.part x hx q l (List.getElem?_eq_some_iff.1 hq).1 hq,fun x _ q l h=>absurd h (Nat.not_lt_zero _)⟩
theorem NL.push {ls:List ah} {dn i0:Nat} {v:Nat→Bool} {i k:Nat} {N:List Nat} (h:NL ls dn i0 v i k N) (hi:i<N.length) {y:Nat} (hy:¬y∈N) (hv:v y=true) (hd:y<dn):NL ls dn i0 v i k (N++[y]):=by
 refine⟨by rw[List.nodup_append];exact⟨h.nd,by simp,fun a ha b hb e=>hy (by rw[List.mem_singleton.1 hb]at e;exact e▸ha)⟩,List.mem_append_left _ h.hd,fun x hx=>?_,fun x hx=>?_,fun m x hm hx l hl=>?_,fun x hx q l hq hl=>?_⟩
 ·rcases List.mem_append.1 hx with a | a
  ·exact h.inv x a
  ·rw[List.mem_singleton.1 a];exact hv
 ·rcases List.mem_append.1 hx with a | a
  ·exact h.lt x a
  ·rw[List.mem_singleton.1 a];exact hd
 ·rw[List.getElem?_append_left (by omega)]at hx
  have:=h.done m x hm hx l hl
  exact⟨fun e=>List.mem_append_left _ (this.1 e),fun e=>List.mem_append_left _ (this.2 e)⟩
 ·rw[List.getElem?_append_left hi]at hx
  have:=h.part x hx q l hq hl
  exact⟨fun e=>List.mem_append_left _ (this.1 e),fun e=>List.mem_append_left _ (this.2 e)⟩
theorem NL.link {ls:List ah} {dn i0:Nat} {v:Nat→Bool} {i k:Nat} {N:List Nat} (h:NL ls dn i0 v i k N) {x:Nat} (hx:N[i]?=some x) {l:ah} (hl:ls[k]?=some l) (h1:l.a.toNat=x→l.b.toNat∈N) (h2:l.b.toNat=x→l.a.toNat∈N):NL ls dn i0 v i (k+1) N:=
 ⟨h.nd,h.hd,h.inv,h.lt,h.done,fun y hy q l' hq hl'=>by
  obtain rfl:x=y:=Option.some.inj (hx.symm.trans hy)
  rcases Nat.lt_or_ge q k with a | a
  ·exact h.part x hx q l' a hl'
  ·obtain rfl:q=k:=by omega
   obtain rfl:l=l':=Option.some.inj (hl.symm.trans hl')
   exact⟨h1,h2⟩⟩
theorem NL.all {ls:List ah} {dn i0:Nat} {v:Nat→Bool} {N:List Nat} (hv:jf ls i0 v) (h:NL ls dn i0 v N.length 0 N) (x:Nat):x∈N↔v x=true:=by
 refine⟨h.inv x,fun hx=>?_⟩
 have hc:Closed ls (fun x=>decide (x∈N)):=fun l hl=>by
  rw[Bool.eq_iff_iff,decide_eq_true_eq,decide_eq_true_eq]
  constructor
  ·intro hm
   obtain⟨m,hm⟩:=List.getElem?_of_mem hm
   exact(h.done m _ (List.getElem?_eq_some_iff.1 hm).1 hm l hl).1 rfl
  ·intro hm
   obtain⟨m,hm⟩:=List.getElem?_of_mem hm
   exact(h.done m _ (List.getElem?_eq_some_iff.1 hm).1 hm l hl).2 rfl
 exact of_decide_eq_true (hv.least hc (decide_eq_true h.hd) x hx)
theorem NH {v:Nat→Bool} {dn:Nat} {N L:List Nat} (hp:L.Perm N) (hs:Bg L L.length) (hn:N.Nodup) (hl:∀x∈N,x<dn) (hm:∀x,x∈N↔v x=true):L=bM v dn:=by
 have hnd:L.Nodup:=hp.nodup_iff.2 hn
 have h1:L.Pairwise (· < ·):=by
  rw[List.pairwise_iff_getElem]
  intro i j hi hj hij
  have h2:=hs i j L[i] L[j] hij hj (List.getElem?_eq_getElem hi) (List.getElem?_eq_getElem hj)
  have h3:L[i]≠L[j]:=fun e=>by
   have:=(List.nodup_iff_pairwise_ne.1 hnd)
   rw[List.pairwise_iff_getElem]at this
   exact this i j hi hj hij e
  omega
 have h2:(bM v dn).Pairwise (· < ·):=List.Pairwise.filter _ List.pairwise_lt_range
 have key:∀(A B:List Nat),A.Pairwise (· < ·)→B.Pairwise (· < ·)→(∀x,x∈A↔x∈B)→A=B:=fun A=>by
  induction A with
  |nil=>
   intro B _ _ h
   cases B with
   |nil=>rfl
   |cons b B=>exact absurd ((h b).2 List.mem_cons_self) (by simp)
  |cons a A ih=>
   intro B hA hB h
   cases B with
   |nil=>exact absurd ((h a).1 List.mem_cons_self) (by simp)
   |cons b B=>
    rw[List.pairwise_cons]at hA hB
    have e:a=b:=by
     rcases List.mem_cons.1 ((h a).1 List.mem_cons_self)with e | e
     ·exact e
     ·rcases List.mem_cons.1 ((h b).2 List.mem_cons_self)with e2 | e2
      ·exact e2.symm
      ·have:=hA.1 b e2
       have:=hB.1 a e
       omega
    subst e
    rw[ih B hA.2 hB.2 (fun x=>?_)]
    constructor
    ·intro hx
     rcases List.mem_cons.1 ((h x).1 (List.mem_cons_of_mem _ hx))with e | e
     ·have:=hA.1 x hx;omega
     ·exact e
    ·intro hx
     rcases List.mem_cons.1 ((h x).2 (List.mem_cons_of_mem _ hx))with e | e
     ·have:=hB.1 x hx;omega
     ·exact e
 refine key L (bM v dn) h1 h2 (fun x=>?_)
 rw[hp.mem_iff,hm x]
 unfold bM
 rw[List.mem_filter,List.mem_range]
 exact⟨fun h=>⟨hl x ((hm x).2 h),h⟩,fun h=>h.2⟩
end Go.Proofs.YtifkacnoiocebaaGreat
