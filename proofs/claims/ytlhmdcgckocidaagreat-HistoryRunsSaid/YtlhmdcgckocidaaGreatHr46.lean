/- wireward/wirekeep.HistoryRuns: whatever is handed in, it returns true, and leaves the input as it reads. -/
import Derived.Test.YtlhmdcgckocidaaGreatHr43
import Derived.Test.YtlhmdcgckocidaaGreatHr45
set_option linter.unusedVariables false
set_option linter.unusedSimpArgs false
set_option maxRecDepth 100000
set_option maxHeartbeats 16000000
namespace Go.Proofs.YtlhmdcgckocidaaGreat
open ak Go.Maps Go.RowKit
theorem QL (a b x y:Nat) (h1:a≤15) (h2:b≤15) (h3:x≤7) (h4:y≤7):aV ⟨(a:Int),(b:Int),(x:Int),(y:Int)⟩=true:=by
 simp only[aV,gq,Bool.and_eq_true,decide_eq_true_eq]
 omega
theorem Ug (c:Nat) (hc:c<16384):aV (pk c)=true:=QL (c / 1024) (c / 64 % 16) (c / 8 % 8) (c % 8) (by omega) (by omega) (by omega) (by omega)
theorem Wv (c:Nat) (hc:c<16384):nH (pk c)=c:=by
 simp only[nH,pk]
 omega
theorem FX.round {ds:List Dev} {ls:List av} {K:Nat} {x:Pl} {m:M4} {p:P4} (h:FX ds ls K x m (some p)):0≤aJ ds ls K x p∧yM m p=true:=by
 obtain⟨k,c,hk,hc,rfl,hh,_⟩:=h
 rw[xJ,Bool.and_eq_true]at hh
 refine⟨?_,hh.2⟩
 unfold aJ
 rw[if_pos (Ug c hc),FN,Wv c hc]
 exact⟨_,List.mem_map.2 ⟨k,List.mem_range.2 (by omega),rfl⟩,hh.1⟩
theorem Uh (ds:List Dev) (ls:List av) (K:Nat) (x:Pl):aJ ds ls K x ⟨-1,0,0,0⟩ <0:=by
 unfold aJ
 rw[if_neg (by decide)]
 decide
structure acK (ds:List Dev) (ls:List av) (l:List bV) (a:Pl) (p:P4) (k:Nat):Prop where
 pos:0<k
 le:k≤l.length
 no:∀j,j<k→¬mG ds ls l a p j
 ok:∀j,j<k→Kg ds ls l j=0
 at_:mG ds ls l a p k
 big:l.length≤2000
theorem Ww {ds:List Dev} {ls:List av} {K:Nat} {a:Pl} {p:P4} {k:Nat} (hE:dD ds ls=0) (h:(kR ds ls K a p).1=true) (hk:V6 ds ls (kR ds ls K a p).2.L a p k):acK ds ls (kR ds ls K a p).2.L a p k:=by
 have hok:=((jy (ds:=ds) (ls:=ls) (aJ ds ls K) (K+2)).ok bP.start a p gI.start).1
 have hha:=R8 hE (aJ ds ls K) (K+2) bP.start a p gI.start h
 have hok':gI ds ls (kR ds ls K a p).2:=hok
 have hend:mG ds ls (kR ds ls K a p).2.L a p (kR ds ls K a p).2.L.length :=by
  unfold mG
  rw[← hok'.z];exact hha
 have h0:¬mG ds ls (kR ds ls K a p).2.L a p 0:=fun e=>by
  unfold mG at e
  cases e
 have hat:mG ds ls (kR ds ls K a p).2.L a p k:=by
  by_cases e:k<(kR ds ls K a p).2.L.length
  ·exact(hk.yes e).2
  ·have:=hk.le
   rw[show k=(kR ds ls K a p).2.L.length by omega];exact hend
 have hpos:0<k:=by
  rcases Nat.eq_zero_or_pos k with e | e
  ·rw[e]at hat;exact absurd hat h0
  ·exact e
 refine⟨hpos,hk.le,fun j hj=>?_,fun j hj=>hok'.c j (by have:=hk.le;omega),hat,hok'.le⟩
 rcases Nat.eq_zero_or_pos j with e | e
 ·rw[e];exact h0
 ·exact hk.no j e hj
theorem I9 (n:aH) (a1 a2:Int) (m:M4) (W:World) (hn:bf W W.heap.size n) (ha:ay a1∧ay a2) (hm:m.ok):
  Calls Tryz.prog 4 #[n.val,.agg #[.int .i64 a1,.int .i64 a2],.agg #[.int .u16 m.src,.int .u16 m.dst,.int .u8 m.ah,.int .u8 m.aj]] W fun e W'=>e= .returned (.bool true)∧RowKit.Below W.heap.size W W':=by
 have HRO:=hide (L8 hn)
 have kD:=hide (fun(w':World) (hb:RowKit.Below W.heap.size W w')=>show bf w' w'.heap.size n from hn.below hb hb.size)
 have RO:=hide (rY hn)
 have yA:=hide ha
 have vS:=hide hm
 clear hn ha hm
 show Calls _ _ #[.agg #[.slice n.dA n.dn n.dc,.slice n.lA n.ln n.lc],_,_] W _
 go_enter Tryz.func4,Tryz.ntmps4
 go_wp2_with fail
 have cK:=hide ((((((BX.none W).al #[.slice n.dA n.dn n.dc,.slice n.lA n.ln n.lc] 25).done).al #[.int .i64 a1,.int .i64 a2] 27).done.al #[.int .u16 m.src,.int .u16 m.dst,.int .u8 m.ah,.int .u8 m.aj] 32).done)
 rw[show((W.alloc (.cells #[.slice n.dA n.dn n.dc,.slice n.lA n.ln n.lc] 25)).alloc (.cells #[.int .i64 a1,.int .i64 a2] 27)).heap.size =W.heap.size+2 by simp,show(W.alloc (.cells #[.slice n.dA n.dn n.dc,.slice n.lA n.ln n.lc] 25)).heap.size =W.heap.size+1 by simp]at cK
 generalize World.alloc (World.alloc (World.alloc W _) _) _=W1 at*
 refine(QJ W1).mono ?_
 rintro e w1 ⟨rfl,hb⟩
 have ab0:=hide (cK.out.below hb)
 clear hb cK
 go_wp2_with fail
 refine(Kn w1).mono ?_
 rintro e w2 ⟨rfl,hb⟩
 have bO:=hide (ab0.out.below hb)
 clear hb ab0
 have c0:w2.cell? ⟨W.heap.size,0,none⟩=some (.slice n.dA n.dn n.dc):=(bO.out.get 2 rfl).1 0 _ rfl
 have c1:w2.cell? ⟨W.heap.size,1,none⟩=some (.slice n.lA n.ln n.lc):=(bO.out.get 2 rfl).1 1 _ rfl
 go_wp2_with fail
 clear c0 c1
 by_cases hE:dD n.au n.ls=0
 case neg=>
  refine(Lc n 40000 w2 (kD.out _ bO.out.bl) (.inl hE)).mono ?_
  have hb0:DV (dD n.au n.ls)≠0:=by unfold DV;split<;>first | exact hE | decide
  obtain⟨E,hEE⟩:∃E,DV (dD n.au n.ls)=E:=⟨_,rfl⟩
  rw[hEE]at hb0 ⊢
  clear hEE hE
  rintro e w7 ⟨hb,rfl⟩
  have uZ:=hide (bO.out.below hb)
  have e2:(E != 0)=true:=by simpa using hb0
  clear hb bO hb0
  go_wp2
  go_ret
  exact⟨gK (by simp),uZ.out.bl⟩
 have HE:=hide hE
 clear hE
 refine(AJ n 40000 w2 (kD.out _ bO.out.bl) HE.out (by omega) (by omega) vM (firstT _ _ _) (fun _=>acJ _ _ _ _)).mono ?_
 rintro e wR ⟨hb,hres⟩
 have Ga:=hide (bO.out.below hb)
 clear hb bO
 rcases hres with⟨NR,K,rfl,hlo⟩ | ⟨A6,rfl,_⟩
 case inr=>
  go_wp2
  go_ret
  exact⟨gK (by simp),Ga.out.bl⟩
 have HRC:=hide hlo.at_
 clear hlo
 have a0:wR.cell? ⟨W.heap.size+1,0,none⟩=some (.int .i64 a1):=(Ga.out.get 1 rfl).1 0 _ rfl
 have Iw:wR.cell? ⟨W.heap.size+1,1,none⟩=some (.int .i64 a2):=(Ga.out.get 1 rfl).1 1 _ rfl
 have m0:wR.cell? ⟨W.heap.size+2,0,none⟩=some (.int .u16 m.src):=(Ga.out.get 0 rfl).1 0 _ rfl
 have m1:wR.cell? ⟨W.heap.size+2,1,none⟩=some (.int .u16 m.dst):=(Ga.out.get 0 rfl).1 1 _ rfl
 have m2:wR.cell? ⟨W.heap.size+2,2,none⟩=some (.int .u8 m.ah):=(Ga.out.get 0 rfl).1 2 _ rfl
 have m3:wR.cell? ⟨W.heap.size+2,3,none⟩=some (.int .u8 m.aj):=(Ga.out.get 0 rfl).1 3 _ rfl
 go_wp2_with fail
 clear a0 Iw m0 m1 m2 m3
 refine(Nk NR n.au n.ls K (a1,a2) yA.out m vS.out wR HRC.out).mono ?_
 rintro e w3 ⟨r,rfl,hfp,hb⟩
 have cu:=hide (Ga.out.below hb)
 have HR3:=hide (HRC.out.below hb)
 have HFP:=hide hfp
 clear hfp hb Ga HRC
 have c0:∀ob,(w3.alloc ob).cell? ⟨W.heap.size,0,none⟩=some (.slice n.dA n.dn n.dc):=fun ob=>((cu.out.below (aC w3 ob)).get 2 rfl).1 0 _ rfl
 have c1:∀ob,(w3.alloc ob).cell? ⟨W.heap.size,1,none⟩=some (.slice n.lA n.ln n.lc):=fun ob=>((cu.out.below (aC w3 ob)).get 2 rfl).1 1 _ rfl
 have a0:∀ob,(w3.alloc ob).cell? ⟨W.heap.size+1,0,none⟩=some (.int .i64 a1):=fun ob=>((cu.out.below (aC w3 ob)).get 1 rfl).1 0 _ rfl
 have Iw:∀ob,(w3.alloc ob).cell? ⟨W.heap.size+1,1,none⟩=some (.int .i64 a2):=fun ob=>((cu.out.below (aC w3 ob)).get 1 rfl).1 1 _ rfl
 cases r with
 |none=>
  simp only[xK]
  go_wp2_with fail
  clear c0 c1 a0 Iw
  have dW:=hide (cu.out.below (aC w3 (.cells #[.int .i64 0,.int .i64 0,.int .i64 0,.int .i64 0] 29)))
  have HR4:=hide (HR3.out.below (aC w3 (.cells #[.int .i64 0,.int .i64 0,.int .i64 0,.int .i64 0] 29)))
  clear cu HR3
  generalize World.alloc w3 _=w4 at*
  refine(Dr n NR K a1 a2 (-1) 0 0 0 w4 (kD.out _ dW.out.bl) HE.out HR4.out yA.out).mono ?_
  rintro e w5 ⟨hof,hb⟩
  have dR:=hide (dW.out.below hb)
  have hbad:=Uh n.au n.ls K (a1,a2)
  clear hb dW
  rcases hof with⟨_,rfl⟩ | ⟨h0,_⟩ | ⟨h0,_⟩
  ·clear hbad
   go_wp2
   go_ret
   exact⟨gK (by simp),dR.out.bl⟩
  ·omega
  ·omega
 |some p=>
  obtain⟨p0,p1,p2,p3⟩:=p
  simp only[xK]
  go_wp2_with fail
  clear c0 c1 a0 Iw
  have dW:=hide ((cu.out.al #[.int .i64 p0,.int .i64 p1,.int .i64 p2,.int .i64 p3] 29).done)
  have HR4:=hide (HR3.out.below (aC w3 (.cells #[.int .i64 p0,.int .i64 p1,.int .i64 p2,.int .i64 p3] 29)))
  obtain⟨Q,hQ⟩:∃Q,w3.heap.size=Q:=⟨_,rfl⟩
  rw[hQ]at dW
  try rw[hQ]
  clear cu HR3 hQ
  generalize World.alloc w3 _=w4 at*
  refine(Dr n NR K a1 a2 p0 p1 p2 p3 w4 (kD.out _ dW.out.bl) HE.out HR4.out yA.out).mono ?_
  rintro e w5 ⟨hof,hb⟩
  have dR:=hide (dW.out.below hb)
  have hrd:=HFP.out.round.1
  have oF:=hide (((qw _ _ _ _ _).1 hrd).1)
  clear hb dW HR4
  rcases hof with⟨h0,_⟩ | ⟨h0,_,rfl⟩ | ⟨h0,hh,A,k,c,rfl,hkc,hcm,hck,hsl,hlo⟩
  ·omega
  ·clear hrd h0
   go_wp2
   go_ret
   exact⟨gK (by simp),dR.out.bl⟩
  ·have Gz:=hide (Ww HE.out hh hck)
   have HSL:=hide (fun(w':World) (hb:RowKit.Below w5.heap.size w5 w')=>hsl.below hb hb.size)
   have Ay:=hide hlo
   clear hrd h0 hh hck hsl hlo
   generalize (kR n.au n.ls K (a1,a2) ⟨p0,p1,p2,p3⟩).2.L =l at*
   have hk0:((k:Int)==0)=false:=by have:=Gz.out.pos;simp;omega
   have hkL:k≤l.length:=Gz.out.le
   have hc2:c≤9223372036854775807:=by unfold maxLen at hcm;omega
   clear hcm
   have c0:w5.cell? ⟨W.heap.size,0,none⟩=some (.slice n.dA n.dn n.dc):=(dR.out.get 3 rfl).1 0 _ rfl
   have c1:w5.cell? ⟨W.heap.size,1,none⟩=some (.slice n.lA n.ln n.lc):=(dR.out.get 3 rfl).1 1 _ rfl
   go_wp2_with fail
   refine(vZ n W w5 dR.out.bl.size (kD.out _ dR.out.bl) RO.out HE.out).mono ?_
   rintro e w7 ⟨gw,F,rfl,hw,hb,hF⟩
   clear c0 c1
   have HP:=hide (show L1 W [(Q,#[.int .i64 p0,.int .i64 p1,.int .i64 p2,.int .i64 p3]),(W.heap.size+2,#[.int .u16 m.src,.int .u16 m.dst,.int .u8 m.ah,.int .u8 m.aj]),(W.heap.size+1,#[.int .i64 a1,.int .i64 a2]),(W.heap.size,#[.slice n.dA n.dn n.dc,.slice n.lA n.ln n.lc])] F gw n.au n.ls (kT n.au n.ls l 0) 0 w7 from⟨dR.out.below hb,hw,fun x hx e=>by
    have h1:=hF _ e
    have h2:=(dR.out.bx x hx).2
    omega⟩)
   have kE:=hide (show∀j,F j→w5.heap.size≤j from hF)
   have HW7:=hide hb
   clear hw hb hF dR
   go_wp2_with fail
   go_loopw [80] (fun iv wr=>∃(j:Nat) (F:Nat→Prop),j≤k∧iv= .int .i64 (j:Int)∧Hid (L1 W [(Q,#[.int .i64 p0,.int .i64 p1,.int .i64 p2,.int .i64 p3]),(W.heap.size+2,#[.int .u16 m.src,.int .u16 m.dst,.int .u8 m.ah,.int .u8 m.aj]),(W.heap.size+1,#[.int .i64 a1,.int .i64 a2]),(W.heap.size,#[.slice n.dA n.dn n.dc,.slice n.lA n.ln n.lc])] F gw n.au n.ls (kT n.au n.ls l j) j wr)∧Hid (RowKit.Below w5.heap.size w5 wr)∧Hid (∀i,F i→w5.heap.size≤i)) (fun iv _=>k - (intOf iv).toNat)
   case atStart=>exact⟨0,F,Nat.zero_le _,rfl,HP,HW7,kE⟩
   case round=>
    clear HP HW7 kE
    obtain⟨j,F,hj,rfl,HP,HB,qY⟩:=hrel
    have HGA:=hide (tX (ds:=n.au) (ls:=n.ls) HE.out l)
    by_cases hlt:j<k
    case neg=>
     obtain rfl:j=k:=by omega
     have HH:=hide (rX HP.out.a ⟨a1,a2,⟨p0,p1,p2,p3⟩⟩ ⟨yA.out.1,yA.out.2,eH oF.out⟩)
     have hin:decide ((⟨a1,a2,⟨p0,p1,p2,p3⟩⟩:aQ)∈(kT n.au n.ls l j).S)=true:=by simpa[mG]using Gz.out.at_
     rw[hin]at HH
     clear hin
     have a0:wr.cell? ⟨W.heap.size+1,0,none⟩=some (.int .i64 a1):=(HP.out.box.get 2 rfl).1 0 _ rfl
     have Iw:wr.cell? ⟨W.heap.size+1,1,none⟩=some (.int .i64 a2):=(HP.out.box.get 2 rfl).1 1 _ rfl
     have q0:wr.cell? ⟨Q,0,none⟩=some (.int .i64 p0):=(HP.out.box.get 0 rfl).1 0 _ rfl
     have q1:wr.cell? ⟨Q,1,none⟩=some (.int .i64 p1):=(HP.out.box.get 0 rfl).1 1 _ rfl
     have q2:wr.cell? ⟨Q,2,none⟩=some (.int .i64 p2):=(HP.out.box.get 0 rfl).1 2 _ rfl
     have q3:wr.cell? ⟨Q,3,none⟩=some (.int .i64 p3):=(HP.out.box.get 0 rfl).1 3 _ rfl
     go_wp2_with fail
     refine HH.out.mono ?_
     rintro e w9 ⟨rfl,hb⟩
     have HP9:=hide (HP.out.below hb)
     clear hb HH HP a0 Iw q0 q1 q2 q3
     go_wp2
     go_ret
     exact⟨rfl,HP9.out.box.bl⟩
    case pos=>
     obtain⟨x,hx⟩:∃x,l[j]?=some x:=⟨_,List.getElem?_eq_getElem (by omega)⟩
     have hsl:=HSL.out _ HB.out
     obtain⟨bA,oA,rfl,mH,_⟩:=hsl.2 (by omega)
     obtain⟨u0,u1,u2,u3,u4,u5,u6,u7⟩:=Hq hsl hx
     have TH:=hide (Ay.out x (List.mem_of_getElem? hx))
     have HST:=hide (tV (ds:=n.au) (ls:=n.ls) hx)
     have Db:=hide (show(eU n.au n.ls (kT n.au n.ls l j) x).1=0 from by rw[← EH hx];exact Gz.out.ok j hlt)
     have j1:(0:Int)≤(j:Int):=by omega
     have j2:(j:Int)<(k:Int):=by omega
     have j3:(k:Int)≤(c:Int):=by omega
     have HG:=hide (HP.out.al #[.int .i64 x.kind,.int .i64 x.dev,.int .i64 x.port,.int .i64 x.p.src,.int .i64 x.p.dst,.int .i64 x.p.ah,.int .i64 x.p.aj,.int .i64 x.ch] 58)
     have a0:∀ob,(wr.alloc ob).cell? ⟨W.heap.size+1,0,none⟩=some (.int .i64 a1):=fun ob=>((HP.out.below (aC wr ob)).box.get 2 rfl).1 0 _ rfl
     have Iw:∀ob,(wr.alloc ob).cell? ⟨W.heap.size+1,1,none⟩=some (.int .i64 a2):=fun ob=>((HP.out.below (aC wr ob)).box.get 2 rfl).1 1 _ rfl
     have q0:∀ob,(wr.alloc ob).cell? ⟨Q,0,none⟩=some (.int .i64 p0):=fun ob=>((HP.out.below (aC wr ob)).box.get 0 rfl).1 0 _ rfl
     have q1:∀ob,(wr.alloc ob).cell? ⟨Q,1,none⟩=some (.int .i64 p1):=fun ob=>((HP.out.below (aC wr ob)).box.get 0 rfl).1 1 _ rfl
     have q2:∀ob,(wr.alloc ob).cell? ⟨Q,2,none⟩=some (.int .i64 p2):=fun ob=>((HP.out.below (aC wr ob)).box.get 0 rfl).1 2 _ rfl
     have q3:∀ob,(wr.alloc ob).cell? ⟨Q,3,none⟩=some (.int .i64 p3):=fun ob=>((HP.out.below (aC wr ob)).box.get 0 rfl).1 3 _ rfl
     clear hx hsl mH
     go_wp2_with fail
     have rH:=hide (HB.out.trans ((aC wr (.cells #[.int .i64 x.kind,.int .i64 x.dev,.int .i64 x.port,.int .i64 x.p.src,.int .i64 x.p.dst,.int .i64 x.p.ah,.int .i64 x.p.aj,.int .i64 x.ch] 58)).mono HB.out.size))
     obtain⟨N,hN⟩:∃N,wr.heap.size=N:=⟨_,rfl⟩
     rw[hN]at HG
     try rw[hN]
     clear hN HP HB u0 u1 u2 u3 u4 u5 u6 u7 a0 Iw q0 q1 q2 q3
     generalize World.alloc wr _=w8 at*
     obtain⟨Z,hZ⟩:∃Z,kT n.au n.ls l j=Z:=⟨_,rfl⟩
     have hin:decide ((⟨a1,a2,⟨p0,p1,p2,p3⟩⟩:aQ)∈Z.S)=false:=by rw[← hZ];simpa[mG]using Gz.out.no j hlt
     have Ko:=hide (show uN n.au Z from by rw[← hZ];exact tX HE.out l j)
     rw[hZ]at HG HST Db
     have HH:=hide (rX HG.out.a ⟨a1,a2,⟨p0,p1,p2,p3⟩⟩ ⟨yA.out.1,yA.out.2,eH oF.out⟩)
     rw[hin]at HH
     obtain⟨⟨R1,R2⟩,hR⟩:∃R,eU n.au n.ls Z x=R:=⟨_,rfl⟩
     rw[hR]at HST Db
     obtain rfl:R1=0:=Db.out
     clear hZ hin Db
     refine HH.out.mono ?_
     clear HH
     rintro e w9 ⟨rfl,hb⟩
     have Er:=hide (HG.out.below hb)
     have AL:=hide (rH.out.trans (hb.mono rH.out.size))
     clear hb HG rH
     obtain⟨v0,v1,v2,v3,v4,v5,v6,v7⟩:=Gl (x:=x) (Er.out.box.get 0 rfl)
     have qj:=hide (Er.out.go HE.out Ko.out x TH.out (by have:=Gz.out.big;omega) hR)
     clear hR
     go_wp2_with fail
     refine qj.out.mono ?_
     clear qj v0 v1 v2 v3 v4 v5 v6 v7
     rintro e ng ⟨rfl,F',hg,hn,hF⟩
     have LM:=hide (show L1 W [(Q,#[.int .i64 p0,.int .i64 p1,.int .i64 p2,.int .i64 p3]),(W.heap.size+2,#[.int .u16 m.src,.int .u16 m.dst,.int .u8 m.ah,.int .u8 m.aj]),(W.heap.size+1,#[.int .i64 a1,.int .i64 a2]),(W.heap.size,#[.slice n.dA n.dn n.dc,.slice n.lA n.ln n.lc])] F' gw n.au n.ls (kT n.au n.ls l (j+1)) (j+1) ng from by rw[HST.out];exact hg.less)
     have Bc:=hide (show RowKit.Below w5.heap.size w5 ng from AL.out.trans (hn.below AL.out.size qY.out))
     have pW:=hide (show∀i,F' i→w5.heap.size≤i from fun i e=>by
      rcases hF i e with e | e
      ·exact qY.out i e
      ·have:=AL.out.size;omega)
     clear hg hn hF Er AL HST Ko TH qY
     go_wp2_with fail
     go_roundw
     case rel=>exact⟨j+1,F',by omega,by go_num,LM,Bc,pW⟩
     case measure=>simp[intOf];omega
end Go.Proofs.YtlhmdcgckocidaaGreat
namespace Go.Proofs.YtlhmdcgckocidaaGreat
open Go.ChangeAt Go.ChangeShapes Go.Maps Go.RowKit Go.WideShapes
theorem Ci (os:Os) (started:os.Started) (H:Type) (enc:TypeId×Value→H):
  ReturnsInHanded {} Tryz.checked os 4 .any (Rows.historyRunsSpec.pre6 enc Tryz.prog Tryz.f4 Rows.historyRunsRow.domain false) (Rows.historyRunsSpec.post enc Tryz.prog Tryz.f4 false true false false):=
 Oy (C:=Tryz.checked) (tb:=4) Tryz.own started (by kernel_rfl) Tryz.func4 Tryz.laidOut (by kernel_rfl) rfl (by kernel_rfl) Tryz.underlying4
  (fun ds h=>by
   match ds,h with
   |[_,_,_],_=>exact⟨rfl,rfl,rfl⟩)
  (ChangeSpec.witness6 (enc:=enc) (C:=Tryz.checked) false ⟨#[],#[.agg #[.slice none 0 0,.slice none 0 0],.agg #[.int .i64 0,.int .i64 0],.agg #[.int .u16 0,.int .u16 0,.int .u8 0,.int .u8 0]],[]⟩ 8 (by kernel_rfl) (by kernel_rfl) (by kernel_rfl) (by kernel_rfl))
  (fun W base args ds p hval0 hA0 hlt hsz=>by
   have hval:∀(j:Nat) t v,Tryz.f4.params[j]?=some t→args[j]?=some v→Value.okWide Tryz.prog W .any base t v:=hval0
   have hA:DataW.TrodAll enc Tryz.prog W 0 (fun _=>true) true Tryz.f4.params.toList args.toList ds p:=hA0
   rw[Tryz.params4]at hA hval
   obtain⟨v0,vs0,d0,ds0,p0,q0,hargs,rfl,rfl,h0,r0⟩:=AU hA
   obtain⟨v1,vs1,d1,ds1,p1,q1,rfl,rfl,rfl,h1,r1⟩:=AU r0
   obtain⟨v2,vs2,d2,ds2,p2,q2,rfl,rfl,rfl,h2,r2⟩:=AU r1
   obtain⟨rfl,rfl,rfl⟩:=Uw r2
   obtain rfl:args=#[v0,v1,v2]:=QW hargs
   obtain⟨n0,hn0,rfl⟩:=V3 (hval 0 _ v0 rfl rfl) h0
   obtain⟨X1,Y1,rfl,hX1,hY1⟩:=Pf (hval 1 _ v1 rfl rfl) h1
   obtain⟨ma2,mb2,mc2,md2,rfl,afo,afp,afq,afr⟩:=OA (hval 2 _ v2 rfl rfl) h2
   exact I9 n0 X1 Y1 ⟨ma2,mb2,mc2,md2⟩ W hn0 ⟨hX1,hY1⟩ ⟨afo,afp,afq,afr⟩)
theorem historyRuns_holds:Rows.HistoryRunsSaid:=
 OpenClaim.holds_of_wide 4 Tryz.f4 rfl rfl rfl rfl rfl rfl rfl ⟨rfl,rfl,rfl,rfl,rfl⟩ rfl rfl rfl rfl rfl (by kernel_rfl) Tryz.func4 (by kernel_rfl)
  (of_decide_eq_true (by kernel_rfl)) (by unfold Func.isWrapper;first | (rw[if_pos (by decide+kernel)];kernel_rfl) | (rw[if_neg (by decide+kernel)];exact⟨rfl,rfl⟩))
  (fun os started H enc _=>Ci os started H enc)
end Go.Proofs.YtlhmdcgckocidaaGreat
