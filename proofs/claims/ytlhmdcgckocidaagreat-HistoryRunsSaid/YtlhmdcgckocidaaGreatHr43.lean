/- A part of the proof: Hs16, PkOf, Hs17. -/
import Derived.Test.YtlhmdcgckocidaaGreatHr42
set_option linter.unusedVariables false
set_option linter.unusedSimpArgs false
set_option maxRecDepth 100000
set_option maxHeartbeats 16000000
namespace Go.Proofs.YtlhmdcgckocidaaGreat
open Go.Maps Go.RowKit
def mG (ds:List Dev) (ls:List av) (l:List bV) (a:Pl) (p:P4) (k:Nat):Prop:=(⟨a.1,a.2,p⟩:aQ)∈(kT ds ls l k).S
structure V6 (ds:List Dev) (ls:List av) (l:List bV) (a:Pl) (p:P4) (k:Nat):Prop where
 le:k≤l.length
 no:∀j,0<j→j<k→¬mG ds ls l a p j
 yes:k<l.length→0<k∧mG ds ls l a p k
theorem V7 (n:aH) (A:Option Addr) (m c:Nat) (l:List bV) (a1 a2 ps pd pu pv:Int) (W:World) (hn:bf W W.heap.size n) (hE:dD n.au n.ls=0) (hl:bB bV.cells 8 W W.heap.size A m l) (hlo:∀r∈l,r.ok) (hmc:m≤c∧c≤maxLen) (hm:m≤2000) (ha:(⟨a1,a2,⟨ps,pd,pu,pv⟩⟩:aQ).ok):
  Calls Tryz.prog 74 #[n.val,.slice A m c,.agg #[.int .i64 a1,.int .i64 a2],.agg #[.int .i64 ps,.int .i64 pd,.int .i64 pu,.int .i64 pv]] W fun e W'=>∃k,e= .returned (.slice A k c)∧V6 n.au n.ls l (a1,a2) ⟨ps,pd,pu,pv⟩ k∧Below W.heap.size W W':=by
 have HL:=hide (fun(w':World) (hb:Below W.heap.size W w')=>hl.below hb hb.size)
 have xP:=hide hl.1
 have Ay:=hide hlo
 have HA:=hide ha
 have HE:=hide hE
 have pQ:=hide (fun(w':World) (hb:Below W.heap.size W w')=>vZ n W w' hb.size (hn.below hb hb.size) (rY hn) hE)
 have hc2:c≤9223372036854775807:=by have:=hmc.2;unfold maxLen at this;omega
 have hc1:=hmc.1
 clear hn hE hl hlo hmc ha
 show Calls _ _ #[.agg #[.slice n.dA n.dn n.dc,.slice n.lA n.ln n.lc],_,_,_] W _
 go_enter Tryz.func74,Tryz.ntmps74
 go_wp2_with fail
 have cK:=hide ((((((BX.none W).al #[.slice n.dA n.dn n.dc,.slice n.lA n.ln n.lc] 25).done).al #[.int .i64 a1,.int .i64 a2] 27).done.al #[.int .i64 ps,.int .i64 pd,.int .i64 pu,.int .i64 pv] 29).done)
 rw[show((W.alloc (.cells #[.slice n.dA n.dn n.dc,.slice n.lA n.ln n.lc] 25)).alloc (.cells #[.int .i64 a1,.int .i64 a2] 27)).heap.size =W.heap.size+2 by simp,show(W.alloc (.cells #[.slice n.dA n.dn n.dc,.slice n.lA n.ln n.lc] 25)).heap.size =W.heap.size+1 by simp]at cK
 generalize World.alloc (World.alloc (World.alloc W _) _) _=w1 at*
 refine(pQ.out w1 cK.out.bl).mono ?_
 clear pQ
 rintro e w7 ⟨gw,F,rfl,hw,hb,hF⟩
 have HP:=hide (show L1 W [(W.heap.size+2,#[.int .i64 ps,.int .i64 pd,.int .i64 pu,.int .i64 pv]),(W.heap.size+1,#[.int .i64 a1,.int .i64 a2]),(W.heap.size,#[.slice n.dA n.dn n.dc,.slice n.lA n.ln n.lc])] F gw n.au n.ls (kT n.au n.ls l 0) 0 w7 from⟨cK.out.below hb,hw,fun x hx e=>by
  have h1:=hF _ e
  have h2:=(cK.out.bx x hx).2
  omega⟩)
 clear hw hb hF cK
 go_wp2_with fail
 go_loopw [20] (fun iv wr=>∃(k:Nat) (F:Nat→Prop),k≤m∧iv= .int .i64 (k:Int)∧Hid (L1 W [(W.heap.size+2,#[.int .i64 ps,.int .i64 pd,.int .i64 pu,.int .i64 pv]),(W.heap.size+1,#[.int .i64 a1,.int .i64 a2]),(W.heap.size,#[.slice n.dA n.dn n.dc,.slice n.lA n.ln n.lc])] F gw n.au n.ls (kT n.au n.ls l k) k wr)∧Hid (∀j,0<j→j≤k→¬mG n.au n.ls l (a1,a2) ⟨ps,pd,pu,pv⟩ j)) (fun iv _=>m - (intOf iv).toNat)
 case atStart=>exact⟨0,F,Nat.zero_le _,rfl,HP,hide (fun j h1 h2=>by omega)⟩
 case round=>
  clear HP
  obtain⟨k,F,hk,rfl,HP,Ao⟩:=hrel
  by_cases hlt:k<m
  case neg=>
   obtain rfl:k=m:=by omega
   go_wp2
   go_ret
   exact⟨k,rfl,⟨by rw[xP.out];omega,fun j h1 h2=>Ao.out j h1 (by omega),fun h=>by rw[xP.out]at h;omega⟩,HP.out.box.bl⟩
  case pos=>
   obtain⟨x,hx⟩:∃x,l[k]?=some x:=⟨_,List.getElem?_eq_getElem (by have:=xP.out;omega)⟩
   have hsl:=HL.out _ HP.out.box.bl
   obtain⟨bA,oA,rfl,mH,_⟩:=hsl.2 (by omega)
   obtain⟨q0,q1,q2,q3,q4,q5,q6,q7⟩:=Hq hsl hx
   have TH:=hide (Ay.out x (List.mem_of_getElem? hx))
   have HST:=hide (tV (ds:=n.au) (ls:=n.ls) hx)
   have j1:(0:Int)≤(k:Int):=by omega
   have j2:(k:Int)<(m:Int):=by omega
   have j3:(m:Int)≤(c:Int):=by omega
   clear hx hsl mH
   go_wp2_with fail
   have HG:=hide (HP.out.al #[.int .i64 x.kind,.int .i64 x.dev,.int .i64 x.port,.int .i64 x.p.src,.int .i64 x.p.dst,.int .i64 x.p.ah,.int .i64 x.p.aj,.int .i64 x.ch] 58)
   obtain⟨N,hN⟩:∃N,wr.heap.size=N:=⟨_,rfl⟩
   rw[hN]at HG
   try rw[hN]
   clear hN HP q0 q1 q2 q3 q4 q5 q6 q7
   generalize World.alloc wr _=w8 at*
   obtain⟨Z,hZ⟩:∃Z,kT n.au n.ls l k=Z:=⟨_,rfl⟩
   have Ko:=hide (show uN n.au Z from by rw[← hZ];exact tX HE.out l k)
   obtain⟨R,hR⟩:∃R,eU n.au n.ls Z x=R:=⟨_,rfl⟩
   rw[hZ]at HG HST
   rw[hR]at HST
   obtain⟨R1,R2⟩:=R
   clear hZ
   have qj:=hide (HG.out.go HE.out Ko.out x TH.out (by omega) hR)
   refine qj.out.mono ?_
   clear qj hR
   rintro e ng ⟨rfl,F',hg,hn,hF⟩
   have HH:=hide (fun L (h:L1 W L F' gw n.au n.ls R2 (k+1) ng)=>rX h.a ⟨a1,a2,⟨ps,pd,pu,pv⟩⟩ HA.out)
   have HP:=hide hg.less
   have LM:=hide (show kT n.au n.ls l (k+1)=R2 from HST.out)
   clear hg hn hF HG HST Ko TH
   have b0:ng.cell? ⟨W.heap.size+1,0,none⟩=some (.int .i64 a1):=(HP.out.box.get 1 rfl).1 0 _ rfl
   have b1:ng.cell? ⟨W.heap.size+1,1,none⟩=some (.int .i64 a2):=(HP.out.box.get 1 rfl).1 1 _ rfl
   have b2:ng.cell? ⟨W.heap.size+2,0,none⟩=some (.int .i64 ps):=(HP.out.box.get 0 rfl).1 0 _ rfl
   have b3:ng.cell? ⟨W.heap.size+2,1,none⟩=some (.int .i64 pd):=(HP.out.box.get 0 rfl).1 1 _ rfl
   have b4:ng.cell? ⟨W.heap.size+2,2,none⟩=some (.int .i64 pu):=(HP.out.box.get 0 rfl).1 2 _ rfl
   have b5:ng.cell? ⟨W.heap.size+2,3,none⟩=some (.int .i64 pv):=(HP.out.box.get 0 rfl).1 3 _ rfl
   go_wp2_with fail
   clear b0 b1 b2 b3 b4 b5
   refine(HH.out _ HP.out).mono ?_
   clear HH
   rintro e xg ⟨rfl,hb⟩
   have Xf:=hide (HP.out.below hb)
   clear hb HP
   cases hm:decide ((⟨a1,a2,⟨ps,pd,pu,pv⟩⟩:aQ)∈R2.S)
   case false=>
    have lF:=hide (show¬mG n.au n.ls l (a1,a2) ⟨ps,pd,pu,pv⟩ (k+1)from by rw[mG,LM.out];simpa using hm)
    clear hm
    go_wp2
    go_roundw
    case rel=>exact⟨k+1,F',by omega,by go_num,by rw[LM.out];exact Xf,hide (fun j h1 h2=>by
     by_cases e:j=k+1
     ·rw[e];exact lF.out
     ·exact Ao.out j h1 (by omega))⟩
    case measure=>simp[intOf];omega
   case true=>
    have lF:=hide (show mG n.au n.ls l (a1,a2) ⟨ps,pd,pu,pv⟩ (k+1)from by rw[mG,LM.out];simpa using hm)
    clear hm
    have j4:(k:Int)+1≤(c:Int):=by omega
    have j5:(0:Int)≤(k:Int)+1:=by omega
    have j6:k+1≤c:=by omega
    go_wp2
    go_ret
    exact⟨k+1,rfl,⟨by rw[xP.out];omega,fun j h1 h2=>Ao.out j h1 (by omega),fun _=>⟨Nat.succ_pos _,lF.out⟩⟩,Xf.out.box.bl⟩
def bP.start:bP:=⟨⟨aK.empty,[]⟩,[],false⟩
def kR (ds:List Dev) (ls:List av) (K:Nat) (a:Pl) (p:P4):Bool×bP:=cO ds ls (aJ ds ls K) (K+2) bP.start a p
theorem V8 (ds:List Dev) (ls:List av) (K:Nat) (a:Pl) (p:P4):aJ ds ls K a p<((K+2:Nat):Int):=by
 unfold aJ
 split
 ·have:=(M5 ((List.range (K+1)).map fun k=>aR ds ls k a) 0 (kQ (nH p))).2
  simp at this
  omega
 ·omega
def OfP (ds:List Dev) (ls:List av) (K:Nat) (a:Pl) (p:P4) (e:Ending) (W':World):Prop:=
 (aJ ds ls K a p<0∧e= .returned (.tuple #[.slice none 0 0,.int .i64 4]))∨
 (0≤aJ ds ls K a p∧(kR ds ls K a p).1=false∧e= .returned (.tuple #[.slice none 0 0,.int .i64 2]))∨
 (0≤aJ ds ls K a p∧(kR ds ls K a p).1=true∧∃A k c,e= .returned (.tuple #[.slice A k c,.int .i64 0])∧k≤c∧c≤maxLen∧V6 ds ls (kR ds ls K a p).2.L a p k∧bB bV.cells 8 W' W'.heap.size A (kR ds ls K a p).2.L.length (kR ds ls K a p).2.L ∧∀x∈(kR ds ls K a p).2.L,x.ok)
theorem TI {W w:World} {F:Nat→Prop} {gw NR:Nat} {n:aH} (h:iK W w F gw n.au n.ls ⟨aK.empty,[]⟩ 0) (hW:W.heap.size≤w.heap.size):
  iU W (w.alloc (.cells #[.slice n.dA n.dn n.dc,.slice n.lA n.ln n.lc,.pointer (some ⟨NR,0,none⟩),.pointer (some ⟨gw,0,none⟩),.slice none 0 0,.bool false] 146)) (fun j=>F j∨j=w.heap.size) w.heap.size NR gw n bP.start 0:=by
 have hb:=aC w (.cells #[.slice n.dA n.dn n.dc,.slice n.lA n.ln n.lc,.pointer (some ⟨NR,0,none⟩),.pointer (some ⟨gw,0,none⟩),.slice none 0 0,.bool false] 146)
 have hx:=aB.new w #[.slice n.dA n.dn n.dc,.slice n.lA n.ln n.lc,.pointer (some ⟨NR,0,none⟩),.pointer (some ⟨gw,0,none⟩),.slice none 0 0,.bool false] 146
 have hs:(w.alloc (.cells #[.slice n.dA n.dn n.dc,.slice n.lA n.ln n.lc,.pointer (some ⟨NR,0,none⟩),.pointer (some ⟨gw,0,none⟩),.slice none 0 0,.bool false] 146)).heap.size =w.heap.size+1:=by simp
 refine⟨F,none,0,hx.1 0 _ rfl,hx.1 1 _ rfl,hx.1 2 _ rfl,hx.1 3 _ rfl,hx.1 4 _ rfl,hx.1 5 _ rfl,hx.2,World.ownsRow_nil _ _ _ _,h.below hb,fun j e=>.inl e,fun e=>Nat.lt_irrefl _ (h.fo _ e).2,fun j e=>(by cases e),fun j e=>?_,.inr rfl,fun j e=>(by cases e),(by simp),fun x hx=>(by cases hx)⟩
 rcases e with e | rfl
 ·have:=h.fo j e;omega
 ·omega
theorem Dr (n:aH) (NR K:Nat) (a1 a2 ps pd pu pv:Int) (W:World) (hn:bf W W.heap.size n) (hE:dD n.au n.ls=0) (hR:fU W NR n.au n.ls K) (ha:ay a1∧ay a2):
  Calls Tryz.prog 26 #[n.val,.pointer (some ⟨NR,0,none⟩),.agg #[.int .i64 a1,.int .i64 a2],.agg #[.int .i64 ps,.int .i64 pd,.int .i64 pu,.int .i64 pv]] W fun e W'=>OfP n.au n.ls K (a1,a2) ⟨ps,pd,pu,pv⟩ e W'∧Below W.heap.size W W':=by
 have kD:=hide (fun(w':World) (hb:Below W.heap.size W w')=>hn.below hb hb.size)
 have Av:=hide (fun(w':World) (hb:Below W.heap.size W w')=>hR.below hb)
 have RO:=hide (rY hn)
 have HE:=hide hE
 have yA:=hide ha
 have Yg:=hide hn
 obtain⟨RP,zw⟩:∃RP,aJ n.au n.ls K (a1,a2) ⟨ps,pd,pu,pv⟩=RP:=⟨_,rfl⟩
 have HRW:=hide (fun w' h=>iZ NR n.au n.ls K (a1,a2) ha ⟨ps,pd,pu,pv⟩ w' h)
 rw[zw]at HRW
 have Lf:=hide zw
 clear hn hE hR ha zw
 show Calls _ _ #[.agg #[.slice n.dA n.dn n.dc,.slice n.lA n.ln n.lc],_,_,_] W _
 go_enter Tryz.func26,Tryz.ntmps26
 go_wp2_with fail
 have cK:=hide ((((((BX.none W).al #[.slice n.dA n.dn n.dc,.slice n.lA n.ln n.lc] 25).done).al #[.int .i64 a1,.int .i64 a2] 27).done.al #[.int .i64 ps,.int .i64 pd,.int .i64 pu,.int .i64 pv] 29).done)
 rw[show((W.alloc (.cells #[.slice n.dA n.dn n.dc,.slice n.lA n.ln n.lc] 25)).alloc (.cells #[.int .i64 a1,.int .i64 a2] 27)).heap.size =W.heap.size+2 by simp,show(W.alloc (.cells #[.slice n.dA n.dn n.dc,.slice n.lA n.ln n.lc] 25)).heap.size =W.heap.size+1 by simp]at cK
 generalize World.alloc (World.alloc (World.alloc W _) _) _=w1 at*
 refine(HRW.out w1 (Av.out w1 cK.out.bl)).mono ?_
 clear HRW
 rintro e w2 ⟨rfl,hb⟩
 have bO:=hide (cK.out.below hb)
 clear hb cK
 by_cases h0:RP<0
 case pos=>
  have HRR:=hide h0
  go_wp2
  go_ret2
  exact⟨.inl ⟨by rw[Lf.out];exact HRR.out,rfl⟩,bO.out.bl⟩
 have d0:decide (RP<0)=false:=by simpa using h0
 have je:=hide (show 0≤aJ n.au n.ls K (a1,a2) ⟨ps,pd,pu,pv⟩from by rw[Lf.out];omega)
 clear h0
 have n0:w2.cell? ⟨W.heap.size,0,none⟩=some (.slice n.dA n.dn n.dc):=(bO.out.get 2 rfl).1 0 _ rfl
 have n1:w2.cell? ⟨W.heap.size,1,none⟩=some (.slice n.lA n.ln n.lc):=(bO.out.get 2 rfl).1 1 _ rfl
 go_wp2_with fail
 refine(vZ n W w2 bO.out.bl.size (kD.out _ bO.out.bl) RO.out HE.out).mono ?_
 rintro e w3 ⟨gw,F,rfl,hw,hb,hF⟩
 have cu:=hide (bO.out.below hb)
 have HWS:=hide hw
 have qY:=hide (fun j e=>Nat.le_trans (show W.heap.size+2<w2.heap.size from(bO.out.bx _ (List.mem_of_getElem? (i:=0) rfl)).2) (hF j e))
 clear hw hb hF bO n0 n1
 have n0:w3.cell? ⟨W.heap.size,0,none⟩=some (.slice n.dA n.dn n.dc):=(cu.out.get 2 rfl).1 0 _ rfl
 have n1:w3.cell? ⟨W.heap.size,1,none⟩=some (.slice n.lA n.ln n.lc):=(cu.out.get 2 rfl).1 1 _ rfl
 have b0:∀ob,(w3.alloc ob).cell? ⟨W.heap.size+1,0,none⟩=some (.int .i64 a1):=fun ob=>((cu.out.below (aC w3 ob)).get 1 rfl).1 0 _ rfl
 have b1:∀ob,(w3.alloc ob).cell? ⟨W.heap.size+1,1,none⟩=some (.int .i64 a2):=fun ob=>((cu.out.below (aC w3 ob)).get 1 rfl).1 1 _ rfl
 have b2:∀ob,(w3.alloc ob).cell? ⟨W.heap.size+2,0,none⟩=some (.int .i64 ps):=fun ob=>((cu.out.below (aC w3 ob)).get 0 rfl).1 0 _ rfl
 have b3:∀ob,(w3.alloc ob).cell? ⟨W.heap.size+2,1,none⟩=some (.int .i64 pd):=fun ob=>((cu.out.below (aC w3 ob)).get 0 rfl).1 1 _ rfl
 have b4:∀ob,(w3.alloc ob).cell? ⟨W.heap.size+2,2,none⟩=some (.int .i64 pu):=fun ob=>((cu.out.below (aC w3 ob)).get 0 rfl).1 2 _ rfl
 have b5:∀ob,(w3.alloc ob).cell? ⟨W.heap.size+2,3,none⟩=some (.int .i64 pv):=fun ob=>((cu.out.below (aC w3 ob)).get 0 rfl).1 3 _ rfl
 go_wp2_with fail
 clear n0 n1 b0 b1 b2 b3 b4 b5
 have uY:=hide (TI (NR:=NR) HWS.out cu.out.bl.size)
 have dW:=hide (cu.out.below (aC w3 (.cells #[.slice n.dA n.dn n.dc,.slice n.lA n.ln n.lc,.pointer (some ⟨NR,0,none⟩),.pointer (some ⟨gw,0,none⟩),.slice none 0 0,.bool false] 146)))
 have HFG:=hide (fun(j:Nat) (e:F j∨j=w3.heap.size)=>show W.heap.size+2<j from by
  rcases e with e | rfl
  ·exact qY.out j e
  ·exact(cu.out.bx _ (List.mem_of_getElem? (i:=0) rfl)).2)
 obtain⟨g,hg⟩:∃g,w3.heap.size=g:=⟨_,rfl⟩
 rw[hg]at uY HFG
 try rw[hg]
 clear hg cu HWS qY
 generalize World.alloc w3 _=w4 at*
 have fF:=hide (Ir (g:=g) (gw:=gw) Yg.out HE.out Av.out (K+2) w4 _ bP.start 0 (a1,a2) ⟨ps,pd,pu,pv⟩ uY.out dW.out.bl gI.start (Nat.zero_le _) ((qw _ _ _ _ _).1 je.out).1 yA.out.1 yA.out.2 ⟨je.out,V8 _ _ _ _ _⟩)
 obtain⟨⟨hb,HS⟩,hH⟩:∃H,kR n.au n.ls K (a1,a2) ⟨ps,pd,pu,pv⟩=H:=⟨_,rfl⟩
 have hH2:cO n.au n.ls (aJ n.au n.ls K) (K+2) bP.start (a1,a2) ⟨ps,pd,pu,pv⟩=(hb,HS):=hH
 rw[hH2]at fF
 have fM:=hide (show gI n.au n.ls HS from by
  have q:=((jy (ds:=n.au) (ls:=n.ls) (aJ n.au n.ls K) (K+2)).ok bP.start (a1,a2) ⟨ps,pd,pu,pv⟩ gI.start).1
  rw[hH2]at q
  exact q)
 have Ky:=hide hH
 clear hH hH2
 refine fF.out.mono ?_
 clear fF
 rintro e w5 ⟨rfl,k5,⟨Ol,SB,Ot,hF5⟩,_⟩
 have dR:=hide (dW.out.beside Ot (fun x hx e=>by
  have h1:=HFG.out _ e
  simp only[List.mem_cons,List.not_mem_nil,or_false]at hx
  rcases hx with rfl | rfl | rfl<;>simp only at h1<;>omega) (fun j e=>by have:=HFG.out j e;omega))
 have uV:=hide SB
 clear SB Ot hF5 dW uY
 cases hb
 case false=>
  go_wp2
  go_ret2
  exact⟨.inr (.inl ⟨je.out,by rw[Ky.out],rfl⟩),dR.out.bl⟩
 case true=>
  obtain⟨F1,A,c,hma⟩:=uV.out
  have hsl:bB bV.cells 8 w5 w5.heap.size A HS.L.length HS.L:=sZ bV.len hma.own rfl
  obtain⟨A',c',e',hlc,_⟩:=bB.jP bV.len hma.own rfl
  simp only[Value.slice.injEq]at e'
  obtain⟨rfl,_,rfl⟩:=e'
  have hcm:=nS hma.own
  have HSL:=hide hsl
  have Ay:=hide hma.xR
  have c4:=hma.c4
  have hle:=fM.out.le
  clear hma hsl uV
  obtain⟨m,hm⟩:∃m,HS.L.length=m:=⟨_,rfl⟩
  rw[hm]at c4 hle hlc HSL
  have TB:=hide hm
  clear hm
  have n0:w5.cell? ⟨W.heap.size,0,none⟩=some (.slice n.dA n.dn n.dc):=(dR.out.get 2 rfl).1 0 _ rfl
  have n1:w5.cell? ⟨W.heap.size,1,none⟩=some (.slice n.lA n.ln n.lc):=(dR.out.get 2 rfl).1 1 _ rfl
  have b0:w5.cell? ⟨W.heap.size+1,0,none⟩=some (.int .i64 a1):=(dR.out.get 1 rfl).1 0 _ rfl
  have b1:w5.cell? ⟨W.heap.size+1,1,none⟩=some (.int .i64 a2):=(dR.out.get 1 rfl).1 1 _ rfl
  have b2:w5.cell? ⟨W.heap.size+2,0,none⟩=some (.int .i64 ps):=(dR.out.get 0 rfl).1 0 _ rfl
  have b3:w5.cell? ⟨W.heap.size+2,1,none⟩=some (.int .i64 pd):=(dR.out.get 0 rfl).1 1 _ rfl
  have b4:w5.cell? ⟨W.heap.size+2,2,none⟩=some (.int .i64 pu):=(dR.out.get 0 rfl).1 2 _ rfl
  have b5:w5.cell? ⟨W.heap.size+2,3,none⟩=some (.int .i64 pv):=(dR.out.get 0 rfl).1 3 _ rfl
  go_wp2_with fail
  go_still_tail 7,(by kernel_rfl)
  clear n0 n1 b0 b1 b2 b3 b4 b5 c4
  go_wp2_with fail
  refine(V7 n A m c HS.L a1 a2 ps pd pu pv w5.drew (kD.out _ dR.out.d.bl) HE.out (HSL.out.below (Below.refl w5.heap.size w5).drew (Below.refl w5.heap.size w5).drew.size) Ay.out ⟨hlc,hcm⟩ hle ⟨yA.out.1,yA.out.2,eH ((qw _ _ _ _ _).1 je.out).1⟩).mono ?_
  rintro e w6 ⟨k,rfl,hk,hb⟩
  have HCK:=hide hk
  have ig:=hide (dR.out.d.bl.trans (hb.mono dR.out.d.bl.size))
  have afj:=hide (HSL.out.below ((Below.refl w5.heap.size w5).drew.trans hb) ((Below.refl w5.heap.size w5).drew.trans hb).size)
  have hkc:k≤c:=by have:=hk.le;rw[TB.out]at this;omega
  clear hk hb HSL
  go_wp2
  go_ret2
  exact⟨.inr (.inr ⟨je.out,by rw[Ky.out],A,k,c,rfl,hkc,hcm,by rw[Ky.out];exact HCK.out,by rw[Ky.out];show bB bV.cells 8 _ _ A HS.L.length HS.L;rw[TB.out];exact afj.out,by rw[Ky.out];exact Ay.out⟩),ig.out⟩
open ak
theorem Zm (w:World) (c:Nat) (hc:c<16384):
  Calls Tryz.prog 69 #[.int .i64 c] w fun e W'=>e= .returned (.tuple #[Gr c,.int .i64 0])∧Below w.heap.size w W':=by
 have b1:∀m:Nat,m<9223372036854775808→Go.bits .and .i64 (m:Int) 15=((m % 16:Nat):Int):=fun m hm=>by
  have:=Gd m 15 hm (by omega)
  rw[show(15:Nat)=2 ^ 4 - 1 from rfl,Nat.and_two_pow_sub_one_eq_mod]at this
  exact this
 have b2:∀m:Nat,m<9223372036854775808→Go.bits .and .i64 (m:Int) 7=((m % 8:Nat):Int):=fun m hm=>by
  have:=Gd m 7 hm (by omega)
  rw[show(7:Nat)=2 ^ 3 - 1 from rfl,Nat.and_two_pow_sub_one_eq_mod]at this
  exact this
 have HV:Hid (Gr c= .agg #[.int .i64 ((c:Int) / 1024),.int .i64 (Go.bits .and .i64 ((c:Int) / 64) 15),.int .i64 (Go.bits .and .i64 ((c:Int) / 8) 7),.int .i64 (Go.bits .and .i64 (c:Int) 7)]):=hide (by
  have e1:((c / 1024:Nat):Int)=(c:Int) / 1024:=by omega
  have e2:((c:Int) / 64)=((c / 64:Nat):Int):=by omega
  have e3:((c:Int) / 8)=((c / 8:Nat):Int):=by omega
  rw[e2,e3,b1 _ (by omega),b2 _ (by omega),b2 _ (by omega),← e1];rfl)
 clear b1 b2
 go_enter Tryz.func69,Tryz.ntmps69
 go_wp2_with fail
 refine(fA _ _ _ true (by simp;omega)).mono ?_
 rintro e w1 ⟨rfl,rfl⟩
 go_wp2
 refine bodyPost_ret (v:=.tuple #[.agg #[.int .i64 ((c:Int) / 1024),.int .i64 (Go.bits .and .i64 ((c:Int) / 64) 15),.int .i64 (Go.bits .and .i64 ((c:Int) / 8) 7),.int .i64 (Go.bits .and .i64 (c:Int) 7)],.int .i64 0]) (by simp[results,Tryz.results69,go_sem]) rfl ⟨by rw[HV.out],?_⟩
 exact(Below.refl _ _).alloc (Nat.le_refl _) _
def xJ (ds:List Dev) (ls:List av) (x:Pl) (m:M4) (k c:Nat):Bool:=aR ds ls k x (kQ c) && yM m (pk c)
def FX (ds:List Dev) (ls:List av) (K:Nat) (x:Pl) (m:M4):Option P4→Prop
 |none=>∀k,k≤K→∀c,c<16384→xJ ds ls x m k c=false
 |some p=>∃k c,k≤K∧c<16384∧p=pk c∧xJ ds ls x m k c=true∧(∀k',k'<k→∀c',c'<16384→xJ ds ls x m k' c'=false)∧∀c',c'<c→xJ ds ls x m k c'=false
def xK:Option P4→Value
 |none=>.tuple #[.agg #[.int .i64 0,.int .i64 0,.int .i64 0,.int .i64 0],.bool false]
 |some p=>.tuple #[.agg #[.int .i64 p.src,.int .i64 p.dst,.int .i64 p.ah,.int .i64 p.aj],.bool true]
theorem abB (c:Nat) (hc:c<16384):(pk c).ok :=by
 simp only[pk,P4.ok,ay]
 omega
theorem Nk (N:Nat) (ds:List Dev) (ls:List av) (K:Nat) (x:Pl) (hx:eD x) (m:M4) (hm:m.ok) (W:World) (h:fU W N ds ls K):
  Calls Tryz.prog 20 #[.pointer (some ⟨N,0,none⟩),.agg #[.int .i64 x.1,.int .i64 x.2],.agg #[.int .u16 m.src,.int .u16 m.dst,.int .u8 m.ah,.int .u8 m.aj]] W fun e W'=>∃r,e= .returned (xK r)∧FX ds ls K x m r∧RowKit.Below W.heap.size W W':=by
 obtain⟨B,g,A,sA,sc,L,hmm,hL⟩:=h.ex
 have hlen:L.length=K+1:=by have:=congrArg List.length hL;simpa using this
 have Oh:=hide (fun k (e:gQ) (he:L[k]?=some e)=>show e.S=aR ds ls k from by
  have hk:k<K+1:=by rw[← hlen];exact(List.getElem?_eq_some_iff.1 he).1
  have:=congrArg (fun l=>l[k]?) hL
  simp only[List.getElem?_map,he,List.getElem?_range hk,Option.map_some]at this
  exact Option.some.inj this)
 obtain⟨y1,y2⟩:=x
 have HM:=hide hmm
 have vS:=hide hm
 have HV:=hide hmm.v
 have hK:K≤491520:=by have:=hmm.ne.2;omega
 have xP:=hide hlen
 clear h hmm hL hlen hm
 obtain⟨KL,hKL⟩:∃KL,K+1=KL:=⟨_,rfl⟩
 have HKL:=hide hKL
 have hKb:KL≤491521:=by omega
 clear hK
 have k0:∀o1 o2 o3,(((W.alloc o1).alloc o2).alloc o3).cell? ⟨N,0,none⟩=some (.slice (some ⟨sA,0,none⟩) KL sc):=fun o1 o2 o3=>by
  have q:=(HM.out.below ((((RowKit.Below.refl W.heap.size W).alloc (Nat.le_refl _) o1).alloc (by simp) o2).alloc (by simp;omega) o3)).b0
  rw[xP.out,hKL]at q
  exact q
 clear hKL
 go_enter Tryz.func20,Tryz.ntmps20
 go_wp2_with fail
 clear k0
 generalize hG:World.alloc (World.alloc (World.alloc W _) _) _=W1
 have hsz:W1.heap.size=W.heap.size+3:=by rw[← hG];simp
 have HQ:=hide (fun(w':World) (hb:RowKit.Below W1.heap.size W1 w')=>gU (B:=W1.heap.size) [(#[.int .i64 y1,.int .i64 y2],27),(#[.int .u16 m.src,.int .u16 m.dst,.int .u8 m.ah,.int .u8 m.aj],32),(#[.int .i64 0,.int .i64 0,.int .i64 0,.int .i64 0],29)] W (W':=w') (by rw[← hG]at hb ⊢;exact hb))
 clear hG
 have HB1:=hide ((HQ.out W1 (RowKit.Below.refl _ _)).2 (by rw[hsz];omega))
 go_loopw [20] (fun iv wr=>∃(k:Nat),k≤KL∧iv= .int .i64 (k:Int)∧Hid (RowKit.Below W1.heap.size W1 wr)∧Hid (∀k',k'<k→∀c',c'<16384→xJ ds ls (y1,y2) m k' c'=false)) (fun iv _=>KL - (intOf iv).toNat)
 case atStart=>exact⟨0,by omega,rfl,hide (RowKit.Below.refl _ _),hide (fun k' h=>absurd h (Nat.not_lt_zero _))⟩
 case round=>
  obtain⟨k,hk,rfl,HB,HN⟩:=hrel
  have fF:=hide (HB1.out.trans (HB.out.mono (by rw[hsz];omega)))
  by_cases hlt:k<KL
  case neg=>
   obtain rfl:k=KL:=by omega
   have hx:=(HQ.out wr HB.out).1 2 _ _ rfl (by omega)
   have t0:wr.cell? ⟨W.heap.size+2,0,none⟩=some (.int .i64 0):=hx.1 0 _ rfl
   have t1:wr.cell? ⟨W.heap.size+2,1,none⟩=some (.int .i64 0):=hx.1 1 _ rfl
   have t2:wr.cell? ⟨W.heap.size+2,2,none⟩=some (.int .i64 0):=hx.1 2 _ rfl
   have t3:wr.cell? ⟨W.heap.size+2,3,none⟩=some (.int .i64 0):=hx.1 3 _ rfl
   have t4:=fun o=>hx.2 o
   go_wp2
   refine bodyPost_ret (v:=xK none) (by simp[results,Tryz.f20,go_sem,xK,t0,t1,t2,t3]) rfl ⟨none,rfl,fun k' h=>HN.out k' (by have:=HKL.out;omega),?_⟩
   first | exact fF.out | exact(((fF.out.setCell (by show W.heap.size≤W.heap.size+2;omega) _).setCell (by show W.heap.size≤W.heap.size+2;omega) _).setCell (by show W.heap.size≤W.heap.size+2;omega) _).setCell (by show W.heap.size≤W.heap.size+2;omega) _
  case pos=>
   obtain⟨en,hen⟩:∃en,L[k]?=some en:=⟨_,List.getElem?_eq_getElem (by have:=xP.out;have:=HKL.out;omega)⟩
   have HEN:=hide hen
   have qx:=hide (HM.out.below fF.out)
   have c0:wr.cell? ⟨sA,k,none⟩=some (.map (some en.blk)):=(qx.out.el k en hen).1
   clear hen
   go_wp2_with fail
   clear c0
   go_loopw [24] (fun cv wr=>∃(c:Nat),c≤16384∧cv= .int .i64 (c:Int)∧Hid (RowKit.Below W1.heap.size W1 wr)∧Hid (∀c',c'<c→xJ ds ls (y1,y2) m k c'=false)) (fun cv _=>16384 - (intOf cv).toNat)
   case atStart=>exact⟨0,by omega,rfl,HB,hide (fun c' h=>absurd h (Nat.not_lt_zero _))⟩
   case round=>
    clear HB fF qx
    obtain⟨c,hc,rfl,HB,HC⟩:=hrel
    have fF:=hide (HB1.out.trans (HB.out.mono (by rw[hsz];omega)))
    by_cases hcl:c<16384
    case neg=>
     obtain rfl:c=16384:=by omega
     go_wp2
     go_roundw
     case rel=>exact⟨k+1,by omega,by go_num,HB,hide (fun k' h c' hc'=>by
      by_cases e:k'=k
      ·rw[e];exact HC.out c' hc'
      ·exact HN.out k' (by omega) c' hc')⟩
     case measure=>simp[intOf];omega
    case pos=>
     have tK:=hide (abB c hcl)
     have hci:(c:Int)<16384:=by omega
     obtain⟨⟨x0,x1,x2,x3⟩,hpk⟩:∃p,pk c=p:=⟨_,rfl⟩
     have HOF:Hid (Calls Tryz.prog 69 #[.int .i64 c] wr fun e W'=>e= .returned (.tuple #[.agg #[.int .i64 x0,.int .i64 x1,.int .i64 x2,.int .i64 x3],.int .i64 0])∧RowKit.Below wr.heap.size wr W'):=hide (by have q:=Zm wr c hcl;rw[aby,hpk]at q;exact q)
     have HPV:=hide hpk
     rw[hpk]at tK
     clear hpk
     go_wp2_with fail
     refine HOF.out.mono ?_
     clear HOF
     rintro e w3 ⟨rfl,hb⟩
     have hb2:=hb.alloc hb.size (.cells #[.int .i64 x0,.int .i64 x1,.int .i64 x2,.int .i64 x3] 29)
     have cu:=hide (aB.new w3 #[.int .i64 x0,.int .i64 x1,.int .i64 x2,.int .i64 x3] 29)
     have yT:=hide (show w3.heap.size<(w3.alloc (.cells #[.int .i64 x0,.int .i64 x1,.int .i64 x2,.int .i64 x3] 29)).heap.size from by simp)
     have HB3:=hide (HB.out.trans (hb2.mono HB.out.size))
     clear hb hb2 HB fF
     go_wp2_with fail
     obtain⟨Q,hQ⟩:∃Q,w3.heap.size=Q:=⟨_,rfl⟩
     rw[hQ]at cu yT
     try rw[hQ]
     clear hQ
     generalize World.alloc w3 _=w4 at*
     have fF:=hide (HB1.out.trans (HB3.out.mono (by rw[hsz];omega)))
     have nZ:=hide (HM.out.below fF.out)
     have AB:=hide (nZ.out.el k en HEN.out)
     obtain⟨EV,hEV⟩:∃EV,en.S (y1,y2) (kQ c)=EV:=⟨_,rfl⟩
     have Yh:=hide (show aR ds ls k (y1,y2) (kQ c)=EV from by rw[← hEV,Oh.out k en HEN.out])
     refine bS (by kernel_rfl) (by kernel_rfl) ?_
     intro T hT gt hg1 hgi
     have aU:=hide hg1
     have gX:=hide hgi
     clear hg1 hgi
     have k1:∀t,(gt t).cell? ⟨N,1,none⟩=some (.pointer (some ⟨g,0,none⟩)):=fun t=>(nZ.out.below (aU.out t)).b1
     have k2:∀t,(gt t).cell? ⟨W.heap.size,0,none⟩=some (.int .i64 y1):=fun t=>((HQ.out _ (HB3.out.trans ((aU.out t).mono HB3.out.size))).1 0 _ _ rfl (by omega)).1 0 _ rfl
     have k3:∀t,(gt t).cell? ⟨W.heap.size,1,none⟩=some (.int .i64 y2):=fun t=>((HQ.out _ (HB3.out.trans ((aU.out t).mono HB3.out.size))).1 0 _ _ rfl (by omega)).1 1 _ rfl
     have k5:∀t,(Instr.lookup 120 (.map (some en.blk)) (.agg #[.int .i64 y1,.int .i64 y2]) false).run Tryz.prog (gt t)= .ok (.int .i64 ((bQ en.M (y1,y2):Nat):Int)) (gt t):=fun t=>aS.Cz (AB.out.2.1.same ((aU.out t).block _ AB.out.2.1.lt)) AB.out.2.2.ints y1 y2 hx.1 hx.2
     have HEW:=hide (fun t=>Og (nZ.out.below (aU.out t)).sa HV.out (AB.out.2.2.tL (y1,y2)) hcl)
     simp only[hEV]at HEW
     clear hEV
     repeat (go_big_quiet_step ((go_at_call 68;exact mE aU.out gX.out (HEW.out _))))
     refine wpQuiet_nil ?_
     intro _ hw'
     obtain⟨t,rfl⟩:=hw'
     have bJ:=hide (HB3.out.trans ((aU.out t).mono HB3.out.size))
     have dW:=hide (cu.out.below (aU.out t) yT.out)
     have afk:=hide (Nat.lt_of_lt_of_le yT.out (aU.out t).size)
     generalize gt t=w5 at*
     clear aU gX k1 k2 k3 k5 HEW nZ AB cu yT HB3 fF
     cases EV
     case false=>
      have HH:=hide (show xJ ds ls (y1,y2) m k c=false from by rw[xJ,Yh.out];rfl)
      clear Yh
      go_wp2
      go_roundw
      case rel=>exact⟨c+1,by omega,by go_num,bJ,hide (fun c' h=>by
       by_cases e:c'=c
       ·rw[e];exact HH.out
       ·exact HC.out c' (by omega))⟩
      case measure=>simp[intOf];omega
     case true=>
      obtain⟨IV,hIV⟩:∃IV,yM m ⟨x0,x1,x2,x3⟩=IV:=⟨_,rfl⟩
      have HH:=hide (show xJ ds ls (y1,y2) m k c=IV from by rw[xJ,Yh.out,HPV.out,hIV];rfl)
      have NV:=hide (Jj m ⟨x0,x1,x2,x3⟩ w5 vS.out tK.out)
      simp only[hIV]at NV
      clear hIV Yh
      have m0:w5.cell? ⟨W.heap.size+1,0,none⟩=some (.int .u16 m.src):=((HQ.out w5 bJ.out).1 1 _ _ rfl (by omega)).1 0 _ rfl
      have m1:w5.cell? ⟨W.heap.size+1,1,none⟩=some (.int .u16 m.dst):=((HQ.out w5 bJ.out).1 1 _ _ rfl (by omega)).1 1 _ rfl
      have m2:w5.cell? ⟨W.heap.size+1,2,none⟩=some (.int .u8 m.ah):=((HQ.out w5 bJ.out).1 1 _ _ rfl (by omega)).1 2 _ rfl
      have m3:w5.cell? ⟨W.heap.size+1,3,none⟩=some (.int .u8 m.aj):=((HQ.out w5 bJ.out).1 1 _ _ rfl (by omega)).1 3 _ rfl
      have q0:w5.cell? ⟨Q,0,none⟩=some (.int .i64 x0):=dW.out.1 0 _ rfl
      have q1:w5.cell? ⟨Q,1,none⟩=some (.int .i64 x1):=dW.out.1 1 _ rfl
      have q2:w5.cell? ⟨Q,2,none⟩=some (.int .i64 x2):=dW.out.1 2 _ rfl
      have q3:w5.cell? ⟨Q,3,none⟩=some (.int .i64 x3):=dW.out.1 3 _ rfl
      have HQL:=hide (show Q<w5.heap.size from afk.out)
      go_wp2_with fail
      refine NV.out.mono ?_
      rintro e w6 ⟨rfl,hb⟩
      have ig:=hide (bJ.out.trans (hb.mono bJ.out.size))
      have gD:=hide (dW.out.below hb HQL.out)
      clear hb NV bJ dW m0 m1 m2 m3 q0 q1 q2 q3
      cases IV
      case false=>
       go_wp2
       go_roundw
       case rel=>exact⟨c+1,by omega,by go_num,ig,hide (fun c' h=>by
        by_cases e:c'=c
        ·rw[e];exact HH.out
        ·exact HC.out c' (by omega))⟩
       case measure=>simp[intOf];omega
      case true=>
       have HF:=hide (show FX ds ls K (y1,y2) m (some ⟨x0,x1,x2,x3⟩)from⟨k,c,by have:=HKL.out;omega,hcl,HPV.out.symm,HH.out,fun k' h=>HN.out k' h,HC.out⟩)
       have hz:=(HQ.out w6 ig.out).1 2 _ _ rfl (by omega)
       have t0:w6.cell? ⟨W.heap.size+2,0,none⟩=some (.int .i64 0):=hz.1 0 _ rfl
       have t1:w6.cell? ⟨W.heap.size+2,1,none⟩=some (.int .i64 0):=hz.1 1 _ rfl
       have t2:w6.cell? ⟨W.heap.size+2,2,none⟩=some (.int .i64 0):=hz.1 2 _ rfl
       have t3:w6.cell? ⟨W.heap.size+2,3,none⟩=some (.int .i64 0):=hz.1 3 _ rfl
       have t4:=fun o=>hz.2 o
       have q0:w6.cell? ⟨Q,0,none⟩=some (.int .i64 x0):=gD.out.1 0 _ rfl
       have q1:w6.cell? ⟨Q,1,none⟩=some (.int .i64 x1):=gD.out.1 1 _ rfl
       have q2:w6.cell? ⟨Q,2,none⟩=some (.int .i64 x2):=gD.out.1 2 _ rfl
       have q3:w6.cell? ⟨Q,3,none⟩=some (.int .i64 x3):=gD.out.1 3 _ rfl
       have fF:=hide (HB1.out.trans (ig.out.mono (by rw[hsz];omega)))
       go_wp2
       refine bodyPost_ret (v:=xK (some ⟨x0,x1,x2,x3⟩)) (by simp[results,Tryz.f20,go_sem,xK,t0,t1,t2,t3]) rfl ⟨_,rfl,HF.out,?_⟩
       exact(((fF.out.setCell (by show W.heap.size≤W.heap.size+2;omega) _).setCell (by show W.heap.size≤W.heap.size+2;omega) _).setCell (by show W.heap.size≤W.heap.size+2;omega) _).setCell (by show W.heap.size≤W.heap.size+2;omega) _
end Go.Proofs.YtlhmdcgckocidaaGreat
