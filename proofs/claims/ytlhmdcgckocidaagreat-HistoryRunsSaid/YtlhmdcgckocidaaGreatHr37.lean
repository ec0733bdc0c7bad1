/- A part of the proof: Hs7, Hs9. -/
import Derived.Test.YtlhmdcgckocidaaGreatHr36
set_option linter.unusedVariables false
set_option linter.unusedSimpArgs false
set_option maxRecDepth 100000
set_option maxHeartbeats 16000000
namespace Go.Proofs.YtlhmdcgckocidaaGreat
open Go.Maps Go.RowKit
theorem H1.dev {W w:World} {L:List (Nat×Array Value)} {F:Nat→Prop} {g NR gw:Nat} {n:aH} {S:bP} {k:Nat} (h:H1 W L F g NR gw n S k w) (z:Array Value) (t:TypeId) (hz:z.size=7) (r:aA):
  H1 W ((w.heap.size,r.arr)::L) F g NR gw n S k (((w.alloc (.cells z t)).drew).setCells w.heap.size 0 r.arr.toList):=by
 have h1:=(h.al z t).d
 have hs:((w.alloc (.cells z t)).drew).heap.size =w.heap.size+1:=by simp
 generalize (w.alloc (.cells z t)).drew =w1 at*
 have hn:=qB w1 w.heap.size r.arr.toList
 have hb:=(h1.box.get 0 rfl).all r.arr.toList (by show 7=_;exact hz.symm)
 rw[Array.toArray_toList]at hb
 have hW:=h.box.bl.size
 have hF:¬F w.heap.size:=fun e=>Nat.lt_irrefl _ (h.a.fo _ e).2
 generalize w1.setCells w.heap.size 0 r.arr.toList=w2 at*
 have hs2:=hn.size
 have hb2:Below W.heap.size W w2:=h1.box.bl.trans (hn.below (by omega) (fun k e=>by omega))
 refine⟨⟨hb2,fun x hx=>?_⟩,h1.a.stay hn (fun j e=>by subst e;exact⟨hW,hF⟩),fun x hx=>?_⟩
 ·rcases List.mem_cons.1 hx with rfl | hx
  ·exact⟨hb,by show w.heap.size<_;omega⟩
  ·obtain⟨q1,q2⟩:=h1.box.bx x (List.mem_cons_of_mem _ hx)
   have q3:=(h.box.bx x hx).2
   exact⟨q1.near hn q2 (fun e=>by omega),by omega⟩
 ·rcases List.mem_cons.1 hx with rfl | hx
  ·exact hF
  ·exact h.dl x hx
def Hw (W0 W:World) (L:List (Nat×Array Value)) (F:Nat→Prop) (g NR gw:Nat) (n:aH) (S:bP) (k:Nat) (w:World):Prop:=∃F',H1 W0 L F' g NR gw n S k w∧aL F W.heap.size W w∧∀j,F' j→F j∨W.heap.size≤j
section
variable {W0 W w w':World} {L:List (Nat×Array Value)} {F:Nat→Prop} {g NR gw:Nat} {n:aH} {S S':bP} {k k':Nat}
theorem Hw.start (h:iU W0 W F g NR gw n S k) (hb:Below W0.heap.size W0 W):Hw W0 W [] F g NR gw n S k W:=⟨F,H1.start h hb,aL.refl _ _ _,fun _ e=>.inl e⟩
theorem Hw.below (h:Hw W0 W L F g NR gw n S k w) (hb:Below w.heap.size w w'):Hw W0 W L F g NR gw n S k w':=by
 obtain⟨F',h1,hn,hF⟩:=h
 exact⟨F',h1.below hb,hn.trans ((aL.of_below hb).mono hn.size),hF⟩
theorem Hw.d (h:Hw W0 W L F g NR gw n S k w):Hw W0 W L F g NR gw n S k w.drew:=h.below (Below.refl _ _).drew
theorem Hw.al (h:Hw W0 W L F g NR gw n S k w) (vs:Array Value) (t:TypeId):Hw W0 W ((w.heap.size,vs)::L) F g NR gw n S k (w.alloc (.cells vs t)):=by
 obtain⟨F',h1,hn,hF⟩:=h
 exact⟨F',h1.al vs t,hn.trans ((aL.of_below (aC w _)).mono hn.size),hF⟩
theorem Hw.dev (h:Hw W0 W L F g NR gw n S k w) (z:Array Value) (t:TypeId) (hz:z.size=7) (r:aA):Hw W0 W ((w.heap.size,r.arr)::L) F g NR gw n S k (((w.alloc (.cells z t)).drew).setCells w.heap.size 0 r.arr.toList):=by
 obtain⟨F',h1,hn,hF⟩:=h
 have hs:((w.alloc (.cells z t)).drew).heap.size =w.heap.size+1:=by simp
 have hb:Below w.heap.size w (((w.alloc (.cells z t)).drew).setCells w.heap.size 0 r.arr.toList):=below_setCells (Nat.le_refl _) r.arr.toList 0 _ (((Below.refl _ _).alloc (Nat.le_refl _) _).drew)
 exact⟨F',h1.dev z t hz r,hn.trans ((aL.of_below hb).mono hn.size),hF⟩
theorem Hw.get (h:Hw W0 W L F g NR gw n S k w) (i:Nat) {x:Nat×Array Value} (hx:L[i]?=some x):aB w x.1 x.2:=by
 obtain⟨F',h1,_⟩:=h
 exact h1.box.get i hx
theorem Hw.lt (h:Hw W0 W L F g NR gw n S k w) (i:Nat) {x:Nat×Array Value} (hx:L[i]?=some x):x.1<w.heap.size:=by
 obtain⟨F',h1,_⟩:=h
 exact(h1.box.bx x (List.mem_of_getElem? hx)).2
theorem Hw.cells (h:Hw W0 W L F g NR gw n S k w):w.cell? ⟨g,0,none⟩=some (.slice n.dA n.dn n.dc)∧w.cell? ⟨g,1,none⟩=some (.slice n.lA n.ln n.lc)∧w.cell? ⟨g,2,none⟩=some (.pointer (some ⟨NR,0,none⟩))∧w.cell? ⟨g,3,none⟩=some (.pointer (some ⟨gw,0,none⟩))∧w.cell? ⟨g,5,none⟩=some (.bool S.full):=by
 obtain⟨F',h1,_⟩:=h
 exact h1.a.cells
theorem Hw.bl (h:Hw W0 W L F g NR gw n S k w):Below W0.heap.size W0 w:=by
 obtain⟨F',h1,_⟩:=h
 exact h1.box.bl
theorem Hw.go (h:Hw W0 W L F g NR gw n S k w):kP W0 W w F g NR gw n S k:=by
 obtain⟨F',h1,hn,hF⟩:=h
 exact⟨F',h1.a,hn,hF⟩
theorem Hw.call {f:Nat} {args:Array Value} {Pe:Ending→Prop} {Pk:Nat→Prop} (h:Hw W0 W L F g NR gw n S k w) (hc:∀F',iU W0 w F' g NR gw n S k→Calls Tryz.prog f args w fun e w'=>Pe e∧∃k',kP W0 w w' F' g NR gw n S' k'∧Pk k'):
  Calls Tryz.prog f args w fun e w'=>Pe e∧∃k',Hw W0 W L F g NR gw n S' k' w'∧Pk k':=by
 obtain⟨F',h1,hn,hF⟩:=h
 refine(hc F' h1.a).mono ?_
 rintro e w' ⟨he,k',hg,hk⟩
 obtain⟨Ol,q1,q2,q3⟩:=h1.step hg
 refine⟨he,k',⟨Ol,q1,yg hn hF q2,fun j e=>?_⟩,hk⟩
 rcases q3 j e with e | e
 ·exact hF j e
 ·have:=hn.size;right;omega
theorem Hw.act (h:Hw W0 W L F g NR gw n S k w) (hE:dD n.au n.ls=0) (hO:gI n.au n.ls S) (kd dv pt a b c d ch:Int) (hx:(⟨kd,dv,pt,⟨a,b,c,d⟩,ch⟩:bV).ok) (hk:k<100000):
  Calls Tryz.prog 119 #[.pointer (some ⟨g,0,none⟩),.agg #[.int .i64 kd,.int .i64 dv,.int .i64 pt,.int .i64 a,.int .i64 b,.int .i64 c,.int .i64 d,.int .i64 ch]] w fun e w'=>e= .returned (.bool (iN n.au n.ls S ⟨kd,dv,pt,⟨a,b,c,d⟩,ch⟩).1)∧Hw W0 W L F g NR gw n (iN n.au n.ls S ⟨kd,dv,pt,⟨a,b,c,d⟩,ch⟩).2 (k+1) w':=by
 have hbl:=h.bl
 refine(h.call (Pe:=fun e=>e= .returned (.bool (iN n.au n.ls S ⟨kd,dv,pt,⟨a,b,c,d⟩,ch⟩).1)) (Pk:=fun k'=>k'=k+1) (S':=(iN n.au n.ls S ⟨kd,dv,pt,⟨a,b,c,d⟩,ch⟩).2) (fun F' h1=>?_)).mono ?_
 ·refine(Ve h1 hbl hE hO ⟨kd,dv,pt,⟨a,b,c,d⟩,ch⟩ hx hk rfl).mono ?_
  rintro e w' ⟨he,hg⟩
  exact⟨he,k+1,hg,rfl⟩
 ·rintro e w' ⟨he,k',hw,rfl⟩
  exact⟨he,hw⟩
end
theorem VR {ds:List Dev} {ls:List av} {S:bP} {d:Dev} {i:Int} {p:P4} {ch:Int} (h:d.kind=5):bW ds ls S d i 0 p ch=iN ds ls (iN ds ls S ⟨3,i,0,p,0⟩).2 ⟨2,i,0,p,ch⟩:=by
 rw[bW,oO,if_pos ⟨h,rfl⟩,oN,if_neg (by omega)]
theorem Tp {ds:List Dev} {ls:List av} {S:bP} {d:Dev} {i y:Int} {p:P4} {ch:Int} (h:¬(d.kind=4∧y=0)) (h5:¬(d.kind=5∧y=0)):bW ds ls S d i y p ch=iN ds ls S ⟨2,i,y,p,ch⟩:=by
 rw[bW,oO,if_neg h5,oN,if_neg h]
theorem xD {n:aH} {i:Nat} {r:aA} (h:n.ds[i]?=some r):n.au[i]?=some r.dev:=by simp[aH.au,h]
theorem Tq {W0 W:World} {F:Nat→Prop} {g NR gw:Nat} {n:aH} {S:bP} {k:Nat} (h:iU W0 W F g NR gw n S k) (hb0:Below W0.heap.size W0 W) (hN:bf W0 W0.heap.size n) (hE:dD n.au n.ls=0) (hO:gI n.au n.ls S) {i:Nat} {r:aA} (hr:n.ds[i]?=some r) (y:Int) (p:P4) (ch:Int) (hy:ay y) (hp:p.ok) (hch:ay ch) (hk:k<99000) {R:Bool×bP} (hR:bW n.au n.ls S r.dev (i:Int) y p ch=R):
  Calls Tryz.prog 162 #[.pointer (some ⟨g,0,none⟩),.agg #[.int .i64 (i:Int),.int .i64 y],.agg #[.int .i64 p.src,.int .i64 p.dst,.int .i64 p.ah,.int .i64 p.aj],.int .i64 ch] W fun e W'=>e= .returned (.bool R.1)∧∃k',kP W0 W W' F g NR gw n R.2 k'∧k'≤k+10:=by
 have hdl:=(dH hE).dl
 rw[fq hN]at hdl
 have HN:=hide (fun(w':World) (hb:Below W0.heap.size W0 w')=>show bf w' w'.heap.size n from hN.below hb hb.size)
 have hin:i<n.dn:=by rw[← hN.eZ];exact(List.getElem?_eq_some_iff.1 hr).1
 have HW0:=hide (Hw.start h hb0)
 have HE:=hide hE
 have HO:=hide hO
 have HR:=hide hR
 have hi0:ay (i:Int):=by unfold ay;omega
 have fM:=hide (And.intro hi0 (And.intro hy (And.intro hp hch)))
 clear h hb0 hN hE hO hR hy hp hch hi0
 have fQ:=hide hr
 obtain⟨db,od,dN,_⟩:=(HN.out _ HW0.out.bl).ds.2 (by omega)
 have bU:=hide dN
 obtain⟨dn,hdn⟩:∃dn,n.dn=dn:=⟨_,rfl⟩
 have fG:=hide hdn
 rw[hdn]at hin hdl
 clear hr dN hdn
 have i1:(0:Int)≤(i:Int):=by omega
 have i2:(i:Int)<(dn:Int):=by omega
 have i3:(dn:Int)≤10:=by omega
 go_enter Tryz.func162,Tryz.ntmps162
 go_wp2_with fail
 have HW1:=hide ((HW0.out.al #[.int .i64 (i:Int),.int .i64 y] 27).al #[.int .i64 p.src,.int .i64 p.dst,.int .i64 p.ah,.int .i64 p.aj] 29)
 rw[show(W.alloc (.cells #[.int .i64 (i:Int),.int .i64 y] 27)).heap.size =W.heap.size+1 by simp]at HW1
 generalize World.alloc (World.alloc W _) _=W1 at*
 have HF:=hide (fun(w':World) (hb:Below W1.heap.size W1 w')=>show
   w'.cell? ⟨W.heap.size,0,none⟩=some (.int .i64 (i:Int))∧w'.cell? ⟨g,0,none⟩=some (.slice (some ⟨db,od,none⟩) dn n.dc)∧
   (w'.cell? ⟨db,od+i*7,none⟩=some (.string r.name)∧w'.cell? ⟨db,od+i*7+1,none⟩=some (.int .i64 r.kind)∧w'.cell? ⟨db,od+i*7+2,none⟩=some (.int .i64 r.addr)∧w'.cell? ⟨db,od+i*7+3,none⟩=some (.int .u8 r.pool)∧
   w'.cell? ⟨db,od+i*7+4,none⟩=some (.slice r.bA r.bn r.bc)∧w'.cell? ⟨db,od+i*7+5,none⟩=some (.slice r.rA r.rn r.rc)∧w'.cell? ⟨db,od+i*7+6,none⟩=some (.slice r.tA r.tn r.tc))from by
  have hw:=HW1.out.below hb
  have hs:=(HN.out _ hw.bl).ds
  rw[bU.out]at hs
  obtain⟨_,q⟩:=dF hs fQ.out
  exact⟨(hw.get 1 rfl).1 0 _ rfl,by rw[← bU.out,← fG.out];exact hw.cells.1,q⟩)
 refine aI (fun w'=>Below W1.heap.size W1 w') 10 (by kernel_rfl) ((Below.refl _ _).drew) (fun hS=>?_)
 refine rP 0 hS ?_
 refine rP 1 hS ?_
 refine rP 2 hS ?_
 refine rP 3 hS ?_
 refine rL 4 [10] rfl hS (by intro w hSw;obtain⟨s0,s1,s2,s3,s4,s5,s6,s7,s8⟩:=HF.out _ hSw;go_simp;try with_reducible rfl) ?_
 refine rP 5 hS ?_
 refine rL 6 [10] rfl hS (by intro w hSw;obtain⟨s0,s1,s2,s3,s4,s5,s6,s7,s8⟩:=HF.out _ hSw;go_simp;try with_reducible rfl) ?_
 refine rP 7 hS ?_
 refine rL 8 [10] rfl hS (by intro w hSw;obtain⟨s0,s1,s2,s3,s4,s5,s6,s7,s8⟩:=HF.out _ hSw;go_simp;try with_reducible rfl) ?_
 intro inv
 refine rO 9 inv fun K hK=>?_
 go_simp
 refine hK.out _ _ (fun _=>(hS.alloc hS.size _)) ?_
 clear hK K hS inv
 intro inv
 try simp only[Act.put,aD,aF,aG]
 have cZ:=hide (show aB ((W1.alloc (.cells #[.string ⟨#[]⟩,.int .i64 0,.int .i64 0,.int .u8 0,.slice none 0 0,.slice none 0 0,.slice none 0 0] 86)).drew) W1.heap.size #[.string ⟨#[]⟩,.int .i64 0,.int .i64 0,.int .u8 0,.slice none 0 0,.slice none 0 0,.slice none 0 0]from(aB.new W1 _ _).below ((Below.refl (W1.heap.size+1) _).drew) (Nat.lt_succ_self _))
 refine rT 10 inv fun K hK=>?_
 rw[if_pos (by rfl)]
 refine wp_store_mid _ _ _ rfl _ _ r.arr rfl rfl (cZ.out.there (Nat.le_refl _)) bY (by first | exact aA.dO _ | simp[Value.oneCell']) ?_
 refine hK.out _ _ ?_
 clear hK K inv
 intro inv
 try simp only[Act.put,aD,aF,aG]
 refine rD ?_
 clear inv
 have HW2:=hide (HW1.out.dev #[.string ⟨#[]⟩,.int .i64 0,.int .i64 0,.int .u8 0,.slice none 0 0,.slice none 0 0,.slice none 0 0] 86 rfl r)
 obtain⟨G,hG⟩:∃G,W1.heap.size=G:=⟨_,rfl⟩
 rw[hG]at HW2
 rw[hG]
 clear hG cZ HF HW1
 generalize World.setCells _ _ _ _=w2 at*
 clear i1 i2 i3 HN fQ bU fG
 obtain⟨P,hP⟩:∃P,W.heap.size+1=P:=⟨_,rfl⟩
 obtain⟨A,hA⟩:∃A,W.heap.size=A:=⟨_,rfl⟩
 rw[hP,hA]at HW2
 try rw[hP]
 try rw[hA]
 clear hP hA
 by_cases k4:r.kind=4∧y=0
 case pos=>
  obtain⟨k4,rfl⟩:=k4
  have e4:(r.kind ==4)=true:=by simpa using k4
  have e5:(r.kind ==5)=false:=by rw[k4];rfl
  have HS:=hide (show∀b,bW n.au n.ls S r.dev (i:Int) 0 p ch=b↔iN n.au n.ls (nW n.au n.ls (i:Int) S 8) ⟨2,(i:Int),0,p,ch⟩=b from fun b=>by
   rw[bW,oO,if_neg (by simp[aA.dev,k4]),oN,if_pos ⟨k4,rfl⟩])
  clear k4
  have a0:=(HW2.out.get 2 rfl).1 0 _ rfl
  have a1:=(HW2.out.get 2 rfl).1 1 _ rfl
  have p0:=(HW2.out.get 1 rfl).1 0 _ rfl
  have p1:=(HW2.out.get 1 rfl).1 1 _ rfl
  have p2:=(HW2.out.get 1 rfl).1 2 _ rfl
  have p3:=(HW2.out.get 1 rfl).1 3 _ rfl
  have d1:World.cell? w2 ⟨G,1,none⟩=some (.int .i64 r.kind):=(HW2.out.get 0 rfl).1 1 _ rfl
  go_wp2_with fail
  clear a0 a1 p0 p1 p2 p3 d1
  go_loopw [28] (fun jv wr=>∃j:Nat,j≤8∧jv= .int .i64 (j:Int)∧Hid (Hw W0 W [(G,r.arr),(P,#[.int .i64 p.src,.int .i64 p.dst,.int .i64 p.ah,.int .i64 p.aj]),(A,#[.int .i64 (i:Int),.int .i64 0])] F g NR gw n (nW n.au n.ls (i:Int) S j) (k+j) wr)) (fun jv _=>8 - (intOf jv).toNat)
  case atStart=>exact⟨0,by omega,rfl,HW2⟩
  case round=>
   clear HW2
   obtain⟨j,hj,rfl,HW3⟩:=hrel
   have a0:=(HW3.out.get 2 rfl).1 0 _ rfl
   have a1:=(HW3.out.get 2 rfl).1 1 _ rfl
   have p0:=(HW3.out.get 1 rfl).1 0 _ rfl
   have p1:=(HW3.out.get 1 rfl).1 1 _ rfl
   have p2:=(HW3.out.get 1 rfl).1 2 _ rfl
   have p3:=(HW3.out.get 1 rfl).1 3 _ rfl
   have d1:World.cell? wr ⟨G,1,none⟩=some (.int .i64 r.kind):=(HW3.out.get 0 rfl).1 1 _ rfl
   by_cases hlt:j<8
   case pos=>
    go_wp2_with fail
    refine(HW3.out.act HE.out (wY HO.out (i:Int) j).1 3 (i:Int) 0 0 0 0 0 (j:Int) ⟨by simp[ay],fM.out.1,by simp[ay],by simp[P4.ok,ay],by simp only[ay];omega⟩ (by omega)).mono ?_
    rintro e w9 ⟨rfl,lQ⟩
    have xE:=hide (show Hw W0 W _ F g NR gw n (nW n.au n.ls (i:Int) S (j+1)) (k+(j+1)) w9 from lQ)
    clear lQ a0 a1 p0 p1 p2 p3 d1 HW3
    go_wp2
    go_roundw
    case rel=>exact⟨j+1,by omega,by go_num,xE⟩
    case measure=>simp[intOf];omega
   case neg=>
    obtain rfl:j=8:=by omega
    go_wp2_with fail
    refine(HW3.out.act HE.out (wY HO.out (i:Int) 8).1 2 (i:Int) 0 p.src p.dst p.ah p.aj ch ⟨by simp[ay],fM.out.1,fM.out.2.1,fM.out.2.2.1,fM.out.2.2.2⟩ (by omega)).mono ?_
    rintro e w9 ⟨rfl,lQ⟩
    have xE:=hide lQ
    clear lQ a0 a1 p0 p1 p2 p3 d1
    go_wp2
    go_ret
    refine⟨pF (by rw[← HR.out];rw[(HS.out _).2 rfl]),_,by rw[← HR.out];exact(show Hw W0 W _ F g NR gw n (bW n.au n.ls S r.dev (i:Int) 0 p ch).2 _ w9 from by rw[(HS.out _).2 rfl];exact xE.out).go,by omega⟩
 case neg=>
  by_cases k5:r.kind=5∧y=0
  case pos=>
   obtain⟨k5,rfl⟩:=k5
   have e4:(r.kind ==4)=false:=by rw[k5];rfl
   have e5:(r.kind ==5)=true:=by simpa using k5
   have HS:=hide (show∀b,bW n.au n.ls S r.dev (i:Int) 0 p ch=b↔iN n.au n.ls (iN n.au n.ls S ⟨3,(i:Int),0,p,0⟩).2 ⟨2,(i:Int),0,p,ch⟩=b from fun b=>by
    rw[VR (d:=r.dev) k5])
   clear k4 k5
   have a0:=(HW2.out.get 2 rfl).1 0 _ rfl
   have a1:=(HW2.out.get 2 rfl).1 1 _ rfl
   have p0:=(HW2.out.get 1 rfl).1 0 _ rfl
   have p1:=(HW2.out.get 1 rfl).1 1 _ rfl
   have p2:=(HW2.out.get 1 rfl).1 2 _ rfl
   have p3:=(HW2.out.get 1 rfl).1 3 _ rfl
   have d1:World.cell? w2 ⟨G,1,none⟩=some (.int .i64 r.kind):=(HW2.out.get 0 rfl).1 1 _ rfl
   go_wp2_with fail
   refine(HW2.out.act HE.out HO.out 3 (i:Int) 0 p.src p.dst p.ah p.aj 0 ⟨by simp[ay],fM.out.1,by simp[ay],fM.out.2.2.1,by simp[ay]⟩ (by omega)).mono ?_
   rintro e w3 ⟨rfl,lQ⟩
   have HW3:=hide lQ
   clear lQ a0 a1 p0 p1 p2 p3 d1 HW2
   have a0:=(HW3.out.get 2 rfl).1 0 _ rfl
   have a1:=(HW3.out.get 2 rfl).1 1 _ rfl
   have p0:=(HW3.out.get 1 rfl).1 0 _ rfl
   have p1:=(HW3.out.get 1 rfl).1 1 _ rfl
   have p2:=(HW3.out.get 1 rfl).1 2 _ rfl
   have p3:=(HW3.out.get 1 rfl).1 3 _ rfl
   have d1:World.cell? w3 ⟨G,1,none⟩=some (.int .i64 r.kind):=(HW3.out.get 0 rfl).1 1 _ rfl
   go_wp2_with fail
   refine(HW3.out.act HE.out (HO.out.do_ _) 2 (i:Int) 0 p.src p.dst p.ah p.aj ch ⟨by simp[ay],fM.out.1,fM.out.2.1,fM.out.2.2.1,fM.out.2.2.2⟩ (by omega)).mono ?_
   rintro e w9 ⟨rfl,lQ⟩
   have xE:=hide lQ
   clear lQ a0 a1 p0 p1 p2 p3 d1
   go_wp2
   go_ret
   refine⟨pF (by rw[← HR.out];rw[(HS.out _).2 rfl]),_,by rw[← HR.out];exact(show Hw W0 W _ F g NR gw n (bW n.au n.ls S r.dev (i:Int) 0 p ch).2 _ w9 from by rw[(HS.out _).2 rfl];exact xE.out).go,by omega⟩
  case neg=>
   have HS:=hide (show∀b,bW n.au n.ls S r.dev (i:Int) y p ch=b↔iN n.au n.ls S ⟨2,(i:Int),y,p,ch⟩=b from fun b=>by
    rw[Tp (d:=r.dev) k4 k5])
   have a0:=(HW2.out.get 2 rfl).1 0 _ rfl
   have a1:=(HW2.out.get 2 rfl).1 1 _ rfl
   have p0:=(HW2.out.get 1 rfl).1 0 _ rfl
   have p1:=(HW2.out.get 1 rfl).1 1 _ rfl
   have p2:=(HW2.out.get 1 rfl).1 2 _ rfl
   have p3:=(HW2.out.get 1 rfl).1 3 _ rfl
   have d1:World.cell? w2 ⟨G,1,none⟩=some (.int .i64 r.kind):=(HW2.out.get 0 rfl).1 1 _ rfl
   by_cases y0:y=0
   case pos=>
    have e4:(r.kind ==4)=false:=by simpa using fun e=>k4 ⟨e,y0⟩
    have e5:(r.kind ==5)=false:=by simpa using fun e=>k5 ⟨e,y0⟩
    clear k4 k5 y0
    go_wp2_with fail
    refine(HW2.out.act HE.out HO.out 2 (i:Int) y p.src p.dst p.ah p.aj ch ⟨by simp[ay],fM.out.1,fM.out.2.1,fM.out.2.2.1,fM.out.2.2.2⟩ (by omega)).mono ?_
    rintro e w9 ⟨rfl,lQ⟩
    have xE:=hide lQ
    clear lQ a0 a1 p0 p1 p2 p3 d1
    go_wp2
    go_ret
    refine⟨pF (by rw[← HR.out];rw[(HS.out _).2 rfl]),_,by rw[← HR.out];exact(show Hw W0 W _ F g NR gw n (bW n.au n.ls S r.dev (i:Int) y p ch).2 _ w9 from by rw[(HS.out _).2 rfl];exact xE.out).go,by omega⟩
   case neg=>
    have ey:(y ==0)=false:=by simpa using y0
    clear k4 k5 y0
    by_cases k4:r.kind=4
    case pos=>
     have e4:(r.kind ==4)=true:=by simpa using k4
     have e5:(r.kind ==5)=false:=by rw[k4];rfl
     clear k4
     go_wp2_with fail
     refine(HW2.out.act HE.out HO.out 2 (i:Int) y p.src p.dst p.ah p.aj ch ⟨by simp[ay],fM.out.1,fM.out.2.1,fM.out.2.2.1,fM.out.2.2.2⟩ (by omega)).mono ?_
     rintro e w9 ⟨rfl,lQ⟩
     have xE:=hide lQ
     clear lQ a0 a1 p0 p1 p2 p3 d1
     go_wp2
     go_ret
     refine⟨pF (by rw[← HR.out];rw[(HS.out _).2 rfl]),_,by rw[← HR.out];exact(show Hw W0 W _ F g NR gw n (bW n.au n.ls S r.dev (i:Int) y p ch).2 _ w9 from by rw[(HS.out _).2 rfl];exact xE.out).go,by omega⟩
    case neg=>
     have e4:(r.kind ==4)=false:=by simpa using k4
     clear k4
     by_cases k5:r.kind=5
     case pos=>
      have e5:(r.kind ==5)=true:=by simpa using k5
      clear k5
      go_wp2_with fail
      refine(HW2.out.act HE.out HO.out 2 (i:Int) y p.src p.dst p.ah p.aj ch ⟨by simp[ay],fM.out.1,fM.out.2.1,fM.out.2.2.1,fM.out.2.2.2⟩ (by omega)).mono ?_
      rintro e w9 ⟨rfl,lQ⟩
      have xE:=hide lQ
      clear lQ a0 a1 p0 p1 p2 p3 d1
      go_wp2
      go_ret
      refine⟨pF (by rw[← HR.out];rw[(HS.out _).2 rfl]),_,by rw[← HR.out];exact(show Hw W0 W _ F g NR gw n (bW n.au n.ls S r.dev (i:Int) y p ch).2 _ w9 from by rw[(HS.out _).2 rfl];exact xE.out).go,by omega⟩
     case neg=>
      have e5:(r.kind ==5)=false:=by simpa using k5
      clear k5
      go_wp2_with fail
      refine(HW2.out.act HE.out HO.out 2 (i:Int) y p.src p.dst p.ah p.aj ch ⟨by simp[ay],fM.out.1,fM.out.2.1,fM.out.2.2.1,fM.out.2.2.2⟩ (by omega)).mono ?_
      rintro e w9 ⟨rfl,lQ⟩
      have xE:=hide lQ
      clear lQ a0 a1 p0 p1 p2 p3 d1
      go_wp2
      go_ret
      refine⟨pF (by rw[← HR.out];rw[(HS.out _).2 rfl]),_,by rw[← HR.out];exact(show Hw W0 W _ F g NR gw n (bW n.au n.ls S r.dev (i:Int) y p ch).2 _ w9 from by rw[(HS.out _).2 rfl];exact xE.out).go,by omega⟩
theorem yJ:∀(args:Array Value) (w':World),(callFunc 157 args).run Tryz.prog w'= .ok (.enter 157 args) w':=enters_of Tryz.func157 (by kernel_rfl) rfl
theorem yx (k:Int) (B:Nat) (i o:Int) (w:World) (h:aB w B #[.int .i64 i,.int .i64 o]):Calls Tryz.prog 157 #[.int .i64 k,.pointer (some ⟨B,0,none⟩)] w fun e w'=>e= .returned (.agg #[.int .i64 i,.int .i64 k])∧Below w.heap.size w w':=by
 have hb:=(Below.refl w.heap.size w).alloc (Nat.le_refl _) (.cells #[.int .i64 i,.int .i64 k] 27)
 have hx:=aB.new w #[.int .i64 i,.int .i64 k] 27
 have a0:=fun(o':Obj)=>(h.below ((Below.refl _ _).alloc (Nat.le_refl _) o') (pE (h.1 0 _ rfl))).1 0 _ rfl
 clear h
 go_enter Tryz.func157,Tryz.ntmps157
 go_wp2
 have z0:=hx.1 0 _ rfl
 have z1:=hx.1 1 _ rfl
 clear hx
 refine bodyPost_ret (v:=.agg #[.int .i64 i,.int .i64 k]) (by simp[results,Tryz.f157,go_sem,z0,z1]) rfl ⟨rfl,?_⟩
 exact hb
theorem WR.one {base:Nat} {w:World} {vs:Array Value} (r:bR) (hb:base≤w.heap.size) (hv:vs.toList=r.cells) (hn:∀y,r.x.need=some y→base≤r.nb∧r.nb<w.heap.size∧aQ.box w r.nb y):WR base (.slice (some ⟨w.heap.size,0,none⟩) 1 1) [r] (w.alloc (.cells vs 207)):=by
 refine⟨?_,fun s hs y hy=>?_⟩
 ·have:=World.ownsRow_lit (base:=base) (e:=207) (size:=9) w vs 1 hb (by unfold maxLen;omega) (by have:=congrArg List.length hv;simpa[bR.cells]using this)
  simpa[hv]using this
 ·obtain rfl:=List.mem_singleton.1 hs
  obtain⟨a,b,c⟩:=hn y hy
  exact⟨a,Nat.lt_of_lt_of_le b (by simp),aB.below c (aC _ _) b,fun e=>by have:=Option.some.inj (show some w.heap.size=some s.nb from e);omega⟩
theorem BX.dev {W w:World} {L:List (Nat×Array Value)} (h:BX W L w) (z:Array Value) (t:TypeId) (hz:z.size=7) (r:aA):BX W ((w.heap.size,r.arr)::L) (((w.alloc (.cells z t)).drew).setCells w.heap.size 0 r.arr.toList):=by
 have h1:=(h.al z t).done.d
 have hs:((w.alloc (.cells z t)).drew).heap.size =w.heap.size+1:=by simp
 generalize (w.alloc (.cells z t)).drew =w1 at*
 have hn:=qB w1 w.heap.size r.arr.toList
 have hb:=(h1.get 0 rfl).all r.arr.toList (by show 7=_;exact hz.symm)
 rw[Array.toArray_toList]at hb
 have hW:=h.bl.size
 generalize w1.setCells w.heap.size 0 r.arr.toList=w2 at*
 have hs2:=hn.size
 refine⟨h1.bl.trans (hn.below (by omega) (fun k e=>by omega)),fun x hx=>?_⟩
 rcases List.mem_cons.1 hx with rfl | hx
 ·exact⟨hb,by show w.heap.size<_;omega⟩
 ·obtain⟨q1,q2⟩:=h1.bx x (List.mem_cons_of_mem _ hx)
  have q3:=(h.bx x hx).2
  exact⟨q1.near hn q2 (fun e=>by omega),by omega⟩
theorem Zj {bF:Pl→P4→Int} {i o:Int} {d:Dev} {p:P4} (h:d.kind=2):gG bF i o d p=wX i o d p:=if_pos h
theorem Om {bF:Pl→P4→Int} {i o:Int} {d:Dev} {p:P4} (h:d.kind=3):gG bF i o d p=qJ i o d p:=by rw[gG,if_neg (by omega),if_pos h]
theorem Oo {bF:Pl→P4→Int} {i o:Int} {d:Dev} {p:P4} (h:d.kind=4):gG bF i o d p=nT bF i o d p:=by rw[gG,if_neg (by omega),if_neg (by omega),if_pos h]
theorem Oq {bF:Pl→P4→Int} {i o:Int} {d:Dev} {p:P4} (h:d.kind=5):gG bF i o d p=mP i o d p:=by rw[gG,if_neg (by omega),if_neg (by omega),if_neg (by omega),if_pos h]
theorem VT {bF:Pl→P4→Int} {i o:Int} {d:Dev} {p:P4} (h2:d.kind≠2) (h3:d.kind≠3) (h4:d.kind≠4) (h5:d.kind≠5):gG bF i o d p=[]:=by rw[gG,if_neg h2,if_neg h3,if_neg h4,if_neg h5]
def wE (W:World) (l0:List gN) (e:Ending) (W':World):Prop:=∃v l,e= .returned v∧WR W.heap.size v l W'∧l.map (·.x)=l0∧Below W.heap.size W W'
theorem Qq (g NR:Nat) (n:aH) (K:Nat) (i:Nat) (o:Int) (p:P4) (r:aA) (W:World) (hmk:∀w',Below W.heap.size W w'→w'.cell? ⟨g,0,none⟩=some (.slice n.dA n.dn n.dc)∧w'.cell? ⟨g,2,none⟩=some (.pointer (some ⟨NR,0,none⟩))∧fU w' NR n.au n.ls K∧bf w' w'.heap.size n) (hE:dD n.au n.ls=0) (hr:n.ds[i]?=some r) (hp:aV p=true) (hk:r.kind=2):
  Calls Tryz.prog 120 #[.pointer (some ⟨g,0,none⟩),.agg #[.int .i64 (i:Int),.int .i64 o],.agg #[.int .i64 p.src,.int .i64 p.dst,.int .i64 p.ah,.int .i64 p.aj]] W (wE W (gG (aJ n.au n.ls K) (i:Int) o r.dev p)):=by
 rw[Zj (d:=r.dev) hk]
 have e2:(r.kind ==2)=true:=by simpa using hk
 clear hk
 obtain⟨l0,hl0⟩:∃l0,wX (i:Int) o r.dev p=l0:=⟨_,rfl⟩
 rw[hl0]
 have vN:=hide hl0
 clear hl0
 have HN:=hide (fun(w':World) (hb:Below W.heap.size W w')=>(hmk w' hb).2.2.2)
 have l6:=hide (fun(w':World) (hb:Below W.heap.size W w')=>(hmk w' hb).1)
 have hN:=HN.out W (Below.refl _ _)
 have hdl:=(dH hE).dl
 rw[fq hN]at hdl
 have hin:i<n.dn:=by rw[← hN.eZ];exact(List.getElem?_eq_some_iff.1 hr).1
 have jW:=hide (hN.gy r (List.mem_of_getElem? hr))
 have vB:=hide (fun(w':World) (hb:Below W.heap.size W w')=>(HN.out w' hb).gy r (List.mem_of_getElem? hr))
 have fQ:=hide hr
 obtain⟨db,od,dN,_⟩:=hN.ds.2 (by omega)
 have bU:=hide dN
 obtain⟨dn,hdn⟩:∃dn,n.dn=dn:=⟨_,rfl⟩
 have fG:=hide hdn
 rw[hdn]at hin hdl
 have HP:=hide (eH hp)
 clear hr dN hdn hN hp
 have i1:(0:Int)≤(i:Int):=by omega
 have i2:(i:Int)<(dn:Int):=by omega
 have i3:(dn:Int)≤10:=by omega
 go_enter Tryz.func120,Tryz.ntmps120
 go_wp2_with fail
 have HW1:=hide (((((BX.none W).al #[.int .i64 (i:Int),.int .i64 o] 27).done).al #[.int .i64 p.src,.int .i64 p.dst,.int .i64 p.ah,.int .i64 p.aj] 29).done)
 rw[show(W.alloc (.cells #[.int .i64 (i:Int),.int .i64 o] 27)).heap.size =W.heap.size+1 by simp]at HW1
 generalize World.alloc (World.alloc W _) _=W1 at*
 have HF:=hide (fun(w':World) (hb:Below W1.heap.size W1 w')=>show
   w'.cell? ⟨W.heap.size,0,none⟩=some (.int .i64 (i:Int))∧w'.cell? ⟨g,0,none⟩=some (.slice (some ⟨db,od,none⟩) dn n.dc)∧
   (w'.cell? ⟨db,od+i*7,none⟩=some (.string r.name)∧w'.cell? ⟨db,od+i*7+1,none⟩=some (.int .i64 r.kind)∧w'.cell? ⟨db,od+i*7+2,none⟩=some (.int .i64 r.addr)∧w'.cell? ⟨db,od+i*7+3,none⟩=some (.int .u8 r.pool)∧
   w'.cell? ⟨db,od+i*7+4,none⟩=some (.slice r.bA r.bn r.bc)∧w'.cell? ⟨db,od+i*7+5,none⟩=some (.slice r.rA r.rn r.rc)∧w'.cell? ⟨db,od+i*7+6,none⟩=some (.slice r.tA r.tn r.tc))from by
  have hw:=HW1.out.below hb
  have hs:=(HN.out _ hw.bl).ds
  rw[bU.out]at hs
  obtain⟨_,q⟩:=dF hs fQ.out
  exact⟨(hw.get 1 rfl).1 0 _ rfl,by rw[← bU.out,← fG.out];exact l6.out _ hw.bl,q⟩)
 refine aI (fun w'=>Below W1.heap.size W1 w') 10 (by kernel_rfl) ((Below.refl _ _).drew) (fun hS=>?_)
 refine rP 0 hS ?_
 refine rP 1 hS ?_
 refine rP 2 hS ?_
 refine rP 3 hS ?_
 refine rL 4 [10] rfl hS (by intro w hSw;obtain⟨s0,s1,s2,s3,s4,s5,s6,s7,s8⟩:=HF.out _ hSw;go_simp;try with_reducible rfl) ?_
 refine rP 5 hS ?_
 refine rL 6 [10] rfl hS (by intro w hSw;obtain⟨s0,s1,s2,s3,s4,s5,s6,s7,s8⟩:=HF.out _ hSw;go_simp;try with_reducible rfl) ?_
 refine rP 7 hS ?_
 refine rL 8 [10] rfl hS (by intro w hSw;obtain⟨s0,s1,s2,s3,s4,s5,s6,s7,s8⟩:=HF.out _ hSw;go_simp;try with_reducible rfl) ?_
 intro inv
 refine rO 9 inv fun K hK=>?_
 go_simp
 refine hK.out _ _ (fun _=>(hS.alloc hS.size _)) ?_
 clear hK K hS inv
 intro inv
 try simp only[Act.put,aD,aF,aG]
 have cZ:=hide (show aB ((W1.alloc (.cells #[.string ⟨#[]⟩,.int .i64 0,.int .i64 0,.int .u8 0,.slice none 0 0,.slice none 0 0,.slice none 0 0] 86)).drew) W1.heap.size #[.string ⟨#[]⟩,.int .i64 0,.int .i64 0,.int .u8 0,.slice none 0 0,.slice none 0 0,.slice none 0 0]from(aB.new W1 _ _).below ((Below.refl (W1.heap.size+1) _).drew) (Nat.lt_succ_self _))
 refine rT 10 inv fun K hK=>?_
 rw[if_pos (by rfl)]
 refine wp_store_mid _ _ _ rfl _ _ r.arr rfl rfl (cZ.out.there (Nat.le_refl _)) bY (by first | exact aA.dO _ | simp[Value.oneCell']) ?_
 refine hK.out _ _ ?_
 clear hK K inv
 intro inv
 try simp only[Act.put,aD,aF,aG]
 refine rD ?_
 clear inv
 have HW2:=hide (HW1.out.dev #[.string ⟨#[]⟩,.int .i64 0,.int .i64 0,.int .u8 0,.slice none 0 0,.slice none 0 0,.slice none 0 0] 86 rfl r)
 obtain⟨G,hG⟩:∃G,W1.heap.size=G:=⟨_,rfl⟩
 rw[hG]at HW2
 rw[hG]
 clear hG cZ HF HW1
 generalize World.setCells _ _ _ _=w2 at*
 obtain⟨P,hP⟩:∃P,W.heap.size+1=P:=⟨_,rfl⟩
 obtain⟨A,hA⟩:∃A,W.heap.size=A:=⟨_,rfl⟩
 rw[hP,hA]at HW2
 try rw[hP]
 try rw[hA]
 clear hP hA i1 i2 i3 l6 fQ bU fG hin hdl
 have d1:w2.cell? ⟨G,1,none⟩=some (.int .i64 r.kind):=(HW2.out.get 0 rfl).1 1 _ rfl
 have d6:w2.cell? ⟨G,6,none⟩=some (.slice r.tA r.tn r.tc):=(HW2.out.get 0 rfl).1 6 _ rfl
 have p1:w2.cell? ⟨P,1,none⟩=some (.int .i64 p.dst):=(HW2.out.get 1 rfl).1 1 _ rfl
 have htn:r.tn≤9223372036854775807:=by have:=jW.out.ct;unfold maxLen at this;omega
 have hrn:r.rn≤9223372036854775807:=by have:=jW.out.cr;unfold maxLen at this;omega
 go_wp2_with fail
 refine(Gh r.ts r.tA r.tn r.tc p.dst w2 htn HP.out.2.1 (vB.out w2 HW2.out.bl).ts jW.out.tok).mono ?_
 rintro e w3 ⟨rfl,hb⟩
 have HW3:=hide (HW2.out.below hb)
 clear hb HW2 d1 d6 p1
 obtain⟨⟨q1,q2⟩,hop⟩:∃op,lU p.dst r.ts=op:=⟨_,rfl⟩
 obtain⟨lb,hlb⟩:∃lb,kM r.rs p=lb:=⟨_,rfl⟩
 have Tt:=hide (show l0=if 0≤q2∧q1=o∧lb=true then(List.range 4).map fun(k:Nat)=>⟨((i:Int),(k:Int)),p,none,0,false⟩else[]from by rw[← vN.out,wX,← hlb,show r.dev.routes=r.ts from rfl,hop];rfl)
 rw[hop]
 simp only
 clear hop vN
 by_cases h1:0≤q2
 case neg=>
  have dd:decide (0≤q2)=false:=by simpa using h1
  have HRR:=hide (Tt.out.trans (if_neg (fun e=>h1 e.1)))
  go_wp2
  go_ret
  exact⟨_,[],rfl,WR.nil _ _,by rw[HRR.out];rfl,HW3.out.bl⟩
 have dd:decide (0≤q2)=true:=by simpa using h1
 have a1:w3.cell? ⟨A,1,none⟩=some (.int .i64 o):=(HW3.out.get 2 rfl).1 1 _ rfl
 by_cases h2:q1=o
 case neg=>
  have ee:(q1 ==o)=false:=by simpa using h2
  have HRR:=hide (Tt.out.trans (if_neg (fun e=>h2 e.2.1)))
  go_wp2
  go_ret
  exact⟨_,[],rfl,WR.nil _ _,by rw[HRR.out];rfl,HW3.out.bl⟩
 have ee:(q1 ==o)=true:=by simpa using h2
 have d5:w3.cell? ⟨G,5,none⟩=some (.slice r.rA r.rn r.rc):=(HW3.out.get 0 rfl).1 5 _ rfl
 have p0:w3.cell? ⟨P,0,none⟩=some (.int .i64 p.src):=(HW3.out.get 1 rfl).1 0 _ rfl
 have p1:w3.cell? ⟨P,1,none⟩=some (.int .i64 p.dst):=(HW3.out.get 1 rfl).1 1 _ rfl
 have p2:w3.cell? ⟨P,2,none⟩=some (.int .i64 p.ah):=(HW3.out.get 1 rfl).1 2 _ rfl
 have p3:w3.cell? ⟨P,3,none⟩=some (.int .i64 p.aj):=(HW3.out.get 1 rfl).1 3 _ rfl
 have HRQ:=hide (fun hh=>Tt.out.trans (if_pos ⟨h1,h2,hh⟩))
 clear h1 h2
 go_wp2_with fail
 refine(uS r.rs r.rA r.rn r.rc p w3 hrn HP.out (vB.out w3 HW3.out.bl).rs).mono ?_
 rintro e w4 ⟨rfl,hb⟩
 have lH:=hide (HW3.out.below hb)
 clear hb HW3 a1 d5 p0 p1 p2 p3
 rw[hlb]
 cases lb
 case false=>
  clear hlb
  have HRR:=hide (Tt.out.trans (if_neg (fun e=>by cases e.2.2)))
  go_wp2
  go_ret
  exact⟨_,[],rfl,WR.nil _ _,by rw[HRR.out];rfl,lH.out.bl⟩
 have HRR:=hide (HRQ.out rfl)
 clear hlb HRQ Tt
 have hcall:=yJ
 have iq:=hide (fun(w':World) (hb:Below w4.heap.size w4 w')=>lH.out.below hb)
 obtain⟨i0,hi0,hz0,hz1,hz2⟩:=info_parts Tryz.infoWay
 go_wp2_with fail
 go_loopw [49,9] (fun kv sv wr=>∃(k:Nat) (l:List bR) (v:Value),k≤4∧kv= .int .i64 (k:Int)∧v=sv∧Hid (l.length=k)∧Hid (l.map (·.x)=(List.range k).map fun(k:Nat)=>(⟨((i:Int),(k:Int)),p,none,0,false⟩:gN))∧Hid (WR w4.heap.size v l wr)∧Hid (Below w4.heap.size w4 wr)) (fun kv _ _=>4 - (intOf kv).toNat)
 case atStart=>exact⟨0,[],_,by omega,rfl,rfl,hide rfl,hide rfl,hide (WR.nil _ _),hide (Below.refl _ _)⟩
 case round=>
  obtain⟨k,l,v,hk,rfl,rfl,HLEN,HM,HR,HB⟩:=hrel
  by_cases hlt:k<4
  case neg=>
   obtain rfl:k=4:=by omega
   go_wp2
   go_ret
   exact⟨v,l,rfl,HR.out.lo lH.out.bl.size,by rw[HM.out,HRR.out],lH.out.bl.trans (HB.out.mono lH.out.bl.size)⟩
  case pos=>
   go_wp2_with fail
   refine aI (fun w'=>Below w4.heap.size w4 w') 8 (by kernel_rfl) HB.out.drew (fun hS=>?_)
   refine rP 0 hS ?_
   refine rP 1 hS ?_
   refine rP 2 hS ?_
   refine rL 4 [8] rfl hS (by intro w hSw;have hx:=(iq.out _ hSw).get 1 rfl;have t0:=hx.1 0 _ rfl;have t1:=hx.1 1 _ rfl;have t2:=hx.1 2 _ rfl;have t3:=hx.1 3 _ rfl;clear hx;go_simp;try with_reducible rfl) ?_
   intro inv
   refine rO 3 inv fun K hK=>?_
   go_simp
   refine(yx (k:Int) A (i:Int) o wr.drew ((iq.out _ HB.out.drew).get 2 rfl)).mono ?_
   rintro e wp ⟨rfl,hb⟩
   have hbp:Below w4.heap.size w4 wp:=HB.out.drew.trans (hb.mono HB.out.drew.size)
   have H4:=hide (((HR.out.below (Below.refl _ _).drew).below hb).Qm hbp ⟨⟨((i:Int),(k:Int)),p,none,0,false⟩,0⟩ #[.int .i64 (i:Int),.int .i64 (k:Int),.int .i64 p.src,.int .i64 p.dst,.int .i64 p.ah,.int .i64 p.aj,.pointer none,.int .i64 0,.bool false] rfl)
   clear hb
   refine hK.out _ _ (fun _=>hbp) ?_
   clear hK K hS inv
   intro inv
   try simp only[Act.put,aD,aF,aG]
   have hS:=hbp
   revert inv
   refine rP 5 hS ?_
   intro inv
   refine rO 6 inv fun K hK=>?_
   go_simp
   refine hK.out _ _ (fun _=>H4.out.2.1) ?_
   clear hK K hS inv
   intro inv
   try simp only[Act.put,aD,aF,aG]
   have hS:=H4.out.2.1
   refine rO 7 inv fun K hK=>?_
   rw[if_pos (by rfl)]
   refine kY _ (.tmp 52) (.tmp 58) 203 rfl w4.heap.size 207 i0 _ 9 72 Tryz.underlying203 hi0 hz0 hz1 hz2 rfl (by omega) v l.length (l.flatMap bR.cells) rfl H4.out.1.own (wp.heap.size+1) (some ⟨wp.heap.size,0,none⟩) 1 1 (bR.cells ⟨⟨((i:Int),(k:Int)),p,none,0,false⟩,0⟩) rfl H4.out.2.2.1 (bR.one _) (by simp only[maxLen];have:=HLEN.out;omega) (by have:=HLEN.out;omega) H4.out.2.2.2 ?_
   intro v6 w6 hown6 nP jq
   have HP:=hide (H4.out.1.push (r:=⟨⟨((i:Int),(k:Int)),p,none,0,false⟩,0⟩) H4.out.2.1 hown6 nP jq (fun y e=>by cases e))
   clear hown6 nP jq H4
   refine hK.out _ _ (fun _=>HP.out.2) ?_
   clear hK K hS inv
   intro inv
   try simp only[Act.put,aD,aF,aG]
   have hS:=HP.out.2
   refine rT 8 inv fun K hK=>?_
   go_simp
   refine hK.out _ _ ?_
   clear hK K inv
   intro inv
   try simp only[Act.put,aD,aF,aG]
   refine rD ?_
   clear inv
   clear hS
   go_wp2
   go_roundw
   case rel=>exact⟨k+1,l++[⟨⟨((i:Int),(k:Int)),p,none,0,false⟩,0⟩],v6,by omega,by go_num,rfl,hide (by have:=HLEN.out;simp;omega),hide (by rw[List.map_append,HM.out,uw];rfl),hide HP.out.1,hide HP.out.2⟩
   case measure=>simp[intOf];omega
end Go.Proofs.YtlhmdcgckocidaaGreat
