/- A part of the proof: Hs13. -/
import Derived.Test.YtlhmdcgckocidaaGreatHr39
set_option linter.unusedVariables false
set_option linter.unusedSimpArgs false
set_option maxRecDepth 100000
set_option maxHeartbeats 16000000
namespace Go.Proofs.YtlhmdcgckocidaaGreat
open Go.Maps Go.RowKit
section
variable {ds:List Dev} {ls:List av} {d:Dev} {br:bP→Pl→P4→Bool×bP} {S S1 S2 S4:bP} {x:gN} {y:aQ}
theorem V4 (hB:br S x.a x.p=(false,S1)):iD ds ls d br S x=(false,S1):=by
 unfold iD
 rw[if_pos (by rw[hB]),hB]
theorem Qw (hB:br S x.a x.p=(true,S1)) (hn:x.need=none):iD ds ls d br S x=bW ds ls (kI ds ls d S1 x) d x.a.1 x.a.2 x.p x.ch:=by
 have e1:jQ br S1 x=(true,S1):=by unfold jQ;rw[hn]
 have e2:∀S,kH ds ls d S x=(true,S):=fun S=>by unfold kH;rw[hn]
 unfold iD
 rw[if_neg (by rw[hB];simp),hB]
 simp only
 rw[e1,if_neg (by simp)]
 simp only
 rw[e2,if_neg (by simp)]
 rfl
theorem I5 (hB:br S x.a x.p=(true,S1)) (hn:x.need=some y) (hB2:br S1 (y.d,y.y) y.p=(false,S2)):iD ds ls d br S x=(false,S2):=by
 have e1:jQ br S1 x=(false,S2):=by unfold jQ;rw[hn];exact hB2
 unfold iD
 rw[if_neg (by rw[hB];simp),hB]
 simp only
 rw[e1,if_pos rfl]
theorem Lv (hB:br S x.a x.p=(true,S1)) (hn:x.need=some y) (hf:x.fo=false) (hB2:br S1 (y.d,y.y) y.p=(true,S2)) (hH:bW ds ls S2 d y.d y.y y.p x.ch=(false,S4)):iD ds ls d br S x=(false,S4):=by
 have e1:jQ br S1 x=(true,S2):=by unfold jQ;rw[hn];exact hB2
 have e2:kI ds ls d S2 x=S2:=by unfold kI;rw[hf];rfl
 have e3:kH ds ls d S2 x=(false,S4):=by unfold kH;rw[hn];exact hH
 unfold iD
 rw[if_neg (by rw[hB];simp),hB]
 simp only
 rw[e1,if_neg (by simp)]
 simp only
 rw[e2,e3,if_pos rfl]
theorem I6 (hB:br S x.a x.p=(true,S1)) (hn:x.need=some y) (hf:x.fo=false) (hB2:br S1 (y.d,y.y) y.p=(true,S2)) (hH:bW ds ls S2 d y.d y.y y.p x.ch=(true,S4)):iD ds ls d br S x=bW ds ls S4 d x.a.1 x.a.2 x.p x.ch:=by
 have e1:jQ br S1 x=(true,S2):=by unfold jQ;rw[hn];exact hB2
 have e2:kI ds ls d S2 x=S2:=by unfold kI;rw[hf];rfl
 have e3:kH ds ls d S2 x=(true,S4):=by unfold kH;rw[hn];exact hH
 unfold iD
 rw[if_neg (by rw[hB];simp),hB]
 simp only
 rw[e1,if_neg (by simp)]
 simp only
 rw[e2,e3,if_neg (by simp)]
 rfl
end
def Dq (k:Nat) (R:Bool×bP):Prop:=k≤20*R.2.L.length+40∧(R.1=true→k≤20*R.2.L.length)
def o7 (W0:World) (g NR gw:Nat) (n:aH) (K f:Nat):Prop:=∀(W:World) (F:Nat→Prop) (S:bP) (k:Nat) (a:Pl) (p:P4),iU W0 W F g NR gw n S k→Below W0.heap.size W0 W→gI n.au n.ls S→k≤20*S.L.length→aV p=true→ay a.1→ay a.2→(0≤aJ n.au n.ls K a p∧aJ n.au n.ls K a p<(f:Int))→
 Calls Tryz.prog 73 #[.pointer (some ⟨g,0,none⟩),.agg #[.int .i64 a.1,.int .i64 a.2],.agg #[.int .i64 p.src,.int .i64 p.dst,.int .i64 p.ah,.int .i64 p.aj]] W fun e W'=>e= .returned (.bool (cO n.au n.ls (aJ n.au n.ls K) f S a p).1)∧∃k',kP W0 W W' F g NR gw n (cO n.au n.ls (aJ n.au n.ls K) f S a p).2 k'∧Dq k' (cO n.au n.ls (aJ n.au n.ls K) f S a p)
section
variable {W0 W w:World} {L:List (Nat×Array Value)} {F:Nat→Prop} {g NR gw:Nat} {n:aH} {S:bP} {k K f:Nat}
theorem Hw.Lx (h:iU W0 W F g NR gw n S k) (hb:Below W0.heap.size W0 W) (hL:∀x∈L,aB W x.1 x.2∧x.1<W.heap.size∧¬F x.1):Hw W0 W L F g NR gw n S k W:=
 ⟨F,⟨⟨hb,fun x hx=>⟨(hL x hx).1,(hL x hx).2.1⟩⟩,h,fun x hx=>(hL x hx).2.2⟩,aL.refl _ _ _,fun _ e=>.inl e⟩
theorem Hw.bring (h:Hw W0 W L F g NR gw n S k w) (HB:o7 W0 g NR gw n K f) (hO:gI n.au n.ls S) (hk:k≤20*S.L.length) (a1 a2 s t u v:Int) (hp:aV ⟨s,t,u,v⟩=true) (h1:ay a1) (h2:ay a2) (hr:0≤aJ n.au n.ls K (a1,a2) ⟨s,t,u,v⟩∧aJ n.au n.ls K (a1,a2) ⟨s,t,u,v⟩ <(f:Int)) {b:Bool} {S':bP} (hR:cO n.au n.ls (aJ n.au n.ls K) f S (a1,a2) ⟨s,t,u,v⟩=(b,S')):
  Calls Tryz.prog 73 #[.pointer (some ⟨g,0,none⟩),.agg #[.int .i64 a1,.int .i64 a2],.agg #[.int .i64 s,.int .i64 t,.int .i64 u,.int .i64 v]] w fun e w'=>e= .returned (.bool b)∧∃k',Hw W0 W L F g NR gw n S' k' w'∧Dq k' (b,S'):=by
 have hbl:=h.bl
 refine h.call (Pe:=fun e=>e= .returned (.bool b)) (Pk:=fun k'=>Dq k' (b,S')) (fun F' h'=>?_)
 have q:=HB w F' S k (a1,a2) ⟨s,t,u,v⟩ h' hbl hO hk hp h1 h2 hr
 rw[hR]at q
 exact q
theorem Hw.hop (h:Hw W0 W L F g NR gw n S k w) (hN:bf W0 W0.heap.size n) (hE:dD n.au n.ls=0) (hO:gI n.au n.ls S) {i:Nat} {r:aA} (hr:n.ds[i]?=some r) (y s t u v ch:Int) (hy:ay y) (hp:(⟨s,t,u,v⟩:P4).ok) (hch:ay ch) (hk:k<99000) {b:Bool} {S':bP} (hR:bW n.au n.ls S r.dev (i:Int) y ⟨s,t,u,v⟩ ch=(b,S')):
  Calls Tryz.prog 162 #[.pointer (some ⟨g,0,none⟩),.agg #[.int .i64 (i:Int),.int .i64 y],.agg #[.int .i64 s,.int .i64 t,.int .i64 u,.int .i64 v],.int .i64 ch] w fun e w'=>e= .returned (.bool b)∧∃k',Hw W0 W L F g NR gw n S' k' w'∧k'≤k+10:=by
 have hbl:=h.bl
 refine h.call (Pe:=fun e=>e= .returned (.bool b)) (Pk:=fun k'=>k'≤k+10) (fun F' h'=>?_)
 have q:=Tq h' hbl hN hE hO hr y ⟨s,t,u,v⟩ ch hy hp hch hk hR
 exact q
end
theorem LA {W0 W:World} {F:Nat→Prop} {g NR gw:Nat} {n:aH} {S:bP} {k K f:Nat} (h:iU W0 W F g NR gw n S k) (hb0:Below W0.heap.size W0 W) (HB:o7 W0 g NR gw n K f) (hO:gI n.au n.ls S) (hk:k≤20*S.L.length) (d:Dev)
  (a1 a2 s t u v ch:Int) (pv:Value) (fo:Bool) (hpv:pv.oneCell'=true) (hp:aV ⟨s,t,u,v⟩=true) (h1:ay a1) (h2:ay a2) (hr:0≤aJ n.au n.ls K (a1,a2) ⟨s,t,u,v⟩∧aJ n.au n.ls K (a1,a2) ⟨s,t,u,v⟩ <(f:Int)) {S1:bP} (hB:cO n.au n.ls (aJ n.au n.ls K) f S (a1,a2) ⟨s,t,u,v⟩=(false,S1)):
  Calls Tryz.prog 122 #[.pointer (some ⟨g,0,none⟩),.agg #[.int .i64 a1,.int .i64 a2,.int .i64 s,.int .i64 t,.int .i64 u,.int .i64 v,pv,.int .i64 ch,.bool fo]] W fun e W'=>e= .returned (.bool false)∧∃k',kP W0 W W' F g NR gw n S1 k'∧Dq k' (false,S1):=by
 have HW0:=hide (Hw.start h hb0)
 have kV:=hide (fun(w':World) (h:Hw W0 W [(W.heap.size,#[.int .i64 a1,.int .i64 a2,.int .i64 s,.int .i64 t,.int .i64 u,.int .i64 v,pv,.int .i64 ch,.bool fo])] F g NR gw n S k w')=>h.bring HB hO hk a1 a2 s t u v hp h1 h2 hr hB)
 clear h hb0 HB hO hp h1 h2 hr hB
 go_enter Tryz.func122,Tryz.ntmps122
 go_wp2_with fail
 have HW1:=hide (HW0.out.al #[.int .i64 a1,.int .i64 a2,.int .i64 s,.int .i64 t,.int .i64 u,.int .i64 v,pv,.int .i64 ch,.bool fo] 207)
 obtain⟨A,hA⟩:∃A,W.heap.size=A:=⟨_,rfl⟩
 rw[hA]at HW1 kV
 try rw[hA]
 clear hA HW0
 generalize World.alloc W _=w1 at*
 refine aI (fun w'=>aB w' A #[.int .i64 a1,.int .i64 a2,.int .i64 s,.int .i64 t,.int .i64 u,.int .i64 v,pv,.int .i64 ch,.bool fo]) 26 (by kernel_rfl) (HW1.out.d.get 0 rfl) (fun hS=>?_)
 refine rP 0 hS ?_
 refine rP 1 hS ?_
 refine rP 3 hS ?_
 refine rL 2 [5,6,7,26] rfl hS (by intro w hSw;have c0:=hSw.1 0 _ rfl;have c1:=hSw.1 1 _ rfl;go_simp;try with_reducible rfl) ?_
 refine rL 4 [5,6,7,26] rfl hS (by intro w hSw;have c0:=hSw.1 2 _ rfl;have c1:=hSw.1 3 _ rfl;have c2:=hSw.1 4 _ rfl;have c3:=hSw.1 5 _ rfl;go_simp;try with_reducible rfl) ?_
 intro inv
 refine rO 5 inv fun K hK=>?_
 go_simp
 refine(kV.out _ HW1.out.d).mono ?_
 rintro e wp ⟨rfl,k1,hw,hk1⟩
 have HW2:=hide hw
 have HK:=hide hk1
 clear hw hk1 kV HW1
 refine hK.out _ _ (fun _=>HW2.out.get 0 rfl) ?_
 clear hK K hS inv
 intro inv
 try simp only[Act.put,aD,aF,aG]
 have hS:=HW2.out.get 0 rfl
 revert inv
 refine rP 6 hS ?_
 refine rP 7 hS ?_
 refine rK 8 hS ?_
 refine rK 9 hS ?_
 refine rK 10 hS ?_
 refine rK 11 hS ?_
 refine rK 12 hS ?_
 refine rK 13 hS ?_
 refine rK 14 hS ?_
 refine rK 15 hS ?_
 refine rK 16 hS ?_
 refine rK 17 hS ?_
 refine rK 18 hS ?_
 refine rK 19 hS ?_
 refine rK 20 hS ?_
 refine rK 21 hS ?_
 refine rK 22 hS ?_
 refine rK 23 hS ?_
 refine rK 24 hS ?_
 refine rK 25 hS ?_
 intro inv
 refine rT 26 inv fun K hK=>?_
 go_simp
 refine hK.out _ _ ?_
 clear hK K inv
 intro inv
 try simp only[Act.put,aD,aF,aG]
 refine rD ?_
 clear inv
 clear hS
 go_wp2
 go_ret
 exact⟨rfl,k1,HW2.out.go,HK.out⟩
theorem Gx {W0 W:World} {F:Nat→Prop} {g NR gw:Nat} {n:aH} {S:bP} {k K f:Nat} (h:iU W0 W F g NR gw n S k) (hb0:Below W0.heap.size W0 W) (hN:bf W0 W0.heap.size n) (hE:dD n.au n.ls=0) (HB:o7 W0 g NR gw n K f) (hO:gI n.au n.ls S) (hk:k≤20*S.L.length) {i:Nat} {r:aA} (hr:n.ds[i]?=some r)
  (a2 s t u v ch:Int) (hp:aV ⟨s,t,u,v⟩=true) (h2:ay a2) (hch:ay ch) (hrd:0≤aJ n.au n.ls K ((i:Int),a2) ⟨s,t,u,v⟩∧aJ n.au n.ls K ((i:Int),a2) ⟨s,t,u,v⟩ <(f:Int)) {S1:bP} (hB:cO n.au n.ls (aJ n.au n.ls K) f S ((i:Int),a2) ⟨s,t,u,v⟩=(true,S1)) {R:Bool×bP} (hR:bW n.au n.ls S1 r.dev (i:Int) a2 ⟨s,t,u,v⟩ ch=R):
  Calls Tryz.prog 122 #[.pointer (some ⟨g,0,none⟩),.agg #[.int .i64 (i:Int),.int .i64 a2,.int .i64 s,.int .i64 t,.int .i64 u,.int .i64 v,.pointer none,.int .i64 ch,.bool false]] W fun e W'=>e= .returned (.bool R.1)∧∃k',kP W0 W W' F g NR gw n R.2 k'∧Dq k' R:=by
 obtain⟨Rb,RS⟩:=R
 have lG:=(jy (ds:=n.au) (ls:=n.ls) (aJ n.au n.ls K) f).ok S ((i:Int),a2) ⟨s,t,u,v⟩ hO
 rw[hB]at lG
 have yX:=hide lG.1
 have xH:=hide (uW (d:=r.dev) (lG.1) (i:Int) a2 ⟨s,t,u,v⟩ ch)
 rw[hR]at xH
 have tK:=hide (eH hp)
 have HW0:=hide (Hw.start h hb0)
 have hdl:=(dH hE).dl
 rw[fq hN]at hdl
 have jM:=hide hN
 have HN:=hide (fun(w':World) (hb:Below W0.heap.size W0 w')=>show bf w' w'.heap.size n from hN.below hb hb.size)
 have hin:i<n.dn:=by rw[← hN.eZ];exact(List.getElem?_eq_some_iff.1 hr).1
 have HE:=hide hE
 have fQ:=hide hr
 have jW:=hide (hN.gy r (List.mem_of_getElem? hr))
 obtain⟨db,od,dN,_⟩:=(HN.out _ hb0).ds.2 (by omega)
 have bU:=hide dN
 obtain⟨dn,hdn⟩:∃dn,n.dn=dn:=⟨_,rfl⟩
 have fG:=hide hdn
 rw[hdn]at hin hdl
 have xC:=hide (show ay (i:Int)from by unfold ay;omega)
 clear hr dN hdn hN hE
 have i1:(0:Int)≤(i:Int):=by omega
 have i2:(i:Int)<(dn:Int):=by omega
 have i3:(dn:Int)≤10:=by omega
 have HH:=hide (fun(w':World) (k1:Nat) (L:List (Nat×Array Value)) (h:Hw W0 W L F g NR gw n S1 k1 w') (hk:k1<99000)=>h.hop jM.out HE.out lG.1 fQ.out a2 s t u v ch h2 (eH hp) hch hk hR)
 have kV:=hide (fun(w':World) (h:Hw W0 W [(W.heap.size,#[.int .i64 (i:Int),.int .i64 a2,.int .i64 s,.int .i64 t,.int .i64 u,.int .i64 v,.pointer none,.int .i64 ch,.bool false])] F g NR gw n S k w')=>h.bring HB hO hk (i:Int) a2 s t u v hp xC.out h2 hrd hB)
 clear h hb0 HB hO hp h2 hrd hB hR lG hch
 go_enter Tryz.func122,Tryz.ntmps122
 go_wp2_with fail
 have HW1:=hide (HW0.out.al #[.int .i64 (i:Int),.int .i64 a2,.int .i64 s,.int .i64 t,.int .i64 u,.int .i64 v,.pointer none,.int .i64 ch,.bool false] 207)
 obtain⟨A,hA⟩:∃A,W.heap.size=A:=⟨_,rfl⟩
 rw[hA]at HW1 kV
 try rw[hA]
 clear hA HW0
 generalize World.alloc W _=w1 at*
 refine aI (fun w'=>aB w' A #[.int .i64 (i:Int),.int .i64 a2,.int .i64 s,.int .i64 t,.int .i64 u,.int .i64 v,.pointer none,.int .i64 ch,.bool false]) 26 (by kernel_rfl) (HW1.out.d.get 0 rfl) (fun hS=>?_)
 refine rP 0 hS ?_
 refine rP 1 hS ?_
 refine rP 3 hS ?_
 refine rL 2 [5,6,7,26] rfl hS (by intro w hSw;have c0:=hSw.1 0 _ rfl;have c1:=hSw.1 1 _ rfl;go_simp;try with_reducible rfl) ?_
 refine rL 4 [5,6,7,26] rfl hS (by intro w hSw;have c0:=hSw.1 2 _ rfl;have c1:=hSw.1 3 _ rfl;have c2:=hSw.1 4 _ rfl;have c3:=hSw.1 5 _ rfl;go_simp;try with_reducible rfl) ?_
 intro inv
 refine rO 5 inv fun K hK=>?_
 go_simp
 refine(kV.out _ HW1.out.d).mono ?_
 rintro e W1 ⟨rfl,k1,hw,hk1⟩
 clear HW1 kV
 have HW1:=hide hw
 have HK:=hide hk1
 clear hw hk1
 refine hK.out _ _ (fun _=>HW1.out.get 0 rfl) ?_
 clear hK K hS inv
 intro inv
 try simp only[Act.put,aD,aF,aG]
 have hS:=HW1.out.get 0 rfl
 revert inv
 refine rP 6 hS ?_
 refine rP 7 hS ?_
 refine rP 8 hS ?_
 refine rL 9 [10,11,25,26] rfl hS (by intro w hSw;have c6:=hSw.1 6 _ rfl;go_simp;try with_reducible rfl) ?_
 refine rP 10 hS ?_
 refine rP 11 hS ?_
 refine rK 12 hS ?_
 refine rK 13 hS ?_
 refine rK 14 hS ?_
 refine rK 15 hS ?_
 refine rK 16 hS ?_
 refine rK 17 hS ?_
 refine rK 18 hS ?_
 refine rK 19 hS ?_
 refine rK 20 hS ?_
 refine rK 21 hS ?_
 refine rK 22 hS ?_
 refine rK 23 hS ?_
 refine rK 24 hS ?_
 refine rP 25 hS ?_
 intro inv
 refine rT 26 inv fun K hK=>?_
 go_simp
 refine hK.out _ _ ?_
 clear hK K inv
 intro inv
 try simp only[Act.put,aD,aF,aG]
 refine rD ?_
 clear inv
 clear hS
 go_wp2_with fail
 have HF:=hide (fun(w':World) (hb:Below W1.heap.size W1 w')=>show
   w'.cell? ⟨A,0,none⟩=some (.int .i64 (i:Int))∧w'.cell? ⟨g,0,none⟩=some (.slice (some ⟨db,od,none⟩) dn n.dc)∧
   (w'.cell? ⟨db,od+i*7,none⟩=some (.string r.name)∧w'.cell? ⟨db,od+i*7+1,none⟩=some (.int .i64 r.kind)∧w'.cell? ⟨db,od+i*7+2,none⟩=some (.int .i64 r.addr)∧w'.cell? ⟨db,od+i*7+3,none⟩=some (.int .u8 r.pool)∧
   w'.cell? ⟨db,od+i*7+4,none⟩=some (.slice r.bA r.bn r.bc)∧w'.cell? ⟨db,od+i*7+5,none⟩=some (.slice r.rA r.rn r.rc)∧w'.cell? ⟨db,od+i*7+6,none⟩=some (.slice r.tA r.tn r.tc))from by
  have hw:=HW1.out.below hb
  have hs:=(HN.out _ hw.bl).ds
  rw[bU.out]at hs
  obtain⟨_,q⟩:=dF hs fQ.out
  exact⟨(hw.get 0 rfl).1 0 _ rfl,by rw[← bU.out,← fG.out];exact hw.cells.1,q⟩)
 refine aI (fun w'=>Below W1.heap.size W1 w') 11 (by kernel_rfl) ((Below.refl _ _).drew) (fun hS=>?_)
 refine rP 0 hS ?_
 refine rP 1 hS ?_
 refine rP 2 hS ?_
 refine rP 3 hS ?_
 refine rL 4 [11] rfl hS (by intro w hSw;obtain⟨s0,s1,s2,s3,s4,s5,s6,s7,s8⟩:=HF.out _ hSw;go_simp;try with_reducible rfl) ?_
 refine rP 5 hS ?_
 refine rP 6 hS ?_
 refine rL 7 [11] rfl hS (by intro w hSw;obtain⟨s0,s1,s2,s3,s4,s5,s6,s7,s8⟩:=HF.out _ hSw;go_simp;try with_reducible rfl) ?_
 refine rP 8 hS ?_
 refine rL 9 [11] rfl hS (by intro w hSw;obtain⟨s0,s1,s2,s3,s4,s5,s6,s7,s8⟩:=HF.out _ hSw;go_simp;try with_reducible rfl) ?_
 intro inv
 refine rO 10 inv fun K hK=>?_
 go_simp
 refine hK.out _ _ (fun _=>(hS.alloc hS.size _)) ?_
 clear hK K hS inv
 intro inv
 try simp only[Act.put,aD,aF,aG]
 have cZ:=hide (show aB ((W1.alloc (.cells #[.string ⟨#[]⟩,.int .i64 0,.int .i64 0,.int .u8 0,.slice none 0 0,.slice none 0 0,.slice none 0 0] 86)).drew) W1.heap.size #[.string ⟨#[]⟩,.int .i64 0,.int .i64 0,.int .u8 0,.slice none 0 0,.slice none 0 0,.slice none 0 0]from(aB.new W1 _ _).below ((Below.refl (W1.heap.size+1) _).drew) (Nat.lt_succ_self _))
 refine rT 11 inv fun K hK=>?_
 rw[if_pos (by rfl)]
 refine wp_store_mid _ _ _ rfl _ _ r.arr rfl rfl (cZ.out.there (Nat.le_refl _)) bY (by first | exact aA.dO _ | simp[Value.oneCell']) ?_
 refine hK.out _ _ ?_
 clear hK K inv
 intro inv
 try simp only[Act.put,aD,aF,aG]
 refine rD ?_
 clear inv
 have HW2:=hide (HW1.out.dev #[.string ⟨#[]⟩,.int .i64 0,.int .i64 0,.int .u8 0,.slice none 0 0,.slice none 0 0,.slice none 0 0] 86 rfl r)
 obtain⟨G,hG⟩:∃G,W1.heap.size=G:=⟨_,rfl⟩
 rw[hG]at HW2
 rw[hG]
 clear hG cZ HF HW1
 generalize World.setCells _ _ _ _=w2 at*
 clear i1 i2 i3 HN bU fG
 have b8:w2.cell? ⟨A,8,none⟩=some (.bool false):=(HW2.out.get 1 rfl).1 8 _ rfl
 have hk1:=HK.out.2 rfl
 have hl1:=yX.out.le
 simp only at hk1
 have D5:k1<99000:=by omega
 go_wp2_with fail
 clear b8
 refine aI (fun w'=>aB w' A #[.int .i64 (i:Int),.int .i64 a2,.int .i64 s,.int .i64 t,.int .i64 u,.int .i64 v,.pointer none,.int .i64 ch,.bool false]) 19 (by kernel_rfl) (HW2.out.d.get 1 rfl) (fun hS=>?_)
 refine rP 0 hS ?_
 refine rL 1 [2,3,19] rfl hS (by intro w hSw;have c6:=hSw.1 6 _ rfl;go_simp;try with_reducible rfl) ?_
 refine rP 2 hS ?_
 refine rP 3 hS ?_
 refine rK 4 hS ?_
 refine rK 5 hS ?_
 refine rK 6 hS ?_
 refine rK 7 hS ?_
 refine rK 8 hS ?_
 refine rK 9 hS ?_
 refine rK 10 hS ?_
 refine rK 11 hS ?_
 refine rK 12 hS ?_
 refine rK 13 hS ?_
 refine rK 14 hS ?_
 refine rK 15 hS ?_
 refine rK 16 hS ?_
 refine rK 17 hS ?_
 refine rK 18 hS ?_
 intro inv
 refine rT 19 inv fun K hK=>?_
 go_simp
 refine hK.out _ _ ?_
 clear hK K inv
 intro inv
 try simp only[Act.put,aD,aF,aG]
 refine rD ?_
 clear inv
 clear hS
 have b0:(w2.drew).cell? ⟨A,0,none⟩=some (.int .i64 (i:Int)):=(HW2.out.d.get 1 rfl).1 0 _ rfl
 have b1:(w2.drew).cell? ⟨A,1,none⟩=some (.int .i64 a2):=(HW2.out.d.get 1 rfl).1 1 _ rfl
 have b2:(w2.drew).cell? ⟨A,2,none⟩=some (.int .i64 s):=(HW2.out.d.get 1 rfl).1 2 _ rfl
 have b3:(w2.drew).cell? ⟨A,3,none⟩=some (.int .i64 t):=(HW2.out.d.get 1 rfl).1 3 _ rfl
 have b4:(w2.drew).cell? ⟨A,4,none⟩=some (.int .i64 u):=(HW2.out.d.get 1 rfl).1 4 _ rfl
 have b5:(w2.drew).cell? ⟨A,5,none⟩=some (.int .i64 v):=(HW2.out.d.get 1 rfl).1 5 _ rfl
 have b7:(w2.drew).cell? ⟨A,7,none⟩=some (.int .i64 ch):=(HW2.out.d.get 1 rfl).1 7 _ rfl
 have Il:=hide (HH.out _ _ _ HW2.out.d D5)
 clear HH HW2
 generalize World.drew w2=w5 at*
 go_wp2_with fail
 refine Il.out.mono ?_
 rintro e w6 ⟨rfl,k6,Bt,Im⟩
 have ql:=hide Bt
 have GY:=hide Im
 clear Bt Im Il b0 b1 b2 b3 b4 b5 b7
 go_wp2
 go_ret
 refine⟨rfl,k6,ql.out.go,?_⟩
 obtain⟨_,q1,q2⟩:=xH.out
 have q3:=q1.len
 have q4:=GY.out
 try simp only at q2 q3
 refine⟨?_,fun e=>?_⟩
 ·show k6≤20*RS.L.length+40
  omega
 ·have:=q2 e
  show k6≤20*RS.L.length
  omega
theorem D6 {W0 W:World} {F:Nat→Prop} {g NR gw:Nat} {n:aH} {S:bP} {k K f:Nat} (h:iU W0 W F g NR gw n S k) (hb0:Below W0.heap.size W0 W) (hN:bf W0 W0.heap.size n) (hE:dD n.au n.ls=0) (HB:o7 W0 g NR gw n K f) (hO:gI n.au n.ls S) (hk:k≤20*S.L.length) {i:Nat} {r:aA} (hr:n.ds[i]?=some r)
  (a2 s t u v ch:Int) (hp:aV ⟨s,t,u,v⟩=true) (h2:ay a2) (hch:ay ch) (hrd:0≤aJ n.au n.ls K ((i:Int),a2) ⟨s,t,u,v⟩∧aJ n.au n.ls K ((i:Int),a2) ⟨s,t,u,v⟩ <(f:Int)) {S1:bP} (hB:cO n.au n.ls (aJ n.au n.ls K) f S ((i:Int),a2) ⟨s,t,u,v⟩=(true,S1)) {R:Bool×bP} (hR:bW n.au n.ls (iN n.au n.ls S1 ⟨3,(i:Int),0,⟨t,r.addr,v,u⟩,0⟩).2 r.dev (i:Int) a2 ⟨s,t,u,v⟩ ch=R):
  Calls Tryz.prog 122 #[.pointer (some ⟨g,0,none⟩),.agg #[.int .i64 (i:Int),.int .i64 a2,.int .i64 s,.int .i64 t,.int .i64 u,.int .i64 v,.pointer none,.int .i64 ch,.bool true]] W fun e W'=>e= .returned (.bool R.1)∧∃k',kP W0 W W' F g NR gw n R.2 k'∧Dq k' R:=by
 obtain⟨Rb,RS⟩:=R
 have lG:=(jy (ds:=n.au) (ls:=n.ls) (aJ n.au n.ls K) f).ok S ((i:Int),a2) ⟨s,t,u,v⟩ hO
 rw[hB]at lG
 have yX:=hide lG.1
 have xH:=hide (uW (d:=r.dev) ((gI.do_ lG.1 ⟨3,(i:Int),0,⟨t,r.addr,v,u⟩,0⟩)) (i:Int) a2 ⟨s,t,u,v⟩ ch)
 rw[hR]at xH
 have tK:=hide (eH hp)
 have HW0:=hide (Hw.start h hb0)
 have HDG:=hide (wC (ds:=n.au) (ls:=n.ls) S1 ⟨3,(i:Int),0,⟨t,r.addr,v,u⟩,0⟩).len
 have hdl:=(dH hE).dl
 rw[fq hN]at hdl
 have jM:=hide hN
 have HN:=hide (fun(w':World) (hb:Below W0.heap.size W0 w')=>show bf w' w'.heap.size n from hN.below hb hb.size)
 have hin:i<n.dn:=by rw[← hN.eZ];exact(List.getElem?_eq_some_iff.1 hr).1
 have HE:=hide hE
 have fQ:=hide hr
 have jW:=hide (hN.gy r (List.mem_of_getElem? hr))
 obtain⟨db,od,dN,_⟩:=(HN.out _ hb0).ds.2 (by omega)
 have bU:=hide dN
 obtain⟨dn,hdn⟩:∃dn,n.dn=dn:=⟨_,rfl⟩
 have fG:=hide hdn
 rw[hdn]at hin hdl
 have xC:=hide (show ay (i:Int)from by unfold ay;omega)
 clear hr dN hdn hN hE
 have i1:(0:Int)≤(i:Int):=by omega
 have i2:(i:Int)<(dn:Int):=by omega
 have i3:(dn:Int)≤10:=by omega
 have HH:=hide (fun(w':World) (k1:Nat) (L:List (Nat×Array Value)) (h:Hw W0 W L F g NR gw n (iN n.au n.ls S1 ⟨3,(i:Int),0,⟨t,r.addr,v,u⟩,0⟩).2 k1 w') (hk:k1<99000)=>h.hop jM.out HE.out (gI.do_ lG.1 _) fQ.out a2 s t u v ch h2 (eH hp) hch hk hR)
 have kV:=hide (fun(w':World) (h:Hw W0 W [(W.heap.size,#[.int .i64 (i:Int),.int .i64 a2,.int .i64 s,.int .i64 t,.int .i64 u,.int .i64 v,.pointer none,.int .i64 ch,.bool true])] F g NR gw n S k w')=>h.bring HB hO hk (i:Int) a2 s t u v hp xC.out h2 hrd hB)
 clear h hb0 HB hO hp h2 hrd hB hR lG hch
 go_enter Tryz.func122,Tryz.ntmps122
 go_wp2_with fail
 have HW1:=hide (HW0.out.al #[.int .i64 (i:Int),.int .i64 a2,.int .i64 s,.int .i64 t,.int .i64 u,.int .i64 v,.pointer none,.int .i64 ch,.bool true] 207)
 obtain⟨A,hA⟩:∃A,W.heap.size=A:=⟨_,rfl⟩
 rw[hA]at HW1 kV
 try rw[hA]
 clear hA HW0
 generalize World.alloc W _=w1 at*
 refine aI (fun w'=>aB w' A #[.int .i64 (i:Int),.int .i64 a2,.int .i64 s,.int .i64 t,.int .i64 u,.int .i64 v,.pointer none,.int .i64 ch,.bool true]) 26 (by kernel_rfl) (HW1.out.d.get 0 rfl) (fun hS=>?_)
 refine rP 0 hS ?_
 refine rP 1 hS ?_
 refine rP 3 hS ?_
 refine rL 2 [5,6,7,26] rfl hS (by intro w hSw;have c0:=hSw.1 0 _ rfl;have c1:=hSw.1 1 _ rfl;go_simp;try with_reducible rfl) ?_
 refine rL 4 [5,6,7,26] rfl hS (by intro w hSw;have c0:=hSw.1 2 _ rfl;have c1:=hSw.1 3 _ rfl;have c2:=hSw.1 4 _ rfl;have c3:=hSw.1 5 _ rfl;go_simp;try with_reducible rfl) ?_
 intro inv
 refine rO 5 inv fun K hK=>?_
 go_simp
 refine(kV.out _ HW1.out.d).mono ?_
 rintro e W1 ⟨rfl,k1,hw,hk1⟩
 clear HW1 kV
 have HW1:=hide hw
 have HK:=hide hk1
 clear hw hk1
 refine hK.out _ _ (fun _=>HW1.out.get 0 rfl) ?_
 clear hK K hS inv
 intro inv
 try simp only[Act.put,aD,aF,aG]
 have hS:=HW1.out.get 0 rfl
 revert inv
 refine rP 6 hS ?_
 refine rP 7 hS ?_
 refine rP 8 hS ?_
 refine rL 9 [10,11,25,26] rfl hS (by intro w hSw;have c6:=hSw.1 6 _ rfl;go_simp;try with_reducible rfl) ?_
 refine rP 10 hS ?_
 refine rP 11 hS ?_
 refine rK 12 hS ?_
 refine rK 13 hS ?_
 refine rK 14 hS ?_
 refine rK 15 hS ?_
 refine rK 16 hS ?_
 refine rK 17 hS ?_
 refine rK 18 hS ?_
 refine rK 19 hS ?_
 refine rK 20 hS ?_
 refine rK 21 hS ?_
 refine rK 22 hS ?_
 refine rK 23 hS ?_
 refine rK 24 hS ?_
 refine rP 25 hS ?_
 intro inv
 refine rT 26 inv fun K hK=>?_
 go_simp
 refine hK.out _ _ ?_
 clear hK K inv
 intro inv
 try simp only[Act.put,aD,aF,aG]
 refine rD ?_
 clear inv
 clear hS
 go_wp2_with fail
 have HF:=hide (fun(w':World) (hb:Below W1.heap.size W1 w')=>show
   w'.cell? ⟨A,0,none⟩=some (.int .i64 (i:Int))∧w'.cell? ⟨g,0,none⟩=some (.slice (some ⟨db,od,none⟩) dn n.dc)∧
   (w'.cell? ⟨db,od+i*7,none⟩=some (.string r.name)∧w'.cell? ⟨db,od+i*7+1,none⟩=some (.int .i64 r.kind)∧w'.cell? ⟨db,od+i*7+2,none⟩=some (.int .i64 r.addr)∧w'.cell? ⟨db,od+i*7+3,none⟩=some (.int .u8 r.pool)∧
   w'.cell? ⟨db,od+i*7+4,none⟩=some (.slice r.bA r.bn r.bc)∧w'.cell? ⟨db,od+i*7+5,none⟩=some (.slice r.rA r.rn r.rc)∧w'.cell? ⟨db,od+i*7+6,none⟩=some (.slice r.tA r.tn r.tc))from by
  have hw:=HW1.out.below hb
  have hs:=(HN.out _ hw.bl).ds
  rw[bU.out]at hs
  obtain⟨_,q⟩:=dF hs fQ.out
  exact⟨(hw.get 0 rfl).1 0 _ rfl,by rw[← bU.out,← fG.out];exact hw.cells.1,q⟩)
 refine aI (fun w'=>Below W1.heap.size W1 w') 11 (by kernel_rfl) ((Below.refl _ _).drew) (fun hS=>?_)
 refine rP 0 hS ?_
 refine rP 1 hS ?_
 refine rP 2 hS ?_
 refine rP 3 hS ?_
 refine rL 4 [11] rfl hS (by intro w hSw;obtain⟨s0,s1,s2,s3,s4,s5,s6,s7,s8⟩:=HF.out _ hSw;go_simp;try with_reducible rfl) ?_
 refine rP 5 hS ?_
 refine rP 6 hS ?_
 refine rL 7 [11] rfl hS (by intro w hSw;obtain⟨s0,s1,s2,s3,s4,s5,s6,s7,s8⟩:=HF.out _ hSw;go_simp;try with_reducible rfl) ?_
 refine rP 8 hS ?_
 refine rL 9 [11] rfl hS (by intro w hSw;obtain⟨s0,s1,s2,s3,s4,s5,s6,s7,s8⟩:=HF.out _ hSw;go_simp;try with_reducible rfl) ?_
 intro inv
 refine rO 10 inv fun K hK=>?_
 go_simp
 refine hK.out _ _ (fun _=>(hS.alloc hS.size _)) ?_
 clear hK K hS inv
 intro inv
 try simp only[Act.put,aD,aF,aG]
 have cZ:=hide (show aB ((W1.alloc (.cells #[.string ⟨#[]⟩,.int .i64 0,.int .i64 0,.int .u8 0,.slice none 0 0,.slice none 0 0,.slice none 0 0] 86)).drew) W1.heap.size #[.string ⟨#[]⟩,.int .i64 0,.int .i64 0,.int .u8 0,.slice none 0 0,.slice none 0 0,.slice none 0 0]from(aB.new W1 _ _).below ((Below.refl (W1.heap.size+1) _).drew) (Nat.lt_succ_self _))
 refine rT 11 inv fun K hK=>?_
 rw[if_pos (by rfl)]
 refine wp_store_mid _ _ _ rfl _ _ r.arr rfl rfl (cZ.out.there (Nat.le_refl _)) bY (by first | exact aA.dO _ | simp[Value.oneCell']) ?_
 refine hK.out _ _ ?_
 clear hK K inv
 intro inv
 try simp only[Act.put,aD,aF,aG]
 refine rD ?_
 clear inv
 have HW2:=hide (HW1.out.dev #[.string ⟨#[]⟩,.int .i64 0,.int .i64 0,.int .u8 0,.slice none 0 0,.slice none 0 0,.slice none 0 0] 86 rfl r)
 obtain⟨G,hG⟩:∃G,W1.heap.size=G:=⟨_,rfl⟩
 rw[hG]at HW2
 rw[hG]
 clear hG cZ HF HW1
 generalize World.setCells _ _ _ _=w2 at*
 clear i1 i2 i3 HN bU fG
 have b8:w2.cell? ⟨A,8,none⟩=some (.bool true):=(HW2.out.get 1 rfl).1 8 _ rfl
 have b0:w2.cell? ⟨A,0,none⟩=some (.int .i64 (i:Int)):=(HW2.out.get 1 rfl).1 0 _ rfl
 have b3:w2.cell? ⟨A,3,none⟩=some (.int .i64 t):=(HW2.out.get 1 rfl).1 3 _ rfl
 have b4:w2.cell? ⟨A,4,none⟩=some (.int .i64 u):=(HW2.out.get 1 rfl).1 4 _ rfl
 have b5:w2.cell? ⟨A,5,none⟩=some (.int .i64 v):=(HW2.out.get 1 rfl).1 5 _ rfl
 have d2:w2.cell? ⟨G,2,none⟩=some (.int .i64 r.addr):=(HW2.out.get 0 rfl).1 2 _ rfl
 have hk1:=HK.out.2 rfl
 have hl1:=yX.out.le
 simp only at hk1
 go_wp2_with fail
 refine(HW2.out.act HE.out yX.out 3 (i:Int) 0 t r.addr v u 0 ⟨by simp[ay],xC.out,by simp[ay],⟨tK.out.2.1,jW.out.ad,tK.out.2.2.2,tK.out.2.2.1⟩,by simp[ay]⟩ (by omega)).mono ?_
 rintro e w3 ⟨rfl,hw3⟩
 clear HW2 b0 b3 b4 b5 b8 d2
 have HW2:=hide hw3
 have yT:=hide (show S1.L.length≤(iN n.au n.ls S1 ⟨3,(i:Int),0,⟨t,r.addr,v,u⟩,0⟩).2.L.length from HDG.out)
 generalize (iN n.au n.ls S1 ⟨3,(i:Int),0,⟨t,r.addr,v,u⟩,0⟩)=D3 at*
 obtain⟨D3b,S3⟩:=D3
 simp only at HW2 HH xH yT
 clear hw3
 have hk3:k1+1≤20*S3.L.length+1:=by have:=yT.out;omega
 have D5:k1+1<99000:=by omega
 clear hk1 hl1 HDG
 go_wp2_with fail
 refine aI (fun w'=>aB w' A #[.int .i64 (i:Int),.int .i64 a2,.int .i64 s,.int .i64 t,.int .i64 u,.int .i64 v,.pointer none,.int .i64 ch,.bool true]) 19 (by kernel_rfl) (HW2.out.d.get 1 rfl) (fun hS=>?_)
 refine rP 0 hS ?_
 refine rL 1 [2,3,19] rfl hS (by intro w hSw;have c6:=hSw.1 6 _ rfl;go_simp;try with_reducible rfl) ?_
 refine rP 2 hS ?_
 refine rP 3 hS ?_
 refine rK 4 hS ?_
 refine rK 5 hS ?_
 refine rK 6 hS ?_
 refine rK 7 hS ?_
 refine rK 8 hS ?_
 refine rK 9 hS ?_
 refine rK 10 hS ?_
 refine rK 11 hS ?_
 refine rK 12 hS ?_
 refine rK 13 hS ?_
 refine rK 14 hS ?_
 refine rK 15 hS ?_
 refine rK 16 hS ?_
 refine rK 17 hS ?_
 refine rK 18 hS ?_
 intro inv
 refine rT 19 inv fun K hK=>?_
 go_simp
 refine hK.out _ _ ?_
 clear hK K inv
 intro inv
 try simp only[Act.put,aD,aF,aG]
 refine rD ?_
 clear inv
 clear hS
 have b0:(w3.drew).cell? ⟨A,0,none⟩=some (.int .i64 (i:Int)):=(HW2.out.d.get 1 rfl).1 0 _ rfl
 have b1:(w3.drew).cell? ⟨A,1,none⟩=some (.int .i64 a2):=(HW2.out.d.get 1 rfl).1 1 _ rfl
 have b2:(w3.drew).cell? ⟨A,2,none⟩=some (.int .i64 s):=(HW2.out.d.get 1 rfl).1 2 _ rfl
 have b3:(w3.drew).cell? ⟨A,3,none⟩=some (.int .i64 t):=(HW2.out.d.get 1 rfl).1 3 _ rfl
 have b4:(w3.drew).cell? ⟨A,4,none⟩=some (.int .i64 u):=(HW2.out.d.get 1 rfl).1 4 _ rfl
 have b5:(w3.drew).cell? ⟨A,5,none⟩=some (.int .i64 v):=(HW2.out.d.get 1 rfl).1 5 _ rfl
 have b7:(w3.drew).cell? ⟨A,7,none⟩=some (.int .i64 ch):=(HW2.out.d.get 1 rfl).1 7 _ rfl
 have Il:=hide (HH.out _ _ _ HW2.out.d D5)
 clear HH HW2
 generalize World.drew w3=w5 at*
 go_wp2_with fail
 refine Il.out.mono ?_
 rintro e w6 ⟨rfl,k6,Bt,Im⟩
 have ql:=hide Bt
 have GY:=hide Im
 clear Bt Im Il b0 b1 b2 b3 b4 b5 b7
 go_wp2
 go_ret
 refine⟨rfl,k6,ql.out.go,?_⟩
 obtain⟨_,q1,q2⟩:=xH.out
 have q3:=q1.len
 have q4:=GY.out
 try simp only at q2 q3
 refine⟨?_,fun e=>?_⟩
 ·show k6≤20*RS.L.length+40
  omega
 ·have:=q2 e
  show k6≤20*RS.L.length
  omega
end Go.Proofs.YtlhmdcgckocidaaGreat
