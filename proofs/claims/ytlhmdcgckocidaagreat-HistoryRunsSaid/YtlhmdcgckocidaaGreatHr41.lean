/- A part of the proof: Hs14. -/
import Derived.Test.YtlhmdcgckocidaaGreatHr40
set_option linter.unusedVariables false
set_option linter.unusedSimpArgs false
set_option maxRecDepth 100000
set_option maxHeartbeats 16000000
namespace Go.Proofs.YtlhmdcgckocidaaGreat
open Go.Maps Go.RowKit
theorem D7 {W0 W:World} {F:Nat→Prop} {g NR gw:Nat} {n:aH} {S:bP} {k K f:Nat} (h:iU W0 W F g NR gw n S k) (hb0:Below W0.heap.size W0 W) (hN:bf W0 W0.heap.size n) (hE:dD n.au n.ls=0) (HB:o7 W0 g NR gw n K f) (hO:gI n.au n.ls S) (hk:k≤20*S.L.length) {i:Nat} {r:aA} (hr:n.ds[i]?=some r)
  (a2 s t u v ch:Int) (nb:Nat) (y2 z0 z1 z2 z3:Int) (hnb:nb<W.heap.size∧aB W nb #[.int .i64 (i:Int),.int .i64 y2,.int .i64 z0,.int .i64 z1,.int .i64 z2,.int .i64 z3]∧¬F nb) (hp:aV ⟨s,t,u,v⟩=true) (hpz:aV ⟨z0,z1,z2,z3⟩=true) (h2:ay a2) (hy2:ay y2) (hch:ay ch) (hrd:0≤aJ n.au n.ls K ((i:Int),a2) ⟨s,t,u,v⟩∧aJ n.au n.ls K ((i:Int),a2) ⟨s,t,u,v⟩ <(f:Int)) (Cc:0≤aJ n.au n.ls K ((i:Int),y2) ⟨z0,z1,z2,z3⟩∧aJ n.au n.ls K ((i:Int),y2) ⟨z0,z1,z2,z3⟩ <(f:Int)) {S1:bP} (hB:cO n.au n.ls (aJ n.au n.ls K) f S ((i:Int),a2) ⟨s,t,u,v⟩=(true,S1)) {S2:bP} (hB2:cO n.au n.ls (aJ n.au n.ls K) f S1 ((i:Int),y2) ⟨z0,z1,z2,z3⟩=(false,S2)):
  Calls Tryz.prog 122 #[.pointer (some ⟨g,0,none⟩),.agg #[.int .i64 (i:Int),.int .i64 a2,.int .i64 s,.int .i64 t,.int .i64 u,.int .i64 v,.pointer (some ⟨nb,0,none⟩),.int .i64 ch,.bool false]] W fun e W'=>e= .returned (.bool false)∧∃k',kP W0 W W' F g NR gw n S2 k'∧Dq k' (false,S2):=by
 have lG:=(jy (ds:=n.au) (ls:=n.ls) (aJ n.au n.ls K) f).ok S ((i:Int),a2) ⟨s,t,u,v⟩ hO
 rw[hB]at lG
 have yX:=hide lG.1
 have uz:=(jy (ds:=n.au) (ls:=n.ls) (aJ n.au n.ls K) f).ok S1 ((i:Int),y2) ⟨z0,z1,z2,z3⟩ lG.1
 rw[hB2]at uz
 have En:=hide uz.1
 have HW0:=hide (Hw.Lx (L:=[(nb,#[.int .i64 (i:Int),.int .i64 y2,.int .i64 z0,.int .i64 z1,.int .i64 z2,.int .i64 z3])]) h hb0 (fun x hx=>by obtain rfl:=List.mem_singleton.1 hx;exact⟨hnb.2.1,hnb.1,hnb.2.2⟩))
 have hdl:=(dH hE).dl
 rw[fq hN]at hdl
 have jM:=hide hN
 have HN:=hide (fun(w':World) (hb:Below W0.heap.size W0 w')=>show bf w' w'.heap.size n from hN.below hb hb.size)
 have hin:i<n.dn:=by rw[← hN.eZ];exact(List.getElem?_eq_some_iff.1 hr).1
 have HE:=hide hE
 have fQ:=hide hr
 have jW:=hide (hN.gy r (List.mem_of_getElem? hr))
 obtain⟨db,od,dN,_⟩:=(HN.out _ hb0).ds.2 (by omega)
 have bU:=hide dN
 obtain⟨dn,hdn⟩:∃dn,n.dn=dn:=⟨_,rfl⟩
 have fG:=hide hdn
 rw[hdn]at hin hdl
 have xC:=hide (show ay (i:Int)from by unfold ay;omega)
 clear hr dN hdn hN hE
 have i1:(0:Int)≤(i:Int):=by omega
 have i2:(i:Int)<(dn:Int):=by omega
 have i3:(dn:Int)≤10:=by omega
 have kV:=hide (fun(w':World) (h:Hw W0 W [(W.heap.size,#[.int .i64 (i:Int),.int .i64 a2,.int .i64 s,.int .i64 t,.int .i64 u,.int .i64 v,.pointer (some ⟨nb,0,none⟩),.int .i64 ch,.bool false]),(nb,#[.int .i64 (i:Int),.int .i64 y2,.int .i64 z0,.int .i64 z1,.int .i64 z2,.int .i64 z3])] F g NR gw n S k w')=>h.bring HB hO hk (i:Int) a2 s t u v hp xC.out h2 hrd hB)
 have xI:=hide (fun(w':World) (k1:Nat) (hk:k1≤20*S1.L.length) (h:Hw W0 W [(W.heap.size,#[.int .i64 (i:Int),.int .i64 a2,.int .i64 s,.int .i64 t,.int .i64 u,.int .i64 v,.pointer (some ⟨nb,0,none⟩),.int .i64 ch,.bool false]),(nb,#[.int .i64 (i:Int),.int .i64 y2,.int .i64 z0,.int .i64 z1,.int .i64 z2,.int .i64 z3])] F g NR gw n S1 k1 w')=>h.bring HB yX.out hk (i:Int) y2 z0 z1 z2 z3 hpz xC.out hy2 Cc hB2)
 clear h hb0 HB hO hp hpz h2 hy2 hrd Cc hB hB2 lG uz hch hnb
 go_enter Tryz.func122,Tryz.ntmps122
 go_wp2_with fail
 have HW1:=hide (HW0.out.al #[.int .i64 (i:Int),.int .i64 a2,.int .i64 s,.int .i64 t,.int .i64 u,.int .i64 v,.pointer (some ⟨nb,0,none⟩),.int .i64 ch,.bool false] 207)
 obtain⟨A,hA⟩:∃A,W.heap.size=A:=⟨_,rfl⟩
 rw[hA]at HW1 kV xI
 try rw[hA]
 clear hA HW0
 generalize World.alloc W _=w1 at*
 refine aI (fun w'=>aB w' A #[.int .i64 (i:Int),.int .i64 a2,.int .i64 s,.int .i64 t,.int .i64 u,.int .i64 v,.pointer (some ⟨nb,0,none⟩),.int .i64 ch,.bool false]∧aB w' nb #[.int .i64 (i:Int),.int .i64 y2,.int .i64 z0,.int .i64 z1,.int .i64 z2,.int .i64 z3]) 26 (by kernel_rfl) ⟨HW1.out.d.get 0 rfl,HW1.out.d.get 1 rfl⟩ (fun hS=>?_)
 refine rP 0 hS ?_
 refine rP 1 hS ?_
 refine rP 3 hS ?_
 refine rL 2 [5,6,7,26] rfl hS (by intro w hSw;have c0:=hSw.1.1 0 _ rfl;have c1:=hSw.1.1 1 _ rfl;go_simp;try with_reducible rfl) ?_
 refine rL 4 [5,6,7,26] rfl hS (by intro w hSw;have c0:=hSw.1.1 2 _ rfl;have c1:=hSw.1.1 3 _ rfl;have c2:=hSw.1.1 4 _ rfl;have c3:=hSw.1.1 5 _ rfl;go_simp;try with_reducible rfl) ?_
 intro inv
 refine rO 5 inv fun K hK=>?_
 go_simp
 refine(kV.out _ HW1.out.d).mono ?_
 rintro e wp ⟨rfl,k1,hw,hk1⟩
 clear HW1 kV
 have HW1:=hide hw
 have hk1:=hk1.2 rfl
 simp only at hk1
 clear hw
 refine hK.out _ _ (fun _=>⟨HW1.out.get 0 rfl,HW1.out.get 1 rfl⟩) ?_
 clear hK K hS inv
 intro inv
 try simp only[Act.put,aD,aF,aG]
 have hS:=And.intro (HW1.out.get 0 rfl) (HW1.out.get 1 rfl)
 revert inv
 refine rP 6 hS ?_
 refine rP 7 hS ?_
 refine rP 8 hS ?_
 refine rL 9 [10,11,25,26] rfl hS (by intro w hSw;have c6:=hSw.1.1 6 _ rfl;go_simp;try with_reducible rfl) ?_
 refine rP 10 hS ?_
 refine rP 11 hS ?_
 refine rP 12 hS ?_
 refine rP 13 hS ?_
 refine rL 14 [15,16,17,23,24,25,26] rfl hS (by intro w hSw;have c6:=hSw.1.1 6 _ rfl;go_simp;try with_reducible rfl) ?_
 refine rP 15 hS ?_
 refine rP 16 hS ?_
 refine rL 17 [23,24,25,26] rfl hS (by intro w hSw;have c0:=hSw.2.1 0 _ rfl;have c1:=hSw.2.1 1 _ rfl;go_simp;try with_reducible rfl) ?_
 refine rP 18 hS ?_
 refine rL 19 [20,21,22,23,24,25,26] rfl hS (by intro w hSw;have c6:=hSw.1.1 6 _ rfl;go_simp;try with_reducible rfl) ?_
 refine rP 20 hS ?_
 refine rP 21 hS ?_
 refine rL 22 [23,24,25,26] rfl hS (by intro w hSw;have c0:=hSw.2.1 2 _ rfl;have c1:=hSw.2.1 3 _ rfl;have c2:=hSw.2.1 4 _ rfl;have c3:=hSw.2.1 5 _ rfl;go_simp;try with_reducible rfl) ?_
 intro inv
 refine rO 23 inv fun K hK=>?_
 go_simp
 refine(xI.out _ _ hk1 HW1.out).mono ?_
 rintro e W1 ⟨rfl,k2,hw,hk2⟩
 clear HW1 xI
 have HW1:=hide hw
 have HK:=hide hk2
 clear hw hk2 hk1
 refine hK.out _ _ (fun _=>⟨HW1.out.get 0 rfl,HW1.out.get 1 rfl⟩) ?_
 clear hK K hS inv
 intro inv
 try simp only[Act.put,aD,aF,aG]
 have hS:=And.intro (HW1.out.get 0 rfl) (HW1.out.get 1 rfl)
 revert inv
 refine rP 24 hS ?_
 refine rP 25 hS ?_
 intro inv
 refine rT 26 inv fun K hK=>?_
 go_simp
 refine hK.out _ _ ?_
 clear hK K inv
 intro inv
 try simp only[Act.put,aD,aF,aG]
 refine rD ?_
 clear inv
 clear hS
 go_wp2
 go_ret
 exact⟨rfl,k2,HW1.out.go,HK.out⟩
theorem FR {W0 W:World} {F:Nat→Prop} {g NR gw:Nat} {n:aH} {S:bP} {k K f:Nat} (h:iU W0 W F g NR gw n S k) (hb0:Below W0.heap.size W0 W) (hN:bf W0 W0.heap.size n) (hE:dD n.au n.ls=0) (HB:o7 W0 g NR gw n K f) (hO:gI n.au n.ls S) (hk:k≤20*S.L.length) {i:Nat} {r:aA} (hr:n.ds[i]?=some r)
  (a2 s t u v ch:Int) (nb:Nat) (y2 z0 z1 z2 z3:Int) (hnb:nb<W.heap.size∧aB W nb #[.int .i64 (i:Int),.int .i64 y2,.int .i64 z0,.int .i64 z1,.int .i64 z2,.int .i64 z3]∧¬F nb) (hp:aV ⟨s,t,u,v⟩=true) (hpz:aV ⟨z0,z1,z2,z3⟩=true) (h2:ay a2) (hy2:ay y2) (hch:ay ch) (hrd:0≤aJ n.au n.ls K ((i:Int),a2) ⟨s,t,u,v⟩∧aJ n.au n.ls K ((i:Int),a2) ⟨s,t,u,v⟩ <(f:Int)) (Cc:0≤aJ n.au n.ls K ((i:Int),y2) ⟨z0,z1,z2,z3⟩∧aJ n.au n.ls K ((i:Int),y2) ⟨z0,z1,z2,z3⟩ <(f:Int)) {S1:bP} (hB:cO n.au n.ls (aJ n.au n.ls K) f S ((i:Int),a2) ⟨s,t,u,v⟩=(true,S1)) {S2 S4:bP} (hB2:cO n.au n.ls (aJ n.au n.ls K) f S1 ((i:Int),y2) ⟨z0,z1,z2,z3⟩=(true,S2)) (hH:bW n.au n.ls S2 r.dev (i:Int) y2 ⟨z0,z1,z2,z3⟩ ch=(false,S4)):
  Calls Tryz.prog 122 #[.pointer (some ⟨g,0,none⟩),.agg #[.int .i64 (i:Int),.int .i64 a2,.int .i64 s,.int .i64 t,.int .i64 u,.int .i64 v,.pointer (some ⟨nb,0,none⟩),.int .i64 ch,.bool false]] W fun e W'=>e= .returned (.bool false)∧∃k',kP W0 W W' F g NR gw n S4 k'∧Dq k' (false,S4):=by
 have lG:=(jy (ds:=n.au) (ls:=n.ls) (aJ n.au n.ls K) f).ok S ((i:Int),a2) ⟨s,t,u,v⟩ hO
 rw[hB]at lG
 have yX:=hide lG.1
 have uz:=(jy (ds:=n.au) (ls:=n.ls) (aJ n.au n.ls K) f).ok S1 ((i:Int),y2) ⟨z0,z1,z2,z3⟩ lG.1
 rw[hB2]at uz
 have En:=hide uz.1
 have HW0:=hide (Hw.Lx (L:=[(nb,#[.int .i64 (i:Int),.int .i64 y2,.int .i64 z0,.int .i64 z1,.int .i64 z2,.int .i64 z3])]) h hb0 (fun x hx=>by obtain rfl:=List.mem_singleton.1 hx;exact⟨hnb.2.1,hnb.1,hnb.2.2⟩))
 have xH:=hide (uW (d:=r.dev) uz.1 (i:Int) y2 ⟨z0,z1,z2,z3⟩ ch)
 rw[hH]at xH
 have hdl:=(dH hE).dl
 rw[fq hN]at hdl
 have jM:=hide hN
 have HN:=hide (fun(w':World) (hb:Below W0.heap.size W0 w')=>show bf w' w'.heap.size n from hN.below hb hb.size)
 have hin:i<n.dn:=by rw[← hN.eZ];exact(List.getElem?_eq_some_iff.1 hr).1
 have HE:=hide hE
 have fQ:=hide hr
 have jW:=hide (hN.gy r (List.mem_of_getElem? hr))
 obtain⟨db,od,dN,_⟩:=(HN.out _ hb0).ds.2 (by omega)
 have bU:=hide dN
 obtain⟨dn,hdn⟩:∃dn,n.dn=dn:=⟨_,rfl⟩
 have fG:=hide hdn
 rw[hdn]at hin hdl
 have xC:=hide (show ay (i:Int)from by unfold ay;omega)
 clear hr dN hdn hN hE
 have i1:(0:Int)≤(i:Int):=by omega
 have i2:(i:Int)<(dn:Int):=by omega
 have i3:(dn:Int)≤10:=by omega
 have HH:=hide (fun(w':World) (k1:Nat) (L:List (Nat×Array Value)) (h:Hw W0 W L F g NR gw n S2 k1 w') (hk:k1<99000)=>h.hop jM.out HE.out En.out fQ.out y2 z0 z1 z2 z3 ch hy2 (eH hpz) hch hk hH)
 have kV:=hide (fun(w':World) (h:Hw W0 W [(W.heap.size,#[.int .i64 (i:Int),.int .i64 a2,.int .i64 s,.int .i64 t,.int .i64 u,.int .i64 v,.pointer (some ⟨nb,0,none⟩),.int .i64 ch,.bool false]),(nb,#[.int .i64 (i:Int),.int .i64 y2,.int .i64 z0,.int .i64 z1,.int .i64 z2,.int .i64 z3])] F g NR gw n S k w')=>h.bring HB hO hk (i:Int) a2 s t u v hp xC.out h2 hrd hB)
 have xI:=hide (fun(w':World) (k1:Nat) (hk:k1≤20*S1.L.length) (h:Hw W0 W [(W.heap.size,#[.int .i64 (i:Int),.int .i64 a2,.int .i64 s,.int .i64 t,.int .i64 u,.int .i64 v,.pointer (some ⟨nb,0,none⟩),.int .i64 ch,.bool false]),(nb,#[.int .i64 (i:Int),.int .i64 y2,.int .i64 z0,.int .i64 z1,.int .i64 z2,.int .i64 z3])] F g NR gw n S1 k1 w')=>h.bring HB yX.out hk (i:Int) y2 z0 z1 z2 z3 hpz xC.out hy2 Cc hB2)
 clear h hb0 HB hO hp hpz h2 hy2 hrd Cc hB hB2 hH lG uz hch hnb
 go_enter Tryz.func122,Tryz.ntmps122
 go_wp2_with fail
 have HW1:=hide (HW0.out.al #[.int .i64 (i:Int),.int .i64 a2,.int .i64 s,.int .i64 t,.int .i64 u,.int .i64 v,.pointer (some ⟨nb,0,none⟩),.int .i64 ch,.bool false] 207)
 obtain⟨A,hA⟩:∃A,W.heap.size=A:=⟨_,rfl⟩
 rw[hA]at HW1 kV xI
 try rw[hA]
 clear hA HW0
 generalize World.alloc W _=w1 at*
 refine aI (fun w'=>aB w' A #[.int .i64 (i:Int),.int .i64 a2,.int .i64 s,.int .i64 t,.int .i64 u,.int .i64 v,.pointer (some ⟨nb,0,none⟩),.int .i64 ch,.bool false]∧aB w' nb #[.int .i64 (i:Int),.int .i64 y2,.int .i64 z0,.int .i64 z1,.int .i64 z2,.int .i64 z3]) 26 (by kernel_rfl) ⟨HW1.out.d.get 0 rfl,HW1.out.d.get 1 rfl⟩ (fun hS=>?_)
 refine rP 0 hS ?_
 refine rP 1 hS ?_
 refine rP 3 hS ?_
 refine rL 2 [5,6,7,26] rfl hS (by intro w hSw;have c0:=hSw.1.1 0 _ rfl;have c1:=hSw.1.1 1 _ rfl;go_simp;try with_reducible rfl) ?_
 refine rL 4 [5,6,7,26] rfl hS (by intro w hSw;have c0:=hSw.1.1 2 _ rfl;have c1:=hSw.1.1 3 _ rfl;have c2:=hSw.1.1 4 _ rfl;have c3:=hSw.1.1 5 _ rfl;go_simp;try with_reducible rfl) ?_
 intro inv
 refine rO 5 inv fun K hK=>?_
 go_simp
 refine(kV.out _ HW1.out.d).mono ?_
 rintro e wp ⟨rfl,k1,hw,hk1⟩
 clear HW1 kV
 have HW1:=hide hw
 have hk1:=hk1.2 rfl
 simp only at hk1
 clear hw
 refine hK.out _ _ (fun _=>⟨HW1.out.get 0 rfl,HW1.out.get 1 rfl⟩) ?_
 clear hK K hS inv
 intro inv
 try simp only[Act.put,aD,aF,aG]
 have hS:=And.intro (HW1.out.get 0 rfl) (HW1.out.get 1 rfl)
 revert inv
 refine rP 6 hS ?_
 refine rP 7 hS ?_
 refine rP 8 hS ?_
 refine rL 9 [10,11,25,26] rfl hS (by intro w hSw;have c6:=hSw.1.1 6 _ rfl;go_simp;try with_reducible rfl) ?_
 refine rP 10 hS ?_
 refine rP 11 hS ?_
 refine rP 12 hS ?_
 refine rP 13 hS ?_
 refine rL 14 [15,16,17,23,24,25,26] rfl hS (by intro w hSw;have c6:=hSw.1.1 6 _ rfl;go_simp;try with_reducible rfl) ?_
 refine rP 15 hS ?_
 refine rP 16 hS ?_
 refine rL 17 [23,24,25,26] rfl hS (by intro w hSw;have c0:=hSw.2.1 0 _ rfl;have c1:=hSw.2.1 1 _ rfl;go_simp;try with_reducible rfl) ?_
 refine rP 18 hS ?_
 refine rL 19 [20,21,22,23,24,25,26] rfl hS (by intro w hSw;have c6:=hSw.1.1 6 _ rfl;go_simp;try with_reducible rfl) ?_
 refine rP 20 hS ?_
 refine rP 21 hS ?_
 refine rL 22 [23,24,25,26] rfl hS (by intro w hSw;have c0:=hSw.2.1 2 _ rfl;have c1:=hSw.2.1 3 _ rfl;have c2:=hSw.2.1 4 _ rfl;have c3:=hSw.2.1 5 _ rfl;go_simp;try with_reducible rfl) ?_
 intro inv
 refine rO 23 inv fun K hK=>?_
 go_simp
 refine(xI.out _ _ hk1 HW1.out).mono ?_
 rintro e W1 ⟨rfl,k2,hw,hk2⟩
 clear HW1 xI
 have HW1:=hide hw
 have HK:=hide hk2
 clear hw hk2 hk1
 refine hK.out _ _ (fun _=>⟨HW1.out.get 0 rfl,HW1.out.get 1 rfl⟩) ?_
 clear hK K hS inv
 intro inv
 try simp only[Act.put,aD,aF,aG]
 have hS:=And.intro (HW1.out.get 0 rfl) (HW1.out.get 1 rfl)
 revert inv
 refine rP 24 hS ?_
 refine rP 25 hS ?_
 intro inv
 refine rT 26 inv fun K hK=>?_
 go_simp
 refine hK.out _ _ ?_
 clear hK K inv
 intro inv
 try simp only[Act.put,aD,aF,aG]
 refine rD ?_
 clear inv
 clear hS
 go_wp2_with fail
 have HF:=hide (fun(w':World) (hb:Below W1.heap.size W1 w')=>show
   w'.cell? ⟨A,0,none⟩=some (.int .i64 (i:Int))∧w'.cell? ⟨g,0,none⟩=some (.slice (some ⟨db,od,none⟩) dn n.dc)∧
   (w'.cell? ⟨db,od+i*7,none⟩=some (.string r.name)∧w'.cell? ⟨db,od+i*7+1,none⟩=some (.int .i64 r.kind)∧w'.cell? ⟨db,od+i*7+2,none⟩=some (.int .i64 r.addr)∧w'.cell? ⟨db,od+i*7+3,none⟩=some (.int .u8 r.pool)∧
   w'.cell? ⟨db,od+i*7+4,none⟩=some (.slice r.bA r.bn r.bc)∧w'.cell? ⟨db,od+i*7+5,none⟩=some (.slice r.rA r.rn r.rc)∧w'.cell? ⟨db,od+i*7+6,none⟩=some (.slice r.tA r.tn r.tc))from by
  have hw:=HW1.out.below hb
  have hs:=(HN.out _ hw.bl).ds
  rw[bU.out]at hs
  obtain⟨_,q⟩:=dF hs fQ.out
  exact⟨(hw.get 0 rfl).1 0 _ rfl,by rw[← bU.out,← fG.out];exact hw.cells.1,q⟩)
 refine aI (fun w'=>Below W1.heap.size W1 w') 11 (by kernel_rfl) ((Below.refl _ _).drew) (fun hS=>?_)
 refine rP 0 hS ?_
 refine rP 1 hS ?_
 refine rP 2 hS ?_
 refine rP 3 hS ?_
 refine rL 4 [11] rfl hS (by intro w hSw;obtain⟨s0,s1,s2,s3,s4,s5,s6,s7,s8⟩:=HF.out _ hSw;go_simp;try with_reducible rfl) ?_
 refine rP 5 hS ?_
 refine rP 6 hS ?_
 refine rL 7 [11] rfl hS (by intro w hSw;obtain⟨s0,s1,s2,s3,s4,s5,s6,s7,s8⟩:=HF.out _ hSw;go_simp;try with_reducible rfl) ?_
 refine rP 8 hS ?_
 refine rL 9 [11] rfl hS (by intro w hSw;obtain⟨s0,s1,s2,s3,s4,s5,s6,s7,s8⟩:=HF.out _ hSw;go_simp;try with_reducible rfl) ?_
 intro inv
 refine rO 10 inv fun K hK=>?_
 go_simp
 refine hK.out _ _ (fun _=>(hS.alloc hS.size _)) ?_
 clear hK K hS inv
 intro inv
 try simp only[Act.put,aD,aF,aG]
 have cZ:=hide (show aB ((W1.alloc (.cells #[.string ⟨#[]⟩,.int .i64 0,.int .i64 0,.int .u8 0,.slice none 0 0,.slice none 0 0,.slice none 0 0] 86)).drew) W1.heap.size #[.string ⟨#[]⟩,.int .i64 0,.int .i64 0,.int .u8 0,.slice none 0 0,.slice none 0 0,.slice none 0 0]from(aB.new W1 _ _).below ((Below.refl (W1.heap.size+1) _).drew) (Nat.lt_succ_self _))
 refine rT 11 inv fun K hK=>?_
 rw[if_pos (by rfl)]
 refine wp_store_mid _ _ _ rfl _ _ r.arr rfl rfl (cZ.out.there (Nat.le_refl _)) bY (by first | exact aA.dO _ | simp[Value.oneCell']) ?_
 refine hK.out _ _ ?_
 clear hK K inv
 intro inv
 try simp only[Act.put,aD,aF,aG]
 refine rD ?_
 clear inv
 have HW2:=hide (HW1.out.dev #[.string ⟨#[]⟩,.int .i64 0,.int .i64 0,.int .u8 0,.slice none 0 0,.slice none 0 0,.slice none 0 0] 86 rfl r)
 obtain⟨G,hG⟩:∃G,W1.heap.size=G:=⟨_,rfl⟩
 rw[hG]at HW2
 rw[hG]
 clear hG cZ HF HW1
 generalize World.setCells _ _ _ _=w2 at*
 clear i1 i2 i3 HN bU fG
 have b8:w2.cell? ⟨A,8,none⟩=some (.bool false):=(HW2.out.get 1 rfl).1 8 _ rfl
 have hk2:=HK.out.2 rfl
 have hl2:=En.out.le
 simp only at hk2
 have D5:k2<99000:=by omega
 go_wp2_with fail
 clear b8
 refine aI (fun w'=>aB w' A #[.int .i64 (i:Int),.int .i64 a2,.int .i64 s,.int .i64 t,.int .i64 u,.int .i64 v,.pointer (some ⟨nb,0,none⟩),.int .i64 ch,.bool false]∧aB w' nb #[.int .i64 (i:Int),.int .i64 y2,.int .i64 z0,.int .i64 z1,.int .i64 z2,.int .i64 z3]) 19 (by kernel_rfl) ⟨HW2.out.d.get 1 rfl,HW2.out.d.get 2 rfl⟩ (fun hS=>?_)
 refine rP 0 hS ?_
 refine rL 1 [2,3,19] rfl hS (by intro w hSw;have c6:=hSw.1.1 6 _ rfl;go_simp;try with_reducible rfl) ?_
 refine rP 2 hS ?_
 refine rP 3 hS ?_
 refine rP 4 hS ?_
 refine rP 5 hS ?_
 refine rL 6 [7,8,9,17,18,19] rfl hS (by intro w hSw;have c6:=hSw.1.1 6 _ rfl;go_simp;try with_reducible rfl) ?_
 refine rP 7 hS ?_
 refine rP 8 hS ?_
 refine rL 9 [17,18,19] rfl hS (by intro w hSw;have c0:=hSw.2.1 0 _ rfl;have c1:=hSw.2.1 1 _ rfl;go_simp;try with_reducible rfl) ?_
 refine rP 10 hS ?_
 refine rL 11 [12,13,14,17,18,19] rfl hS (by intro w hSw;have c6:=hSw.1.1 6 _ rfl;go_simp;try with_reducible rfl) ?_
 refine rP 12 hS ?_
 refine rP 13 hS ?_
 refine rL 14 [17,18,19] rfl hS (by intro w hSw;have c0:=hSw.2.1 2 _ rfl;have c1:=hSw.2.1 3 _ rfl;have c2:=hSw.2.1 4 _ rfl;have c3:=hSw.2.1 5 _ rfl;go_simp;try with_reducible rfl) ?_
 refine rP 15 hS ?_
 refine rL 16 [17,18,19] rfl hS (by intro w hSw;have c6:=hSw.1.1 7 _ rfl;go_simp;try with_reducible rfl) ?_
 intro inv
 refine rO 17 inv fun K hK=>?_
 go_simp
 refine(HH.out _ _ _ HW2.out.d D5).mono ?_
 rintro e w4 ⟨rfl,k4,hw,hk4⟩
 clear HW2 HH
 have HW2:=hide hw
 clear hw
 refine hK.out _ _ (fun _=>⟨HW2.out.get 1 rfl,HW2.out.get 2 rfl⟩) ?_
 clear hK K hS inv
 intro inv
 try simp only[Act.put,aD,aF,aG]
 have hS:=And.intro (HW2.out.get 1 rfl) (HW2.out.get 2 rfl)
 revert inv
 refine rP 18 hS ?_
 intro inv
 refine rT 19 inv fun K hK=>?_
 go_simp
 refine hK.out _ _ ?_
 clear hK K inv
 intro inv
 try simp only[Act.put,aD,aF,aG]
 refine rD ?_
 clear inv
 clear hS
 go_wp2
 go_ret
 refine⟨rfl,k4,HW2.out.go,?_⟩
 obtain⟨_,q1,q2⟩:=xH.out
 have q3:=q1.len
 try simp only at q3
 refine⟨?_,fun e=>by cases e⟩
 show k4≤20*S4.L.length+40
 omega
theorem I7 {W0 W:World} {F:Nat→Prop} {g NR gw:Nat} {n:aH} {S:bP} {k K f:Nat} (h:iU W0 W F g NR gw n S k) (hb0:Below W0.heap.size W0 W) (hN:bf W0 W0.heap.size n) (hE:dD n.au n.ls=0) (HB:o7 W0 g NR gw n K f) (hO:gI n.au n.ls S) (hk:k≤20*S.L.length) {i:Nat} {r:aA} (hr:n.ds[i]?=some r)
  (a2 s t u v ch:Int) (nb:Nat) (y2 z0 z1 z2 z3:Int) (hnb:nb<W.heap.size∧aB W nb #[.int .i64 (i:Int),.int .i64 y2,.int .i64 z0,.int .i64 z1,.int .i64 z2,.int .i64 z3]∧¬F nb) (hp:aV ⟨s,t,u,v⟩=true) (hpz:aV ⟨z0,z1,z2,z3⟩=true) (h2:ay a2) (hy2:ay y2) (hch:ay ch) (hrd:0≤aJ n.au n.ls K ((i:Int),a2) ⟨s,t,u,v⟩∧aJ n.au n.ls K ((i:Int),a2) ⟨s,t,u,v⟩ <(f:Int)) (Cc:0≤aJ n.au n.ls K ((i:Int),y2) ⟨z0,z1,z2,z3⟩∧aJ n.au n.ls K ((i:Int),y2) ⟨z0,z1,z2,z3⟩ <(f:Int)) {S1:bP} (hB:cO n.au n.ls (aJ n.au n.ls K) f S ((i:Int),a2) ⟨s,t,u,v⟩=(true,S1)) {S2 S4:bP} (hB2:cO n.au n.ls (aJ n.au n.ls K) f S1 ((i:Int),y2) ⟨z0,z1,z2,z3⟩=(true,S2)) (hH:bW n.au n.ls S2 r.dev (i:Int) y2 ⟨z0,z1,z2,z3⟩ ch=(true,S4)) {R:Bool×bP} (hR:bW n.au n.ls S4 r.dev (i:Int) a2 ⟨s,t,u,v⟩ ch=R):
  Calls Tryz.prog 122 #[.pointer (some ⟨g,0,none⟩),.agg #[.int .i64 (i:Int),.int .i64 a2,.int .i64 s,.int .i64 t,.int .i64 u,.int .i64 v,.pointer (some ⟨nb,0,none⟩),.int .i64 ch,.bool false]] W fun e W'=>e= .returned (.bool R.1)∧∃k',kP W0 W W' F g NR gw n R.2 k'∧Dq k' R:=by
 obtain⟨Rb,RS⟩:=R
 have lG:=(jy (ds:=n.au) (ls:=n.ls) (aJ n.au n.ls K) f).ok S ((i:Int),a2) ⟨s,t,u,v⟩ hO
 rw[hB]at lG
 have yX:=hide lG.1
 have uz:=(jy (ds:=n.au) (ls:=n.ls) (aJ n.au n.ls K) f).ok S1 ((i:Int),y2) ⟨z0,z1,z2,z3⟩ lG.1
 rw[hB2]at uz
 have En:=hide uz.1
 have HW0:=hide (Hw.Lx (L:=[(nb,#[.int .i64 (i:Int),.int .i64 y2,.int .i64 z0,.int .i64 z1,.int .i64 z2,.int .i64 z3])]) h hb0 (fun x hx=>by obtain rfl:=List.mem_singleton.1 hx;exact⟨hnb.2.1,hnb.1,hnb.2.2⟩))
 have xH:=hide (uW (d:=r.dev) uz.1 (i:Int) y2 ⟨z0,z1,z2,z3⟩ ch)
 rw[hH]at xH
 have HHM:=hide (uW (d:=r.dev) xH.out.1 (i:Int) a2 ⟨s,t,u,v⟩ ch)
 rw[hR]at HHM
 have hdl:=(dH hE).dl
 rw[fq hN]at hdl
 have jM:=hide hN
 have HN:=hide (fun(w':World) (hb:Below W0.heap.size W0 w')=>show bf w' w'.heap.size n from hN.below hb hb.size)
 have hin:i<n.dn:=by rw[← hN.eZ];exact(List.getElem?_eq_some_iff.1 hr).1
 have HE:=hide hE
 have fQ:=hide hr
 have jW:=hide (hN.gy r (List.mem_of_getElem? hr))
 obtain⟨db,od,dN,_⟩:=(HN.out _ hb0).ds.2 (by omega)
 have bU:=hide dN
 obtain⟨dn,hdn⟩:∃dn,n.dn=dn:=⟨_,rfl⟩
 have fG:=hide hdn
 rw[hdn]at hin hdl
 have xC:=hide (show ay (i:Int)from by unfold ay;omega)
 clear hr dN hdn hN hE
 have i1:(0:Int)≤(i:Int):=by omega
 have i2:(i:Int)<(dn:Int):=by omega
 have i3:(dn:Int)≤10:=by omega
 have HH:=hide (fun(w':World) (k1:Nat) (L:List (Nat×Array Value)) (h:Hw W0 W L F g NR gw n S2 k1 w') (hk:k1<99000)=>h.hop jM.out HE.out En.out fQ.out y2 z0 z1 z2 z3 ch hy2 (eH hpz) hch hk hH)
 have HH2:=hide (fun(w':World) (k1:Nat) (L:List (Nat×Array Value)) (h:Hw W0 W L F g NR gw n S4 k1 w') (hk:k1<99000)=>h.hop jM.out HE.out xH.out.1 fQ.out a2 s t u v ch h2 (eH hp) hch hk hR)
 clear hR
 have kV:=hide (fun(w':World) (h:Hw W0 W [(W.heap.size,#[.int .i64 (i:Int),.int .i64 a2,.int .i64 s,.int .i64 t,.int .i64 u,.int .i64 v,.pointer (some ⟨nb,0,none⟩),.int .i64 ch,.bool false]),(nb,#[.int .i64 (i:Int),.int .i64 y2,.int .i64 z0,.int .i64 z1,.int .i64 z2,.int .i64 z3])] F g NR gw n S k w')=>h.bring HB hO hk (i:Int) a2 s t u v hp xC.out h2 hrd hB)
 have xI:=hide (fun(w':World) (k1:Nat) (hk:k1≤20*S1.L.length) (h:Hw W0 W [(W.heap.size,#[.int .i64 (i:Int),.int .i64 a2,.int .i64 s,.int .i64 t,.int .i64 u,.int .i64 v,.pointer (some ⟨nb,0,none⟩),.int .i64 ch,.bool false]),(nb,#[.int .i64 (i:Int),.int .i64 y2,.int .i64 z0,.int .i64 z1,.int .i64 z2,.int .i64 z3])] F g NR gw n S1 k1 w')=>h.bring HB yX.out hk (i:Int) y2 z0 z1 z2 z3 hpz xC.out hy2 Cc hB2)
 clear h hb0 HB hO hp hpz h2 hy2 hrd Cc hB hB2 hH lG uz hch hnb
 go_enter Tryz.func122,Tryz.ntmps122
 go_wp2_with fail
 have HW1:=hide (HW0.out.al #[.int .i64 (i:Int),.int .i64 a2,.int .i64 s,.int .i64 t,.int .i64 u,.int .i64 v,.pointer (some ⟨nb,0,none⟩),.int .i64 ch,.bool false] 207)
 obtain⟨A,hA⟩:∃A,W.heap.size=A:=⟨_,rfl⟩
 rw[hA]at HW1 kV xI
 try rw[hA]
 clear hA HW0
 generalize World.alloc W _=w1 at*
 refine aI (fun w'=>aB w' A #[.int .i64 (i:Int),.int .i64 a2,.int .i64 s,.int .i64 t,.int .i64 u,.int .i64 v,.pointer (some ⟨nb,0,none⟩),.int .i64 ch,.bool false]∧aB w' nb #[.int .i64 (i:Int),.int .i64 y2,.int .i64 z0,.int .i64 z1,.int .i64 z2,.int .i64 z3]) 26 (by kernel_rfl) ⟨HW1.out.d.get 0 rfl,HW1.out.d.get 1 rfl⟩ (fun hS=>?_)
 refine rP 0 hS ?_
 refine rP 1 hS ?_
 refine rP 3 hS ?_
 refine rL 2 [5,6,7,26] rfl hS (by intro w hSw;have c0:=hSw.1.1 0 _ rfl;have c1:=hSw.1.1 1 _ rfl;go_simp;try with_reducible rfl) ?_
 refine rL 4 [5,6,7,26] rfl hS (by intro w hSw;have c0:=hSw.1.1 2 _ rfl;have c1:=hSw.1.1 3 _ rfl;have c2:=hSw.1.1 4 _ rfl;have c3:=hSw.1.1 5 _ rfl;go_simp;try with_reducible rfl) ?_
 intro inv
 refine rO 5 inv fun K hK=>?_
 go_simp
 refine(kV.out _ HW1.out.d).mono ?_
 rintro e wp ⟨rfl,k1,hw,hk1⟩
 clear HW1 kV
 have HW1:=hide hw
 have hk1:=hk1.2 rfl
 simp only at hk1
 clear hw
 refine hK.out _ _ (fun _=>⟨HW1.out.get 0 rfl,HW1.out.get 1 rfl⟩) ?_
 clear hK K hS inv
 intro inv
 try simp only[Act.put,aD,aF,aG]
 have hS:=And.intro (HW1.out.get 0 rfl) (HW1.out.get 1 rfl)
 revert inv
 refine rP 6 hS ?_
 refine rP 7 hS ?_
 refine rP 8 hS ?_
 refine rL 9 [10,11,25,26] rfl hS (by intro w hSw;have c6:=hSw.1.1 6 _ rfl;go_simp;try with_reducible rfl) ?_
 refine rP 10 hS ?_
 refine rP 11 hS ?_
 refine rP 12 hS ?_
 refine rP 13 hS ?_
 refine rL 14 [15,16,17,23,24,25,26] rfl hS (by intro w hSw;have c6:=hSw.1.1 6 _ rfl;go_simp;try with_reducible rfl) ?_
 refine rP 15 hS ?_
 refine rP 16 hS ?_
 refine rL 17 [23,24,25,26] rfl hS (by intro w hSw;have c0:=hSw.2.1 0 _ rfl;have c1:=hSw.2.1 1 _ rfl;go_simp;try with_reducible rfl) ?_
 refine rP 18 hS ?_
 refine rL 19 [20,21,22,23,24,25,26] rfl hS (by intro w hSw;have c6:=hSw.1.1 6 _ rfl;go_simp;try with_reducible rfl) ?_
 refine rP 20 hS ?_
 refine rP 21 hS ?_
 refine rL 22 [23,24,25,26] rfl hS (by intro w hSw;have c0:=hSw.2.1 2 _ rfl;have c1:=hSw.2.1 3 _ rfl;have c2:=hSw.2.1 4 _ rfl;have c3:=hSw.2.1 5 _ rfl;go_simp;try with_reducible rfl) ?_
 intro inv
 refine rO 23 inv fun K hK=>?_
 go_simp
 refine(xI.out _ _ hk1 HW1.out).mono ?_
 rintro e W1 ⟨rfl,k2,hw,hk2⟩
 clear HW1 xI
 have HW1:=hide hw
 have HK:=hide hk2
 clear hw hk2 hk1
 refine hK.out _ _ (fun _=>⟨HW1.out.get 0 rfl,HW1.out.get 1 rfl⟩) ?_
 clear hK K hS inv
 intro inv
 try simp only[Act.put,aD,aF,aG]
 have hS:=And.intro (HW1.out.get 0 rfl) (HW1.out.get 1 rfl)
 revert inv
 refine rP 24 hS ?_
 refine rP 25 hS ?_
 intro inv
 refine rT 26 inv fun K hK=>?_
 go_simp
 refine hK.out _ _ ?_
 clear hK K inv
 intro inv
 try simp only[Act.put,aD,aF,aG]
 refine rD ?_
 clear inv
 clear hS
 go_wp2_with fail
 have HF:=hide (fun(w':World) (hb:Below W1.heap.size W1 w')=>show
   w'.cell? ⟨A,0,none⟩=some (.int .i64 (i:Int))∧w'.cell? ⟨g,0,none⟩=some (.slice (some ⟨db,od,none⟩) dn n.dc)∧
   (w'.cell? ⟨db,od+i*7,none⟩=some (.string r.name)∧w'.cell? ⟨db,od+i*7+1,none⟩=some (.int .i64 r.kind)∧w'.cell? ⟨db,od+i*7+2,none⟩=some (.int .i64 r.addr)∧w'.cell? ⟨db,od+i*7+3,none⟩=some (.int .u8 r.pool)∧
   w'.cell? ⟨db,od+i*7+4,none⟩=some (.slice r.bA r.bn r.bc)∧w'.cell? ⟨db,od+i*7+5,none⟩=some (.slice r.rA r.rn r.rc)∧w'.cell? ⟨db,od+i*7+6,none⟩=some (.slice r.tA r.tn r.tc))from by
  have hw:=HW1.out.below hb
  have hs:=(HN.out _ hw.bl).ds
  rw[bU.out]at hs
  obtain⟨_,q⟩:=dF hs fQ.out
  exact⟨(hw.get 0 rfl).1 0 _ rfl,by rw[← bU.out,← fG.out];exact hw.cells.1,q⟩)
 refine aI (fun w'=>Below W1.heap.size W1 w') 11 (by kernel_rfl) ((Below.refl _ _).drew) (fun hS=>?_)
 refine rP 0 hS ?_
 refine rP 1 hS ?_
 refine rP 2 hS ?_
 refine rP 3 hS ?_
 refine rL 4 [11] rfl hS (by intro w hSw;obtain⟨s0,s1,s2,s3,s4,s5,s6,s7,s8⟩:=HF.out _ hSw;go_simp;try with_reducible rfl) ?_
 refine rP 5 hS ?_
 refine rP 6 hS ?_
 refine rL 7 [11] rfl hS (by intro w hSw;obtain⟨s0,s1,s2,s3,s4,s5,s6,s7,s8⟩:=HF.out _ hSw;go_simp;try with_reducible rfl) ?_
 refine rP 8 hS ?_
 refine rL 9 [11] rfl hS (by intro w hSw;obtain⟨s0,s1,s2,s3,s4,s5,s6,s7,s8⟩:=HF.out _ hSw;go_simp;try with_reducible rfl) ?_
 intro inv
 refine rO 10 inv fun K hK=>?_
 go_simp
 refine hK.out _ _ (fun _=>(hS.alloc hS.size _)) ?_
 clear hK K hS inv
 intro inv
 try simp only[Act.put,aD,aF,aG]
 have cZ:=hide (show aB ((W1.alloc (.cells #[.string ⟨#[]⟩,.int .i64 0,.int .i64 0,.int .u8 0,.slice none 0 0,.slice none 0 0,.slice none 0 0] 86)).drew) W1.heap.size #[.string ⟨#[]⟩,.int .i64 0,.int .i64 0,.int .u8 0,.slice none 0 0,.slice none 0 0,.slice none 0 0]from(aB.new W1 _ _).below ((Below.refl (W1.heap.size+1) _).drew) (Nat.lt_succ_self _))
 refine rT 11 inv fun K hK=>?_
 rw[if_pos (by rfl)]
 refine wp_store_mid _ _ _ rfl _ _ r.arr rfl rfl (cZ.out.there (Nat.le_refl _)) bY (by first | exact aA.dO _ | simp[Value.oneCell']) ?_
 refine hK.out _ _ ?_
 clear hK K inv
 intro inv
 try simp only[Act.put,aD,aF,aG]
 refine rD ?_
 clear inv
 have HW2:=hide (HW1.out.dev #[.string ⟨#[]⟩,.int .i64 0,.int .i64 0,.int .u8 0,.slice none 0 0,.slice none 0 0,.slice none 0 0] 86 rfl r)
 obtain⟨G,hG⟩:∃G,W1.heap.size=G:=⟨_,rfl⟩
 rw[hG]at HW2
 rw[hG]
 clear hG cZ HF HW1
 generalize World.setCells _ _ _ _=w2 at*
 clear i1 i2 i3 HN bU fG
 have b8:w2.cell? ⟨A,8,none⟩=some (.bool false):=(HW2.out.get 1 rfl).1 8 _ rfl
 have hk2:=HK.out.2 rfl
 have hl2:=En.out.le
 simp only at hk2
 have D5:k2<99000:=by omega
 go_wp2_with fail
 clear b8
 refine aI (fun w'=>aB w' A #[.int .i64 (i:Int),.int .i64 a2,.int .i64 s,.int .i64 t,.int .i64 u,.int .i64 v,.pointer (some ⟨nb,0,none⟩),.int .i64 ch,.bool false]∧aB w' nb #[.int .i64 (i:Int),.int .i64 y2,.int .i64 z0,.int .i64 z1,.int .i64 z2,.int .i64 z3]) 19 (by kernel_rfl) ⟨HW2.out.d.get 1 rfl,HW2.out.d.get 2 rfl⟩ (fun hS=>?_)
 refine rP 0 hS ?_
 refine rL 1 [2,3,19] rfl hS (by intro w hSw;have c6:=hSw.1.1 6 _ rfl;go_simp;try with_reducible rfl) ?_
 refine rP 2 hS ?_
 refine rP 3 hS ?_
 refine rP 4 hS ?_
 refine rP 5 hS ?_
 refine rL 6 [7,8,9,17,18,19] rfl hS (by intro w hSw;have c6:=hSw.1.1 6 _ rfl;go_simp;try with_reducible rfl) ?_
 refine rP 7 hS ?_
 refine rP 8 hS ?_
 refine rL 9 [17,18,19] rfl hS (by intro w hSw;have c0:=hSw.2.1 0 _ rfl;have c1:=hSw.2.1 1 _ rfl;go_simp;try with_reducible rfl) ?_
 refine rP 10 hS ?_
 refine rL 11 [12,13,14,17,18,19] rfl hS (by intro w hSw;have c6:=hSw.1.1 6 _ rfl;go_simp;try with_reducible rfl) ?_
 refine rP 12 hS ?_
 refine rP 13 hS ?_
 refine rL 14 [17,18,19] rfl hS (by intro w hSw;have c0:=hSw.2.1 2 _ rfl;have c1:=hSw.2.1 3 _ rfl;have c2:=hSw.2.1 4 _ rfl;have c3:=hSw.2.1 5 _ rfl;go_simp;try with_reducible rfl) ?_
 refine rP 15 hS ?_
 refine rL 16 [17,18,19] rfl hS (by intro w hSw;have c6:=hSw.1.1 7 _ rfl;go_simp;try with_reducible rfl) ?_
 intro inv
 refine rO 17 inv fun K hK=>?_
 go_simp
 refine(HH.out _ _ _ HW2.out.d D5).mono ?_
 rintro e w4 ⟨rfl,k4,hw,hk4⟩
 clear HW2 HH
 have HW2:=hide hw
 clear hw
 refine hK.out _ _ (fun _=>⟨HW2.out.get 1 rfl,HW2.out.get 2 rfl⟩) ?_
 clear hK K hS inv
 intro inv
 try simp only[Act.put,aD,aF,aG]
 have hS:=And.intro (HW2.out.get 1 rfl) (HW2.out.get 2 rfl)
 revert inv
 refine rP 18 hS ?_
 intro inv
 refine rT 19 inv fun K hK=>?_
 go_simp
 refine hK.out _ _ ?_
 clear hK K inv
 intro inv
 try simp only[Act.put,aD,aF,aG]
 refine rD ?_
 clear inv
 clear hS
 have hl4:=xH.out.2.2 (by first | rfl | trivial)
 have hl5:=xH.out.1.le
 try simp only at hl4
 have afi:k4<99000:=by omega
 have b0:w4.cell? ⟨A,0,none⟩=some (.int .i64 (i:Int)):=(HW2.out.get 1 rfl).1 0 _ rfl
 have b1:w4.cell? ⟨A,1,none⟩=some (.int .i64 a2):=(HW2.out.get 1 rfl).1 1 _ rfl
 have b2:w4.cell? ⟨A,2,none⟩=some (.int .i64 s):=(HW2.out.get 1 rfl).1 2 _ rfl
 have b3:w4.cell? ⟨A,3,none⟩=some (.int .i64 t):=(HW2.out.get 1 rfl).1 3 _ rfl
 have b4:w4.cell? ⟨A,4,none⟩=some (.int .i64 u):=(HW2.out.get 1 rfl).1 4 _ rfl
 have b5:w4.cell? ⟨A,5,none⟩=some (.int .i64 v):=(HW2.out.get 1 rfl).1 5 _ rfl
 have b7:w4.cell? ⟨A,7,none⟩=some (.int .i64 ch):=(HW2.out.get 1 rfl).1 7 _ rfl
 have Il:=hide (HH2.out _ _ _ HW2.out afi)
 clear HH2 HW2
 go_wp2_with fail
 refine Il.out.mono ?_
 rintro e w6 ⟨rfl,k6,Bt,Im⟩
 have ql:=hide Bt
 have GY:=hide Im
 clear Bt Im Il b0 b1 b2 b3 b4 b5 b7
 go_wp2
 go_ret
 refine⟨rfl,k6,ql.out.go,?_⟩
 obtain⟨_,q1,q2⟩:=HHM.out
 have q3:=q1.len
 have q4:=GY.out
 try simp only at q2 q3
 refine⟨?_,fun e=>?_⟩
 ·show k6≤20*RS.L.length+40
  omega
 ·have:=q2 e
  show k6≤20*RS.L.length
  omega
end Go.Proofs.YtlhmdcgckocidaaGreat
