/- A part of the proof: WorldG, Hs3, Hs4. -/
import Derived.Test.YtlhmdcgckocidaaGreatHr23
set_option linter.unusedVariables false
set_option linter.unusedSimpArgs false
set_option maxRecDepth 100000
set_option maxHeartbeats 8000000
namespace Go.Proofs.YtlhmdcgckocidaaGreat
open Go.Maps Go.RowKit
structure L1 (W:World) (L:List (Nat×Array Value)) (F1:Nat→Prop) (gw:Nat) (ds:List Dev) (ls:List av) (Z:iG) (k:Nat) (w:World):Prop where
 box:BX W L w
 a:iK W w F1 gw ds ls Z k
 dl:∀x∈L,¬F1 x.1
section
variable {W w w':World} {L:List (Nat×Array Value)} {F1 F':Nat→Prop} {gw:Nat} {ds:List Dev} {ls:List av} {Z Z':iG} {k k':Nat}
theorem L1.below (h:L1 W L F1 gw ds ls Z k w) (hb:Below w.heap.size w w'):L1 W L F1 gw ds ls Z k w':=⟨h.box.below hb,h.a.below hb,h.dl⟩
theorem L1.d (h:L1 W L F1 gw ds ls Z k w):L1 W L F1 gw ds ls Z k w.drew:=h.below (Below.refl _ _).drew
theorem L1.less {x:Nat×Array Value} (h:L1 W (x::L) F1 gw ds ls Z k w):L1 W L F1 gw ds ls Z k w:=⟨h.box.less,h.a,fun y hy=>h.dl y (List.mem_cons_of_mem _ hy)⟩
theorem L1.al (h:L1 W L F1 gw ds ls Z k w) (vs:Array Value) (t:TypeId):L1 W ((w.heap.size,vs)::L) F1 gw ds ls Z k (w.alloc (.cells vs t)):=by
 have q:=h.below (aC w (.cells vs t))
 refine⟨(h.box.al vs t).done,q.a,fun x hx=>?_⟩
 rcases List.mem_cons.1 hx with rfl | hx
 ·exact fun e=>Nat.lt_irrefl _ (h.a.fo _ e).2
 ·exact h.dl x hx
theorem L1.step (h:L1 W L F1 gw ds ls Z k w) (hw:iK W w' F' gw ds ls Z' k') (hn:aL F1 w.heap.size w w') (hF:∀j,F' j→F1 j∨w.heap.size≤j):L1 W L F' gw ds ls Z' k' w':=
 ⟨h.box.beside hn (fun x hx=>h.dl x hx) (fun j e=>(h.a.fo j e).1),hw,fun x hx=>fun e=>by
   rcases hF _ e with q | q
   ·exact h.dl x hx q
   ·have:=(h.box.bx x hx).2;omega⟩
theorem L1.go (h:L1 W L F1 gw ds ls Z k w) (hE:dD ds ls=0) (hG:uN ds Z) (x:bV) (ho:x.ok) (hk:k<100000) {R:Int×iG} (hR:eU ds ls Z x=R):
  Calls Tryz.prog 29 #[.pointer (some ⟨gw,0,none⟩),.agg #[.int .i64 x.kind,.int .i64 x.dev,.int .i64 x.port,.int .i64 x.p.src,.int .i64 x.p.dst,.int .i64 x.p.ah,.int .i64 x.p.aj,.int .i64 x.ch]] w fun e w'=>e= .returned (.int .i64 R.1)∧∃F',L1 W L F' gw ds ls R.2 (k+1) w'∧aL F1 w.heap.size w w'∧∀j,F' j→F1 j∨w.heap.size≤j:=by
 subst hR
 refine(Hu h.a h.box.bl hE hG x ho hk).mono ?_
 rintro e w' ⟨he,F',hw,hn,hF⟩
 exact⟨he,F',h.step hw hn hF,hn,hF⟩
end
def aeX:P4:=⟨1,2,0,0⟩
def uf:bV:=⟨1,0,0,⟨1,2,0,0⟩,0⟩
def oP:bV:=⟨2,1,0,⟨1,2,0,0⟩,0⟩
def rZ:aQ:=⟨1,0,⟨1,2,0,0⟩⟩
def oQ:aQ:=⟨2,0,⟨1,2,0,0⟩⟩
theorem YX:uf.ok:=⟨by simp[uf,ay],by simp[uf,ay],by simp[uf,ay],⟨by simp[uf,ay],by simp[uf,ay],by simp[uf,ay],by simp[uf,ay]⟩,by simp[uf,ay]⟩
theorem YZ:oP.ok:=⟨by simp[oP,ay],by simp[oP,ay],by simp[oP,ay],⟨by simp[oP,ay],by simp[oP,ay],by simp[oP,ay],by simp[oP,ay]⟩,by simp[oP,ay]⟩
theorem Y0:oQ.ok:=⟨by simp[oQ,ay],by simp[oQ,ay],⟨by simp[oQ,ay],by simp[oQ,ay],by simp[oQ,ay],by simp[oQ,ay]⟩⟩
theorem aae:aP aX (0,0)=some (1,0):=by decide
theorem R9:eU (d9 (jA [iy true])) aX ⟨aK.empty,[]⟩ uf=(0,⟨aK.empty,[rZ]⟩):=by
 have e:kW (d9 (jA [iy true])) aX [] 0 ⟨1,2,0,0⟩=(0,[rZ]):=by
  rw[He (r:=⟨⟨#[105,110]⟩,1,1,0,[],[],[]⟩) (by rfl) (by rfl),Hf rfl (by rfl) rfl aae]
  rfl
 show((kW (d9 (jA [iy true])) aX [] 0 ⟨1,2,0,0⟩).1,(⟨aK.empty,(kW (d9 (jA [iy true])) aX [] 0 ⟨1,2,0,0⟩).2⟩:iG))=_
 rw[e]
theorem Vd:kM [iy true] aeX=true:=by decide
theorem aaf:∃M,eU (d9 (jA [iy true])) aX ⟨aK.empty,[rZ]⟩ oP=(0,⟨M,[rZ,oQ]⟩):=by
 have h:eO (d9 (jA [iy true])) aX aK.empty 1 0 ⟨1,2,0,0⟩ 0=⟨0,(2,0),⟨1,2,0,0⟩,.flow (1,⟨1,2,0,0⟩)⟩:=by
  rw[O8 _ _ _ _ (by rfl)]
  exact if_pos Vd
 refine⟨aK.empty.learn (.flow (1,⟨1,2,0,0⟩)),?_⟩
 have hm:(⟨oP.dev,oP.port,oP.p⟩:aQ)∈[rZ]:=by rw[List.mem_singleton];rfl
 rw[eU,if_neg (show¬oP.kind=1 by decide),if_pos (show oP.kind=2 from rfl),if_pos hm]
 show((eO (d9 (jA [iy true])) aX aK.empty 1 0 ⟨1,2,0,0⟩ 0).e,(⟨aK.empty.learn (eO (d9 (jA [iy true])) aX aK.empty 1 0 ⟨1,2,0,0⟩ 0).kn,(eO (d9 (jA [iy true])) aX aK.empty 1 0 ⟨1,2,0,0⟩ 0).come [rZ]⟩:iG))=_
 rw[h]
 have hc:jh [rZ] oQ=[rZ,oQ]:=if_neg (by rw[List.mem_singleton];intro e;have:=congrArg aQ.d e;simp[rZ,oQ]at this)
 show(0,(⟨_,jh [rZ] oQ⟩:iG))=_
 rw[hc]
theorem Kn (W:World):Calls Tryz.prog 25 #[] W fun e W'=>e= .returned (.bool true)∧Below W.heap.size W W':=by
 go_enter Tryz.func25,Tryz.ntmps25
 go_wp2_with fail
 refine(AX true W).mono ?_
 rintro e w2 ⟨rfl,hb⟩
 have HB2:=hide hb
 clear hb
 have hx3:=aB.new w2 #[.bool true,.int .u16 65535,.int .u16 65535,.int .u8 255,.int .u8 255] 81
 have hb3:=aC w2 (.cells #[.bool true,.int .u16 65535,.int .u16 65535,.int .u8 255,.int .u8 255] 81)
 have hl3:w2.heap.size<(w2.alloc (.cells #[.bool true,.int .u16 65535,.int .u16 65535,.int .u8 255,.int .u8 255] 81)).heap.size :=by simp
 have HB3:=hide (HB2.out.trans (hb3.mono HB2.out.size))
 have Sg:=hide (Ee (uG (some ⟨w2.heap.size,0,none⟩) 1 1 [iy true]) _ (Ju (Ef hx3 hl3) ⟨Nat.le_refl _,show 1≤maxLen by unfold maxLen;omega⟩))
 clear hx3 hb3 hl3 HB2
 go_wp2_with fail
 refine Sg.out.mono ?_
 clear Sg
 rintro e w4 ⟨m,rfl,hm,hmd,hml,hb⟩
 have bJ:=hide (HB3.out.trans (hb.mono HB3.out.size))
 have hE:=Jt [iy true] (by simp)
 have pQ:=hide (vZ m w4 w4 (Nat.le_refl _) hm (rY hm) (by rw[hmd,hml];exact hE))
 rw[hmd,hml]at pQ
 have HE:=hide hE
 clear hm hb HB3 hmd hml hE
 go_wp2_with fail
 refine pQ.out.mono ?_
 clear pQ
 rintro e w5 ⟨gw,F,rfl,hw,hb,hF⟩
 have zi:=hide (show L1 w4 [] F gw (d9 (jA [iy true])) aX ⟨aK.empty,[]⟩ 0 w5 from⟨⟨hb,fun x hx=>by cases hx⟩,hw,fun x hx=>by cases hx⟩)
 clear hw hb hF
 go_wp2_with fail
 have HG:=hide (zi.out.al #[.int .i64 1,.int .i64 2,.int .i64 0,.int .i64 0] 29)
 obtain⟨N,hN⟩:∃N,w5.heap.size=N:=⟨_,rfl⟩
 rw[hN]at HG
 rw[hN]
 clear hN zi
 generalize World.alloc w5 _=w6 at*
 obtain⟨M,hM⟩:=aaf
 have hg1:uN (d9 (jA [iy true])) ⟨aK.empty,[rZ]⟩:=by
  have q:=(NK HE.out (tX HE.out [] 0) uf).1
  rw[show kT (d9 (jA [iy true])) aX [] 0=⟨aK.empty,[]⟩from rfl,R9]at q
  exact q
 have HD1:=hide (fun(w':World) (F:Nat→Prop) (h:L1 w4 [(N,#[.int .i64 1,.int .i64 2,.int .i64 0,.int .i64 0])] F gw (d9 (jA [iy true])) aX ⟨aK.empty,[]⟩ 0 w')=>h.go HE.out (tX HE.out [] 0) uf YX (by omega) R9)
 have HD2:=hide (fun(w':World) (F:Nat→Prop) (h:L1 w4 [(N,#[.int .i64 1,.int .i64 2,.int .i64 0,.int .i64 0])] F gw (d9 (jA [iy true])) aX ⟨aK.empty,[rZ]⟩ 1 w')=>h.go HE.out hg1 oP YZ (by omega) hM)
 have Au:=hide (fun(w':World) (F:Nat→Prop) (h:L1 w4 [(N,#[.int .i64 1,.int .i64 2,.int .i64 0,.int .i64 0])] F gw (d9 (jA [iy true])) aX ⟨M,[rZ,oQ]⟩ 2 w')=>rX h.a oQ Y0)
 have hin:decide (oQ∈[rZ,oQ])=true:=by simp
 simp only[hin]at Au
 simp only[uf,oP,oQ]at HD1 HD2 Au
 clear hg1 hM hin
 obtain⟨b0,b1,b2,b3⟩:=Bf (HG.out.box.get 0 rfl)
 go_region_held3 (fun w'=>w'.cell? ⟨N,0,none⟩=some (.int .i64 1)∧w'.cell? ⟨N,1,none⟩=some (.int .i64 2)∧w'.cell? ⟨N,2,none⟩=some (.int .i64 0)∧w'.cell? ⟨N,3,none⟩=some (.int .i64 0)) (go_keep) (first | (go_at_call_of 29 (Value.agg #[.int .i64 1,.int .i64 0,.int .i64 0,.int .i64 1,.int .i64 2,.int .i64 0,.int .i64 0,.int .i64 0]);refine(HD1.out _ _ (by first | exact HG.out.d | exact HG.out)).mono ?_;rintro e wp ⟨rfl,F',hg,hn,hF⟩;have HG:=hide hg;obtain⟨b0,b1,b2,b3⟩:=Bf (HG.out.box.get 0 rfl)) | (go_at_call_of 29 (Value.agg #[.int .i64 2,.int .i64 1,.int .i64 0,.int .i64 1,.int .i64 2,.int .i64 0,.int .i64 0,.int .i64 0]);refine(HD2.out _ _ (by first | exact HG.out.d | exact HG.out)).mono ?_;rintro e wp ⟨rfl,F',hg,hn,hF⟩;have HG:=hide hg;obtain⟨b0,b1,b2,b3⟩:=Bf (HG.out.box.get 0 rfl)) | (go_at_call 72;refine(rE 2 0 _).mono ?_;rintro e wp ⟨rfl,hb⟩;(first | have HG:=hide (HG.out.d.below hb) | have HG:=hide (HG.out.below hb));obtain⟨b0,b1,b2,b3⟩:=Bf (HG.out.box.get 0 rfl)) | (go_at_call 28;refine(Au.out _ _ (by first | exact HG.out.d | exact HG.out)).mono ?_;rintro e wp ⟨rfl,hb⟩;(first | have HG:=hide (HG.out.d.below hb) | have HG:=hide (HG.out.below hb));obtain⟨b0,b1,b2,b3⟩:=Bf (HG.out.box.get 0 rfl)))
 have HZ:=hide (bJ.out.trans (HG.out.box.bl.mono bJ.out.size))
 clear b0 b1 b2 b3 HG HD1 HD2 Au
 go_wp2
 go_ret
 exact⟨rfl,HZ.out⟩
theorem bV.one (x:bV):∀u∈x.cells,u.oneCell'=true:=by
 intro u hu
 simp only[bV.cells,List.mem_cons,List.not_mem_nil,or_false]at hu
 rcases hu with rfl | rfl | rfl | rfl | rfl | rfl | rfl | rfl<;>rfl
theorem Si {w:World} {N:Nat} {x:bV} (h:aB w N x.arr):Reads w (N+1) 8 (some ⟨N,0,none⟩) 1 x.cells:=
 ⟨rfl,fun _=>⟨_,rfl,Nat.lt_succ_self _,fun j u hu=>by
  rw[addr_add,Nat.zero_add]
  exact h.1 j u (by simpa[bV.cells,bV.arr]using hu)⟩⟩
theorem Tryz.infoEvent:(Tryz.prog.info? 58).map (fun i=>(i.zero,i.size,i.bytes))=some (some (.agg #[.int .i64 0,.int .i64 0,.int .i64 0,.int .i64 0,.int .i64 0,.int .i64 0,.int .i64 0,.int .i64 0]),8,64):=by kernel_rfl
structure kN (W w:World) (F F1:Nat→Prop) (g NR gw:Nat) (n:aH) (A:Option Addr) (c:Nat) (S:bP) (k:Nat):Prop where
 c0:w.cell? ⟨g,0,none⟩=some (.slice n.dA n.dn n.dc)
 c1:w.cell? ⟨g,1,none⟩=some (.slice n.lA n.ln n.lc)
 c2:w.cell? ⟨g,2,none⟩=some (.pointer (some ⟨NR,0,none⟩))
 c3:w.cell? ⟨g,3,none⟩=some (.pointer (some ⟨gw,0,none⟩))
 c4:w.cell? ⟨g,4,none⟩=some (.slice A S.L.length c)
 c5:w.cell? ⟨g,5,none⟩=some (.bool S.full)
 fz:∀o,w.frozen? ⟨g,o,none⟩=false
 own:w.ownsRow 0 58 8 (.slice A S.L.length c) S.L.length (S.L.flatMap bV.cells)
 wd:iK W w F1 gw n.au n.ls S.Z k
 f1:∀j,F1 j→F j
 g1:¬F1 g
 a1:∀j,A.map (·.block)=some j→¬F1 j
 fo:yE W w F
 fg:F g
 fa:∀j,A.map (·.block)=some j→F j
 ga:A.map (·.block)≠some g
 xR:∀x∈S.L,x.ok
section
variable {W w w':World} {F F1 F' WV q:Nat→Prop} {g NR gw:Nat} {n:aH} {A:Option Addr} {c:Nat} {S:bP} {k:Nat}
theorem kN.stay (h:kN W w F F1 g NR gw n A c S k) (hn:aL q w.heap.size w w') (hq:∀j,q j→W.heap.size≤j∧¬F j):kN W w' F F1 g NR gw n A c S k:=by
 have nq:∀j,F j→¬q j:=fun j hj e=>(hq j e).2 hj
 have hc:∀j,w'.cell? ⟨g,j,none⟩=w.cell? ⟨g,j,none⟩:=fun j=>hn.cell (a:=⟨g,j,none⟩) (h.fo g h.fg).2 (nq g h.fg)
 exact⟨(hc 0).trans h.c0,(hc 1).trans h.c1,(hc 2).trans h.c2,(hc 3).trans h.c3,(hc 4).trans h.c4,(hc 5).trans h.c5,fun o=>(hn.frozen (a:=⟨g,o,none⟩) (h.fo g h.fg).2 (nq g h.fg)).trans (h.fz o),
  nE h.own (fun j hj=>hn.block j (h.own.lt j hj).2 (nq j (h.fa j (by rw[fC]at hj;exact hj)))),h.wd.stay hn (fun j e=>⟨(hq j e).1,fun e2=>(hq j e).2 (h.f1 j e2)⟩),
  h.f1,h.g1,h.a1,h.fo.near hn,h.fg,h.fa,h.ga,h.xR⟩
theorem kN.below (h:kN W w F F1 g NR gw n A c S k) (hb:Below w.heap.size w w'):kN W w' F F1 g NR gw n A c S k:=
 h.stay (q:=fun _=>False) (aL.of_below hb) (fun _ e=>e.elim)
theorem kN.lo (h:kN W w F F1 g NR gw n A c S k):W.heap.size≤w.heap.size:=by have:=h.fo g h.fg;omega
theorem kN.world {Z:iG} {k':Nat} (h:kN W w F F1 g NR gw n A c S k) (hw:iK W w' WV gw n.au n.ls Z k') (hn:aL F1 w.heap.size w w') (hF:∀j,WV j→F1 j∨w.heap.size≤j):
  kN W w' (fun j=>F j∨(w.heap.size≤j∧j<w'.heap.size)) WV g NR gw n A c ⟨Z,S.L,S.full⟩ k':=by
 have hc:∀j,w'.cell? ⟨g,j,none⟩=w.cell? ⟨g,j,none⟩:=fun j=>hn.cell (a:=⟨g,j,none⟩) (h.fo g h.fg).2 h.g1
 refine⟨(hc 0).trans h.c0,(hc 1).trans h.c1,(hc 2).trans h.c2,(hc 3).trans h.c3,(hc 4).trans h.c4,(hc 5).trans h.c5,fun o=>(hn.frozen (a:=⟨g,o,none⟩) (h.fo g h.fg).2 h.g1).trans (h.fz o),
  nE h.own (fun j hj=>hn.block j (h.own.lt j hj).2 (h.a1 j (by rw[fC]at hj;exact hj))),hw,fun j e=>?_,fun e=>?_,fun j e e2=>?_,h.fo.more hn.size h.lo,.inl h.fg,fun j e=>.inl (h.fa j e),h.ga,h.xR⟩
 ·rcases hF j e with q | q
  ·exact .inl (h.f1 j q)
  ·exact .inr ⟨q,(hw.fo j e).2⟩
 ·rcases hF g e with q | q
  ·exact h.g1 q
  ·have:=(h.fo g h.fg).2;omega
 ·rcases hF j e2 with q | q
  ·exact h.a1 j e q
  ·have:=(h.fo j (h.fa j e)).2;omega
theorem kN.Ct (h:kN W w F F1 g NR gw n A c S k) (b:Bool):kN W (w.setCell ⟨g,5,none⟩ (.bool b)) F F1 g NR gw n A c ⟨S.Z,S.L,b⟩ k∧aL F w.heap.size w (w.setCell ⟨g,5,none⟩ (.bool b)):=by
 have hn:=Dy w g 5 (.bool b)
 have hc:∀j,j≠5→(w.setCell ⟨g,5,none⟩ (.bool b)).cell? ⟨g,j,none⟩=w.cell? ⟨g,j,none⟩:=fun j hj=>World.cell?_setCell_other _ _ _ _ (by simp[hj])
 refine⟨⟨(hc 0 (by decide)).trans h.c0,(hc 1 (by decide)).trans h.c1,(hc 2 (by decide)).trans h.c2,(hc 3 (by decide)).trans h.c3,(hc 4 (by decide)).trans h.c4,?_,fun o=>by rw[World.frozen?_setCell];exact h.fz o,
  lV h.own (fun j hj=>by rw[fC]at hj;show j≠g;rintro rfl;exact h.ga hj) _,h.wd.stay hn (fun j e=>by subst e;exact⟨(h.fo j h.fg).1,h.g1⟩),
  h.f1,h.g1,h.a1,h.fo.near hn,h.fg,h.fa,h.ga,h.xR⟩,hn.weak (fun j e=>by subst e;exact h.fg)⟩
 have:=World.cell?_setCell_same w ⟨g,5,none⟩ (.bool b) h.c5
 simpa using this
theorem kN.list (h:kN W w F F1 g NR gw n A c S k) {x:bV} (hxo:x.ok) {w2 w5:World} {A5:Option Addr} {c5:Nat} (hb:Below w.heap.size w w2)
  (hown:w5.ownsRow 0 58 8 (.slice A5 (S.L.length+1) c5) (S.L.length+1) (S.L.flatMap bV.cells++x.cells)) (hg:w2.grownBy w5 (Value.slice A S.L.length c).ownBlock) (hat:(Value.slice A5 (S.L.length+1) c5).ownBlock =(Value.slice A S.L.length c).ownBlock ∨(Value.slice A5 (S.L.length+1) c5).ownBlock =some w2.heap.size):
  kN W (w5.setCell ⟨g,4,none⟩ (.slice A5 (S.L.length+1) c5)) (fun j=>F j∨(w.heap.size≤j∧j<(w5.setCell ⟨g,4,none⟩ (.slice A5 (S.L.length+1) c5)).heap.size)) F1 g NR gw n A5 c5 ⟨S.Z,S.L++[x],S.full⟩ k∧aL F w.heap.size w (w5.setCell ⟨g,4,none⟩ (.slice A5 (S.L.length+1) c5)):=by
 rw[fC]at hg hat
 rw[fC]at hat
 have n5:=nD hg
 have n6:=Dy w5 g 4 (.slice A5 (S.L.length+1) c5)
 generalize hv:w5.setCell ⟨g,4,none⟩ (.slice A5 (S.L.length+1) c5)=w6 at*
 have s2:=hb.size
 have s5:=n5.size
 have s6:=n6.size
 have hgl:=(h.fo g h.fg).2
 have hW:=h.lo
 have nn:aL (fun j=>j=g∨A.map (·.block)=some j) w.heap.size w w6:=
  ((aL.of_below hb).trans ((n5.mono s2).weak (fun j e=>Or.inr e))).trans ((n6.mono (by omega)).weak (fun j e=>Or.inl e))
 have RI:∀j,w5.cell? ⟨g,j,none⟩=w.cell? ⟨g,j,none⟩:=fun j=>(n5.cell (a:=⟨g,j,none⟩) (by show g<_;omega) h.ga).trans (hb.cell (p:=⟨g,j,none⟩) hgl)
 have c6:∀j,j≠4→w6.cell? ⟨g,j,none⟩=w.cell? ⟨g,j,none⟩:=fun j hj=>by
  rw[← hv,World.cell?_setCell_other _ _ _ _ (by simp[hj])];exact RI j
 have b5:∀j,A5.map (·.block)=some j→A.map (·.block)=some j∨j=w2.heap.size:=fun j hj=>by
  rcases hat with e | e
  ·rw[hj]at e;exact Or.inl e.symm
  ·rw[hj]at e;cases e;exact Or.inr rfl
 have l1:(S.L++[x]).length =S.L.length+1:=by simp
 have l2:(S.L++[x]).flatMap bV.cells=S.L.flatMap bV.cells++x.cells:=by simp
 refine⟨⟨(c6 0 (by decide)).trans h.c0,(c6 1 (by decide)).trans h.c1,(c6 2 (by decide)).trans h.c2,(c6 3 (by decide)).trans h.c3,?_,(c6 5 (by decide)).trans h.c5,fun o=>?_,?_,h.wd.stay nn (fun j e=>?_),fun j e=>.inl (h.f1 j e),h.g1,fun j e e2=>?_,h.fo.more nn.size hW,.inl h.fg,fun j e=>?_,fun e=>?_,fun y hy=>?_⟩,nn.weak (fun j e=>?_)⟩
 ·show w6.cell? ⟨g,4,none⟩=some (.slice A5 (S.L++[x]).length _)
  rw[l1,← hv]
  have:=World.cell?_setCell_same w5 ⟨g,4,none⟩ (.slice A5 (S.L.length+1) c5) ((RI 4).trans h.c4)
  simpa using this
 ·rw[← hv,World.frozen?_setCell]
  exact((n5.frozen (a:=⟨g,o,none⟩) (by show g<_;omega) h.ga).trans (hb.frozen (p:=⟨g,o,none⟩) hgl)).trans (h.fz o)
 ·show w6.ownsRow 0 _ 8 (.slice A5 (S.L++[x]).length _) (S.L++[x]).length ((S.L++[x]).flatMap bV.cells)
  rw[l1,l2,← hv]
  exact lV hown (fun j hj=>by
   rw[fC]at hj
   show j≠g
   rcases b5 j hj with e | e
   ·rintro rfl;exact h.ga e
   ·omega) _
 ·rcases e with rfl | e
  ·exact⟨(h.fo _ h.fg).1,h.g1⟩
  ·exact⟨(h.fo j (h.fa j e)).1,h.a1 j e⟩
 ·rcases b5 j e with e3 | e3
  ·exact h.a1 j e3 e2
  ·have:=(h.fo j (h.f1 j e2)).2;omega
 ·rcases b5 j e with e3 | e3
  ·exact .inl (h.fa j e3)
  ·refine .inr ⟨by omega,?_⟩
   have hl:=(hown.lt j (by rw[fC];exact e)).2
   omega
 ·rcases b5 g e with e3 | e3
  ·exact h.ga e3
  ·omega
 ·rcases List.mem_append.1 hy with hy | hy
  ·exact h.xR y hy
  ·rw[List.mem_singleton.1 hy];exact hxo
 ·rcases e with rfl | e
  ·exact h.fg
  ·exact h.fa j e
end
def iU (W w:World) (F:Nat→Prop) (g NR gw:Nat) (n:aH) (S:bP) (k:Nat):Prop:=∃F1 A c,kN W w F F1 g NR gw n A c S k
section
variable {W w w':World} {F F' q:Nat→Prop} {g NR gw:Nat} {n:aH} {S S':bP} {k k':Nat}
theorem iU.stay (h:iU W w F g NR gw n S k) (hn:aL q w.heap.size w w') (hq:∀j,q j→W.heap.size≤j∧¬F j):iU W w' F g NR gw n S k:=by
 obtain⟨F1,A,c,h⟩:=h
 exact⟨F1,A,c,h.stay hn hq⟩
theorem iU.below (h:iU W w F g NR gw n S k) (hb:Below w.heap.size w w'):iU W w' F g NR gw n S k:=by
 obtain⟨F1,A,c,h⟩:=h
 exact⟨F1,A,c,h.below hb⟩
theorem iU.fo (h:iU W w F g NR gw n S k):yE W w F:=by
 obtain⟨F1,A,c,h⟩:=h
 exact h.fo
theorem iU.cells (h:iU W w F g NR gw n S k):w.cell? ⟨g,0,none⟩=some (.slice n.dA n.dn n.dc)∧w.cell? ⟨g,1,none⟩=some (.slice n.lA n.ln n.lc)∧w.cell? ⟨g,2,none⟩=some (.pointer (some ⟨NR,0,none⟩))∧w.cell? ⟨g,3,none⟩=some (.pointer (some ⟨gw,0,none⟩))∧w.cell? ⟨g,5,none⟩=some (.bool S.full):=by
 obtain⟨F1,A,c,h⟩:=h
 exact⟨h.c0,h.c1,h.c2,h.c3,h.c5⟩
end
theorem yg {w w' w2:World} {F F':Nat→Prop} (h:aL F w.heap.size w w') (hF:∀j,F' j→F j∨w.heap.size≤j) (h2:aL F' w'.heap.size w' w2):aL F w.heap.size w w2:=
 ⟨h2.os.trans h.os,h2.tape.trans h.tape,h2.output.trans h.output,Nat.le_trans h.size h2.size,fun j hj hp=>by
  have:=h.size
  exact(h2.block j (by omega) (fun e=>by
   rcases hF j e with e | e
   ·exact hp e
   ·omega)).trans (h.block j hj hp)⟩
def kP (W w w':World) (F:Nat→Prop) (g NR gw:Nat) (n:aH) (S':bP) (k':Nat):Prop:=∃F',iU W w' F' g NR gw n S' k'∧aL F w.heap.size w w'∧∀j,F' j→F j∨w.heap.size≤j
structure H1 (W:World) (L:List (Nat×Array Value)) (F:Nat→Prop) (g NR gw:Nat) (n:aH) (S:bP) (k:Nat) (w:World):Prop where
 box:BX W L w
 a:iU W w F g NR gw n S k
 dl:∀x∈L,¬F x.1
section
variable {W w w':World} {L:List (Nat×Array Value)} {F F' q:Nat→Prop} {g NR gw:Nat} {n:aH} {S S':bP} {k k':Nat}
theorem H1.below (h:H1 W L F g NR gw n S k w) (hb:Below w.heap.size w w'):H1 W L F g NR gw n S k w':=⟨h.box.below hb,h.a.below hb,h.dl⟩
theorem H1.d (h:H1 W L F g NR gw n S k w):H1 W L F g NR gw n S k w.drew:=h.below (Below.refl _ _).drew
theorem H1.al (h:H1 W L F g NR gw n S k w) (vs:Array Value) (t:TypeId):H1 W ((w.heap.size,vs)::L) F g NR gw n S k (w.alloc (.cells vs t)):=by
 have q:=h.below (aC w (.cells vs t))
 refine⟨(h.box.al vs t).done,q.a,fun x hx=>?_⟩
 rcases List.mem_cons.1 hx with rfl | hx
 ·exact fun e=>Nat.lt_irrefl _ (h.a.fo _ e).2
 ·exact h.dl x hx
theorem H1.step (h:H1 W L F g NR gw n S k w) (hg:kP W w w' F g NR gw n S' k'):∃F',H1 W L F' g NR gw n S' k' w'∧aL F w.heap.size w w'∧∀j,F' j→F j∨w.heap.size≤j:=by
 obtain⟨F',hw,hn,hF⟩:=hg
 exact⟨F',⟨h.box.beside hn (fun x hx=>h.dl x hx) (fun j e=>(h.a.fo j e).1),hw,fun x hx=>fun e=>by
   rcases hF _ e with q | q
   ·exact h.dl x hx q
   ·have:=(h.box.bx x hx).2;omega⟩,hn,hF⟩
theorem H1.start (h:iU W w F g NR gw n S k) (hb:Below W.heap.size W w):H1 W [] F g NR gw n S k w:=⟨⟨hb,fun x hx=>by cases hx⟩,h,fun x hx=>by cases hx⟩
end
theorem Gl {w:World} {N:Nat} {x:bV} (h:aB w N x.arr):w.cell? ⟨N,0,none⟩=some (.int .i64 x.kind)∧w.cell? ⟨N,1,none⟩=some (.int .i64 x.dev)∧w.cell? ⟨N,2,none⟩=some (.int .i64 x.port)∧w.cell? ⟨N,3,none⟩=some (.int .i64 x.p.src)∧w.cell? ⟨N,4,none⟩=some (.int .i64 x.p.dst)∧w.cell? ⟨N,5,none⟩=some (.int .i64 x.p.ah)∧w.cell? ⟨N,6,none⟩=some (.int .i64 x.p.aj)∧w.cell? ⟨N,7,none⟩=some (.int .i64 x.ch):=
 ⟨h.1 0 _ rfl,h.1 1 _ rfl,h.1 2 _ rfl,h.1 3 _ rfl,h.1 4 _ rfl,h.1 5 _ rfl,h.1 6 _ rfl,h.1 7 _ rfl⟩
theorem pF {a b:Bool} (h:a=b):(Ending.returned (.bool a))= .returned (.bool b):=by rw[h]
theorem kP.of {W w w':World} {F F':Nat→Prop} {g NR gw:Nat} {n:aH} {S':bP} {k':Nat} (h:iU W w' F' g NR gw n S' k') (hn:aL F w.heap.size w w') (hF:∀j,F' j→F j∨w.heap.size≤j):kP W w w' F g NR gw n S' k':=⟨F',h,hn,hF⟩
theorem Ve {W0 W:World} {F:Nat→Prop} {g NR gw:Nat} {n:aH} {S:bP} {k:Nat} (h:iU W0 W F g NR gw n S k) (hb0:Below W0.heap.size W0 W) (hE:dD n.au n.ls=0) (hO:gI n.au n.ls S) (x:bV) (hx:x.ok) (hk:k<100000) {R:Bool×bP} (hR:iN n.au n.ls S x=R):
  Calls Tryz.prog 119 #[.pointer (some ⟨g,0,none⟩),.agg #[.int .i64 x.kind,.int .i64 x.dev,.int .i64 x.port,.int .i64 x.p.src,.int .i64 x.p.dst,.int .i64 x.p.ah,.int .i64 x.p.aj,.int .i64 x.ch]] W fun e W'=>e= .returned (.bool R.1)∧kP W0 W W' F g NR gw n R.2 (k+1):=by
 obtain⟨F1,A,c,h⟩:=h
 have hgl:=(h.fo g h.fg).2
 have hml:=hO.le
 have Ko:=hide (show uN n.au S.Z from by rw[hO.z];exact tX hE S.L S.L.length)
 have HA:=hide h
 have HB0:=hide hb0
 have HE:=hide hE
 have HX:=hide hx
 have HR:=hide hR
 obtain⟨Z,Ls,full⟩:=S
 obtain⟨m,hm⟩:∃m,Ls.length=m:=⟨_,rfl⟩
 have k4:∀ob,(W.alloc ob).cell? ⟨g,4,none⟩=some (.slice A m c):=fun ob=>by rw[← hm];exact(HA.out.below (aC W ob)).c4
 have HM:=hide hm
 simp only[hm]at hml
 clear h hb0 hE hx hR hO hm
 by_cases h2:m=2000
 case pos=>
  subst h2
  have HRR:=hide (show R=(false,⟨Z,Ls,true⟩)from by rw[← HR.out];exact zV HM.out x)
  have k5:∀ob,(W.alloc ob).cell? ⟨g,5,none⟩=some (.bool full):=fun ob=>(HA.out.below (aC W ob)).c5
  have f5:∀ob,(W.alloc ob).frozen? ⟨g,5,none⟩=false:=fun ob=>(HA.out.below (aC W ob)).fz 5
  go_enter Tryz.func119,Tryz.ntmps119
  go_wp2
  have HS:=hide (HA.out.Ct true)
  clear k4 k5 f5
  generalize World.setCell W _ _=W2 at*
  have pR:=hide (aC W2 (.cells #[.int .i64 x.kind,.int .i64 x.dev,.int .i64 x.port,.int .i64 x.p.src,.int .i64 x.p.dst,.int .i64 x.p.ah,.int .i64 x.p.aj,.int .i64 x.ch] 58))
  generalize World.alloc W2 _=W3 at*
  go_ret
  rw[HRR.out]
  exact⟨rfl,kP.of (⟨F1,A,c,{ HS.out.1.below pR.out with wd:=(HS.out.1.below pR.out).wd.up (Nat.le_succ k) }⟩:iU W0 W3 F g NR gw n ⟨Z,Ls,true⟩ (k+1)) (HS.out.2.trans ((aL.of_below pR.out).mono HS.out.2.size)) (fun j e=>.inl e)⟩
 case neg=>
  have hd:decide ((m:Int)=2000)=false:=by simp;omega
  have hd2:((m:Int)==2000)=false:=by simp;omega
  obtain⟨⟨ec,Z2⟩,hR0⟩:∃R0,eU n.au n.ls Z x=R0:=⟨_,rfl⟩
  have fZ:=hide h2
  have hmm:m+1≤2000:=by omega
  have qj:=hide (fun(w':World) (hb:Below W.heap.size W w')=>Hu (HA.out.below hb).wd (HB0.out.trans (hb.mono HB0.out.size)) HE.out Ko.out x HX.out (by omega))
  simp only[hR0]at qj
  have Av:=hide (fun(e:ec=0)=>show R=(true,⟨Z2,Ls++[x],full⟩)from by rw[← HR.out,Bo (by rw[HM.out];exact fZ.out) (by rw[hR0];exact e)];simp only[hR0])
  have Aw:=hide (fun(e:ec≠0)=>show R=(false,⟨Z2,Ls,full⟩)from by rw[← HR.out,zh (by rw[HM.out];exact fZ.out) (by rw[hR0];exact e)];simp only[hR0])
  clear hR0 HR h2
  go_enter Tryz.func119,Tryz.ntmps119
  go_wp2_with fail
  clear k4
  have cK:=hide (((BX.none W).al x.arr 58).done)
  have hs1:(W.alloc (.cells x.arr 58)).heap.size =W.heap.size+1:=by simp
  simp only[bV.arr]at cK hs1
  generalize World.alloc W _=W1 at*
  have c3:=(HA.out.below cK.out.bl).c3
  obtain⟨b0,b1,b2,b3,b4,b5,b6,b7⟩:=Gl (x:=x) (cK.out.get 0 rfl)
  go_still_tail 5,(by kernel_rfl)
  clear b0 b1 b2 b3 b4 b5 b6 b7 c3
  go_wp2_with fail
  refine(qj.out _ cK.out.bl.drew).mono ?_
  clear qj
  rintro e w4 ⟨rfl,WV,hw,hn,hF⟩
  have fK:=hide ((HA.out.below cK.out.bl.drew).world hw hn hF)
  have Bd:aL F W.heap.size W w4:=(aL.of_below cK.out.bl.drew).trans ((hn.weak (fun j e=>HA.out.f1 j e)).mono cK.out.bl.drew.size)
  have yU:=hide Bd
  have dW:=hide (show aB w4 W.heap.size #[.int .i64 x.kind,.int .i64 x.dev,.int .i64 x.port,.int .i64 x.p.src,.int .i64 x.p.dst,.int .i64 x.p.ah,.int .i64 x.p.aj,.int .i64 x.ch]∧W.heap.size<w4.heap.size from
   ⟨((cK.out.below (Below.refl _ _).drew).get 0 rfl).near hn (by show W.heap.size<_;simp[hs1]) (fun e=>by have:=(HA.out.fo _ (HA.out.f1 _ e)).2;omega),by have:=hn.size;simp[hs1]at this;omega⟩)
  have HB1:=hide (show W.heap.size≤W1.drew.heap.size from by simp[hs1])
  clear hw hn hF Bd cK hs1
  by_cases hc:ec=0
  case neg=>
   have e2:(ec != 0)=true:=by simpa using hc
   have HRR:=hide (Aw.out hc)
   clear hc Av Aw
   go_wp2
   go_ret
   rw[HRR.out]
   exact⟨rfl,kP.of ⟨_,A,c,fK.out⟩ yU.out (fun j e=>by
    rcases e with e | e
    ·exact .inl e
    ·right;have:=HB1.out;omega)⟩
  case pos=>
   have e2:(ec != 0)=false:=by simpa using hc
   have HRR:=hide (Av.out hc)
   clear hc Av Aw
   go_wp2_with fail
   obtain⟨N,hN⟩:∃N,W.heap.size=N:=⟨_,rfl⟩
   have qU:=hide hN
   have HQ:=hide (fun(w':World) (hb:Below w4.heap.size w4 w')=>show(w'.cell? ⟨g,4,none⟩=some (.slice A m c)∧aB w' N #[.int .i64 x.kind,.int .i64 x.dev,.int .i64 x.port,.int .i64 x.p.src,.int .i64 x.p.dst,.int .i64 x.p.ah,.int .i64 x.p.aj,.int .i64 x.ch]∧w'.ownsRow 0 58 8 (.slice A m c) m (Ls.flatMap bV.cells)∧g<w4.heap.size∧¬(A.map (·.block)=some g)∧¬(A.map (·.block)=some N)∧w'.frozen? ⟨g,4,none⟩=false)from by
    have hw:=fK.out.below hb
    have Z4:¬(A.map (·.block)=some N):=fun e=>by have:=(HA.out.fo N (HA.out.fa N e)).2;omega
    refine⟨?_,by rw[← hN];exact dW.out.1.below hb dW.out.2,?_,(fK.out.fo g fK.out.fg).2,fK.out.ga,Z4,hw.fz 4⟩
    ·have q:=hw.c4
     simp only[HM.out]at q
     exact q
    ·have q:=hw.own
     simp only[HM.out]at q
     exact q)
   have Z5:N<w4.heap.size:=by rw[← hN];exact dW.out.2
   rw[hN]at*
   -- R6
   obtain⟨i0,hi0,hz0,hz1,hz2⟩:=info_parts Tryz.infoEvent
   refine aI (fun w'=>w'.cell? ⟨g,4,none⟩=some (.slice A m c)∧aB w' N #[.int .i64 x.kind,.int .i64 x.dev,.int .i64 x.port,.int .i64 x.p.src,.int .i64 x.p.dst,.int .i64 x.p.ah,.int .i64 x.p.aj,.int .i64 x.ch]) 10 (by kernel_rfl) ⟨(HQ.out _ (Below.refl _ _).drew).1,(HQ.out _ (Below.refl _ _).drew).2.1⟩ (fun hS=>?_)
   refine rP 0 hS ?_
   refine rP 1 hS ?_
   refine rP 2 hS ?_
   refine rP 3 hS ?_
   refine rL 4 [10] rfl hS (by intro w hSw;obtain⟨s0,sb⟩:=hSw;go_simp;try with_reducible rfl) ?_
   refine rL 5 [10] rfl hS (by intro w hSw;obtain⟨s0,sb⟩:=hSw;obtain⟨s1,s2,s3,s4,s5,s6,s7,s8⟩:=Gl (x:=x) sb;go_simp;try with_reducible rfl) ?_
   intro inv
   refine rO 6 inv fun K hK=>?_
   go_simp
   have hb4:Below w4.heap.size w4 (w4.alloc (.cells #[.int .i64 x.kind,.int .i64 x.dev,.int .i64 x.port,.int .i64 x.p.src,.int .i64 x.p.dst,.int .i64 x.p.ah,.int .i64 x.p.aj,.int .i64 x.ch] 58)).drew :=((Below.refl _ _).alloc (Nat.le_refl _) _).drew
   have bJ:=hide hb4
   have dR:=hide (show aB (w4.alloc (.cells #[.int .i64 x.kind,.int .i64 x.dev,.int .i64 x.port,.int .i64 x.p.src,.int .i64 x.p.dst,.int .i64 x.p.ah,.int .i64 x.p.aj,.int .i64 x.ch] 58)).drew w4.heap.size (bV.arr x)from(aB.new w4 #[.int .i64 x.kind,.int .i64 x.dev,.int .i64 x.port,.int .i64 x.p.src,.int .i64 x.p.dst,.int .i64 x.p.ah,.int .i64 x.p.aj,.int .i64 x.ch] 58).below (B:=w4.heap.size+1) ((Below.refl _ _).drew) (Nat.lt_succ_self _))
   have hs4:(w4.alloc (.cells #[.int .i64 x.kind,.int .i64 x.dev,.int .i64 x.port,.int .i64 x.p.src,.int .i64 x.p.dst,.int .i64 x.p.ah,.int .i64 x.p.aj,.int .i64 x.ch] 58)).drew.heap.size =w4.heap.size+1:=by simp
   clear hb4
   refine hK.out _ _ (fun _=>⟨(HQ.out _ bJ.out).1,(HQ.out _ bJ.out).2.1⟩) ?_
   clear hK K hS inv
   intro inv
   try simp only[Act.put,aD,aF,aG]
   refine rO 7 inv fun K hK=>?_
   rw[if_pos (by rfl)]
   refine kY _ (.tmp 25) (.tmp 27) 51 rfl 0 58 i0 _ 8 64 Tryz.underlying51 hi0 hz0 hz1 hz2 rfl (by omega) (.slice A m c) m (Ls.flatMap bV.cells) rfl (HQ.out _ bJ.out).2.2.1 (w4.heap.size+1) (some ⟨w4.heap.size,0,none⟩) 1 1 x.cells rfl (Si dR.out) x.one (by unfold maxLen;omega) (by omega) (Nat.zero_le _) ?_
   intro v5 w5 hown5 hg5 mO
   obtain⟨g5,c5,rfl,_⟩:=hown5.form (by omega)
   have tC:=hide (fK.out.list (x:=x) HX.out bJ.out (by simp only[HM.out];exact hown5) (by simp only[HM.out];exact hg5) (by simp only[HM.out];exact mO))
   simp only[HM.out]at tC
   have J6:=hg5
   rw[fC]at J6
   have n5:=nD J6
   have s0:w5.cell? ⟨g,4,none⟩=some (.slice A m c):=(n5.cell (a:=⟨g,4,none⟩) (by show g<_;rw[hs4];have:=(HQ.out _ (Below.refl _ _)).2.2.2.1;omega) (HQ.out _ (Below.refl _ _)).2.2.2.2.1).trans (HQ.out _ bJ.out).1
   have RL:w5.frozen? ⟨g,4,none⟩=false:=(n5.frozen (a:=⟨g,4,none⟩) (by show g<_;rw[hs4];have:=(HQ.out _ (Below.refl _ _)).2.2.2.1;omega) (HQ.out _ (Below.refl _ _)).2.2.2.2.1).trans (HQ.out _ bJ.out).2.2.2.2.2.2
   have hbn:=(HQ.out _ bJ.out).2.1.near n5 (by rw[hs4];omega) (HQ.out _ (Below.refl _ _)).2.2.2.2.2.1
   clear hown5 mO hg5 J6 n5
   refine hK.out _ _ (fun _=>⟨s0,hbn⟩) ?_
   clear hK K inv
   intro inv
   try simp only[Act.put,aD,aF,aG]
   have hS:=And.intro s0 hbn
   clear hbn
   revert inv
   refine rP 8 hS ?_
   refine rP 9 hS ?_
   intro inv
   refine rT 10 inv fun K hK=>?_
   go_simp
   refine hK.out _ _ ?_
   clear hK K inv
   intro inv
   try simp only[Act.put,aD,aF,aG]
   refine rD ?_
   clear inv
   clear s0 RL hS
   generalize World.setCell w5 _ _=W6 at*
   go_wp2
   go_ret
   rw[HRR.out]
   have hF4:∀j,(F j∨(W1.drew.heap.size≤j∧j<w4.heap.size))→F j∨W.heap.size≤j:=fun j e=>by
    rcases e with e | e
    ·exact .inl e
    ·right;have:=HB1.out;omega
   refine⟨rfl,kP.of ⟨_,_,_,tC.out.1⟩ (yg yU.out hF4 tC.out.2) (fun j e=>?_)⟩
   rcases e with e | e
   ·exact hF4 j e
   ·right;have:=yU.out.size;omega
end Go.Proofs.YtlhmdcgckocidaaGreat
