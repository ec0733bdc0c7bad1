/- A part of the proof: Rd13, PkCode, RdA, Rd15, Least, PkOf, Differ. -/
import Derived.Test.YtifkacnoiocebaaGreatDz26
set_option linter.unusedVariables false
set_option linter.unusedSimpArgs false
set_option maxRecDepth 100000
set_option maxHeartbeats 8000000
namespace Go.Proofs.YtifkacnoiocebaaGreat
open aj Go.Maps Go.RowKit
theorem Tryz.infoSum:(Tryz.prog.info? 73).map (fun i=>(i.zero,i.size,i.bytes))=some (some (.map none),1,8):=by kernel_rfl
theorem nK.empty {A:St} (i:Inv A) (ks:List Pl):nK A (fun _=>none) (fun _ _=>false) ks:=
 ⟨fun a v h=>by(cases h),fun x h=>by(cases h),fun x=>by rw[zL rfl];exact dF.zero i⟩
theorem RD.start {w:World} {B g mk rd nm:Nat} {A:St} {bl:List Nat} {n:aC} {dV:Value} (hmk:MK w B g A (rd::nm::bl) mk 0) (hbx:Bx w rd #[.pointer (some ⟨mk,0,none⟩),.slice n.dA n.dn n.dc,.slice n.lA n.ln n.lc,dV,.map (some nm)] 75) {M:aB→Option Value} {S:Pl→aj.Fn} (hm:gY w nm M) (hok:nK A M S (aR n.ls)) (hne:rd≠nm∧rd∉bl∧nm∉bl):RD w B g A bl mk 0 rd n dV nm M S:=
 ⟨hmk,hbx,hm,hok.ints,hok.keys,fun _ x=>hok.vR x,hne⟩
theorem QN {w:World} {B g:Nat} {A:St} (h:AS w B g A []) (n:aC):
  RD ((((w.alloc (.cells #[.slice none 0 0,.pointer (some ⟨g,0,none⟩)] 68)).alloc (.cells #[.pointer (some ⟨g,0,none⟩),.int .i64 0] 72)).alloc (.map #[] 0)).alloc (.cells #[.pointer (some ⟨w.heap.size+1,0,none⟩),.slice n.dA n.dn n.dc,.slice n.lA n.ln n.lc,.map none,.map (some (w.heap.size+1+1))] 75))
   B g A [w.heap.size] (w.heap.size+1) 0 (w.heap.size+1+1+1) n (.map none) (w.heap.size+1+1) (fun _=>none) (fun _ _=>false)∧
  Bx ((((w.alloc (.cells #[.slice none 0 0,.pointer (some ⟨g,0,none⟩)] 68)).alloc (.cells #[.pointer (some ⟨g,0,none⟩),.int .i64 0] 72)).alloc (.map #[] 0)).alloc (.cells #[.pointer (some ⟨w.heap.size+1,0,none⟩),.slice n.dA n.dn n.dc,.slice n.lA n.ln n.lc,.map none,.map (some (w.heap.size+1+1))] 75))
   w.heap.size #[.slice none 0 0,.pointer (some ⟨g,0,none⟩)] 68∧
  RowKit.Below w.heap.size w ((((w.alloc (.cells #[.slice none 0 0,.pointer (some ⟨g,0,none⟩)] 68)).alloc (.cells #[.pointer (some ⟨g,0,none⟩),.int .i64 0] 72)).alloc (.map #[] 0)).alloc (.cells #[.pointer (some ⟨w.heap.size+1,0,none⟩),.slice n.dA n.dn n.dc,.slice n.lA n.ln n.lc,.map none,.map (some (w.heap.size+1+1))] 75)):=by
 have hinv:=h.inv
 have h1:=h.alloc (.cells #[.slice none 0 0,.pointer (some ⟨g,0,none⟩)] 68)
 have x1:=Bx.new w #[.slice none 0 0,.pointer (some ⟨g,0,none⟩)] 68
 have b1:=below_alloc2 w (.cells #[.slice none 0 0,.pointer (some ⟨g,0,none⟩)] 68)
 have s1:(w.alloc (.cells #[.slice none 0 0,.pointer (some ⟨g,0,none⟩)] 68)).heap.size =w.heap.size+1:=by simp
 generalize World.alloc w _=w3 at*
 have h2:=h1.alloc (.cells #[.pointer (some ⟨g,0,none⟩),.int .i64 0] 72)
 have x2:=Bx.new w3 #[.pointer (some ⟨g,0,none⟩),.int .i64 0] 72
 have b2:=below_alloc2 w3 (.cells #[.pointer (some ⟨g,0,none⟩),.int .i64 0] 72)
 have s2:(w3.alloc (.cells #[.pointer (some ⟨g,0,none⟩),.int .i64 0] 72)).heap.size =w.heap.size+1+1:=by simp[s1]
 rw[s1]at h2 x2
 have x1':=x1.below b2
 have b12:=b1.trans (b2.mono b1.size)
 generalize World.alloc w3 _=w4 at*
 have h3:=h2.alloc (.map #[] 0)
 have x3:=aV.made (P:=Tryz.prog) (kt:=27) (key:=eG) (dom:=eU) w4
 have b3:=below_alloc2 w4 (.map #[] 0)
 have s3:(w4.alloc (.map #[] 0)).heap.size =w.heap.size+1+1+1:=by simp[s2]
 rw[s2]at h3 x3
 have acV:=x1'.below b3
 have x2':=x2.below b3
 have b13:=b12.trans (b3.mono b12.size)
 generalize World.alloc w4 _=w5 at*
 have h4:=h3.alloc (.cells #[.pointer (some ⟨w.heap.size+1,0,none⟩),.slice n.dA n.dn n.dc,.slice n.lA n.ln n.lc,.map none,.map (some (w.heap.size+1+1))] 75)
 have x4:=Bx.new w5 #[.pointer (some ⟨w.heap.size+1,0,none⟩),.slice n.dA n.dn n.dc,.slice n.lA n.ln n.lc,.map none,.map (some (w.heap.size+1+1))] 75
 have b4:=below_alloc2 w5 (.cells #[.pointer (some ⟨w.heap.size+1,0,none⟩),.slice n.dA n.dn n.dc,.slice n.lA n.ln n.lc,.map none,.map (some (w.heap.size+1+1))] 75)
 rw[s3]at h4 x4
 have b14:=b13.trans (b4.mono b13.size)
 have y3:=x3.same (b4.block _ x3.lt)
 generalize World.alloc w5 _=w6 at*
 refine⟨RD.start ⟨h4.mono (fun j hj=>?_),x2'.below b4,.inl rfl,?_⟩ x4 y3 (nK.empty hinv _) ⟨by omega,?_,?_⟩,acV.below b4,b14⟩
 ·simp only[List.mem_cons,List.not_mem_nil,or_false]at hj ⊢
  omega
 ·simp only[List.mem_cons,List.not_mem_nil,or_false]
  omega
 ·simp only[List.mem_cons,List.not_mem_nil,or_false]
  omega
 ·simp only[List.mem_cons,List.not_mem_nil,or_false]
  omega
theorem Lj {ds:List Dev} {ls:List ah} (h:fq ds ls=0):mU ls:=by
 have hn:=mK h
 refine⟨hn.ll,fun x hx=>?_⟩
 have hv:=hn.pl _ hx
 obtain⟨⟨a1,a2⟩,a3,a4⟩:=lQ.1 hv
 have hq:=Js (lK ds x.1)
 have hdl:=hn.dl
 refine⟨?_,?_⟩<;>(simp only[aO];omega)
theorem TD {w8:World} {B g:Nat} {A:St} {N base:Nat} {v:Value} {L:List gU} {er rd nm mk nb:Nat} {n:aC} {Mn:aB→Option Value} {S:Pl→aj.Fn} (h:mg w8 B g A N base v L (aR n.ls) er [rd,nm,mk]) (ha:AS w8 B g A (nb::(v.ownBlock.toList++([rd,nm,mk]++N::L.map gU.blk)))) (hmk:Bx w8 mk #[.pointer (some ⟨g,0,none⟩),.int .i64 (er:Int)] 72) (her:er=0∨(er=6∧A.len=A.most))
  (hmem:(⟨nm,Mn,S⟩:gU)∈L) (hm:gY w8 nb Mn) (hne:nb∉v.ownBlock.toList++([rd,nm,mk]++N::L.map gU.blk)) (h1:mk≠rd) (h2:mk∉L.map gU.blk):
  RD (w8.alloc (.cells #[.pointer (some ⟨mk,0,none⟩),.slice n.dA n.dn n.dc,.slice n.lA n.ln n.lc,.map (some nm),.map (some nb)] 75)) B g A (rd::(v.ownBlock.toList++N::L.map gU.blk)) mk er w8.heap.size n (.map (some nm)) nb Mn S∧
  oC (w8.alloc (.cells #[.pointer (some ⟨mk,0,none⟩),.slice n.dA n.dn n.dc,.slice n.lA n.ln n.lc,.map (some nm),.map (some nb)] 75)) A er (rd::(v.ownBlock.toList++N::L.map gU.blk)) nm Mn S:=by
 have hb:=below_alloc2 w8 (.cells #[.pointer (some ⟨mk,0,none⟩),.slice n.dA n.dn n.dc,.slice n.lA n.ln n.lc,.map (some nm),.map (some nb)] 75)
 have hlt:=ha.lt
 have hent:=h.ents _ hmem
 have QO:=h.ne
 simp only[List.mem_append,List.mem_cons,List.not_mem_nil,or_false,not_or]at hne QO
 have hsub:∀j,j∈rd::(v.ownBlock.toList++N::L.map gU.blk)→j∈v.ownBlock.toList++([rd,nm,mk]++N::L.map gU.blk):=fun j hj=>by
  simp only[List.mem_append,List.mem_cons,List.not_mem_nil,or_false]at hj ⊢
  rcases hj with a | a | a | a<;>simp[a]
 refine⟨⟨⟨(ha.alloc _).mono (fun j hj=>?_),hmk.below hb,her,fun hj=>?_⟩,Bx.new _ _ _,hm.same (hb.block _ hm.lt),hent.2.ints,hent.2.keys,hent.2.vR,?_,?_,?_⟩,⟨?_,hent.1.same (hb.block _ hent.1.lt),hent.2.ints,hent.2.vR⟩⟩
 ·simp only[List.mem_append,List.mem_cons,List.not_mem_nil,or_false]at hj ⊢
  rcases hj with a | a | a | a | a | a | a<;>simp[a]
 ·have hl:=(hlt mk (by simp)).2
  rcases List.mem_cons.1 hj with a | a
  ·omega
  rcases List.mem_cons.1 a with a | a
  ·exact hne.2.1.2.2 a.symm
  rcases List.mem_cons.1 a with a | a
  ·exact h1 a
  rcases List.mem_append.1 a with a | a
  ·exact h.ap mk (by simpa using a) (by simp)
  rcases List.mem_cons.1 a with a | a
  ·exact QO.1.2.2 a.symm
  ·exact h2 a
 ·have:=(hlt nb (by simp)).2
  omega
 ·intro hj
  have:=(hlt _ (List.mem_cons_of_mem _ (hsub _ hj))).2
  omega
 ·intro hj
  have:=hsub _ hj
  simp only[List.mem_append,List.mem_cons,List.not_mem_nil,or_false]at this
  rcases this with a | a | a | a
  ·exact hne.1 a
  ·rcases a with a | a | a
   ·exact hne.2.1.1 a
   ·exact hne.2.1.2.1 a
   ·exact hne.2.1.2.2 a
  ·exact hne.2.2.1 a
  ·exact hne.2.2.2 a
 ·have:nm∈L.map gU.blk:=List.mem_map_of_mem (f:=gU.blk) hmem
  simp[this]
theorem QS {w:World} {N:Nat} {u:Value} {t:TypeId} (h:Bx w N #[u] t):Reads w (N+1) 1 (some ⟨N,0,none⟩) 1 [u]:=
 ⟨rfl,fun _=>⟨_,rfl,Nat.lt_succ_self _,fun j u' hu=>by
  rw[addr_add,Nat.zero_add]
  exact h.get j u' (by simpa using hu)⟩⟩
structure NS (wr:World) (B g:Nat) (A:St) (N base:Nat) (v:Value) (L:List gU) (k mk er rd:Nat) (n:aC) (dV:Value) (nm:Nat) (Mn:aB→Option Value):Prop where
 QT:RD wr B g A (v.ownBlock.toList++N::L.map gU.blk) mk er rd n dV nm Mn (aF n.au n.ls k)
 su:mg wr B g A N base v L (aR n.ls) er [rd,nm,mk]
 ls:L.map gU.S=(List.range k).map (aF n.au n.ls)
theorem NS.start {wr:World} {B g:Nat} {A:St} {N base mk er rd:Nat} {n:aC} {nm:Nat} {Mn:aB→Option Value} (h:RD wr B g A [N] mk er rd n (.map none) nm Mn (aF n.au n.ls 0)) (hx:Bx wr N #[.slice none 0 0,.pointer (some ⟨g,0,none⟩)] 68):
  NS wr B g A N base (.slice none 0 0) [] 0 mk er rd n (.map none) nm Mn:=by
 obtain⟨n1,n2,n3⟩:=h.ne
 have hmk:=h.m.ap
 simp only[List.mem_cons,List.not_mem_nil,or_false,not_or]at n2 n3 hmk
 refine⟨h,⟨h.m.sa.mono (fun j hj=>?_),World.ownsRow_nil _ _ _ _,fun q hq=>by(cases hq),hx,fun e he=>by(cases he),?_⟩,rfl⟩
 ·simp only[Value.ownBlock,Option.map_none,Option.toList_none,List.nil_append,List.map_nil,List.mem_append,List.mem_cons,List.not_mem_nil,or_false]at hj ⊢
  omega
 ·simp only[List.map_nil,List.append_nil,List.mem_cons,List.not_mem_nil,or_false,not_or]
  exact⟨Ne.symm n2,Ne.symm n3,Ne.symm hmk.2.2⟩
end Go.Proofs.YtifkacnoiocebaaGreat
namespace Go.Proofs.YtifkacnoiocebaaGreat
open Go.Maps Go.RowKit
def iV (p:P4):Nat:=p.src.toNat*1024+p.dst.toNat*64+p.dz.toNat*8+p.dU.toNat
theorem Fb {p:P4} (h:dH p=true):∃a b c d:Nat,p=⟨(a:Int),(b:Int),(c:Int),(d:Int)⟩∧a<16∧b<16∧c<8∧d<8:=by
 obtain⟨a,b,c,d⟩:=p
 simp only[dH,aZ,Bool.and_eq_true,decide_eq_true_eq]at h
 refine⟨a.toNat,b.toNat,c.toNat,d.toNat,?_,by omega,by omega,by omega,by omega⟩
 simp only[P4.mk.injEq]
 omega
theorem Xk {p:P4} (h:dH p=true):iV p<16384:=by
 obtain⟨a,b,c,d,rfl,h1,h2,h3,h4⟩:=Fb h
 simp only[iV,Int.toNat_natCast]
 omega
theorem D5 (a b k:Nat) (hb:b<2 ^ k):a*2 ^ k ||| b=a*2 ^ k+b:=by
 rw[Nat.mul_comm,Nat.two_pow_add_eq_or_of_lt hb]
theorem TF (a b:Nat) (ha:a<16) (hb:b<16):Go.bits .or .i64 ((a*1024:Nat):Int) ((b*64:Nat):Int)=((a*1024+b*64:Nat):Int):=by
 rw[I4 _ _ (by omega) (by omega)]
 have:a*1024 ||| b*64=a*1024+b*64:=D5 a (b*64) 10 (by omega)
 rw[this]
theorem TG (a b c:Nat) (ha:a<16) (hb:b<16) (hc:c<8):Go.bits .or .i64 ((a*1024+b*64:Nat):Int) ((c*8:Nat):Int)=((a*1024+b*64+c*8:Nat):Int):=by
 rw[I4 _ _ (by omega) (by omega)]
 have:=D5 (a*16+b) (c*8) 6 (by omega)
 have e:(a*16+b)*2 ^ 6=a*1024+b*64:=by omega
 rw[e]at this
 rw[this]
theorem TH (a b c d:Nat) (ha:a<16) (hb:b<16) (hc:c<8) (hd:d<8):Go.bits .or .i64 ((a*1024+b*64+c*8:Nat):Int) (d:Int)=((a*1024+b*64+c*8+d:Nat):Int):=by
 rw[I4 _ _ (by omega) (by omega)]
 have:=D5 (a*128+b*8+c) d 3 (by omega)
 have e:(a*128+b*8+c)*2 ^ 3=a*1024+b*64+c*8:=by omega
 rw[e]at this
 rw[this]
theorem QU (p:P4) (W:World):Calls Tryz.prog 35 #[.agg #[.int .i64 p.src,.int .i64 p.dst,.int .i64 p.dz,.int .i64 p.dU]] W fun e W'=>e= .returned (.tuple #[.int .i64 (if dH p then(iV p:Int)else 0),.int .i64 (if dH p then 0 else 1)])∧RowKit.Below W.heap.size W W':=by
 have HC:=hide (fun(w:World)=>DF p w)
 cases hR:dH p with
 |false=>
  simp only[hR]at HC
  obtain⟨a,b,c,d⟩:=p
  clear hR
  go_enter Tryz.func35,Tryz.ntmps35
  go_wp2_with fail
  have hb0:=(RowKit.Below.refl W.heap.size W).alloc (Nat.le_refl _) (.cells #[.int .i64 a,.int .i64 b,.int .i64 c,.int .i64 d] 29)
  refine(HC.out _).mono ?_
  rintro e w1 ⟨rfl,hb⟩
  have HB:=hide (hb0.trans (hb.mono hb0.size))
  clear hb hb0
  go_wp2
  go_ret2
  exact⟨rfl,HB.out⟩
 |true=>
  simp only[hR]at HC
  obtain⟨a,b,c,d,rfl,h1,h2,h3,h4⟩:=Fb hR
  have e0:iV ⟨(a:Int),(b:Int),(c:Int),(d:Int)⟩=a*1024+b*64+c*8+d:=by simp only[iV,Int.toNat_natCast]
  rw[e0]
  have q1:=TF a b h1 h2
  have q2:=TG a b c h1 h2 h3
  have q3:=TH a b c d h1 h2 h3 h4
  have q4:Go.bits .or .i64 (Go.bits .or .i64 (Go.bits .or .i64 ((a:Int)*1024) ((b:Int)*64)) ((c:Int)*8)) (d:Int)=((a*1024+b*64+c*8+d:Nat):Int):=by
   rw[show((a:Int)*1024)=((a*1024:Nat):Int) by omega,show((b:Int)*64)=((b*64:Nat):Int) by omega,show((c:Int)*8)=((c*8:Nat):Int) by omega,q1,q2,q3]
  have HQ:=hide q4
  clear hR e0 q1 q2 q3 q4
  go_enter Tryz.func35,Tryz.ntmps35
  go_wp2_with fail
  have hb0:=(RowKit.Below.refl W.heap.size W).alloc (Nat.le_refl _) (.cells #[.int .i64 (a:Int),.int .i64 (b:Int),.int .i64 (c:Int),.int .i64 (d:Int)] 29)
  have HX0:=hide (heap_alloc_new W (.cells #[.int .i64 (a:Int),.int .i64 (b:Int),.int .i64 (c:Int),.int .i64 (d:Int)] 29))
  refine(HC.out _).mono ?_
  rintro e w1 ⟨rfl,hb⟩
  have HB:=hide (hb0.trans (hb.mono hb0.size))
  have hx:=(hb.block W.heap.size (by simp)).trans HX0.out
  have x0:w1.cell? ⟨W.heap.size,0,none⟩=some (.int .i64 (a:Int)):=by rw[cell_of_row _ _ _ _ _ _ hx];rfl
  have x1:w1.cell? ⟨W.heap.size,1,none⟩=some (.int .i64 (b:Int)):=by rw[cell_of_row _ _ _ _ _ _ hx];rfl
  have x2:w1.cell? ⟨W.heap.size,2,none⟩=some (.int .i64 (c:Int)):=by rw[cell_of_row _ _ _ _ _ _ hx];rfl
  have x3:w1.cell? ⟨W.heap.size,3,none⟩=some (.int .i64 (d:Int)):=by rw[cell_of_row _ _ _ _ _ _ hx];rfl
  clear hb hb0 hx HX0
  go_wp2
  go_ret2
  refine⟨?_,HB.out⟩
  show Ending.returned (.tuple #[.int .i64 (Go.bits .or .i64 (Go.bits .or .i64 (Go.bits .or .i64 ((a:Int)*1024) ((b:Int)*64)) ((c:Int)*8)) (d:Int)),.int .i64 0])=_
  rw[HQ.out]
  rfl
open aj
structure za (w:World) (N B g:Nat) (A:St) (sA sc:Nat) (L:List gU) (ks:List Pl):Prop where
 sa:AS w B g A []
 v:A.vars=14
 b0:w.cell? ⟨N,0,none⟩=some (.slice (some ⟨sA,0,none⟩) L.length sc)
 b1:w.cell? ⟨N,1,none⟩=some (.pointer (some ⟨g,0,none⟩))
 lt:N<w.heap.size∧sA<w.heap.size
 el:∀k e,L[k]?=some e→w.cell? ⟨sA,k,none⟩=some (.map (some e.blk))∧gY w e.blk e.M∧nK A e.M e.S ks
 ne:0<L.length∧L.length≤491521
theorem za.below {w w':World} {N B g:Nat} {A:St} {sA sc:Nat} {L:List gU} {ks:List Pl} (h:za w N B g A sA sc L ks) (hb:RowKit.Below w.heap.size w w'):za w' N B g A sA sc L ks:=
 ⟨h.sa.below hb,h.v,(hb.cell (p:=⟨N,0,none⟩) h.lt.1).trans h.b0,(hb.cell (p:=⟨N,1,none⟩) h.lt.1).trans h.b1,⟨Nat.lt_of_lt_of_le h.lt.1 hb.size,Nat.lt_of_lt_of_le h.lt.2 hb.size⟩,
  fun k e he=>⟨(hb.cell (p:=⟨sA,k,none⟩) h.lt.2).trans (h.el k e he).1,(h.el k e he).2.1.same (hb.block _ (h.el k e he).2.1.lt),(h.el k e he).2.2⟩,h.ne⟩
theorem mg.reach {wr:World} {B g rb base:Nat} {A:St} {v:Value} {L:List gU} {ks:List Pl} {more:List Nat} (h:mg wr B g A rb base v L ks 0 more) (hv:A.vars=14) (h0:0<L.length) (hL:L.length≤491521):∃sA sc,za wr rb B g A sA sc L ks∧base≤sA∧B≤rb∧∀e∈L,B≤e.blk:=by
 obtain⟨sA,sc,rfl,hsb,_⟩:=h.own.form (by omega)
 refine⟨sA,sc,⟨h.sa.mono (fun j hj=>by cases hj),hv,h.bx.get 0 _ rfl,h.bx.get 1 _ rfl,⟨h.bx.lt,(h.own.lt sA rfl).2⟩,fun k e he=>?_,h0,hL⟩,hsb,(h.sa.lt rb (by simp)).1,fun e he=>(h.sa.lt e.blk (by
  simp only[List.mem_append,List.mem_cons,List.mem_map]
  exact .inr (.inr (.inr ⟨e,he,rfl⟩)))).1⟩
 have hm:=h.ents e (List.mem_of_getElem? he)
 have hc:=h.own.cells (g:=sA) rfl k (.map (some e.blk)) (by simp[he])
 rw[addr_add,Nat.zero_add]at hc
 exact⟨hc,hm.1,hm.2.ok⟩
structure kZ (w:World) (N:Nat) (ds:List Dev) (ls:List ah) (K:Nat):Prop where
 ex:∃B g A sA sc L,za w N B g A sA sc L (aR ls)∧L.map gU.S=(List.range (K+1)).map (aF ds ls)
 fix:aF ds ls (K+1)=aF ds ls K
 up:∀k,k<K→aF ds ls (k+1)≠aF ds ls k
theorem kZ.below {w w':World} {N:Nat} {ds:List Dev} {ls:List ah} {K:Nat} (h:kZ w N ds ls K) (hb:RowKit.Below w.heap.size w w'):kZ w' N ds ls K:=by
 obtain⟨B,g,A,sA,sc,L,h1,h2⟩:=h.ex
 exact⟨⟨B,g,A,sA,sc,L,h1.below hb,h2⟩,h.fix,h.up⟩
theorem AS.from_ {w w':World} {B g:Nat} {A:St} (h:AS w B g A []) (hc:∀i,B≤i→i<w.heap.size→w'.heap[i]?=w.heap[i]?):AS w' B g A []:=by
 obtain⟨nb,kb,ib,cap,K,T,ha,hf⟩:=h.ar
 obtain⟨l1,l2,l3,l4,l5⟩:=ha.qR
 obtain⟨m1,m2,m3⟩:=ha.lo
 exact⟨⟨nb,kb,ib,cap,K,T,ha.keep (hc g m1 l1) (hc nb l5 l2) (hc kb m2 l3) (hc ib m3 l4),fun j hj=>by cases hj⟩,h.nf⟩
structure nZ (Lo:Nat) (w:World) (N:Nat) (ds:List Dev) (ls:List ah) (K:Nat):Prop where
 ex:∃B g A sA sc L,za w N B g A sA sc L (aR ls)∧L.map gU.S=(List.range (K+1)).map (aF ds ls)∧Lo≤B∧Lo≤N∧Lo≤sA∧∀e∈L,Lo≤e.blk
 fix:aF ds ls (K+1)=aF ds ls K
 up:∀k,k<K→aF ds ls (k+1)≠aF ds ls k
theorem nZ.at_ {Lo:Nat} {w:World} {N:Nat} {ds:List Dev} {ls:List ah} {K:Nat} (h:nZ Lo w N ds ls K):kZ w N ds ls K:=by
 obtain⟨B,g,A,sA,sc,L,h1,h2,_⟩:=h.ex
 exact⟨⟨B,g,A,sA,sc,L,h1,h2⟩,h.fix,h.up⟩
theorem nZ.keep {Lo:Nat} {w w':World} {N:Nat} {ds:List Dev} {ls:List ah} {K:Nat} (h:nZ Lo w N ds ls K) (hs:w.heap.size≤w'.heap.size) (hc:∀i,Lo≤i→i<w.heap.size→w'.heap[i]?=w.heap[i]?):nZ Lo w' N ds ls K:=by
 obtain⟨B,g,A,sA,sc,L,h1,h2,l1,l2,l3,l4⟩:=h.ex
 refine⟨⟨B,g,A,sA,sc,L,⟨h1.sa.from_ (fun i hi hl=>hc i (by omega) hl),h1.v,(World.cell?_of_block (a:=⟨N,0,none⟩) (hc N l2 h1.lt.1)).trans h1.b0,(World.cell?_of_block (a:=⟨N,1,none⟩) (hc N l2 h1.lt.1)).trans h1.b1,⟨Nat.lt_of_lt_of_le h1.lt.1 hs,Nat.lt_of_lt_of_le h1.lt.2 hs⟩,fun k e he=>?_,h1.ne⟩,h2,l1,l2,l3,l4⟩,h.fix,h.up⟩
 obtain⟨q1,q2,q3⟩:=h1.el k e he
 exact⟨(World.cell?_of_block (a:=⟨sA,k,none⟩) (hc sA l3 h1.lt.2)).trans q1,q2.same (hc _ (l4 e (List.mem_of_getElem? he)) q2.lt),q3⟩
theorem nZ.below {Lo:Nat} {w w':World} {N:Nat} {ds:List Dev} {ls:List ah} {K:Nat} (h:nZ Lo w N ds ls K) (hb:RowKit.Below w.heap.size w w'):nZ Lo w' N ds ls K:=h.keep hb.size (fun i _ hi=>hb.block i hi)
def BL (n:aC) (most:Nat) (P:aj.Fn→Prop) (W:World) (e:Ending) (W':World):Prop:=RowKit.Below W.heap.size W W'∧
 ((∃N K,e= .returned (.tuple #[.pointer (some ⟨N,0,none⟩),.int .i64 0])∧nZ W.heap.size W' N n.au n.ls K)∨
  (∃A,e= .returned (.tuple #[.pointer none,.int .i64 6])∧Ext (pI 14 most) A∧qx P (pI 14 most) A∧A.len=A.most))
def jm:List aj.Fn→Nat→iq→Int
 |[],_,_=> -1
 |F::t,k,a=>if F a then(k:Int)else jm t (k+1) a
theorem Dk (l:List aj.Fn) (k:Nat) (a:iq): -1≤jm l k a∧jm l k a≤k+l.length:=by
 induction l generalizing k with
 |nil=>simp only[jm,List.length_nil];omega
 |cons F t ih=>
  simp only[jm,List.length_cons]
  have:=ih (k+1)
  split<;>omega
theorem Ow (l:List aj.Fn) (k:Nat) (a:iq):0≤jm l k a↔∃F∈l,F a=true:=by
 induction l generalizing k with
 |nil=>simp[jm]
 |cons F t ih=>
  simp only[jm,List.mem_cons,exists_eq_or_imp]
  by_cases h:F a=true
  ·rw[if_pos h];exact⟨fun _=>.inl h,fun _=>by omega⟩
  ·rw[if_neg h,ih (k+1)]
   exact⟨.inr,fun hh=>hh.resolve_left h⟩
theorem Ox {l:List aj.Fn} {k j:Nat} {F:aj.Fn} (a:iq) (h:l[k]?=some F):jm (l.drop k) j a=if F a then(j:Int)else jm (l.drop (k+1)) (j+1) a:=by
 obtain⟨hk,e⟩:=List.getElem?_eq_some_iff.1 h
 rw[List.drop_eq_getElem_cons hk,e]
 rfl
def iR (ds:List Dev) (ls:List ah) (K:Nat) (x:Pl) (p:P4):Int:=if dH p then jm ((List.range (K+1)).map fun k=>aF ds ls k x) 0 (aH (iV p))else -1
theorem Ll (ds:List Dev) (ls:List ah) (K:Nat) (x:Pl) (p:P4):0≤iR ds ls K x p↔dH p=true∧aF ds ls K x (aH (iV p))=true:=by
 unfold iR
 by_cases h:dH p=true
 ·rw[if_pos h,Ow]
  constructor
  ·rintro⟨F,hF,hh⟩
   obtain⟨k,hk,rfl⟩:=List.mem_map.1 hF
   refine⟨h,?_⟩
   rw[List.mem_range]at hk
   clear hF
   induction K with
   |zero=>
    have:k=0:=by omega
    subst this;exact hh
   |succ K ih=>
    by_cases e:k=K+1
    ·subst e;exact hh
    ·exact zU ds ls K x _ (ih (by omega))
  ·rintro⟨_,hh⟩
   exact⟨_,List.mem_map.2 ⟨K,List.mem_range.2 (by omega),rfl⟩,hh⟩
 ·rw[if_neg h]
  exact⟨fun h0=>absurd h0 (by decide),fun h0=>absurd h0.1 h⟩
theorem Xl {w:World} {B g:Nat} {A:St} {bl:List Nat} (h:AS w B g A bl) (hv:A.vars=14) {f c:Nat} {F:aj.Fn} (hf:dF A f F) (hc:c<16384):
  Calls Tryz.prog 36 #[.pointer (some ⟨g,0,none⟩),.int .i64 (f:Int),.int .i64 (c:Int)] w fun e W'=>e= .returned (.tuple #[.bool (F (aH c)),.int .i64 0])∧RowKit.Below w.heap.size w W':=by
 obtain⟨nb,kb,ib,cap,K,T,har,hb⟩:=h.ar
 refine(QV har f c hf.1 (by rw[hv];exact hc)).mono fun e w' hq=>?_
 rw[hv,hf.2]at hq
 exact hq
theorem Fe (N:Nat) (ds:List Dev) (ls:List ah) (K:Nat) (x:Pl) (hx:eU x) (p:P4) (W:World) (h:kZ W N ds ls K):Calls Tryz.prog 10 #[.pointer (some ⟨N,0,none⟩),.agg #[.int .i64 x.1,.int .i64 x.2],.agg #[.int .i64 p.src,.int .i64 p.dst,.int .i64 p.dz,.int .i64 p.dU]] W fun e W'=>e= .returned (.int .i64 (iR ds ls K x p))∧RowKit.Below W.heap.size W W':=by
 obtain⟨B,g,A,sA,sc,L,hm,hL⟩:=h.ex
 have hlen:L.length=K+1:=by have:=congrArg List.length hL;simpa using this
 have MH:=hide (show iR ds ls K x p=if dH p then jm (L.map fun e=>e.S x) 0 (aH (iV p))else -1 from by
  unfold iR
  have e:(L.map fun e=>e.S x)=(List.range (K+1)).map fun k=>aF ds ls k x:=by
   have:=congrArg (List.map fun S:Pl→aj.Fn=>S x) hL
   simpa[List.map_map,Function.comp_def]using this
  rw[e])
 have HC:=hide (fun(w:World)=>QU p w)
 have Ht:=hide (fun h=>Xk (p:=p) h)
 obtain⟨y1,y2⟩:=x
 obtain⟨a,b,c,d⟩:=p
 have hb0:=(below_alloc2 W (.cells #[.int .i64 y1,.int .i64 y2] 27)).trans ((below_alloc2 (W.alloc (.cells #[.int .i64 y1,.int .i64 y2] 27)) (.cells #[.int .i64 a,.int .i64 b,.int .i64 c,.int .i64 d] 29)).mono (below_alloc2 W _).size)
 have HB0:=hide hb0
 have HX0:=hide ((Bx.new W #[.int .i64 y1,.int .i64 y2] 27).below (below_alloc2 (W.alloc (.cells #[.int .i64 y1,.int .i64 y2] 27)) (.cells #[.int .i64 a,.int .i64 b,.int .i64 c,.int .i64 d] 29)))
 have HM:=hide (hm.below hb0)
 have HV:=hide hm.v
 have hK:L.length≤491521:=hm.ne.2
 generalize iR ds ls K (y1,y2) ⟨a,b,c,d⟩=RP at*
 clear h hm hL hlen hb0
 go_enter Tryz.func10,Tryz.ntmps10
 go_wp2_with fail
 generalize World.alloc (World.alloc W _) _=w1 at*
 refine(HC.out _).mono ?_
 rintro e w2 ⟨rfl,hb⟩
 have HB2:=hide (HB0.out.trans (hb.mono HB0.out.size))
 have bZ:=hide (HX0.out.below hb)
 have qX:=hide (HM.out.below hb)
 clear hb HB0 HX0 HM HC
 cases hR:dH ⟨a,b,c,d⟩with
 |false=>
  have HF:=hide (show RP= -1 from by have:=MH.out;rw[hR]at this;exact this)
  clear hR MH
  go_wp2
  go_ret
  exact⟨by rw[HF.out];rfl,HB2.out⟩
 |true=>
  have hcl:=Ht.out hR
  have HF:=hide (show RP=jm (L.map fun e=>e.S (y1,y2)) 0 (aH (iV ⟨a,b,c,d⟩))from by have:=MH.out;rw[hR]at this;exact this)
  generalize iV ⟨a,b,c,d⟩=cc at*
  clear hR MH Ht
  have b0:=qX.out.b0
  go_wp2_with fail
  clear b0
  go_loopw [25] (fun i wr=>∃(k:Nat),k≤L.length∧i= .int .i64 (k:Int)∧Hid (jm ((L.map fun e=>e.S (y1,y2)).drop k) k (aH cc)=RP)∧Hid (RowKit.Below w2.heap.size w2 wr)) (fun i _=>L.length - (intOf i).toNat)
  case atStart=>exact⟨0,Nat.zero_le _,rfl,hide HF.out.symm,hide (RowKit.Below.refl _ _)⟩
  case round=>
   obtain⟨k,hk,rfl,HS,HB⟩:=hrel
   by_cases hlt:k<L.length
   ·obtain⟨en,hen⟩:∃en,L[k]?=some en:=⟨_,List.getElem?_eq_getElem hlt⟩
    have yR:=hide (qX.out.below HB.out)
    have gL:=hide (bZ.out.below HB.out)
    have Fg:=hide (yR.out.el k en hen)
    have QW:=hide (Ox (l:=L.map fun e=>e.S (y1,y2)) (k:=k) (j:=k) (aH cc) (F:=en.S (y1,y2)) (by simp[hen]))
    have HE:=hide hen
    have c0:wr.cell? ⟨sA,k,none⟩=some (.map (some en.blk)):=Fg.out.1
    clear hen
    go_wp2_with fail
    clear c0
    refine bB (by kernel_rfl) (by kernel_rfl) ?_
    intro T hT gt hg1 hgi
    have aJ:=hide hg1
    have dZ:=hide hgi
    clear hg1 hgi
    have k1:∀t,(gt t).cell? ⟨N,1,none⟩=some (.pointer (some ⟨g,0,none⟩)):=fun t=>(yR.out.below (aJ.out t)).b1
    have k2:∀t,(gt t).cell? ⟨W.heap.size,0,none⟩=some (.int .i64 y1):=fun t=>(gL.out.below (aJ.out t)).get 0 _ rfl
    have k3:∀t,(gt t).cell? ⟨W.heap.size,1,none⟩=some (.int .i64 y2):=fun t=>(gL.out.below (aJ.out t)).get 1 _ rfl
    have k5:∀t,(Instr.lookup 73 (.map (some en.blk)) (.agg #[.int .i64 y1,.int .i64 y2]) false).run Tryz.prog (gt t)= .ok (.int .i64 ((bK en.M (y1,y2):Nat):Int)) (gt t):=fun t=>aV.IJ (Fg.out.2.1.same ((aJ.out t).block _ Fg.out.2.1.lt)) Fg.out.2.2.ints y1 y2 hx.1 hx.2
    repeat (go_big_quiet_step ((go_at_call 36;exact eB aJ.out dZ.out (Xl (yR.out.below (aJ.out _)).sa HV.out (Fg.out.2.2.vR (y1,y2)) hcl))))
    refine wpQuiet_nil ?_
    intro _ hw'
    obtain⟨t,rfl⟩:=hw'
    have kE:=hide (HB.out.trans ((aJ.out t).mono HB.out.size))
    generalize gt t=w3 at*
    clear aJ dZ k1 k2 k3 k5 yR gL Fg
    have VW:=hide (QW.out.symm.trans HS.out)
    clear QW HS HB
    cases hb:en.S (y1,y2) (aH cc)
    ·have HN:=hide (show jm ((L.map fun e=>e.S (y1,y2)).drop (k+1)) (k+1) (aH cc)=RP from by have:=VW.out;rw[hb]at this;exact this)
     clear hb VW
     go_wp2_with fail
     go_roundw
     case rel=>exact⟨k+1,by omega,by go_num,HN,kE⟩
     case measure=>simp[intOf];omega
    ·have HN:=hide (show(k:Int)=RP from by have:=VW.out;rw[hb]at this;exact this)
     clear hb VW
     go_wp2
     go_ret
     exact⟨by rw[← HN.out];rfl,HB2.out.trans (kE.out.mono HB2.out.size)⟩
   ·have hk2:k=L.length:=by omega
    have HN:=hide (show RP= -1 from by
     have:=HS.out
     rw[List.drop_of_length_le (by simp;omega)]at this
     exact this.symm)
    go_wp2
    go_ret
    exact⟨by rw[HN.out];rfl,HB2.out.trans (HB.out.mono HB2.out.size)⟩
end Go.Proofs.YtifkacnoiocebaaGreat
namespace Go.Proofs.YtifkacnoiocebaaGreat
open Go.RowKit
def zY (w:World) (N:Nat) (a b c d:Int):Prop:=
 w.cell? ⟨N,0,none⟩=some (.int .i64 a)∧w.cell? ⟨N,1,none⟩=some (.int .i64 b)∧w.cell? ⟨N,2,none⟩=some (.int .i64 c)∧w.cell? ⟨N,3,none⟩=some (.int .i64 d)∧
  w.frozen? ⟨N,0,none⟩=false∧w.frozen? ⟨N,1,none⟩=false∧w.frozen? ⟨N,2,none⟩=false∧w.frozen? ⟨N,3,none⟩=false
theorem zY.below {w w':World} {B N:Nat} {a b c d:Int} (h:zY w N a b c d) (hB:Below B w w') (hN:N<B):zY w' N a b c d:=by
 have e:∀o,w'.cell? ⟨N,o,none⟩=w.cell? ⟨N,o,none⟩:=fun o=>hB.cell (p:=⟨N,o,none⟩) hN
 have f:∀o,w'.frozen? ⟨N,o,none⟩=w.frozen? ⟨N,o,none⟩:=fun o=>hB.frozen (p:=⟨N,o,none⟩) hN
 unfold zY
 rw[e,e,e,e,f,f,f,f]
 exact h
theorem zY.new (w:World) (a b c d:Int) (t:TypeId):zY (w.alloc (.cells #[.int .i64 a,.int .i64 b,.int .i64 c,.int .i64 d] t)) w.heap.size a b c d:=by
 have hbx:=heap_alloc_new w (.cells #[.int .i64 a,.int .i64 b,.int .i64 c,.int .i64 d] t)
 have f:∀o,(w.alloc (.cells #[.int .i64 a,.int .i64 b,.int .i64 c,.int .i64 d] t)).frozen? ⟨w.heap.size,o,none⟩=false:=fun o=>by unfold World.frozen?;rw[hbx];simp
 exact⟨by rw[cell_of_row _ _ _ _ _ _ hbx];rfl,by rw[cell_of_row _ _ _ _ _ _ hbx];rfl,by rw[cell_of_row _ _ _ _ _ _ hbx];rfl,by rw[cell_of_row _ _ _ _ _ _ hbx];rfl,f 0,f 1,f 2,f 3⟩
theorem tC (c:Nat):∃x0 x1 x2 x3:Int,fQ c= .agg #[.int .i64 x0,.int .i64 x1,.int .i64 x2,.int .i64 x3]:=⟨_,_,_,_,rfl⟩
theorem Oy (W:World) (f1 f2:Nat) (aQ cap2:Array Value) (F G:Nat→Bool)
  (hc1:∀(args:Array Value) (w:World),(callFunc f1 args).run Tryz.prog w= .ok (.enter f1 args) w) (hc2:∀(args:Array Value) (w:World),(callFunc f2 args).run Tryz.prog w= .ok (.enter f2 args) w)
  (hf1:Hid (∀c (w':World),c<16384→Below W.heap.size W w'→Calls Tryz.prog f1 (#[fQ c]++aQ) w' fun e w''=>e= .returned (.bool (F c))∧Below w'.heap.size w' w''))
  (hf2:Hid (∀c (w':World),c<16384→Below W.heap.size W w'→Calls Tryz.prog f2 (#[fQ c]++cap2) w' fun e w''=>e= .returned (.bool (G c))∧Below w'.heap.size w' w'')):
  Calls Tryz.prog 21 #[.func (.func f1) #[] aQ,.func (.func f2) #[] cap2] W fun e W'=>e= .returned (nT (mV F G 16384))∧Below W.heap.size W W':=by
 have HZ0:=hide (zY.new W 0 0 0 0 29)
 have HB0:=hide (show Below W.heap.size W (W.alloc (.cells #[.int .i64 0,.int .i64 0,.int .i64 0,.int .i64 0] 29))from(Below.refl _ _).alloc (Nat.le_refl _) _)
 go_enter Tryz.func21,Tryz.ntmps21
 go_wp2
 go_loopw [8] (fun i wr=>∃k:Nat,k≤16384∧i= .int .i64 k∧Below W.heap.size W wr∧Hid (zY wr W.heap.size 0 0 0 0)∧W.heap.size<wr.heap.size∧Hid (∀j,j<k→F j=G j)) (fun i _=>16384 - (intOf i).toNat)
 case atStart=>exact⟨0,Nat.zero_le _,rfl,HB0.out,HZ0,by simp,hide (fun j h=>absurd h (by omega))⟩
 case round=>
  clear HZ0 HB0
  obtain⟨k,hk,rfl,hb,HZ,hsz,HE⟩:=hrel
  have HB:=hide hb
  clear hb
  by_cases hlt:k<16384
  ·obtain⟨x0,x1,x2,x3,hpv⟩:=tC k
   have Kh:=hide hpv
   have ng:=hide (fun w' hb=>hpv▸hf1.out k w' hlt hb)
   have xR:=hide (fun w' hb=>hpv▸hf2.out k w' hlt hb)
   clear hpv
   have iE:Hid (Calls Tryz.prog 41 #[.int .i64 k] wr fun e W'=>e= .returned (.agg #[.int .i64 x0,.int .i64 x1,.int .i64 x2,.int .i64 x3])∧Below wr.heap.size wr W'):=hide (Kh.out▸iF wr k hlt)
   go_wp2_with fail
   refine iE.out.mono ?_
   rintro e wa ⟨rfl,hba⟩
   have hsa:=hba.size
   have VX:=hide ((HB.out.trans (hba.mono HB.out.size)).alloc (Nat.le_trans HB.out.size hsa) (.cells #[.int .i64 x0,.int .i64 x1,.int .i64 x2,.int .i64 x3] 29))
   have HXa:=hide (zY.new wa x0 x1 x2 x3 29)
   have HZa:=hide ((HZ.out.below hba hsz).below ((Below.refl _ _).alloc (Nat.le_refl _) (.cells #[.int .i64 x0,.int .i64 x1,.int .i64 x2,.int .i64 x3] 29)) (Nat.lt_of_lt_of_le hsz hsa))
   have hpl:wa.heap.size<(wa.alloc (.cells #[.int .i64 x0,.int .i64 x1,.int .i64 x2,.int .i64 x3] 29)).heap.size :=by simp
   have hne:W.heap.size<wa.heap.size:=Nat.lt_of_lt_of_le hsz hsa
   clear hba iE HZ HB hsz hsa
   go_wp2_with fail
   refine(ng.out _ VX.out).mono ?_
   generalize wa.alloc _=wp at*
   rintro e wb ⟨rfl,hbb⟩
   have Hu:=hide (VX.out.trans (hbb.mono VX.out.size))
   have Y0:=hide (HXa.out.below hbb hpl)
   have HZb:=hide (HZa.out.below hbb (Nat.lt_trans hne hpl))
   have hpb:wa.heap.size<wb.heap.size:=Nat.lt_of_lt_of_le hpl hbb.size
   clear hbb VX HXa HZa hpl
   generalize wa.heap.size=N at*
   obtain⟨p0,p1,p2,p3,_⟩:=Y0.out
   cases hF:F k
   ·go_wp2_with fail
    refine(xR.out _ Hu.out).mono ?_
    rintro e wc ⟨rfl,hbc⟩
    have zZ:=hide (Hu.out.trans (hbc.mono Hu.out.size))
    have Ki:=hide (Y0.out.below hbc hpb)
    have Kj:=hide (HZb.out.below hbc (by omega))
    have Kk:N<wc.heap.size:=Nat.lt_of_lt_of_le hpb hbc.size
    clear hbc p0 p1 p2 p3
    obtain⟨p0,p1,p2,p3,_⟩:=Ki.out
    cases hG:G k
    ·go_wp2
     go_roundw
     case rel=>exact⟨k+1,by omega,by go_num,zZ.out,Kj,by omega,hide (fun j hj=>by
      rcases(by omega:j<k∨j=k)with h | rfl
      ·exact HE.out j h
      ·rw[hF,hG])⟩
     case measure=>simp[intOf];omega
    ·go_wp2_with fail
     refine(ng.out _ zZ.out).mono ?_
     rintro e wc ⟨rfl,hbc⟩
     have Fh:=hide (zZ.out.trans (hbc.mono zZ.out.size))
     have IX:=hide (Ki.out.below hbc Kk)
     have Oz:=hide (Kj.out.below hbc (by omega))
     have OB:N<wc.heap.size:=Nat.lt_of_lt_of_le Kk hbc.size
     clear hbc p0 p1 p2 p3
     obtain⟨p0,p1,p2,p3,_⟩:=IX.out
     have HR:=hide (tF hlt (by rw[hF,hG];rfl) HE.out)
     obtain⟨z0,z1,z2,z3,z4,z5,z6,z7⟩:=Oz.out
     go_wp2
     refine bodyPost_ret (v:=.tuple #[.agg #[.int .i64 x0,.int .i64 x1,.int .i64 x2,.int .i64 x3],.int .i64 2]) (by simp[results,Tryz.results21,go_sem,z0,z1,z2,z3]) rfl ⟨by rw[HR.out,hF];simp only[nT];rw[Kh.out];rfl,?_⟩
     exact(((Fh.out.setCell (Nat.le_refl _) _).setCell (Nat.le_refl _) _).setCell (Nat.le_refl _) _).setCell (Nat.le_refl _) _
   ·go_wp2_with fail
    refine(xR.out _ Hu.out).mono ?_
    rintro e wc ⟨rfl,hbc⟩
    have zZ:=hide (Hu.out.trans (hbc.mono Hu.out.size))
    have Ki:=hide (Y0.out.below hbc hpb)
    have Kj:=hide (HZb.out.below hbc (by omega))
    have Kk:N<wc.heap.size:=Nat.lt_of_lt_of_le hpb hbc.size
    clear hbc p0 p1 p2 p3
    obtain⟨p0,p1,p2,p3,_⟩:=Ki.out
    cases hG:G k
    ·have HR:=hide (tF hlt (by rw[hF,hG];rfl) HE.out)
     obtain⟨z0,z1,z2,z3,z4,z5,z6,z7⟩:=Kj.out
     go_wp2
     refine bodyPost_ret (v:=.tuple #[.agg #[.int .i64 x0,.int .i64 x1,.int .i64 x2,.int .i64 x3],.int .i64 1]) (by simp[results,Tryz.results21,go_sem,z0,z1,z2,z3]) rfl ⟨by rw[HR.out,hF];simp only[nT];rw[Kh.out];rfl,?_⟩
     exact(((zZ.out.setCell (Nat.le_refl _) _).setCell (Nat.le_refl _) _).setCell (Nat.le_refl _) _).setCell (Nat.le_refl _) _
    ·go_wp2_with fail
     refine(xR.out _ zZ.out).mono ?_
     rintro e wc ⟨rfl,hbc⟩
     have Fh:=hide (zZ.out.trans (hbc.mono zZ.out.size))
     have IX:=hide (Ki.out.below hbc Kk)
     have Oz:=hide (Kj.out.below hbc (by omega))
     have OB:N<wc.heap.size:=Nat.lt_of_lt_of_le Kk hbc.size
     clear hbc p0 p1 p2 p3
     obtain⟨p0,p1,p2,p3,_⟩:=IX.out
     go_wp2_with fail
     refine(ng.out _ Fh.out).mono ?_
     rintro e wc ⟨rfl,hbc⟩
     have Y1:=hide (Fh.out.trans (hbc.mono Fh.out.size))
     have Y2:=hide (IX.out.below hbc OB)
     have Y3:=hide (Oz.out.below hbc (by omega))
     have aer:N<wc.heap.size:=Nat.lt_of_lt_of_le OB hbc.size
     clear hbc p0 p1 p2 p3
     obtain⟨p0,p1,p2,p3,_⟩:=Y2.out
     go_wp2
     go_roundw
     case rel=>exact⟨k+1,by omega,by go_num,Y1.out,Y3,by omega,hide (fun j hj=>by
      rcases(by omega:j<k∨j=k)with h | rfl
      ·exact HE.out j h
      ·rw[hF,hG])⟩
     case measure=>simp[intOf];omega
  ·have hk4:k=16384:=by omega
   have HR:=hide (Dl (n:=16384) (fun j hj=>HE.out j (by omega)))
   obtain⟨z0,z1,z2,z3,z4,z5,z6,z7⟩:=HZ.out
   go_wp2
   refine bodyPost_ret (v:=.tuple #[.agg #[.int .i64 0,.int .i64 0,.int .i64 0,.int .i64 0],.int .i64 0]) (by simp[results,Tryz.results21,go_sem,z0,z1,z2,z3]) rfl ⟨by rw[HR.out];rfl,?_⟩
   exact(((HB.out.setCell (Nat.le_refl _) _).setCell (Nat.le_refl _) _).setCell (Nat.le_refl _) _).setCell (Nat.le_refl _) _
open aj Go.Maps
theorem Xm (w:World) (c:Nat) (hc:c<16384):
  Calls Tryz.prog 38 #[.int .i64 c] w fun e W'=>e= .returned (.tuple #[fQ c,.int .i64 0])∧Below w.heap.size w W':=by
 have b1:∀m:Nat,m<9223372036854775808→Go.bits .and .i64 (m:Int) 15=((m % 16:Nat):Int):=fun m hm=>by
  have:=FW m 15 hm (by omega)
  rw[show(15:Nat)=2 ^ 4 - 1 from rfl,Nat.and_two_pow_sub_one_eq_mod]at this
  exact this
 have b2:∀m:Nat,m<9223372036854775808→Go.bits .and .i64 (m:Int) 7=((m % 8:Nat):Int):=fun m hm=>by
  have:=FW m 7 hm (by omega)
  rw[show(7:Nat)=2 ^ 3 - 1 from rfl,Nat.and_two_pow_sub_one_eq_mod]at this
  exact this
 have HV:Hid (fQ c= .agg #[.int .i64 ((c:Int) / 1024),.int .i64 (Go.bits .and .i64 ((c:Int) / 64) 15),.int .i64 (Go.bits .and .i64 ((c:Int) / 8) 7),.int .i64 (Go.bits .and .i64 (c:Int) 7)]):=hide (by
  have e1:((c / 1024:Nat):Int)=(c:Int) / 1024:=by omega
  have e2:((c:Int) / 64)=((c / 64:Nat):Int):=by omega
  have e3:((c:Int) / 8)=((c / 8:Nat):Int):=by omega
  rw[e2,e3,b1 _ (by omega),b2 _ (by omega),b2 _ (by omega),← e1];rfl)
 clear b1 b2
 go_enter Tryz.func38,Tryz.ntmps38
 go_wp2_with fail
 refine(eP _ _ _ true (by simp;omega)).mono ?_
 rintro e w1 ⟨rfl,rfl⟩
 go_wp2
 refine bodyPost_ret (v:=.tuple #[.agg #[.int .i64 ((c:Int) / 1024),.int .i64 (Go.bits .and .i64 ((c:Int) / 64) 15),.int .i64 (Go.bits .and .i64 ((c:Int) / 8) 7),.int .i64 (Go.bits .and .i64 (c:Int) 7)],.int .i64 0]) (by simp[results,Tryz.results38,go_sem]) rfl ⟨by rw[HV.out],?_⟩
 exact(Below.refl _ _).alloc (Nat.le_refl _) _
def Fj (e:Int):Value:=.tuple #[.agg #[.int .i64 0,.int .i64 0,.int .i64 0,.int .i64 0],.int .i64 0,.int .i64 e]
def QX (r:Option (Nat×Nat)):Value:=match r with
 |some (c,k)=>.tuple #[fQ c,.int .i64 (k:Int),.int .i64 0]
 |none=>Fj 0
end Go.Proofs.YtifkacnoiocebaaGreat
