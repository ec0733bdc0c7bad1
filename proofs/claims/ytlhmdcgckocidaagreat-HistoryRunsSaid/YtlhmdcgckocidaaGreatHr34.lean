/- A part of the proof: Rd13, PkCode, RdA, Rd15, Hs5. -/
import Derived.Test.YtlhmdcgckocidaaGreatHr24
import Derived.Test.YtlhmdcgckocidaaGreatHr33
import Derived.Deep.LoopGhost
set_option linter.unusedVariables false
set_option linter.unusedSimpArgs false
set_option maxRecDepth 100000
set_option maxHeartbeats 4000000
namespace Go.Proofs.YtlhmdcgckocidaaGreat
open ak Go.Maps Go.RowKit
theorem Tryz.infoSum:(Tryz.prog.info? 120).map (fun i=>(i.zero,i.size,i.bytes))=some (some (.map none),1,8):=by kernel_rfl
theorem nG.empty {A:St} (i:Inv A) (ks:List Pl):nG A (fun _=>none) (fun _ _=>false) ks:=
 ⟨fun a v h=>by(cases h),fun x h=>by(cases h),fun x=>by rw[z8 rfl];exact dM.zero i⟩
theorem RD.start {w:World} {B g mk rd nm:Nat} {A:St} {bl:List Nat} {n:aH} {eG:Value} (hmk:MK w B g A (rd::nm::bl) mk 0) (hbx:Bx w rd #[.pointer (some ⟨mk,0,none⟩),.slice n.dA n.dn n.dc,.slice n.lA n.ln n.lc,eG,.map (some nm)] 122) {M:dB→Option Value} {S:Pl→ak.Fn} (hm:gZ w nm M) (hok:nG A M S (bG n.ls)) (hne:rd≠nm∧rd∉bl∧nm∉bl):RD w B g A bl mk 0 rd n eG nm M S:=
 ⟨hmk,hbx,hm,hok.ints,hok.keys,fun _ x=>hok.tL x,hne⟩
theorem Td {w:World} {B g:Nat} {A:St} (h:AS w B g A []) (n:aH):
  RD ((((w.alloc (.cells #[.slice none 0 0,.pointer (some ⟨g,0,none⟩)] 115)).alloc (.cells #[.pointer (some ⟨g,0,none⟩),.int .i64 0] 119)).alloc (.map #[] 0)).alloc (.cells #[.pointer (some ⟨w.heap.size+1,0,none⟩),.slice n.dA n.dn n.dc,.slice n.lA n.ln n.lc,.map none,.map (some (w.heap.size+1+1))] 122))
   B g A [w.heap.size] (w.heap.size+1) 0 (w.heap.size+1+1+1) n (.map none) (w.heap.size+1+1) (fun _=>none) (fun _ _=>false)∧
  Bx ((((w.alloc (.cells #[.slice none 0 0,.pointer (some ⟨g,0,none⟩)] 115)).alloc (.cells #[.pointer (some ⟨g,0,none⟩),.int .i64 0] 119)).alloc (.map #[] 0)).alloc (.cells #[.pointer (some ⟨w.heap.size+1,0,none⟩),.slice n.dA n.dn n.dc,.slice n.lA n.ln n.lc,.map none,.map (some (w.heap.size+1+1))] 122))
   w.heap.size #[.slice none 0 0,.pointer (some ⟨g,0,none⟩)] 115∧
  RowKit.Below w.heap.size w ((((w.alloc (.cells #[.slice none 0 0,.pointer (some ⟨g,0,none⟩)] 115)).alloc (.cells #[.pointer (some ⟨g,0,none⟩),.int .i64 0] 119)).alloc (.map #[] 0)).alloc (.cells #[.pointer (some ⟨w.heap.size+1,0,none⟩),.slice n.dA n.dn n.dc,.slice n.lA n.ln n.lc,.map none,.map (some (w.heap.size+1+1))] 122)):=by
 have hinv:=h.inv
 have h1:=h.alloc (.cells #[.slice none 0 0,.pointer (some ⟨g,0,none⟩)] 115)
 have x1:=Bx.new w #[.slice none 0 0,.pointer (some ⟨g,0,none⟩)] 115
 have b1:=below_alloc2 w (.cells #[.slice none 0 0,.pointer (some ⟨g,0,none⟩)] 115)
 have s1:(w.alloc (.cells #[.slice none 0 0,.pointer (some ⟨g,0,none⟩)] 115)).heap.size =w.heap.size+1:=by simp
 generalize World.alloc w _=w3 at*
 have h2:=h1.alloc (.cells #[.pointer (some ⟨g,0,none⟩),.int .i64 0] 119)
 have x2:=Bx.new w3 #[.pointer (some ⟨g,0,none⟩),.int .i64 0] 119
 have b2:=below_alloc2 w3 (.cells #[.pointer (some ⟨g,0,none⟩),.int .i64 0] 119)
 have s2:(w3.alloc (.cells #[.pointer (some ⟨g,0,none⟩),.int .i64 0] 119)).heap.size =w.heap.size+1+1:=by simp[s1]
 rw[s1]at h2 x2
 have x1':=x1.below b2
 have b12:=b1.trans (b2.mono b1.size)
 generalize World.alloc w3 _=w4 at*
 have h3:=h2.alloc (.map #[] 0)
 have x3:=aS.made (P:=Tryz.prog) (kt:=27) (key:=dS) (dom:=eD) w4
 have b3:=below_alloc2 w4 (.map #[] 0)
 have s3:(w4.alloc (.map #[] 0)).heap.size =w.heap.size+1+1+1:=by simp[s2]
 rw[s2]at h3 x3
 have aff:=x1'.below b3
 have x2':=x2.below b3
 have b13:=b12.trans (b3.mono b12.size)
 generalize World.alloc w4 _=w5 at*
 have h4:=h3.alloc (.cells #[.pointer (some ⟨w.heap.size+1,0,none⟩),.slice n.dA n.dn n.dc,.slice n.lA n.ln n.lc,.map none,.map (some (w.heap.size+1+1))] 122)
 have x4:=Bx.new w5 #[.pointer (some ⟨w.heap.size+1,0,none⟩),.slice n.dA n.dn n.dc,.slice n.lA n.ln n.lc,.map none,.map (some (w.heap.size+1+1))] 122
 have b4:=below_alloc2 w5 (.cells #[.pointer (some ⟨w.heap.size+1,0,none⟩),.slice n.dA n.dn n.dc,.slice n.lA n.ln n.lc,.map none,.map (some (w.heap.size+1+1))] 122)
 rw[s3]at h4 x4
 have b14:=b13.trans (b4.mono b13.size)
 have y3:=x3.same (b4.block _ x3.lt)
 generalize World.alloc w5 _=w6 at*
 refine⟨RD.start ⟨h4.mono (fun j hj=>?_),x2'.below b4,.inl rfl,?_⟩ x4 y3 (nG.empty hinv _) ⟨by omega,?_,?_⟩,aff.below b4,b14⟩
 ·simp only[List.mem_cons,List.not_mem_nil,or_false]at hj ⊢
  omega
 ·simp only[List.mem_cons,List.not_mem_nil,or_false]
  omega
 ·simp only[List.mem_cons,List.not_mem_nil,or_false]
  omega
 ·simp only[List.mem_cons,List.not_mem_nil,or_false]
  omega
theorem M0 {ds:List Dev} {ls:List av} (h:dD ds ls=0):mV ls:=by
 have hn:=dH h
 refine⟨hn.ll,fun x hx=>?_⟩
 have hv:=hn.pl _ hx
 obtain⟨⟨a1,a2⟩,a3,a4⟩:=vY.1 hv
 have hq:=Le (nI ds x.1)
 have hdl:=hn.dl
 refine⟨?_,?_⟩<;>(simp only[ay];omega)
theorem VL {w8:World} {B g:Nat} {A:St} {N base:Nat} {v:Value} {L:List gQ} {er rd nm mk nb:Nat} {n:aH} {Mn:dB→Option Value} {S:Pl→ak.Fn} (h:lY w8 B g A N base v L (bG n.ls) er [rd,nm,mk]) (ha:AS w8 B g A (nb::(v.ownBlock.toList++([rd,nm,mk]++N::L.map gQ.blk)))) (hmk:Bx w8 mk #[.pointer (some ⟨g,0,none⟩),.int .i64 (er:Int)] 119) (her:er=0∨(er=6∧A.len=A.most))
  (hmem:(⟨nm,Mn,S⟩:gQ)∈L) (hm:gZ w8 nb Mn) (hne:nb∉v.ownBlock.toList++([rd,nm,mk]++N::L.map gQ.blk)) (h1:mk≠rd) (h2:mk∉L.map gQ.blk):
  RD (w8.alloc (.cells #[.pointer (some ⟨mk,0,none⟩),.slice n.dA n.dn n.dc,.slice n.lA n.ln n.lc,.map (some nm),.map (some nb)] 122)) B g A (rd::(v.ownBlock.toList++N::L.map gQ.blk)) mk er w8.heap.size n (.map (some nm)) nb Mn S∧
  ou (w8.alloc (.cells #[.pointer (some ⟨mk,0,none⟩),.slice n.dA n.dn n.dc,.slice n.lA n.ln n.lc,.map (some nm),.map (some nb)] 122)) A er (rd::(v.ownBlock.toList++N::L.map gQ.blk)) nm Mn S:=by
 have hb:=below_alloc2 w8 (.cells #[.pointer (some ⟨mk,0,none⟩),.slice n.dA n.dn n.dc,.slice n.lA n.ln n.lc,.map (some nm),.map (some nb)] 122)
 have hlt:=ha.lt
 have hent:=h.ents _ hmem
 have Sm:=h.ne
 simp only[List.mem_append,List.mem_cons,List.not_mem_nil,or_false,not_or]at hne Sm
 have hsub:∀j,j∈rd::(v.ownBlock.toList++N::L.map gQ.blk)→j∈v.ownBlock.toList++([rd,nm,mk]++N::L.map gQ.blk):=fun j hj=>by
  simp only[List.mem_append,List.mem_cons,List.not_mem_nil,or_false]at hj ⊢
  rcases hj with a | a | a | a<;>simp[a]
 refine⟨⟨⟨(ha.alloc _).mono (fun j hj=>?_),hmk.below hb,her,fun hj=>?_⟩,Bx.new _ _ _,hm.same (hb.block _ hm.lt),hent.2.ints,hent.2.keys,hent.2.tL,?_,?_,?_⟩,⟨?_,hent.1.same (hb.block _ hent.1.lt),hent.2.ints,hent.2.tL⟩⟩
 ·simp only[List.mem_append,List.mem_cons,List.not_mem_nil,or_false]at hj ⊢
  rcases hj with a | a | a | a | a | a | a<;>simp[a]
 ·have hl:=(hlt mk (by simp)).2
  rcases List.mem_cons.1 hj with a | a
  ·omega
  rcases List.mem_cons.1 a with a | a
  ·exact hne.2.1.2.2 a.symm
  rcases List.mem_cons.1 a with a | a
  ·exact h1 a
  rcases List.mem_append.1 a with a | a
  ·exact h.ap mk (by simpa using a) (by simp)
  rcases List.mem_cons.1 a with a | a
  ·exact Sm.1.2.2 a.symm
  ·exact h2 a
 ·have:=(hlt nb (by simp)).2
  omega
 ·intro hj
  have:=(hlt _ (List.mem_cons_of_mem _ (hsub _ hj))).2
  omega
 ·intro hj
  have:=hsub _ hj
  simp only[List.mem_append,List.mem_cons,List.not_mem_nil,or_false]at this
  rcases this with a | a | a | a
  ·exact hne.1 a
  ·rcases a with a | a | a
   ·exact hne.2.1.1 a
   ·exact hne.2.1.2.1 a
   ·exact hne.2.1.2.2 a
  ·exact hne.2.2.1 a
  ·exact hne.2.2.2 a
 ·have:nm∈L.map gQ.blk:=List.mem_map_of_mem (f:=gQ.blk) hmem
  simp[this]
theorem Te {w:World} {N:Nat} {u:Value} {t:TypeId} (h:Bx w N #[u] t):Reads w (N+1) 1 (some ⟨N,0,none⟩) 1 [u]:=
 ⟨rfl,fun _=>⟨_,rfl,Nat.lt_succ_self _,fun j u' hu=>by
  rw[addr_add,Nat.zero_add]
  exact h.get j u' (by simpa using hu)⟩⟩
structure NS (wr:World) (B g:Nat) (A:St) (N base:Nat) (v:Value) (L:List gQ) (k mk er rd:Nat) (n:aH) (eG:Value) (nm:Nat) (Mn:dB→Option Value):Prop where
 bF:RD wr B g A (v.ownBlock.toList++N::L.map gQ.blk) mk er rd n eG nm Mn (aR n.au n.ls k)
 su:lY wr B g A N base v L (bG n.ls) er [rd,nm,mk]
 ls:L.map gQ.S=(List.range k).map (aR n.au n.ls)
theorem NS.start {wr:World} {B g:Nat} {A:St} {N base mk er rd:Nat} {n:aH} {nm:Nat} {Mn:dB→Option Value} (h:RD wr B g A [N] mk er rd n (.map none) nm Mn (aR n.au n.ls 0)) (hx:Bx wr N #[.slice none 0 0,.pointer (some ⟨g,0,none⟩)] 115):
  NS wr B g A N base (.slice none 0 0) [] 0 mk er rd n (.map none) nm Mn:=by
 obtain⟨n1,n2,n3⟩:=h.ne
 have hmk:=h.m.ap
 simp only[List.mem_cons,List.not_mem_nil,or_false,not_or]at n2 n3 hmk
 refine⟨h,⟨h.m.sa.mono (fun j hj=>?_),World.ownsRow_nil _ _ _ _,fun q hq=>by(cases hq),hx,fun e he=>by(cases he),?_⟩,rfl⟩
 ·simp only[Value.ownBlock,Option.map_none,Option.toList_none,List.nil_append,List.map_nil,List.mem_append,List.mem_cons,List.not_mem_nil,or_false]at hj ⊢
  omega
 ·simp only[List.map_nil,List.append_nil,List.mem_cons,List.not_mem_nil,or_false,not_or]
  exact⟨Ne.symm n2,Ne.symm n3,Ne.symm hmk.2.2⟩
end Go.Proofs.YtlhmdcgckocidaaGreat
namespace Go.Proofs.YtlhmdcgckocidaaGreat
open Go.Maps Go.RowKit
def nH (p:P4):Nat:=p.src.toNat*1024+p.dst.toNat*64+p.ah.toNat*8+p.aj.toNat
theorem FM {p:P4} (h:aV p=true):∃a b c d:Nat,p=⟨(a:Int),(b:Int),(c:Int),(d:Int)⟩∧a<16∧b<16∧c<8∧d<8:=by
 obtain⟨a,b,c,d⟩:=p
 simp only[aV,gq,Bool.and_eq_true,decide_eq_true_eq]at h
 refine⟨a.toNat,b.toNat,c.toNat,d.toNat,?_,by omega,by omega,by omega,by omega⟩
 simp only[P4.mk.injEq]
 omega
theorem Zh {p:P4} (h:aV p=true):nH p<16384:=by
 obtain⟨a,b,c,d,rfl,h1,h2,h3,h4⟩:=FM h
 simp only[nH,Int.toNat_natCast]
 omega
theorem DX (a b k:Nat) (hb:b<2 ^ k):a*2 ^ k ||| b=a*2 ^ k+b:=by
 rw[Nat.mul_comm,Nat.two_pow_add_eq_or_of_lt hb]
theorem VN (a b:Nat) (ha:a<16) (hb:b<16):Go.bits .or .i64 ((a*1024:Nat):Int) ((b*64:Nat):Int)=((a*1024+b*64:Nat):Int):=by
 rw[Jh _ _ (by omega) (by omega)]
 have:a*1024 ||| b*64=a*1024+b*64:=DX a (b*64) 10 (by omega)
 rw[this]
theorem VO (a b c:Nat) (ha:a<16) (hb:b<16) (hc:c<8):Go.bits .or .i64 ((a*1024+b*64:Nat):Int) ((c*8:Nat):Int)=((a*1024+b*64+c*8:Nat):Int):=by
 rw[Jh _ _ (by omega) (by omega)]
 have:=DX (a*16+b) (c*8) 6 (by omega)
 have e:(a*16+b)*2 ^ 6=a*1024+b*64:=by omega
 rw[e]at this
 rw[this]
theorem VP (a b c d:Nat) (ha:a<16) (hb:b<16) (hc:c<8) (hd:d<8):Go.bits .or .i64 ((a*1024+b*64+c*8:Nat):Int) (d:Int)=((a*1024+b*64+c*8+d:Nat):Int):=by
 rw[Jh _ _ (by omega) (by omega)]
 have:=DX (a*128+b*8+c) d 3 (by omega)
 have e:(a*128+b*8+c)*2 ^ 3=a*1024+b*64+c*8:=by omega
 rw[e]at this
 rw[this]
theorem Tf (p:P4) (W:World):Calls Tryz.prog 67 #[.agg #[.int .i64 p.src,.int .i64 p.dst,.int .i64 p.ah,.int .i64 p.aj]] W fun e W'=>e= .returned (.tuple #[.int .i64 (if aV p then(nH p:Int)else 0),.int .i64 (if aV p then 0 else 1)])∧RowKit.Below W.heap.size W W':=by
 have HC:=hide (fun(w:World)=>qI p w)
 cases hR:aV p with
 |false=>
  simp only[hR]at HC
  obtain⟨a,b,c,d⟩:=p
  clear hR
  go_enter Tryz.func67,Tryz.ntmps67
  go_wp2_with fail
  have hb0:=(RowKit.Below.refl W.heap.size W).alloc (Nat.le_refl _) (.cells #[.int .i64 a,.int .i64 b,.int .i64 c,.int .i64 d] 29)
  refine(HC.out _).mono ?_
  rintro e w1 ⟨rfl,hb⟩
  have HB:=hide (hb0.trans (hb.mono hb0.size))
  clear hb hb0
  go_wp2
  go_ret2
  exact⟨rfl,HB.out⟩
 |true=>
  simp only[hR]at HC
  obtain⟨a,b,c,d,rfl,h1,h2,h3,h4⟩:=FM hR
  have e0:nH ⟨(a:Int),(b:Int),(c:Int),(d:Int)⟩=a*1024+b*64+c*8+d:=by simp only[nH,Int.toNat_natCast]
  rw[e0]
  have q1:=VN a b h1 h2
  have q2:=VO a b c h1 h2 h3
  have q3:=VP a b c d h1 h2 h3 h4
  have q4:Go.bits .or .i64 (Go.bits .or .i64 (Go.bits .or .i64 ((a:Int)*1024) ((b:Int)*64)) ((c:Int)*8)) (d:Int)=((a*1024+b*64+c*8+d:Nat):Int):=by
   rw[show((a:Int)*1024)=((a*1024:Nat):Int) by omega,show((b:Int)*64)=((b*64:Nat):Int) by omega,show((c:Int)*8)=((c*8:Nat):Int) by omega,q1,q2,q3]
  have HQ:=hide q4
  clear hR e0 q1 q2 q3 q4
  go_enter Tryz.func67,Tryz.ntmps67
  go_wp2_with fail
  have hb0:=(RowKit.Below.refl W.heap.size W).alloc (Nat.le_refl _) (.cells #[.int .i64 (a:Int),.int .i64 (b:Int),.int .i64 (c:Int),.int .i64 (d:Int)] 29)
  have HX0:=hide (heap_alloc_new W (.cells #[.int .i64 (a:Int),.int .i64 (b:Int),.int .i64 (c:Int),.int .i64 (d:Int)] 29))
  refine(HC.out _).mono ?_
  rintro e w1 ⟨rfl,hb⟩
  have HB:=hide (hb0.trans (hb.mono hb0.size))
  have hx:=(hb.block W.heap.size (by simp)).trans HX0.out
  have x0:w1.cell? ⟨W.heap.size,0,none⟩=some (.int .i64 (a:Int)):=by rw[cell_of_row _ _ _ _ _ _ hx];rfl
  have x1:w1.cell? ⟨W.heap.size,1,none⟩=some (.int .i64 (b:Int)):=by rw[cell_of_row _ _ _ _ _ _ hx];rfl
  have x2:w1.cell? ⟨W.heap.size,2,none⟩=some (.int .i64 (c:Int)):=by rw[cell_of_row _ _ _ _ _ _ hx];rfl
  have x3:w1.cell? ⟨W.heap.size,3,none⟩=some (.int .i64 (d:Int)):=by rw[cell_of_row _ _ _ _ _ _ hx];rfl
  clear hb hb0 hx HX0
  go_wp2
  go_ret2
  refine⟨?_,HB.out⟩
  show Ending.returned (.tuple #[.int .i64 (Go.bits .or .i64 (Go.bits .or .i64 (Go.bits .or .i64 ((a:Int)*1024) ((b:Int)*64)) ((c:Int)*8)) (d:Int)),.int .i64 0])=_
  rw[HQ.out]
  rfl
open ak
structure zu (w:World) (N B g:Nat) (A:St) (sA sc:Nat) (L:List gQ) (ks:List Pl):Prop where
 sa:AS w B g A []
 v:A.vars=14
 b0:w.cell? ⟨N,0,none⟩=some (.slice (some ⟨sA,0,none⟩) L.length sc)
 b1:w.cell? ⟨N,1,none⟩=some (.pointer (some ⟨g,0,none⟩))
 lt:N<w.heap.size∧sA<w.heap.size
 el:∀k e,L[k]?=some e→w.cell? ⟨sA,k,none⟩=some (.map (some e.blk))∧gZ w e.blk e.M∧nG A e.M e.S ks
 ne:0<L.length∧L.length≤491521
theorem zu.below {w w':World} {N B g:Nat} {A:St} {sA sc:Nat} {L:List gQ} {ks:List Pl} (h:zu w N B g A sA sc L ks) (hb:RowKit.Below w.heap.size w w'):zu w' N B g A sA sc L ks:=
 ⟨h.sa.below hb,h.v,(hb.cell (p:=⟨N,0,none⟩) h.lt.1).trans h.b0,(hb.cell (p:=⟨N,1,none⟩) h.lt.1).trans h.b1,⟨Nat.lt_of_lt_of_le h.lt.1 hb.size,Nat.lt_of_lt_of_le h.lt.2 hb.size⟩,
  fun k e he=>⟨(hb.cell (p:=⟨sA,k,none⟩) h.lt.2).trans (h.el k e he).1,(h.el k e he).2.1.same (hb.block _ (h.el k e he).2.1.lt),(h.el k e he).2.2⟩,h.ne⟩
theorem lY.reach {wr:World} {B g rb base:Nat} {A:St} {v:Value} {L:List gQ} {ks:List Pl} {more:List Nat} (h:lY wr B g A rb base v L ks 0 more) (hv:A.vars=14) (h0:0<L.length) (hL:L.length≤491521):∃sA sc,zu wr rb B g A sA sc L ks∧base≤sA∧B≤rb∧∀e∈L,B≤e.blk:=by
 obtain⟨sA,sc,rfl,hsb,_⟩:=h.own.form (by omega)
 refine⟨sA,sc,⟨h.sa.mono (fun j hj=>by cases hj),hv,h.bx.get 0 _ rfl,h.bx.get 1 _ rfl,⟨h.bx.lt,(h.own.lt sA rfl).2⟩,fun k e he=>?_,h0,hL⟩,hsb,(h.sa.lt rb (by simp)).1,fun e he=>(h.sa.lt e.blk (by
  simp only[List.mem_append,List.mem_cons,List.mem_map]
  exact .inr (.inr (.inr ⟨e,he,rfl⟩)))).1⟩
 have hm:=h.ents e (List.mem_of_getElem? he)
 have hc:=h.own.cells (g:=sA) rfl k (.map (some e.blk)) (by simp[he])
 rw[addr_add,Nat.zero_add]at hc
 exact⟨hc,hm.1,hm.2.ok⟩
structure fU (w:World) (N:Nat) (ds:List Dev) (ls:List av) (K:Nat):Prop where
 ex:∃B g A sA sc L,zu w N B g A sA sc L (bG ls)∧L.map gQ.S=(List.range (K+1)).map (aR ds ls)
 fix:aR ds ls (K+1)=aR ds ls K
 up:∀k,k<K→aR ds ls (k+1)≠aR ds ls k
theorem fU.below {w w':World} {N:Nat} {ds:List Dev} {ls:List av} {K:Nat} (h:fU w N ds ls K) (hb:RowKit.Below w.heap.size w w'):fU w' N ds ls K:=by
 obtain⟨B,g,A,sA,sc,L,h1,h2⟩:=h.ex
 exact⟨⟨B,g,A,sA,sc,L,h1.below hb,h2⟩,h.fix,h.up⟩
structure Gw (Lo:Nat) (w:World) (N:Nat) (ds:List Dev) (ls:List av) (K:Nat):Prop where
 ex:∃B g A sA sc L,zu w N B g A sA sc L (bG ls)∧L.map gQ.S=(List.range (K+1)).map (aR ds ls)∧Lo≤B∧Lo≤N∧Lo≤sA∧∀e∈L,Lo≤e.blk
 fix:aR ds ls (K+1)=aR ds ls K
 up:∀k,k<K→aR ds ls (k+1)≠aR ds ls k
theorem Gw.at_ {Lo:Nat} {w:World} {N:Nat} {ds:List Dev} {ls:List av} {K:Nat} (h:Gw Lo w N ds ls K):fU w N ds ls K:=by
 obtain⟨B,g,A,sA,sc,L,h1,h2,_⟩:=h.ex
 exact⟨⟨B,g,A,sA,sc,L,h1,h2⟩,h.fix,h.up⟩
def BZ (n:aH) (most:Nat) (P:ak.Fn→Prop) (W:World) (e:Ending) (W':World):Prop:=RowKit.Below W.heap.size W W'∧
 ((∃N K,e= .returned (.tuple #[.pointer (some ⟨N,0,none⟩),.int .i64 0])∧Gw W.heap.size W' N n.au n.ls K)∨
  (∃A,e= .returned (.tuple #[.pointer none,.int .i64 6])∧Ext (lM 14 most) A∧pV P (lM 14 most) A∧A.len=A.most))
def lT:List ak.Fn→Nat→gP→Int
 |[],_,_=> -1
 |F::t,k,a=>if F a then(k:Int)else lT t (k+1) a
theorem M5 (l:List ak.Fn) (k:Nat) (a:gP): -1≤lT l k a∧lT l k a≤k+l.length:=by
 induction l generalizing k with
 |nil=>simp only[lT,List.length_nil];omega
 |cons F t ih=>
  simp only[lT,List.length_cons]
  have:=ih (k+1)
  split<;>omega
theorem FN (l:List ak.Fn) (k:Nat) (a:gP):0≤lT l k a↔∃F∈l,F a=true:=by
 induction l generalizing k with
 |nil=>simp[lT]
 |cons F t ih=>
  simp only[lT,List.mem_cons,exists_eq_or_imp]
  by_cases h:F a=true
  ·rw[if_pos h];exact⟨fun _=>.inl h,fun _=>by omega⟩
  ·rw[if_neg h,ih (k+1)]
   exact⟨.inr,fun hh=>hh.resolve_left h⟩
theorem Ql {l:List ak.Fn} {k j:Nat} {F:ak.Fn} (a:gP) (h:l[k]?=some F):lT (l.drop k) j a=if F a then(j:Int)else lT (l.drop (k+1)) (j+1) a:=by
 obtain⟨hk,e⟩:=List.getElem?_eq_some_iff.1 h
 rw[List.drop_eq_getElem_cons hk,e]
 rfl
def aJ (ds:List Dev) (ls:List av) (K:Nat) (x:Pl) (p:P4):Int:=if aV p then lT ((List.range (K+1)).map fun k=>aR ds ls k x) 0 (kQ (nH p))else -1
theorem qw (ds:List Dev) (ls:List av) (K:Nat) (x:Pl) (p:P4):0≤aJ ds ls K x p↔aV p=true∧aR ds ls K x (kQ (nH p))=true:=by
 unfold aJ
 by_cases h:aV p=true
 ·rw[if_pos h,FN]
  constructor
  ·rintro⟨F,hF,hh⟩
   obtain⟨k,hk,rfl⟩:=List.mem_map.1 hF
   refine⟨h,?_⟩
   rw[List.mem_range]at hk
   clear hF
   induction K with
   |zero=>
    have:k=0:=by omega
    subst this;exact hh
   |succ K ih=>
    by_cases e:k=K+1
    ·subst e;exact hh
    ·exact DU ds ls K x _ (ih (by omega))
  ·rintro⟨_,hh⟩
   exact⟨_,List.mem_map.2 ⟨K,List.mem_range.2 (by omega),rfl⟩,hh⟩
 ·rw[if_neg h]
  exact⟨fun h0=>absurd h0 (by decide),fun h0=>absurd h0.1 h⟩
theorem Dm (N:Nat) (ds:List Dev) (ls:List av) (K:Nat) (W:World) (h:fU W N ds ls K):Calls Tryz.prog 17 #[.pointer (some ⟨N,0,none⟩)] W fun e W'=>e= .returned (.int .i64 (K:Int))∧W=W':=by
 obtain⟨B,g,A,sA,sc,L,hm,hL⟩:=h.ex
 have hlen:L.length=K+1:=by have:=congrArg List.length hL;simpa using this
 have b0:=hm.b0
 have hne:=hm.ne.2
 rw[hlen]at b0 hne
 clear h hm hL hlen
 go_enter Tryz.func17,Tryz.ntmps17
 go_wp2
 go_ret
 exact⟨by simp only[Ending.returned.injEq,Value.int.injEq,true_and];go_num,rfl⟩
theorem Og {w:World} {B g:Nat} {A:St} {bl:List Nat} (h:AS w B g A bl) (hv:A.vars=14) {f c:Nat} {F:ak.Fn} (hf:dM A f F) (hc:c<16384):
  Calls Tryz.prog 68 #[.pointer (some ⟨g,0,none⟩),.int .i64 (f:Int),.int .i64 (c:Int)] w fun e W'=>e= .returned (.tuple #[.bool (F (kQ c)),.int .i64 0])∧RowKit.Below w.heap.size w W':=by
 obtain⟨nb,kb,ib,cap,K,T,har,hb⟩:=h.ar
 refine(SQ har f c hf.1 (by rw[hv];exact hc)).mono fun e w' hq=>?_
 rw[hv,hf.2]at hq
 exact hq
theorem FP (N:Nat) (ds:List Dev) (ls:List av) (K:Nat) (x:Pl) (hx:eD x) (W:World) (h:fU W N ds ls K):Calls Tryz.prog 22 #[.pointer (some ⟨N,0,none⟩),.agg #[.int .i64 x.1,.int .i64 x.2]] W fun e W'=>e= .returned (.int .i64 ((cntF 14 14 (aR ds ls K x):Nat):Int))∧RowKit.Below W.heap.size W W':=by
 obtain⟨B,g,A,sA,sc,L,hm,hL⟩:=h.ex
 have hlen:L.length=K+1:=by have:=congrArg List.length hL;simpa using this
 obtain⟨en,hen⟩:∃en,L[K]?=some en:=⟨_,List.getElem?_eq_getElem (by omega)⟩
 have hS:en.S=aR ds ls K:=by
  have:=congrArg (fun l=>l[K]?) hL
  simp only[List.getElem?_map,hen,List.getElem?_range (show K<K+1 by omega),Option.map_some]at this
  exact Option.some.inj this
 obtain⟨y1,y2⟩:=x
 have hb0:=below_alloc2 W (.cells #[.int .i64 y1,.int .i64 y2] 27)
 have HB0:=hide hb0
 have HX0:=hide (Bx.new W #[.int .i64 y1,.int .i64 y2] 27)
 have HR:=hide (h.below hb0)
 have HM:=hide (hm.below hb0)
 have HF:=hide (show dM A (bQ en.M (y1,y2)) (aR ds ls K (y1,y2))from hS▸(hm.el K en hen).2.2.tL (y1,y2))
 have HE:=hide hen
 have HI:=hide (hm.el K en hen).2.2.ints
 have HV:=hide hm.v
 have hK:K≤491520:=by have:=hm.ne.2;omega
 have xP:=hide hlen
 clear h hm hL hlen hen hS hb0
 go_enter Tryz.func22,Tryz.ntmps22
 go_wp2_with fail
 generalize World.alloc W _=w1 at*
 refine bS (by kernel_rfl) (by kernel_rfl) ?_
 intro T hT gt hg1 hgi
 have aU:=hide hg1
 have gX:=hide hgi
 clear hg1 hgi
 have k0:∀t,(gt t).cell? ⟨N,0,none⟩=some (.slice (some ⟨sA,0,none⟩) (K+1) sc):=fun t=>xP.out▸(HM.out.below (aU.out t)).b0
 have k1:∀t,(gt t).cell? ⟨N,1,none⟩=some (.pointer (some ⟨g,0,none⟩)):=fun t=>(HM.out.below (aU.out t)).b1
 have k2:∀t,(gt t).cell? ⟨W.heap.size,0,none⟩=some (.int .i64 y1):=fun t=>(HX0.out.below (aU.out t)).get 0 _ rfl
 have k3:∀t,(gt t).cell? ⟨W.heap.size,1,none⟩=some (.int .i64 y2):=fun t=>(HX0.out.below (aU.out t)).get 1 _ rfl
 have k4:∀t,(gt t).cell? ⟨sA,K,none⟩=some (.map (some en.blk)):=fun t=>((HM.out.below (aU.out t)).el K en HE.out).1
 have k5:∀t,(Instr.lookup 120 (.map (some en.blk)) (.agg #[.int .i64 y1,.int .i64 y2]) false).run Tryz.prog (gt t)= .ok (.int .i64 ((bQ en.M (y1,y2):Nat):Int)) (gt t):=fun t=>aS.Cz ((HM.out.below (aU.out t)).el K en HE.out).2.1 HI.out y1 y2 hx.1 hx.2
 repeat (go_big_quiet_step ((first | (go_at_call 17;exact jU (Dm N ds ls K _ (HR.out.below (aU.out _)))) | (go_at_call 71;exact mE aU.out gX.out (Vm (HM.out.below (aU.out _)).sa HF.out)))))
 refine wpQuiet_nil ?_
 intro _ hw'
 obtain⟨t,rfl⟩:=hw'
 have gB:=hide (HB0.out.trans ((aU.out t).mono HB0.out.size))
 generalize gt t=w3 at*
 clear aU gX k0 k1 k2 k3 k4 k5
 go_wp2
 go_ret
 exact⟨by rw[HV.out];rfl,gB.out⟩
theorem iZ (N:Nat) (ds:List Dev) (ls:List av) (K:Nat) (x:Pl) (hx:eD x) (p:P4) (W:World) (h:fU W N ds ls K):Calls Tryz.prog 18 #[.pointer (some ⟨N,0,none⟩),.agg #[.int .i64 x.1,.int .i64 x.2],.agg #[.int .i64 p.src,.int .i64 p.dst,.int .i64 p.ah,.int .i64 p.aj]] W fun e W'=>e= .returned (.int .i64 (aJ ds ls K x p))∧RowKit.Below W.heap.size W W':=by
 obtain⟨B,g,A,sA,sc,L,hm,hL⟩:=h.ex
 have hlen:L.length=K+1:=by have:=congrArg List.length hL;simpa using this
 have Lf:=hide (show aJ ds ls K x p=if aV p then lT (L.map fun e=>e.S x) 0 (kQ (nH p))else -1 from by
  unfold aJ
  have e:(L.map fun e=>e.S x)=(List.range (K+1)).map fun k=>aR ds ls k x:=by
   have:=congrArg (List.map fun S:Pl→ak.Fn=>S x) hL
   simpa[List.map_map,Function.comp_def]using this
  rw[e])
 have HC:=hide (fun(w:World)=>Tf p w)
 have Ho:=hide (fun h=>Zh (p:=p) h)
 obtain⟨y1,y2⟩:=x
 obtain⟨a,b,c,d⟩:=p
 have hb0:=(below_alloc2 W (.cells #[.int .i64 y1,.int .i64 y2] 27)).trans ((below_alloc2 (W.alloc (.cells #[.int .i64 y1,.int .i64 y2] 27)) (.cells #[.int .i64 a,.int .i64 b,.int .i64 c,.int .i64 d] 29)).mono (below_alloc2 W _).size)
 have HB0:=hide hb0
 have HX0:=hide ((Bx.new W #[.int .i64 y1,.int .i64 y2] 27).below (below_alloc2 (W.alloc (.cells #[.int .i64 y1,.int .i64 y2] 27)) (.cells #[.int .i64 a,.int .i64 b,.int .i64 c,.int .i64 d] 29)))
 have HM:=hide (hm.below hb0)
 have HV:=hide hm.v
 have hK:L.length≤491521:=hm.ne.2
 generalize aJ ds ls K (y1,y2) ⟨a,b,c,d⟩=RP at*
 clear h hm hL hlen hb0
 go_enter Tryz.func18,Tryz.ntmps18
 go_wp2_with fail
 generalize World.alloc (World.alloc W _) _=w1 at*
 refine(HC.out _).mono ?_
 rintro e w2 ⟨rfl,hb⟩
 have HB2:=hide (HB0.out.trans (hb.mono HB0.out.size))
 have bO:=hide (HX0.out.below hb)
 have Br:=hide (HM.out.below hb)
 clear hb HB0 HX0 HM HC
 cases hR:aV ⟨a,b,c,d⟩with
 |false=>
  have HF:=hide (show RP= -1 from by have:=Lf.out;rw[hR]at this;exact this)
  clear hR Lf
  go_wp2
  go_ret
  exact⟨by rw[HF.out];rfl,HB2.out⟩
 |true=>
  have hcl:=Ho.out hR
  have HF:=hide (show RP=lT (L.map fun e=>e.S (y1,y2)) 0 (kQ (nH ⟨a,b,c,d⟩))from by have:=Lf.out;rw[hR]at this;exact this)
  generalize nH ⟨a,b,c,d⟩=cc at*
  clear hR Lf Ho
  have b0:=Br.out.b0
  go_wp2_with fail
  clear b0
  go_loopw [25] (fun i wr=>∃(k:Nat),k≤L.length∧i= .int .i64 (k:Int)∧Hid (lT ((L.map fun e=>e.S (y1,y2)).drop k) k (kQ cc)=RP)∧Hid (RowKit.Below w2.heap.size w2 wr)) (fun i _=>L.length - (intOf i).toNat)
  case atStart=>exact⟨0,Nat.zero_le _,rfl,hide HF.out.symm,hide (RowKit.Below.refl _ _)⟩
  case round=>
   obtain⟨k,hk,rfl,HS,HB⟩:=hrel
   by_cases hlt:k<L.length
   ·obtain⟨en,hen⟩:∃en,L[k]?=some en:=⟨_,List.getElem?_eq_getElem hlt⟩
    have nZ:=hide (Br.out.below HB.out)
    have cu:=hide (bO.out.below HB.out)
    have AB:=hide (nZ.out.el k en hen)
    have HSD:=hide (Ql (l:=L.map fun e=>e.S (y1,y2)) (k:=k) (j:=k) (kQ cc) (F:=en.S (y1,y2)) (by simp[hen]))
    have HE:=hide hen
    have c0:wr.cell? ⟨sA,k,none⟩=some (.map (some en.blk)):=AB.out.1
    clear hen
    go_wp2_with fail
    clear c0
    refine bS (by kernel_rfl) (by kernel_rfl) ?_
    intro T hT gt hg1 hgi
    have aU:=hide hg1
    have gX:=hide hgi
    clear hg1 hgi
    have k1:∀t,(gt t).cell? ⟨N,1,none⟩=some (.pointer (some ⟨g,0,none⟩)):=fun t=>(nZ.out.below (aU.out t)).b1
    have k2:∀t,(gt t).cell? ⟨W.heap.size,0,none⟩=some (.int .i64 y1):=fun t=>(cu.out.below (aU.out t)).get 0 _ rfl
    have k3:∀t,(gt t).cell? ⟨W.heap.size,1,none⟩=some (.int .i64 y2):=fun t=>(cu.out.below (aU.out t)).get 1 _ rfl
    have k5:∀t,(Instr.lookup 120 (.map (some en.blk)) (.agg #[.int .i64 y1,.int .i64 y2]) false).run Tryz.prog (gt t)= .ok (.int .i64 ((bQ en.M (y1,y2):Nat):Int)) (gt t):=fun t=>aS.Cz (AB.out.2.1.same ((aU.out t).block _ AB.out.2.1.lt)) AB.out.2.2.ints y1 y2 hx.1 hx.2
    repeat (go_big_quiet_step ((go_at_call 68;exact mE aU.out gX.out (Og (nZ.out.below (aU.out _)).sa HV.out (AB.out.2.2.tL (y1,y2)) hcl))))
    refine wpQuiet_nil ?_
    intro _ hw'
    obtain⟨t,rfl⟩:=hw'
    have gB:=hide (HB.out.trans ((aU.out t).mono HB.out.size))
    generalize gt t=w3 at*
    clear aU gX k1 k2 k3 k5 nZ cu AB
    have Oh:=hide (HSD.out.symm.trans HS.out)
    clear HSD HS HB
    cases hb:en.S (y1,y2) (kQ cc)
    ·have HN:=hide (show lT ((L.map fun e=>e.S (y1,y2)).drop (k+1)) (k+1) (kQ cc)=RP from by have:=Oh.out;rw[hb]at this;exact this)
     clear hb Oh
     go_wp2_with fail
     go_roundw
     case rel=>exact⟨k+1,by omega,by go_num,HN,gB⟩
     case measure=>simp[intOf];omega
    ·have HN:=hide (show(k:Int)=RP from by have:=Oh.out;rw[hb]at this;exact this)
     clear hb Oh
     go_wp2
     go_ret
     exact⟨by rw[← HN.out];rfl,HB2.out.trans (gB.out.mono HB2.out.size)⟩
   ·have hk2:k=L.length:=by omega
    have HN:=hide (show RP= -1 from by
     have:=HS.out
     rw[List.drop_of_length_le (by simp;omega)]at this
     exact this.symm)
    go_wp2
    go_ret
    exact⟨by rw[HN.out];rfl,HB2.out.trans (HB.out.mono HB2.out.size)⟩
end Go.Proofs.YtlhmdcgckocidaaGreat
namespace Go.Proofs.YtlhmdcgckocidaaGreat
open Go.Maps Go.RowKit
structure bR where
 x:gN
 nb:Nat
def bR.ptr (r:bR):Value:=match r.x.need with
 |none=>.pointer none
 |some _=>.pointer (some ⟨r.nb,0,none⟩)
def bR.cells (r:bR):List Value:=[.int .i64 r.x.a.1,.int .i64 r.x.a.2,.int .i64 r.x.p.src,.int .i64 r.x.p.dst,.int .i64 r.x.p.ah,.int .i64 r.x.p.aj,r.ptr,.int .i64 r.x.ch,.bool r.x.fo]
theorem bR.len (r:bR):r.cells.length=9:=rfl
theorem bR.one (r:bR):∀u∈r.cells,u.oneCell'=true:=by
 obtain⟨⟨a,p,n,ch,fo⟩,nb⟩:=r
 intro u hu
 cases n<;>(simp only[bR.cells,bR.ptr,List.mem_cons,List.not_mem_nil,or_false]at hu;rcases hu with rfl | rfl | rfl | rfl | rfl | rfl | rfl | rfl | rfl<;>rfl)
theorem Tryz.infoWay:(Tryz.prog.info? 207).map (fun i=>(i.zero,i.size,i.bytes))=some (some (.agg #[.int .i64 0,.int .i64 0,.int .i64 0,.int .i64 0,.int .i64 0,.int .i64 0,.pointer none,.int .i64 0,.bool false]),9,72):=by kernel_rfl
def aQ.box (w:World) (nb:Nat) (y:aQ):Prop:=aB w nb #[.int .i64 y.d,.int .i64 y.y,.int .i64 y.p.src,.int .i64 y.p.dst,.int .i64 y.p.ah,.int .i64 y.p.aj]
structure WR (base:Nat) (v:Value) (l:List bR) (w:World):Prop where
 own:w.ownsRow base 207 9 v l.length (l.flatMap bR.cells)
 nd:∀r∈l,∀y,r.x.need=some y→base≤r.nb∧r.nb<w.heap.size∧aQ.box w r.nb y∧v.ownBlock≠some r.nb
section
variable {base:Nat} {v:Value} {l:List bR} {w w':World}
theorem WR.nil (base:Nat) (w:World):WR base (.slice none 0 0) [] w:=⟨World.ownsRow_nil _ _ _ _,fun _ h=>by cases h⟩
theorem WR.below (h:WR base v l w) (hb:Below w.heap.size w w'):WR base v l w':=
 ⟨own_below h.own hb,fun r hr y hy=>by
  obtain⟨a,b,c,d⟩:=h.nd r hr y hy
  exact⟨a,Nat.lt_of_lt_of_le b hb.size,aB.below c hb b,d⟩⟩
theorem WR.append {v5:Value} {r:bR} (h:WR base v l w) (hown:w'.ownsRow base 207 9 v5 (l.length+1) (l.flatMap bR.cells++r.cells)) (hg:w.grownBy w' v.ownBlock) (hat:v5.ownBlock=v.ownBlock∨v5.ownBlock=some w.heap.size)
  (hn:∀y,r.x.need=some y→base≤r.nb∧r.nb<w.heap.size∧aQ.box w r.nb y∧v.ownBlock≠some r.nb):WR base v5 (l++[r]) w':=by
 have key:∀(nb:Nat) y,nb<w.heap.size→aQ.box w nb y→v.ownBlock≠some nb→nb<w'.heap.size∧aQ.box w' nb y∧v5.ownBlock≠some nb:=fun nb y h1 h2 h3=>by
  refine⟨Nat.lt_of_lt_of_le h1 hg.size,aB.near h2 (nD hg) h1 h3,fun e=>?_⟩
  rcases hat with q | q
  ·rw[q]at e;exact h3 e
  ·rw[q]at e;cases e;omega
 refine⟨by simpa using hown,fun s hs y hy=>?_⟩
 rcases List.mem_append.1 hs with hs | hs
 ·obtain⟨a,b,c,d⟩:=h.nd s hs y hy
  obtain⟨b,c,d⟩:=key _ _ b c d
  exact⟨a,b,c,d⟩
 ·obtain rfl:=List.mem_singleton.1 hs
  obtain⟨a,b,c,d⟩:=hn y hy
  obtain⟨b,c,d⟩:=key _ _ b c d
  exact⟨a,b,c,d⟩
theorem WR.lo {Ya:Nat} (h:WR base v l w) (hb:Ya≤base):WR Ya v l w:=
 ⟨VQ h.own hb,fun r hr y hy=>by obtain⟨a,b⟩:=h.nd r hr y hy;exact⟨Nat.le_trans hb a,b⟩⟩
theorem WR.sl (h:WR base v l w):∃A c,v= .slice A l.length c∧l.length≤c∧bB bR.cells 9 w w.heap.size A l.length l:=by
 obtain⟨A,c,h1,h2,h3,_⟩:=bB.jP bR.len h.own rfl
 exact⟨A,c,h1,h2,h3⟩
end
theorem Zi (w:World) (r:bR) (vs:Array Value) (hv:vs.toList=r.cells):Reads (w.alloc (.cells vs 207)) (w.heap.size+1) 9 (some ⟨w.heap.size,0,none⟩) 1 r.cells:=
 ⟨rfl,fun _=>⟨_,rfl,Nat.lt_succ_self _,fun j u hu=>by
  rw[addr_add,Nat.zero_add,cell_of_row _ _ _ _ _ _ (heap_alloc_new w _)]
  rw[← hv]at hu
  simpa using hu⟩⟩
section
variable {W1 wr w w':World} {v v5:Value} {l:List bR}
theorem WR.Qm (h:WR W1.heap.size v l wr) (hb:Below W1.heap.size W1 wr) (r:bR) (vs:Array Value) (hv:vs.toList=r.cells):
  WR W1.heap.size v l (wr.alloc (.cells vs 207))∧Below W1.heap.size W1 (wr.alloc (.cells vs 207))∧Reads (wr.alloc (.cells vs 207)) (wr.heap.size+1) 9 (some ⟨wr.heap.size,0,none⟩) 1 r.cells∧W1.heap.size≤(wr.alloc (.cells vs 207)).heap.size :=
 ⟨h.below (aC _ _),hb.trans ((aC _ _).mono hb.size),Zi wr r vs hv,(hb.trans ((aC _ _).mono hb.size)).size⟩
theorem WR.Qn (h:WR W1.heap.size v l wr) (hb:Below W1.heap.size W1 wr) (o:Obj) (r:bR) (vs:Array Value) (hv:vs.toList=r.cells):
  WR W1.heap.size v l ((wr.alloc o).alloc (.cells vs 207))∧Below W1.heap.size W1 ((wr.alloc o).alloc (.cells vs 207))∧Reads ((wr.alloc o).alloc (.cells vs 207)) (wr.heap.size+2) 9 (some ⟨wr.heap.size+1,0,none⟩) 1 r.cells∧W1.heap.size≤((wr.alloc o).alloc (.cells vs 207)).heap.size :=by
 have q:=WR.Qm (h.below (aC wr o)) (hb.trans ((aC wr o).mono hb.size)) r vs hv
 rw[show(wr.alloc o).heap.size =wr.heap.size+1 by simp]at q
 exact q
theorem WR.abp (h:WR W1.heap.size v l wr) (hb:Below W1.heap.size W1 wr) (o:Obj) (y:aQ) (r:bR) (vs:Array Value) (hv:vs.toList=r.cells) (hr:r.nb=wr.heap.size+1) (hy:∀y',r.x.need=some y'→y'=y):
  WR W1.heap.size v l (((wr.alloc o).alloc (.cells #[.int .i64 y.d,.int .i64 y.y,.int .i64 y.p.src,.int .i64 y.p.dst,.int .i64 y.p.ah,.int .i64 y.p.aj] 106)).alloc (.cells vs 207))∧Below W1.heap.size W1 (((wr.alloc o).alloc (.cells #[.int .i64 y.d,.int .i64 y.y,.int .i64 y.p.src,.int .i64 y.p.dst,.int .i64 y.p.ah,.int .i64 y.p.aj] 106)).alloc (.cells vs 207))∧
  Reads (((wr.alloc o).alloc (.cells #[.int .i64 y.d,.int .i64 y.y,.int .i64 y.p.src,.int .i64 y.p.dst,.int .i64 y.p.ah,.int .i64 y.p.aj] 106)).alloc (.cells vs 207)) (wr.heap.size+3) 9 (some ⟨wr.heap.size+2,0,none⟩) 1 r.cells∧
  W1.heap.size≤(((wr.alloc o).alloc (.cells #[.int .i64 y.d,.int .i64 y.y,.int .i64 y.p.src,.int .i64 y.p.dst,.int .i64 y.p.ah,.int .i64 y.p.aj] 106)).alloc (.cells vs 207)).heap.size ∧
  ∀y',r.x.need=some y'→W1.heap.size≤r.nb∧r.nb<(((wr.alloc o).alloc (.cells #[.int .i64 y.d,.int .i64 y.y,.int .i64 y.p.src,.int .i64 y.p.dst,.int .i64 y.p.ah,.int .i64 y.p.aj] 106)).alloc (.cells vs 207)).heap.size ∧aQ.box (((wr.alloc o).alloc (.cells #[.int .i64 y.d,.int .i64 y.y,.int .i64 y.p.src,.int .i64 y.p.dst,.int .i64 y.p.ah,.int .i64 y.p.aj] 106)).alloc (.cells vs 207)) r.nb y'∧v.ownBlock≠some r.nb:=by
 have hs:(wr.alloc o).heap.size =wr.heap.size+1:=by simp
 have q:=WR.Qn (h.below (aC wr o)) (hb.trans ((aC wr o).mono hb.size)) (.cells #[.int .i64 y.d,.int .i64 y.y,.int .i64 y.p.src,.int .i64 y.p.dst,.int .i64 y.p.ah,.int .i64 y.p.aj] 106) r vs hv
 rw[hs]at q
 refine⟨q.1,q.2.1,q.2.2.1,q.2.2.2,fun y' hy'=>?_⟩
 obtain rfl:=hy y' hy'
 have hx:=aB.new (wr.alloc o) #[.int .i64 y'.d,.int .i64 y'.y,.int .i64 y'.p.src,.int .i64 y'.p.dst,.int .i64 y'.p.ah,.int .i64 y'.p.aj] 106
 rw[hs]at hx
 refine⟨by rw[hr];have:=hb.size;omega,by rw[hr];simp,?_,fun e=>by have:=(h.own.lt _ e).2;omega⟩
 rw[hr]
 exact aB.below hx (aC _ _) (by simp)
structure BR (v:Value) (w:World) (N:Nat) (vs:Array Value):Prop where
 b:aB w N vs
 lt:N<w.heap.size
 ne:v.ownBlock≠some N
theorem BR.below {N:Nat} {vs:Array Value} (h:BR v w N vs) (hb:Below w.heap.size w w'):BR v w' N vs:=⟨h.b.below hb h.lt,Nat.lt_of_lt_of_le h.lt hb.size,h.ne⟩
theorem BR.grown {N:Nat} {vs:Array Value} (h:BR v w N vs) (hg:w.grownBy w' v.ownBlock) (hat:v5.ownBlock=v.ownBlock∨v5.ownBlock=some w.heap.size):BR v5 w' N vs:=
 ⟨aB.near h.b (nD hg) h.lt h.ne,Nat.lt_of_lt_of_le h.lt hg.size,fun e=>by
  rcases hat with q | q
  ·rw[q]at e;exact h.ne e
  ·rw[q]at e;cases e;exact Nat.lt_irrefl _ h.lt⟩
theorem WR.push {r:bR} (h:WR W1.heap.size v l w) (hb:Below W1.heap.size W1 w) (hown:w'.ownsRow W1.heap.size 207 9 v5 (l.length+1) (l.flatMap bR.cells++r.cells)) (hg:w.grownBy w' v.ownBlock) (hat:v5.ownBlock=v.ownBlock∨v5.ownBlock=some w.heap.size)
  (hn:∀y,r.x.need=some y→W1.heap.size≤r.nb∧r.nb<w.heap.size∧aQ.box w r.nb y∧v.ownBlock≠some r.nb):WR W1.heap.size v5 (l++[r]) w'∧Below W1.heap.size W1 w':=
 ⟨h.append hown hg hat hn,hb.trans ((nD hg).below hb.size (fun k e=>(h.own.lt k e).1))⟩
end
end Go.Proofs.YtlhmdcgckocidaaGreat
