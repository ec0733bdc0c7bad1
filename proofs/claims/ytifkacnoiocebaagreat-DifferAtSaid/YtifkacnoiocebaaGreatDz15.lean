/- A part of the proof: Vd2, DevOk. -/
import Derived.Test.YtifkacnoiocebaaGreatDz14
set_option linter.unusedVariables false
set_option linter.unusedSimpArgs false
set_option maxRecDepth 100000
namespace Go.Proofs.YtifkacnoiocebaaGreat
open Go.ChangeAt Go.ChangeShapes Go.RowKit Go.WideShapes
def bM (v:Nat→Bool) (k:Nat):List Nat:=(List.range k).filter v
theorem oN (v:Nat→Bool) (k:Nat):(bM v k).length =dG k v:=List.countP_eq_length_filter.symm
theorem zG {v:Nat→Bool} {k:Nat} (h:v k=true):bM v (k+1)=bM v k++[k]:=by
 unfold bM
 rw[List.range_succ,List.filter_append,List.filter_cons_of_pos h,List.filter_nil]
theorem F8 {v:Nat→Bool} {k:Nat} (h:v k=false):bM v (k+1)=bM v k:=by
 unfold bM
 rw[List.range_succ,List.filter_append,List.filter_cons_of_neg (by rw[h];decide),List.filter_nil,List.append_nil]
def bP (v:Nat→Bool) (ds:List Dev) (k:Nat):List Dev:=(bM v k).filterMap fun i=>ds[i]?
theorem qZ {v:Nat→Bool} {ds:List Dev} {k:Nat} {d:Dev} (h:v k=true) (hd:ds[k]?=some d):bP v ds (k+1)=bP v ds k++[d]:=by
 unfold bP
 rw[zG h,List.filterMap_append]
 simp[hd]
theorem wS {v:Nat→Bool} {ds:List Dev} {k:Nat} (h:v k=false):bP v ds (k+1)=bP v ds k:=by
 unfold bP
 rw[F8 h]
def bH (v:Nat→Bool) (k i:Nat):Nat:=if i<k∧v i=true then dG i v else 0
theorem SA {v:Nat→Bool} {k:Nat} (h:v k=true):(fun i=>if i=k then dG k v else bH v k i)=bH v (k+1):=by
 funext i
 unfold bH
 by_cases e:i=k
 ·subst e
  rw[if_pos rfl,if_pos ⟨Nat.lt_succ_self _,h⟩]
 ·rw[if_neg e]
  by_cases hi:i<k∧v i=true
  ·rw[if_pos hi,if_pos ⟨by omega,hi.2⟩]
  ·rw[if_neg hi,if_neg (fun hh=>hi ⟨by omega,hh.2⟩)]
theorem WT {v:Nat→Bool} {k:Nat} (h:v k=false):bH v (k+1)=bH v k:=by
 funext i
 unfold bH
 by_cases e:i=k
 ·subst e
  rw[if_neg (fun hh=>by rw[h]at hh;exact Bool.noConfusion hh.2),if_neg (fun hh=>by omega)]
 ·by_cases hi:i<k∧v i=true
  ·rw[if_pos hi,if_pos ⟨by omega,hi.2⟩]
  ·rw[if_neg hi,if_neg (fun hh=>hi ⟨by omega,hh.2⟩)]
theorem yM (v:Nat→Bool) (k i:Nat):bH v k i≤i:=by
 unfold bH
 split
 ·exact uq i v
 ·exact Nat.zero_le _
def II (v:Nat→Bool) (n:Nat) (l:ah):ah:=⟨(bH v n l.a.toNat:Int),l.p,(bH v n l.b.toNat:Int),l.q⟩
def fH (v:Nat→Bool) (n:Nat) (ls:List ah):List ah:=(ls.filter fun l=>v l.a.toNat).map (II v n)
def mG (f:Nat→Nat) (n:Nat):Array Value:=((List.range n).map fun i=>Value.int .i64 ((f i:Nat):Int)).toArray
theorem uQ (f:Nat→Nat) {n i:Nat} (h:i<n):(mG f n)[i]?=some (.int .i64 ((f i:Nat):Int)):=by simp[mG,h]
theorem Qi (f:Nat→Nat) (n i x:Nat):(mG f n).setIfInBounds i (.int .i64 (x:Int))=mG (fun k=>if k=i then x else f k) n:=by
 apply Array.ext'
 simp only[mG,List.setIfInBounds_toArray]
 apply List.ext_getElem?
 intro k
 rw[List.getElem?_set]
 by_cases hk:k<n
 ·by_cases e:i=k
  ·subst e;simp[hk]
  ·simp[hk,e,Ne.symm e]
 ·simp[hk]
  omega
theorem Qj (n:Nat):madeCells (Value.int .i64 0).cells n=mG (fun _=>0) n:=by
 apply Array.ext
 ·simp[madeCells,mG]
 ·intro i h1 h2
  simp[madeCells,mG,Value.cells,Nat.mod_one]
theorem SB (n:Nat) (hn:n≤1000) (w:World):(Instr.makeSlice 55 (.int .i64 (n:Int)) (.int .i64 (n:Int))).run Tryz.prog w= .ok (.slice (some ⟨w.heap.size,0,none⟩) n n) (w.alloc (.cells (mG (fun _=>0) n) 3)):=by
 obtain⟨i0,hi0,hz0,hz1,hz2⟩:=info_parts Tryz.infoInt
 have h:=run_makeSlice (P:=Tryz.prog) w 55 3 i0 _ Tryz.underlying55 hi0 hz0 .i64 .i64 (n:Int) (n:Int) (by omega) (Int.le_refl _) (by rw[hz1];omega) (by rw[hz2];omega) (by omega)
 rw[h,hz1,Int.toNat_natCast,Nat.mul_one,Qj]
structure ou (W:World) (n:aC) (v:Nat→Bool) (wr:World) (g Nb:Nat) (V O L:Value) (nw:Nat→Nat) (ol:List Nat) (ds':List ak) (ls':List ah):Prop where
 bl:Below W.heap.size W wr
 ord:W.heap.size+1<Nb∧Nb<g∧g+1<wr.heap.size
 nx:Bx wr W.heap.size #[.slice n.dA n.dn n.dc,.slice n.lA n.ln n.lc] 25
 rx:Bx wr (W.heap.size+1) #[.slice none 0 0,.slice none 0 0] 25
 bx:Bx wr Nb (bools v n.dn) 4
 gx:Bx wr g #[V,L] 25
 wx:Bx wr (g+1) (mG nw n.dn) 3
 own:wr.ownsRow (g+2) 81 7 V ds'.length (ds'.flatMap ak.cells)
 old:wr.ownsRow (g+2) 3 1 O ol.length (intCells ol)
 j5:wr.ownsRow (g+2) 85 4 L ls'.length (ls'.flatMap ah.cells)
 vo:∀q,V.ownBlock=some q→O.ownBlock≠some q
 vl:∀q,V.ownBlock=some q→L.ownBlock≠some q
 Jz:∀q,O.ownBlock=some q→L.ownBlock≠some q
 dev:∀d∈ds',bW wr wr.heap.size d
 don:∀d∈ds',pR (fun q=>g+2≤q∧q<wr.heap.size∧V.ownBlock≠some q∧O.ownBlock≠some q∧L.ownBlock≠some q) d
section
variable {W wr w':World} {n:aC} {v:Nat→Bool} {g Nb:Nat} {V O L:Value} {nw:Nat→Nat} {ol:List Nat} {ds':List ak} {ls':List ah}
theorem ou.keep (h:ou W n v wr g Nb V O L nw ol ds' ls') (x:Nat) (hs:wr.heap.size≤w'.heap.size) (hos:w'.os=wr.os) (htp:w'.tape=wr.tape) (hou:w'.output=wr.output) (hk:∀q,q<wr.heap.size→q≠x→w'.heap[q]?=wr.heap[q]?)
  (hx:g+1<x) (hV:V.ownBlock≠some x) (hO:O.ownBlock≠some x) (hL:L.ownBlock≠some x) (hd:∀d∈ds',pR (fun q=>q≠x) d):ou W n v w' g Nb V O L nw ol ds' ls':=by
 obtain⟨o1,o2,o3⟩:=h.ord
 have hbw:=h.bl.size
 have hst:bG (fun q=>q≠x) wr w':=fun a u hp hu=>(World.cell?_of_block (hk a.block (jO hu) hp)).trans hu
 refine⟨⟨hos.trans h.bl.os,htp.trans h.bl.tape,hou.trans h.bl.output,Nat.le_trans hbw hs,fun q hq=>(hk q (by omega) (by omega)).trans (h.bl.block q hq)⟩,⟨o1,o2,by omega⟩,h.nx.same (hk _ (by omega) (by omega)),h.rx.same (hk _ (by omega) (by omega)),h.bx.same (hk _ (by omega) (by omega)),h.gx.same (hk _ (by omega) (by omega)),h.wx.same (hk _ (by omega) (by omega)),
  cZ h.own (fun q hq=>hk q (h.own.lt q hq).2 (fun e=>hV (e▸hq))),cZ h.old (fun q hq=>hk q (h.old.lt q hq).2 (fun e=>hO (e▸hq))),cZ h.j5 (fun q hq=>hk q (h.j5.lt q hq).2 (fun e=>hL (e▸hq))),h.vo,h.vl,h.Jz,
  fun d ru=>(h.dev d ru).stay hst (hd d ru) hs,fun d ru=>(h.don d ru).weak (fun q hq=>⟨hq.1,Nat.lt_of_lt_of_le hq.2.1 hs,hq.2.2⟩)⟩
theorem ou.below (h:ou W n v wr g Nb V O L nw ol ds' ls') (hb:Below wr.heap.size wr w'):ou W n v w' g Nb V O L nw ol ds' ls':=by
 obtain⟨o1,o2,o3⟩:=h.ord
 exact h.keep wr.heap.size hb.size hb.os hb.tape hb.output (fun q hq _=>hb.block q hq) (by omega) (fun e=>Nat.lt_irrefl _ (h.own.lt _ e).2) (fun e=>Nat.lt_irrefl _ (h.old.lt _ e).2) (fun e=>Nat.lt_irrefl _ (h.j5.lt _ e).2)
  (fun d hd=>(h.don d hd).weak (fun q hq=>by have:=hq.2.1;omega))
theorem ou.now (h:ou W n v wr g Nb V O L nw ol ds' ls') (i x:Nat):ou W n v (wr.setCell ⟨g+1,i,none⟩ (.int .i64 (x:Int))) g Nb V O L (fun k=>if k=i then x else nw k) ol ds' ls':=by
 obtain⟨o1,o2,o3⟩:=h.ord
 have hbw:=h.bl.size
 have hs:(wr.setCell ⟨g+1,i,none⟩ (.int .i64 (x:Int))).heap.size =wr.heap.size:=size_setCell _ _ _
 have hk:∀q,q≠g+1→(wr.setCell ⟨g+1,i,none⟩ (.int .i64 (x:Int))).heap[q]?=wr.heap[q]?:=fun q hq=>RowKit.Below.heap_setCell _ _ _ _ hq
 have hst:bG (fun q=>q≠g+1) wr (wr.setCell ⟨g+1,i,none⟩ (.int .i64 (x:Int))):=bG.kH ⟨g+1,i,none⟩ _
 have hw:=h.wx.set i (.int .i64 (x:Int))
 rw[Qi]at hw
 refine⟨h.bl.setCell (by show _≤g+1;omega) _,⟨o1,o2,by omega⟩,h.nx.same (hk _ (by omega)),h.rx.same (hk _ (by omega)),h.bx.same (hk _ (by omega)),h.gx.same (hk _ (by omega)),hw,
  cZ h.own (fun q hq=>hk q (by have:=(h.own.lt q hq).1;omega)),cZ h.old (fun q hq=>hk q (by have:=(h.old.lt q hq).1;omega)),cZ h.j5 (fun q hq=>hk q (by have:=(h.j5.lt q hq).1;omega)),h.vo,h.vl,h.Jz,
  fun d ru=>(h.dev d ru).stay hst ((h.don d ru).weak (fun q hq=>by have:=hq.1;omega)) (by omega),fun d ru=>(h.don d ru).weak (fun q hq=>⟨hq.1,by omega,hq.2.2⟩)⟩
theorem bY {row:Option Nat} (hg:wr.grownBy w' row) {q:Nat} (hq:q<wr.heap.size) (hne:row≠some q):w'.heap[q]?=wr.heap[q]?:=hg.block q hq (fun e=>hne e.symm)
theorem ou.WU {O':Value} {x:Nat} (h:ou W n v wr g Nb V O L nw ol ds' ls') (hown:w'.ownsRow (g+2) 3 1 O' (ol.length+1) (intCells ol++[.int .i64 (x:Int)])) (hg:wr.grownBy w' O.ownBlock) (hat:O'.ownBlock=O.ownBlock∨O'.ownBlock=some wr.heap.size):ou W n v w' g Nb V O' L nw (ol++[x]) ds' ls':=by
 obtain⟨o1,o2,o3⟩:=h.ord
 have hbw:=h.bl.size
 have hs:=hg.size
 have hlo:∀q,q<g+2→q<wr.heap.size→w'.heap[q]?=wr.heap[q]?:=fun q h1 h2=>bY hg h2 (fun e=>by have:=(h.old.lt q e).1;omega)
 have hst:bG (fun k=>some k≠O.ownBlock) wr w':=bG.l7 hg
 have hnew:∀q,q<wr.heap.size→O.ownBlock≠some q→O'.ownBlock≠some q:=fun q h1 h2 e=>by
  rcases hat with a | a
  ·exact h2 (a▸e)
  ·rw[a]at e;simp only[Option.some.injEq]at e;omega
 refine⟨h.bl.grown hg hbw (fun q hq=>by have:=(h.old.lt q hq).1;omega),⟨o1,o2,by omega⟩,h.nx.same (hlo _ (by omega) (by omega)),h.rx.same (hlo _ (by omega) (by omega)),h.bx.same (hlo _ (by omega) (by omega)),h.gx.same (hlo _ (by omega) (by omega)),h.wx.same (hlo _ (by omega) (by omega)),
  cZ h.own (fun q hq=>bY hg (h.own.lt q hq).2 (h.vo q hq)),?_,cZ h.j5 (fun q hq=>bY hg (h.j5.lt q hq).2 (fun e=>h.Jz q e hq)),fun q hq=>hnew q (h.own.lt q hq).2 (h.vo q hq),h.vl,fun q hq hl=>?_,fun d ru=>(h.dev d ru).stay hst ((h.don d ru).weak (fun q hq e=>hq.2.2.2.1 e.symm)) hs,
  fun d ru=>(h.don d ru).weak (fun q hq=>⟨hq.1,by have:=hq.2.1;omega,hq.2.2.1,hnew q hq.2.1 hq.2.2.2.1,hq.2.2.2.2⟩)⟩
 ·have e1:(ol++[x]).length =ol.length+1:=by simp
  have e2:intCells (ol++[x])=intCells ol++[.int .i64 (x:Int)]:=by simp[intCells]
  rw[e1,e2]
  exact hown
 ·exact hnew q (h.j5.lt q hl).2 (fun e=>h.Jz q e hl) hq
theorem ou.F9 {V':Value} {d:ak} (h:ou W n v wr g Nb V O L nw ol ds' ls') (hd:bW wr wr.heap.size d) (hon:pR (fun q=>g+2≤q∧q<wr.heap.size∧V.ownBlock≠some q∧O.ownBlock≠some q∧L.ownBlock≠some q) d)
  (hown:w'.ownsRow (g+2) 81 7 V' (ds'.length+1) (ds'.flatMap ak.cells++d.cells)) (hg:wr.grownBy w' V.ownBlock) (hat:V'.ownBlock=V.ownBlock∨V'.ownBlock=some wr.heap.size):ou W n v (w'.setCell ⟨g,0,none⟩ V') g Nb V' O L nw ol (ds'++[d]) ls':=by
 obtain⟨o1,o2,o3⟩:=h.ord
 have hbw:=h.bl.size
 have hs:=hg.size
 have hsz:(w'.setCell ⟨g,0,none⟩ V').heap.size =w'.heap.size:=size_setCell _ _ _
 have hsc:∀q,q≠g→(w'.setCell ⟨g,0,none⟩ V').heap[q]?=w'.heap[q]?:=fun q hq=>RowKit.Below.heap_setCell _ _ _ _ hq
 have hlo:∀q,q<g+2→q<wr.heap.size→w'.heap[q]?=wr.heap[q]?:=fun q h1 h2=>bY hg h2 (fun e=>by have:=(h.own.lt q e).1;omega)
 have hst:bG (fun k=>some k≠V.ownBlock∧k≠g) wr (w'.setCell ⟨g,0,none⟩ V'):=((bG.l7 hg).weak (fun k hk=>hk.1)).trans ((bG.kH ⟨g,0,none⟩ V').weak (fun k hk=>hk.2))
 have hnew:∀q,q<wr.heap.size→V.ownBlock≠some q→V'.ownBlock≠some q:=fun q h1 h2 e=>by
  rcases hat with a | a
  ·exact h2 (a▸e)
  ·rw[a]at e;simp only[Option.some.injEq]at e;omega
 have X0:∀x∈ds'++[d],pR (fun q=>g+2≤q∧q<wr.heap.size∧V.ownBlock≠some q∧O.ownBlock≠some q∧L.ownBlock≠some q) x:=fun x hx=>by
  rcases List.mem_append.1 hx with hx | hx
  ·exact h.don x hx
  ·simp at hx;subst hx;exact hon
 refine⟨(h.bl.grown hg hbw (fun q hq=>by have:=(h.own.lt q hq).1;omega)).setCell (by show _≤g;omega) _,⟨o1,o2,by omega⟩,h.nx.same ((hsc _ (by omega)).trans (hlo _ (by omega) (by omega))),h.rx.same ((hsc _ (by omega)).trans (hlo _ (by omega) (by omega))),h.bx.same ((hsc _ (by omega)).trans (hlo _ (by omega) (by omega))),(h.gx.same (hlo _ (by omega) (by omega))).set 0 V',h.wx.same ((hsc _ (by omega)).trans (hlo _ (by omega) (by omega))),?_,
  cZ h.old (fun q hq=>(hsc q (by have:=(h.old.lt q hq).1;omega)).trans (bY hg (h.old.lt q hq).2 (fun e=>h.vo q e hq))),cZ h.j5 (fun q hq=>(hsc q (by have:=(h.j5.lt q hq).1;omega)).trans (bY hg (h.j5.lt q hq).2 (fun e=>h.vl q e hq))),fun q hq ho=>?_,fun q hq ho=>?_,h.Jz,fun x hx=>?_,fun x hx=>?_⟩
 ·have e:w'.ownsRow (g+2) 81 7 V' (ds'++[d]).length ((ds'++[d]).flatMap ak.cells):=by simpa using hown
  exact cZ e (fun q hq=>hsc q (by have:=(e.lt q hq).1;omega))
 ·exact hnew q (h.old.lt q ho).2 (fun e=>h.vo q e ho) hq
 ·exact hnew q (h.j5.lt q ho).2 (fun e=>h.vl q e ho) hq
 ·rw[hsz]
  refine bW.stay ?_ hst ((X0 x hx).weak (fun q hq=>⟨fun e=>hq.2.2.1 e.symm,by have:=hq.1;omega⟩)) hs
  rcases List.mem_append.1 hx with hx | hx
  ·exact h.dev x hx
  ·simp at hx;subst hx;exact hd
 ·rw[hsz]
  exact(X0 x hx).weak (fun q hq=>⟨hq.1,by have:=hq.2.1;omega,hnew q hq.2.1 hq.2.2.1,hq.2.2.2⟩)
theorem ou.DJ {L':Value} {l:ah} (h:ou W n v wr g Nb V O L nw ol ds' ls') (hown:w'.ownsRow (g+2) 85 4 L' (ls'.length+1) (ls'.flatMap ah.cells++l.cells)) (hg:wr.grownBy w' L.ownBlock) (hat:L'.ownBlock=L.ownBlock∨L'.ownBlock=some wr.heap.size):ou W n v (w'.setCell ⟨g,1,none⟩ L') g Nb V O L' nw ol ds' (ls'++[l]):=by
 obtain⟨o1,o2,o3⟩:=h.ord
 have hbw:=h.bl.size
 have hs:=hg.size
 have hsz:(w'.setCell ⟨g,1,none⟩ L').heap.size =w'.heap.size:=size_setCell _ _ _
 have hsc:∀q,q≠g→(w'.setCell ⟨g,1,none⟩ L').heap[q]?=w'.heap[q]?:=fun q hq=>RowKit.Below.heap_setCell _ _ _ _ hq
 have hlo:∀q,q<g+2→q<wr.heap.size→w'.heap[q]?=wr.heap[q]?:=fun q h1 h2=>bY hg h2 (fun e=>by have:=(h.j5.lt q e).1;omega)
 have hst:bG (fun k=>some k≠L.ownBlock∧k≠g) wr (w'.setCell ⟨g,1,none⟩ L'):=((bG.l7 hg).weak (fun k hk=>hk.1)).trans ((bG.kH ⟨g,1,none⟩ L').weak (fun k hk=>hk.2))
 have hnew:∀q,q<wr.heap.size→L.ownBlock≠some q→L'.ownBlock≠some q:=fun q h1 h2 e=>by
  rcases hat with a | a
  ·exact h2 (a▸e)
  ·rw[a]at e;simp only[Option.some.injEq]at e;omega
 refine⟨(h.bl.grown hg hbw (fun q hq=>by have:=(h.j5.lt q hq).1;omega)).setCell (by show _≤g;omega) _,⟨o1,o2,by omega⟩,h.nx.same ((hsc _ (by omega)).trans (hlo _ (by omega) (by omega))),h.rx.same ((hsc _ (by omega)).trans (hlo _ (by omega) (by omega))),h.bx.same ((hsc _ (by omega)).trans (hlo _ (by omega) (by omega))),(h.gx.same (hlo _ (by omega) (by omega))).set 1 L',h.wx.same ((hsc _ (by omega)).trans (hlo _ (by omega) (by omega))),
  cZ h.own (fun q hq=>(hsc q (by have:=(h.own.lt q hq).1;omega)).trans (bY hg (h.own.lt q hq).2 (h.vl q hq))),cZ h.old (fun q hq=>(hsc q (by have:=(h.old.lt q hq).1;omega)).trans (bY hg (h.old.lt q hq).2 (h.Jz q hq))),?_,h.vo,fun q hq=>hnew q (h.own.lt q hq).2 (h.vl q hq),fun q hq=>hnew q (h.old.lt q hq).2 (h.Jz q hq),fun x hx=>?_,fun x hx=>?_⟩
 ·have e:w'.ownsRow (g+2) 85 4 L' (ls'++[l]).length ((ls'++[l]).flatMap ah.cells):=by simpa using hown
  exact cZ e (fun q hq=>hsc q (by have:=(e.lt q hq).1;omega))
 ·rw[hsz]
  exact(h.dev x hx).stay hst ((h.don x hx).weak (fun q hq=>⟨fun e=>hq.2.2.2.2 e.symm,by have:=hq.1;omega⟩)) hs
 ·rw[hsz]
  exact(h.don x hx).weak (fun q hq=>⟨hq.1,by have:=hq.2.1;omega,hq.2.2.1,hq.2.2.2.1,hnew q hq.2.1 hq.2.2.2.2⟩)
end
end Go.Proofs.YtifkacnoiocebaaGreat
namespace Go.Proofs.YtifkacnoiocebaaGreat
open Go.Maps Go.RowKit
theorem GR:∀(l pre:List Dev),fC pre l=0→∀d∈l,aS d=0
 |[],_,_,d,hd=>by cases hd
 |a::t,pre,h,d,hd=>by
  unfold fC at h
  by_cases h1:lJ a.name=false
  ·rw[if_pos h1]at h;cases h
  rw[if_neg h1]at h
  by_cases h2:(pre.any (fun x=>dQ x.name a.name))=true
  ·rw[if_pos h2]at h;cases h
  rw[if_neg h2]at h
  by_cases h3:aS a=0
  ·rw[if_pos h3]at h
   rcases List.mem_cons.1 hd with rfl | hd
   ·exact h3
   ·exact GR t _ h d hd
  ·rw[if_neg h3]at h;exact absurd h h3
structure fU (d:Dev):Prop where
 k1:1≤d.kind
 k5:d.kind≤5
 ar:(!(jV d.kind && !(decide (0≤d.addr) && decide (d.addr<16))) && !(!jV d.kind && (d.addr != 0)) && !((d.pool != 0) != (d.kind ==4)))=true
 bl:d.backs.length≤3
 bb:bQ d=true
 rl:d.rules.length≤8
 tc:cB d.routes=0
 tl:d.routes.length≤8
theorem WV {d:Dev} (h:aS d=0):fU d:=by
 unfold aS at h
 by_cases h1:(decide (d.kind<1) || decide (5<d.kind))=true
 ·rw[if_pos h1]at h;cases h
 rw[if_neg h1]at h
 by_cases h2:((jV d.kind && !(decide (0≤d.addr) && decide (d.addr<16))) || (!jV d.kind && (d.addr != 0)) || ((d.pool != 0) != (d.kind ==4)))=true
 ·rw[if_pos h2]at h;cases h
 rw[if_neg h2]at h
 by_cases h3:decide (3<d.backs.length)=true
 ·rw[if_pos h3]at h;cases h
 rw[if_neg h3]at h
 by_cases h4:(!bQ d)=true
 ·rw[if_pos h4]at h;cases h
 rw[if_neg h4]at h
 by_cases h5:((decide (0<d.rules.length) && (d.kind != 2) && (d.kind != 3)) || (decide (0<d.routes.length) && (d.kind != 2)))=true
 ·rw[if_pos h5]at h;cases h
 rw[if_neg h5]at h
 by_cases h6:decide (8<d.rules.length)=true
 ·rw[if_pos h6]at h;cases h
 rw[if_neg h6]at h
 simp only[Bool.or_eq_true,decide_eq_true_eq,not_or]at h1
 have hl:d.routes.length≤8:=by
  unfold cB at h
  by_cases h7:8<d.routes.length
  ·rw[if_pos h7]at h;cases h
  ·omega
 refine⟨by omega,by omega,?_,by simpa using h3,by simpa using h4,by simpa using h6,h,hl⟩
 revert h2
 cases(jV d.kind && !(decide (0≤d.addr) && decide (d.addr<16)))<;>cases(!jV d.kind && (d.addr != 0))<;>cases((d.pool != 0) != (d.kind ==4))<;>simp
theorem yc {ds:List Dev} {ls:List ah} (h:fq ds ls=0):∀d∈ds,fU d:=fun d hd=>WV (GR ds [] (mK h).de d hd)
end Go.Proofs.YtifkacnoiocebaaGreat
