/- A part of the proof: Da2, Sw5, Sw8. -/
import Derived.Test.YtifkacnoiocebaaGreatDz40
set_option linter.unusedVariables false
set_option linter.unusedSimpArgs false
set_option maxRecDepth 100000
namespace Go.Proofs.YtifkacnoiocebaaGreat
open Go.Maps Go.RowKit
def FN (a b:aC) (nm:ByteArray) (most p0 p1 p2 p3 kk E:Int):Prop:=
 (uH (dS nm a.au a.ls) (dS nm b.au b.ls) most E∧p0=0∧p1=0∧p2=0∧p3=0∧kk=0)∨
 (E=0∧¬bT most∧∃F G,jP a nm F∧jP b nm G∧nT (mV F G 16384)= .tuple #[.agg #[.int .i64 p0,.int .i64 p1,.int .i64 p2,.int .i64 p3],.int .i64 kk])
theorem XC {a b:aC} {nm:ByteArray} {most:Int} {W W':World} {e:Ending} (h:Rx a b nm most W e W'):Below W.heap.size W W'∧∃p0 p1 p2 p3 kk E:Int,e= .returned (.tuple #[.agg #[.int .i64 p0,.int .i64 p1,.int .i64 p2,.int .i64 p3],.int .i64 kk,.int .i64 E])∧FN a b nm most p0 p1 p2 p3 kk E:=by
 obtain⟨hb,h⟩:=h
 refine⟨hb,?_⟩
 rcases h with⟨E,hE,rfl⟩ | ⟨F,G,hm,hF,hG,rfl⟩
 ·exact⟨0,0,0,0,0,E,rfl,.inl ⟨hE,rfl,rfl,rfl,rfl,rfl⟩⟩
 ·obtain⟨R,hR⟩:∃R,mV F G 16384=R:=⟨_,rfl⟩
  rw[hR]
  rcases R with _ | ⟨c,k⟩
  ·exact⟨0,0,0,0,0,0,rfl,.inr ⟨rfl,hm,F,G,hF,hG,by rw[hR];rfl⟩⟩
  ·obtain⟨x0,x1,x2,x3,hx⟩:=tC c
   exact⟨x0,x1,x2,x3,k,0,by simp only[QX,hx],.inr ⟨rfl,hm,F,G,hF,hG,by rw[hR];simp only[nT,hx]⟩⟩
theorem jP.zu {n:aC} {nm:ByteArray} {F:Nat→Bool} (h:jP n nm F):dS nm n.au n.ls=0:=by
 obtain⟨v,K,h1,_⟩:=h
 exact h1.zu
section
variable {a b:aC} {nm:ByteArray} {most p0 p1 p2 p3 kk E:Int}
theorem FN.early (h:FN a b nm most p0 p1 p2 p3 kk E) {k:Nat} {r:aC} (hr: [a,b][k]?=some r) (hp:∀i,i<k→∀q,[a,b][i]?=some q→dS nm q.au q.ls=0) (hc:dS nm r.au r.ls≠0):
  p0=0∧p1=0∧p2=0∧p3=0∧kk=0∧E=dS nm r.au r.ls:=by
 match k,hr,hp with
 |0,hr,hp=>
  obtain rfl:=Option.some.inj hr
  rcases h with⟨h,z0,z1,z2,z3,z4⟩ | ⟨_,_,F,G,hF,_⟩
  ·refine⟨z0,z1,z2,z3,z4,?_⟩
   rcases h with⟨_,h⟩ | ⟨h,_⟩ | ⟨h,_⟩
   ·exact h
   ·exact absurd h hc
   ·exact absurd h hc
  ·exact absurd hF.zu hc
 |1,hr,hp=>
  obtain rfl:=Option.some.inj hr
  have ha:=hp 0 (by omega) a rfl
  rcases h with⟨h,z0,z1,z2,z3,z4⟩ | ⟨_,_,F,G,_,hG,_⟩
  ·refine⟨z0,z1,z2,z3,z4,?_⟩
   rcases h with⟨h,_⟩ | ⟨_,_,h⟩ | ⟨_,h,_⟩
   ·exact absurd ha h
   ·exact h
   ·exact absurd h hc
  ·exact absurd hG.zu hc
 |k+2,hr,hp=>cases hr
theorem FN.bad (h:FN a b nm most p0 p1 p2 p3 kk E) (ha:dS nm a.au a.ls=0) (hb:dS nm b.au b.ls=0) (hm:bT most):p0=0∧p1=0∧p2=0∧p3=0∧kk=0∧E=1:=by
 rcases h with⟨h,z0,z1,z2,z3,z4⟩ | ⟨_,h,_⟩
 ·refine⟨z0,z1,z2,z3,z4,?_⟩
  rcases h with⟨h,_⟩ | ⟨_,h,_⟩ | ⟨_,_,⟨_,h⟩ | ⟨h,_⟩⟩
  ·exact absurd ha h
  ·exact absurd hb h
  ·exact h
  ·exact absurd hm h
 ·exact absurd hm h
theorem FN.full (h:FN a b nm most p0 p1 p2 p3 kk E) (hE:E=6):p0=0∧p1=0∧p2=0∧p3=0∧kk=0:=by
 rcases h with⟨_,h⟩ | ⟨h,_⟩
 ·exact h
 ·omega
theorem FN.good (h:FN a b nm most p0 p1 p2 p3 kk E) (ha:dS nm a.au a.ls=0) (hb:dS nm b.au b.ls=0) (hm:¬bT most) (hE:E≠6) {F G:Nat→Bool} (hF:jP a nm F) (hG:jP b nm G):
  E=0∧nT (mV F G 16384)= .tuple #[.agg #[.int .i64 p0,.int .i64 p1,.int .i64 p2,.int .i64 p3],.int .i64 kk]:=by
 rcases h with⟨h,_⟩ | ⟨h,_,F',G',hF',hG',e⟩
 ·rcases h with⟨h,_⟩ | ⟨_,h,_⟩ | ⟨_,_,⟨h,_⟩ | ⟨_,h⟩⟩
  ·exact absurd ha h
  ·exact absurd hb h
  ·exact absurd h hm
  ·exact absurd h hE
 ·rw[hF.unique hF',hG.unique hG']
  exact⟨h,e⟩
end
structure DA (W:World) (L:List aC) (nm:ByteArray) (most:Int) (PB NB:Nat) (P:Array Value) (k:Nat) (S:Value) (fs:List Value) (wr:World):Prop where
 bl:RowKit.Below W.heap.size W wr
 lo:W.heap.size≤PB∧PB<NB
 px:Bx wr PB P 29
 nt:Bx wr NB (L.flatMap Gw).toArray 25
 zu:∀i,i<k→∀r,L[i]?=some r→dS nm r.au r.ls=0
 own:wr.ownsRow (NB+1) 59 1 S fs.length fs
 nil:fs=[]→S= .slice none 0 0
 fl:(bT most→fs=[])∧(¬bT most→fs.length=k)
 cl:∀(i:Nat) u,fs[i]?=some u→∃cs cx F,u=jZ cs cx∧pW wr cs cx F∧∀r,L[i]?=some r→jP r nm F
section
variable {W:World} {L:List aC} {nm:ByteArray} {most:Int} {PB NB:Nat} {P:Array Value} {k:Nat} {S:Value} {fs:List Value} {wr w':World}
theorem DA.below (h:DA W L nm most PB NB P k S fs wr) (hb:RowKit.Below wr.heap.size wr w'):DA W L nm most PB NB P k S fs w':=
 ⟨h.bl.trans (hb.mono h.bl.size),h.lo,h.px.below hb,h.nt.below hb,h.zu,own_below h.own hb,h.nil,h.fl,fun i u hu=>by
  obtain⟨cs,cx,F,h1,h2,h3⟩:=h.cl i u hu
  exact⟨cs,cx,F,h1,h2.below hb,h3⟩⟩
theorem DA.skip (h:DA W L nm most PB NB P k S fs wr) (hm:bT most) (hc:∀r,L[k]?=some r→dS nm r.au r.ls=0):DA W L nm most PB NB P (k+1) S fs wr:=
 ⟨h.bl,h.lo,h.px,h.nt,fun i hi r hr=>by
  rcases Nat.lt_or_ge i k with hl | hl
  ·exact h.zu i hl r hr
  ·obtain rfl:i=k:=by omega
   exact hc r hr,h.own,h.nil,⟨h.fl.1,fun hn=>absurd hm hn⟩,h.cl⟩
theorem DA.first (h:DA W L nm most PB NB P k S fs wr):∀q,S.ownBlock=some q→∃fn b cp,wr.cell? ⟨q,0,none⟩=some (.func fn b cp):=fun q hq=>by
 cases hf:fs with
 |nil=>rw[h.nil hf]at hq;cases hq
 |cons u t=>
  obtain⟨cs,cx,F,h1,_⟩:=h.cl 0 u (by rw[hf];rfl)
  obtain⟨g,c,rfl,_⟩:=h.own.form (by rw[hf];exact Nat.succ_pos _)
  cases hq
  refine⟨.func 20,#[],#[.pointer (some ⟨cs,0,none⟩),.pointer (some ⟨cx,0,none⟩)],?_⟩
  rw[h.own.cellAt 0 (by rw[hf];simp),hf,List.getElem?_cons_zero,h1]
  rfl
theorem DA.push {S':Value} {cs cx:Nat} {F:Nat→Bool} (h:DA W L nm most PB NB P k S fs wr) (hm:¬bT most) (hc:∀r,L[k]?=some r→dS nm r.au r.ls=0) (hF:∀r,L[k]?=some r→jP r nm F) (hcl:pW wr cs cx F)
  (hown:w'.ownsRow (NB+1) 59 1 S' (fs.length+1) (fs++[jZ cs cx])) (hg:wr.grownBy w' S.ownBlock):DA W L nm most PB NB P (k+1) S' (fs++[jZ cs cx]) w':=by
 have hlo:=h.lo
 have hl:∀q,S.ownBlock=some q→NB+1≤q:=fun q hq=>(h.own.lt q hq).1
 refine⟨h.bl.grown hg h.bl.size (fun q hq=>by have:=hl q hq;omega),h.lo,h.px.same (bY hg h.px.lt (fun e=>by have:=hl _ e;omega)),h.nt.same (bY hg h.nt.lt (fun e=>by have:=hl _ e;omega)),fun i hi r hr=>?_,by simpa using hown,fun e=>by simp at e,⟨fun hn=>absurd hn hm,fun _=>by rw[List.length_append,h.fl.2 hm];rfl⟩,fun i u hu=>?_⟩
 ·rcases Nat.lt_or_ge i k with hl | hl
  ·exact h.zu i hl r hr
  ·obtain rfl:i=k:=by omega
   exact hc r hr
 ·rcases Nat.lt_or_ge i fs.length with hi | hi
  ·rw[List.getElem?_append_left hi]at hu
   obtain⟨cs',cx',F',h1,h2,h3⟩:=h.cl i u hu
   exact⟨cs',cx',F',h1,h2.grown hg h.first,h3⟩
  ·rw[List.getElem?_append_right hi]at hu
   have hi0:i - fs.length=0:=by
    have:=(List.getElem?_eq_some_iff.1 hu).1
    simp at this
    omega
   rw[hi0]at hu
   obtain rfl:=Option.some.inj hu
   obtain rfl:i=k:=by have:=h.fl.2 hm;omega
   exact⟨cs,cx,F,rfl,hcl.grown hg h.first,hF⟩
end
open Go.WideElems
theorem XD {w:World} {N base e:Nat} {v:Value} {t:TypeId} (h:Bx w N #[v] t) (hb:base≤N):w.ownsRow base t 1 (.slice (some ⟨N,0,none⟩) 1 1) 1 [v]:=
 ⟨rfl,.inr ⟨N,1,#[v],rfl,hb,h,Nat.le_refl _,by unfold maxLen;omega,rfl,rfl⟩⟩
theorem kN {w:World} {base g n c:Nat} {N:List Nat} (h:w.ownsRow base 3 1 (.slice (some ⟨g,0,none⟩) n c) n (intCells N)) (hb:∀x∈N,x<1000):cu w w.heap.size (some ⟨g,0,none⟩) n (N.map fun(x:Nat)=>(x:Int)):=by
 have hl:N.length=n:=by have:=h.1;simpa[intCells]using this
 refine⟨by rw[List.length_map];exact hl,fun x hx=>?_,fun _=>⟨g,0,rfl,(h.lt g rfl).2,fun k x hx=>?_⟩⟩
 ·obtain⟨y,hy,rfl⟩:=List.mem_map.1 hx
  have:=hb y hy
  omega
 ·rw[List.getElem?_map]at hx
  obtain⟨y,hy,rfl⟩:=Option.map_eq_some_iff.1 hx
  rw[Nat.zero_add,h.cellAt k (by have:=(List.getElem?_eq_some_iff.1 hy).1;omega)]
  exact sF hy
theorem pX {N:List Nat} {y:Int} (hy:0≤y):(N.map fun(x:Nat)=>(x:Int)).contains y=decide (y.toNat∈N):=by
 rw[Bool.eq_iff_iff,List.contains_iff_mem,decide_eq_true_eq,List.mem_map]
 exact⟨fun⟨x,h,e⟩=>by rw[← e];simpa using h,fun h=>⟨y.toNat,h,by omega⟩⟩
structure SW (W:World) (n:aC) (N:List Nat) (g c:Nat) (wr:World):Prop where
 bl:RowKit.Below W.heap.size W wr
 nx:Bx wr W.heap.size #[.slice n.dA n.dn n.dc,.slice n.lA n.ln n.lc] 25
 ox:Bx wr (W.heap.size+1) #[.slice none 0 0,.slice none 0 0] 25
 own:wr.ownsRow (W.heap.size+2) 3 1 (.slice (some ⟨g,0,none⟩) N.length c) N.length (intCells N)
section
variable {W wr w':World} {n:aC} {N:List Nat} {g c:Nat}
theorem SW.below (h:SW W n N g c wr) (hb:RowKit.Below wr.heap.size wr w'):SW W n N g c w':=
 ⟨h.bl.trans (hb.mono h.bl.size),h.nx.below hb,h.ox.below hb,own_below h.own hb⟩
theorem SW.cell (h:SW W n N g c wr) {k x:Nat} (hx:N[k]?=some x):wr.cell? ⟨g,k,none⟩=some (.int .i64 (x:Int)):=by
 rw[h.own.cellAt k (by have:=(List.getElem?_eq_some_iff.1 hx).1;omega)]
 exact sF hx
theorem SW.grown (h:SW W n N g c wr) {y m:Nat} {v:Value} (hown:w'.ownsRow (W.heap.size+2) 3 1 v (N.length+1) (intCells N++[.int .i64 (y:Int)])) (hg:wr.grownBy w' (some g)):∃g' c',v= .slice (some ⟨g',0,none⟩) (N++[y]).length c'∧SW W n (N++[y]) g' c' w':=by
 have hgl:=(h.own.lt g rfl).1
 obtain⟨g',c',rfl,_,_⟩:=hown.form (by omega)
 refine⟨g',c',by rw[List.length_append];rfl,?_,h.nx.same (hg.block _ h.nx.lt (fun e=>by cases e;omega)),h.ox.same (hg.block _ h.ox.lt (fun e=>by cases e;omega)),?_⟩
 ·exact h.bl.trans ⟨hg.os,hg.tape,hg.output,hg.size,fun b hb=>hg.block b (Nat.lt_of_lt_of_le hb h.bl.size) (fun e=>by cases e;omega)⟩
 ·have e:intCells (N++[y])=intCells N++[.int .i64 (y:Int)]:=by unfold intCells;rw[List.map_append];rfl
  rw[List.length_append,e]
  exact hown
end
theorem M6 {v:Nat→Bool} {i:Nat} (hi:v i=true):∀k,i<k→(bM v k)[dG i v]?=some i
 |0,h=>absurd h (Nat.not_lt_zero _)
 |k+1,h=>by
  by_cases hik:i=k
  ·subst hik
   rw[zG hi,List.getElem?_append_right (Nat.le_of_eq (oN v i)),oN]
   simp
  ·have ih:=M6 hi k (by omega)
   cases hv:v k with
   |true=>
    rw[zG hv,List.getElem?_append_left (List.getElem?_eq_some_iff.1 ih).1]
    exact ih
   |false=>
    rw[F8 hv]
    exact ih
theorem KI {v:Nat→Bool} {k x:Nat} :x∈bM v k↔x<k∧v x=true:=by
 unfold bM
 rw[List.mem_filter,List.mem_range]
theorem XE (v:Nat→Bool) (k:Nat):(bM v k).Nodup :=List.Nodup.sublist List.filter_sublist List.nodup_range
theorem M7 {v:Nat→Bool} {n i:Nat} (hi:v i=true) (hn:i<n):jy (fun y=>((i:Int)==y)) ((bM v n).map fun(x:Nat)=>(x:Int))=((bH v n i:Nat):Int):=by
 have h:=M6 hi n hn
 have e:bH v n i=dG i v:=by unfold bH;rw[if_pos ⟨hn,hi⟩]
 rw[e]
 refine rH (r:=(i:Int)) (by rw[List.getElem?_map,h];rfl) (by simp) (fun j r hj hr=>?_)
 rw[List.getElem?_map]at hr
 obtain⟨y,hy,rfl⟩:=Option.map_eq_some_iff.1 hr
 have hne:i≠y:=fun e=>by
  subst e
  have h1:=(List.getElem?_eq_some_iff.1 hy)
  have h2:=(List.getElem?_eq_some_iff.1 h)
  obtain⟨a1,a2⟩:=h1
  obtain⟨b1,b2⟩:=h2
  have h3:=List.nodup_iff_pairwise_ne.1 (XE v n)
  rw[List.pairwise_iff_getElem]at h3
  exact h3 j (dG i v) a1 b1 hj (a2.trans b2.symm)
 simp
 omega
structure SR (W:World) (n:aC) (X:List Nat) (g c:Nat) (V L:Value) (ds':List ak) (ls':List ah) (wr:World):Prop where
 bl:RowKit.Below W.heap.size W wr
 nx:Bx wr W.heap.size #[.slice n.dA n.dn n.dc,.slice n.lA n.ln n.lc] 25
 ox:Bx wr (W.heap.size+1) #[V,L] 25
 own:wr.ownsRow (W.heap.size+2) 3 1 (.slice (some ⟨g,0,none⟩) X.length c) X.length (intCells X)
 dev:wr.ownsRow (W.heap.size+2) 81 7 V ds'.length (ds'.flatMap ak.cells)
 j5:wr.ownsRow (W.heap.size+2) 85 4 L ls'.length (ls'.flatMap ah.cells)
 vg:V.ownBlock≠some g
 lg:L.ownBlock≠some g
 vl:∀q,V.ownBlock=some q→L.ownBlock≠some q
section
variable {W wr w':World} {n:aC} {N X:List Nat} {g c:Nat} {V L:Value} {ds':List ak} {ls':List ah}
theorem SR.below (h:SR W n X g c V L ds' ls' wr) (hb:RowKit.Below wr.heap.size wr w'):SR W n X g c V L ds' ls' w':=
 ⟨h.bl.trans (hb.mono h.bl.size),h.nx.below hb,h.ox.below hb,own_below h.own hb,own_below h.dev hb,own_below h.j5 hb,h.vg,h.lg,h.vl⟩
theorem SR.size (h:SR W n X g c V L ds' ls' wr):W.heap.size+2≤wr.heap.size:=by
 have:=h.ox.lt
 omega
theorem SR.cell (h:SR W n X g c V L ds' ls' wr) {k x:Nat} (hx:X[k]?=some x):wr.cell? ⟨g,k,none⟩=some (.int .i64 (x:Int)):=by
 rw[h.own.cellAt k (by have:=(List.getElem?_eq_some_iff.1 hx).1;omega)]
 exact sF hx
theorem SR.start (h:SW W n N g c wr) (hr:kI wr (W.heap.size+2) g N.length c N X w'):SR W n X g c (.slice none 0 0) (.slice none 0 0) [] [] w':=by
 have hlg:=(h.own.lt g rfl).1
 have hl:X.length=N.length:=hr.pm.length_eq
 refine⟨?_,h.nx.same (hr.gr.block _ h.nx.lt (fun e=>by cases e;omega)),h.ox.same (hr.gr.block _ h.ox.lt (fun e=>by cases e;omega)),by rw[hl];exact hr.own,World.ownsRow_nil _ _ _ _,World.ownsRow_nil _ _ _ _,fun q=>by(cases q),fun q=>by(cases q),fun q hq=>by(cases hq)⟩
 exact h.bl.trans ⟨hr.gr.os,hr.gr.tape,hr.gr.output,hr.gr.size,fun b hb=>hr.gr.block b (Nat.lt_of_lt_of_le hb h.bl.size) (fun e=>by cases e;omega)⟩
theorem SR.F9 {V':Value} {d:ak} (h:SR W n X g c V L ds' ls' wr) (hown:w'.ownsRow (W.heap.size+2) 81 7 V' (ds'.length+1) (ds'.flatMap ak.cells++d.cells)) (hg:wr.grownBy w' V.ownBlock) (hat:V'.ownBlock=V.ownBlock∨V'.ownBlock=some wr.heap.size):SR W n X g c V' L (ds'++[d]) ls' (w'.setCell ⟨W.heap.size+1,0,none⟩ V'):=by
 have hbw:=h.bl.size
 have hs:=hg.size
 have hsc:∀q,q≠W.heap.size+1→(w'.setCell ⟨W.heap.size+1,0,none⟩ V').heap[q]?=w'.heap[q]?:=fun q hq=>RowKit.Below.heap_setCell _ _ _ _ hq
 have hlo:∀q,q<W.heap.size+2→q<wr.heap.size→w'.heap[q]?=wr.heap[q]?:=fun q h1 h2=>bY hg h2 (fun e=>by have:=(h.dev.lt q e).1;omega)
 have hnew:∀q,q<wr.heap.size→V.ownBlock≠some q→V'.ownBlock≠some q:=fun q h1 h2 e=>by
  rcases hat with a | a
  ·exact h2 (a▸e)
  ·rw[a]at e;simp only[Option.some.injEq]at e;omega
 refine⟨(h.bl.grown hg hbw (fun q hq=>by have:=(h.dev.lt q hq).1;omega)).setCell (by show _≤W.heap.size+1;omega) _,h.nx.same ((hsc _ (by omega)).trans (hlo _ (by omega) h.nx.lt)),(h.ox.same (hlo _ (by omega) h.ox.lt)).set 0 V',cZ h.own (fun q hq=>(hsc q (by have:=(h.own.lt q hq).1;omega)).trans (bY hg (h.own.lt q hq).2 (fun e=>by cases hq;exact h.vg e))),?_,cZ h.j5 (fun q hq=>(hsc q (by have:=(h.j5.lt q hq).1;omega)).trans (bY hg (h.j5.lt q hq).2 (fun e=>h.vl q e hq))),hnew g (h.own.lt g rfl).2 h.vg,h.lg,fun q hq hl=>hnew q (h.j5.lt q hl).2 (fun e=>h.vl q e hl) hq⟩
 have e:w'.ownsRow (W.heap.size+2) 81 7 V' (ds'++[d]).length ((ds'++[d]).flatMap ak.cells):=by simpa using hown
 exact cZ e (fun q hq=>hsc q (by have:=(e.lt q hq).1;omega))
theorem SR.DJ {L':Value} {l:ah} (h:SR W n X g c V L ds' ls' wr) (hown:w'.ownsRow (W.heap.size+2) 85 4 L' (ls'.length+1) (ls'.flatMap ah.cells++l.cells)) (hg:wr.grownBy w' L.ownBlock) (hat:L'.ownBlock=L.ownBlock∨L'.ownBlock=some wr.heap.size):SR W n X g c V L' ds' (ls'++[l]) (w'.setCell ⟨W.heap.size+1,1,none⟩ L'):=by
 have hbw:=h.bl.size
 have hs:=hg.size
 have hsc:∀q,q≠W.heap.size+1→(w'.setCell ⟨W.heap.size+1,1,none⟩ L').heap[q]?=w'.heap[q]?:=fun q hq=>RowKit.Below.heap_setCell _ _ _ _ hq
 have hlo:∀q,q<W.heap.size+2→q<wr.heap.size→w'.heap[q]?=wr.heap[q]?:=fun q h1 h2=>bY hg h2 (fun e=>by have:=(h.j5.lt q e).1;omega)
 have hnew:∀q,q<wr.heap.size→L.ownBlock≠some q→L'.ownBlock≠some q:=fun q h1 h2 e=>by
  rcases hat with a | a
  ·exact h2 (a▸e)
  ·rw[a]at e;simp only[Option.some.injEq]at e;omega
 refine⟨(h.bl.grown hg hbw (fun q hq=>by have:=(h.j5.lt q hq).1;omega)).setCell (by show _≤W.heap.size+1;omega) _,h.nx.same ((hsc _ (by omega)).trans (hlo _ (by omega) h.nx.lt)),(h.ox.same (hlo _ (by omega) h.ox.lt)).set 1 L',cZ h.own (fun q hq=>(hsc q (by have:=(h.own.lt q hq).1;omega)).trans (bY hg (h.own.lt q hq).2 (fun e=>by cases hq;exact h.lg e))),cZ h.dev (fun q hq=>(hsc q (by have:=(h.dev.lt q hq).1;omega)).trans (bY hg (h.dev.lt q hq).2 (fun e=>h.vl q hq e))),?_,h.vg,hnew g (h.own.lt g rfl).2 h.lg,fun q hq=>hnew q (h.dev.lt q hq).2 (h.vl q hq)⟩
 have e:w'.ownsRow (W.heap.size+2) 85 4 L' (ls'++[l]).length ((ls'++[l]).flatMap ah.cells):=by simpa using hown
 exact cZ e (fun q hq=>hsc q (by have:=(e.lt q hq).1;omega))
end
def XF (n:aC) (v:Nat→Bool) (W:World) (e:Ending) (W':World):Prop:=∃(m:aC) (g c:Nat),
 e= .returned (.tuple #[m.val,.slice (some ⟨g,0,none⟩) (bM v n.dn).length c])∧bq W' W'.heap.size m∧m.au=bP v n.au n.dn∧m.ls=fH v n.dn n.ls∧cu W' W'.heap.size (some ⟨g,0,none⟩) (bM v n.dn).length ((bM v n.dn).map fun(k:Nat)=>(k:Int))∧Below W.heap.size W W'
theorem Uq (v:Nat→Bool) (ds:List ak) (k:Nat):((bM v k).filterMap fun i=>ds[i]?).map ak.dev=bP v (ds.map ak.dev) k:=by
 unfold bP
 rw[List.map_filterMap]
 congr 1
 funext i
 rw[List.getElem?_map]
theorem Rz {ds:List ak} {X:List Nat} {k x:Nat} {d:ak} (hx:X[k]?=some x) (hd:ds[x]?=some d):(X.take (k+1)).filterMap (fun i=>ds[i]?)=(X.take k).filterMap (fun i=>ds[i]?)++[d]:=by
 obtain⟨hk,e⟩:=List.getElem?_eq_some_iff.1 hx
 rw[List.take_succ_eq_append_getElem hk,e,List.filterMap_append]
 simp[hd]
end Go.Proofs.YtifkacnoiocebaaGreat
