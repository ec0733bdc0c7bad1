/- A part of the proof: Nr2, Nr3, Nr4. -/
import Derived.Test.YtifkacnoiocebaaDoorNz7
import Derived.Test.YtifkacnoiocebaaDoorNz11
set_option linter.unusedVariables false
set_option linter.unusedSimpArgs false
set_option maxRecDepth 100000
set_option maxHeartbeats 8000000
namespace Go.Proofs.YtifkacnoiocebaaDoor
open Go.Maps Go.RowKit
theorem uX {w:World} {lo e s n:Nat} {v:Value} {xs:List Value} (h:w.ownsRow lo e s v n xs) {q:Nat} (hq:v.ownBlock=some q):∃cur,w.heap[q]?=some (.cells cur e (0,0)):=by
 rcases h.2 with⟨h3,_⟩ | ⟨g,cap,cur,hv,_,hh,_⟩
 ·rw[h3]at hq;cases hq
 ·rw[hv]at hq
  cases hq
  exact⟨cur,hh⟩
theorem jd {w:World} {lo lo' e e' s s' n n':Nat} {v v':Value} {xs xs':List Value} (h:w.ownsRow lo e s v n xs) (h':w.ownsRow lo' e' s' v' n' xs') (he:e≠e') {q:Nat} (hq:v.ownBlock=some q):v'.ownBlock≠some q:=fun hq'=>by
 obtain⟨c,h1⟩:=uX h hq
 obtain⟨c',h2⟩:=uX h' hq'
 rw[h1]at h2
 cases h2
 exact he rfl
theorem aY {w w':World} {row:Option Nat} (hg:w.grownBy w' row) {q:Nat} (hq:q<w.heap.size) (hne:row≠some q):w'.heap[q]?=w.heap[q]?:=hg.block q hq (fun e=>hne e.symm)
theorem bV {w w':World} {lo lo' e e' s s' n n':Nat} {v v':Value} {xs xs':List Value} (h:w.ownsRow lo e s v n xs) (h':w.ownsRow lo' e' s' v' n' xs') (he:e≠e') (hg:w.grownBy w' v'.ownBlock):w'.ownsRow lo e s v n xs:=
 iC h (fun q hq=>aY hg (h.lt q hq).2 (jd h h' he hq))
theorem gT {w:World} {lo lo' e e' s s' n n' g c:Nat} {v:Value} {xs xs':List Value} (h:w.ownsRow lo e s v n xs) (h':w.ownsRow lo' e' s' (.slice (some ⟨g,0,none⟩) n' c) n' xs') (he:e≠e') (j:Nat) (u:Value):(w.setCell ⟨g,j,none⟩ u).ownsRow lo e s v n xs:=
 iC h (fun q hq=>RowKit.Below.heap_setCell _ _ _ _ (fun e1=>jd h h' he hq (by show some g=some q;rw[show q=g from e1])))
def eZ (w:World) (lo:Nat) (x:ah):Prop:=w.ownsRow lo 3 1 (.slice x.bA x.bn x.bc) x.bn (x.bs.flatMap jf)∧x.bs.length=x.bn
def Dv (w:World) (lo:Nat) (x:ah):Prop:=w.ownsRow lo 63 5 (.slice x.rA x.rn x.rc) x.rn (x.rs.flatMap bN.cells)∧x.rs.length=x.rn
def Ct (w:World) (lo:Nat) (x:ah):Prop:=w.ownsRow lo 66 3 (.slice x.tA x.tn x.tc) x.tn (x.ts.flatMap bf.cells)∧x.ts.length=x.tn
structure uH (x:ah):Prop where
 nm:x.name.size≤maxLen
 kd:bG x.kind
 ad:bG x.addr
 pl:x.pool<256
 bs:∀y∈x.bs,bG y
 rs:∀y∈x.rs,y.ok
 ts:∀y∈x.ts,y.ok
structure NG (w:World) (lo:Nat) (ds:List ah) (ls:List aJ) (V L:Value):Prop where
 d:w.ownsRow lo 37 7 V ds.length (ds.flatMap ah.cells)
 l:w.ownsRow lo 55 4 L ls.length (ls.flatMap aJ.cells)
 b:∀x∈ds,eZ w lo x
 r:∀x∈ds,Dv w lo x
 t:∀x∈ds,Ct w lo x
 ok:∀x∈ds,uH x
 rV:∀x∈ls,x.ok
 sr:∀(i j:Nat) x y q,i≠j→ds[i]?=some x→ds[j]?=some y→x.rA.map (·.block)=some q→y.rA.map (·.block)≠some q
 st:∀(i j:Nat) x y q,i≠j→ds[i]?=some x→ds[j]?=some y→x.tA.map (·.block)=some q→y.tA.map (·.block)≠some q
theorem jT {A:Option Addr} {n c q:Nat} :(Value.slice A n c).ownBlock =some q↔A.map (·.block)=some q:=by cases A<;>exact Iff.rfl
section
variable {w w':World} {lo:Nat} {ds ds0:List ah} {ls:List aJ} {V L:Value}
theorem NG.start (w:World) (lo:Nat):NG w lo [] [] (.slice none 0 0) (.slice none 0 0):=
 ⟨World.ownsRow_nil _ _ _ _,World.ownsRow_nil _ _ _ _,fun x hx=>(nomatch hx),fun x hx=>(nomatch hx),fun x hx=>(nomatch hx),fun x hx=>(nomatch hx),fun x hx=>(nomatch hx),fun i j x y q _ h=>(nomatch h),fun i j x y q _ h=>(nomatch h)⟩
theorem NG.below (h:NG w lo ds ls V L) (hb:RowKit.Below w.heap.size w w'):NG w' lo ds ls V L:=
 ⟨own_below h.d hb,own_below h.l hb,fun x hx=>⟨own_below (h.b x hx).1 hb,(h.b x hx).2⟩,fun x hx=>⟨own_below (h.r x hx).1 hb,(h.r x hx).2⟩,fun x hx=>⟨own_below (h.t x hx).1 hb,(h.t x hx).2⟩,h.ok,h.rV,h.sr,h.st⟩
theorem NG.same (h:NG w lo ds ls V L) (hb:∀q,lo≤q→q<w.heap.size→w'.heap[q]?=w.heap[q]?):NG w' lo ds ls V L:=
 ⟨iC h.d (fun q hq=>hb q (h.d.lt q hq).1 (h.d.lt q hq).2),iC h.l (fun q hq=>hb q (h.l.lt q hq).1 (h.l.lt q hq).2),fun x hx=>⟨iC (h.b x hx).1 (fun q hq=>hb q ((h.b x hx).1.lt q hq).1 ((h.b x hx).1.lt q hq).2),(h.b x hx).2⟩,
  fun x hx=>⟨iC (h.r x hx).1 (fun q hq=>hb q ((h.r x hx).1.lt q hq).1 ((h.r x hx).1.lt q hq).2),(h.r x hx).2⟩,fun x hx=>⟨iC (h.t x hx).1 (fun q hq=>hb q ((h.t x hx).1.lt q hq).1 ((h.t x hx).1.lt q hq).2),(h.t x hx).2⟩,h.ok,h.rV,h.sr,h.st⟩
theorem NG.wT {L':Value} {x:aJ} (h:NG w lo ds ls V L) (hx:x.ok) (hown:w'.ownsRow lo 55 4 L' (ls.length+1) (ls.flatMap aJ.cells++x.cells)) (hg:w.grownBy w' L.ownBlock):NG w' lo ds (ls++[x]) V L':=
 ⟨bV h.d h.l (by decide) hg,by simpa using hown,fun y hy=>⟨bV (h.b y hy).1 h.l (by decide) hg,(h.b y hy).2⟩,fun y hy=>⟨bV (h.r y hy).1 h.l (by decide) hg,(h.r y hy).2⟩,fun y hy=>⟨bV (h.t y hy).1 h.l (by decide) hg,(h.t y hy).2⟩,h.ok,fun y hy=>by
  rcases List.mem_append.1 hy with hy | hy
  ·exact h.rV y hy
  ·simp at hy;subst hy;exact hx,h.sr,h.st⟩
theorem NG.gX {V':Value} {x:ah} (h:NG w lo ds ls V L) (hx:uH x) (hb:eZ w lo x) (hr:x.rA=none∧x.rn=0∧x.rc=0∧x.rs=[]) (ht:x.tA=none∧x.tn=0∧x.tc=0∧x.ts=[])
  (hown:w'.ownsRow lo 37 7 V' (ds.length+1) (ds.flatMap ah.cells++x.cells)) (hg:w.grownBy w' V.ownBlock):NG w' lo (ds++[x]) ls V' L:=by
 have hm:∀ {p:ah→Prop},(∀y∈ds,p y)→p x→∀y∈ds++[x],p y:=fun {p} h1 h2 y hy=>by
  rcases List.mem_append.1 hy with hy | hy
  ·exact h1 y hy
  ·simp at hy;subst hy;exact h2
 have hat:∀(i:Nat) y,(ds++[x])[i]?=some y→ds[i]?=some y∨(i=ds.length∧y=x):=fun i y hy=>by
  rcases Nat.lt_or_ge i ds.length with hl | hl
  ·rw[List.getElem?_append_left hl]at hy;exact .inl hy
  ·rw[List.getElem?_append_right hl]at hy
   have h0:i - ds.length=0:=by
    have:=(List.getElem?_eq_some_iff.1 hy).1
    simp at this
    omega
   rw[h0]at hy
   exact .inr ⟨by omega,(Option.some.inj hy).symm⟩
 refine⟨by simpa using hown,bV h.l h.d (by decide) hg,hm (fun y hy=>⟨bV (h.b y hy).1 h.d (by decide) hg,(h.b y hy).2⟩) ⟨bV hb.1 h.d (by decide) hg,hb.2⟩,hm (fun y hy=>⟨bV (h.r y hy).1 h.d (by decide) hg,(h.r y hy).2⟩) ?_,hm (fun y hy=>⟨bV (h.t y hy).1 h.d (by decide) hg,(h.t y hy).2⟩) ?_,hm h.ok hx,h.rV,?_,?_⟩
 ·obtain⟨h1,h2,h3,h4⟩:=hr
  unfold Dv
  rw[h1,h2,h3,h4]
  exact⟨World.ownsRow_nil _ _ _ _,rfl⟩
 ·obtain⟨h1,h2,h3,h4⟩:=ht
  unfold Ct
  rw[h1,h2,h3,h4]
  exact⟨World.ownsRow_nil _ _ _ _,rfl⟩
 ·intro i j y z q hij hy hz hq
  rcases hat i y hy with hy | ⟨e1,e2⟩
  ·rcases hat j z hz with hz | ⟨e1,e2⟩
   ·exact h.sr i j y z q hij hy hz hq
   ·rw[e2,hr.1];exact fun e=>by cases e
  ·rw[e2,hr.1]at hq;cases hq
 ·intro i j y z q hij hy hz hq
  rcases hat i y hy with hy | ⟨e1,e2⟩
  ·rcases hat j z hz with hz | ⟨e1,e2⟩
   ·exact h.st i j y z q hij hy hz hq
   ·rw[e2,ht.1];exact fun e=>by cases e
  ·rw[e2,ht.1]at hq;cases hq
theorem last_at (ds0:List ah) (x:ah):∀(i:Nat) y,(ds0++[x])[i]?=some y→(ds0[i]?=some y∧i<ds0.length)∨(i=ds0.length∧y=x):=fun i y hy=>by
 rcases Nat.lt_or_ge i ds0.length with hl | hl
 ·rw[List.getElem?_append_left hl]at hy;exact .inl ⟨hy,hl⟩
 ·rw[List.getElem?_append_right hl]at hy
  have h0:i - ds0.length=0:=by
   have:=(List.getElem?_eq_some_iff.1 hy).1
   simp at this
   omega
  rw[h0]at hy
  exact .inr ⟨by omega,(Option.some.inj hy).symm⟩
theorem wU {ds0:List ah} {x x':ah} {j:Nat} {v:Value} (hj:j<7) (h:x.cells.set j v=x'.cells):((ds0++[x]).flatMap ah.cells).set (ds0.length*7+j) v=(ds0++[x']).flatMap ah.cells:=by
 have hl:∀l:List ah,(l.flatMap ah.cells).length =l.length*7:=fun l=>by
  induction l with
  |nil=>rfl
  |cons a t ih=>rw[List.flatMap_cons,List.length_append,ah.len,ih,List.length_cons];omega
 rw[List.flatMap_append,List.flatMap_append,List.set_append_right _ _ (by rw[hl];omega),hl,Nat.add_sub_cancel_left]
 simp only[List.flatMap_cons,List.flatMap_nil,List.append_nil]
 rw[h]
theorem NG.mY {x:ah} {g c:Nat} {A':Option Addr} {c':Nat} {y:bN} (h:NG w lo (ds0++[x]) ls (.slice (some ⟨g,0,none⟩) (ds0++[x]).length c) L) (hy:y.ok)
  (hown:w'.ownsRow lo 63 5 (.slice A' (x.rn+1) c') (x.rn+1) (x.rs.flatMap bN.cells++y.cells)) (hg:w.grownBy w' (Value.slice x.rA x.rn x.rc).ownBlock) (hat:(Value.slice A' (x.rn+1) c').ownBlock =(Value.slice x.rA x.rn x.rc).ownBlock ∨(Value.slice A' (x.rn+1) c').ownBlock =some w.heap.size):
  NG (w'.setCell ⟨g,ds0.length*7+5,none⟩ (.slice A' (x.rn+1) c')) lo (ds0++[{ x with rA:=A',rn:=x.rn+1,rc:=c',rs:=x.rs++[y] }]) ls (.slice (some ⟨g,0,none⟩) (ds0++[x]).length c) L:=by
 have hxm:x∈ds0++[x]:=List.mem_append_right _ (List.mem_singleton.2 rfl)
 have hR:=(h.r x hxm).1
 have hd:=bV h.d hR (by decide) hg
 have hm:∀ {p:ah→Prop} {x':ah},(∀y∈ds0,p y)→p x'→∀y∈ds0++[x'],p y:=fun {p x'} h1 h2 y hy=>by
  rcases List.mem_append.1 hy with hy | hy
  ·exact h1 y hy
  ·simp at hy;subst hy;exact h2
 have h0:∀y∈ds0,y∈ds0++[x]:=fun y hy=>List.mem_append_left _ hy
 have hsep:∀y∈ds0,∀q,y.rA.map (·.block)=some q→(Value.slice x.rA x.rn x.rc).ownBlock ≠some q:=fun y hy q hq e=>by
  obtain⟨i,hi⟩:=List.mem_iff_getElem?.1 hy
  have hil:=(List.getElem?_eq_some_iff.1 hi).1
  exact h.sr i ds0.length y x q (by omega) (by rw[List.getElem?_append_left hil];exact hi) (by rw[List.getElem?_append_right (Nat.le_refl _),Nat.sub_self];rfl) hq (jT.1 e)
 have hnew:∀y∈ds0,∀q,y.rA.map (·.block)=some q→A'.map (·.block)≠some q:=fun y hy q hq e=>by
  have e':(Value.slice A' (x.rn+1) c').ownBlock =some q:=jT.2 e
  rcases hat with a | a
  ·exact hsep y hy q hq (a▸e')
  ·rw[a]at e'
   have:=((h.r y (h0 y hy)).1.lt q (jT.2 hq)).2
   simp only[Option.some.injEq]at e'
   omega
 have he:(ds0++[x]).length =(ds0++[{ x with rA:=A',rn:=x.rn+1,rc:=c',rs:=x.rs++[y] }]).length :=by simp
 have hs:=hd.stored (ds0.length*7+5) (.slice A' (x.rn+1) c')
 rw[wU (x':={ x with rA:=A',rn:=x.rn+1,rc:=c',rs:=x.rs++[y] }) (by omega) rfl]at hs
 refine⟨by rw[← he];exact hs.1,gT (bV h.l hR (by decide) hg) hd (by decide) _ _,hm (fun z hz=>⟨gT (bV (h.b z (h0 z hz)).1 hR (by decide) hg) hd (by decide) _ _,(h.b z (h0 z hz)).2⟩) ⟨gT (bV (h.b x hxm).1 hR (by decide) hg) hd (by decide) _ _,(h.b x hxm).2⟩,
  hm (fun z hz=>⟨gT (iC (h.r z (h0 z hz)).1 (fun q hq=>aY hg ((h.r z (h0 z hz)).1.lt q hq).2 (hsep z hz q (jT.1 hq)))) hd (by decide) _ _,(h.r z (h0 z hz)).2⟩) ⟨gT (by simpa using hown) hd (by decide) _ _,by simp[(h.r x hxm).2]⟩,
  hm (fun z hz=>⟨gT (bV (h.t z (h0 z hz)).1 hR (by decide) hg) hd (by decide) _ _,(h.t z (h0 z hz)).2⟩) ⟨gT (bV (h.t x hxm).1 hR (by decide) hg) hd (by decide) _ _,(h.t x hxm).2⟩,
  hm (fun z hz=>h.ok z (h0 z hz)) ?_,h.rV,?_,?_⟩
 ·have hf:=h.ok x hxm
  exact⟨hf.nm,hf.kd,hf.ad,hf.pl,hf.bs,fun z hz=>by
   rcases List.mem_append.1 hz with hz | hz
   ·exact hf.rs z hz
   ·simp at hz;subst hz;exact hy,hf.ts⟩
 ·intro i j u z q hij hu hz hq
  rcases last_at _ _ i u hu with⟨hu,hil⟩ | ⟨ei,eu⟩
  ·rcases last_at _ _ j z hz with⟨hz,hjl⟩ | ⟨ej,ez⟩
   ·exact h.sr i j u z q hij (by rw[List.getElem?_append_left hil];exact hu) (by rw[List.getElem?_append_left hjl];exact hz) hq
   ·rw[ez];exact hnew u (List.mem_of_getElem? hu) q hq
  ·rcases last_at _ _ j z hz with⟨hz,hjl⟩ | ⟨ej,ez⟩
   ·rw[eu]at hq
    exact fun e=>hnew z (List.mem_of_getElem? hz) q e hq
   ·omega
 ·intro i j u z q hij hu hz hq
  rcases last_at _ _ i u hu with⟨hu,hil⟩ | ⟨ei,eu⟩
  ·rcases last_at _ _ j z hz with⟨hz,hjl⟩ | ⟨ej,ez⟩
   ·exact h.st i j u z q hij (by rw[List.getElem?_append_left hil];exact hu) (by rw[List.getElem?_append_left hjl];exact hz) hq
   ·rw[ez]
    exact h.st i ds0.length u x q (by omega) (by rw[List.getElem?_append_left hil];exact hu) (by rw[List.getElem?_append_right (Nat.le_refl _),Nat.sub_self];rfl) hq
  ·rcases last_at _ _ j z hz with⟨hz,hjl⟩ | ⟨ej,ez⟩
   ·rw[eu]at hq
    exact h.st ds0.length j x z q (by omega) (by rw[List.getElem?_append_right (Nat.le_refl _),Nat.sub_self];rfl) (by rw[List.getElem?_append_left hjl];exact hz) hq
   ·omega
theorem NG.uY {x:ah} {g c:Nat} {A':Option Addr} {c':Nat} {y:bf} (h:NG w lo (ds0++[x]) ls (.slice (some ⟨g,0,none⟩) (ds0++[x]).length c) L) (hy:y.ok)
  (hown:w'.ownsRow lo 66 3 (.slice A' (x.tn+1) c') (x.tn+1) (x.ts.flatMap bf.cells++y.cells)) (hg:w.grownBy w' (Value.slice x.tA x.tn x.tc).ownBlock) (hat:(Value.slice A' (x.tn+1) c').ownBlock =(Value.slice x.tA x.tn x.tc).ownBlock ∨(Value.slice A' (x.tn+1) c').ownBlock =some w.heap.size):
  NG (w'.setCell ⟨g,ds0.length*7+6,none⟩ (.slice A' (x.tn+1) c')) lo (ds0++[{ x with tA:=A',tn:=x.tn+1,tc:=c',ts:=x.ts++[y] }]) ls (.slice (some ⟨g,0,none⟩) (ds0++[x]).length c) L:=by
 have hxm:x∈ds0++[x]:=List.mem_append_right _ (List.mem_singleton.2 rfl)
 have hR:=(h.t x hxm).1
 have hd:=bV h.d hR (by decide) hg
 have hm:∀ {p:ah→Prop} {x':ah},(∀y∈ds0,p y)→p x'→∀y∈ds0++[x'],p y:=fun {p x'} h1 h2 y hy=>by
  rcases List.mem_append.1 hy with hy | hy
  ·exact h1 y hy
  ·simp at hy;subst hy;exact h2
 have h0:∀y∈ds0,y∈ds0++[x]:=fun y hy=>List.mem_append_left _ hy
 have hsep:∀y∈ds0,∀q,y.tA.map (·.block)=some q→(Value.slice x.tA x.tn x.tc).ownBlock ≠some q:=fun y hy q hq e=>by
  obtain⟨i,hi⟩:=List.mem_iff_getElem?.1 hy
  have hil:=(List.getElem?_eq_some_iff.1 hi).1
  exact h.st i ds0.length y x q (by omega) (by rw[List.getElem?_append_left hil];exact hi) (by rw[List.getElem?_append_right (Nat.le_refl _),Nat.sub_self];rfl) hq (jT.1 e)
 have hnew:∀y∈ds0,∀q,y.tA.map (·.block)=some q→A'.map (·.block)≠some q:=fun y hy q hq e=>by
  have e':(Value.slice A' (x.tn+1) c').ownBlock =some q:=jT.2 e
  rcases hat with a | a
  ·exact hsep y hy q hq (a▸e')
  ·rw[a]at e'
   have:=((h.t y (h0 y hy)).1.lt q (jT.2 hq)).2
   simp only[Option.some.injEq]at e'
   omega
 have he:(ds0++[x]).length =(ds0++[{ x with tA:=A',tn:=x.tn+1,tc:=c',ts:=x.ts++[y] }]).length :=by simp
 have hs:=hd.stored (ds0.length*7+6) (.slice A' (x.tn+1) c')
 rw[wU (x':={ x with tA:=A',tn:=x.tn+1,tc:=c',ts:=x.ts++[y] }) (by omega) rfl]at hs
 refine⟨by rw[← he];exact hs.1,gT (bV h.l hR (by decide) hg) hd (by decide) _ _,hm (fun z hz=>⟨gT (bV (h.b z (h0 z hz)).1 hR (by decide) hg) hd (by decide) _ _,(h.b z (h0 z hz)).2⟩) ⟨gT (bV (h.b x hxm).1 hR (by decide) hg) hd (by decide) _ _,(h.b x hxm).2⟩,
  hm (fun z hz=>⟨gT (bV (h.r z (h0 z hz)).1 hR (by decide) hg) hd (by decide) _ _,(h.r z (h0 z hz)).2⟩) ⟨gT (bV (h.r x hxm).1 hR (by decide) hg) hd (by decide) _ _,(h.r x hxm).2⟩,
  hm (fun z hz=>⟨gT (iC (h.t z (h0 z hz)).1 (fun q hq=>aY hg ((h.t z (h0 z hz)).1.lt q hq).2 (hsep z hz q (jT.1 hq)))) hd (by decide) _ _,(h.t z (h0 z hz)).2⟩) ⟨gT (by simpa using hown) hd (by decide) _ _,by simp[(h.t x hxm).2]⟩,
  hm (fun z hz=>h.ok z (h0 z hz)) ?_,h.rV,?_,?_⟩
 ·have hf:=h.ok x hxm
  exact⟨hf.nm,hf.kd,hf.ad,hf.pl,hf.bs,hf.rs,fun z hz=>by
   rcases List.mem_append.1 hz with hz | hz
   ·exact hf.ts z hz
   ·simp at hz;subst hz;exact hy⟩
 ·intro i j u z q hij hu hz hq
  rcases last_at _ _ i u hu with⟨hu,hil⟩ | ⟨ei,eu⟩
  ·rcases last_at _ _ j z hz with⟨hz,hjl⟩ | ⟨ej,ez⟩
   ·exact h.sr i j u z q hij (by rw[List.getElem?_append_left hil];exact hu) (by rw[List.getElem?_append_left hjl];exact hz) hq
   ·rw[ez]
    exact h.sr i ds0.length u x q (by omega) (by rw[List.getElem?_append_left hil];exact hu) (by rw[List.getElem?_append_right (Nat.le_refl _),Nat.sub_self];rfl) hq
  ·rcases last_at _ _ j z hz with⟨hz,hjl⟩ | ⟨ej,ez⟩
   ·rw[eu]at hq
    exact h.sr ds0.length j x z q (by omega) (by rw[List.getElem?_append_right (Nat.le_refl _),Nat.sub_self];rfl) (by rw[List.getElem?_append_left hjl];exact hz) hq
   ·omega
 ·intro i j u z q hij hu hz hq
  rcases last_at _ _ i u hu with⟨hu,hil⟩ | ⟨ei,eu⟩
  ·rcases last_at _ _ j z hz with⟨hz,hjl⟩ | ⟨ej,ez⟩
   ·exact h.st i j u z q hij (by rw[List.getElem?_append_left hil];exact hu) (by rw[List.getElem?_append_left hjl];exact hz) hq
   ·rw[ez];exact hnew u (List.mem_of_getElem? hu) q hq
  ·rcases last_at _ _ j z hz with⟨hz,hjl⟩ | ⟨ej,ez⟩
   ·rw[eu]at hq
    exact fun e=>hnew z (List.mem_of_getElem? hz) q e hq
   ·omega
theorem dY {w:World} {base e s n c:Nat} {A:Option Addr} {xs:List Value} (h:w.ownsRow base e s (.slice A n c) n xs):n≤c∧c≤maxLen:=by
 refine⟨?_,CU h⟩
 rcases h.2 with⟨h1,_⟩ | ⟨g,cap,cur,hv,_,hh,hnc,_⟩
 ·cases h1;exact Nat.le_refl _
 ·cases hv;exact hnc
theorem NG.tC {dA lA:Option Addr} {dc lc:Nat} (h:NG w lo ds ls (.slice dA ds.length dc) (.slice lA ls.length lc)):iW w w.heap.size ⟨dA,ds.length,dc,ds,lA,ls.length,lc,ls⟩:=by
 refine⟨iL ah.len h.d rfl,fun d hd=>?_,iL (fun _=>rfl) h.l rfl,h.rV,dY h.d,dY h.l⟩
 have hf:=h.ok d hd
 exact⟨hf.nm,hf.kd,hf.ad,hf.pl,uG (iL kI (h.b d hd).1 (h.b d hd).2) hf.bs,(iL bN.len (h.r d hd).1 (h.r d hd).2).rules hf.rs,iL bf.len (h.t d hd).1 (h.t d hd).2,hf.ts,dY (h.b d hd).1,dY (h.r d hd).1,dY (h.t d hd).1⟩
end
end Go.Proofs.YtifkacnoiocebaaDoor
namespace Go.Proofs.YtifkacnoiocebaaDoor
open Go.RowKit
theorem fK (x:List UInt8) (W:World):Calls Tryd.prog 60 #[.string ⟨x.toArray⟩] W fun e W'=>e= .returned (.tuple #[.int .i64 (aF x 100),.bool (decide (0≤aF x 100))])∧W=W':=by
 have HX:=hide (fun w=>nV x 100 w)
 obtain⟨A,hA⟩:∃A,aF x 100=A:=⟨_,rfl⟩
 rw[hA]at HX ⊢
 clear hA
 go_enter Tryd.func60,Tryd.ntmps60
 go_wp2_with fail
 refine(HX.out _).mono ?_
 rintro e w2 ⟨rfl,rfl⟩
 go_wp2
 go_ret2
 exact⟨rfl,rfl⟩
theorem tF {l:List UInt8} {x:List UInt8} (h:x∈pieces 44 l) (hx:¬ 0≤aF x 100):iy l=none:=by
 unfold iy
 rw[if_neg]
 intro hc
 rw[List.all_eq_true]at hc
 exact hx (by simpa using hc x h)
theorem tH {l:List UInt8} (h:∀x∈pieces 44 l,0≤aF x 100):iy l=some ((pieces 44 l).map fun x=>aF x 100):=by
 unfold iy
 rw[if_pos]
 rw[List.all_eq_true]
 intro x hx
 simpa using h x hx
theorem qg {α β:Type} (f:α→β) {l:List α} {k:Nat} {x:α} (h:l[k]?=some x):(l.take (k+1)).map f=(l.take k).map f++[f x]:=by
 rw[List.take_add_one,h];simp
theorem qG (l:List UInt8) (W:World) (hs:l.length≤5000) (hm:eP W):
  Calls Tryd.prog 64 #[.string ⟨l.toArray⟩] W fun e W'=>Below W.heap.size W W'∧((iy l=none∧e= .returned (.tuple #[.slice none 0 0,.bool false]))∨
   ∃xs v,iy l=some xs∧e= .returned (.tuple #[v,.bool true])∧W'.ownsRow W.heap.size 3 1 v xs.length (xs.flatMap jf)):=by
 obtain⟨i0,hi0,hz0,hz1,hz2⟩:=info_parts Tryd.infoInt
 have dR:=hide (mg l 44 W (by omega) hm)
 have bC:=hide (fun(k:Nat) (x:List UInt8) (h:(pieces 44 l)[k]?=some x) (hx:¬ 0≤aF x 100)=>tF (l:=l) (List.mem_of_getElem? h) hx)
 have gH:=hide (fun(os:List Int) (h:(pieces 44 l).map (fun x=>aF x 100)=os) (h2:∀x∈pieces 44 l,0≤aF x 100)=>show iy l=some os from by rw[tH h2,h])
 have hpl:=eO 44 l
 obtain⟨s,hss⟩:∃s:ByteArray,⟨l.toArray⟩=s:=⟨_,rfl⟩
 obtain⟨ps,hps⟩:∃ps,pieces 44 l=ps:=⟨_,rfl⟩
 obtain⟨n,hn⟩:∃n,ps.length=n:=⟨_,rfl⟩
 obtain⟨r,hr⟩:∃r,iy l=r:=⟨_,rfl⟩
 rw[hss]at dR
 rw[hss]
 rw[hr]at bC gH ⊢
 rw[hps]at dR bC gH hpl
 rw[hn]at dR hpl
 have HN:=hide hn
 have iM:n≤5001:=by omega
 clear hss hps hr hpl hn hm hs
 go_enter Tryd.func64,Tryd.ntmps64
 go_wp2_with fail
 refine dR.out.mono ?_
 rintro e w1 ⟨rfl,hst,hb1⟩
 obtain⟨N,hN⟩:∃N,W.heap.size=N:=⟨_,rfl⟩
 rw[hN]at hst hb1 ⊢
 have HST:=hide hst
 have HB1:=hide hb1
 have Cu:N<w1.heap.size:=hst.lt.2
 have qD:=hN
 clear hst hb1 dR
 go_wp2_with fail
 go_loopw [4,12] (fun v i wr=>∃(k:Nat) (os:List Int),k≤n∧i= .int .i64 (k:Int)∧Hid ((ps.take k).map (fun x=>aF x 100)=os)∧Hid (∀x∈ps.take k,0≤aF x 100)∧os.length=k∧Hid (wr.ownsRow (N+1) 3 1 v os.length (os.flatMap jf))∧Hid (Below (N+1) w1 wr)) (fun _ i _=>n - (intOf i).toNat)
 case atStart=>exact⟨0,[],by omega,rfl,hide rfl,hide (fun x hx=>by simp at hx),rfl,hide (World.ownsRow_nil _ _ _ _),hide (Below.refl _ _)⟩
 case round=>
  obtain⟨k,os,hk,rfl,HR,HG,hol,HO,aV⟩:=hrel
  by_cases hlt:k<n
  case pos=>
   have uI:(k:Int)<(n:Int):=by omega
   obtain⟨x,hx⟩:∃x,ps[k]?=some x:=⟨ps[k]'(by rw[HN.out];exact hlt),List.getElem?_eq_getElem _⟩
   have q0:wr.cell? ⟨N,k,none⟩=some (.string ⟨x.toArray⟩):=(aV.out.cell (p:=⟨N,k,none⟩) (Nat.lt_succ_self _)).trans (HST.out.get hx)
   have iI:=hide (fun w=>fK x w)
   have HR2:=hide (show(ps.take (k+1)).map (fun x=>aF x 100)=os++[aF x 100]from by rw[qg _ hx,HR.out])
   have pY:=hide (bC.out k x hx)
   have HG2:=hide (fun(h:0≤aF x 100)=>show∀y∈ps.take (k+1),0≤aF y 100 from by
    intro y hy
    rw[List.take_add_one,hx]at hy
    rcases List.mem_append.1 hy with hy | hy
    ·exact HG.out y hy
    ·simp at hy;subst hy;exact h)
   obtain⟨A,hA⟩:∃A,aF x 100=A:=⟨_,rfl⟩
   rw[hA]at iI HR2 pY HG2
   clear hx HR HG hA
   by_cases hA:0≤A
   case neg=>
    have d1:decide (0≤A)=false:=decide_eq_false hA
    have HF:=hide (pY.out (by omega))
    clear pY bC gH HG2 HR2
    go_wp2_with ((go_at_call_of 60 (Value.string ⟨x.toArray⟩));refine(iI.out _).mono ?_;rintro e w2 ⟨rfl,rfl⟩)
    go_ret2
    exact⟨by rw[qD];exact HB1.out.trans (aV.out.mono (by omega)),.inl ⟨HF.out,rfl⟩⟩
   case pos=>
    have d1:decide (0≤A)=true:=decide_eq_true hA
    have zk:=hide (HG2.out hA)
    have hwz:N+1≤wr.heap.size:=by have:=aV.out.size;omega
    have kF:=hide (show Reads (wr.alloc (.cells #[.int .i64 A] 3)) (wr.heap.size+1) 1 (some ⟨wr.heap.size,0,none⟩) 1 [.int .i64 A]from
     ⟨rfl,fun _=>⟨_,rfl,Nat.lt_succ_self _,fun j u hu=>by
      rw[addr_add,Nat.zero_add,cell_of_row _ _ _ _ _ _ (heap_alloc_new wr _)]
      simpa using hu⟩⟩)
    have uT:=hide (HO.out.alloc (.cells #[.int .i64 A] 3))
    have aK:=hide (aV.out.alloc hwz (.cells #[.int .i64 A] 3))
    clear pY HG2 HO aV
    go_wp2_with (first | ((go_at_call_of 60 (Value.string ⟨x.toArray⟩));refine(iI.out _).mono ?_;rintro e w2 ⟨rfl,rfl⟩) | (at_builtin;refine dS _ rfl (.tmp 23) (.tmp 25) 33 rfl (N+1) 3 i0 _ 1 8 Tryd.underlying33 hi0 hz0 hz1 hz2 rfl (by omega) _ os.length (os.flatMap jf) rfl uT.out (wr.heap.size+1) (some ⟨wr.heap.size,0,none⟩) 1 1 [.int .i64 A] rfl kF.out (by intro u hu;simp at hu;subst hu;rfl) (by simp only[maxLen];omega) (by omega) (by simp;omega) ?_;intro v5 w5 hown5 hg5 lI;have lU:=hide hown5;have bK:=hide (aK.out.grown hg5 (by simp;omega) (fun q hq=>(uT.out.lt q hq).1));clear hown5 hg5 lI))
    go_roundw
    case rel=>exact⟨k+1,os++[A],by omega,by go_num,HR2,zk,by simp;omega,hide (by simpa[jf]using lU.out),bK⟩
    case measure=>simp[intOf];omega
  case neg=>
   obtain rfl:k=n:=by omega
   have htk:ps.take k=ps:=List.take_of_length_le (by have:=HN.out;omega)
   have HF:=hide (show r=some os from gH.out os (by rw[← HR.out,htk]) (by have:=HG.out;rwa [htk]at this))
   clear HR HG bC gH hlt htk
   go_wp2
   go_ret2
   exact⟨by rw[qD];exact HB1.out.trans (aV.out.mono (by omega)),.inr ⟨os,_,HF.out,rfl,by rw[qD];exact Joins.ownsRow_le HO.out (by omega)⟩⟩
theorem zl (s k:Nat) (hs:s<256) (hk:k<8):Go.bits .or .u8 (s:Int) (IntKind.u8.wrap (2 ^ k))=((s ||| 2 ^ k:Nat):Int):=by
 have h2:(2:Nat) ^ k<256:=Nat.pow_lt_pow_right (by omega) hk
 have e:IntKind.u8.wrap ((2:Int) ^ k)=((2 ^ k:Nat):Int):=by
  have:∀i:Fin 8,IntKind.u8.wrap ((2:Int) ^ i.val)=((2 ^ i.val:Nat):Int):=by decide+kernel
  exact this ⟨k,hk⟩
 rw[e];exact u8_or s (2 ^ k) hs h2
theorem Am (s k:Nat) (hs:s<256) (hk:k<8):s ||| 2 ^ k<256:=Nat.or_lt_two_pow (n:=8) hs (Nat.pow_lt_pow_right (by omega) hk)
def zF (nm kd ad:Value) (p:Nat) (bv rv tv:Value):Array Value:=#[nm,kd,ad,.int .u8 (p:Int),bv,rv,tv]
theorem tJ (p:Nat) (n:Nat) (t:List Int) (h:n<8):jC p ((n:Int)::t)=if p.testBit n=true then none else jC (p ||| 2 ^ n) t:=by
 simp only[jC,Int.toNat_natCast]
 by_cases hb:p.testBit n=true
 ·rw[if_pos (Or.inr hb),if_pos hb]
 ·rw[if_neg (by intro hc;rcases hc with hc | hc;omega;exact hb hc),if_neg hb]
theorem yF (D:Nat) (nm kd ad bv rv tv:Value) (p0:Nat) (A:Option Addr) (n c:Nat) (l:List Int) (W:World) (hD:Bx W D (zF nm kd ad p0 bv rv tv) 37) (hp:p0<256) (hl:jg W W.heap.size A n l) (hA:∀a,A=some a→a.block≠D) (h0:∀x∈l,0≤x) (hn:n≤100000):
  Calls Tryd.prog 65 #[.pointer (some ⟨D,0,none⟩),.slice A n c] W fun e W'=>Below D W W'∧((jC p0 l=none∧e= .returned (.bool false)∧∃p,p<256∧Bx W' D (zF nm kd ad p bv rv tv) 37)∨∃p,jC p0 l=some p∧p<256∧e= .returned (.bool true)∧Bx W' D (zF nm kd ad p bv rv tv) 37):=by
 have HL:=hide hl
 have HA:=hide hA
 have H0:=hide h0
 have hDl:=hD.lt
 have hln:=hl.1
 obtain⟨r,hr⟩:∃r,jC p0 l=r:=⟨_,rfl⟩
 have Ao:=hide hr
 rw[hr]
 have HD:=hide hD
 clear hl hA h0 hD hr
 go_enter Tryd.func65,Tryd.ntmps65
 go_wp2_with fail
 go_loopw [9] (fun i wr=>∃(k p:Nat),k≤n∧i= .int .i64 (k:Int)∧p<256∧Hid (jC p (l.drop k)=r)∧Hid (Bx wr D (zF nm kd ad p bv rv tv) 37)∧Hid (∀q,q≠D→wr.heap[q]?=W.heap[q]?)∧Hid (Below D W wr)) (fun i _=>n - (intOf i).toNat)
 case atStart=>exact⟨0,p0,by omega,rfl,hp,hide (by simpa using Ao.out),HD,hide (fun q _=>rfl),hide (Below.refl _ _)⟩
 case round=>
  obtain⟨k,p,hk,rfl,hp,HR,HX,HS,HB⟩:=hrel
  by_cases hlt:k<n
  case pos=>
   have uI:(k:Int)<(n:Int):=by omega
   obtain⟨x,hx⟩:∃x,l[k]?=some x:=⟨l[k]'(by omega),List.getElem?_eq_getElem _⟩
   have hx0:=H0.out x (List.mem_of_getElem? hx)
   obtain⟨b,o,hA1,hbl,hg⟩:=HL.out.2.2 (by omega)
   have q0:wr.cell? ⟨b,o+k,none⟩=some (.int .i64 x):=(World.cell?_of_block (a:=⟨b,o+k,none⟩) (HS.out b (HA.out ⟨b,o,none⟩ hA1))).trans (hg k x hx)
   subst hA1
   obtain⟨m,rfl⟩:∃m:Nat,x=m:=⟨x.toNat,by omega⟩
   have hdr:l.drop k=(m:Int)::l.drop (k+1):=by
    rw[List.drop_eq_getElem_cons (by omega)]
    have:=(List.getElem?_eq_some_iff.1 hx).2
    rw[this]
   rw[hdr]at HR
   clear hx hdr hg
   have x3:wr.cell? ⟨D,3,none⟩=some (.int .u8 (p:Int)):=HX.out.get 3 _ rfl
   have f3:wr.frozen? ⟨D,3,none⟩=false:=HX.out.frozen 3
   by_cases h8:m<8
   case neg=>
    have d1:decide ((8:Int)≤(m:Int))=true:=decide_eq_true (by omega)
    have HF:=hide (show r=none from by rw[← HR.out];unfold jC;rw[if_pos (Or.inl (by omega))])
    clear HR Ao
    go_wp2_with fail
    go_ret
    exact⟨HB.out,.inl ⟨HF.out,rfl,p,hp,HX.out⟩⟩
   case pos=>
   have d1:decide ((8:Int)≤(m:Int))=false:=decide_eq_false (by omega)
   have e1:=Dh p m hp
   rw[tJ p m _ h8]at HR
   cases hb:p.testBit m with
   |true=>
    rw[hb]at e1 HR
    have HF:=hide (show r=none from by rw[← HR.out];rfl)
    clear HR Ao
    go_wp2_with fail
    go_ret
    exact⟨HB.out,.inl ⟨HF.out,rfl,p,hp,HX.out⟩⟩
   |false=>
    rw[hb]at e1 HR
    have HF:=hide (show jC (p ||| 2 ^ m) (l.drop (k+1))=r from by rw[← HR.out];rfl)
    have HO:=hide (zl p m hp h8)
    have hor:=HO.out
    have hpl:=Am p m hp h8
    clear HR Ao
    go_wp2_with fail
    go_region
    all_goals
     go_wp2_with fail
     go_roundw
     case rel=>exact⟨k+1,p ||| 2 ^ m,by omega,by go_num,hpl,HF,hide (by
      show Bx (World.drew (wr.setCell ⟨D,3,none⟩ (.int .u8 (Go.bits .or .u8 (p:Int) (IntKind.u8.wrap (2 ^ m)))))) D _ _
      rw[HO.out]
      exact HX.out.set 3 _),hide (fun q hq=>(RowKit.Below.heap_setCell _ _ _ _ hq).trans (HS.out q hq)),hide ((HB.out.setCell (p:=⟨D,3,none⟩) (Nat.le_refl D) _).drew)⟩
     case measure=>simp[intOf];omega
  case neg=>
   obtain rfl:k=n:=by omega
   have HF:=hide (show r=some p from by rw[← HR.out,List.drop_eq_nil_of_le (by omega)];rfl)
   clear HR Ao
   go_wp2_with fail
   go_ret
   exact⟨HB.out,.inr ⟨p,HF.out,hp,rfl,HX.out⟩⟩
theorem uZ (R:Nat) (b:Bool) (A:Option Addr) (n c:Nat) (L:Value) (W:World) (hR:Bx W R #[.slice A n c,L,.bool b] 41) (h:n=0∨b=true) (hn:n≤100000):
  Calls Tryd.prog 57 #[.pointer (some ⟨R,0,none⟩)] W fun e W'=>e= .returned (.pointer none)∧W=W':=by
 have x0:W.cell? ⟨R,0,none⟩=some (.slice A n c):=hR.get 0 _ rfl
 have x2:W.cell? ⟨R,2,none⟩=some (.bool b):=hR.get 2 _ rfl
 clear hR
 go_enter Tryd.func57,Tryd.ntmps57
 by_cases h0:n=0
 ·subst h0
  go_wp2_with fail
  go_ret
  exact⟨rfl,rfl⟩
 ·obtain rfl:b=true:=by rcases h with h | h;exact absurd h h0;exact h
  have d0:((n:Int)==0)=false:=by simp;omega
  go_wp2_with fail
  go_ret
  exact⟨rfl,rfl⟩
theorem u7 (R g:Nat) (n c:Nat) (L:Value) (W:World) (hR:Bx W R #[.slice (some ⟨g,0,none⟩) (n+1) c,L,.bool false] 41) (hn:n≤100000):
  Calls Tryd.prog 57 #[.pointer (some ⟨R,0,none⟩)] W fun e W'=>e= .returned (.pointer (some ⟨g,n*7,none⟩))∧Below W.heap.size W W':=by
 have HR:=hide (fun(w':World) (hb:Below W.heap.size W w')=>show w'.cell? ⟨R,0,none⟩=some (.slice (some ⟨g,0,none⟩) (n+1) c)∧w'.cell? ⟨R,2,none⟩=some (.bool false)from⟨(hR.below hb).get 0 _ rfl,(hR.below hb).get 2 _ rfl⟩)
 obtain⟨x0,x2⟩:=HR.out W (Below.refl _ _)
 clear hR
 have d0:(((n:Int)+1)==0)=false:=by simp;omega
 have d1:((((n+1:Nat):Int))==0)=false:=by simp;omega
 have e1:((n:Int)+1 - 1)=(n:Int):=by omega
 have e2:(((n+1:Nat):Int) - 1)=(n:Int):=by omega
 go_enter Tryd.func57,Tryd.ntmps57
 go_wp2_with fail
 go_quiet (fail)
 go_wp2_with fail
 go_ret
 exact⟨by simp,aP _ _ _⟩
end Go.Proofs.YtifkacnoiocebaaDoor
