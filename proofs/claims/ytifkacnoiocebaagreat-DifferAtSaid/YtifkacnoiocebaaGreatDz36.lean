/- A part of the proof: Sp16. -/
import Derived.Test.YtifkacnoiocebaaGreatDz29
set_option linter.unusedVariables false
set_option linter.unusedSimpArgs false
set_option maxRecDepth 100000
namespace Go.Proofs.YtifkacnoiocebaaGreat
open Go.Maps Go.RowKit Go.WideElems
def PD (ds:List Dev) (I K:Nat) (x:aB):Prop:=∃(i k:Nat) (d:Dev),x=((i:Int),(k:Int))∧ds[i]?=some d∧(k:Int)<aN d.kind∧(i<I∨(i=I∧k<K))
def Wq:List Pl:=(List.range 11).flatMap fun(i:Nat)=>(List.range 4).map fun(k:Nat)=>((i:Int),(k:Int))
theorem Xx:Wq.length=44:=by decide+kernel
theorem PD.mem {ds:List Dev} {I K:Nat} {x:aB} (h:PD ds I K x) (hl:ds.length≤10):x∈Wq:=by
 obtain⟨i,k,d,rfl,h1,h2,_⟩:=h
 have:=(List.getElem?_eq_some_iff.1 h1).1
 have:=pO d.kind
 unfold Wq
 rw[List.mem_flatMap]
 exact⟨i,List.mem_range.2 (by omega),List.mem_map.2 ⟨k,List.mem_range.2 (by omega),rfl⟩⟩
theorem PD.dom {ds:List Dev} {I K:Nat} {x:aB} (h:PD ds I K x) (hl:ds.length≤10):aO x.1∧aO x.2:=by
 obtain⟨i,k,d,rfl,h1,h2,_⟩:=h
 have:=(List.getElem?_eq_some_iff.1 h1).1
 have:=pO d.kind
 unfold aO
 simp only
 omega
theorem PD.zero {ds:List Dev} (x:aB):¬PD ds 0 0 x:=fun⟨i,k,d,_,_,_,h⟩=>by omega
theorem PD.row {ds:List Dev} {I:Nat} {d:Dev} (hd:ds[I]?=some d) {P:Nat} (hP:(P:Int)=aN d.kind) (x:aB):PD ds I P x↔PD ds (I+1) 0 x:=by
 constructor
 ·rintro⟨i,k,e,h1,h2,h3,h4⟩
  exact⟨i,k,e,h1,h2,h3,by omega⟩
 ·rintro⟨i,k,e,h1,h2,h3,h4⟩
  refine⟨i,k,e,h1,h2,h3,?_⟩
  rcases Nat.lt_or_ge i I with hl | hl
  ·exact .inl hl
  ·obtain rfl:i=I:=by omega
   obtain rfl:d=e:=Option.some.inj (hd.symm.trans h2)
   exact .inr ⟨rfl,by omega⟩
theorem PD.step {ds:List Dev} {I K:Nat} {d:Dev} (hd:ds[I]?=some d) (hK:(K:Int)<aN d.kind) (x:aB):PD ds I (K+1) x↔(PD ds I K x∨x=((I:Int),(K:Int))):=by
 constructor
 ·rintro⟨i,k,e,h1,h2,h3,h4⟩
  by_cases h:i=I∧k=K
  ·exact .inr (by rw[h1,h.1,h.2])
  ·exact .inl ⟨i,k,e,h1,h2,h3,by omega⟩
 ·rintro(⟨i,k,e,h1,h2,h3,h4⟩ | rfl)
  ·exact⟨i,k,e,h1,h2,h3,by omega⟩
  ·exact⟨I,K,d,rfl,hd,hK,by omega⟩
theorem PD.not {ds:List Dev} {I K:Nat} :¬PD ds I K ((I:Int),(K:Int)):=by
 rintro⟨i,k,e,h1,h2,h3,h4⟩
 have e1:(I:Int)=i:=congrArg Prod.fst h1
 have e2:(K:Int)=k:=congrArg Prod.snd h1
 omega
theorem PD.all {ds:List Dev} {i p:Nat} {d:Dev} (hd:ds[i]?=some d) (hp:(p:Int)<aN d.kind):PD ds ds.length 0 ((i:Int),(p:Int)):=
 ⟨i,p,d,rfl,hd,hp,.inl (List.getElem?_eq_some_iff.1 hd).1⟩
theorem PD.place {ds:List Dev} {x:aB} :PD ds ds.length 0 x↔dI ds x=true:=by
 rw[lQ]
 constructor
 ·rintro⟨i,k,d,rfl,h1,h2,h3⟩
  have h4:lK ds (i:Int)=d.kind:=by unfold lK;simp[h1]
  simp only
  rw[h4]
  omega
 ·rintro⟨⟨h1,h2⟩,h3,h4⟩
  obtain⟨x1,x2⟩:=x
  simp only at*
  obtain⟨i,rfl⟩:∃i:Nat,x1=(i:Int):=⟨x1.toNat,by omega⟩
  obtain⟨k,rfl⟩:∃k:Nat,x2=(k:Int):=⟨x2.toNat,by omega⟩
  obtain⟨d,hd⟩:∃d,ds[i]?=some d:=⟨_,List.getElem?_eq_getElem (by omega)⟩
  have h5:lK ds (i:Int)=d.kind:=by unfold lK;simp[hd]
  rw[h5]at h4
  exact⟨i,k,d,rfl,hd,h4,by omega⟩
theorem gV.BU {w:World} {s mb:Nat} {rd:Int} {D:aB→Prop} {blk:aB→Nat} {T T':aB→Nat→Int} {M:aB→Option Value} (h:gV w s mb rd D blk T M) (e:∀x c,D x→c<16384→T x c=T' x c):gV w s mb rd D blk T' M:=
 ⟨h.c0,h.c1,h.mp,h.val,h.no,fun x hx c hc=>by rw[← e x c hx hc];exact h.tab x hx c hc,h.inj,h.ne,h.Fu⟩
theorem gV.Fz {w:World} {s mb:Nat} {rd:Int} {D D':aB→Prop} {blk:aB→Nat} {T:aB→Nat→Int} {M:aB→Option Value} (h:gV w s mb rd D blk T M) (e:∀x,D x↔D' x):gV w s mb rd D' blk T M:=
 ⟨h.c0,h.c1,h.mp,fun x hx=>h.val x ((e x).2 hx),fun x hx=>h.no x (fun q=>hx ((e x).1 q)),fun x hx=>h.tab x ((e x).2 hx),fun x y hx hy=>h.inj x y ((e x).2 hx) ((e y).2 hy),fun x hx=>h.ne x ((e x).2 hx),h.Fu⟩
structure eZ (B nA pS s mb:Nat) (n:aC) (D:aB→Prop) (blk:aB→Nat) (M:aB→Option Value) (T:aB→Nat→Int) (w:World):Prop where
 sz:B≤w.heap.size
 net:bq w B n
 nb:dO w nA #[.slice n.dA n.dn n.dc,.slice n.lA n.ln n.lc]
 sp:dO w pS #[.pointer (some ⟨s,0,none⟩)]
 st:gV w s mb 0 D blk T M
 fr:∀x,D x→∀o,w.frozen? ⟨blk x,o,none⟩=false
 fs:w.frozen? ⟨s,0,none⟩=false
 fix:∀b,b=nA∨b=pS∨b=s∨b=mb→B≤b∧b<w.heap.size∧∀x,D x→b≠blk x
 tb:∀x,D x→B≤blk x∧blk x<w.heap.size
 ap:nA≠s∧pS≠s∧nA≠mb∧pS≠mb
section
variable {B nA pS s mb:Nat} {n:aC} {D D':aB→Prop} {blk:aB→Nat} {M:aB→Option Value} {T T':aB→Nat→Int} {w w':World}
theorem eZ.below (h:eZ B nA pS s mb n D blk M T w) (hb:RowKit.Below w.heap.size w w'):eZ B nA pS s mb n D blk M T w':=by
 have hs:∀b,b=nA∨b=pS∨b=s∨b=mb→w'.heap[b]?=w.heap[b]?:=fun b hh=>hb.block b (h.fix b hh).2.1
 have hc:∀x,D x→w'.heap[blk x]?=w.heap[blk x]?:=fun x hx=>hb.block _ (h.tb x hx).2
 refine⟨Nat.le_trans h.sz hb.size,h.net.below (hb.mono h.sz) (Nat.le_refl _),h.nb.same (hs _ (.inl rfl)),h.sp.same (hs _ (.inr (.inl rfl))),h.st.same ?_,fun x hx o=>(World.frozen?_of_block (a:=⟨blk x,o,none⟩) (hc x hx)).trans (h.fr x hx o),(World.frozen?_of_block (a:=⟨s,0,none⟩) (hs s (.inr (.inr (.inl rfl))))).trans h.fs,
  fun b hh=>⟨(h.fix b hh).1,Nat.lt_of_lt_of_le (h.fix b hh).2.1 hb.size,(h.fix b hh).2.2⟩,fun x hx=>⟨(h.tb x hx).1,Nat.lt_of_lt_of_le (h.tb x hx).2 hb.size⟩,h.ap⟩
 rintro b (rfl | rfl | ⟨x,hx,rfl⟩)
 ·exact hs _ (.inr (.inr (.inl rfl)))
 ·exact hs _ (.inr (.inr (.inr rfl)))
 ·exact hc x hx
theorem eZ.BU (h:eZ B nA pS s mb n D blk M T w) (e:∀x c,D x→c<16384→T x c=T' x c):eZ B nA pS s mb n D blk M T' w:=
 ⟨h.sz,h.net,h.nb,h.sp,h.st.BU e,h.fr,h.fs,h.fix,h.tb,h.ap⟩
theorem eZ.Fz (h:eZ B nA pS s mb n D blk M T w) (e:∀x,D x↔D' x):eZ B nA pS s mb n D' blk M T w:=
 ⟨h.sz,h.net,h.nb,h.sp,h.st.Fz e,fun x hx=>h.fr x ((e x).2 hx),h.fs,fun b hh=>⟨(h.fix b hh).1,(h.fix b hh).2.1,fun x hx=>(h.fix b hh).2.2 x ((e x).2 hx)⟩,fun x hx=>h.tb x ((e x).2 hx),h.ap⟩
theorem eZ.put (h:eZ B nA pS s mb n D blk M T w) {x:aB} (hx:D x) (c:Nat) (hc:c<16384) (v:Int):eZ B nA pS s mb n D blk M (og T x c v) (w.setCell ⟨blk x,c,none⟩ (.int .i64 v)):=by
 have hB:=(h.tb x hx).1
 have ho:∀b,b≠blk x→(w.setCell ⟨blk x,c,none⟩ (.int .i64 v)).heap[b]?=w.heap[b]?:=fun b hb=>RowKit.Below.heap_setCell w _ _ b hb
 have hs:∀b,b=nA∨b=pS∨b=s∨b=mb→(w.setCell ⟨blk x,c,none⟩ (.int .i64 v)).heap[b]?=w.heap[b]?:=fun b hh=>ho b ((h.fix b hh).2.2 x hx)
 have hb:RowKit.Below B w (w.setCell ⟨blk x,c,none⟩ (.int .i64 v)):=(RowKit.Below.refl _ _).setCell hB _
 have e1:=hs s (.inr (.inr (.inl rfl)))
 have g:∀o,World.cell? (w.setCell ⟨blk x,c,none⟩ (.int .i64 v)) ⟨s,o,none⟩=w.cell? ⟨s,o,none⟩:=fun o=>World.cell?_of_block (a:=⟨s,o,none⟩) e1
 refine⟨by rw[size_setCell];exact h.sz,h.net.below hb (Nat.le_refl _),h.nb.same (hs _ (.inl rfl)),h.sp.same (hs _ (.inr (.inl rfl))),?_,fun y hy o=>by rw[World.frozen?_setCell];exact h.fr y hy o,by rw[World.frozen?_setCell];exact h.fs,
  fun b hh=>by rw[size_setCell];exact h.fix b hh,fun y hy=>by rw[size_setCell];exact h.tb y hy,h.ap⟩
 refine⟨by rw[g];exact h.st.c0,by rw[g];exact h.st.c1,h.st.mp.same (hs mb (.inr (.inr (.inr rfl)))),h.st.val,h.st.no,?_,h.st.inj,h.st.ne,h.st.Fu⟩
 intro y hy d hd
 by_cases e:y=x
 ·subst e
  by_cases ed:d=c
  ·subst ed
   rw[World.cell?_setCell_same _ _ _ (h.st.tab y hy d hd)]
   simp[og]
  ·rw[World.cell?_setCell_other _ _ _ _ (by first | (simp;done) | (simp;omega) | (intro e;cases e;exact ed rfl))]
   rw[h.st.tab y hy d hd]
   simp[og,ed]
 ·rw[World.cell?_setCell_other _ _ _ _ (by simp;intro h1;exact absurd (h.st.inj _ _ hx hy h1).symm e)]
  rw[h.st.tab y hy d hd]
  simp[og,e]
theorem eZ.add (h:eZ B nA pS s mb n D blk M T w) {x:aB} (hx:¬D x) {b:Nat} (hb1:b<w.heap.size) (hB:B≤b) (hnew:(∀y,D y→b≠blk y)∧b≠nA∧b≠pS∧b≠s∧b≠mb) (ht:BO w b (T x)) (hf:∀o,w.frozen? ⟨b,o,none⟩=false)
  (hm:aV Tryz.prog 27 eG eU w' mb (mI M x (Kq b))) (hg:w.mapTurned w' mb):
  eZ B nA pS s mb n (fun y=>D y∨y=x) (fun y=>if y=x then b else blk y) (mI M x (Kq b)) T w':=by
 have hh:=hg.grown
 have hk:∀c,c<w.heap.size→c≠mb→w'.heap[c]?=w.heap[c]?:=fun c hc hn=>hh.block c hc (fun e=>by cases e;exact hn rfl)
 have hbelow:RowKit.Below B w w':=⟨hh.os,hh.tape,hh.output,hh.size,fun c hc=>hk c (Nat.lt_of_lt_of_le hc h.sz) (by have:=(h.fix mb (.inr (.inr (.inr rfl)))).1;omega)⟩
 have k1:=hk nA (h.fix nA (.inl rfl)).2.1 h.ap.2.2.1
 have k2:=hk pS (h.fix pS (.inr (.inl rfl))).2.1 h.ap.2.2.2
 have k3:=hk s (h.fix s (.inr (.inr (.inl rfl)))).2.1 h.st.Fu
 have kt:∀y,D y→w'.heap[blk y]?=w.heap[blk y]?:=fun y hy=>hk _ (h.tb y hy).2 (Ne.symm ((h.fix mb (.inr (.inr (.inr rfl)))).2.2 y hy))
 have kb:=hk b hb1 hnew.2.2.2.2
 have hne:∀y,D y→y≠x:=fun y hy e=>hx (e▸hy)
 refine⟨Nat.le_trans h.sz hh.size,h.net.below hbelow (Nat.le_refl _),h.nb.same k1,h.sp.same k2,?_,?_,(World.frozen?_of_block (a:=⟨s,0,none⟩) k3).trans h.fs,?_,?_,h.ap⟩
 ·refine⟨(World.cell?_of_block (a:=⟨s,0,none⟩) k3).trans h.st.c0,(World.cell?_of_block (a:=⟨s,1,none⟩) k3).trans h.st.c1,hm,?_,?_,?_,?_,?_,h.st.Fu⟩
  ·rintro y (hy | rfl)
   ·rw[jc M _ (hne y hy),if_neg (hne y hy)];exact h.st.val y hy
   ·rw[lG,if_pos rfl]
  ·intro y hy
   have h1:¬D y∧y≠x:=⟨fun q=>hy (.inl q),fun q=>hy (.inr q)⟩
   rw[jc M _ h1.2];exact h.st.no y h1.1
  ·rintro y (hy | rfl) c hc
   ·rw[if_neg (hne y hy),World.cell?_of_block (a:=⟨blk y,c,none⟩) (kt y hy)];exact h.st.tab y hy c hc
   ·rw[if_pos rfl,World.cell?_of_block (a:=⟨b,c,none⟩) kb];exact ht c hc
  ·rintro y z (hy | rfl) (hz | rfl) e
   ·rw[if_neg (hne y hy),if_neg (hne z hz)]at e;exact h.st.inj y z hy hz e
   ·rw[if_neg (hne y hy),if_pos rfl]at e;exact absurd e.symm (hnew.1 y hy)
   ·rw[if_pos rfl,if_neg (hne z hz)]at e;exact absurd e (hnew.1 z hz)
   ·rfl
  ·rintro y (hy | rfl)
   ·rw[if_neg (hne y hy)];exact h.st.ne y hy
   ·rw[if_pos rfl];exact⟨hnew.2.2.2.1,hnew.2.2.2.2⟩
 ·rintro y (hy | rfl) o
  ·rw[if_neg (hne y hy)];exact(World.frozen?_of_block (a:=⟨blk y,o,none⟩) (kt y hy)).trans (h.fr y hy o)
  ·rw[if_pos rfl];exact(World.frozen?_of_block (a:=⟨b,o,none⟩) kb).trans (hf o)
 ·intro c hc
  refine⟨(h.fix c hc).1,Nat.lt_of_lt_of_le (h.fix c hc).2.1 hh.size,?_⟩
  rintro y (hy | rfl)
  ·rw[if_neg (hne y hy)];exact(h.fix c hc).2.2 y hy
  ·rw[if_pos rfl]
   rcases hc with rfl | rfl | rfl | rfl
   ·exact Ne.symm hnew.2.1
   ·exact Ne.symm hnew.2.2.1
   ·exact Ne.symm hnew.2.2.2.1
   ·exact Ne.symm hnew.2.2.2.2
 ·rintro y (hy | rfl)
  ·rw[if_neg (hne y hy)];exact⟨(h.tb y hy).1,Nat.lt_of_lt_of_le (h.tb y hy).2 hh.size⟩
  ·rw[if_pos rfl];exact⟨hB,Nat.lt_of_lt_of_le hb1 hh.size⟩
def Ws (B N nA pS kA mA s mb:Nat) (n:aC) (k:Nat) (D:aB→Prop) (blk:aB→Nat) (M:aB→Option Value):SE:=⟨B,N,nA,pS,kA,mA,s,mb,n,k,D,blk,M⟩
theorem eZ.ok (h:eZ B nA pS s mb n D blk M T w) {kA mA k:Nat} (hk:B≤kA∧kA<w.heap.size∧kA≠mA∧∀x,D x→kA≠blk x) (hm:B≤mA∧mA<w.heap.size∧(∀x,D x→mA≠blk x)∧mA≠nA∧mA≠pS∧mA≠s∧mA≠mb)
  (ln:n.ls.length≤15) (peer:∀x y,aD n.ls x=some y→D y) (dom:∀x,D x→aO x.1∧aO x.2) (kb:k≤1000000000):(Ws B w.heap.size nA pS kA mA s mb n k D blk M).Ok :=by
 refine⟨?_,?_,fun x hx=>Ne.symm (hm.2.2.1 x hx),ln,peer,dom,kb,h.sz⟩
 ·intro b hb
  show B≤b∧b<w.heap.size∧¬(b=mA∨∃x,D x∧b=blk x)
  have key:b=nA∨b=pS∨b=s∨b=mb→B≤b∧b<w.heap.size∧¬(b=mA∨∃x,D x∧b=blk x):=fun hb=>by
   refine⟨(h.fix b hb).1,(h.fix b hb).2.1,?_⟩
   rintro(e0 | ⟨x,hx,e0⟩)
   ·rcases hb with e | e | e | e
    ·exact hm.2.2.2.1 (e0.symm.trans e)
    ·exact hm.2.2.2.2.1 (e0.symm.trans e)
    ·exact hm.2.2.2.2.2.1 (e0.symm.trans e)
    ·exact hm.2.2.2.2.2.2 (e0.symm.trans e)
   ·exact(h.fix _ hb).2.2 x hx e0
  rcases hb with e | e | e | e | e
  ·exact key (.inl e)
  ·exact key (.inr (.inl e))
  ·have e':b=kA:=e
   subst e'
   refine⟨hk.1,hk.2.1,?_⟩
   rintro(e | ⟨x,hx,e⟩)
   ·exact hk.2.2.1 e
   ·exact hk.2.2.2 x hx e
  ·exact key (.inr (.inr (.inl e)))
  ·exact key (.inr (.inr (.inr e)))
 ·rintro b (e | ⟨x,hx,e⟩)
  ·have e':b=mA:=e
   rw[e']
   exact⟨hm.1,hm.2.1⟩
  ·have e':b=blk x:=e
   rw[e']
   exact h.tb x hx
theorem eZ.pst (h:eZ B nA pS s mb n D blk M T w) {kA mA k:Nat} (hk:dO w kA #[.int .i64 (k:Int)]) {more:Bool} (hm:dO w mA #[.bool more]):rF (Ws B w.heap.size nA pS kA mA s mb n k D blk M) w T more:=
 ⟨Nat.le_refl _,h.net,h.nb,h.sp,hk,hm,h.st,h.fr⟩
theorem rF.bst {kA mA k N:Nat} {more:Bool} (h:rF (Ws B N nA pS kA mA s mb n k D blk M) w' T' more) (h0:eZ B nA pS s mb n D blk M T w) (hs:w.heap.size≤w'.heap.size) (hf:w'.frozen? ⟨s,0,none⟩=false):eZ B nA pS s mb n D blk M T' w':=
 ⟨Nat.le_trans h0.sz hs,h.net,h.nb,h.sp,h.st,h.fr,hf,fun b hb=>⟨(h0.fix b hb).1,Nat.lt_of_lt_of_le (h0.fix b hb).2.1 hs,(h0.fix b hb).2.2⟩,fun x hx=>⟨(h0.tb x hx).1,Nat.lt_of_lt_of_le (h0.tb x hx).2 hs⟩,h0.ap⟩
end
def H0 (ds:List Dev) (ls:List ah) (I C:Nat) (x:aB) (c:Nat):Prop:=∃(i:Nat) (d:Dev),(i<I∨(i=I∧c % 1024<C))∧ds[i]?=some d∧d.kind=1∧aD ls ((i:Int),0)=some x∧d.addr.toNat=c / 1024
structure tN (ds:List Dev) (ls:List ah) (I C:Nat) (T:aB→Nat→Int):Prop where
 yes:∀x c,c<16384→H0 ds ls I C x c→T x c=0
 no:∀x c,c<16384→¬H0 ds ls I C x c→T x c= -1
theorem tN.congr {ds:List Dev} {ls:List ah} {I C I' C':Nat} {T:aB→Nat→Int} (h:tN ds ls I C T) (e:∀x c,c<16384→(H0 ds ls I C x c↔H0 ds ls I' C' x c)):tN ds ls I' C' T:=
 ⟨fun x c hc hh=>h.yes x c hc ((e x c hc).2 hh),fun x c hc hh=>h.no x c hc (fun q=>hh ((e x c hc).1 q))⟩
theorem tN.put {ds:List Dev} {ls:List ah} {I C:Nat} {T:aB→Nat→Int} (h:tN ds ls I C T) {d:Dev} (hd:ds[I]?=some d) (hk:d.kind=1) {x:aB} (hp:aD ls ((I:Int),0)=some x) (hC:C<1024):tN ds ls I (C+1) (og T x (d.addr.toNat*1024+C) 0):=by
 refine⟨fun y c hc hh=>?_,fun y c hc hh=>?_⟩
 ·unfold og
  by_cases e:y=x∧c=d.addr.toNat*1024+C
  ·rw[if_pos e]
  ·rw[if_neg e]
   refine h.yes y c hc ?_
   obtain⟨i,d',h1,h2,h3,h4,h5⟩:=hh
   refine⟨i,d',?_,h2,h3,h4,h5⟩
   rcases h1 with h1 | ⟨rfl,h1⟩
   ·exact .inl h1
   ·refine .inr ⟨rfl,?_⟩
    obtain rfl:d=d':=Option.some.inj (hd.symm.trans h2)
    obtain rfl:x=y:=Option.some.inj (hp.symm.trans h4)
    rcases Nat.lt_or_ge (c % 1024) C with hl | hl
    ·exact hl
    ·exact absurd ⟨rfl,by omega⟩ e
 ·unfold og
  by_cases e:y=x∧c=d.addr.toNat*1024+C
  ·obtain⟨rfl,rfl⟩:=e
   exact absurd ⟨I,d,.inr ⟨rfl,by omega⟩,hd,hk,hp,by omega⟩ hh
  ·rw[if_neg e]
   refine h.no y c hc (fun q=>hh ?_)
   obtain⟨i,d',h1,h2⟩:=q
   exact⟨i,d',by omega,h2⟩
theorem tN.tab {ds:List Dev} {ls:List ah} {T:aB→Nat→Int} (h:tN ds ls ds.length 0 T) (x:aB) (c:Nat) (hc:c<16384):T x c=eT ds ls 0 x c:=by
 obtain⟨hf,e⟩:=jA hc
 have h1:=E9 (ds:=ds) (ls:=ls) (x:=x) hf
 unfold Gr at h1
 rw[e]at h1
 have h2:H0 ds ls ds.length 0 x c↔aF ds ls 0 x (aH c)=true:=by
  rw[h1]
  constructor
  ·rintro⟨i,d,_,q⟩;exact⟨i,d,q⟩
  ·rintro⟨i,d,q1,q⟩;exact⟨i,d,.inl (List.getElem?_eq_some_iff.1 q1).1,q1,q⟩
 have h3:eT ds ls 0 x c=if aF ds ls 0 x (aH c)=true then 0 else -1:=by
  unfold eT iR
  rw[oZ c hc,if_pos rfl,wC c hc]
  by_cases h:aF ds ls 0 x (aH c)=true<;>simp[jm,h]
 rw[h3]
 by_cases hh:H0 ds ls ds.length 0 x c
 ·rw[h.yes x c hc hh,if_pos (h2.1 hh)]
 ·rw[h.no x c hc hh,if_neg (fun q=>hh (h2.2 q))]
def jY (ds:List Dev) (ls:List ah) (k I:Nat) (x:aB) (c:Nat):Prop:=
 ∃(i:Nat) (d:Dev) (o:Nat),i<I∧ds[i]?=some d∧aD ls ((i:Int),(o:Int))=some x∧pU d (aD ls ((i:Int),1)).isSome (fun q c=>iC ds ls k ((i:Int),(q:Int)) c) o (c / 1024) (c / 64 % 16) (c / 8 % 8) (c % 8)
theorem jY.zero {ds:List Dev} {ls:List ah} {k:Nat} (x:aB) (c:Nat):False↔jY ds ls k 0 x c:=⟨False.elim,fun⟨_,_,_,h,_⟩=>absurd h (Nat.not_lt_zero _)⟩
theorem jY.step {ds:List Dev} {ls:List ah} {k I:Nat} {d:Dev} (hd:ds[I]?=some d) (x:aB) (c:Nat):iT ds ls k I d (jY ds ls k I) x c↔jY ds ls k (I+1) x c:=by
 unfold iT
 constructor
 ·rintro(⟨i,e,o,h1,h2⟩ | ⟨o,h1,h2⟩)
  ·exact⟨i,e,o,by omega,h2⟩
  ·exact⟨I,d,o,by omega,hd,h1,h2⟩
 ·rintro⟨i,e,o,h1,h2,h3⟩
  rcases Nat.lt_or_ge i I with hl | hl
  ·exact .inl ⟨i,e,o,hl,h2,h3⟩
  ·obtain rfl:i=I:=by omega
   obtain rfl:d=e:=Option.some.inj (hd.symm.trans h2)
   exact .inr ⟨o,h3⟩
theorem jY.all {ds:List Dev} {ls:List ah} {k:Nat} (x:aB) (c:Nat):jY ds ls k ds.length x c↔Aa ds ls k x c:=
 ⟨fun⟨i,d,o,_,h⟩=>⟨i,d,o,h⟩,fun⟨i,d,o,h1,h2⟩=>⟨i,d,o,(List.getElem?_eq_some_iff.1 h1).1,h1,h2⟩⟩
theorem oh.next {ds:List Dev} {ls:List ah} (hd:∀d∈ds,fU d) (hr:∀d∈ds,∀r∈d.rules,r.ok) {k:Nat} {T:aB→Nat→Int} {more:Bool} (h:oh k (eT ds ls k) (jY ds ls k ds.length) T more) (x:aB) (c:Nat) (hc:c<16384):T x c=eT ds ls (k+1) x c:=by
 by_cases hD:Aa ds ls k x c
 ·have h1:=Ko (ls:=ls) hd hr k x c hc (D:=true) ⟨fun _=>hD,fun _=>rfl⟩
  rw[← h1]
  by_cases h0:eT ds ls k x c<0
  ·rw[if_pos ⟨h0,rfl⟩]
   exact h.new x c hc h0 ((jY.all x c).2 hD)
  ·rw[if_neg (fun q=>h0 q.1)]
   exact h.old x c hc (.inl (by omega))
 ·have h1:=Ko (ls:=ls) hd hr k x c hc (D:=false) ⟨fun q=>(by cases q),fun q=>absurd q hD⟩
  rw[← h1,if_neg (fun q=>Bool.noConfusion q.2)]
  exact h.old x c hc (.inr (fun q=>hD ((jY.all x c).1 q)))
theorem oh.last {ds:List Dev} {ls:List ah} (hd:∀d∈ds,fU d) (hr:∀d∈ds,∀r∈d.rules,r.ok) {k:Nat} {T:aB→Nat→Int} (h:oh k (eT ds ls k) (jY ds ls k ds.length) T false):aF ds ls (k+1)=aF ds ls k∧∀x c,c<16384→T x c=eT ds ls k x c:=by
 have hn:∀x c,c<16384→eT ds ls k x c<0→¬Aa ds ls k x c:=fun x c hc h0 hq=>by
  have:=h.mo.2 ⟨x,c,hc,h0,(jY.all x c).2 hq⟩
  cases this
 refine⟨told_none hd hr hn,fun x c hc=>h.old x c hc ?_⟩
 by_cases h0:0≤eT ds ls k x c
 ·exact .inl h0
 ·exact .inr (fun q=>hn x c hc (by omega) ((jY.all x c).1 q))
theorem oh.more {ds:List Dev} {ls:List ah} (hd:∀d∈ds,fU d) (hr:∀d∈ds,∀r∈d.rules,r.ok) {k:Nat} {T:aB→Nat→Int} (h:oh k (eT ds ls k) (jY ds ls k ds.length) T true):aF ds ls (k+1)≠aF ds ls k∧jW (aF ds ls k) (aR ls)<jW (aF ds ls (k+1)) (aR ls):=by
 obtain⟨x,c,hc,h0,hq⟩:=h.mo.1 rfl
 have h1:=(jY.all x c).1 hq
 have hne:=Q0 hd hr hc h0 h1
 refine⟨hne,?_⟩
 have hx:x∈aR ls:=by
  obtain⟨i,d,o,_,h2,_⟩:=h1
  exact zM h2
 refine Mc (gN.round ds ls (k+1)) (gN.round ds ls k) (zU _ _ _) (x:=x) (fun e=>?_) _ hx
 have h2:iC ds ls (k+1) x c=true:=(zf hd hr k x c hc).2 (.inr h1)
 unfold iC at h2
 rw[e.symm]at h2
 have:=(ze ds ls k x c hc).2 h2
 omega
end Go.Proofs.YtifkacnoiocebaaGreat
