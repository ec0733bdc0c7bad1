/- A part of the proof: Sp17. -/
import Derived.Test.YtifkacnoiocebaaGreatDz36
set_option linter.unusedVariables false
set_option linter.unusedSimpArgs false
set_option maxRecDepth 100000
set_option maxHeartbeats 16000000
namespace Go.Proofs.YtifkacnoiocebaaGreat
open Go.Maps Go.RowKit Go.WideElems
section
variable {B nA pS s mb:Nat} {n:aC} {D:aB→Prop} {blk:aB→Nat} {M:aB→Option Value} {T:aB→Nat→Int} {w w':World}
def eZ.Off (nA pS s mb:Nat) (D:aB→Prop) (blk:aB→Nat) (b:Nat):Prop:=(∀y,D y→b≠blk y)∧b≠nA∧b≠pS∧b≠s∧b≠mb
theorem eZ.off (h:eZ B nA pS s mb n D blk M T w) {b:Nat} (hb:w.heap.size≤b):eZ.Off nA pS s mb D blk b:=by
 refine⟨fun y hy e=>?_,fun e=>?_,fun e=>?_,fun e=>?_,fun e=>?_⟩
 ·have:=(h.tb y hy).2;omega
 ·have:=(h.fix b (.inl e)).2.1;omega
 ·have:=(h.fix b (.inr (.inl e))).2.1;omega
 ·have:=(h.fix b (.inr (.inr (.inl e)))).2.1;omega
 ·have:=(h.fix b (.inr (.inr (.inr e)))).2.1;omega
theorem eZ.far (h:eZ B nA pS s mb n D blk M T w) (a:Addr) (v:Value) (ho:eZ.Off nA pS s mb D blk a.block) (hB:B≤a.block):eZ B nA pS s mb n D blk M T (w.setCell a v):=by
 have hs:∀b,b≠a.block→(w.setCell a v).heap[b]?=w.heap[b]?:=fun b hb=>RowKit.Below.heap_setCell w a v b hb
 have hb:RowKit.Below B w (w.setCell a v):=(RowKit.Below.refl _ _).setCell hB _
 refine⟨by rw[size_setCell];exact h.sz,h.net.below hb (Nat.le_refl _),h.nb.same (hs _ (Ne.symm ho.2.1)),h.sp.same (hs _ (Ne.symm ho.2.2.1)),h.st.same ?_,fun x hx o=>by rw[World.frozen?_setCell];exact h.fr x hx o,by rw[World.frozen?_setCell];exact h.fs,fun b hh=>by rw[size_setCell];exact h.fix b hh,fun x hx=>by rw[size_setCell];exact h.tb x hx,h.ap⟩
 rintro b (rfl | rfl | ⟨x,hx,rfl⟩)
 ·exact hs _ (Ne.symm ho.2.2.2.1)
 ·exact hs _ (Ne.symm ho.2.2.2.2)
 ·exact hs _ (Ne.symm (ho.1 x hx))
end
theorem eZ.start (W:World) (n:aC) (hn:bq W W.heap.size n):eZ W.heap.size W.heap.size (W.heap.size+1+1+1) (W.heap.size+1+1) (W.heap.size+1) n (PD n.au 0 0) (fun _=>0) (fun _=>none) (fun _ _=> -1)
  ((((W.alloc (.cells #[.slice n.dA n.dn n.dc,.slice n.lA n.ln n.lc] 25)).alloc (.map #[] 0)).alloc (.cells #[.int .i64 0,.map (some (W.heap.size+1))] 44)).alloc (.cells #[.pointer (some ⟨W.heap.size+1+1,0,none⟩)] 39)):=by
 have b1:=below_alloc2 W (.cells #[.slice n.dA n.dn n.dc,.slice n.lA n.ln n.lc] 25)
 have x1:=dO.new W #[.slice n.dA n.dn n.dc,.slice n.lA n.ln n.lc] 25
 have z1:(W.alloc (.cells #[.slice n.dA n.dn n.dc,.slice n.lA n.ln n.lc] 25)).heap.size =W.heap.size+1:=by simp
 generalize W.alloc (.cells #[.slice n.dA n.dn n.dc,.slice n.lA n.ln n.lc] 25)=W1 at*
 have b2:=below_alloc2 W1 (.map #[] 0)
 have m2:=aV.made (P:=Tryz.prog) (kt:=27) (key:=eG) (dom:=eU) W1
 have z2:(W1.alloc (.map #[] 0)).heap.size =W.heap.size+2:=by simp[z1]
 rw[z1]at m2
 generalize W1.alloc (.map #[] 0)=W2 at*
 have b3:=below_alloc2 W2 (.cells #[.int .i64 0,.map (some (W.heap.size+1))] 44)
 have x3:=dO.new W2 #[.int .i64 0,.map (some (W.heap.size+1))] 44
 have z3:(W2.alloc (.cells #[.int .i64 0,.map (some (W.heap.size+1))] 44)).heap.size =W.heap.size+3:=by simp[z2]
 rw[z2]at x3
 generalize W2.alloc (.cells #[.int .i64 0,.map (some (W.heap.size+1))] 44)=W3 at*
 have b4:=below_alloc2 W3 (.cells #[.pointer (some ⟨W.heap.size+1+1,0,none⟩)] 39)
 have x4:=dO.new W3 #[.pointer (some ⟨W.heap.size+1+1,0,none⟩)] 39
 have z4:(W3.alloc (.cells #[.pointer (some ⟨W.heap.size+1+1,0,none⟩)] 39)).heap.size =W.heap.size+4:=by simp[z3]
 rw[z3]at x4
 generalize W3.alloc (.cells #[.pointer (some ⟨W.heap.size+1+1,0,none⟩)] 39)=W4 at*
 rw[z1]at b2
 rw[z2]at b3
 rw[z3]at b4
 have c24:=b3.trans (b4.mono (by omega:W.heap.size+2≤W.heap.size+3))
 have c14:=b2.trans (c24.mono (by omega:W.heap.size+1≤W.heap.size+2))
 have c04:=b1.trans (c14.mono (by omega:W.heap.size≤W.heap.size+1))
 have y3:=x3.below b4 (by omega)
 refine⟨by omega,hn.below c04 (Nat.le_refl _),x1.below c14 (by omega),x4,⟨y3.1 0 _ rfl,y3.1 1 _ rfl,m2.same (c24.block _ (by omega)),fun x h=>absurd h (PD.zero x),fun x _=>rfl,fun x h=>absurd h (PD.zero x),fun x y h=>absurd h (PD.zero x),fun x h=>absurd h (PD.zero x),by omega⟩,
  fun x h=>absurd h (PD.zero x),y3.2 0,fun b hb=>⟨by omega,by omega,fun x h=>absurd h (PD.zero x)⟩,fun x h=>absurd h (PD.zero x),⟨by omega,by omega,by omega,by omega⟩⟩
theorem Rl (n:Nat):madeCells (Value.int .i64 0).cells n=((List.range n).map fun _=>Value.int .i64 0).toArray :=by
 apply Array.ext
 ·simp[madeCells]
 ·intro i h1 h2
  simp[madeCells,Value.cells,Nat.mod_one]
theorem Tryz.infoIntQ:(Tryz.prog.info? 3).map (fun i=>(i.zero,i.size,i.bytes))=some (some (.int .i64 0),1,8):=by kernel_rfl
theorem TW (w:World):(Instr.makeSlice 55 (.int .i64 16384) (.int .i64 16384)).run Tryz.prog w= .ok (.slice (some ⟨w.heap.size,0,none⟩) 16384 16384) (w.alloc (.cells (madeCells (Value.int .i64 0).cells 16384) 3)):=by
 obtain⟨i0,hi0,hz0,hz1,hz2⟩:=info_parts Tryz.infoIntQ
 have h:=run_makeSlice (P:=Tryz.prog) w 55 3 i0 _ Tryz.underlying55 hi0 hz0 .i64 .i64 16384 16384 (by omega) (Int.le_refl _) (by rw[hz1];omega) (by rw[hz2];omega) (by omega)
 rw[h,hz1]
 rfl
theorem BO.made {w:World} {N:Nat} {t:TypeId} (h:Bx w N (madeCells (Value.int .i64 0).cells 16384) t):BO w N (fun _=>0):=fun c hc=>h.get c _ (by rw[Rl];simp[hc])
theorem BO.set {w:World} {b:Nat} {T:Nat→Int} (h:BO w b T) {c:Nat} (hc:c<16384) (v:Int):BO (w.setCell ⟨b,c,none⟩ (.int .i64 v)) b (fun d=>if d=c then v else T d):=fun d hd=>by
 by_cases e:d=c
 ·subst e
  rw[World.cell?_setCell_same _ _ _ (h d hd)]
  simp
 ·rw[World.cell?_setCell_other _ _ _ _ (by intro q;cases q;exact e rfl),h d hd]
  simp[e]
def Rm:Prop:=∀(E:SE) (hE:E.Ok) (w:World) (Dn:aB→Nat→Prop) (h:SP E Dn w) (i:Nat) (d:ak) (hd:E.n.ds[i]?=some d) (hok:fU d.dev) (nU:∀p:Nat,(p:Int)<aN d.kind→E.D ((i:Int),(p:Int))),
  Calls Tryz.prog 34 #[.pointer (some ⟨E.s,0,none⟩),.agg #[.slice E.n.dA E.n.dn E.n.dc,.slice E.n.lA E.n.ln E.n.lc],.int .i64 (i:Int),.int .i64 (E.k:Int),.func (.func 32) #[] #[.pointer (some ⟨E.nA,0,none⟩),.pointer (some ⟨E.pS,0,none⟩),.pointer (some ⟨E.kA,0,none⟩),.pointer (some ⟨E.mA,0,none⟩)]] w fun e w'=>e= .returned (.tuple #[])∧SP E (iT E.n.au E.n.ls E.k i d.dev Dn) w'∧KC E.C w w'
def Gt (n:aC) (W:World) (e:Ending) (W':World):Prop:=∃(s mb:Nat) (blk:aB→Nat) (M:aB→Option Value) (K:Nat),e= .returned (.pointer (some ⟨s,0,none⟩))∧RowKit.Below W.heap.size W W'∧gV W' s mb (K:Int) (PD n.au n.au.length 0) blk (eT n.au n.ls K) M∧aF n.au n.ls (K+1)=aF n.au n.ls K∧∀j,j<K→aF n.au n.ls (j+1)≠aF n.au n.ls j
theorem SP.cells {E:SE} {Dn:aB→Nat→Prop} {w:World} (h:SP E Dn w):w.cell? ⟨E.nA,0,none⟩=some (.slice E.n.dA E.n.dn E.n.dc)∧w.cell? ⟨E.nA,1,none⟩=some (.slice E.n.lA E.n.ln E.n.lc)∧w.cell? ⟨E.pS,0,none⟩=some (.pointer (some ⟨E.s,0,none⟩))∧w.cell? ⟨E.kA,0,none⟩=some (.int .i64 (E.k:Int)):=by
 obtain⟨T,more,h1,_⟩:=h
 exact⟨h1.nb.1 0 _ rfl,h1.nb.1 1 _ rfl,h1.sp.1 0 _ rfl,h1.kk.1 0 _ rfl⟩
theorem gV.aaB {w:World} {s mb:Nat} {rd:Int} {D:aB→Prop} {blk:aB→Nat} {T:aB→Nat→Int} {M:aB→Option Value} (h:gV w s mb rd D blk T M) (v:Int):gV (w.setCell ⟨s,0,none⟩ (.int .i64 v)) s mb v D blk T M:=by
 have ho:∀b,b≠s→(w.setCell ⟨s,0,none⟩ (.int .i64 v)).heap[b]?=w.heap[b]?:=fun b hb=>RowKit.Below.heap_setCell w _ _ b hb
 refine⟨World.cell?_setCell_same _ _ _ h.c0,?_,h.mp.same (ho mb (Ne.symm h.Fu)),h.val,h.no,fun x hx c hc=>?_,h.inj,h.ne,h.Fu⟩
 ·rw[World.cell?_setCell_other _ _ _ _ (by intro q;cases q)]
  exact h.c1
 ·rw[World.cell?_of_block (a:=⟨blk x,c,none⟩) (ho _ (h.ne x hx).1)]
  exact h.tab x hx c hc
theorem H0.next {ds:List Dev} {ls:List ah} {I:Nat} {d:Dev} (hd:ds[I]?=some d) (h:d.kind≠1∨aD ls ((I:Int),0)=none) {x:aB} {c:Nat} :H0 ds ls I 0 x c↔H0 ds ls (I+1) 0 x c:=by
 constructor
 ·rintro⟨i,e,h1,h2⟩
  exact⟨i,e,by omega,h2⟩
 ·rintro⟨i,e,h1,h2,h3,h4,h5⟩
  refine⟨i,e,?_,h2,h3,h4,h5⟩
  rcases Nat.lt_or_ge i I with hl | hl
  ·exact .inl hl
  ·obtain rfl:i=I:=by omega
   obtain rfl:d=e:=Option.some.inj (hd.symm.trans h2)
   rcases h with h | h
   ·exact absurd h3 h
   ·rw[h]at h4;cases h4
theorem H0.row {ds:List Dev} {ls:List ah} {I:Nat} (x:aB) (c:Nat):H0 ds ls I 1024 x c↔H0 ds ls (I+1) 0 x c:=
 ⟨fun⟨i,e,h1,h2⟩=>⟨i,e,by omega,h2⟩,fun⟨i,e,h1,h2⟩=>⟨i,e,by omega,h2⟩⟩
theorem Lp (Zg:Rm) (W:World) (n:aC) (hn:bq W W.heap.size n) (hok:∀d∈n.au,fU d) (hnk:Np n.au n.ls):
  Calls Tryz.prog 8 #[.agg #[.slice n.dA n.dn n.dc,.slice n.lA n.ln n.lc]] W (Gt n W):=by
 have HN:=hide hn
 have fK:=hide hok
 have Wt:=hide hnk
 have ac3:=hide Zg
 have hdn:n.dn≤10:=by have:=hnk.dl;have:=hn.iK;simp only[aC.au,List.length_map]at*;omega
 clear hn hok hnk Zg
 have hmm:=@run_makeMap Tryz.prog
 go_enter Tryz.func8,Tryz.ntmps8
 go_wp2_with fail
 have HB0:=hide (eZ.start W n HN.out)
 have gD:=hide (show RowKit.Below W.heap.size W ((((W.alloc (.cells #[.slice n.dA n.dn n.dc,.slice n.lA n.ln n.lc] 25)).alloc (.map #[] 0)).alloc (.cells #[.int .i64 0,.map (some (W.heap.size+1))] 44)).alloc (.cells #[.pointer (some ⟨W.heap.size+1+1,0,none⟩)] 39))from
  ((((RowKit.Below.refl _ _).alloc (Nat.le_refl _) _).alloc (by simp) _).alloc (by simp;omega) _).alloc (by simp;omega) _)
 clear hmm
 generalize World.alloc (World.alloc (World.alloc (World.alloc W _) _) _) _=W4 at*
 obtain⟨nA,Zh⟩:∃nA,W.heap.size=nA:=⟨_,rfl⟩
 obtain⟨mb,hmb⟩:∃mb,W.heap.size+1=mb:=⟨_,rfl⟩
 obtain⟨s,hs⟩:∃s,W.heap.size+1+1=s:=⟨_,rfl⟩
 obtain⟨pS,Zi⟩:∃pS,W.heap.size+1+1+1=pS:=⟨_,rfl⟩
 have HB:=hide (show eZ W.heap.size nA pS s mb n (PD n.au 0 0) (fun _=>0) (fun _=>none) (fun _ _=> -1) W4 from by rw[← Zh,← hmb,← hs,← Zi];exact HB0.out)
 clear HB0
 simp only[Zi]
 simp only[hs]
 simp only[hmb]
 simp only[Zh]
 clear Zh hmb hs Zi
 obtain⟨ds,hds⟩:∃ds,n.au=ds:=⟨_,rfl⟩
 rw[hds]at HB
 have Kz:=hide (show ds=n.ds.map ak.dev∧ds.length=n.dn∧ds.length≤10 from by
  have h1:=HN.out.iK
  rw[← hds]
  simp only[aC.au,List.length_map]
  exact⟨by first | trivial | rfl,h1,by omega⟩)
 have yD:=hide hds
 clear hds
 go_loopw [4] (fun iv wr=>∃I:Nat,I≤n.dn∧iv= .int .i64 (I:Int)∧∃(blk:aB→Nat) (M:aB→Option Value),Hid (eZ W.heap.size nA pS s mb n (PD ds I 0) blk M (fun _ _=> -1) wr∧RowKit.Below W.heap.size W wr)) (fun iv _=>n.dn - (intOf iv).toNat)
 case atStart=>exact⟨0,Nat.zero_le _,rfl,_,_,hide ⟨HB.out,gD.out⟩⟩
 case round=>
  clear HB gD
  obtain⟨I,hI,rfl,blk,M,HB⟩:=hrel
  have n0:wr.cell? ⟨nA,0,none⟩=some (.slice n.dA n.dn n.dc):=HB.out.1.nb.1 0 _ rfl
  by_cases hIl:I<n.dn
  case neg=>
   obtain rfl:I=n.dn:=by omega
   as_aux_lemma=>
    have h1:=yD.out
    subst h1
    have lI:=hide (show eZ W.heap.size nA pS s mb n (PD n.au n.au.length 0) blk M (fun _ _=> -1) wr∧RowKit.Below W.heap.size W wr from by
     rw[Kz.out.2.1]
     exact HB.out)
    have HT0:=hide (show tN n.au n.ls 0 0 (fun _ _=> -1)from⟨fun x c _ ⟨i,d,h,_⟩=>by omega,fun _ _ _ _=>rfl⟩)
    clear HB
    have Zj:=hide (fun x (hx:PD n.au n.au.length 0 x)=>hx.dom Kz.out.2.2)
    have fI:=hide (fun x y (h:aD n.ls x=some y)=>show PD n.au n.au.length 0 y from PD.place.2 (Wt.out.pl y (zM h)))
    have qz:n.ln≤9223372036854775807:=by have:=Wt.out.ll;have:=HN.out.ls.1;omega
    have hcd:=HN.out.cd
    simp only[maxLen]at hcd
    obtain⟨D,hD⟩:∃D,PD n.au n.au.length 0=D:=⟨_,rfl⟩
    have Zk:=hide hD
    rw[hD]at lI fI Zj
    clear hD
    go_wp2_with fail
    clear n0
    go_loopw [8] (fun iv wr=>∃I:Nat,I≤n.dn∧iv= .int .i64 (I:Int)∧∃T,Hid ((eZ W.heap.size nA pS s mb n D blk M T wr∧RowKit.Below W.heap.size W wr)∧tN n.au n.ls I 0 T)) (fun iv _=>n.dn - (intOf iv).toNat)
    case atStart=>exact⟨0,Nat.zero_le _,rfl,_,hide ⟨lI.out,HT0.out⟩⟩
    case round=>
     clear lI HT0
     obtain⟨I,hI,rfl,T,HB⟩:=hrel
     have n0:wr.cell? ⟨nA,0,none⟩=some (.slice n.dA n.dn n.dc):=HB.out.1.1.nb.1 0 _ rfl
     have n1:wr.cell? ⟨nA,1,none⟩=some (.slice n.lA n.ln n.lc):=HB.out.1.1.nb.1 1 _ rfl
     by_cases hIl:I<n.dn
     case neg=>
      obtain rfl:I=n.dn:=by omega
      as_aux_lemma=>
       have HB3:=hide (show eZ W.heap.size nA pS s mb n D blk M (eT n.au n.ls 0) wr∧RowKit.Below W.heap.size W wr from⟨HB.out.1.1.BU (fun x c _ hc=>tN.tab (by rw[Kz.out.2.1];exact HB.out.2) x c hc),HB.out.1.2⟩)
       have Zl:=hide (show∀d∈n.au,∀r∈d.rules,r.ok from fun d hd=>by
        simp only[aC.au,List.mem_map]at hd
        obtain⟨dv,hdv,rfl⟩:=hd
        exact(HN.out.qW dv hdv).rs.2.1)
       clear HB
       go_wp2_with fail
       clear n0 n1
       have dM:=hide (show(eZ W.heap.size nA pS s mb n D blk M (eT n.au n.ls 0) (wr.alloc (.cells #[.int .i64 0] 3))∧RowKit.Below W.heap.size W (wr.alloc (.cells #[.int .i64 0] 3)))∧dO (wr.alloc (.cells #[.int .i64 0] 3)) wr.heap.size #[.int .i64 ((0:Nat):Int)]∧(W.heap.size≤wr.heap.size∧wr.heap.size<(wr.alloc (.cells #[.int .i64 0] 3)).heap.size ∧eZ.Off nA pS s mb D blk wr.heap.size)∧∀j,j<0→aF n.au n.ls (j+1)≠aF n.au n.ls j from
        ⟨⟨HB3.out.1.below (below_alloc2 wr _),HB3.out.2.trans ((below_alloc2 wr _).mono HB3.out.1.sz)⟩,dO.new wr _ _,⟨HB3.out.1.sz,by simp,HB3.out.1.off (Nat.le_refl _)⟩,fun j h=>absurd h (Nat.not_lt_zero _)⟩)
       clear HB3
       generalize World.alloc wr _=w5 at*
       generalize wr.heap.size=kA0 at*
       go_loopg [12] ((aR n.ls).length *16384 - jW (aF n.au n.ls 0) (aR n.ls)) (fun m kv wr=>∃(k kA:Nat),kv= .pointer (some ⟨kA,0,none⟩)∧Hid (m=(aR n.ls).length *16384 - jW (aF n.au n.ls k) (aR n.ls))∧Hid (k+m≤491520)∧Hid ((eZ W.heap.size nA pS s mb n D blk M (eT n.au n.ls k) wr∧RowKit.Below W.heap.size W wr)∧dO wr kA #[.int .i64 (k:Int)]∧(W.heap.size≤kA∧kA<wr.heap.size∧eZ.Off nA pS s mb D blk kA)∧∀j,j<k→aF n.au n.ls (j+1)≠aF n.au n.ls j))
       case atStart=>exact⟨0,kA0,rfl,hide rfl,hide (by have h1:=Wt.out.ll;have h2:=zN n.ls;omega),dM⟩
       case round=>
        clear dM
        obtain⟨k,kA,rfl,Qe,MS,HB⟩:=hrel
        go_wp2_with fail
        have UO:k≤491520:=by have:=MS.out;omega
        have HX:=hide (show(eZ W.heap.size nA pS s mb n D blk M (eT n.au n.ls k) (wr.alloc (.cells #[.bool false] 4))∧RowKit.Below W.heap.size W (wr.alloc (.cells #[.bool false] 4)))∧dO (wr.alloc (.cells #[.bool false] 4)) kA #[.int .i64 (k:Int)]∧dO (wr.alloc (.cells #[.bool false] 4)) wr.heap.size #[.bool false]∧(W.heap.size≤wr.heap.size∧wr.heap.size<(wr.alloc (.cells #[.bool false] 4)).heap.size ∧eZ.Off nA pS s mb D blk wr.heap.size)∧kA<wr.heap.size from
         ⟨⟨HB.out.1.1.below (below_alloc2 wr _),HB.out.1.2.trans ((below_alloc2 wr _).mono HB.out.1.1.sz)⟩,HB.out.2.1.below (below_alloc2 wr _) HB.out.2.2.1.2.1,dO.new wr _ _,⟨HB.out.1.1.sz,by simp,HB.out.1.1.off (Nat.le_refl _)⟩,HB.out.2.2.1.2.1⟩)
        have GJ:=hide HB.out.2.2
        clear HB
        generalize World.alloc wr _=w6 at*
        generalize wr.heap.size=mA at*
        obtain⟨E,hE⟩:∃E,Ws W.heap.size w6.heap.size nA pS kA mA s mb n k D blk M=E:=⟨_,rfl⟩
        have Zm:=hide (show E.Ok from by
         rw[← hE]
         exact HX.out.1.1.ok ⟨GJ.out.1.1,by have h1:=HX.out.2.2.2.2;have h2:=HX.out.2.2.2.1.2.1;omega,Nat.ne_of_lt HX.out.2.2.2.2,fun x hx=>GJ.out.1.2.2.1 x hx⟩ ⟨HX.out.2.2.2.1.1,HX.out.2.2.2.1.2.1,HX.out.2.2.2.1.2.2⟩ Wt.out.ll (fun x y h=>fI.out x y h) (fun x hx=>Zj.out x hx) (by omega))
        have HSP:=hide (show SP E (fun _ _=>False) w6 from by
         rw[← hE]
         exact⟨_,false,HX.out.1.1.pst HX.out.2.1 HX.out.2.2.1,oh.start _ _⟩)
        have Rk:=hide hE
        have vB:=hide (show E.n=n∧E.k=k∧E.nA=nA∧E.pS=pS∧E.kA=kA∧E.mA=mA∧E.s=s∧E.D=D from by rw[← hE];exact⟨rfl,rfl,rfl,rfl,rfl,rfl,rfl,rfl⟩)
        clear hE
        go_loopw [15] (fun iv wr=>∃I:Nat,I≤n.dn∧iv= .int .i64 (I:Int)∧Hid (SP E (jY n.au n.ls k I) wr∧KC E.C w6 wr)) (fun iv _=>n.dn - (intOf iv).toNat)
        case atStart=>exact⟨0,Nat.zero_le _,rfl,hide ⟨HSP.out.congr (fun x c _=>jY.zero x c),KC.refl _ _⟩⟩
        case round=>
         clear HSP
         obtain⟨I,hI,rfl,HS⟩:=hrel
         have hc5:=HS.out.1.cells
         rw[vB.out.1,vB.out.2.1,vB.out.2.2.1,vB.out.2.2.2.1,vB.out.2.2.2.2.1,vB.out.2.2.2.2.2.2.1]at hc5
         obtain⟨n0,n1,p0,k0⟩:=hc5
         by_cases hIl:I<n.dn
         case pos=>
          obtain⟨r,hr⟩:∃r,n.ds[I]?=some r:=⟨_,List.getElem?_eq_getElem (by have:=HN.out.iK;omega)⟩
          have hdi:n.au[I]?=some r.dev:=by simp only[aC.au,List.getElem?_map,hr,Option.map_some]
          have oO:=hide hdi
          have hdc:=ac3.out E Zm.out wr _ HS.out.1 I r (by rw[vB.out.1];exact hr) (fK.out r.dev (List.mem_of_getElem? hdi)) (fun p hp=>by rw[vB.out.2.2.2.2.2.2.2,← Zk.out];exact PD.all hdi hp)
          rw[vB.out.1,vB.out.2.1,vB.out.2.2.1,vB.out.2.2.2.1,vB.out.2.2.2.2.1,vB.out.2.2.2.2.2.1,vB.out.2.2.2.2.2.2.1]at hdc
          have HDC:=hide hdc
          clear hdc hr hdi
          go_wp2_with fail
          clear n0 n1 p0 k0
          refine HDC.out.mono ?_
          clear HDC
          rintro e w7 ⟨rfl,hsp,hkc⟩
          have pY:=hide (show SP E (jY n.au n.ls k (I+1)) w7∧KC E.C w6 w7 from⟨hsp.congr (fun x c _=>jY.step oO.out x c),HS.out.2.trans hkc⟩)
          clear hsp hkc HS
          go_wp2_with fail
          go_roundw
          case rel=>exact⟨I+1,by omega,by go_num,pY⟩
          case measure=>simp[intOf];omega
         case neg=>
          obtain rfl:I=n.dn:=by omega
          obtain⟨T,more,hps,hin⟩:=HS.out.1
          rw[← Kz.out.2.1]at hin
          rw[vB.out.1,vB.out.2.1]at hin
          have Zn:=hide hin
          have AB:=hide (show eZ W.heap.size nA pS s mb n D blk M T wr∧RowKit.Below W.heap.size W wr∧dO wr kA #[.int .i64 (k:Int)]∧dO wr mA #[.bool more]∧w6.heap.size≤wr.heap.size from by
           have h1:w6.heap.size≤wr.heap.size:=HS.out.2.size
           have h2:∀b,b=nA∨b=pS∨b=kA∨b=s∨b=mb→¬E.C b:=fun b hb=>(Zm.out.fix b (by rw[← Rk.out];exact hb)).2.2
           have h3:wr.heap[s]?=w6.heap[s]?:=HS.out.2.same s (HX.out.1.1.fix s (.inr (.inr (.inl rfl)))).2.1 (h2 s (.inr (.inr (.inr (.inl rfl)))))
           have h4:=hps
           rw[← Rk.out]at h4
           refine⟨h4.bst HX.out.1.1 h1 ((World.frozen?_of_block (a:=⟨s,0,none⟩) h3).trans HX.out.1.1.fs),?_,h4.kk,h4.mo,h1⟩
           exact HX.out.1.2.trans (HS.out.2.to HX.out.1.1.sz (fun b hb=>by have:=(Zm.out.Q5 b hb).1;rw[← Rk.out]at this;exact this)))
          have m0:wr.cell? ⟨mA,0,none⟩=some (.bool more):=AB.out.2.2.2.1.1 0 _ rfl
          clear hps hin HS
          cases more
          case false=>
           have s0:wr.cell? ⟨s,0,none⟩=some (.int .i64 0):=AB.out.1.st.c0
           have s1:wr.frozen? ⟨s,0,none⟩=false:=AB.out.1.fs
           have hns:pS≠s:=AB.out.1.ap.2.1
           have hsn:s≠pS:=Ne.symm hns
           have hl:=Zn.out.last fK.out Zl.out
           have HFI:=hide (show Gt n W (.returned (.pointer (some ⟨s,0,none⟩))) (wr.setCell ⟨s,0,none⟩ (.int .i64 (k:Int)))from
            ⟨s,mb,blk,M,k,rfl,AB.out.2.1.setCell (AB.out.1.fix s (.inr (.inr (.inl rfl)))).1 _,by
             rw[Zk.out]
             exact(AB.out.1.st.BU (fun x c _ hc=>hl.2 x c hc)).aaB (k:Int),hl.1,GJ.out.2⟩)
           clear hl
           go_wp2_with fail
           go_ret
           exact HFI.out
          case true=>
           have hm:=Zn.out.more fK.out Zl.out
           have hmx:=DX (aF n.au n.ls (k+1)) (aR n.ls)
           have hmu:=Qe.out
           have hkm:=MS.out
           have HG:=hide (show(aR n.ls).length *16384 - jW (aF n.au n.ls (k+1)) (aR n.ls)<gk∧k+1+((aR n.ls).length *16384 - jW (aF n.au n.ls (k+1)) (aR n.ls))≤491520 from by omega)
           have jk:=hide (show((eZ W.heap.size nA pS s mb n D blk M (eT n.au n.ls (k+1)) (wr.alloc (.cells #[.int .i64 ((k+1:Nat):Int)] 3))∧RowKit.Below W.heap.size W (wr.alloc (.cells #[.int .i64 ((k+1:Nat):Int)] 3)))∧dO (wr.alloc (.cells #[.int .i64 ((k+1:Nat):Int)] 3)) wr.heap.size #[.int .i64 ((k+1:Nat):Int)]∧(W.heap.size≤wr.heap.size∧wr.heap.size<(wr.alloc (.cells #[.int .i64 ((k+1:Nat):Int)] 3)).heap.size ∧eZ.Off nA pS s mb D blk wr.heap.size)∧∀j,j<k+1→aF n.au n.ls (j+1)≠aF n.au n.ls j)from
            ⟨⟨(AB.out.1.BU (fun x c _ hc=>Zn.out.next fK.out Zl.out x c hc)).below (below_alloc2 wr _),AB.out.2.1.trans ((below_alloc2 wr _).mono AB.out.1.sz)⟩,dO.new wr _ _,⟨AB.out.1.sz,by simp,AB.out.1.off (Nat.le_refl _)⟩,fun j hj=>by
             rcases Nat.lt_succ_iff_lt_or_eq.1 hj with a | rfl
             ·exact GJ.out.2 j a
             ·exact hm.1⟩)
           clear hm hmx hmu hkm
           go_wp2_with fail
           go_roundg ((aR n.ls).length *16384 - jW (aF n.au n.ls (k+1)) (aR n.ls))
           case measure=>exact HG.out.1
           case rel=>exact⟨k+1,_,rfl,hide rfl,hide HG.out.2,jk⟩
     case pos=>
      as_aux_lemma=>
       have hIi:(I:Int)<n.dn:=by omega
       obtain⟨r,hr⟩:∃r,n.ds[I]?=some r:=⟨_,List.getElem?_eq_getElem (by have:=HN.out.iK;omega)⟩
       have oO:=hide (show n.au[I]?=some r.dev from by simp only[aC.au,List.getElem?_map,hr,Option.map_some])
       obtain⟨db,j6,gK,TY,_⟩:=HB.out.1.1.net.ds.2 (by omega)
       have q1:=(fP (gK▸HB.out.1.1.net.ds) hr).2.2.1
       have q2:=(fP (gK▸HB.out.1.1.net.ds) hr).2.2.2.1
       have Ak:=hide (jJ n.dA n.dn n.dc n.lA n.ln n.lc n.ls (I:Int) 0 wr qz (HB.out.1.1.net.ls.below (RowKit.Below.refl _ _) HB.out.1.1.sz))
       rw[gK]at Ak n0
       have Hf:=hide (show(∀w',RowKit.Below wr.heap.size wr w'→w'.cell? ⟨db,j6+I*7+1,none⟩=some (.int .i64 r.kind)∧w'.cell? ⟨db,j6+I*7+2,none⟩=some (.int .i64 r.addr))from fun w' hb=>⟨(hb.cell (p:=⟨db,j6+I*7+1,none⟩) (Nat.lt_of_lt_of_le TY HB.out.1.1.sz)).trans q1,(hb.cell (p:=⟨db,j6+I*7+2,none⟩) (Nat.lt_of_lt_of_le TY HB.out.1.1.sz)).trans q2⟩)
       have gF:=hide gK
       have HKO:=hide (fK.out r.dev (List.mem_of_getElem? oO.out))
       obtain⟨PE,JR⟩:∃PE,aD n.ls ((I:Int),0)=PE:=⟨_,rfl⟩
       rw[JR]at Ak
       have Zo:=hide JR
       clear q1 q2 hr TY JR gK
       go_wp2_with fail
       clear n0 n1
       refine Ak.out.mono ?_
       clear Ak
       rintro e w3 ⟨rfl,hb3⟩
       have HB3:=hide hb3
       clear hb3
       cases PE with
       |none=>
        simp only[pJ]
        have dM:=hide (HB3.out.trans ((below_alloc2 w3 (.cells #[.int .i64 0,.int .i64 0] 27)).mono HB3.out.size))
        have kF:=hide (show eZ W.heap.size nA pS s mb n D blk M T _∧RowKit.Below W.heap.size W _ from⟨HB.out.1.1.below dM.out,HB.out.1.2.trans (dM.out.mono HB.out.1.1.sz)⟩)
        have kP:=hide (And.intro kF.out (HB.out.2.congr (fun x c hc=>H0.next oO.out (.inr (by rw[Zo.out])))))
        go_wp2_with fail
        go_roundw
        case rel=>exact⟨I+1,by omega,by go_num,_,kP⟩
        case measure=>simp[intOf];omega
       |some y=>
        obtain⟨y1,y2⟩:=y
        simp only[pJ]
        have dM:=hide (HB3.out.trans ((below_alloc2 w3 (.cells #[.int .i64 y1,.int .i64 y2] 27)).mono HB3.out.size))
        have kF:=hide (show eZ W.heap.size nA pS s mb n D blk M T (w3.alloc (.cells #[.int .i64 y1,.int .i64 y2] 27))∧RowKit.Below W.heap.size W (w3.alloc (.cells #[.int .i64 y1,.int .i64 y2] 27))from⟨HB.out.1.1.below dM.out,HB.out.1.2.trans (dM.out.mono HB.out.1.1.sz)⟩)
        have n0:(w3.alloc (.cells #[.int .i64 y1,.int .i64 y2] 27)).cell? ⟨nA,0,none⟩=some (.slice (some ⟨db,j6,none⟩) n.dn n.dc):=by rw[← gF.out];exact kF.out.1.nb.1 0 _ rfl
        have k1:=(Hf.out _ dM.out).1
        by_cases hk:r.kind=1
        case neg=>
         have hke:(r.kind ==1)=false:=by simpa using hk
         have kP:=hide (And.intro kF.out (HB.out.2.congr (fun x c hc=>H0.next oO.out (.inl (by show r.kind≠1;exact hk)))))
         go_wp2_with fail
         go_roundw
         case rel=>exact⟨I+1,by omega,by go_num,_,kP⟩
         case measure=>simp[intOf];omega
        case pos=>
         have ha:=HKO.out.qA (.inl hk)
         obtain⟨an,han⟩:∃an:Nat,r.addr=(an:Int):=⟨r.addr.toNat,by have h1:0≤r.addr:=ha.1;omega⟩
         have hk1:=hk
         rw[hk]at k1
         have om:=hide (show r.addr=(an:Int)∧an<16 from⟨han,by have h1:r.addr<16:=ha.2;omega⟩)
         have Hg:=hide hk1
         have aff:an<16:=om.out.2
         clear ha hk hk1 han
         go_wp2_with fail
         clear n0 k1
         have HY:=hide (And.intro (dO.new w3 #[.int .i64 y1,.int .i64 y2] 27) (show w3.heap.size<(w3.alloc (.cells #[.int .i64 y1,.int .i64 y2] 27)).heap.size from by simp))
         have HYO:=hide (And.intro ((HB.out.1.1.below HB3.out).off (Nat.le_refl _)) (Nat.le_trans HB.out.1.1.sz HB3.out.size))
         have Bt:=hide (fI.out _ _ Zo.out)
         have U2:=hide (Zj.out _ Bt.out)
         have HAD:=hide (show db<wr.heap.size from by
          have:=(Hf.out wr (RowKit.Below.refl _ _)).1
          exact jO this)
         generalize World.alloc w3 _=w5 at*
         generalize w3.heap.size=N at*
         go_loopw [11] (fun cv wr=>∃c:Nat,c≤1024∧cv= .int .i64 (c:Int)∧∃T,Hid ((eZ W.heap.size nA pS s mb n D blk M T wr∧RowKit.Below W.heap.size W wr)∧tN n.au n.ls I c T∧dO wr N #[.int .i64 y1,.int .i64 y2])) (fun cv _=>1024 - (intOf cv).toNat)
         case atStart=>exact⟨0,by omega,rfl,_,hide ⟨kF.out,HB.out.2,HY.out.1⟩⟩
         case round=>
          clear HB kF HY dM HB3 HAD Hf
          obtain⟨c,hc,rfl,T,HB⟩:=hrel
          by_cases hcl:c<1024
          case neg=>
           obtain rfl:c=1024:=by omega
           have kP:=hide (show(eZ W.heap.size nA pS s mb n D blk M T wr∧RowKit.Below W.heap.size W wr)∧tN n.au n.ls (I+1) 0 T from⟨HB.out.1,HB.out.2.1.congr (fun x c hc=>H0.row x c)⟩)
           go_wp2_with fail
           go_roundw
           case rel=>exact⟨I+1,by omega,by go_num,_,kP⟩
           case measure=>simp[intOf];omega
          case pos=>
           go_wp2_with fail
           obtain⟨r',hr'⟩:∃r',n.ds[I]?=some r':=⟨_,List.getElem?_eq_getElem (by have:=HN.out.iK;omega)⟩
           have q2:=(fP (gF.out▸HB.out.1.1.net.ds) hr').2.2.2.1
           have hrr:r'.addr=(an:Int):=by
            have h1:n.au[I]?=some r'.dev:=by simp only[aC.au,List.getElem?_map,hr',Option.map_some]
            have h2:=Option.some.inj (oO.out.symm.trans h1)
            have h3:r.addr=r'.addr:=congrArg Dev.addr h2
            rw[← h3]
            exact om.out.1
           rw[hrr]at q2
           clear hrr hr' r'
           have hco:an*1024+c<16384:=by have:=om.out.2;omega
           have n0:wr.cell? ⟨nA,0,none⟩=some (.slice (some ⟨db,j6,none⟩) n.dn n.dc):=by rw[← gF.out];exact HB.out.1.1.nb.1 0 _ rfl
           have iy:=hide (fun(w':World) (h:eZ W.heap.size nA pS s mb n D blk M T w')=>show(Instr.lookup 42 (.map (some mb)) (.agg #[.int .i64 y1,.int .i64 y2]) false).run Tryz.prog w'= .ok (.slice (some ⟨blk (y1,y2),0,none⟩) 16384 16384) w' from by
            have hl:=h.st.mp.IY y1 y2 U2.out.1 U2.out.2
            rw[h.st.val _ Bt.out]at hl
            exact hl)
           have hlk:=iy.out wr.drew (HB.out.1.1.below (RowKit.Below.refl _ _).drew)
           have p0:wr.cell? ⟨pS,0,none⟩=some (.pointer (some ⟨s,0,none⟩)):=HB.out.1.1.sp.1 0 _ rfl
           have p1:wr.cell? ⟨s,1,none⟩=some (.map (some mb)):=HB.out.1.1.st.c1
           have z0:wr.cell? ⟨N,0,none⟩=some (.int .i64 y1):=HB.out.2.2.1 0 _ rfl
           have z1:wr.cell? ⟨N,1,none⟩=some (.int .i64 y2):=HB.out.2.2.1 1 _ rfl
           have t0:wr.cell? ⟨blk (y1,y2),an*1024+c,none⟩=some (.int .i64 (T (y1,y2) (an*1024+c))):=HB.out.1.1.st.tab _ Bt.out _ hco
           have t1:wr.frozen? ⟨blk (y1,y2),an*1024+c,none⟩=false:=HB.out.1.1.fr _ Bt.out _
           have ht0:((an:Int)*1024+(c:Int)).toNat =an*1024+c:=by omega
           have hm1:IntKind.i64.wrap ((an:Int)*1024)=(an:Int)*1024:=by rw[IntKind.wrap_i64];omega
           have hm2:IntKind.i64.wrap ((an:Int)*1024+(c:Int))=(an:Int)*1024+(c:Int):=by rw[IntKind.wrap_i64];omega
           have yQ:(0:Int)≤(an:Int)*1024+(c:Int):=by omega
           have yS:(an:Int)*1024+(c:Int)<16384:=by omega
           generalize T (y1,y2) (an*1024+c)=tv at*
           go_region
           clear q2 n0 hlk p0 p1 z0 z1 t0 t1 ht0 hm1 hm2 yQ yS iy
           have pz:=hide (show(eZ W.heap.size nA pS s mb n D blk M (og T (y1,y2) (an*1024+c) 0) (wr.setCell ⟨blk (y1,y2),an*1024+c,none⟩ (.int .i64 0)).drew ∧RowKit.Below W.heap.size W (wr.setCell ⟨blk (y1,y2),an*1024+c,none⟩ (.int .i64 0)).drew)∧tN n.au n.ls I (c+1) (og T (y1,y2) (an*1024+c) 0)∧dO (wr.setCell ⟨blk (y1,y2),an*1024+c,none⟩ (.int .i64 0)).drew N #[.int .i64 y1,.int .i64 y2]from by
            refine⟨⟨(HB.out.1.1.put Bt.out _ hco 0).below (RowKit.Below.refl _ _).drew,(HB.out.1.2.setCell (HB.out.1.1.tb _ Bt.out).1 _).drew⟩,?_,(HB.out.2.2.far _ _ (Ne.symm (HYO.out.1.1 _ Bt.out))).same rfl⟩
            have h1:=HB.out.2.1.put oO.out (show r.dev.kind=1 from Hg.out) Zo.out hcl
            have h2:r.dev.addr.toNat=an:=by show r.addr.toNat=an;rw[om.out.1];simp
            rw[h2]at h1
            exact h1)
           clear HB
           go_wp2_with fail
           go_roundw
           case rel=>exact⟨c+1,by omega,by go_num,_,pz⟩
           case measure=>simp[intOf];omega
  case pos=>
   as_aux_lemma=>
    have hIi:(I:Int)<n.dn:=by omega
    go_wp2_with fail
    clear n0
    obtain⟨r,hr⟩:∃r,n.ds[I]?=some r:=⟨_,List.getElem?_eq_getElem (by have:=HN.out.iK;omega)⟩
    have oO:=hide (show ds[I]?=some r.dev from by rw[Kz.out.1,List.getElem?_map,hr];rfl)
    have HR:=hide hr
    obtain⟨P,hP⟩:∃P:Nat,(P:Int)=aN r.kind:=⟨(aN r.kind).toNat,by have:=pO r.kind;omega⟩
    have dD:=hide (And.intro hP (pO r.kind))
    have hP4:P≤4:=by have:=pO r.kind;omega
    clear hr hP
    go_loopw [5] (fun kv wr=>∃K:Nat,K≤P∧kv= .int .i64 (K:Int)∧∃(blk:aB→Nat) (M:aB→Option Value),Hid (eZ W.heap.size nA pS s mb n (PD ds I K) blk M (fun _ _=> -1) wr∧RowKit.Below W.heap.size W wr)) (fun kv _=>P - (intOf kv).toNat)
    case atStart=>exact⟨0,Nat.zero_le _,rfl,_,_,HB⟩
    case round=>
     clear HB
     obtain⟨K,hK,rfl,blk,M,HB⟩:=hrel
     have n0:wr.cell? ⟨nA,0,none⟩=some (.slice n.dA n.dn n.dc):=HB.out.1.nb.1 0 _ rfl
     obtain⟨db,j6,gK,_,_⟩:=HB.out.1.net.ds.2 (by omega)
     have q1:=(fP (gK▸HB.out.1.net.ds) HR.out).2.2.1
     rw[gK]at n0
     have mW:=hide (iI r.kind wr)
     rw[← dD.out.1]at mW
     have hcd:=HN.out.cd
     simp only[maxLen]at hcd
     go_wp2_with fail
     clear n0 q1 gK
     refine mW.out.mono ?_
     clear mW
     rintro e w3 ⟨rfl,hb⟩
     have HB3:=hide (And.intro (HB.out.1.below hb) (HB.out.2.trans (hb.mono HB.out.1.sz)))
     clear hb HB
     by_cases hKl:K<P
     case neg=>
      obtain rfl:K=P:=by omega
      have dM:=hide (And.intro (HB3.out.1.Fz (fun x=>PD.row oO.out dD.out.1 x)) HB3.out.2)
      go_wp2_with fail
      go_roundw
      case rel=>exact⟨I+1,by omega,by go_num,_,_,dM⟩
      case measure=>simp[intOf];omega
     case pos=>
      have hmk:=TW
      go_wp2_with fail
      clear hmk
      have dM:=hide (show(eZ W.heap.size nA pS s mb n (PD ds I K) blk M (fun _ _=> -1) (w3.alloc (.cells (madeCells #[.int .i64 0] 16384) 3))∧RowKit.Below W.heap.size W (w3.alloc (.cells (madeCells #[.int .i64 0] 16384) 3)))∧BO (w3.alloc (.cells (madeCells #[.int .i64 0] 16384) 3)) w3.heap.size (fun c=>if c<0 then -1 else 0)∧(∀o,(w3.alloc (.cells (madeCells #[.int .i64 0] 16384) 3)).frozen? ⟨w3.heap.size,o,none⟩=false)∧w3.heap.size<(w3.alloc (.cells (madeCells #[.int .i64 0] 16384) 3)).heap.size from
       ⟨⟨HB3.out.1.below (below_alloc2 w3 _),HB3.out.2.trans ((below_alloc2 w3 _).mono HB3.out.1.sz)⟩,BO.made (Bx.new w3 _ _),fun o=>(Bx.new w3 _ _).frozen o,by simp⟩)
      have Fy:=hide (And.intro (HB3.out.1.off (Nat.le_refl _)) HB3.out.1.sz)
      clear HB3
      generalize World.alloc w3 _=w5 at*
      generalize w3.heap.size=b at*
      go_loopw [7] (fun cv wr=>∃c:Nat,c≤16384∧cv= .int .i64 (c:Int)∧Hid ((eZ W.heap.size nA pS s mb n (PD ds I K) blk M (fun _ _=> -1) wr∧RowKit.Below W.heap.size W wr)∧BO wr b (fun d=>if d<c then -1 else 0)∧(∀o,wr.frozen? ⟨b,o,none⟩=false)∧b<wr.heap.size)) (fun cv _=>16384 - (intOf cv).toNat)
      case atStart=>exact⟨0,by omega,rfl,dM⟩
      case round=>
       clear dM
       obtain⟨c,hc,rfl,HB⟩:=hrel
       by_cases hcl:c<16384
       case pos=>
        have t0:wr.cell? ⟨b,c,none⟩=some (.int .i64 0):=by
         have:=HB.out.2.1 c hcl
         simpa using this
        have f0:wr.frozen? ⟨b,c,none⟩=false:=HB.out.2.2.1 c
        have hci:(c:Int)<16384:=by omega
        have pz:=hide (show(eZ W.heap.size nA pS s mb n (PD ds I K) blk M (fun _ _=> -1) (wr.setCell ⟨b,c,none⟩ (.int .i64 (-1)))∧RowKit.Below W.heap.size W (wr.setCell ⟨b,c,none⟩ (.int .i64 (-1))))∧BO (wr.setCell ⟨b,c,none⟩ (.int .i64 (-1))) b (fun d=>if d<c+1 then -1 else 0)∧(∀o,(wr.setCell ⟨b,c,none⟩ (.int .i64 (-1))).frozen? ⟨b,o,none⟩=false)∧b<(wr.setCell ⟨b,c,none⟩ (.int .i64 (-1))).heap.size from
         ⟨⟨HB.out.1.1.far _ _ Fy.out.1 Fy.out.2,HB.out.1.2.setCell Fy.out.2 _⟩,fun d hd=>by
          have:=HB.out.2.1.set hcl (-1) d hd
          rw[this]
          by_cases e:d=c
          ·simp[e]
          ·have e2:(d<c)↔(d<c+1):=by omega
           simp[e,e2],fun o=>by rw[World.frozen?_setCell];exact HB.out.2.2.1 o,by rw[size_setCell];exact HB.out.2.2.2⟩)
        go_wp2_with fail
        go_roundw
        case rel=>exact⟨c+1,by omega,by go_num,pz⟩
        case measure=>simp[intOf];omega
       case neg=>
        obtain rfl:c=16384:=by omega
        have hxd:PD ds I (K+1) ((I:Int),(K:Int)):=(PD.step oO.out (by show(K:Int)<aN r.kind;rw[← dD.out.1];omega) _).2 (.inr rfl)
        have ru:=hxd.dom Kz.out.2.2
        obtain⟨w6,hrun,Qs,Zp⟩:=HB.out.1.1.st.mp.Jw lW Wq (by rw[Xx];unfold maxLen;omega) (fun y _ hy=>by
         have h1:PD ds I K y:=Classical.byContradiction (fun h=>by rw[HB.out.1.1.st.no y h]at hy;cases hy)
         exact h1.mem Kz.out.2.2) Tryz.underlying42 (a:=((I:Int),(K:Int))) ru (Kq b)
        have HN6:=hide (show eZ W.heap.size nA pS s mb n (PD ds I (K+1)) (fun y=>if y=((I:Int),(K:Int))then b else blk y) (mI M ((I:Int),(K:Int)) (Kq b)) (fun _ _=> -1) w6∧RowKit.Below W.heap.size W w6 from
         ⟨(HB.out.1.1.add (x:=((I:Int),(K:Int))) PD.not HB.out.2.2.2 Fy.out.2 Fy.out.1 (fun d hd=>by
          have:=HB.out.2.1 d hd
          rw[this];simp[hd]) HB.out.2.2.1 Qs Zp).Fz (fun y=>(PD.step oO.out (by show(K:Int)<aN r.kind;rw[← dD.out.1];omega) y).symm),by
          have hg:=Zp.grown
          exact HB.out.1.2.grown hg HB.out.1.1.sz (fun k e=>by cases e;exact(HB.out.1.1.fix mb (.inr (.inr (.inr rfl)))).1)⟩)
        have p0:wr.cell? ⟨pS,0,none⟩=some (.pointer (some ⟨s,0,none⟩)):=HB.out.1.1.sp.1 0 _ rfl
        have p1:wr.cell? ⟨s,1,none⟩=some (.map (some mb)):=HB.out.1.1.st.c1
        simp only[eG,Kq]at hrun
        clear Qs Zp hxd ru HB
        go_wp2_with fail
        go_roundw
        case rel=>exact⟨K+1,by omega,by go_num,_,_,HN6⟩
        case measure=>simp[intOf];omega
end Go.Proofs.YtifkacnoiocebaaGreat
