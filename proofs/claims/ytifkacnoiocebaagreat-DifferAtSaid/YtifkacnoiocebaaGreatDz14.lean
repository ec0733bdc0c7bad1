/- A part of the proof: Vd1, StepClone, KMap, StepKeys, StepStay, StepNext, StepDev. -/
import Derived.Test.YtifkacnoiocebaaGreatDz13
import Derived.Deep.LoopGhost
set_option linter.unusedVariables false
set_option linter.unusedSimpArgs false
set_option maxRecDepth 100000
set_option maxHeartbeats 4000000
namespace Go.Proofs.YtifkacnoiocebaaGreat
open Go.Maps Go.RowKit
def bools (v:Nat→Bool) (n:Nat):Array Value:=((List.range n).map fun i=>Value.bool (v i)).toArray
theorem lM (v:Nat→Bool) {n i:Nat} (h:i<n):(bools v n)[i]?=some (.bool (v i)):=by simp[bools,h]
theorem uP (v:Nat→Bool) (n i:Nat) (b:Bool):(bools v n).setIfInBounds i (.bool b)=bools (fun k=>if k=i then b else v k) n:=by
 apply Array.ext'
 simp only[bools,List.setIfInBounds_toArray]
 apply List.ext_getElem?
 intro k
 rw[List.getElem?_set]
 by_cases hk:k<n
 ·by_cases e:i=k
  ·subst e;simp[hk]
  ·simp[hk,e,Ne.symm e]
 ·simp[hk]
  omega
theorem Tryz.infoBool:(Tryz.prog.info? 4).map (fun i=>(i.zero,i.size,i.bytes))=some (some (.bool false),1,1):=by kernel_rfl
theorem Nv (n:Nat):madeCells (Value.bool false).cells n=bools (fun _=>false) n:=by
 apply Array.ext
 ·simp[madeCells,bools]
 ·intro i h1 h2
  simp[madeCells,bools,Value.cells,Nat.mod_one]
theorem Qc (n:Nat) (hn:n≤1000) (w:World):(Instr.makeSlice 181 (.int .i64 (n:Int)) (.int .i64 (n:Int))).run Tryz.prog w= .ok (.slice (some ⟨w.heap.size,0,none⟩) n n) (w.alloc (.cells (bools (fun _=>false) n) 4)):=by
 obtain⟨i0,hi0,hz0,hz1,hz2⟩:=info_parts Tryz.infoBool
 have h:=run_makeSlice (P:=Tryz.prog) w 181 4 i0 _ Tryz.underlying181 hi0 hz0 .i64 .i64 (n:Int) (n:Int) (by omega) (Int.le_refl _) (by rw[hz1];omega) (by rw[hz2];omega) (by omega)
 rw[h,hz1,Int.toNat_natCast,Nat.mul_one,Nv]
def cO (v:Nat→Bool) (l:ah):Nat→Bool:=if v l.a.toNat=v l.b.toNat then v else fun i=>if i=l.b.toNat then true else if i=l.a.toNat then true else v i
def ig (ls:List ah) (v:Nat→Bool):Nat→Bool:=ls.foldl cO v
def iM (ls:List ah) (v:Nat→Bool):Nat→Nat→Bool
 |0=>v
 |k+1=>ig ls (iM ls v k)
def dG (n:Nat) (v:Nat→Bool):Nat:=(List.range n).countP v
theorem uq (n:Nat) (v:Nat→Bool):dG n v≤n:=by
 have:=List.countP_le_length (p:=v) (l:=List.range n)
 simpa[dG]using this
theorem AZ {n:Nat} {v v':Nat→Bool} (h:∀i,v i=true→v' i=true):dG n v≤dG n v':=List.countP_mono_left (fun i _=>h i)
theorem F7 {n:Nat} {v v':Nat→Bool} (h:∀i,v i=true→v' i=true) {i:Nat} (hi:i<n) (h1:v i=false) (h2:v' i=true):dG n v<dG n v':=
 GN (fun j _=>h j) ⟨i,List.mem_range.2 hi,h2,h1⟩
theorem l9 (v:Nat→Bool) (l:ah) (i:Nat) (h:v i=true):cO v l i=true:=by
 unfold cO
 split
 ·exact h
 ·show(if i=l.b.toNat then true else if i=l.a.toNat then true else v i)=true
  split
  ·rfl
  ·split
   ·rfl
   ·exact h
theorem x9 {n:Nat} {v:Nat→Bool} {l:ah} (ha:l.a.toNat<n) (hb:l.b.toNat<n) (hne:v l.a.toNat≠v l.b.toNat):dG n v<dG n (cO v l):=by
 have hs:cO v l=fun i=>if i=l.b.toNat then true else if i=l.a.toNat then true else v i:=if_neg hne
 cases e:v l.a.toNat
 ·refine F7 (l9 v l) ha e ?_
  rw[hs]
  simp
 ·refine F7 (l9 v l) hb (by rw[e]at hne;cases h:v l.b.toNat;rfl;exact absurd h.symm hne) ?_
  rw[hs]
  simp
def jf (ls:List ah) (i0:Nat) (v:Nat→Bool):Prop:=ig ls v=v∧∃k,v=iM ls (fun i=>decide (i=i0)) k
theorem yK {ls:List ah} {v:Nat→Bool} {k:Nat} (h:ig ls (iM ls v k)=iM ls v k):∀m,k≤m→iM ls v m=iM ls v k:=by
 intro m hm
 induction hm with
 |refl=>rfl
 |step _ ih=>
  show ig ls (iM ls v _)=_
  rw[ih,h]
theorem jf.unique {ls:List ah} {i0:Nat} {v v':Nat→Bool} (h:jf ls i0 v) (h':jf ls i0 v'):v=v':=by
 obtain⟨h1,k,rfl⟩:=h
 obtain⟨h2,k',rfl⟩:=h'
 rcases Nat.le_total k k' with hk | hk
 ·exact(yK h1 k' hk).symm
 ·exact yK h2 k hk
def yL (ls:List ah) (n:Nat):Prop:=∀l∈ls,(0≤l.a∧l.a<n)∧(0≤l.b∧l.b<n)
def aai (n:aC) (i0:Nat) (W:World) (e:Ending) (W':World):Prop:=∃N v,e= .returned (.slice (some ⟨N,0,none⟩) n.dn n.dn)∧W.heap.size≤N∧Bx W' N (bools v n.dn) 4∧jf n.ls i0 v∧RowKit.Below W.heap.size W W'
theorem Qd (n:aC) (i0:Nat) (W:World) (hn:bq W W.heap.size n) (hd:n.dn≤10) (hl:n.ln≤15) (Md:yL n.ls n.dn) (hi:i0<n.dn):
  Calls Tryz.prog 128 #[n.val,.int .i64 (i0:Int)] W (aai n i0 W):=by
 have rX:=hide (fun(w':World) (hb:RowKit.Below W.heap.size W w')=>show bq w' W.heap.size n from hn.below hb (Nat.le_refl _))
 have jL:=hide hn.llen
 have UK:=hide Md
 clear hn Md
 obtain⟨dA,dn,dc,ds,lA,ln,lc,ls⟩:=n
 simp only[aC.val]at*
 have hmb:=fun w=>Qc dn (by omega) w
 have hg0:=lM (fun _=>false) hi
 go_enter Tryz.func128,Tryz.ntmps128
 go_wp2_with fail
 have hst:(bools (fun _=>false) dn).setIfInBounds i0 (.bool true)=bools (fun i=>decide (i=i0)) dn:=by
  rw[uP]
  have e:(fun k=>if k=i0 then true else false)=fun i=>decide (i=i0):=by funext k;by_cases e:k=i0<;>simp[e]
  rw[e]
 rw[hst]
 have hw1:RowKit.Below W.heap.size W ((W.alloc (.cells #[.slice dA dn dc,.slice lA ln lc] 25)).alloc (.cells (bools (fun i=>decide (i=i0)) dn) 4)):=
  ((RowKit.Below.refl _ _).alloc (Nat.le_refl _) _).alloc (by simp) _
 have hx1:=(Bx.new W #[.slice dA dn dc,.slice lA ln lc] 25).below (below_alloc2 (W.alloc (.cells #[.slice dA dn dc,.slice lA ln lc] 25)) (.cells (bools (fun i=>decide (i=i0)) dn) 4))
 have hy1:Bx ((W.alloc (.cells #[.slice dA dn dc,.slice lA ln lc] 25)).alloc (.cells (bools (fun i=>decide (i=i0)) dn) 4)) (W.heap.size+1) (bools (fun i=>decide (i=i0)) dn) 4:=by
  have h:=Bx.new (W.alloc (.cells #[.slice dA dn dc,.slice lA ln lc] 25)) (bools (fun i=>decide (i=i0)) dn) 4
  simpa using h
 have HB1:=hide hw1
 have eF:=hide hx1
 have Me:=hide hy1
 have GQ:=hide (show 0<dG dn (fun i=>decide (i=i0))from by
  have:=F7 (n:=dn) (v:=fun _=>false) (v':=fun i=>decide (i=i0)) (fun i h=>by cases h) hi rfl (by simp)
  omega)
 clear hw1 hx1 hy1 hmb hg0 hst
 generalize World.alloc (World.alloc W _) _=w1 at*
 go_loopg [6] (dn+1 - dG dn (fun i=>decide (i=i0))) (fun m u wr=>∃(more:Bool) (v:Nat→Bool),u= .bool more∧Hid (Bx wr (W.heap.size+1) (bools v dn) 4)∧Hid (Bx wr W.heap.size #[.slice dA dn dc,.slice lA ln lc] 25)∧Hid (RowKit.Below W.heap.size W wr)∧Hid (m=if more then dn+1 - dG dn v else 0)∧Hid (∃k,v=iM ls (fun i=>decide (i=i0)) k)∧Hid (more=false→ig ls v=v))
 case atStart=>exact⟨true,_,rfl,Me,eF,HB1,hide rfl,hide ⟨0,rfl⟩,hide (fun h=>by cases h)⟩
 case round=>
  clear Me eF HB1 GQ
  obtain⟨more,v,rfl,HY,HX,HB,Qe,HIT,yI⟩:=hrel
  cases more
  ·have HF:=hide (And.intro (yI.out rfl) HIT.out)
   go_wp2
   go_ret
   exact⟨_,v,rfl,by omega,HY.out,HF.out,HB.out⟩
  ·clear yI
   have x1:wr.cell? ⟨W.heap.size,1,none⟩=some (.slice lA ln lc):=HX.out.get 1 _ rfl
   go_wp2_with fail
   clear x1
   go_loopw [6,20] (fun u i wr=>∃(k:Nat) (more:Bool) (vk:Nat→Bool),k≤ln∧u= .bool more∧i= .int .i64 (k:Int)∧Hid (Bx wr (W.heap.size+1) (bools vk dn) 4)∧Hid (Bx wr W.heap.size #[.slice dA dn dc,.slice lA ln lc] 25)∧Hid (RowKit.Below W.heap.size W wr)∧Hid (vk=(ls.take k).foldl cO v)∧Hid ((∀i,v i=true→vk i=true)∧((more=false∧vk=v)∨(more=true∧dG dn v<dG dn vk)))) (fun _ i _=>ln - (intOf i).toNat)
   case atStart=>exact⟨0,false,v,Nat.zero_le _,rfl,rfl,HY,HX,HB,hide rfl,hide ⟨fun _ h=>h,.inl ⟨rfl,rfl⟩⟩⟩
   case round=>
    clear HY HX HB
    obtain⟨k,more,vk,hk,rfl,rfl,HY,HX,HB,HV,HM⟩:=hrel
    by_cases hlt:k<ln
    ·obtain⟨r,hr⟩:∃r,ls[k]?=some r:=⟨_,List.getElem?_eq_getElem (by have:=jL.out;omega)⟩
     have hna:=rX.out wr HB.out
     obtain⟨lb,lo,rfl,_,_⟩:=hna.ls.2 (by show 0<ln;omega)
     obtain⟨_,q0,q1,q2,q3⟩:=oM hna.ls hr
     obtain⟨⟨ha1,ha2⟩,hb1,hb2⟩:=UK.out r (List.mem_of_getElem? hr)
     have HST:=hide (show(ls.take (k+1)).foldl cO v=cO vk r from by
      obtain⟨hk',e⟩:=List.getElem?_eq_some_iff.1 hr
      rw[List.take_succ_eq_append_getElem hk',e,List.foldl_append,HV.out]
      rfl)
     clear hna hr
     obtain⟨ra,rp,rb,rq⟩:=r
     simp only at q0 q1 q2 q3 ha1 ha2 hb1 hb2
     obtain⟨an,rfl⟩:∃an:Nat,ra=(an:Int):=⟨ra.toNat,by omega⟩
     obtain⟨bn,rfl⟩:∃bn:Nat,rb=(bn:Int):=⟨rb.toNat,by omega⟩
     have han:an<dn:=by omega
     have hbn:bn<dn:=by omega
     clear ha1 ha2 hb1 hb2
     have lN:=below_alloc2 wr (.cells #[.int .i64 (an:Int),.int .i64 rp,.int .i64 (bn:Int),.int .i64 rq] 85)
     have CR:=hide (HY.out.below lN)
     have rY:=hide (HX.out.below lN)
     have kF:=hide (HB.out.trans (lN.mono HB.out.size))
     have kG:=hide (Bx.new wr #[.int .i64 (an:Int),.int .i64 rp,.int .i64 (bn:Int),.int .i64 rq] 85)
     have XY:W.heap.size+1≠wr.heap.size:=by have:=HY.out.lt;omega
     clear lN
     go_wp2_with fail
     clear q0 q1 q2 q3 HY HX HB
     generalize World.alloc wr _=w8 at*
     generalize wr.heap.size=N8 at*
     obtain⟨va,hva⟩:∃va,vk an=va:=⟨_,rfl⟩
     obtain⟨vb,hvb⟩:∃vb,vk bn=vb:=⟨_,rfl⟩
     have qo:=hide (And.intro hva hvb)
     have Mf:=hide (fun(w':World) (h:Bx w' (W.heap.size+1) (bools vk dn) 4)=>show w'.cell? ⟨W.heap.size+1,an,none⟩=some (.bool va)∧w'.cell? ⟨W.heap.size+1,bn,none⟩=some (.bool vb)from
      ⟨hva▸h.get an _ (lM vk han),hvb▸h.get bn _ (lM vk hbn)⟩)
     clear hva hvb
     refine bB (by kernel_rfl) (by kernel_rfl) ?_
     intro T hT gt hg1 hgi
     have aJ:=hide hg1
     clear hg1 hgi
     have k0:∀t,(gt t).cell? ⟨N8,0,none⟩=some (.int .i64 (an:Int)):=fun t=>(kG.out.below (aJ.out t)).get 0 _ rfl
     have k1:∀t,(gt t).cell? ⟨N8,2,none⟩=some (.int .i64 (bn:Int)):=fun t=>(kG.out.below (aJ.out t)).get 2 _ rfl
     have k2:∀t,(gt t).cell? ⟨W.heap.size+1,an,none⟩=some (.bool va):=fun t=>(Mf.out _ (CR.out.below (aJ.out t))).1
     have k3:∀t,(gt t).cell? ⟨W.heap.size+1,bn,none⟩=some (.bool vb):=fun t=>(Mf.out _ (CR.out.below (aJ.out t))).2
     repeat (go_big_quiet_step (fail))
     refine wpQuiet_nil ?_
     intro _ hw'
     obtain⟨t,rfl⟩:=hw'
     have Ep:=hide (CR.out.below (aJ.out t))
     have qb:=hide (rY.out.below (aJ.out t))
     have rZ:=hide (kG.out.below (aJ.out t))
     have kP:=hide (kF.out.trans ((aJ.out t).mono kF.out.size))
     generalize gt t=w9 at*
     clear aJ k0 k1 k2 k3 CR rY kG kF
     have hab:va≠vb→an≠bn:=fun hne e=>hne (by rw[← qo.out.1,← qo.out.2,e])
     cases va<;>cases vb
     ·have HN:=hide (show(ls.take (k+1)).foldl cO v=vk from by rw[HST.out];unfold cO;rw[if_pos];show vk an=vk bn;rw[qo.out.1,qo.out.2])
      clear hab
      go_wp2_with fail
      go_roundw
      case rel=>exact⟨k+1,more,vk,by omega,rfl,by go_num,Ep,qb,kP,hide HN.out.symm,HM⟩
      case measure=>simp[intOf];omega
     ·have hab:=hab (by decide)
      have Ba:=hide (show vk an≠vk bn from by rw[qo.out.1,qo.out.2];decide)
      have hdr:=(RowKit.Below.refl w9.heap.size w9).drew
      have zF:=hide (Ep.out.below hdr)
      have mM:=hide (qb.out.below hdr)
      have qd:=hide (rZ.out.below hdr)
      have uw:=hide (kP.out.trans (hdr.mono kP.out.size))
      clear hdr Ep qb rZ kP
      go_wp2_with fail
      refine aY (fun w'=>w'.cell? ⟨N8,0,none⟩=some (.int .i64 (an:Int))∧w'.cell? ⟨N8,2,none⟩=some (.int .i64 (bn:Int))) 9 (by kernel_rfl) ⟨qd.out.get 0 _ rfl,qd.out.get 2 _ rfl⟩ (fun hS inv=>?_)
      generalize World.drew w9=wd at*
      revert inv
      refine rP 0 hS ?_
      refine rP 1 hS ?_
      refine rL 2 [6,7,9] rfl hS (by intro w hSw;obtain⟨s0,s1⟩:=hSw;go_simp;try with_reducible rfl) ?_
      refine rP 3 hS ?_
      refine rP 4 hS ?_
      refine rL 5 [8,9] rfl hS (by intro w hSw;obtain⟨s0,s1⟩:=hSw;go_simp;try with_reducible rfl) ?_
      refine rP 6 hS ?_
      intro inv
      have c7:=(Mf.out _ zF.out).1
      have f7:wd.frozen? ⟨W.heap.size+1,an,none⟩=false:=zF.out.frozen an
      refine rO 7 inv fun K hK=>?_
      go_simp
      clear c7 f7
      have wO:=hide (zF.out.set an (.bool true))
      rw[uP]at wO
      have wP:=hide (mM.out.far ⟨W.heap.size+1,an,none⟩ (.bool true) (by show W.heap.size≠W.heap.size+1;omega))
      have wQ:=hide (qd.out.far ⟨W.heap.size+1,an,none⟩ (.bool true) (by show N8≠W.heap.size+1;exact fun e=>XY e.symm))
      have Bb:=hide (uw.out.setCell (show W.heap.size≤W.heap.size+1 by omega) (.bool true) (p:=⟨W.heap.size+1,an,none⟩))
      clear zF mM qd uw hS
      generalize World.setCell wd _ _=jN at*
      have hS:jN.cell? ⟨N8,0,none⟩=some (.int .i64 (an:Int))∧jN.cell? ⟨N8,2,none⟩=some (.int .i64 (bn:Int)):=⟨wQ.out.get 0 _ rfl,wQ.out.get 2 _ rfl⟩
      refine hK.out _ _ (fun _=>hS) ?_
      clear hK K hS inv
      intro inv
      try simp only[Act.put,aK,aL,aM]
      have hS:jN.cell? ⟨N8,0,none⟩=some (.int .i64 (an:Int))∧jN.cell? ⟨N8,2,none⟩=some (.int .i64 (bn:Int)):=⟨wQ.out.get 0 _ rfl,wQ.out.get 2 _ rfl⟩
      revert inv
      refine rP 8 hS ?_
      intro inv
      have c9:=wO.out.get bn _ (lM _ hbn)
      have f9:jN.frozen? ⟨W.heap.size+1,bn,none⟩=false:=wO.out.frozen bn
      refine rT 9 inv fun K hK=>?_
      go_simp
      refine hK.out _ _ ?_
      clear hK K inv
      intro inv
      try simp only[Act.put,aK,aL,aM]
      refine rD ?_
      clear inv
      clear c9 f9 hS
      have Jt:=hide (wO.out.set bn (.bool true))
      rw[uP]at Jt
      have Ju:=hide (wP.out.far ⟨W.heap.size+1,bn,none⟩ (.bool true) (by show W.heap.size≠W.heap.size+1;omega))
      have Sy:=hide (Bb.out.setCell (show W.heap.size≤W.heap.size+1 by omega) (.bool true) (p:=⟨W.heap.size+1,bn,none⟩))
      clear wO wP wQ Bb
      generalize World.setCell jN _ _=XZ at*
      have HN:=hide (show(ls.take (k+1)).foldl cO v=fun i=>if i=bn then true else if i=an then true else vk i from by
       rw[HST.out];exact if_neg Ba.out)
      have qX:=hide (show(∀i,v i=true→(fun i=>if i=bn then true else if i=an then true else vk i) i=true)∧dG dn v<dG dn (fun i=>if i=bn then true else if i=an then true else vk i)from by
       have e:(fun i=>if i=bn then true else if i=an then true else vk i)=cO vk ⟨(an:Int),rp,(bn:Int),rq⟩:=HN.out.symm.trans HST.out
       rw[e]
       refine⟨fun i hi=>l9 _ _ _ (HM.out.1 i hi),?_⟩
       have h1:=x9 (n:=dn) (v:=vk) (l:=⟨(an:Int),rp,(bn:Int),rq⟩) (by simpa using han) (by simpa using hbn) Ba.out
       have h2:dG dn v≤dG dn vk:=AZ HM.out.1
       omega)
      clear hab Ba HST qo Mf HM
      go_wp2_with fail
      go_roundw
      case rel=>exact⟨k+1,true,_,by omega,rfl,by go_num,Jt,Ju,Sy,hide HN.out.symm,hide ⟨qX.out.1,.inr ⟨rfl,qX.out.2⟩⟩⟩
      case measure=>simp[intOf];omega
     ·have hab:=hab (by decide)
      have Ba:=hide (show vk an≠vk bn from by rw[qo.out.1,qo.out.2];decide)
      have hdr:=(RowKit.Below.refl w9.heap.size w9).drew
      have zF:=hide (Ep.out.below hdr)
      have mM:=hide (qb.out.below hdr)
      have qd:=hide (rZ.out.below hdr)
      have uw:=hide (kP.out.trans (hdr.mono kP.out.size))
      clear hdr Ep qb rZ kP
      go_wp2_with fail
      refine aY (fun w'=>w'.cell? ⟨N8,0,none⟩=some (.int .i64 (an:Int))∧w'.cell? ⟨N8,2,none⟩=some (.int .i64 (bn:Int))) 9 (by kernel_rfl) ⟨qd.out.get 0 _ rfl,qd.out.get 2 _ rfl⟩ (fun hS inv=>?_)
      generalize World.drew w9=wd at*
      revert inv
      refine rP 0 hS ?_
      refine rP 1 hS ?_
      refine rL 2 [6,7,9] rfl hS (by intro w hSw;obtain⟨s0,s1⟩:=hSw;go_simp;try with_reducible rfl) ?_
      refine rP 3 hS ?_
      refine rP 4 hS ?_
      refine rL 5 [8,9] rfl hS (by intro w hSw;obtain⟨s0,s1⟩:=hSw;go_simp;try with_reducible rfl) ?_
      refine rP 6 hS ?_
      intro inv
      have c7:=(Mf.out _ zF.out).1
      have f7:wd.frozen? ⟨W.heap.size+1,an,none⟩=false:=zF.out.frozen an
      refine rO 7 inv fun K hK=>?_
      go_simp
      clear c7 f7
      have wO:=hide (zF.out.set an (.bool true))
      rw[uP]at wO
      have wP:=hide (mM.out.far ⟨W.heap.size+1,an,none⟩ (.bool true) (by show W.heap.size≠W.heap.size+1;omega))
      have wQ:=hide (qd.out.far ⟨W.heap.size+1,an,none⟩ (.bool true) (by show N8≠W.heap.size+1;exact fun e=>XY e.symm))
      have Bb:=hide (uw.out.setCell (show W.heap.size≤W.heap.size+1 by omega) (.bool true) (p:=⟨W.heap.size+1,an,none⟩))
      clear zF mM qd uw hS
      generalize World.setCell wd _ _=jN at*
      have hS:jN.cell? ⟨N8,0,none⟩=some (.int .i64 (an:Int))∧jN.cell? ⟨N8,2,none⟩=some (.int .i64 (bn:Int)):=⟨wQ.out.get 0 _ rfl,wQ.out.get 2 _ rfl⟩
      refine hK.out _ _ (fun _=>hS) ?_
      clear hK K hS inv
      intro inv
      try simp only[Act.put,aK,aL,aM]
      have hS:jN.cell? ⟨N8,0,none⟩=some (.int .i64 (an:Int))∧jN.cell? ⟨N8,2,none⟩=some (.int .i64 (bn:Int)):=⟨wQ.out.get 0 _ rfl,wQ.out.get 2 _ rfl⟩
      revert inv
      refine rP 8 hS ?_
      intro inv
      have c9:=wO.out.get bn _ (lM _ hbn)
      have f9:jN.frozen? ⟨W.heap.size+1,bn,none⟩=false:=wO.out.frozen bn
      refine rT 9 inv fun K hK=>?_
      go_simp
      refine hK.out _ _ ?_
      clear hK K inv
      intro inv
      try simp only[Act.put,aK,aL,aM]
      refine rD ?_
      clear inv
      clear c9 f9 hS
      have Jt:=hide (wO.out.set bn (.bool true))
      rw[uP]at Jt
      have Ju:=hide (wP.out.far ⟨W.heap.size+1,bn,none⟩ (.bool true) (by show W.heap.size≠W.heap.size+1;omega))
      have Sy:=hide (Bb.out.setCell (show W.heap.size≤W.heap.size+1 by omega) (.bool true) (p:=⟨W.heap.size+1,bn,none⟩))
      clear wO wP wQ Bb
      generalize World.setCell jN _ _=XZ at*
      have HN:=hide (show(ls.take (k+1)).foldl cO v=fun i=>if i=bn then true else if i=an then true else vk i from by
       rw[HST.out];exact if_neg Ba.out)
      have qX:=hide (show(∀i,v i=true→(fun i=>if i=bn then true else if i=an then true else vk i) i=true)∧dG dn v<dG dn (fun i=>if i=bn then true else if i=an then true else vk i)from by
       have e:(fun i=>if i=bn then true else if i=an then true else vk i)=cO vk ⟨(an:Int),rp,(bn:Int),rq⟩:=HN.out.symm.trans HST.out
       rw[e]
       refine⟨fun i hi=>l9 _ _ _ (HM.out.1 i hi),?_⟩
       have h1:=x9 (n:=dn) (v:=vk) (l:=⟨(an:Int),rp,(bn:Int),rq⟩) (by simpa using han) (by simpa using hbn) Ba.out
       have h2:dG dn v≤dG dn vk:=AZ HM.out.1
       omega)
      clear hab Ba HST qo Mf HM
      go_wp2_with fail
      go_roundw
      case rel=>exact⟨k+1,true,_,by omega,rfl,by go_num,Jt,Ju,Sy,hide HN.out.symm,hide ⟨qX.out.1,.inr ⟨rfl,qX.out.2⟩⟩⟩
      case measure=>simp[intOf];omega
     ·have HN:=hide (show(ls.take (k+1)).foldl cO v=vk from by rw[HST.out];unfold cO;rw[if_pos];show vk an=vk bn;rw[qo.out.1,qo.out.2])
      clear hab
      go_wp2_with fail
      go_roundw
      case rel=>exact⟨k+1,more,vk,by omega,rfl,by go_num,Ep,qb,kP,hide HN.out.symm,HM⟩
      case measure=>simp[intOf];omega
    ·obtain rfl:k=ln:=by omega
     have Al:=hide (show vk=ig ls v from by rw[HV.out,List.take_of_length_le (Nat.le_of_eq jL.out)];rfl)
     go_wp2_with fail
     go_roundg (if more then dn+1 - dG dn vk else 0)
     case measure=>
      have h1:=Qe.out
      rw[if_pos trivial]at h1
      have h2:=uq dn v
      have h3:=uq dn vk
      rcases HM.out.2 with⟨rfl,_⟩ | ⟨rfl,hc⟩
      ·simp;omega
      ·simp;omega
     case rel=>
      exact⟨more,vk,rfl,HY,HX,HB,hide rfl,hide (by
       obtain⟨j,hj⟩:=HIT.out
       exact⟨j+1,by rw[Al.out,hj];rfl⟩),hide (fun hm=>by
       rcases HM.out.2 with⟨_,h⟩ | ⟨h,_⟩
       ·rw[h];rw[← Al.out];exact h
       ·rw[hm]at h;cases h)⟩
end Go.Proofs.YtifkacnoiocebaaGreat
namespace Go.Proofs.YtifkacnoiocebaaGreat
open Go.ChangeAt Go.ChangeShapes Go.RowKit Go.WideShapes
theorem ah.one (r:ah):∀u∈r.cells,u.oneCell'=true:=by
 intro u hu
 simp only[ah.cells,List.mem_cons,List.not_mem_nil,or_false]at hu
 rcases hu with rfl | rfl | rfl | rfl<;>rfl
def nI (k:Int):List Value:=[.int .i64 k]
theorem wR (k:Int):(nI k).length =1:=rfl
theorem Jv (k:Int):∀u∈nI k,u.oneCell'=true:=by
 intro u hu
 simp only[nI,List.mem_cons,List.not_mem_nil,or_false]at hu
 subst hu;rfl
theorem Tryz.infoLink:(Tryz.prog.info? 85).map (fun i=>(i.zero,i.size,i.bytes))=some (some (.agg #[.int .i64 0,.int .i64 0,.int .i64 0,.int .i64 0]),4,32):=by kernel_rfl
theorem Tryz.infoDevice:(Tryz.prog.info? 81).map (fun i=>(i.zero,i.size,i.bytes))=some (some (.agg #[.string ⟨#[]⟩,.int .i64 0,.int .i64 0,.int .u8 0,.slice none 0 0,.slice none 0 0,.slice none 0 0]),7,112):=by kernel_rfl
theorem Ip (l:List Int) (A:Option Addr) (n c:Nat) (W:World) (hn:n≤1048576) (hl:bD nI 1 W W.heap.size A n l):
  Calls Tryz.prog 129 #[.slice A n c] W fun e W'=>
   ∃v,e= .returned v∧W'.ownsRow W.heap.size 3 1 v n (l.flatMap nI)∧Below W.heap.size W W':=by
 obtain⟨i0,hi0,hz0,hz1,hz2⟩:=info_parts Tryz.infoInt
 rcases A with _ | ad
 ·have hn0:n=0:=by
   rcases Nat.eq_zero_or_pos n with h | h
   ·exact h
   ·obtain⟨b,o,e,_⟩:=hl.2 h;cases e
  subst hn0
  have:l=[]:=List.eq_nil_of_length_eq_zero hl.1
  subst this
  have heq:=fun w=>Lib.run_eql_slice_nil (P:=Tryz.prog) w _ _ none 0 c 0 0 Tryz.underlying55
  go_enter Tryz.func129,Tryz.ntmps129
  go_wp2
  go_ret
  exact⟨_,rfl,World.ownsRow_nil _ _ _ _,Below.refl _ _⟩
 ·have HR:=hide (hl.reads wR (by omega))
  clear hl
  have heq:=fun w=>Lib.run_eql_slice_nil (P:=Tryz.prog) w _ _ (some ad) n c 0 0 Tryz.underlying55
  go_enter Tryz.func129,Tryz.ntmps129
  go_wp2_with (at_builtin;refine aT _ rfl (.tmp 5) (.tmp 6) 55 rfl W.heap.size 3 i0 _ 1 8 Tryz.underlying55 hi0 hz0 hz1 hz2 rfl (by omega) (.slice (some ⟨W.heap.size,0,none⟩) 0 0) 0 [] rfl (World.ownsRow_lit _ #[] 0 (Nat.le_refl _) (by decide) rfl) W.heap.size (some ad) n c _ rfl (HR.out.alloc (Nat.le_refl _) _) (Dy Jv l) (by simp only[maxLen];omega) (by omega) (by simp) ?_;intro v1 w1 hown1 hg1 I8)
  go_ret
  refine⟨v1,rfl,by simpa using hown1,((Below.refl _ _).alloc (Nat.le_refl _) _).grown hg1 (by simp) (fun k hk=>?_)⟩
  simp[Value.ownBlock]at hk
  omega
end Go.Proofs.YtifkacnoiocebaaGreat
namespace Go.Proofs.YtifkacnoiocebaaGreat
open Go.Maps Go.RowKit Go.WideElems
structure qY {α:Type} (P:Program) (kt:TypeId) (key:α→Value) (dom:α→Prop):Prop where
 law:Keyed P kt
 total:∀a,dom a→∃kl,keyOf P kt (key a)=some kl
 inj:∀a a',key a=key a'→a=a'
section
variable {α:Type} {P:Program} {kt:TypeId} {key:α→Value} {dom:α→Prop} {w w':World} {b:Nat} {M:α→Option Value}
theorem aV.aaj (h:aV P kt key dom w b M) (K:qY P kt key dom) (L:List α) (hL:L.length<maxLen) (hall:∀a,dom a→(M a).isSome =true→a∈L):∃D,w.ownsMap P kt uI b (Maps.size D) D∧Maps.size D<maxLen∧
  (∀a,dom a→∀kl,keyOf P kt (key a)=some kl→Maps.has D kl=(M a).isSome ∧∀z,D.atKey kl (.held z)= .held ((M a).getD z))∧
  (∀kl,Maps.has D kl=true→∃a,dom a∧keyOf P kt (key a)=some kl):=by
 obtain⟨D,h1,h2,h3⟩:=h
 refine⟨D,h1,?_,h2,h3⟩
 have ht:=h1.tidy K.law
 obtain⟨es,rfl,hp⟩:=ht
 have hk:∀p∈es,WideAt.IsKeyLit p.1:=by
  obtain⟨es',clock,_,F,_,hD⟩:=h1
  simp only[DataW.map.injEq]at hD
  intro p hpm
  rw[hD]at hpm
  have hm:=(Go.WideShapes.sorted_perm _).mem_iff.1 hpm
  obtain⟨v,hv⟩:=fit_keys F p hm
  exact K.law.key hv
 have hsz:es.length≤(L.filterMap fun a=>keyOf P kt (key a)).length :=by
  have:=nE (es.map (·.1)) (L.filterMap fun a=>keyOf P kt (key a)) (by
   rw[List.nodup_iff_pairwise_ne,List.pairwise_map];exact hp) (fun kl hkl=>by
   obtain⟨p,hpm,rfl⟩:=List.mem_map.1 hkl
   have hh:Maps.has (.map es) p.1=true:=by
    rw[Maps.has_eq,List.any_eq_true]
    exact⟨p,hpm,WideAt.sameKey_self (hk p hpm)⟩
   obtain⟨a,ha,hka⟩:=h3 p.1 hh
   exact List.mem_filterMap.2 ⟨a,hall a ha ((h2 a ha _ hka).1.symm.trans hh),hka⟩)
  simpa using this
 have:=List.length_filterMap_le (fun a=>keyOf P kt (key a)) L
 show es.length<maxLen
 omega
theorem aV.UL {t et:TypeId} (h:aV P kt key dom w b M) (K:qY P kt key dom) (ht:P.underlying t=some (.map kt et)) {z:Value} (hz:(zeroValue et).run P w= .ok z w) {a:α} (ha:dom a):
  (Instr.lookup t (.map (some b)) (key a) true).run P w= .ok (.tuple #[(M a).getD z,.bool (M a).isSome]) w∧(Instr.lookup t (.map (some b)) (key a) false).run P w= .ok ((M a).getD z) w:=by
 obtain⟨D,h1,h2,h3⟩:=h
 obtain⟨kl,hkl⟩:=K.total a ha
 obtain⟨e1,e2⟩:=h2 a ha kl hkl
 obtain⟨v,ps,hrun,hv⟩:=h1.look_ok K.law ht hz (zd:=.held z) (zp:=[]) rfl hkl
 obtain⟨v',ps',hrun',hv'⟩:=h1.lookup K.law ht hz (zd:=.held z) (zp:=[]) rfl hkl
 rw[e2 z]at hv hv'
 simp only[uI,Option.some.injEq,Prod.mk.injEq,DataW.held.injEq]at hv hv'
 rw[hrun,hrun',e1,hv.1,hv'.1]
 exact⟨rfl,rfl⟩
theorem aV.Jw [DecidableEq α] {t et:TypeId} (h:aV P kt key dom w b M) (K:qY P kt key dom) (L:List α) (hL:L.length<maxLen) (hall:∀a,dom a→(M a).isSome =true→a∈L) (ht:P.underlying t=some (.map kt et)) {a:α} (ha:dom a) (v:Value):
  ∃w',(Instr.mapUpdate t (.map (some b)) (key a) v).run P w= .ok () w'∧aV P kt key dom w' b (mI M a v)∧w.mapTurned w' b:=by
 obtain⟨D,h1,hn,h2,h3⟩:=h.aaj K L hL hall
 obtain⟨kl,hkl⟩:=K.total a ha
 obtain⟨w',hrun,r1,r2⟩:=h1.store K.law ht hn hkl (val:=v) (d:=.held v) (ps:=[]) rfl
 have hD:IsMap D:=(h1.tidy K.law).isMap
 refine⟨w',hrun,⟨D.put kl (.held v),Ai r1,?_,?_⟩,r2⟩
 ·intro a' ha' kl' hkl'
  by_cases e:a'=a
  ·subst e
   have:kl'=kl:=Option.some.inj (hkl'.symm.trans hkl)
   subst this
   rw[lG]
   exact⟨Maps.has_put_same hD (K.law.key hkl) _,fun z=>Maps.atKey_put_same hD (K.law.key hkl) _ _⟩
  ·rw[jc M v e]
   have hne:kl'≠kl:=fun ek=>by subst ek;exact e (K.inj _ _ (K.law.inj hkl' hkl))
   rw[Maps.has_put_other hne]
   obtain⟨q1,q2⟩:=h2 a' ha' kl' hkl'
   exact⟨q1,fun z=>by rw[Maps.atKey_put_other hne];exact q2 z⟩
 ·intro kl' hkl'
  by_cases e:kl'=kl
  ·subst e;exact⟨a,ha,hkl⟩
  ·rw[Maps.has_put_other e]at hkl'
   exact h3 kl' hkl'
end
section
variable {α:Type} {P:Program} {kt:TypeId} {key:α→Value} {dom:α→Prop} {b:Nat} {M:α→Option Value} (w:World)
end
abbrev aB:=Int×Int
def eG (k:aB):Value:=.agg #[.int .i64 k.1,.int .i64 k.2]
def eU (k:aB):Prop:=aO k.1∧aO k.2
theorem Qf (a b:aB) (h:eG a=eG b):a=b:=by
 obtain⟨a0,a1⟩:=a
 obtain⟨b0,b1⟩:=b
 simp only[eG,Value.agg.injEq,Array.mk.injEq,List.cons.injEq,Value.int.injEq,true_and,and_true]at h
 obtain⟨rfl,rfl⟩:=h
 rfl
theorem Jy {x:Int} (h:aO x):(Lit.int .i64 x).wf =true:=by
 have hx: -9223372036854775808≤x∧x≤9223372036854775807:=h
 simpa[Lit.wf,IntKind.min,IntKind.max,IntKind.signed,IntKind.bits]using hx
theorem Sz {P:Program} {k i:TypeId} {f1 f2:Field} (hu:P.underlying k=some (.struct #[f1,f2])) (h1:f1.type=i∧f1.offset=0∧f1.name≠ "_") (h2:f2.type=i∧f2.offset=1∧f2.name≠ "_")
  (hi:P.underlying i=some (.int .i64)) (hk:P.keyType k=true) (hc:P.cellsOf k=2) (hci:P.cellsOf i=1) (hm:∃m,P.types.size=m+1) (t:aB) (ht:eU t):∃kl,keyOf P k (eG t)=some kl:=by
 obtain⟨a,b⟩:=t
 have w1:=Jy ht.1
 have w2:=Jy ht.2
 obtain⟨m,hm⟩:=hm
 unfold keyOf
 rw[hu]
 simp[hk,Value.formed,hu,eG,hc,Value.cells,hm,Program.keyLits,hci,hi,w1,w2,h1,h2]
end Go.Proofs.YtifkacnoiocebaaGreat
namespace Go.Proofs.YtifkacnoiocebaaGreat
open Go.RowKit
def bG (p:Nat→Prop) (w w':World):Prop:=∀(a:Addr) (v:Value),p a.block→w.cell? a=some v→w'.cell? a=some v
section
variable {p:Nat→Prop} {w w' w'':World} {B B' n:Nat} {A:Option Addr}
theorem jO {a:Addr} {v:Value} (h:w.cell? a=some v):a.block<w.heap.size:=by
 by_cases hl:a.block<w.heap.size
 ·exact hl
 ·exfalso
  have hn:w.heap[a.block]?=none:=Array.getElem?_eq_none (by omega)
  simp[World.cell?,hn]at h
theorem bG.trans (h:bG p w w') (h':bG p w' w''):bG p w w'':=fun a v hp hv=>h' a v hp (h a v hp hv)
theorem bG.of_below (h:Below B w w'):bG (fun k=>k<B) w w':=fun a v hp hv=>(h.cell (p:=a) hp).trans hv
theorem bG.l7 {row:Option Nat} (h:w.grownBy w' row):bG (fun k=>some k≠row) w w':=fun a v hp hv=>
 (World.cell?_of_block (h.block a.block (jO hv) hp)).trans hv
theorem bG.kH (q:Addr) (u:Value):bG (fun k=>k≠q.block) w (w.setCell q u):=fun a v hp hv=>
 (World.cell?_of_block (Below.heap_setCell w q u a.block hp)).trans hv
theorem bG.weak {q:Nat→Prop} (h:bG p w w') (hq:∀k,q k→p k):bG q w w':=fun a v hp hv=>h a v (hq _ hp) hv
theorem bD.stay {α:Type} {cells:α→List Value} {s:Nat} {l:List α} (h:bD cells s w B A n l) (hs:bG p w w') (hp:∀a,A=some a→p a.block) (hB:B≤B'):bD cells s w' B' A n l:=
 ⟨h.1,fun h0=>by
  obtain⟨b,o,e,hb,hg⟩:=h.2 h0
  exact⟨b,o,e,by omega,fun k r hr j v hv=>hs _ _ (show p b from hp _ e) (hg k r hr j v hv)⟩⟩
theorem cu.stay {l:List Int} (h:cu w B A n l) (hs:bG p w w') (hp:∀a,A=some a→p a.block) (hB:B≤B'):cu w' B' A n l:=
 ⟨h.1,h.2.1,fun h0=>by
  obtain⟨b,o,e,hb,hg⟩:=h.2.2 h0
  exact⟨b,o,e,by omega,fun k x hx=>hs _ _ (show p b from hp _ e) (hg k x hx)⟩⟩
theorem gG.stay {l:List bg} (h:gG w B A n l) (hs:bG p w w') (hp:∀a,A=some a→p a.block) (hB:B≤B'):gG w' B' A n l:=
 (h.sl.stay hs hp hB).rules h.2.1
structure pR (p:Nat→Prop) (d:ak):Prop where
 b:∀a,d.bA=some a→p a.block
 r:∀a,d.rA=some a→p a.block
 t:∀a,d.tA=some a→p a.block
theorem pR.weak {q:Nat→Prop} {d:ak} (h:pR p d) (hq:∀k,p k→q k):pR q d:=⟨fun a e=>hq _ (h.b a e),fun a e=>hq _ (h.r a e),fun a e=>hq _ (h.t a e)⟩
theorem bW.stay {d:ak} (h:bW w B d) (hs:bG p w w') (hp:pR p d) (hB:B≤B'):bW w' B' d:=
 ⟨h.nm,h.kd,h.ad,h.pl,h.bs.stay hs hp.b hB,h.rs.stay hs hp.r hB,h.ts.stay hs hp.t hB,h.tok,h.cb,h.cr,h.ct⟩
theorem bq.stay {m:aC} (h:bq w B m) (hs:bG p w w') (hd:∀a,m.dA=some a→p a.block) (hl:∀a,m.lA=some a→p a.block) (ho:∀d∈m.ds,pR p d) (hB:B≤B'):bq w' B' m:=
 { ds:=h.ds.stay hs hd hB,qW:=fun d hm=>(h.qW d hm).stay hs (ho d hm) hB,ls:=h.ls.stay hs hl hB,L6:=h.L6,cd:=h.cd,cl:=h.cl }
end
section
variable {α:Type} {P:Program} {kt:TypeId} {key:α→Value} {dom:α→Prop} {w w':World} {b c:Nat} {M:α→Option Value}
end
open Go.ChangeAt Go.ChangeShapes Go.WideShapes
theorem uy {w:World} {base e s m n c:Nat} {A:Option Addr} {xs:List Value} (h:w.ownsRow base e s (.slice A n c) m xs):c≤maxLen:=by
 rcases h.2 with⟨e,_⟩ | ⟨q,cap,cur,e,r⟩
 ·simp only[Value.slice.injEq]at e;rw[e.2.2];exact Nat.zero_le _
 ·simp only[Value.slice.injEq]at e;rw[e.2.2];exact r.2.2.2.1
theorem WQ {w:World} {B n:Nat} {A:Option Addr} {l:List Int} (h:cu w B A n l):bD nI 1 w B A n l:=
 ⟨h.1,fun h0=>by
  obtain⟨b,o,e,hb,hg⟩:=h.2.2 h0
  refine⟨b,o,e,hb,fun k r hr j v hv=>?_⟩
  match j,hv with
  |0,hv=>cases hv;rw[Nat.mul_one];exact hg k r hr⟩
def qD (w:World) (N:Nat) (d:ak):Prop:=gQ w N d∧∀o,w.frozen? ⟨N,o,none⟩=false
theorem qD.below {w w':World} {B N:Nat} {d:ak} (h:qD w N d) (hB:Below B w w') (hN:N<B):qD w' N d:=
 ⟨h.1.below hB hN,fun o=>(hB.frozen (p:=⟨N,o,none⟩) hN).trans (h.2 o)⟩
theorem qD.new (w:World) (d:ak) (t:TypeId):qD (w.alloc (.cells #[.string d.name,.int .i64 d.kind,.int .i64 d.addr,.int .u8 d.pool,.slice d.bA d.bn d.bc,.slice d.rA d.rn d.rc,.slice d.tA d.tn d.tc] t)) w.heap.size d:=
 ⟨gQ.new w d t,fun o=>by unfold World.frozen?;rw[heap_alloc_new w _];simp⟩
theorem WR {w:World} {B n:Nat} {A:Option Addr} {l:List Int} (h:bD nI 1 w B A n l) (ho:∀x∈l,aO x):cu w B A n l:=
 ⟨h.1,ho,fun h0=>by
  obtain⟨b,o,e,hb,hg⟩:=h.2 h0
  refine⟨b,o,e,hb,fun k x hx=>?_⟩
  have:=hg k x hx 0 _ rfl
  rwa [Nat.mul_one]at this⟩
def qg (w:World) (N:Nat) (u v t:Value):World:=((w.setCell ⟨N,4,none⟩ u).setCell ⟨N,5,none⟩ v).setCell ⟨N,6,none⟩ t
theorem Qg (w:World) (N:Nat) (u v t:Value):(qg w N u v t).heap.size =w.heap.size:=by simp[qg,World.setCell]
theorem qD.qg {w:World} {N:Nat} {d:ak} (h:qD w N d) (B1 B2 B3:Option Addr) (n1 n2 n3 e1 e2 e3:Nat) (b:List Int) (r:List bg) (t:List aG):
  qD (qg w N (.slice B1 n1 e1) (.slice B2 n2 e2) (.slice B3 n3 e3)) N ⟨d.name,d.kind,d.addr,d.pool,B1,n1,e1,b,B2,n2,e2,r,B3,n3,e3,t⟩:=by
 obtain⟨⟨x0,x1,x2,x3,x4,x5,x6⟩,xf⟩:=h
 have o:∀(w:World) (a b:Nat) (u v:Value),b≠a→w.cell? ⟨N,b,none⟩=some u→(w.setCell ⟨N,a,none⟩ v).cell? ⟨N,b,none⟩=some u:=fun w a b u v hne hu=>by
  rw[World.cell?_setCell_other _ _ _ _ (by simp[hne])];exact hu
 have s:∀(w:World) (a:Nat) (u v:Value),w.cell? ⟨N,a,none⟩=some u→(w.setCell ⟨N,a,none⟩ v).cell? ⟨N,a,none⟩=some v:=fun w a u v hu=>World.cell?_setCell_same _ _ _ hu
 unfold Go.Proofs.YtifkacnoiocebaaGreat.qg
 refine⟨⟨?_,?_,?_,?_,?_,?_,?_⟩,fun q=>by rw[World.frozen?_setCell,World.frozen?_setCell,World.frozen?_setCell];exact xf q⟩
 ·exact o _ _ _ _ _ (by omega) (o _ _ _ _ _ (by omega) (o _ _ _ _ _ (by omega) x0))
 ·exact o _ _ _ _ _ (by omega) (o _ _ _ _ _ (by omega) (o _ _ _ _ _ (by omega) x1))
 ·exact o _ _ _ _ _ (by omega) (o _ _ _ _ _ (by omega) (o _ _ _ _ _ (by omega) x2))
 ·exact o _ _ _ _ _ (by omega) (o _ _ _ _ _ (by omega) (o _ _ _ _ _ (by omega) x3))
 ·exact o _ _ _ _ _ (by omega) (o _ _ _ _ _ (by omega) (s _ _ _ _ x4))
 ·exact o _ _ _ _ _ (by omega) (s _ _ _ _ (o _ _ _ _ _ (by omega) x5))
 ·exact s _ _ _ _ (o _ _ _ _ _ (by omega) (o _ _ _ _ _ (by omega) x6))
theorem Qh (w:World) (N:Nat) (u v t:Value):bG (fun q=>q≠N) w (qg w N u v t):=
 ((bG.kH ⟨N,4,none⟩ u).trans (bG.kH ⟨N,5,none⟩ v)).trans (bG.kH ⟨N,6,none⟩ t)
theorem Nw {w w':World} {B N:Nat} (h:Below B w w') (hN:B≤N) (u v t:Value):Below B w (qg w' N u v t):=
 ((h.setCell (by exact hN) _).setCell (by exact hN) _).setCell (by exact hN) _
end Go.Proofs.YtifkacnoiocebaaGreat
