/- A part of the proof: StepClone, KMap, StepKeys, StepStay, NetCheckP. -/
import Derived.Test.YtlhmdcgckocidaaGreatHr6
set_option linter.unusedVariables false
set_option linter.unusedSimpArgs false
set_option maxRecDepth 100000
namespace Go.Proofs.YtlhmdcgckocidaaGreat
open Go.ChangeAt Go.ChangeShapes Go.RowKit Go.WideShapes
theorem av.one (r:av):∀u∈r.cells,u.oneCell'=true:=by
 intro u hu
 simp only[av.cells,List.mem_cons,List.not_mem_nil,or_false]at hu
 rcases hu with rfl | rfl | rfl | rfl<;>rfl
def ny (k:Int):List Value:=[.int .i64 k]
theorem wN (k:Int):(ny k).length =1:=rfl
theorem Mg (k:Int):∀u∈ny k,u.oneCell'=true:=by
 intro u hu
 simp only[ny,List.mem_cons,List.not_mem_nil,or_false]at hu
 subst hu;rfl
theorem Tryz.infoLink:(Tryz.prog.info? 128).map (fun i=>(i.zero,i.size,i.bytes))=some (some (.agg #[.int .i64 0,.int .i64 0,.int .i64 0,.int .i64 0]),4,32):=by kernel_rfl
theorem Tryz.infoDevice:(Tryz.prog.info? 86).map (fun i=>(i.zero,i.size,i.bytes))=some (some (.agg #[.string ⟨#[]⟩,.int .i64 0,.int .i64 0,.int .u8 0,.slice none 0 0,.slice none 0 0,.slice none 0 0]),7,112):=by kernel_rfl
theorem yV (l:List av) (A:Option Addr) (n c:Nat) (W:World) (hn:n≤1048576) (hl:bB av.cells 4 W W.heap.size A n l):
  Calls Tryz.prog 77 #[.slice A n c] W fun e W'=>
   ∃v,e= .returned v∧W'.ownsRow W.heap.size 128 4 v n (l.flatMap av.cells)∧Below W.heap.size W W':=by
 obtain⟨i0,hi0,hz0,hz1,hz2⟩:=info_parts Tryz.infoLink
 rcases A with _ | ad
 ·have hn0:n=0:=by
   rcases Nat.eq_zero_or_pos n with h | h
   ·exact h
   ·obtain⟨b,o,e,_⟩:=hl.2 h;cases e
  subst hn0
  have:l=[]:=List.eq_nil_of_length_eq_zero hl.1
  subst this
  have heq:=fun w=>Lib.run_eql_slice_nil (P:=Tryz.prog) w _ _ none 0 c 0 0 Tryz.underlying23
  go_enter Tryz.func77,Tryz.ntmps77
  go_wp2
  go_ret
  exact⟨_,rfl,World.ownsRow_nil _ _ _ _,Below.refl _ _⟩
 ·have HR:=hide (hl.reads av.len (by omega))
  clear hl
  have heq:=fun w=>Lib.run_eql_slice_nil (P:=Tryz.prog) w _ _ (some ad) n c 0 0 Tryz.underlying23
  go_enter Tryz.func77,Tryz.ntmps77
  go_wp2_with (at_builtin;refine bM _ rfl (.tmp 5) (.tmp 6) 23 rfl W.heap.size 128 i0 _ 4 32 Tryz.underlying23 hi0 hz0 hz1 hz2 rfl (by omega) (.slice (some ⟨W.heap.size,0,none⟩) 0 0) 0 [] rfl (World.ownsRow_lit _ #[] 0 (Nat.le_refl _) (by decide) rfl) W.heap.size (some ad) n c _ rfl (HR.out.alloc (Nat.le_refl _) _) (wJ av.one l) (by simp only[maxLen];omega) (by omega) (by simp) ?_;intro v1 w1 hown1 hg1 OE)
  go_ret
  refine⟨v1,rfl,by simpa using hown1,((Below.refl _ _).alloc (Nat.le_refl _) _).grown hg1 (by simp) (fun k hk=>?_)⟩
  simp[Value.ownBlock]at hk
  omega
theorem II (l:List Int) (A:Option Addr) (n c:Nat) (W:World) (hn:n≤1048576) (hl:bB ny 1 W W.heap.size A n l):
  Calls Tryz.prog 134 #[.slice A n c] W fun e W'=>
   ∃v,e= .returned v∧W'.ownsRow W.heap.size 3 1 v n (l.flatMap ny)∧Below W.heap.size W W':=by
 obtain⟨i0,hi0,hz0,hz1,hz2⟩:=info_parts Tryz.infoInt
 rcases A with _ | ad
 ·have hn0:n=0:=by
   rcases Nat.eq_zero_or_pos n with h | h
   ·exact h
   ·obtain⟨b,o,e,_⟩:=hl.2 h;cases e
  subst hn0
  have:l=[]:=List.eq_nil_of_length_eq_zero hl.1
  subst this
  have heq:=fun w=>Lib.run_eql_slice_nil (P:=Tryz.prog) w _ _ none 0 c 0 0 Tryz.underlying67
  go_enter Tryz.func134,Tryz.ntmps134
  go_wp2
  go_ret
  exact⟨_,rfl,World.ownsRow_nil _ _ _ _,Below.refl _ _⟩
 ·have HR:=hide (hl.reads wN (by omega))
  clear hl
  have heq:=fun w=>Lib.run_eql_slice_nil (P:=Tryz.prog) w _ _ (some ad) n c 0 0 Tryz.underlying67
  go_enter Tryz.func134,Tryz.ntmps134
  go_wp2_with (at_builtin;refine bM _ rfl (.tmp 5) (.tmp 6) 67 rfl W.heap.size 3 i0 _ 1 8 Tryz.underlying67 hi0 hz0 hz1 hz2 rfl (by omega) (.slice (some ⟨W.heap.size,0,none⟩) 0 0) 0 [] rfl (World.ownsRow_lit _ #[] 0 (Nat.le_refl _) (by decide) rfl) W.heap.size (some ad) n c _ rfl (HR.out.alloc (Nat.le_refl _) _) (wJ Mg l) (by simp only[maxLen];omega) (by omega) (by simp) ?_;intro v1 w1 hown1 hg1 OE)
  go_ret
  refine⟨v1,rfl,by simpa using hown1,((Below.refl _ _).alloc (Nat.le_refl _) _).grown hg1 (by simp) (fun k hk=>?_)⟩
  simp[Value.ownBlock]at hk
  omega
end Go.Proofs.YtlhmdcgckocidaaGreat
namespace Go.Proofs.YtlhmdcgckocidaaGreat
open Go.Maps Go.RowKit Go.WideElems
structure lg {α:Type} (P:Program) (kt:TypeId) (key:α→Value) (dom:α→Prop):Prop where
 law:Keyed P kt
 total:∀a,dom a→∃kl,keyOf P kt (key a)=some kl
 inj:∀a a',key a=key a'→a=a'
def rM {α:Type} [DecidableEq α] (M:α→Option Value) (a:α):α→Option Value:=fun x=>if x=a then none else M x
section
variable {α:Type} {P:Program} {kt:TypeId} {key:α→Value} {dom:α→Prop} {w w':World} {b:Nat} {M:α→Option Value}
theorem aS.acL (h:aS P kt key dom w b M) (K:lg P kt key dom) (L:List α) (hL:L.length<maxLen) (hall:∀a,dom a→(M a).isSome =true→a∈L):∃D,w.ownsMap P kt uM b (Maps.size D) D∧Maps.size D<maxLen∧
  (∀a,dom a→∀kl,keyOf P kt (key a)=some kl→Maps.has D kl=(M a).isSome ∧∀z,D.atKey kl (.held z)= .held ((M a).getD z))∧
  (∀kl,Maps.has D kl=true→∃a,dom a∧keyOf P kt (key a)=some kl):=by
 obtain⟨D,h1,h2,h3⟩:=h
 refine⟨D,h1,?_,h2,h3⟩
 have ht:=h1.tidy K.law
 obtain⟨es,rfl,hp⟩:=ht
 have hk:∀p∈es,WideAt.IsKeyLit p.1:=by
  obtain⟨es',clock,_,F,_,hD⟩:=h1
  simp only[DataW.map.injEq]at hD
  intro p hpm
  rw[hD]at hpm
  have hm:=(Go.WideShapes.sorted_perm _).mem_iff.1 hpm
  obtain⟨v,hv⟩:=fit_keys F p hm
  exact K.law.key hv
 have hsz:es.length≤(L.filterMap fun a=>keyOf P kt (key a)).length :=by
  have:=rU (es.map (·.1)) (L.filterMap fun a=>keyOf P kt (key a)) (by
   rw[List.nodup_iff_pairwise_ne,List.pairwise_map];exact hp) (fun kl hkl=>by
   obtain⟨p,hpm,rfl⟩:=List.mem_map.1 hkl
   have hh:Maps.has (.map es) p.1=true:=by
    rw[Maps.has_eq,List.any_eq_true]
    exact⟨p,hpm,WideAt.sameKey_self (hk p hpm)⟩
   obtain⟨a,ha,hka⟩:=h3 p.1 hh
   exact List.mem_filterMap.2 ⟨a,hall a ha ((h2 a ha _ hka).1.symm.trans hh),hka⟩)
  simpa using this
 have:=List.length_filterMap_le (fun a=>keyOf P kt (key a)) L
 show es.length<maxLen
 omega
theorem aS.Cn {t et:TypeId} (h:aS P kt key dom w b M) (K:lg P kt key dom) (ht:P.underlying t=some (.map kt et)) {z:Value} (hz:(zeroValue et).run P w= .ok z w) {a:α} (ha:dom a):
  (Instr.lookup t (.map (some b)) (key a) true).run P w= .ok (.tuple #[(M a).getD z,.bool (M a).isSome]) w∧(Instr.lookup t (.map (some b)) (key a) false).run P w= .ok ((M a).getD z) w:=by
 obtain⟨D,h1,h2,h3⟩:=h
 obtain⟨kl,hkl⟩:=K.total a ha
 obtain⟨e1,e2⟩:=h2 a ha kl hkl
 obtain⟨v,ps,hrun,hv⟩:=h1.look_ok K.law ht hz (zd:=.held z) (zp:=[]) rfl hkl
 obtain⟨v',ps',hrun',hv'⟩:=h1.lookup K.law ht hz (zd:=.held z) (zp:=[]) rfl hkl
 rw[e2 z]at hv hv'
 simp only[uM,Option.some.injEq,Prod.mk.injEq,DataW.held.injEq]at hv hv'
 rw[hrun,hrun',e1,hv.1,hv'.1]
 exact⟨rfl,rfl⟩
theorem aS.ze [DecidableEq α] {t et:TypeId} (h:aS P kt key dom w b M) (K:lg P kt key dom) (L:List α) (hL:L.length<maxLen) (hall:∀a,dom a→(M a).isSome =true→a∈L) (ht:P.underlying t=some (.map kt et)) {a:α} (ha:dom a) (v:Value):
  ∃w',(Instr.mapUpdate t (.map (some b)) (key a) v).run P w= .ok () w'∧aS P kt key dom w' b (iT M a v)∧w.mapTurned w' b:=by
 obtain⟨D,h1,hn,h2,h3⟩:=h.acL K L hL hall
 obtain⟨kl,hkl⟩:=K.total a ha
 obtain⟨w',hrun,r1,r2⟩:=h1.store K.law ht hn hkl (val:=v) (d:=.held v) (ps:=[]) rfl
 have hD:IsMap D:=(h1.tidy K.law).isMap
 refine⟨w',hrun,⟨D.put kl (.held v),vH r1,?_,?_⟩,r2⟩
 ·intro a' ha' kl' hkl'
  by_cases e:a'=a
  ·subst e
   have:kl'=kl:=Option.some.inj (hkl'.symm.trans hkl)
   subst this
   rw[lJ]
   exact⟨Maps.has_put_same hD (K.law.key hkl) _,fun z=>Maps.atKey_put_same hD (K.law.key hkl) _ _⟩
  ·rw[jD M v e]
   have hne:kl'≠kl:=fun ek=>by subst ek;exact e (K.inj _ _ (K.law.inj hkl' hkl))
   rw[Maps.has_put_other hne]
   obtain⟨q1,q2⟩:=h2 a' ha' kl' hkl'
   exact⟨q1,fun z=>by rw[Maps.atKey_put_other hne];exact q2 z⟩
 ·intro kl' hkl'
  by_cases e:kl'=kl
  ·subst e;exact⟨a,ha,hkl⟩
  ·rw[Maps.has_put_other e]at hkl'
   exact h3 kl' hkl'
theorem aS.O4 [DecidableEq α] {t et:TypeId} (h:aS P kt key dom w b M) (K:lg P kt key dom) (ht:P.underlying t=some (.map kt et)) {a:α} (ha:dom a) (ty:TypeId):
  ∃w',(Builtin.delete_ #[t,kt] ty #[.map (some b),key a]).run P w= .ok (.tuple #[]) w'∧aS P kt key dom w' b (rM M a)∧w.mapTurned w' b:=by
 obtain⟨D,h1,h2,h3⟩:=h
 obtain⟨kl,hkl⟩:=K.total a ha
 obtain⟨w',hrun,r1,r2⟩:=h1.drop K.law ht hkl ty
 refine⟨w',hrun,⟨D.del kl,vH r1,?_,?_⟩,r2⟩
 ·intro a' ha' kl' hkl'
  by_cases e:a'=a
  ·subst e
   have:kl'=kl:=Option.some.inj (hkl'.symm.trans hkl)
   subst this
   have hc:rM M a' a'=none:=by simp[rM]
   rw[hc]
   exact⟨Maps.has_del_same,fun z=>Maps.atKey_del_same _⟩
  ·have hc:rM M a a'=M a':=by simp[rM,e]
   rw[hc]
   have hne:kl'≠kl:=fun ek=>by subst ek;exact e (K.inj _ _ (K.law.inj hkl' hkl))
   rw[Maps.has_del_other hne]
   obtain⟨q1,q2⟩:=h2 a' ha' kl' hkl'
   exact⟨q1,fun z=>by rw[Maps.atKey_del_other hne];exact q2 z⟩
 ·intro kl' hkl'
  by_cases e:kl'=kl
  ·subst e;exact⟨a,ha,hkl⟩
  ·rw[Maps.has_del_other e]at hkl'
   exact h3 kl' hkl'
end
section
variable {α:Type} {P:Program} {kt:TypeId} {key:α→Value} {dom:α→Prop} {b:Nat} {M:α→Option Value} (w:World)
end
abbrev l7:=Int×P4
def jg (k:l7):Value:=.agg #[.int .i64 k.1,.int .i64 k.2.src,.int .i64 k.2.dst,.int .i64 k.2.ah,.int .i64 k.2.aj]
def mF (k:l7):Prop:=ay k.1∧k.2.ok
abbrev dB:=Int×Int
def dS (k:dB):Value:=.agg #[.int .i64 k.1,.int .i64 k.2]
def eD (k:dB):Prop:=ay k.1∧ay k.2
theorem Un (a b:l7) (h:jg a=jg b):a=b:=by
 obtain⟨a0,a1,a2,a3,a4⟩:=a
 obtain⟨b0,b1,b2,b3,b4⟩:=b
 simp only[jg,Value.agg.injEq,Array.mk.injEq,List.cons.injEq,Value.int.injEq,true_and,and_true]at h
 obtain⟨rfl,rfl,rfl,rfl,rfl⟩:=h
 rfl
theorem Ib (a b:dB) (h:dS a=dS b):a=b:=by
 obtain⟨a0,a1⟩:=a
 obtain⟨b0,b1⟩:=b
 simp only[dS,Value.agg.injEq,Array.mk.injEq,List.cons.injEq,Value.int.injEq,true_and,and_true]at h
 obtain⟨rfl,rfl⟩:=h
 rfl
theorem jw {x:Int} (h:ay x):(Lit.int .i64 x).wf =true:=by
 have hx: -9223372036854775808≤x∧x≤9223372036854775807:=h
 simpa[Lit.wf,IntKind.min,IntKind.max,IntKind.signed,IntKind.bits]using hx
theorem rowOf:decide (222<Tryz.prog.types.size)=true:=by kernel_rfl
theorem acM:decide (225<Tryz.prog.types.size)=true:=by kernel_rfl
theorem afw:Tryz.prog.keyTypeAt 3 222=true:=by kernel_rfl
theorem afx:Tryz.prog.keyTypeAt 2 225=true:=by kernel_rfl
theorem ab2:Tryz.prog.keyType 222=true:=by kernel_rfl
theorem ab3:Tryz.prog.keyType 225=true:=by kernel_rfl
theorem Wx:Tryz.prog.cellsOf 222=5:=by kernel_rfl
theorem Wy:Tryz.prog.cellsOf 225=2:=by kernel_rfl
theorem acN:Keyed Tryz.prog 222:=Keyed.of_law (deep_law_laid Tryz.laidOut (m:=3) (by omega) (of_decide_eq_true rowOf) afw (by rw[Tryz.underlying222]))
theorem acO:Keyed Tryz.prog 225:=Keyed.of_law (deep_law_laid Tryz.laidOut (m:=2) (by omega) (of_decide_eq_true acM) afx (by rw[Tryz.underlying225]))
theorem KI {P:Program} {k i:TypeId} {f1 f2:Field} (hu:P.underlying k=some (.struct #[f1,f2])) (h1:f1.type=i∧f1.offset=0∧f1.name≠ "_") (h2:f2.type=i∧f2.offset=1∧f2.name≠ "_")
  (hi:P.underlying i=some (.int .i64)) (hk:P.keyType k=true) (hc:P.cellsOf k=2) (hci:P.cellsOf i=1) (hm:∃m,P.types.size=m+1) (t:dB) (ht:eD t):∃kl,keyOf P k (dS t)=some kl:=by
 obtain⟨a,b⟩:=t
 have w1:=jw ht.1
 have w2:=jw ht.2
 obtain⟨m,hm⟩:=hm
 unfold keyOf
 rw[hu]
 simp[hk,Value.formed,hu,dS,hc,Value.cells,hm,Program.keyLits,hci,hi,w1,w2,h1,h2]
theorem ab4 {P:Program} {k i q:TypeId} {f1 f2 g1 g2 g3 g4:Field} (hu:P.underlying k=some (.struct #[f1,f2])) (hq:P.underlying q=some (.struct #[g1,g2,g3,g4])) (h1:f1.type=i∧f1.offset=0∧f1.name≠ "_") (h2:f2.type=q∧f2.offset=1∧f2.name≠ "_")
  (j1:g1.type=i∧g1.offset=0∧g1.name≠ "_") (j2:g2.type=i∧g2.offset=1∧g2.name≠ "_") (j3:g3.type=i∧g3.offset=2∧g3.name≠ "_") (j4:g4.type=i∧g4.offset=3∧g4.name≠ "_")
  (hi:P.underlying i=some (.int .i64)) (hk:P.keyType k=true) (hc:P.cellsOf k=5) (hcq:P.cellsOf q=4) (hci:P.cellsOf i=1) (hm:∃m,P.types.size=m+2) (t:l7) (ht:mF t):∃kl,keyOf P k (jg t)=some kl:=by
 obtain⟨a,b,c,d,e⟩:=t
 have w1:=jw ht.1
 have w2:=jw ht.2.1
 have w3:=jw ht.2.2.1
 have w4:=jw ht.2.2.2.1
 have w5:=jw ht.2.2.2.2
 simp only at w1 w2 w3 w4 w5
 obtain⟨m,hm⟩:=hm
 unfold keyOf
 rw[hu]
 have hall:∀(i:Nat) (x:i<4),¬([g1,g2,g3,g4][i]'x).name = "_" :=fun i x=>match i,x with
  |0,_=>j1.2.2
  |1,_=>j2.2.2
  |2,_=>j3.2.2
  |3,_=>j4.2.2
 simp[hall,hk,Value.formed,hu,hq,jg,hc,hcq,Value.cells,hm,Program.keyLits,hci,hi,w1,w2,w3,w4,w5,h1,h2,j1,j2,j3,j4]
theorem Da:∃m,Tryz.prog.types.size=m+2:=by
 have h:decide (222<Tryz.prog.types.size)=true:=rowOf
 have h2:=of_decide_eq_true h
 exact⟨Tryz.prog.types.size - 2,by omega⟩
theorem JL:lg Tryz.prog 225 dS eD:=
 ⟨acO,KI Tryz.underlying225 ⟨rfl,rfl,by decide⟩ ⟨rfl,rfl,by decide⟩ Tryz.underlying3 ab3 Wy y9 vW,Ib⟩
theorem wQ:lg Tryz.prog 222 jg mF:=
 ⟨acN,ab4 Tryz.underlying222 Tryz.underlying29 ⟨rfl,rfl,by decide⟩ ⟨rfl,rfl,by decide⟩ ⟨rfl,rfl,by decide⟩ ⟨rfl,rfl,by decide⟩ ⟨rfl,rfl,by decide⟩ ⟨rfl,rfl,by decide⟩ Tryz.underlying3 ab2 Wx Tryz.cellsPacket y9 Da,Un⟩
end Go.Proofs.YtlhmdcgckocidaaGreat
namespace Go.Proofs.YtlhmdcgckocidaaGreat
open Go.RowKit
def bE (p:Nat→Prop) (w w':World):Prop:=∀(a:Addr) (v:Value),p a.block→w.cell? a=some v→w'.cell? a=some v
section
variable {p:Nat→Prop} {w w' w'':World} {B B' n:Nat} {A:Option Addr}
theorem pE {a:Addr} {v:Value} (h:w.cell? a=some v):a.block<w.heap.size:=by
 by_cases hl:a.block<w.heap.size
 ·exact hl
 ·exfalso
  have hn:w.heap[a.block]?=none:=Array.getElem?_eq_none (by omega)
  simp[World.cell?,hn]at h
theorem bE.trans (h:bE p w w') (h':bE p w' w''):bE p w w'':=fun a v hp hv=>h' a v hp (h a v hp hv)
theorem bE.of_below (h:Below B w w'):bE (fun k=>k<B) w w':=fun a v hp hv=>(h.cell (p:=a) hp).trans hv
theorem bE.oH {row:Option Nat} (h:w.grownBy w' row):bE (fun k=>some k≠row) w w':=fun a v hp hv=>
 (World.cell?_of_block (h.block a.block (pE hv) hp)).trans hv
theorem bE.iJ {b:Nat} (h:w.mapTurned w' b):bE (fun _=>True) w w':=fun a v _ hv=>by
 by_cases e:a.block=b
 ·exfalso
  obtain⟨es,clock,es',clock',hb,_⟩:=h
  simp[World.cell?,e,hb]at hv
 ·exact bE.oH h.grown a v (by simpa using e) hv
theorem bE.yY (q:Addr) (u:Value):bE (fun k=>k≠q.block) w (w.setCell q u):=fun a v hp hv=>
 (World.cell?_of_block (Below.heap_setCell w q u a.block hp)).trans hv
theorem bE.weak {q:Nat→Prop} (h:bE p w w') (hq:∀k,q k→p k):bE q w w':=fun a v hp hv=>h a v (hq _ hp) hv
theorem bB.stay {α:Type} {cells:α→List Value} {s:Nat} {l:List α} (h:bB cells s w B A n l) (hs:bE p w w') (hp:∀a,A=some a→p a.block) (hB:B≤B'):bB cells s w' B' A n l:=
 ⟨h.1,fun h0=>by
  obtain⟨b,o,e,hb,hg⟩:=h.2 h0
  exact⟨b,o,e,by omega,fun k r hr j v hv=>hs _ _ (show p b from hp _ e) (hg k r hr j v hv)⟩⟩
theorem dz.stay {l:List Int} (h:dz w B A n l) (hs:bE p w w') (hp:∀a,A=some a→p a.block) (hB:B≤B'):dz w' B' A n l:=
 ⟨h.1,h.2.1,fun h0=>by
  obtain⟨b,o,e,hb,hg⟩:=h.2.2 h0
  exact⟨b,o,e,by omega,fun k x hx=>hs _ _ (show p b from hp _ e) (hg k x hx)⟩⟩
theorem fB.stay {l:List aY} (h:fB w B A n l) (hs:bE p w w') (hp:∀a,A=some a→p a.block) (hB:B≤B'):fB w' B' A n l:=
 (h.sl.stay hs hp hB).rules h.2.1
structure uJ (p:Nat→Prop) (d:aA):Prop where
 b:∀a,d.bA=some a→p a.block
 r:∀a,d.rA=some a→p a.block
 t:∀a,d.tA=some a→p a.block
theorem uJ.weak {q:Nat→Prop} {d:aA} (h:uJ p d) (hq:∀k,p k→q k):uJ q d:=⟨fun a e=>hq _ (h.b a e),fun a e=>hq _ (h.r a e),fun a e=>hq _ (h.t a e)⟩
theorem fV.stay {d:aA} (h:fV w B d) (hs:bE p w w') (hp:uJ p d) (hB:B≤B'):fV w' B' d:=
 ⟨h.nm,h.kd,h.ad,h.pl,h.bs.stay hs hp.b hB,h.rs.stay hs hp.r hB,h.ts.stay hs hp.t hB,h.tok,h.cb,h.cr,h.ct⟩
theorem bf.stay {m:aH} (h:bf w B m) (hs:bE p w w') (hd:∀a,m.dA=some a→p a.block) (hl:∀a,m.lA=some a→p a.block) (ho:∀d∈m.ds,uJ p d) (hB:B≤B'):bf w' B' m:=
 { ds:=h.ds.stay hs hd hB,gy:=fun d hm=>(h.gy d hm).stay hs (ho d hm) hB,ls:=h.ls.stay hs hl hB,xR:=h.xR,cd:=h.cd,cl:=h.cl }
end
section
variable {α:Type} {P:Program} {kt:TypeId} {key:α→Value} {dom:α→Prop} {w w':World} {b c:Nat} {M:α→Option Value}
theorem aS.below {B:Nat} (h:aS P kt key dom w b M) (hb:Below B w w') (hB:b<B):aS P kt key dom w' b M:=h.same (hb.block b hB)
theorem aS.turned (h:aS P kt key dom w b M) (ht:w.mapTurned w' c) (hne:b≠c):aS P kt key dom w' b M:=h.kept ht.grown (by simpa using hne)
end
def ku (a b:ByteArray):Bool:=decide (a.toList=b.toList)
def jI:List Dev→List Dev→Int
 |_,[]=>0
 |pre,d::t=>if lD d.name=false then 3 else if pre.any (fun x=>ku x.name d.name)then 5 else if dG d=0 then jI (pre++[d]) t else dG d
theorem QS {l:List Dev} {k:Nat} {d:Dev} (h:l[k]?=some d):
  jI (l.take k) (l.drop k)=if lD d.name=false then 3 else if(l.take k).any (fun x=>ku x.name d.name)then 5 else if dG d=0 then jI (l.take (k+1)) (l.drop (k+1))else dG d:=by
 obtain⟨hk,e⟩:=List.getElem?_eq_some_iff.1 h
 rw[List.drop_eq_getElem_cons hk,e,List.take_succ_eq_append_getElem hk,e];rfl
def nI (ds:List Dev) (i:Int):Int:=((ds[i.toNat]?).map (·.kind)).getD 0
def bT (ds:List Dev) (x:Pl):Bool:=(decide (0≤x.1) && decide (x.1<ds.length)) && (decide (0≤x.2) && decide (x.2<dL (nI ds x.1)))
def iC (ends:List Pl) (l:av):Bool:=fE l.e1 l.e2 || ends.any (fun z=>fE l.e1 z) || ends.any (fun z=>fE l.e2 z)
def ji (ds:List Dev):List Pl→List av→Int
 |_,[]=>0
 |ends,l::t=>if bT ds l.e1=false then 1 else if bT ds l.e2=false then 1 else if iC ends l then 5 else ji ds (ends++[l.e1,l.e2]) t
theorem Dt {ds:List Dev} {ls:List av} {ends:List Pl} {k:Nat} {l:av} (h:ls[k]?=some l):
  ji ds ends (ls.drop k)=if bT ds l.e1=false then 1 else if bT ds l.e2=false then 1 else if iC ends l then 5 else ji ds (ends++[l.e1,l.e2]) (ls.drop (k+1)):=by
 obtain⟨hk,e⟩:=List.getElem?_eq_some_iff.1 h
 rw[List.drop_eq_getElem_cons hk,e];rfl
def dD (ds:List Dev) (ls:List av):Int:=
 if 10<ds.length∨15<ls.length then 2 else if jI [] ds=0 then ji ds [] ls else jI [] ds
theorem vY {ds:List Dev} {x:Pl} :bT ds x=true↔(0≤x.1∧x.1<ds.length)∧0≤x.2∧x.2<dL (nI ds x.1):=by
 simp[bT]
def yB (l:av) (j:Nat):Pl:=if j=0 then l.e1 else l.e2
theorem QT {ds:List Dev} {ls:List av} {ends:List Pl} {k j:Nat} {l:av} (h:ls[k]?=some l) (hj:j<2) (h1:∀i,i<j→bT ds (yB l i)=true) (h2:bT ds (yB l j)=false):ji ds ends (ls.drop k)=1:=by
 rw[Dt h]
 rcases(by omega:j=0∨j=1)with rfl | rfl
 ·rw[show yB l 0=l.e1 from rfl]at h2
  simp[h2]
 ·have:=h1 0 (by omega)
  rw[show yB l 0=l.e1 from rfl]at this
  rw[show yB l 1=l.e2 from rfl]at h2
  simp[h2,this]
theorem Ns {ds:List Dev} {ls:List av} {ends:List Pl} {k:Nat} {l:av} (h:ls[k]?=some l) (h1:∀i,i<2→bT ds (yB l i)=true):
  ji ds ends (ls.drop k)=if iC ends l then 5 else ji ds (ends++[l.e1,l.e2]) (ls.drop (k+1)):=by
 rw[Dt h]
 have a:=h1 0 (by omega)
 have b:=h1 1 (by omega)
 rw[show yB l 0=l.e1 from rfl]at a
 rw[show yB l 1=l.e2 from rfl]at b
 simp[a,b]
theorem GA (x:aA) (nm:ByteArray) (k:Nat) (w:World) (hk:k<w.heap.size) (h0:w.cell? ⟨k,0,none⟩=some (.string nm)):
  Calls Tryz.prog 92 (#[x.val]++#[.pointer (some ⟨k,0,none⟩)]) w fun e W'=>e= .returned (.bool (ku x.name nm))∧Below w.heap.size w W':=by
 have hne:k≠w.heap.size:=by omega
 obtain⟨xn,xk,xa,xp,bA,bn,bc,bs,rA,rn,rc,rs,tA,tn,tc,ts⟩:=x
 show Calls Tryz.prog 92 #[.agg #[.string xn,.int .i64 xk,.int .i64 xa,.int .u8 xp,.slice bA bn bc,.slice rA rn rc,.slice tA tn tc],.pointer (some ⟨k,0,none⟩)] w _
 have HB:=hide (fun o=>show Below w.heap.size w (w.alloc o)from(Below.refl _ _).alloc (Nat.le_refl _) _)
 by_cases e:xn.toList=nm.toList
 all_goals
  go_enter Tryz.func92,Tryz.ntmps92
  go_wp2
  go_ret
  exact⟨gK (by simp[ku,e]),HB.out _⟩
end Go.Proofs.YtlhmdcgckocidaaGreat
