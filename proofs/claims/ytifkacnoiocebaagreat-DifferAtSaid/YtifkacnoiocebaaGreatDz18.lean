/- A part of the proof: Sw7, MsP. -/
import Derived.Test.YtifkacnoiocebaaGreatDz17
set_option linter.unusedVariables false
set_option linter.unusedSimpArgs false
set_option maxRecDepth 100000
set_option maxHeartbeats 8000000
namespace Go.Proofs.YtifkacnoiocebaaGreat
open Go.Maps Go.RowKit
theorem CY {ds:List Dev} :∀(ls:List ah) (ends:List Pl),(∀x∈aR ls,dI ds x=true)→(ends++aR ls).Nodup →gB ds ends ls=0
 |[],_,_,_=>rfl
 |l::ls,ends,hp,hn=>by
  have e:aR (l::ls)=l.e1::l.e2::aR ls:=by simp[aR]
  rw[e]at hp hn
  have h1:dI ds l.e1=true:=hp _ (by simp)
  have h2:dI ds l.e2=true:=hp _ (by simp)
  obtain⟨n1,n2,n3⟩:=List.nodup_append.1 hn
  have n4:=List.nodup_cons.1 n2
  have t:fE ends l=false:=by
   unfold fE
   rw[Bool.or_eq_false_iff,Bool.or_eq_false_iff,List.any_eq_false,List.any_eq_false]
   refine⟨⟨XT (fun e=>n4.1 (by rw[e];simp)),fun z hz h=>?_⟩,fun z hz h=>?_⟩
   ·exact n3 z hz l.e1 (by simp) ((wu _ _).1 h).symm
   ·exact n3 z hz l.e2 (by simp) ((wu _ _).1 h).symm
  show(if dI ds l.e1=false then 1 else if dI ds l.e2=false then 1 else if fE ends l then 5 else gB ds (ends++[l.e1,l.e2]) ls)=0
  rw[h1,h2,t]
  simp only[Bool.true_eq_false,if_false,Bool.false_eq_true]
  refine CY ls _ (fun x hx=>hp x (by simp[hx])) ?_
  simpa using hn
theorem Qo:∀ {ds l:List Dev},l.Sublist ds→∀(pre pre':List Dev),(∀x∈pre',x∈pre)→fC pre ds=0→fC pre' l=0:=by
 intro ds l h
 induction h with
 |slnil=>exact fun _ _ _ _=>rfl
 |cons d h ih=>
  intro pre pre' hs h0
  unfold fC at h0
  split at h0
  ·cases h0
  ·split at h0
   ·cases h0
   ·split at h0
    ·exact ih _ pre' (fun x hx=>List.mem_append_left _ (hs x hx)) h0
    ·rename_i h1;exact absurd h0 h1
 |cons_cons d h ih=>
  intro pre pre' hs h0
  unfold fC at h0 ⊢
  split at h0
  ·cases h0
  ·rename_i hn
   rw[if_neg hn]
   split at h0
   ·cases h0
   ·rename_i ha
    have ha2:¬(pre'.any (fun x=>dQ x.name d.name))=true:=fun q=>ha (by
     rw[List.any_eq_true]at q ⊢
     obtain⟨x,hx,hx2⟩:=q
     exact⟨x,hs x hx,hx2⟩)
    rw[if_neg ha2]
    split at h0
    ·rename_i hd
     rw[if_pos hd]
     exact ih _ _ (fun x hx=>by
      rcases List.mem_append.1 hx with a | a
      ·exact List.mem_append_left _ (hs x a)
      ·exact List.mem_append_right _ a) h0
    ·rename_i h1;exact absurd h0 h1
theorem Bj (v:Nat→Bool) (ds:List Dev):∀k,k≤ds.length→(bP v ds k).Sublist (ds.take k)
 |0,_=>by simp[bP,bM]
 |k+1,h=>by
  obtain⟨d,hd⟩:∃d,ds[k]?=some d:=⟨_,List.getElem?_eq_getElem (by omega)⟩
  have e:ds.take (k+1)=ds.take k++[d]:=by
   obtain⟨hk,e⟩:=List.getElem?_eq_some_iff.1 hd
   rw[List.take_succ_eq_append_getElem hk,e]
  have ih:=Bj v ds k (by omega)
  rw[e]
  cases hv:v k with
  |true=>
   rw[qZ hv hd]
   exact List.Sublist.append ih (List.Sublist.refl _)
  |false=>
   rw[wS hv]
   exact ih.trans (List.sublist_append_left _ _)
theorem vT (v:Nat→Bool) (ds:List Dev):∀k,k≤ds.length→(bP v ds k).length =dG k v
 |0,_=>by simp[bP,bM,dG]
 |k+1,h=>by
  obtain⟨d,hd⟩:∃d,ds[k]?=some d:=⟨_,List.getElem?_eq_getElem (by omega)⟩
  have ih:=vT v ds k (by omega)
  have e:dG (k+1) v=dG k v+if v k=true then 1 else 0:=by
   unfold dG
   rw[List.range_succ,List.countP_append,List.countP_singleton]
  rw[e]
  cases hv:v k with
  |true=>rw[qZ hv hd,List.length_append,ih];simp
  |false=>rw[wS hv,ih];simp
theorem DL {v:Nat→Bool} {ds:List Dev} {i:Nat} {d:Dev} (hi:v i=true) (hd:ds[i]?=some d):∀k,i<k→k≤ds.length→(bP v ds k)[dG i v]?=some d
 |0,h,_=>absurd h (Nat.not_lt_zero _)
 |k+1,h,hk=>by
  obtain⟨e,he⟩:∃e,ds[k]?=some e:=⟨_,List.getElem?_eq_getElem (by omega)⟩
  by_cases hik:i=k
  ·subst hik
   obtain rfl:d=e:=Option.some.inj (hd.symm.trans he)
   rw[qZ hi hd,List.getElem?_append_right (Nat.le_of_eq (vT v ds i (by omega))),vT v ds i (by omega)]
   simp
  ·have ih:=DL hi hd k (by omega) (by omega)
   cases hv:v k with
   |true=>
    rw[qZ hv he,List.getElem?_append_left (List.getElem?_eq_some_iff.1 ih).1]
    exact ih
   |false=>
    rw[wS hv]
    exact ih
theorem CZ {v:Nat→Bool} {i j:Nat} (hi:v i=true) (h:i<j):dG i v<dG j v:=by
 have h1:∀d,dG (i+1) v≤dG (i+1+d) v:=fun d=>by
  induction d with
  |zero=>exact Nat.le_refl _
  |succ d ih=>
   refine Nat.le_trans ih ?_
   unfold dG
   rw[show i+1+(d+1)=(i+1+d)+1 by omega,List.range_succ,List.countP_append]
   omega
 have h2:dG (i+1) v=dG i v+1:=by
  unfold dG
  rw[List.range_succ,List.countP_append,List.countP_singleton,if_pos hi]
 have:=h1 (j - (i+1))
 rw[show i+1+(j - (i+1))=j by omega]at this
 omega
theorem Ld {α β:Type} (f:α→List β) {l l':List α} (h:l.Sublist l'):(l.flatMap f).Sublist (l'.flatMap f):=by
 induction h with
 |slnil=>exact List.Sublist.refl _
 |cons a h ih=>exact ih.trans (List.sublist_append_right _ _)
 |cons_cons a h ih=>exact List.Sublist.append (List.Sublist.refl _) ih
def SN (v:Nat→Bool) (n:Nat) (x:Pl):Pl:=((bH v n x.1.toNat:Int),x.2)
theorem GX (v:Nat→Bool) (n:Nat) (ls:List ah):aR (fH v n ls)=(aR (ls.filter fun l=>v l.a.toNat)).map (SN v n):=by
 unfold fH aR
 rw[List.flatMap_map,List.map_flatMap]
 rfl
theorem yg {ds:List Dev} {ls:List ah} {v:Nat→Bool} (h:fq ds ls=0) (hc:Closed ls v):fq (bP v ds ds.length) (fH v ds.length ls)=0:=by
 have hk:=mK h
 have hsub:=Bj v ds ds.length (Nat.le_refl _)
 rw[List.take_length]at hsub
 have hd:=hk.dl
 have hlen:(bP v ds ds.length).length ≤10:=Nat.le_trans hsub.length_le hd
 have hll:(fH v ds.length ls).length ≤15:=by
  unfold fH
  rw[List.length_map]
  exact Nat.le_trans (List.length_filter_le ..) hk.ll
 have hin:∀x∈aR (ls.filter fun l=>v l.a.toNat),x∈aR ls∧v x.1.toNat=true:=fun x hx=>by
  obtain⟨l,hl,hx⟩:=pK.1 hx
  obtain⟨h1,h2⟩:=List.mem_filter.1 hl
  refine⟨pK.2 ⟨l,h1,hx⟩,?_⟩
  rcases hx with rfl | rfl
  ·exact h2
  ·show v l.b.toNat=true
   rw[← hc l h1]
   exact h2
 have hpl:∀x∈aR (fH v ds.length ls),dI (bP v ds ds.length) x=true:=fun x hx=>by
  rw[GX]at hx
  obtain⟨y,hy,rfl⟩:=List.mem_map.1 hx
  obtain⟨h1,h2⟩:=hin y hy
  have h3:=lQ.1 (hk.pl y h1)
  obtain⟨d,hdy⟩:∃d,ds[y.1.toNat]?=some d:=⟨_,List.getElem?_eq_getElem (by omega)⟩
  have h4:=DL h2 hdy ds.length (by omega) (Nat.le_refl _)
  have h5:bH v ds.length y.1.toNat=dG y.1.toNat v:=by
   unfold bH
   rw[if_pos ⟨by omega,h2⟩]
  rw[lQ]
  unfold SN
  simp only
  rw[h5]
  have h6:lK (bP v ds ds.length) ((dG y.1.toNat v:Nat):Int)=lK ds y.1:=by
   unfold lK
   rw[Int.toNat_natCast,h4,hdy]
  rw[h6]
  exact⟨⟨by omega,by have:=(List.getElem?_eq_some_iff.1 h4).1;omega⟩,h3.2⟩
 have hnd:(aR (fH v ds.length ls)).Nodup :=by
  rw[GX]
  have h1:(aR (ls.filter fun l=>v l.a.toNat)).Nodup :=by
   refine List.Nodup.sublist ?_ hk.nd
   unfold aR
   exact Ld _ List.filter_sublist
  rw[List.nodup_iff_pairwise_ne]at h1 ⊢
  rw[List.pairwise_map]
  refine List.Pairwise.imp_of_mem (fun {a b} ha hb hne he=>hne ?_) h1
  obtain⟨a1,a2⟩:=hin a ha
  obtain⟨b1,b2⟩:=hin b hb
  have pa:=lQ.1 (hk.pl a a1)
  have pb:=lQ.1 (hk.pl b b1)
  unfold SN bH at he
  rw[if_pos ⟨by omega,a2⟩,if_pos ⟨by omega,b2⟩]at he
  have e1:((dG a.1.toNat v:Nat):Int)=((dG b.1.toNat v:Nat):Int):=(Prod.mk.inj he).1
  have e2:a.2=b.2:=(Prod.mk.inj he).2
  have e3:a.1.toNat=b.1.toNat:=by
   rcases Nat.lt_trichotomy a.1.toNat b.1.toNat with q | q | q
   ·have:=CZ a2 q;omega
   ·exact q
   ·have:=CZ b2 q;omega
  exact Prod.ext (by omega) e2
 unfold fq
 rw[if_neg (by omega)]
 have hde:fC [] (bP v ds ds.length)=0:=Qo hsub [] [] (fun x hx=>hx) hk.de
 rw[if_pos hde]
 exact CY _ [] hpl (by simpa using hnd)
open aj
def PC (P:aj.Fn→Prop) (F:aj.Fn):Prop:=∀G,lD F G→P G
structure MT (w:World) (B g nb kb ib:Nat) (A:St) (P:aj.Fn→Prop) (w1:World) (aU aQ:Nat) (A1:St) (K1 T1:bC→Option Value):Prop where
 ext:Ext A A1
 nw:∀j,A.len≤j→j<A1.len→P (den A1.ns j)
 ar:aI w1 B g aU kb ib aQ A1 K1 T1
 jr:aU=nb∨w.heap.size≤aU
 fm:eO (Fp g nb kb ib) w w1
def MU (w:World) (B g nb kb ib:Nat) (A:St) (P:aj.Fn→Prop) (A1:St) (F:aj.Fn) (e:Ending) (w2:World):Prop:=
 ∃(r bR cap2:Nat) (A2:St) (K2 T2:bC→Option Value),e= .returned (.int .i64 (r:Int))∧MT w B g nb kb ib A P w2 bR cap2 A2 K2 T2∧Ext A1 A2∧WF A2 r F
section
variable {w:World} {B g nb kb ib:Nat} {A:St} {P:aj.Fn→Prop} {w1 w2:World} {aU aQ:Nat} {A1:St} {K1 T1:bC→Option Value}
theorem MT.inv (h:MT w B g nb kb ib A P w1 aU aQ A1 K1 T1):Inv A1:=h.ar.inv
theorem MT.below (h:MT w B g nb kb ib A P w1 aU aQ A1 K1 T1) (hb:RowKit.Below w1.heap.size w1 w2):MT w B g nb kb ib A P w2 aU aQ A1 K1 T1:=
 ⟨h.ext,h.nw,h.ar.below hb,h.jr,h.fm.trans (eO.of_below hb) (fun _ _ h=>h)⟩
theorem MT.refl {cap:Nat} {K T:bC→Option Value} (h:aI w B g nb kb ib cap A K T) (P:aj.Fn→Prop):MT w B g nb kb ib A P w nb cap A K T:=⟨Ext.refl h.inv,fun j h1 h2=>by omega,h,.inl rfl,eO.refl _ _⟩
theorem MT.base {w0:World} (hb:RowKit.Below w0.heap.size w0 w) (h:MT w B g nb kb ib A P w1 aU aQ A1 K1 T1):MT w0 B g nb kb ib A P w1 aU aQ A1 K1 T1:=
 ⟨h.ext,h.nw,h.ar,h.jr.imp id (fun h=>by have:=hb.size;omega),(eO.of_below hb).trans h.fm (fun _ _ h=>h)⟩
theorem MT.step {F G:aj.Fn} {k:Nat} {e:Ending} (hlt:nb<w.heap.size) (h:MT w B g nb kb ib A P w1 aU aQ A1 K1 T1) (hi:uo w1 B g aU kb ib A1 F k e w2) (hG:A1.full=false→F=G) (hP:PC P G):MU w B g nb kb ib A P A1 G e w2:=by
 obtain⟨r,bR,cap2,A2,K2,T2,he,hr,har,hnb,hfm⟩:=hi
 have hs:=h.fm.size
 refine⟨r,bR,cap2,A2,K2,T2,he,⟨h.ext.trans hr.ext,fun j h1 h2=>?_,har,?_,h.fm.trans hfm (fun i hi hS=>?_)⟩,hr.ext,hr.lt,fun hf=>(hr.eq hf).trans (hG (hr.ext.qQ hf))⟩
 ·rcases Nat.lt_or_ge j A1.len with hl | hl
  ·rw[hr.ext.den h.inv hl];exact h.nw j h1 hl
  ·cases hf:A1.full
   ·rw[← hG hf]at hP
    exact hP _ (hr.new j hl h2)
   ·have e1:=h.inv.full hf
    have e2:=hr.ext.inv.bound
    have e3:=hr.ext.most
    simp only[St.len]at*
    omega
 ·rcases hnb with e5 | e5
  ·rw[e5];exact h.jr
  ·exact .inr (by omega)
 ·rcases hS with e | e | e | e
  ·exact .inl e
  ·rcases h.jr with e' | e'
   ·exact .inr (.inl (e.trans e'))
   ·omega
  ·exact .inr (.inr (.inl e))
  ·exact .inr (.inr (.inr e))
theorem Ev (hlt:nb<w.heap.size) (h:MT w B g nb kb ib A P w1 aU aQ A1 K1 T1) {f a b:Nat} {F G H:aj.Fn} (hf:WF A1 f F) (ha:WF A1 a G) (hb:WF A1 b H) (hP:PC P (bE F G H)):
  Calls Tryz.prog 140 #[.pointer (some ⟨g,0,none⟩),.int .i64 f,.int .i64 a,.int .i64 b] w1 (MU w B g nb kb ib A P A1 (bE F G H)):=by
 refine(Je _ w1 B g aU kb ib aQ A1 K1 T1 h.ar f a b hf.1 ha.1 hb.1 (Nat.lt_succ_self _)).mono fun e w2 hi=>?_
 exact h.step hlt hi (fun hnf=>by rw[hf.2 hnf,ha.2 hnf,hb.2 hnf]) hP
theorem uS (hlt:nb<w.heap.size) (h:MT w B g nb kb ib A P w1 aU aQ A1 K1 T1) {f:Nat} {F:aj.Fn} (hf:WF A1 f F) (i:Nat) (b:Bool) (hi:i<A.vars) (hP:PC P (aW F i b)):
  Calls Tryz.prog 141 #[.pointer (some ⟨g,0,none⟩),.int .i64 f,.int .i64 i,.bool b] w1 (MU w B g nb kb ib A P A1 (aW F i b)):=by
 refine(SQ h.ar f i b hf.1 (by rw[h.ext.vars];exact hi)).mono fun e w2 hp=>?_
 exact h.step hlt hp (fun hnf=>by rw[hf.2 hnf]) hP
theorem Qp (hlt:nb<w.heap.size) (h:MT w B g nb kb ib A P w1 aU aQ A1 K1 T1) (i:Nat) (hi:i<A.vars) (hP:PC P (fun x=>x i)):
  Calls Tryz.prog 139 #[.pointer (some ⟨g,0,none⟩),.int .i64 i,.int .i64 0,.int .i64 1] w1 (MU w B g nb kb ib A P A1 (fun x=>x i)):=by
 have ok:=h.inv.ok
 have hv:A1.vars=A.vars:=h.ext.vars
 have XP:=ok.two
 have hv0:=um ok
 have hv1:=F3 ok
 refine(xI h.ar i 0 1 (by omega) (by omega) (by omega) (by omega) (by omega)).mono ?_
 rintro e w2 ⟨r,bR,cap2,A2,K2,rfl,qB,har,hnb,hfm⟩
 have hr:nQ A1 A2 r (fun x=>x i) i:=zx h.inv (by omega) (fun x y hxy=>hxy i (Nat.le_refl _)) (L:=fun _=>false) (H:=fun _=>true) (by funext x;simp[upd]) (by funext x;simp[upd])
   (lF h.inv (by simp only[St.len];omega) (by rw[hv0];omega) (fun _=>by funext x;simp[jB])) (lF h.inv (by simp only[St.len];omega) (by rw[hv1];omega) (fun _=>by funext x;simp[nV])) qB
 exact h.step hlt ⟨r,bR,cap2,A2,K2,T1,rfl,hr,har,hnb,hfm⟩ (fun _=>rfl) hP
end
def Mi (w:World) (B g nb kb ib:Nat) (A:St) (F:aj.Fn) (P:aj.Fn→Prop) (e:Ending) (W':World):Prop:=
 ∃(r bR cap2:Nat) (A2:St) (K2 T2:bC→Option Value),MT w B g nb kb ib A P W' bR cap2 (oI A2) K2 T2∧Inv A2∧WF A2 r F∧(A2.full=true→e= .returned (.tuple #[.int .i64 0,.int .i64 6]))∧(A2.full=false→e= .returned (.tuple #[.int .i64 (r:Int),.int .i64 0]))
theorem MT.done {w:World} {B g nb kb ib:Nat} {A:St} {P:aj.Fn→Prop} {w1 w2:World} {aU aQ r:Nat} {A1:St} {K1 T1:bC→Option Value} {F:aj.Fn} {e:Ending} (hlt:nb<w.heap.size) (hA:A.full=false) (h:MT w B g nb kb ib A P w1 aU aQ A1 K1 T1) (hw:WF A1 r F)
  (h1:A1.full=true→e= .returned (.tuple #[.int .i64 0,.int .i64 6])) (h2:A1.full=false→e= .returned (.tuple #[.int .i64 (r:Int),.int .i64 0])) (ha:aI w2 B g aU kb ib aQ (oI A1) K1 T1) (hf:eO (Fp g aU kb ib) w1 w2):Mi w B g nb kb ib A F P e w2:=by
 have hs:=h.fm.size
 refine⟨r,aU,aQ,A1,K1,T1,⟨⟨h.ext.vars,h.ext.most,h.ext.ns,fun h=>(by rw[hA]at h;cases h),ha.inv⟩,h.nw,ha,h.jr,h.fm.trans hf (fun i hi hS=>?_)⟩,h.inv,hw,h1,h2⟩
 rcases hS with e | e | e | e
 ·exact .inl e
 ·rcases h.jr with e' | e'
  ·exact .inr (.inl (e.trans e'))
  ·omega
 ·exact .inr (.inr (.inl e))
 ·exact .inr (.inr (.inr e))
theorem Mi.cases {w:World} {B g nb kb ib:Nat} {A:St} {F:aj.Fn} {P:aj.Fn→Prop} {e:Ending} {W':World} (h:Mi w B g nb kb ib A F P e W'):
  ∃(bR cap2:Nat) (A2:St) (K2 T2:bC→Option Value),MT w B g nb kb ib A P W' bR cap2 A2 K2 T2∧A2.full=false∧((∃r:Nat,e= .returned (.tuple #[.int .i64 (r:Int),.int .i64 0])∧dF A2 r F)∨(e= .returned (.tuple #[.int .i64 0,.int .i64 6])∧A2.len=A2.most)):=by
 obtain⟨r,bR,cap2,A2,K2,T2,hm,hi,hw,h1,h2⟩:=h
 cases hf:A2.full
 ·rw[Qq hf]at hm
  exact⟨bR,cap2,A2,K2,T2,hm,hf,.inl ⟨r,h2 hf,hw.1,hw.2 hf⟩⟩
 ·exact⟨bR,cap2,oI A2,K2,T2,hm,rfl,.inr ⟨h1 hf,hi.full hf⟩⟩
structure Bl (P:aj.Fn→Prop) (F:aj.Fn) (i j:Nat):Prop where
 p1:PC P (fun x=>x i)
 p2:PC P (fun x=>x j)
 p3:PC P (aW F i false)
 p4:PC P (aW F i true)
 p5:PC P (aW (aW F i false) j true)
 p6:PC P (aW (aW F i false) j false)
 p7:PC P (bE (fun x=>x i) (aW (aW F i false) j true) (aW (aW F i false) j false))
 p8:PC P (aW (aW F i true) j true)
 p9:PC P (aW (aW F i true) j false)
 p10:PC P (bE (fun x=>x i) (aW (aW F i true) j true) (aW (aW F i true) j false))
 p11:PC P (bE (fun x=>x j) (bE (fun x=>x i) (aW (aW F i true) j true) (aW (aW F i true) j false)) (bE (fun x=>x i) (aW (aW F i false) j true) (aW (aW F i false) j false)))
theorem NI {w:World} {B g nb kb ib cap:Nat} {A:St} {K T:bC→Option Value} (h:aI w B g nb kb ib cap A K T) (hA:A.full=false) (f i:Nat) (F:aj.Fn) (hf:dF A f F) (hi:i<A.vars) {P:aj.Fn→Prop} (h1P:PC P (aW F i false)) (h2P:PC P (aW F i true)) (h3P:PC P (mP F i)):
  Calls Tryz.prog 125 #[.pointer (some ⟨g,0,none⟩),.int .i64 f,.int .i64 i] w (Mi w B g nb kb ib A (mP F i) P):=by
 have hlen:=h.uJ
 have hvs:=h.vs
 obtain⟨hb0,ha0⟩:=X7 h (.cells #[.int .i64 f] 3) (.cells #[.int .i64 i] 3)
 have hfl:=hf.1
 have e1:((w.alloc (.cells #[.int .i64 f] 3)).alloc (.cells #[.int .i64 i] 3)).heap[w.heap.size]?=some (.cells #[.int .i64 f] 3 (0,0)):=(RowKit.Below.heap_alloc _ _ _ (by simp)).trans (heap_alloc_new w _)
 have e2:((w.alloc (.cells #[.int .i64 f] 3)).alloc (.cells #[.int .i64 i] 3)).heap[w.heap.size+1]?=some (.cells #[.int .i64 i] 3 (0,0)):=by
  have:=heap_alloc_new (w.alloc (.cells #[.int .i64 f] 3)) (.cells #[.int .i64 i] 3)
  simpa using this
 have HI1:=hide (JE w.heap.size ((w.alloc (.cells #[.int .i64 f] 3)).alloc (.cells #[.int .i64 i] 3)).heap.size (by simp;omega) f (by omega) 3 e1)
 have HI2:=hide (JE (w.heap.size+1) ((w.alloc (.cells #[.int .i64 f] 3)).alloc (.cells #[.int .i64 i] 3)).heap.size (by simp) i (by omega) 3 e2)
 have fK:=hide (show rV A [(f:Int)] [(i:Int)]from⟨fun x hx=>by
  simp only[List.mem_cons,List.mem_nil_iff,or_false]at hx
  rw[hx];omega,fun x hx=>by
  simp only[List.mem_cons,List.mem_nil_iff,or_false]at hx
  rw[hx];omega⟩)
 have C8:=hide ha0
 have HB0:=hide hb0
 have yP:=hide (MT.base hb0 (MT.refl ha0 P))
 have kJ:=hide h.qR.2.1
 have Qr:=hide (WF.of hf)
 have HI:=hide hi
 have X8:=hide hA
 have Gb:=hide h.inv
 clear h hf hi hA e1 e2 hb0 ha0 hfl
 go_enter Tryz.func125,Tryz.ntmps125
 go_wp2_with fail
 refine(wL C8.out _ _ _ _ 1 1 1 1 (by omega) (by omega) HI1.out HI2.out).mono ?_
 rintro e wa ⟨he,_,hb⟩
 obtain rfl:=he fK.out
 have uT:=hide (yP.out.below hb)
 clear hb he HI1 HI2 C8 yP
 go_wp2_with fail
 refine(uS kJ.out uT.out Qr.out i false HI.out h1P).mono ?_
 rintro e wb ⟨r2,bR,cap2,A2,K2,T2,rfl,hm2,hx2,hw2⟩
 have qX:=hide hm2
 have bZ:=hide hx2
 have HR2:=hide hw2
 clear hm2 hx2 hw2
 have JF:=hide (Qr.out.ext uT.out.inv bZ.out)
 go_wp2_with fail
 refine(uS kJ.out qX.out JF.out i true HI.out h2P).mono ?_
 rintro e wc ⟨r3,xJ,vF,A3,K3,T3,rfl,yQ,hx3,hw3⟩
 have yR:=hide yQ
 have gL:=hide hx3
 have HR3:=hide hw3
 clear yQ hx3 hw3
 have X9:=hide (HR2.out.ext qX.out.inv gL.out)
 have GU:=hide (WF.of (dF.one yR.out.inv))
 have HC:Hid (Calls Tryz.prog 140 #[.pointer (some ⟨g,0,none⟩),.int .i64 r2,.int .i64 1,.int .i64 r3] wc (MU w B g nb kb ib A P A3 (bE (aW F i false) (fun _=>true) (aW F i true)))):=hide (Ev kJ.out yR.out X9.out GU.out HR3.out h3P)
 clear uT qX bZ gL JF HR2 X9 GU HR3
 go_wp2_with fail
 refine HC.out.mono ?_
 rintro e wd ⟨r4,C9,cap4,A4,K4,T4,rfl,yS,hx4,hw4⟩
 have ug:=hide yS
 have mQ:=hide hx4
 have HR4:=hide hw4
 clear yS hx4 hw4
 go_wp2_with fail
 refine(xH ug.out.ar r4).mono ?_
 rintro e we ⟨h1,h2,har,hfm⟩
 have HF:=hide (ug.out.done kJ.out X8.out HR4.out h1 h2 har hfm)
 clear har hfm
 cases hfull:A4.full
 ·obtain rfl:=h2 hfull
  go_wp2
  go_ret2
  exact HF.out
 ·obtain rfl:=h1 hfull
  go_wp2
  go_ret2
  exact HF.out
theorem Ir {w:World} {B g nb kb ib cap:Nat} {A:St} {K T:bC→Option Value} (h:aI w B g nb kb ib cap A K T) (hA:A.full=false) (f i j:Nat) (F:aj.Fn) (hf:dF A f F) (hi:i<A.vars) (hj:j<A.vars) (hij:i≠j) {P:aj.Fn→Prop} (hP:Bl P F i j):
  Calls Tryz.prog 124 #[.pointer (some ⟨g,0,none⟩),.int .i64 f,.int .i64 i,.int .i64 j] w (Mi w B g nb kb ib A (xO F i j) P):=by
 have yT:=hide (show xO F i j=bE (fun x=>x j) (bE (fun x=>x i) (aW (aW F i true) j true) (aW (aW F i true) j false)) (bE (fun x=>x i) (aW (aW F i false) j true) (aW (aW F i false) j false))from by
  funext x
  simp only[xO,bE,aW]
  rcases Bool.eq_false_or_eq_true (x i)with h1 | h1<;>rcases Bool.eq_false_or_eq_true (x j)with h2 | h2<;>simp[h1,h2])
 rw[yT.out]
 have hij':((i:Int)==(j:Int))=false:=by simp;omega
 have dD:=hide hP
 clear hij hP
 have hlen:=h.uJ
 have hvs:=h.vs
 obtain⟨hb0,ha0⟩:=X7 h (.cells #[.int .i64 f] 3) (.cells #[.int .i64 i,.int .i64 j] 3)
 have hfl:=hf.1
 have e1:((w.alloc (.cells #[.int .i64 f] 3)).alloc (.cells #[.int .i64 i,.int .i64 j] 3)).heap[w.heap.size]?=some (.cells #[.int .i64 f] 3 (0,0)):=(RowKit.Below.heap_alloc _ _ _ (by simp)).trans (heap_alloc_new w _)
 have e2:((w.alloc (.cells #[.int .i64 f] 3)).alloc (.cells #[.int .i64 i,.int .i64 j] 3)).heap[w.heap.size+1]?=some (.cells #[.int .i64 i,.int .i64 j] 3 (0,0)):=by
  have:=heap_alloc_new (w.alloc (.cells #[.int .i64 f] 3)) (.cells #[.int .i64 i,.int .i64 j] 3)
  simpa using this
 have HI1:=hide (JE w.heap.size ((w.alloc (.cells #[.int .i64 f] 3)).alloc (.cells #[.int .i64 i,.int .i64 j] 3)).heap.size (by simp;omega) f (by omega) 3 e1)
 have HI2:=hide (aal w ((w.alloc (.cells #[.int .i64 f] 3)).alloc (.cells #[.int .i64 i,.int .i64 j] 3)).heap.size (w.heap.size+1) (by simp) i j (by omega) (by omega) 3 e2)
 have fK:=hide (show rV A [(f:Int)] [(i:Int),(j:Int)]from⟨fun x hx=>by
  simp only[List.mem_cons,List.mem_nil_iff,or_false]at hx
  rw[hx];omega,fun x hx=>by
  simp only[List.mem_cons,List.mem_nil_iff,or_false]at hx
  rcases hx with rfl | rfl<;>omega⟩)
 have C8:=hide ha0
 have HB0:=hide hb0
 have yP:=hide (MT.base hb0 (MT.refl ha0 P))
 have kJ:=hide h.qR.2.1
 have Qr:=hide (WF.of hf)
 have X8:=hide hA
 have HI:=hide (And.intro hi hj)
 clear h hf hi hj hA e1 e2 hb0 ha0 hfl
 go_enter Tryz.func124,Tryz.ntmps124
 go_wp2_with fail
 refine(wL C8.out _ _ _ _ 1 2 1 2 (by omega) (by omega) HI1.out HI2.out).mono ?_
 rintro e wa ⟨he,_,hb⟩
 obtain rfl:=he fK.out
 have uT:=hide (yP.out.below hb)
 clear hb he HI1 HI2 C8 yP
 go_wp2_with fail
 refine(Qp kJ.out uT.out i HI.out.1 dD.out.p1).mono ?_
 rintro e w2 ⟨r2,bR,cap2,A2,K2,T2,rfl,hm2,hx2,hw2⟩
 have qX:=hide hm2
 have bZ:=hide hx2
 have HR2:=hide hw2
 clear hm2 hx2 hw2
 have JF:=hide (Qr.out.ext uT.out.inv bZ.out)
 clear uT bZ Qr
 go_wp2_with fail
 refine(Qp kJ.out qX.out j HI.out.2 dD.out.p2).mono ?_
 rintro e w3 ⟨r3,xJ,vF,A3,K3,T3,rfl,yQ,hx3,hw3⟩
 have yR:=hide yQ
 have gL:=hide hx3
 have HR3:=hide hw3
 clear yQ hx3 hw3
 have UR:=hide (HR2.out.ext qX.out.inv gL.out)
 clear HR2
 have JG:=hide (JF.out.ext qX.out.inv gL.out)
 clear JF
 clear qX gL
 go_wp2_with fail
 refine(uS kJ.out yR.out JG.out i false HI.out.1 dD.out.p3).mono ?_
 rintro e w4 ⟨r4,C9,cap4,A4,K4,T4,rfl,yS,hx4,hw4⟩
 have ug:=hide yS
 have mQ:=hide hx4
 have HR4:=hide hw4
 clear yS hx4 hw4
 have Mj:=hide (UR.out.ext yR.out.inv mQ.out)
 clear UR
 have UU:=hide (HR3.out.ext yR.out.inv mQ.out)
 clear HR3
 have JH:=hide (JG.out.ext yR.out.inv mQ.out)
 clear JG
 clear yR mQ
 go_wp2_with fail
 refine(uS kJ.out ug.out JH.out i true HI.out.1 dD.out.p4).mono ?_
 rintro e w5 ⟨r5,wJ,cap5,A5,K5,T5,rfl,hm5,hx5,hw5⟩
 have qU:=hide hm5
 have bS:=hide hx5
 have gZ:=hide hw5
 clear hm5 hx5 hw5
 have GY:=hide (Mj.out.ext ug.out.inv bS.out)
 clear Mj
 have Ml:=hide (UU.out.ext ug.out.inv bS.out)
 clear UU
 have NJ:=hide (HR4.out.ext ug.out.inv bS.out)
 clear HR4
 clear ug bS JH
 go_wp2_with fail
 refine(uS kJ.out qU.out NJ.out j true HI.out.2 dD.out.p5).mono ?_
 rintro e w6 ⟨r6,nb6,cap6,A6,K6,T6,rfl,Qs,hx6,hw6⟩
 have Ew:=hide Qs
 have gq:=hide hx6
 have jh:=hide hw6
 clear Qs hx6 hw6
 have Da:=hide (GY.out.ext qU.out.inv gq.out)
 clear GY
 have GZ:=hide (Ml.out.ext qU.out.inv gq.out)
 clear Ml
 have Mq:=hide (NJ.out.ext qU.out.inv gq.out)
 clear NJ
 have UW:=hide (gZ.out.ext qU.out.inv gq.out)
 clear gZ
 clear qU gq
 go_wp2_with fail
 refine(uS kJ.out Ew.out Mq.out j false HI.out.2 dD.out.p6).mono ?_
 rintro e w7 ⟨r7,nb7,afl,A7,K7,T7,rfl,hm7,hx7,hw7⟩
 have G8:=hide hm7
 have lU:=hide hx7
 have iJ:=hide hw7
 clear hm7 hx7 hw7
 have vH:=hide (Da.out.ext Ew.out.inv lU.out)
 clear Da
 have Db:=hide (GZ.out.ext Ew.out.inv lU.out)
 clear GZ
 have Mr:=hide (UW.out.ext Ew.out.inv lU.out)
 clear UW
 have UY:=hide (jh.out.ext Ew.out.inv lU.out)
 clear jh
 clear Ew lU Mq
 go_wp2_with fail
 refine(Ev kJ.out G8.out vH.out UY.out iJ.out dD.out.p7).mono ?_
 rintro e w8 ⟨r8,nb8,afm,A8,K8,T8,rfl,Ms,JB,hw8⟩
 have Ey:=hide Ms
 have rY:=hide JB
 have jH:=hide hw8
 clear Ms JB hw8
 have xP:=hide (vH.out.ext G8.out.inv rY.out)
 clear vH
 have Ap:=hide (Db.out.ext G8.out.inv rY.out)
 clear Db
 have Bn:=hide (Mr.out.ext G8.out.inv rY.out)
 clear Mr
 clear G8 rY UY iJ
 go_wp2_with fail
 refine(uS kJ.out Ey.out Bn.out j true HI.out.2 dD.out.p8).mono ?_
 rintro e w9 ⟨r9,nb9,afn,A9,K9,T9,rfl,hm9,Mh,hw9⟩
 have Mt:=hide hm9
 have qb:=hide Mh
 have oP:=hide hw9
 clear hm9 Mh hw9
 have vP:=hide (xP.out.ext Ey.out.inv qb.out)
 clear xP
 have xQ:=hide (Ap.out.ext Ey.out.inv qb.out)
 clear Ap
 have Dc:=hide (Bn.out.ext Ey.out.inv qb.out)
 clear Bn
 have UZ:=hide (jH.out.ext Ey.out.inv qb.out)
 clear jH
 clear Ey qb
 go_wp2_with fail
 refine(uS kJ.out Mt.out Dc.out j false HI.out.2 dD.out.p9).mono ?_
 rintro e jN ⟨r10,afo,ae9,Ez,K10,T10,rfl,Ya,Bo,Yb⟩
 have NK:=hide Ya
 have mM:=hide Bo
 have vI:=hide Yb
 clear Ya Bo Yb
 have sG:=hide (vP.out.ext Mt.out.inv mM.out)
 clear vP
 have uU:=hide (xQ.out.ext Mt.out.inv mM.out)
 clear xQ
 have JI:=hide (UZ.out.ext Mt.out.inv mM.out)
 clear UZ
 have Qt:=hide (oP.out.ext Mt.out.inv mM.out)
 clear oP
 clear Mt mM Dc
 go_wp2_with fail
 refine(Ev kJ.out NK.out sG.out Qt.out vI.out dD.out.p10).mono ?_
 rintro e Ar ⟨r11,afp,afa,A11,K11,T11,rfl,Yc,Yd,Ye⟩
 have Yf:=hide Yc
 have wP:=hide Yd
 have JJ:=hide Ye
 clear Yc Yd Ye
 have rz:=hide (uU.out.ext NK.out.inv wP.out)
 clear uU
 have Df:=hide (JI.out.ext NK.out.inv wP.out)
 clear JI
 clear NK wP Qt vI sG
 go_wp2_with fail
 refine(Ev kJ.out Yf.out rz.out JJ.out Df.out dD.out.p11).mono ?_
 rintro e XZ ⟨r12,afq,afb,A12,K12,T12,rfl,Yg,Yh,Yi⟩
 have Yj:=hide Yg
 have Ju:=hide Yh
 have NM:=hide Yi
 clear Yg Yh Yi
 clear Yf Ju rz JJ Df
 go_wp2_with fail
 refine(xH Yj.out.ar r12).mono ?_
 rintro e we ⟨h1,h2,har,hfm⟩
 have HF:=hide (Yj.out.done kJ.out X8.out NM.out h1 h2 har hfm)
 clear har hfm
 cases hfull:A12.full
 ·obtain rfl:=h2 hfull
  go_wp2
  go_ret2
  exact HF.out
 ·obtain rfl:=h1 hfull
  go_wp2
  go_ret2
  exact HF.out
end Go.Proofs.YtifkacnoiocebaaGreat
