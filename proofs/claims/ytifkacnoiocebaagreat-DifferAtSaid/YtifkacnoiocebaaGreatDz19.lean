/- A part of the proof: Mk, Mk2. -/
import Derived.Test.YtifkacnoiocebaaGreatDz18
set_option linter.unusedVariables false
set_option linter.unusedSimpArgs false
set_option maxRecDepth 100000
set_option maxHeartbeats 4000000
namespace Go.Proofs.YtifkacnoiocebaaGreat
open aj Go.Maps Go.RowKit
def qx (P:aj.Fn→Prop) (A A':St):Prop:=∀j,A.len≤j→j<A'.len→P (den A'.ns j)
theorem qx.refl (P:aj.Fn→Prop) (A:St):qx P A A:=fun j h1 h2=>by omega
theorem qx.trans {P:aj.Fn→Prop} {A B C:St} (h:qx P A B) (k:qx P B C) (i:Inv B) (he:Ext B C):qx P A C:=fun j h1 h2=>by
 rcases Nat.lt_or_ge j B.len with hl | hl
 ·rw[he.den i hl];exact h j h1 hl
 ·exact k j hl h2
def AQ (w:World) (B g:Nat) (A:St) (bl:List Nat) (P:aj.Fn→Prop) (F:aj.Fn) (e:Ending) (w':World):Prop:=
 ∃A',AS w' B g A' bl∧Ext A A'∧qx P A A'∧KP B bl w w'∧SS A' F e
section
variable {w w':World} {B g:Nat} {A:St} {bl:List Nat} {P:aj.Fn→Prop}
theorem AQ.Cn {nb kb ib cap:Nat} {K T:bC→Option Value} (ha:aI w B g nb kb ib cap A K T) (hf:∀j∈bl,B≤j∧j<w.heap.size∧¬Fp g nb kb ib j) {F:aj.Fn} {e:Ending} (h:BP w B g nb kb ib A F P e w'):AQ w B g A bl P F e w':=by
 obtain⟨bR,cap2,A2,K2,T2,h1,h2,h3,h4,h5,h6,h7⟩:=h
 refine⟨A2,⟨⟨bR,kb,ib,cap2,K2,T2,h4,fun j hj=>⟨(hf j hj).1,Nat.lt_of_lt_of_le (hf j hj).2.1 h6.size,U0 h5 (hf j hj).2.1 (hf j hj).2.2⟩⟩,h2⟩,h1,h3,⟨ha.DN h6,fun j hj=>h6.block j (hf j hj).2.1 (hf j hj).2.2⟩,?_⟩
 rcases h7 with⟨r,a,b,c⟩ | h7
 ·exact .inl ⟨r,a,b,c⟩
 ·exact .inr h7
theorem AQ.Qu {nb kb ib cap:Nat} {K T:bC→Option Value} (ha:aI w B g nb kb ib cap A K T) (hf:∀j∈bl,B≤j∧j<w.heap.size∧¬Fp g nb kb ib j) {F:aj.Fn} {e:Ending} (h:Mi w B g nb kb ib A F P e w'):AQ w B g A bl P F e w':=by
 obtain⟨bR,cap2,A2,K2,T2,hm,h2,h7⟩:=h.cases
 exact⟨A2,⟨⟨bR,kb,ib,cap2,K2,T2,hm.ar,fun j hj=>⟨(hf j hj).1,Nat.lt_of_lt_of_le (hf j hj).2.1 hm.fm.size,U0 hm.jr (hf j hj).2.1 (hf j hj).2.2⟩⟩,h2⟩,hm.ext,hm.nw,⟨ha.DN hm.fm,fun j hj=>hm.fm.block j (hf j hj).2.1 (hf j hj).2.2⟩,h7⟩
theorem Yk (h:AS w B g A bl) {f a:Nat} {F G:aj.Fn} (hf:dF A f F) (ha:dF A a G) (hP:PC P (bf F G)):Calls Tryz.prog 121 #[.pointer (some ⟨g,0,none⟩),.int .i64 f,.int .i64 a] w (AQ w B g A bl P (bf F G)):=by
 obtain⟨nb,kb,ib,cap,K,T,har,hb⟩:=h.ar
 exact(SV har h.nf hf ha hP).mono fun e w' hq=>AQ.Cn har hb hq
theorem aam (h:AS w B g A bl) {f a:Nat} {F G:aj.Fn} (hf:dF A f F) (ha:dF A a G) (hP:PC P (vO F G)):Calls Tryz.prog 117 #[.pointer (some ⟨g,0,none⟩),.int .i64 f,.int .i64 a] w (AQ w B g A bl P (vO F G)):=by
 obtain⟨nb,kb,ib,cap,K,T,har,hb⟩:=h.ar
 exact(WY har h.nf hf ha hP).mono fun e w' hq=>AQ.Cn har hb hq
theorem Yl (h:AS w B g A bl) {f:Nat} {F:aj.Fn} (hf:dF A f F) (hP:PC P (qh F)):Calls Tryz.prog 126 #[.pointer (some ⟨g,0,none⟩),.int .i64 f] w (AQ w B g A bl P (qh F)):=by
 obtain⟨nb,kb,ib,cap,K,T,har,hb⟩:=h.ar
 exact(SX har h.nf hf hP).mono fun e w' hq=>AQ.Cn har hb hq
theorem Qv (h:AS w B g A bl) {f i:Nat} {F:aj.Fn} (hf:dF A f F) (hi:i<A.vars) (h1:PC P (aW F i false)) (h2:PC P (aW F i true)) (h3:PC P (mP F i)):
  Calls Tryz.prog 125 #[.pointer (some ⟨g,0,none⟩),.int .i64 f,.int .i64 i] w (AQ w B g A bl P (mP F i)):=by
 obtain⟨nb,kb,ib,cap,K,T,har,hb⟩:=h.ar
 exact(NI har h.nf f i F hf hi h1 h2 h3).mono fun e w' hq=>AQ.Qu har hb hq
theorem Mv (h:AS w B g A bl) {f i j:Nat} {F:aj.Fn} (hf:dF A f F) (hi:i<A.vars) (hj:j<A.vars) (hij:i≠j) (hP:Bl P F i j):
  Calls Tryz.prog 124 #[.pointer (some ⟨g,0,none⟩),.int .i64 f,.int .i64 i,.int .i64 j] w (AQ w B g A bl P (xO F i j)):=by
 obtain⟨nb,kb,ib,cap,K,T,har,hb⟩:=h.ar
 exact(Ir har h.nf f i j F hf hi hj hij hP).mono fun e w' hq=>AQ.Qu har hb hq
theorem Qw (h:AS w B g A bl) (hv:14≤A.vars) (l:List bg) (a:Option Addr) (n c:Nat) (hn:n≤8) (hl:gG w B a n l) (hR:∀r∈l,∀G,mR (uL r) G→P G) (hS:∀k G,lD (dB (l.drop k)) G→P G):
  Calls Tryz.prog 90 #[.pointer (some ⟨g,0,none⟩),.slice a n c] w (AQ w B g A bl P (dB l)):=by
 obtain⟨nb,kb,ib,cap,K,T,har,hb⟩:=h.ar
 exact(Iu har h.nf hv l a n c hn hl P hR hS).mono fun e w' hq=>AQ.Cn har hb hq
theorem Ym (h:AS w B g A bl) (hv:14≤A.vars) (l:List aG) (a:Option Addr) (n c:Nat) (port:Int) (hn:n≤9223372036854775807) (hnc:n≤c) (hl:bD aG.cells 3 w w.heap.size a n l) (hok:∀r∈l,r.ok) (hc:cB l=0)
  (hP:∀G,mR (bU 65535 (fD (je l port) 16) 255 255) G→P G):
  Calls Tryz.prog 93 #[.pointer (some ⟨g,0,none⟩),.slice a n c,.int .i64 port] w (AQ w B g A bl P (outs (bU 65535 (fD (je l port) 16) 255 255))):=by
 obtain⟨nb,kb,ib,cap,K,T,har,hb⟩:=h.ar
 exact(Iw har h.nf hv l a n c port hn hnc hl hok hc).mono fun e w' hq=>AQ.Cn har hb (hq.mono hP)
theorem SY (h:AS w B g A bl) (hv:14≤A.vars) (s d p q:Nat) (hs:s<65536) (hd:d<65536) (hp:p<256) (hq:q<256) (hP:∀G,mR (bU s d p q) G→P G):
  Calls Tryz.prog 88 #[.pointer (some ⟨g,0,none⟩),.agg #[.int .u16 s,.int .u16 d,.int .u8 p,.int .u8 q]] w (AQ w B g A bl P (outs (bU s d p q))):=by
 obtain⟨nb,kb,ib,cap,K,T,har,hb⟩:=h.ar
 exact(zJ har h.nf hv s d p q hs hd hp hq).mono fun e w' hq=>AQ.Cn har hb (hq.mono hP)
end
structure MK (w:World) (B g:Nat) (A:St) (bl:List Nat) (mk e:Nat):Prop where
 sa:AS w B g A (mk::bl)
 bx:Bx w mk #[.pointer (some ⟨g,0,none⟩),.int .i64 (e:Int)] 72
 er:e=0∨(e=6∧A.len=A.most)
 ap:mk∉bl
def MR (w:World) (B g:Nat) (A:St) (bl:List Nat) (mk e:Nat) (P:aj.Fn→Prop) (F:aj.Fn) (en:Ending) (w':World):Prop:=
 ∃(A':St) (e' r:Nat),en= .returned (.int .i64 (r:Int))∧MK w' B g A' bl mk e'∧Ext A A'∧qx P A A'∧KP B bl w w'∧(e'=0→e=0∧dF A' r F)
section
variable {w w':World} {B g mk e:Nat} {A:St} {bl:List Nat} {P:aj.Fn→Prop}
theorem MK.below (h:MK w B g A bl mk e) (hb:RowKit.Below w.heap.size w w'):MK w' B g A bl mk e:=⟨h.sa.below hb,h.bx.below hb,h.er,h.ap⟩
theorem MK.kp (h:MK w B g A bl mk e) (hb:RowKit.Below w.heap.size w w'):KP B bl w w':=(h.sa.kp hb).mono (fun j hj=>List.mem_cons_of_mem _ hj)
theorem MK.inv (h:MK w B g A bl mk e):Inv A:=h.sa.inv
theorem MK.S9 {A':St} (h:Inv A') (he:Ext A A') (hf:A.len=A.most):A'.len=A'.most:=by
 have h1:=h.bound
 have h2:=he.len
 have h3:=he.most
 simp only[St.len]at*
 omega
end
theorem MK.wrote {w:World} {B g mk e0:Nat} {A:St} {bl:List Nat} (h:MK w B g A bl mk e0) (e2:Nat) (he2:e2=0∨(e2=6∧A.len=A.most)):
  MK (w.setCell ⟨mk,1,none⟩ (.int .i64 (e2:Int))) B g A bl mk e2∧KP B bl w (w.setCell ⟨mk,1,none⟩ (.int .i64 (e2:Int))):=by
 have hm:=h.sa.lt mk (by simp)
 have hs:=size_setCell w ⟨mk,1,none⟩ (.int .i64 (e2:Int))
 have hc:∀i,i≠mk→(w.setCell ⟨mk,1,none⟩ (.int .i64 (e2:Int))).heap[i]?=w.heap[i]?:=fun i hi=>RowKit.Below.heap_setCell _ _ _ _ hi
 exact⟨⟨h.sa.turned (Nat.le_of_eq hs.symm) (fun i _ hn=>hc i (fun e=>hn (by simp[e]))),h.bx.set 1 _,he2,h.ap⟩,⟨(RowKit.Below.refl _ _).setCell hm.1 _,fun j hj=>hc j (fun e=>h.ap (e▸hj))⟩⟩
theorem iN (w:World) (B g:Nat) (A:St) (bl:List Nat) (mk:Nat) (h:MK w B g A bl mk 0) (f e2:Nat) (he2:e2=0∨(e2=6∧A.len=A.most)):
  Calls Tryz.prog 87 #[.pointer (some ⟨mk,0,none⟩),.int .i64 (f:Int),.int .i64 (e2:Int)] w fun en w'=>en= .returned (.int .i64 (if e2=0 then(f:Int)else 0))∧MK w' B g A bl mk e2∧KP B bl w w':=by
 have c0:w.cell? ⟨mk,0,none⟩=some (.pointer (some ⟨g,0,none⟩)):=h.bx.get 0 _ rfl
 have c1:w.cell? ⟨mk,1,none⟩=some (.int .i64 0):=h.bx.get 1 _ rfl
 have cf:=h.bx.frozen 1
 have HX:=hide (h.wrote e2 he2)
 clear h
 rcases he2 with rfl | ⟨rfl,hf⟩
 ·go_enter Tryz.func87,Tryz.ntmps87
  go_wp2
  go_ret
  exact⟨rfl,HX.out⟩
 ·clear hf
  go_enter Tryz.func87,Tryz.ntmps87
  go_wp2
  go_ret
  exact⟨rfl,HX.out⟩
theorem MR.kK {w w1 w2:World} {B g mk:Nat} {A A1:St} {bl:List Nat} {P:aj.Fn→Prop} {F:aj.Fn} {e2 f:Nat} {en:Ending} (hext:Ext A A1) (hnw:qx P A A1) (hk:KP B bl w w1) (hF:e2=0→dF A1 f F)
  (h:en= .returned (.int .i64 (if e2=0 then(f:Int)else 0))∧MK w2 B g A1 bl mk e2∧KP B bl w1 w2):MR w B g A bl mk 0 P F en w2:=by
 refine⟨A1,e2,if e2=0 then f else 0,?_,h.2.1,hext,hnw,hk.trans h.2.2,fun he=>⟨rfl,by rw[if_pos he];exact hF he⟩⟩
 rw[h.1]
 split<;>rfl
theorem MR.none {w:World} {B g mk e:Nat} {A:St} {bl:List Nat} (P:aj.Fn→Prop) (F:aj.Fn) (h:MK w B g A bl mk e) (he:e≠0):MR w B g A bl mk e P F (.returned (.int .i64 0)) w:=
 ⟨A,e,0,rfl,h,Ext.refl h.inv,qx.refl _ _,KP.refl _ _ _,fun h0=>absurd h0 he⟩
theorem nR (w:World) (B g:Nat) (A:St) (bl:List Nat) (mk e:Nat) (h:MK w B g A bl mk e) (f a:Nat) (F G:aj.Fn) (P:aj.Fn→Prop) (hf:e=0→dF A f F) (ha:e=0→dF A a G) (hP:PC P (bf F G)):
  Calls Tryz.prog 91 #[.pointer (some ⟨mk,0,none⟩),.int .i64 (f:Int),.int .i64 (a:Int)] w (MR w B g A bl mk e P (bf F G)):=by
 have c0:w.cell? ⟨mk,0,none⟩=some (.pointer (some ⟨g,0,none⟩)):=h.bx.get 0 _ rfl
 have c1:w.cell? ⟨mk,1,none⟩=some (.int .i64 (e:Int)):=h.bx.get 1 _ rfl
 have H:=hide h
 have HP:=hide hP
 have her:=h.er
 by_cases he:e=0
 ·subst he
  have HF:=hide (hf rfl)
  have HG:=hide (ha rfl)
  clear h hP hf ha her
  go_enter Tryz.func91,Tryz.ntmps91
  go_wp2_with fail
  refine(Yk H.out.sa HF.out HG.out HP.out).mono ?_
  clear c0 c1
  rintro en w1 ⟨A1,hsa,hext,hnw,hk,hres⟩
  have HE:=hide hext
  have HN:=hide hnw
  have HK:=hide hk
  have hbx:Bx w1 mk #[.pointer (some ⟨g,0,none⟩),.int .i64 0] 72:=H.out.bx.same (hk.same mk (by simp))
  have HM:=hide (show MK w1 B g A1 bl mk 0 from⟨hsa,hbx,.inl rfl,H.out.ap⟩)
  clear hsa hext hnw hk hbx
  rcases hres with⟨r,rfl,iO⟩ | ⟨rfl,hfull⟩
  ·have HR:=hide iO
   clear iO
   go_wp2_with fail
   refine(iN w1 B g A1 bl mk HM.out r 0 (.inl rfl)).mono ?_
   rintro en w2 hg
   have HF:=hide (MR.kK HE.out HN.out (HK.out.mono (fun j hj=>List.mem_cons_of_mem _ hj)) (fun _=>HR.out) hg)
   obtain⟨rfl,_⟩:=hg
   go_wp2
   go_ret
   exact HF.out
  ·have yU:=hide hfull
   clear hfull
   go_wp2_with fail
   refine(iN w1 B g A1 bl mk HM.out 0 6 (.inr ⟨rfl,yU.out⟩)).mono ?_
   rintro en w2 hg
   have HF:=hide (MR.kK (F:=bf F G) HE.out HN.out (HK.out.mono (fun j hj=>List.mem_cons_of_mem _ hj)) (fun h=>by cases h) hg)
   obtain⟨rfl,_⟩:=hg
   go_wp2
   go_ret
   exact HF.out
 ·have HF:=hide (MR.none P (bf F G) H.out he)
  have hne:((e:Int) != 0)=true:=by simp;omega
  clear h hP hf ha her he
  go_enter Tryz.func91,Tryz.ntmps91
  go_wp2
  go_ret
  exact HF.out
theorem aan (w:World) (B g:Nat) (A:St) (bl:List Nat) (mk e:Nat) (h:MK w B g A bl mk e) (f a:Nat) (F G:aj.Fn) (P:aj.Fn→Prop) (hf:e=0→dF A f F) (ha:e=0→dF A a G) (hP:PC P (vO F G)):
  Calls Tryz.prog 86 #[.pointer (some ⟨mk,0,none⟩),.int .i64 (f:Int),.int .i64 (a:Int)] w (MR w B g A bl mk e P (vO F G)):=by
 have c0:w.cell? ⟨mk,0,none⟩=some (.pointer (some ⟨g,0,none⟩)):=h.bx.get 0 _ rfl
 have c1:w.cell? ⟨mk,1,none⟩=some (.int .i64 (e:Int)):=h.bx.get 1 _ rfl
 have H:=hide h
 have HP:=hide hP
 have her:=h.er
 by_cases he:e=0
 ·subst he
  have HF:=hide (hf rfl)
  have HG:=hide (ha rfl)
  clear h hP hf ha her
  go_enter Tryz.func86,Tryz.ntmps86
  go_wp2_with fail
  refine(aam H.out.sa HF.out HG.out HP.out).mono ?_
  clear c0 c1
  rintro en w1 ⟨A1,hsa,hext,hnw,hk,hres⟩
  have HE:=hide hext
  have HN:=hide hnw
  have HK:=hide hk
  have hbx:Bx w1 mk #[.pointer (some ⟨g,0,none⟩),.int .i64 0] 72:=H.out.bx.same (hk.same mk (by simp))
  have HM:=hide (show MK w1 B g A1 bl mk 0 from⟨hsa,hbx,.inl rfl,H.out.ap⟩)
  clear hsa hext hnw hk hbx
  rcases hres with⟨r,rfl,iO⟩ | ⟨rfl,hfull⟩
  ·have HR:=hide iO
   clear iO
   go_wp2_with fail
   refine(iN w1 B g A1 bl mk HM.out r 0 (.inl rfl)).mono ?_
   rintro en w2 hg
   have HF:=hide (MR.kK HE.out HN.out (HK.out.mono (fun j hj=>List.mem_cons_of_mem _ hj)) (fun _=>HR.out) hg)
   obtain⟨rfl,_⟩:=hg
   go_wp2
   go_ret
   exact HF.out
  ·have yU:=hide hfull
   clear hfull
   go_wp2_with fail
   refine(iN w1 B g A1 bl mk HM.out 0 6 (.inr ⟨rfl,yU.out⟩)).mono ?_
   rintro en w2 hg
   have HF:=hide (MR.kK (F:=vO F G) HE.out HN.out (HK.out.mono (fun j hj=>List.mem_cons_of_mem _ hj)) (fun h=>by cases h) hg)
   obtain⟨rfl,_⟩:=hg
   go_wp2
   go_ret
   exact HF.out
 ·have HF:=hide (MR.none P (vO F G) H.out he)
  have hne:((e:Int) != 0)=true:=by simp;omega
  clear h hP hf ha her he
  go_enter Tryz.func86,Tryz.ntmps86
  go_wp2
  go_ret
  exact HF.out
structure uV (w0:World) (B g:Nat) (A:St) (bl:List Nat) (mk e0:Nat) (P:aj.Fn→Prop) (wr:World) (A2:St) (e2:Nat):Prop where
 m:MK wr B g A2 bl mk e2
 ext:Ext A A2
 nw:qx P A A2
 kp:KP B bl w0 wr
 e0:e2=0→e0=0
section
variable {w0 w w' wr:World} {B g mk e0 e2:Nat} {A A2:St} {bl:List Nat} {P:aj.Fn→Prop}
theorem uV.start (h:MK w B g A bl mk e0) (P:aj.Fn→Prop):uV w B g A bl mk e0 P w A e0:=⟨h,Ext.refl h.inv,qx.refl _ _,KP.refl _ _ _,id⟩
theorem uV.below (h:uV w0 B g A bl mk e0 P wr A2 e2) (hb:RowKit.Below wr.heap.size wr w'):uV w0 B g A bl mk e0 P w' A2 e2:=⟨h.m.below hb,h.ext,h.nw,h.kp.trans (h.m.kp hb),h.e0⟩
theorem uV.step (h:uV w0 B g A bl mk e0 P wr A2 e2) {F:aj.Fn} {en:Ending} (hr:MR wr B g A2 bl mk e2 P F en w'):∃(A3:St) (e3 r:Nat),en= .returned (.int .i64 (r:Int))∧uV w0 B g A bl mk e0 P w' A3 e3∧Ext A2 A3∧(e3=0→e2=0∧dF A3 r F):=by
 obtain⟨A3,e3,r,h1,h2,h3,h4,h5,h6⟩:=hr
 exact⟨A3,e3,r,h1,⟨h2,h.ext.trans h3,h.nw.trans h4 h.m.inv h3,h.kp.trans h5,fun he=>h.e0 (h6 he).1⟩,h3,h6⟩
theorem uV.out (h:uV w0 B g A bl mk e0 P wr A2 e2) {F:aj.Fn} {r:Nat} (hF:e2=0→dF A2 r F):MR w0 B g A bl mk e0 P F (.returned (.int .i64 (r:Int))) wr:=
 ⟨A2,e2,r,rfl,h.m,h.ext,h.nw,h.kp,fun he=>⟨h.e0 he,hF he⟩⟩
end
theorem Yn (w:World) (B g:Nat) (A:St) (bl:List Nat) (mk e:Nat) (h:MK w B g A bl mk e) (f:Nat) (F:aj.Fn) (P:aj.Fn→Prop) (hf:e=0→dF A f F) (hP:PC P (qh F)):
  Calls Tryz.prog 98 #[.pointer (some ⟨mk,0,none⟩),.int .i64 (f:Int)] w (MR w B g A bl mk e P (qh F)):=by
 have c0:w.cell? ⟨mk,0,none⟩=some (.pointer (some ⟨g,0,none⟩)):=h.bx.get 0 _ rfl
 have c1:w.cell? ⟨mk,1,none⟩=some (.int .i64 (e:Int)):=h.bx.get 1 _ rfl
 have H:=hide h
 have HP:=hide hP
 have her:=h.er
 by_cases he:e=0
 ·subst he
  have HF:=hide (hf rfl)
  clear h hP hf her
  go_enter Tryz.func98,Tryz.ntmps98
  go_wp2_with fail
  refine(Yl H.out.sa HF.out HP.out).mono ?_
  clear c0 c1
  rintro en w1 ⟨A1,hsa,hext,hnw,hk,hres⟩
  have HE:=hide hext
  have HN:=hide hnw
  have HK:=hide hk
  have hbx:Bx w1 mk #[.pointer (some ⟨g,0,none⟩),.int .i64 0] 72:=H.out.bx.same (hk.same mk (by simp))
  have HM:=hide (show MK w1 B g A1 bl mk 0 from⟨hsa,hbx,.inl rfl,H.out.ap⟩)
  clear hsa hext hnw hk hbx
  rcases hres with⟨r,rfl,iO⟩ | ⟨rfl,hfull⟩
  ·have HR:=hide iO
   clear iO
   go_wp2_with fail
   refine(iN w1 B g A1 bl mk HM.out r 0 (.inl rfl)).mono ?_
   rintro en w2 hg
   have HF:=hide (MR.kK HE.out HN.out (HK.out.mono (fun j hj=>List.mem_cons_of_mem _ hj)) (fun _=>HR.out) hg)
   obtain⟨rfl,_⟩:=hg
   go_wp2
   go_ret
   exact HF.out
  ·have yU:=hide hfull
   clear hfull
   go_wp2_with fail
   refine(iN w1 B g A1 bl mk HM.out 0 6 (.inr ⟨rfl,yU.out⟩)).mono ?_
   rintro en w2 hg
   have HF:=hide (MR.kK (F:=qh F) HE.out HN.out (HK.out.mono (fun j hj=>List.mem_cons_of_mem _ hj)) (fun h=>by cases h) hg)
   obtain⟨rfl,_⟩:=hg
   go_wp2
   go_ret
   exact HF.out
 ·have HF:=hide (MR.none P (qh F) H.out he)
  have hne:((e:Int) != 0)=true:=by simp;omega
  clear h hP hf her he
  go_enter Tryz.func98,Tryz.ntmps98
  go_wp2
  go_ret
  exact HF.out
def dL (F:aj.Fn) (a:Nat):Nat→aj.Fn
 |0=>F
 |n+1=>mP (dL F a n) (a+n)
def uM (P:aj.Fn→Prop) (F:aj.Fn) (a n:Nat):Prop:=∀k,k<n→PC P (aW (dL F a k) (a+k) false)∧PC P (aW (dL F a k) (a+k) true)∧PC P (mP (dL F a k) (a+k))
theorem uW (w:World) (B g:Nat) (A:St) (bl:List Nat) (mk e:Nat) (h:MK w B g A bl mk e) (f:Nat) (F:aj.Fn) (P:aj.Fn→Prop) (a n b:Nat) (hb:b=a+n) (hv:b≤A.vars) (hv2:A.vars≤16) (hf:e=0→dF A f F) (hP:uM P F a n):
  Calls Tryz.prog 96 #[.pointer (some ⟨mk,0,none⟩),.int .i64 (f:Int),.int .i64 (a:Int),.int .i64 (b:Int)] w (MR w B g A bl mk e P (dL F a n)):=by
 have uh:=hide (uV.start h P)
 have HP:=hide hP
 have Qx:=hide hf
 clear h hP hf
 have sH:b≤16:=by omega
 have HB:=hide hb
 clear hb
 go_enter Tryz.func96,Tryz.ntmps96
 go_wp2_with fail
 go_loopw [1,9] (fun u i wr=>∃(k:Nat) (A2:St) (e2 r:Nat),k≤n∧i= .int .i64 ((a:Int)+(k:Int))∧u= .int .i64 (r:Int)∧Hid (uV w B g A bl mk e P wr A2 e2)∧Hid (e2=0→dF A2 r (dL F a k))) (fun _ i _=>b - (intOf i).toNat)
 case atStart=>exact⟨0,A,e,f,Nat.zero_le _,rfl,rfl,uh,Qx⟩
 case round=>
  clear uh Qx
  obtain⟨k,A2,e2,r,hk,rfl,rfl,HG,HF⟩:=hrel
  have c0:wr.cell? ⟨mk,0,none⟩=some (.pointer (some ⟨g,0,none⟩)):=HG.out.m.bx.get 0 _ rfl
  have c1:wr.cell? ⟨mk,1,none⟩=some (.int .i64 (e2:Int)):=HG.out.m.bx.get 1 _ rfl
  have hbb:=HB.out
  by_cases hlt:a+k<b
  ·by_cases he:e2=0
   ·subst he
    obtain⟨p1,p2,p3⟩:=HP.out k (by omega)
    have hai:((a:Int)+(k:Int))=((a+k:Nat):Int):=by omega
    have HC:=hide (Qv HG.out.m.sa (HF.out rfl) (by rw[HG.out.ext.vars];omega) p1 p2 p3)
    rw[← hai]at HC
    clear p1 p2 p3 hai hbb
    go_wp2_with fail
    refine HC.out.mono ?_
    clear HC c0 c1
    rintro en w1 ⟨A1,hsa,hext,hnw,hkp,hres⟩
    have HE:=hide hext
    have HN:=hide hnw
    have HK:=hide hkp
    have hbx:Bx w1 mk #[.pointer (some ⟨g,0,none⟩),.int .i64 0] 72:=HG.out.m.bx.same (hkp.same mk (by simp))
    have HM:=hide (show MK w1 B g A1 bl mk 0 from⟨hsa,hbx,.inl rfl,HG.out.m.ap⟩)
    clear hsa hext hnw hkp hbx
    rcases hres with⟨r1,rfl,iO⟩ | ⟨rfl,hfull⟩
    ·have HR:=hide iO
     clear iO
     go_wp2_with fail
     refine(iN w1 B g A1 bl mk HM.out r1 0 (.inl rfl)).mono ?_
     rintro en w2 hg
     obtain⟨A3,e3,r3,hen,uX,hx3,ow⟩:=HG.out.step (MR.kK HE.out HN.out (HK.out.mono (fun j hj=>List.mem_cons_of_mem _ hj)) (fun _=>HR.out) hg)
     obtain⟨rfl,_⟩:=hg
     have uY:=hide uX
     have mF:=hide (fun he=>(ow he).2)
     obtain rfl:r3=r1:=by
      have:(r1:Int)=(r3:Int):=by simpa using hen
      omega
     clear uX ow hx3 hen HM HR HE HN HK
     go_wp2_with fail
     go_roundw
     case rel=>exact⟨k+1,A3,e3,_,by have:=HB.out;omega,by go_num,rfl,uY,mF⟩
     case measure=>simp[intOf];omega
    ·have yU:=hide hfull
     clear hfull
     go_wp2_with fail
     refine(iN w1 B g A1 bl mk HM.out 0 6 (.inr ⟨rfl,yU.out⟩)).mono ?_
     rintro en w2 hg
     obtain⟨A3,e3,r3,hen,uX,hx3,ow⟩:=HG.out.step (MR.kK (F:=dL F a (k+1)) HE.out HN.out (HK.out.mono (fun j hj=>List.mem_cons_of_mem _ hj)) (fun h=>by cases h) hg)
     obtain⟨rfl,_⟩:=hg
     have uY:=hide uX
     have mF:=hide (fun he=>(ow he).2)
     obtain rfl:r3=0:=by
      have:(0:Int)=(r3:Int):=by simpa using hen
      omega
     clear uX ow hx3 hen HM HE HN HK
     go_wp2_with fail
     go_roundw
     case rel=>exact⟨k+1,A3,e3,_,by have:=HB.out;omega,by go_num,rfl,uY,mF⟩
     case measure=>simp[intOf];omega
   ·clear hbb
    have hne:((e2:Int)==0)=false:=by simp;omega
    have HX:=hide (HG.out.out (F:=dL F a n) (r:=r) (fun h=>absurd h he))
    clear he
    go_wp2
    go_ret
    exact HX.out
  ·obtain rfl:k=n:=by omega
   clear hbb
   have HX:=hide (HG.out.out (F:=dL F a k) HF.out)
   go_wp2
   go_ret
   exact HX.out
def qE (F:aj.Fn):Nat→aj.Fn
 |0=>F
 |n+1=>xO (qE F n) n (n+4)
def zK (F:aj.Fn):Nat→aj.Fn
 |0=>F
 |n+1=>xO (zK F n) (n+8) (n+11)
def mH (F:aj.Fn):aj.Fn:=zK (qE F 4) 3
structure Bp (P:aj.Fn→Prop) (F:aj.Fn):Prop where
 q4:∀k,k<4→Bl P (qE F k) k (k+4)
 q3:∀k,k<3→Bl P (zK (qE F 4) k) (k+8) (k+11)
theorem uZ {P:Program} {f:FuncId} {args args':Array Value} {w:World} {Q:Ending→World→Prop} (h:Calls P f args w Q) (e:args=args'):Calls P f args' w Q:=e▸h
theorem Gc (w:World) (B g:Nat) (A:St) (bl:List Nat) (mk e:Nat) (h:MK w B g A bl mk e) (f:Nat) (F:aj.Fn) (P:aj.Fn→Prop) (hv:A.vars=14) (hf:e=0→dF A f F) (hP:Bp P F):
  Calls Tryz.prog 95 #[.pointer (some ⟨mk,0,none⟩),.int .i64 (f:Int)] w (MR w B g A bl mk e P (mH F)):=by
 have uh:=hide (uV.start h P)
 have HP:=hide hP
 have Qx:=hide hf
 clear h hP hf
 go_enter Tryz.func95,Tryz.ntmps95
 go_wp2_with fail
 go_loopw [1,7] (fun u i wr=>∃(k:Nat) (A2:St) (e2 r:Nat),k≤4∧i= .int .i64 (k:Int)∧u= .int .i64 (r:Int)∧Hid (uV w B g A bl mk e P wr A2 e2)∧Hid (e2=0→dF A2 r (qE F k))) (fun _ i _=>4 - (intOf i).toNat)
 case atStart=>exact⟨0,A,e,f,Nat.zero_le _,rfl,rfl,uh,Qx⟩
 case round=>
  clear uh Qx
  obtain⟨k,A2,e2,r,hk,rfl,rfl,HG,HF⟩:=hrel
  have c0:wr.cell? ⟨mk,0,none⟩=some (.pointer (some ⟨g,0,none⟩)):=HG.out.m.bx.get 0 _ rfl
  have c1:wr.cell? ⟨mk,1,none⟩=some (.int .i64 (e2:Int)):=HG.out.m.bx.get 1 _ rfl
  by_cases hlt:k<4
  ·by_cases he:e2=0
   ·subst he
    have HC:=hide (Mv HG.out.m.sa (i:=k+0) (j:=k+4) (HF.out rfl) (by rw[HG.out.ext.vars];omega) (by rw[HG.out.ext.vars];omega) (by omega) (HP.out.q4 k hlt))
    go_wp2_with fail
    refine(uZ HC.out (by go_num)).mono ?_
    clear HC c0 c1
    rintro en w1 ⟨A1,hsa,hext,hnw,hkp,hres⟩
    have HE:=hide hext
    have HN:=hide hnw
    have HK:=hide hkp
    have hbx:Bx w1 mk #[.pointer (some ⟨g,0,none⟩),.int .i64 0] 72:=HG.out.m.bx.same (hkp.same mk (by simp))
    have HM:=hide (show MK w1 B g A1 bl mk 0 from⟨hsa,hbx,.inl rfl,HG.out.m.ap⟩)
    clear hsa hext hnw hkp hbx
    rcases hres with⟨r1,rfl,iO⟩ | ⟨rfl,hfull⟩
    ·have HR:=hide iO
     clear iO
     go_wp2_with fail
     refine(iN w1 B g A1 bl mk HM.out r1 0 (.inl rfl)).mono ?_
     rintro en w2 hg
     obtain⟨A3,e3,r3,hen,uX,hx3,ow⟩:=HG.out.step (MR.kK HE.out HN.out (HK.out.mono (fun j hj=>List.mem_cons_of_mem _ hj)) (fun _=>HR.out) hg)
     obtain⟨rfl,_⟩:=hg
     have uY:=hide uX
     have mF:=hide (fun he=>(ow he).2)
     obtain rfl:r3=r1:=by
      have:(r1:Int)=(r3:Int):=by simpa using hen
      omega
     clear uX ow hx3 hen HM HR HE HN HK
     go_wp2_with fail
     go_roundw
     case rel=>exact⟨k+1,A3,e3,_,by omega,by go_num,rfl,uY,mF⟩
     case measure=>simp[intOf];omega
    ·have yU:=hide hfull
     clear hfull
     go_wp2_with fail
     refine(iN w1 B g A1 bl mk HM.out 0 6 (.inr ⟨rfl,yU.out⟩)).mono ?_
     rintro en w2 hg
     obtain⟨A3,e3,r3,hen,uX,hx3,ow⟩:=HG.out.step (MR.kK (F:=qE F (k+1)) HE.out HN.out (HK.out.mono (fun j hj=>List.mem_cons_of_mem _ hj)) (fun h=>by cases h) hg)
     obtain⟨rfl,_⟩:=hg
     have uY:=hide uX
     have mF:=hide (fun he=>(ow he).2)
     obtain rfl:r3=0:=by
      have:(0:Int)=(r3:Int):=by simpa using hen
      omega
     clear uX ow hx3 hen HM HE HN HK
     go_wp2_with fail
     go_roundw
     case rel=>exact⟨k+1,A3,e3,_,by omega,by go_num,rfl,uY,mF⟩
     case measure=>simp[intOf];omega
   ·have hne:((e2:Int)==0)=false:=by simp;omega
    have mF:=hide (show e2=0→dF A2 r (qE F (k+1))from fun h=>absurd h he)
    clear he
    go_wp2_with fail
    go_roundw
    case rel=>exact⟨k+1,A2,e2,r,by omega,by go_num,rfl,HG,mF⟩
    case measure=>simp[intOf];omega
  ·have Qy:=hide (show e2=0→dF A2 r (qE F 4)from by have:=HF.out;rwa [show k=4 by omega]at this)
   clear HF
   go_wp2_with fail
   clear hlt hk
   go_loopw [1,29] (fun u i wr=>∃(k:Nat) (A2:St) (e2 r:Nat),k≤3∧i= .int .i64 (k:Int)∧u= .int .i64 (r:Int)∧Hid (uV w B g A bl mk e P wr A2 e2)∧Hid (e2=0→dF A2 r (zK (qE F 4) k))) (fun _ i _=>3 - (intOf i).toNat)
   case atStart=>exact⟨0,A2,e2,r,Nat.zero_le _,rfl,rfl,HG,Qy⟩
   case round=>
    clear HG Qy c0 c1
    obtain⟨k,A2,e2,r,hk,rfl,rfl,HG,HF⟩:=hrel
    have c0:wr.cell? ⟨mk,0,none⟩=some (.pointer (some ⟨g,0,none⟩)):=HG.out.m.bx.get 0 _ rfl
    have c1:wr.cell? ⟨mk,1,none⟩=some (.int .i64 (e2:Int)):=HG.out.m.bx.get 1 _ rfl
    by_cases hlt:k<3
    ·by_cases he:e2=0
     ·subst he
      have HC:=hide (Mv HG.out.m.sa (i:=k+8) (j:=k+11) (HF.out rfl) (by rw[HG.out.ext.vars];omega) (by rw[HG.out.ext.vars];omega) (by omega) (HP.out.q3 k hlt))
      go_wp2_with fail
      refine(uZ HC.out (by go_num)).mono ?_
      clear HC c0 c1
      rintro en w1 ⟨A1,hsa,hext,hnw,hkp,hres⟩
      have HE:=hide hext
      have HN:=hide hnw
      have HK:=hide hkp
      have hbx:Bx w1 mk #[.pointer (some ⟨g,0,none⟩),.int .i64 0] 72:=HG.out.m.bx.same (hkp.same mk (by simp))
      have HM:=hide (show MK w1 B g A1 bl mk 0 from⟨hsa,hbx,.inl rfl,HG.out.m.ap⟩)
      clear hsa hext hnw hkp hbx
      rcases hres with⟨r1,rfl,iO⟩ | ⟨rfl,hfull⟩
      ·have HR:=hide iO
       clear iO
       go_wp2_with fail
       refine(iN w1 B g A1 bl mk HM.out r1 0 (.inl rfl)).mono ?_
       rintro en w2 hg
       obtain⟨A3,e3,r3,hen,uX,hx3,ow⟩:=HG.out.step (MR.kK HE.out HN.out (HK.out.mono (fun j hj=>List.mem_cons_of_mem _ hj)) (fun _=>HR.out) hg)
       obtain⟨rfl,_⟩:=hg
       have uY:=hide uX
       have mF:=hide (fun he=>(ow he).2)
       obtain rfl:r3=r1:=by
        have:(r1:Int)=(r3:Int):=by simpa using hen
        omega
       clear uX ow hx3 hen HM HR HE HN HK
       go_wp2_with fail
       go_roundw
       case rel=>exact⟨k+1,A3,e3,_,by omega,by go_num,rfl,uY,mF⟩
       case measure=>simp[intOf];omega
      ·have yU:=hide hfull
       clear hfull
       go_wp2_with fail
       refine(iN w1 B g A1 bl mk HM.out 0 6 (.inr ⟨rfl,yU.out⟩)).mono ?_
       rintro en w2 hg
       obtain⟨A3,e3,r3,hen,uX,hx3,ow⟩:=HG.out.step (MR.kK (F:=zK (qE F 4) (k+1)) HE.out HN.out (HK.out.mono (fun j hj=>List.mem_cons_of_mem _ hj)) (fun h=>by cases h) hg)
       obtain⟨rfl,_⟩:=hg
       have uY:=hide uX
       have mF:=hide (fun he=>(ow he).2)
       obtain rfl:r3=0:=by
        have:(0:Int)=(r3:Int):=by simpa using hen
        omega
       clear uX ow hx3 hen HM HE HN HK
       go_wp2_with fail
       go_roundw
       case rel=>exact⟨k+1,A3,e3,_,by omega,by go_num,rfl,uY,mF⟩
       case measure=>simp[intOf];omega
     ·have hne:((e2:Int)==0)=false:=by simp;omega
      have mF:=hide (show e2=0→dF A2 r (zK (qE F 4) (k+1))from fun h=>absurd h he)
      clear he
      go_wp2_with fail
      go_roundw
      case rel=>exact⟨k+1,A2,e2,r,by omega,by go_num,rfl,HG,mF⟩
      case measure=>simp[intOf];omega
    ·obtain rfl:k=3:=by omega
     have HX:=hide (HG.out.out (F:=mH F) HF.out)
     clear hlt
     go_wp2
     go_ret
     exact HX.out
end Go.Proofs.YtifkacnoiocebaaGreat
