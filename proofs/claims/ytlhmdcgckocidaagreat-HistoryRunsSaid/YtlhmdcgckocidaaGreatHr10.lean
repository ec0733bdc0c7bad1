/- A part of the proof: Boxes, StepKnow, Chain, StepSmall, StepF, Mind1. -/
import Derived.Test.YtlhmdcgckocidaaGreatHr9
import Derived.Deep.MidRow
import Derived.Shelf.Abstract
set_option linter.unusedVariables false
set_option linter.unusedSimpArgs false
set_option maxRecDepth 100000
set_option maxHeartbeats 4000000
namespace Go.Proofs.YtlhmdcgckocidaaGreat
open Go.Maps Go.RowKit
def aB (w:World) (N:Nat) (vs:Array Value):Prop:=(∀(j:Nat) (v:Value),vs[j]?=some v→w.cell? ⟨N,j,none⟩=some v)∧∀o,w.frozen? ⟨N,o,none⟩=false
theorem aB.of_block {w:World} {N:Nat} {vs:Array Value} {t:TypeId} (h:w.heap[N]?=some (.cells vs t)):aB w N vs:=
 ⟨fun j v hv=>by rw[cell_of_row _ _ _ _ _ _ h];exact hv,fun o=>by unfold World.frozen?;simp only[h];simp⟩
theorem aB.new (w:World) (vs:Array Value) (t:TypeId):aB (w.alloc (.cells vs t)) w.heap.size vs:=aB.of_block (heap_alloc_new w _)
theorem aB.below {w w':World} {B N:Nat} {vs:Array Value} (h:aB w N vs) (hB:Below B w w') (hN:N<B):aB w' N vs:=
 ⟨fun j v hv=>(hB.cell (p:=⟨N,j,none⟩) hN).trans (h.1 j v hv),fun o=>(hB.frozen (p:=⟨N,o,none⟩) hN).trans (h.2 o)⟩
theorem aB.set {w:World} {N:Nat} {vs:Array Value} (h:aB w N vs) (j:Nat) (v:Value):aB (w.setCell ⟨N,j,none⟩ v) N (vs.setIfInBounds j v):=by
 refine⟨fun i u hu=>?_,fun o=>by rw[World.frozen?_setCell];exact h.2 o⟩
 by_cases e:j=i
 ·subst e
  rw[Array.getElem?_setIfInBounds_self]at hu
  split at hu
  ·rename_i hj
   cases hu
   exact World.cell?_setCell_same _ _ _ (h.1 j _ (Array.getElem?_eq_getElem hj))
  ·cases hu
 ·rw[Array.getElem?_setIfInBounds_ne e]at hu
  rw[World.cell?_setCell_other _ _ _ _ (by simp[Ne.symm e])]
  exact h.1 i u hu
theorem aB.far {w:World} {N:Nat} {vs:Array Value} (h:aB w N vs) (a:Addr) (v:Value) (hne:a.block≠N):aB (w.setCell a v) N vs:=by
 refine⟨fun i u hu=>?_,fun o=>by rw[World.frozen?_setCell];exact h.2 o⟩
 rw[World.cell?_setCell_other _ _ _ _ (by intro e;apply hne;rw[e])]
 exact h.1 i u hu
theorem aB.there {w:World} {N:Nat} {vs:Array Value} (h:aB w N vs) {n:Nat} (hn:n≤vs.size):w.there N 0 n:=fun j hj=>
 ⟨by rw[Nat.zero_add,h.1 j _ (Array.getElem?_eq_getElem (by omega))];rfl,h.2 _⟩
theorem aB.all {w:World} {N:Nat} {vs:Array Value} (h:aB w N vs) (cs:List Value) (hl:cs.length=vs.size):aB (w.setCells N 0 cs) N cs.toArray:=
 ⟨fun j v hv=>by
  have:=World.rangeAt_setCells_same w N 0 cs (h.there (by omega)) j v (by simpa using hv)
  rwa [Nat.zero_add]at this,fun o=>by rw[World.frozen?_setCells];exact h.2 o⟩
theorem below_setCells {B N:Nat} {a:World} (hN:B≤N):∀(cs:List Value) (o:Nat) (w:World),Below B a w→Below B a (w.setCells N o cs)
 |[],_,_,h=>h
 |v::r,o,w,h=>below_setCells hN r (o+1) _ (h.setCell (by exact hN) v)
theorem Zu:∀(l:List (Array Value×TypeId)) (W:World) (i:Nat) c t,l[i]?=some (c,t)→(l.foldl (fun w x=>w.alloc (.cells x.1 x.2)) W).heap[W.heap.size+i]?=some (.cells c t):=by
 intro l
 induction l with
 |nil=>intro W i c t h;simp at h
 |cons x l ih=>
  intro W i c t h
  have hz:(W.alloc (.cells x.1 x.2)).heap.size =W.heap.size+1:=by simp
  simp only[List.foldl_cons]
  cases i with
  |zero=>
   cases h
   obtain⟨_,hb,_⟩:=Q6 l (W.alloc (.cells c t)) (Below.refl _ _)
   rw[hz]at hb
   rw[Nat.add_zero,hb.block _ (Nat.lt_succ_self _)]
   exact heap_alloc_new W _
  |succ i=>
   have:=ih (W.alloc (.cells x.1 x.2)) i c t (by simpa using h)
   rw[hz]at this
   rw[show W.heap.size+(i+1)=W.heap.size+1+i by omega]
   exact this
theorem gU (l:List (Array Value×TypeId)) (W:World) {W':World} {B:Nat} (hb:Below B (l.foldl (fun w x=>w.alloc (.cells x.1 x.2)) W) W'):
  (∀(i:Nat) c t,l[i]?=some (c,t)→W.heap.size+i<B→aB W' (W.heap.size+i) c)∧(W.heap.size≤B→Below W.heap.size W W'):=by
 refine⟨fun i c t hi hB=>aB.of_block (t:=t) ((hb.block _ hB).trans (Zu l W i c t hi)),fun hB=>?_⟩
 obtain⟨_,h2,_⟩:=Q6 l W (Below.refl _ _)
 exact h2.trans (hb.mono hB)
theorem aB.near {w w':World} {p:Nat→Prop} {B N:Nat} {vs:Array Value} (h:aB w N vs) (hB:aL p B w w') (hN:N<B) (hp:¬p N):aB w' N vs:=
 ⟨fun j v hv=>(hB.cell (a:=⟨N,j,none⟩) hN hp).trans (h.1 j v hv),fun o=>(hB.frozen (a:=⟨N,o,none⟩) hN hp).trans (h.2 o)⟩
theorem bX:(Tryz.prog.info? 217).map (·.size)=some 6:=by kernel_rfl
def bq (port:Int) (q:P4) (v:Value):Value:=.agg #[.int .i64 port,.int .i64 q.src,.int .i64 q.dst,.int .i64 q.ah,.int .i64 q.aj,v]
structure Same (L B:Nat) (w w':World):Prop where
 size:w.heap.size≤w'.heap.size
 blk:∀K,L≤K→K<B→w'.heap[K]?=w.heap[K]?
theorem Same.of_below {L B:Nat} {w w':World} (h:Below B w w'):Same L B w w':=⟨h.size,fun K _ hK=>h.block K hK⟩
theorem Same.mono {L B B':Nat} {w w':World} (h:Same L B w w') (hB:B'≤B):Same L B' w w':=⟨h.size,fun K h1 h2=>h.blk K h1 (by omega)⟩
theorem Same.trans {L B:Nat} {w w' w'':World} (h:Same L B w w') (k:Same L B w' w''):Same L B w w'':=⟨Nat.le_trans h.size k.size,fun K h1 h2=>(k.blk K h1 h2).trans (h.blk K h1 h2)⟩
theorem aB.jS {w w':World} {L B N:Nat} {vs:Array Value} (h:aB w N vs) (hs:Same L B w w') (hL:L≤N) (hN:N<B):aB w' N vs:=
 ⟨fun j v hv=>(World.cell?_of_block (a:=⟨N,j,none⟩) (hs.blk N hL hN)).trans (h.1 j v hv),fun o=>(World.frozen?_of_block (a:=⟨N,o,none⟩) (hs.blk N hL hN)).trans (h.2 o)⟩
theorem rC {L N:Nat} (hN:N<L):∀(cs:List Value) (o:Nat) (w:World),w.heap.size≤(w.setCells N o cs).heap.size ∧∀K,L≤K→(w.setCells N o cs).heap[K]?=w.heap[K]?
 |[],_,w=>⟨Nat.le_refl _,fun _ _=>rfl⟩
 |v::r,o,w=>by
  obtain⟨h1,h2⟩:=rC hN r (o+1) (w.setCell ⟨N,o,none⟩ v)
  refine⟨by simpa[World.setCell,World.setCells]using h1,fun K hK=>?_⟩
  rw[World.setCells,h2 K hK]
  exact Below.heap_setCell _ _ _ _ (by show K≠N;omega)
theorem vF {L B N:Nat} (hN:N<L) (cs:List Value) (w:World):Same L B w (w.setCells N 0 cs):=
 ⟨(rC hN cs 0 w).1,fun K hK _=>(rC hN cs 0 w).2 K hK⟩
def jG (L:Nat) (w:World) (g:Nat) (n:aH) (f o b:Nat) (v:Value) (kn:Know):Prop:=
 (kn= .nothing ∧v= .nilFunc)∨(∃F cap,v= .func (.func F) #[] cap∧(∀(args:Array Value) (w':World),(callFunc F args).run Tryz.prog w'= .ok (.enter F args) w')∧∀(M:aK) (k:Nat) (w':World),Same L w.heap.size w w'→aM w' g n f o b M k→k<1000000→
  Calls Tryz.prog F cap w' fun e w''=>e= .returned (.tuple #[])∧aM w'' g n f o b (M.learn kn) (k+1)∧aL (eX f o b) w'.heap.size w' w'')
theorem jG.later {L L':Nat} {w w':World} {g:Nat} {n:aH} {f o b:Nat} {v:Value} {kn:Know} (h:jG L w g n f o b v kn) (hb:Same L w.heap.size w w') (hL:L'≤L):jG L' w' g n f o b v kn:=by
 rcases h with h | ⟨F,cap,e,he,h⟩
 ·exact .inl h
 ·exact .inr ⟨F,cap,e,he,fun M k w'' hb'=>h M k w'' (hb.trans ⟨hb'.size,fun K h1 h2=>hb'.blk K (by omega) (by have:=hb.size;omega)⟩)⟩
theorem jG.one {L:Nat} {w:World} {g:Nat} {n:aH} {f o b:Nat} {v:Value} {kn:Know} (h:jG L w g n f o b v kn):v.oneCell'=true:=by
 rcases h with⟨_,rfl⟩ | ⟨F,cap,rfl,_⟩<;>rfl
theorem Du {a b c d e:Int} {v:Value} (h:v.oneCell'=true):(#[.int .i64 a,.int .i64 b,.int .i64 c,.int .i64 d,.int .i64 e,v]:Array Value).all (·.oneCell')=true:=by
 have hi:∀k n,(Value.int k n).oneCell' =true:=fun _ _=>rfl
 simp[hi,h]
theorem Jr:∀(args:Array Value) (w':World),(callFunc 190 args).run Tryz.prog w'= .ok (.enter 190 args) w':=enters_of Tryz.func190 (by kernel_rfl) rfl
theorem CX:∀(args:Array Value) (w':World),(callFunc 192 args).run Tryz.prog w'= .ok (.enter 192 args) w':=enters_of Tryz.func192 (by kernel_rfl) rfl
theorem CY:∀(args:Array Value) (w':World),(callFunc 193 args).run Tryz.prog w'= .ok (.enter 193 args) w':=enters_of Tryz.func193 (by kernel_rfl) rfl
theorem OL (g:Nat) (n:aH) (f o b:Nat) (M:aK) (k:Nat) (A C D:Nat) (i y:Int) (p:P4) (w:World) (hM:aM w g n f o b M k) (hk:k<1000000) (hA:aB w A #[.pointer (some ⟨g,0,none⟩)]) (hC:aB w C #[.int .i64 i,.int .i64 y])
  (hD:aB w D #[.int .i64 p.src,.int .i64 p.dst,.int .i64 p.ah,.int .i64 p.aj]) (hi:ay i) (hp:p.ok):
  Calls Tryz.prog 190 #[.pointer (some ⟨A,0,none⟩),.pointer (some ⟨C,0,none⟩),.pointer (some ⟨D,0,none⟩)] w fun e w'=>e= .returned (.tuple #[])∧aM w' g n f o b (M.learn (.flow (i,p))) (k+1)∧aL (eX f o b) w.heap.size w w':=by
 obtain⟨w',hrun,hM',hN⟩:=(hM.below (Below.refl _ _).drew).flow hk (i,p) ⟨hi,hp⟩
 have H1:=hide hM'
 have H2:=hide (show aL (eX f o b) w.heap.size w w' from(aL.of_below (Below.refl _ _).drew).trans hN)
 have c2:=hM.c2
 have a0:=hA.1 0 _ rfl
 have b0:=hC.1 0 _ rfl
 have p0:=hD.1 0 _ rfl
 have p1:=hD.1 1 _ rfl
 have p2:=hD.1 2 _ rfl
 have p3:=hD.1 3 _ rfl
 clear hM' hN hM hA hC hD hi hp hk
 simp only[jg]at hrun
 go_enter Tryz.func190,Tryz.ntmps190
 go_still_tail 8,(by kernel_rfl)
 go_wp2
 go_end0
 exact⟨rfl,H1.out,H2.out⟩
theorem GH (g:Nat) (n:aH) (f o b:Nat) (M:aK) (k:Nat) (E A C D:Nat) (i y x:Int) (u:Int×Int) (w:World) (hM:aM w g n f o b M k) (hk:k<1000000) (hE:aB w E #[.int .i64 u.1,.int .i64 u.2]) (hA:aB w A #[.pointer (some ⟨g,0,none⟩)]) (hC:aB w C #[.int .i64 i,.int .i64 y])
  (hD:aB w D #[.int .i64 x]) (hi:ay i) (hx:ay x) (hu:ay u.1∧ay u.2):
  Calls Tryz.prog 192 #[.pointer (some ⟨E,0,none⟩),.pointer (some ⟨A,0,none⟩),.pointer (some ⟨C,0,none⟩),.pointer (some ⟨D,0,none⟩)] w fun e w'=>e= .returned (.tuple #[])∧aM w' g n f o b (M.learn (.owner (i,x) u)) (k+1)∧aL (eX f o b) w.heap.size w w':=by
 obtain⟨w',hrun,hM',hN⟩:=(hM.below (Below.refl _ _).drew).owner hk (i,x) ⟨hi,hx⟩ u hu
 have H1:=hide hM'
 have H2:=hide (show aL (eX f o b) w.heap.size w w' from(aL.of_below (Below.refl _ _).drew).trans hN)
 have c3:=hM.c3
 have a0:=hA.1 0 _ rfl
 have b0:=hC.1 0 _ rfl
 have p0:=hD.1 0 _ rfl
 have e0:=hE.1 0 _ rfl
 have e1:=hE.1 1 _ rfl
 clear hM' hN hM hA hC hD hi hx hk hE hu
 simp only[dS,yD]at hrun
 go_enter Tryz.func192,Tryz.ntmps192
 go_still_tail 9,(by kernel_rfl)
 go_wp2
 go_end0
 exact⟨rfl,H1.out,H2.out⟩
theorem GI (g:Nat) (n:aH) (f o b:Nat) (M:aK) (k:Nat) (E A C D:Nat) (i y u:Int) (p:P4) (w:World) (hM:aM w g n f o b M k) (hk:k<1000000) (hE:aB w E #[.int .i64 u]) (hA:aB w A #[.pointer (some ⟨g,0,none⟩)]) (hC:aB w C #[.int .i64 i,.int .i64 y])
  (hD:aB w D #[.int .i64 p.src,.int .i64 p.dst,.int .i64 p.ah,.int .i64 p.aj]) (hi:ay i) (hp:p.ok) (hu:ay u):
  Calls Tryz.prog 193 #[.pointer (some ⟨E,0,none⟩),.pointer (some ⟨A,0,none⟩),.pointer (some ⟨C,0,none⟩),.pointer (some ⟨D,0,none⟩)] w fun e w'=>e= .returned (.tuple #[])∧aM w' g n f o b (M.learn (.back (i,p) u)) (k+1)∧aL (eX f o b) w.heap.size w w':=by
 obtain⟨w',hrun,hM',hN⟩:=(hM.below (Below.refl _ _).drew).back hk (i,p) ⟨hi,hp⟩ u hu
 have H1:=hide hM'
 have H2:=hide (show aL (eX f o b) w.heap.size w w' from(aL.of_below (Below.refl _ _).drew).trans hN)
 have c4:=hM.c4
 have a0:=hA.1 0 _ rfl
 have b0:=hC.1 0 _ rfl
 have p0:=hD.1 0 _ rfl
 have p1:=hD.1 1 _ rfl
 have p2:=hD.1 2 _ rfl
 have p3:=hD.1 3 _ rfl
 have e0:=hE.1 0 _ rfl
 clear hM' hN hM hA hC hD hi hp hk hE hu
 simp only[jg]at hrun
 go_enter Tryz.func193,Tryz.ntmps193
 go_still_tail 9,(by kernel_rfl)
 go_wp2
 go_end0
 exact⟨rfl,H1.out,H2.out⟩
def pq (s:ByteArray) (a:Int):aA:=⟨s,1,a,0,none,0,0,[],none,0,0,[],none,0,0,[]⟩
def d9 (d:Dev):List Dev:=[⟨⟨#[105,110]⟩,1,1,0,[],[],[]⟩,⟨⟨#[100]⟩,d.kind,d.addr,d.pool,d.backs,d.rules,d.routes⟩,⟨⟨#[111,117,116]⟩,1,2,0,[],[],[]⟩]
def aX:List av:=[⟨0,0,1,0⟩,⟨1,1,2,0⟩]
theorem Dv {α:Type} {cells:α→List Value} {s:Nat} (hs:∀r,(cells r).length =s) {w:World} {N B:Nat} {l:List α} (h:aB w N (l.flatMap cells).toArray) (hN:N<B):bB cells s w B (some ⟨N,0,none⟩) l.length l:=
 ⟨rfl,fun _=>⟨N,0,rfl,hN,fun k r hr j v hv=>by
  rw[Nat.zero_add]
  exact h.1 _ v (by simpa using flat_get hs l k r j v hr hv)⟩⟩
theorem Q7 (w:World) (B:Nat) (s:ByteArray) (a:Int) (hs:s.size≤maxLen) (ha:ay a):fV w B (pq s a):=
 ⟨hs,by simp[pq,ay],ha,by simp[pq],⟨rfl,fun x hx=>by simp[pq]at hx,fun h0=>absurd h0 (Nat.lt_irrefl _)⟩,⟨rfl,fun r hr=>by simp[pq]at hr,fun h0=>absurd h0 (Nat.lt_irrefl _)⟩,⟨rfl,fun h0=>absurd h0 (Nat.lt_irrefl _)⟩,fun r hr=>by simp[pq]at hr,by simp[pq],by simp[pq],by simp[pq]⟩
theorem Ee (d:aA) (W:World) (hd:fV W W.heap.size d):
  Calls Tryz.prog 37 #[.agg #[.string d.name,.int .i64 d.kind,.int .i64 d.addr,.int .u8 d.pool,.slice d.bA d.bn d.bc,.slice d.rA d.rn d.rc,.slice d.tA d.tn d.tc]] W fun e W'=>∃n:aH,e= .returned n.val∧bf W' W'.heap.size n∧n.au=d9 d.dev∧n.ls=aX∧Below W.heap.size W W':=by
 go_enter Tryz.func37,Tryz.ntmps37
 go_wp2
 generalize hW:World.alloc _ _=W4
 obtain⟨hq,hb⟩:=gU (B:=W4.heap.size) [(#[.string ⟨#[100]⟩,.int .i64 d.kind,.int .i64 d.addr,.int .u8 d.pool,.slice d.bA d.bn d.bc,.slice d.rA d.rn d.rc,.slice d.tA d.tn d.tc],86),
  (#[.slice (some ⟨W.heap.size+1+1,0,none⟩) 3 3,.slice (some ⟨W.heap.size+1+1+1,0,none⟩) 2 2],25),
  (([pq ⟨#[105,110]⟩ 1,⟨⟨#[100]⟩,d.kind,d.addr,d.pool,d.bA,d.bn,d.bc,d.bs,d.rA,d.rn,d.rc,d.rs,d.tA,d.tn,d.tc,d.ts⟩,pq ⟨#[111,117,116]⟩ 2].flatMap aA.cells).toArray,86),
  ((aX.flatMap av.cells).toArray,128)] W (W':=W4) (by rw[← hW];exact Below.refl _ _)
 have hs:W4.heap.size=W.heap.size+4:=by rw[← hW];simp
 clear hW
 have hbx:=hq 1 _ _ rfl (by omega)
 have hbd:=hq 2 _ _ rfl (by omega)
 have hbl:=hq 3 _ _ rfl (by omega)
 have hbe:=hb (by omega)
 obtain⟨z0,z1⟩:W4.cell? ⟨W.heap.size+1,0,none⟩=some (.slice (some ⟨W.heap.size+1+1,0,none⟩) 3 3)∧W4.cell? ⟨W.heap.size+1,1,none⟩=some (.slice (some ⟨W.heap.size+1+1+1,0,none⟩) 2 2):=⟨hbx.1 0 _ rfl,hbx.1 1 _ rfl⟩
 refine bodyPost_ret (v:=.agg #[.slice (some ⟨W.heap.size+1+1,0,none⟩) 3 3,.slice (some ⟨W.heap.size+1+1+1,0,none⟩) 2 2]) (by simp[results,Tryz.f37,go_sem,z0,z1]) rfl
  ⟨⟨some ⟨W.heap.size+1+1,0,none⟩,3,3,[pq ⟨#[105,110]⟩ 1,⟨⟨#[100]⟩,d.kind,d.addr,d.pool,d.bA,d.bn,d.bc,d.bs,d.rA,d.rn,d.rc,d.rs,d.tA,d.tn,d.tc,d.ts⟩,pq ⟨#[111,117,116]⟩ 2],some ⟨W.heap.size+1+1+1,0,none⟩,2,2,aX⟩,rfl,?_,rfl,rfl,hbe⟩
 have hd4:=hd.below hbe (show W.heap.size≤W4.heap.size by omega)
 refine⟨Dv aA.len hbd (by omega),fun x hx=>?_,Dv av.len hbl (by omega),fun x hx=>?_,⟨Nat.le_refl _,show(3:Nat)≤maxLen by unfold maxLen;omega⟩,⟨Nat.le_refl _,show(2:Nat)≤maxLen by unfold maxLen;omega⟩⟩
 ·simp only[List.mem_cons,List.not_mem_nil,or_false]at hx
  rcases hx with rfl | rfl | rfl
  ·exact Q7 _ _ _ _ (by unfold maxLen;decide) (by unfold ay;omega)
  ·exact⟨show(1:Nat)≤maxLen by unfold maxLen;omega,hd4.kd,hd4.ad,hd4.pl,hd4.bs,hd4.rs,hd4.ts,hd4.tok,hd4.cb,hd4.cr,hd4.ct⟩
  ·exact Q7 _ _ _ _ (by unfold maxLen;decide) (by unfold ay;omega)
 ·simp only[aX,List.mem_cons,List.not_mem_nil,or_false]at hx
  rcases hx with rfl | rfl<;>simp[av.ok,ay]
theorem Js {d:Dev} {x y:Int} :bT (d9 d) (1,y)=(decide (0≤y) && decide (y<dL d.kind)):=by
 simp[bT,d9,nI]
theorem ab9:aP aX (1,1)=some (2,0):=by decide
theorem Q8 (d:Dev) (hd:dG ⟨⟨#[100]⟩,d.kind,d.addr,d.pool,d.backs,d.rules,d.routes⟩=0) (hk:dL d.kind=2):dD (d9 d) aX=0:=by
 have h1:lD ⟨#[105,110]⟩=true:=by decide
 have h2:lD ⟨#[100]⟩=true:=by decide
 have h3:lD ⟨#[111,117,116]⟩=true:=by decide
 have n1:ku ⟨#[105,110]⟩ ⟨#[100]⟩=false:=by simp[ku,ByteArray.toList_eq]
 have n2:ku ⟨#[105,110]⟩ ⟨#[111,117,116]⟩=false:=by simp[ku,ByteArray.toList_eq]
 have n3:ku ⟨#[100]⟩ ⟨#[111,117,116]⟩=false:=by simp[ku,ByteArray.toList_eq]
 have v1:dG ⟨⟨#[105,110]⟩,1,1,0,[],[],[]⟩=0:=by decide
 have v3:dG ⟨⟨#[111,117,116]⟩,1,2,0,[],[],[]⟩=0:=by decide
 have hds:jI [] (d9 d)=0:=by
  simp[jI,d9,h1,h2,h3,n1,n2,n3,v1,v3,hd]
 have hp:∀x:Int,bT (d9 d) (1,x)=(decide (0≤x) && decide (x<2)):=fun x=>by rw[Js (x:=0),hk]
 have p0:bT (d9 d) (0,0)=true:=by simp[bT,d9,nI,dL]
 have p2:bT (d9 d) (2,0)=true:=by simp[bT,d9,nI,dL]
 simp only[dD]
 rw[if_neg (by simp[d9,aX]),if_pos hds]
 simp[ji,aX,av.e1,av.e2,hp,p0,p2,iC,fE]
def jA (R:List aY):Dev:=⟨⟨#[]⟩,3,0,0,[],R,[]⟩
theorem UC (R:List aY):dG ⟨⟨#[100]⟩,3,0,0,[],R,[]⟩=if 8<R.length then 2 else 0:=by
 by_cases h:8<R.length
 ·simp[dG,jB,gu,jl,h]
 ·simp[dG,jB,gu,jl,h,gT,yC]
theorem Jt (R:List aY) (h:R.length≤8):dD (d9 (jA R)) aX=0:=
 Q8 (jA R) (by show dG ⟨⟨#[100]⟩,3,0,0,[],R,[]⟩=0;rw[UC,if_neg (by omega)]) rfl
def uG (A:Option Addr) (n c:Nat) (R:List aY):aA:=⟨⟨#[]⟩,3,0,0,none,0,0,[],A,n,c,R,none,0,0,[]⟩
theorem Ju {w:World} {B:Nat} {A:Option Addr} {n c:Nat} {R:List aY} (h:fB w B A n R) (hc:n≤c∧c≤maxLen):fV w B (uG A n c R):=
 ⟨Nat.zero_le _,by simp[uG,ay],by simp[uG,ay],by simp[uG],⟨rfl,fun x hx=>by simp[uG]at hx,fun h0=>absurd h0 (Nat.lt_irrefl _)⟩,h,⟨rfl,fun h0=>absurd h0 (Nat.lt_irrefl _)⟩,fun r hr=>by simp[uG]at hr,by simp[uG],hc,by simp[uG]⟩
theorem Ef {w:World} {N B:Nat} (h:aB w N #[.bool true,.int .u16 65535,.int .u16 65535,.int .u8 255,.int .u8 255]) (hN:N<B):fB w B (some ⟨N,0,none⟩) 1 [iy true]:=
 (show bB aY.cells 5 w B (some ⟨N,0,none⟩) [iy true].length [iy true]from Dv aY.len h hN).rules (fun r hr=>by
  obtain rfl:=List.mem_singleton.1 hr
  exact Yv _)
theorem rE (a b:Int) (W:World):Calls Tryz.prog 72 #[.int .i64 a,.int .i64 b] W fun e W'=>e= .returned (.agg #[.int .i64 a,.int .i64 b])∧RowKit.Below W.heap.size W W':=by
 have hb:=(RowKit.Below.refl W.heap.size W).alloc (Nat.le_refl _) (.cells #[.int .i64 a,.int .i64 b] 27)
 have hx:=aB.new W #[.int .i64 a,.int .i64 b] 27
 go_enter Tryz.func72,Tryz.ntmps72
 go_wp2
 have z0:=hx.1 0 _ rfl
 have z1:=hx.1 1 _ rfl
 clear hx
 refine bodyPost_ret (v:=.agg #[.int .i64 a,.int .i64 b]) (by simp[results,Tryz.f72,go_sem,z0,z1]) rfl ⟨rfl,?_⟩
 first | exact hb | exact(((RowKit.Below.refl W.heap.size W).alloc (Nat.le_refl _) _).setCell (Nat.le_refl _) _).setCell (Nat.le_refl _) _
end Go.Proofs.YtlhmdcgckocidaaGreat
namespace Go.Proofs.YtlhmdcgckocidaaGreat
open Go.RowKit
def AZ (w:World) (N:Nat) (a b c d:Int):Prop:=(w.cell? ⟨N,0,none⟩=some (.int .i64 a)∧w.cell? ⟨N,1,none⟩=some (.int .i64 b)∧w.cell? ⟨N,2,none⟩=some (.int .i64 c)∧w.cell? ⟨N,3,none⟩=some (.int .i64 d))∧∀o,w.frozen? ⟨N,o,none⟩=false
theorem AZ.new (w:World) (a b c d:Int) (t:TypeId):AZ (w.alloc (.cells #[.int .i64 a,.int .i64 b,.int .i64 c,.int .i64 d] t)) w.heap.size a b c d:=by
 have hbx:=heap_alloc_new w (.cells #[.int .i64 a,.int .i64 b,.int .i64 c,.int .i64 d] t)
 refine⟨⟨?_,?_,?_,?_⟩,fun o=>by unfold World.frozen?;rw[hbx];simp⟩<;>(rw[cell_of_row _ _ _ _ _ _ hbx];rfl)
theorem AZ.below {w w':World} {B N:Nat} {a b c d:Int} (h:AZ w N a b c d) (hB:Below B w w') (hN:N<B):AZ w' N a b c d:=by
 have ee:∀o,w'.cell? ⟨N,o,none⟩=w.cell? ⟨N,o,none⟩:=fun o=>hB.cell (p:=⟨N,o,none⟩) hN
 have ff:∀o,w'.frozen? ⟨N,o,none⟩=w.frozen? ⟨N,o,none⟩:=fun o=>hB.frozen (p:=⟨N,o,none⟩) hN
 unfold AZ
 rw[ee,ee,ee,ee]
 exact⟨h.1,fun o=>(ff o).trans (h.2 o)⟩
def qy (p:P4):P4:=⟨p.dst,p.src,p.aj,p.ah⟩
theorem GJ (p:P4) (W:World):Calls Tryz.prog 48 #[.agg #[.int .i64 p.src,.int .i64 p.dst,.int .i64 p.ah,.int .i64 p.aj]] W fun e W'=>e= .returned (.agg #[.int .i64 p.dst,.int .i64 p.src,.int .i64 p.aj,.int .i64 p.ah])∧RowKit.Below W.heap.size W W':=by
 obtain⟨a,b,c,d⟩:=p
 simp only
 have HB:=hide (show∀o o',RowKit.Below W.heap.size W ((W.alloc o).alloc o')from fun o o'=>((RowKit.Below.refl W.heap.size W).alloc (Nat.le_refl _) o).alloc (by simp) o')
 have hx:=AZ.new W a b c d 29
 have hy:=AZ.new (W.alloc (.cells #[.int .i64 a,.int .i64 b,.int .i64 c,.int .i64 d] 29)) 0 0 0 0 29
 have hx2:=hx.below ((RowKit.Below.refl _ _).alloc (Nat.le_refl _) (.cells #[.int .i64 0,.int .i64 0,.int .i64 0,.int .i64 0] 29)) (by simp)
 rw[show(W.alloc (.cells #[.int .i64 a,.int .i64 b,.int .i64 c,.int .i64 d] 29)).heap.size =W.heap.size+1 from by simp]at hy
 obtain⟨⟨x0,x1,x2,x3⟩,_⟩:=hx2
 obtain⟨⟨y0,y1,y2,y3⟩,yf⟩:=hy
 clear hx
 have hb0:=HB.out (.cells #[.int .i64 a,.int .i64 b,.int .i64 c,.int .i64 d] 29) (.cells #[.int .i64 0,.int .i64 0,.int .i64 0,.int .i64 0] 29)
 go_enter Tryz.func48,Tryz.ntmps48
 go_wp2
 refine bodyPost_ret (v:=.agg #[.int .i64 b,.int .i64 a,.int .i64 d,.int .i64 c]) (by simp[results,Tryz.f48,go_sem,y0,y1,y2,y3]) rfl ⟨rfl,?_⟩
 first | exact HB.out _ _ | exact(((hb0.setCell (by show _≤W.heap.size+1;omega) _).setCell (by show _≤W.heap.size+1;omega) _).setCell (by show _≤W.heap.size+1;omega) _).setCell (by show _≤W.heap.size+1;omega) _
open Go.Maps
structure qz where
 port:Int
 q:P4
 kn:Know
def qz.zero:qz:=⟨0,⟨0,0,0,0⟩,.nothing⟩
def qA (r:Dev) (M:aK) (i y:Int) (p:P4):qz×Bool:=
 if y=0 then(⟨1,p,.flow (i,p)⟩,kM r.rules p)else(⟨0,p,.nothing⟩,M.F (i,qy p))
def jJ (M:aK) (i:Int) (o:Int×Int):Nat→Nat→Int
 |0,_=> -1
 |m+1,k=>if M.O (i,(k:Int))=some o then(k:Int)else jJ M i o m (k+1)
def nk (M:aK) (i:Int) (o:Int×Int):Int:=jJ M i o 8 0
def Jv (pool:Nat) (c:Int):Bool:=pool.testBit c.toNat
def jf (r:Dev) (M:aK) (i y:Int) (p:P4) (ch:Int):qz×Bool×Int:=
 if y=1 then
  if p.dst≠r.addr then(.zero,false,0)
  else match M.O (i,p.aj)with
   |some o=>(⟨0,⟨p.src,o.1,p.ah,o.2⟩,.nothing⟩,true,0)
   |none=>(.zero,false,0)
 else if 0≤nk M i (p.src,p.ah)then
  (⟨1,⟨r.addr,p.dst,nk M i (p.src,p.ah),p.aj⟩,.owner (i,nk M i (p.src,p.ah)) (p.src,p.ah)⟩,true,0)
 else if ch<0∨8≤ch∨Jv r.pool ch=false then(.zero,false,1)
 else if(M.O (i,ch)).isSome then(.zero,false,6)
 else(⟨1,⟨r.addr,p.dst,ch,p.aj⟩,.owner (i,ch) (p.src,p.ah)⟩,true,0)
def jm (r:Dev) (M:aK) (i y:Int) (p:P4) (ch:Int):qz×Int:=
 if y=1 then
  (⟨0,if M.B (i,⟨p.dst,r.addr,p.aj,p.ah⟩)=some p.src then⟨r.addr,p.dst,p.ah,p.aj⟩else p,.nothing⟩,0)
 else if p.dst≠r.addr then(⟨1,p,.nothing⟩,0)
 else match M.B (i,p)with
  |some b=>(⟨1,⟨p.src,b,p.ah,p.aj⟩,.back (i,p) b⟩,0)
  |none=>match (if ch<0 then none else r.backs[ch.toNat]?)with
   |some b=>(⟨1,⟨p.src,b,p.ah,p.aj⟩,.back (i,p) b⟩,0)
   |none=>(.zero,1)
def OM (r:Dev) (p:P4):qz×Bool:=(⟨(lU p.dst r.routes).1,p,.nothing⟩,decide (0≤(lU p.dst r.routes).2) && kM r.rules p)
def bD (r:Dev) (M:aK) (i y:Int) (p:P4) (ch:Int):qz×Bool×Int:=
 if r.kind=2 then((OM r p).1,(OM r p).2,0)
 else if r.kind=3 then((qA r M i y p).1,(qA r M i y p).2,0)
 else if r.kind=4 then jf r M i y p ch
 else if r.kind=5 then((jm r M i y p ch).1,decide ((jm r M i y p ch).2=0),(jm r M i y p ch).2)
 else(.zero,false,0)
structure gL where
 e:Int
 to:Pl
 q:P4
 kn:Know
def gL.bad (e:Int):gL:=⟨e,(0,0),⟨0,0,0,0⟩,.nothing⟩
def pY (ls:List av) (i:Int) (x:qz×Bool×Int):gL:=
 if x.2.2≠0 then .bad x.2.2
 else match aP ls (i,x.1.port)with
  |none=>.bad 7
  |some to=>if x.2.1 then⟨0,to,x.1.q,x.1.kn⟩else .bad 7
def eO (ds:List Dev) (ls:List av) (M:aK) (i y:Int) (p:P4) (ch:Int):gL:=
 if bT ds (i,y)=false then .bad 4
 else if aV p=false then .bad 1
 else match ds[i.toNat]? with
  |none=>.bad 4
  |some r=>pY ls i (bD r M i y p ch)
def gL.val (h:gL):Value:=.tuple #[.agg #[.int .i64 h.to.1,.int .i64 h.to.2,.int .i64 h.q.src,.int .i64 h.q.dst,.int .i64 h.q.ah,.int .i64 h.q.aj],.int .i64 h.e]
theorem bY:(Tryz.prog.info? 86).map (·.size)=some 7:=by kernel_rfl
theorem Eh:(Tryz.prog.info? 227).map (·.size)=some 2:=by kernel_rfl
def aA.arr (d:aA):Array Value:=#[.string d.name,.int .i64 d.kind,.int .i64 d.addr,.int .u8 d.pool,.slice d.bA d.bn d.bc,.slice d.rA d.rn d.rc,.slice d.tA d.tn d.tc]
theorem aA.dO (d:aA):d.arr.all (·.oneCell')=true:=by simp[aA.arr,Value.oneCell']
structure nu (W:World) (g:Nat) (n:aH) (f o b:Nat) (M:aK) (k:Nat) (i y:Int) (p:P4) (r:aA) (G:Nat) (w:World):Prop where
 Gi:∀w',Below W.heap.size W w'→aM w' g n f o b M k
 bl:Below W.heap.size W w
 b0:aB w W.heap.size #[.pointer (some ⟨g,0,none⟩)]
 b1:aB w (W.heap.size+1) #[.int .i64 i,.int .i64 y]
 b2:aB w (W.heap.size+1+1) #[.int .i64 p.src,.int .i64 p.dst,.int .i64 p.ah,.int .i64 p.aj]
 b3:aB w (W.heap.size+1+1+1) #[.int .i64 0,.int .i64 0,.int .i64 0,.int .i64 0,.int .i64 0,.nilFunc]
 bd:aB w G r.arr
 hg:W.heap.size+1+1+1<G
 lt:G<w.heap.size
theorem nu.mem {W:World} {g:Nat} {n:aH} {f o b:Nat} {M:aK} {k:Nat} {i y:Int} {p:P4} {r:aA} {G:Nat} {w:World} (h:nu W g n f o b M k i y p r G w):aM w g n f o b M k:=h.Gi w h.bl
theorem nu.below {W:World} {g:Nat} {n:aH} {f o b:Nat} {M:aK} {k:Nat} {i y:Int} {p:P4} {r:aA} {G:Nat} {w w':World} (h:nu W g n f o b M k i y p r G w) (hb:Below w.heap.size w w'):nu W g n f o b M k i y p r G w':=by
 have h1:=h.lt
 have h2:=h.hg
 have h3:=h.bl.size
 exact⟨h.Gi,h.bl.trans (hb.mono h3),h.b0.below hb (by omega),h.b1.below hb (by omega),h.b2.below hb (by omega),h.b3.below hb (by omega),h.bd.below hb h1,h2,by have:=hb.size;omega⟩
theorem nu.alloc {W:World} {g:Nat} {n:aH} {f o b:Nat} {M:aK} {k:Nat} {i y:Int} {p:P4} {r:aA} {G:Nat} {w:World} (h:nu W g n f o b M k i y p r G w) (x:Obj):nu W g n f o b M k i y p r G (w.alloc x):=h.below ((Below.refl _ _).alloc (Nat.le_refl _) x)
theorem nu.far {W:World} {g:Nat} {n:aH} {f o b:Nat} {M:aK} {k:Nat} {i y:Int} {p:P4} {r:aA} {G:Nat} {w:World} (h:nu W g n f o b M k i y p r G w) (a:Addr) (v:Value) (ha:G<a.block):nu W g n f o b M k i y p r G (w.setCell a v):=by
 have h2:=h.hg
 have h3:=h.bl.size
 exact⟨h.Gi,h.bl.setCell (by omega) v,h.b0.far _ _ (by omega),h.b1.far _ _ (by omega),h.b2.far _ _ (by omega),h.b3.far _ _ (by omega),h.bd.far _ _ (by omega),h2,by have:=h.lt;simpa[World.setCell]using this⟩
theorem aB.apart {w:World} {N:Nat} {vs:Array Value} (h:aB w N vs) (b:Nat) (cs:List Value) (hne:b≠N):aB (w.setCells b 0 cs) N vs:=
 ⟨fun j v hv=>by rw[World.cell?_setCells_out b cs 0 w ⟨N,j,none⟩ (fun e _=>absurd e.symm hne)];exact h.1 j v hv,fun o=>by rw[World.frozen?_setCells];exact h.2 o⟩
end Go.Proofs.YtlhmdcgckocidaaGreat
namespace Go.Proofs.YtlhmdcgckocidaaGreat
open Go.RowKit
structure OO where
 d:Int
 p:P4
 n:Int
def Zv (p q:P4):Bool:=p.src ==q.src && p.dst ==q.dst && p.ah ==q.ah && p.aj ==q.aj
theorem Yx (p q:P4):Zv p q=true↔p=q:=by
 obtain⟨a,b,c,d⟩:=p
 obtain⟨a',b',c',d'⟩:=q
 simp[Zv,and_assoc]
end Go.Proofs.YtlhmdcgckocidaaGreat
