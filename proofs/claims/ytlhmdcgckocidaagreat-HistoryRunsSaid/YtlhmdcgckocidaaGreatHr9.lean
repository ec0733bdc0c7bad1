/- A part of the proof: Peer, Ring2, PkChk, Ring3, Ring4, StepNext, StepDev, StepMem. -/
import Derived.Test.YtlhmdcgckocidaaGreatHr8
import Derived.ChangeKeysEq
set_option linter.unusedVariables false
set_option linter.unusedSimpArgs false
set_option maxRecDepth 100000
set_option maxHeartbeats 4000000
namespace Go.Proofs.YtlhmdcgckocidaaGreat
open Go.RowKit
theorem WB (lA dA:Option Addr) (dn dc lc:Nat) (x y:Int) (W:World):
  Calls Tryz.prog 118 #[.agg #[.slice dA dn dc,.slice lA 0 lc],.agg #[.int .i64 x,.int .i64 y]] W fun e W'=>e= .returned (rG none)∧Below W.heap.size W W':=by
 have HB:=hide (fun o0 o1 o2=>show Below W.heap.size W (((W.alloc o0).alloc o1).alloc o2)from(((Below.refl _ _).alloc (Nat.le_refl _) _).alloc (by simp) _).alloc (by simp;omega) _)
 go_enter Tryz.func118,Tryz.ntmps118
 go_wp2
 refine wp_loop_rounds 1 ?_
 rw[rounds_succ]
 go_wp2
 refine bodyPost_ret (v:=.tuple #[.agg #[.int .i64 0,.int .i64 0],.bool false]) (by simp[results,Tryz.results118,go_sem]) rfl ⟨rfl,?_⟩
 first | exact HB.out _ _ _ | exact((HB.out _ _ _).setCell (mD _) _).setCell (mD _) _
theorem wP (dA:Option Addr) (dn dc:Nat) (lA:Option Addr) (ln lc:Nat) (ls:List av) (x y:Int) (W:World) (hn:ln≤9223372036854775807) (hl:bB av.cells 4 W W.heap.size lA ln ls):
  Calls Tryz.prog 118 #[.agg #[.slice dA dn dc,.slice lA ln lc],.agg #[.int .i64 x,.int .i64 y]] W fun e W'=>e= .returned (rG (aP ls (x,y)))∧Below W.heap.size W W':=by
 rcases Nat.eq_zero_or_pos ln with rfl | h0
 ·have:ls=[]:=List.eq_nil_of_length_eq_zero hl.1
  subst this
  exact WB lA dA dn dc lc x y W
 ·obtain⟨b,o,rfl,_,_⟩:=hl.2 h0
  exact Tx ls (.slice dA dn dc) b o ln lc x y W hn hl h0 dA dn dc rfl
def bG (ls:List av):List Pl:=ls.flatMap fun l=>[l.e1,l.e2]
theorem Mi {ends:List Pl} {l:av} (h:iC ends l=false):l.e1≠l.e2∧l.e1∉ends∧l.e2∉ends:=by
 simp only[iC,Bool.or_eq_false_iff,List.any_eq_false]at h
 refine⟨fun e=>?_,fun hm=>h.1.2 _ hm ((uy _ _).2 rfl),fun hm=>h.2 _ hm ((uy _ _).2 rfl)⟩
 have:=(uy l.e1 l.e2).2 e
 rw[h.1.1]at this
 cases this
theorem Ut {ds:List Dev} :∀(ls:List av) (ends:List Pl),ends.Nodup→(∀x∈ends,bT ds x=true)→ji ds ends ls=0→(ends++bG ls).Nodup ∧∀x∈ends++bG ls,bT ds x=true:=by
 intro ls
 induction ls with
 |nil=>intro ends hn hp _;exact⟨by simpa[bG]using hn,by simpa[bG]using hp⟩
 |cons l ls ih=>
  intro ends hn hp h
  simp only[ji]at h
  by_cases h1:bT ds l.e1=false
  ·rw[if_pos h1]at h;cases h
  rw[if_neg h1]at h
  by_cases h2:bT ds l.e2=false
  ·rw[if_pos h2]at h;cases h
  rw[if_neg h2]at h
  cases h3:iC ends l
  case true=>rw[h3]at h;simp at h
  rw[h3]at h
  obtain⟨t1,t2,t3⟩:=Mi h3
  have h:=ih (ends++[l.e1,l.e2]) (by
   rw[List.nodup_append]
   refine⟨hn,by simp[t1],fun a ha b hb=>?_⟩
   simp only[List.mem_cons,List.not_mem_nil,or_false]at hb
   rcases hb with rfl | rfl
   ·exact fun e=>t2 (e▸ha)
   ·exact fun e=>t3 (e▸ha)) (by
   intro x hx
   simp only[List.mem_append,List.mem_cons,List.not_mem_nil,or_false]at hx
   rcases hx with hx | rfl | rfl
   ·exact hp x hx
   ·simpa using h1
   ·simpa using h2) (by simpa using h)
  have e:ends++[l.e1,l.e2]++bG ls=ends++bG (l::ls):=by simp[bG]
  rw[e]at h
  exact h
structure acP (ds:List Dev) (ls:List av):Prop where
 dl:ds.length≤10
 ll:ls.length≤15
 nd:(bG ls).Nodup
 pl:∀x∈bG ls,bT ds x=true
 de:jI [] ds=0
theorem dH {ds:List Dev} {ls:List av} (h:dD ds ls=0):acP ds ls:=by
 unfold dD at h
 by_cases h1:10<ds.length∨15<ls.length
 ·rw[if_pos h1]at h;cases h
 rw[if_neg h1]at h
 by_cases h2:jI [] ds=0
 ·rw[if_pos h2]at h
  obtain⟨a,b⟩:=Ut ls [] (by simp) (by simp) h
  exact⟨by omega,by omega,by simpa using a,by simpa using b,h2⟩
 ·rw[if_neg h2]at h;exact absurd h h2
theorem EX {ls:List av} {x:Pl} :x∈bG ls↔∃l∈ls,x=l.e1∨x=l.e2:=by
 simp[bG]
theorem EK {ls:List av} {x:Pl} (h:x∉bG ls):aP ls x=none:=by
 induction ls with
 |nil=>rfl
 |cons l ls ih=>
  simp only[bG,List.flatMap_cons,List.mem_append,List.mem_cons,List.not_mem_nil,or_false,not_or]at h
  have h1:fE x l.e1=false:=by cases e:fE x l.e1;rfl;exact absurd ((uy _ _).1 e) h.1.1
  have h2:fE x l.e2=false:=by cases e:fE x l.e2;rfl;exact absurd ((uy _ _).1 e) h.1.2
  simp only[aP,h1,h2,Bool.false_eq_true,if_false]
  exact ih h.2
theorem zF {x y:Pl} (h:x≠y):fE x y=false:=by cases e:fE x y;rfl;exact absurd ((uy _ _).1 e) h
theorem Am (x:Pl):fE x x=true:=(uy x x).2 rfl
theorem EJ {ls:List av} (hn:(bG ls).Nodup) {x:Pl} (h:x∈bG ls):∃y,aP ls x=some y∧aP ls y=some x∧y∈bG ls:=by
 induction ls with
 |nil=>simp[bG]at h
 |cons l ls ih=>
  have e:bG (l::ls)=l.e1::l.e2::bG ls:=by simp[bG]
  rw[e]at hn h ⊢
  have hn1:=List.nodup_cons.1 hn
  have hn2:=List.nodup_cons.1 hn1.2
  have h12:l.e1≠l.e2:=fun e=>hn1.1 (by rw[e];simp)
  have h1n:l.e1∉bG ls:=fun hm=>hn1.1 (by simp[hm])
  simp only[List.mem_cons]at h
  rcases h with rfl | rfl | h
  ·exact⟨l.e2,by simp[aP,Am],by simp[aP,Am,zF (Ne.symm h12)],by simp⟩
  ·exact⟨l.e1,by simp[aP,Am,zF (Ne.symm h12)],by simp[aP,Am],by simp⟩
  ·obtain⟨y,h3,h4,h5⟩:=ih hn2.2 h
   have hx1:x≠l.e1:=fun e=>h1n (e▸h)
   have hx2:x≠l.e2:=fun e=>hn2.1 (e▸h)
   have hy1:y≠l.e1:=fun e=>h1n (e▸h5)
   have hy2:y≠l.e2:=fun e=>hn2.1 (e▸h5)
   exact⟨y,by simp[aP,zF hx1,zF hx2,h3],by simp[aP,zF hy1,zF hy2,h4],by simp[h5]⟩
theorem Pn {ls:List av} (hn:(bG ls).Nodup) {x y:Pl} (h:aP ls x=some y):x∈bG ls∧y∈bG ls∧aP ls y=some x:=by
 by_cases hx:x∈bG ls
 ·obtain⟨z,h1,h2,h3⟩:=EJ hn hx
  rw[h]at h1
  cases h1
  exact⟨hx,h3,h2⟩
 ·rw[EK hx]at h;cases h
theorem Q6:∀(l:List (Array Value×TypeId)) (W:World) {W':World},RowKit.Below (W.heap.size+l.length) (l.foldl (fun w x=>w.alloc (.cells x.1 x.2)) W) W'→
  (∀(i:Nat) c t,l[i]?=some (c,t)→∀(o:Nat) (v:Value),c[o]?=some v→W'.cell? ⟨W.heap.size+i,o,none⟩=some v)∧RowKit.Below W.heap.size W W'∧W.heap.size+l.length≤W'.heap.size:=by
 intro l
 induction l with
 |nil=>
  intro W W' hb
  exact⟨fun i c t h=>by simp at h,by simpa using hb,by have:=hb.size;simpa using this⟩
 |cons x l ih=>
  intro W W' hb
  have hz:(W.alloc (.cells x.1 x.2)).heap.size =W.heap.size+1:=by simp
  obtain⟨h1,h2,h3⟩:=ih (W.alloc (.cells x.1 x.2)) (W':=W') (by
   rw[hz]
   simp only[List.foldl_cons,List.length_cons]at hb
   rw[show W.heap.size+1+l.length=W.heap.size+(l.length+1) by omega]
   exact hb)
  refine⟨fun i c t hi o v hv=>?_,((RowKit.Below.refl _ _).alloc (Nat.le_refl _) _).trans (h2.mono (by omega)),by rw[hz]at h3;simp only[List.length_cons];omega⟩
  cases i with
  |zero=>
   cases hi
   rw[hz]at h2
   exact uD W _ _ rfl h2 o v hv
  |succ i=>
   have:=h1 i c t (by simpa using hi) o v hv
   rw[hz]at this
   rw[show W.heap.size+(i+1)=W.heap.size+1+i by omega]
   exact this
open Go.Maps
theorem QU (a:Int):gq a 0 15=(decide (0≤a) && decide (a<16)):=by
 unfold gq
 rw[Bool.eq_iff_iff];simp;omega
theorem Yp (a:Int):gq a 0 7=(decide (0≤a) && decide (a<8)):=by
 unfold gq
 rw[Bool.eq_iff_iff];simp;omega
theorem qI (p:P4) (W:World):Calls Tryz.prog 113 #[.agg #[.int .i64 p.src,.int .i64 p.dst,.int .i64 p.ah,.int .i64 p.aj]] W fun e W'=>e= .returned (.int .i64 (if aV p then 0 else 1))∧RowKit.Below W.heap.size W W':=by
 obtain⟨a,b,c,d⟩:=p
 have HB:=hide (fun o=>show RowKit.Below W.heap.size W (W.alloc o)from(RowKit.Below.refl _ _).alloc (Nat.le_refl _) o)
 have HR:=hide (show aV ⟨a,b,c,d⟩=(gq a 0 15 && gq b 0 15 && gq c 0 7 && gq d 0 7)from rfl)
 generalize aV _=R at*
 cases e1:gq a 0 15
 ·have f1:=hide ((QU a).symm.trans e1)
  have HF:=hide (show R=false from by rw[HR.out,e1];rfl)
  rw[HF.out]
  go_enter Tryz.func113,Tryz.ntmps113
  go_wp2_with (first | (go_at_call_of 116 (Value.int .i64 a);refine(fA _ _ _ _ f1.out).mono ?_;rintro e w1 ⟨rfl,rfl⟩))
  go_ret
  exact⟨rfl,HB.out _⟩
 have f1:=hide ((QU a).symm.trans e1)
 cases e2:gq b 0 15
 ·have f2:=hide ((QU b).symm.trans e2)
  have HF:=hide (show R=false from by rw[HR.out,e1,e2];rfl)
  rw[HF.out]
  go_enter Tryz.func113,Tryz.ntmps113
  go_wp2_with (first | (go_at_call_of 116 (Value.int .i64 a);refine(fA _ _ _ _ f1.out).mono ?_;rintro e w1 ⟨rfl,rfl⟩) | (go_at_call_of 116 (Value.int .i64 b);refine(fA _ _ _ _ f2.out).mono ?_;rintro e w1 ⟨rfl,rfl⟩))
  go_ret
  exact⟨rfl,HB.out _⟩
 have f2:=hide ((QU b).symm.trans e2)
 cases e3:gq c 0 7
 ·have f3:=hide ((Yp c).symm.trans e3)
  have HF:=hide (show R=false from by rw[HR.out,e1,e2,e3];rfl)
  rw[HF.out]
  go_enter Tryz.func113,Tryz.ntmps113
  go_wp2_with (first | (go_at_call_of 116 (Value.int .i64 a);refine(fA _ _ _ _ f1.out).mono ?_;rintro e w1 ⟨rfl,rfl⟩) | (go_at_call_of 116 (Value.int .i64 b);refine(fA _ _ _ _ f2.out).mono ?_;rintro e w1 ⟨rfl,rfl⟩) | (go_at_call_of 116 (Value.int .i64 c);refine(fA _ _ _ _ f3.out).mono ?_;rintro e w1 ⟨rfl,rfl⟩))
  go_ret
  exact⟨rfl,HB.out _⟩
 have f3:=hide ((Yp c).symm.trans e3)
 cases e4:gq d 0 7
 ·have f4:=hide ((Yp d).symm.trans e4)
  have HF:=hide (show R=false from by rw[HR.out,e1,e2,e3,e4];rfl)
  rw[HF.out]
  go_enter Tryz.func113,Tryz.ntmps113
  go_wp2_with (first | (go_at_call_of 116 (Value.int .i64 a);refine(fA _ _ _ _ f1.out).mono ?_;rintro e w1 ⟨rfl,rfl⟩) | (go_at_call_of 116 (Value.int .i64 b);refine(fA _ _ _ _ f2.out).mono ?_;rintro e w1 ⟨rfl,rfl⟩) | (go_at_call_of 116 (Value.int .i64 c);refine(fA _ _ _ _ f3.out).mono ?_;rintro e w1 ⟨rfl,rfl⟩) | (go_at_call_of 116 (Value.int .i64 d);refine(fA _ _ _ _ f4.out).mono ?_;rintro e w1 ⟨rfl,rfl⟩))
  go_ret
  exact⟨rfl,HB.out _⟩
 ·have f4:=hide ((Yp d).symm.trans e4)
  have HF:=hide (show R=true from by rw[HR.out,e1,e2,e3,e4];rfl)
  rw[HF.out]
  go_enter Tryz.func113,Tryz.ntmps113
  go_wp2_with (first | (go_at_call_of 116 (Value.int .i64 a);refine(fA _ _ _ _ f1.out).mono ?_;rintro e w1 ⟨rfl,rfl⟩) | (go_at_call_of 116 (Value.int .i64 b);refine(fA _ _ _ _ f2.out).mono ?_;rintro e w1 ⟨rfl,rfl⟩) | (go_at_call_of 116 (Value.int .i64 c);refine(fA _ _ _ _ f3.out).mono ?_;rintro e w1 ⟨rfl,rfl⟩) | (go_at_call_of 116 (Value.int .i64 d);refine(fA _ _ _ _ f4.out).mono ?_;rintro e w1 ⟨rfl,rfl⟩))
  go_ret
  exact⟨rfl,HB.out _⟩
end Go.Proofs.YtlhmdcgckocidaaGreat
namespace Go.Proofs.YtlhmdcgckocidaaGreat
open Go.RowKit
theorem Le (k:Int):0≤dL k∧dL k≤4:=by
 unfold dL
 repeat' split
 all_goals omega
section
variable {W w w':World} {n:aH} {p:P4} {a b:Int}
theorem Zp {base e s m:Nat} {v:Value} {xs:List Value} (h:w.ownsRow base e s v m xs) {q:Addr} (hq:q.block<base) (u:Value):(w.setCell q u).ownsRow base e s v m xs:=
 nE h (fun k hk=>Below.heap_setCell w q u k (by have:=(h.lt k hk).1;omega))
theorem VQ {base base' e s m:Nat} {v:Value} {xs:List Value} (h:w.ownsRow base e s v m xs) (hb:base'≤base):w.ownsRow base' e s v m xs:=by
 obtain⟨h1,h2⟩:=h
 refine⟨h1,?_⟩
 rcases h2 with h2 | ⟨g',cap',cur,hv,hb',hh,r⟩
 ·exact .inl h2
 ·exact .inr ⟨g',cap',cur,hv,by omega,hh,r⟩
end
open Go.ChangeAt Go.ChangeShapes Go.WideShapes
theorem nS {w:World} {base e s m n c:Nat} {A:Option Addr} {xs:List Value} (h:w.ownsRow base e s (.slice A n c) m xs):c≤maxLen:=by
 rcases h.2 with⟨e,_⟩ | ⟨q,cap,cur,e,r⟩
 ·simp only[Value.slice.injEq]at e;rw[e.2.2];exact Nat.zero_le _
 ·simp only[Value.slice.injEq]at e;rw[e.2.2];exact r.2.2.2.1
theorem YF {w:World} {B n:Nat} {A:Option Addr} {l:List Int} (h:dz w B A n l):bB ny 1 w B A n l:=
 ⟨h.1,fun h0=>by
  obtain⟨b,o,e,hb,hg⟩:=h.2.2 h0
  refine⟨b,o,e,hb,fun k r hr j v hv=>?_⟩
  match j,hv with
  |0,hv=>cases hv;rw[Nat.mul_one];exact hg k r hr⟩
def uK (w:World) (N:Nat) (d:aA):Prop:=o9 w N d∧∀o,w.frozen? ⟨N,o,none⟩=false
theorem uK.below {w w':World} {B N:Nat} {d:aA} (h:uK w N d) (hB:Below B w w') (hN:N<B):uK w' N d:=
 ⟨h.1.below hB hN,fun o=>(hB.frozen (p:=⟨N,o,none⟩) hN).trans (h.2 o)⟩
theorem uK.new (w:World) (d:aA) (t:TypeId):uK (w.alloc (.cells #[.string d.name,.int .i64 d.kind,.int .i64 d.addr,.int .u8 d.pool,.slice d.bA d.bn d.bc,.slice d.rA d.rn d.rc,.slice d.tA d.tn d.tc] t)) w.heap.size d:=
 ⟨o9.new w d t,fun o=>by unfold World.frozen?;rw[heap_alloc_new w _];simp⟩
def wM (w:World) (N:Nat) (u v:Value):Prop:=w.cell? ⟨N,0,none⟩=some u∧w.cell? ⟨N,1,none⟩=some v∧w.frozen? ⟨N,0,none⟩=false∧w.frozen? ⟨N,1,none⟩=false
theorem wM.below {w w':World} {B N:Nat} {u v:Value} (h:wM w N u v) (hB:Below B w w') (hN:N<B):wM w' N u v:=
 ⟨(hB.cell (p:=⟨N,0,none⟩) hN).trans h.1,(hB.cell (p:=⟨N,1,none⟩) hN).trans h.2.1,(hB.frozen (p:=⟨N,0,none⟩) hN).trans h.2.2.1,(hB.frozen (p:=⟨N,1,none⟩) hN).trans h.2.2.2⟩
theorem wM.new (w:World) (u v:Value) (t:TypeId):wM (w.alloc (.cells #[u,v] t)) w.heap.size u v:=by
 have hbx:=heap_alloc_new w (.cells #[u,v] t)
 refine⟨by rw[cell_of_row _ _ _ _ _ _ hbx];rfl,by rw[cell_of_row _ _ _ _ _ _ hbx];rfl,?_,?_⟩<;>(unfold World.frozen?;rw[hbx];simp)
structure CP (W:World) (n:aH) (wr:World) (g:Nat) (V:Value) (A2:Option Addr) (c2:Nat) (ds':List aA):Prop where
 bl:Below W.heap.size W wr
 hg:W.heap.size+1<g
 sz:g+1≤wr.heap.size
 rx:wM wr (W.heap.size+1) (.slice none 0 0) (.slice none 0 0)
 gx:wM wr g V (.slice A2 n.ln c2)
 own:wr.ownsRow (g+1) 86 7 V ds'.length (ds'.flatMap aA.cells)
 ZJ:bB av.cells 4 wr g A2 n.ln n.ls
 UL:n.ln≤c2∧c2≤maxLen
 dev:∀d∈ds',fV wr wr.heap.size d
 don:∀d∈ds',uJ (fun q=>g+1≤q∧q<wr.heap.size∧V.ownBlock≠some q) d
 same:ds'.map aA.dev=(n.ds.take ds'.length).map aA.dev
theorem CP.below {W:World} {n:aH} {wr w':World} {g:Nat} {V:Value} {A2:Option Addr} {c2:Nat} {ds':List aA} (h:CP W n wr g V A2 c2 ds') (hb:Below wr.heap.size wr w'):CP W n w' g V A2 c2 ds':=by
 have hs:=h.sz
 have hs2:=hb.size
 have hg:=h.hg
 have hw:=h.bl.size
 exact⟨h.bl.trans (hb.mono hw),hg,by omega,h.rx.below hb (by omega),h.gx.below hb (by omega),own_below h.own hb,h.ZJ.below (hb.mono (by omega)) (Nat.le_refl _),h.UL,
  fun d hd=>(h.dev d hd).below hb hs2,fun d hd=>(h.don d hd).weak (fun q hq=>⟨hq.1,by have:=hq.2.1;omega,hq.2.2⟩),h.same⟩
theorem CP.next {W:World} {n:aH} {w8 w9:World} {g:Nat} {V V':Value} {A2:Option Addr} {c2:Nat} {ds':List aA} (h:CP W n w8 g V A2 c2 ds') (d r:aA) (hd:fV w8 w8.heap.size d)
  (hon:uJ (fun q=>g+1≤q∧q<w8.heap.size∧V.ownBlock≠some q) d) (hr:n.ds[ds'.length]?=some r) (hrd:r.dev=d.dev)
  (hown:w9.ownsRow (g+1) 86 7 V' (ds'.length+1) (ds'.flatMap aA.cells++d.cells)) (hg:w8.grownBy w9 V.ownBlock) (hat:V'.ownBlock=V.ownBlock∨V'.ownBlock=some w8.heap.size):
  CP W n (w9.setCell ⟨g,0,none⟩ V') g V' A2 c2 (ds'++[d]):=by
 have hs:=h.sz
 have hs2:=hg.size
 have hgg:=h.hg
 have hlt:=h.own.lt
 have mH:Below (g+1) w8 w9:=(Below.refl _ _).grown hg (by omega) (fun q hq=>(hlt q hq).1)
 have hbg:Below g w8 (w9.setCell ⟨g,0,none⟩ V'):=(mH.mono (Nat.le_succ g)).setCell (Nat.le_refl g) _
 have hsz:(w9.setCell ⟨g,0,none⟩ V').heap.size =w9.heap.size:=by simp[World.setCell]
 have hgx:=h.gx.below mH (Nat.lt_succ_self _)
 have hst:bE (fun k=>some k≠V.ownBlock∧k≠g) w8 (w9.setCell ⟨g,0,none⟩ V'):=
  ((bE.oH hg).weak (fun k hk=>hk.1)).trans ((bE.yY ⟨g,0,none⟩ V').weak (fun k hk=>hk.2))
 have ab7:∀x∈ds'++[d],uJ (fun q=>g+1≤q∧q<w8.heap.size∧V.ownBlock≠some q) x:=fun x hx=>by
  rcases List.mem_append.1 hx with hx | hx
  ·exact h.don x hx
  ·simp at hx;subst hx;exact hon
 refine⟨h.bl.trans (hbg.mono (by omega)),hgg,by omega,h.rx.below hbg (by omega),⟨?_,?_,?_,?_⟩,?_,h.ZJ.below hbg (Nat.le_refl _),h.UL,fun x hx=>?_,fun x hx=>?_,?_⟩
 ·exact World.cell?_setCell_same _ _ _ hgx.1
 ·rw[World.cell?_setCell_other _ _ _ _ (by simp)];exact hgx.2.1
 ·rw[World.frozen?_setCell];exact hgx.2.2.1
 ·rw[World.frozen?_setCell];exact hgx.2.2.2
 ·have:w9.ownsRow (g+1) 86 7 V' (ds'++[d]).length ((ds'++[d]).flatMap aA.cells):=by simpa using hown
  exact Zp (q:=⟨g,0,none⟩) this (Nat.lt_succ_self g) _
 ·rw[hsz]
  refine fV.stay ?_ hst ((ab7 x hx).weak (fun q hq=>⟨fun e=>hq.2.2 e.symm,by have:=hq.1;omega⟩)) hs2
  rcases List.mem_append.1 hx with hx | hx
  ·exact h.dev x hx
  ·simp at hx;subst hx;exact hd
 ·rw[hsz]
  refine(ab7 x hx).weak (fun q hq=>⟨hq.1,by have:=hq.2.1;omega,fun e=>?_⟩)
  rcases hat with e1 | e1
  ·rw[e1]at e;exact hq.2.2 e
  ·rw[e1]at e;have:=hq.2.1;simp only[Option.some.injEq]at e;omega
 ·rw[List.map_append,h.same,List.length_append,List.length_singleton,List.take_add_one,hr]
  simp[hrd]
theorem Zq {w:World} {B n:Nat} {A:Option Addr} {l:List Int} (h:bB ny 1 w B A n l) (ho:∀x∈l,ay x):dz w B A n l:=
 ⟨h.1,ho,fun h0=>by
  obtain⟨b,o,e,hb,hg⟩:=h.2 h0
  refine⟨b,o,e,hb,fun k x hx=>?_⟩
  have:=hg k x hx 0 _ rfl
  rwa [Nat.mul_one]at this⟩
def qH (w:World) (N:Nat) (u v t:Value):World:=((w.setCell ⟨N,4,none⟩ u).setCell ⟨N,5,none⟩ v).setCell ⟨N,6,none⟩ t
theorem Rl (w:World) (N:Nat) (u v t:Value):(qH w N u v t).heap.size =w.heap.size:=by simp[qH,World.setCell]
theorem uK.qH {w:World} {N:Nat} {d:aA} (h:uK w N d) (B1 B2 B3:Option Addr) (n1 n2 n3 e1 e2 e3:Nat) (b:List Int) (r:List aY) (t:List aW):
  uK (qH w N (.slice B1 n1 e1) (.slice B2 n2 e2) (.slice B3 n3 e3)) N ⟨d.name,d.kind,d.addr,d.pool,B1,n1,e1,b,B2,n2,e2,r,B3,n3,e3,t⟩:=by
 obtain⟨⟨x0,x1,x2,x3,x4,x5,x6⟩,xf⟩:=h
 have o:∀(w:World) (a b:Nat) (u v:Value),b≠a→w.cell? ⟨N,b,none⟩=some u→(w.setCell ⟨N,a,none⟩ v).cell? ⟨N,b,none⟩=some u:=fun w a b u v hne hu=>by
  rw[World.cell?_setCell_other _ _ _ _ (by simp[hne])];exact hu
 have s:∀(w:World) (a:Nat) (u v:Value),w.cell? ⟨N,a,none⟩=some u→(w.setCell ⟨N,a,none⟩ v).cell? ⟨N,a,none⟩=some v:=fun w a u v hu=>World.cell?_setCell_same _ _ _ hu
 unfold Go.Proofs.YtlhmdcgckocidaaGreat.qH
 refine⟨⟨?_,?_,?_,?_,?_,?_,?_⟩,fun q=>by rw[World.frozen?_setCell,World.frozen?_setCell,World.frozen?_setCell];exact xf q⟩
 ·exact o _ _ _ _ _ (by omega) (o _ _ _ _ _ (by omega) (o _ _ _ _ _ (by omega) x0))
 ·exact o _ _ _ _ _ (by omega) (o _ _ _ _ _ (by omega) (o _ _ _ _ _ (by omega) x1))
 ·exact o _ _ _ _ _ (by omega) (o _ _ _ _ _ (by omega) (o _ _ _ _ _ (by omega) x2))
 ·exact o _ _ _ _ _ (by omega) (o _ _ _ _ _ (by omega) (o _ _ _ _ _ (by omega) x3))
 ·exact o _ _ _ _ _ (by omega) (o _ _ _ _ _ (by omega) (s _ _ _ _ x4))
 ·exact o _ _ _ _ _ (by omega) (s _ _ _ _ (o _ _ _ _ _ (by omega) x5))
 ·exact s _ _ _ _ (o _ _ _ _ _ (by omega) (o _ _ _ _ _ (by omega) x6))
theorem Uu (w:World) (N:Nat) (u v t:Value):bE (fun q=>q≠N) w (qH w N u v t):=
 ((bE.yY ⟨N,4,none⟩ u).trans (bE.yY ⟨N,5,none⟩ v)).trans (bE.yY ⟨N,6,none⟩ t)
theorem OW {w w':World} {B N:Nat} (h:Below B w w') (hN:B≤N) (u v t:Value):Below B w (qH w' N u v t):=
 ((h.setCell (by exact hN) _).setCell (by exact hN) _).setCell (by exact hN) _
theorem OX {w4 w5 w6 w7:World} {N B:Nat} {r:aA} {B1 B2 B3:Option Addr} {e1 e2 e3:Nat} (hz:w4.heap.size=N+1) (h5:Below w4.heap.size w4 w5) (h6:Below w5.heap.size w5 w6) (h7:Below w6.heap.size w6 w7) (hr:fV w4 B r)
  (o1:w5.ownsRow w4.heap.size 3 1 (.slice B1 r.bn e1) r.bn (r.bs.flatMap ny)) (o2:w6.ownsRow w5.heap.size 81 5 (.slice B2 r.rn e2) r.rn (r.rs.flatMap aY.cells)) (o3:w7.ownsRow w6.heap.size 238 3 (.slice B3 r.tn e3) r.tn (r.ts.flatMap aW.cells))
  (u v t:Value):
  fV (qH w7 N u v t) w7.heap.size ⟨r.name,r.kind,r.addr,r.pool,B1,r.bn,e1,r.bs,B2,r.rn,e2,r.rs,B3,r.tn,e3,r.ts⟩∧
  uJ (fun q=>N<q∧q<w7.heap.size) ⟨r.name,r.kind,r.addr,r.pool,B1,r.bn,e1,r.bs,B2,r.rn,e2,r.rs,B3,r.tn,e3,r.ts⟩:=by
 have s5:=h5.size
 have s6:=h6.size
 have s7:=h7.size
 obtain⟨A1,k1,f1,c1,sl1,g1⟩:=bB.jP wN o1 hr.bs.1
 obtain⟨A2,k2,f2,c2,sl2,g2⟩:=bB.jP aY.len o2 hr.rs.1
 obtain⟨A3,k3,f3,c3,sl3,g3⟩:=bB.jP aW.len o3 hr.ts.1
 cases f1
 cases f2
 cases f3
 have l1:∀a,B1=some a→w4.heap.size≤a.block∧a.block<w5.heap.size:=fun a ha=>o1.lt a.block (by rw[ha];rfl)
 have l2:∀a,B2=some a→w5.heap.size≤a.block∧a.block<w6.heap.size:=fun a ha=>o2.lt a.block (by rw[ha];rfl)
 have l3:∀a,B3=some a→w6.heap.size≤a.block∧a.block<w7.heap.size:=fun a ha=>o3.lt a.block (by rw[ha];rfl)
 have st7:bE (fun q=>q≠N) w7 (qH w7 N u v t):=Uu w7 N u v t
 have st6:bE (fun q=>q≠N∧q<w6.heap.size) w6 (qH w7 N u v t):=((bE.of_below h7).weak (fun q hq=>hq.2)).trans (st7.weak (fun q hq=>hq.1))
 have st5:bE (fun q=>q≠N∧q<w5.heap.size) w5 (qH w7 N u v t):=((bE.of_below h6).weak (fun q hq=>hq.2)).trans (st6.weak (fun q hq=>⟨hq.1,by omega⟩))
 refine⟨⟨hr.nm,hr.kd,hr.ad,hr.pl,?_,?_,?_,hr.tok,⟨c1,nS o1⟩,⟨c2,nS o2⟩,⟨c3,nS o3⟩⟩,⟨fun a ha=>?_,fun a ha=>?_,fun a ha=>?_⟩⟩
 ·exact Zq (sl1.stay st5 (fun a ha=>by have:=l1 a ha;omega) (by omega)) hr.bs.2.1
 ·exact(sl2.stay st6 (fun a ha=>by have:=l2 a ha;omega) (by omega)).rules hr.rs.2.1
 ·exact sl3.stay st7 (fun a ha=>by have:=l3 a ha;omega) (by omega)
 ·have:=l1 a ha;omega
 ·have:=l2 a ha;omega
 ·have:=l3 a ha;omega
end Go.Proofs.YtlhmdcgckocidaaGreat
namespace Go.Proofs.YtlhmdcgckocidaaGreat
open Go.Maps Go.RowKit
instance P4.decEq:DecidableEq P4:=fun a b=>
 if h:a.src=b.src∧a.dst=b.dst∧a.ah=b.ah∧a.aj=b.aj then isTrue (by
  obtain⟨a0,a1,a2,a3⟩:=a
  obtain⟨b0,b1,b2,b3⟩:=b
  obtain⟨h1,h2,h3,h4⟩:=h
  simp only at h1 h2 h3 h4
  subst h1 h2 h3 h4
  rfl)else isFalse (fun e=>h (by subst e;exact⟨rfl,rfl,rfl,rfl⟩))
structure aK where
 F:l7→Bool
 O:dB→Option (Int×Int)
 B:l7→Option Int
def aK.empty:aK:=⟨fun _=>false,fun _=>none,fun _=>none⟩
inductive Know where
 |nothing
 |flow (k:l7)
 |owner (k:dB) (o:Int×Int)
 |back (k:l7) (b:Int)
def aK.learn (M:aK):Know→aK
 |.nothing =>M
 |.flow k=>{ M with F:=fun x=>if x=k then true else M.F x }
 |.owner k o=>{ M with O:=fun x=>if x=k then some o else M.O x }
 |.back k b=>{ M with B:=fun x=>if x=k then some b else M.B x }
inductive Gone where
 |flow (k:l7)
 |owner (k:dB)
 |back (k:l7)
def aK.drop (M:aK):Gone→aK
 |.flow k=>{ M with F:=fun x=>if x=k then false else M.F x }
 |.owner k=>{ M with O:=fun x=>if x=k then none else M.O x }
 |.back k=>{ M with B:=fun x=>if x=k then none else M.B x }
def yD (o:Int×Int):Value:=.agg #[.int .i64 o.1,.int .i64 o.2]
def mK (M:aK):l7→Option Value:=fun k=>if M.F k then some (.bool true)else none
def kZ (M:aK):dB→Option Value:=fun k=>(M.O k).map yD
def nK (M:aK):l7→Option Value:=fun k=>(M.B k).map fun b=>.int .i64 b
theorem Mj (M:aK) (k:l7):iT (mK M) k (.bool true)=mK (M.learn (.flow k)):=by
 funext x
 simp only[iT,mK,aK.learn]
 by_cases h:x=k<;>simp[h]
theorem Ja (M:aK) (k:dB) (o:Int×Int):iT (kZ M) k (yD o)=kZ (M.learn (.owner k o)):=by
 funext x
 simp only[iT,kZ,aK.learn]
 by_cases h:x=k<;>simp[h]
theorem Ml (M:aK) (k:l7) (b:Int):iT (nK M) k (.int .i64 b)=nK (M.learn (.back k b)):=by
 funext x
 simp only[iT,nK,aK.learn]
 by_cases h:x=k<;>simp[h]
theorem ME (M:aK) (k:l7):rM (mK M) k=mK (M.drop (.flow k)):=by
 funext x
 simp only[rM,mK,aK.drop]
 by_cases h:x=k<;>simp[h]
theorem JK (M:aK) (k:dB):rM (kZ M) k=kZ (M.drop (.owner k)):=by
 funext x
 simp only[rM,kZ,aK.drop]
 by_cases h:x=k<;>simp[h]
theorem MF (M:aK) (k:l7):rM (nK M) k=nK (M.drop (.back k)):=by
 funext x
 simp only[rM,nK,aK.drop]
 by_cases h:x=k<;>simp[h]
structure aL (p:Nat→Prop) (B:Nat) (w w':World):Prop where
 os:w'.os=w.os
 tape:w'.tape=w.tape
 output:w'.output=w.output
 size:w.heap.size≤w'.heap.size
 block:∀k,k<B→¬p k→w'.heap[k]?=w.heap[k]?
section
variable {p q:Nat→Prop} {B B':Nat} {w w' w'':World}
theorem aL.refl (p:Nat→Prop) (B:Nat) (w:World):aL p B w w:=⟨rfl,rfl,rfl,Nat.le_refl _,fun _ _ _=>rfl⟩
theorem aL.trans (h:aL p B w w') (k:aL p B w' w''):aL p B w w'':=
 ⟨k.os.trans h.os,k.tape.trans h.tape,k.output.trans h.output,Nat.le_trans h.size k.size,fun i hi hp=>(k.block i hi hp).trans (h.block i hi hp)⟩
theorem aL.mono (h:aL p B w w') (hB:B'≤B):aL p B' w w':=⟨h.os,h.tape,h.output,h.size,fun k hk hp=>h.block k (by omega) hp⟩
theorem aL.weak (h:aL p B w w') (hq:∀k,p k→q k):aL q B w w':=⟨h.os,h.tape,h.output,h.size,fun k hk hp=>h.block k hk (fun e=>hp (hq k e))⟩
theorem aL.of_below (h:Below B w w'):aL p B w w':=⟨h.os,h.tape,h.output,h.size,fun k hk _=>h.block k hk⟩
theorem aL.below (h:aL p B w w') (hB:B'≤B) (hp:∀k,p k→B'≤k):Below B' w w':=
 ⟨h.os,h.tape,h.output,h.size,fun k hk=>h.block k (by omega) (fun e=>by have:=hp k e;omega)⟩
theorem aL.iJ {b:Nat} (h:w.mapTurned w' b) (hb:p b):aL p w.heap.size w w':=
 ⟨h.grown.os,h.grown.tape,h.grown.output,h.grown.size,fun k hk hp=>h.grown.block k hk (fun e=>hp (by cases e;exact hb))⟩
theorem aL.cell (h:aL p B w w') {a:Addr} (ha:a.block<B) (hp:¬p a.block):w'.cell? a=w.cell? a:=World.cell?_of_block (w:=w) (h.block a.block ha hp)
theorem aL.frozen (h:aL p B w w') {a:Addr} (ha:a.block<B) (hp:¬p a.block):w'.frozen? a=w.frozen? a:=World.frozen?_of_block (w:=w) (h.block a.block ha hp)
end
def eX (f o b:Nat) (k:Nat):Prop:=k=f∨k=o∨k=b
structure aM (w:World) (g:Nat) (n:aH) (f o b:Nat) (M:aK) (k:Nat):Prop where
 c0:w.cell? ⟨g,0,none⟩=some (.slice n.dA n.dn n.dc)
 c1:w.cell? ⟨g,1,none⟩=some (.slice n.lA n.ln n.lc)
 c2:w.cell? ⟨g,2,none⟩=some (.map (some f))
 c3:w.cell? ⟨g,3,none⟩=some (.map (some o))
 c4:w.cell? ⟨g,4,none⟩=some (.map (some b))
 net:bf w w.heap.size n
 mf:aS Tryz.prog 222 jg mF w f (mK M)
 mo:aS Tryz.prog 225 dS eD w o (kZ M)
 mb:aS Tryz.prog 222 jg mF w b (nK M)
 xS:f≠o
 xU:f≠b
 xV:o≠b
 lf:∃L:List l7,L.length≤k∧∀a,M.F a=true→a∈L
 lo:∃L:List dB,L.length≤k∧∀a,(M.O a).isSome =true→a∈L
 lb:∃L:List l7,L.length≤k∧∀a,(M.B a).isSome =true→a∈L
 oo:∀a v,M.O a=some v→ay v.1∧ay v.2
 ob:∀a v,M.B a=some v→ay v
section
variable {w w':World} {g:Nat} {n:aH} {f o b:Nat} {M:aK} {k:Nat}
theorem aM.WE (h:aM w g n f o b M k):g<w.heap.size:=pE h.c0
theorem aM.JD (h:aM w g n f o b M k):f<w.heap.size:=h.mf.lt
theorem aM.JE (h:aM w g n f o b M k):o<w.heap.size:=h.mo.lt
theorem aM.blt (h:aM w g n f o b M k):b<w.heap.size:=h.mb.lt
theorem aM.below (h:aM w g n f o b M k) (hb:Below w.heap.size w w'):aM w' g n f o b M k:=by
 have e:∀j,w'.cell? ⟨g,j,none⟩=w.cell? ⟨g,j,none⟩:=fun j=>hb.cell (p:=⟨g,j,none⟩) h.WE
 exact⟨(e _).trans h.c0,(e _).trans h.c1,(e _).trans h.c2,(e _).trans h.c3,(e _).trans h.c4,h.net.below hb hb.size,h.mf.below hb h.JD,h.mo.below hb h.JE,h.mb.below hb h.blt,
  h.xS,h.xU,h.xV,h.lf,h.lo,h.lb,h.oo,h.ob⟩
theorem aM.more (h:aM w g n f o b M k) {k':Nat} (hk:k≤k'):aM w g n f o b M k':=
 ⟨h.c0,h.c1,h.c2,h.c3,h.c4,h.net,h.mf,h.mo,h.mb,h.xS,h.xU,h.xV,h.lf.imp fun _ x=>⟨by have:=x.1;omega,x.2⟩,h.lo.imp fun _ x=>⟨by have:=x.1;omega,x.2⟩,h.lb.imp fun _ x=>⟨by have:=x.1;omega,x.2⟩,h.oo,h.ob⟩
theorem yK {α:Type} {P:Program} {kt:TypeId} {key:α→Value} {dom:α→Prop} {w:World} {b:Nat} {M:α→Option Value} (h:aS P kt key dom w b M) {a:Addr} {v:Value} (hc:w.cell? a=some v):a.block≠b:=fun e=>by
 obtain⟨es,c,hb⟩:=h.block
 subst e
 simp[World.cell?,hb]at hc
theorem aM.O9 (h:aM w g n f o b M k) {a:Addr} {v:Value} (hc:w.cell? a=some v):¬eX f o b a.block:=fun e=>by
 rcases e with e | e | e
 ·exact yK h.mf hc e
 ·exact yK h.mo hc e
 ·exact yK h.mb hc e
theorem aM.cell (h:aM w g n f o b M k) {B:Nat} (hn:aL (eX f o b) B w w') {a:Addr} {v:Value} (hc:w.cell? a=some v) (ha:a.block<B):w'.cell? a=some v:=(hn.cell ha (h.O9 hc)).trans hc
theorem aM.flow (h:aM w g n f o b M k) (hk:k<1000000) (a:l7) (ha:mF a):∃w',(Instr.mapUpdate 211 (.map (some f)) (jg a) (.bool true)).run Tryz.prog w= .ok () w'∧aM w' g n f o b (M.learn (.flow a)) (k+1)∧aL (eX f o b) w.heap.size w w':=by
 obtain⟨L,hL,hall⟩:=h.lf
 obtain⟨w',hrun,r1,r2⟩:=h.mf.ze wQ L (by unfold maxLen;omega) (fun x _ hx=>hall x (by simp only[mK]at hx;split at hx<;>simp_all)) Tryz.underlying211 ha (.bool true)
 rw[Mj]at r1
 have st:=bE.iJ r2
 refine⟨w',hrun,⟨st _ _ trivial h.c0,st _ _ trivial h.c1,st _ _ trivial h.c2,st _ _ trivial h.c3,st _ _ trivial h.c4,?_,r1,h.mo.turned r2 h.xS.symm,h.mb.turned r2 h.xU.symm,h.xS,h.xU,h.xV,⟨a::L,by simp;omega,fun x hx=>?_⟩,h.lo.imp fun _ x=>⟨by have:=x.1;omega,x.2⟩,h.lb.imp fun _ x=>⟨by have:=x.1;omega,x.2⟩,h.oo,h.ob⟩,aL.iJ r2 (.inl rfl)⟩
 ·exact h.net.stay st (fun _ _=>trivial) (fun _ _=>trivial) (fun _ _=>⟨fun _ _=>trivial,fun _ _=>trivial,fun _ _=>trivial⟩) r2.grown.size
 ·simp only[aK.learn]at hx
  by_cases e:x=a
  ·simp[e]
  ·rw[if_neg e]at hx;exact List.mem_cons_of_mem _ (hall x hx)
theorem aM.owner (h:aM w g n f o b M k) (hk:k<1000000) (a:dB) (ha:eD a) (u:Int×Int) (hu:ay u.1∧ay u.2):∃w',(Instr.mapUpdate 212 (.map (some o)) (dS a) (yD u)).run Tryz.prog w= .ok () w'∧aM w' g n f o b (M.learn (.owner a u)) (k+1)∧aL (eX f o b) w.heap.size w w':=by
 obtain⟨L,hL,hall⟩:=h.lo
 obtain⟨w',hrun,r1,r2⟩:=h.mo.ze JL L (by unfold maxLen;omega) (fun x _ hx=>hall x (by simpa[kZ]using hx)) Tryz.underlying212 ha (yD u)
 rw[Ja]at r1
 have st:=bE.iJ r2
 refine⟨w',hrun,⟨st _ _ trivial h.c0,st _ _ trivial h.c1,st _ _ trivial h.c2,st _ _ trivial h.c3,st _ _ trivial h.c4,?_,h.mf.turned r2 h.xS,r1,h.mb.turned r2 h.xV.symm,h.xS,h.xU,h.xV,h.lf.imp fun _ x=>⟨by have:=x.1;omega,x.2⟩,⟨a::L,by simp;omega,fun x hx=>?_⟩,h.lb.imp fun _ x=>⟨by have:=x.1;omega,x.2⟩,fun x v hx=>?_,h.ob⟩,aL.iJ r2 (.inr (.inl rfl))⟩
 ·exact h.net.stay st (fun _ _=>trivial) (fun _ _=>trivial) (fun _ _=>⟨fun _ _=>trivial,fun _ _=>trivial,fun _ _=>trivial⟩) r2.grown.size
 ·simp only[aK.learn]at hx
  by_cases e:x=a
  ·simp[e]
  ·rw[if_neg e]at hx;exact List.mem_cons_of_mem _ (hall x hx)
 ·simp only[aK.learn]at hx
  by_cases e:x=a
  ·rw[if_pos e]at hx;cases hx;exact hu
  ·rw[if_neg e]at hx;exact h.oo x v hx
theorem aM.back (h:aM w g n f o b M k) (hk:k<1000000) (a:l7) (ha:mF a) (u:Int) (hu:ay u):∃w',(Instr.mapUpdate 213 (.map (some b)) (jg a) (.int .i64 u)).run Tryz.prog w= .ok () w'∧aM w' g n f o b (M.learn (.back a u)) (k+1)∧aL (eX f o b) w.heap.size w w':=by
 obtain⟨L,hL,hall⟩:=h.lb
 obtain⟨w',hrun,r1,r2⟩:=h.mb.ze wQ L (by unfold maxLen;omega) (fun x _ hx=>hall x (by simpa[nK]using hx)) Tryz.underlying213 ha (.int .i64 u)
 rw[Ml]at r1
 have st:=bE.iJ r2
 refine⟨w',hrun,⟨st _ _ trivial h.c0,st _ _ trivial h.c1,st _ _ trivial h.c2,st _ _ trivial h.c3,st _ _ trivial h.c4,?_,h.mf.turned r2 h.xU,h.mo.turned r2 h.xV,r1,h.xS,h.xU,h.xV,h.lf.imp fun _ x=>⟨by have:=x.1;omega,x.2⟩,h.lo.imp fun _ x=>⟨by have:=x.1;omega,x.2⟩,⟨a::L,by simp;omega,fun x hx=>?_⟩,h.oo,fun x v hx=>?_⟩,aL.iJ r2 (.inr (.inr rfl))⟩
 ·exact h.net.stay st (fun _ _=>trivial) (fun _ _=>trivial) (fun _ _=>⟨fun _ _=>trivial,fun _ _=>trivial,fun _ _=>trivial⟩) r2.grown.size
 ·simp only[aK.learn]at hx
  by_cases e:x=a
  ·simp[e]
  ·rw[if_neg e]at hx;exact List.mem_cons_of_mem _ (hall x hx)
 ·simp only[aK.learn]at hx
  by_cases e:x=a
  ·rw[if_pos e]at hx;cases hx;exact hu
  ·rw[if_neg e]at hx;exact h.ob x v hx
theorem aM.acd (h:aM w g n f o b M k) (a:l7) (ha:mF a):(Instr.lookup 211 (.map (some f)) (jg a) false).run Tryz.prog w= .ok (.bool (M.F a)) w:=by
 have:=(h.mf.Cn wQ Tryz.underlying211 (z:=.bool false) (by kernel_rfl) ha).2
 rw[this]
 simp only[mK]
 cases M.F a<;>rfl
theorem aM.lookO (h:aM w g n f o b M k) (a:dB) (ha:eD a):(Instr.lookup 212 (.map (some o)) (dS a) true).run Tryz.prog w= .ok (.tuple #[yD ((M.O a).getD (0,0)),.bool (M.O a).isSome]) w:=by
 have:=(h.mo.Cn JL Tryz.underlying212 (z:=yD (0,0)) (by kernel_rfl) ha).1
 rw[this]
 simp only[kZ]
 cases M.O a<;>rfl
theorem aM.Em (h:aM w g n f o b M k) (a:l7) (ha:mF a):(Instr.lookup 213 (.map (some b)) (jg a) true).run Tryz.prog w= .ok (.tuple #[.int .i64 ((M.B a).getD 0),.bool (M.B a).isSome]) w:=by
 have:=(h.mb.Cn wQ Tryz.underlying213 (z:=.int .i64 0) (by kernel_rfl) ha).1
 rw[this]
 simp only[nK]
 cases M.B a<;>rfl
end
end Go.Proofs.YtlhmdcgckocidaaGreat
