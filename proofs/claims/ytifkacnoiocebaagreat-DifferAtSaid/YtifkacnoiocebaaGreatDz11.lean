/- A part of the proof: Peer, RefNetP. -/
import Derived.Test.YtifkacnoiocebaaGreatDz10
import Derived.ChangeKeysEq
set_option linter.unusedVariables false
set_option linter.unusedSimpArgs false
set_option maxRecDepth 100000
set_option maxHeartbeats 4000000
namespace Go.Proofs.YtifkacnoiocebaaGreat
open Go.RowKit
theorem Sg (lA dA:Option Addr) (dn dc lc:Nat) (x y:Int) (W:World):
  Calls Tryz.prog 85 #[.agg #[.slice dA dn dc,.slice lA 0 lc],.agg #[.int .i64 x,.int .i64 y]] W fun e W'=>e= .returned (pJ none)∧Below W.heap.size W W':=by
 have HB:=hide (fun o0 o1 o2=>show Below W.heap.size W (((W.alloc o0).alloc o1).alloc o2)from(((Below.refl _ _).alloc (Nat.le_refl _) _).alloc (by simp) _).alloc (by simp;omega) _)
 go_enter Tryz.func85,Tryz.ntmps85
 go_wp2
 refine wp_loop_rounds 1 ?_
 rw[rounds_succ]
 go_wp2
 refine bodyPost_ret (v:=.tuple #[.agg #[.int .i64 0,.int .i64 0],.bool false]) (by simp[results,Tryz.results85,go_sem]) rfl ⟨rfl,?_⟩
 first | exact HB.out _ _ _ | exact((HB.out _ _ _).setCell (jG _) _).setCell (jG _) _
theorem Jm (dA:Option Addr) (dn dc:Nat) (lA:Option Addr) (ln lc:Nat) (ls:List ah) (x y:Int) (W:World) (hn:ln≤9223372036854775807) (hl:bD ah.cells 4 W W.heap.size lA ln ls):
  Calls Tryz.prog 85 #[.agg #[.slice dA dn dc,.slice lA ln lc],.agg #[.int .i64 x,.int .i64 y]] W fun e W'=>e= .returned (pJ (aD ls (x,y)))∧Below W.heap.size W W':=by
 rcases Nat.eq_zero_or_pos ln with rfl | h0
 ·have:ls=[]:=List.eq_nil_of_length_eq_zero hl.1
  subst this
  exact Sg lA dA dn dc lc x y W
 ·obtain⟨b,o,rfl,_,_⟩:=hl.2 h0
  exact P5 ls (.slice dA dn dc) b o ln lc x y W hn hl h0 dA dn dc rfl
def aR (ls:List ah):List Pl:=ls.flatMap fun l=>[l.e1,l.e2]
theorem Jo {ends:List Pl} {l:ah} (h:fE ends l=false):l.e1≠l.e2∧l.e1∉ends∧l.e2∉ends:=by
 simp only[fE,Bool.or_eq_false_iff,List.any_eq_false]at h
 refine⟨fun e=>?_,fun hm=>h.1.2 _ hm ((wu _ _).2 rfl),fun hm=>h.2 _ hm ((wu _ _).2 rfl)⟩
 have:=(wu l.e1 l.e2).2 e
 rw[h.1.1]at this
 cases this
theorem P6 {ds:List Dev} :∀(ls:List ah) (ends:List Pl),ends.Nodup→(∀x∈ends,dI ds x=true)→gB ds ends ls=0→(ends++aR ls).Nodup ∧∀x∈ends++aR ls,dI ds x=true:=by
 intro ls
 induction ls with
 |nil=>intro ends hn hp _;exact⟨by simpa[aR]using hn,by simpa[aR]using hp⟩
 |cons l ls ih=>
  intro ends hn hp h
  simp only[gB]at h
  by_cases h1:dI ds l.e1=false
  ·rw[if_pos h1]at h;cases h
  rw[if_neg h1]at h
  by_cases h2:dI ds l.e2=false
  ·rw[if_pos h2]at h;cases h
  rw[if_neg h2]at h
  cases h3:fE ends l
  case true=>rw[h3]at h;simp at h
  rw[h3]at h
  obtain⟨t1,t2,t3⟩:=Jo h3
  have h:=ih (ends++[l.e1,l.e2]) (by
   rw[List.nodup_append]
   refine⟨hn,by simp[t1],fun a ha b hb=>?_⟩
   simp only[List.mem_cons,List.not_mem_nil,or_false]at hb
   rcases hb with rfl | rfl
   ·exact fun e=>t2 (e▸ha)
   ·exact fun e=>t3 (e▸ha)) (by
   intro x hx
   simp only[List.mem_append,List.mem_cons,List.not_mem_nil,or_false]at hx
   rcases hx with hx | rfl | rfl
   ·exact hp x hx
   ·simpa using h1
   ·simpa using h2) (by simpa using h)
  have e:ends++[l.e1,l.e2]++aR ls=ends++aR (l::ls):=by simp[aR]
  rw[e]at h
  exact h
structure Np (ds:List Dev) (ls:List ah):Prop where
 dl:ds.length≤10
 ll:ls.length≤15
 nd:(aR ls).Nodup
 pl:∀x∈aR ls,dI ds x=true
 de:fC [] ds=0
theorem mK {ds:List Dev} {ls:List ah} (h:fq ds ls=0):Np ds ls:=by
 unfold fq at h
 by_cases h1:10<ds.length∨15<ls.length
 ·rw[if_pos h1]at h;cases h
 rw[if_neg h1]at h
 by_cases h2:fC [] ds=0
 ·rw[if_pos h2]at h
  obtain⟨a,b⟩:=P6 ls [] (by simp) (by simp) h
  exact⟨by omega,by omega,by simpa using a,by simpa using b,h2⟩
 ·rw[if_neg h2]at h;exact absurd h h2
theorem pK {ls:List ah} {x:Pl} :x∈aR ls↔∃l∈ls,x=l.e1∨x=l.e2:=by
 simp[aR]
theorem XT {x y:Pl} (h:x≠y):dh x y=false:=by cases e:dh x y;rfl;exact absurd ((wu _ _).1 e) h
theorem pO (k:Int):0≤aN k∧aN k≤4:=by
 unfold aN
 repeat' split
 all_goals omega
theorem iI (k:Int) (W:World):Calls Tryz.prog 29 #[.int .i64 k] W fun e W'=>e= .returned (.int .i64 (aN k))∧Below W.heap.size W W':=by
 cases h:aZ k 1 5
 ·have HF:=hide (show aN k=0 from by
   simp only[aZ,Bool.and_eq_false_iff,decide_eq_false_iff_not]at h
   unfold aN
   rw[if_neg (by simp;omega),if_neg (by simp;omega),if_neg (by simp;omega),if_neg (by simp;omega),if_neg (by simp;omega)])
  rw[HF.out]
  go_enter Tryz.func29,Tryz.ntmps29
  go_wp2_with (go_at_call 7;refine(dR _ h).mono ?_;rintro e w1 ⟨rfl,rfl⟩)
  go_ret
  exact⟨rfl,Below.refl _ _⟩
 ·have h2:=h
  simp only[aZ,Bool.and_eq_true,decide_eq_true_eq]at h2
  rcases(by omega:k=1∨k=2∨k=3∨k=4∨k=5)with rfl | rfl | rfl | rfl | rfl
  all_goals
   clear h2
   go_enter Tryz.func29,Tryz.ntmps29
   go_wp2_with (go_at_call 7;refine(dR _ h).mono ?_;rintro e w1 ⟨rfl,rfl⟩)
   go_ret
   exact⟨rfl,(Below.refl _ _).alloc (Nat.le_refl _) _⟩
theorem WL (w:World) (d:Nat) (a b:Int):(Op.equalIn (d+1) 3 (.int .i64 a) (.int .i64 b)).run Tryz.prog w= .ok (a ==b) w:=by
 simp[Op.equalIn,run_underlying Tryz.underlying3]
theorem Si:Tryz.prog.plainKey 3=true:=by kernel_rfl
theorem AV (w:World) (a b c d:Int):(binOp .eql 86 (.agg #[.int .i64 a,.int .i64 b]) (.agg #[.int .i64 c,.int .i64 d])).run Tryz.prog w= .ok (.bool (dh (a,b) (c,d))) w:=by
 obtain⟨i0,hi0,hz0,hz1,hz2⟩:=info_parts Tryz.infoInt
 have h:=run_equalIn_array (P:=Tryz.prog) w 9999 #[.int .i64 a,.int .i64 b] #[.int .i64 c,.int .i64 d] Tryz.underlying86 hi0
 have hr:List.range 2=[0,1]:=rfl
 have p:=fun(xs:Array Value) (off:Nat) (v:Value) (hx:xs[off]?=some v)=>run_part_plain (P:=Tryz.prog) w Si (xs:=xs) (off:=off) (v:=v) hx
 have e:=WL w 9998
 generalize hd:(9999:Nat)=D at*
 have hD:D=9998+1:=hd.symm
 have key:(Op.eqItems D 3 1 #[.int .i64 a,.int .i64 b] #[.int .i64 c,.int .i64 d] [0,1]).run Tryz.prog w= .ok (dh (a,b) (c,d)) w:=by
  simp only[Op.eqItems,Sem.run_bind]
  rw[p _ _ (.int .i64 a) rfl]
  simp only[Result.andThen_ok]
  rw[p _ _ (.int .i64 c) rfl]
  simp only[Result.andThen_ok]
  rw[hD,e]
  simp only[Result.andThen_ok]
  cases h1:(a ==c)
  ·simp[dh,h1]
  ·simp only[Bool.not_true,Bool.false_eq_true,if_false,Sem.run_bind]
   rw[p _ _ (.int .i64 b) rfl]
   simp only[Result.andThen_ok]
   rw[p _ _ (.int .i64 d) rfl]
   simp only[Result.andThen_ok]
   rw[e]
   simp only[Result.andThen_ok]
   cases h2:(b ==d)<;>simp[dh,h1,h2]
 rw[Cj,hr,key]at h
 simp only[binOp,Op.equal,Op.maxDepth,Sem.run_bind]
 rw[show(10000:Nat)=D+1 by rw[← hd],h]
 simp
theorem Jp (l:List Pl) (b o n c:Nat) (x y:Int) (W:World) (hn:n≤9223372036854775807) (hl:bD gX 2 W W.heap.size (some ⟨b,o,none⟩) n l) (h0:0<n):
  Calls Tryz.prog 63 #[.slice (some ⟨b,o,none⟩) n c,.agg #[.int .i64 x,.int .i64 y]] W fun e W'=>e= .returned (.int .i64 (jy (fun z=>dh (x,y) z) l))∧RowKit.Below W.heap.size W W':=by
 have HL:=hide hl
 clear hl
 have hb0:Below W.heap.size W (W.alloc (.cells #[.int .i64 x,.int .i64 y] 86)):=(Below.refl _ _).alloc (Nat.le_refl _) _
 have HX0:=hide (jQ.new W x y 86)
 have hs0:(W.alloc (.cells #[.int .i64 x,.int .i64 y] 86)).heap.size =W.heap.size+1:=by simp
 have heq:=fun w=>AV w
 go_enter Tryz.func63,Tryz.ntmps63
 go_wp2
 generalize W.alloc _=W0 at*
 have HB0:=hide hb0
 clear hb0
 go_loopw [8] (fun i wr=>∃k:Nat,k≤n∧i= .int .i64 k∧Hid (RowKit.Below W0.heap.size W0 wr)∧Hid (∀j z,j<k→l[j]?=some z→dh (x,y) z=false)) (fun i _=>n - (intOf i).toNat)
 case atStart=>exact⟨0,Nat.zero_le _,rfl,hide (RowKit.Below.refl _ _),hide (fun j r h=>absurd h (by omega))⟩
 case round=>
  obtain⟨k,hk,rfl,HB,HN⟩:=hrel
  have gD:=hide (HB0.out.trans (HB.out.mono HB0.out.size))
  by_cases hlt:k<n
  ·obtain⟨z,hz⟩:∃r,l[k]?=some r:=⟨_,List.getElem?_eq_getElem (by have:=HL.out.1;omega)⟩
   obtain⟨kD,hg⟩:=(HL.out.below gD.out gD.out.size).get hz
   have q0:=hg 0 _ rfl
   have q1:=hg 1 _ rfl
   obtain⟨x0,x1,_,_⟩:=HX0.out.below HB.out (by omega)
   have HZ:=hide hz
   clear hz hg
   obtain⟨z1,z2⟩:=z
   rw[Nat.add_zero]at q0
   cases e1:dh (x,y) (z1,z2)
   ·go_wp2
    go_quiet (fail)
    go_wp2
    go_roundw
    case rel=>exact⟨k+1,by omega,by go_num,hide (HB.out.trans (fT _ _ _)),hide (fun j r hj hr=>by
     rcases(by omega:j<k∨j=k)with h | rfl
     ·exact HN.out j r h hr
     ·have e:=HZ.out;rw[e]at hr;cases hr;exact e1)⟩
    case measure=>simp[intOf];omega
   ·have HF:=hide (rH (p:=fun z=>dh (x,y) z) HZ.out e1 HN.out)
    go_wp2
    go_quiet (fail)
    go_wp2
    go_ret
    exact⟨qP HF.out.symm,gD.out.trans (fT _ _ _)⟩
  ·have HF:=hide (xG (p:=fun z=>dh (x,y) z) (l:=l) (fun j r hj hr=>HN.out j r (by have:=HL.out.1;omega) hr))
   go_wp2
   go_ret
   exact⟨qP HF.out.symm,gD.out⟩
theorem KY (A:Option Addr) (c:Nat) (x y:Int) (W:World):Calls Tryz.prog 63 #[.slice A 0 c,.agg #[.int .i64 x,.int .i64 y]] W fun e W'=>e= .returned (.int .i64 (-1))∧RowKit.Below W.heap.size W W':=by
 go_enter Tryz.func63,Tryz.ntmps63
 go_wp2
 refine wp_loop_rounds 1 ?_
 rw[rounds_succ]
 go_wp2
 go_ret
 exact⟨rfl,(Below.refl _ _).alloc (Nat.le_refl _) _⟩
theorem KZ (l:List Pl) (A:Option Addr) (n c:Nat) (x y:Int) (W:World) (hn:n≤9223372036854775807) (hl:bD gX 2 W W.heap.size A n l):
  Calls Tryz.prog 63 #[.slice A n c,.agg #[.int .i64 x,.int .i64 y]] W fun e W'=>e= .returned (.int .i64 (jy (fun z=>dh (x,y) z) l))∧RowKit.Below W.heap.size W W':=by
 rcases Nat.eq_zero_or_pos n with rfl | h0
 ·have:l=[]:=List.eq_nil_of_length_eq_zero hl.1
  subst this
  exact KY A c x y W
 ·obtain⟨b,o,rfl,hb,_⟩:=hl.2 h0
  exact Jp l b o n c x y W hn hl h0
theorem yG (l:List Pl) (A:Option Addr) (n c:Nat) (x y:Int) (W:World) (hn:n≤9223372036854775807) (hl:bD gX 2 W W.heap.size A n l):
  Calls Tryz.prog 30 #[.slice A n c,.agg #[.int .i64 x,.int .i64 y]] W fun e W'=>e= .returned (.bool (l.any fun z=>dh (x,y) z))∧RowKit.Below W.heap.size W W':=by
 have hb0:Below W.heap.size W (W.alloc (.cells #[.int .i64 x,.int .i64 y] 86)):=(Below.refl _ _).alloc (Nat.le_refl _) _
 have HC:=hide (KZ l A n c x y (W.alloc (.cells #[.int .i64 x,.int .i64 y] 86)) hn (hl.below hb0 hb0.size))
 have HB0:=hide hb0
 clear hl hb0
 rcases DC (fun z=>dh (x,y) z) l with⟨h1,k,h2⟩ | ⟨h1,h2⟩
 all_goals
  rw[h2]at HC
  rw[h1]
  clear h1 h2
  go_enter Tryz.func30,Tryz.ntmps30
  go_wp2_with fail
  refine HC.out.mono ?_
  rintro e w1 ⟨rfl,hb⟩
  have HB:=hide (HB0.out.trans (hb.mono HB0.out.size))
  clear hb
  go_wp2
  go_ret
  exact⟨rfl,HB.out⟩
end Go.Proofs.YtifkacnoiocebaaGreat
