/- A part of the proof: StepClone, As, AsRow, RefNetP. -/
import Derived.Test.YtifkacnoiocebaaDoorNz8
import Derived.IntWalk
import Derived.ChangeKeysEq
set_option linter.unusedVariables false
set_option linter.unusedSimpArgs false
set_option maxRecDepth 100000
set_option maxHeartbeats 4000000
namespace Go.Proofs.YtifkacnoiocebaaDoor
open Go.ChangeAt Go.ChangeShapes Go.RowKit Go.WideShapes
def jf (k:Int):List Value:=[.int .i64 k]
theorem kI (k:Int):(jf k).length =1:=rfl
theorem Tryd.infoLink:(Tryd.prog.info? 55).map (fun i=>(i.zero,i.size,i.bytes))=some (some (.agg #[.int .i64 0,.int .i64 0,.int .i64 0,.int .i64 0]),4,32):=by kernel_rfl
theorem Tryd.infoDevice:(Tryd.prog.info? 37).map (fun i=>(i.zero,i.size,i.bytes))=some (some (.agg #[.string ⟨#[]⟩,.int .i64 0,.int .i64 0,.int .u8 0,.slice none 0 0,.slice none 0 0,.slice none 0 0]),7,112):=by kernel_rfl
end Go.Proofs.YtifkacnoiocebaaDoor
namespace Go.Proofs.YtifkacnoiocebaaDoor
open vC Go.Maps Go.RowKit
theorem below_alloc2 (w:World) (o:Obj):RowKit.Below w.heap.size w (w.alloc o):=(RowKit.Below.refl _ _).alloc (Nat.le_refl _) o
section
variable {w w':World} {B g:Nat} {A:St} {bl:List Nat}
end
def Bx (w:World) (N:Nat) (vs:Array Value) (t:TypeId):Prop:=w.heap[N]?=some (.cells vs t (0,0))
theorem Bx.new (w:World) (vs:Array Value) (t:TypeId):Bx (w.alloc (.cells vs t)) w.heap.size vs t:=heap_alloc_new w _
theorem Bx.same {w w':World} {N:Nat} {vs:Array Value} {t:TypeId} (h:Bx w N vs t) (hs:w'.heap[N]?=w.heap[N]?):Bx w' N vs t:=hs.trans h
theorem Bx.lt {w:World} {N:Nat} {vs:Array Value} {t:TypeId} (h:Bx w N vs t):N<w.heap.size:=(Array.getElem?_eq_some_iff.1 h).1
theorem Bx.below {w w':World} {N:Nat} {vs:Array Value} {t:TypeId} (h:Bx w N vs t) (hb:RowKit.Below w.heap.size w w'):Bx w' N vs t:=h.same (hb.block N h.lt)
theorem Bx.get {w:World} {N:Nat} {vs:Array Value} {t:TypeId} (h:Bx w N vs t) (j:Nat) (v:Value) (hv:vs[j]?=some v):w.cell? ⟨N,j,none⟩=some v:=by
 rw[cell_of_row _ _ _ _ _ _ h];exact hv
theorem Bx.frozen {w:World} {N:Nat} {vs:Array Value} {t:TypeId} (h:Bx w N vs t) (o:Nat):w.frozen? ⟨N,o,none⟩=false:=by
 have h':w.heap[N]?=some (.cells vs t (0,0)):=h
 unfold World.frozen?
 simp only[h']
 simp
theorem Bx.set {w:World} {N:Nat} {vs:Array Value} {t:TypeId} (h:Bx w N vs t) (j:Nat) (v:Value):Bx (w.setCell ⟨N,j,none⟩ v) N (vs.setIfInBounds j v) t:=by
 have h1:w.heap[N]?=some (.cells vs t (0,0)):=h
 have hlt:=h.lt
 have h':w.heap[N]= .cells vs t (0,0):=by simpa[Array.getElem?_eq_getElem hlt]using h1
 show(w.heap.modify N _)[N]?=_
 rw[Array.getElem?_eq_getElem (by simpa using hlt),Array.getElem_modify_self,h']
 rfl
theorem Bx.far {w:World} {N:Nat} {vs:Array Value} {t:TypeId} (h:Bx w N vs t) (a:Addr) (v:Value) (hn:N≠a.block):Bx (w.setCell a v) N vs t:=h.same (RowKit.Below.heap_setCell w a v N hn)
theorem size_setCell (w:World) (a:Addr) (v:Value):(w.setCell a v).heap.size =w.heap.size:=by simp[World.setCell]
section
variable {wr w':World} {B g base s n:Nat} {A:St} {e:TypeId} {v:Value} {xs:List Value} {bl:List Nat}
end
end Go.Proofs.YtifkacnoiocebaaDoor
namespace Go.Proofs.YtifkacnoiocebaaDoor
open Go.RowKit
theorem zD (k:Int):0≤dK k∧dK k≤4:=by
 unfold dK
 repeat' split
 all_goals omega
theorem qd (k:Int) (W:World):Calls Tryd.prog 48 #[.int .i64 k] W fun e W'=>e= .returned (.int .i64 (dK k))∧Below W.heap.size W W':=by
 cases h:dx k 1 5
 ·have HF:=hide (show dK k=0 from by
   simp only[dx,Bool.and_eq_false_iff,decide_eq_false_iff_not]at h
   unfold dK
   rw[if_neg (by simp;omega),if_neg (by simp;omega),if_neg (by simp;omega),if_neg (by simp;omega),if_neg (by simp;omega)])
  rw[HF.out]
  go_enter Tryd.func48,Tryd.ntmps48
  go_wp2_with (go_at_call 46;refine(eD _ h).mono ?_;rintro e w1 ⟨rfl,rfl⟩)
  go_ret
  exact⟨rfl,Below.refl _ _⟩
 ·have h2:=h
  simp only[dx,Bool.and_eq_true,decide_eq_true_eq]at h2
  rcases(by omega:k=1∨k=2∨k=3∨k=4∨k=5)with rfl | rfl | rfl | rfl | rfl
  all_goals
   clear h2
   go_enter Tryd.func48,Tryd.ntmps48
   go_wp2_with (go_at_call 46;refine(eD _ h).mono ?_;rintro e w1 ⟨rfl,rfl⟩)
   go_ret
   exact⟨rfl,(Below.refl _ _).alloc (Nat.le_refl _) _⟩
theorem Df (w:World) (d:Nat) (a b:Int):(Op.equalIn (d+1) 3 (.int .i64 a) (.int .i64 b)).run Tryd.prog w= .ok (a ==b) w:=by
 simp[Op.equalIn,run_underlying Tryd.underlying3]
theorem Cq:Tryd.prog.plainKey 3=true:=by kernel_rfl
theorem qF (w:World) (a b c d:Int):(binOp .eql 98 (.agg #[.int .i64 a,.int .i64 b]) (.agg #[.int .i64 c,.int .i64 d])).run Tryd.prog w= .ok (.bool (gF (a,b) (c,d))) w:=by
 obtain⟨i0,hi0,hz0,hz1,hz2⟩:=info_parts Tryd.infoInt
 have h:=run_equalIn_array (P:=Tryd.prog) w 9999 #[.int .i64 a,.int .i64 b] #[.int .i64 c,.int .i64 d] Tryd.underlying98 hi0
 have hr:List.range 2=[0,1]:=rfl
 have p:=fun(xs:Array Value) (off:Nat) (v:Value) (hx:xs[off]?=some v)=>run_part_plain (P:=Tryd.prog) w Cq (xs:=xs) (off:=off) (v:=v) hx
 have e:=Df w 9998
 generalize hd:(9999:Nat)=D at*
 have hD:D=9998+1:=hd.symm
 have key:(Op.eqItems D 3 1 #[.int .i64 a,.int .i64 b] #[.int .i64 c,.int .i64 d] [0,1]).run Tryd.prog w= .ok (gF (a,b) (c,d)) w:=by
  simp only[Op.eqItems,Sem.run_bind]
  rw[p _ _ (.int .i64 a) rfl]
  simp only[Result.andThen_ok]
  rw[p _ _ (.int .i64 c) rfl]
  simp only[Result.andThen_ok]
  rw[hD,e]
  simp only[Result.andThen_ok]
  cases h1:(a ==c)
  ·simp[gF,h1]
  ·simp only[Bool.not_true,Bool.false_eq_true,if_false,Sem.run_bind]
   rw[p _ _ (.int .i64 b) rfl]
   simp only[Result.andThen_ok]
   rw[p _ _ (.int .i64 d) rfl]
   simp only[Result.andThen_ok]
   rw[e]
   simp only[Result.andThen_ok]
   cases h2:(b ==d)<;>simp[gF,h1,h2]
 rw[Db,hr,key]at h
 simp only[binOp,Op.equal,Op.maxDepth,Sem.run_bind]
 rw[show(10000:Nat)=D+1 by rw[← hd],h]
 simp
theorem yC (l:List Pl) (b o n c:Nat) (x y:Int) (W:World) (hn:n≤9223372036854775807) (hl:bD fJ 2 W W.heap.size (some ⟨b,o,none⟩) n l) (h0:0<n):
  Calls Tryd.prog 75 #[.slice (some ⟨b,o,none⟩) n c,.agg #[.int .i64 x,.int .i64 y]] W fun e W'=>e= .returned (.int .i64 (ig (fun z=>gF (x,y) z) l))∧RowKit.Below W.heap.size W W':=by
 have HL:=hide hl
 clear hl
 have hb0:Below W.heap.size W (W.alloc (.cells #[.int .i64 x,.int .i64 y] 98)):=(Below.refl _ _).alloc (Nat.le_refl _) _
 have HX0:=hide (nM.new W x y 98)
 have hs0:(W.alloc (.cells #[.int .i64 x,.int .i64 y] 98)).heap.size =W.heap.size+1:=by simp
 have heq:=fun w=>qF w
 go_enter Tryd.func75,Tryd.ntmps75
 go_wp2
 generalize W.alloc _=W0 at*
 have HB0:=hide hb0
 clear hb0
 go_loopw [8] (fun i wr=>∃k:Nat,k≤n∧i= .int .i64 k∧Hid (RowKit.Below W0.heap.size W0 wr)∧Hid (∀j z,j<k→l[j]?=some z→gF (x,y) z=false)) (fun i _=>n - (intOf i).toNat)
 case atStart=>exact⟨0,Nat.zero_le _,rfl,hide (RowKit.Below.refl _ _),hide (fun j r h=>absurd h (by omega))⟩
 case round=>
  obtain⟨k,hk,rfl,HB,HN⟩:=hrel
  have aV:=hide (HB0.out.trans (HB.out.mono HB0.out.size))
  by_cases hlt:k<n
  ·obtain⟨z,hz⟩:∃r,l[k]?=some r:=⟨_,List.getElem?_eq_getElem (by have:=HL.out.1;omega)⟩
   obtain⟨nA,hg⟩:=(HL.out.below aV.out aV.out.size).get hz
   have q0:=hg 0 _ rfl
   have q1:=hg 1 _ rfl
   obtain⟨x0,x1,_,_⟩:=HX0.out.below HB.out (by omega)
   have HZ:=hide hz
   clear hz hg
   obtain⟨z1,z2⟩:=z
   rw[Nat.add_zero]at q0
   cases e1:gF (x,y) (z1,z2)
   ·go_wp2
    go_quiet (fail)
    go_wp2
    go_roundw
    case rel=>exact⟨k+1,by omega,by go_num,hide (HB.out.trans (aP _ _ _)),hide (fun j r hj hr=>by
     rcases(by omega:j<k∨j=k)with h | rfl
     ·exact HN.out j r h hr
     ·have e:=HZ.out;rw[e]at hr;cases hr;exact e1)⟩
    case measure=>simp[intOf];omega
   ·have HF:=hide (kR (p:=fun z=>gF (x,y) z) HZ.out e1 HN.out)
    go_wp2
    go_quiet (fail)
    go_wp2
    go_ret
    exact⟨j6 HF.out.symm,aV.out.trans (aP _ _ _)⟩
  ·have HF:=hide (lS (p:=fun z=>gF (x,y) z) (l:=l) (fun j r hj hr=>HN.out j r (by have:=HL.out.1;omega) hr))
   go_wp2
   go_ret
   exact⟨j6 HF.out.symm,aV.out⟩
theorem ze (A:Option Addr) (c:Nat) (x y:Int) (W:World):Calls Tryd.prog 75 #[.slice A 0 c,.agg #[.int .i64 x,.int .i64 y]] W fun e W'=>e= .returned (.int .i64 (-1))∧RowKit.Below W.heap.size W W':=by
 go_enter Tryd.func75,Tryd.ntmps75
 go_wp2
 refine wp_loop_rounds 1 ?_
 rw[rounds_succ]
 go_wp2
 go_ret
 exact⟨rfl,(Below.refl _ _).alloc (Nat.le_refl _) _⟩
theorem zf (l:List Pl) (A:Option Addr) (n c:Nat) (x y:Int) (W:World) (hn:n≤9223372036854775807) (hl:bD fJ 2 W W.heap.size A n l):
  Calls Tryd.prog 75 #[.slice A n c,.agg #[.int .i64 x,.int .i64 y]] W fun e W'=>e= .returned (.int .i64 (ig (fun z=>gF (x,y) z) l))∧RowKit.Below W.heap.size W W':=by
 rcases Nat.eq_zero_or_pos n with rfl | h0
 ·have:l=[]:=List.eq_nil_of_length_eq_zero hl.1
  subst this
  exact ze A c x y W
 ·obtain⟨b,o,rfl,hb,_⟩:=hl.2 h0
  exact yC l b o n c x y W hn hl h0
theorem pG (l:List Pl) (A:Option Addr) (n c:Nat) (x y:Int) (W:World) (hn:n≤9223372036854775807) (hl:bD fJ 2 W W.heap.size A n l):
  Calls Tryd.prog 49 #[.slice A n c,.agg #[.int .i64 x,.int .i64 y]] W fun e W'=>e= .returned (.bool (l.any fun z=>gF (x,y) z))∧RowKit.Below W.heap.size W W':=by
 have hb0:Below W.heap.size W (W.alloc (.cells #[.int .i64 x,.int .i64 y] 98)):=(Below.refl _ _).alloc (Nat.le_refl _) _
 have HC:=hide (zf l A n c x y (W.alloc (.cells #[.int .i64 x,.int .i64 y] 98)) hn (hl.below hb0 hb0.size))
 have HB0:=hide hb0
 clear hl hb0
 rcases sM (fun z=>gF (x,y) z) l with⟨h1,k,h2⟩ | ⟨h1,h2⟩
 all_goals
  rw[h2]at HC
  rw[h1]
  clear h1 h2
  go_enter Tryd.func49,Tryd.ntmps49
  go_wp2_with fail
  refine HC.out.mono ?_
  rintro e w1 ⟨rfl,hb⟩
  have HB:=hide (HB0.out.trans (hb.mono HB0.out.size))
  clear hb
  go_wp2
  go_ret
  exact⟨rfl,HB.out⟩
end Go.Proofs.YtifkacnoiocebaaDoor
