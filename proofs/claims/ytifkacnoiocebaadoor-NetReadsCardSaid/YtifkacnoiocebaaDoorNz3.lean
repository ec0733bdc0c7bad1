/- A part of the proof: NetAt, Devs, G6, NetDev, NetBacks. -/
import Derived.Test.YtifkacnoiocebaaDoorNz2
import Derived.Deep.RegionHeld3
import Derived.BigRegion
import Derived.ChangeAlike
import Derived.Deep.Upon
import Derived.Lib.SliceRun
import Derived.Laws.IdiomCopy
set_option linter.unusedVariables false
set_option linter.unusedSimpArgs false
set_option maxRecDepth 100000
set_option maxHeartbeats 8000000
namespace Go.Proofs.YtifkacnoiocebaaDoor
open Go.RowKit
structure aJ where
 a:Int
 p:Int
 b:Int
 q:Int
def aJ.ok (l:aJ):Prop:=bG l.a∧bG l.p∧bG l.b∧bG l.q
def aJ.cells (l:aJ):List Value:=[.int .i64 l.a,.int .i64 l.p,.int .i64 l.b,.int .i64 l.q]
theorem aJ.len (l:aJ):l.cells.length=4:=rfl
theorem wN {w:World} {B b o n k:Nat} {l:List aJ} {r:aJ} (h:bD aJ.cells 4 w B (some ⟨b,o,none⟩) n l) (hr:l[k]?=some r):b<B∧
  w.cell? ⟨b,o+k*4,none⟩=some (.int .i64 r.a)∧w.cell? ⟨b,o+k*4+1,none⟩=some (.int .i64 r.p)∧w.cell? ⟨b,o+k*4+2,none⟩=some (.int .i64 r.b)∧w.cell? ⟨b,o+k*4+3,none⟩=some (.int .i64 r.q):=
 ⟨(h.get hr).1,(h.get hr).2 0 _ rfl,(h.get hr).2 1 _ rfl,(h.get hr).2 2 _ rfl,(h.get hr).2 3 _ rfl⟩
abbrev Pl:=Int×Int
def aJ.e1 (l:aJ):Pl:=(l.a,l.p)
def aJ.e2 (l:aJ):Pl:=(l.b,l.q)
def gF (x y:Pl):Bool:=(x.1 ==y.1) && (x.2 ==y.2)
def nM (w:World) (N:Nat) (a b:Int):Prop:=w.cell? ⟨N,0,none⟩=some (.int .i64 a)∧w.cell? ⟨N,1,none⟩=some (.int .i64 b)∧w.frozen? ⟨N,0,none⟩=false∧w.frozen? ⟨N,1,none⟩=false
theorem nM.below {w w':World} {B N:Nat} {a b:Int} (h:nM w N a b) (hB:Below B w w') (hN:N<B):nM w' N a b:=by
 have e:∀o,w'.cell? ⟨N,o,none⟩=w.cell? ⟨N,o,none⟩:=fun o=>hB.cell (p:=⟨N,o,none⟩) hN
 have f:∀o,w'.frozen? ⟨N,o,none⟩=w.frozen? ⟨N,o,none⟩:=fun o=>hB.frozen (p:=⟨N,o,none⟩) hN
 unfold nM
 rw[e,e,f,f]
 exact h
theorem nM.new (w:World) (a b:Int) (t:TypeId):nM (w.alloc (.cells #[.int .i64 a,.int .i64 b] t)) w.heap.size a b:=by
 have hbx:=heap_alloc_new w (.cells #[.int .i64 a,.int .i64 b] t)
 have f:∀o,(w.alloc (.cells #[.int .i64 a,.int .i64 b] t)).frozen? ⟨w.heap.size,o,none⟩=false:=fun o=>by unfold World.frozen?;rw[hbx];simp
 exact⟨by rw[cell_of_row _ _ _ _ _ _ hbx];rfl,by rw[cell_of_row _ _ _ _ _ _ hbx];rfl,f 0,f 1⟩
theorem bE (n m:Int) (W:World) (B:Bool) (h:(decide (0≤n) && decide (n<m))=B):Calls Tryd.prog 37 #[.int .i64 n,.int .i64 m] W fun e W'=>e= .returned (.bool B)∧W=W':=by
 cases h1:decide (0≤n)
 ·have e1:¬ 0≤n:=by simpa using h1
  have HF:=hide (show false=B by rw[← h,h1];rfl)
  clear h
  go_enter Tryd.func37,Tryd.ntmps37
  go_wp2
  go_ret
  exact⟨iE HF.out,rfl⟩
 ·have HF:=hide (show decide (n<m)=B by rw[← h,h1];rfl)
  clear h
  go_enter Tryd.func37,Tryd.ntmps37
  go_wp2
  go_ret
  exact⟨iE HF.out,rfl⟩
def dK (k:Int):Int:=if k ==1 then 1 else if k ==2 then 4 else if k ==3 then 2 else if k ==4 then 2 else if k ==5 then 2 else 0
theorem uo (k:Int) (W:World):Calls Tryd.prog 38 #[.int .i64 k] W fun e W'=>e= .returned (.int .i64 (dK k))∧W=W':=by
 cases h1:(k ==1)
 case true=>
  have HF:=hide (show dK k=1 from by simp[dK,h1])
  rw[HF.out]
  go_enter Tryd.func38,Tryd.ntmps38
  go_wp2
  go_ret
  exact⟨rfl,rfl⟩
 cases h2:(k ==2)
 case true=>
  have HF:=hide (show dK k=4 from by simp[dK,h1,h2])
  rw[HF.out]
  go_enter Tryd.func38,Tryd.ntmps38
  go_wp2
  go_ret
  exact⟨rfl,rfl⟩
 cases h3:(k ==3)
 case true=>
  have HF:=hide (show dK k=2 from by simp[dK,h1,h2,h3])
  rw[HF.out]
  go_enter Tryd.func38,Tryd.ntmps38
  go_wp2
  go_ret
  exact⟨rfl,rfl⟩
 cases h4:(k ==4)
 case true=>
  have HF:=hide (show dK k=2 from by simp[dK,h1,h2,h3,h4])
  rw[HF.out]
  go_enter Tryd.func38,Tryd.ntmps38
  go_wp2
  go_ret
  exact⟨rfl,rfl⟩
 cases h5:(k ==5)
 case true=>
  have HF:=hide (show dK k=2 from by simp[dK,h1,h2,h3,h4,h5])
  rw[HF.out]
  go_enter Tryd.func38,Tryd.ntmps38
  go_wp2
  go_ret
  exact⟨rfl,rfl⟩
 ·have HF:=hide (show dK k=0 from by simp[dK,h1,h2,h3,h4,h5])
  rw[HF.out]
  go_enter Tryd.func38,Tryd.ntmps38
  go_wp2
  go_ret
  exact⟨rfl,rfl⟩
open Go.ChangeAt Go.ChangeShapes Go.Deep Go.Joins Go.WideShapes
structure ah where
 name:ByteArray
 kind:Int
 addr:Int
 pool:Nat
 bA:Option Addr
 bn:Nat
 bc:Nat
 bs:List Int
 rA:Option Addr
 rn:Nat
 rc:Nat
 rs:List bN
 tA:Option Addr
 tn:Nat
 tc:Nat
 ts:List bf
structure Dev where
 name:ByteArray
 kind:Int
 addr:Int
 pool:Nat
 backs:List Int
 rules:List bN
 routes:List bf
def ah.dev (d:ah):Dev:=⟨d.name,d.kind,d.addr,d.pool,d.bs,d.rs,d.ts⟩
def ah.cells (d:ah):List Value:=[.string d.name,.int .i64 d.kind,.int .i64 d.addr,.int .u8 d.pool,.slice d.bA d.bn d.bc,.slice d.rA d.rn d.rc,.slice d.tA d.tn d.tc]
def ah.val (d:ah):Value:=.agg #[.string d.name,.int .i64 d.kind,.int .i64 d.addr,.int .u8 d.pool,.slice d.bA d.bn d.bc,.slice d.rA d.rn d.rc,.slice d.tA d.tn d.tc]
theorem ah.len (d:ah):d.cells.length=7:=rfl
theorem ah.one (d:ah):∀u∈d.cells,u.oneCell'=true:=by
 intro u hu
 simp only[ah.cells,List.mem_cons,List.not_mem_nil,or_false]at hu
 rcases hu with rfl | rfl | rfl | rfl | rfl | rfl | rfl<;>rfl
structure gL (w:World) (B:Nat) (d:ah):Prop where
 nm:d.name.size≤maxLen
 kd:bG d.kind
 ad:bG d.addr
 pl:d.pool<256
 bs:jg w B d.bA d.bn d.bs
 rs:mV w B d.rA d.rn d.rs
 ts:bD bf.cells 3 w B d.tA d.tn d.ts
 tok:∀r∈d.ts,r.ok
 cb:d.bn≤d.bc∧d.bc≤maxLen
 cr:d.rn≤d.rc∧d.rc≤maxLen
 ct:d.tn≤d.tc∧d.tc≤maxLen
theorem gL.below {w w':World} {B B':Nat} {d:ah} (h:gL w B d) (hB:RowKit.Below B w w') (hB':B≤B'):gL w' B' d:=
 ⟨h.nm,h.kd,h.ad,h.pl,h.bs.below hB hB',h.rs.below hB hB',h.ts.below hB hB',h.tok,h.cb,h.cr,h.ct⟩
structure fA where
 dA:Option Addr
 dn:Nat
 dc:Nat
 ds:List ah
 lA:Option Addr
 ln:Nat
 lc:Nat
 ls:List aJ
def fA.val (n:fA):Value:=.agg #[.slice n.dA n.dn n.dc,.slice n.lA n.ln n.lc]
def fA.l9 (n:fA):List Dev:=n.ds.map ah.dev
structure iW (w:World) (B:Nat) (n:fA):Prop where
 ds:bD ah.cells 7 w B n.dA n.dn n.ds
 wL:∀d∈n.ds,gL w B d
 ls:bD aJ.cells 4 w B n.lA n.ln n.ls
 rV:∀l∈n.ls,l.ok
 cd:n.dn≤n.dc∧n.dc≤maxLen
 cl:n.ln≤n.lc∧n.lc≤maxLen
theorem iW.below {w w':World} {B B':Nat} {n:fA} (h:iW w B n) (hB:RowKit.Below B w w') (hB':B≤B'):iW w' B' n:=
 ⟨h.ds.below hB hB',fun d hd=>(h.wL d hd).below hB hB',h.ls.below hB hB',h.rV,h.cd,h.cl⟩
theorem iW.uF {w:World} {B:Nat} {n:fA} (h:iW w B n):n.ds.length=n.dn:=h.ds.1
theorem iW.llen {w:World} {B:Nat} {n:fA} (h:iW w B n):n.ls.length=n.ln:=h.ls.1
theorem lV {w:World} {B b o n k:Nat} {l:List ah} {r:ah} (h:bD ah.cells 7 w B (some ⟨b,o,none⟩) n l) (hr:l[k]?=some r):b<B∧
  w.cell? ⟨b,o+k*7,none⟩=some (.string r.name)∧w.cell? ⟨b,o+k*7+1,none⟩=some (.int .i64 r.kind)∧w.cell? ⟨b,o+k*7+2,none⟩=some (.int .i64 r.addr)∧w.cell? ⟨b,o+k*7+3,none⟩=some (.int .u8 r.pool)∧
  w.cell? ⟨b,o+k*7+4,none⟩=some (.slice r.bA r.bn r.bc)∧w.cell? ⟨b,o+k*7+5,none⟩=some (.slice r.rA r.rn r.rc)∧w.cell? ⟨b,o+k*7+6,none⟩=some (.slice r.tA r.tn r.tc):=
 ⟨(h.get hr).1,(h.get hr).2 0 _ rfl,(h.get hr).2 1 _ rfl,(h.get hr).2 2 _ rfl,(h.get hr).2 3 _ rfl,(h.get hr).2 4 _ rfl,(h.get hr).2 5 _ rfl,(h.get hr).2 6 _ rfl⟩
section
variable {H:Type} {enc:TypeId×Value→H} {w:World} {base:Nat} {spare:Nat→Bool} {held:Bool} {r:Reach} {b0:Nat}
theorem Db:Tryd.prog.cellsOf 3=1:=by kernel_rfl
end
end Go.Proofs.YtifkacnoiocebaaDoor
namespace Go.Proofs.YtifkacnoiocebaaDoor
open vC Go.Maps Go.RowKit
theorem j5 (A:Option Addr) (n c:Nat) (W:World):Calls Tryd.prog 70 #[.slice A n c] W fun e W'=>e= .returned (.int .i64 (if 8<n then 2 else 0))∧W=W':=by
 by_cases h:8<n
 ·have h8:decide ((8:Int)<(n:Int))=true:=by simp;omega
  rw[if_pos h]
  go_enter Tryd.func70,Tryd.ntmps70
  go_wp2
  go_ret
  exact⟨rfl,rfl⟩
 ·have h8:decide ((8:Int)<(n:Int))=false:=by simp;omega
  rw[if_neg h]
  go_enter Tryd.func70,Tryd.ntmps70
  go_wp2
  go_ret
  exact⟨rfl,rfl⟩
theorem iC {w w':World} {base e s n:Nat} {v:Value} {xs:List Value} (h:w.ownsRow base e s v n xs) (hb:∀q,v.ownBlock=some q→w'.heap[q]?=w.heap[q]?):w'.ownsRow base e s v n xs:=by
 obtain⟨h1,h2⟩:=h
 refine⟨h1,?_⟩
 rcases h2 with h2 | ⟨g',cap',cur,hv,hb',hh,r⟩
 ·exact .inl h2
 ·subst hv
  exact .inr ⟨_,_,cur,rfl,hb',(hb g' rfl).trans hh,r⟩
theorem Tryd.infoInt:(Tryd.prog.info? 3).map (fun i=>(i.zero,i.size,i.bytes))=some (some (.int .i64 0),1,8):=by kernel_rfl
theorem uq (l:List Int) (b o n c:Nat) (x:Int) (W:World) (hn:n≤9223372036854775807) (hl:jg W W.heap.size (some ⟨b,o,none⟩) n l) (h0:0<n):
  Calls Tryd.prog 102 #[.slice (some ⟨b,o,none⟩) n c,.int .i64 x] W fun e W'=>e= .returned (.int .i64 (ig (fun y=>x ==y) l))∧RowKit.Below W.heap.size W W':=by
 have HL:=hide hl
 clear hl
 go_enter Tryd.func102,Tryd.ntmps102
 go_wp2
 go_loopw [8] (fun i wr=>∃k:Nat,k≤n∧i= .int .i64 k∧RowKit.Below W.heap.size W wr∧Hid (∀j y,j<k→l[j]?=some y→(x ==y)=false)) (fun i _=>n - (intOf i).toNat)
 case atStart=>exact⟨0,Nat.zero_le _,rfl,RowKit.Below.refl _ _,hide (fun j r h=>absurd h (by omega))⟩
 case round=>
  obtain⟨k,hk,rfl,hb,HN⟩:=hrel
  have HB:=hide hb
  by_cases hlt:k<n
  ·obtain⟨y,hy⟩:∃r,l[k]?=some r:=⟨_,List.getElem?_eq_getElem (by have:=HL.out.1;omega)⟩
   obtain⟨b',o',e,nA,hg⟩:=HL.out.2.2 (by omega)
   cases e
   have q0:=(hb.cell (p:=⟨b,o+k,none⟩) nA).trans (hg k y hy)
   have HY:=hide hy
   clear hb hg hy
   cases hxy:(x ==y)
   ·go_wp2
    go_roundw
    case rel=>exact⟨k+1,by omega,by go_num,HB.out,hide (fun j z hj hz=>by
     rcases(by omega:j<k∨j=k)with h | rfl
     ·exact HN.out j z h hz
     ·have e:=HY.out;rw[e]at hz;cases hz;exact hxy)⟩
    case measure=>simp[intOf];omega
   ·have HF:=hide (kR (p:=fun y=>x ==y) HY.out hxy HN.out)
    go_wp2
    go_ret
    exact⟨j6 HF.out.symm,HB.out⟩
  ·have HF:=hide (lS (p:=fun y=>x ==y) (l:=l) (fun j r hj hr=>HN.out j r (by have:=HL.out.1;omega) hr))
   go_wp2
   go_ret
   exact⟨j6 HF.out.symm,HB.out⟩
theorem yj (l:List Int) (A:Option Addr) (n c:Nat) (x:Int) (W:World) (hn:n≤9223372036854775807) (hl:jg W W.heap.size A n l) (hx:x∈l):
  Calls Tryd.prog 91 #[.slice A n c,.int .i64 x] W fun e W'=>e= .returned (.bool true)∧RowKit.Below W.heap.size W W':=by
 have h0:0<n:=by have:=List.length_pos_of_mem hx;have:=hl.1;omega
 obtain⟨b,o,rfl,_,_⟩:=hl.2.2 h0
 have HC:=hide (uq l b o n c x W hn hl h0)
 obtain⟨k,hk⟩:∃k:Nat,ig (fun y=>x ==y) l=k:=by
  rcases l6 (fun y=>x ==y) l with⟨k,r,hk,_⟩ | ⟨_,hno⟩
  ·exact⟨k,hk⟩
  ·have:=hno x hx;simp at this
 rw[hk]at HC
 clear hl hx hk
 go_enter Tryd.func91,Tryd.ntmps91
 go_wp2_with fail
 refine HC.out.mono ?_
 rintro e w1 ⟨rfl,hb⟩
 have HB:=hide hb
 clear hb
 go_wp2
 go_ret
 exact⟨rfl,HB.out⟩
theorem Bb (l:List Int) (A1 A2:Option Addr) (n c1 c2:Nat) (W:World) (hn:n≤9223372036854775807) (h1:jg W W.heap.size A1 n l) (h2:jg W W.heap.size A2 n l):
  Calls Tryd.prog 20 #[.slice A1 n c1,.slice A2 n c2] W fun e W'=>e= .returned (.bool true)∧RowKit.Below W.heap.size W W':=by
 have H1:=hide h1
 have H2:=hide h2
 clear h1 h2
 go_enter Tryd.func20,Tryd.ntmps20
 go_wp2
 go_loopw [13] (fun i wr=>∃k:Nat,k≤n∧i= .int .i64 k∧RowKit.Below W.heap.size W wr) (fun i _=>n - (intOf i).toNat)
 case atStart=>exact⟨0,Nat.zero_le _,rfl,RowKit.Below.refl _ _⟩
 case round=>
  obtain⟨k,hk,rfl,hb⟩:=hrel
  have HB:=hide hb
  by_cases hlt:k<n
  ·obtain⟨y,hy⟩:∃r,l[k]?=some r:=⟨_,List.getElem?_eq_getElem (by have:=H1.out.1;omega)⟩
   obtain⟨b,o,rfl,nA,hg⟩:=H1.out.2.2 (by omega)
   obtain⟨b',o',rfl,xI,hg'⟩:=H2.out.2.2 (by omega)
   have q0:=(hb.cell (p:=⟨b,o+k,none⟩) nA).trans (hg k y hy)
   have q1:=(hb.cell (p:=⟨b',o'+k,none⟩) xI).trans (hg' k y hy)
   clear hb hg hg' hy
   go_wp2
   go_quiet (fail)
   go_wp2
   go_roundw
   case rel=>exact⟨k+1,by omega,by go_num,HB.out.trans ⟨rfl,rfl,rfl,Nat.le_refl _,fun _ _=>rfl⟩⟩
   case measure=>simp[intOf];omega
  ·go_wp2
   go_ret
   exact⟨rfl,HB.out⟩
end Go.Proofs.YtifkacnoiocebaaDoor
namespace Go.Proofs.YtifkacnoiocebaaDoor
open Go.RowKit
theorem own_below {w w':World} {base e s n:Nat} {v:Value} {xs:List Value} (h:w.ownsRow base e s v n xs) (hb:RowKit.Below w.heap.size w w'):w'.ownsRow base e s v n xs:=
 iC h (fun q hq=>hb.block q (h.lt q hq).2)
theorem nU {B:Nat} {w w':World} {row:Option Nat} (hb:RowKit.Below B w w') (hB:B≤w.heap.size) {w'':World} (hg:w'.grownBy w'' row) (hr:∀k,row=some k→B≤k):RowKit.Below B w w'':=
 hb.grown hg (by have:=hb.size;omega) hr
open vC Go.Maps
end Go.Proofs.YtifkacnoiocebaaDoor
namespace Go.Proofs.YtifkacnoiocebaaDoor
open Go.RowKit
def gG (b:UInt8):Bool:=(decide (97≤b.toNat) && decide (b.toNat≤122)) || (decide (48≤b.toNat) && decide (b.toNat≤57))
def bT (s:ByteArray):Bool:=s.data.toList.all gG && decide (1≤s.size) && decide (s.size≤8)
def fI (addr:Int):List Int→List Int→Bool
 |_,[]=>true
 |pre,b::t=>decide (0≤b) && decide (b<16) && (b != addr) && !pre.contains b && fI addr (pre++[b]) t
def cu (d:Dev):Bool:=fI d.addr [] d.backs && ((decide (0<d.backs.length))==(d.kind ==5))
def lH (k:Int):Bool:=(k ==1) || (k ==4) || (k ==5)
def aX (d:Dev):Int:=
 if decide (d.kind<1) || decide (5<d.kind)then 1
 else if(lH d.kind && !(decide (0≤d.addr) && decide (d.addr<16))) || (!lH d.kind && (d.addr != 0)) || ((d.pool != 0) != (d.kind ==4))then 1
 else if decide (3<d.backs.length)then 2
 else if !cu d then 1
 else if(decide (0<d.rules.length) && (d.kind != 2) && (d.kind != 3)) || (decide (0<d.routes.length) && (d.kind != 2))then 1
 else if decide (8<d.rules.length)then 2
 else dH d.routes
theorem qB {addr:Int} {l:List Int} {k:Nat} {b:Int} (h:l[k]?=some b):fI addr (l.take k) (l.drop k)=(decide (0≤b) && decide (b<16) && (b != addr) && !(l.take k).contains b && fI addr (l.take (k+1)) (l.drop (k+1))):=by
 obtain⟨hk,e⟩:=List.getElem?_eq_some_iff.1 h
 rw[List.drop_eq_getElem_cons hk,e,List.take_succ_eq_append_getElem hk,e];rfl
theorem Bl {s:ByteArray} {b:UInt8} (hm:b∈s.data.toList) (h:gG b=false):bT s=false:=by
 have:s.data.toList.all gG=false:=by
  rw[List.all_eq_false]
  exact⟨b,hm,by simp[h]⟩
 simp[bT,this]
theorem Bn {s:ByteArray} {k:Nat} (hk:s.size≤k) (h:∀b∈s.data.toList.take k,gG b=true):bT s=(decide (1≤s.size) && decide (s.size≤8)):=by
 have:s.data.toList.all gG=true:=by
  rw[List.all_eq_true]
  rw[List.take_of_length_le (by simpa using hk)]at h
  exact h
 simp[bT,this]
theorem kV (s:ByteArray) (W:World) (hs:s.size≤maxLen):Calls Tryd.prog 33 #[.string s] W fun e W'=>e= .returned (.bool (bT s))∧W=W':=by
 unfold maxLen at hs
 go_enter Tryd.func33,Tryd.ntmps33
 go_wp2
 go_loop [7] (fun i=>∃k:Nat,k≤s.size∧i= .int .i64 k∧Hid (∀b∈s.data.toList.take k,gG b=true)) (fun i=>s.size - (intOf i).toNat)
 case atStart=>exact⟨0,Nat.zero_le _,rfl,hide (fun b hb=>by simp at hb)⟩
 case round=>
  obtain⟨k,hk,rfl,HN⟩:=hrel
  by_cases hlt:k<s.size
  ·have HT:=hide (show s.data.toList.take (k+1)=s.data.toList.take k++[s[k]]from by rw[List.take_succ_eq_append_getElem (by simpa using hlt)];rfl)
   have HM:=hide (show s[k]∈s.data.toList from List.getElem_mem (by simpa using hlt))
   go_wp2
   all_goals first
    |(go_round
      case rel=>exact⟨k+1,by omega,by go_num,hide (by
      intro b hb
      rw[HT.out,List.mem_append,List.mem_singleton]at hb
      rcases hb with hb | rfl
      ·exact HN.out b hb
      ·simp[gG];omega)⟩
      case measure=>simp[intOf];omega)
    |(go_ret
      exact⟨iE (Bl HM.out (by simp[gG];omega)).symm,rfl⟩)
  ·have HE:=hide (Bn (by omega) HN.out)
   cases h1:decide (1≤s.size)
   ·have h1':¬ 1≤s.size:=by simpa using h1
    go_wp2
    go_ret
    exact⟨iE (by rw[HE.out,h1];rfl),rfl⟩
   ·have h1':1≤s.size:=by simpa using h1
    by_cases h2:s.size≤8
    ·have HF:=hide (show bT s=true from by rw[HE.out,h1];simpa using h2)
     clear h1
     go_wp2
     go_ret
     exact⟨iE (by rw[HF.out];simp<;>omega),rfl⟩
    ·have HF:=hide (show bT s=false from by rw[HE.out,h1];simpa using h2)
     clear h1
     go_wp2
     go_ret
     exact⟨iE (by rw[HF.out];simp<;>omega),rfl⟩
theorem Bo (A:Option Addr) (c:Nat) (x:Int) (W:World):Calls Tryd.prog 102 #[.slice A 0 c,.int .i64 x] W fun e W'=>e= .returned (.int .i64 (-1))∧W=W':=by
 go_enter Tryd.func102,Tryd.ntmps102
 go_wp2
 refine wp_loop_rounds 1 ?_
 rw[rounds_succ]
 go_wp2
 go_ret
 exact⟨rfl,rfl⟩
theorem yZ (l:List Int) (A:Option Addr) (n c:Nat) (x:Int) (W:World) (hn:n≤9223372036854775807) (hl:jg W W.heap.size A n l):
  Calls Tryd.prog 91 #[.slice A n c,.int .i64 x] W fun e W'=>e= .returned (.bool (l.contains x))∧RowKit.Below W.heap.size W W':=by
 by_cases hx:x∈l
 ·have:l.contains x=true:=by simpa using hx
  rw[this]
  exact yj l A n c x W hn hl hx
 ·have hc:l.contains x=false:=by simpa using hx
  rw[hc]
  rcases Nat.eq_zero_or_pos n with rfl | h0
  ·go_enter Tryd.func91,Tryd.ntmps91
   go_wp2_with fail
   refine(Bo _ _ _ _).mono ?_
   rintro e w1 ⟨rfl,rfl⟩
   go_wp2
   go_ret
   exact⟨rfl,RowKit.Below.refl _ _⟩
  ·obtain⟨b,o,rfl,_,_⟩:=hl.2.2 h0
   have HC:=hide (uq l b o n c x W hn hl h0)
   have:ig (fun y=>x ==y) l= -1:=by
    rcases l6 (fun y=>x ==y) l with⟨k,r,hk,_,hr,hy,_⟩ | ⟨hk,_⟩
    ·have e:x=r:=by simpa using hy
     exact absurd (e▸List.mem_of_getElem? hr) hx
    ·exact hk
   rw[this]at HC
   clear hl hx hc
   go_enter Tryd.func91,Tryd.ntmps91
   go_wp2_with fail
   refine HC.out.mono ?_
   rintro e w1 ⟨rfl,hb⟩
   have HB:=hide hb
   clear hb
   go_wp2
   go_ret
   exact⟨rfl,HB.out⟩
theorem jg.take {w:World} {B n:Nat} {A:Option Addr} {l:List Int} (h:jg w B A n l) {k:Nat} (hk:k≤n):jg w B A k (l.take k):=
 ⟨by rw[List.length_take,h.1];omega,fun x hx=>h.2.1 x (List.mem_of_mem_take hx),fun h0=>by
  obtain⟨b,o,e,hb,hg⟩:=h.2.2 (by omega)
  refine⟨b,o,e,hb,fun j x hj=>hg j x ?_⟩
  have hjk:j<k:=by have:=(List.getElem?_eq_some_iff.1 hj).1;simp at this;omega
  rwa [List.getElem?_take_of_lt hjk]at hj⟩
def fP (w:World) (N:Nat) (d:ah):Prop:=
 w.cell? ⟨N,0,none⟩=some (.string d.name)∧w.cell? ⟨N,1,none⟩=some (.int .i64 d.kind)∧w.cell? ⟨N,2,none⟩=some (.int .i64 d.addr)∧w.cell? ⟨N,3,none⟩=some (.int .u8 d.pool)∧
 w.cell? ⟨N,4,none⟩=some (.slice d.bA d.bn d.bc)∧w.cell? ⟨N,5,none⟩=some (.slice d.rA d.rn d.rc)∧w.cell? ⟨N,6,none⟩=some (.slice d.tA d.tn d.tc)
theorem fP.below {w w':World} {B N:Nat} {d:ah} (h:fP w N d) (hB:RowKit.Below B w w') (hN:N<B):fP w' N d:=by
 have e:∀o,w'.cell? ⟨N,o,none⟩=w.cell? ⟨N,o,none⟩:=fun o=>hB.cell (p:=⟨N,o,none⟩) hN
 unfold fP
 rw[e,e,e,e,e,e,e]
 exact h
theorem fP.new (w:World) (d:ah) (t:TypeId):fP (w.alloc (.cells #[.string d.name,.int .i64 d.kind,.int .i64 d.addr,.int .u8 d.pool,.slice d.bA d.bn d.bc,.slice d.rA d.rn d.rc,.slice d.tA d.tn d.tc] t)) w.heap.size d:=by
 have hbx:=heap_alloc_new w (.cells #[.string d.name,.int .i64 d.kind,.int .i64 d.addr,.int .u8 d.pool,.slice d.bA d.bn d.bc,.slice d.rA d.rn d.rc,.slice d.tA d.tn d.tc] t)
 refine⟨?_,?_,?_,?_,?_,?_,?_⟩<;>(rw[cell_of_row _ _ _ _ _ _ hbx];rfl)
theorem z8 (d:ah) (W:World) (hd:gL W W.heap.size d):
  Calls Tryd.prog 69 #[d.val] W fun e W'=>e= .returned (.bool (cu d.dev))∧RowKit.Below W.heap.size W W':=by
 obtain⟨W0,hW0⟩:∃W0,W0=W.alloc (.cells #[.string d.name,.int .i64 d.kind,.int .i64 d.addr,.int .u8 d.pool,.slice d.bA d.bn d.bc,.slice d.rA d.rn d.rc,.slice d.tA d.tn d.tc] 37):=⟨_,rfl⟩
 have HB0:=hide (show RowKit.Below W.heap.size W W0 from by rw[hW0];exact(RowKit.Below.refl _ _).alloc (Nat.le_refl _) _)
 have jB:=hide (show W0.heap.size=W.heap.size+1 from by rw[hW0];simp)
 have HQ:=hide (fun(w':World) (hb:RowKit.Below W0.heap.size W0 w')=>show fP w' W.heap.size d∧jg w' w'.heap.size d.bA d.bn d.bs∧RowKit.Below W.heap.size W w' from by
  have h1:=HB0.out.trans (hb.mono (by rw[jB.out];omega))
  exact⟨(show fP W0 W.heap.size d from by rw[hW0];exact fP.new W d _).below hb (by rw[jB.out];omega),hd.bs.below h1 h1.size,h1⟩)
 have HLEN:=hide (show d.bs.length=d.bn from hd.bs.1)
 have hbc:d.bn≤d.bc:=hd.cb.1
 have kr:d.bc≤maxLen:=hd.cb.2
 have kr:d.bc≤9223372036854775807:=by unfold maxLen at kr;omega
 have HI:=hide hd.bs.2.1
 have HD:=hide (show cu d.dev=(fI d.addr [] d.bs && ((decide (0<d.bs.length))==(d.kind ==5)))from rfl)
 generalize d.dev=dv at*
 clear hd
 obtain⟨nm,kd,ad,pl,bA,bn,bc,bs,rA,rn,rc,rs,tA,tn,tc,ts⟩:=d
 simp only[ah.val]at*
 obtain⟨x0,x1,x2,x3,x4,x5,x6⟩:=(HQ.out W0 (RowKit.Below.refl _ _)).1
 go_enter Tryd.func69,Tryd.ntmps69
 go_wp2
 rw[← hW0]
 go_loopw [8] (fun i wr=>∃k:Nat,k≤bn∧i= .int .i64 k∧Hid (fI ad [] bs=fI ad (bs.take k) (bs.drop k))∧Hid (RowKit.Below W0.heap.size W0 wr)) (fun i _=>bn - (intOf i).toNat)
 case atStart=>exact⟨0,Nat.zero_le _,rfl,hide rfl,hide (RowKit.Below.refl _ _)⟩
 case round=>
  clear x0 x1 x2 x3 x4 x5 x6
  obtain⟨k,hk,rfl,HC,HB⟩:=hrel
  obtain⟨wH,hints,hbW⟩:=HQ.out wr HB.out
  obtain⟨x0,x1,x2,x3,x4,x5,x6⟩:=wH
  have aV:=hide hbW
  by_cases hlt:k<bn
  ·obtain⟨b,hb⟩:∃r,bs[k]?=some r:=⟨_,List.getElem?_eq_getElem (by have:=HLEN.out;omega)⟩
   have HS:=hide (qB (addr:=ad) hb)
   obtain⟨hb1,hb2⟩:=HI.out b (List.mem_of_getElem? hb)
   obtain⟨bb,oo,rfl,nA,hg⟩:=hints.2.2 (by omega)
   have q0:=hg k b hb
   have Gi:=hide (hints.take (k:=k) (by omega))
   have g1:(k:Int)≤(bc:Int):=by omega
   clear hb hg hints hbW
   cases e1:(decide (0≤b) && decide (b<16))
   ·go_wp2_with fail
    refine(bE b 16 _ false e1).mono ?_
    rintro e w1 ⟨rfl,rfl⟩
    have HF:=hide (show cu dv=false from by rw[HD.out,HC.out,HS.out,e1];rfl)
    go_wp2
    go_ret
    exact⟨iE HF.out.symm,aV.out⟩
   have wI:=hide e1
   go_wp2_with fail
   refine(bE b 16 _ true e1).mono ?_
   rintro e w1 ⟨rfl,rfl⟩
   clear e1
   cases e2:(b ==ad)
   case true=>
    have HF:=hide (show cu dv=false from by rw[HD.out,HC.out,HS.out];simp[show b=ad by simpa using e2])
    go_wp2
    go_ret
    exact⟨iE HF.out.symm,aV.out⟩
   have HE2:=hide (show(b != ad)=true from by simp[bne,e2])
   go_wp2_with fail
   refine(yZ (bs.take k) (some ⟨bb,oo,none⟩) k bc b wr (by omega) Gi.out).mono ?_
   rintro e w1 ⟨rfl,hb⟩
   have HB1:=hide (HB.out.trans (hb.mono HB.out.size))
   have FB:=hide (aV.out.trans (hb.mono aV.out.size))
   clear hb
   cases e3:(bs.take k).contains b
   case true=>
    have HF:=hide (show cu dv=false from by rw[HD.out,HC.out,HS.out,e3];simp)
    go_wp2
    go_ret
    exact⟨iE HF.out.symm,FB.out⟩
   have HN:=hide (show fI ad [] bs=fI ad (bs.take (k+1)) (bs.drop (k+1))from by rw[HC.out,HS.out,wI.out,HE2.out,e3];simp)
   go_wp2
   go_roundw
   case rel=>exact⟨k+1,by omega,by go_num,HN,HB1⟩
   case measure=>simp[intOf];omega
  ·have hk':k=bn:=by omega
   have HN:=hide (show cu dv=((decide (0<bn))==(kd ==5))from by
    rw[HD.out,HC.out,List.drop_of_length_le (by have:=HLEN.out;omega),HLEN.out];rfl)
   cases e1:decide (0<bn)
   ·have oK:¬ 0<bn:=by simpa using e1
    obtain rfl:bn=0:=by omega
    cases e2:(kd ==5)
    all_goals
     go_wp2
     go_ret
     exact⟨iE (by rw[HN.out,e2];rfl),aV.out⟩
   ·have oK:0<bn:=by simpa using e1
    have HE:=hide e1
    clear e1
    cases e2:(kd ==5)
    all_goals
     go_wp2
     go_ret
     exact⟨iE (by rw[HN.out,e2,HE.out];rfl),aV.out⟩
end Go.Proofs.YtifkacnoiocebaaDoor
