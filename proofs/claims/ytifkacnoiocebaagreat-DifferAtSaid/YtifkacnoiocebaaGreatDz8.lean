/- A part of the proof: Devs, NetDev, NetBacks. -/
import Derived.Test.YtifkacnoiocebaaGreatDz6
import Derived.Test.YtifkacnoiocebaaGreatDz7
set_option linter.unusedVariables false
set_option linter.unusedSimpArgs false
set_option maxRecDepth 100000
set_option maxHeartbeats 8000000
namespace Go.Proofs.YtifkacnoiocebaaGreat
open Go.ChangeAt Go.ChangeShapes Go.Deep Go.Joins Go.RowKit Go.WideShapes
structure ak where
 name:ByteArray
 kind:Int
 addr:Int
 pool:Nat
 bA:Option Addr
 bn:Nat
 bc:Nat
 bs:List Int
 rA:Option Addr
 rn:Nat
 rc:Nat
 rs:List bg
 tA:Option Addr
 tn:Nat
 tc:Nat
 ts:List aG
structure Dev where
 name:ByteArray
 kind:Int
 addr:Int
 pool:Nat
 backs:List Int
 rules:List bg
 routes:List aG
def ak.dev (d:ak):Dev:=⟨d.name,d.kind,d.addr,d.pool,d.bs,d.rs,d.ts⟩
def ak.cells (d:ak):List Value:=[.string d.name,.int .i64 d.kind,.int .i64 d.addr,.int .u8 d.pool,.slice d.bA d.bn d.bc,.slice d.rA d.rn d.rc,.slice d.tA d.tn d.tc]
def ak.val (d:ak):Value:=.agg #[.string d.name,.int .i64 d.kind,.int .i64 d.addr,.int .u8 d.pool,.slice d.bA d.bn d.bc,.slice d.rA d.rn d.rc,.slice d.tA d.tn d.tc]
theorem ak.len (d:ak):d.cells.length=7:=rfl
theorem ak.one (d:ak):∀u∈d.cells,u.oneCell'=true:=by
 intro u hu
 simp only[ak.cells,List.mem_cons,List.not_mem_nil,or_false]at hu
 rcases hu with rfl | rfl | rfl | rfl | rfl | rfl | rfl<;>rfl
structure bW (w:World) (B:Nat) (d:ak):Prop where
 nm:d.name.size≤maxLen
 kd:aO d.kind
 ad:aO d.addr
 pl:d.pool<256
 bs:cu w B d.bA d.bn d.bs
 rs:gG w B d.rA d.rn d.rs
 ts:bD aG.cells 3 w B d.tA d.tn d.ts
 tok:∀r∈d.ts,r.ok
 cb:d.bn≤d.bc∧d.bc≤maxLen
 cr:d.rn≤d.rc∧d.rc≤maxLen
 ct:d.tn≤d.tc∧d.tc≤maxLen
theorem bW.below {w w':World} {B B':Nat} {d:ak} (h:bW w B d) (hB:RowKit.Below B w w') (hB':B≤B'):bW w' B' d:=
 ⟨h.nm,h.kd,h.ad,h.pl,h.bs.below hB hB',h.rs.below hB hB',h.ts.below hB hB',h.tok,h.cb,h.cr,h.ct⟩
structure aC where
 dA:Option Addr
 dn:Nat
 dc:Nat
 ds:List ak
 lA:Option Addr
 ln:Nat
 lc:Nat
 ls:List ah
def aC.val (n:aC):Value:=.agg #[.slice n.dA n.dn n.dc,.slice n.lA n.ln n.lc]
def aC.au (n:aC):List Dev:=n.ds.map ak.dev
structure bq (w:World) (B:Nat) (n:aC):Prop where
 ds:bD ak.cells 7 w B n.dA n.dn n.ds
 qW:∀d∈n.ds,bW w B d
 ls:bD ah.cells 4 w B n.lA n.ln n.ls
 L6:∀l∈n.ls,l.ok
 cd:n.dn≤n.dc∧n.dc≤maxLen
 cl:n.ln≤n.lc∧n.lc≤maxLen
theorem bq.below {w w':World} {B B':Nat} {n:aC} (h:bq w B n) (hB:RowKit.Below B w w') (hB':B≤B'):bq w' B' n:=
 ⟨h.ds.below hB hB',fun d hd=>(h.qW d hd).below hB hB',h.ls.below hB hB',h.L6,h.cd,h.cl⟩
theorem bq.iK {w:World} {B:Nat} {n:aC} (h:bq w B n):n.ds.length=n.dn:=h.ds.1
theorem bq.llen {w:World} {B:Nat} {n:aC} (h:bq w B n):n.ls.length=n.ln:=h.ls.1
theorem fP {w:World} {B b o n k:Nat} {l:List ak} {r:ak} (h:bD ak.cells 7 w B (some ⟨b,o,none⟩) n l) (hr:l[k]?=some r):b<B∧
  w.cell? ⟨b,o+k*7,none⟩=some (.string r.name)∧w.cell? ⟨b,o+k*7+1,none⟩=some (.int .i64 r.kind)∧w.cell? ⟨b,o+k*7+2,none⟩=some (.int .i64 r.addr)∧w.cell? ⟨b,o+k*7+3,none⟩=some (.int .u8 r.pool)∧
  w.cell? ⟨b,o+k*7+4,none⟩=some (.slice r.bA r.bn r.bc)∧w.cell? ⟨b,o+k*7+5,none⟩=some (.slice r.rA r.rn r.rc)∧w.cell? ⟨b,o+k*7+6,none⟩=some (.slice r.tA r.tn r.tc):=
 ⟨(h.get hr).1,(h.get hr).2 0 _ rfl,(h.get hr).2 1 _ rfl,(h.get hr).2 2 _ rfl,(h.get hr).2 3 _ rfl,(h.get hr).2 4 _ rfl,(h.get hr).2 5 _ rfl,(h.get hr).2 6 _ rfl⟩
section
variable {H:Type} {enc:TypeId×Value→H} {w:World} {base:Nat} {spare:Nat→Bool} {held:Bool} {r:Reach} {b0:Nat}
theorem tO {α:Type} {P:Program} (cells:α→List Value) (ok:α→Prop) (s:Nat) {t e:TypeId} (ht:P.underlying t=some (.slice e)) (hC:P.cellsOf e=s) (hs:0<s) (hlen:∀r,(cells r).length =s)
  (helem:∀(n:Nat) (cs:List Value) (y:DataW H×List MemPlace),DataW.trod enc P w base spare held n e cs=some y→∃r,ok r∧cs=cells r)
  {fuel:Nat} {cs:List Value} {y:DataW H×List MemPlace} (hf:DataW.trod enc P w base spare held fuel t cs=some y):
  ∃(A:Option Addr) (n c:Nat) (l:List α),cs=[.slice A n c]∧n≤c∧c≤maxLen∧bD cells s w w.heap.size A n l∧(∀r∈l,ok r):=by
 obtain⟨d,p⟩:=y
 rcases open_slice ht hf with⟨hcs,hx⟩ | ⟨a,Pf,cap0,m,n,D,Pl,hcs,hb,hl,hm,hmm,hx,hi⟩
 ·exact⟨none,0,0,[],hcs,Nat.le_refl _,Nat.zero_le _,⟨rfl,fun h=>absurd h (by omega)⟩,(fun r hr=>by simp at hr)⟩
 ·have hlm:Pf≤m:=by rw[hmm];split<;>omega
  have hex:∀i:Fin Pf,∃x,ok x∧∀j u,(cells x)[j]?=some u→w.cell? (a.add (i.val*s+j))=some u:=fun i=>by
   obtain⟨cs',hc,ht'⟩:=hi i.val (by omega)
   obtain⟨x,hx1,rfl⟩:=helem n cs' _ ht'
   obtain⟨_,hcl,hat⟩:=World.cells?_some hc
   refine⟨x,hx1,fun j u hu=>?_⟩
   have hj:=(List.getElem?_eq_some_iff.1 hu).1
   rw[hC]at hat
   have:=hat j (by rw[← hlen x];exact hj)
   rw[hu]at this
   rw[← Go.Deep.add_add]
   exact this
  let f:Fin Pf→α:=fun i=>Classical.choose (hex i)
  have hfs:∀i,ok (f i)∧∀j u,(cells (f i))[j]?=some u→w.cell? (a.add (i.val*s+j))=some u:=fun i=>Classical.choose_spec (hex i)
  refine⟨some a,Pf,cap0,List.ofFn f,hcs,hl,hm,⟨by simp,fun h0=>?_⟩,?_⟩
  ·have h1:=(hfs ⟨0,h0⟩).2 0 ((cells (f ⟨0,h0⟩))[0]'(by rw[hlen];exact hs)) (List.getElem?_eq_getElem _)
   have ha:a=⟨a.block,a.off,none⟩:=by
    have h2:a.add (0*s+0)=a:=by simp[Addr.add]
    rw[h2]at h1
    unfold World.cell? at h1
    split at h1
    ·split at h1
     ·cases h1
     ·rename_i hsp
      cases a with | mk b o sp=>cases sp<;>simp_all
    ·cases h1
   have hblk:a.block<w.heap.size:=by
    have:=World.block_lt_of_cell? w _ h1
    simpa[Addr.add]using this
   refine⟨a.block,a.off,by rw[← ha],hblk,fun k x hk j u hu=>?_⟩
   have hk':=(List.getElem?_eq_some_iff.1 hk).1
   simp only[List.length_ofFn]at hk'
   have hx':x=f ⟨k,hk'⟩:=by
    rw[List.getElem?_ofFn]at hk
    simp only[hk',dif_pos,Option.some.injEq]at hk
    exact hk.symm
   subst hx'
   have:=(hfs ⟨k,hk'⟩).2 j u hu
   rw[ha,addr_add]at this
   rw[Nat.add_assoc]
   exact this
  ·intro x hx
   obtain⟨i,rfl⟩:=List.mem_ofFn.1 hx
   exact(hfs i).1
theorem bD.ints {B n:Nat} {A:Option Addr} {l:List Int} (h:bD (fun k=>[Value.int .i64 k]) 1 w B A n l) (hok:∀k∈l,aO k):cu w B A n l:=
 ⟨h.1,hok,fun h0=>by
  obtain⟨b,o,e,hb,hg⟩:=h.2 h0
  exact⟨b,o,e,hb,fun k x hx=>by have:=hg k x hx 0 _ rfl;rwa [Nat.mul_one,Nat.add_zero]at this⟩⟩
theorem Cj:Tryz.prog.cellsOf 3=1:=by kernel_rfl
theorem XG:Tryz.prog.cellsOf 9=1:=by kernel_rfl
theorem XH:Tryz.prog.cellsOf 5=1:=by kernel_rfl
theorem Uv:Tryz.prog.cellsOf 55=1:=by kernel_rfl
theorem Uw:Tryz.prog.cellsOf 78=1:=by kernel_rfl
theorem Ux:Tryz.prog.cellsOf 79=1:=by kernel_rfl
theorem Tryz.cellsDevice:Tryz.prog.cellsOf 81=7:=by kernel_rfl
theorem Tryz.cellsLink:Tryz.prog.cellsOf 85=4:=by kernel_rfl
theorem RU {n:Nat} {cs:List Value} {y:DataW H×List MemPlace} (h:DataW.trod enc Tryz.prog w base spare held n 55 cs=some y):∃(A:Option Addr) (m c:Nat) (l:List Int),cs=[.slice A m c]∧m≤c∧c≤maxLen∧cu w w.heap.size A m l:=by
 obtain⟨A,m,c,l,e,h1,h2,h3,h4⟩:=tO (fun k=>[Value.int .i64 k]) aO 1 Tryz.underlying55 Cj (by omega) (fun _=>rfl) (fun _ _ _ h=>R5 h) h
 exact⟨A,m,c,l,e,h1,h2,h3.ints h4⟩
theorem Pg {n:Nat} {cs:List Value} {y:DataW H×List MemPlace} (h:DataW.trod enc Tryz.prog w base spare held n 78 cs=some y):∃(A:Option Addr) (m c:Nat) (l:List bg),cs=[.slice A m c]∧m≤c∧c≤maxLen∧gG w w.heap.size A m l:=by
 obtain⟨A,m,c,l,e,h1,h2,h3,h4⟩:=tO bg.cells bg.ok 5 Tryz.underlying78 Tryz.cellsRule (by omega) bg.len (fun _ _ _ h=>Po h) h
 exact⟨A,m,c,l,e,h1,h2,h3.rules h4⟩
theorem LJ {n:Nat} {cs:List Value} {y:DataW H×List MemPlace} (h:DataW.trod enc Tryz.prog w base spare held n 79 cs=some y):
  ∃(A:Option Addr) (m c:Nat) (l:List aG),cs=[.slice A m c]∧m≤c∧c≤maxLen∧bD aG.cells 3 w w.heap.size A m l∧∀r∈l,r.ok:=
 tO aG.cells aG.ok 3 Tryz.underlying79 Tryz.cellsRoute (by omega) aG.len (fun _ _ _ h=>NP h) h
theorem RV {n:Nat} {cs:List Value} {y:DataW H×List MemPlace} (h:DataW.trod enc Tryz.prog w base spare held n 85 cs=some y):∃l:ah,l.ok∧cs=l.cells:=by
 obtain⟨xs,n',_,_,hlen,hxl,hf⟩:=DataW.trod_struct Tryz.underlying85 h
 rw[Tryz.cellsLink]at hlen
 match cs,hlen with
 |[c0,c1,c2,c3],_=>
  have h0:=hf 0 _ rfl
  have h1:=hf 1 _ rfl
  have h2:=hf 2 _ rfl
  have h3:=hf 3 _ rfl
  obtain⟨y0,e0⟩:=get_some (xs:=xs) (i:=0) (by rw[hxl];decide)
  obtain⟨y1,e1⟩:=get_some (xs:=xs) (i:=1) (by rw[hxl];decide)
  obtain⟨y2,e2⟩:=get_some (xs:=xs) (i:=2) (by rw[hxl];decide)
  obtain⟨y3,e3⟩:=get_some (xs:=xs) (i:=3) (by rw[hxl];decide)
  rw[e0]at h0
  rw[e1]at h1
  rw[e2]at h2
  rw[e3]at h3
  simp[Cj]at h0 h1 h2 h3
  obtain⟨a,rfl,ha⟩:=ny h0
  obtain⟨b,rfl,hb⟩:=ny h1
  obtain⟨c,rfl,hc⟩:=ny h2
  obtain⟨d,rfl,hd⟩:=ny h3
  exact⟨⟨a,b,c,d⟩,⟨ha,hb,hc,hd⟩,rfl⟩
theorem LK {n:Nat} {cs:List Value} {y:DataW H×List MemPlace} (h:DataW.trod enc Tryz.prog w base spare held n 81 cs=some y):∃d:ak,bW w w.heap.size d∧cs=d.cells:=by
 obtain⟨xs,n',_,_,hlen,hxl,hf⟩:=DataW.trod_struct Tryz.underlying81 h
 rw[Tryz.cellsDevice]at hlen
 match cs,hlen with
 |[c0,c1,c2,c3,c4,c5,c6],_=>
  have h0:=hf 0 _ rfl
  have h1:=hf 1 _ rfl
  have h2:=hf 2 _ rfl
  have h3:=hf 3 _ rfl
  have h4:=hf 4 _ rfl
  have h5:=hf 5 _ rfl
  have h6:=hf 6 _ rfl
  obtain⟨y0,e0⟩:=get_some (xs:=xs) (i:=0) (by rw[hxl];decide)
  obtain⟨y1,e1⟩:=get_some (xs:=xs) (i:=1) (by rw[hxl];decide)
  obtain⟨y2,e2⟩:=get_some (xs:=xs) (i:=2) (by rw[hxl];decide)
  obtain⟨y3,e3⟩:=get_some (xs:=xs) (i:=3) (by rw[hxl];decide)
  obtain⟨y4,e4⟩:=get_some (xs:=xs) (i:=4) (by rw[hxl];decide)
  obtain⟨y5,e5⟩:=get_some (xs:=xs) (i:=5) (by rw[hxl];decide)
  obtain⟨y6,e6⟩:=get_some (xs:=xs) (i:=6) (by rw[hxl];decide)
  rw[e0]at h0
  rw[e1]at h1
  rw[e2]at h2
  rw[e3]at h3
  rw[e4]at h4
  rw[e5]at h5
  rw[e6]at h6
  simp[Cj,XG,XH,Uv,Uw,Ux]at h0 h1 h2 h3 h4 h5 h6
  obtain⟨s,hs,_,hsz⟩:=DataW.trod_string Tryz.underlying9 h0
  cases hs
  obtain⟨a,rfl,ha⟩:=ny h1
  obtain⟨b,rfl,hb⟩:=ny h2
  obtain⟨c,rfl,hc⟩:=FX h3
  obtain⟨A1,m1,k1,l1,f1,p1,q1,r1⟩:=RU h4
  obtain⟨A2,m2,k2,l2,f2,p2,q2,r2⟩:=Pg h5
  obtain⟨A3,m3,k3,l3,f3,p3,q3,r3,r4⟩:=LJ h6
  cases f1
  cases f2
  cases f3
  exact⟨⟨s,a,b,c,A1,m1,k1,l1,A2,m2,k2,l2,A3,m3,k3,l3⟩,⟨hsz,ha,hb,hc,r1,r2,r3,r4,⟨p1,q1⟩,⟨p2,q2⟩,⟨p3,q3⟩⟩,rfl⟩
theorem Uy:Tryz.prog.cellsOf 22=1:=by kernel_rfl
theorem Uz:Tryz.prog.cellsOf 23=1:=by kernel_rfl
theorem Tryz.cellsNet:Tryz.prog.cellsOf 25=2:=by kernel_rfl
theorem KM {v:Value} {d:DataW H} {p:List MemPlace} (hv:Value.okWide Tryz.prog w r b0 25 v) (h:DataW.Trod enc Tryz.prog w base spare held 25 v d p):∃n:aC,bq w w.heap.size n∧v=n.val:=by
 obtain⟨cs,rfl,hsz⟩:=okWide_struct Tryz.underlying25 hv
 obtain⟨fuel,hf⟩:=h
 obtain⟨xs,n',_,_,hlen,hxl,hf⟩:=DataW.trod_struct (cs:=cs.toList) Tryz.underlying25 hf
 rw[Tryz.cellsNet]at hlen
 obtain⟨c0,c1,hcs⟩:∃c0 c1,cs.toList=[c0,c1]:=by
  match h:cs.toList,hlen with
  |[c0,c1],_=>exact⟨c0,c1,rfl⟩
 rw[hcs]at hf
 have h0:=hf 0 _ rfl
 have h1:=hf 1 _ rfl
 obtain⟨y0,e0⟩:=get_some (xs:=xs) (i:=0) (by rw[hxl];decide)
 obtain⟨y1,e1⟩:=get_some (xs:=xs) (i:=1) (by rw[hxl];decide)
 rw[e0]at h0
 rw[e1]at h1
 simp[Uy,Uz]at h0 h1
 obtain⟨A1,m1,k1,l1,f1,p1,q1,r1,s1⟩:=tO ak.cells (bW w w.heap.size) 7 Tryz.underlying22 Tryz.cellsDevice (by omega) ak.len (fun _ _ _ h=>LK h) h0
 obtain⟨A2,m2,k2,l2,f2,p2,q2,r2,s2⟩:=tO ah.cells ah.ok 4 Tryz.underlying23 Tryz.cellsLink (by omega) ah.len (fun _ _ _ h=>RV h) h1
 cases f1
 cases f2
 refine⟨⟨A1,m1,k1,l1,A2,m2,k2,l2⟩,⟨r1,s1,r2,s2,⟨p1,q1⟩,⟨p2,q2⟩⟩,?_⟩
 have:cs=#[.slice A1 m1 k1,.slice A2 m2 k2]:=Pm hcs
 rw[this]
 rfl
end
end Go.Proofs.YtifkacnoiocebaaGreat
namespace Go.Proofs.YtifkacnoiocebaaGreat
open Go.RowKit
def iL (b:UInt8):Bool:=(decide (97≤b.toNat) && decide (b.toNat≤122)) || (decide (48≤b.toNat) && decide (b.toNat≤57))
def lJ (s:ByteArray):Bool:=s.data.toList.all iL && decide (1≤s.size) && decide (s.size≤8)
def gJ (addr:Int):List Int→List Int→Bool
 |_,[]=>true
 |pre,b::t=>decide (0≤b) && decide (b<16) && (b != addr) && !pre.contains b && gJ addr (pre++[b]) t
def bQ (d:Dev):Bool:=gJ d.addr [] d.backs && ((decide (0<d.backs.length))==(d.kind ==5))
def jV (k:Int):Bool:=(k ==1) || (k ==4) || (k ==5)
def aS (d:Dev):Int:=
 if decide (d.kind<1) || decide (5<d.kind)then 1
 else if(jV d.kind && !(decide (0≤d.addr) && decide (d.addr<16))) || (!jV d.kind && (d.addr != 0)) || ((d.pool != 0) != (d.kind ==4))then 1
 else if decide (3<d.backs.length)then 2
 else if !bQ d then 1
 else if(decide (0<d.rules.length) && (d.kind != 2) && (d.kind != 3)) || (decide (0<d.routes.length) && (d.kind != 2))then 1
 else if decide (8<d.rules.length)then 2
 else cB d.routes
theorem AX {addr:Int} {l:List Int} {k:Nat} {b:Int} (h:l[k]?=some b):gJ addr (l.take k) (l.drop k)=(decide (0≤b) && decide (b<16) && (b != addr) && !(l.take k).contains b && gJ addr (l.take (k+1)) (l.drop (k+1))):=by
 obtain⟨hk,e⟩:=List.getElem?_eq_some_iff.1 h
 rw[List.drop_eq_getElem_cons hk,e,List.take_succ_eq_append_getElem hk,e];rfl
theorem RX {s:ByteArray} {b:UInt8} (hm:b∈s.data.toList) (h:iL b=false):lJ s=false:=by
 have:s.data.toList.all iL=false:=by
  rw[List.all_eq_false]
  exact⟨b,hm,by simp[h]⟩
 simp[lJ,this]
theorem RY {s:ByteArray} {k:Nat} (hk:s.size≤k) (h:∀b∈s.data.toList.take k,iL b=true):lJ s=(decide (1≤s.size) && decide (s.size≤8)):=by
 have:s.data.toList.all iL=true:=by
  rw[List.all_eq_true]
  rw[List.take_of_length_le (by simpa using hk)]at h
  exact h
 simp[lJ,this]
theorem Nl (s:ByteArray) (W:World) (hs:s.size≤maxLen):Calls Tryz.prog 48 #[.string s] W fun e W'=>e= .returned (.bool (lJ s))∧W=W':=by
 unfold maxLen at hs
 go_enter Tryz.func48,Tryz.ntmps48
 go_wp2
 go_loop [7] (fun i=>∃k:Nat,k≤s.size∧i= .int .i64 k∧Hid (∀b∈s.data.toList.take k,iL b=true)) (fun i=>s.size - (intOf i).toNat)
 case atStart=>exact⟨0,Nat.zero_le _,rfl,hide (fun b hb=>by simp at hb)⟩
 case round=>
  obtain⟨k,hk,rfl,HN⟩:=hrel
  by_cases hlt:k<s.size
  ·have HT:=hide (show s.data.toList.take (k+1)=s.data.toList.take k++[s[k]]from by rw[List.take_succ_eq_append_getElem (by simpa using hlt)];rfl)
   have HM:=hide (show s[k]∈s.data.toList from List.getElem_mem (by simpa using hlt))
   go_wp2
   all_goals first
    |(go_round
      case rel=>exact⟨k+1,by omega,by go_num,hide (by
      intro b hb
      rw[HT.out,List.mem_append,List.mem_singleton]at hb
      rcases hb with hb | rfl
      ·exact HN.out b hb
      ·simp[iL];omega)⟩
      case measure=>simp[intOf];omega)
    |(go_ret
      exact⟨bX (RX HM.out (by simp[iL];omega)).symm,rfl⟩)
  ·have HE:=hide (RY (by omega) HN.out)
   cases h1:decide (1≤s.size)
   ·have h1':¬ 1≤s.size:=by simpa using h1
    go_wp2
    go_ret
    exact⟨bX (by rw[HE.out,h1];rfl),rfl⟩
   ·have h1':1≤s.size:=by simpa using h1
    by_cases h2:s.size≤8
    ·have HF:=hide (show lJ s=true from by rw[HE.out,h1];simpa using h2)
     clear h1
     go_wp2
     go_ret
     exact⟨bX (by rw[HF.out];simp<;>omega),rfl⟩
    ·have HF:=hide (show lJ s=false from by rw[HE.out,h1];simpa using h2)
     clear h1
     go_wp2
     go_ret
     exact⟨bX (by rw[HF.out];simp<;>omega),rfl⟩
theorem RZ (A:Option Addr) (c:Nat) (x:Int) (W:World):Calls Tryz.prog 19 #[.slice A 0 c,.int .i64 x] W fun e W'=>e= .returned (.int .i64 (-1))∧W=W':=by
 go_enter Tryz.func19,Tryz.ntmps19
 go_wp2
 refine wp_loop_rounds 1 ?_
 rw[rounds_succ]
 go_wp2
 go_ret
 exact⟨rfl,rfl⟩
theorem iH (l:List Int) (A:Option Addr) (n c:Nat) (x:Int) (W:World) (hn:n≤9223372036854775807) (hl:cu W W.heap.size A n l):
  Calls Tryz.prog 46 #[.slice A n c,.int .i64 x] W fun e W'=>e= .returned (.bool (l.contains x))∧RowKit.Below W.heap.size W W':=by
 by_cases hx:x∈l
 ·have:l.contains x=true:=by simpa using hx
  rw[this]
  exact KT l A n c x W hn hl hx
 ·have hc:l.contains x=false:=by simpa using hx
  rw[hc]
  rcases Nat.eq_zero_or_pos n with rfl | h0
  ·go_enter Tryz.func46,Tryz.ntmps46
   go_wp2_with fail
   refine(RZ _ _ _ _).mono ?_
   rintro e w1 ⟨rfl,rfl⟩
   go_wp2
   go_ret
   exact⟨rfl,RowKit.Below.refl _ _⟩
  ·obtain⟨b,o,rfl,_,_⟩:=hl.2.2 h0
   have HC:=hide (vZ l b o n c x W hn hl h0)
   have:jy (fun y=>x ==y) l= -1:=by
    rcases nC (fun y=>x ==y) l with⟨k,r,hk,_,hr,hy,_⟩ | ⟨hk,_⟩
    ·have e:x=r:=by simpa using hy
     exact absurd (e▸List.mem_of_getElem? hr) hx
    ·exact hk
   rw[this]at HC
   clear hl hx hc
   go_enter Tryz.func46,Tryz.ntmps46
   go_wp2_with fail
   refine HC.out.mono ?_
   rintro e w1 ⟨rfl,hb⟩
   have HB:=hide hb
   clear hb
   go_wp2
   go_ret
   exact⟨rfl,HB.out⟩
theorem cu.take {w:World} {B n:Nat} {A:Option Addr} {l:List Int} (h:cu w B A n l) {k:Nat} (hk:k≤n):cu w B A k (l.take k):=
 ⟨by rw[List.length_take,h.1];omega,fun x hx=>h.2.1 x (List.mem_of_mem_take hx),fun h0=>by
  obtain⟨b,o,e,hb,hg⟩:=h.2.2 (by omega)
  refine⟨b,o,e,hb,fun j x hj=>hg j x ?_⟩
  have hjk:j<k:=by have:=(List.getElem?_eq_some_iff.1 hj).1;simp at this;omega
  rwa [List.getElem?_take_of_lt hjk]at hj⟩
def gQ (w:World) (N:Nat) (d:ak):Prop:=
 w.cell? ⟨N,0,none⟩=some (.string d.name)∧w.cell? ⟨N,1,none⟩=some (.int .i64 d.kind)∧w.cell? ⟨N,2,none⟩=some (.int .i64 d.addr)∧w.cell? ⟨N,3,none⟩=some (.int .u8 d.pool)∧
 w.cell? ⟨N,4,none⟩=some (.slice d.bA d.bn d.bc)∧w.cell? ⟨N,5,none⟩=some (.slice d.rA d.rn d.rc)∧w.cell? ⟨N,6,none⟩=some (.slice d.tA d.tn d.tc)
theorem gQ.below {w w':World} {B N:Nat} {d:ak} (h:gQ w N d) (hB:RowKit.Below B w w') (hN:N<B):gQ w' N d:=by
 have e:∀o,w'.cell? ⟨N,o,none⟩=w.cell? ⟨N,o,none⟩:=fun o=>hB.cell (p:=⟨N,o,none⟩) hN
 unfold gQ
 rw[e,e,e,e,e,e,e]
 exact h
theorem gQ.new (w:World) (d:ak) (t:TypeId):gQ (w.alloc (.cells #[.string d.name,.int .i64 d.kind,.int .i64 d.addr,.int .u8 d.pool,.slice d.bA d.bn d.bc,.slice d.rA d.rn d.rc,.slice d.tA d.tn d.tc] t)) w.heap.size d:=by
 have hbx:=heap_alloc_new w (.cells #[.string d.name,.int .i64 d.kind,.int .i64 d.addr,.int .u8 d.pool,.slice d.bA d.bn d.bc,.slice d.rA d.rn d.rc,.slice d.tA d.tn d.tc] t)
 refine⟨?_,?_,?_,?_,?_,?_,?_⟩<;>(rw[cell_of_row _ _ _ _ _ _ hbx];rfl)
theorem Ph (d:ak) (W:World) (hd:bW W W.heap.size d):
  Calls Tryz.prog 81 #[d.val] W fun e W'=>e= .returned (.bool (bQ d.dev))∧RowKit.Below W.heap.size W W':=by
 obtain⟨W0,hW0⟩:∃W0,W0=W.alloc (.cells #[.string d.name,.int .i64 d.kind,.int .i64 d.addr,.int .u8 d.pool,.slice d.bA d.bn d.bc,.slice d.rA d.rn d.rc,.slice d.tA d.tn d.tc] 81):=⟨_,rfl⟩
 have HB0:=hide (show RowKit.Below W.heap.size W W0 from by rw[hW0];exact(RowKit.Below.refl _ _).alloc (Nat.le_refl _) _)
 have jM:=hide (show W0.heap.size=W.heap.size+1 from by rw[hW0];simp)
 have HQ:=hide (fun(w':World) (hb:RowKit.Below W0.heap.size W0 w')=>show gQ w' W.heap.size d∧cu w' w'.heap.size d.bA d.bn d.bs∧RowKit.Below W.heap.size W w' from by
  have h1:=HB0.out.trans (hb.mono (by rw[jM.out];omega))
  exact⟨(show gQ W0 W.heap.size d from by rw[hW0];exact gQ.new W d _).below hb (by rw[jM.out];omega),hd.bs.below h1 h1.size,h1⟩)
 have HLEN:=hide (show d.bs.length=d.bn from hd.bs.1)
 have hbc:d.bn≤d.bc:=hd.cb.1
 have iQ:d.bc≤maxLen:=hd.cb.2
 have iQ:d.bc≤9223372036854775807:=by unfold maxLen at iQ;omega
 have HI:=hide hd.bs.2.1
 have HD:=hide (show bQ d.dev=(gJ d.addr [] d.bs && ((decide (0<d.bs.length))==(d.kind ==5)))from rfl)
 generalize d.dev=dv at*
 clear hd
 obtain⟨nm,kd,ad,pl,bA,bn,bc,bs,rA,rn,rc,rs,tA,tn,tc,ts⟩:=d
 simp only[ak.val]at*
 obtain⟨x0,x1,x2,x3,x4,x5,x6⟩:=(HQ.out W0 (RowKit.Below.refl _ _)).1
 go_enter Tryz.func81,Tryz.ntmps81
 go_wp2
 rw[← hW0]
 go_loopw [8] (fun i wr=>∃k:Nat,k≤bn∧i= .int .i64 k∧Hid (gJ ad [] bs=gJ ad (bs.take k) (bs.drop k))∧Hid (RowKit.Below W0.heap.size W0 wr)) (fun i _=>bn - (intOf i).toNat)
 case atStart=>exact⟨0,Nat.zero_le _,rfl,hide rfl,hide (RowKit.Below.refl _ _)⟩
 case round=>
  clear x0 x1 x2 x3 x4 x5 x6
  obtain⟨k,hk,rfl,HC,HB⟩:=hrel
  obtain⟨xZ,hints,hbW⟩:=HQ.out wr HB.out
  obtain⟨x0,x1,x2,x3,x4,x5,x6⟩:=xZ
  have gD:=hide hbW
  by_cases hlt:k<bn
  ·obtain⟨b,hb⟩:∃r,bs[k]?=some r:=⟨_,List.getElem?_eq_getElem (by have:=HLEN.out;omega)⟩
   have HS:=hide (AX (addr:=ad) hb)
   obtain⟨hb1,hb2⟩:=HI.out b (List.mem_of_getElem? hb)
   obtain⟨bb,oo,rfl,kD,hg⟩:=hints.2.2 (by omega)
   have q0:=hg k b hb
   have HIk:=hide (hints.take (k:=k) (by omega))
   have g1:(k:Int)≤(bc:Int):=by omega
   clear hb hg hints hbW
   cases e1:(decide (0≤b) && decide (b<16))
   ·go_wp2_with fail
    refine(bF b 16 _ false e1).mono ?_
    rintro e w1 ⟨rfl,rfl⟩
    have HF:=hide (show bQ dv=false from by rw[HD.out,HC.out,HS.out,e1];rfl)
    go_wp2
    go_ret
    exact⟨bX HF.out.symm,gD.out⟩
   have UH:=hide e1
   go_wp2_with fail
   refine(bF b 16 _ true e1).mono ?_
   rintro e w1 ⟨rfl,rfl⟩
   clear e1
   cases e2:(b ==ad)
   case true=>
    have HF:=hide (show bQ dv=false from by rw[HD.out,HC.out,HS.out];simp[show b=ad by simpa using e2])
    go_wp2
    go_ret
    exact⟨bX HF.out.symm,gD.out⟩
   have HE2:=hide (show(b != ad)=true from by simp[bne,e2])
   go_wp2_with fail
   refine(iH (bs.take k) (some ⟨bb,oo,none⟩) k bc b wr (by omega) HIk.out).mono ?_
   rintro e w1 ⟨rfl,hb⟩
   have HB1:=hide (HB.out.trans (hb.mono HB.out.size))
   have ade:=hide (gD.out.trans (hb.mono gD.out.size))
   clear hb
   cases e3:(bs.take k).contains b
   case true=>
    have HF:=hide (show bQ dv=false from by rw[HD.out,HC.out,HS.out,e3];simp)
    go_wp2
    go_ret
    exact⟨bX HF.out.symm,ade.out⟩
   have HN:=hide (show gJ ad [] bs=gJ ad (bs.take (k+1)) (bs.drop (k+1))from by rw[HC.out,HS.out,UH.out,HE2.out,e3];simp)
   go_wp2
   go_roundw
   case rel=>exact⟨k+1,by omega,by go_num,HN,HB1⟩
   case measure=>simp[intOf];omega
  ·have hk':k=bn:=by omega
   have HN:=hide (show bQ dv=((decide (0<bn))==(kd ==5))from by
    rw[HD.out,HC.out,List.drop_of_length_le (by have:=HLEN.out;omega),HLEN.out];rfl)
   cases e1:decide (0<bn)
   ·have rU:¬ 0<bn:=by simpa using e1
    obtain rfl:bn=0:=by omega
    cases e2:(kd ==5)
    all_goals
     go_wp2
     go_ret
     exact⟨bX (by rw[HN.out,e2];rfl),gD.out⟩
   ·have rU:0<bn:=by simpa using e1
    have HE:=hide e1
    clear e1
    cases e2:(kd ==5)
    all_goals
     go_wp2
     go_ret
     exact⟨bX (by rw[HN.out,e2,HE.out];rfl),gD.out⟩
end Go.Proofs.YtifkacnoiocebaaGreat
