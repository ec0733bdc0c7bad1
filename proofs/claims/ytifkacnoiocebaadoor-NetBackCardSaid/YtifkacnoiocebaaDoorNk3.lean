/- A part of the proof: Devs, G6, NetDev, NetBacks. -/
import Derived.Test.YtifkacnoiocebaaDoorNk2
import Derived.Deep.Upon
import Derived.Lib.SliceRun
import Derived.Laws.IdiomCopy
set_option linter.unusedVariables false
set_option linter.unusedSimpArgs false
set_option maxRecDepth 100000
set_option maxHeartbeats 8000000
namespace Go.Proofs.YtifkacnoiocebaaDoor
open Go.ChangeAt Go.ChangeShapes Go.Deep Go.Joins Go.RowKit Go.WideShapes
structure ah where
 name:ByteArray
 kind:Int
 addr:Int
 pool:Nat
 bA:Option Addr
 bn:Nat
 bc:Nat
 bs:List Int
 rA:Option Addr
 rn:Nat
 rc:Nat
 rs:List aW
 tA:Option Addr
 tn:Nat
 tc:Nat
 ts:List aI
structure Dev where
 name:ByteArray
 kind:Int
 addr:Int
 pool:Nat
 backs:List Int
 rules:List aW
 routes:List aI
def ah.dev (d:ah):Dev:=⟨d.name,d.kind,d.addr,d.pool,d.bs,d.rs,d.ts⟩
def ah.cells (d:ah):List Value:=[.string d.name,.int .i64 d.kind,.int .i64 d.addr,.int .u8 d.pool,.slice d.bA d.bn d.bc,.slice d.rA d.rn d.rc,.slice d.tA d.tn d.tc]
def ah.val (d:ah):Value:=.agg #[.string d.name,.int .i64 d.kind,.int .i64 d.addr,.int .u8 d.pool,.slice d.bA d.bn d.bc,.slice d.rA d.rn d.rc,.slice d.tA d.tn d.tc]
theorem ah.len (d:ah):d.cells.length=7:=rfl
theorem ah.one (d:ah):∀u∈d.cells,u.oneCell'=true:=by
 intro u hu
 simp only[ah.cells,List.mem_cons,List.not_mem_nil,or_false]at hu
 rcases hu with rfl | rfl | rfl | rfl | rfl | rfl | rfl<;>rfl
structure jE (w:World) (B:Nat) (d:ah):Prop where
 nm:d.name.size≤maxLen
 kd:bB d.kind
 ad:bB d.addr
 pl:d.pool<256
 bs:dN w B d.bA d.bn d.bs
 rs:jv w B d.rA d.rn d.rs
 ts:bN aI.cells 3 w B d.tA d.tn d.ts
 tok:∀r∈d.ts,r.ok
 cb:d.bn≤d.bc∧d.bc≤maxLen
 cr:d.rn≤d.rc∧d.rc≤maxLen
 ct:d.tn≤d.tc∧d.tc≤maxLen
theorem jE.below {w w':World} {B B':Nat} {d:ah} (h:jE w B d) (hB:RowKit.Below B w w') (hB':B≤B'):jE w' B' d:=
 ⟨h.nm,h.kd,h.ad,h.pl,h.bs.below hB hB',h.rs.below hB hB',h.ts.below hB hB',h.tok,h.cb,h.cr,h.ct⟩
structure bK where
 dA:Option Addr
 dn:Nat
 dc:Nat
 ds:List ah
 lA:Option Addr
 ln:Nat
 lc:Nat
 ls:List au
def bK.val (n:bK):Value:=.agg #[.slice n.dA n.dn n.dc,.slice n.lA n.ln n.lc]
def bK.bI (n:bK):List Dev:=n.ds.map ah.dev
structure fO (w:World) (B:Nat) (n:bK):Prop where
 ds:bN ah.cells 7 w B n.dA n.dn n.ds
 uW:∀d∈n.ds,jE w B d
 ls:bN au.cells 4 w B n.lA n.ln n.ls
 rQ:∀l∈n.ls,l.ok
 cd:n.dn≤n.dc∧n.dc≤maxLen
 cl:n.ln≤n.lc∧n.lc≤maxLen
theorem fO.below {w w':World} {B B':Nat} {n:bK} (h:fO w B n) (hB:RowKit.Below B w w') (hB':B≤B'):fO w' B' n:=
 ⟨h.ds.below hB hB',fun d hd=>(h.uW d hd).below hB hB',h.ls.below hB hB',h.rQ,h.cd,h.cl⟩
theorem fO.qA {w:World} {B:Nat} {n:bK} (h:fO w B n):n.ds.length=n.dn:=h.ds.1
theorem fO.llen {w:World} {B:Nat} {n:bK} (h:fO w B n):n.ls.length=n.ln:=h.ls.1
theorem oM {w:World} {B b o n k:Nat} {l:List ah} {r:ah} (h:bN ah.cells 7 w B (some ⟨b,o,none⟩) n l) (hr:l[k]?=some r):b<B∧
  w.cell? ⟨b,o+k*7,none⟩=some (.string r.name)∧w.cell? ⟨b,o+k*7+1,none⟩=some (.int .i64 r.kind)∧w.cell? ⟨b,o+k*7+2,none⟩=some (.int .i64 r.addr)∧w.cell? ⟨b,o+k*7+3,none⟩=some (.int .u8 r.pool)∧
  w.cell? ⟨b,o+k*7+4,none⟩=some (.slice r.bA r.bn r.bc)∧w.cell? ⟨b,o+k*7+5,none⟩=some (.slice r.rA r.rn r.rc)∧w.cell? ⟨b,o+k*7+6,none⟩=some (.slice r.tA r.tn r.tc):=
 ⟨(h.get hr).1,(h.get hr).2 0 _ rfl,(h.get hr).2 1 _ rfl,(h.get hr).2 2 _ rfl,(h.get hr).2 3 _ rfl,(h.get hr).2 4 _ rfl,(h.get hr).2 5 _ rfl,(h.get hr).2 6 _ rfl⟩
section
variable {H:Type} {enc:TypeId×Value→H} {w:World} {base:Nat} {spare:Nat→Bool} {held:Bool} {r:Reach} {b0:Nat}
theorem lJ {α:Type} {P:Program} (cells:α→List Value) (ok:α→Prop) (s:Nat) {t e:TypeId} (ht:P.underlying t=some (.slice e)) (hC:P.cellsOf e=s) (hs:0<s) (hlen:∀r,(cells r).length =s)
  (helem:∀(n:Nat) (cs:List Value) (y:DataW H×List MemPlace),DataW.trod enc P w base spare held n e cs=some y→∃r,ok r∧cs=cells r)
  {fuel:Nat} {cs:List Value} {y:DataW H×List MemPlace} (hf:DataW.trod enc P w base spare held fuel t cs=some y):
  ∃(A:Option Addr) (n c:Nat) (l:List α),cs=[.slice A n c]∧n≤c∧c≤maxLen∧bN cells s w w.heap.size A n l∧(∀r∈l,ok r):=by
 obtain⟨d,p⟩:=y
 rcases open_slice ht hf with⟨hcs,hx⟩ | ⟨a,Aq,cap0,m,n,D,Pl,hcs,hb,hl,hm,hmm,hx,hi⟩
 ·exact⟨none,0,0,[],hcs,Nat.le_refl _,Nat.zero_le _,⟨rfl,fun h=>absurd h (by omega)⟩,(fun r hr=>by simp at hr)⟩
 ·have hlm:Aq≤m:=by rw[hmm];split<;>omega
  have hex:∀i:Fin Aq,∃x,ok x∧∀j u,(cells x)[j]?=some u→w.cell? (a.add (i.val*s+j))=some u:=fun i=>by
   obtain⟨cs',hc,ht'⟩:=hi i.val (by omega)
   obtain⟨x,hx1,rfl⟩:=helem n cs' _ ht'
   obtain⟨_,hcl,hat⟩:=World.cells?_some hc
   refine⟨x,hx1,fun j u hu=>?_⟩
   have hj:=(List.getElem?_eq_some_iff.1 hu).1
   rw[hC]at hat
   have:=hat j (by rw[← hlen x];exact hj)
   rw[hu]at this
   rw[← Go.Deep.add_add]
   exact this
  let f:Fin Aq→α:=fun i=>Classical.choose (hex i)
  have hfs:∀i,ok (f i)∧∀j u,(cells (f i))[j]?=some u→w.cell? (a.add (i.val*s+j))=some u:=fun i=>Classical.choose_spec (hex i)
  refine⟨some a,Aq,cap0,List.ofFn f,hcs,hl,hm,⟨by simp,fun h0=>?_⟩,?_⟩
  ·have h1:=(hfs ⟨0,h0⟩).2 0 ((cells (f ⟨0,h0⟩))[0]'(by rw[hlen];exact hs)) (List.getElem?_eq_getElem _)
   have ha:a=⟨a.block,a.off,none⟩:=by
    have h2:a.add (0*s+0)=a:=by simp[Addr.add]
    rw[h2]at h1
    unfold World.cell? at h1
    split at h1
    ·split at h1
     ·cases h1
     ·rename_i hsp
      cases a with | mk b o sp=>cases sp<;>simp_all
    ·cases h1
   have hblk:a.block<w.heap.size:=by
    have:=World.block_lt_of_cell? w _ h1
    simpa[Addr.add]using this
   refine⟨a.block,a.off,by rw[← ha],hblk,fun k x hk j u hu=>?_⟩
   have hk':=(List.getElem?_eq_some_iff.1 hk).1
   simp only[List.length_ofFn]at hk'
   have hx':x=f ⟨k,hk'⟩:=by
    rw[List.getElem?_ofFn]at hk
    simp only[hk',dif_pos,Option.some.injEq]at hk
    exact hk.symm
   subst hx'
   have:=(hfs ⟨k,hk'⟩).2 j u hu
   rw[ha,addr_add]at this
   rw[Nat.add_assoc]
   exact this
  ·intro x hx
   obtain⟨i,rfl⟩:=List.mem_ofFn.1 hx
   exact(hfs i).1
theorem bN.ints {B n:Nat} {A:Option Addr} {l:List Int} (h:bN (fun k=>[Value.int .i64 k]) 1 w B A n l) (hok:∀k∈l,bB k):dN w B A n l:=
 ⟨h.1,hok,fun h0=>by
  obtain⟨b,o,e,hb,hg⟩:=h.2 h0
  exact⟨b,o,e,hb,fun k x hx=>by have:=hg k x hx 0 _ rfl;rwa [Nat.mul_one,Nat.add_zero]at this⟩⟩
theorem uS:Tryd.prog.cellsOf 3=1:=by kernel_rfl
theorem Eh:Tryd.prog.cellsOf 9=1:=by kernel_rfl
theorem Ei:Tryd.prog.cellsOf 5=1:=by kernel_rfl
theorem CY:Tryd.prog.cellsOf 33=1:=by kernel_rfl
theorem CZ:Tryd.prog.cellsOf 34=1:=by kernel_rfl
theorem C8:Tryd.prog.cellsOf 35=1:=by kernel_rfl
theorem Tryd.cellsDevice:Tryd.prog.cellsOf 37=7:=by kernel_rfl
theorem Tryd.cellsLink:Tryd.prog.cellsOf 55=4:=by kernel_rfl
theorem BM {n:Nat} {cs:List Value} {y:DataW H×List MemPlace} (h:DataW.trod enc Tryd.prog w base spare held n 33 cs=some y):∃(A:Option Addr) (m c:Nat) (l:List Int),cs=[.slice A m c]∧m≤c∧c≤maxLen∧dN w w.heap.size A m l:=by
 obtain⟨A,m,c,l,e,h1,h2,h3,h4⟩:=lJ (fun k=>[Value.int .i64 k]) bB 1 Tryd.underlying33 uS (by omega) (fun _=>rfl) (fun _ _ _ h=>Ch h) h
 exact⟨A,m,c,l,e,h1,h2,h3.ints h4⟩
theorem Ar {n:Nat} {cs:List Value} {y:DataW H×List MemPlace} (h:DataW.trod enc Tryd.prog w base spare held n 34 cs=some y):∃(A:Option Addr) (m c:Nat) (l:List aW),cs=[.slice A m c]∧m≤c∧c≤maxLen∧jv w w.heap.size A m l:=by
 obtain⟨A,m,c,l,e,h1,h2,h3,h4⟩:=lJ aW.cells aW.ok 5 Tryd.underlying34 Tryd.cellsRule (by omega) aW.len (fun _ _ _ h=>AU h) h
 exact⟨A,m,c,l,e,h1,h2,h3.rules h4⟩
theorem yZ {n:Nat} {cs:List Value} {y:DataW H×List MemPlace} (h:DataW.trod enc Tryd.prog w base spare held n 35 cs=some y):
  ∃(A:Option Addr) (m c:Nat) (l:List aI),cs=[.slice A m c]∧m≤c∧c≤maxLen∧bN aI.cells 3 w w.heap.size A m l∧∀r∈l,r.ok:=
 lJ aI.cells aI.ok 3 Tryd.underlying35 Tryd.cellsRoute (by omega) aI.len (fun _ _ _ h=>Ac h) h
theorem BN {n:Nat} {cs:List Value} {y:DataW H×List MemPlace} (h:DataW.trod enc Tryd.prog w base spare held n 55 cs=some y):∃l:au,l.ok∧cs=l.cells:=by
 obtain⟨xs,n',_,_,hlen,hxl,hf⟩:=DataW.trod_struct Tryd.underlying55 h
 rw[Tryd.cellsLink]at hlen
 match cs,hlen with
 |[c0,c1,c2,c3],_=>
  have h0:=hf 0 _ rfl
  have h1:=hf 1 _ rfl
  have h2:=hf 2 _ rfl
  have h3:=hf 3 _ rfl
  obtain⟨y0,e0⟩:=get_some (xs:=xs) (i:=0) (by rw[hxl];decide)
  obtain⟨y1,e1⟩:=get_some (xs:=xs) (i:=1) (by rw[hxl];decide)
  obtain⟨y2,e2⟩:=get_some (xs:=xs) (i:=2) (by rw[hxl];decide)
  obtain⟨y3,e3⟩:=get_some (xs:=xs) (i:=3) (by rw[hxl];decide)
  rw[e0]at h0
  rw[e1]at h1
  rw[e2]at h2
  rw[e3]at h3
  simp[uS]at h0 h1 h2 h3
  obtain⟨a,rfl,ha⟩:=jc h0
  obtain⟨b,rfl,hb⟩:=jc h1
  obtain⟨c,rfl,hc⟩:=jc h2
  obtain⟨d,rfl,hd⟩:=jc h3
  exact⟨⟨a,b,c,d⟩,⟨ha,hb,hc,hd⟩,rfl⟩
theorem y7 {n:Nat} {cs:List Value} {y:DataW H×List MemPlace} (h:DataW.trod enc Tryd.prog w base spare held n 37 cs=some y):∃d:ah,jE w w.heap.size d∧cs=d.cells:=by
 obtain⟨xs,n',_,_,hlen,hxl,hf⟩:=DataW.trod_struct Tryd.underlying37 h
 rw[Tryd.cellsDevice]at hlen
 match cs,hlen with
 |[c0,c1,c2,c3,c4,c5,c6],_=>
  have h0:=hf 0 _ rfl
  have h1:=hf 1 _ rfl
  have h2:=hf 2 _ rfl
  have h3:=hf 3 _ rfl
  have h4:=hf 4 _ rfl
  have h5:=hf 5 _ rfl
  have h6:=hf 6 _ rfl
  obtain⟨y0,e0⟩:=get_some (xs:=xs) (i:=0) (by rw[hxl];decide)
  obtain⟨y1,e1⟩:=get_some (xs:=xs) (i:=1) (by rw[hxl];decide)
  obtain⟨y2,e2⟩:=get_some (xs:=xs) (i:=2) (by rw[hxl];decide)
  obtain⟨y3,e3⟩:=get_some (xs:=xs) (i:=3) (by rw[hxl];decide)
  obtain⟨y4,e4⟩:=get_some (xs:=xs) (i:=4) (by rw[hxl];decide)
  obtain⟨y5,e5⟩:=get_some (xs:=xs) (i:=5) (by rw[hxl];decide)
  obtain⟨y6,e6⟩:=get_some (xs:=xs) (i:=6) (by rw[hxl];decide)
  rw[e0]at h0
  rw[e1]at h1
  rw[e2]at h2
  rw[e3]at h3
  rw[e4]at h4
  rw[e5]at h5
  rw[e6]at h6
  simp[uS,Eh,Ei,CY,CZ,C8]at h0 h1 h2 h3 h4 h5 h6
  obtain⟨s,hs,_,hsz⟩:=DataW.trod_string Tryd.underlying9 h0
  cases hs
  obtain⟨a,rfl,ha⟩:=jc h1
  obtain⟨b,rfl,hb⟩:=jc h2
  obtain⟨c,rfl,hc⟩:=uz h3
  obtain⟨A1,m1,k1,l1,f1,p1,q1,r1⟩:=BM h4
  obtain⟨A2,m2,k2,l2,f2,p2,q2,r2⟩:=Ar h5
  obtain⟨A3,m3,k3,l3,f3,p3,q3,r3,r4⟩:=yZ h6
  cases f1
  cases f2
  cases f3
  exact⟨⟨s,a,b,c,A1,m1,k1,l1,A2,m2,k2,l2,A3,m3,k3,l3⟩,⟨hsz,ha,hb,hc,r1,r2,r3,r4,⟨p1,q1⟩,⟨p2,q2⟩,⟨p3,q3⟩⟩,rfl⟩
theorem C9:Tryd.prog.cellsOf 22=1:=by kernel_rfl
theorem Da:Tryd.prog.cellsOf 23=1:=by kernel_rfl
theorem Tryd.cellsNet:Tryd.prog.cellsOf 25=2:=by kernel_rfl
theorem CX {v:Value} {d:DataW H} {p:List MemPlace} (hv:Value.okWide Tryd.prog w r b0 25 v) (h:DataW.Trod enc Tryd.prog w base spare held 25 v d p):∃n:bK,fO w w.heap.size n∧v=n.val:=by
 obtain⟨cs,rfl,hsz⟩:=okWide_struct Tryd.underlying25 hv
 obtain⟨fuel,hf⟩:=h
 obtain⟨xs,n',_,_,hlen,hxl,hf⟩:=DataW.trod_struct (cs:=cs.toList) Tryd.underlying25 hf
 rw[Tryd.cellsNet]at hlen
 obtain⟨c0,c1,hcs⟩:∃c0 c1,cs.toList=[c0,c1]:=by
  match h:cs.toList,hlen with
  |[c0,c1],_=>exact⟨c0,c1,rfl⟩
 rw[hcs]at hf
 have h0:=hf 0 _ rfl
 have h1:=hf 1 _ rfl
 obtain⟨y0,e0⟩:=get_some (xs:=xs) (i:=0) (by rw[hxl];decide)
 obtain⟨y1,e1⟩:=get_some (xs:=xs) (i:=1) (by rw[hxl];decide)
 rw[e0]at h0
 rw[e1]at h1
 simp[C9,Da]at h0 h1
 obtain⟨A1,m1,k1,l1,f1,p1,q1,r1,s1⟩:=lJ ah.cells (jE w w.heap.size) 7 Tryd.underlying22 Tryd.cellsDevice (by omega) ah.len (fun _ _ _ h=>y7 h) h0
 obtain⟨A2,m2,k2,l2,f2,p2,q2,r2,s2⟩:=lJ au.cells au.ok 4 Tryd.underlying23 Tryd.cellsLink (by omega) au.len (fun _ _ _ h=>BN h) h1
 cases f1
 cases f2
 refine⟨⟨A1,m1,k1,l1,A2,m2,k2,l2⟩,⟨r1,s1,r2,s2,⟨p1,q1⟩,⟨p2,q2⟩⟩,?_⟩
 have:cs=#[.slice A1 m1 k1,.slice A2 m2 k2]:=AR hcs
 rw[this]
 rfl
end
end Go.Proofs.YtifkacnoiocebaaDoor
namespace Go.Proofs.YtifkacnoiocebaaDoor
open uZ Go.Maps Go.RowKit
theorem jq (A:Option Addr) (n c:Nat) (W:World):Calls Tryd.prog 70 #[.slice A n c] W fun e W'=>e= .returned (.int .i64 (if 8<n then 2 else 0))∧W=W':=by
 by_cases h:8<n
 ·have h8:decide ((8:Int)<(n:Int))=true:=by simp;omega
  rw[if_pos h]
  go_enter Tryd.func70,Tryd.ntmps70
  go_wp2
  go_ret
  exact⟨rfl,rfl⟩
 ·have h8:decide ((8:Int)<(n:Int))=false:=by simp;omega
  rw[if_neg h]
  go_enter Tryd.func70,Tryd.ntmps70
  go_wp2
  go_ret
  exact⟨rfl,rfl⟩
def intCells (dl:List Nat):List Value:=dl.map fun(k:Nat)=>Value.int .i64 (k:Int)
theorem gF {w w':World} {base e s n:Nat} {v:Value} {xs:List Value} (h:w.ownsRow base e s v n xs) (hb:∀q,v.ownBlock=some q→w'.heap[q]?=w.heap[q]?):w'.ownsRow base e s v n xs:=by
 obtain⟨h1,h2⟩:=h
 refine⟨h1,?_⟩
 rcases h2 with h2 | ⟨g',cap',cur,hv,hb',hh,r⟩
 ·exact .inl h2
 ·subst hv
  exact .inr ⟨_,_,cur,rfl,hb',(hb g' rfl).trans hh,r⟩
theorem Tryd.infoInt:(Tryd.prog.info? 3).map (fun i=>(i.zero,i.size,i.bytes))=some (some (.int .i64 0),1,8):=by kernel_rfl
theorem y8 {w:World} {base:Nat} {v:Value} {dl:List Nat} (h:w.ownsRow base 3 1 v dl.length (intCells dl)) (hb:∀x∈dl,x<4611686018427387904):
  ∃A c,v= .slice A dl.length c∧dl.length≤c∧dN w w.heap.size A dl.length (dl.map fun(k:Nat)=>(k:Int)):=by
 rcases h.2 with⟨rfl,h0⟩ | ⟨g,cap,cur,rfl,hg,hh,hnc,_⟩
 ·have:dl=[]:=List.eq_nil_of_length_eq_zero h0
  subst this
  exact⟨none,0,rfl,Nat.le_refl _,dN.nil _ _ _⟩
 ·refine⟨_,cap,rfl,hnc,⟨by simp,fun x hx=>?_,fun _=>⟨g,0,rfl,(Array.getElem?_eq_some_iff.1 hh).1,fun k x hx=>?_⟩⟩⟩
  ·obtain⟨k,hk,rfl⟩:=List.mem_map.1 hx
   have:=hb k hk
   omega
  ·have:=h.cells (g:=g) rfl k (.int .i64 x) (by
    rw[List.getElem?_map]at hx
    cases e:dl[k]? with
    |none=>rw[e]at hx;cases hx
    |some y=>rw[e]at hx;cases hx;simp[intCells,e])
   rw[addr_add]at this
   exact this
theorem um (l:List Int) (b o n c:Nat) (x:Int) (W:World) (hn:n≤9223372036854775807) (hl:dN W W.heap.size (some ⟨b,o,none⟩) n l) (h0:0<n):
  Calls Tryd.prog 102 #[.slice (some ⟨b,o,none⟩) n c,.int .i64 x] W fun e W'=>e= .returned (.int .i64 (iD (fun y=>x ==y) l))∧RowKit.Below W.heap.size W W':=by
 have HL:=hide hl
 clear hl
 go_enter Tryd.func102,Tryd.ntmps102
 go_wp2
 go_loopw [8] (fun i wr=>∃k:Nat,k≤n∧i= .int .i64 k∧RowKit.Below W.heap.size W wr∧Hid (∀j y,j<k→l[j]?=some y→(x ==y)=false)) (fun i _=>n - (intOf i).toNat)
 case atStart=>exact⟨0,Nat.zero_le _,rfl,RowKit.Below.refl _ _,hide (fun j r h=>absurd h (by omega))⟩
 case round=>
  obtain⟨k,hk,rfl,hb,HN⟩:=hrel
  have HB:=hide hb
  by_cases hlt:k<n
  ·obtain⟨y,hy⟩:∃r,l[k]?=some r:=⟨_,List.getElem?_eq_getElem (by have:=HL.out.1;omega)⟩
   obtain⟨b',o',e,rM,hg⟩:=HL.out.2.2 (by omega)
   cases e
   have q0:=(hb.cell (p:=⟨b,o+k,none⟩) rM).trans (hg k y hy)
   have HY:=hide hy
   clear hb hg hy
   cases hxy:(x ==y)
   ·go_wp2
    go_roundw
    case rel=>exact⟨k+1,by omega,by go_num,HB.out,hide (fun j z hj hz=>by
     rcases(by omega:j<k∨j=k)with h | rfl
     ·exact HN.out j z h hz
     ·have e:=HY.out;rw[e]at hz;cases hz;exact hxy)⟩
    case measure=>simp[intOf];omega
   ·have HF:=hide (mK (p:=fun y=>x ==y) HY.out hxy HN.out)
    go_wp2
    go_ret
    exact⟨mU HF.out.symm,HB.out⟩
  ·have HF:=hide (qw (p:=fun y=>x ==y) (l:=l) (fun j r hj hr=>HN.out j r (by have:=HL.out.1;omega) hr))
   go_wp2
   go_ret
   exact⟨mU HF.out.symm,HB.out⟩
theorem xQ (l:List Int) (A:Option Addr) (n c:Nat) (x:Int) (W:World) (hn:n≤9223372036854775807) (hl:dN W W.heap.size A n l) (hx:x∈l):
  Calls Tryd.prog 91 #[.slice A n c,.int .i64 x] W fun e W'=>e= .returned (.bool true)∧RowKit.Below W.heap.size W W':=by
 have h0:0<n:=by have:=List.length_pos_of_mem hx;have:=hl.1;omega
 obtain⟨b,o,rfl,_,_⟩:=hl.2.2 h0
 have HC:=hide (um l b o n c x W hn hl h0)
 obtain⟨k,hk⟩:∃k:Nat,iD (fun y=>x ==y) l=k:=by
  rcases mM (fun y=>x ==y) l with⟨k,r,hk,_⟩ | ⟨_,hno⟩
  ·exact⟨k,hk⟩
  ·have:=hno x hx;simp at this
 rw[hk]at HC
 clear hl hx hk
 go_enter Tryd.func91,Tryd.ntmps91
 go_wp2_with fail
 refine HC.out.mono ?_
 rintro e w1 ⟨rfl,hb⟩
 have HB:=hide hb
 clear hb
 go_wp2
 go_ret
 exact⟨rfl,HB.out⟩
theorem BJ (l:List Int) (A1 A2:Option Addr) (n c1 c2:Nat) (W:World) (hn:n≤9223372036854775807) (h1:dN W W.heap.size A1 n l) (h2:dN W W.heap.size A2 n l):
  Calls Tryd.prog 20 #[.slice A1 n c1,.slice A2 n c2] W fun e W'=>e= .returned (.bool true)∧RowKit.Below W.heap.size W W':=by
 have H1:=hide h1
 have H2:=hide h2
 clear h1 h2
 go_enter Tryd.func20,Tryd.ntmps20
 go_wp2
 go_loopw [13] (fun i wr=>∃k:Nat,k≤n∧i= .int .i64 k∧RowKit.Below W.heap.size W wr) (fun i _=>n - (intOf i).toNat)
 case atStart=>exact⟨0,Nat.zero_le _,rfl,RowKit.Below.refl _ _⟩
 case round=>
  obtain⟨k,hk,rfl,hb⟩:=hrel
  have HB:=hide hb
  by_cases hlt:k<n
  ·obtain⟨y,hy⟩:∃r,l[k]?=some r:=⟨_,List.getElem?_eq_getElem (by have:=H1.out.1;omega)⟩
   obtain⟨b,o,rfl,rM,hg⟩:=H1.out.2.2 (by omega)
   obtain⟨b',o',rfl,Cy,hg'⟩:=H2.out.2.2 (by omega)
   have q0:=(hb.cell (p:=⟨b,o+k,none⟩) rM).trans (hg k y hy)
   have q1:=(hb.cell (p:=⟨b',o'+k,none⟩) Cy).trans (hg' k y hy)
   clear hb hg hg' hy
   go_wp2
   go_quiet (fail)
   go_wp2
   go_roundw
   case rel=>exact⟨k+1,by omega,by go_num,HB.out.trans ⟨rfl,rfl,rfl,Nat.le_refl _,fun _ _=>rfl⟩⟩
   case measure=>simp[intOf];omega
  ·go_wp2
   go_ret
   exact⟨rfl,HB.out⟩
end Go.Proofs.YtifkacnoiocebaaDoor
namespace Go.Proofs.YtifkacnoiocebaaDoor
open Go.RowKit
theorem own_below {w w':World} {base e s n:Nat} {v:Value} {xs:List Value} (h:w.ownsRow base e s v n xs) (hb:RowKit.Below w.heap.size w w'):w'.ownsRow base e s v n xs:=
 gF h (fun q hq=>hb.block q (h.lt q hq).2)
theorem pF {B:Nat} {w w':World} {row:Option Nat} (hb:RowKit.Below B w w') (hB:B≤w.heap.size) {w'':World} (hg:w'.grownBy w'' row) (hr:∀k,row=some k→B≤k):RowKit.Below B w w'':=
 hb.grown hg (by have:=hb.size;omega) hr
open uZ Go.Maps
end Go.Proofs.YtifkacnoiocebaaDoor
namespace Go.Proofs.YtifkacnoiocebaaDoor
open Go.RowKit
def jQ (b:UInt8):Bool:=(decide (97≤b.toNat) && decide (b.toNat≤122)) || (decide (48≤b.toNat) && decide (b.toNat≤57))
def bT (s:ByteArray):Bool:=s.data.toList.all jQ && decide (1≤s.size) && decide (s.size≤8)
def iR (addr:Int):List Int→List Int→Bool
 |_,[]=>true
 |pre,b::t=>decide (0≤b) && decide (b<16) && (b != addr) && !pre.contains b && iR addr (pre++[b]) t
def dX (d:Dev):Bool:=iR d.addr [] d.backs && ((decide (0<d.backs.length))==(d.kind ==5))
def gW (k:Int):Bool:=(k ==1) || (k ==4) || (k ==5)
def bL (d:Dev):Int:=
 if decide (d.kind<1) || decide (5<d.kind)then 1
 else if(gW d.kind && !(decide (0≤d.addr) && decide (d.addr<16))) || (!gW d.kind && (d.addr != 0)) || ((d.pool != 0) != (d.kind ==4))then 1
 else if decide (3<d.backs.length)then 2
 else if !dX d then 1
 else if(decide (0<d.rules.length) && (d.kind != 2) && (d.kind != 3)) || (decide (0<d.routes.length) && (d.kind != 2))then 1
 else if decide (8<d.rules.length)then 2
 else fA d.routes
theorem xR {addr:Int} {l:List Int} {k:Nat} {b:Int} (h:l[k]?=some b):iR addr (l.take k) (l.drop k)=(decide (0≤b) && decide (b<16) && (b != addr) && !(l.take k).contains b && iR addr (l.take (k+1)) (l.drop (k+1))):=by
 obtain⟨hk,e⟩:=List.getElem?_eq_some_iff.1 h
 rw[List.drop_eq_getElem_cons hk,e,List.take_succ_eq_append_getElem hk,e];rfl
theorem BO {s:ByteArray} {b:UInt8} (hm:b∈s.data.toList) (h:jQ b=false):bT s=false:=by
 have:s.data.toList.all jQ=false:=by
  rw[List.all_eq_false]
  exact⟨b,hm,by simp[h]⟩
 simp[bT,this]
theorem BP {s:ByteArray} {k:Nat} (hk:s.size≤k) (h:∀b∈s.data.toList.take k,jQ b=true):bT s=(decide (1≤s.size) && decide (s.size≤8)):=by
 have:s.data.toList.all jQ=true:=by
  rw[List.all_eq_true]
  rw[List.take_of_length_le (by simpa using hk)]at h
  exact h
 simp[bT,this]
theorem jT (s:ByteArray) (W:World) (hs:s.size≤maxLen):Calls Tryd.prog 33 #[.string s] W fun e W'=>e= .returned (.bool (bT s))∧W=W':=by
 unfold maxLen at hs
 go_enter Tryd.func33,Tryd.ntmps33
 go_wp2
 go_loop [7] (fun i=>∃k:Nat,k≤s.size∧i= .int .i64 k∧Hid (∀b∈s.data.toList.take k,jQ b=true)) (fun i=>s.size - (intOf i).toNat)
 case atStart=>exact⟨0,Nat.zero_le _,rfl,hide (fun b hb=>by simp at hb)⟩
 case round=>
  obtain⟨k,hk,rfl,HN⟩:=hrel
  by_cases hlt:k<s.size
  ·have HT:=hide (show s.data.toList.take (k+1)=s.data.toList.take k++[s[k]]from by rw[List.take_succ_eq_append_getElem (by simpa using hlt)];rfl)
   have HM:=hide (show s[k]∈s.data.toList from List.getElem_mem (by simpa using hlt))
   go_wp2
   all_goals first
    |(go_round
      case rel=>exact⟨k+1,by omega,by go_num,hide (by
      intro b hb
      rw[HT.out,List.mem_append,List.mem_singleton]at hb
      rcases hb with hb | rfl
      ·exact HN.out b hb
      ·simp[jQ];omega)⟩
      case measure=>simp[intOf];omega)
    |(go_ret
      exact⟨fU (BO HM.out (by simp[jQ];omega)).symm,rfl⟩)
  ·have HE:=hide (BP (by omega) HN.out)
   cases h1:decide (1≤s.size)
   ·have h1':¬ 1≤s.size:=by simpa using h1
    go_wp2
    go_ret
    exact⟨fU (by rw[HE.out,h1];rfl),rfl⟩
   ·have h1':1≤s.size:=by simpa using h1
    by_cases h2:s.size≤8
    ·have HF:=hide (show bT s=true from by rw[HE.out,h1];simpa using h2)
     clear h1
     go_wp2
     go_ret
     exact⟨fU (by rw[HF.out];simp<;>omega),rfl⟩
    ·have HF:=hide (show bT s=false from by rw[HE.out,h1];simpa using h2)
     clear h1
     go_wp2
     go_ret
     exact⟨fU (by rw[HF.out];simp<;>omega),rfl⟩
theorem BQ (A:Option Addr) (c:Nat) (x:Int) (W:World):Calls Tryd.prog 102 #[.slice A 0 c,.int .i64 x] W fun e W'=>e= .returned (.int .i64 (-1))∧W=W':=by
 go_enter Tryd.func102,Tryd.ntmps102
 go_wp2
 refine wp_loop_rounds 1 ?_
 rw[rounds_succ]
 go_wp2
 go_ret
 exact⟨rfl,rfl⟩
theorem y9 (l:List Int) (A:Option Addr) (n c:Nat) (x:Int) (W:World) (hn:n≤9223372036854775807) (hl:dN W W.heap.size A n l):
  Calls Tryd.prog 91 #[.slice A n c,.int .i64 x] W fun e W'=>e= .returned (.bool (l.contains x))∧RowKit.Below W.heap.size W W':=by
 by_cases hx:x∈l
 ·have:l.contains x=true:=by simpa using hx
  rw[this]
  exact xQ l A n c x W hn hl hx
 ·have hc:l.contains x=false:=by simpa using hx
  rw[hc]
  rcases Nat.eq_zero_or_pos n with rfl | h0
  ·go_enter Tryd.func91,Tryd.ntmps91
   go_wp2_with fail
   refine(BQ _ _ _ _).mono ?_
   rintro e w1 ⟨rfl,rfl⟩
   go_wp2
   go_ret
   exact⟨rfl,RowKit.Below.refl _ _⟩
  ·obtain⟨b,o,rfl,_,_⟩:=hl.2.2 h0
   have HC:=hide (um l b o n c x W hn hl h0)
   have:iD (fun y=>x ==y) l= -1:=by
    rcases mM (fun y=>x ==y) l with⟨k,r,hk,_,hr,hy,_⟩ | ⟨hk,_⟩
    ·have e:x=r:=by simpa using hy
     exact absurd (e▸List.mem_of_getElem? hr) hx
    ·exact hk
   rw[this]at HC
   clear hl hx hc
   go_enter Tryd.func91,Tryd.ntmps91
   go_wp2_with fail
   refine HC.out.mono ?_
   rintro e w1 ⟨rfl,hb⟩
   have HB:=hide hb
   clear hb
   go_wp2
   go_ret
   exact⟨rfl,HB.out⟩
theorem dN.take {w:World} {B n:Nat} {A:Option Addr} {l:List Int} (h:dN w B A n l) {k:Nat} (hk:k≤n):dN w B A k (l.take k):=
 ⟨by rw[List.length_take,h.1];omega,fun x hx=>h.2.1 x (List.mem_of_mem_take hx),fun h0=>by
  obtain⟨b,o,e,hb,hg⟩:=h.2.2 (by omega)
  refine⟨b,o,e,hb,fun j x hj=>hg j x ?_⟩
  have hjk:j<k:=by have:=(List.getElem?_eq_some_iff.1 hj).1;simp at this;omega
  rwa [List.getElem?_take_of_lt hjk]at hj⟩
def kE (w:World) (N:Nat) (d:ah):Prop:=
 w.cell? ⟨N,0,none⟩=some (.string d.name)∧w.cell? ⟨N,1,none⟩=some (.int .i64 d.kind)∧w.cell? ⟨N,2,none⟩=some (.int .i64 d.addr)∧w.cell? ⟨N,3,none⟩=some (.int .u8 d.pool)∧
 w.cell? ⟨N,4,none⟩=some (.slice d.bA d.bn d.bc)∧w.cell? ⟨N,5,none⟩=some (.slice d.rA d.rn d.rc)∧w.cell? ⟨N,6,none⟩=some (.slice d.tA d.tn d.tc)
theorem kE.below {w w':World} {B N:Nat} {d:ah} (h:kE w N d) (hB:RowKit.Below B w w') (hN:N<B):kE w' N d:=by
 have e:∀o,w'.cell? ⟨N,o,none⟩=w.cell? ⟨N,o,none⟩:=fun o=>hB.cell (p:=⟨N,o,none⟩) hN
 unfold kE
 rw[e,e,e,e,e,e,e]
 exact h
theorem kE.new (w:World) (d:ah) (t:TypeId):kE (w.alloc (.cells #[.string d.name,.int .i64 d.kind,.int .i64 d.addr,.int .u8 d.pool,.slice d.bA d.bn d.bc,.slice d.rA d.rn d.rc,.slice d.tA d.tn d.tc] t)) w.heap.size d:=by
 have hbx:=heap_alloc_new w (.cells #[.string d.name,.int .i64 d.kind,.int .i64 d.addr,.int .u8 d.pool,.slice d.bA d.bn d.bc,.slice d.rA d.rn d.rc,.slice d.tA d.tn d.tc] t)
 refine⟨?_,?_,?_,?_,?_,?_,?_⟩<;>(rw[cell_of_row _ _ _ _ _ _ hbx];rfl)
theorem Au (d:ah) (W:World) (hd:jE W W.heap.size d):
  Calls Tryd.prog 69 #[d.val] W fun e W'=>e= .returned (.bool (dX d.dev))∧RowKit.Below W.heap.size W W':=by
 obtain⟨W0,hW0⟩:∃W0,W0=W.alloc (.cells #[.string d.name,.int .i64 d.kind,.int .i64 d.addr,.int .u8 d.pool,.slice d.bA d.bn d.bc,.slice d.rA d.rn d.rc,.slice d.tA d.tn d.tc] 37):=⟨_,rfl⟩
 have HB0:=hide (show RowKit.Below W.heap.size W W0 from by rw[hW0];exact(RowKit.Below.refl _ _).alloc (Nat.le_refl _) _)
 have l8:=hide (show W0.heap.size=W.heap.size+1 from by rw[hW0];simp)
 have HQ:=hide (fun(w':World) (hb:RowKit.Below W0.heap.size W0 w')=>show kE w' W.heap.size d∧dN w' w'.heap.size d.bA d.bn d.bs∧RowKit.Below W.heap.size W w' from by
  have h1:=HB0.out.trans (hb.mono (by rw[l8.out];omega))
  exact⟨(show kE W0 W.heap.size d from by rw[hW0];exact kE.new W d _).below hb (by rw[l8.out];omega),hd.bs.below h1 h1.size,h1⟩)
 have HLEN:=hide (show d.bs.length=d.bn from hd.bs.1)
 have hbc:d.bn≤d.bc:=hd.cb.1
 have rW:d.bc≤maxLen:=hd.cb.2
 have rW:d.bc≤9223372036854775807:=by unfold maxLen at rW;omega
 have HI:=hide hd.bs.2.1
 have HD:=hide (show dX d.dev=(iR d.addr [] d.bs && ((decide (0<d.bs.length))==(d.kind ==5)))from rfl)
 generalize d.dev=dv at*
 clear hd
 obtain⟨nm,kd,ad,pl,bA,bn,bc,bs,rA,rn,rc,rs,tA,tn,tc,ts⟩:=d
 simp only[ah.val]at*
 obtain⟨x0,x1,x2,x3,x4,x5,x6⟩:=(HQ.out W0 (RowKit.Below.refl _ _)).1
 go_enter Tryd.func69,Tryd.ntmps69
 go_wp2
 rw[← hW0]
 go_loopw [8] (fun i wr=>∃k:Nat,k≤bn∧i= .int .i64 k∧Hid (iR ad [] bs=iR ad (bs.take k) (bs.drop k))∧Hid (RowKit.Below W0.heap.size W0 wr)) (fun i _=>bn - (intOf i).toNat)
 case atStart=>exact⟨0,Nat.zero_le _,rfl,hide rfl,hide (RowKit.Below.refl _ _)⟩
 case round=>
  clear x0 x1 x2 x3 x4 x5 x6
  obtain⟨k,hk,rfl,HC,HB⟩:=hrel
  obtain⟨He,hints,hbW⟩:=HQ.out wr HB.out
  obtain⟨x0,x1,x2,x3,x4,x5,x6⟩:=He
  have aA:=hide hbW
  by_cases hlt:k<bn
  ·obtain⟨b,hb⟩:∃r,bs[k]?=some r:=⟨_,List.getElem?_eq_getElem (by have:=HLEN.out;omega)⟩
   have HS:=hide (xR (addr:=ad) hb)
   obtain⟨hb1,hb2⟩:=HI.out b (List.mem_of_getElem? hb)
   obtain⟨bb,oo,rfl,rM,hg⟩:=hints.2.2 (by omega)
   have q0:=hg k b hb
   have Ip:=hide (hints.take (k:=k) (by omega))
   have g1:(k:Int)≤(bc:Int):=by omega
   clear hb hg hints hbW
   cases e1:(decide (0≤b) && decide (b<16))
   ·go_wp2_with fail
    refine(aQ b 16 _ false e1).mono ?_
    rintro e w1 ⟨rfl,rfl⟩
    have HF:=hide (show dX dv=false from by rw[HD.out,HC.out,HS.out,e1];rfl)
    go_wp2
    go_ret
    exact⟨fU HF.out.symm,aA.out⟩
   have zI:=hide e1
   go_wp2_with fail
   refine(aQ b 16 _ true e1).mono ?_
   rintro e w1 ⟨rfl,rfl⟩
   clear e1
   cases e2:(b ==ad)
   case true=>
    have HF:=hide (show dX dv=false from by rw[HD.out,HC.out,HS.out];simp[show b=ad by simpa using e2])
    go_wp2
    go_ret
    exact⟨fU HF.out.symm,aA.out⟩
   have HE2:=hide (show(b != ad)=true from by simp[bne,e2])
   go_wp2_with fail
   refine(y9 (bs.take k) (some ⟨bb,oo,none⟩) k bc b wr (by omega) Ip.out).mono ?_
   rintro e w1 ⟨rfl,hb⟩
   have HB1:=hide (HB.out.trans (hb.mono HB.out.size))
   have CU:=hide (aA.out.trans (hb.mono aA.out.size))
   clear hb
   cases e3:(bs.take k).contains b
   case true=>
    have HF:=hide (show dX dv=false from by rw[HD.out,HC.out,HS.out,e3];simp)
    go_wp2
    go_ret
    exact⟨fU HF.out.symm,CU.out⟩
   have HN:=hide (show iR ad [] bs=iR ad (bs.take (k+1)) (bs.drop (k+1))from by rw[HC.out,HS.out,zI.out,HE2.out,e3];simp)
   go_wp2
   go_roundw
   case rel=>exact⟨k+1,by omega,by go_num,HN,HB1⟩
   case measure=>simp[intOf];omega
  ·have hk':k=bn:=by omega
   have HN:=hide (show dX dv=((decide (0<bn))==(kd ==5))from by
    rw[HD.out,HC.out,List.drop_of_length_le (by have:=HLEN.out;omega),HLEN.out];rfl)
   cases e1:decide (0<bn)
   ·have Bc:¬ 0<bn:=by simpa using e1
    obtain rfl:bn=0:=by omega
    cases e2:(kd ==5)
    all_goals
     go_wp2
     go_ret
     exact⟨fU (by rw[HN.out,e2];rfl),aA.out⟩
   ·have Bc:0<bn:=by simpa using e1
    have HE:=hide e1
    clear e1
    cases e2:(kd ==5)
    all_goals
     go_wp2
     go_ret
     exact⟨fU (by rw[HN.out,e2,HE.out];rfl),aA.out⟩
end Go.Proofs.YtifkacnoiocebaaDoor
