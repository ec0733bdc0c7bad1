/- A part of the proof: G4, G2, G3, G5. -/
import Derived.Test.YtifkacnoiocebaaDoorNz0
import Derived.Deep.RegionWith
import Derived.Maps.OwnOps
import Derived.Maps.OwnSet
import Derived.Maps.Ext
import Derived.DeepKeys5
import Derived.Deep.RegionLaw
import Derived.StillTailTactics
set_option linter.unusedVariables false
set_option linter.unusedSimpArgs false
set_option maxRecDepth 100000
set_option maxHeartbeats 4000000
namespace Go.Proofs.YtifkacnoiocebaaDoor
open Go.ChangeAt Go.ChangeShapes Go.RowKit Go.WideShapes
structure bf where
 v:Int
 b:Int
 p:Int
def bf.ok (r:bf):Prop:=bG r.v∧bG r.b∧bG r.p
def bf.cells (r:bf):List Value:=[.int .i64 r.v,.int .i64 r.b,.int .i64 r.p]
theorem bf.len (r:bf):r.cells.length=3:=rfl
theorem bf.one (r:bf):∀u∈r.cells,u.oneCell'=true:=by
 intro u hu
 simp only[bf.cells,List.mem_cons,List.not_mem_nil,or_false]at hu
 rcases hu with rfl | rfl | rfl<;>rfl
def tZ (v b:Int):Bool:=bits .and .i64 v (15 / 2 ^ b.toNat)==0
def eG (v b p:Int):Bool:=decide (0≤b) && decide (b≤4) && decide (0≤v) && decide (v<16) && tZ v b && decide (0≤p) && decide (p≤3)
theorem xC (v b p:Int) (W:World) (hv:bG v) (hb:bG b) (hp:bG p):Calls Tryd.prog 92 #[.agg #[.int .i64 v,.int .i64 b,.int .i64 p]] W fun e W'=>e= .returned (.bool (eG v b p))∧Below W.heap.size W W':=by
 obtain⟨hv1,hv2⟩:=hv
 obtain⟨hb1,hb2⟩:=hb
 obtain⟨hp1,hp2⟩:=hp
 by_cases h1:0≤b
 case neg=>
  have h1':decide (0≤b)=false:=by simpa using h1
  go_enter Tryd.func92,Tryd.ntmps92
  go_wp2
  go_quiet (fail)
  go_wp2
  go_ret
  exact⟨by simp[eG,h1'],((Below.refl _ _).alloc (Nat.le_refl _) _).trans ⟨rfl,rfl,rfl,Nat.le_refl _,fun _ _=>rfl⟩⟩
 by_cases h2:b≤4
 case neg=>
  have h2':decide (b≤4)=false:=by simpa using h2
  go_enter Tryd.func92,Tryd.ntmps92
  go_wp2
  go_quiet (fail)
  go_wp2
  go_ret
  exact⟨by simp[eG,h2'],((Below.refl _ _).alloc (Nat.le_refl _) _).trans ⟨rfl,rfl,rfl,Nat.le_refl _,fun _ _=>rfl⟩⟩
 by_cases h3:0≤v
 case neg=>
  have h3':decide (0≤v)=false:=by simpa using h3
  go_enter Tryd.func92,Tryd.ntmps92
  go_wp2
  go_quiet (fail)
  go_wp2
  go_ret
  exact⟨by simp[eG,h3'],((Below.refl _ _).alloc (Nat.le_refl _) _).trans ⟨rfl,rfl,rfl,Nat.le_refl _,fun _ _=>rfl⟩⟩
 by_cases h4:v<16
 case neg=>
  have h4':decide (v<16)=false:=by simpa using h4
  go_enter Tryd.func92,Tryd.ntmps92
  go_wp2
  go_quiet (fail)
  go_wp2
  go_ret
  exact⟨by simp[eG,h4'],((Below.refl _ _).alloc (Nat.le_refl _) _).trans ⟨rfl,rfl,rfl,Nat.le_refl _,fun _ _=>rfl⟩⟩
 cases h5:(bits .and .i64 v (15 / 2 ^ b.toNat)==0)
 ·go_enter Tryd.func92,Tryd.ntmps92
  go_wp2
  go_quiet (fail)
  go_wp2
  go_ret
  exact⟨by simp[eG,tZ,h5],((Below.refl _ _).alloc (Nat.le_refl _) _).trans ⟨rfl,rfl,rfl,Nat.le_refl _,fun _ _=>rfl⟩⟩
 by_cases h6:0≤p
 case neg=>
  have h6':decide (0≤p)=false:=by simpa using h6
  go_enter Tryd.func92,Tryd.ntmps92
  go_wp2
  go_quiet (fail)
  go_wp2
  go_ret
  exact⟨by simp[eG,h6'],((Below.refl _ _).alloc (Nat.le_refl _) _).trans ⟨rfl,rfl,rfl,Nat.le_refl _,fun _ _=>rfl⟩⟩
 cases h7:decide (p≤3)
 ·go_enter Tryd.func92,Tryd.ntmps92
  go_wp2
  go_quiet (fail)
  go_wp2
  go_ret
  exact⟨by simp[eG,h7],((Below.refl _ _).alloc (Nat.le_refl _) _).trans ⟨rfl,rfl,rfl,Nat.le_refl _,fun _ _=>rfl⟩⟩
 ·have h8:p≤3:=by simpa using h7
  go_enter Tryd.func92,Tryd.ntmps92
  go_wp2
  go_quiet (fail)
  go_wp2
  go_ret
  exact⟨by simp[eG,tZ,h1,h2,h3,h4,h5,h6,h8],((Below.refl _ _).alloc (Nat.le_refl _) _).trans ⟨rfl,rfl,rfl,Nat.le_refl _,fun _ _=>rfl⟩⟩
def pQ (w:World) (b o:Nat) (r:bf):Prop:=
 w.cell? ⟨b,o,none⟩=some (.int .i64 r.v)∧w.cell? ⟨b,o+1,none⟩=some (.int .i64 r.b)∧w.cell? ⟨b,o+2,none⟩=some (.int .i64 r.p)
theorem pQ.below {w w':World} {B b o:Nat} {r:bf} (h:pQ w b o r) (hB:Below B w w') (hb:b<B):pQ w' b o r:=by
 unfold pQ at*
 have e:∀o,w'.cell? ⟨b,o,none⟩=w.cell? ⟨b,o,none⟩:=fun o=>hB.cell (p:=⟨b,o,none⟩) hb
 rw[e,e,e]
 exact h
theorem oU {w:World} {B b o n k:Nat} {l:List bf} {r:bf} (h:bD bf.cells 3 w B (some ⟨b,o,none⟩) n l) (hr:l[k]?=some r):b<B∧pQ w b (o+k*3) r:=
 ⟨(h.get hr).1,(h.get hr).2 0 _ rfl,(h.get hr).2 1 _ rfl,(h.get hr).2 2 _ rfl⟩
theorem uf (v b p:Int) (W:World) (B:Bool) (hv:bG v) (hb:bG b) (hp:bG p) (h:eG v b p=B):Calls Tryd.prog 92 #[.agg #[.int .i64 v,.int .i64 b,.int .i64 p]] W fun e W'=>e= .returned (.bool B)∧Below W.heap.size W W':=
 h▸xC v b p W hv hb hp
def kD (r x:bf):Bool:=(x.v ==r.v) && (x.b ==r.b)
def lM:List bf→List bf→Int
 |_,[]=>0
 |pre,r::t=>if eG r.v r.b r.p=false then 1 else if pre.any (kD r)then 5 else lM (pre++[r]) t
def dH (l:List bf):Int:=if 8<l.length then 2 else lM [] l
theorem vB {l:List bf} {k:Nat} {r:bf} (hr:l[k]?=some r):lM (l.take k) (l.drop k)=if eG r.v r.b r.p=false then 1 else if(l.take k).any (kD r)then 5 else lM (l.take (k+1)) (l.drop (k+1)):=by
 obtain⟨hk1,hk2⟩:=List.getElem?_eq_some_iff.1 hr
 rw[List.drop_eq_getElem_cons hk1,hk2,List.take_succ_eq_append_getElem hk1,hk2]
 rfl
theorem xD {l:List bf} {k j:Nat} {r x:bf} (hj:j<k) (hx:l[j]?=some x) (h:kD r x=true):(l.take k).any (kD r)=true:=by
 rw[List.any_eq_true]
 exact⟨x,List.mem_of_getElem? (i:=j) (by rw[List.getElem?_take_of_lt hj];exact hx),h⟩
theorem ql {l:List bf} {k:Nat} {r:bf} (h:∀j x,j<k→l[j]?=some x→kD r x=false):(l.take k).any (kD r)=false:=by
 rw[List.any_eq_false]
 intro x hx
 obtain⟨j,hj⟩:=List.getElem?_of_mem hx
 have hjk:j<k:=by
  have:=(List.getElem?_eq_some_iff.1 hj).1
  simp at this
  omega
 rw[List.getElem?_take_of_lt hjk]at hj
 simp[h j x hjk hj]
def lN (w:World) (b:Nat) (r:bf):Prop:=w.cell? ⟨b,0,none⟩=some (.int .i64 r.v)∧w.cell? ⟨b,1,none⟩=some (.int .i64 r.b)∧w.cell? ⟨b,2,none⟩=some (.int .i64 r.p)
theorem lN.below {w w':World} {B b:Nat} {r:bf} (h:lN w b r) (hB:Below B w w') (hb:b<B):lN w' b r:=by
 unfold lN at*
 have e:∀o,w'.cell? ⟨b,o,none⟩=w.cell? ⟨b,o,none⟩:=fun o=>hB.cell (p:=⟨b,o,none⟩) hb
 rw[e,e,e]
 exact h
theorem aj {a b:Int} (h:a=b):Ending.returned (.int .i64 a)= .returned (.int .i64 b):=by rw[h]
theorem xE (l:List bf) (b o n c:Nat) (W:World) (hn:n≤8) (hnc:n≤c) (hl:bD bf.cells 3 W W.heap.size (some ⟨b,o,none⟩) n l) (hok:∀r∈l,r.ok) (h0:0<n):
  Calls Tryd.prog 71 #[.slice (some ⟨b,o,none⟩) n c] W fun e W'=>e= .returned (.int .i64 (lM [] l))∧Below W.heap.size W W':=by
 have HL:=hide hl
 have HK:=hide hok
 clear hl hok
 have h8:decide ((8:Int)<(n:Int))=false:=by simp;omega
 go_enter Tryd.func71,Tryd.ntmps71
 go_wp2
 go_loopw [3,4,12] (fun _ _ i wr=>∃k:Nat,k≤n∧i= .int .i64 k∧Hid (lM [] l=lM (l.take k) (l.drop k))∧Below W.heap.size W wr) (fun _ _ i _=>n - (intOf i).toNat)
 case atStart=>exact⟨0,Nat.zero_le _,rfl,rfl,Below.refl _ _⟩
 case round=>
  obtain⟨k,hk,rfl,HC,hb⟩:=hrel
  have HB:=hide hb
  clear hb
  by_cases hlt:k<n
  ·obtain⟨r,hr⟩:∃r,l[k]?=some r:=⟨_,List.getElem?_eq_getElem (by have:=HL.out.1;omega)⟩
   obtain⟨nA,hra⟩:=oU HL.out hr
   obtain⟨q0,q1,q2⟩:=hra.below HB.out nA
   have HS:=hide (vB hr)
   obtain⟨⟨hv1,hv2⟩,⟨xG,xH⟩,⟨hp1,hp2⟩⟩:=HK.out r (List.mem_of_getElem? hr)
   clear hr hra
   obtain⟨rv,rb,rp⟩:=r
   cases h1:eG rv rb rp
   ·go_wp2_with fail
    refine(uf _ _ _ _ _ ⟨hv1,hv2⟩ ⟨xG,xH⟩ ⟨hp1,hp2⟩ h1).mono ?_
    rintro e w1 ⟨rfl,hb1⟩
    have HB1:=hide (HB.out.trans (((Below.refl _ wr).alloc HB.out.size _).trans (hb1.mono (by have:=HB.out.size;simp;omega))))
    clear hb1
    go_wp2
    go_ret
    exact⟨aj (by rw[HC.out,HS.out];simp[h1]),HB1.out⟩
   ·go_wp2_with fail
    refine(uf _ _ _ _ _ ⟨hv1,hv2⟩ ⟨xG,xH⟩ ⟨hp1,hp2⟩ h1).mono ?_
    rintro e w1 ⟨rfl,hb1⟩
    have HB1:=hide (HB.out.trans (((Below.refl _ wr).alloc HB.out.size _).trans (hb1.mono (by have:=HB.out.size;simp;omega))))
    have HX:=hide ((show lN (wr.alloc (.cells #[.int .i64 rv,.int .i64 rb,.int .i64 rp] 66)) wr.heap.size ⟨rv,rb,rp⟩from by simp[lN]).below hb1 (by simp))
    have hs1:wr.heap.size+1≤w1.heap.size:=by have:=hb1.size;simpa using this
    have Al:W.heap.size≤wr.heap.size:=HB.out.size
    clear hb1 q0 q1 q2
    go_wp2
    generalize hB0:wr.heap.size=B0 at*
    clear hB0 HB
    go_loopw [6,24] (fun _ i wi=>∃j:Nat,j≤k∧i= .int .i64 j∧Hid (∀i x,i<j→l[i]?=some x→kD ⟨rv,rb,rp⟩ x=false)∧Below W.heap.size W wi∧B0+1≤wi.heap.size∧lN wi B0 ⟨rv,rb,rp⟩) (fun _ i _=>k - (intOf i).toNat)
    case atStart=>exact⟨0,Nat.zero_le _,rfl,fun i x h=>absurd h (by omega),HB1.out,hs1,HX.out⟩
    case round=>
     obtain⟨j,hj,rfl,HN,hbi,hsi,hxi⟩:=hrel
     have pR:=hide hbi
     have DJ:=hide hxi
     clear hbi hxi HB1 HX hs1
     obtain⟨x0,x1,_⟩:=DJ.out
     by_cases hjk:j<k
     ·obtain⟨x,hx⟩:∃x,l[j]?=some x:=⟨_,List.getElem?_eq_getElem (by have:=HL.out.1;omega)⟩
      obtain⟨xI,hxa⟩:=oU HL.out hx
      obtain⟨y0,y1,y2⟩:=hxa.below pR.out xI
      have xJ:=hide hx
      clear hx hxa
      obtain⟨xv,xb,xp⟩:=x
      have z0:∀ob,(wr.alloc ob).cell? ⟨B0,0,none⟩=some (.int .i64 rv):=fun ob=>(World.cell?_alloc_lt _ _ _ (by show B0<_;omega)).trans x0
      have z1:∀ob,(wr.alloc ob).cell? ⟨B0,1,none⟩=some (.int .i64 rb):=fun ob=>(World.cell?_alloc_lt _ _ _ (by show B0<_;omega)).trans x1
      clear x0 x1
      have BL:=pR.out.size
      cases e1:(xv ==rv)
      ·go_wp2
       go_roundw
       case rel=>exact⟨j+1,by omega,by go_num,hide (fun i x hi hx=>by
        rcases(by omega:i<j∨i=j)with h | rfl
        ·exact HN.out i x h hx
        ·have e:=xJ.out;rw[e]at hx;cases hx;simp[kD,e1]),pR.out.alloc BL _,by simp;omega,DJ.out.below ((Below.refl _ _).alloc (Nat.le_refl _) _) (by omega)⟩
       case measure=>simp[intOf];omega
      cases e2:(xb ==rb)
      ·go_wp2
       go_roundw
       case rel=>exact⟨j+1,by omega,by go_num,hide (fun i x hi hx=>by
        rcases(by omega:i<j∨i=j)with h | rfl
        ·exact HN.out i x h hx
        ·have e:=xJ.out;rw[e]at hx;cases hx;simp[kD,e2]),pR.out.alloc BL _,by simp;omega,DJ.out.below ((Below.refl _ _).alloc (Nat.le_refl _) _) (by omega)⟩
       case measure=>simp[intOf];omega
      have HA:=hide (xD (r:=⟨rv,rb,rp⟩) hjk xJ.out (by simp[kD,e1,e2]))
      go_wp2
      go_ret
      exact⟨aj (by rw[HC.out,HS.out,HA.out];simp[h1]),pR.out.alloc BL _⟩
     ·have BM:j=k:=by omega
      subst BM
      have HA:=hide (ql (r:=⟨rv,rb,rp⟩) HN.out)
      go_wp2
      go_roundw
      case rel=>exact⟨j+1,by omega,by go_num,hide (by rw[HC.out,HS.out,HA.out];simp[h1]),pR.out⟩
      case measure=>simp[intOf];omega
  ·have hkn:k=n:=by omega
   subst hkn
   have HT:=hide (show lM (l.take k) (l.drop k)=0 from by rw[List.drop_of_length_le (by have:=HL.out.1;omega)];rfl)
   go_wp2
   go_ret
   exact⟨aj (by rw[HC.out,HT.out]),HB.out⟩
theorem yM (A:Option Addr) (c:Nat) (W:World):Calls Tryd.prog 71 #[.slice A 0 c] W fun e W'=>e= .returned (.int .i64 0)∧W=W':=by
 go_enter Tryd.func71,Tryd.ntmps71
 go_wp2
 refine wp_loop_rounds 1 ?_
 rw[rounds_succ]
 go_wp2
 go_ret
 exact⟨rfl,rfl⟩
theorem vR (A:Option Addr) (n c:Nat) (W:World) (h:8<n):Calls Tryd.prog 71 #[.slice A n c] W fun e W'=>e= .returned (.int .i64 2)∧W=W':=by
 have h8:decide ((8:Int)<(n:Int))=true:=by simp;omega
 go_enter Tryd.func71,Tryd.ntmps71
 go_wp2
 go_ret
 exact⟨rfl,rfl⟩
theorem lD (l:List bf) (A:Option Addr) (n c:Nat) (W:World) (hnc:n≤c) (hl:bD bf.cells 3 W W.heap.size A n l) (hok:∀r∈l,r.ok):
  Calls Tryd.prog 71 #[.slice A n c] W fun e W'=>e= .returned (.int .i64 (dH l))∧Below W.heap.size W W':=by
 rcases Nat.eq_zero_or_pos n with rfl | h0
 ·have:l=[]:=List.eq_nil_of_length_eq_zero hl.1
  subst this
  exact(yM A c W).mono fun e w' ⟨he,hw⟩=>⟨he,hw▸Below.refl _ _⟩
 ·rcases Nat.lt_or_ge 8 n with h8 | h8
  ·have e:dH l=2:=by unfold dH;rw[if_pos (by rw[hl.1];exact h8)]
   rw[e]
   exact(vR A n c W h8).mono fun e w' ⟨he,hw⟩=>⟨he,hw▸Below.refl _ _⟩
  ·have e:dH l=lM [] l:=by unfold dH;rw[if_neg (by rw[hl.1];omega)]
   rw[e]
   obtain⟨b,o,rfl,hb,_⟩:=hl.2 h0
   exact xE l b o n c W h8 hnc hl hok h0
theorem ownsRow_below {w w':World} {base e s n:Nat} {v:Value} {xs:List Value} (h:w.ownsRow base e s v n xs) (hb:Below w.heap.size w w'):w'.ownsRow base e s v n xs:=
 h.kept (row:=none) ⟨hb.os,hb.tape,hb.output,hb.size,fun k hk _=>hb.block k hk⟩ (by cases hv:v.ownBlock<;>simp)
theorem Tryd.infoRoute:(Tryd.prog.info? 66).map (fun i=>(i.zero,i.size,i.bytes))=some (some (.agg #[.int .i64 0,.int .i64 0,.int .i64 0]),3,24):=by kernel_rfl
section
variable {H:Type} {enc:TypeId×Value→H} {w:World} {base:Nat} {spare:Nat→Bool} {held:Bool} {r:Reach} {b0:Nat}
end
end Go.Proofs.YtifkacnoiocebaaDoor
namespace Go.Proofs.YtifkacnoiocebaaDoor.vC
abbrev EF:=Nat→Bool
abbrev Fn:=EF→Bool
structure Node where
 v:Nat
 lo:Nat
 hi:Nat
section
variable {vars:Nat} {ns:List Node}
end
end Go.Proofs.YtifkacnoiocebaaDoor.vC
namespace Go.Proofs.YtifkacnoiocebaaDoor.vC
def Below (K:Nat) (F:Fn):Prop:=∀x y:EF,(∀u,u<K→x u=y u)→F x=F y
section
variable {vars:Nat} {ns:List Node}
end
structure St where
 vars:Nat
 most:Nat
 ns:List Node
 full:Bool
end Go.Proofs.YtifkacnoiocebaaDoor.vC
namespace Go.Proofs.YtifkacnoiocebaaDoor
open Go.Maps Go.RowKit Go.WideElems
section
variable {α:Type} {P:Program} {kt:TypeId} {key:α→Value} {dom:α→Prop} {w w':World} {b:Nat} {M:α→Option Value}
end
section
variable {α:Type} {P:Program} {kt:TypeId} {key:α→Value} {dom:α→Prop} {b:Nat} {M:α→Option Value} (w:World)
end
end Go.Proofs.YtifkacnoiocebaaDoor
namespace Go.Proofs.YtifkacnoiocebaaDoor
open vC Go.Maps Go.RowKit
abbrev F6:=Nat×Nat×Nat
section
variable {w w':World} {B g nb kb ib cap:Nat} {A:St} {K T:F6→Option Value}
end
def jg (w:World) (B:Nat) (A:Option Addr) (n:Nat) (l:List Int):Prop:=
 l.length=n∧(∀x∈l,-9223372036854775808≤x∧x≤9223372036854775807)∧(0<n→∃b o,A=some ⟨b,o,none⟩∧b<B∧∀(k:Nat) (x:Int),l[k]?=some x→w.cell? ⟨b,o+k,none⟩=some (.int .i64 x))
theorem jg.below {w w':World} {B B' n:Nat} {A:Option Addr} {l:List Int} (h:jg w B A n l) (hB:RowKit.Below B w w') (hB':B≤B'):jg w' B' A n l:=
 ⟨h.1,h.2.1,fun h0=>by
  obtain⟨b,o,e,hb,hg⟩:=h.2.2 h0
  exact⟨b,o,e,by omega,fun k x hx=>(hB.cell (p:=⟨b,o+k,none⟩) hb).trans (hg k x hx)⟩⟩
def ng (s d p q:Nat):Array Value:=#[.int .u16 s,.int .i64 4,.int .i64 0,.int .u16 p,.int .i64 3,.int .i64 8,.int .u16 d,.int .i64 4,.int .i64 4,.int .u16 q,.int .i64 3,.int .i64 11]
theorem zM (w:World) (s d p q:Nat) (hs:s<65536) (hd:d<65536) (hp:p<256) (hq:q<256):
  Calls Tryd.prog 77 #[.agg #[.int .u16 s,.int .u16 d,.int .u8 p,.int .u8 q]] w fun e W'=>e= .returned (.slice (some ⟨w.heap.size+1,0,none⟩) 4 4)∧∃o0,W'=(w.alloc o0).alloc (.cells (ng s d p q) 124):=by
 go_enter Tryd.func77,Tryd.ntmps77
 go_wp2
 go_ret
 exact⟨rfl,_,rfl⟩
structure rG where
 set:Nat
 bits:Nat
 first:Nat
def qb (s d p q:Nat):List rG:=[⟨s,4,0⟩,⟨p,3,8⟩,⟨d,4,4⟩,⟨q,3,11⟩]
theorem BN (s d p q k:Nat) (hs:s<65536) (hd:d<65536) (hp:p<256) (hq:q<256) (hk:k<4):∃x:rG,(qb s d p q)[k]?=some x∧x.set<65536∧x.bits≤4∧x.first+x.bits≤14∧
  (ng s d p q)[k*3]?=some (.int .u16 x.set)∧(ng s d p q)[k*3+1]?=some (.int .i64 x.bits)∧(ng s d p q)[k*3+2]?=some (.int .i64 x.first):=by
 match k,hk with
 |0,_=>exact⟨_,rfl,hs,(by show 4≤4;omega),(by show 0+4≤14;omega),rfl,rfl,rfl⟩
 |1,_=>exact⟨_,rfl,(by show p<_;omega),(by show 3≤4;omega),(by show 8+3≤14;omega),rfl,rfl,rfl⟩
 |2,_=>exact⟨_,rfl,hd,(by show 4≤4;omega),(by show 4+4≤14;omega),rfl,rfl,rfl⟩
 |3,_=>exact⟨_,rfl,(by show q<_;omega),(by show 3≤4;omega),(by show 11+3≤14;omega),rfl,rfl,rfl⟩
theorem wX (v:Nat) (h:v≤16):wrap64 ((2:Int) ^ v)=2 ^ v:=by
 have:∀i:Fin 17,wrap64 ((2:Int) ^ i.val)=2 ^ i.val:=by decide+kernel
 exact this ⟨v,by omega⟩
end Go.Proofs.YtifkacnoiocebaaDoor
namespace Go.Proofs.YtifkacnoiocebaaDoor
open Go.RowKit
theorem C8 (set n:Nat):(((set:Int) / 2 ^ n).tmod 2==1)=set.testBit n:=by
 rw[qp]
 have h:=rQ set n
 rw[Nat.and_one_is_mod]at h
 rw[← h]
 have e:((set / 2 ^ n:Nat):Int).tmod 2=((set / 2 ^ n % 2:Nat):Int):=by
  generalize set / 2 ^ n=m
  rw[Int.tmod_eq_emod_of_nonneg (by omega)];omega
 rw[e]
 rcases Nat.mod_two_eq_zero_or_one (set / 2 ^ n)with h0 | h0<;>rw[h0]<;>rfl
theorem xK (w:World) (set n:Nat) (hs:set<65536) (hn:n<16) (B:Bool) (hB:set.testBit n=B):
  Calls Tryd.prog 45 #[.int .i64 set,.int .i64 n] w fun e W'=>e= .returned (.bool B)∧w=W':=by
 have h1:dx n 0 15=true:=by simp[dx];omega
 have hb:=hide ((C8 set n).trans hB)
 clear hB
 go_enter Tryd.func45,Tryd.ntmps45
 go_wp2_with fail
 refine(bH _ _ _ _).mono ?_
 rintro e w' ⟨rfl,rfl⟩
 rw[h1]
 go_wp2
 go_ret
 refine⟨?_,rfl⟩
 rw[← hb.out];rfl
open vC
theorem tb (c i:Nat):c.testBit i=decide (c / 2 ^ i % 2=1):=Nat.testBit_eq_decide_div_mod_eq
open Go.Maps
end Go.Proofs.YtifkacnoiocebaaDoor
namespace Go.Proofs.YtifkacnoiocebaaDoor
open Go.ChangeAt Go.ChangeShapes Go.RowKit Go.WideShapes
def xL (d:Int) (b:Nat):Int:=d / 2 ^ (4 - b)*2 ^ (4 - b)
theorem DK (P:Int→Nat→Prop) [∀d b,Decidable (P d b)] (h:∀(i:Fin 16) (j:Fin 5),P (i.val:Int) j.val) (d:Int) (b:Nat) (h0:0≤d) (h1:d≤15) (hb:b≤4):P d b:=by
 have:=h ⟨d.toNat,by omega⟩ ⟨b,by omega⟩
 simpa[Int.toNat_of_nonneg h0]using this
theorem BO (d:Int) (b:Nat) (h0:0≤d) (h1:d≤15) (hb:b≤4):(xL d b ==d)=tZ d b:=by
 have:=DK (fun d b=>(xL d b ==d)=(bits .and .i64 d (15 / 2 ^ b)==0)) (by decide+kernel) d b h0 h1 hb
 rw[this,tZ];simp
theorem bL {P:Program} {f:FuncId} {args:Array Value} {w:World} {n:Nat} {v:Value} (h:Calls P f args (w.drewN n) fun e w'=>e= .returned v∧w.drewN n=w'):Calls P f args (w.drewN n) fun e w''=>e= .returned v∧∃m,w''=w.drewN m:=
 h.mono fun _ _ ⟨he,hm⟩=>⟨he,n,hm.symm⟩
theorem iE {a b:Bool} (h:a=b):Ending.returned (.bool a)= .returned (.bool b):=by rw[h]
theorem BP (d:Int) (b:Nat) (W:World) (h0:0≤d) (h1:d≤15) (hb:b≤4) (r:Int) (hr:xL d b=r):
  Calls Tryd.prog 103 #[.int .i64 d,.int .i64 (b:Int)] W fun e W'=>e= .returned (.int .i64 r)∧W=W':=by
 have HR:=hide hr
 clear hr
 match b,hb with
 |0,_ | 1,_ | 2,_ | 3,_ | 4,_=>
  go_enter Tryd.func103,Tryd.ntmps103
  go_wp2
  go_ret
  refine⟨aj ?_,rfl⟩
  rw[← HR.out]
  simp[xL]
theorem eD {n lo hi:Int} {B:Bool} (W:World) (h:dx n lo hi=B):Calls Tryd.prog 46 #[.int .i64 n,.int .i64 lo,.int .i64 hi] W fun e W'=>e= .returned (.bool B)∧W=W':=h▸bH n lo hi W
theorem yN (v b p:Int) (W:World) (hv:bG v) (hb:bG b) (hp:bG p):Calls Tryd.prog 93 #[.agg #[.int .i64 v,.int .i64 b,.int .i64 p]] W fun e W'=>e= .returned (.bool (eG v b p))∧Below W.heap.size W W':=by
 obtain⟨hv1,hv2⟩:=hv
 obtain⟨hb1,hb2⟩:=hb
 obtain⟨hp1,hp2⟩:=hp
 cases e1:dx b 0 4
 ·have oK:=e1
  simp only[dx,Bool.and_eq_false_iff,decide_eq_false_iff_not]at oK
  have HF:=hide (show eG v b p=false from by simp[eG];omega)
  rw[HF.out]
  go_enter Tryd.func93,Tryd.ntmps93
  go_wp2
  go_quiet ((first | (go_at_call_of 46 (Value.int .i64 4);exact bL (eD _ e1)) | (go_at_call_of 46 (Value.int .i64 15);exact bL (eD _ e2)) | (go_at_call 103;exact bL (HT.out _)) | (go_at_call_of 46 (Value.int .i64 3);exact bL (eD _ e4))))
  go_wp2
  go_ret
  exact⟨rfl,((Below.refl _ _).alloc (Nat.le_refl _) _).trans ⟨rfl,rfl,rfl,Nat.le_refl _,fun _ _=>rfl⟩⟩
 have oK:=e1
 simp only[dx,Bool.and_eq_true,decide_eq_true_eq]at oK
 obtain⟨hb3,hb4⟩:=oK
 obtain⟨bn,rfl⟩:∃n:Nat,b=(n:Int):=⟨b.toNat,by omega⟩
 cases e2:dx v 0 15
 ·have e2':=e2
  simp only[dx,Bool.and_eq_false_iff,decide_eq_false_iff_not]at e2'
  have HF:=hide (show eG v bn p=false from by simp[eG];omega)
  rw[HF.out]
  go_enter Tryd.func93,Tryd.ntmps93
  go_wp2
  go_quiet ((first | (go_at_call_of 46 (Value.int .i64 4);exact bL (eD _ e1)) | (go_at_call_of 46 (Value.int .i64 15);exact bL (eD _ e2)) | (go_at_call 103;exact bL (HT.out _)) | (go_at_call_of 46 (Value.int .i64 3);exact bL (eD _ e4))))
  go_wp2
  go_ret
  exact⟨rfl,((Below.refl _ _).alloc (Nat.le_refl _) _).trans ⟨rfl,rfl,rfl,Nat.le_refl _,fun _ _=>rfl⟩⟩
 have e2':=e2
 simp only[dx,Bool.and_eq_true,decide_eq_true_eq]at e2'
 obtain⟨hv3,hv4⟩:=e2'
 obtain⟨r,hr⟩:∃r,xL v bn=r:=⟨_,rfl⟩
 have HM:=hide (BO v bn hv3 hv4 (by omega))
 rw[hr]at HM
 have HT:Hid (∀w1,Calls Tryd.prog 103 #[.int .i64 v,.int .i64 (bn:Int)] w1 fun e W'=>e= .returned (.int .i64 r)∧w1=W'):=hide (fun w1=>BP v bn w1 hv3 hv4 (by omega) r hr)
 clear hr
 cases e3:(r ==v)
 ·have HF:=hide (show eG v bn p=false from by simp[eG];rw[← HM.out,e3];simp)
  rw[HF.out]
  go_enter Tryd.func93,Tryd.ntmps93
  go_wp2
  go_quiet ((first | (go_at_call_of 46 (Value.int .i64 4);exact bL (eD _ e1)) | (go_at_call_of 46 (Value.int .i64 15);exact bL (eD _ e2)) | (go_at_call 103;exact bL (HT.out _)) | (go_at_call_of 46 (Value.int .i64 3);exact bL (eD _ e4))))
  go_wp2
  go_ret
  exact⟨rfl,((Below.refl _ _).alloc (Nat.le_refl _) _).trans ⟨rfl,rfl,rfl,Nat.le_refl _,fun _ _=>rfl⟩⟩
 cases e4:dx p 0 3
 ·have e4':=e4
  simp only[dx,Bool.and_eq_false_iff,decide_eq_false_iff_not]at e4'
  have HF:=hide (show eG v bn p=false from by simp[eG];omega)
  rw[HF.out]
  go_enter Tryd.func93,Tryd.ntmps93
  go_wp2
  go_quiet ((first | (go_at_call_of 46 (Value.int .i64 4);exact bL (eD _ e1)) | (go_at_call_of 46 (Value.int .i64 15);exact bL (eD _ e2)) | (go_at_call 103;exact bL (HT.out _)) | (go_at_call_of 46 (Value.int .i64 3);exact bL (eD _ e4))))
  go_wp2
  go_ret
  exact⟨rfl,((Below.refl _ _).alloc (Nat.le_refl _) _).trans ⟨rfl,rfl,rfl,Nat.le_refl _,fun _ _=>rfl⟩⟩
 ·have e4':=e4
  simp only[dx,Bool.and_eq_true,decide_eq_true_eq]at e4'
  have HF:=hide (show eG v bn p=true from by simp[eG];rw[← HM.out,e3];simp;omega)
  rw[HF.out]
  go_enter Tryd.func93,Tryd.ntmps93
  go_wp2
  go_quiet ((first | (go_at_call_of 46 (Value.int .i64 4);exact bL (eD _ e1)) | (go_at_call_of 46 (Value.int .i64 15);exact bL (eD _ e2)) | (go_at_call 103;exact bL (HT.out _)) | (go_at_call_of 46 (Value.int .i64 3);exact bL (eD _ e4))))
  go_wp2
  go_ret
  exact⟨rfl,((Below.refl _ _).alloc (Nat.le_refl _) _).trans ⟨rfl,rfl,rfl,Nat.le_refl _,fun _ _=>rfl⟩⟩
theorem vD (v b p:Int) (W:World) (B:Bool) (hv:bG v) (hb:bG b) (hp:bG p) (h:eG v b p=B):Calls Tryd.prog 93 #[.agg #[.int .i64 v,.int .i64 b,.int .i64 p]] W fun e W'=>e= .returned (.bool B)∧Below W.heap.size W W':=
 h▸yN v b p W hv hb hp
theorem aP (w:World) (n:Nat) (B:Nat):Below B w (w.drewN n):=⟨rfl,rfl,rfl,Nat.le_refl _,fun _ _=>rfl⟩
theorem yO (l:List bf) (b o n c:Nat) (W:World) (hn:n≤8) (hnc:n≤c) (hl:bD bf.cells 3 W W.heap.size (some ⟨b,o,none⟩) n l) (hok:∀r∈l,r.ok) (h0:0<n):
  Calls Tryd.prog 74 #[.slice (some ⟨b,o,none⟩) n c] W fun e W'=>e= .returned (.int .i64 (lM [] l))∧Below W.heap.size W W':=by
 have HL:=hide hl
 have HK:=hide hok
 clear hl hok
 have h8:decide ((8:Int)<(n:Int))=false:=by simp;omega
 go_enter Tryd.func74,Tryd.ntmps74
 go_wp2
 go_loopw [3] (fun i wr=>∃k:Nat,k≤n∧i= .int .i64 k∧Hid (lM [] l=lM (l.take k) (l.drop k))∧Below W.heap.size W wr) (fun i _=>n - (intOf i).toNat)
 case atStart=>exact⟨0,Nat.zero_le _,rfl,rfl,Below.refl _ _⟩
 case round=>
  obtain⟨k,hk,rfl,HC,hb⟩:=hrel
  have HB:=hide hb
  clear hb
  by_cases hlt:k<n
  ·obtain⟨r,hr⟩:∃r,l[k]?=some r:=⟨_,List.getElem?_eq_getElem (by have:=HL.out.1;omega)⟩
   obtain⟨nA,hra⟩:=oU HL.out hr
   have Av:=hide hra
   obtain⟨q0,q1,q2⟩:=hra.below HB.out nA
   have HS:=hide (vB hr)
   obtain⟨⟨hv1,hv2⟩,⟨xG,xH⟩,⟨hp1,hp2⟩⟩:=HK.out r (List.mem_of_getElem? hr)
   clear hr hra
   obtain⟨rv,rb,rp⟩:=r
   cases h1:eG rv rb rp
   ·go_wp2_with fail
    refine(vD _ _ _ _ _ ⟨hv1,hv2⟩ ⟨xG,xH⟩ ⟨hp1,hp2⟩ h1).mono ?_
    rintro e w1 ⟨rfl,hb1⟩
    have HB1:=hide (HB.out.trans (hb1.mono HB.out.size))
    clear hb1
    go_wp2
    go_ret
    exact⟨aj (by rw[HC.out,HS.out];simp[h1]),HB1.out⟩
   ·go_wp2_with fail
    refine(vD _ _ _ _ _ ⟨hv1,hv2⟩ ⟨xG,xH⟩ ⟨hp1,hp2⟩ h1).mono ?_
    rintro e w1 ⟨rfl,hb1⟩
    have HB1:=hide (HB.out.trans (hb1.mono HB.out.size))
    clear hb1 q0 q1 q2
    go_wp2
    go_loopw [4] (fun i wi=>∃j:Nat,j≤k∧i= .int .i64 j∧Hid (∀i x,i<j→l[i]?=some x→kD ⟨rv,rb,rp⟩ x=false)∧Below W.heap.size W wi) (fun i _=>k - (intOf i).toNat)
    case atStart=>exact⟨0,Nat.zero_le _,rfl,fun i x h=>absurd h (by omega),HB1.out⟩
    case round=>
     obtain⟨j,hj,rfl,HN,hbi⟩:=hrel
     have pR:=hide hbi
     clear hbi HB1
     by_cases hjk:j<k
     ·obtain⟨x,hx⟩:∃x,l[j]?=some x:=⟨_,List.getElem?_eq_getElem (by have:=HL.out.1;omega)⟩
      obtain⟨xI,hxa⟩:=oU HL.out hx
      obtain⟨y0,y1,y2⟩:=hxa.below pR.out xI
      obtain⟨z0,z1,z2⟩:=Av.out.below pR.out nA
      have xJ:=hide hx
      clear hx hxa
      obtain⟨xv,xb,xp⟩:=x
      cases e1:(xv ==rv)
      ·go_wp2
       go_quiet (fail)
       go_wp2
       go_roundw
       case rel=>exact⟨j+1,by omega,by go_num,hide (fun i x hi hx=>by
        rcases(by omega:i<j∨i=j)with h | rfl
        ·exact HN.out i x h hx
        ·have e:=xJ.out;rw[e]at hx;cases hx;simp[kD,e1]),pR.out.trans (aP _ _ _)⟩
       case measure=>simp[intOf];omega
      cases e2:(xb ==rb)
      ·go_wp2
       go_quiet (fail)
       go_wp2
       go_roundw
       case rel=>exact⟨j+1,by omega,by go_num,hide (fun i x hi hx=>by
        rcases(by omega:i<j∨i=j)with h | rfl
        ·exact HN.out i x h hx
        ·have e:=xJ.out;rw[e]at hx;cases hx;simp[kD,e2]),pR.out.trans (aP _ _ _)⟩
       case measure=>simp[intOf];omega
      have HA:=hide (xD (r:=⟨rv,rb,rp⟩) hjk xJ.out (by simp[kD,e1,e2]))
      go_wp2
      go_quiet (fail)
      go_wp2
      go_ret
      exact⟨aj (by rw[HC.out,HS.out,HA.out];simp[h1]),pR.out.trans (aP _ _ _)⟩
     ·have BM:j=k:=by omega
      subst BM
      have HA:=hide (ql (r:=⟨rv,rb,rp⟩) HN.out)
      go_wp2
      go_roundw
      case rel=>exact⟨j+1,by omega,by go_num,hide (by rw[HC.out,HS.out,HA.out];simp[h1]),pR.out⟩
      case measure=>simp[intOf];omega
  ·have hkn:k=n:=by omega
   subst hkn
   have HT:=hide (show lM (l.take k) (l.drop k)=0 from by rw[List.drop_of_length_le (by have:=HL.out.1;omega)];rfl)
   go_wp2
   go_ret
   exact⟨aj (by rw[HC.out,HT.out]),HB.out⟩
theorem zN (A:Option Addr) (c:Nat) (W:World):Calls Tryd.prog 74 #[.slice A 0 c] W fun e W'=>e= .returned (.int .i64 0)∧W=W':=by
 go_enter Tryd.func74,Tryd.ntmps74
 go_wp2
 refine wp_loop_rounds 1 ?_
 rw[rounds_succ]
 go_wp2
 go_ret
 exact⟨rfl,rfl⟩
theorem xM (A:Option Addr) (n c:Nat) (W:World) (h:8<n):Calls Tryd.prog 74 #[.slice A n c] W fun e W'=>e= .returned (.int .i64 2)∧W=W':=by
 have h8:decide ((8:Int)<(n:Int))=true:=by simp;omega
 go_enter Tryd.func74,Tryd.ntmps74
 go_wp2
 go_ret
 exact⟨rfl,rfl⟩
theorem l8 (l:List bf) (A:Option Addr) (n c:Nat) (W:World) (hnc:n≤c) (hl:bD bf.cells 3 W W.heap.size A n l) (hok:∀r∈l,r.ok):
  Calls Tryd.prog 74 #[.slice A n c] W fun e W'=>e= .returned (.int .i64 (dH l))∧Below W.heap.size W W':=by
 rcases Nat.eq_zero_or_pos n with rfl | h0
 ·have:l=[]:=List.eq_nil_of_length_eq_zero hl.1
  subst this
  exact(zN A c W).mono fun e w' ⟨he,hw⟩=>⟨he,hw▸Below.refl _ _⟩
 ·rcases Nat.lt_or_ge 8 n with h8 | h8
  ·have e:dH l=2:=by unfold dH;rw[if_pos (by rw[hl.1];exact h8)]
   rw[e]
   exact(xM A n c W h8).mono fun e w' ⟨he,hw⟩=>⟨he,hw▸Below.refl _ _⟩
  ·have e:dH l=lM [] l:=by unfold dH;rw[if_neg (by rw[hl.1];omega)]
   rw[e]
   obtain⟨b,o,rfl,hb,_⟩:=hl.2 h0
   exact yO l b o n c W h8 hnc hl hok h0
end Go.Proofs.YtifkacnoiocebaaDoor
namespace Go.Proofs.YtifkacnoiocebaaDoor
open Go.RowKit
end Go.Proofs.YtifkacnoiocebaaDoor
