/- A part of the proof: G4, G2, G3, G5, NetAt. -/
import Derived.Test.YtifkacnoiocebaaDoorNk0
import Derived.Deep.RegionWith
import Derived.Maps.OwnOps
import Derived.Maps.OwnSet
import Derived.Maps.Ext
import Derived.DeepKeys5
import Derived.Deep.RegionLaw
import Derived.StillTailTactics
import Derived.Deep.RegionHeld3
import Derived.BigRegion
import Derived.ChangeAlike
set_option linter.unusedVariables false
set_option linter.unusedSimpArgs false
set_option maxRecDepth 100000
set_option maxHeartbeats 4000000
namespace Go.Proofs.YtifkacnoiocebaaDoor
open Go.ChangeAt Go.ChangeShapes Go.RowKit Go.WideShapes
structure aI where
 v:Int
 b:Int
 p:Int
def aI.ok (r:aI):Prop:=bB r.v∧bB r.b∧bB r.p
def aI.cells (r:aI):List Value:=[.int .i64 r.v,.int .i64 r.b,.int .i64 r.p]
theorem aI.len (r:aI):r.cells.length=3:=rfl
theorem aI.one (r:aI):∀u∈r.cells,u.oneCell'=true:=by
 intro u hu
 simp only[aI.cells,List.mem_cons,List.not_mem_nil,or_false]at hu
 rcases hu with rfl | rfl | rfl<;>rfl
def Ab (v b:Int):Bool:=bits .and .i64 v (15 / 2 ^ b.toNat)==0
def gH (v b p:Int):Bool:=decide (0≤b) && decide (b≤4) && decide (0≤v) && decide (v<16) && Ab v b && decide (0≤p) && decide (p≤3)
theorem wX (v b p:Int) (W:World) (hv:bB v) (hb:bB b) (hp:bB p):Calls Tryd.prog 92 #[.agg #[.int .i64 v,.int .i64 b,.int .i64 p]] W fun e W'=>e= .returned (.bool (gH v b p))∧Below W.heap.size W W':=by
 obtain⟨hv1,hv2⟩:=hv
 obtain⟨hb1,hb2⟩:=hb
 obtain⟨hp1,hp2⟩:=hp
 by_cases h1:0≤b
 case neg=>
  have h1':decide (0≤b)=false:=by simpa using h1
  go_enter Tryd.func92,Tryd.ntmps92
  go_wp2
  go_quiet (fail)
  go_wp2
  go_ret
  exact⟨by simp[gH,h1'],((Below.refl _ _).alloc (Nat.le_refl _) _).trans ⟨rfl,rfl,rfl,Nat.le_refl _,fun _ _=>rfl⟩⟩
 by_cases h2:b≤4
 case neg=>
  have h2':decide (b≤4)=false:=by simpa using h2
  go_enter Tryd.func92,Tryd.ntmps92
  go_wp2
  go_quiet (fail)
  go_wp2
  go_ret
  exact⟨by simp[gH,h2'],((Below.refl _ _).alloc (Nat.le_refl _) _).trans ⟨rfl,rfl,rfl,Nat.le_refl _,fun _ _=>rfl⟩⟩
 by_cases h3:0≤v
 case neg=>
  have h3':decide (0≤v)=false:=by simpa using h3
  go_enter Tryd.func92,Tryd.ntmps92
  go_wp2
  go_quiet (fail)
  go_wp2
  go_ret
  exact⟨by simp[gH,h3'],((Below.refl _ _).alloc (Nat.le_refl _) _).trans ⟨rfl,rfl,rfl,Nat.le_refl _,fun _ _=>rfl⟩⟩
 by_cases h4:v<16
 case neg=>
  have h4':decide (v<16)=false:=by simpa using h4
  go_enter Tryd.func92,Tryd.ntmps92
  go_wp2
  go_quiet (fail)
  go_wp2
  go_ret
  exact⟨by simp[gH,h4'],((Below.refl _ _).alloc (Nat.le_refl _) _).trans ⟨rfl,rfl,rfl,Nat.le_refl _,fun _ _=>rfl⟩⟩
 cases h5:(bits .and .i64 v (15 / 2 ^ b.toNat)==0)
 ·go_enter Tryd.func92,Tryd.ntmps92
  go_wp2
  go_quiet (fail)
  go_wp2
  go_ret
  exact⟨by simp[gH,Ab,h5],((Below.refl _ _).alloc (Nat.le_refl _) _).trans ⟨rfl,rfl,rfl,Nat.le_refl _,fun _ _=>rfl⟩⟩
 by_cases h6:0≤p
 case neg=>
  have h6':decide (0≤p)=false:=by simpa using h6
  go_enter Tryd.func92,Tryd.ntmps92
  go_wp2
  go_quiet (fail)
  go_wp2
  go_ret
  exact⟨by simp[gH,h6'],((Below.refl _ _).alloc (Nat.le_refl _) _).trans ⟨rfl,rfl,rfl,Nat.le_refl _,fun _ _=>rfl⟩⟩
 cases h7:decide (p≤3)
 ·go_enter Tryd.func92,Tryd.ntmps92
  go_wp2
  go_quiet (fail)
  go_wp2
  go_ret
  exact⟨by simp[gH,h7],((Below.refl _ _).alloc (Nat.le_refl _) _).trans ⟨rfl,rfl,rfl,Nat.le_refl _,fun _ _=>rfl⟩⟩
 ·have h8:p≤3:=by simpa using h7
  go_enter Tryd.func92,Tryd.ntmps92
  go_wp2
  go_quiet (fail)
  go_wp2
  go_ret
  exact⟨by simp[gH,Ab,h1,h2,h3,h4,h5,h6,h8],((Below.refl _ _).alloc (Nat.le_refl _) _).trans ⟨rfl,rfl,rfl,Nat.le_refl _,fun _ _=>rfl⟩⟩
def oV (w:World) (b o:Nat) (r:aI):Prop:=
 w.cell? ⟨b,o,none⟩=some (.int .i64 r.v)∧w.cell? ⟨b,o+1,none⟩=some (.int .i64 r.b)∧w.cell? ⟨b,o+2,none⟩=some (.int .i64 r.p)
theorem oV.below {w w':World} {B b o:Nat} {r:aI} (h:oV w b o r) (hB:Below B w w') (hb:b<B):oV w' b o r:=by
 unfold oV at*
 have e:∀o,w'.cell? ⟨b,o,none⟩=w.cell? ⟨b,o,none⟩:=fun o=>hB.cell (p:=⟨b,o,none⟩) hb
 rw[e,e,e]
 exact h
theorem vD {w:World} {B b o n k:Nat} {l:List aI} {r:aI} (h:bN aI.cells 3 w B (some ⟨b,o,none⟩) n l) (hr:l[k]?=some r):b<B∧oV w b (o+k*3) r:=
 ⟨(h.get hr).1,(h.get hr).2 0 _ rfl,(h.get hr).2 1 _ rfl,(h.get hr).2 2 _ rfl⟩
theorem tO (v b p:Int) (W:World) (B:Bool) (hv:bB v) (hb:bB b) (hp:bB p) (h:gH v b p=B):Calls Tryd.prog 92 #[.agg #[.int .i64 v,.int .i64 b,.int .i64 p]] W fun e W'=>e= .returned (.bool B)∧Below W.heap.size W W':=
 h▸wX v b p W hv hb hp
def lF (r x:aI):Bool:=(x.v ==r.v) && (x.b ==r.b)
def mG:List aI→List aI→Int
 |_,[]=>0
 |pre,r::t=>if gH r.v r.b r.p=false then 1 else if pre.any (lF r)then 5 else mG (pre++[r]) t
def fA (l:List aI):Int:=if 8<l.length then 2 else mG [] l
theorem Bp {l:List aI} {k:Nat} {r:aI} (hr:l[k]?=some r):mG (l.take k) (l.drop k)=if gH r.v r.b r.p=false then 1 else if(l.take k).any (lF r)then 5 else mG (l.take (k+1)) (l.drop (k+1)):=by
 obtain⟨hk1,hk2⟩:=List.getElem?_eq_some_iff.1 hr
 rw[List.drop_eq_getElem_cons hk1,hk2,List.take_succ_eq_append_getElem hk1,hk2]
 rfl
theorem Cx {l:List aI} {k j:Nat} {r x:aI} (hj:j<k) (hx:l[j]?=some x) (h:lF r x=true):(l.take k).any (lF r)=true:=by
 rw[List.any_eq_true]
 exact⟨x,List.mem_of_getElem? (i:=j) (by rw[List.getElem?_take_of_lt hj];exact hx),h⟩
theorem vZ {l:List aI} {k:Nat} {r:aI} (h:∀j x,j<k→l[j]?=some x→lF r x=false):(l.take k).any (lF r)=false:=by
 rw[List.any_eq_false]
 intro x hx
 obtain⟨j,hj⟩:=List.getElem?_of_mem hx
 have hjk:j<k:=by
  have:=(List.getElem?_eq_some_iff.1 hj).1
  simp at this
  omega
 rw[List.getElem?_take_of_lt hjk]at hj
 simp[h j x hjk hj]
def kG (w:World) (b:Nat) (r:aI):Prop:=w.cell? ⟨b,0,none⟩=some (.int .i64 r.v)∧w.cell? ⟨b,1,none⟩=some (.int .i64 r.b)∧w.cell? ⟨b,2,none⟩=some (.int .i64 r.p)
theorem kG.below {w w':World} {B b:Nat} {r:aI} (h:kG w b r) (hB:Below B w w') (hb:b<B):kG w' b r:=by
 unfold kG at*
 have e:∀o,w'.cell? ⟨b,o,none⟩=w.cell? ⟨b,o,none⟩:=fun o=>hB.cell (p:=⟨b,o,none⟩) hb
 rw[e,e,e]
 exact h
theorem aB {a b:Int} (h:a=b):Ending.returned (.int .i64 a)= .returned (.int .i64 b):=by rw[h]
theorem wY (l:List aI) (b o n c:Nat) (W:World) (hn:n≤8) (hnc:n≤c) (hl:bN aI.cells 3 W W.heap.size (some ⟨b,o,none⟩) n l) (hok:∀r∈l,r.ok) (h0:0<n):
  Calls Tryd.prog 71 #[.slice (some ⟨b,o,none⟩) n c] W fun e W'=>e= .returned (.int .i64 (mG [] l))∧Below W.heap.size W W':=by
 have HL:=hide hl
 have HK:=hide hok
 clear hl hok
 have h8:decide ((8:Int)<(n:Int))=false:=by simp;omega
 go_enter Tryd.func71,Tryd.ntmps71
 go_wp2
 go_loopw [3,4,12] (fun _ _ i wr=>∃k:Nat,k≤n∧i= .int .i64 k∧Hid (mG [] l=mG (l.take k) (l.drop k))∧Below W.heap.size W wr) (fun _ _ i _=>n - (intOf i).toNat)
 case atStart=>exact⟨0,Nat.zero_le _,rfl,rfl,Below.refl _ _⟩
 case round=>
  obtain⟨k,hk,rfl,HC,hb⟩:=hrel
  have HB:=hide hb
  clear hb
  by_cases hlt:k<n
  ·obtain⟨r,hr⟩:∃r,l[k]?=some r:=⟨_,List.getElem?_eq_getElem (by have:=HL.out.1;omega)⟩
   obtain⟨rM,hra⟩:=vD HL.out hr
   obtain⟨q0,q1,q2⟩:=hra.below HB.out rM
   have HS:=hide (Bp hr)
   obtain⟨⟨hv1,hv2⟩,⟨EH,EI⟩,⟨hp1,hp2⟩⟩:=HK.out r (List.mem_of_getElem? hr)
   clear hr hra
   obtain⟨rv,rb,rp⟩:=r
   cases h1:gH rv rb rp
   ·go_wp2_with fail
    refine(tO _ _ _ _ _ ⟨hv1,hv2⟩ ⟨EH,EI⟩ ⟨hp1,hp2⟩ h1).mono ?_
    rintro e w1 ⟨rfl,hb1⟩
    have HB1:=hide (HB.out.trans (((Below.refl _ wr).alloc HB.out.size _).trans (hb1.mono (by have:=HB.out.size;simp;omega))))
    clear hb1
    go_wp2
    go_ret
    exact⟨aB (by rw[HC.out,HS.out];simp[h1]),HB1.out⟩
   ·go_wp2_with fail
    refine(tO _ _ _ _ _ ⟨hv1,hv2⟩ ⟨EH,EI⟩ ⟨hp1,hp2⟩ h1).mono ?_
    rintro e w1 ⟨rfl,hb1⟩
    have HB1:=hide (HB.out.trans (((Below.refl _ wr).alloc HB.out.size _).trans (hb1.mono (by have:=HB.out.size;simp;omega))))
    have HX:=hide ((show kG (wr.alloc (.cells #[.int .i64 rv,.int .i64 rb,.int .i64 rp] 66)) wr.heap.size ⟨rv,rb,rp⟩from by simp[kG]).below hb1 (by simp))
    have hs1:wr.heap.size+1≤w1.heap.size:=by have:=hb1.size;simpa using this
    have Dl:W.heap.size≤wr.heap.size:=HB.out.size
    clear hb1 q0 q1 q2
    go_wp2
    generalize hB0:wr.heap.size=B0 at*
    clear hB0 HB
    go_loopw [6,24] (fun _ i wi=>∃j:Nat,j≤k∧i= .int .i64 j∧Hid (∀i x,i<j→l[i]?=some x→lF ⟨rv,rb,rp⟩ x=false)∧Below W.heap.size W wi∧B0+1≤wi.heap.size∧kG wi B0 ⟨rv,rb,rp⟩) (fun _ i _=>k - (intOf i).toNat)
    case atStart=>exact⟨0,Nat.zero_le _,rfl,fun i x h=>absurd h (by omega),HB1.out,hs1,HX.out⟩
    case round=>
     obtain⟨j,hj,rfl,HN,hbi,hsi,hxi⟩:=hrel
     have zy:=hide hbi
     have EJ:=hide hxi
     clear hbi hxi HB1 HX hs1
     obtain⟨x0,x1,_⟩:=EJ.out
     by_cases hjk:j<k
     ·obtain⟨x,hx⟩:∃x,l[j]?=some x:=⟨_,List.getElem?_eq_getElem (by have:=HL.out.1;omega)⟩
      obtain⟨Cy,hxa⟩:=vD HL.out hx
      obtain⟨y0,y1,y2⟩:=hxa.below zy.out Cy
      have EK:=hide hx
      clear hx hxa
      obtain⟨xv,xb,xp⟩:=x
      have z0:∀ob,(wr.alloc ob).cell? ⟨B0,0,none⟩=some (.int .i64 rv):=fun ob=>(World.cell?_alloc_lt _ _ _ (by show B0<_;omega)).trans x0
      have z1:∀ob,(wr.alloc ob).cell? ⟨B0,1,none⟩=some (.int .i64 rb):=fun ob=>(World.cell?_alloc_lt _ _ _ (by show B0<_;omega)).trans x1
      clear x0 x1
      have Cz:=zy.out.size
      cases e1:(xv ==rv)
      ·go_wp2
       go_roundw
       case rel=>exact⟨j+1,by omega,by go_num,hide (fun i x hi hx=>by
        rcases(by omega:i<j∨i=j)with h | rfl
        ·exact HN.out i x h hx
        ·have e:=EK.out;rw[e]at hx;cases hx;simp[lF,e1]),zy.out.alloc Cz _,by simp;omega,EJ.out.below ((Below.refl _ _).alloc (Nat.le_refl _) _) (by omega)⟩
       case measure=>simp[intOf];omega
      cases e2:(xb ==rb)
      ·go_wp2
       go_roundw
       case rel=>exact⟨j+1,by omega,by go_num,hide (fun i x hi hx=>by
        rcases(by omega:i<j∨i=j)with h | rfl
        ·exact HN.out i x h hx
        ·have e:=EK.out;rw[e]at hx;cases hx;simp[lF,e2]),zy.out.alloc Cz _,by simp;omega,EJ.out.below ((Below.refl _ _).alloc (Nat.le_refl _) _) (by omega)⟩
       case measure=>simp[intOf];omega
      have HA:=hide (Cx (r:=⟨rv,rb,rp⟩) hjk EK.out (by simp[lF,e1,e2]))
      go_wp2
      go_ret
      exact⟨aB (by rw[HC.out,HS.out,HA.out];simp[h1]),zy.out.alloc Cz _⟩
     ·have GA:j=k:=by omega
      subst GA
      have HA:=hide (vZ (r:=⟨rv,rb,rp⟩) HN.out)
      go_wp2
      go_roundw
      case rel=>exact⟨j+1,by omega,by go_num,hide (by rw[HC.out,HS.out,HA.out];simp[h1]),zy.out⟩
      case measure=>simp[intOf];omega
  ·have hkn:k=n:=by omega
   subst hkn
   have HT:=hide (show mG (l.take k) (l.drop k)=0 from by rw[List.drop_of_length_le (by have:=HL.out.1;omega)];rfl)
   go_wp2
   go_ret
   exact⟨aB (by rw[HC.out,HT.out]),HB.out⟩
theorem yQ (A:Option Addr) (c:Nat) (W:World):Calls Tryd.prog 71 #[.slice A 0 c] W fun e W'=>e= .returned (.int .i64 0)∧W=W':=by
 go_enter Tryd.func71,Tryd.ntmps71
 go_wp2
 refine wp_loop_rounds 1 ?_
 rw[rounds_succ]
 go_wp2
 go_ret
 exact⟨rfl,rfl⟩
theorem wh (A:Option Addr) (n c:Nat) (W:World) (h:8<n):Calls Tryd.prog 71 #[.slice A n c] W fun e W'=>e= .returned (.int .i64 2)∧W=W':=by
 have h8:decide ((8:Int)<(n:Int))=true:=by simp;omega
 go_enter Tryd.func71,Tryd.ntmps71
 go_wp2
 go_ret
 exact⟨rfl,rfl⟩
theorem j6 (l:List aI) (A:Option Addr) (n c:Nat) (W:World) (hnc:n≤c) (hl:bN aI.cells 3 W W.heap.size A n l) (hok:∀r∈l,r.ok):
  Calls Tryd.prog 71 #[.slice A n c] W fun e W'=>e= .returned (.int .i64 (fA l))∧Below W.heap.size W W':=by
 rcases Nat.eq_zero_or_pos n with rfl | h0
 ·have:l=[]:=List.eq_nil_of_length_eq_zero hl.1
  subst this
  exact(yQ A c W).mono fun e w' ⟨he,hw⟩=>⟨he,hw▸Below.refl _ _⟩
 ·rcases Nat.lt_or_ge 8 n with h8 | h8
  ·have e:fA l=2:=by unfold fA;rw[if_pos (by rw[hl.1];exact h8)]
   rw[e]
   exact(wh A n c W h8).mono fun e w' ⟨he,hw⟩=>⟨he,hw▸Below.refl _ _⟩
  ·have e:fA l=mG [] l:=by unfold fA;rw[if_neg (by rw[hl.1];omega)]
   rw[e]
   obtain⟨b,o,rfl,hb,_⟩:=hl.2 h0
   exact wY l b o n c W h8 hnc hl hok h0
theorem ownsRow_below {w w':World} {base e s n:Nat} {v:Value} {xs:List Value} (h:w.ownsRow base e s v n xs) (hb:Below w.heap.size w w'):w'.ownsRow base e s v n xs:=
 h.kept (row:=none) ⟨hb.os,hb.tape,hb.output,hb.size,fun k hk _=>hb.block k hk⟩ (by cases hv:v.ownBlock<;>simp)
theorem Tryd.infoRoute:(Tryd.prog.info? 66).map (fun i=>(i.zero,i.size,i.bytes))=some (some (.agg #[.int .i64 0,.int .i64 0,.int .i64 0]),3,24):=by kernel_rfl
theorem Tryd.cellsRoute:Tryd.prog.cellsOf 66=3:=by kernel_rfl
theorem Tryd.cellsInt:Tryd.prog.cellsOf 3=1:=by kernel_rfl
section
variable {H:Type} {enc:TypeId×Value→H} {w:World} {base:Nat} {spare:Nat→Bool} {held:Bool} {r:Reach} {b0:Nat}
theorem Ac {n:Nat} {cs:List Value} {y:DataW H×List MemPlace} (h:DataW.trod enc Tryd.prog w base spare held n 66 cs=some y):∃r:aI,r.ok∧cs=r.cells:=by
 obtain⟨xs,n',_,_,hlen,hxl,hf⟩:=DataW.trod_struct Tryd.underlying66 h
 rw[Tryd.cellsRoute]at hlen
 match cs,hlen with
 |[c0,c1,c2],_=>
  have h0:=hf 0 _ rfl
  have h1:=hf 1 _ rfl
  have h2:=hf 2 _ rfl
  obtain⟨y0,e0⟩:=get_some (xs:=xs) (i:=0) (by rw[hxl];decide)
  obtain⟨y1,e1⟩:=get_some (xs:=xs) (i:=1) (by rw[hxl];decide)
  obtain⟨y2,e2⟩:=get_some (xs:=xs) (i:=2) (by rw[hxl];decide)
  rw[e0]at h0
  rw[e1]at h1
  rw[e2]at h2
  simp[Tryd.cellsInt]at h0 h1 h2
  obtain⟨a,rfl,ha⟩:=jc h0
  obtain⟨b,rfl,hb⟩:=jc h1
  obtain⟨c,rfl,hc⟩:=jc h2
  exact⟨⟨a,b,c⟩,⟨ha,hb,hc⟩,rfl⟩
end
end Go.Proofs.YtifkacnoiocebaaDoor
namespace Go.Proofs.YtifkacnoiocebaaDoor.uZ
abbrev F3:=Nat→Bool
abbrev Fn:=F3→Bool
structure Node where
 v:Nat
 lo:Nat
 hi:Nat
section
variable {vars:Nat} {ns:List Node}
end
end Go.Proofs.YtifkacnoiocebaaDoor.uZ
namespace Go.Proofs.YtifkacnoiocebaaDoor.uZ
def Below (K:Nat) (F:Fn):Prop:=∀x y:F3,(∀u,u<K→x u=y u)→F x=F y
section
variable {vars:Nat} {ns:List Node}
end
structure St where
 vars:Nat
 most:Nat
 ns:List Node
 full:Bool
end Go.Proofs.YtifkacnoiocebaaDoor.uZ
namespace Go.Proofs.YtifkacnoiocebaaDoor
open Go.Maps Go.RowKit Go.WideElems
section
variable {α:Type} {P:Program} {kt:TypeId} {key:α→Value} {dom:α→Prop} {w w':World} {b:Nat} {M:α→Option Value}
end
section
variable {α:Type} {P:Program} {kt:TypeId} {key:α→Value} {dom:α→Prop} {b:Nat} {M:α→Option Value} (w:World)
end
end Go.Proofs.YtifkacnoiocebaaDoor
namespace Go.Proofs.YtifkacnoiocebaaDoor
open uZ Go.Maps Go.RowKit
abbrev Ig:=Nat×Nat×Nat
section
variable {w w':World} {B g nb kb ib cap:Nat} {A:St} {K T:Ig→Option Value}
end
def dN (w:World) (B:Nat) (A:Option Addr) (n:Nat) (l:List Int):Prop:=
 l.length=n∧(∀x∈l,-9223372036854775808≤x∧x≤9223372036854775807)∧(0<n→∃b o,A=some ⟨b,o,none⟩∧b<B∧∀(k:Nat) (x:Int),l[k]?=some x→w.cell? ⟨b,o+k,none⟩=some (.int .i64 x))
theorem dN.nil (w:World) (B:Nat) (A:Option Addr):dN w B A 0 []:=⟨rfl,fun x hx=>(by cases hx),fun h=>by omega⟩
theorem dN.below {w w':World} {B B' n:Nat} {A:Option Addr} {l:List Int} (h:dN w B A n l) (hB:RowKit.Below B w w') (hB':B≤B'):dN w' B' A n l:=
 ⟨h.1,h.2.1,fun h0=>by
  obtain⟨b,o,e,hb,hg⟩:=h.2.2 h0
  exact⟨b,o,e,by omega,fun k x hx=>(hB.cell (p:=⟨b,o+k,none⟩) hb).trans (hg k x hx)⟩⟩
def jV (s d p q:Nat):Array Value:=#[.int .u16 s,.int .i64 4,.int .i64 0,.int .u16 p,.int .i64 3,.int .i64 8,.int .u16 d,.int .i64 4,.int .i64 4,.int .u16 q,.int .i64 3,.int .i64 11]
theorem tQ (w:World) (s d p q:Nat) (hs:s<65536) (hd:d<65536) (hp:p<256) (hq:q<256):
  Calls Tryd.prog 77 #[.agg #[.int .u16 s,.int .u16 d,.int .u8 p,.int .u8 q]] w fun e W'=>e= .returned (.slice (some ⟨w.heap.size+1,0,none⟩) 4 4)∧∃o0,W'=(w.alloc o0).alloc (.cells (jV s d p q) 124):=by
 go_enter Tryd.func77,Tryd.ntmps77
 go_wp2
 go_ret
 exact⟨rfl,_,rfl⟩
structure nW where
 set:Nat
 bits:Nat
 first:Nat
def lG (s d p q:Nat):List nW:=[⟨s,4,0⟩,⟨p,3,8⟩,⟨d,4,4⟩,⟨q,3,11⟩]
theorem wZ (s d p q k:Nat) (hs:s<65536) (hd:d<65536) (hp:p<256) (hq:q<256) (hk:k<4):∃x:nW,(lG s d p q)[k]?=some x∧x.set<65536∧x.bits≤4∧x.first+x.bits≤14∧
  (jV s d p q)[k*3]?=some (.int .u16 x.set)∧(jV s d p q)[k*3+1]?=some (.int .i64 x.bits)∧(jV s d p q)[k*3+2]?=some (.int .i64 x.first):=by
 match k,hk with
 |0,_=>exact⟨_,rfl,hs,(by show 4≤4;omega),(by show 0+4≤14;omega),rfl,rfl,rfl⟩
 |1,_=>exact⟨_,rfl,(by show p<_;omega),(by show 3≤4;omega),(by show 8+3≤14;omega),rfl,rfl,rfl⟩
 |2,_=>exact⟨_,rfl,hd,(by show 4≤4;omega),(by show 4+4≤14;omega),rfl,rfl,rfl⟩
 |3,_=>exact⟨_,rfl,(by show q<_;omega),(by show 3≤4;omega),(by show 11+3≤14;omega),rfl,rfl,rfl⟩
end Go.Proofs.YtifkacnoiocebaaDoor
namespace Go.Proofs.YtifkacnoiocebaaDoor
open Go.RowKit
open uZ
theorem tb (c i:Nat):c.testBit i=decide (c / 2 ^ i % 2=1):=Nat.testBit_eq_decide_div_mod_eq
open Go.Maps
end Go.Proofs.YtifkacnoiocebaaDoor
namespace Go.Proofs.YtifkacnoiocebaaDoor
open Go.ChangeAt Go.ChangeShapes Go.RowKit Go.WideShapes
theorem fU {a b:Bool} (h:a=b):Ending.returned (.bool a)= .returned (.bool b):=by rw[h]
theorem je (w:World) (n:Nat) (B:Nat):Below B w (w.drewN n):=⟨rfl,rfl,rfl,Nat.le_refl _,fun _ _=>rfl⟩
end Go.Proofs.YtifkacnoiocebaaDoor
namespace Go.Proofs.YtifkacnoiocebaaDoor
open Go.RowKit
structure au where
 a:Int
 p:Int
 b:Int
 q:Int
def au.ok (l:au):Prop:=bB l.a∧bB l.p∧bB l.b∧bB l.q
def au.cells (l:au):List Value:=[.int .i64 l.a,.int .i64 l.p,.int .i64 l.b,.int .i64 l.q]
theorem au.len (l:au):l.cells.length=4:=rfl
theorem Cn {w:World} {B b o n k:Nat} {l:List au} {r:au} (h:bN au.cells 4 w B (some ⟨b,o,none⟩) n l) (hr:l[k]?=some r):b<B∧
  w.cell? ⟨b,o+k*4,none⟩=some (.int .i64 r.a)∧w.cell? ⟨b,o+k*4+1,none⟩=some (.int .i64 r.p)∧w.cell? ⟨b,o+k*4+2,none⟩=some (.int .i64 r.b)∧w.cell? ⟨b,o+k*4+3,none⟩=some (.int .i64 r.q):=
 ⟨(h.get hr).1,(h.get hr).2 0 _ rfl,(h.get hr).2 1 _ rfl,(h.get hr).2 2 _ rfl,(h.get hr).2 3 _ rfl⟩
abbrev Pl:=Int×Int
def au.e1 (l:au):Pl:=(l.a,l.p)
def au.e2 (l:au):Pl:=(l.b,l.q)
def iB (x y:Pl):Bool:=(x.1 ==y.1) && (x.2 ==y.2)
theorem uF (x y:Pl):iB x y=true↔x=y:=by
 obtain⟨a,b⟩:=x
 obtain⟨c,d⟩:=y
 simp[iB]
def ny (w:World) (N:Nat) (a b:Int):Prop:=w.cell? ⟨N,0,none⟩=some (.int .i64 a)∧w.cell? ⟨N,1,none⟩=some (.int .i64 b)∧w.frozen? ⟨N,0,none⟩=false∧w.frozen? ⟨N,1,none⟩=false
theorem ny.below {w w':World} {B N:Nat} {a b:Int} (h:ny w N a b) (hB:Below B w w') (hN:N<B):ny w' N a b:=by
 have e:∀o,w'.cell? ⟨N,o,none⟩=w.cell? ⟨N,o,none⟩:=fun o=>hB.cell (p:=⟨N,o,none⟩) hN
 have f:∀o,w'.frozen? ⟨N,o,none⟩=w.frozen? ⟨N,o,none⟩:=fun o=>hB.frozen (p:=⟨N,o,none⟩) hN
 unfold ny
 rw[e,e,f,f]
 exact h
theorem ny.new (w:World) (a b:Int) (t:TypeId):ny (w.alloc (.cells #[.int .i64 a,.int .i64 b] t)) w.heap.size a b:=by
 have hbx:=heap_alloc_new w (.cells #[.int .i64 a,.int .i64 b] t)
 have f:∀o,(w.alloc (.cells #[.int .i64 a,.int .i64 b] t)).frozen? ⟨w.heap.size,o,none⟩=false:=fun o=>by unfold World.frozen?;rw[hbx];simp
 exact⟨by rw[cell_of_row _ _ _ _ _ _ hbx];rfl,by rw[cell_of_row _ _ _ _ _ _ hbx];rfl,f 0,f 1⟩
theorem aQ (n m:Int) (W:World) (B:Bool) (h:(decide (0≤n) && decide (n<m))=B):Calls Tryd.prog 37 #[.int .i64 n,.int .i64 m] W fun e W'=>e= .returned (.bool B)∧W=W':=by
 cases h1:decide (0≤n)
 ·have e1:¬ 0≤n:=by simpa using h1
  have HF:=hide (show false=B by rw[← h,h1];rfl)
  clear h
  go_enter Tryd.func37,Tryd.ntmps37
  go_wp2
  go_ret
  exact⟨fU HF.out,rfl⟩
 ·have HF:=hide (show decide (n<m)=B by rw[← h,h1];rfl)
  clear h
  go_enter Tryd.func37,Tryd.ntmps37
  go_wp2
  go_ret
  exact⟨fU HF.out,rfl⟩
def dV (k:Int):Int:=if k ==1 then 1 else if k ==2 then 4 else if k ==3 then 2 else if k ==4 then 2 else if k ==5 then 2 else 0
theorem tu (k:Int) (W:World):Calls Tryd.prog 38 #[.int .i64 k] W fun e W'=>e= .returned (.int .i64 (dV k))∧W=W':=by
 cases h1:(k ==1)
 case true=>
  have HF:=hide (show dV k=1 from by simp[dV,h1])
  rw[HF.out]
  go_enter Tryd.func38,Tryd.ntmps38
  go_wp2
  go_ret
  exact⟨rfl,rfl⟩
 cases h2:(k ==2)
 case true=>
  have HF:=hide (show dV k=4 from by simp[dV,h1,h2])
  rw[HF.out]
  go_enter Tryd.func38,Tryd.ntmps38
  go_wp2
  go_ret
  exact⟨rfl,rfl⟩
 cases h3:(k ==3)
 case true=>
  have HF:=hide (show dV k=2 from by simp[dV,h1,h2,h3])
  rw[HF.out]
  go_enter Tryd.func38,Tryd.ntmps38
  go_wp2
  go_ret
  exact⟨rfl,rfl⟩
 cases h4:(k ==4)
 case true=>
  have HF:=hide (show dV k=2 from by simp[dV,h1,h2,h3,h4])
  rw[HF.out]
  go_enter Tryd.func38,Tryd.ntmps38
  go_wp2
  go_ret
  exact⟨rfl,rfl⟩
 cases h5:(k ==5)
 case true=>
  have HF:=hide (show dV k=2 from by simp[dV,h1,h2,h3,h4,h5])
  rw[HF.out]
  go_enter Tryd.func38,Tryd.ntmps38
  go_wp2
  go_ret
  exact⟨rfl,rfl⟩
 ·have HF:=hide (show dV k=0 from by simp[dV,h1,h2,h3,h4,h5])
  rw[HF.out]
  go_enter Tryd.func38,Tryd.ntmps38
  go_wp2
  go_ret
  exact⟨rfl,rfl⟩
end Go.Proofs.YtifkacnoiocebaaDoor
