/- A part of the proof: G4. -/
import Derived.Test.YtlhmdcgckocidaaGreatHr0
import Derived.Deep.RegionWith
set_option linter.unusedVariables false
set_option linter.unusedSimpArgs false
set_option maxRecDepth 100000
set_option maxHeartbeats 4000000
namespace Go.Proofs.YtlhmdcgckocidaaGreat
open Go.ChangeAt Go.ChangeShapes Go.RowKit Go.WideShapes
structure aW where
 v:Int
 b:Int
 p:Int
def aW.ok (r:aW):Prop:=ay r.v∧ay r.b∧ay r.p
def aW.cells (r:aW):List Value:=[.int .i64 r.v,.int .i64 r.b,.int .i64 r.p]
theorem aW.len (r:aW):r.cells.length=3:=rfl
theorem aW.one (r:aW):∀u∈r.cells,u.oneCell'=true:=by
 intro u hu
 simp only[aW.cells,List.mem_cons,List.not_mem_nil,or_false]at hu
 rcases hu with rfl | rfl | rfl<;>rfl
def OH (v b:Int):Bool:=bits .and .i64 v (15 / 2 ^ b.toNat)==0
def wK (d v b:Int):Bool:=bits .andNot .i64 d (15 / 2 ^ b.toNat)==v
def jF (v b p:Int):Bool:=decide (0≤b) && decide (b≤4) && decide (0≤v) && decide (v<16) && OH v b && decide (0≤p) && decide (p≤3)
theorem Jm (v b p:Int) (W:World) (hv:ay v) (hb:ay b) (hp:ay p):Calls Tryz.prog 178 #[.agg #[.int .i64 v,.int .i64 b,.int .i64 p]] W fun e W'=>e= .returned (.bool (jF v b p))∧Below W.heap.size W W':=by
 obtain⟨hv1,hv2⟩:=hv
 obtain⟨hb1,hb2⟩:=hb
 obtain⟨hp1,hp2⟩:=hp
 by_cases h1:0≤b
 case neg=>
  have h1':decide (0≤b)=false:=by simpa using h1
  go_enter Tryz.func178,Tryz.ntmps178
  go_wp2
  go_quiet (fail)
  go_wp2
  go_ret
  exact⟨by simp[jF,h1'],((Below.refl _ _).alloc (Nat.le_refl _) _).trans ⟨rfl,rfl,rfl,Nat.le_refl _,fun _ _=>rfl⟩⟩
 by_cases h2:b≤4
 case neg=>
  have h2':decide (b≤4)=false:=by simpa using h2
  go_enter Tryz.func178,Tryz.ntmps178
  go_wp2
  go_quiet (fail)
  go_wp2
  go_ret
  exact⟨by simp[jF,h2'],((Below.refl _ _).alloc (Nat.le_refl _) _).trans ⟨rfl,rfl,rfl,Nat.le_refl _,fun _ _=>rfl⟩⟩
 by_cases h3:0≤v
 case neg=>
  have h3':decide (0≤v)=false:=by simpa using h3
  go_enter Tryz.func178,Tryz.ntmps178
  go_wp2
  go_quiet (fail)
  go_wp2
  go_ret
  exact⟨by simp[jF,h3'],((Below.refl _ _).alloc (Nat.le_refl _) _).trans ⟨rfl,rfl,rfl,Nat.le_refl _,fun _ _=>rfl⟩⟩
 by_cases h4:v<16
 case neg=>
  have h4':decide (v<16)=false:=by simpa using h4
  go_enter Tryz.func178,Tryz.ntmps178
  go_wp2
  go_quiet (fail)
  go_wp2
  go_ret
  exact⟨by simp[jF,h4'],((Below.refl _ _).alloc (Nat.le_refl _) _).trans ⟨rfl,rfl,rfl,Nat.le_refl _,fun _ _=>rfl⟩⟩
 cases h5:(bits .and .i64 v (15 / 2 ^ b.toNat)==0)
 ·go_enter Tryz.func178,Tryz.ntmps178
  go_wp2
  go_quiet (fail)
  go_wp2
  go_ret
  exact⟨by simp[jF,OH,h5],((Below.refl _ _).alloc (Nat.le_refl _) _).trans ⟨rfl,rfl,rfl,Nat.le_refl _,fun _ _=>rfl⟩⟩
 by_cases h6:0≤p
 case neg=>
  have h6':decide (0≤p)=false:=by simpa using h6
  go_enter Tryz.func178,Tryz.ntmps178
  go_wp2
  go_quiet (fail)
  go_wp2
  go_ret
  exact⟨by simp[jF,h6'],((Below.refl _ _).alloc (Nat.le_refl _) _).trans ⟨rfl,rfl,rfl,Nat.le_refl _,fun _ _=>rfl⟩⟩
 cases h7:decide (p≤3)
 ·go_enter Tryz.func178,Tryz.ntmps178
  go_wp2
  go_quiet (fail)
  go_wp2
  go_ret
  exact⟨by simp[jF,h7],((Below.refl _ _).alloc (Nat.le_refl _) _).trans ⟨rfl,rfl,rfl,Nat.le_refl _,fun _ _=>rfl⟩⟩
 ·have h8:p≤3:=by simpa using h7
  go_enter Tryz.func178,Tryz.ntmps178
  go_wp2
  go_quiet (fail)
  go_wp2
  go_ret
  exact⟨by simp[jF,OH,h1,h2,h3,h4,h5,h6,h8],((Below.refl _ _).alloc (Nat.le_refl _) _).trans ⟨rfl,rfl,rfl,Nat.le_refl _,fun _ _=>rfl⟩⟩
def yQ (w:World) (b o:Nat) (r:aW):Prop:=
 w.cell? ⟨b,o,none⟩=some (.int .i64 r.v)∧w.cell? ⟨b,o+1,none⟩=some (.int .i64 r.b)∧w.cell? ⟨b,o+2,none⟩=some (.int .i64 r.p)
theorem yQ.below {w w':World} {B b o:Nat} {r:aW} (h:yQ w b o r) (hB:Below B w w') (hb:b<B):yQ w' b o r:=by
 unfold yQ at*
 have e:∀o,w'.cell? ⟨b,o,none⟩=w.cell? ⟨b,o,none⟩:=fun o=>hB.cell (p:=⟨b,o,none⟩) hb
 rw[e,e,e]
 exact h
theorem AY {w:World} {B b o n k:Nat} {l:List aW} {r:aW} (h:bB aW.cells 3 w B (some ⟨b,o,none⟩) n l) (hr:l[k]?=some r):b<B∧yQ w b (o+k*3) r:=
 ⟨(h.get hr).1,(h.get hr).2 0 _ rfl,(h.get hr).2 1 _ rfl,(h.get hr).2 2 _ rfl⟩
def uT (d:Int) (r:aW) (bits:Int):Bool:=jF r.v r.b r.p && decide (0≤d) && decide (d<16) && wK d r.v r.b && decide (bits<r.b)
def mI (d:Int) (s:Int×Int) (r:aW):Int×Int:=if uT d r s.2 then(r.p,r.b)else s
def lU (d:Int) (l:List aW):Int×Int:=l.foldl (mI d) (0,-1)
theorem lC (v b p:Int) (W:World) (B:Bool) (hv:ay v) (hb:ay b) (hp:ay p) (h:jF v b p=B):Calls Tryz.prog 178 #[.agg #[.int .i64 v,.int .i64 b,.int .i64 p]] W fun e W'=>e= .returned (.bool B)∧Below W.heap.size W W':=
 h▸Jm v b p W hv hb hp
theorem QZ (d:Int) (l:List aW) {k:Nat} {r:aW} (hr:l[k]?=some r):lU d (l.take (k+1))=mI d (lU d (l.take k)) r:=by
 have hk:=List.getElem?_eq_some_iff.1 hr
 obtain⟨hk1,hk2⟩:=hk
 rw[lU,List.take_succ_eq_append_getElem hk1,List.foldl_append,hk2]
 rfl
theorem Q0 (d:Int) (l:List aW): -1≤(lU d l).2∧(lU d l).2≤4:=by
 have h:∀(l:List aW) (s:Int×Int),-1≤s.2∧s.2≤4→ -1≤(l.foldl (mI d) s).2∧(l.foldl (mI d) s).2≤4:=by
  intro l
  induction l with
  |nil=>intro s h;exact h
  |cons r l ih=>
   intro s h
   refine ih _ ?_
   unfold mI
   split
   ·rename_i hh
    simp only[uT,jF,Bool.and_eq_true,decide_eq_true_eq]at hh
    show -1≤r.b∧r.b≤4
    omega
   ·exact h
 exact h l _ (by decide)
theorem Uy (l:List aW) (b o n c:Nat) (d:Int) (W:World) (hn:n≤9223372036854775807) (hd:ay d) (hl:bB aW.cells 3 W W.heap.size (some ⟨b,o,none⟩) n l) (hok:∀r∈l,r.ok) (h0:0<n):
  Calls Tryz.prog 158 #[.slice (some ⟨b,o,none⟩) n c,.int .i64 d] W fun e W'=>
   e= .returned (.tuple #[.int .i64 (lU d l).1,.bool (decide (0≤(lU d l).2))])∧Below W.heap.size W W':=by
 obtain⟨hd1,hd2⟩:=hd
 have HL:=hide hl
 have HK:=hide hok
 clear hl hok
 go_enter Tryz.func158,Tryz.ntmps158
 go_wp2
 go_loopw [6,7,12] (fun u v i wr=>∃(k:Nat) (x y:Int),k≤n∧i= .int .i64 k∧u= .int .i64 x∧v= .int .i64 y∧(x,y)=lU d (l.take k)∧Below W.heap.size W wr) (fun _ _ i _=>n - (intOf i).toNat)
 case atStart=>exact⟨0,0,-1,Nat.zero_le _,rfl,rfl,rfl,rfl,Below.refl _ _⟩
 case round=>
  obtain⟨k,x,y,hk,rfl,rfl,rfl,hxy,hb⟩:=hrel
  have OI:=Q0 d (l.take k)
  rw[← hxy]at OI
  obtain⟨hy1,hy2⟩: -1≤y∧y≤4:=OI
  have Jo:=hide hxy
  have HB:=hide hb
  clear hxy hb
  by_cases hlt:k<n
  ·obtain⟨r,hr⟩:∃r,l[k]?=some r:=⟨_,List.getElem?_eq_getElem (by have:=HL.out.1;omega)⟩
   obtain⟨mH,hra⟩:=AY HL.out hr
   obtain⟨q0,q1,q2⟩:=hra.below HB.out mH
   have HS:=hide (QZ d l hr)
   have aey:=HK.out r (List.mem_of_getElem? hr)
   obtain⟨⟨hv1,hv2⟩,⟨zI,zJ⟩,⟨hp1,hp2⟩⟩:=aey
   clear hr hra
   obtain⟨rv,rb,rp⟩:=r
   go_wp2_with fail
   refine bS (by kernel_rfl) (by kernel_rfl) ?_
   intro T hT g hg hgi
   have HG:=hide hg
   have HI:=hide hgi
   have k0:∀t,(g t).cell? ⟨wr.heap.size,0,none⟩=some (.int .i64 rv):=fun t=>((HG.out t).cell (p:=⟨wr.heap.size,0,none⟩) (by simp)).trans (by simp)
   have k1:∀t,(g t).cell? ⟨wr.heap.size,1,none⟩=some (.int .i64 rb):=fun t=>((HG.out t).cell (p:=⟨wr.heap.size,1,none⟩) (by simp)).trans (by simp)
   have k2:∀t,(g t).cell? ⟨wr.heap.size,2,none⟩=some (.int .i64 rp):=fun t=>((HG.out t).cell (p:=⟨wr.heap.size,2,none⟩) (by simp)).trans (by simp)
   have GD:=hide (fun t=>HB.out.trans (((Below.refl _ wr).alloc HB.out.size _).trans ((HG.out t).mono (by have:=HB.out.size;simp;omega))))
   clear hg hgi q0 q1 q2
   cases h1:jF rv rb rp
   ·repeat (go_big_quiet_step ((go_at_call 178;exact mE HG.out HI.out (lC _ _ _ _ _ ⟨hv1,hv2⟩ ⟨zI,zJ⟩ ⟨hp1,hp2⟩ h1))))
    refine wpQuiet_nil ?_
    intro _ hw'
    obtain⟨t,rfl⟩:=hw'
    go_wp2
    go_roundw
    case rel=>exact⟨k+1,x,y,by omega,by go_num,rfl,rfl,by rw[HS.out,← Jo.out];simp[mI,uT,wK,h1],GD.out t⟩
    case measure=>simp[intOf];omega
   have h1':=h1
   simp only[jF,Bool.and_eq_true,decide_eq_true_eq]at h1'
   obtain⟨⟨⟨⟨⟨⟨r1,r2⟩,r3⟩,r4⟩,r5⟩,r6⟩,r7⟩:=h1'
   clear r5
   by_cases h2:0≤d
   case neg=>
    have h2':decide (0≤d)=false:=by simpa using h2
    repeat (go_big_quiet_step ((go_at_call 178;exact mE HG.out HI.out (lC _ _ _ _ _ ⟨hv1,hv2⟩ ⟨zI,zJ⟩ ⟨hp1,hp2⟩ h1))))
    refine wpQuiet_nil ?_
    intro _ hw'
    obtain⟨t,rfl⟩:=hw'
    go_wp2
    go_roundw
    case rel=>exact⟨k+1,x,y,by omega,by go_num,rfl,rfl,by rw[HS.out,← Jo.out];simp[mI,uT,wK,h2'],GD.out t⟩
    case measure=>simp[intOf];omega
   by_cases h3:d<16
   case neg=>
    have h3':decide (d<16)=false:=by simpa using h3
    repeat (go_big_quiet_step ((go_at_call 178;exact mE HG.out HI.out (lC _ _ _ _ _ ⟨hv1,hv2⟩ ⟨zI,zJ⟩ ⟨hp1,hp2⟩ h1))))
    refine wpQuiet_nil ?_
    intro _ hw'
    obtain⟨t,rfl⟩:=hw'
    go_wp2
    go_roundw
    case rel=>exact⟨k+1,x,y,by omega,by go_num,rfl,rfl,by rw[HS.out,← Jo.out];simp[mI,uT,wK,h3'],GD.out t⟩
    case measure=>simp[intOf];omega
   cases h4:(bits .andNot .i64 d (15 / 2 ^ rb.toNat)==rv)
   ·repeat (go_big_quiet_step ((go_at_call 178;exact mE HG.out HI.out (lC _ _ _ _ _ ⟨hv1,hv2⟩ ⟨zI,zJ⟩ ⟨hp1,hp2⟩ h1))))
    refine wpQuiet_nil ?_
    intro _ hw'
    obtain⟨t,rfl⟩:=hw'
    go_wp2
    go_roundw
    case rel=>exact⟨k+1,x,y,by omega,by go_num,rfl,rfl,by rw[HS.out,← Jo.out];simp[mI,uT,wK,h4],GD.out t⟩
    case measure=>simp[intOf];omega
   cases h5:decide (y<rb)
   ·repeat (go_big_quiet_step ((go_at_call 178;exact mE HG.out HI.out (lC _ _ _ _ _ ⟨hv1,hv2⟩ ⟨zI,zJ⟩ ⟨hp1,hp2⟩ h1))))
    refine wpQuiet_nil ?_
    intro _ hw'
    obtain⟨t,rfl⟩:=hw'
    go_wp2
    go_roundw
    case rel=>exact⟨k+1,x,y,by omega,by go_num,rfl,rfl,by rw[HS.out,← Jo.out];simp[mI,uT,wK,h5],GD.out t⟩
    case measure=>simp[intOf];omega
   have h6:y<rb:=by simpa using h5
   repeat (go_big_quiet_step ((go_at_call 178;exact mE HG.out HI.out (lC _ _ _ _ _ ⟨hv1,hv2⟩ ⟨zI,zJ⟩ ⟨hp1,hp2⟩ h1))))
   refine wpQuiet_nil ?_
   intro _ hw'
   obtain⟨t,rfl⟩:=hw'
   go_wp2
   go_quiet (fail)
   go_wp2
   go_roundw
   case rel=>exact⟨k+1,rp,rb,by omega,by go_num,rfl,rfl,by rw[HS.out,← Jo.out];simp[mI,uT,wK,h1,h2,h3,h4,h6],(GD.out t).trans ⟨rfl,rfl,rfl,Nat.le_refl _,fun _ _=>rfl⟩⟩
   case measure=>simp[intOf];omega
  ·have hkn:k=n:=by omega
   subst hkn
   have htake:l.take k=l:=List.take_of_length_le (by have:=HL.out.1;omega)
   have HT:=hide htake
   clear htake
   go_wp2
   go_ret2
   have e:=Jo.out
   rw[HT.out]at e
   exact⟨by rw[← e];rfl,HB.out⟩
theorem Yu (A:Option Addr) (c:Nat) (d:Int) (W:World) (hd:ay d):Calls Tryz.prog 158 #[.slice A 0 c,.int .i64 d] W fun e W'=>e= .returned (.tuple #[.int .i64 0,.bool false])∧W=W':=by
 go_enter Tryz.func158,Tryz.ntmps158
 go_wp2
 refine wp_loop_rounds 1 ?_
 rw[rounds_succ]
 go_wp2
 go_ret2
 exact⟨rfl,rfl⟩
theorem Gh (l:List aW) (A:Option Addr) (n c:Nat) (d:Int) (W:World) (hn:n≤9223372036854775807) (hd:ay d) (hl:bB aW.cells 3 W W.heap.size A n l) (hok:∀r∈l,r.ok):
  Calls Tryz.prog 158 #[.slice A n c,.int .i64 d] W fun e W'=>
   e= .returned (.tuple #[.int .i64 (lU d l).1,.bool (decide (0≤(lU d l).2))])∧Below W.heap.size W W':=by
 rcases Nat.eq_zero_or_pos n with rfl | h0
 ·have:l=[]:=List.eq_nil_of_length_eq_zero hl.1
  subst this
  exact(Yu A c d W hd).mono fun e w' ⟨he,hw⟩=>⟨he,hw▸Below.refl _ _⟩
 ·obtain⟨b,o,rfl,hb,_⟩:=hl.2 h0
  exact Uy l b o n c d W hn hd hl hok h0
def uF (r x:aW):Bool:=(x.v ==r.v) && (x.b ==r.b)
def yC:List aW→List aW→Int
 |_,[]=>0
 |pre,r::t=>if jF r.v r.b r.p=false then 1 else if pre.any (uF r)then 5 else yC (pre++[r]) t
def gT (l:List aW):Int:=if 8<l.length then 2 else yC [] l
theorem Q5 {l:List aW} {k:Nat} {r:aW} (hr:l[k]?=some r):yC (l.take k) (l.drop k)=if jF r.v r.b r.p=false then 1 else if(l.take k).any (uF r)then 5 else yC (l.take (k+1)) (l.drop (k+1)):=by
 obtain⟨hk1,hk2⟩:=List.getElem?_eq_some_iff.1 hr
 rw[List.drop_eq_getElem_cons hk1,hk2,List.take_succ_eq_append_getElem hk1,hk2]
 rfl
theorem Uz {l:List aW} {k j:Nat} {r x:aW} (hj:j<k) (hx:l[j]?=some x) (h:uF r x=true):(l.take k).any (uF r)=true:=by
 rw[List.any_eq_true]
 exact⟨x,List.mem_of_getElem? (i:=j) (by rw[List.getElem?_take_of_lt hj];exact hx),h⟩
theorem IE {l:List aW} {k:Nat} {r:aW} (h:∀j x,j<k→l[j]?=some x→uF r x=false):(l.take k).any (uF r)=false:=by
 rw[List.any_eq_false]
 intro x hx
 obtain⟨j,hj⟩:=List.getElem?_of_mem hx
 have hjk:j<k:=by
  have:=(List.getElem?_eq_some_iff.1 hj).1
  simp at this
  omega
 rw[List.getElem?_take_of_lt hjk]at hj
 simp[h j x hjk hj]
def qG (w:World) (b:Nat) (r:aW):Prop:=w.cell? ⟨b,0,none⟩=some (.int .i64 r.v)∧w.cell? ⟨b,1,none⟩=some (.int .i64 r.b)∧w.cell? ⟨b,2,none⟩=some (.int .i64 r.p)
theorem qG.below {w w':World} {B b:Nat} {r:aW} (h:qG w b r) (hB:Below B w w') (hb:b<B):qG w' b r:=by
 unfold qG at*
 have e:∀o,w'.cell? ⟨b,o,none⟩=w.cell? ⟨b,o,none⟩:=fun o=>hB.cell (p:=⟨b,o,none⟩) hb
 rw[e,e,e]
 exact h
theorem aO {a b:Int} (h:a=b):Ending.returned (.int .i64 a)= .returned (.int .i64 b):=by rw[h]
theorem Jp (l:List aW) (b o n c:Nat) (W:World) (hn:n≤8) (hnc:n≤c) (hl:bB aW.cells 3 W W.heap.size (some ⟨b,o,none⟩) n l) (hok:∀r∈l,r.ok) (h0:0<n):
  Calls Tryz.prog 139 #[.slice (some ⟨b,o,none⟩) n c] W fun e W'=>e= .returned (.int .i64 (yC [] l))∧Below W.heap.size W W':=by
 have HL:=hide hl
 have HK:=hide hok
 clear hl hok
 have h8:decide ((8:Int)<(n:Int))=false:=by simp;omega
 go_enter Tryz.func139,Tryz.ntmps139
 go_wp2
 go_loopw [3,4,12] (fun _ _ i wr=>∃k:Nat,k≤n∧i= .int .i64 k∧Hid (yC [] l=yC (l.take k) (l.drop k))∧Below W.heap.size W wr) (fun _ _ i _=>n - (intOf i).toNat)
 case atStart=>exact⟨0,Nat.zero_le _,rfl,rfl,Below.refl _ _⟩
 case round=>
  obtain⟨k,hk,rfl,HC,hb⟩:=hrel
  have HB:=hide hb
  clear hb
  by_cases hlt:k<n
  ·obtain⟨r,hr⟩:∃r,l[k]?=some r:=⟨_,List.getElem?_eq_getElem (by have:=HL.out.1;omega)⟩
   obtain⟨mH,hra⟩:=AY HL.out hr
   obtain⟨q0,q1,q2⟩:=hra.below HB.out mH
   have HS:=hide (Q5 hr)
   obtain⟨⟨hv1,hv2⟩,⟨zI,zJ⟩,⟨hp1,hp2⟩⟩:=HK.out r (List.mem_of_getElem? hr)
   clear hr hra
   obtain⟨rv,rb,rp⟩:=r
   cases h1:jF rv rb rp
   ·go_wp2_with fail
    refine(lC _ _ _ _ _ ⟨hv1,hv2⟩ ⟨zI,zJ⟩ ⟨hp1,hp2⟩ h1).mono ?_
    rintro e w1 ⟨rfl,hb1⟩
    have HB1:=hide (HB.out.trans (((Below.refl _ wr).alloc HB.out.size _).trans (hb1.mono (by have:=HB.out.size;simp;omega))))
    clear hb1
    go_wp2
    go_ret
    exact⟨aO (by rw[HC.out,HS.out];simp[h1]),HB1.out⟩
   ·go_wp2_with fail
    refine(lC _ _ _ _ _ ⟨hv1,hv2⟩ ⟨zI,zJ⟩ ⟨hp1,hp2⟩ h1).mono ?_
    rintro e w1 ⟨rfl,hb1⟩
    have HB1:=hide (HB.out.trans (((Below.refl _ wr).alloc HB.out.size _).trans (hb1.mono (by have:=HB.out.size;simp;omega))))
    have HX:=hide ((show qG (wr.alloc (.cells #[.int .i64 rv,.int .i64 rb,.int .i64 rp] 238)) wr.heap.size ⟨rv,rb,rp⟩from by simp[qG]).below hb1 (by simp))
    have hs1:wr.heap.size+1≤w1.heap.size:=by have:=hb1.size;simpa using this
    have WC:W.heap.size≤wr.heap.size:=HB.out.size
    clear hb1 q0 q1 q2
    go_wp2
    generalize hB0:wr.heap.size=B0 at*
    clear hB0 HB
    go_loopw [6,24] (fun _ i wi=>∃j:Nat,j≤k∧i= .int .i64 j∧Hid (∀i x,i<j→l[i]?=some x→uF ⟨rv,rb,rp⟩ x=false)∧Below W.heap.size W wi∧B0+1≤wi.heap.size∧qG wi B0 ⟨rv,rb,rp⟩) (fun _ i _=>k - (intOf i).toNat)
    case atStart=>exact⟨0,Nat.zero_le _,rfl,fun i x h=>absurd h (by omega),HB1.out,hs1,HX.out⟩
    case round=>
     obtain⟨j,hj,rfl,HN,hbi,hsi,hxi⟩:=hrel
     have Nt:=hide hbi
     have Jq:=hide hxi
     clear hbi hxi HB1 HX hs1
     obtain⟨x0,x1,_⟩:=Jq.out
     by_cases hjk:j<k
     ·obtain⟨x,hx⟩:∃x,l[j]?=some x:=⟨_,List.getElem?_eq_getElem (by have:=HL.out.1;omega)⟩
      obtain⟨aez,hxa⟩:=AY HL.out hx
      obtain⟨y0,y1,y2⟩:=hxa.below Nt.out aez
      have Zt:=hide hx
      clear hx hxa
      obtain⟨xv,xb,xp⟩:=x
      have z0:∀ob,(wr.alloc ob).cell? ⟨B0,0,none⟩=some (.int .i64 rv):=fun ob=>(World.cell?_alloc_lt _ _ _ (by show B0<_;omega)).trans x0
      have z1:∀ob,(wr.alloc ob).cell? ⟨B0,1,none⟩=some (.int .i64 rb):=fun ob=>(World.cell?_alloc_lt _ _ _ (by show B0<_;omega)).trans x1
      clear x0 x1
      have UA:=Nt.out.size
      cases e1:(xv ==rv)
      ·go_wp2
       go_roundw
       case rel=>exact⟨j+1,by omega,by go_num,hide (fun i x hi hx=>by
        rcases(by omega:i<j∨i=j)with h | rfl
        ·exact HN.out i x h hx
        ·have e:=Zt.out;rw[e]at hx;cases hx;simp[uF,e1]),Nt.out.alloc UA _,by simp;omega,Jq.out.below ((Below.refl _ _).alloc (Nat.le_refl _) _) (by omega)⟩
       case measure=>simp[intOf];omega
      cases e2:(xb ==rb)
      ·go_wp2
       go_roundw
       case rel=>exact⟨j+1,by omega,by go_num,hide (fun i x hi hx=>by
        rcases(by omega:i<j∨i=j)with h | rfl
        ·exact HN.out i x h hx
        ·have e:=Zt.out;rw[e]at hx;cases hx;simp[uF,e2]),Nt.out.alloc UA _,by simp;omega,Jq.out.below ((Below.refl _ _).alloc (Nat.le_refl _) _) (by omega)⟩
       case measure=>simp[intOf];omega
      have HA:=hide (Uz (r:=⟨rv,rb,rp⟩) hjk Zt.out (by simp[uF,e1,e2]))
      go_wp2
      go_ret
      exact⟨aO (by rw[HC.out,HS.out,HA.out];simp[h1]),Nt.out.alloc UA _⟩
     ·have aeA:j=k:=by omega
      subst aeA
      have HA:=hide (IE (r:=⟨rv,rb,rp⟩) HN.out)
      go_wp2
      go_roundw
      case rel=>exact⟨j+1,by omega,by go_num,hide (by rw[HC.out,HS.out,HA.out];simp[h1]),Nt.out⟩
      case measure=>simp[intOf];omega
  ·have hkn:k=n:=by omega
   subst hkn
   have HT:=hide (show yC (l.take k) (l.drop k)=0 from by rw[List.drop_of_length_le (by have:=HL.out.1;omega)];rfl)
   go_wp2
   go_ret
   exact⟨aO (by rw[HC.out,HT.out]),HB.out⟩
theorem Mr (A:Option Addr) (c:Nat) (W:World):Calls Tryz.prog 139 #[.slice A 0 c] W fun e W'=>e= .returned (.int .i64 0)∧W=W':=by
 go_enter Tryz.func139,Tryz.ntmps139
 go_wp2
 refine wp_loop_rounds 1 ?_
 rw[rounds_succ]
 go_wp2
 go_ret
 exact⟨rfl,rfl⟩
theorem IG (A:Option Addr) (n c:Nat) (W:World) (h:8<n):Calls Tryz.prog 139 #[.slice A n c] W fun e W'=>e= .returned (.int .i64 2)∧W=W':=by
 have h8:decide ((8:Int)<(n:Int))=true:=by simp;omega
 go_enter Tryz.func139,Tryz.ntmps139
 go_wp2
 go_ret
 exact⟨rfl,rfl⟩
theorem nQ (l:List aW) (A:Option Addr) (n c:Nat) (W:World) (hnc:n≤c) (hl:bB aW.cells 3 W W.heap.size A n l) (hok:∀r∈l,r.ok):
  Calls Tryz.prog 139 #[.slice A n c] W fun e W'=>e= .returned (.int .i64 (gT l))∧Below W.heap.size W W':=by
 rcases Nat.eq_zero_or_pos n with rfl | h0
 ·have:l=[]:=List.eq_nil_of_length_eq_zero hl.1
  subst this
  exact(Mr A c W).mono fun e w' ⟨he,hw⟩=>⟨he,hw▸Below.refl _ _⟩
 ·rcases Nat.lt_or_ge 8 n with h8 | h8
  ·have e:gT l=2:=by unfold gT;rw[if_pos (by rw[hl.1];exact h8)]
   rw[e]
   exact(IG A n c W h8).mono fun e w' ⟨he,hw⟩=>⟨he,hw▸Below.refl _ _⟩
  ·have e:gT l=yC [] l:=by unfold gT;rw[if_neg (by rw[hl.1];omega)]
   rw[e]
   obtain⟨b,o,rfl,hb,_⟩:=hl.2 h0
   exact Jp l b o n c W h8 hnc hl hok h0
def iy (b:Bool):aY:=⟨b,⟨65535,65535,255,255⟩⟩
theorem Yv (b:Bool):(iy b).ok :=⟨Nat.lt_succ_self 65535,Nat.lt_succ_self 65535,Nat.lt_succ_self 255,Nat.lt_succ_self 255⟩
theorem Tryz.infoRoute:(Tryz.prog.info? 238).map (fun i=>(i.zero,i.size,i.bytes))=some (some (.agg #[.int .i64 0,.int .i64 0,.int .i64 0]),3,24):=by kernel_rfl
theorem Ed (l:List aW) (A:Option Addr) (n c:Nat) (W:World) (hn:n≤1048576) (hl:bB aW.cells 3 W W.heap.size A n l):
  Calls Tryz.prog 136 #[.slice A n c] W fun e W'=>
   ∃v,e= .returned v∧W'.ownsRow W.heap.size 238 3 v n (l.flatMap aW.cells)∧Below W.heap.size W W':=by
 obtain⟨i0,hi0,hz0,hz1,hz2⟩:=info_parts Tryz.infoRoute
 rcases A with _ | ad
 ·have hn0:n=0:=by
   rcases Nat.eq_zero_or_pos n with h | h
   ·exact h
   ·obtain⟨b,o,e,_⟩:=hl.2 h;cases e
  subst hn0
  have:l=[]:=List.eq_nil_of_length_eq_zero hl.1
  subst this
  have heq:=fun w=>Lib.run_eql_slice_nil (P:=Tryz.prog) w _ _ none 0 c 0 0 Tryz.underlying84
  go_enter Tryz.func136,Tryz.ntmps136
  go_wp2
  go_ret
  exact⟨_,rfl,World.ownsRow_nil _ _ _ _,Below.refl _ _⟩
 ·have HR:=hide (hl.reads aW.len (by omega))
  clear hl
  have heq:=fun w=>Lib.run_eql_slice_nil (P:=Tryz.prog) w _ _ (some ad) n c 0 0 Tryz.underlying84
  go_enter Tryz.func136,Tryz.ntmps136
  go_wp2_with (at_builtin;refine bM _ rfl (.tmp 5) (.tmp 6) 84 rfl W.heap.size 238 i0 _ 3 24 Tryz.underlying84 hi0 hz0 hz1 hz2 rfl (by omega) (.slice (some ⟨W.heap.size,0,none⟩) 0 0) 0 [] rfl (World.ownsRow_lit _ #[] 0 (Nat.le_refl _) (by decide) rfl) W.heap.size (some ad) n c _ rfl (HR.out.alloc (Nat.le_refl _) _) (wJ aW.one l) (by simp only[maxLen];omega) (by omega) (by simp) ?_;intro v1 w1 hown1 hg1 OE)
  go_ret
  refine⟨v1,rfl,by simpa using hown1,((Below.refl _ _).alloc (Nat.le_refl _) _).grown hg1 (by simp) (fun k hk=>?_)⟩
  simp[Value.ownBlock]at hk
  omega
theorem Yw:ay 0:=by unfold ay;omega
theorem Tryz.cellsRoute:Tryz.prog.cellsOf 238=3:=by kernel_rfl
theorem Tryz.cellsInt:Tryz.prog.cellsOf 3=1:=by kernel_rfl
section
variable {H:Type} {enc:TypeId×Value→H} {w:World} {base:Nat} {spare:Nat→Bool} {held:Bool} {r:Reach} {b0:Nat}
theorem OJ {n:Nat} {cs:List Value} {y:DataW H×List MemPlace} (h:DataW.trod enc Tryz.prog w base spare held n 238 cs=some y):∃r:aW,r.ok∧cs=r.cells:=by
 obtain⟨xs,n',_,_,hlen,hxl,hf⟩:=DataW.trod_struct Tryz.underlying238 h
 rw[Tryz.cellsRoute]at hlen
 match cs,hlen with
 |[c0,c1,c2],_=>
  have h0:=hf 0 _ rfl
  have h1:=hf 1 _ rfl
  have h2:=hf 2 _ rfl
  obtain⟨y0,e0⟩:=get_some (xs:=xs) (i:=0) (by rw[hxl];decide)
  obtain⟨y1,e1⟩:=get_some (xs:=xs) (i:=1) (by rw[hxl];decide)
  obtain⟨y2,e2⟩:=get_some (xs:=xs) (i:=2) (by rw[hxl];decide)
  rw[e0]at h0
  rw[e1]at h1
  rw[e2]at h2
  simp[Tryz.cellsInt]at h0 h1 h2
  obtain⟨a,rfl,ha⟩:=kr h0
  obtain⟨b,rfl,hb⟩:=kr h1
  obtain⟨c,rfl,hc⟩:=kr h2
  exact⟨⟨a,b,c⟩,⟨ha,hb,hc⟩,rfl⟩
end
end Go.Proofs.YtlhmdcgckocidaaGreat
