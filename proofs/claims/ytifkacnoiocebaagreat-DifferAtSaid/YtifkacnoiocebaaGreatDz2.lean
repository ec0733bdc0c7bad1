/- A part of the proof: G4. -/
import Derived.Test.YtifkacnoiocebaaGreatDz0
import Derived.Deep.RegionWith
set_option linter.unusedVariables false
set_option linter.unusedSimpArgs false
set_option maxRecDepth 100000
set_option maxHeartbeats 4000000
namespace Go.Proofs.YtifkacnoiocebaaGreat
open Go.ChangeAt Go.ChangeShapes Go.RowKit Go.WideShapes
structure aG where
 v:Int
 b:Int
 p:Int
def aG.ok (r:aG):Prop:=aO r.v∧aO r.b∧aO r.p
def aG.cells (r:aG):List Value:=[.int .i64 r.v,.int .i64 r.b,.int .i64 r.p]
theorem aG.len (r:aG):r.cells.length=3:=rfl
theorem aG.one (r:aG):∀u∈r.cells,u.oneCell'=true:=by
 intro u hu
 simp only[aG.cells,List.mem_cons,List.not_mem_nil,or_false]at hu
 rcases hu with rfl | rfl | rfl<;>rfl
def EA (v b:Int):Bool:=bits .and .i64 v (15 / 2 ^ b.toNat)==0
def sI (d v b:Int):Bool:=bits .andNot .i64 d (15 / 2 ^ b.toNat)==v
def dx (v b p:Int):Bool:=decide (0≤b) && decide (b≤4) && decide (0≤v) && decide (v<16) && EA v b && decide (0≤p) && decide (p≤3)
theorem JK (v b p:Int) (W:World) (hv:aO v) (hb:aO b) (hp:aO p):Calls Tryz.prog 116 #[.agg #[.int .i64 v,.int .i64 b,.int .i64 p]] W fun e W'=>e= .returned (.bool (dx v b p))∧Below W.heap.size W W':=by
 obtain⟨hv1,hv2⟩:=hv
 obtain⟨hb1,hb2⟩:=hb
 obtain⟨hp1,hp2⟩:=hp
 by_cases h1:0≤b
 case neg=>
  have h1':decide (0≤b)=false:=by simpa using h1
  go_enter Tryz.func116,Tryz.ntmps116
  go_wp2
  go_quiet (fail)
  go_wp2
  go_ret
  exact⟨by simp[dx,h1'],((Below.refl _ _).alloc (Nat.le_refl _) _).trans ⟨rfl,rfl,rfl,Nat.le_refl _,fun _ _=>rfl⟩⟩
 by_cases h2:b≤4
 case neg=>
  have h2':decide (b≤4)=false:=by simpa using h2
  go_enter Tryz.func116,Tryz.ntmps116
  go_wp2
  go_quiet (fail)
  go_wp2
  go_ret
  exact⟨by simp[dx,h2'],((Below.refl _ _).alloc (Nat.le_refl _) _).trans ⟨rfl,rfl,rfl,Nat.le_refl _,fun _ _=>rfl⟩⟩
 by_cases h3:0≤v
 case neg=>
  have h3':decide (0≤v)=false:=by simpa using h3
  go_enter Tryz.func116,Tryz.ntmps116
  go_wp2
  go_quiet (fail)
  go_wp2
  go_ret
  exact⟨by simp[dx,h3'],((Below.refl _ _).alloc (Nat.le_refl _) _).trans ⟨rfl,rfl,rfl,Nat.le_refl _,fun _ _=>rfl⟩⟩
 by_cases h4:v<16
 case neg=>
  have h4':decide (v<16)=false:=by simpa using h4
  go_enter Tryz.func116,Tryz.ntmps116
  go_wp2
  go_quiet (fail)
  go_wp2
  go_ret
  exact⟨by simp[dx,h4'],((Below.refl _ _).alloc (Nat.le_refl _) _).trans ⟨rfl,rfl,rfl,Nat.le_refl _,fun _ _=>rfl⟩⟩
 cases h5:(bits .and .i64 v (15 / 2 ^ b.toNat)==0)
 ·go_enter Tryz.func116,Tryz.ntmps116
  go_wp2
  go_quiet (fail)
  go_wp2
  go_ret
  exact⟨by simp[dx,EA,h5],((Below.refl _ _).alloc (Nat.le_refl _) _).trans ⟨rfl,rfl,rfl,Nat.le_refl _,fun _ _=>rfl⟩⟩
 by_cases h6:0≤p
 case neg=>
  have h6':decide (0≤p)=false:=by simpa using h6
  go_enter Tryz.func116,Tryz.ntmps116
  go_wp2
  go_quiet (fail)
  go_wp2
  go_ret
  exact⟨by simp[dx,h6'],((Below.refl _ _).alloc (Nat.le_refl _) _).trans ⟨rfl,rfl,rfl,Nat.le_refl _,fun _ _=>rfl⟩⟩
 cases h7:decide (p≤3)
 ·go_enter Tryz.func116,Tryz.ntmps116
  go_wp2
  go_quiet (fail)
  go_wp2
  go_ret
  exact⟨by simp[dx,h7],((Below.refl _ _).alloc (Nat.le_refl _) _).trans ⟨rfl,rfl,rfl,Nat.le_refl _,fun _ _=>rfl⟩⟩
 ·have h8:p≤3:=by simpa using h7
  go_enter Tryz.func116,Tryz.ntmps116
  go_wp2
  go_quiet (fail)
  go_wp2
  go_ret
  exact⟨by simp[dx,EA,h1,h2,h3,h4,h5,h6,h8],((Below.refl _ _).alloc (Nat.le_refl _) _).trans ⟨rfl,rfl,rfl,Nat.le_refl _,fun _ _=>rfl⟩⟩
def yV (w:World) (b o:Nat) (r:aG):Prop:=
 w.cell? ⟨b,o,none⟩=some (.int .i64 r.v)∧w.cell? ⟨b,o+1,none⟩=some (.int .i64 r.b)∧w.cell? ⟨b,o+2,none⟩=some (.int .i64 r.p)
theorem yV.below {w w':World} {B b o:Nat} {r:aG} (h:yV w b o r) (hB:Below B w w') (hb:b<B):yV w' b o r:=by
 unfold yV at*
 have e:∀o,w'.cell? ⟨b,o,none⟩=w.cell? ⟨b,o,none⟩:=fun o=>hB.cell (p:=⟨b,o,none⟩) hb
 rw[e,e,e]
 exact h
theorem rC {w:World} {B b o n k:Nat} {l:List aG} {r:aG} (h:bD aG.cells 3 w B (some ⟨b,o,none⟩) n l) (hr:l[k]?=some r):b<B∧yV w b (o+k*3) r:=
 ⟨(h.get hr).1,(h.get hr).2 0 _ rfl,(h.get hr).2 1 _ rfl,(h.get hr).2 2 _ rfl⟩
def jU (d:Int) (r:aG) (bits:Int):Bool:=dx r.v r.b r.p && decide (0≤d) && decide (d<16) && sI d r.v r.b && decide (bits<r.b)
def eu (d:Int) (s:Int×Int) (r:aG):Int×Int:=if jU d r s.2 then(r.p,r.b)else s
def jE (d:Int) (l:List aG):Int×Int:=l.foldl (eu d) (0,-1)
theorem lV (v b p:Int) (W:World) (B:Bool) (hv:aO v) (hb:aO b) (hp:aO p) (h:dx v b p=B):Calls Tryz.prog 116 #[.agg #[.int .i64 v,.int .i64 b,.int .i64 p]] W fun e W'=>e= .returned (.bool B)∧Below W.heap.size W W':=
 h▸JK v b p W hv hb hp
theorem Qz (d:Int) (l:List aG) {k:Nat} {r:aG} (hr:l[k]?=some r):jE d (l.take (k+1))=eu d (jE d (l.take k)) r:=by
 have hk:=List.getElem?_eq_some_iff.1 hr
 obtain⟨hk1,hk2⟩:=hk
 rw[jE,List.take_succ_eq_append_getElem hk1,List.foldl_append,hk2]
 rfl
theorem QA (d:Int) (l:List aG): -1≤(jE d l).2∧(jE d l).2≤4:=by
 have h:∀(l:List aG) (s:Int×Int),-1≤s.2∧s.2≤4→ -1≤(l.foldl (eu d) s).2∧(l.foldl (eu d) s).2≤4:=by
  intro l
  induction l with
  |nil=>intro s h;exact h
  |cons r l ih=>
   intro s h
   refine ih _ ?_
   unfold eu
   split
   ·rename_i hh
    simp only[jU,dx,Bool.and_eq_true,decide_eq_true_eq]at hh
    show -1≤r.b∧r.b≤4
    omega
   ·exact h
 exact h l _ (by decide)
theorem Ta (l:List aG) (b o n c:Nat) (d:Int) (W:World) (hn:n≤9223372036854775807) (hd:aO d) (hl:bD aG.cells 3 W W.heap.size (some ⟨b,o,none⟩) n l) (hok:∀r∈l,r.ok) (h0:0<n):
  Calls Tryz.prog 123 #[.slice (some ⟨b,o,none⟩) n c,.int .i64 d] W fun e W'=>
   e= .returned (.tuple #[.int .i64 (jE d l).1,.bool (decide (0≤(jE d l).2))])∧Below W.heap.size W W':=by
 obtain⟨hd1,hd2⟩:=hd
 have HL:=hide hl
 have HK:=hide hok
 clear hl hok
 go_enter Tryz.func123,Tryz.ntmps123
 go_wp2
 go_loopw [6,7,12] (fun u v i wr=>∃(k:Nat) (x y:Int),k≤n∧i= .int .i64 k∧u= .int .i64 x∧v= .int .i64 y∧(x,y)=jE d (l.take k)∧Below W.heap.size W wr) (fun _ _ i _=>n - (intOf i).toNat)
 case atStart=>exact⟨0,0,-1,Nat.zero_le _,rfl,rfl,rfl,rfl,Below.refl _ _⟩
 case round=>
  obtain⟨k,x,y,hk,rfl,rfl,rfl,hxy,hb⟩:=hrel
  have NN:=QA d (l.take k)
  rw[← hxy]at NN
  obtain⟨hy1,hy2⟩: -1≤y∧y≤4:=NN
  have JL:=hide hxy
  have HB:=hide hb
  clear hxy hb
  by_cases hlt:k<n
  ·obtain⟨r,hr⟩:∃r,l[k]?=some r:=⟨_,List.getElem?_eq_getElem (by have:=HL.out.1;omega)⟩
   obtain⟨kD,hra⟩:=rC HL.out hr
   obtain⟨q0,q1,q2⟩:=hra.below HB.out kD
   have HS:=hide (Qz d l hr)
   have acM:=HK.out r (List.mem_of_getElem? hr)
   obtain⟨⟨hv1,hv2⟩,⟨oQ,oU⟩,⟨hp1,hp2⟩⟩:=acM
   clear hr hra
   obtain⟨rv,rb,rp⟩:=r
   go_wp2_with fail
   refine bB (by kernel_rfl) (by kernel_rfl) ?_
   intro T hT g hg hgi
   have HG:=hide hg
   have HI:=hide hgi
   have k0:∀t,(g t).cell? ⟨wr.heap.size,0,none⟩=some (.int .i64 rv):=fun t=>((HG.out t).cell (p:=⟨wr.heap.size,0,none⟩) (by simp)).trans (by simp)
   have k1:∀t,(g t).cell? ⟨wr.heap.size,1,none⟩=some (.int .i64 rb):=fun t=>((HG.out t).cell (p:=⟨wr.heap.size,1,none⟩) (by simp)).trans (by simp)
   have k2:∀t,(g t).cell? ⟨wr.heap.size,2,none⟩=some (.int .i64 rp):=fun t=>((HG.out t).cell (p:=⟨wr.heap.size,2,none⟩) (by simp)).trans (by simp)
   have vQ:=hide (fun t=>HB.out.trans (((Below.refl _ wr).alloc HB.out.size _).trans ((HG.out t).mono (by have:=HB.out.size;simp;omega))))
   clear hg hgi q0 q1 q2
   cases h1:dx rv rb rp
   ·repeat (go_big_quiet_step ((go_at_call 116;exact eB HG.out HI.out (lV _ _ _ _ _ ⟨hv1,hv2⟩ ⟨oQ,oU⟩ ⟨hp1,hp2⟩ h1))))
    refine wpQuiet_nil ?_
    intro _ hw'
    obtain⟨t,rfl⟩:=hw'
    go_wp2
    go_roundw
    case rel=>exact⟨k+1,x,y,by omega,by go_num,rfl,rfl,by rw[HS.out,← JL.out];simp[eu,jU,sI,h1],vQ.out t⟩
    case measure=>simp[intOf];omega
   have h1':=h1
   simp only[dx,Bool.and_eq_true,decide_eq_true_eq]at h1'
   obtain⟨⟨⟨⟨⟨⟨r1,r2⟩,r3⟩,r4⟩,r5⟩,r6⟩,r7⟩:=h1'
   clear r5
   by_cases h2:0≤d
   case neg=>
    have h2':decide (0≤d)=false:=by simpa using h2
    repeat (go_big_quiet_step ((go_at_call 116;exact eB HG.out HI.out (lV _ _ _ _ _ ⟨hv1,hv2⟩ ⟨oQ,oU⟩ ⟨hp1,hp2⟩ h1))))
    refine wpQuiet_nil ?_
    intro _ hw'
    obtain⟨t,rfl⟩:=hw'
    go_wp2
    go_roundw
    case rel=>exact⟨k+1,x,y,by omega,by go_num,rfl,rfl,by rw[HS.out,← JL.out];simp[eu,jU,sI,h2'],vQ.out t⟩
    case measure=>simp[intOf];omega
   by_cases h3:d<16
   case neg=>
    have h3':decide (d<16)=false:=by simpa using h3
    repeat (go_big_quiet_step ((go_at_call 116;exact eB HG.out HI.out (lV _ _ _ _ _ ⟨hv1,hv2⟩ ⟨oQ,oU⟩ ⟨hp1,hp2⟩ h1))))
    refine wpQuiet_nil ?_
    intro _ hw'
    obtain⟨t,rfl⟩:=hw'
    go_wp2
    go_roundw
    case rel=>exact⟨k+1,x,y,by omega,by go_num,rfl,rfl,by rw[HS.out,← JL.out];simp[eu,jU,sI,h3'],vQ.out t⟩
    case measure=>simp[intOf];omega
   cases h4:(bits .andNot .i64 d (15 / 2 ^ rb.toNat)==rv)
   ·repeat (go_big_quiet_step ((go_at_call 116;exact eB HG.out HI.out (lV _ _ _ _ _ ⟨hv1,hv2⟩ ⟨oQ,oU⟩ ⟨hp1,hp2⟩ h1))))
    refine wpQuiet_nil ?_
    intro _ hw'
    obtain⟨t,rfl⟩:=hw'
    go_wp2
    go_roundw
    case rel=>exact⟨k+1,x,y,by omega,by go_num,rfl,rfl,by rw[HS.out,← JL.out];simp[eu,jU,sI,h4],vQ.out t⟩
    case measure=>simp[intOf];omega
   cases h5:decide (y<rb)
   ·repeat (go_big_quiet_step ((go_at_call 116;exact eB HG.out HI.out (lV _ _ _ _ _ ⟨hv1,hv2⟩ ⟨oQ,oU⟩ ⟨hp1,hp2⟩ h1))))
    refine wpQuiet_nil ?_
    intro _ hw'
    obtain⟨t,rfl⟩:=hw'
    go_wp2
    go_roundw
    case rel=>exact⟨k+1,x,y,by omega,by go_num,rfl,rfl,by rw[HS.out,← JL.out];simp[eu,jU,sI,h5],vQ.out t⟩
    case measure=>simp[intOf];omega
   have h6:y<rb:=by simpa using h5
   repeat (go_big_quiet_step ((go_at_call 116;exact eB HG.out HI.out (lV _ _ _ _ _ ⟨hv1,hv2⟩ ⟨oQ,oU⟩ ⟨hp1,hp2⟩ h1))))
   refine wpQuiet_nil ?_
   intro _ hw'
   obtain⟨t,rfl⟩:=hw'
   go_wp2
   go_quiet (fail)
   go_wp2
   go_roundw
   case rel=>exact⟨k+1,rp,rb,by omega,by go_num,rfl,rfl,by rw[HS.out,← JL.out];simp[eu,jU,sI,h1,h2,h3,h4,h6],(vQ.out t).trans ⟨rfl,rfl,rfl,Nat.le_refl _,fun _ _=>rfl⟩⟩
   case measure=>simp[intOf];omega
  ·have hkn:k=n:=by omega
   subst hkn
   have htake:l.take k=l:=List.take_of_length_le (by have:=HL.out.1;omega)
   have HT:=hide htake
   clear htake
   go_wp2
   go_ret2
   have e:=JL.out
   rw[HT.out]at e
   exact⟨by rw[← e];rfl,HB.out⟩
theorem WZ (A:Option Addr) (c:Nat) (d:Int) (W:World) (hd:aO d):Calls Tryz.prog 123 #[.slice A 0 c,.int .i64 d] W fun e W'=>e= .returned (.tuple #[.int .i64 0,.bool false])∧W=W':=by
 go_enter Tryz.func123,Tryz.ntmps123
 go_wp2
 refine wp_loop_rounds 1 ?_
 rw[rounds_succ]
 go_wp2
 go_ret2
 exact⟨rfl,rfl⟩
theorem W9 (l:List aG) (A:Option Addr) (n c:Nat) (d:Int) (W:World) (hn:n≤9223372036854775807) (hd:aO d) (hl:bD aG.cells 3 W W.heap.size A n l) (hok:∀r∈l,r.ok):
  Calls Tryz.prog 123 #[.slice A n c,.int .i64 d] W fun e W'=>
   e= .returned (.tuple #[.int .i64 (jE d l).1,.bool (decide (0≤(jE d l).2))])∧Below W.heap.size W W':=by
 rcases Nat.eq_zero_or_pos n with rfl | h0
 ·have:l=[]:=List.eq_nil_of_length_eq_zero hl.1
  subst this
  exact(WZ A c d W hd).mono fun e w' ⟨he,hw⟩=>⟨he,hw▸Below.refl _ _⟩
 ·obtain⟨b,o,rfl,hb,_⟩:=hl.2 h0
  exact Ta l b o n c d W hn hd hl hok h0
def oz (r x:aG):Bool:=(x.v ==r.v) && (x.b ==r.b)
def sJ:List aG→List aG→Int
 |_,[]=>0
 |pre,r::t=>if dx r.v r.b r.p=false then 1 else if pre.any (oz r)then 5 else sJ (pre++[r]) t
def cB (l:List aG):Int:=if 8<l.length then 2 else sJ [] l
theorem G9 {l:List aG} {k:Nat} {r:aG} (hr:l[k]?=some r):sJ (l.take k) (l.drop k)=if dx r.v r.b r.p=false then 1 else if(l.take k).any (oz r)then 5 else sJ (l.take (k+1)) (l.drop (k+1)):=by
 obtain⟨hk1,hk2⟩:=List.getElem?_eq_some_iff.1 hr
 rw[List.drop_eq_getElem_cons hk1,hk2,List.take_succ_eq_append_getElem hk1,hk2]
 rfl
theorem JM {l:List aG} {k j:Nat} {r x:aG} (hj:j<k) (hx:l[j]?=some x) (h:oz r x=true):(l.take k).any (oz r)=true:=by
 rw[List.any_eq_true]
 exact⟨x,List.mem_of_getElem? (i:=j) (by rw[List.getElem?_take_of_lt hj];exact hx),h⟩
theorem Au {l:List aG} {k:Nat} {r:aG} (h:∀j x,j<k→l[j]?=some x→oz r x=false):(l.take k).any (oz r)=false:=by
 rw[List.any_eq_false]
 intro x hx
 obtain⟨j,hj⟩:=List.getElem?_of_mem hx
 have hjk:j<k:=by
  have:=(List.getElem?_eq_some_iff.1 hj).1
  simp at this
  omega
 rw[List.getElem?_take_of_lt hjk]at hj
 simp[h j x hjk hj]
def qH (w:World) (b:Nat) (r:aG):Prop:=w.cell? ⟨b,0,none⟩=some (.int .i64 r.v)∧w.cell? ⟨b,1,none⟩=some (.int .i64 r.b)∧w.cell? ⟨b,2,none⟩=some (.int .i64 r.p)
theorem qH.below {w w':World} {B b:Nat} {r:aG} (h:qH w b r) (hB:Below B w w') (hb:b<B):qH w' b r:=by
 unfold qH at*
 have e:∀o,w'.cell? ⟨b,o,none⟩=w.cell? ⟨b,o,none⟩:=fun o=>hB.cell (p:=⟨b,o,none⟩) hb
 rw[e,e,e]
 exact h
theorem aA {a b:Int} (h:a=b):Ending.returned (.int .i64 a)= .returned (.int .i64 b):=by rw[h]
theorem JN (l:List aG) (b o n c:Nat) (W:World) (hn:n≤8) (hnc:n≤c) (hl:bD aG.cells 3 W W.heap.size (some ⟨b,o,none⟩) n l) (hok:∀r∈l,r.ok) (h0:0<n):
  Calls Tryz.prog 83 #[.slice (some ⟨b,o,none⟩) n c] W fun e W'=>e= .returned (.int .i64 (sJ [] l))∧Below W.heap.size W W':=by
 have HL:=hide hl
 have HK:=hide hok
 clear hl hok
 have h8:decide ((8:Int)<(n:Int))=false:=by simp;omega
 go_enter Tryz.func83,Tryz.ntmps83
 go_wp2
 go_loopw [3,4,12] (fun _ _ i wr=>∃k:Nat,k≤n∧i= .int .i64 k∧Hid (sJ [] l=sJ (l.take k) (l.drop k))∧Below W.heap.size W wr) (fun _ _ i _=>n - (intOf i).toNat)
 case atStart=>exact⟨0,Nat.zero_le _,rfl,rfl,Below.refl _ _⟩
 case round=>
  obtain⟨k,hk,rfl,HC,hb⟩:=hrel
  have HB:=hide hb
  clear hb
  by_cases hlt:k<n
  ·obtain⟨r,hr⟩:∃r,l[k]?=some r:=⟨_,List.getElem?_eq_getElem (by have:=HL.out.1;omega)⟩
   obtain⟨kD,hra⟩:=rC HL.out hr
   obtain⟨q0,q1,q2⟩:=hra.below HB.out kD
   have HS:=hide (G9 hr)
   obtain⟨⟨hv1,hv2⟩,⟨oQ,oU⟩,⟨hp1,hp2⟩⟩:=HK.out r (List.mem_of_getElem? hr)
   clear hr hra
   obtain⟨rv,rb,rp⟩:=r
   cases h1:dx rv rb rp
   ·go_wp2_with fail
    refine(lV _ _ _ _ _ ⟨hv1,hv2⟩ ⟨oQ,oU⟩ ⟨hp1,hp2⟩ h1).mono ?_
    rintro e w1 ⟨rfl,hb1⟩
    have HB1:=hide (HB.out.trans (((Below.refl _ wr).alloc HB.out.size _).trans (hb1.mono (by have:=HB.out.size;simp;omega))))
    clear hb1
    go_wp2
    go_ret
    exact⟨aA (by rw[HC.out,HS.out];simp[h1]),HB1.out⟩
   ·go_wp2_with fail
    refine(lV _ _ _ _ _ ⟨hv1,hv2⟩ ⟨oQ,oU⟩ ⟨hp1,hp2⟩ h1).mono ?_
    rintro e w1 ⟨rfl,hb1⟩
    have HB1:=hide (HB.out.trans (((Below.refl _ wr).alloc HB.out.size _).trans (hb1.mono (by have:=HB.out.size;simp;omega))))
    have HX:=hide ((show qH (wr.alloc (.cells #[.int .i64 rv,.int .i64 rb,.int .i64 rp] 159)) wr.heap.size ⟨rv,rb,rp⟩from by simp[qH]).below hb1 (by simp))
    have hs1:wr.heap.size+1≤w1.heap.size:=by have:=hb1.size;simpa using this
    have PZ:W.heap.size≤wr.heap.size:=HB.out.size
    clear hb1 q0 q1 q2
    go_wp2
    generalize hB0:wr.heap.size=B0 at*
    clear hB0 HB
    go_loopw [6,24] (fun _ i wi=>∃j:Nat,j≤k∧i= .int .i64 j∧Hid (∀i x,i<j→l[i]?=some x→oz ⟨rv,rb,rp⟩ x=false)∧Below W.heap.size W wi∧B0+1≤wi.heap.size∧qH wi B0 ⟨rv,rb,rp⟩) (fun _ i _=>k - (intOf i).toNat)
    case atStart=>exact⟨0,Nat.zero_le _,rfl,fun i x h=>absurd h (by omega),HB1.out,hs1,HX.out⟩
    case round=>
     obtain⟨j,hj,rfl,HN,hbi,hsi,hxi⟩:=hrel
     have sK:=hide hbi
     have Yo:=hide hxi
     clear hbi hxi HB1 HX hs1
     obtain⟨x0,x1,_⟩:=Yo.out
     by_cases hjk:j<k
     ·obtain⟨x,hx⟩:∃x,l[j]?=some x:=⟨_,List.getElem?_eq_getElem (by have:=HL.out.1;omega)⟩
      obtain⟨Tc,hxa⟩:=rC HL.out hx
      obtain⟨y0,y1,y2⟩:=hxa.below sK.out Tc
      have JO:=hide hx
      clear hx hxa
      obtain⟨xv,xb,xp⟩:=x
      have z0:∀ob,(wr.alloc ob).cell? ⟨B0,0,none⟩=some (.int .i64 rv):=fun ob=>(World.cell?_alloc_lt _ _ _ (by show B0<_;omega)).trans x0
      have z1:∀ob,(wr.alloc ob).cell? ⟨B0,1,none⟩=some (.int .i64 rb):=fun ob=>(World.cell?_alloc_lt _ _ _ (by show B0<_;omega)).trans x1
      clear x0 x1
      have Td:=sK.out.size
      cases e1:(xv ==rv)
      ·go_wp2
       go_roundw
       case rel=>exact⟨j+1,by omega,by go_num,hide (fun i x hi hx=>by
        rcases(by omega:i<j∨i=j)with h | rfl
        ·exact HN.out i x h hx
        ·have e:=JO.out;rw[e]at hx;cases hx;simp[oz,e1]),sK.out.alloc Td _,by simp;omega,Yo.out.below ((Below.refl _ _).alloc (Nat.le_refl _) _) (by omega)⟩
       case measure=>simp[intOf];omega
      cases e2:(xb ==rb)
      ·go_wp2
       go_roundw
       case rel=>exact⟨j+1,by omega,by go_num,hide (fun i x hi hx=>by
        rcases(by omega:i<j∨i=j)with h | rfl
        ·exact HN.out i x h hx
        ·have e:=JO.out;rw[e]at hx;cases hx;simp[oz,e2]),sK.out.alloc Td _,by simp;omega,Yo.out.below ((Below.refl _ _).alloc (Nat.le_refl _) _) (by omega)⟩
       case measure=>simp[intOf];omega
      have HA:=hide (JM (r:=⟨rv,rb,rp⟩) hjk JO.out (by simp[oz,e1,e2]))
      go_wp2
      go_ret
      exact⟨aA (by rw[HC.out,HS.out,HA.out];simp[h1]),sK.out.alloc Td _⟩
     ·have Te:j=k:=by omega
      subst Te
      have HA:=hide (Au (r:=⟨rv,rb,rp⟩) HN.out)
      go_wp2
      go_roundw
      case rel=>exact⟨j+1,by omega,by go_num,hide (by rw[HC.out,HS.out,HA.out];simp[h1]),sK.out⟩
      case measure=>simp[intOf];omega
  ·have hkn:k=n:=by omega
   subst hkn
   have HT:=hide (show sJ (l.take k) (l.drop k)=0 from by rw[List.drop_of_length_le (by have:=HL.out.1;omega)];rfl)
   go_wp2
   go_ret
   exact⟨aA (by rw[HC.out,HT.out]),HB.out⟩
theorem Le (A:Option Addr) (c:Nat) (W:World):Calls Tryz.prog 83 #[.slice A 0 c] W fun e W'=>e= .returned (.int .i64 0)∧W=W':=by
 go_enter Tryz.func83,Tryz.ntmps83
 go_wp2
 refine wp_loop_rounds 1 ?_
 rw[rounds_succ]
 go_wp2
 go_ret
 exact⟨rfl,rfl⟩
theorem Iy (A:Option Addr) (n c:Nat) (W:World) (h:8<n):Calls Tryz.prog 83 #[.slice A n c] W fun e W'=>e= .returned (.int .i64 2)∧W=W':=by
 have h8:decide ((8:Int)<(n:Int))=true:=by simp;omega
 go_enter Tryz.func83,Tryz.ntmps83
 go_wp2
 go_ret
 exact⟨rfl,rfl⟩
theorem nX (l:List aG) (A:Option Addr) (n c:Nat) (W:World) (hnc:n≤c) (hl:bD aG.cells 3 W W.heap.size A n l) (hok:∀r∈l,r.ok):
  Calls Tryz.prog 83 #[.slice A n c] W fun e W'=>e= .returned (.int .i64 (cB l))∧Below W.heap.size W W':=by
 rcases Nat.eq_zero_or_pos n with rfl | h0
 ·have:l=[]:=List.eq_nil_of_length_eq_zero hl.1
  subst this
  exact(Le A c W).mono fun e w' ⟨he,hw⟩=>⟨he,hw▸Below.refl _ _⟩
 ·rcases Nat.lt_or_ge 8 n with h8 | h8
  ·have e:cB l=2:=by unfold cB;rw[if_pos (by rw[hl.1];exact h8)]
   rw[e]
   exact(Iy A n c W h8).mono fun e w' ⟨he,hw⟩=>⟨he,hw▸Below.refl _ _⟩
  ·have e:cB l=sJ [] l:=by unfold cB;rw[if_neg (by rw[hl.1];omega)]
   rw[e]
   obtain⟨b,o,rfl,hb,_⟩:=hl.2 h0
   exact JN l b o n c W h8 hnc hl hok h0
theorem Tf (p:P4) (W:World) (B:Bool) (h:dH p=B):Calls Tryz.prog 37 #[.agg #[.int .i64 p.src,.int .i64 p.dst,.int .i64 p.dz,.int .i64 p.dU]] W fun e W'=>e= .returned (.bool B)∧Below W.heap.size W W':=h▸Ni p W
theorem Tryz.infoRoute:(Tryz.prog.info? 159).map (fun i=>(i.zero,i.size,i.bytes))=some (some (.agg #[.int .i64 0,.int .i64 0,.int .i64 0]),3,24):=by kernel_rfl
theorem Es (l:List aG) (A:Option Addr) (n c:Nat) (W:World) (hn:n≤1048576) (hl:bD aG.cells 3 W W.heap.size A n l):
  Calls Tryz.prog 131 #[.slice A n c] W fun e W'=>
   ∃v,e= .returned v∧W'.ownsRow W.heap.size 159 3 v n (l.flatMap aG.cells)∧Below W.heap.size W W':=by
 obtain⟨i0,hi0,hz0,hz1,hz2⟩:=info_parts Tryz.infoRoute
 rcases A with _ | ad
 ·have hn0:n=0:=by
   rcases Nat.eq_zero_or_pos n with h | h
   ·exact h
   ·obtain⟨b,o,e,_⟩:=hl.2 h;cases e
  subst hn0
  have:l=[]:=List.eq_nil_of_length_eq_zero hl.1
  subst this
  have heq:=fun w=>Lib.run_eql_slice_nil (P:=Tryz.prog) w _ _ none 0 c 0 0 Tryz.underlying79
  go_enter Tryz.func131,Tryz.ntmps131
  go_wp2
  go_ret
  exact⟨_,rfl,World.ownsRow_nil _ _ _ _,Below.refl _ _⟩
 ·have HR:=hide (hl.reads aG.len (by omega))
  clear hl
  have heq:=fun w=>Lib.run_eql_slice_nil (P:=Tryz.prog) w _ _ (some ad) n c 0 0 Tryz.underlying79
  go_enter Tryz.func131,Tryz.ntmps131
  go_wp2_with (at_builtin;refine aT _ rfl (.tmp 5) (.tmp 6) 79 rfl W.heap.size 159 i0 _ 3 24 Tryz.underlying79 hi0 hz0 hz1 hz2 rfl (by omega) (.slice (some ⟨W.heap.size,0,none⟩) 0 0) 0 [] rfl (World.ownsRow_lit _ #[] 0 (Nat.le_refl _) (by decide) rfl) W.heap.size (some ad) n c _ rfl (HR.out.alloc (Nat.le_refl _) _) (Dy aG.one l) (by simp only[maxLen];omega) (by omega) (by simp) ?_;intro v1 w1 hown1 hg1 I8)
  go_ret
  refine⟨v1,rfl,by simpa using hown1,((Below.refl _ _).alloc (Nat.le_refl _) _).grown hg1 (by simp) (fun k hk=>?_)⟩
  simp[Value.ownBlock]at hk
  omega
theorem Xa:aO 0:=by unfold aO;omega
theorem Tryz.cellsRoute:Tryz.prog.cellsOf 159=3:=by kernel_rfl
theorem Tryz.cellsInt:Tryz.prog.cellsOf 3=1:=by kernel_rfl
section
variable {H:Type} {enc:TypeId×Value→H} {w:World} {base:Nat} {spare:Nat→Bool} {held:Bool} {r:Reach} {b0:Nat}
theorem NP {n:Nat} {cs:List Value} {y:DataW H×List MemPlace} (h:DataW.trod enc Tryz.prog w base spare held n 159 cs=some y):∃r:aG,r.ok∧cs=r.cells:=by
 obtain⟨xs,n',_,_,hlen,hxl,hf⟩:=DataW.trod_struct Tryz.underlying159 h
 rw[Tryz.cellsRoute]at hlen
 match cs,hlen with
 |[c0,c1,c2],_=>
  have h0:=hf 0 _ rfl
  have h1:=hf 1 _ rfl
  have h2:=hf 2 _ rfl
  obtain⟨y0,e0⟩:=get_some (xs:=xs) (i:=0) (by rw[hxl];decide)
  obtain⟨y1,e1⟩:=get_some (xs:=xs) (i:=1) (by rw[hxl];decide)
  obtain⟨y2,e2⟩:=get_some (xs:=xs) (i:=2) (by rw[hxl];decide)
  rw[e0]at h0
  rw[e1]at h1
  rw[e2]at h2
  simp[Tryz.cellsInt]at h0 h1 h2
  obtain⟨a,rfl,ha⟩:=ny h0
  obtain⟨b,rfl,hb⟩:=ny h1
  obtain⟨c,rfl,hc⟩:=ny h2
  exact⟨⟨a,b,c⟩,⟨ha,hb,hc⟩,rfl⟩
theorem Tg {v:Value} {d:DataW H} {p:List MemPlace} (hv:Value.okWide Tryz.prog w r b0 3 v) (h:DataW.Trod enc Tryz.prog w base spare held 3 v d p):∃x:Int,v= .int .i64 x∧aO x:=by
 obtain⟨x,rfl,rfl,rfl,wx⟩:=open_int Tryz.underlying3 hv h
 exact⟨x,rfl,Dw wx⟩
end
end Go.Proofs.YtifkacnoiocebaaGreat
