/- A part of the proof: G5, NetAt, Devs. -/
import Derived.Test.YtlhmdcgckocidaaGreatHr3
import Derived.Deep.RegionHeld3
import Derived.BigRegion
import Derived.ChangeAlike
set_option linter.unusedVariables false
set_option linter.unusedSimpArgs false
set_option maxRecDepth 100000
set_option maxHeartbeats 8000000
namespace Go.Proofs.YtlhmdcgckocidaaGreat
open Go.ChangeAt Go.ChangeShapes Go.RowKit Go.WideShapes
theorem gK {a b:Bool} (h:a=b):Ending.returned (.bool a)= .returned (.bool b):=by rw[h]
theorem Ah (w:World) (n:Nat) (B:Nat):Below B w (w.drewN n):=⟨rfl,rfl,rfl,Nat.le_refl _,fun _ _=>rfl⟩
end Go.Proofs.YtlhmdcgckocidaaGreat
namespace Go.Proofs.YtlhmdcgckocidaaGreat
open Go.RowKit
def pk (c:Nat):P4:=⟨((c / 1024:Nat):Int),((c / 64 % 16:Nat):Int),((c / 8 % 8:Nat):Int),((c % 8:Nat):Int)⟩
theorem aby (c:Nat):Gr c= .agg #[.int .i64 (pk c).src,.int .i64 (pk c).dst,.int .i64 (pk c).ah,.int .i64 (pk c).aj]:=rfl
structure av where
 a:Int
 p:Int
 b:Int
 q:Int
def av.ok (l:av):Prop:=ay l.a∧ay l.p∧ay l.b∧ay l.q
def av.cells (l:av):List Value:=[.int .i64 l.a,.int .i64 l.p,.int .i64 l.b,.int .i64 l.q]
theorem av.len (l:av):l.cells.length=4:=rfl
theorem Lu {w:World} {B b o n k:Nat} {l:List av} {r:av} (h:bB av.cells 4 w B (some ⟨b,o,none⟩) n l) (hr:l[k]?=some r):b<B∧
  w.cell? ⟨b,o+k*4,none⟩=some (.int .i64 r.a)∧w.cell? ⟨b,o+k*4+1,none⟩=some (.int .i64 r.p)∧w.cell? ⟨b,o+k*4+2,none⟩=some (.int .i64 r.b)∧w.cell? ⟨b,o+k*4+3,none⟩=some (.int .i64 r.q):=
 ⟨(h.get hr).1,(h.get hr).2 0 _ rfl,(h.get hr).2 1 _ rfl,(h.get hr).2 2 _ rfl,(h.get hr).2 3 _ rfl⟩
abbrev Pl:=Int×Int
def av.e1 (l:av):Pl:=(l.a,l.p)
def av.e2 (l:av):Pl:=(l.b,l.q)
def fE (x y:Pl):Bool:=(x.1 ==y.1) && (x.2 ==y.2)
theorem uy (x y:Pl):fE x y=true↔x=y:=by
 obtain⟨a,b⟩:=x
 obtain⟨c,d⟩:=y
 simp[fE]
def aP (l:List av) (x:Pl):Option Pl:=
 match l with
 |[]=>none
 |a::l=>if fE x a.e1 then some a.e2 else if fE x a.e2 then some a.e1 else aP l x
theorem Qt {l:List av} {k:Nat} {r:av} (h:l[k]?=some r) (x:Pl):aP (l.drop k) x=if fE x r.e1 then some r.e2 else if fE x r.e2 then some r.e1 else aP (l.drop (k+1)) x:=by
 obtain⟨hk,e⟩:=List.getElem?_eq_some_iff.1 h
 rw[List.drop_eq_getElem_cons hk,e];rfl
def rG (r:Option Pl):Value:=match r with
 |some x=>.tuple #[.agg #[.int .i64 x.1,.int .i64 x.2],.bool true]
 |none=>.tuple #[.agg #[.int .i64 0,.int .i64 0],.bool false]
def jo (w:World) (N:Nat) (a b:Int):Prop:=w.cell? ⟨N,0,none⟩=some (.int .i64 a)∧w.cell? ⟨N,1,none⟩=some (.int .i64 b)∧w.frozen? ⟨N,0,none⟩=false∧w.frozen? ⟨N,1,none⟩=false
theorem jo.below {w w':World} {B N:Nat} {a b:Int} (h:jo w N a b) (hB:Below B w w') (hN:N<B):jo w' N a b:=by
 have e:∀o,w'.cell? ⟨N,o,none⟩=w.cell? ⟨N,o,none⟩:=fun o=>hB.cell (p:=⟨N,o,none⟩) hN
 have f:∀o,w'.frozen? ⟨N,o,none⟩=w.frozen? ⟨N,o,none⟩:=fun o=>hB.frozen (p:=⟨N,o,none⟩) hN
 unfold jo
 rw[e,e,f,f]
 exact h
theorem jo.new (w:World) (a b:Int) (t:TypeId):jo (w.alloc (.cells #[.int .i64 a,.int .i64 b] t)) w.heap.size a b:=by
 have hbx:=heap_alloc_new w (.cells #[.int .i64 a,.int .i64 b] t)
 have f:∀o,(w.alloc (.cells #[.int .i64 a,.int .i64 b] t)).frozen? ⟨w.heap.size,o,none⟩=false:=fun o=>by unfold World.frozen?;rw[hbx];simp
 exact⟨by rw[cell_of_row _ _ _ _ _ _ hbx];rfl,by rw[cell_of_row _ _ _ _ _ _ hbx];rfl,f 0,f 1⟩
theorem bK (n m:Int) (W:World) (B:Bool) (h:(decide (0≤n) && decide (n<m))=B):Calls Tryz.prog 94 #[.int .i64 n,.int .i64 m] W fun e W'=>e= .returned (.bool B)∧W=W':=by
 cases h1:decide (0≤n)
 ·have e1:¬ 0≤n:=by simpa using h1
  have HF:=hide (show false=B by rw[← h,h1];rfl)
  clear h
  go_enter Tryz.func94,Tryz.ntmps94
  go_wp2
  go_ret
  exact⟨gK HF.out,rfl⟩
 ·have HF:=hide (show decide (n<m)=B by rw[← h,h1];rfl)
  clear h
  go_enter Tryz.func94,Tryz.ntmps94
  go_wp2
  go_ret
  exact⟨gK HF.out,rfl⟩
theorem mD (n:Nat):n≤n+1+1:=by omega
def dL (k:Int):Int:=if k ==1 then 1 else if k ==2 then 4 else if k ==3 then 2 else if k ==4 then 2 else if k ==5 then 2 else 0
theorem zL (k:Int) (W:World):Calls Tryz.prog 95 #[.int .i64 k] W fun e W'=>e= .returned (.int .i64 (dL k))∧W=W':=by
 cases h1:(k ==1)
 case true=>
  have HF:=hide (show dL k=1 from by simp[dL,h1])
  rw[HF.out]
  go_enter Tryz.func95,Tryz.ntmps95
  go_wp2
  go_ret
  exact⟨rfl,rfl⟩
 cases h2:(k ==2)
 case true=>
  have HF:=hide (show dL k=4 from by simp[dL,h1,h2])
  rw[HF.out]
  go_enter Tryz.func95,Tryz.ntmps95
  go_wp2
  go_ret
  exact⟨rfl,rfl⟩
 cases h3:(k ==3)
 case true=>
  have HF:=hide (show dL k=2 from by simp[dL,h1,h2,h3])
  rw[HF.out]
  go_enter Tryz.func95,Tryz.ntmps95
  go_wp2
  go_ret
  exact⟨rfl,rfl⟩
 cases h4:(k ==4)
 case true=>
  have HF:=hide (show dL k=2 from by simp[dL,h1,h2,h3,h4])
  rw[HF.out]
  go_enter Tryz.func95,Tryz.ntmps95
  go_wp2
  go_ret
  exact⟨rfl,rfl⟩
 cases h5:(k ==5)
 case true=>
  have HF:=hide (show dL k=2 from by simp[dL,h1,h2,h3,h4,h5])
  rw[HF.out]
  go_enter Tryz.func95,Tryz.ntmps95
  go_wp2
  go_ret
  exact⟨rfl,rfl⟩
 ·have HF:=hide (show dL k=0 from by simp[dL,h1,h2,h3,h4,h5])
  rw[HF.out]
  go_enter Tryz.func95,Tryz.ntmps95
  go_wp2
  go_ret
  exact⟨rfl,rfl⟩
theorem Tx (l:List av) (D:Value) (b o n c:Nat) (x y:Int) (W:World) (hn:n≤9223372036854775807) (hl:bB av.cells 4 W W.heap.size (some ⟨b,o,none⟩) n l) (h0:0<n)
  (dA:Option Addr) (dn dc:Nat) (hD:D= .slice dA dn dc):
  Calls Tryz.prog 118 #[.agg #[.slice dA dn dc,.slice (some ⟨b,o,none⟩) n c],.agg #[.int .i64 x,.int .i64 y]] W fun e W'=>e= .returned (rG (aP l (x,y)))∧Below W.heap.size W W':=by
 have HL:=hide hl
 have HB0:=hide (fun o0 o1 o2=>show Below W.heap.size W (((W.alloc o0).alloc o1).alloc o2)from(((Below.refl _ _).alloc (Nat.le_refl _) _).alloc (by simp) _).alloc (by simp;omega) _)
 clear hl hD
 go_enter Tryz.func118,Tryz.ntmps118
 go_wp2
 have hw0:(((W.alloc (.cells #[.slice dA dn dc,.slice (some ⟨b,o,none⟩) n c] 25)).alloc (.cells #[.int .i64 x,.int .i64 y] 27)).alloc (.cells #[.int .i64 0,.int .i64 0] 27)).heap.size =W.heap.size+3:=by simp
 have HX0:=hide (show jo (((W.alloc (.cells #[.slice dA dn dc,.slice (some ⟨b,o,none⟩) n c] 25)).alloc (.cells #[.int .i64 x,.int .i64 y] 27)).alloc (.cells #[.int .i64 0,.int .i64 0] 27)) (W.heap.size+1) x y from by
  have:=(jo.new (W.alloc (.cells #[.slice dA dn dc,.slice (some ⟨b,o,none⟩) n c] 25)) x y 27).below ((Below.refl _ _).alloc (Nat.le_refl _) (.cells #[.int .i64 0,.int .i64 0] 27)) (by simp)
  simpa using this)
 have HZ0:=hide (show jo (((W.alloc (.cells #[.slice dA dn dc,.slice (some ⟨b,o,none⟩) n c] 25)).alloc (.cells #[.int .i64 x,.int .i64 y] 27)).alloc (.cells #[.int .i64 0,.int .i64 0] 27)) (W.heap.size+1+1) 0 0 from by
  have:=(jo.new ((W.alloc (.cells #[.slice dA dn dc,.slice (some ⟨b,o,none⟩) n c] 25)).alloc (.cells #[.int .i64 x,.int .i64 y] 27)) 0 0 27)
  simpa using this)
 have HB1:=hide (HB0.out (.cells #[.slice dA dn dc,.slice (some ⟨b,o,none⟩) n c] 25) (.cells #[.int .i64 x,.int .i64 y] 27) (.cells #[.int .i64 0,.int .i64 0] 27))
 generalize World.alloc _ _=w0 at*
 go_loopw [13] (fun i wr=>∃k:Nat,k≤n∧i= .int .i64 k∧Below W.heap.size W wr∧Hid (jo wr (W.heap.size+1) x y)∧Hid (jo wr (W.heap.size+1+1) 0 0)∧W.heap.size+3≤wr.heap.size∧Hid (aP l (x,y)=aP (l.drop k) (x,y))) (fun i _=>n - (intOf i).toNat)
 case atStart=>exact⟨0,Nat.zero_le _,rfl,HB1.out,HX0,HZ0,by omega,hide rfl⟩
 case round=>
  clear HX0 HZ0 HB1 hw0 HB0
  obtain⟨k,hk,rfl,hb,HX,HZ,hsz,HE⟩:=hrel
  have HB:=hide hb
  clear hb
  by_cases hlt:k<n
  ·obtain⟨r,hr⟩:∃r,l[k]?=some r:=⟨_,List.getElem?_eq_getElem (by have:=HL.out.1;omega)⟩
   obtain⟨mH,q0,q1,q2,q3⟩:=Lu (HL.out.below HB.out HB.out.size) hr
   have HS:=hide (Qt hr (x,y))
   obtain⟨ra,rp,rb,rq⟩:=r
   have hx1:=fun(o1 o2 o3:Obj)=>(World.cell?_alloc_lt ((wr.alloc o1).alloc o2) o3 ⟨W.heap.size+1,0,none⟩ (by simp;omega)).trans ((World.cell?_alloc_lt (wr.alloc o1) o2 ⟨W.heap.size+1,0,none⟩ (by simp;omega)).trans ((World.cell?_alloc_lt wr o1 ⟨W.heap.size+1,0,none⟩ (by simp;omega)).trans HX.out.1))
   have hx2:=fun(o1 o2 o3:Obj)=>(World.cell?_alloc_lt ((wr.alloc o1).alloc o2) o3 ⟨W.heap.size+1,1,none⟩ (by simp;omega)).trans ((World.cell?_alloc_lt (wr.alloc o1) o2 ⟨W.heap.size+1,1,none⟩ (by simp;omega)).trans ((World.cell?_alloc_lt wr o1 ⟨W.heap.size+1,1,none⟩ (by simp;omega)).trans HX.out.2.1))
   clear hr
   go_wp2
   clear q0 q1 q2 q3
   obtain⟨N,hN⟩:∃N,wr.heap.size=N:=⟨_,rfl⟩
   have hbx:=heap_alloc_new wr (.cells #[.int .i64 ra,.int .i64 rp,.int .i64 rb,.int .i64 rq] 128)
   have hsx:(wr.alloc (.cells #[.int .i64 ra,.int .i64 rp,.int .i64 rb,.int .i64 rq] 128)).heap.size =wr.heap.size+1:=by simp
   have oz:=hide (HB.out.alloc HB.out.size (.cells #[.int .i64 ra,.int .i64 rp,.int .i64 rb,.int .i64 rq] 128))
   rw[hN]at hbx hsx hsz ⊢
   have HXw:=hide (HX.out.below ((Below.refl _ wr).alloc (Nat.le_refl _) (.cells #[.int .i64 ra,.int .i64 rp,.int .i64 rb,.int .i64 rq] 128)) (by omega))
   have HZw:=hide (HZ.out.below ((Below.refl _ wr).alloc (Nat.le_refl _) (.cells #[.int .i64 ra,.int .i64 rp,.int .i64 rb,.int .i64 rq] 128)) (by omega))
   generalize wr.alloc _=wx at*
   have y0:wx.cell? ⟨N,0,none⟩=some (.int .i64 ra):=by rw[cell_of_row _ _ _ _ _ _ hbx];rfl
   have y1:wx.cell? ⟨N,1,none⟩=some (.int .i64 rp):=by rw[cell_of_row _ _ _ _ _ _ hbx];rfl
   have y2:wx.cell? ⟨N,2,none⟩=some (.int .i64 rb):=by rw[cell_of_row _ _ _ _ _ _ hbx];rfl
   have y3:wx.cell? ⟨N,3,none⟩=some (.int .i64 rq):=by rw[cell_of_row _ _ _ _ _ _ hbx];rfl
   clear hbx hx1 hx2 hN
   have hNx:N<wx.heap.size:=by omega
   have hWx:W.heap.size+3≤wx.heap.size:=by omega
   have oV:Hid (∀(u v:Pl),Below wx.heap.size wx ((wx.alloc (.cells #[.int .i64 u.1,.int .i64 u.2] 27)).alloc (.cells #[.int .i64 v.1,.int .i64 v.2] 27))∧((wx.alloc (.cells #[.int .i64 u.1,.int .i64 u.2] 27)).alloc (.cells #[.int .i64 v.1,.int .i64 v.2] 27)).heap.size =N+3∧
     jo ((wx.alloc (.cells #[.int .i64 u.1,.int .i64 u.2] 27)).alloc (.cells #[.int .i64 v.1,.int .i64 v.2] 27)) (N+1) u.1 u.2∧jo ((wx.alloc (.cells #[.int .i64 u.1,.int .i64 u.2] 27)).alloc (.cells #[.int .i64 v.1,.int .i64 v.2] 27)) (N+1+1) v.1 v.2):=hide (fun u v=>by
    have hb1:Below wx.heap.size wx (wx.alloc (.cells #[.int .i64 u.1,.int .i64 u.2] 27)):=(Below.refl _ _).alloc (Nat.le_refl _) _
    have hs:(wx.alloc (.cells #[.int .i64 u.1,.int .i64 u.2] 27)).heap.size =N+1+1:=by rw[← hsx];simp
    have b1:=jo.new wx u.1 u.2 27
    have b2:=jo.new (wx.alloc (.cells #[.int .i64 u.1,.int .i64 u.2] 27)) v.1 v.2 27
    rw[hsx]at b1
    rw[hs]at b2
    refine⟨hb1.alloc hb1.size _,by simp;omega,b1.below ((Below.refl _ _).alloc (Nat.le_refl _) _) (by omega),b2⟩)
   go_region_held3 (fun w'=>w'.cell? ⟨N,0,none⟩=some (.int .i64 ra)∧w'.cell? ⟨N,1,none⟩=some (.int .i64 rp)∧w'.cell? ⟨N,2,none⟩=some (.int .i64 rb)∧w'.cell? ⟨N,3,none⟩=some (.int .i64 rq)) (go_keep) (fail)
   ·obtain⟨hbz,afh,b1,b2⟩:=oV.out (ra,rp) (rb,rq)
    have jR:=hide (oz.out.trans (hbz.mono (by have:=oz.out.size;omega)))
    have Cb:=hide (HXw.out.below hbz (by omega))
    have xG:=hide (HZw.out.below hbz (by omega))
    generalize World.alloc (World.alloc wx _) _=wz at*
    have hsz':W.heap.size+3≤wz.heap.size:=by omega
    obtain⟨u0,u1,_,_⟩:=b1
    obtain⟨v0,v1,_,_⟩:=b2
    obtain⟨x0,x1,_,_⟩:=Cb.out
    clear hbz oV
    cases e1:(x ==ra)
    ·cases e3:(x ==rb)
     ·have HN:=hide (show aP l (x,y)=aP (l.drop (k+1)) (x,y)from by rw[HE.out,HS.out];simp[fE,av.e1,av.e2,e1,e3])
      go_wp2
      go_roundw
      case rel=>exact⟨k+1,by omega,by go_num,jR.out.drew,Cb,xG,hsz',HN⟩
      case measure=>simp[intOf];omega
     ·cases e4:(y ==rq)
      ·have HN:=hide (show aP l (x,y)=aP (l.drop (k+1)) (x,y)from by rw[HE.out,HS.out];simp[fE,av.e1,av.e2,e1,e3,e4])
       go_wp2
       go_roundw
       case rel=>exact⟨k+1,by omega,by go_num,jR.out.drew,Cb,xG,hsz',HN⟩
       case measure=>simp[intOf];omega
      ·have HN:=hide (show aP l (x,y)=some (ra,rp)from by rw[HE.out,HS.out];simp[fE,av.e1,av.e2,e1,e3,e4])
       obtain⟨z0,z1,z2,z3⟩:=xG.out
       go_wp2
       refine bodyPost_ret (v:=.tuple #[.agg #[.int .i64 ra,.int .i64 rp],.bool true]) (by simp[results,Tryz.results118,go_sem,z0,z1]) rfl ⟨by rw[HN.out];rfl,?_⟩
       first | exact((jR.out.setCell (mD _) _).setCell (mD _) _).drew | exact((jR.out.drew.setCell (mD _) _).setCell (mD _) _)
    ·cases e2:(y ==rp)
     ·cases e3:(x ==rb)
      ·have HN:=hide (show aP l (x,y)=aP (l.drop (k+1)) (x,y)from by rw[HE.out,HS.out];simp[fE,av.e1,av.e2,e1,e2,e3])
       go_wp2
       go_roundw
       case rel=>exact⟨k+1,by omega,by go_num,jR.out.drew,Cb,xG,hsz',HN⟩
       case measure=>simp[intOf];omega
      ·cases e4:(y ==rq)
       ·have HN:=hide (show aP l (x,y)=aP (l.drop (k+1)) (x,y)from by rw[HE.out,HS.out];simp[fE,av.e1,av.e2,e1,e2,e3,e4])
        go_wp2
        go_roundw
        case rel=>exact⟨k+1,by omega,by go_num,jR.out.drew,Cb,xG,hsz',HN⟩
        case measure=>simp[intOf];omega
       ·have HN:=hide (show aP l (x,y)=some (ra,rp)from by rw[HE.out,HS.out];simp[fE,av.e1,av.e2,e1,e2,e3,e4])
        obtain⟨z0,z1,z2,z3⟩:=xG.out
        go_wp2
        refine bodyPost_ret (v:=.tuple #[.agg #[.int .i64 ra,.int .i64 rp],.bool true]) (by simp[results,Tryz.results118,go_sem,z0,z1]) rfl ⟨by rw[HN.out];rfl,?_⟩
        first | exact((jR.out.setCell (mD _) _).setCell (mD _) _).drew | exact((jR.out.drew.setCell (mD _) _).setCell (mD _) _)
     ·have HN:=hide (show aP l (x,y)=some (rb,rq)from by rw[HE.out,HS.out];simp[fE,av.e1,av.e2,e1,e2])
      obtain⟨z0,z1,z2,z3⟩:=xG.out
      go_wp2
      refine bodyPost_ret (v:=.tuple #[.agg #[.int .i64 rb,.int .i64 rq],.bool true]) (by simp[results,Tryz.results118,go_sem,z0,z1]) rfl ⟨by rw[HN.out];rfl,?_⟩
      first | exact((jR.out.setCell (mD _) _).setCell (mD _) _).drew | exact((jR.out.drew.setCell (mD _) _).setCell (mD _) _)
   ·obtain⟨hbz,afh,b1,b2⟩:=oV.out (rb,rq) (ra,rp)
    have jR:=hide (oz.out.trans (hbz.mono (by have:=oz.out.size;omega)))
    have Cb:=hide (HXw.out.below hbz (by omega))
    have xG:=hide (HZw.out.below hbz (by omega))
    generalize World.alloc (World.alloc wx _) _=wz at*
    have hsz':W.heap.size+3≤wz.heap.size:=by omega
    obtain⟨u0,u1,_,_⟩:=b1
    obtain⟨v0,v1,_,_⟩:=b2
    obtain⟨x0,x1,_,_⟩:=Cb.out
    clear hbz oV
    cases e1:(x ==ra)
    ·cases e3:(x ==rb)
     ·have HN:=hide (show aP l (x,y)=aP (l.drop (k+1)) (x,y)from by rw[HE.out,HS.out];simp[fE,av.e1,av.e2,e1,e3])
      go_wp2
      go_roundw
      case rel=>exact⟨k+1,by omega,by go_num,jR.out.drew,Cb,xG,hsz',HN⟩
      case measure=>simp[intOf];omega
     ·cases e4:(y ==rq)
      ·have HN:=hide (show aP l (x,y)=aP (l.drop (k+1)) (x,y)from by rw[HE.out,HS.out];simp[fE,av.e1,av.e2,e1,e3,e4])
       go_wp2
       go_roundw
       case rel=>exact⟨k+1,by omega,by go_num,jR.out.drew,Cb,xG,hsz',HN⟩
       case measure=>simp[intOf];omega
      ·have HN:=hide (show aP l (x,y)=some (ra,rp)from by rw[HE.out,HS.out];simp[fE,av.e1,av.e2,e1,e3,e4])
       obtain⟨z0,z1,z2,z3⟩:=xG.out
       go_wp2
       refine bodyPost_ret (v:=.tuple #[.agg #[.int .i64 ra,.int .i64 rp],.bool true]) (by simp[results,Tryz.results118,go_sem,z0,z1]) rfl ⟨by rw[HN.out];rfl,?_⟩
       first | exact((jR.out.setCell (mD _) _).setCell (mD _) _).drew | exact((jR.out.drew.setCell (mD _) _).setCell (mD _) _)
    ·cases e2:(y ==rp)
     ·cases e3:(x ==rb)
      ·have HN:=hide (show aP l (x,y)=aP (l.drop (k+1)) (x,y)from by rw[HE.out,HS.out];simp[fE,av.e1,av.e2,e1,e2,e3])
       go_wp2
       go_roundw
       case rel=>exact⟨k+1,by omega,by go_num,jR.out.drew,Cb,xG,hsz',HN⟩
       case measure=>simp[intOf];omega
      ·cases e4:(y ==rq)
       ·have HN:=hide (show aP l (x,y)=aP (l.drop (k+1)) (x,y)from by rw[HE.out,HS.out];simp[fE,av.e1,av.e2,e1,e2,e3,e4])
        go_wp2
        go_roundw
        case rel=>exact⟨k+1,by omega,by go_num,jR.out.drew,Cb,xG,hsz',HN⟩
        case measure=>simp[intOf];omega
       ·have HN:=hide (show aP l (x,y)=some (ra,rp)from by rw[HE.out,HS.out];simp[fE,av.e1,av.e2,e1,e2,e3,e4])
        obtain⟨z0,z1,z2,z3⟩:=xG.out
        go_wp2
        refine bodyPost_ret (v:=.tuple #[.agg #[.int .i64 ra,.int .i64 rp],.bool true]) (by simp[results,Tryz.results118,go_sem,z0,z1]) rfl ⟨by rw[HN.out];rfl,?_⟩
        first | exact((jR.out.setCell (mD _) _).setCell (mD _) _).drew | exact((jR.out.drew.setCell (mD _) _).setCell (mD _) _)
     ·have HN:=hide (show aP l (x,y)=some (rb,rq)from by rw[HE.out,HS.out];simp[fE,av.e1,av.e2,e1,e2])
      obtain⟨z0,z1,z2,z3⟩:=xG.out
      go_wp2
      refine bodyPost_ret (v:=.tuple #[.agg #[.int .i64 rb,.int .i64 rq],.bool true]) (by simp[results,Tryz.results118,go_sem,z0,z1]) rfl ⟨by rw[HN.out];rfl,?_⟩
      first | exact((jR.out.setCell (mD _) _).setCell (mD _) _).drew | exact((jR.out.drew.setCell (mD _) _).setCell (mD _) _)
  ·have HN:=hide (show aP l (x,y)=none from by rw[HE.out,List.drop_of_length_le (by have:=HL.out.1;omega)];rfl)
   obtain⟨z0,z1,z2,z3⟩:=HZ.out
   go_wp2
   refine bodyPost_ret (v:=.tuple #[.agg #[.int .i64 0,.int .i64 0],.bool false]) (by simp[results,Tryz.results118,go_sem,z0,z1]) rfl ⟨by rw[HN.out];rfl,?_⟩
   exact(HB.out.setCell (mD _) _).setCell (mD _) _
open Go.ChangeAt Go.ChangeShapes Go.Deep Go.Joins Go.WideShapes
structure aA where
 name:ByteArray
 kind:Int
 addr:Int
 pool:Nat
 bA:Option Addr
 bn:Nat
 bc:Nat
 bs:List Int
 rA:Option Addr
 rn:Nat
 rc:Nat
 rs:List aY
 tA:Option Addr
 tn:Nat
 tc:Nat
 ts:List aW
structure Dev where
 name:ByteArray
 kind:Int
 addr:Int
 pool:Nat
 backs:List Int
 rules:List aY
 routes:List aW
def aA.dev (d:aA):Dev:=⟨d.name,d.kind,d.addr,d.pool,d.bs,d.rs,d.ts⟩
def aA.cells (d:aA):List Value:=[.string d.name,.int .i64 d.kind,.int .i64 d.addr,.int .u8 d.pool,.slice d.bA d.bn d.bc,.slice d.rA d.rn d.rc,.slice d.tA d.tn d.tc]
def aA.val (d:aA):Value:=.agg #[.string d.name,.int .i64 d.kind,.int .i64 d.addr,.int .u8 d.pool,.slice d.bA d.bn d.bc,.slice d.rA d.rn d.rc,.slice d.tA d.tn d.tc]
theorem aA.len (d:aA):d.cells.length=7:=rfl
theorem aA.one (d:aA):∀u∈d.cells,u.oneCell'=true:=by
 intro u hu
 simp only[aA.cells,List.mem_cons,List.not_mem_nil,or_false]at hu
 rcases hu with rfl | rfl | rfl | rfl | rfl | rfl | rfl<;>rfl
structure fV (w:World) (B:Nat) (d:aA):Prop where
 nm:d.name.size≤maxLen
 kd:ay d.kind
 ad:ay d.addr
 pl:d.pool<256
 bs:dz w B d.bA d.bn d.bs
 rs:fB w B d.rA d.rn d.rs
 ts:bB aW.cells 3 w B d.tA d.tn d.ts
 tok:∀r∈d.ts,r.ok
 cb:d.bn≤d.bc∧d.bc≤maxLen
 cr:d.rn≤d.rc∧d.rc≤maxLen
 ct:d.tn≤d.tc∧d.tc≤maxLen
theorem fV.below {w w':World} {B B':Nat} {d:aA} (h:fV w B d) (hB:RowKit.Below B w w') (hB':B≤B'):fV w' B' d:=
 ⟨h.nm,h.kd,h.ad,h.pl,h.bs.below hB hB',h.rs.below hB hB',h.ts.below hB hB',h.tok,h.cb,h.cr,h.ct⟩
structure aH where
 dA:Option Addr
 dn:Nat
 dc:Nat
 ds:List aA
 lA:Option Addr
 ln:Nat
 lc:Nat
 ls:List av
def aH.val (n:aH):Value:=.agg #[.slice n.dA n.dn n.dc,.slice n.lA n.ln n.lc]
def aH.au (n:aH):List Dev:=n.ds.map aA.dev
structure bf (w:World) (B:Nat) (n:aH):Prop where
 ds:bB aA.cells 7 w B n.dA n.dn n.ds
 gy:∀d∈n.ds,fV w B d
 ls:bB av.cells 4 w B n.lA n.ln n.ls
 xR:∀l∈n.ls,l.ok
 cd:n.dn≤n.dc∧n.dc≤maxLen
 cl:n.ln≤n.lc∧n.lc≤maxLen
theorem bf.below {w w':World} {B B':Nat} {n:aH} (h:bf w B n) (hB:RowKit.Below B w w') (hB':B≤B'):bf w' B' n:=
 ⟨h.ds.below hB hB',fun d hd=>(h.gy d hd).below hB hB',h.ls.below hB hB',h.xR,h.cd,h.cl⟩
theorem bf.eZ {w:World} {B:Nat} {n:aH} (h:bf w B n):n.ds.length=n.dn:=h.ds.1
theorem bf.llen {w:World} {B:Nat} {n:aH} (h:bf w B n):n.ls.length=n.ln:=h.ls.1
theorem dF {w:World} {B b o n k:Nat} {l:List aA} {r:aA} (h:bB aA.cells 7 w B (some ⟨b,o,none⟩) n l) (hr:l[k]?=some r):b<B∧
  w.cell? ⟨b,o+k*7,none⟩=some (.string r.name)∧w.cell? ⟨b,o+k*7+1,none⟩=some (.int .i64 r.kind)∧w.cell? ⟨b,o+k*7+2,none⟩=some (.int .i64 r.addr)∧w.cell? ⟨b,o+k*7+3,none⟩=some (.int .u8 r.pool)∧
  w.cell? ⟨b,o+k*7+4,none⟩=some (.slice r.bA r.bn r.bc)∧w.cell? ⟨b,o+k*7+5,none⟩=some (.slice r.rA r.rn r.rc)∧w.cell? ⟨b,o+k*7+6,none⟩=some (.slice r.tA r.tn r.tc):=
 ⟨(h.get hr).1,(h.get hr).2 0 _ rfl,(h.get hr).2 1 _ rfl,(h.get hr).2 2 _ rfl,(h.get hr).2 3 _ rfl,(h.get hr).2 4 _ rfl,(h.get hr).2 5 _ rfl,(h.get hr).2 6 _ rfl⟩
section
variable {H:Type} {enc:TypeId×Value→H} {w:World} {base:Nat} {spare:Nat→Bool} {held:Bool} {r:Reach} {b0:Nat}
theorem sW {α:Type} {P:Program} (cells:α→List Value) (ok:α→Prop) (s:Nat) {t e:TypeId} (ht:P.underlying t=some (.slice e)) (hC:P.cellsOf e=s) (hs:0<s) (hlen:∀r,(cells r).length =s)
  (helem:∀(n:Nat) (cs:List Value) (y:DataW H×List MemPlace),DataW.trod enc P w base spare held n e cs=some y→∃r,ok r∧cs=cells r)
  {fuel:Nat} {cs:List Value} {y:DataW H×List MemPlace} (hf:DataW.trod enc P w base spare held fuel t cs=some y):
  ∃(A:Option Addr) (n c:Nat) (l:List α),cs=[.slice A n c]∧n≤c∧c≤maxLen∧bB cells s w w.heap.size A n l∧(∀r∈l,ok r):=by
 obtain⟨d,p⟩:=y
 rcases open_slice ht hf with⟨hcs,hx⟩ | ⟨a,Qu,cap0,m,n,D,Pl,hcs,hb,hl,hm,hmm,hx,hi⟩
 ·exact⟨none,0,0,[],hcs,Nat.le_refl _,Nat.zero_le _,⟨rfl,fun h=>absurd h (by omega)⟩,(fun r hr=>by simp at hr)⟩
 ·have hlm:Qu≤m:=by rw[hmm];split<;>omega
  have hex:∀i:Fin Qu,∃x,ok x∧∀j u,(cells x)[j]?=some u→w.cell? (a.add (i.val*s+j))=some u:=fun i=>by
   obtain⟨cs',hc,ht'⟩:=hi i.val (by omega)
   obtain⟨x,hx1,rfl⟩:=helem n cs' _ ht'
   obtain⟨_,hcl,hat⟩:=World.cells?_some hc
   refine⟨x,hx1,fun j u hu=>?_⟩
   have hj:=(List.getElem?_eq_some_iff.1 hu).1
   rw[hC]at hat
   have:=hat j (by rw[← hlen x];exact hj)
   rw[hu]at this
   rw[← Go.Deep.add_add]
   exact this
  let f:Fin Qu→α:=fun i=>Classical.choose (hex i)
  have hfs:∀i,ok (f i)∧∀j u,(cells (f i))[j]?=some u→w.cell? (a.add (i.val*s+j))=some u:=fun i=>Classical.choose_spec (hex i)
  refine⟨some a,Qu,cap0,List.ofFn f,hcs,hl,hm,⟨by simp,fun h0=>?_⟩,?_⟩
  ·have h1:=(hfs ⟨0,h0⟩).2 0 ((cells (f ⟨0,h0⟩))[0]'(by rw[hlen];exact hs)) (List.getElem?_eq_getElem _)
   have ha:a=⟨a.block,a.off,none⟩:=by
    have h2:a.add (0*s+0)=a:=by simp[Addr.add]
    rw[h2]at h1
    unfold World.cell? at h1
    split at h1
    ·split at h1
     ·cases h1
     ·rename_i hsp
      cases a with | mk b o sp=>cases sp<;>simp_all
    ·cases h1
   have hblk:a.block<w.heap.size:=by
    have:=World.block_lt_of_cell? w _ h1
    simpa[Addr.add]using this
   refine⟨a.block,a.off,by rw[← ha],hblk,fun k x hk j u hu=>?_⟩
   have hk':=(List.getElem?_eq_some_iff.1 hk).1
   simp only[List.length_ofFn]at hk'
   have hx':x=f ⟨k,hk'⟩:=by
    rw[List.getElem?_ofFn]at hk
    simp only[hk',dif_pos,Option.some.injEq]at hk
    exact hk.symm
   subst hx'
   have:=(hfs ⟨k,hk'⟩).2 j u hu
   rw[ha,addr_add]at this
   rw[Nat.add_assoc]
   exact this
  ·intro x hx
   obtain⟨i,rfl⟩:=List.mem_ofFn.1 hx
   exact(hfs i).1
theorem bB.ints {B n:Nat} {A:Option Addr} {l:List Int} (h:bB (fun k=>[Value.int .i64 k]) 1 w B A n l) (hok:∀k∈l,ay k):dz w B A n l:=
 ⟨h.1,hok,fun h0=>by
  obtain⟨b,o,e,hb,hg⟩:=h.2 h0
  exact⟨b,o,e,hb,fun k x hx=>by have:=hg k x hx 0 _ rfl;rwa [Nat.mul_one,Nat.add_zero]at this⟩⟩
theorem Co:Tryz.prog.cellsOf 3=1:=by kernel_rfl
theorem Zk:Tryz.prog.cellsOf 9=1:=by kernel_rfl
theorem Zl:Tryz.prog.cellsOf 5=1:=by kernel_rfl
theorem VU:Tryz.prog.cellsOf 67=1:=by kernel_rfl
theorem VW:Tryz.prog.cellsOf 83=1:=by kernel_rfl
theorem VX:Tryz.prog.cellsOf 84=1:=by kernel_rfl
theorem Tryz.cellsDevice:Tryz.prog.cellsOf 86=7:=by kernel_rfl
theorem Tryz.cellsLink:Tryz.prog.cellsOf 128=4:=by kernel_rfl
theorem Tz {n:Nat} {cs:List Value} {y:DataW H×List MemPlace} (h:DataW.trod enc Tryz.prog w base spare held n 67 cs=some y):∃(A:Option Addr) (m c:Nat) (l:List Int),cs=[.slice A m c]∧m≤c∧c≤maxLen∧dz w w.heap.size A m l:=by
 obtain⟨A,m,c,l,e,h1,h2,h3,h4⟩:=sW (fun k=>[Value.int .i64 k]) ay 1 Tryz.underlying67 Co (by omega) (fun _=>rfl) (fun _ _ _ h=>Ux h) h
 exact⟨A,m,c,l,e,h1,h2,h3.ints h4⟩
theorem Qv {n:Nat} {cs:List Value} {y:DataW H×List MemPlace} (h:DataW.trod enc Tryz.prog w base spare held n 83 cs=some y):∃(A:Option Addr) (m c:Nat) (l:List aY),cs=[.slice A m c]∧m≤c∧c≤maxLen∧fB w w.heap.size A m l:=by
 obtain⟨A,m,c,l,e,h1,h2,h3,h4⟩:=sW aY.cells aY.ok 5 Tryz.underlying83 Tryz.cellsRule (by omega) aY.len (fun _ _ _ h=>QY h) h
 exact⟨A,m,c,l,e,h1,h2,h3.rules h4⟩
theorem Nh {n:Nat} {cs:List Value} {y:DataW H×List MemPlace} (h:DataW.trod enc Tryz.prog w base spare held n 84 cs=some y):
  ∃(A:Option Addr) (m c:Nat) (l:List aW),cs=[.slice A m c]∧m≤c∧c≤maxLen∧bB aW.cells 3 w w.heap.size A m l∧∀r∈l,r.ok:=
 sW aW.cells aW.ok 3 Tryz.underlying84 Tryz.cellsRoute (by omega) aW.len (fun _ _ _ h=>OJ h) h
theorem TA {n:Nat} {cs:List Value} {y:DataW H×List MemPlace} (h:DataW.trod enc Tryz.prog w base spare held n 128 cs=some y):∃l:av,l.ok∧cs=l.cells:=by
 obtain⟨xs,n',_,_,hlen,hxl,hf⟩:=DataW.trod_struct Tryz.underlying128 h
 rw[Tryz.cellsLink]at hlen
 match cs,hlen with
 |[c0,c1,c2,c3],_=>
  have h0:=hf 0 _ rfl
  have h1:=hf 1 _ rfl
  have h2:=hf 2 _ rfl
  have h3:=hf 3 _ rfl
  obtain⟨y0,e0⟩:=get_some (xs:=xs) (i:=0) (by rw[hxl];decide)
  obtain⟨y1,e1⟩:=get_some (xs:=xs) (i:=1) (by rw[hxl];decide)
  obtain⟨y2,e2⟩:=get_some (xs:=xs) (i:=2) (by rw[hxl];decide)
  obtain⟨y3,e3⟩:=get_some (xs:=xs) (i:=3) (by rw[hxl];decide)
  rw[e0]at h0
  rw[e1]at h1
  rw[e2]at h2
  rw[e3]at h3
  simp[Co]at h0 h1 h2 h3
  obtain⟨a,rfl,ha⟩:=kr h0
  obtain⟨b,rfl,hb⟩:=kr h1
  obtain⟨c,rfl,hc⟩:=kr h2
  obtain⟨d,rfl,hd⟩:=kr h3
  exact⟨⟨a,b,c,d⟩,⟨ha,hb,hc,hd⟩,rfl⟩
theorem Ni {n:Nat} {cs:List Value} {y:DataW H×List MemPlace} (h:DataW.trod enc Tryz.prog w base spare held n 86 cs=some y):∃d:aA,fV w w.heap.size d∧cs=d.cells:=by
 obtain⟨xs,n',_,_,hlen,hxl,hf⟩:=DataW.trod_struct Tryz.underlying86 h
 rw[Tryz.cellsDevice]at hlen
 match cs,hlen with
 |[c0,c1,c2,c3,c4,c5,c6],_=>
  have h0:=hf 0 _ rfl
  have h1:=hf 1 _ rfl
  have h2:=hf 2 _ rfl
  have h3:=hf 3 _ rfl
  have h4:=hf 4 _ rfl
  have h5:=hf 5 _ rfl
  have h6:=hf 6 _ rfl
  obtain⟨y0,e0⟩:=get_some (xs:=xs) (i:=0) (by rw[hxl];decide)
  obtain⟨y1,e1⟩:=get_some (xs:=xs) (i:=1) (by rw[hxl];decide)
  obtain⟨y2,e2⟩:=get_some (xs:=xs) (i:=2) (by rw[hxl];decide)
  obtain⟨y3,e3⟩:=get_some (xs:=xs) (i:=3) (by rw[hxl];decide)
  obtain⟨y4,e4⟩:=get_some (xs:=xs) (i:=4) (by rw[hxl];decide)
  obtain⟨y5,e5⟩:=get_some (xs:=xs) (i:=5) (by rw[hxl];decide)
  obtain⟨y6,e6⟩:=get_some (xs:=xs) (i:=6) (by rw[hxl];decide)
  rw[e0]at h0
  rw[e1]at h1
  rw[e2]at h2
  rw[e3]at h3
  rw[e4]at h4
  rw[e5]at h5
  rw[e6]at h6
  simp[Co,Zk,Zl,VU,VW,VX]at h0 h1 h2 h3 h4 h5 h6
  obtain⟨s,hs,_,hsz⟩:=DataW.trod_string Tryz.underlying9 h0
  cases hs
  obtain⟨a,rfl,ha⟩:=kr h1
  obtain⟨b,rfl,hb⟩:=kr h2
  obtain⟨c,rfl,hc⟩:=yN h3
  obtain⟨A1,m1,k1,l1,f1,p1,q1,r1⟩:=Tz h4
  obtain⟨A2,m2,k2,l2,f2,p2,q2,r2⟩:=Qv h5
  obtain⟨A3,m3,k3,l3,f3,p3,q3,r3,r4⟩:=Nh h6
  cases f1
  cases f2
  cases f3
  exact⟨⟨s,a,b,c,A1,m1,k1,l1,A2,m2,k2,l2,A3,m3,k3,l3⟩,⟨hsz,ha,hb,hc,r1,r2,r3,r4,⟨p1,q1⟩,⟨p2,q2⟩,⟨p3,q3⟩⟩,rfl⟩
theorem VY:Tryz.prog.cellsOf 22=1:=by kernel_rfl
theorem VZ:Tryz.prog.cellsOf 23=1:=by kernel_rfl
theorem Tryz.cellsNet:Tryz.prog.cellsOf 25=2:=by kernel_rfl
theorem V3 {v:Value} {d:DataW H} {p:List MemPlace} (hv:Value.okWide Tryz.prog w r b0 25 v) (h:DataW.Trod enc Tryz.prog w base spare held 25 v d p):∃n:aH,bf w w.heap.size n∧v=n.val:=by
 obtain⟨cs,rfl,hsz⟩:=okWide_struct Tryz.underlying25 hv
 obtain⟨fuel,hf⟩:=h
 obtain⟨xs,n',_,_,hlen,hxl,hf⟩:=DataW.trod_struct (cs:=cs.toList) Tryz.underlying25 hf
 rw[Tryz.cellsNet]at hlen
 obtain⟨c0,c1,hcs⟩:∃c0 c1,cs.toList=[c0,c1]:=by
  match h:cs.toList,hlen with
  |[c0,c1],_=>exact⟨c0,c1,rfl⟩
 rw[hcs]at hf
 have h0:=hf 0 _ rfl
 have h1:=hf 1 _ rfl
 obtain⟨y0,e0⟩:=get_some (xs:=xs) (i:=0) (by rw[hxl];decide)
 obtain⟨y1,e1⟩:=get_some (xs:=xs) (i:=1) (by rw[hxl];decide)
 rw[e0]at h0
 rw[e1]at h1
 simp[VY,VZ]at h0 h1
 obtain⟨A1,m1,k1,l1,f1,p1,q1,r1,s1⟩:=sW aA.cells (fV w w.heap.size) 7 Tryz.underlying22 Tryz.cellsDevice (by omega) aA.len (fun _ _ _ h=>Ni h) h0
 obtain⟨A2,m2,k2,l2,f2,p2,q2,r2,s2⟩:=sW av.cells av.ok 4 Tryz.underlying23 Tryz.cellsLink (by omega) av.len (fun _ _ _ h=>TA h) h1
 cases f1
 cases f2
 refine⟨⟨A1,m1,k1,l1,A2,m2,k2,l2⟩,⟨r1,s1,r2,s2,⟨p1,q1⟩,⟨p2,q2⟩⟩,?_⟩
 have:cs=#[.slice A1 m1 k1,.slice A2 m2 k2]:=QW hcs
 rw[this]
 rfl
end
end Go.Proofs.YtlhmdcgckocidaaGreat
