/- A part of the proof: Nt2. -/
import Derived.Test.YtifkacnoiocebaaDoorNk8
set_option linter.unusedVariables false
set_option linter.unusedSimpArgs false
set_option maxRecDepth 100000
set_option maxHeartbeats 8000000
namespace Go.Proofs.YtifkacnoiocebaaDoor
open Go.RowKit
def aN (k:Int):List UInt8:=if k=1 then[104,111,115,116]else if k=2 then[114,111,117,116,101,114]else if k=3 then[102,105,114,101]else if k=4 then[110,97,116]else[108,98]
def aZ (r:aW):List UInt8:=(if r.permit then[112,101,114,109,105,116,32]else[100,101,110,121,32])++(dG r.m++[10])
def bO (r:aI):List UInt8:=[114,111,117,116,101,32]++(Lib.decDigits r.v.toNat++47::(Lib.decDigits r.b.toNat++32::(Lib.decDigits r.p.toNat++[10])))
def nZ (d:Dev):List UInt8:=if d.kind=1 then 32::(Lib.decDigits d.addr.toNat++[10])else if d.kind=4 then 32::(Lib.decDigits d.addr.toNat++32::(iG (dS d.pool)++[10]))
 else if d.kind=5 then 32::(Lib.decDigits d.addr.toNat++32::(iG (d.backs.map Int.toNat)++[10]))else[10]
def mP (d:Dev):List UInt8:=aN d.kind++32::(d.name.data.toList++nZ d)
def jO (d:Dev):List UInt8:=mP d++(d.rules.flatMap aZ++d.routes.flatMap bO)
structure qO (d:Dev):Prop where
 k:d.kind=1∨d.kind=2∨d.kind=3∨d.kind=4∨d.kind=5
 a:0≤d.addr∧d.addr<16
 nm:d.name.size≤8
 b:∀x∈d.backs,0≤x∧x<16
 bl:d.backs.length≤3
 b0:d.kind=5→0<d.backs.length
 p0:d.kind=4→0<(dS d.pool).length
 rl:d.rules.length≤8
 tl:d.routes.length≤8
 t:∀r∈d.routes,(0≤r.v∧r.v<100)∧(0≤r.b∧r.b<100)∧(0≤r.p∧r.p<100)
theorem kL (r:aW):(aZ r).length ≤299:=by
 have:=eB r.m
 unfold aZ
 split<;>simp<;>omega
theorem jX {r:aI} (h1:r.v<100) (h2:r.b<100) (h3:r.p<100):(bO r).length ≤15:=by
 have:=bf (show r.v.toNat<100 by omega)
 have:=bf (show r.b.toNat<100 by omega)
 have:=bf (show r.p.toNat<100 by omega)
 simp[bO];omega
theorem vU (k:Int):(aN k).length ≤6:=by
 unfold aN
 repeat (first | split | simp)
theorem dY {α:Type} (f:α→List UInt8) (m:Nat):∀(xs:List α),(∀x∈xs,(f x).length ≤m)→(xs.flatMap f).length ≤m*xs.length
 |[],_=>by simp
 |x::xs,h=>by
  have h1:=h x (by simp)
  have h2:=dY f m xs (fun y hy=>h y (by simp[hy]))
  simp only[List.flatMap_cons,List.length_append,List.length_cons,Nat.mul_add,Nat.mul_one]
  omega
theorem dL {α:Type} (f:α→List UInt8) {xs:List α} {k:Nat} {x:α} (h:xs[k]?=some x):(xs.take (k+1)).flatMap f=(xs.take k).flatMap f++f x:=by
 rw[List.take_add_one,h];simp
theorem Cb {d:Dev} (h:qO d):(nZ d).length ≤30:=by
 have h1:=bf (show d.addr.toNat<100 by have:=h.a;omega)
 have h2:=nN (xs:=dS d.pool) (fun x hx=>by have:=nJ d.pool x hx;omega)
 have h3:=vS d.pool
 have h4:=nN (xs:=d.backs.map Int.toNat) (fun x hx=>by
  obtain⟨y,hy,rfl⟩:=List.mem_map.1 hx
  have:=h.b y hy;omega)
 have h5:=h.bl
 simp only[List.length_map]at h4
 unfold nZ
 repeat (first | split | (simp;done) | (simp;omega))
theorem vF {d:Dev} (h:qO d):(mP d).length ≤50:=by
 have:=vU d.kind
 have:=Cb h
 have:d.name.data.toList.length≤8:=by have:=h.nm;simpa using this
 simp only[mP,List.length_append,List.length_cons];omega
theorem jf (k:Int) (W:World) (hk:k=1∨k=2∨k=3∨k=4∨k=5):Calls Tryd.prog 51 #[.int .i64 k] W fun e W'=>e= .returned (.string ⟨(aN k).toArray⟩)∧W=W':=by
 have Dt:∀(k:Int) (h:k=1∨k=2∨k=3∨k=4∨k=5) (w':World),(Instr.index 120 (.agg #[.string ⟨#[]⟩,.string ⟨#[104,111,115,116]⟩,.string ⟨#[114,111,117,116,101,114]⟩,.string ⟨#[102,105,114,101]⟩,.string ⟨#[110,97,116]⟩,.string ⟨#[108,98]⟩]) (.int .i64 k)).run Tryd.prog w'= .ok (.string ⟨(aN k).toArray⟩) w':=by
  intro k h w'
  rcases h with rfl | rfl | rfl | rfl | rfl<;>simp[Instr.index,run_underlying Tryd.underlying120,asIntOf,go_sem,aN]
 have HI:=Dt k hk
 clear Dt
 obtain⟨V,hV⟩:∃V,aN k=V:=⟨_,rfl⟩
 rw[hV]at HI ⊢
 have hkr: -9223372036854775808≤k∧k≤9223372036854775807:=by omega
 clear hk hV
 first
 |skip
  go_enter Tryd.func51,Tryd.ntmps51
  go_wp2
  go_ret
  exact⟨rfl,rfl⟩
theorem jC {w:World} {b:Nat} {x0 x1 x2 x3 x4:Value} {t:TypeId} (h:w.heap[b]?=some (.cells #[x0,x1,x2,x3,x4] t)):
  w.cell? ⟨b,0,none⟩=some x0∧w.cell? ⟨b,1,none⟩=some x1∧w.cell? ⟨b,2,none⟩=some x2∧w.cell? ⟨b,3,none⟩=some x3∧w.cell? ⟨b,4,none⟩=some x4:=
 ⟨by rw[cell_of_row _ _ _ _ _ _ h];rfl,by rw[cell_of_row _ _ _ _ _ _ h];rfl,by rw[cell_of_row _ _ _ _ _ _ h];rfl,by rw[cell_of_row _ _ _ _ _ _ h];rfl,by rw[cell_of_row _ _ _ _ _ _ h];rfl⟩
theorem fM {w:World} {b:Nat} {x0 x1 x2 x3 x4 x5 x6:Value} {t:TypeId} (h:w.heap[b]?=some (.cells #[x0,x1,x2,x3,x4,x5,x6] t)):
  w.cell? ⟨b,0,none⟩=some x0∧w.cell? ⟨b,1,none⟩=some x1∧w.cell? ⟨b,2,none⟩=some x2∧w.cell? ⟨b,3,none⟩=some x3∧w.cell? ⟨b,4,none⟩=some x4∧w.cell? ⟨b,5,none⟩=some x5∧w.cell? ⟨b,6,none⟩=some x6:=
 ⟨by rw[cell_of_row _ _ _ _ _ _ h];rfl,by rw[cell_of_row _ _ _ _ _ _ h];rfl,by rw[cell_of_row _ _ _ _ _ _ h];rfl,by rw[cell_of_row _ _ _ _ _ _ h];rfl,by rw[cell_of_row _ _ _ _ _ _ h];rfl,by rw[cell_of_row _ _ _ _ _ _ h];rfl,by rw[cell_of_row _ _ _ _ _ _ h];rfl⟩
theorem sK (s:ByteArray):s=⟨s.data.toList.toArray⟩:=by simp
theorem Cc {l:List Int} (h:∀x∈l,0≤x∧x<16):(l.map Int.toNat).map (fun(k:Nat)=>(k:Int))=l:=by
 rw[List.map_map]
 conv=>rhs;rw[← List.map_id l]
 refine List.map_congr_left (fun x hx=>?_)
 have:=h x hx
 show((x.toNat:Nat):Int)=x
 omega
theorem xD (d:ah) (W:World) (hd:jE W W.heap.size d) (ho:qO d.dev):
  Calls Tryd.prog 24 #[d.val] W fun e W'=>e= .returned (.string ⟨(jO d.dev).toArray⟩)∧Below W.heap.size W W':=by
 have hh:=vF ho
 have o7:=hide (show mP d.dev=aN d.kind++32::(d.name.data.toList++nZ d.dev)from rfl)
 have mJ:=hide (show nZ d.dev=(if d.kind=1 then 32::(Lib.decDigits d.addr.toNat++[10])else if d.kind=4 then 32::(Lib.decDigits d.addr.toNat++32::(iG (dS d.pool)++[10]))
  else if d.kind=5 then 32::(Lib.decDigits d.addr.toNat++32::(iG (d.bs.map Int.toNat)++[10]))else[10])from rfl)
 have ql:=hide (show jO d.dev=mP d.dev++(d.rs.flatMap aZ++d.ts.flatMap bO)from rfl)
 have oD:=hide (show d.rs.length≤8 from ho.rl)
 have sj:=hide (show d.ts.length≤8 from ho.tl)
 have sw:=hide (show∀r∈d.ts,(0≤r.v∧r.v<100)∧(0≤r.b∧r.b<100)∧(0≤r.p∧r.p<100)from ho.t)
 have vL:=hide (show∀x∈d.bs,0≤x∧x<16 from ho.b)
 have jF:=hide (show d.bs.length≤3 from ho.bl)
 have HB0:=hide (show d.kind=5→0<d.bs.length from ho.b0)
 have vg:=hide (show d.kind=4→0<(dS d.pool).length from ho.p0)
 have hka:d.kind=1∨d.kind=2∨d.kind=3∨d.kind=4∨d.kind=5:=ho.k
 have JZ:0≤d.addr∧d.addr<16:=ho.a
 have hnm:d.name.data.toList.length≤8:=(show d.name.data.toList.length≤8 by have h:=ho.nm;have:d.name.data.toList.length=d.name.size:=Array.length_toList;have e:d.dev.name=d.name:=rfl;rw[e]at h;omega)
 have hwl:=vU d.kind
 obtain⟨DT,Gv⟩:∃l,jO d.dev=l:=⟨_,rfl⟩
 rw[Gv]at ql ⊢
 obtain⟨HT,Gw⟩:∃l,mP d.dev=l:=⟨_,rfl⟩
 rw[Gw]at ql o7 hh
 obtain⟨TL,hTL⟩:∃l,nZ d.dev=l:=⟨_,rfl⟩
 rw[hTL]at o7 mJ
 clear Gv Gw hTL ho
 obtain⟨name,kind,addr,pool,bA,bn,bc,bs,rA,rn,rc,rs,tA,tn,tc,ts⟩:=d
 have HD:=hide hd
 simp only at*
 obtain⟨nm,rfl⟩:∃nm:List UInt8,name=⟨nm.toArray⟩:=⟨_,sK name⟩
 simp only at hnm o7
 clear hd
 have iC:=hide (fun w=>jf kind w hka)
 generalize aN kind=WK at*
 have hb0:=(Below.refl W.heap.size W).alloc (Nat.le_refl _) (.cells #[.string ⟨nm.toArray⟩,.int .i64 kind,.int .i64 addr,.int .u8 pool,.slice bA bn bc,.slice rA rn rc,.slice tA tn tc] 37)
 have hx:=heap_alloc_new W (.cells #[.string ⟨nm.toArray⟩,.int .i64 kind,.int .i64 addr,.int .u8 pool,.slice bA bn bc,.slice rA rn rc,.slice tA tn tc] 37)
 simp only[ah.val]
 have s1:∀w',(Op.stringOp .add ⟨List.toArray (WK)⟩ ⟨List.toArray ([32])⟩).run Tryd.prog w'= .ok (.string ⟨List.toArray (WK++[32])⟩) w':=fun w'=>by
  have:=aj (WK) ([32]) (by(try simp only[List.length_append,List.length_cons,List.length_nil])<;>omega) (by(try simp only[List.length_append,List.length_cons,List.length_nil])<;>omega) w'
  simpa using this
 have s2:∀w',(Op.stringOp .add ⟨List.toArray (WK++[32])⟩ ⟨List.toArray (nm)⟩).run Tryd.prog w'= .ok (.string ⟨List.toArray (WK++32::nm)⟩) w':=fun w'=>by
  have:=aj (WK++[32]) (nm) (by(try simp only[List.length_append,List.length_cons,List.length_nil])<;>omega) (by(try simp only[List.length_append,List.length_cons,List.length_nil])<;>omega) w'
  simpa using this
 go_enter Tryd.func24,Tryd.ntmps24
 go_wp2_with fail
 generalize W.alloc (.cells #[.string ⟨nm.toArray⟩,.int .i64 kind,.int .i64 addr,.int .u8 pool,.slice bA bn bc,.slice rA rn rc,.slice tA tn tc] 37)=w1 at*
 refine aU (by kernel_rfl) (by kernel_rfl) ?_
 intro T hT gt hg1 hgi
 have HC:=hide (fun t=>fM (((hg1 t).block W.heap.size (cO hx)).trans hx))
 have k0:∀t,(gt t).cell? ⟨W.heap.size,0,none⟩=some (.string ⟨nm.toArray⟩):=fun t=>(HC.out t).1
 have k1:∀t,(gt t).cell? ⟨W.heap.size,1,none⟩=some (.int .i64 kind):=fun t=>(HC.out t).2.1
 have aO:=hide hg1
 clear hg1 hgi HC
 repeat (go_big_quiet_step ((go_at_call 51;exact bX (iC.out _))))
 refine wpQuiet_nil ?_
 intro _ hw'
 obtain⟨t,rfl⟩:=hw'
 have gY:=hide (((aO.out t).block W.heap.size (cO hx)).trans hx)
 have HB2:=hide (hb0.trans ((aO.out t).mono hb0.size))
 generalize gt t=w2 at*
 clear aO k0 k1 hx hb0 iC s1 s2
 obtain⟨c0,c1,c2,c3,c4,c5,c6⟩:=fM gY.out
 have AJ:addr.toNat<100:=by omega
 have zK:=hide (fun w=>show Calls Tryd.prog 25 #[.int .i64 addr] w (fun e w'=>e= .returned (.string ⟨(Lib.decDigits addr.toNat).toArray⟩)∧w=w')from by
  have h:=Tryd.strconv_Itoa_small addr.toNat AJ w
  rw[show((addr.toNat:Nat):Int)=addr by omega]at h
  exact h.mono (fun e w' h=>⟨h.1,h.2.symm⟩))
 have lX:=bf AJ
 obtain⟨X,hX⟩:∃X,Lib.decDigits addr.toNat=X:=⟨_,rfl⟩
 rw[hX]at zK lX mJ
 clear hX AJ
 rcases hka with hk | hk | hk | hk | hk
 ·-- a host
  have HH:=hide (show HT=WK++32::(nm++32::(X++[10])) by rw[o7.out,mJ.out,if_pos hk])
  subst hk
  have s3:∀w',(Op.stringOp .add ⟨List.toArray ([32])⟩ ⟨List.toArray (X)⟩).run Tryd.prog w'= .ok (.string ⟨List.toArray (32::X)⟩) w':=fun w'=>by
   have:=aj ([32]) (X) (by(try simp only[List.length_append,List.length_cons,List.length_nil])<;>omega) (by(try simp only[List.length_append,List.length_cons,List.length_nil])<;>omega) w'
   simpa using this
  have s4:∀w',(Op.stringOp .add ⟨List.toArray (WK++32::nm)⟩ ⟨List.toArray (32::X)⟩).run Tryd.prog w'= .ok (.string ⟨List.toArray (WK++32::(nm++32::X))⟩) w':=fun w'=>by
   have:=aj (WK++32::nm) (32::X) (by(try simp only[List.length_append,List.length_cons,List.length_nil])<;>omega) (by(try simp only[List.length_append,List.length_cons,List.length_nil])<;>omega) w'
   simpa using this
  have s5:∀w',(Op.stringOp .add ⟨List.toArray (WK++32::(nm++32::X))⟩ ⟨List.toArray ([10])⟩).run Tryd.prog w'= .ok (.string ⟨List.toArray (WK++32::(nm++32::(X++[10])))⟩) w':=fun w'=>by
   have:=aj (WK++32::(nm++32::X)) ([10]) (by(try simp only[List.length_append,List.length_cons,List.length_nil])<;>omega) (by(try simp only[List.length_append,List.length_cons,List.length_nil])<;>omega) w'
   simpa using this
  clear o7 mJ lX
  go_wp2_with (go_at_call 25;refine(zK.out _).mono ?_;rintro e w5 ⟨rfl,rfl⟩)
  rw[← HH.out]
  clear HH
  obtain⟨c0,c1,c2,c3,c4,c5,c6⟩:=fM gY.out
  clear c0 c1 c2 c3 c4
  have hrn:=HD.out.rs.1
  have htn:=HD.out.ts.1
  simp only at hrn htn
  have AL:rn≤8:=by have:=oD.out;omega
  have AO:tn≤8:=by have:=sj.out;omega
  go_wp2_with fail
  go_loopw [3,57] (fun v i wr=>∃(k:Nat) (J:List UInt8),k≤rn∧i= .int .i64 (k:Int)∧v= .string ⟨J.toArray⟩∧Hid (J=HT++(rs.take k).flatMap aZ)∧Hid (Below w2.heap.size w2 wr)) (fun _ i _=>rn - (intOf i).toNat)
  case atStart=>exact⟨0,HT,Nat.zero_le _,rfl,rfl,hide (by simp),hide (Below.refl _ _)⟩
  case round=>
   obtain⟨k,J,hk,rfl,rfl,HJ,aA⟩:=hrel
   have gK:=dY aZ 299 (rs.take k) (fun x _=>kL x)
   have iT:J.length≤3000:=by
    rw[HJ.out,List.length_append]
    have:=oD.out
    rw[List.length_take]at gK
    omega
   have hbW:Below W.heap.size W wr:=HB2.out.trans (aA.out.mono HB2.out.size)
   by_cases hlt:k<rn
   case pos=>
    obtain⟨r,hr⟩:∃r,rs[k]?=some r:=⟨_,List.getElem?_eq_getElem (by omega)⟩
    have hrs:=HD.out.rs
    simp only at hrs
    have hmo:r.m.ok:=hrs.wI hr
    obtain⟨bb,oo,rfl,hbb,hgg⟩:=hrs.2.2 (by omega)
    obtain⟨q0,q1,q2,q3,q4⟩:=(hgg k r hr).below hbW hbb
    clear hgg hbW hrs
    obtain⟨pm,m⟩:=r
    simp only at hmo q0 q1 q2 q3 q4
    cases pm
    ·have HM:=hide (fun w=>dJ m hmo w)
     have lM:=eB m
     have bg:=hide (show aZ ⟨false,m⟩=[100,101,110,121,32]++(dG m++[10])from rfl)
     have dK:=hide (dL aZ hr)
     obtain⟨M,hM⟩:∃M,dG m=M:=⟨_,rfl⟩
     rw[hM]at HM lM bg
     have HJ2:=hide (show J++([100,101,110,121,32]++(M++[10]))=HT++(rs.take (k+1)).flatMap aZ by rw[dK.out,HJ.out,bg.out,List.append_assoc])
     obtain⟨a,b',c,d⟩:=m
     simp only at HM
     clear hM dK bg HJ hr hmo gK
     have a1:∀w',(Op.stringOp .add ⟨List.toArray (J)⟩ ⟨List.toArray ([100,101,110,121,32])⟩).run Tryd.prog w'= .ok (.string ⟨List.toArray (J++[100,101,110,121,32])⟩) w':=fun w'=>by
      have:=aj (J) ([100,101,110,121,32]) (by(try simp only[List.length_append,List.length_cons,List.length_nil])<;>omega) (by(try simp only[List.length_append,List.length_cons,List.length_nil])<;>omega) w'
      simpa using this
     have a2:∀w',(Op.stringOp .add ⟨List.toArray (M)⟩ ⟨List.toArray ([10])⟩).run Tryd.prog w'= .ok (.string ⟨List.toArray (M++[10])⟩) w':=fun w'=>by
      have:=aj (M) ([10]) (by(try simp only[List.length_append,List.length_cons,List.length_nil])<;>omega) (by(try simp only[List.length_append,List.length_cons,List.length_nil])<;>omega) w'
      simpa using this
     have a3:∀w',(Op.stringOp .add ⟨List.toArray (J++[100,101,110,121,32])⟩ ⟨List.toArray (M++[10])⟩).run Tryd.prog w'= .ok (.string ⟨List.toArray (J++([100,101,110,121,32]++(M++[10])))⟩) w':=fun w'=>by
      have:=aj (J++[100,101,110,121,32]) (M++[10]) (by(try simp only[List.length_append,List.length_cons,List.length_nil])<;>omega) (by(try simp only[List.length_append,List.length_cons,List.length_nil])<;>omega) w'
      simpa using this
     have hwz:=aA.out.size
     have ak:=hide (aA.out.alloc hwz (.cells #[.bool false,.int .u16 (a:Int),.int .u16 (b':Int),.int .u8 (c:Int),.int .u8 (d:Int)] 63))
     obtain⟨y0,y1,y2,y3,y4⟩:=jC (heap_alloc_new wr (.cells #[.bool false,.int .u16 (a:Int),.int .u16 (b':Int),.int .u8 (c:Int),.int .u8 (d:Int)] 63))
     clear aA iT lM
     go_wp2_with fail
     refine(HM.out _).mono ?_
     rintro e w5 ⟨rfl,hb5⟩
     have bH:=hide (ak.out.trans (hb5.mono ak.out.size))
     clear hb5 ak y0 y1 y2 y3 y4 q0 q1 q2 q3 q4
     go_wp2_with fail
     go_roundw
     case rel=>exact⟨k+1,_,by omega,by go_num,rfl,by simpa using HJ2,bH⟩
     case measure=>simp[intOf];omega
    ·have HM:=hide (fun w=>dJ m hmo w)
     have lM:=eB m
     have bg:=hide (show aZ ⟨true,m⟩=[112,101,114,109,105,116,32]++(dG m++[10])from rfl)
     have dK:=hide (dL aZ hr)
     obtain⟨M,hM⟩:∃M,dG m=M:=⟨_,rfl⟩
     rw[hM]at HM lM bg
     have HJ2:=hide (show J++([112,101,114,109,105,116,32]++(M++[10]))=HT++(rs.take (k+1)).flatMap aZ by rw[dK.out,HJ.out,bg.out,List.append_assoc])
     obtain⟨a,b',c,d⟩:=m
     simp only at HM
     clear hM dK bg HJ hr hmo gK
     have a1:∀w',(Op.stringOp .add ⟨List.toArray (J)⟩ ⟨List.toArray ([112,101,114,109,105,116,32])⟩).run Tryd.prog w'= .ok (.string ⟨List.toArray (J++[112,101,114,109,105,116,32])⟩) w':=fun w'=>by
      have:=aj (J) ([112,101,114,109,105,116,32]) (by(try simp only[List.length_append,List.length_cons,List.length_nil])<;>omega) (by(try simp only[List.length_append,List.length_cons,List.length_nil])<;>omega) w'
      simpa using this
     have a2:∀w',(Op.stringOp .add ⟨List.toArray (M)⟩ ⟨List.toArray ([10])⟩).run Tryd.prog w'= .ok (.string ⟨List.toArray (M++[10])⟩) w':=fun w'=>by
      have:=aj (M) ([10]) (by(try simp only[List.length_append,List.length_cons,List.length_nil])<;>omega) (by(try simp only[List.length_append,List.length_cons,List.length_nil])<;>omega) w'
      simpa using this
     have a3:∀w',(Op.stringOp .add ⟨List.toArray (J++[112,101,114,109,105,116,32])⟩ ⟨List.toArray (M++[10])⟩).run Tryd.prog w'= .ok (.string ⟨List.toArray (J++([112,101,114,109,105,116,32]++(M++[10])))⟩) w':=fun w'=>by
      have:=aj (J++[112,101,114,109,105,116,32]) (M++[10]) (by(try simp only[List.length_append,List.length_cons,List.length_nil])<;>omega) (by(try simp only[List.length_append,List.length_cons,List.length_nil])<;>omega) w'
      simpa using this
     have hwz:=aA.out.size
     have ak:=hide (aA.out.alloc hwz (.cells #[.bool true,.int .u16 (a:Int),.int .u16 (b':Int),.int .u8 (c:Int),.int .u8 (d:Int)] 63))
     obtain⟨y0,y1,y2,y3,y4⟩:=jC (heap_alloc_new wr (.cells #[.bool true,.int .u16 (a:Int),.int .u16 (b':Int),.int .u8 (c:Int),.int .u8 (d:Int)] 63))
     clear aA iT lM
     go_wp2_with fail
     refine(HM.out _).mono ?_
     rintro e w5 ⟨rfl,hb5⟩
     have bH:=hide (ak.out.trans (hb5.mono ak.out.size))
     clear hb5 ak y0 y1 y2 y3 y4 q0 q1 q2 q3 q4
     go_wp2_with fail
     go_roundw
     case rel=>exact⟨k+1,_,by omega,by go_num,rfl,by simpa using HJ2,bH⟩
     case measure=>simp[intOf];omega
   case neg=>
    obtain rfl:k=rn:=by omega
    have hall:rs.take k=rs:=List.take_of_length_le (by omega)
    rw[hall]at HJ
    have qU:=hide ((aA.out.block W.heap.size (cO gY.out)).trans gY.out)
    have jm:=hide hbW
    obtain⟨c0,c1,c2,c3,c4,c5,c6⟩:=fM qU.out
    have pU:J.length≤3000:=iT
    clear gK hbW aA hall c0 c1 c2 c3 c4 c5
    obtain⟨w7,hw7⟩:∃w,w=wr:=⟨_,rfl⟩
    subst hw7
    go_wp2_with fail
    go_loopw [3,77] (fun v i wf=>∃(n:Nat) (L:List UInt8),n≤tn∧i= .int .i64 (n:Int)∧v= .string ⟨L.toArray⟩∧Hid (L=J++(ts.take n).flatMap bO)∧Hid (Below w7.heap.size w7 wf)) (fun _ i _=>tn - (intOf i).toNat)
    case atStart=>exact⟨0,J,Nat.zero_le _,rfl,rfl,hide (by simp),hide (Below.refl _ _)⟩
    case round=>
     obtain⟨n,L,hn,rfl,rfl,HL,cu⟩:=hrel
     have nV:L.length≤4000:=by
      have qB:=dY bO 15 (ts.take n) (fun x hx=>by
       have:=sw.out x (List.mem_of_mem_take hx)
       exact jX this.1.2 this.2.1.2 this.2.2.2)
      rw[HL.out,List.length_append]
      have:=sj.out
      rw[List.length_take]at qB
      omega
     by_cases hlt2:n<tn
     case pos=>
      obtain⟨r,hr⟩:∃r,ts[n]?=some r:=⟨_,List.getElem?_eq_getElem (by omega)⟩
      have hts:=HD.out.ts
      simp only at hts
      have hrr:=sw.out r (List.mem_of_getElem? hr)
      obtain⟨bb,oo,rfl,hbb,hgg⟩:=hts.2 (by omega)
      have gT:Below W.heap.size W wr:=jm.out.trans (cu.out.mono jm.out.size)
      have q0:wr.cell? ⟨bb,oo+n*3,none⟩=some (.int .i64 r.v):=(gT.cell (p:=⟨bb,oo+n*3,none⟩) hbb).trans (hgg n r hr 0 _ rfl)
      have q1:wr.cell? ⟨bb,oo+n*3+1,none⟩=some (.int .i64 r.b):=(gT.cell (p:=⟨bb,oo+n*3+1,none⟩) hbb).trans (hgg n r hr 1 _ rfl)
      have q2:wr.cell? ⟨bb,oo+n*3+2,none⟩=some (.int .i64 r.p):=(gT.cell (p:=⟨bb,oo+n*3+2,none⟩) hbb).trans (hgg n r hr 2 _ rfl)
      clear hgg gT hts
      have bg:=hide (show bO r=[114,111,117,116,101,32]++(Lib.decDigits r.v.toNat++47::(Lib.decDigits r.b.toNat++32::(Lib.decDigits r.p.toNat++[10])))from rfl)
      have dK:=hide (dL bO hr)
      obtain⟨rv,rb,rp⟩:=r
      simp only at q0 q1 q2 hrr bg
      have I1:=hide (fun w=>show Calls Tryd.prog 25 #[.int .i64 rv] w (fun e w'=>e= .returned (.string ⟨(Lib.decDigits (rv).toNat).toArray⟩)∧w'=w)from by
       have h:=Tryd.strconv_Itoa_small (rv).toNat (by have:=hrr.1;omega) w
       rw[show(((rv).toNat :Nat):Int)=rv by have:=hrr.1;omega]at h
       exact h)
      have I2:=hide (fun w=>show Calls Tryd.prog 25 #[.int .i64 rb] w (fun e w'=>e= .returned (.string ⟨(Lib.decDigits (rb).toNat).toArray⟩)∧w'=w)from by
       have h:=Tryd.strconv_Itoa_small (rb).toNat (by have:=hrr.2.1;omega) w
       rw[show(((rb).toNat :Nat):Int)=rb by have:=hrr.2.1;omega]at h
       exact h)
      have I3:=hide (fun w=>show Calls Tryd.prog 25 #[.int .i64 rp] w (fun e w'=>e= .returned (.string ⟨(Lib.decDigits (rp).toNat).toArray⟩)∧w'=w)from by
       have h:=Tryd.strconv_Itoa_small (rp).toNat (by have:=hrr.2.2;omega) w
       rw[show(((rp).toNat :Nat):Int)=rp by have:=hrr.2.2;omega]at h
       exact h)
      have l1:=bf (show rv.toNat<100 by omega)
      have l2:=bf (show rb.toNat<100 by omega)
      have l3:=bf (show rp.toNat<100 by omega)
      generalize Lib.decDigits rv.toNat=X1 at*
      generalize Lib.decDigits rb.toNat=X2 at*
      generalize Lib.decDigits rp.toNat=X3 at*
      have HL2:=hide (show L++([114,111,117,116,101,32]++(X1++47::(X2++32::(X3++[10]))))=J++(ts.take (n+1)).flatMap bO by rw[dK.out,HL.out,bg.out,List.append_assoc])
      clear dK bg HL hr hrr
      have r1:∀w',(Op.stringOp .add ⟨List.toArray ([114,111,117,116,101,32])⟩ ⟨List.toArray (X1)⟩).run Tryd.prog w'= .ok (.string ⟨List.toArray (114::111::117::116::101::32::X1)⟩) w':=fun w'=>by
       have:=aj ([114,111,117,116,101,32]) (X1) (by(try simp only[List.length_append,List.length_cons,List.length_nil])<;>omega) (by(try simp only[List.length_append,List.length_cons,List.length_nil])<;>omega) w'
       simpa using this
      have r2:∀w',(Op.stringOp .add ⟨List.toArray (114::111::117::116::101::32::X1)⟩ ⟨List.toArray ([47])⟩).run Tryd.prog w'= .ok (.string ⟨List.toArray (114::111::117::116::101::32::(X1++[47]))⟩) w':=fun w'=>by
       have:=aj (114::111::117::116::101::32::X1) ([47]) (by(try simp only[List.length_append,List.length_cons,List.length_nil])<;>omega) (by(try simp only[List.length_append,List.length_cons,List.length_nil])<;>omega) w'
       simpa using this
      have r3:∀w',(Op.stringOp .add ⟨List.toArray (114::111::117::116::101::32::(X1++[47]))⟩ ⟨List.toArray (X2)⟩).run Tryd.prog w'= .ok (.string ⟨List.toArray (114::111::117::116::101::32::(X1++47::X2))⟩) w':=fun w'=>by
       have:=aj (114::111::117::116::101::32::(X1++[47])) (X2) (by(try simp only[List.length_append,List.length_cons,List.length_nil])<;>omega) (by(try simp only[List.length_append,List.length_cons,List.length_nil])<;>omega) w'
       simpa using this
      have r4:∀w',(Op.stringOp .add ⟨List.toArray (114::111::117::116::101::32::(X1++47::X2))⟩ ⟨List.toArray ([32])⟩).run Tryd.prog w'= .ok (.string ⟨List.toArray (114::111::117::116::101::32::(X1++47::(X2++[32])))⟩) w':=fun w'=>by
       have:=aj (114::111::117::116::101::32::(X1++47::X2)) ([32]) (by(try simp only[List.length_append,List.length_cons,List.length_nil])<;>omega) (by(try simp only[List.length_append,List.length_cons,List.length_nil])<;>omega) w'
       simpa using this
      have r5:∀w',(Op.stringOp .add ⟨List.toArray (114::111::117::116::101::32::(X1++47::(X2++[32])))⟩ ⟨List.toArray (X3)⟩).run Tryd.prog w'= .ok (.string ⟨List.toArray (114::111::117::116::101::32::(X1++47::(X2++32::X3)))⟩) w':=fun w'=>by
       have:=aj (114::111::117::116::101::32::(X1++47::(X2++[32]))) (X3) (by(try simp only[List.length_append,List.length_cons,List.length_nil])<;>omega) (by(try simp only[List.length_append,List.length_cons,List.length_nil])<;>omega) w'
       simpa using this
      have r6:∀w',(Op.stringOp .add ⟨List.toArray (114::111::117::116::101::32::(X1++47::(X2++32::X3)))⟩ ⟨List.toArray ([10])⟩).run Tryd.prog w'= .ok (.string ⟨List.toArray (114::111::117::116::101::32::(X1++47::(X2++32::(X3++[10]))))⟩) w':=fun w'=>by
       have:=aj (114::111::117::116::101::32::(X1++47::(X2++32::X3))) ([10]) (by(try simp only[List.length_append,List.length_cons,List.length_nil])<;>omega) (by(try simp only[List.length_append,List.length_cons,List.length_nil])<;>omega) w'
       simpa using this
      have r7:∀w',(Op.stringOp .add ⟨List.toArray (L)⟩ ⟨List.toArray (114::111::117::116::101::32::(X1++47::(X2++32::(X3++[10]))))⟩).run Tryd.prog w'= .ok (.string ⟨List.toArray (L++114::111::117::116::101::32::(X1++47::(X2++32::(X3++[10]))))⟩) w':=fun w'=>by
       have:=aj (L) (114::111::117::116::101::32::(X1++47::(X2++32::(X3++[10])))) (by(try simp only[List.length_append,List.length_cons,List.length_nil])<;>omega) (by(try simp only[List.length_append,List.length_cons,List.length_nil])<;>omega) w'
       simpa using this
      have hwz:=cu.out.size
      have ak:=hide (cu.out.alloc hwz (.cells #[.int .i64 rv,.int .i64 rb,.int .i64 rp] 66))
      obtain⟨y0,y1,y2⟩:=jB (heap_alloc_new wr (.cells #[.int .i64 rv,.int .i64 rb,.int .i64 rp] 66))
      clear cu nV pU l1 l2 l3 iT
      go_wp2_with fail
      generalize wr.alloc (.cells #[.int .i64 rv,.int .i64 rb,.int .i64 rp] 66)=w4 at*
      go_quiet (first | (go_at_call_of 25 (Value.int .i64 rv);exact Calls.quiet_of_same (I1.out _)) | (go_at_call_of 25 (Value.int .i64 rb);exact Calls.quiet_of_same (I2.out _)) | (go_at_call_of 25 (Value.int .i64 rp);exact Calls.quiet_of_same (I3.out _)))
      have bH:=hide (ak.out.trans ((below_drewN w4 nq).mono ak.out.size))
      go_wp2_with fail
      go_roundw
      case rel=>exact⟨n+1,_,by omega,by go_num,rfl,by simpa using HL2,bH⟩
      case measure=>simp[intOf];omega
     case neg=>
      obtain rfl:n=tn:=by omega
      have hall:ts.take n=ts:=List.take_of_length_le (by omega)
      rw[hall]at HL
      have nK:=hide (show L=DT by rw[HL.out,HJ.out,ql.out,List.append_assoc])
      have jP:=hide (jm.out.trans (cu.out.mono jm.out.size))
      clear HL HJ ql cu hall
      go_wp2
      go_ret
      exact⟨by rw[← nK.out];rfl,jP.out⟩
 ·-- a IC
  have HH:=hide (show HT=WK++32::(nm++[10]) by rw[o7.out,mJ.out,if_neg (by omega),if_neg (by omega),if_neg (by omega)])
  subst hk
  have s5:∀w',(Op.stringOp .add ⟨List.toArray (WK++32::nm)⟩ ⟨List.toArray ([10])⟩).run Tryd.prog w'= .ok (.string ⟨List.toArray (WK++32::(nm++[10]))⟩) w':=fun w'=>by
   have:=aj (WK++32::nm) ([10]) (by(try simp only[List.length_append,List.length_cons,List.length_nil])<;>omega) (by(try simp only[List.length_append,List.length_cons,List.length_nil])<;>omega) w'
   simpa using this
  clear o7 mJ lX
  go_wp2_with fail
  rw[← HH.out]
  clear HH
  obtain⟨c0,c1,c2,c3,c4,c5,c6⟩:=fM gY.out
  clear c0 c1 c2 c3 c4
  have hrn:=HD.out.rs.1
  have htn:=HD.out.ts.1
  simp only at hrn htn
  have AL:rn≤8:=by have:=oD.out;omega
  have AO:tn≤8:=by have:=sj.out;omega
  go_wp2_with fail
  go_loopw [3,57] (fun v i wr=>∃(k:Nat) (J:List UInt8),k≤rn∧i= .int .i64 (k:Int)∧v= .string ⟨J.toArray⟩∧Hid (J=HT++(rs.take k).flatMap aZ)∧Hid (Below w2.heap.size w2 wr)) (fun _ i _=>rn - (intOf i).toNat)
  case atStart=>exact⟨0,HT,Nat.zero_le _,rfl,rfl,hide (by simp),hide (Below.refl _ _)⟩
  case round=>
   obtain⟨k,J,hk,rfl,rfl,HJ,aA⟩:=hrel
   have gK:=dY aZ 299 (rs.take k) (fun x _=>kL x)
   have iT:J.length≤3000:=by
    rw[HJ.out,List.length_append]
    have:=oD.out
    rw[List.length_take]at gK
    omega
   have hbW:Below W.heap.size W wr:=HB2.out.trans (aA.out.mono HB2.out.size)
   by_cases hlt:k<rn
   case pos=>
    obtain⟨r,hr⟩:∃r,rs[k]?=some r:=⟨_,List.getElem?_eq_getElem (by omega)⟩
    have hrs:=HD.out.rs
    simp only at hrs
    have hmo:r.m.ok:=hrs.wI hr
    obtain⟨bb,oo,rfl,hbb,hgg⟩:=hrs.2.2 (by omega)
    obtain⟨q0,q1,q2,q3,q4⟩:=(hgg k r hr).below hbW hbb
    clear hgg hbW hrs
    obtain⟨pm,m⟩:=r
    simp only at hmo q0 q1 q2 q3 q4
    cases pm
    ·have HM:=hide (fun w=>dJ m hmo w)
     have lM:=eB m
     have bg:=hide (show aZ ⟨false,m⟩=[100,101,110,121,32]++(dG m++[10])from rfl)
     have dK:=hide (dL aZ hr)
     obtain⟨M,hM⟩:∃M,dG m=M:=⟨_,rfl⟩
     rw[hM]at HM lM bg
     have HJ2:=hide (show J++([100,101,110,121,32]++(M++[10]))=HT++(rs.take (k+1)).flatMap aZ by rw[dK.out,HJ.out,bg.out,List.append_assoc])
     obtain⟨a,b',c,d⟩:=m
     simp only at HM
     clear hM dK bg HJ hr hmo gK
     have a1:∀w',(Op.stringOp .add ⟨List.toArray (J)⟩ ⟨List.toArray ([100,101,110,121,32])⟩).run Tryd.prog w'= .ok (.string ⟨List.toArray (J++[100,101,110,121,32])⟩) w':=fun w'=>by
      have:=aj (J) ([100,101,110,121,32]) (by(try simp only[List.length_append,List.length_cons,List.length_nil])<;>omega) (by(try simp only[List.length_append,List.length_cons,List.length_nil])<;>omega) w'
      simpa using this
     have a2:∀w',(Op.stringOp .add ⟨List.toArray (M)⟩ ⟨List.toArray ([10])⟩).run Tryd.prog w'= .ok (.string ⟨List.toArray (M++[10])⟩) w':=fun w'=>by
      have:=aj (M) ([10]) (by(try simp only[List.length_append,List.length_cons,List.length_nil])<;>omega) (by(try simp only[List.length_append,List.length_cons,List.length_nil])<;>omega) w'
      simpa using this
     have a3:∀w',(Op.stringOp .add ⟨List.toArray (J++[100,101,110,121,32])⟩ ⟨List.toArray (M++[10])⟩).run Tryd.prog w'= .ok (.string ⟨List.toArray (J++([100,101,110,121,32]++(M++[10])))⟩) w':=fun w'=>by
      have:=aj (J++[100,101,110,121,32]) (M++[10]) (by(try simp only[List.length_append,List.length_cons,List.length_nil])<;>omega) (by(try simp only[List.length_append,List.length_cons,List.length_nil])<;>omega) w'
      simpa using this
     have hwz:=aA.out.size
     have ak:=hide (aA.out.alloc hwz (.cells #[.bool false,.int .u16 (a:Int),.int .u16 (b':Int),.int .u8 (c:Int),.int .u8 (d:Int)] 63))
     obtain⟨y0,y1,y2,y3,y4⟩:=jC (heap_alloc_new wr (.cells #[.bool false,.int .u16 (a:Int),.int .u16 (b':Int),.int .u8 (c:Int),.int .u8 (d:Int)] 63))
     clear aA iT lM
     go_wp2_with fail
     refine(HM.out _).mono ?_
     rintro e w5 ⟨rfl,hb5⟩
     have bH:=hide (ak.out.trans (hb5.mono ak.out.size))
     clear hb5 ak y0 y1 y2 y3 y4 q0 q1 q2 q3 q4
     go_wp2_with fail
     go_roundw
     case rel=>exact⟨k+1,_,by omega,by go_num,rfl,by simpa using HJ2,bH⟩
     case measure=>simp[intOf];omega
    ·have HM:=hide (fun w=>dJ m hmo w)
     have lM:=eB m
     have bg:=hide (show aZ ⟨true,m⟩=[112,101,114,109,105,116,32]++(dG m++[10])from rfl)
     have dK:=hide (dL aZ hr)
     obtain⟨M,hM⟩:∃M,dG m=M:=⟨_,rfl⟩
     rw[hM]at HM lM bg
     have HJ2:=hide (show J++([112,101,114,109,105,116,32]++(M++[10]))=HT++(rs.take (k+1)).flatMap aZ by rw[dK.out,HJ.out,bg.out,List.append_assoc])
     obtain⟨a,b',c,d⟩:=m
     simp only at HM
     clear hM dK bg HJ hr hmo gK
     have a1:∀w',(Op.stringOp .add ⟨List.toArray (J)⟩ ⟨List.toArray ([112,101,114,109,105,116,32])⟩).run Tryd.prog w'= .ok (.string ⟨List.toArray (J++[112,101,114,109,105,116,32])⟩) w':=fun w'=>by
      have:=aj (J) ([112,101,114,109,105,116,32]) (by(try simp only[List.length_append,List.length_cons,List.length_nil])<;>omega) (by(try simp only[List.length_append,List.length_cons,List.length_nil])<;>omega) w'
      simpa using this
     have a2:∀w',(Op.stringOp .add ⟨List.toArray (M)⟩ ⟨List.toArray ([10])⟩).run Tryd.prog w'= .ok (.string ⟨List.toArray (M++[10])⟩) w':=fun w'=>by
      have:=aj (M) ([10]) (by(try simp only[List.length_append,List.length_cons,List.length_nil])<;>omega) (by(try simp only[List.length_append,List.length_cons,List.length_nil])<;>omega) w'
      simpa using this
     have a3:∀w',(Op.stringOp .add ⟨List.toArray (J++[112,101,114,109,105,116,32])⟩ ⟨List.toArray (M++[10])⟩).run Tryd.prog w'= .ok (.string ⟨List.toArray (J++([112,101,114,109,105,116,32]++(M++[10])))⟩) w':=fun w'=>by
      have:=aj (J++[112,101,114,109,105,116,32]) (M++[10]) (by(try simp only[List.length_append,List.length_cons,List.length_nil])<;>omega) (by(try simp only[List.length_append,List.length_cons,List.length_nil])<;>omega) w'
      simpa using this
     have hwz:=aA.out.size
     have ak:=hide (aA.out.alloc hwz (.cells #[.bool true,.int .u16 (a:Int),.int .u16 (b':Int),.int .u8 (c:Int),.int .u8 (d:Int)] 63))
     obtain⟨y0,y1,y2,y3,y4⟩:=jC (heap_alloc_new wr (.cells #[.bool true,.int .u16 (a:Int),.int .u16 (b':Int),.int .u8 (c:Int),.int .u8 (d:Int)] 63))
     clear aA iT lM
     go_wp2_with fail
     refine(HM.out _).mono ?_
     rintro e w5 ⟨rfl,hb5⟩
     have bH:=hide (ak.out.trans (hb5.mono ak.out.size))
     clear hb5 ak y0 y1 y2 y3 y4 q0 q1 q2 q3 q4
     go_wp2_with fail
     go_roundw
     case rel=>exact⟨k+1,_,by omega,by go_num,rfl,by simpa using HJ2,bH⟩
     case measure=>simp[intOf];omega
   case neg=>
    obtain rfl:k=rn:=by omega
    have hall:rs.take k=rs:=List.take_of_length_le (by omega)
    rw[hall]at HJ
    have qU:=hide ((aA.out.block W.heap.size (cO gY.out)).trans gY.out)
    have jm:=hide hbW
    obtain⟨c0,c1,c2,c3,c4,c5,c6⟩:=fM qU.out
    have pU:J.length≤3000:=iT
    clear gK hbW aA hall c0 c1 c2 c3 c4 c5
    obtain⟨w7,hw7⟩:∃w,w=wr:=⟨_,rfl⟩
    subst hw7
    go_wp2_with fail
    go_loopw [3,77] (fun v i wf=>∃(n:Nat) (L:List UInt8),n≤tn∧i= .int .i64 (n:Int)∧v= .string ⟨L.toArray⟩∧Hid (L=J++(ts.take n).flatMap bO)∧Hid (Below w7.heap.size w7 wf)) (fun _ i _=>tn - (intOf i).toNat)
    case atStart=>exact⟨0,J,Nat.zero_le _,rfl,rfl,hide (by simp),hide (Below.refl _ _)⟩
    case round=>
     obtain⟨n,L,hn,rfl,rfl,HL,cu⟩:=hrel
     have nV:L.length≤4000:=by
      have qB:=dY bO 15 (ts.take n) (fun x hx=>by
       have:=sw.out x (List.mem_of_mem_take hx)
       exact jX this.1.2 this.2.1.2 this.2.2.2)
      rw[HL.out,List.length_append]
      have:=sj.out
      rw[List.length_take]at qB
      omega
     by_cases hlt2:n<tn
     case pos=>
      obtain⟨r,hr⟩:∃r,ts[n]?=some r:=⟨_,List.getElem?_eq_getElem (by omega)⟩
      have hts:=HD.out.ts
      simp only at hts
      have hrr:=sw.out r (List.mem_of_getElem? hr)
      obtain⟨bb,oo,rfl,hbb,hgg⟩:=hts.2 (by omega)
      have gT:Below W.heap.size W wr:=jm.out.trans (cu.out.mono jm.out.size)
      have q0:wr.cell? ⟨bb,oo+n*3,none⟩=some (.int .i64 r.v):=(gT.cell (p:=⟨bb,oo+n*3,none⟩) hbb).trans (hgg n r hr 0 _ rfl)
      have q1:wr.cell? ⟨bb,oo+n*3+1,none⟩=some (.int .i64 r.b):=(gT.cell (p:=⟨bb,oo+n*3+1,none⟩) hbb).trans (hgg n r hr 1 _ rfl)
      have q2:wr.cell? ⟨bb,oo+n*3+2,none⟩=some (.int .i64 r.p):=(gT.cell (p:=⟨bb,oo+n*3+2,none⟩) hbb).trans (hgg n r hr 2 _ rfl)
      clear hgg gT hts
      have bg:=hide (show bO r=[114,111,117,116,101,32]++(Lib.decDigits r.v.toNat++47::(Lib.decDigits r.b.toNat++32::(Lib.decDigits r.p.toNat++[10])))from rfl)
      have dK:=hide (dL bO hr)
      obtain⟨rv,rb,rp⟩:=r
      simp only at q0 q1 q2 hrr bg
      have I1:=hide (fun w=>show Calls Tryd.prog 25 #[.int .i64 rv] w (fun e w'=>e= .returned (.string ⟨(Lib.decDigits (rv).toNat).toArray⟩)∧w'=w)from by
       have h:=Tryd.strconv_Itoa_small (rv).toNat (by have:=hrr.1;omega) w
       rw[show(((rv).toNat :Nat):Int)=rv by have:=hrr.1;omega]at h
       exact h)
      have I2:=hide (fun w=>show Calls Tryd.prog 25 #[.int .i64 rb] w (fun e w'=>e= .returned (.string ⟨(Lib.decDigits (rb).toNat).toArray⟩)∧w'=w)from by
       have h:=Tryd.strconv_Itoa_small (rb).toNat (by have:=hrr.2.1;omega) w
       rw[show(((rb).toNat :Nat):Int)=rb by have:=hrr.2.1;omega]at h
       exact h)
      have I3:=hide (fun w=>show Calls Tryd.prog 25 #[.int .i64 rp] w (fun e w'=>e= .returned (.string ⟨(Lib.decDigits (rp).toNat).toArray⟩)∧w'=w)from by
       have h:=Tryd.strconv_Itoa_small (rp).toNat (by have:=hrr.2.2;omega) w
       rw[show(((rp).toNat :Nat):Int)=rp by have:=hrr.2.2;omega]at h
       exact h)
      have l1:=bf (show rv.toNat<100 by omega)
      have l2:=bf (show rb.toNat<100 by omega)
      have l3:=bf (show rp.toNat<100 by omega)
      generalize Lib.decDigits rv.toNat=X1 at*
      generalize Lib.decDigits rb.toNat=X2 at*
      generalize Lib.decDigits rp.toNat=X3 at*
      have HL2:=hide (show L++([114,111,117,116,101,32]++(X1++47::(X2++32::(X3++[10]))))=J++(ts.take (n+1)).flatMap bO by rw[dK.out,HL.out,bg.out,List.append_assoc])
      clear dK bg HL hr hrr
      have r1:∀w',(Op.stringOp .add ⟨List.toArray ([114,111,117,116,101,32])⟩ ⟨List.toArray (X1)⟩).run Tryd.prog w'= .ok (.string ⟨List.toArray (114::111::117::116::101::32::X1)⟩) w':=fun w'=>by
       have:=aj ([114,111,117,116,101,32]) (X1) (by(try simp only[List.length_append,List.length_cons,List.length_nil])<;>omega) (by(try simp only[List.length_append,List.length_cons,List.length_nil])<;>omega) w'
       simpa using this
      have r2:∀w',(Op.stringOp .add ⟨List.toArray (114::111::117::116::101::32::X1)⟩ ⟨List.toArray ([47])⟩).run Tryd.prog w'= .ok (.string ⟨List.toArray (114::111::117::116::101::32::(X1++[47]))⟩) w':=fun w'=>by
       have:=aj (114::111::117::116::101::32::X1) ([47]) (by(try simp only[List.length_append,List.length_cons,List.length_nil])<;>omega) (by(try simp only[List.length_append,List.length_cons,List.length_nil])<;>omega) w'
       simpa using this
      have r3:∀w',(Op.stringOp .add ⟨List.toArray (114::111::117::116::101::32::(X1++[47]))⟩ ⟨List.toArray (X2)⟩).run Tryd.prog w'= .ok (.string ⟨List.toArray (114::111::117::116::101::32::(X1++47::X2))⟩) w':=fun w'=>by
       have:=aj (114::111::117::116::101::32::(X1++[47])) (X2) (by(try simp only[List.length_append,List.length_cons,List.length_nil])<;>omega) (by(try simp only[List.length_append,List.length_cons,List.length_nil])<;>omega) w'
       simpa using this
      have r4:∀w',(Op.stringOp .add ⟨List.toArray (114::111::117::116::101::32::(X1++47::X2))⟩ ⟨List.toArray ([32])⟩).run Tryd.prog w'= .ok (.string ⟨List.toArray (114::111::117::116::101::32::(X1++47::(X2++[32])))⟩) w':=fun w'=>by
       have:=aj (114::111::117::116::101::32::(X1++47::X2)) ([32]) (by(try simp only[List.length_append,List.length_cons,List.length_nil])<;>omega) (by(try simp only[List.length_append,List.length_cons,List.length_nil])<;>omega) w'
       simpa using this
      have r5:∀w',(Op.stringOp .add ⟨List.toArray (114::111::117::116::101::32::(X1++47::(X2++[32])))⟩ ⟨List.toArray (X3)⟩).run Tryd.prog w'= .ok (.string ⟨List.toArray (114::111::117::116::101::32::(X1++47::(X2++32::X3)))⟩) w':=fun w'=>by
       have:=aj (114::111::117::116::101::32::(X1++47::(X2++[32]))) (X3) (by(try simp only[List.length_append,List.length_cons,List.length_nil])<;>omega) (by(try simp only[List.length_append,List.length_cons,List.length_nil])<;>omega) w'
       simpa using this
      have r6:∀w',(Op.stringOp .add ⟨List.toArray (114::111::117::116::101::32::(X1++47::(X2++32::X3)))⟩ ⟨List.toArray ([10])⟩).run Tryd.prog w'= .ok (.string ⟨List.toArray (114::111::117::116::101::32::(X1++47::(X2++32::(X3++[10]))))⟩) w':=fun w'=>by
       have:=aj (114::111::117::116::101::32::(X1++47::(X2++32::X3))) ([10]) (by(try simp only[List.length_append,List.length_cons,List.length_nil])<;>omega) (by(try simp only[List.length_append,List.length_cons,List.length_nil])<;>omega) w'
       simpa using this
      have r7:∀w',(Op.stringOp .add ⟨List.toArray (L)⟩ ⟨List.toArray (114::111::117::116::101::32::(X1++47::(X2++32::(X3++[10]))))⟩).run Tryd.prog w'= .ok (.string ⟨List.toArray (L++114::111::117::116::101::32::(X1++47::(X2++32::(X3++[10]))))⟩) w':=fun w'=>by
       have:=aj (L) (114::111::117::116::101::32::(X1++47::(X2++32::(X3++[10])))) (by(try simp only[List.length_append,List.length_cons,List.length_nil])<;>omega) (by(try simp only[List.length_append,List.length_cons,List.length_nil])<;>omega) w'
       simpa using this
      have hwz:=cu.out.size
      have ak:=hide (cu.out.alloc hwz (.cells #[.int .i64 rv,.int .i64 rb,.int .i64 rp] 66))
      obtain⟨y0,y1,y2⟩:=jB (heap_alloc_new wr (.cells #[.int .i64 rv,.int .i64 rb,.int .i64 rp] 66))
      clear cu nV pU l1 l2 l3 iT
      go_wp2_with fail
      generalize wr.alloc (.cells #[.int .i64 rv,.int .i64 rb,.int .i64 rp] 66)=w4 at*
      go_quiet (first | (go_at_call_of 25 (Value.int .i64 rv);exact Calls.quiet_of_same (I1.out _)) | (go_at_call_of 25 (Value.int .i64 rb);exact Calls.quiet_of_same (I2.out _)) | (go_at_call_of 25 (Value.int .i64 rp);exact Calls.quiet_of_same (I3.out _)))
      have bH:=hide (ak.out.trans ((below_drewN w4 nq).mono ak.out.size))
      go_wp2_with fail
      go_roundw
      case rel=>exact⟨n+1,_,by omega,by go_num,rfl,by simpa using HL2,bH⟩
      case measure=>simp[intOf];omega
     case neg=>
      obtain rfl:n=tn:=by omega
      have hall:ts.take n=ts:=List.take_of_length_le (by omega)
      rw[hall]at HL
      have nK:=hide (show L=DT by rw[HL.out,HJ.out,ql.out,List.append_assoc])
      have jP:=hide (jm.out.trans (cu.out.mono jm.out.size))
      clear HL HJ ql cu hall
      go_wp2
      go_ret
      exact⟨by rw[← nK.out];rfl,jP.out⟩
 ·-- a Ho
  have HH:=hide (show HT=WK++32::(nm++[10]) by rw[o7.out,mJ.out,if_neg (by omega),if_neg (by omega),if_neg (by omega)])
  subst hk
  have s5:∀w',(Op.stringOp .add ⟨List.toArray (WK++32::nm)⟩ ⟨List.toArray ([10])⟩).run Tryd.prog w'= .ok (.string ⟨List.toArray (WK++32::(nm++[10]))⟩) w':=fun w'=>by
   have:=aj (WK++32::nm) ([10]) (by(try simp only[List.length_append,List.length_cons,List.length_nil])<;>omega) (by(try simp only[List.length_append,List.length_cons,List.length_nil])<;>omega) w'
   simpa using this
  clear o7 mJ lX
  go_wp2_with fail
  rw[← HH.out]
  clear HH
  obtain⟨c0,c1,c2,c3,c4,c5,c6⟩:=fM gY.out
  clear c0 c1 c2 c3 c4
  have hrn:=HD.out.rs.1
  have htn:=HD.out.ts.1
  simp only at hrn htn
  have AL:rn≤8:=by have:=oD.out;omega
  have AO:tn≤8:=by have:=sj.out;omega
  go_wp2_with fail
  go_loopw [3,57] (fun v i wr=>∃(k:Nat) (J:List UInt8),k≤rn∧i= .int .i64 (k:Int)∧v= .string ⟨J.toArray⟩∧Hid (J=HT++(rs.take k).flatMap aZ)∧Hid (Below w2.heap.size w2 wr)) (fun _ i _=>rn - (intOf i).toNat)
  case atStart=>exact⟨0,HT,Nat.zero_le _,rfl,rfl,hide (by simp),hide (Below.refl _ _)⟩
  case round=>
   obtain⟨k,J,hk,rfl,rfl,HJ,aA⟩:=hrel
   have gK:=dY aZ 299 (rs.take k) (fun x _=>kL x)
   have iT:J.length≤3000:=by
    rw[HJ.out,List.length_append]
    have:=oD.out
    rw[List.length_take]at gK
    omega
   have hbW:Below W.heap.size W wr:=HB2.out.trans (aA.out.mono HB2.out.size)
   by_cases hlt:k<rn
   case pos=>
    obtain⟨r,hr⟩:∃r,rs[k]?=some r:=⟨_,List.getElem?_eq_getElem (by omega)⟩
    have hrs:=HD.out.rs
    simp only at hrs
    have hmo:r.m.ok:=hrs.wI hr
    obtain⟨bb,oo,rfl,hbb,hgg⟩:=hrs.2.2 (by omega)
    obtain⟨q0,q1,q2,q3,q4⟩:=(hgg k r hr).below hbW hbb
    clear hgg hbW hrs
    obtain⟨pm,m⟩:=r
    simp only at hmo q0 q1 q2 q3 q4
    cases pm
    ·have HM:=hide (fun w=>dJ m hmo w)
     have lM:=eB m
     have bg:=hide (show aZ ⟨false,m⟩=[100,101,110,121,32]++(dG m++[10])from rfl)
     have dK:=hide (dL aZ hr)
     obtain⟨M,hM⟩:∃M,dG m=M:=⟨_,rfl⟩
     rw[hM]at HM lM bg
     have HJ2:=hide (show J++([100,101,110,121,32]++(M++[10]))=HT++(rs.take (k+1)).flatMap aZ by rw[dK.out,HJ.out,bg.out,List.append_assoc])
     obtain⟨a,b',c,d⟩:=m
     simp only at HM
     clear hM dK bg HJ hr hmo gK
     have a1:∀w',(Op.stringOp .add ⟨List.toArray (J)⟩ ⟨List.toArray ([100,101,110,121,32])⟩).run Tryd.prog w'= .ok (.string ⟨List.toArray (J++[100,101,110,121,32])⟩) w':=fun w'=>by
      have:=aj (J) ([100,101,110,121,32]) (by(try simp only[List.length_append,List.length_cons,List.length_nil])<;>omega) (by(try simp only[List.length_append,List.length_cons,List.length_nil])<;>omega) w'
      simpa using this
     have a2:∀w',(Op.stringOp .add ⟨List.toArray (M)⟩ ⟨List.toArray ([10])⟩).run Tryd.prog w'= .ok (.string ⟨List.toArray (M++[10])⟩) w':=fun w'=>by
      have:=aj (M) ([10]) (by(try simp only[List.length_append,List.length_cons,List.length_nil])<;>omega) (by(try simp only[List.length_append,List.length_cons,List.length_nil])<;>omega) w'
      simpa using this
     have a3:∀w',(Op.stringOp .add ⟨List.toArray (J++[100,101,110,121,32])⟩ ⟨List.toArray (M++[10])⟩).run Tryd.prog w'= .ok (.string ⟨List.toArray (J++([100,101,110,121,32]++(M++[10])))⟩) w':=fun w'=>by
      have:=aj (J++[100,101,110,121,32]) (M++[10]) (by(try simp only[List.length_append,List.length_cons,List.length_nil])<;>omega) (by(try simp only[List.length_append,List.length_cons,List.length_nil])<;>omega) w'
      simpa using this
     have hwz:=aA.out.size
     have ak:=hide (aA.out.alloc hwz (.cells #[.bool false,.int .u16 (a:Int),.int .u16 (b':Int),.int .u8 (c:Int),.int .u8 (d:Int)] 63))
     obtain⟨y0,y1,y2,y3,y4⟩:=jC (heap_alloc_new wr (.cells #[.bool false,.int .u16 (a:Int),.int .u16 (b':Int),.int .u8 (c:Int),.int .u8 (d:Int)] 63))
     clear aA iT lM
     go_wp2_with fail
     refine(HM.out _).mono ?_
     rintro e w5 ⟨rfl,hb5⟩
     have bH:=hide (ak.out.trans (hb5.mono ak.out.size))
     clear hb5 ak y0 y1 y2 y3 y4 q0 q1 q2 q3 q4
     go_wp2_with fail
     go_roundw
     case rel=>exact⟨k+1,_,by omega,by go_num,rfl,by simpa using HJ2,bH⟩
     case measure=>simp[intOf];omega
    ·have HM:=hide (fun w=>dJ m hmo w)
     have lM:=eB m
     have bg:=hide (show aZ ⟨true,m⟩=[112,101,114,109,105,116,32]++(dG m++[10])from rfl)
     have dK:=hide (dL aZ hr)
     obtain⟨M,hM⟩:∃M,dG m=M:=⟨_,rfl⟩
     rw[hM]at HM lM bg
     have HJ2:=hide (show J++([112,101,114,109,105,116,32]++(M++[10]))=HT++(rs.take (k+1)).flatMap aZ by rw[dK.out,HJ.out,bg.out,List.append_assoc])
     obtain⟨a,b',c,d⟩:=m
     simp only at HM
     clear hM dK bg HJ hr hmo gK
     have a1:∀w',(Op.stringOp .add ⟨List.toArray (J)⟩ ⟨List.toArray ([112,101,114,109,105,116,32])⟩).run Tryd.prog w'= .ok (.string ⟨List.toArray (J++[112,101,114,109,105,116,32])⟩) w':=fun w'=>by
      have:=aj (J) ([112,101,114,109,105,116,32]) (by(try simp only[List.length_append,List.length_cons,List.length_nil])<;>omega) (by(try simp only[List.length_append,List.length_cons,List.length_nil])<;>omega) w'
      simpa using this
     have a2:∀w',(Op.stringOp .add ⟨List.toArray (M)⟩ ⟨List.toArray ([10])⟩).run Tryd.prog w'= .ok (.string ⟨List.toArray (M++[10])⟩) w':=fun w'=>by
      have:=aj (M) ([10]) (by(try simp only[List.length_append,List.length_cons,List.length_nil])<;>omega) (by(try simp only[List.length_append,List.length_cons,List.length_nil])<;>omega) w'
      simpa using this
     have a3:∀w',(Op.stringOp .add ⟨List.toArray (J++[112,101,114,109,105,116,32])⟩ ⟨List.toArray (M++[10])⟩).run Tryd.prog w'= .ok (.string ⟨List.toArray (J++([112,101,114,109,105,116,32]++(M++[10])))⟩) w':=fun w'=>by
      have:=aj (J++[112,101,114,109,105,116,32]) (M++[10]) (by(try simp only[List.length_append,List.length_cons,List.length_nil])<;>omega) (by(try simp only[List.length_append,List.length_cons,List.length_nil])<;>omega) w'
      simpa using this
     have hwz:=aA.out.size
     have ak:=hide (aA.out.alloc hwz (.cells #[.bool true,.int .u16 (a:Int),.int .u16 (b':Int),.int .u8 (c:Int),.int .u8 (d:Int)] 63))
     obtain⟨y0,y1,y2,y3,y4⟩:=jC (heap_alloc_new wr (.cells #[.bool true,.int .u16 (a:Int),.int .u16 (b':Int),.int .u8 (c:Int),.int .u8 (d:Int)] 63))
     clear aA iT lM
     go_wp2_with fail
     refine(HM.out _).mono ?_
     rintro e w5 ⟨rfl,hb5⟩
     have bH:=hide (ak.out.trans (hb5.mono ak.out.size))
     clear hb5 ak y0 y1 y2 y3 y4 q0 q1 q2 q3 q4
     go_wp2_with fail
     go_roundw
     case rel=>exact⟨k+1,_,by omega,by go_num,rfl,by simpa using HJ2,bH⟩
     case measure=>simp[intOf];omega
   case neg=>
    obtain rfl:k=rn:=by omega
    have hall:rs.take k=rs:=List.take_of_length_le (by omega)
    rw[hall]at HJ
    have qU:=hide ((aA.out.block W.heap.size (cO gY.out)).trans gY.out)
    have jm:=hide hbW
    obtain⟨c0,c1,c2,c3,c4,c5,c6⟩:=fM qU.out
    have pU:J.length≤3000:=iT
    clear gK hbW aA hall c0 c1 c2 c3 c4 c5
    obtain⟨w7,hw7⟩:∃w,w=wr:=⟨_,rfl⟩
    subst hw7
    go_wp2_with fail
    go_loopw [3,77] (fun v i wf=>∃(n:Nat) (L:List UInt8),n≤tn∧i= .int .i64 (n:Int)∧v= .string ⟨L.toArray⟩∧Hid (L=J++(ts.take n).flatMap bO)∧Hid (Below w7.heap.size w7 wf)) (fun _ i _=>tn - (intOf i).toNat)
    case atStart=>exact⟨0,J,Nat.zero_le _,rfl,rfl,hide (by simp),hide (Below.refl _ _)⟩
    case round=>
     obtain⟨n,L,hn,rfl,rfl,HL,cu⟩:=hrel
     have nV:L.length≤4000:=by
      have qB:=dY bO 15 (ts.take n) (fun x hx=>by
       have:=sw.out x (List.mem_of_mem_take hx)
       exact jX this.1.2 this.2.1.2 this.2.2.2)
      rw[HL.out,List.length_append]
      have:=sj.out
      rw[List.length_take]at qB
      omega
     by_cases hlt2:n<tn
     case pos=>
      obtain⟨r,hr⟩:∃r,ts[n]?=some r:=⟨_,List.getElem?_eq_getElem (by omega)⟩
      have hts:=HD.out.ts
      simp only at hts
      have hrr:=sw.out r (List.mem_of_getElem? hr)
      obtain⟨bb,oo,rfl,hbb,hgg⟩:=hts.2 (by omega)
      have gT:Below W.heap.size W wr:=jm.out.trans (cu.out.mono jm.out.size)
      have q0:wr.cell? ⟨bb,oo+n*3,none⟩=some (.int .i64 r.v):=(gT.cell (p:=⟨bb,oo+n*3,none⟩) hbb).trans (hgg n r hr 0 _ rfl)
      have q1:wr.cell? ⟨bb,oo+n*3+1,none⟩=some (.int .i64 r.b):=(gT.cell (p:=⟨bb,oo+n*3+1,none⟩) hbb).trans (hgg n r hr 1 _ rfl)
      have q2:wr.cell? ⟨bb,oo+n*3+2,none⟩=some (.int .i64 r.p):=(gT.cell (p:=⟨bb,oo+n*3+2,none⟩) hbb).trans (hgg n r hr 2 _ rfl)
      clear hgg gT hts
      have bg:=hide (show bO r=[114,111,117,116,101,32]++(Lib.decDigits r.v.toNat++47::(Lib.decDigits r.b.toNat++32::(Lib.decDigits r.p.toNat++[10])))from rfl)
      have dK:=hide (dL bO hr)
      obtain⟨rv,rb,rp⟩:=r
      simp only at q0 q1 q2 hrr bg
      have I1:=hide (fun w=>show Calls Tryd.prog 25 #[.int .i64 rv] w (fun e w'=>e= .returned (.string ⟨(Lib.decDigits (rv).toNat).toArray⟩)∧w'=w)from by
       have h:=Tryd.strconv_Itoa_small (rv).toNat (by have:=hrr.1;omega) w
       rw[show(((rv).toNat :Nat):Int)=rv by have:=hrr.1;omega]at h
       exact h)
      have I2:=hide (fun w=>show Calls Tryd.prog 25 #[.int .i64 rb] w (fun e w'=>e= .returned (.string ⟨(Lib.decDigits (rb).toNat).toArray⟩)∧w'=w)from by
       have h:=Tryd.strconv_Itoa_small (rb).toNat (by have:=hrr.2.1;omega) w
       rw[show(((rb).toNat :Nat):Int)=rb by have:=hrr.2.1;omega]at h
       exact h)
      have I3:=hide (fun w=>show Calls Tryd.prog 25 #[.int .i64 rp] w (fun e w'=>e= .returned (.string ⟨(Lib.decDigits (rp).toNat).toArray⟩)∧w'=w)from by
       have h:=Tryd.strconv_Itoa_small (rp).toNat (by have:=hrr.2.2;omega) w
       rw[show(((rp).toNat :Nat):Int)=rp by have:=hrr.2.2;omega]at h
       exact h)
      have l1:=bf (show rv.toNat<100 by omega)
      have l2:=bf (show rb.toNat<100 by omega)
      have l3:=bf (show rp.toNat<100 by omega)
      generalize Lib.decDigits rv.toNat=X1 at*
      generalize Lib.decDigits rb.toNat=X2 at*
      generalize Lib.decDigits rp.toNat=X3 at*
      have HL2:=hide (show L++([114,111,117,116,101,32]++(X1++47::(X2++32::(X3++[10]))))=J++(ts.take (n+1)).flatMap bO by rw[dK.out,HL.out,bg.out,List.append_assoc])
      clear dK bg HL hr hrr
      have r1:∀w',(Op.stringOp .add ⟨List.toArray ([114,111,117,116,101,32])⟩ ⟨List.toArray (X1)⟩).run Tryd.prog w'= .ok (.string ⟨List.toArray (114::111::117::116::101::32::X1)⟩) w':=fun w'=>by
       have:=aj ([114,111,117,116,101,32]) (X1) (by(try simp only[List.length_append,List.length_cons,List.length_nil])<;>omega) (by(try simp only[List.length_append,List.length_cons,List.length_nil])<;>omega) w'
       simpa using this
      have r2:∀w',(Op.stringOp .add ⟨List.toArray (114::111::117::116::101::32::X1)⟩ ⟨List.toArray ([47])⟩).run Tryd.prog w'= .ok (.string ⟨List.toArray (114::111::117::116::101::32::(X1++[47]))⟩) w':=fun w'=>by
       have:=aj (114::111::117::116::101::32::X1) ([47]) (by(try simp only[List.length_append,List.length_cons,List.length_nil])<;>omega) (by(try simp only[List.length_append,List.length_cons,List.length_nil])<;>omega) w'
       simpa using this
      have r3:∀w',(Op.stringOp .add ⟨List.toArray (114::111::117::116::101::32::(X1++[47]))⟩ ⟨List.toArray (X2)⟩).run Tryd.prog w'= .ok (.string ⟨List.toArray (114::111::117::116::101::32::(X1++47::X2))⟩) w':=fun w'=>by
       have:=aj (114::111::117::116::101::32::(X1++[47])) (X2) (by(try simp only[List.length_append,List.length_cons,List.length_nil])<;>omega) (by(try simp only[List.length_append,List.length_cons,List.length_nil])<;>omega) w'
       simpa using this
      have r4:∀w',(Op.stringOp .add ⟨List.toArray (114::111::117::116::101::32::(X1++47::X2))⟩ ⟨List.toArray ([32])⟩).run Tryd.prog w'= .ok (.string ⟨List.toArray (114::111::117::116::101::32::(X1++47::(X2++[32])))⟩) w':=fun w'=>by
       have:=aj (114::111::117::116::101::32::(X1++47::X2)) ([32]) (by(try simp only[List.length_append,List.length_cons,List.length_nil])<;>omega) (by(try simp only[List.length_append,List.length_cons,List.length_nil])<;>omega) w'
       simpa using this
      have r5:∀w',(Op.stringOp .add ⟨List.toArray (114::111::117::116::101::32::(X1++47::(X2++[32])))⟩ ⟨List.toArray (X3)⟩).run Tryd.prog w'= .ok (.string ⟨List.toArray (114::111::117::116::101::32::(X1++47::(X2++32::X3)))⟩) w':=fun w'=>by
       have:=aj (114::111::117::116::101::32::(X1++47::(X2++[32]))) (X3) (by(try simp only[List.length_append,List.length_cons,List.length_nil])<;>omega) (by(try simp only[List.length_append,List.length_cons,List.length_nil])<;>omega) w'
       simpa using this
      have r6:∀w',(Op.stringOp .add ⟨List.toArray (114::111::117::116::101::32::(X1++47::(X2++32::X3)))⟩ ⟨List.toArray ([10])⟩).run Tryd.prog w'= .ok (.string ⟨List.toArray (114::111::117::116::101::32::(X1++47::(X2++32::(X3++[10]))))⟩) w':=fun w'=>by
       have:=aj (114::111::117::116::101::32::(X1++47::(X2++32::X3))) ([10]) (by(try simp only[List.length_append,List.length_cons,List.length_nil])<;>omega) (by(try simp only[List.length_append,List.length_cons,List.length_nil])<;>omega) w'
       simpa using this
      have r7:∀w',(Op.stringOp .add ⟨List.toArray (L)⟩ ⟨List.toArray (114::111::117::116::101::32::(X1++47::(X2++32::(X3++[10]))))⟩).run Tryd.prog w'= .ok (.string ⟨List.toArray (L++114::111::117::116::101::32::(X1++47::(X2++32::(X3++[10]))))⟩) w':=fun w'=>by
       have:=aj (L) (114::111::117::116::101::32::(X1++47::(X2++32::(X3++[10])))) (by(try simp only[List.length_append,List.length_cons,List.length_nil])<;>omega) (by(try simp only[List.length_append,List.length_cons,List.length_nil])<;>omega) w'
       simpa using this
      have hwz:=cu.out.size
      have ak:=hide (cu.out.alloc hwz (.cells #[.int .i64 rv,.int .i64 rb,.int .i64 rp] 66))
      obtain⟨y0,y1,y2⟩:=jB (heap_alloc_new wr (.cells #[.int .i64 rv,.int .i64 rb,.int .i64 rp] 66))
      clear cu nV pU l1 l2 l3 iT
      go_wp2_with fail
      generalize wr.alloc (.cells #[.int .i64 rv,.int .i64 rb,.int .i64 rp] 66)=w4 at*
      go_quiet (first | (go_at_call_of 25 (Value.int .i64 rv);exact Calls.quiet_of_same (I1.out _)) | (go_at_call_of 25 (Value.int .i64 rb);exact Calls.quiet_of_same (I2.out _)) | (go_at_call_of 25 (Value.int .i64 rp);exact Calls.quiet_of_same (I3.out _)))
      have bH:=hide (ak.out.trans ((below_drewN w4 nq).mono ak.out.size))
      go_wp2_with fail
      go_roundw
      case rel=>exact⟨n+1,_,by omega,by go_num,rfl,by simpa using HL2,bH⟩
      case measure=>simp[intOf];omega
     case neg=>
      obtain rfl:n=tn:=by omega
      have hall:ts.take n=ts:=List.take_of_length_le (by omega)
      rw[hall]at HL
      have nK:=hide (show L=DT by rw[HL.out,HJ.out,ql.out,List.append_assoc])
      have jP:=hide (jm.out.trans (cu.out.mono jm.out.size))
      clear HL HJ ql cu hall
      go_wp2
      go_ret
      exact⟨by rw[← nK.out];rfl,jP.out⟩
 ·-- a nat
  have lL:=nN (xs:=dS pool) (fun x hx=>by have:=nJ pool x hx;omega)
  have hpl:=vS pool
  have hp0:=vg.out hk
  have Hq:pool<256:=HD.out.pl
  have zx:=hide (fun w=>Ca pool w Hq)
  have qW:=hide (fun A c w (hI:dN w w.heap.size A (dS pool).length ((dS pool).map fun(k:Nat)=>(k:Int)))=>vT (dS pool) A (dS pool).length c w hI (fun x hx=>by have:=nJ pool x hx;omega) hpl hp0)
  have yA:=hide (show HT=WK++32::(nm++32::(X++32::(iG (dS pool)++[10]))) by rw[o7.out,mJ.out,if_neg (by omega),if_pos hk])
  obtain⟨L,hL⟩:∃L,iG (dS pool)=L:=⟨_,rfl⟩
  rw[hL]at lL qW yA
  have HH:=yA
  subst hk
  have s3:∀w',(Op.stringOp .add ⟨List.toArray ([32])⟩ ⟨List.toArray (X)⟩).run Tryd.prog w'= .ok (.string ⟨List.toArray (32::X)⟩) w':=fun w'=>by
   have:=aj ([32]) (X) (by(try simp only[List.length_append,List.length_cons,List.length_nil])<;>omega) (by(try simp only[List.length_append,List.length_cons,List.length_nil])<;>omega) w'
   simpa using this
  have s4:∀w',(Op.stringOp .add ⟨List.toArray (32::X)⟩ ⟨List.toArray ([32])⟩).run Tryd.prog w'= .ok (.string ⟨List.toArray (32::(X++[32]))⟩) w':=fun w'=>by
   have:=aj (32::X) ([32]) (by(try simp only[List.length_append,List.length_cons,List.length_nil])<;>omega) (by(try simp only[List.length_append,List.length_cons,List.length_nil])<;>omega) w'
   simpa using this
  have s5:∀w',(Op.stringOp .add ⟨List.toArray (32::(X++[32]))⟩ ⟨List.toArray (L)⟩).run Tryd.prog w'= .ok (.string ⟨List.toArray (32::(X++32::L))⟩) w':=fun w'=>by
   have:=aj (32::(X++[32])) (L) (by(try simp only[List.length_append,List.length_cons,List.length_nil])<;>omega) (by(try simp only[List.length_append,List.length_cons,List.length_nil])<;>omega) w'
   simpa using this
  have s6:∀w',(Op.stringOp .add ⟨List.toArray (WK++32::nm)⟩ ⟨List.toArray (32::(X++32::L))⟩).run Tryd.prog w'= .ok (.string ⟨List.toArray (WK++32::(nm++32::(X++32::L)))⟩) w':=fun w'=>by
   have:=aj (WK++32::nm) (32::(X++32::L)) (by(try simp only[List.length_append,List.length_cons,List.length_nil])<;>omega) (by(try simp only[List.length_append,List.length_cons,List.length_nil])<;>omega) w'
   simpa using this
  have s7:∀w',(Op.stringOp .add ⟨List.toArray (WK++32::(nm++32::(X++32::L)))⟩ ⟨List.toArray ([10])⟩).run Tryd.prog w'= .ok (.string ⟨List.toArray (WK++32::(nm++32::(X++32::(L++[10]))))⟩) w':=fun w'=>by
   have:=aj (WK++32::(nm++32::(X++32::L))) ([10]) (by(try simp only[List.length_append,List.length_cons,List.length_nil])<;>omega) (by(try simp only[List.length_append,List.length_cons,List.length_nil])<;>omega) w'
   simpa using this
  obtain⟨PN,Gx⟩:∃n,(dS pool).length =n:=⟨_,rfl⟩
  rw[Gx]at zx qW
  clear o7 mJ lX lL hL hpl hp0 Gx yA vg
  go_wp2_with fail
  clear c0 c1 c4 c5 c6
  have p0:=c2
  have p1:=c3
  have p8:=hide (fun(w':World) (hb:Below w2.heap.size w2 w')=>show w'.cell? ⟨W.heap.size,2,none⟩=some (.int .i64 addr)∧w'.cell? ⟨W.heap.size,3,none⟩=some (.int .u8 (pool:Int))from⟨(hb.cell (p:=⟨W.heap.size,2,none⟩) (cO gY.out)).trans c2,(hb.cell (p:=⟨W.heap.size,3,none⟩) (cO gY.out)).trans c3⟩)
  clear c2 c3
  go_region_held3 (fun w'=>w'.cell? ⟨W.heap.size,2,none⟩=some (.int .i64 addr)∧w'.cell? ⟨W.heap.size,3,none⟩=some (.int .u8 (pool:Int))) (go_keep) (first | (go_at_call 25;refine(zK.out _).mono ?_;rintro e w5 ⟨rfl,rfl⟩) | (go_at_call 53;refine(zx.out _).mono ?_;rintro e w3 ⟨A,c,rfl,hI,hb⟩;have HI3:=hide hI;have HB3:=hide (show Below w2.heap.size w2 w3 from(by first | exact hb | exact(below_drewN w2 _).trans hb));have p0:=(p8.out _ HB3.out).1;have p1:=(p8.out _ HB3.out).2;clear hI hb) | (go_at_call 52;refine(qW.out _ _ _ (by first | exact HI3.out | exact HI3.out.below (below_drewN w3 _) (Nat.le_refl _))).mono ?_;rintro e w4 ⟨rfl,hb⟩;have ak:=hide (show Below w3.heap.size w3 w4 from(by first | exact hb | exact(below_drewN w3 _).trans hb));have yB:=hide (HB3.out.trans (ak.out.mono HB3.out.size));have p0:=(p8.out _ yB.out).1;have p1:=(p8.out _ yB.out).2;clear hb))
  have bC:=hide ((yB.out.block W.heap.size (cO gY.out)).trans gY.out)
  have iJ:=hide (HB2.out.trans (yB.out.mono HB2.out.size))
  rename_i Am
  clear Am p0 p1 yB ak HB3 HI3 zx qW p8 gY HB2 zK
  obtain⟨c0,c1,c2,c3,c4,c5,c6⟩:=fM bC.out
  go_wp2_with fail
  rw[← HH.out]
  clear HH
  obtain⟨c0,c1,c2,c3,c4,c5,c6⟩:=fM bC.out
  clear c0 c1 c2 c3 c4
  have hrn:=HD.out.rs.1
  have htn:=HD.out.ts.1
  simp only at hrn htn
  have AL:rn≤8:=by have:=oD.out;omega
  have AO:tn≤8:=by have:=sj.out;omega
  go_wp2_with fail
  go_loopw [3,57] (fun v i wr=>∃(k:Nat) (J:List UInt8),k≤rn∧i= .int .i64 (k:Int)∧v= .string ⟨J.toArray⟩∧Hid (J=HT++(rs.take k).flatMap aZ)∧Hid (Below w4.heap.size w4 wr)) (fun _ i _=>rn - (intOf i).toNat)
  case atStart=>exact⟨0,HT,Nat.zero_le _,rfl,rfl,hide (by simp),hide (Below.refl _ _)⟩
  case round=>
   obtain⟨k,J,hk,rfl,rfl,HJ,aA⟩:=hrel
   have gK:=dY aZ 299 (rs.take k) (fun x _=>kL x)
   have iT:J.length≤3000:=by
    rw[HJ.out,List.length_append]
    have:=oD.out
    rw[List.length_take]at gK
    omega
   have hbW:Below W.heap.size W wr:=iJ.out.trans (aA.out.mono iJ.out.size)
   by_cases hlt:k<rn
   case pos=>
    obtain⟨r,hr⟩:∃r,rs[k]?=some r:=⟨_,List.getElem?_eq_getElem (by omega)⟩
    have hrs:=HD.out.rs
    simp only at hrs
    have hmo:r.m.ok:=hrs.wI hr
    obtain⟨bb,oo,rfl,hbb,hgg⟩:=hrs.2.2 (by omega)
    obtain⟨q0,q1,q2,q3,q4⟩:=(hgg k r hr).below hbW hbb
    clear hgg hbW hrs
    obtain⟨pm,m⟩:=r
    simp only at hmo q0 q1 q2 q3 q4
    cases pm
    ·have HM:=hide (fun w=>dJ m hmo w)
     have lM:=eB m
     have bg:=hide (show aZ ⟨false,m⟩=[100,101,110,121,32]++(dG m++[10])from rfl)
     have dK:=hide (dL aZ hr)
     obtain⟨M,hM⟩:∃M,dG m=M:=⟨_,rfl⟩
     rw[hM]at HM lM bg
     have HJ2:=hide (show J++([100,101,110,121,32]++(M++[10]))=HT++(rs.take (k+1)).flatMap aZ by rw[dK.out,HJ.out,bg.out,List.append_assoc])
     obtain⟨a,b',c,d⟩:=m
     simp only at HM
     clear hM dK bg HJ hr hmo gK
     have a1:∀w',(Op.stringOp .add ⟨List.toArray (J)⟩ ⟨List.toArray ([100,101,110,121,32])⟩).run Tryd.prog w'= .ok (.string ⟨List.toArray (J++[100,101,110,121,32])⟩) w':=fun w'=>by
      have:=aj (J) ([100,101,110,121,32]) (by(try simp only[List.length_append,List.length_cons,List.length_nil])<;>omega) (by(try simp only[List.length_append,List.length_cons,List.length_nil])<;>omega) w'
      simpa using this
     have a2:∀w',(Op.stringOp .add ⟨List.toArray (M)⟩ ⟨List.toArray ([10])⟩).run Tryd.prog w'= .ok (.string ⟨List.toArray (M++[10])⟩) w':=fun w'=>by
      have:=aj (M) ([10]) (by(try simp only[List.length_append,List.length_cons,List.length_nil])<;>omega) (by(try simp only[List.length_append,List.length_cons,List.length_nil])<;>omega) w'
      simpa using this
     have a3:∀w',(Op.stringOp .add ⟨List.toArray (J++[100,101,110,121,32])⟩ ⟨List.toArray (M++[10])⟩).run Tryd.prog w'= .ok (.string ⟨List.toArray (J++([100,101,110,121,32]++(M++[10])))⟩) w':=fun w'=>by
      have:=aj (J++[100,101,110,121,32]) (M++[10]) (by(try simp only[List.length_append,List.length_cons,List.length_nil])<;>omega) (by(try simp only[List.length_append,List.length_cons,List.length_nil])<;>omega) w'
      simpa using this
     have hwz:=aA.out.size
     have ak:=hide (aA.out.alloc hwz (.cells #[.bool false,.int .u16 (a:Int),.int .u16 (b':Int),.int .u8 (c:Int),.int .u8 (d:Int)] 63))
     obtain⟨y0,y1,y2,y3,y4⟩:=jC (heap_alloc_new wr (.cells #[.bool false,.int .u16 (a:Int),.int .u16 (b':Int),.int .u8 (c:Int),.int .u8 (d:Int)] 63))
     clear aA iT lM
     go_wp2_with fail
     refine(HM.out _).mono ?_
     rintro e w5 ⟨rfl,hb5⟩
     have bH:=hide (ak.out.trans (hb5.mono ak.out.size))
     clear hb5 ak y0 y1 y2 y3 y4 q0 q1 q2 q3 q4
     go_wp2_with fail
     go_roundw
     case rel=>exact⟨k+1,_,by omega,by go_num,rfl,by simpa using HJ2,bH⟩
     case measure=>simp[intOf];omega
    ·have HM:=hide (fun w=>dJ m hmo w)
     have lM:=eB m
     have bg:=hide (show aZ ⟨true,m⟩=[112,101,114,109,105,116,32]++(dG m++[10])from rfl)
     have dK:=hide (dL aZ hr)
     obtain⟨M,hM⟩:∃M,dG m=M:=⟨_,rfl⟩
     rw[hM]at HM lM bg
     have HJ2:=hide (show J++([112,101,114,109,105,116,32]++(M++[10]))=HT++(rs.take (k+1)).flatMap aZ by rw[dK.out,HJ.out,bg.out,List.append_assoc])
     obtain⟨a,b',c,d⟩:=m
     simp only at HM
     clear hM dK bg HJ hr hmo gK
     have a1:∀w',(Op.stringOp .add ⟨List.toArray (J)⟩ ⟨List.toArray ([112,101,114,109,105,116,32])⟩).run Tryd.prog w'= .ok (.string ⟨List.toArray (J++[112,101,114,109,105,116,32])⟩) w':=fun w'=>by
      have:=aj (J) ([112,101,114,109,105,116,32]) (by(try simp only[List.length_append,List.length_cons,List.length_nil])<;>omega) (by(try simp only[List.length_append,List.length_cons,List.length_nil])<;>omega) w'
      simpa using this
     have a2:∀w',(Op.stringOp .add ⟨List.toArray (M)⟩ ⟨List.toArray ([10])⟩).run Tryd.prog w'= .ok (.string ⟨List.toArray (M++[10])⟩) w':=fun w'=>by
      have:=aj (M) ([10]) (by(try simp only[List.length_append,List.length_cons,List.length_nil])<;>omega) (by(try simp only[List.length_append,List.length_cons,List.length_nil])<;>omega) w'
      simpa using this
     have a3:∀w',(Op.stringOp .add ⟨List.toArray (J++[112,101,114,109,105,116,32])⟩ ⟨List.toArray (M++[10])⟩).run Tryd.prog w'= .ok (.string ⟨List.toArray (J++([112,101,114,109,105,116,32]++(M++[10])))⟩) w':=fun w'=>by
      have:=aj (J++[112,101,114,109,105,116,32]) (M++[10]) (by(try simp only[List.length_append,List.length_cons,List.length_nil])<;>omega) (by(try simp only[List.length_append,List.length_cons,List.length_nil])<;>omega) w'
      simpa using this
     have hwz:=aA.out.size
     have ak:=hide (aA.out.alloc hwz (.cells #[.bool true,.int .u16 (a:Int),.int .u16 (b':Int),.int .u8 (c:Int),.int .u8 (d:Int)] 63))
     obtain⟨y0,y1,y2,y3,y4⟩:=jC (heap_alloc_new wr (.cells #[.bool true,.int .u16 (a:Int),.int .u16 (b':Int),.int .u8 (c:Int),.int .u8 (d:Int)] 63))
     clear aA iT lM
     go_wp2_with fail
     refine(HM.out _).mono ?_
     rintro e w5 ⟨rfl,hb5⟩
     have bH:=hide (ak.out.trans (hb5.mono ak.out.size))
     clear hb5 ak y0 y1 y2 y3 y4 q0 q1 q2 q3 q4
     go_wp2_with fail
     go_roundw
     case rel=>exact⟨k+1,_,by omega,by go_num,rfl,by simpa using HJ2,bH⟩
     case measure=>simp[intOf];omega
   case neg=>
    obtain rfl:k=rn:=by omega
    have hall:rs.take k=rs:=List.take_of_length_le (by omega)
    rw[hall]at HJ
    have qU:=hide ((aA.out.block W.heap.size (cO bC.out)).trans bC.out)
    have jm:=hide hbW
    obtain⟨c0,c1,c2,c3,c4,c5,c6⟩:=fM qU.out
    have pU:J.length≤3000:=iT
    clear gK hbW aA hall c0 c1 c2 c3 c4 c5
    obtain⟨w7,hw7⟩:∃w,w=wr:=⟨_,rfl⟩
    subst hw7
    go_wp2_with fail
    go_loopw [3,77] (fun v i wf=>∃(n:Nat) (L:List UInt8),n≤tn∧i= .int .i64 (n:Int)∧v= .string ⟨L.toArray⟩∧Hid (L=J++(ts.take n).flatMap bO)∧Hid (Below w7.heap.size w7 wf)) (fun _ i _=>tn - (intOf i).toNat)
    case atStart=>exact⟨0,J,Nat.zero_le _,rfl,rfl,hide (by simp),hide (Below.refl _ _)⟩
    case round=>
     obtain⟨n,L,hn,rfl,rfl,HL,cu⟩:=hrel
     have nV:L.length≤4000:=by
      have qB:=dY bO 15 (ts.take n) (fun x hx=>by
       have:=sw.out x (List.mem_of_mem_take hx)
       exact jX this.1.2 this.2.1.2 this.2.2.2)
      rw[HL.out,List.length_append]
      have:=sj.out
      rw[List.length_take]at qB
      omega
     by_cases hlt2:n<tn
     case pos=>
      obtain⟨r,hr⟩:∃r,ts[n]?=some r:=⟨_,List.getElem?_eq_getElem (by omega)⟩
      have hts:=HD.out.ts
      simp only at hts
      have hrr:=sw.out r (List.mem_of_getElem? hr)
      obtain⟨bb,oo,rfl,hbb,hgg⟩:=hts.2 (by omega)
      have gT:Below W.heap.size W wr:=jm.out.trans (cu.out.mono jm.out.size)
      have q0:wr.cell? ⟨bb,oo+n*3,none⟩=some (.int .i64 r.v):=(gT.cell (p:=⟨bb,oo+n*3,none⟩) hbb).trans (hgg n r hr 0 _ rfl)
      have q1:wr.cell? ⟨bb,oo+n*3+1,none⟩=some (.int .i64 r.b):=(gT.cell (p:=⟨bb,oo+n*3+1,none⟩) hbb).trans (hgg n r hr 1 _ rfl)
      have q2:wr.cell? ⟨bb,oo+n*3+2,none⟩=some (.int .i64 r.p):=(gT.cell (p:=⟨bb,oo+n*3+2,none⟩) hbb).trans (hgg n r hr 2 _ rfl)
      clear hgg gT hts
      have bg:=hide (show bO r=[114,111,117,116,101,32]++(Lib.decDigits r.v.toNat++47::(Lib.decDigits r.b.toNat++32::(Lib.decDigits r.p.toNat++[10])))from rfl)
      have dK:=hide (dL bO hr)
      obtain⟨rv,rb,rp⟩:=r
      simp only at q0 q1 q2 hrr bg
      have I1:=hide (fun w=>show Calls Tryd.prog 25 #[.int .i64 rv] w (fun e w'=>e= .returned (.string ⟨(Lib.decDigits (rv).toNat).toArray⟩)∧w'=w)from by
       have h:=Tryd.strconv_Itoa_small (rv).toNat (by have:=hrr.1;omega) w
       rw[show(((rv).toNat :Nat):Int)=rv by have:=hrr.1;omega]at h
       exact h)
      have I2:=hide (fun w=>show Calls Tryd.prog 25 #[.int .i64 rb] w (fun e w'=>e= .returned (.string ⟨(Lib.decDigits (rb).toNat).toArray⟩)∧w'=w)from by
       have h:=Tryd.strconv_Itoa_small (rb).toNat (by have:=hrr.2.1;omega) w
       rw[show(((rb).toNat :Nat):Int)=rb by have:=hrr.2.1;omega]at h
       exact h)
      have I3:=hide (fun w=>show Calls Tryd.prog 25 #[.int .i64 rp] w (fun e w'=>e= .returned (.string ⟨(Lib.decDigits (rp).toNat).toArray⟩)∧w'=w)from by
       have h:=Tryd.strconv_Itoa_small (rp).toNat (by have:=hrr.2.2;omega) w
       rw[show(((rp).toNat :Nat):Int)=rp by have:=hrr.2.2;omega]at h
       exact h)
      have l1:=bf (show rv.toNat<100 by omega)
      have l2:=bf (show rb.toNat<100 by omega)
      have l3:=bf (show rp.toNat<100 by omega)
      generalize Lib.decDigits rv.toNat=X1 at*
      generalize Lib.decDigits rb.toNat=X2 at*
      generalize Lib.decDigits rp.toNat=X3 at*
      have HL2:=hide (show L++([114,111,117,116,101,32]++(X1++47::(X2++32::(X3++[10]))))=J++(ts.take (n+1)).flatMap bO by rw[dK.out,HL.out,bg.out,List.append_assoc])
      clear dK bg HL hr hrr
      have r1:∀w',(Op.stringOp .add ⟨List.toArray ([114,111,117,116,101,32])⟩ ⟨List.toArray (X1)⟩).run Tryd.prog w'= .ok (.string ⟨List.toArray (114::111::117::116::101::32::X1)⟩) w':=fun w'=>by
       have:=aj ([114,111,117,116,101,32]) (X1) (by(try simp only[List.length_append,List.length_cons,List.length_nil])<;>omega) (by(try simp only[List.length_append,List.length_cons,List.length_nil])<;>omega) w'
       simpa using this
      have r2:∀w',(Op.stringOp .add ⟨List.toArray (114::111::117::116::101::32::X1)⟩ ⟨List.toArray ([47])⟩).run Tryd.prog w'= .ok (.string ⟨List.toArray (114::111::117::116::101::32::(X1++[47]))⟩) w':=fun w'=>by
       have:=aj (114::111::117::116::101::32::X1) ([47]) (by(try simp only[List.length_append,List.length_cons,List.length_nil])<;>omega) (by(try simp only[List.length_append,List.length_cons,List.length_nil])<;>omega) w'
       simpa using this
      have r3:∀w',(Op.stringOp .add ⟨List.toArray (114::111::117::116::101::32::(X1++[47]))⟩ ⟨List.toArray (X2)⟩).run Tryd.prog w'= .ok (.string ⟨List.toArray (114::111::117::116::101::32::(X1++47::X2))⟩) w':=fun w'=>by
       have:=aj (114::111::117::116::101::32::(X1++[47])) (X2) (by(try simp only[List.length_append,List.length_cons,List.length_nil])<;>omega) (by(try simp only[List.length_append,List.length_cons,List.length_nil])<;>omega) w'
       simpa using this
      have r4:∀w',(Op.stringOp .add ⟨List.toArray (114::111::117::116::101::32::(X1++47::X2))⟩ ⟨List.toArray ([32])⟩).run Tryd.prog w'= .ok (.string ⟨List.toArray (114::111::117::116::101::32::(X1++47::(X2++[32])))⟩) w':=fun w'=>by
       have:=aj (114::111::117::116::101::32::(X1++47::X2)) ([32]) (by(try simp only[List.length_append,List.length_cons,List.length_nil])<;>omega) (by(try simp only[List.length_append,List.length_cons,List.length_nil])<;>omega) w'
       simpa using this
      have r5:∀w',(Op.stringOp .add ⟨List.toArray (114::111::117::116::101::32::(X1++47::(X2++[32])))⟩ ⟨List.toArray (X3)⟩).run Tryd.prog w'= .ok (.string ⟨List.toArray (114::111::117::116::101::32::(X1++47::(X2++32::X3)))⟩) w':=fun w'=>by
       have:=aj (114::111::117::116::101::32::(X1++47::(X2++[32]))) (X3) (by(try simp only[List.length_append,List.length_cons,List.length_nil])<;>omega) (by(try simp only[List.length_append,List.length_cons,List.length_nil])<;>omega) w'
       simpa using this
      have r6:∀w',(Op.stringOp .add ⟨List.toArray (114::111::117::116::101::32::(X1++47::(X2++32::X3)))⟩ ⟨List.toArray ([10])⟩).run Tryd.prog w'= .ok (.string ⟨List.toArray (114::111::117::116::101::32::(X1++47::(X2++32::(X3++[10]))))⟩) w':=fun w'=>by
       have:=aj (114::111::117::116::101::32::(X1++47::(X2++32::X3))) ([10]) (by(try simp only[List.length_append,List.length_cons,List.length_nil])<;>omega) (by(try simp only[List.length_append,List.length_cons,List.length_nil])<;>omega) w'
       simpa using this
      have r7:∀w',(Op.stringOp .add ⟨List.toArray (L)⟩ ⟨List.toArray (114::111::117::116::101::32::(X1++47::(X2++32::(X3++[10]))))⟩).run Tryd.prog w'= .ok (.string ⟨List.toArray (L++114::111::117::116::101::32::(X1++47::(X2++32::(X3++[10]))))⟩) w':=fun w'=>by
       have:=aj (L) (114::111::117::116::101::32::(X1++47::(X2++32::(X3++[10])))) (by(try simp only[List.length_append,List.length_cons,List.length_nil])<;>omega) (by(try simp only[List.length_append,List.length_cons,List.length_nil])<;>omega) w'
       simpa using this
      have hwz:=cu.out.size
      have ak:=hide (cu.out.alloc hwz (.cells #[.int .i64 rv,.int .i64 rb,.int .i64 rp] 66))
      obtain⟨y0,y1,y2⟩:=jB (heap_alloc_new wr (.cells #[.int .i64 rv,.int .i64 rb,.int .i64 rp] 66))
      clear cu nV pU l1 l2 l3 iT
      go_wp2_with fail
      generalize wr.alloc (.cells #[.int .i64 rv,.int .i64 rb,.int .i64 rp] 66)=w4 at*
      go_quiet (first | (go_at_call_of 25 (Value.int .i64 rv);exact Calls.quiet_of_same (I1.out _)) | (go_at_call_of 25 (Value.int .i64 rb);exact Calls.quiet_of_same (I2.out _)) | (go_at_call_of 25 (Value.int .i64 rp);exact Calls.quiet_of_same (I3.out _)))
      have bH:=hide (ak.out.trans ((below_drewN w4 nq).mono ak.out.size))
      go_wp2_with fail
      go_roundw
      case rel=>exact⟨n+1,_,by omega,by go_num,rfl,by simpa using HL2,bH⟩
      case measure=>simp[intOf];omega
     case neg=>
      obtain rfl:n=tn:=by omega
      have hall:ts.take n=ts:=List.take_of_length_le (by omega)
      rw[hall]at HL
      have nK:=hide (show L=DT by rw[HL.out,HJ.out,ql.out,List.append_assoc])
      have jP:=hide (jm.out.trans (cu.out.mono jm.out.size))
      clear HL HJ ql cu hall
      go_wp2
      go_ret
      exact⟨by rw[← nK.out];rfl,jP.out⟩
 ·-- a Hr
  have hbs:=vL.out
  have hbn:=HB0.out hk
  have hb3:=jF.out
  have lL:=nN (xs:=bs.map Int.toNat) (fun x hx=>by
   obtain⟨y,hy,rfl⟩:=List.mem_map.1 hx
   have:=hbs y hy;omega)
  rw[List.length_map]at lL
  have qW:=hide (fun w (hb:Below W.heap.size W w)=>vT (bs.map Int.toNat) bA bn bc w (by
    rw[Cc hbs];exact HD.out.bs.below hb hb.size) (fun x hx=>by
    obtain⟨y,hy,rfl⟩:=List.mem_map.1 hx
    have:=hbs y hy;omega) (by have:=HD.out.bs.1;simp only at this;omega) (by have:=HD.out.bs.1;simp only at this;omega))
  have yA:=hide (show HT=WK++32::(nm++32::(X++32::(iG (bs.map Int.toNat)++[10]))) by rw[o7.out,mJ.out,if_neg (by omega),if_neg (by omega),if_pos hk])
  obtain⟨L,hL⟩:∃L,iG (bs.map Int.toNat)=L:=⟨_,rfl⟩
  rw[hL]at lL qW yA
  have HH:=yA
  subst hk
  have s3:∀w',(Op.stringOp .add ⟨List.toArray ([32])⟩ ⟨List.toArray (X)⟩).run Tryd.prog w'= .ok (.string ⟨List.toArray (32::X)⟩) w':=fun w'=>by
   have:=aj ([32]) (X) (by(try simp only[List.length_append,List.length_cons,List.length_nil])<;>omega) (by(try simp only[List.length_append,List.length_cons,List.length_nil])<;>omega) w'
   simpa using this
  have s4:∀w',(Op.stringOp .add ⟨List.toArray (32::X)⟩ ⟨List.toArray ([32])⟩).run Tryd.prog w'= .ok (.string ⟨List.toArray (32::(X++[32]))⟩) w':=fun w'=>by
   have:=aj (32::X) ([32]) (by(try simp only[List.length_append,List.length_cons,List.length_nil])<;>omega) (by(try simp only[List.length_append,List.length_cons,List.length_nil])<;>omega) w'
   simpa using this
  have s5:∀w',(Op.stringOp .add ⟨List.toArray (32::(X++[32]))⟩ ⟨List.toArray (L)⟩).run Tryd.prog w'= .ok (.string ⟨List.toArray (32::(X++32::L))⟩) w':=fun w'=>by
   have:=aj (32::(X++[32])) (L) (by(try simp only[List.length_append,List.length_cons,List.length_nil])<;>omega) (by(try simp only[List.length_append,List.length_cons,List.length_nil])<;>omega) w'
   simpa using this
  have s6:∀w',(Op.stringOp .add ⟨List.toArray (WK++32::nm)⟩ ⟨List.toArray (32::(X++32::L))⟩).run Tryd.prog w'= .ok (.string ⟨List.toArray (WK++32::(nm++32::(X++32::L)))⟩) w':=fun w'=>by
   have:=aj (WK++32::nm) (32::(X++32::L)) (by(try simp only[List.length_append,List.length_cons,List.length_nil])<;>omega) (by(try simp only[List.length_append,List.length_cons,List.length_nil])<;>omega) w'
   simpa using this
  have s7:∀w',(Op.stringOp .add ⟨List.toArray (WK++32::(nm++32::(X++32::L)))⟩ ⟨List.toArray ([10])⟩).run Tryd.prog w'= .ok (.string ⟨List.toArray (WK++32::(nm++32::(X++32::(L++[10]))))⟩) w':=fun w'=>by
   have:=aj (WK++32::(nm++32::(X++32::L))) ([10]) (by(try simp only[List.length_append,List.length_cons,List.length_nil])<;>omega) (by(try simp only[List.length_append,List.length_cons,List.length_nil])<;>omega) w'
   simpa using this
  clear o7 mJ lX lL hL hbs hbn hb3 yA HB0
  go_wp2_with fail
  refine aU (by kernel_rfl) (by kernel_rfl) ?_
  intro T hT gt hg1 hgi
  have HC:=hide (fun t=>fM (((hg1 t).block W.heap.size (cO gY.out)).trans gY.out))
  have k2:∀t,(gt t).cell? ⟨W.heap.size,2,none⟩=some (.int .i64 addr):=fun t=>(HC.out t).2.2.1
  have k4:∀t,(gt t).cell? ⟨W.heap.size,4,none⟩=some (.slice bA bn bc):=fun t=>(HC.out t).2.2.2.2.1
  have aO:=hide hg1
  have eX:=hide hgi
  clear hg1 hgi HC c0 c1 c2 c3 c4 c5 c6
  repeat (go_big_quiet_step ((first | (go_at_call 25;exact bX (zK.out _)) | (go_at_call 52;exact sW aO.out eX.out (qW.out _ (HB2.out.trans ((aO.out _).mono HB2.out.size)))))))
  refine wpQuiet_nil ?_
  intro _ hw'
  obtain⟨t,rfl⟩:=hw'
  have ou:=hide (((aO.out t).block W.heap.size (cO gY.out)).trans gY.out)
  have HB3:=hide (HB2.out.trans ((aO.out t).mono HB2.out.size))
  generalize gt t=w3 at*
  clear aO eX k2 k4 gY HB2 qW zK
  obtain⟨c0,c1,c2,c3,c4,c5,c6⟩:=fM ou.out
  go_wp2_with fail
  rw[← HH.out]
  clear HH
  obtain⟨c0,c1,c2,c3,c4,c5,c6⟩:=fM ou.out
  clear c0 c1 c2 c3 c4
  have hrn:=HD.out.rs.1
  have htn:=HD.out.ts.1
  simp only at hrn htn
  have AL:rn≤8:=by have:=oD.out;omega
  have AO:tn≤8:=by have:=sj.out;omega
  go_wp2_with fail
  go_loopw [3,57] (fun v i wr=>∃(k:Nat) (J:List UInt8),k≤rn∧i= .int .i64 (k:Int)∧v= .string ⟨J.toArray⟩∧Hid (J=HT++(rs.take k).flatMap aZ)∧Hid (Below w3.heap.size w3 wr)) (fun _ i _=>rn - (intOf i).toNat)
  case atStart=>exact⟨0,HT,Nat.zero_le _,rfl,rfl,hide (by simp),hide (Below.refl _ _)⟩
  case round=>
   obtain⟨k,J,hk,rfl,rfl,HJ,aA⟩:=hrel
   have gK:=dY aZ 299 (rs.take k) (fun x _=>kL x)
   have iT:J.length≤3000:=by
    rw[HJ.out,List.length_append]
    have:=oD.out
    rw[List.length_take]at gK
    omega
   have hbW:Below W.heap.size W wr:=HB3.out.trans (aA.out.mono HB3.out.size)
   by_cases hlt:k<rn
   case pos=>
    obtain⟨r,hr⟩:∃r,rs[k]?=some r:=⟨_,List.getElem?_eq_getElem (by omega)⟩
    have hrs:=HD.out.rs
    simp only at hrs
    have hmo:r.m.ok:=hrs.wI hr
    obtain⟨bb,oo,rfl,hbb,hgg⟩:=hrs.2.2 (by omega)
    obtain⟨q0,q1,q2,q3,q4⟩:=(hgg k r hr).below hbW hbb
    clear hgg hbW hrs
    obtain⟨pm,m⟩:=r
    simp only at hmo q0 q1 q2 q3 q4
    cases pm
    ·have HM:=hide (fun w=>dJ m hmo w)
     have lM:=eB m
     have bg:=hide (show aZ ⟨false,m⟩=[100,101,110,121,32]++(dG m++[10])from rfl)
     have dK:=hide (dL aZ hr)
     obtain⟨M,hM⟩:∃M,dG m=M:=⟨_,rfl⟩
     rw[hM]at HM lM bg
     have HJ2:=hide (show J++([100,101,110,121,32]++(M++[10]))=HT++(rs.take (k+1)).flatMap aZ by rw[dK.out,HJ.out,bg.out,List.append_assoc])
     obtain⟨a,b',c,d⟩:=m
     simp only at HM
     clear hM dK bg HJ hr hmo gK
     have a1:∀w',(Op.stringOp .add ⟨List.toArray (J)⟩ ⟨List.toArray ([100,101,110,121,32])⟩).run Tryd.prog w'= .ok (.string ⟨List.toArray (J++[100,101,110,121,32])⟩) w':=fun w'=>by
      have:=aj (J) ([100,101,110,121,32]) (by(try simp only[List.length_append,List.length_cons,List.length_nil])<;>omega) (by(try simp only[List.length_append,List.length_cons,List.length_nil])<;>omega) w'
      simpa using this
     have a2:∀w',(Op.stringOp .add ⟨List.toArray (M)⟩ ⟨List.toArray ([10])⟩).run Tryd.prog w'= .ok (.string ⟨List.toArray (M++[10])⟩) w':=fun w'=>by
      have:=aj (M) ([10]) (by(try simp only[List.length_append,List.length_cons,List.length_nil])<;>omega) (by(try simp only[List.length_append,List.length_cons,List.length_nil])<;>omega) w'
      simpa using this
     have a3:∀w',(Op.stringOp .add ⟨List.toArray (J++[100,101,110,121,32])⟩ ⟨List.toArray (M++[10])⟩).run Tryd.prog w'= .ok (.string ⟨List.toArray (J++([100,101,110,121,32]++(M++[10])))⟩) w':=fun w'=>by
      have:=aj (J++[100,101,110,121,32]) (M++[10]) (by(try simp only[List.length_append,List.length_cons,List.length_nil])<;>omega) (by(try simp only[List.length_append,List.length_cons,List.length_nil])<;>omega) w'
      simpa using this
     have hwz:=aA.out.size
     have ak:=hide (aA.out.alloc hwz (.cells #[.bool false,.int .u16 (a:Int),.int .u16 (b':Int),.int .u8 (c:Int),.int .u8 (d:Int)] 63))
     obtain⟨y0,y1,y2,y3,y4⟩:=jC (heap_alloc_new wr (.cells #[.bool false,.int .u16 (a:Int),.int .u16 (b':Int),.int .u8 (c:Int),.int .u8 (d:Int)] 63))
     clear aA iT lM
     go_wp2_with fail
     refine(HM.out _).mono ?_
     rintro e w5 ⟨rfl,hb5⟩
     have bH:=hide (ak.out.trans (hb5.mono ak.out.size))
     clear hb5 ak y0 y1 y2 y3 y4 q0 q1 q2 q3 q4
     go_wp2_with fail
     go_roundw
     case rel=>exact⟨k+1,_,by omega,by go_num,rfl,by simpa using HJ2,bH⟩
     case measure=>simp[intOf];omega
    ·have HM:=hide (fun w=>dJ m hmo w)
     have lM:=eB m
     have bg:=hide (show aZ ⟨true,m⟩=[112,101,114,109,105,116,32]++(dG m++[10])from rfl)
     have dK:=hide (dL aZ hr)
     obtain⟨M,hM⟩:∃M,dG m=M:=⟨_,rfl⟩
     rw[hM]at HM lM bg
     have HJ2:=hide (show J++([112,101,114,109,105,116,32]++(M++[10]))=HT++(rs.take (k+1)).flatMap aZ by rw[dK.out,HJ.out,bg.out,List.append_assoc])
     obtain⟨a,b',c,d⟩:=m
     simp only at HM
     clear hM dK bg HJ hr hmo gK
     have a1:∀w',(Op.stringOp .add ⟨List.toArray (J)⟩ ⟨List.toArray ([112,101,114,109,105,116,32])⟩).run Tryd.prog w'= .ok (.string ⟨List.toArray (J++[112,101,114,109,105,116,32])⟩) w':=fun w'=>by
      have:=aj (J) ([112,101,114,109,105,116,32]) (by(try simp only[List.length_append,List.length_cons,List.length_nil])<;>omega) (by(try simp only[List.length_append,List.length_cons,List.length_nil])<;>omega) w'
      simpa using this
     have a2:∀w',(Op.stringOp .add ⟨List.toArray (M)⟩ ⟨List.toArray ([10])⟩).run Tryd.prog w'= .ok (.string ⟨List.toArray (M++[10])⟩) w':=fun w'=>by
      have:=aj (M) ([10]) (by(try simp only[List.length_append,List.length_cons,List.length_nil])<;>omega) (by(try simp only[List.length_append,List.length_cons,List.length_nil])<;>omega) w'
      simpa using this
     have a3:∀w',(Op.stringOp .add ⟨List.toArray (J++[112,101,114,109,105,116,32])⟩ ⟨List.toArray (M++[10])⟩).run Tryd.prog w'= .ok (.string ⟨List.toArray (J++([112,101,114,109,105,116,32]++(M++[10])))⟩) w':=fun w'=>by
      have:=aj (J++[112,101,114,109,105,116,32]) (M++[10]) (by(try simp only[List.length_append,List.length_cons,List.length_nil])<;>omega) (by(try simp only[List.length_append,List.length_cons,List.length_nil])<;>omega) w'
      simpa using this
     have hwz:=aA.out.size
     have ak:=hide (aA.out.alloc hwz (.cells #[.bool true,.int .u16 (a:Int),.int .u16 (b':Int),.int .u8 (c:Int),.int .u8 (d:Int)] 63))
     obtain⟨y0,y1,y2,y3,y4⟩:=jC (heap_alloc_new wr (.cells #[.bool true,.int .u16 (a:Int),.int .u16 (b':Int),.int .u8 (c:Int),.int .u8 (d:Int)] 63))
     clear aA iT lM
     go_wp2_with fail
     refine(HM.out _).mono ?_
     rintro e w5 ⟨rfl,hb5⟩
     have bH:=hide (ak.out.trans (hb5.mono ak.out.size))
     clear hb5 ak y0 y1 y2 y3 y4 q0 q1 q2 q3 q4
     go_wp2_with fail
     go_roundw
     case rel=>exact⟨k+1,_,by omega,by go_num,rfl,by simpa using HJ2,bH⟩
     case measure=>simp[intOf];omega
   case neg=>
    obtain rfl:k=rn:=by omega
    have hall:rs.take k=rs:=List.take_of_length_le (by omega)
    rw[hall]at HJ
    have qU:=hide ((aA.out.block W.heap.size (cO ou.out)).trans ou.out)
    have jm:=hide hbW
    obtain⟨c0,c1,c2,c3,c4,c5,c6⟩:=fM qU.out
    have pU:J.length≤3000:=iT
    clear gK hbW aA hall c0 c1 c2 c3 c4 c5
    obtain⟨w7,hw7⟩:∃w,w=wr:=⟨_,rfl⟩
    subst hw7
    go_wp2_with fail
    go_loopw [3,77] (fun v i wf=>∃(n:Nat) (L:List UInt8),n≤tn∧i= .int .i64 (n:Int)∧v= .string ⟨L.toArray⟩∧Hid (L=J++(ts.take n).flatMap bO)∧Hid (Below w7.heap.size w7 wf)) (fun _ i _=>tn - (intOf i).toNat)
    case atStart=>exact⟨0,J,Nat.zero_le _,rfl,rfl,hide (by simp),hide (Below.refl _ _)⟩
    case round=>
     obtain⟨n,L,hn,rfl,rfl,HL,cu⟩:=hrel
     have nV:L.length≤4000:=by
      have qB:=dY bO 15 (ts.take n) (fun x hx=>by
       have:=sw.out x (List.mem_of_mem_take hx)
       exact jX this.1.2 this.2.1.2 this.2.2.2)
      rw[HL.out,List.length_append]
      have:=sj.out
      rw[List.length_take]at qB
      omega
     by_cases hlt2:n<tn
     case pos=>
      obtain⟨r,hr⟩:∃r,ts[n]?=some r:=⟨_,List.getElem?_eq_getElem (by omega)⟩
      have hts:=HD.out.ts
      simp only at hts
      have hrr:=sw.out r (List.mem_of_getElem? hr)
      obtain⟨bb,oo,rfl,hbb,hgg⟩:=hts.2 (by omega)
      have gT:Below W.heap.size W wr:=jm.out.trans (cu.out.mono jm.out.size)
      have q0:wr.cell? ⟨bb,oo+n*3,none⟩=some (.int .i64 r.v):=(gT.cell (p:=⟨bb,oo+n*3,none⟩) hbb).trans (hgg n r hr 0 _ rfl)
      have q1:wr.cell? ⟨bb,oo+n*3+1,none⟩=some (.int .i64 r.b):=(gT.cell (p:=⟨bb,oo+n*3+1,none⟩) hbb).trans (hgg n r hr 1 _ rfl)
      have q2:wr.cell? ⟨bb,oo+n*3+2,none⟩=some (.int .i64 r.p):=(gT.cell (p:=⟨bb,oo+n*3+2,none⟩) hbb).trans (hgg n r hr 2 _ rfl)
      clear hgg gT hts
      have bg:=hide (show bO r=[114,111,117,116,101,32]++(Lib.decDigits r.v.toNat++47::(Lib.decDigits r.b.toNat++32::(Lib.decDigits r.p.toNat++[10])))from rfl)
      have dK:=hide (dL bO hr)
      obtain⟨rv,rb,rp⟩:=r
      simp only at q0 q1 q2 hrr bg
      have I1:=hide (fun w=>show Calls Tryd.prog 25 #[.int .i64 rv] w (fun e w'=>e= .returned (.string ⟨(Lib.decDigits (rv).toNat).toArray⟩)∧w'=w)from by
       have h:=Tryd.strconv_Itoa_small (rv).toNat (by have:=hrr.1;omega) w
       rw[show(((rv).toNat :Nat):Int)=rv by have:=hrr.1;omega]at h
       exact h)
      have I2:=hide (fun w=>show Calls Tryd.prog 25 #[.int .i64 rb] w (fun e w'=>e= .returned (.string ⟨(Lib.decDigits (rb).toNat).toArray⟩)∧w'=w)from by
       have h:=Tryd.strconv_Itoa_small (rb).toNat (by have:=hrr.2.1;omega) w
       rw[show(((rb).toNat :Nat):Int)=rb by have:=hrr.2.1;omega]at h
       exact h)
      have I3:=hide (fun w=>show Calls Tryd.prog 25 #[.int .i64 rp] w (fun e w'=>e= .returned (.string ⟨(Lib.decDigits (rp).toNat).toArray⟩)∧w'=w)from by
       have h:=Tryd.strconv_Itoa_small (rp).toNat (by have:=hrr.2.2;omega) w
       rw[show(((rp).toNat :Nat):Int)=rp by have:=hrr.2.2;omega]at h
       exact h)
      have l1:=bf (show rv.toNat<100 by omega)
      have l2:=bf (show rb.toNat<100 by omega)
      have l3:=bf (show rp.toNat<100 by omega)
      generalize Lib.decDigits rv.toNat=X1 at*
      generalize Lib.decDigits rb.toNat=X2 at*
      generalize Lib.decDigits rp.toNat=X3 at*
      have HL2:=hide (show L++([114,111,117,116,101,32]++(X1++47::(X2++32::(X3++[10]))))=J++(ts.take (n+1)).flatMap bO by rw[dK.out,HL.out,bg.out,List.append_assoc])
      clear dK bg HL hr hrr
      have r1:∀w',(Op.stringOp .add ⟨List.toArray ([114,111,117,116,101,32])⟩ ⟨List.toArray (X1)⟩).run Tryd.prog w'= .ok (.string ⟨List.toArray (114::111::117::116::101::32::X1)⟩) w':=fun w'=>by
       have:=aj ([114,111,117,116,101,32]) (X1) (by(try simp only[List.length_append,List.length_cons,List.length_nil])<;>omega) (by(try simp only[List.length_append,List.length_cons,List.length_nil])<;>omega) w'
       simpa using this
      have r2:∀w',(Op.stringOp .add ⟨List.toArray (114::111::117::116::101::32::X1)⟩ ⟨List.toArray ([47])⟩).run Tryd.prog w'= .ok (.string ⟨List.toArray (114::111::117::116::101::32::(X1++[47]))⟩) w':=fun w'=>by
       have:=aj (114::111::117::116::101::32::X1) ([47]) (by(try simp only[List.length_append,List.length_cons,List.length_nil])<;>omega) (by(try simp only[List.length_append,List.length_cons,List.length_nil])<;>omega) w'
       simpa using this
      have r3:∀w',(Op.stringOp .add ⟨List.toArray (114::111::117::116::101::32::(X1++[47]))⟩ ⟨List.toArray (X2)⟩).run Tryd.prog w'= .ok (.string ⟨List.toArray (114::111::117::116::101::32::(X1++47::X2))⟩) w':=fun w'=>by
       have:=aj (114::111::117::116::101::32::(X1++[47])) (X2) (by(try simp only[List.length_append,List.length_cons,List.length_nil])<;>omega) (by(try simp only[List.length_append,List.length_cons,List.length_nil])<;>omega) w'
       simpa using this
      have r4:∀w',(Op.stringOp .add ⟨List.toArray (114::111::117::116::101::32::(X1++47::X2))⟩ ⟨List.toArray ([32])⟩).run Tryd.prog w'= .ok (.string ⟨List.toArray (114::111::117::116::101::32::(X1++47::(X2++[32])))⟩) w':=fun w'=>by
       have:=aj (114::111::117::116::101::32::(X1++47::X2)) ([32]) (by(try simp only[List.length_append,List.length_cons,List.length_nil])<;>omega) (by(try simp only[List.length_append,List.length_cons,List.length_nil])<;>omega) w'
       simpa using this
      have r5:∀w',(Op.stringOp .add ⟨List.toArray (114::111::117::116::101::32::(X1++47::(X2++[32])))⟩ ⟨List.toArray (X3)⟩).run Tryd.prog w'= .ok (.string ⟨List.toArray (114::111::117::116::101::32::(X1++47::(X2++32::X3)))⟩) w':=fun w'=>by
       have:=aj (114::111::117::116::101::32::(X1++47::(X2++[32]))) (X3) (by(try simp only[List.length_append,List.length_cons,List.length_nil])<;>omega) (by(try simp only[List.length_append,List.length_cons,List.length_nil])<;>omega) w'
       simpa using this
      have r6:∀w',(Op.stringOp .add ⟨List.toArray (114::111::117::116::101::32::(X1++47::(X2++32::X3)))⟩ ⟨List.toArray ([10])⟩).run Tryd.prog w'= .ok (.string ⟨List.toArray (114::111::117::116::101::32::(X1++47::(X2++32::(X3++[10]))))⟩) w':=fun w'=>by
       have:=aj (114::111::117::116::101::32::(X1++47::(X2++32::X3))) ([10]) (by(try simp only[List.length_append,List.length_cons,List.length_nil])<;>omega) (by(try simp only[List.length_append,List.length_cons,List.length_nil])<;>omega) w'
       simpa using this
      have r7:∀w',(Op.stringOp .add ⟨List.toArray (L)⟩ ⟨List.toArray (114::111::117::116::101::32::(X1++47::(X2++32::(X3++[10]))))⟩).run Tryd.prog w'= .ok (.string ⟨List.toArray (L++114::111::117::116::101::32::(X1++47::(X2++32::(X3++[10]))))⟩) w':=fun w'=>by
       have:=aj (L) (114::111::117::116::101::32::(X1++47::(X2++32::(X3++[10])))) (by(try simp only[List.length_append,List.length_cons,List.length_nil])<;>omega) (by(try simp only[List.length_append,List.length_cons,List.length_nil])<;>omega) w'
       simpa using this
      have hwz:=cu.out.size
      have ak:=hide (cu.out.alloc hwz (.cells #[.int .i64 rv,.int .i64 rb,.int .i64 rp] 66))
      obtain⟨y0,y1,y2⟩:=jB (heap_alloc_new wr (.cells #[.int .i64 rv,.int .i64 rb,.int .i64 rp] 66))
      clear cu nV pU l1 l2 l3 iT
      go_wp2_with fail
      generalize wr.alloc (.cells #[.int .i64 rv,.int .i64 rb,.int .i64 rp] 66)=w4 at*
      go_quiet (first | (go_at_call_of 25 (Value.int .i64 rv);exact Calls.quiet_of_same (I1.out _)) | (go_at_call_of 25 (Value.int .i64 rb);exact Calls.quiet_of_same (I2.out _)) | (go_at_call_of 25 (Value.int .i64 rp);exact Calls.quiet_of_same (I3.out _)))
      have bH:=hide (ak.out.trans ((below_drewN w4 nq).mono ak.out.size))
      go_wp2_with fail
      go_roundw
      case rel=>exact⟨n+1,_,by omega,by go_num,rfl,by simpa using HL2,bH⟩
      case measure=>simp[intOf];omega
     case neg=>
      obtain rfl:n=tn:=by omega
      have hall:ts.take n=ts:=List.take_of_length_le (by omega)
      rw[hall]at HL
      have nK:=hide (show L=DT by rw[HL.out,HJ.out,ql.out,List.append_assoc])
      have jP:=hide (jm.out.trans (cu.out.mono jm.out.size))
      clear HL HJ ql cu hall
      go_wp2
      go_ret
      exact⟨by rw[← nK.out];rfl,jP.out⟩
end Go.Proofs.YtifkacnoiocebaaDoor
