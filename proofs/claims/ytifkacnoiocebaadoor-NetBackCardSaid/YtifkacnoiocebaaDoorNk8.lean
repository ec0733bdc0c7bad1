/- A part of the proof: Mt6, Nt1. -/
import Derived.Test.YtifkacnoiocebaaDoorNk7
set_option linter.unusedVariables false
set_option linter.unusedSimpArgs false
set_option maxRecDepth 100000
set_option maxHeartbeats 8000000
namespace Go.Proofs.YtifkacnoiocebaaDoor
open Go.RowKit
theorem BX (y:Nat) (h:y<256):IntKind.u8.wrap (y:Int)=(y:Int):=by
 simp[IntKind.wrap,IntKind.signed,IntKind.bits];omega
theorem Dc (x y z u g cap:Nat) (W:World) (hy:y<256) (hu:u<256) (hg:g<W.heap.size)
  (c0:W.cell? ⟨g,0,none⟩=some (.int .u16 (x:Int))) (c1:W.cell? ⟨g,1,none⟩=some (.int .u16 (y:Int))) (c2:W.cell? ⟨g,2,none⟩=some (.int .u16 (z:Int))) (c3:W.cell? ⟨g,3,none⟩=some (.int .u16 (u:Int))):
  Calls Tryd.prog 85 #[.slice (some ⟨g,0,none⟩) 4 cap] W fun e W'=>e= .returned (.agg #[.int .u16 (x:Int),.int .u16 (z:Int),.int .u8 (y:Int),.int .u8 (u:Int)])∧Below W.heap.size W W':=by
 have hb0:=(Below.refl W.heap.size W).alloc (Nat.le_refl _) (.cells #[.int .u16 0,.int .u16 0,.int .u8 0,.int .u8 0] 61)
 have hx:=heap_alloc_new W (.cells #[.int .u16 0,.int .u16 0,.int .u8 0,.int .u8 0] 61)
 obtain⟨z0,z1,z2,z3,z4,z5,z6,z7⟩:=kM hx
 have d0:=(hb0.cell (p:=⟨g,0,none⟩) hg).trans c0
 have d1:=(hb0.cell (p:=⟨g,1,none⟩) hg).trans c1
 have d2:=(hb0.cell (p:=⟨g,2,none⟩) hg).trans c2
 have d3:=(hb0.cell (p:=⟨g,3,none⟩) hg).trans c3
 have w1:=BX y hy
 have w2:=BX u hu
 have HB:=hide hb0
 clear c0 c1 c2 c3 hx hb0
 go_enter Tryd.func85,Tryd.ntmps85
 go_wp2_with fail
 generalize W.alloc (.cells #[.int .u16 0,.int .u16 0,.int .u8 0,.int .u8 0] 61)=w1 at*
 go_region
 go_wp2
 refine bodyPost_ret (v:=.agg #[.int .u16 (x:Int),.int .u16 (z:Int),.int .u8 (y:Int),.int .u8 (u:Int)]) (by simp[results,Tryd.f85,go_sem,z0,z1,z2,z3]) rfl ⟨rfl,?_⟩
 exact((((HB.out.drew).setCell (Nat.le_refl _) _).setCell (Nat.le_refl _) _).setCell (Nat.le_refl _) _).setCell (Nat.le_refl _) _
theorem Tryd.infoUint16:(Tryd.prog.info? 59).map (fun i=>(i.zero,i.size,i.bytes))=some (some (.int .u16 0),1,2):=by kernel_rfl
theorem yj {k:Nat} {x:nW} (h:(lG 0 0 0 0)[k]?=some x) (l:List UInt8) (W:World) (hs:l.length≤1048576) (hm:dF W):
  Calls Tryd.prog 84 #[.string ⟨l.toArray⟩,.int .i64 (x.bits:Int)] W fun e W'=>e= .returned (mR (dD l (2 ^ x.bits)))∧Below W.heap.size W W':=by
 match k,h with
 |0,h=>cases h;exact rZ l W hs hm
 |1,h=>cases h;exact uy l W hs hm
 |2,h=>cases h;exact rZ l W hs hm
 |3,h=>cases h;exact uy l W hs hm
 |k+4,h=>simp[lG]at h
def v16 (x:Nat):Value:=.int .u16 (x:Int)
structure yt (ps:List (List UInt8)) (k:Nat) (vals:List Nat):Prop where
 len:vals.length=k
 all:∀(j x:Nat),vals[j]?=some x→∃(r:List UInt8) (p:nW),ps[j]?=some r∧(lG 0 0 0 0)[j]?=some p∧dD r (2 ^ p.bits)=some x
theorem yt.snoc {ps:List (List UInt8)} {k x:Nat} {vals:List Nat} {r:List UInt8} {p:nW} (h:yt ps k vals) (hr:ps[k]?=some r) (hp:(lG 0 0 0 0)[k]?=some p) (hx:dD r (2 ^ p.bits)=some x):yt ps (k+1) (vals++[x]):=by
 refine⟨by simp[h.len],fun j y hy=>?_⟩
 rw[List.getElem?_append]at hy
 split at hy
 ·exact h.all j y hy
 ·rename_i hj
  have:j=k:=by
   rw[h.len]at hj hy
   have:=(List.getElem?_eq_some_iff.1 hy).1
   simp at this;omega
  subst this
  rw[h.len]at hy
  simp at hy
  subst hy
  exact⟨r,p,hr,hp,hx⟩
theorem yt.done {l:List UInt8} {vals:List Nat} (h:yt (pieces 32 l) 4 vals) (h4:(pieces 32 l).length =4) (hl:¬ 300<l.length):∃x y z u,vals=[x,y,z,u]∧bF l=(⟨x,z,y,u⟩,0)∧y<256∧u<256:=by
 obtain⟨hlen,hall⟩:=h
 match vals,hlen with
 |[x,y,z,u],_=>
  obtain⟨a,pa,ha,hpa,h0⟩:=hall 0 x rfl
  obtain⟨b,pb,hb,hpb,h1⟩:=hall 1 y rfl
  obtain⟨c,pc,hc,hpc,h2⟩:=hall 2 z rfl
  obtain⟨d,pd,hd,Iu,h3⟩:=hall 3 u rfl
  cases hpa;cases hpb;cases hpc;cases Iu
  match hq:pieces 32 l,h4 with
  |[a',b',c',d'],_=>
   rw[hq]at ha hb hc hd
   cases ha;cases hb;cases hc;cases hd
   have e0:dD a 16=some x:=h0
   have e1:dD b 8=some y:=h1
   have e2:dD c 16=some z:=h2
   have e3:dD d 8=some u:=h3
   exact⟨x,y,z,u,rfl,by simp[bF,hl,hq,e0,e1,e2,e3],lU (by omega) e1,lU (by omega) e3⟩
theorem zf {l r:List UInt8} {p:nW} {k:Nat} (h4:(pieces 32 l).length =4) (hl:¬ 300<l.length) (hr:(pieces 32 l)[k]?=some r) (hp:(lG 0 0 0 0)[k]?=some p) (hn:dD r (2 ^ p.bits)=none):bF l=(⟨0,0,0,0⟩,3):=by
 match hq:pieces 32 l,h4 with
 |[a,b,c,d],_=>
  rw[hq]at hr
  match k,hr,hp with
  |0,hr,hp=>cases hr;cases hp;have e:dD r 16=none:=hn;simp[bF,hl,hq,e]
  |1,hr,hp=>cases hr;cases hp;have e:dD r 8=none:=hn;simp[bF,hl,hq,e]
  |2,hr,hp=>cases hr;cases hp;have e:dD r 16=none:=hn;simp[bF,hl,hq,e]
  |3,hr,hp=>cases hr;cases hp;have e:dD r 8=none:=hn;simp[bF,hl,hq,e]
  |k+4,hr,hp=>simp[lG]at hp
theorem zh {l:List UInt8} (h:300<l.length):bF l=(⟨0,0,0,0⟩,2):=by rw[bF,if_pos h]
theorem Az {l:List UInt8} (h:¬ 300<l.length) (h4:(pieces 32 l).length ≠4):bF l=(⟨0,0,0,0⟩,3):=by
 rw[bF,if_neg h]
 split
 ·rename_i e;rw[e]at h4;exact absurd rfl h4
 ·rfl
def jA (l:List UInt8):Value:=.tuple #[.agg #[.int .u16 ((bF l).1.src :Int),.int .u16 ((bF l).1.dst :Int),.int .u8 ((bF l).1.eT :Int),.int .u8 ((bF l).1.eU :Int)],.int .i64 (bF l).2]
theorem tK (l:List UInt8) (W:World) (hsz:l.length≤9223372036854775807) (hm:dF W):
  Calls Tryd.prog 58 #[.string ⟨l.toArray⟩] W fun e W'=>e= .returned (jA l)∧Below W.heap.size W W':=by
 obtain⟨i0,hi0,hz0,hz1,hz2⟩:=info_parts Tryd.infoUint16
 have hb0:=(Below.refl W.heap.size W).alloc (Nat.le_refl _) (.cells #[.int .u16 0,.int .u16 0,.int .u8 0,.int .u8 0] 61)
 have hx:=heap_alloc_new W (.cells #[.int .u16 0,.int .u16 0,.int .u8 0,.int .u8 0] 61)
 by_cases hl:300<l.length
 ·have yu:=hide (show jA l= .tuple #[.agg #[.int .u16 0,.int .u16 0,.int .u8 0,.int .u8 0],.int .i64 2]from by rw[jA,zh hl];rfl)
  obtain⟨n,hn⟩:∃n,l.length=n:=⟨_,rfl⟩
  have hsize:(⟨l.toArray⟩:ByteArray).size =n:=by rw[← hn];exact List.size_toArray
  rw[hn]at hl hsz
  have r9:=hide hb0
  obtain⟨z0,z1,z2,z3,z4,z5,z6,z7⟩:=kM hx
  clear hn hx hb0
  generalize (⟨l.toArray⟩:ByteArray)=s at*
  go_enter Tryd.func58,Tryd.ntmps58
  go_wp2
  refine bodyPost_ret (v:=.tuple #[.agg #[.int .u16 0,.int .u16 0,.int .u8 0,.int .u8 0],.int .i64 2]) (by simp[results,Tryd.f58,go_sem,z0,z1,z2,z3]) rfl ⟨by rw[yu.out],?_⟩
  first
   |exact r9.out
   |exact(((r9.out.setCell (Nat.le_refl _) _).setCell (Nat.le_refl _) _).setCell (Nat.le_refl _) _).setCell (Nat.le_refl _) _
 have HM:=hide (hm.below hb0)
 have hs:l.length≤1048576:=by omega
 have iO:=hide (fun w (h:dF w)=>kX l 32 w hs h)
 have nD:=hide (fun w=>show Calls Tryd.prog 77 #[.agg #[.int .u16 0,.int .u16 0,.int .u8 0,.int .u8 0]] w (fun e W'=>e= .returned (.slice (some ⟨w.heap.size+1,0,none⟩) 4 4)∧∃o0,W'=(w.alloc o0).alloc (.cells (jV 0 0 0 0) 124))from tQ w 0 0 0 0 (by omega) (by omega) (by omega) (by omega))
 have hle:decide (300<l.length)=false:=decide_eq_false hl
 have uO:(⟨l.toArray⟩:ByteArray).size =l.length:=List.size_toArray
 obtain⟨nl,hnl⟩:∃nl,l.length=nl:=⟨_,rfl⟩
 obtain⟨s,hss⟩:∃s:ByteArray,⟨l.toArray⟩=s:=⟨_,rfl⟩
 have DR:=hide (fun h4 vals (h:yt (pieces 32 l) 4 vals)=>h.done h4 hl)
 have bP:=hide (fun h4 k r p hr hp hn=>zf (l:=l) (k:=k) (r:=r) (p:=p) h4 hl hr hp hn)
 have qJ:=hide (fun h4=>Az (l:=l) hl h4)
 have hpe:=j3 32 l
 obtain⟨ps,hps⟩:∃ps,pieces 32 l=ps:=⟨_,rfl⟩
 obtain⟨n,hn⟩:∃n,ps.length=n:=⟨_,rfl⟩
 have hpl:=gJ 32 l
 simp only[hss]at uO iO ⊢
 rw[hps]at iO DR bP qJ hpe hpl
 rw[hn]at iO DR bP qJ hpl
 rw[hnl]at uO hle hl hs hpl hpe
 have Iw:=hide hpe
 clear hpe hsz hm
 have hn63:n≤1048577:=by omega
 go_enter Tryd.func58,Tryd.ntmps58
 go_wp2_with fail
 generalize W.alloc (.cells #[.int .u16 0,.int .u16 0,.int .u8 0,.int .u8 0] 61)=w1 at*
 refine(iO.out _ HM.out).mono ?_
 rintro e w2 ⟨rfl,hst,hb2⟩
 have nS:=hide (HM.out.below hb2)
 have hx2:=(hb2.block W.heap.size (cO hx)).trans hx
 have HB2:=hide (hb0.trans (hb2.mono hb0.size))
 have hw1:W.heap.size<w1.heap.size:=cO hx
 have HST:=hide hst
 clear hx hb0 hst hb2 iO HM
 generalize w1.heap.size=g at*
 by_cases h4:n=4
 case neg=>
  have yu:=hide (show jA l= .tuple #[.agg #[.int .u16 0,.int .u16 0,.int .u8 0,.int .u8 0],.int .i64 3]from by rw[jA,qJ.out h4];rfl)
  have d1:((n:Int)==4)=false:=by simp;omega
  have d2:((n:Int) != 4)=true:=by simp;omega
  have r9:=HB2
  obtain⟨z0,z1,z2,z3,z4,z5,z6,z7⟩:=kM hx2
  clear hx2 DR bP qJ HST
  go_wp2
  refine bodyPost_ret (v:=.tuple #[.agg #[.int .u16 0,.int .u16 0,.int .u8 0,.int .u8 0],.int .i64 3]) (by simp[results,Tryd.f58,go_sem,z0,z1,z2,z3]) rfl ⟨by rw[yu.out],?_⟩
  first
   |exact r9.out
   |exact(((r9.out.setCell (Nat.le_refl _) _).setCell (Nat.le_refl _) _).setCell (Nat.le_refl _) _).setCell (Nat.le_refl _) _
 case pos=>
 subst h4
 have gY:=hide hx2
 clear hx2 qJ
 go_wp2_with fail
 refine(nD.out w2).mono ?_
 rintro e w3 ⟨rfl,o0,hw3⟩
 have hpb:w3.heap[w2.heap.size+1]?=some (.cells (jV 0 0 0 0) 124):=by
  rw[hw3]
  have:=heap_alloc_new (w2.alloc o0) (.cells (jV 0 0 0 0) 124)
  rwa [show(w2.alloc o0).heap.size =w2.heap.size+1 by simp]at this
 have yw:Below w2.heap.size w2 w3:=by
  rw[hw3];exact((Below.refl _ _).alloc (Nat.le_refl _) o0).alloc (by simp) _
 have Hg:w3.heap.size=w2.heap.size+2:=by rw[hw3];simp
 have zn:=hide hpb
 have Fx:=hide (HST.out.below yw)
 have DK:=hide (nS.out.below yw)
 have ou:=hide ((yw.block W.heap.size (cO gY.out)).trans gY.out)
 have HB3:=hide (HB2.out.trans (yw.mono HB2.out.size))
 have Dn:=hide (Fx.out.lt.2)
 clear hpb hw3 nD HB2 HST nS gY yw
 generalize hN:w2.heap.size+1=Np at*
 have Iy:=hide (show Np<w3.heap.size by omega)
 clear Hg hN
 go_wp2_with fail
 go_loopw [5,23] (fun v i wr=>∃(k:Nat) (vals:List Nat),k≤4∧i= .int .i64 (k:Int)∧Hid (yt ps k vals)∧Hid (wr.ownsRow w3.heap.size 59 1 v k (vals.map v16))∧Hid (Below w3.heap.size w3 wr)) (fun _ i _=>4 - (intOf i).toNat)
 case atStart=>exact⟨0,[],by omega,rfl,hide ⟨rfl,by simp⟩,hide (World.ownsRow_nil _ _ _ _),hide (Below.refl _ _)⟩
 case round=>
  obtain⟨k,vals,hk,rfl,BZ,HO,aA⟩:=hrel
  by_cases hlt:k<4
  case pos=>
   obtain⟨x,hx,hxs,hxb,Fq,g0,g1,g2⟩:=wZ 0 0 0 0 k (by omega) (by omega) (by omega) (by omega) hlt
   obtain⟨r,hr⟩:∃r,ps[k]?=some r:=⟨_,List.getElem?_eq_getElem (by omega)⟩
   have hpb:=(aA.out.block Np Iy.out).trans zn.out
   have y0:wr.cell? ⟨Np,k*3,none⟩=some (.int .u16 x.set):=by rw[cell_of_row _ _ _ _ _ _ hpb];exact g0
   have y1:wr.cell? ⟨Np,k*3+1,none⟩=some (.int .i64 x.bits):=by rw[cell_of_row _ _ _ _ _ _ hpb];exact g1
   have y2:wr.cell? ⟨Np,k*3+2,none⟩=some (.int .i64 x.first):=by rw[cell_of_row _ _ _ _ _ _ hpb];exact g2
   have hrl:=Iw.out r (List.mem_of_getElem? hr)
   have nL:=hide (fun w (h:Below w3.heap.size w3 w)=>yj hx r w (by omega) (DK.out.below h))
   have AA:=hide (fun hn=>bP.out trivial k r x hr hx hn)
   have yx:=hide (fun y (hy:dD r (2 ^ x.bits)=some y)=>BZ.out.snoc hr hx hy)
   have c0:=(Fx.out.below aA.out).get hr
   have hvl:=BZ.out.len
   obtain⟨R,hR⟩:∃R,dD r (2 ^ x.bits)=R:=⟨_,rfl⟩
   have oD:=hide (fun y (hy:R=some y)=>show y<65536 from Nat.lt_of_lt_of_le (lU (Nat.two_pow_pos _) (hR.trans hy)) (Nat.pow_le_pow_right (by omega) (show 2 ^ x.bits≤2 ^ 4 from Nat.pow_le_pow_right (by omega) hxb)))
   rw[hR]at nL AA yx
   have uH:(k:Int)<4:=by omega
   clear hx hxs hxb Fq g0 g1 g2 hpb hR hr BZ hrl
   generalize x.set=xs at*
   generalize x.bits=xb at*
   generalize x.first=xf at*
   have hbz:=aA.out.size
   have x9:=hide (HO.out.alloc (.cells #[.int .u16 (xs:Int),.int .i64 (xb:Int),.int .i64 (xf:Int)] 124))
   have ak:=hide (aA.out.alloc hbz (.cells #[.int .u16 (xs:Int),.int .i64 (xb:Int),.int .i64 (xf:Int)] 124))
   obtain⟨u0,u1,u2⟩:=jB (heap_alloc_new wr (.cells #[.int .u16 (xs:Int),.int .i64 (xb:Int),.int .i64 (xf:Int)] 124))
   have hcb:=(((Below.refl wr.heap.size wr).alloc (Nat.le_refl _) (.cells #[.int .u16 (xs:Int),.int .i64 (xb:Int),.int .i64 (xf:Int)] 124)).cell (p:=⟨g,k,none⟩) (Nat.lt_of_lt_of_le Dn.out aA.out.size)).trans c0
   have hub:wr.heap.size<(wr.alloc (.cells #[.int .u16 (xs:Int),.int .i64 (xb:Int),.int .i64 (xf:Int)] 124)).heap.size :=by simp
   have hgb:g<(wr.alloc (.cells #[.int .u16 (xs:Int),.int .i64 (xb:Int),.int .i64 (xf:Int)] 124)).heap.size :=Nat.lt_of_lt_of_le (Nat.lt_of_lt_of_le Dn.out aA.out.size) (by simp)
   clear HO aA
   go_wp2_with fail
   cases R with
   |none=>
    simp only[mR]at nL
    have yu:=hide (show jA l= .tuple #[.agg #[.int .u16 0,.int .u16 0,.int .u8 0,.int .u8 0],.int .i64 3]from by rw[jA,AA.out rfl];rfl)
    refine aU (by kernel_rfl) (by kernel_rfl) ?_
    intro T hT gt hg1 hgi
    have aO:=hide hg1
    have eX:=hide hgi
    clear hg1 hgi
    have k0:∀t,(gt t).cell? ⟨g,k,none⟩=some (.string ⟨r.toArray⟩):=fun t=>((aO.out t).cell (p:=⟨g,k,none⟩) hgb).trans hcb
    have k1:∀t,(gt t).cell? ⟨wr.heap.size,1,none⟩=some (.int .i64 (xb:Int)):=fun t=>((aO.out t).cell (p:=⟨wr.heap.size,1,none⟩) hub).trans u1
    clear u0 u1 u2 hcb
    repeat (go_big_quiet_step ((go_at_call 84;exact sW aO.out eX.out (nL.out _ (ak.out.trans ((aO.out _).mono ak.out.size))))))
    refine wpQuiet_nil ?_
    intro _ hw'
    obtain⟨t,rfl⟩:=hw'
    have iK:=hide (ownsRow_below x9.out (aO.out t))
    have bH:=hide (ak.out.trans ((aO.out t).mono ak.out.size))
    generalize gt t=w5 at*
    clear aO eX k0 k1 x9 ak nL hub hgb
    have r9:=hide (HB3.out.trans (bH.out.mono HB3.out.size))
    obtain⟨z0,z1,z2,z3,z4,z5,z6,z7⟩:=kM ((bH.out.block W.heap.size (cO ou.out)).trans ou.out)
    clear iK bH AA yx oD y0 y1 y2 c0
    go_wp2
    refine bodyPost_ret (v:=.tuple #[.agg #[.int .u16 0,.int .u16 0,.int .u8 0,.int .u8 0],.int .i64 3]) (by simp[results,Tryd.f58,go_sem,z0,z1,z2,z3]) rfl ⟨by rw[yu.out],?_⟩
    first
     |exact r9.out
     |exact(((r9.out.setCell (Nat.le_refl _) _).setCell (Nat.le_refl _) _).setCell (Nat.le_refl _) _).setCell (Nat.le_refl _) _
   |some y=>
    simp only[mR]at nL
    have Iz:=hide (yx.out y rfl)
    have hy:=oD.out y rfl
    refine aU (by kernel_rfl) (by kernel_rfl) ?_
    intro T hT gt hg1 hgi
    have aO:=hide hg1
    have eX:=hide hgi
    clear hg1 hgi
    have k0:∀t,(gt t).cell? ⟨g,k,none⟩=some (.string ⟨r.toArray⟩):=fun t=>((aO.out t).cell (p:=⟨g,k,none⟩) hgb).trans hcb
    have k1:∀t,(gt t).cell? ⟨wr.heap.size,1,none⟩=some (.int .i64 (xb:Int)):=fun t=>((aO.out t).cell (p:=⟨wr.heap.size,1,none⟩) hub).trans u1
    clear u0 u1 u2 hcb
    repeat (go_big_quiet_step ((go_at_call 84;exact sW aO.out eX.out (nL.out _ (ak.out.trans ((aO.out _).mono ak.out.size))))))
    refine wpQuiet_nil ?_
    intro _ hw'
    obtain⟨t,rfl⟩:=hw'
    have iK:=hide (ownsRow_below x9.out (aO.out t))
    have bH:=hide (ak.out.trans ((aO.out t).mono ak.out.size))
    generalize gt t=w5 at*
    clear aO eX k0 k1 x9 ak nL hub hgb
    clear yx AA oD y0 y1 y2 c0
    have hwz:w3.heap.size≤w5.heap.size:=bH.out.size
    have fT:=hide (show Reads (w5.alloc (.cells #[.int .u16 (y:Int)] 59)) (w5.heap.size+1) 1 (some ⟨w5.heap.size,0,none⟩) 1 [v16 y]from
     ⟨rfl,fun _=>⟨_,rfl,Nat.lt_succ_self _,fun j u hu=>by
      rw[addr_add,Nat.zero_add,cell_of_row _ _ _ _ _ _ (heap_alloc_new w5 _)]
      simpa[v16]using hu⟩⟩)
    have Gs:=hide (iK.out.alloc (.cells #[.int .u16 (y:Int)] 59))
    have dR:=hide (bH.out.alloc hwz (.cells #[.int .u16 (y:Int)] 59))
    clear iK bH
    go_wp2_with (at_builtin;refine aY _ rfl (.tmp 41) (.tmp 43) 128 rfl w3.heap.size 59 i0 _ 1 2 Tryd.underlying128 hi0 hz0 hz1 hz2 rfl (by omega) _ k (vals.map v16) rfl Gs.out (w5.heap.size+1) (some ⟨w5.heap.size,0,none⟩) 1 1 [v16 y] rfl fT.out (by intro u hu;simp[v16]at hu;subst hu;rfl) (by simp only[maxLen];omega) (by omega) (by simp;omega) ?_;intro v7 w7 DU Gt Hl;have IB:=hide DU;have bM:=hide (dR.out.grown Gt (by simp;omega) (fun q hq=>(Gs.out.lt q hq).1));clear DU Gt Hl)
    go_roundw
    case rel=>exact⟨k+1,vals++[y],by omega,by go_num,Iz,hide (by simpa using IB.out),bM⟩
    case measure=>simp[intOf];omega
  case neg=>
   obtain rfl:k=4:=by omega
   obtain⟨x,y,z,u,rfl,hP,hy,hu⟩:=DR.out trivial vals BZ.out
   obtain⟨gv,cap,hv,hgw⟩:=HO.out.form (by omega)
   subst hv
   have HV:=hide (show jA l= .tuple #[.agg #[.int .u16 (x:Int),.int .u16 (z:Int),.int .u8 (y:Int),.int .u8 (u:Int)],.int .i64 0]from by rw[jA,hP])
   have Gu:=hide (Dc x y z u gv cap wr hy hu (HO.out.lt gv rfl).2 (HO.out.cellAt 0 (by omega)) (HO.out.cellAt 1 (by omega)) (HO.out.cellAt 2 (by omega)) (HO.out.cellAt 3 (by omega)))
   have jP:=hide (HB3.out.trans (aA.out.mono HB3.out.size))
   have Fy:=hide ((aA.out.block W.heap.size (cO ou.out)).trans ou.out)
   clear HO BZ hP hy hu hlt
   go_wp2_with fail
   refine Gu.out.mono ?_
   rintro e w9 ⟨rfl,hb⟩
   have r9:=hide (jP.out.trans (hb.mono jP.out.size))
   obtain⟨z0,z1,z2,z3,z4,z5,z6,z7⟩:=kM ((hb.block W.heap.size (cO Fy.out)).trans Fy.out)
   clear hb Gu jP Fy aA
   go_wp2
   refine bodyPost_ret (v:=.tuple #[.agg #[.int .u16 (x:Int),.int .u16 (z:Int),.int .u8 (y:Int),.int .u8 (u:Int)],.int .i64 0]) (by simp[results,Tryd.f58,go_sem,z0,z1,z2,z3]) rfl ⟨by rw[HV.out],?_⟩
   exact(((r9.out.setCell (Nat.le_refl _) _).setCell (Nat.le_refl _) _).setCell (Nat.le_refl _) _).setCell (Nat.le_refl _) _
def iG (xs:List Nat):List UInt8:=aS [44] (xs.map Lib.decDigits)
def dS (p:Nat):List Nat:=(List.range 8).filter p.testBit
theorem vS (p:Nat):(dS p).length ≤8:=by
 have:=List.length_filter_le p.testBit (List.range 8)
 simpa[dS]using this
theorem nJ (p:Nat):∀x∈dS p,x<8:=by
 intro x hx
 have:=List.mem_filter.1 hx
 exact List.mem_range.1 this.1
theorem nN {xs:List Nat} (h:∀x∈xs,x<100):(iG xs).length ≤3*xs.length:=by
 have:=ni [44] 2 (xs.map Lib.decDigits) (fun y hy=>by
  obtain⟨x,hx,rfl⟩:=List.mem_map.1 hy
  exact bf (h x hx))
 simpa[iG]using this
theorem ints_at {w:World} {B n:Nat} {A:Option Addr} {xs:List Nat} (h:dN w B A n (xs.map fun(k:Nat)=>(k:Int))) (h0:0<n):∃b o,A=some ⟨b,o,none⟩∧b<B∧∀(k x:Nat),xs[k]?=some x→w.cell? ⟨b,o+k,none⟩=some (.int .i64 (x:Int)):=by
 obtain⟨b,o,e,hb,hg⟩:=h.2.2 h0
 exact⟨b,o,e,hb,fun k x hx=>hg k x (by rw[List.getElem?_map,hx];rfl)⟩
theorem vT (xs:List Nat) (A:Option Addr) (n c:Nat) (W:World) (hI:dN W W.heap.size A n (xs.map fun(k:Nat)=>(k:Int))) (hx:∀x∈xs,x<100) (hn:n≤8) (h0:0<n):
  Calls Tryd.prog 52 #[.slice A n c] W fun e W'=>e= .returned (.string ⟨(iG xs).toArray⟩)∧Below W.heap.size W W':=by
 obtain⟨i0,hi0,hz0,hz1,hz2⟩:=info_parts Tryd.infoString
 have hlen:xs.length=n:=by have:=hI.1;simpa using this
 obtain⟨b,o,rfl,hb,hg⟩:=ints_at hI h0
 have HG:=hide hg
 have HX:=hide hx
 have ED:=hide (nN hx)
 clear hI hx hg
 go_enter Tryd.func52,Tryd.ntmps52
 go_wp2_with fail
 go_loopw [3,8] (fun v i wr=>∃k:Nat,k≤n∧i= .int .i64 (k:Int)∧Hid (wr.ownsRow W.heap.size 9 1 v k (((xs.take k).map Lib.decDigits).map gD))∧Hid (Below W.heap.size W wr)) (fun _ i _=>n - (intOf i).toNat)
 case atStart=>exact⟨0,Nat.zero_le _,rfl,hide (World.ownsRow_nil _ _ _ _),hide (Below.refl _ _)⟩
 case round=>
  obtain⟨k,hk,rfl,HO,aA⟩:=hrel
  by_cases hlt:k<n
  case pos=>
   obtain⟨x,hx⟩:∃x,xs[k]?=some x:=⟨_,List.getElem?_eq_getElem (by omega)⟩
   have c0:=(aA.out.cell (p:=⟨b,o+k,none⟩) hb).trans (HG.out k x hx)
   have DW:=HX.out x (List.mem_of_getElem? hx)
   have HIT:=hide (fun w=>(Tryd.strconv_Itoa_small x DW w).mono (fun e w' h=>show e= .returned (.string ⟨(Lib.decDigits x).toArray⟩)∧w=w' from⟨h.1,h.2.symm⟩))
   have HT:=hide (show((xs.take (k+1)).map Lib.decDigits).map gD=((xs.take k).map Lib.decDigits).map gD++[.string ⟨(Lib.decDigits x).toArray⟩] by
    rw[show xs.take (k+1)=xs.take k++[x] by rw[List.take_add_one,hx];rfl]
    simp[gD])
   have hwz:W.heap.size≤wr.heap.size:=aA.out.size
   have htl:(xs.take k).length =k:=by rw[List.length_take];omega
   obtain⟨X,hX⟩:∃X,Lib.decDigits x=X:=⟨_,rfl⟩
   rw[hX]at HT HIT
   clear hX hx DW
   have fT:=hide (show Reads (wr.alloc (.cells #[.string ⟨(X).toArray⟩] 9)) (wr.heap.size+1) 1 (some ⟨wr.heap.size,0,none⟩) 1 [.string ⟨(X).toArray⟩]from
    ⟨rfl,fun _=>⟨_,rfl,Nat.lt_succ_self _,fun j u hu=>by
     rw[addr_add,Nat.zero_add,cell_of_row _ _ _ _ _ _ (heap_alloc_new wr _)]
     simpa using hu⟩⟩)
   have jK:=hide (HO.out.alloc (.cells #[.string ⟨(X).toArray⟩] 9))
   have ak:=hide (aA.out.alloc hwz (.cells #[.string ⟨(X).toArray⟩] 9))
   clear HO aA
   go_wp2_with (first | (go_at_call 25;refine(HIT.out _).mono ?_;rintro e w5 ⟨rfl,rfl⟩) | (at_builtin;refine aY _ rfl (.tmp 12) (.tmp 15) 45 rfl W.heap.size 9 i0 _ 1 16 Tryd.underlying45 hi0 hz0 hz1 hz2 rfl (by omega) _ k (((xs.take k).map Lib.decDigits).map gD) rfl jK.out (wr.heap.size+1) (some ⟨wr.heap.size,0,none⟩) 1 1 [.string ⟨X.toArray⟩] rfl fT.out (by intro u hu;simp at hu;subst hu;rfl) (by simp only[maxLen];omega) (by omega) (by simp;omega) ?_;intro v5 w5 hown5 hg5 gP;have iK:=hide hown5;have bH:=hide (ak.out.grown hg5 (by simp;omega) (fun q hq=>(jK.out.lt q hq).1));clear hown5 hg5 gP))
   go_roundw
   case rel=>exact⟨k+1,by omega,by go_num,hide (by rw[HT.out];exact iK.out),bH⟩
   case measure=>simp[intOf];omega
  case neg=>
   obtain rfl:k=n:=by omega
   have hall:xs.take k=xs:=List.take_of_length_le (by omega)
   rw[hall]at HO
   obtain⟨g,cap,hv,hgw⟩:=HO.out.form h0
   subst hv
   have hcap:k≤cap:=by
    rcases HO.out.2 with⟨h,_⟩ | ⟨g',cap',cur,h,_,_,hnc,_⟩
    ·cases h
    ·cases h;exact hnc
   have HST:=hide (show bR wr W.heap.size g k cap (xs.map Lib.decDigits)from⟨HO.out,by simpa using hlen⟩)
   have HJ:=hide (fun w (h:bR w W.heap.size g k cap (xs.map Lib.decDigits))=>ow (xs.map Lib.decDigits) 44 W.heap.size g k cap w h (by have h:=ED.out;unfold iG at h;omega) (by omega) hcap)
   clear HO hlt hgw hcap hall
   go_wp2_with fail
   refine(HJ.out _ HST.out).mono ?_
   rintro e w9 ⟨rfl,BH⟩
   have jP:=hide (aA.out.trans (BH.mono aA.out.size))
   clear BH
   go_wp2
   go_ret
   exact⟨rfl,jP.out⟩
theorem AB (p k:Nat):(List.range (k+1)).filter p.testBit=(List.range k).filter p.testBit++(if p.testBit k then[k]else[]):=by
 rw[List.range_succ,List.filter_append]
 cases h:p.testBit k<;>simp[h]
theorem Ej (p k:Nat) (h:p<256):(Go.bits .and .u8 ((p:Int) / 2 ^ k) 1==1)=p.testBit k:=AP p k h
theorem Ca (p:Nat) (W:World) (hp:p<256):
  Calls Tryd.prog 53 #[.int .u8 (p:Int)] W fun e W'=>∃A c,e= .returned (.slice A (dS p).length c)∧dN W' W'.heap.size A (dS p).length ((dS p).map fun(k:Nat)=>(k:Int))∧Below W.heap.size W W':=by
 obtain⟨i0,hi0,hz0,hz1,hz2⟩:=info_parts Tryd.infoInt
 have sP:=hide (fun k=>Ej p k hp)
 have yx:=hide (AB p)
 clear hp
 go_enter Tryd.func53,Tryd.ntmps53
 go_wp2_with fail
 go_loopw [3,5] (fun v i wr=>∃(k:Nat) (os:List Nat),k≤8∧i= .int .i64 (k:Int)∧Hid ((List.range k).filter p.testBit=os)∧os.length≤k∧Hid (wr.ownsRow W.heap.size 3 1 v os.length (intCells os))∧Hid (Below W.heap.size W wr)) (fun _ i _=>8 - (intOf i).toNat)
 case atStart=>exact⟨0,[],by omega,rfl,hide rfl,Nat.le_refl _,hide (World.ownsRow_nil _ _ _ _),hide (Below.refl _ _)⟩
 case round=>
  obtain⟨k,os,hk,rfl,HR,hol,HO,aA⟩:=hrel
  have oz:=hide (sP.out k)
  by_cases hlt:k<8
  case pos=>
   have uH:(k:Int)<8:=by omega
   cases hb:p.testBit k with
   |false=>
    have e1:(Go.bits .and .u8 ((p:Int) / 2 ^ k) 1==1)=false:=oz.out.trans hb
    have HR2:=hide (show(List.range (k+1)).filter p.testBit=os by rw[yx.out,HR.out,hb];simp)
    clear oz hb HR
    go_wp2_with fail
    go_roundw
    case rel=>exact⟨k+1,os,by omega,by go_num,HR2,by omega,HO,aA⟩
    case measure=>simp[intOf];omega
   |true=>
    have e1:(Go.bits .and .u8 ((p:Int) / 2 ^ k) 1==1)=true:=oz.out.trans hb
    have HR2:=hide (show(List.range (k+1)).filter p.testBit=os++[k] by rw[yx.out,HR.out,hb];simp)
    have hwz:W.heap.size≤wr.heap.size:=aA.out.size
    have fT:=hide (show Reads (wr.alloc (.cells #[.int .i64 (k:Int)] 3)) (wr.heap.size+1) 1 (some ⟨wr.heap.size,0,none⟩) 1 [.int .i64 (k:Int)]from
     ⟨rfl,fun _=>⟨_,rfl,Nat.lt_succ_self _,fun j u hu=>by
      rw[addr_add,Nat.zero_add,cell_of_row _ _ _ _ _ _ (heap_alloc_new wr _)]
      simpa using hu⟩⟩)
    have jK:=hide (HO.out.alloc (.cells #[.int .i64 (k:Int)] 3))
    have ak:=hide (aA.out.alloc hwz (.cells #[.int .i64 (k:Int)] 3))
    clear oz hb HR HO aA
    go_wp2_with (at_builtin;refine aY _ rfl (.tmp 13) (.tmp 15) 33 rfl W.heap.size 3 i0 _ 1 8 Tryd.underlying33 hi0 hz0 hz1 hz2 rfl (by omega) _ os.length (intCells os) rfl jK.out (wr.heap.size+1) (some ⟨wr.heap.size,0,none⟩) 1 1 [.int .i64 (k:Int)] rfl fT.out (by intro u hu;simp at hu;subst hu;rfl) (by simp only[maxLen];omega) (by omega) (by simp;omega) ?_;intro v5 w5 hown5 hg5 gP;have iK:=hide hown5;have bH:=hide (ak.out.grown hg5 (by simp;omega) (fun q hq=>(jK.out.lt q hq).1));clear hown5 hg5 gP)
    go_roundw
    case rel=>exact⟨k+1,os++[k],by omega,by go_num,HR2,by simp;omega,hide (by simpa[intCells]using iK.out),bH⟩
    case measure=>simp[intOf];omega
  case neg=>
   obtain rfl:k=8:=by omega
   have hos:dS p=os:=HR.out
   have Df:=nJ p
   rw[hos]at Df
   obtain⟨A,c,hv,hc,hI⟩:=y8 HO.out (fun x hx=>by have:=Df x hx;omega)
   subst hv
   have HV:=hide (And.intro hos hI)
   clear HO HR hlt hos hI Df hc
   go_wp2
   go_ret
   exact⟨A,c,by rw[HV.out.1];rfl,by rw[HV.out.1];exact HV.out.2,aA.out⟩
end Go.Proofs.YtifkacnoiocebaaDoor
