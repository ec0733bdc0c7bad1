/- A part of the proof: Mt6, Nt2, Nr1. -/
import Derived.Test.YtifkacnoiocebaaDoorNz4
import Derived.Test.YtifkacnoiocebaaDoorNz6
set_option linter.unusedVariables false
set_option linter.unusedSimpArgs false
set_option maxRecDepth 100000
set_option maxHeartbeats 8000000
namespace Go.Proofs.YtifkacnoiocebaaDoor
open Go.RowKit
theorem tO (y:Nat) (h:y<256):IntKind.u8.wrap (y:Int)=(y:Int):=by
 simp[IntKind.wrap,IntKind.signed,IntKind.bits];omega
theorem Cm (x y z u g cap:Nat) (W:World) (hy:y<256) (hu:u<256) (hg:g<W.heap.size)
  (c0:W.cell? ⟨g,0,none⟩=some (.int .u16 (x:Int))) (c1:W.cell? ⟨g,1,none⟩=some (.int .u16 (y:Int))) (c2:W.cell? ⟨g,2,none⟩=some (.int .u16 (z:Int))) (c3:W.cell? ⟨g,3,none⟩=some (.int .u16 (u:Int))):
  Calls Tryd.prog 85 #[.slice (some ⟨g,0,none⟩) 4 cap] W fun e W'=>e= .returned (.agg #[.int .u16 (x:Int),.int .u16 (z:Int),.int .u8 (y:Int),.int .u8 (u:Int)])∧Below W.heap.size W W':=by
 have hb0:=(Below.refl W.heap.size W).alloc (Nat.le_refl _) (.cells #[.int .u16 0,.int .u16 0,.int .u8 0,.int .u8 0] 61)
 have hx:=heap_alloc_new W (.cells #[.int .u16 0,.int .u16 0,.int .u8 0,.int .u8 0] 61)
 obtain⟨z0,z1,z2,z3,z4,z5,z6,z7⟩:=lX hx
 have d0:=(hb0.cell (p:=⟨g,0,none⟩) hg).trans c0
 have d1:=(hb0.cell (p:=⟨g,1,none⟩) hg).trans c1
 have d2:=(hb0.cell (p:=⟨g,2,none⟩) hg).trans c2
 have d3:=(hb0.cell (p:=⟨g,3,none⟩) hg).trans c3
 have w1:=tO y hy
 have w2:=tO u hu
 have HB:=hide hb0
 clear c0 c1 c2 c3 hx hb0
 go_enter Tryd.func85,Tryd.ntmps85
 go_wp2_with fail
 generalize W.alloc (.cells #[.int .u16 0,.int .u16 0,.int .u8 0,.int .u8 0] 61)=w1 at*
 go_region
 go_wp2
 refine bodyPost_ret (v:=.agg #[.int .u16 (x:Int),.int .u16 (z:Int),.int .u8 (y:Int),.int .u8 (u:Int)]) (by simp[results,Tryd.f85,go_sem,z0,z1,z2,z3]) rfl ⟨rfl,?_⟩
 exact((((HB.out.drew).setCell (Nat.le_refl _) _).setCell (Nat.le_refl _) _).setCell (Nat.le_refl _) _).setCell (Nat.le_refl _) _
theorem Tryd.infoUint16:(Tryd.prog.info? 59).map (fun i=>(i.zero,i.size,i.bytes))=some (some (.int .u16 0),1,2):=by kernel_rfl
theorem yx {k:Nat} {x:rG} (h:(qb 0 0 0 0)[k]?=some x) (l:List UInt8) (W:World) (hs:l.length≤1048576) (hm:eP W):
  Calls Tryd.prog 84 #[.string ⟨l.toArray⟩,.int .i64 (x.bits:Int)] W fun e W'=>e= .returned (nO (cZ l (2 ^ x.bits)))∧Below W.heap.size W W':=by
 match k,h with
 |0,h=>cases h;exact sw l W hs hm
 |1,h=>cases h;exact uy l W hs hm
 |2,h=>cases h;exact sw l W hs hm
 |3,h=>cases h;exact uy l W hs hm
 |k+4,h=>simp[qb]at h
def v16 (x:Nat):Value:=.int .u16 (x:Int)
structure yA (ps:List (List UInt8)) (k:Nat) (vals:List Nat):Prop where
 len:vals.length=k
 all:∀(j x:Nat),vals[j]?=some x→∃(r:List UInt8) (p:rG),ps[j]?=some r∧(qb 0 0 0 0)[j]?=some p∧cZ r (2 ^ p.bits)=some x
theorem yA.snoc {ps:List (List UInt8)} {k x:Nat} {vals:List Nat} {r:List UInt8} {p:rG} (h:yA ps k vals) (hr:ps[k]?=some r) (hp:(qb 0 0 0 0)[k]?=some p) (hx:cZ r (2 ^ p.bits)=some x):yA ps (k+1) (vals++[x]):=by
 refine⟨by simp[h.len],fun j y hy=>?_⟩
 rw[List.getElem?_append]at hy
 split at hy
 ·exact h.all j y hy
 ·rename_i hj
  have:j=k:=by
   rw[h.len]at hj hy
   have:=(List.getElem?_eq_some_iff.1 hy).1
   simp at this;omega
  subst this
  rw[h.len]at hy
  simp at hy
  subst hy
  exact⟨r,p,hr,hp,hx⟩
theorem yA.done {l:List UInt8} {vals:List Nat} (h:yA (pieces 32 l) 4 vals) (h4:(pieces 32 l).length =4) (hl:¬ 300<l.length):∃x y z u,vals=[x,y,z,u]∧aU l=(⟨x,z,y,u⟩,0)∧y<256∧u<256:=by
 obtain⟨hlen,hall⟩:=h
 match vals,hlen with
 |[x,y,z,u],_=>
  obtain⟨a,pa,ha,hpa,h0⟩:=hall 0 x rfl
  obtain⟨b,pb,hb,hpb,h1⟩:=hall 1 y rfl
  obtain⟨c,pc,hc,hpc,h2⟩:=hall 2 z rfl
  obtain⟨d,pd,hd,Gj,h3⟩:=hall 3 u rfl
  cases hpa;cases hpb;cases hpc;cases Gj
  match hq:pieces 32 l,h4 with
  |[a',b',c',d'],_=>
   rw[hq]at ha hb hc hd
   cases ha;cases hb;cases hc;cases hd
   have e0:cZ a 16=some x:=h0
   have e1:cZ b 8=some y:=h1
   have e2:cZ c 16=some z:=h2
   have e3:cZ d 8=some u:=h3
   exact⟨x,y,z,u,rfl,by simp[aU,hl,hq,e0,e1,e2,e3],jL (by omega) e1,jL (by omega) e3⟩
theorem za {l r:List UInt8} {p:rG} {k:Nat} (h4:(pieces 32 l).length =4) (hl:¬ 300<l.length) (hr:(pieces 32 l)[k]?=some r) (hp:(qb 0 0 0 0)[k]?=some p) (hn:cZ r (2 ^ p.bits)=none):aU l=(⟨0,0,0,0⟩,3):=by
 match hq:pieces 32 l,h4 with
 |[a,b,c,d],_=>
  rw[hq]at hr
  match k,hr,hp with
  |0,hr,hp=>cases hr;cases hp;have e:cZ r 16=none:=hn;simp[aU,hl,hq,e]
  |1,hr,hp=>cases hr;cases hp;have e:cZ r 8=none:=hn;simp[aU,hl,hq,e]
  |2,hr,hp=>cases hr;cases hp;have e:cZ r 16=none:=hn;simp[aU,hl,hq,e]
  |3,hr,hp=>cases hr;cases hp;have e:cZ r 8=none:=hn;simp[aU,hl,hq,e]
  |k+4,hr,hp=>simp[qb]at hp
theorem rW {l:List UInt8} (h:300<l.length):aU l=(⟨0,0,0,0⟩,2):=by rw[aU,if_pos h]
theorem tL {l:List UInt8} (h:¬ 300<l.length) (h4:(pieces 32 l).length ≠4):aU l=(⟨0,0,0,0⟩,3):=by
 rw[aU,if_neg h]
 split
 ·rename_i e;rw[e]at h4;exact absurd rfl h4
 ·rfl
def dL (l:List UInt8):Value:=.tuple #[.agg #[.int .u16 ((aU l).1.src :Int),.int .u16 ((aU l).1.dst :Int),.int .u8 ((aU l).1.oG :Int),.int .u8 ((aU l).1.oH :Int)],.int .i64 (aU l).2]
theorem tV (l:List UInt8) (W:World) (hsz:l.length≤9223372036854775807) (hm:eP W):
  Calls Tryd.prog 58 #[.string ⟨l.toArray⟩] W fun e W'=>e= .returned (dL l)∧Below W.heap.size W W':=by
 obtain⟨i0,hi0,hz0,hz1,hz2⟩:=info_parts Tryd.infoUint16
 have hb0:=(Below.refl W.heap.size W).alloc (Nat.le_refl _) (.cells #[.int .u16 0,.int .u16 0,.int .u8 0,.int .u8 0] 61)
 have hx:=heap_alloc_new W (.cells #[.int .u16 0,.int .u16 0,.int .u8 0,.int .u8 0] 61)
 by_cases hl:300<l.length
 ·have jY:=hide (show dL l= .tuple #[.agg #[.int .u16 0,.int .u16 0,.int .u8 0,.int .u8 0],.int .i64 2]from by rw[dL,rW hl];rfl)
  obtain⟨n,hn⟩:∃n,l.length=n:=⟨_,rfl⟩
  have hsize:(⟨l.toArray⟩:ByteArray).size =n:=by rw[← hn];exact List.size_toArray
  rw[hn]at hl hsz
  have jU:=hide hb0
  obtain⟨z0,z1,z2,z3,z4,z5,z6,z7⟩:=lX hx
  clear hn hx hb0
  generalize (⟨l.toArray⟩:ByteArray)=s at*
  go_enter Tryd.func58,Tryd.ntmps58
  go_wp2
  refine bodyPost_ret (v:=.tuple #[.agg #[.int .u16 0,.int .u16 0,.int .u8 0,.int .u8 0],.int .i64 2]) (by simp[results,Tryd.f58,go_sem,z0,z1,z2,z3]) rfl ⟨by rw[jY.out],?_⟩
  first
   |exact jU.out
   |exact(((jU.out.setCell (Nat.le_refl _) _).setCell (Nat.le_refl _) _).setCell (Nat.le_refl _) _).setCell (Nat.le_refl _) _
 have HM:=hide (hm.below hb0)
 have hs:l.length≤1048576:=by omega
 have dR:=hide (fun w (h:eP w)=>mg l 32 w hs h)
 have fG:=hide (fun w=>show Calls Tryd.prog 77 #[.agg #[.int .u16 0,.int .u16 0,.int .u8 0,.int .u8 0]] w (fun e W'=>e= .returned (.slice (some ⟨w.heap.size+1,0,none⟩) 4 4)∧∃o0,W'=(w.alloc o0).alloc (.cells (ng 0 0 0 0) 124))from zM w 0 0 0 0 (by omega) (by omega) (by omega) (by omega))
 have hle:decide (300<l.length)=false:=decide_eq_false hl
 have mE:(⟨l.toArray⟩:ByteArray).size =l.length:=List.size_toArray
 obtain⟨nl,hnl⟩:∃nl,l.length=nl:=⟨_,rfl⟩
 obtain⟨s,hss⟩:∃s:ByteArray,⟨l.toArray⟩=s:=⟨_,rfl⟩
 have qC:=hide (fun h4 vals (h:yA (pieces 32 l) 4 vals)=>h.done h4 hl)
 have bC:=hide (fun h4 k r p hr hp hn=>za (l:=l) (k:=k) (r:=r) (p:=p) h4 hl hr hp hn)
 have nE:=hide (fun h4=>tL (l:=l) hl h4)
 have hpe:=iJ 32 l
 obtain⟨ps,hps⟩:∃ps,pieces 32 l=ps:=⟨_,rfl⟩
 obtain⟨n,hn⟩:∃n,ps.length=n:=⟨_,rfl⟩
 have hpl:=eO 32 l
 simp only[hss]at mE dR ⊢
 rw[hps]at dR qC bC nE hpe hpl
 rw[hn]at dR qC bC nE hpl
 rw[hnl]at mE hle hl hs hpl hpe
 have wY:=hide hpe
 clear hpe hsz hm
 have hn63:n≤1048577:=by omega
 go_enter Tryd.func58,Tryd.ntmps58
 go_wp2_with fail
 generalize W.alloc (.cells #[.int .u16 0,.int .u16 0,.int .u8 0,.int .u8 0] 61)=w1 at*
 refine(dR.out _ HM.out).mono ?_
 rintro e w2 ⟨rfl,hst,hb2⟩
 have oN:=hide (HM.out.below hb2)
 have hx2:=(hb2.block W.heap.size (lY hx)).trans hx
 have HB2:=hide (hb0.trans (hb2.mono hb0.size))
 have hw1:W.heap.size<w1.heap.size:=lY hx
 have HST:=hide hst
 clear hx hb0 hst hb2 dR HM
 generalize w1.heap.size=g at*
 by_cases h4:n=4
 case neg=>
  have jY:=hide (show dL l= .tuple #[.agg #[.int .u16 0,.int .u16 0,.int .u8 0,.int .u8 0],.int .i64 3]from by rw[dL,nE.out h4];rfl)
  have d1:((n:Int)==4)=false:=by simp;omega
  have d2:((n:Int) != 4)=true:=by simp;omega
  have jU:=HB2
  obtain⟨z0,z1,z2,z3,z4,z5,z6,z7⟩:=lX hx2
  clear hx2 qC bC nE HST
  go_wp2
  refine bodyPost_ret (v:=.tuple #[.agg #[.int .u16 0,.int .u16 0,.int .u8 0,.int .u8 0],.int .i64 3]) (by simp[results,Tryd.f58,go_sem,z0,z1,z2,z3]) rfl ⟨by rw[jY.out],?_⟩
  first
   |exact jU.out
   |exact(((jU.out.setCell (Nat.le_refl _) _).setCell (Nat.le_refl _) _).setCell (Nat.le_refl _) _).setCell (Nat.le_refl _) _
 case pos=>
 subst h4
 have AZ:=hide hx2
 clear hx2 nE
 go_wp2_with fail
 refine(fG.out w2).mono ?_
 rintro e w3 ⟨rfl,o0,hw3⟩
 have hpb:w3.heap[w2.heap.size+1]?=some (.cells (ng 0 0 0 0) 124):=by
  rw[hw3]
  have:=heap_alloc_new (w2.alloc o0) (.cells (ng 0 0 0 0) 124)
  rwa [show(w2.alloc o0).heap.size =w2.heap.size+1 by simp]at this
 have yB:Below w2.heap.size w2 w3:=by
  rw[hw3];exact((Below.refl _ _).alloc (Nat.le_refl _) o0).alloc (by simp) _
 have FC:w3.heap.size=w2.heap.size+2:=by rw[hw3];simp
 have wR:=hide hpb
 have Eh:=hide (HST.out.below yB)
 have Gl:=hide (oN.out.below yB)
 have q9:=hide ((yB.block W.heap.size (lY AZ.out)).trans AZ.out)
 have HB3:=hide (HB2.out.trans (yB.mono HB2.out.size))
 have zk:=hide (Eh.out.lt.2)
 clear hpb hw3 fG HB2 HST oN AZ yB
 generalize hN:w2.heap.size+1=Np at*
 have Gm:=hide (show Np<w3.heap.size by omega)
 clear FC hN
 go_wp2_with fail
 go_loopw [5,23] (fun v i wr=>∃(k:Nat) (vals:List Nat),k≤4∧i= .int .i64 (k:Int)∧Hid (yA ps k vals)∧Hid (wr.ownsRow w3.heap.size 59 1 v k (vals.map v16))∧Hid (Below w3.heap.size w3 wr)) (fun _ i _=>4 - (intOf i).toNat)
 case atStart=>exact⟨0,[],by omega,rfl,hide ⟨rfl,by simp⟩,hide (World.ownsRow_nil _ _ _ _),hide (Below.refl _ _)⟩
 case round=>
  obtain⟨k,vals,hk,rfl,jX,HO,aV⟩:=hrel
  by_cases hlt:k<4
  case pos=>
   obtain⟨x,hx,hxs,hxb,Gn,g0,g1,g2⟩:=BN 0 0 0 0 k (by omega) (by omega) (by omega) (by omega) hlt
   obtain⟨r,hr⟩:∃r,ps[k]?=some r:=⟨_,List.getElem?_eq_getElem (by omega)⟩
   have hpb:=(aV.out.block Np Gm.out).trans wR.out
   have y0:wr.cell? ⟨Np,k*3,none⟩=some (.int .u16 x.set):=by rw[cell_of_row _ _ _ _ _ _ hpb];exact g0
   have y1:wr.cell? ⟨Np,k*3+1,none⟩=some (.int .i64 x.bits):=by rw[cell_of_row _ _ _ _ _ _ hpb];exact g1
   have y2:wr.cell? ⟨Np,k*3+2,none⟩=some (.int .i64 x.first):=by rw[cell_of_row _ _ _ _ _ _ hpb];exact g2
   have hrl:=wY.out r (List.mem_of_getElem? hr)
   have fC:=hide (fun w (h:Below w3.heap.size w3 w)=>yx hx r w (by omega) (Gl.out.below h))
   have Ab:=hide (fun hn=>bC.out trivial k r x hr hx hn)
   have sO:=hide (fun y (hy:cZ r (2 ^ x.bits)=some y)=>jX.out.snoc hr hx hy)
   have c0:=(Eh.out.below aV.out).get hr
   have hvl:=jX.out.len
   obtain⟨R,hR⟩:∃R,cZ r (2 ^ x.bits)=R:=⟨_,rfl⟩
   have AX:=hide (fun y (hy:R=some y)=>show y<65536 from Nat.lt_of_lt_of_le (jL (Nat.two_pow_pos _) (hR.trans hy)) (Nat.pow_le_pow_right (by omega) (show 2 ^ x.bits≤2 ^ 4 from Nat.pow_le_pow_right (by omega) hxb)))
   rw[hR]at fC Ab sO
   have uI:(k:Int)<4:=by omega
   clear hx hxs hxb Gn g0 g1 g2 hpb hR hr jX hrl
   generalize x.set=xs at*
   generalize x.bits=xb at*
   generalize x.first=xf at*
   have hbz:=aV.out.size
   have CP:=hide (HO.out.alloc (.cells #[.int .u16 (xs:Int),.int .i64 (xb:Int),.int .i64 (xf:Int)] 124))
   have aK:=hide (aV.out.alloc hbz (.cells #[.int .u16 (xs:Int),.int .i64 (xb:Int),.int .i64 (xf:Int)] 124))
   obtain⟨u0,u1,u2⟩:=Dc (heap_alloc_new wr (.cells #[.int .u16 (xs:Int),.int .i64 (xb:Int),.int .i64 (xf:Int)] 124))
   have hcb:=(((Below.refl wr.heap.size wr).alloc (Nat.le_refl _) (.cells #[.int .u16 (xs:Int),.int .i64 (xb:Int),.int .i64 (xf:Int)] 124)).cell (p:=⟨g,k,none⟩) (Nat.lt_of_lt_of_le zk.out aV.out.size)).trans c0
   have hub:wr.heap.size<(wr.alloc (.cells #[.int .u16 (xs:Int),.int .i64 (xb:Int),.int .i64 (xf:Int)] 124)).heap.size :=by simp
   have hgb:g<(wr.alloc (.cells #[.int .u16 (xs:Int),.int .i64 (xb:Int),.int .i64 (xf:Int)] 124)).heap.size :=Nat.lt_of_lt_of_le (Nat.lt_of_lt_of_le zk.out aV.out.size) (by simp)
   clear HO aV
   go_wp2_with fail
   cases R with
   |none=>
    simp only[nO]at fC
    have jY:=hide (show dL l= .tuple #[.agg #[.int .u16 0,.int .u16 0,.int .u8 0,.int .u8 0],.int .i64 3]from by rw[dL,Ab.out rfl];rfl)
    refine bB (by kernel_rfl) (by kernel_rfl) ?_
    intro T hT gt hg1 hgi
    have aM:=hide hg1
    have dz:=hide hgi
    clear hg1 hgi
    have k0:∀t,(gt t).cell? ⟨g,k,none⟩=some (.string ⟨r.toArray⟩):=fun t=>((aM.out t).cell (p:=⟨g,k,none⟩) hgb).trans hcb
    have k1:∀t,(gt t).cell? ⟨wr.heap.size,1,none⟩=some (.int .i64 (xb:Int)):=fun t=>((aM.out t).cell (p:=⟨wr.heap.size,1,none⟩) hub).trans u1
    clear u0 u1 u2 hcb
    repeat (go_big_quiet_step ((go_at_call 84;exact jl aM.out dz.out (fC.out _ (aK.out.trans ((aM.out _).mono aK.out.size))))))
    refine wpQuiet_nil ?_
    intro _ hw'
    obtain⟨t,rfl⟩:=hw'
    have lU:=hide (ownsRow_below CP.out (aM.out t))
    have bK:=hide (aK.out.trans ((aM.out t).mono aK.out.size))
    generalize gt t=w5 at*
    clear aM dz k0 k1 CP aK fC hub hgb
    have jU:=hide (HB3.out.trans (bK.out.mono HB3.out.size))
    obtain⟨z0,z1,z2,z3,z4,z5,z6,z7⟩:=lX ((bK.out.block W.heap.size (lY q9.out)).trans q9.out)
    clear lU bK Ab sO AX y0 y1 y2 c0
    go_wp2
    refine bodyPost_ret (v:=.tuple #[.agg #[.int .u16 0,.int .u16 0,.int .u8 0,.int .u8 0],.int .i64 3]) (by simp[results,Tryd.f58,go_sem,z0,z1,z2,z3]) rfl ⟨by rw[jY.out],?_⟩
    first
     |exact jU.out
     |exact(((jU.out.setCell (Nat.le_refl _) _).setCell (Nat.le_refl _) _).setCell (Nat.le_refl _) _).setCell (Nat.le_refl _) _
   |some y=>
    simp only[nO]at fC
    have Gp:=hide (sO.out y rfl)
    have hy:=AX.out y rfl
    refine bB (by kernel_rfl) (by kernel_rfl) ?_
    intro T hT gt hg1 hgi
    have aM:=hide hg1
    have dz:=hide hgi
    clear hg1 hgi
    have k0:∀t,(gt t).cell? ⟨g,k,none⟩=some (.string ⟨r.toArray⟩):=fun t=>((aM.out t).cell (p:=⟨g,k,none⟩) hgb).trans hcb
    have k1:∀t,(gt t).cell? ⟨wr.heap.size,1,none⟩=some (.int .i64 (xb:Int)):=fun t=>((aM.out t).cell (p:=⟨wr.heap.size,1,none⟩) hub).trans u1
    clear u0 u1 u2 hcb
    repeat (go_big_quiet_step ((go_at_call 84;exact jl aM.out dz.out (fC.out _ (aK.out.trans ((aM.out _).mono aK.out.size))))))
    refine wpQuiet_nil ?_
    intro _ hw'
    obtain⟨t,rfl⟩:=hw'
    have lU:=hide (ownsRow_below CP.out (aM.out t))
    have bK:=hide (aK.out.trans ((aM.out t).mono aK.out.size))
    generalize gt t=w5 at*
    clear aM dz k0 k1 CP aK fC hub hgb
    clear sO Ab AX y0 y1 y2 c0
    have hwz:w3.heap.size≤w5.heap.size:=bK.out.size
    have kF:=hide (show Reads (w5.alloc (.cells #[.int .u16 (y:Int)] 59)) (w5.heap.size+1) 1 (some ⟨w5.heap.size,0,none⟩) 1 [v16 y]from
     ⟨rfl,fun _=>⟨_,rfl,Nat.lt_succ_self _,fun j u hu=>by
      rw[addr_add,Nat.zero_add,cell_of_row _ _ _ _ _ _ (heap_alloc_new w5 _)]
      simpa[v16]using hu⟩⟩)
    have Fb:=hide (lU.out.alloc (.cells #[.int .u16 (y:Int)] 59))
    have dN:=hide (bK.out.alloc hwz (.cells #[.int .u16 (y:Int)] 59))
    clear lU bK
    go_wp2_with (at_builtin;refine dS _ rfl (.tmp 41) (.tmp 43) 128 rfl w3.heap.size 59 i0 _ 1 2 Tryd.underlying128 hi0 hz0 hz1 hz2 rfl (by omega) _ k (vals.map v16) rfl Fb.out (w5.heap.size+1) (some ⟨w5.heap.size,0,none⟩) 1 1 [v16 y] rfl kF.out (by intro u hu;simp[v16]at hu;subst hu;rfl) (by simp only[maxLen];omega) (by omega) (by simp;omega) ?_;intro v7 w7 CQ Fe FD;have Gq:=hide CQ;have bM:=hide (dN.out.grown Fe (by simp;omega) (fun q hq=>(Fb.out.lt q hq).1));clear CQ Fe FD)
    go_roundw
    case rel=>exact⟨k+1,vals++[y],by omega,by go_num,Gp,hide (by simpa using Gq.out),bM⟩
    case measure=>simp[intOf];omega
  case neg=>
   obtain rfl:k=4:=by omega
   obtain⟨x,y,z,u,rfl,hP,hy,hu⟩:=qC.out trivial vals jX.out
   obtain⟨gv,cap,hv,hgw⟩:=HO.out.form (by omega)
   subst hv
   have HV:=hide (show dL l= .tuple #[.agg #[.int .u16 (x:Int),.int .u16 (z:Int),.int .u8 (y:Int),.int .u8 (u:Int)],.int .i64 0]from by rw[dL,hP])
   have Fg:=hide (Cm x y z u gv cap wr hy hu (HO.out.lt gv rfl).2 (HO.out.cellAt 0 (by omega)) (HO.out.cellAt 1 (by omega)) (HO.out.cellAt 2 (by omega)) (HO.out.cellAt 3 (by omega)))
   have Ap:=hide (HB3.out.trans (aV.out.mono HB3.out.size))
   have Ei:=hide ((aV.out.block W.heap.size (lY q9.out)).trans q9.out)
   clear HO jX hP hy hu hlt
   go_wp2_with fail
   refine Fg.out.mono ?_
   rintro e w9 ⟨rfl,hb⟩
   have jU:=hide (Ap.out.trans (hb.mono Ap.out.size))
   obtain⟨z0,z1,z2,z3,z4,z5,z6,z7⟩:=lX ((hb.block W.heap.size (lY Ei.out)).trans Ei.out)
   clear hb Fg Ap Ei aV
   go_wp2
   refine bodyPost_ret (v:=.tuple #[.agg #[.int .u16 (x:Int),.int .u16 (z:Int),.int .u8 (y:Int),.int .u8 (u:Int)],.int .i64 0]) (by simp[results,Tryd.f58,go_sem,z0,z1,z2,z3]) rfl ⟨by rw[HV.out],?_⟩
   exact(((jU.out.setCell (Nat.le_refl _) _).setCell (Nat.le_refl _) _).setCell (Nat.le_refl _) _).setCell (Nat.le_refl _) _
def bY (k:Int):List UInt8:=if k=1 then[104,111,115,116]else if k=2 then[114,111,117,116,101,114]else if k=3 then[102,105,114,101]else if k=4 then[110,97,116]else[108,98]
theorem kT (k:Int) (W:World) (hk:k=1∨k=2∨k=3∨k=4∨k=5):Calls Tryd.prog 51 #[.int .i64 k] W fun e W'=>e= .returned (.string ⟨(bY k).toArray⟩)∧W=W':=by
 have jJ:∀(k:Int) (h:k=1∨k=2∨k=3∨k=4∨k=5) (w':World),(Instr.index 120 (.agg #[.string ⟨#[]⟩,.string ⟨#[104,111,115,116]⟩,.string ⟨#[114,111,117,116,101,114]⟩,.string ⟨#[102,105,114,101]⟩,.string ⟨#[110,97,116]⟩,.string ⟨#[108,98]⟩]) (.int .i64 k)).run Tryd.prog w'= .ok (.string ⟨(bY k).toArray⟩) w':=by
  intro k h w'
  rcases h with rfl | rfl | rfl | rfl | rfl<;>simp[Instr.index,run_underlying Tryd.underlying120,asIntOf,go_sem,bY]
 have HI:=jJ k hk
 clear jJ
 obtain⟨V,hV⟩:∃V,bY k=V:=⟨_,rfl⟩
 rw[hV]at HI ⊢
 have hkr: -9223372036854775808≤k∧k≤9223372036854775807:=by omega
 clear hk hV
 first
 |skip
  go_enter Tryd.func51,Tryd.ntmps51
  go_wp2
  go_ret
  exact⟨rfl,rfl⟩
def iy (l:List UInt8):Option (List Int):=if(pieces 44 l).all (fun x=>decide (0≤aF x 100))=true then some ((pieces 44 l).map fun x=>aF x 100)else none
def jC:Nat→List Int→Option Nat
 |p,[]=>some p
 |p,n::t=>if 8≤n∨p.testBit n.toNat=true then none else jC (p ||| 2 ^ n.toNat) t
def eX (x:List UInt8):Nat:=if x=bY 1 then 1 else if x=bY 2 then 2 else if x=bY 3 then 3 else if x=bY 4 then 4 else if x=bY 5 then 5 else 0
structure dJ where
 ds:List Dev
 ls:List aJ
def kJ (l:List UInt8):ByteArray:=⟨l.toArray⟩
def pU:List UInt8:=[112,101,114,109,105,116]
def ug:List UInt8:=[100,101,110,121]
def qR:List UInt8:=[114,111,117,116,101]
def uh:List UInt8:=[108,105,110,107]
def bP (S:dJ) (w:List (List UInt8)):Option dJ:=
 match w with
 |x::nm::rest=>
  if S.ls≠[]∨bT (kJ nm)=false then none else
  match eX x,rest with
  |1,[a]=>if 0≤aF a 100 then some ⟨S.ds++[⟨kJ nm,1,aF a 100,0,[],[],[]⟩],S.ls⟩else none
  |2,[]=>some ⟨S.ds++[⟨kJ nm,2,0,0,[],[],[]⟩],S.ls⟩
  |3,[]=>some ⟨S.ds++[⟨kJ nm,3,0,0,[],[],[]⟩],S.ls⟩
  |4,[a,l]=>if 0≤aF a 100 then(match iy l with
   |some xs=>(match jC 0 xs with
    |some p=>some ⟨S.ds++[⟨kJ nm,4,aF a 100,p,[],[],[]⟩],S.ls⟩
    |none=>none)
   |none=>none)else none
  |5,[a,l]=>if 0≤aF a 100 then(match iy l with
   |some xs=>some ⟨S.ds++[⟨kJ nm,5,aF a 100,0,xs,[],[]⟩],S.ls⟩
   |none=>none)else none
  |_,_=>none
 |_=>none
def mF (S:dJ) (f:Dev→Dev):Option dJ:=if S.ls≠[]then none else match S.ds.getLast? with
 |some d=>some ⟨S.ds.dropLast++[f d],S.ls⟩
 |none=>none
def eF (S:dJ) (b:Bool) (w:List (List UInt8)):Option dJ:=if(aU (dO [32] w)).2=0 then mF S (fun d=>{ d with rules:=d.rules++[⟨b,(aU (dO [32] w)).1⟩] })else none
def fT (S:dJ) (w:List (List UInt8)):Option dJ:=match w with
 |[vb,p]=>(match pieces 47 vb with
  |[v,b]=>if 0≤aF v 100∧0≤aF b 100∧0≤aF p 100 then mF S (fun d=>{ d with routes:=d.routes++[⟨aF v 100,aF b 100,aF p 100⟩] })else none
  |_=>none)
 |_=>none
def jh (ds:List Dev) (nm:List UInt8):Int:=ig (fun d:Dev=>bO d.name (kJ nm)) ds
def j4 (S:dJ) (w:List (List UInt8)):Option dJ:=match w with
 |[a,p,b,q]=>if 0≤jh S.ds a∧0≤jh S.ds b∧0≤aF p 100∧0≤aF q 100 then some ⟨S.ds,S.ls++[⟨jh S.ds a,aF p 100,jh S.ds b,aF q 100⟩]⟩else none
 |_=>none
def gB (S:dJ) (w:List (List UInt8)):Option dJ:=match w with
 |[]=>none
 |x::rest=>if x=pU then eF S true rest else if x=ug then eF S false rest else if x=qR then fT S rest else if x=uh then j4 S rest else bP S w
def iF (S:dJ) (at_:Nat):List (List UInt8)→dJ⊕Nat
 |[]=>.inl S
 |l::t=>match gB S (pieces 32 l)with
  |some S'=>iF S' (at_+1) t
  |none=>.inr at_
def aW (l:List UInt8):List (List UInt8)×Bool:=if(pieces 10 l).getLast? =some []then((pieces 10 l).dropLast,true)else(pieces 10 l,false)
def iP (l:List UInt8):dJ×Nat×Int:=
 if 4096<l.length then(⟨[],[]⟩,0,2)else
 match iF ⟨[],[]⟩ 1 (if(aW l).2=true then(aW l).1 else(aW l).1.dropLast)with
 |.inr k=>(⟨[],[]⟩,k,3)
 |.inl S=>if(aW l).2=false then(⟨[],[]⟩,(aW l).1.length,3)else if jN S.ds S.ls=0 then(S,0,0)else(⟨[],[]⟩,0,jN S.ds S.ls)
end Go.Proofs.YtifkacnoiocebaaDoor
