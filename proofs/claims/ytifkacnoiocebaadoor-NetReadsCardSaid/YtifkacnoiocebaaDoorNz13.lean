/- A part of the proof: Mt10, Mt11, Nr5. -/
import Derived.Test.YtifkacnoiocebaaDoorNz12
set_option linter.unusedVariables false
set_option linter.unusedSimpArgs false
set_option maxRecDepth 100000
set_option maxHeartbeats 8000000
namespace Go.Proofs.YtifkacnoiocebaaDoor
open Go.RowKit
theorem wV (most:Nat) (r:List UInt8):
  (2<(pieces 45 r).length ∧lG most r=none)∨
  (∃X Y,((pieces 45 r=[X]∧X=Y)∨pieces 45 r=[X,Y])∧lG most r=(if aF X most<0∨aF Y most<aF X most then none else some ((aF X most).toNat,(aF Y most).toNat))):=by
 by_cases h:45∈r
 ·have hro:lG most r=(if aF (cO 45 r).1 most<0∨aF (cO 45 r).2 most<aF (cO 45 r).1 most then none else some ((aF (cO 45 r).1 most).toNat,(aF (cO 45 r).2 most).toNat)):=by
   simp only[lG,if_pos h]
  obtain⟨u,v,rfl,hu⟩:=fU h
  rw[nP 45 u v hu]at hro
  by_cases hv:45∈v
  ·left
   refine⟨?_,?_⟩
   ·rw[gP 45 u v hu]
    obtain⟨x,y,rfl,hx⟩:=fU hv
    rw[gP 45 x y hx]
    have:=dU 45 y
    simp only[List.length_cons];omega
   ·rw[hro,wE hv (by decide),if_pos (by omega)]
  ·right
   exact⟨u,v,.inr (by rw[gP 45 u v hu,pieces_eq 45 v hv]),hro⟩
 ·right
  refine⟨r,r,.inl ⟨pieces_eq 45 r h,rfl⟩,?_⟩
  simp only[lG,if_neg h,mX 45 r h]
def vY (r:Option Nat):Value:=match r with | some x=>.int .i64 (x:Int) | none=>.int .i64 (-1)
theorem mD (l:List UInt8) (most:Nat) (W:World) (hs:l.length≤1048576) (hmo:most=16∨most=8):
  Calls Tryd.prog 73 #[.string ⟨l.toArray⟩,.int .i64 (most:Int)] W fun e W'=>e= .returned (vY (cZ l most))∧Below W.heap.size W W':=by
 have Dw:most≤16:=by omega
 by_cases h1:l=[42]
 ·have HV:=hide (show cZ l most=some (2 ^ most - 1) by rw[cZ,if_pos h1])
  subst h1
  rw[HV.out]
  rcases hmo with rfl | rfl
  all_goals
   go_enter Tryd.func73,Tryd.ntmps73
   go_wp2
   go_ret
   exact⟨by simp[vY]<;>decide,Below.refl _ _⟩
 by_cases h2:l=[45]
 ·have HV:=hide (show cZ l most=some 0 by rw[cZ,if_neg h1,if_pos h2])
  subst h2
  rw[HV.out]
  go_enter Tryd.func73,Tryd.ntmps73
  go_wp2
  go_ret
  exact⟨by simp[vY],Below.refl _ _⟩
 have q1:(l ==[42])=false:=by simpa using h1
 have q2:(l ==[45])=false:=by simpa using h2
 have HF:=hide (show cZ l most=dQ most 0 (pieces 44 l) by rw[cZ,if_neg h1,if_neg h2])
 have dR:=hide (iK l 44 W hs)
 have qy:=hide (iJ 44 l)
 obtain⟨ps,hps⟩:∃ps,pieces 44 l=ps:=⟨_,rfl⟩
 obtain⟨N,hN⟩:∃N,ps.length=N:=⟨_,rfl⟩
 have hpl:=eO 44 l
 have hpo:=dU 44 l
 rw[hps]at HF dR qy hpl hpo
 rw[hN]at dR hpl hpo
 rw[HF.out]
 have HN:=hide hN
 clear h1 h2 HF hps hN hmo
 go_enter Tryd.func73,Tryd.ntmps73
 go_wp2_with fail
 refine dR.out.mono ?_
 rintro e w1 ⟨g,cap,rfl,hst,hb⟩
 have HST:=hide hst
 have HB1:=hide hb
 clear hst hb dR
 have hn63:N≤9223372036854775807:=by omega
 go_wp2_with fail
 go_loopw [5,7] (fun sv i wr=>∃(k x:Nat),k≤N∧i= .int .i64 (k:Int)∧sv= .int .i64 (x:Int)∧Hid (dQ most 0 (ps.take k)=some x)∧Hid (x<2 ^ most)∧Hid (Below w1.heap.size w1 wr)) (fun _ i _=>N - (intOf i).toNat)
 case atStart=>exact⟨0,0,Nat.zero_le _,rfl,rfl,hide rfl,hide (Nat.two_pow_pos _),hide (Below.refl _ _)⟩
 case round=>
  obtain⟨k,x,hk,rfl,rfl,jc,oL,aV⟩:=hrel
  by_cases hlt:k<N
  case pos=>
   obtain⟨r,hr⟩:∃r,ps[k]?=some r:=⟨_,List.getElem?_eq_getElem (by have:=HN.out;omega)⟩
   have c0:=(HST.out.below aV.out).get hr
   have hrl:r.length≤1048576:=Nat.le_trans (qy.out r (List.mem_of_getElem? hr)) hs
   have fB:=hide (nL hr jc.out)
   have hro:=wV most r
   clear hr
   rcases hro with⟨hlen,hno⟩ | ⟨X,Y,wQ,hro⟩
   ·obtain⟨n,hn⟩:∃n,(pieces 45 r).length =n:=⟨_,rfl⟩
    have wW:=hide (fun w=>show Calls Tryd.prog 15 #[.string ⟨r.toArray⟩,.int .u8 45] w (fun e w'=>∃gp cp,e= .returned (.slice (some ⟨gp,0,none⟩) n cp)∧Below w.heap.size w w')from by
     have h:=iK r 45 w hrl
     rw[hn]at h
     exact h.mono (fun e w' ⟨gp,cp,h1,_,h3⟩=>⟨gp,cp,h1,h3⟩))
    rw[hn]at hlen
    have Gs:(2:Int)<(n:Int):=by omega
    have bC:=hide (iT (k:=k+1) (by rw[fB.out,hno]))
    clear hno fB hn hrl
    go_wp2_with fail
    refine(wW.out _).mono ?_
    rintro e w5 ⟨gp,cp,rfl,hb⟩
    have Ap:=hide (HB1.out.trans ((aV.out.trans (hb.mono aV.out.size)).mono HB1.out.size))
    clear hb aV c0
    go_wp2
    go_ret
    exact⟨by rw[bC.out];rfl,Ap.out⟩
   ·have gq:=hide hro
    clear hro
    rcases wQ with⟨hp,hxy⟩ | hp
    ·subst hxy
     have dD:=hide (fun(h:aF X most<0∨aF X most<aF X most)=>iT (k:=k+1) (by rw[fB.out,gq.out,if_pos h]))
     have wW:=hide (fun w=>show Calls Tryd.prog 15 #[.string ⟨r.toArray⟩,.int .u8 45] w (fun e w'=>∃gp cp,e= .returned (.slice (some ⟨gp,0,none⟩) 1 cp)∧cB w' w.heap.size gp 1 cp [X]∧Below w.heap.size w w')from by
      have h:=iK r 45 w hrl
      rw[hp]at h
      exact h)
     have vg:=hide (fun w=>show Calls Tryd.prog 42 #[.string ⟨X.toArray⟩,.int .i64 ((most:Int) - 1)] w (fun e w'=>e= .returned (.int .i64 (aF X most))∧w=w')from by
      have h:=kX ⟨X.toArray⟩ ((most:Int) - 1) w (by omega)
      rw[show(most:Int) - 1+1=most by omega]at h
      exact h)
     have vk:=hide (fun w=>show Calls Tryd.prog 42 #[.string ⟨(X).toArray⟩,.int .i64 ((most:Int) - 1)] w (fun e w'=>e= .returned (.int .i64 (aF X most))∧w=w')from by
      have h:=kX ⟨(X).toArray⟩ ((most:Int) - 1) w (by omega)
      rw[show(most:Int) - 1+1=most by omega]at h
      exact h)
     have gu:=dP X most
     have fM:=dP X most
     obtain⟨A,hA0⟩:∃A,aF X most=A:=⟨_,rfl⟩
     skip
     simp only[hA0]at vg vk gq gu fM
     (simp only[hA0]at dD;clear hA0)
     clear hp hrl
     go_wp2_with fail
     refine(wW.out _).mono ?_
     rintro e w5 ⟨gp,cp,rfl,hst,hb⟩
     have gN:=hide (aV.out.trans (hb.mono aV.out.size))
     have p0:w5.cell? ⟨gp,0,none⟩=some (.string ⟨X.toArray⟩):=hst.get (k:=0) rfl
     have p1:w5.cell? ⟨gp,0,none⟩=some (.string ⟨(X).toArray⟩):=hst.get (k:=0) rfl
     have hgl:=hst.lt.2
     clear hb hst wW c0 aV
     go_wp2_with fail
     refine bB (by kernel_rfl) (by kernel_rfl) ?_
     intro T hT gt hg1 hgi
     have aM:=hide hg1
     have dz:=hide hgi
     have k0:∀t,(gt t).cell? ⟨gp,0,none⟩=some (.string ⟨X.toArray⟩):=fun t=>((hg1 t).cell (p:=⟨gp,0,none⟩) hgl).trans p0
     have k1:∀t,(gt t).cell? ⟨gp,0,none⟩=some (.string ⟨(X).toArray⟩):=fun t=>((hg1 t).cell (p:=⟨gp,0,none⟩) hgl).trans p1
     clear hg1 hgi p0 p1 hgl
     repeat (go_big_quiet_step ((first | (go_at_call_of 42 (Value.string ⟨X.toArray⟩);exact bR (vg.out _)) | (go_at_call_of 42 (Value.string ⟨(X).toArray⟩);exact bR (vk.out _)))))
     refine wpQuiet_nil ?_
     intro _ hw'
     obtain⟨t,rfl⟩:=hw'
     have sF:=hide (gN.out.trans ((aM.out t).mono gN.out.size))
     generalize gt t=w6 at*
     clear aM dz k0 k1 vg vk gN
     have jO:=hide (HB1.out.trans (sF.out.mono HB1.out.size))
     by_cases hA:A<0
     ·have bC:=hide (dD.out (.inl hA))
      clear dD gq fB gu fM
      go_wp2
      go_ret
      exact⟨by rw[bC.out];rfl,jO.out⟩
     have dA:decide (A<0)=false:=decide_eq_false hA
     by_cases hB0:A<0
     ·first
      |omega
      |skip
       have bC:=hide (dD.out (.inr (by omega)))
       clear dD gq fB gu fM
       go_wp2
       go_ret
       exact⟨by rw[bC.out];rfl,jO.out⟩
     have FY:decide (A<0)=false:=decide_eq_false hB0
     by_cases hB:A<A
     ·first
      |omega
      |skip
       have bC:=hide (dD.out (.inr hB))
       clear dD gq fB gu fM
       go_wp2
       go_ret
       exact⟨by rw[bC.out];rfl,jO.out⟩
     have dB:decide (A<A)=false:=decide_eq_false hB
     have hr2:=gq.out
     rw[if_neg (by omega)]at hr2
     have hnx:=fB.out
     rw[hr2]at hnx
     have kr:=fM (by omega)
     obtain⟨lo,hlo⟩:∃lo:Nat,A=lo:=⟨A.toNat,by omega⟩
     subst hlo
     skip
     simp only[Int.toNat_natCast]at hnx
     have qH:=hide hnx
     have hhi:lo<most:=by omega
     have tK:lo≤lo:=by omega
     clear dD gq fB gu fM hr2 hnx kr
     go_wp2_with fail
     go_loopw [5,11] (fun sv i wi=>∃(n:Nat),lo≤n∧n≤lo+1∧i= .int .i64 (n:Int)∧sv= .int .i64 ((dV x (List.range' lo (n - lo)):Nat):Int)∧wi=w6) (fun _ i _=>lo+1 - (intOf i).toNat)
     case atStart=>exact⟨lo,Nat.le_refl _,by omega,rfl,by simp[dV],rfl⟩
     case round=>
      obtain⟨n,hn1,hn2,rfl,rfl,rfl⟩:=hrel
      by_cases hle:n≤lo
      case pos=>
       have hmx:=jw (most:=most) (x:=x) (lo:=lo) (n:=n) oL.out (by omega) hn1
       have BF:(2:Nat) ^ most≤2 ^ 16:=Nat.pow_le_pow_right (by decide) Dw
       have nD:=hide (lW x lo n hn1)
       obtain⟨y,hy⟩:∃y,dV x (List.range' lo (n - lo))=y:=⟨_,rfl⟩
       rw[hy]at hmx nD ⊢
       have h16:(2:Nat) ^ n≤2 ^ 16:=Nat.pow_le_pow_right (by decide) (by omega)
       have hpw:((2:Int) ^ n)=((2 ^ n:Nat):Int):=by simp
       have hor:Go.bits .or .i64 (y:Int) ((2:Int) ^ n)=((y ||| 2 ^ n:Nat):Int):=by
        rw[hpw];exact Ac y (2 ^ n) (by omega) (by omega)
       have hwr:wrap64 ((2:Int) ^ n)=(2:Int) ^ n:=wX n (by omega)
       clear hy hmx h16 hpw BF
       go_wp2_with fail
       go_roundw
       case rel=>exact⟨n+1,by omega,by omega,by go_num,by rw[nD.out,← hor],trivial⟩
       case measure=>simp[intOf];omega
      case neg=>
       have hnn:n=lo+1:=by omega
       subst hnn
       have hd7:decide (lo+1≤lo)=false:=by simp
       have Aq:decide (((lo+1:Nat):Int)≤(lo:Int))=false:=by simp;omega
       have Ar:decide ((lo:Int)+1≤(lo:Int))=false:=by simp;omega
       have qI:=hide (show dV x (List.range' lo (lo+1 - lo))<2 ^ most from jw (most:=most) (x:=x) (lo:=lo) (n:=lo+1) oL.out (by omega) (by omega))
       go_wp2_with fail
       go_roundw
       case rel=>exact⟨k+1,_,by omega,by go_num,rfl,qH,qI,sF⟩
       case measure=>simp[intOf];omega
    ·have dD:=hide (fun(h:aF X most<0∨aF Y most<aF X most)=>iT (k:=k+1) (by rw[fB.out,gq.out,if_pos h]))
     have wW:=hide (fun w=>show Calls Tryd.prog 15 #[.string ⟨r.toArray⟩,.int .u8 45] w (fun e w'=>∃gp cp,e= .returned (.slice (some ⟨gp,0,none⟩) 2 cp)∧cB w' w.heap.size gp 2 cp [X,Y]∧Below w.heap.size w w')from by
      have h:=iK r 45 w hrl
      rw[hp]at h
      exact h)
     have vg:=hide (fun w=>show Calls Tryd.prog 42 #[.string ⟨X.toArray⟩,.int .i64 ((most:Int) - 1)] w (fun e w'=>e= .returned (.int .i64 (aF X most))∧w=w')from by
      have h:=kX ⟨X.toArray⟩ ((most:Int) - 1) w (by omega)
      rw[show(most:Int) - 1+1=most by omega]at h
      exact h)
     have vk:=hide (fun w=>show Calls Tryd.prog 42 #[.string ⟨(Y).toArray⟩,.int .i64 ((most:Int) - 1)] w (fun e w'=>e= .returned (.int .i64 (aF Y most))∧w=w')from by
      have h:=kX ⟨(Y).toArray⟩ ((most:Int) - 1) w (by omega)
      rw[show(most:Int) - 1+1=most by omega]at h
      exact h)
     have gu:=dP X most
     have fM:=dP Y most
     obtain⟨A,hA0⟩:∃A,aF X most=A:=⟨_,rfl⟩
     (obtain⟨B,hB0⟩:∃B,aF Y most=B:=⟨_,rfl⟩)
     simp only[hA0]at vg vk gq gu fM
     (simp only[hB0]at vg vk gq gu fM;simp only[hA0,hB0]at dD;clear hA0 hB0)
     clear hp hrl
     go_wp2_with fail
     refine(wW.out _).mono ?_
     rintro e w5 ⟨gp,cp,rfl,hst,hb⟩
     have gN:=hide (aV.out.trans (hb.mono aV.out.size))
     have p0:w5.cell? ⟨gp,0,none⟩=some (.string ⟨X.toArray⟩):=hst.get (k:=0) rfl
     have p1:w5.cell? ⟨gp,1,none⟩=some (.string ⟨(Y).toArray⟩):=hst.get (k:=1) rfl
     have hgl:=hst.lt.2
     clear hb hst wW c0 aV
     go_wp2_with fail
     refine bB (by kernel_rfl) (by kernel_rfl) ?_
     intro T hT gt hg1 hgi
     have aM:=hide hg1
     have dz:=hide hgi
     have k0:∀t,(gt t).cell? ⟨gp,0,none⟩=some (.string ⟨X.toArray⟩):=fun t=>((hg1 t).cell (p:=⟨gp,0,none⟩) hgl).trans p0
     have k1:∀t,(gt t).cell? ⟨gp,1,none⟩=some (.string ⟨(Y).toArray⟩):=fun t=>((hg1 t).cell (p:=⟨gp,1,none⟩) hgl).trans p1
     clear hg1 hgi p0 p1 hgl
     repeat (go_big_quiet_step ((first | (go_at_call_of 42 (Value.string ⟨X.toArray⟩);exact bR (vg.out _)) | (go_at_call_of 42 (Value.string ⟨(Y).toArray⟩);exact bR (vk.out _)))))
     refine wpQuiet_nil ?_
     intro _ hw'
     obtain⟨t,rfl⟩:=hw'
     have sF:=hide (gN.out.trans ((aM.out t).mono gN.out.size))
     generalize gt t=w6 at*
     clear aM dz k0 k1 vg vk gN
     have jO:=hide (HB1.out.trans (sF.out.mono HB1.out.size))
     by_cases hA:A<0
     ·have bC:=hide (dD.out (.inl hA))
      clear dD gq fB gu fM
      go_wp2
      go_ret
      exact⟨by rw[bC.out];rfl,jO.out⟩
     have dA:decide (A<0)=false:=decide_eq_false hA
     by_cases hB0:B<0
     ·first
      |omega
      |skip
       have bC:=hide (dD.out (.inr (by omega)))
       clear dD gq fB gu fM
       go_wp2
       go_ret
       exact⟨by rw[bC.out];rfl,jO.out⟩
     have FY:decide (B<0)=false:=decide_eq_false hB0
     by_cases hB:B<A
     ·first
      |omega
      |skip
       have bC:=hide (dD.out (.inr hB))
       clear dD gq fB gu fM
       go_wp2
       go_ret
       exact⟨by rw[bC.out];rfl,jO.out⟩
     have dB:decide (B<A)=false:=decide_eq_false hB
     have hr2:=gq.out
     rw[if_neg (by omega)]at hr2
     have hnx:=fB.out
     rw[hr2]at hnx
     have kr:=fM (by omega)
     obtain⟨lo,hlo⟩:∃lo:Nat,A=lo:=⟨A.toNat,by omega⟩
     subst hlo
     (obtain⟨hi,hhi0⟩:∃hi:Nat,B=hi:=⟨B.toNat,by omega⟩;subst hhi0)
     simp only[Int.toNat_natCast]at hnx
     have qH:=hide hnx
     have hhi:hi<most:=by omega
     have tK:lo≤hi:=by omega
     clear dD gq fB gu fM hr2 hnx kr
     go_wp2_with fail
     go_loopw [5,11] (fun sv i wi=>∃(n:Nat),lo≤n∧n≤hi+1∧i= .int .i64 (n:Int)∧sv= .int .i64 ((dV x (List.range' lo (n - lo)):Nat):Int)∧wi=w6) (fun _ i _=>hi+1 - (intOf i).toNat)
     case atStart=>exact⟨lo,Nat.le_refl _,by omega,rfl,by simp[dV],rfl⟩
     case round=>
      obtain⟨n,hn1,hn2,rfl,rfl,rfl⟩:=hrel
      by_cases hle:n≤hi
      case pos=>
       have hmx:=jw (most:=most) (x:=x) (lo:=lo) (n:=n) oL.out (by omega) hn1
       have BF:(2:Nat) ^ most≤2 ^ 16:=Nat.pow_le_pow_right (by decide) Dw
       have nD:=hide (lW x lo n hn1)
       obtain⟨y,hy⟩:∃y,dV x (List.range' lo (n - lo))=y:=⟨_,rfl⟩
       rw[hy]at hmx nD ⊢
       have h16:(2:Nat) ^ n≤2 ^ 16:=Nat.pow_le_pow_right (by decide) (by omega)
       have hpw:((2:Int) ^ n)=((2 ^ n:Nat):Int):=by simp
       have hor:Go.bits .or .i64 (y:Int) ((2:Int) ^ n)=((y ||| 2 ^ n:Nat):Int):=by
        rw[hpw];exact Ac y (2 ^ n) (by omega) (by omega)
       have hwr:wrap64 ((2:Int) ^ n)=(2:Int) ^ n:=wX n (by omega)
       clear hy hmx h16 hpw BF
       go_wp2_with fail
       go_roundw
       case rel=>exact⟨n+1,by omega,by omega,by go_num,by rw[nD.out,← hor],trivial⟩
       case measure=>simp[intOf];omega
      case neg=>
       have hnn:n=hi+1:=by omega
       subst hnn
       have hd7:decide (hi+1≤hi)=false:=by simp
       have Aq:decide (((hi+1:Nat):Int)≤(hi:Int))=false:=by simp;omega
       have Ar:decide ((hi:Int)+1≤(hi:Int))=false:=by simp;omega
       have qI:=hide (show dV x (List.range' lo (hi+1 - lo))<2 ^ most from jw (most:=most) (x:=x) (lo:=lo) (n:=hi+1) oL.out (by omega) (by omega))
       go_wp2_with fail
       go_roundw
       case rel=>exact⟨k+1,_,by omega,by go_num,rfl,qH,qI,sF⟩
       case measure=>simp[intOf];omega
  case neg=>
   obtain rfl:k=N:=by omega
   have hall:ps.take k=ps:=List.take_of_length_le (by have:=HN.out;omega)
   rw[hall]at jc
   have jO:=hide (HB1.out.trans (aV.out.mono HB1.out.size))
   go_wp2
   go_ret
   exact⟨by rw[jc.out];rfl,jO.out⟩
def p8 (R:Option Nat):Int:=match R with | some x=>(x:Int) | none=> -1
theorem rF (R:Option Nat):vY R= .int .i64 (p8 R):=by cases R<;>rfl
theorem nu (R:Option Nat):(R=none∧p8 R<0)∨∃x,R=some x∧p8 R=(x:Int):=by
 cases R with
 |none=>exact .inl ⟨rfl,by show(-1:Int)<0;omega⟩
 |some x=>exact .inr ⟨x,rfl,rfl⟩
theorem zm (y:Nat) (h:y<65536):IntKind.u16.wrap (y:Int)=(y:Int):=by
 simp[IntKind.wrap,IntKind.signed,IntKind.bits];omega
theorem pI (l:List UInt8) (W:World) (hsz:l.length≤9223372036854775807):
  Calls Tryd.prog 40 #[.string ⟨l.toArray⟩] W fun e W'=>e= .returned (dL l)∧Below W.heap.size W W':=by
 have hb0:=(Below.refl W.heap.size W).alloc (Nat.le_refl _) (.cells #[.int .u16 0,.int .u16 0,.int .u8 0,.int .u8 0] 61)
 have hx:=heap_alloc_new W (.cells #[.int .u16 0,.int .u16 0,.int .u8 0,.int .u8 0] 61)
 by_cases hl:300<l.length
 ·have jY:=hide (show dL l= .tuple #[.agg #[.int .u16 0,.int .u16 0,.int .u8 0,.int .u8 0],.int .i64 2]from by rw[dL,rW hl];rfl)
  obtain⟨n,hn⟩:∃n,l.length=n:=⟨_,rfl⟩
  have hsize:(⟨l.toArray⟩:ByteArray).size =n:=by rw[← hn];exact List.size_toArray
  rw[hn]at hl hsz
  have jU:=hide hb0
  obtain⟨z0,z1,z2,z3,z4,z5,z6,z7⟩:=lX hx
  clear hn hx hb0
  generalize (⟨l.toArray⟩:ByteArray)=s at*
  go_enter Tryd.func40,Tryd.ntmps40
  go_wp2
  refine bodyPost_ret (v:=.tuple #[.agg #[.int .u16 0,.int .u16 0,.int .u8 0,.int .u8 0],.int .i64 2]) (by simp[results,Tryd.f40,go_sem,z0,z1,z2,z3]) rfl ⟨by rw[jY.out],?_⟩
  first
   |exact jU.out
   |exact(((jU.out.setCell (Nat.le_refl _) _).setCell (Nat.le_refl _) _).setCell (Nat.le_refl _) _).setCell (Nat.le_refl _) _
 have hs:l.length≤1048576:=by omega
 have hle:decide (300<l.length)=false:=decide_eq_false hl
 have mE:(⟨l.toArray⟩:ByteArray).size =l.length:=List.size_toArray
 have dR:=hide (fun w=>iK l 32 w hs)
 have nE:=hide (fun h4=>tL (l:=l) hl h4)
 have Cv:=hide (fun a b c d (hq:pieces 32 l=[a,b,c,d])=>show aU l=(match cZ a 16,cZ b 8,cZ c 16,cZ d 8 with | some x,some y,some z,some u=>(⟨x,z,y,u⟩,0) | _,_,_,_=>(⟨0,0,0,0⟩,3))from by rw[aU,if_neg hl,hq];rfl)
 have hpe:=iJ 32 l
 obtain⟨nl,hnl⟩:∃nl,l.length=nl:=⟨_,rfl⟩
 obtain⟨s,hss⟩:∃s:ByteArray,⟨l.toArray⟩=s:=⟨_,rfl⟩
 obtain⟨ps,hps⟩:∃ps,pieces 32 l=ps:=⟨_,rfl⟩
 obtain⟨n,hn⟩:∃n,ps.length=n:=⟨_,rfl⟩
 have hpl:=eO 32 l
 simp only[hss]at mE dR ⊢
 rw[hps]at dR Cv nE hpe hpl
 rw[hn]at dR nE hpl
 rw[hnl]at mE hle hl hs hpl hpe
 clear hsz
 have hn63:n≤1048577:=by omega
 have wY:=hide hpe
 have Au:=hide hn
 clear hpe hn
 go_enter Tryd.func40,Tryd.ntmps40
 go_wp2_with fail
 generalize W.alloc (.cells #[.int .u16 0,.int .u16 0,.int .u8 0,.int .u8 0] 61)=w1 at*
 refine(dR.out _).mono ?_
 rintro e w2 ⟨g,cap,rfl,hst,hb2⟩
 have hx2:=(hb2.block W.heap.size (lY hx)).trans hx
 have HB2:=hide (hb0.trans (hb2.mono hb0.size))
 have HST:=hide hst
 clear hx hb0 hst hb2 dR
 by_cases h4:n=4
 case neg=>
  have jY:=hide (show dL l= .tuple #[.agg #[.int .u16 0,.int .u16 0,.int .u8 0,.int .u8 0],.int .i64 3]from by rw[dL,nE.out h4];rfl)
  have d1:((n:Int)==4)=false:=by simp;omega
  have d2:((n:Int) != 4)=true:=by simp;omega
  have jU:=HB2
  obtain⟨z0,z1,z2,z3,z4,z5,z6,z7⟩:=lX hx2
  clear hx2 Cv nE HST
  go_wp2
  refine bodyPost_ret (v:=.tuple #[.agg #[.int .u16 0,.int .u16 0,.int .u8 0,.int .u8 0],.int .i64 3]) (by simp[results,Tryd.f40,go_sem,z0,z1,z2,z3]) rfl ⟨by rw[jY.out],?_⟩
  first
   |exact jU.out
   |exact(((jU.out.setCell (Nat.le_refl _) _).setCell (Nat.le_refl _) _).setCell (Nat.le_refl _) _).setCell (Nat.le_refl _) _
 case pos=>
 subst h4
 obtain⟨a,b,c,d,hq⟩:∃a b c d,ps=[a,b,c,d]:=by
  match ps,Au.out with
  |[a,b,c,d],_=>exact⟨a,b,c,d,rfl⟩
 subst hq
 have hpm:=Cv.out a b c d rfl
 have Av:=hide (fun w=>mD a 16 w (Nat.le_trans (wY.out a (by simp)) hs) (.inl rfl))
 have eY:=hide (fun w=>mD b 8 w (Nat.le_trans (wY.out b (by simp)) hs) (.inr rfl))
 have fC:=hide (fun w=>mD c 16 w (Nat.le_trans (wY.out c (by simp)) hs) (.inl rfl))
 have jc:=hide (fun w=>mD d 8 w (Nat.le_trans (wY.out d (by simp)) hs) (.inr rfl))
 have wZ:=hide (fun x=>jL (l:=a) (most:=16) (x:=x) (by omega))
 have xg:=hide (fun x=>jL (l:=b) (most:=8) (x:=x) (by omega))
 have tN:=hide (fun x=>jL (l:=c) (most:=16) (x:=x) (by omega))
 have xq:=hide (fun x=>jL (l:=d) (most:=8) (x:=x) (by omega))
 have p0:=HST.out.get (k:=0) rfl
 have p1:=HST.out.get (k:=1) rfl
 have p2:=HST.out.get (k:=2) rfl
 have p3:=HST.out.get (k:=3) rfl
 have hgl:=HST.out.lt.2
 clear nE Cv wY Au HST
 obtain⟨R0,hR0⟩:∃R,cZ a 16=R:=⟨_,rfl⟩
 obtain⟨R1,Dx⟩:∃R,cZ b 8=R:=⟨_,rfl⟩
 obtain⟨R2,hR2⟩:∃R,cZ c 16=R:=⟨_,rfl⟩
 obtain⟨R3,gy⟩:∃R,cZ d 8=R:=⟨_,rfl⟩
 rw[hR0,Dx,hR2,gy]at hpm
 simp only[hR0,rF]at Av wZ
 simp only[Dx,rF]at eY xg
 simp only[hR2,rF]at fC tN
 simp only[gy,rF]at jc xq
 have HZ0:=hide (nu R0)
 have HZ1:=hide (nu R1)
 have HZ2:=hide (nu R2)
 have HZ3:=hide (nu R3)
 have rX:=hide hpm
 clear hpm hR0 Dx hR2 gy
 generalize p8 R0=V0 at*
 generalize p8 R1=V1 at*
 generalize p8 R2=V2 at*
 generalize p8 R3=V3 at*
 go_wp2_with fail
 refine bB (by kernel_rfl) (by kernel_rfl) ?_
 intro T hT gt hg1 hgi
 have aM:=hide hg1
 have dz:=hide hgi
 have k0:∀t,(gt t).cell? ⟨g,0,none⟩=some (.string ⟨a.toArray⟩):=fun t=>((hg1 t).cell (p:=⟨g,0,none⟩) hgl).trans p0
 have k1:∀t,(gt t).cell? ⟨g,1,none⟩=some (.string ⟨b.toArray⟩):=fun t=>((hg1 t).cell (p:=⟨g,1,none⟩) hgl).trans p1
 have k2:∀t,(gt t).cell? ⟨g,2,none⟩=some (.string ⟨c.toArray⟩):=fun t=>((hg1 t).cell (p:=⟨g,2,none⟩) hgl).trans p2
 have k3:∀t,(gt t).cell? ⟨g,3,none⟩=some (.string ⟨d.toArray⟩):=fun t=>((hg1 t).cell (p:=⟨g,3,none⟩) hgl).trans p3
 clear hg1 hgi p0 p1 p2 p3 hgl
 repeat (go_big_quiet_step ((first | (go_at_call_of 73 (Value.string ⟨a.toArray⟩);exact jl aM.out dz.out (Av.out _)) | (go_at_call_of 73 (Value.string ⟨b.toArray⟩);exact jl aM.out dz.out (eY.out _)) | (go_at_call_of 73 (Value.string ⟨c.toArray⟩);exact jl aM.out dz.out (fC.out _)) | (go_at_call_of 73 (Value.string ⟨d.toArray⟩);exact jl aM.out dz.out (jc.out _)))))
 refine wpQuiet_nil ?_
 intro _ hw'
 obtain⟨t,rfl⟩:=hw'
 have jU:=hide (HB2.out.trans ((aM.out t).mono HB2.out.size))
 obtain⟨z0,z1,z2,z3,z4,z5,z6,z7⟩:=lX (((aM.out t).block W.heap.size (lY hx2)).trans hx2)
 generalize gt t=w6 at*
 clear aM dz k0 k1 k2 k3 Av eY fC jc hx2 HB2
 rcases HZ0.out with⟨rfl,hn0⟩ | ⟨x0,rfl,rfl⟩
 ·clear HZ0 HZ1 HZ2 HZ3 wZ xg tN xq
  have jY:=hide (show dL l= .tuple #[.agg #[.int .u16 0,.int .u16 0,.int .u8 0,.int .u8 0],.int .i64 3]from by rw[dL,rX.out];rfl)
  clear rX
  go_wp2
  refine bodyPost_ret (v:=.tuple #[.agg #[.int .u16 0,.int .u16 0,.int .u8 0,.int .u8 0],.int .i64 3]) (by simp[results,Tryd.f40,go_sem,z0,z1,z2,z3]) rfl ⟨by rw[jY.out],?_⟩
  first
   |exact jU.out
   |exact(((jU.out.setCell (Nat.le_refl _) _).setCell (Nat.le_refl _) _).setCell (Nat.le_refl _) _).setCell (Nat.le_refl _) _
 have d0:decide ((x0:Int)<0)=false:=decide_eq_false (by omega)
 rcases HZ1.out with⟨rfl,hn1⟩ | ⟨x1,rfl,rfl⟩
 ·clear HZ0 HZ1 HZ2 HZ3 wZ xg tN xq
  have jY:=hide (show dL l= .tuple #[.agg #[.int .u16 0,.int .u16 0,.int .u8 0,.int .u8 0],.int .i64 3]from by rw[dL,rX.out];rfl)
  clear rX
  go_wp2
  refine bodyPost_ret (v:=.tuple #[.agg #[.int .u16 0,.int .u16 0,.int .u8 0,.int .u8 0],.int .i64 3]) (by simp[results,Tryd.f40,go_sem,z0,z1,z2,z3]) rfl ⟨by rw[jY.out],?_⟩
  first
   |exact jU.out
   |exact(((jU.out.setCell (Nat.le_refl _) _).setCell (Nat.le_refl _) _).setCell (Nat.le_refl _) _).setCell (Nat.le_refl _) _
 have d1:decide ((x1:Int)<0)=false:=decide_eq_false (by omega)
 rcases HZ2.out with⟨rfl,hn2⟩ | ⟨x2,rfl,rfl⟩
 ·clear HZ0 HZ1 HZ2 HZ3 wZ xg tN xq
  have jY:=hide (show dL l= .tuple #[.agg #[.int .u16 0,.int .u16 0,.int .u8 0,.int .u8 0],.int .i64 3]from by rw[dL,rX.out];rfl)
  clear rX
  go_wp2
  refine bodyPost_ret (v:=.tuple #[.agg #[.int .u16 0,.int .u16 0,.int .u8 0,.int .u8 0],.int .i64 3]) (by simp[results,Tryd.f40,go_sem,z0,z1,z2,z3]) rfl ⟨by rw[jY.out],?_⟩
  first
   |exact jU.out
   |exact(((jU.out.setCell (Nat.le_refl _) _).setCell (Nat.le_refl _) _).setCell (Nat.le_refl _) _).setCell (Nat.le_refl _) _
 have d2:decide ((x2:Int)<0)=false:=decide_eq_false (by omega)
 rcases HZ3.out with⟨rfl,Cw⟩ | ⟨x3,rfl,rfl⟩
 ·clear HZ0 HZ1 HZ2 HZ3 wZ xg tN xq
  have jY:=hide (show dL l= .tuple #[.agg #[.int .u16 0,.int .u16 0,.int .u8 0,.int .u8 0],.int .i64 3]from by rw[dL,rX.out];rfl)
  clear rX
  go_wp2
  refine bodyPost_ret (v:=.tuple #[.agg #[.int .u16 0,.int .u16 0,.int .u8 0,.int .u8 0],.int .i64 3]) (by simp[results,Tryd.f40,go_sem,z0,z1,z2,z3]) rfl ⟨by rw[jY.out],?_⟩
  first
   |exact jU.out
   |exact(((jU.out.setCell (Nat.le_refl _) _).setCell (Nat.le_refl _) _).setCell (Nat.le_refl _) _).setCell (Nat.le_refl _) _
 have d3:decide ((x3:Int)<0)=false:=decide_eq_false (by omega)
 have q0:=zm x0 (wZ.out x0 rfl)
 have q1:=tO x1 (xg.out x1 rfl)
 have q2:=zm x2 (tN.out x2 rfl)
 have q3:=tO x3 (xq.out x3 rfl)
 have jY:=hide (show dL l= .tuple #[.agg #[.int .u16 (x0:Int),.int .u16 (x2:Int),.int .u8 (x1:Int),.int .u8 (x3:Int)],.int .i64 0]from by rw[dL,rX.out])
 clear HZ0 HZ1 HZ2 HZ3 wZ xg tN xq rX
 go_wp2
 refine bodyPost_ret (v:=.tuple #[.agg #[.int .u16 (x0:Int),.int .u16 (x2:Int),.int .u8 (x1:Int),.int .u8 (x3:Int)],.int .i64 0]) (by simp[results,Tryd.f40,go_sem,z0,z1,z2,z3]) rfl ⟨by rw[jY.out],?_⟩
 exact(((jU.out.setCell (Nat.le_refl _) _).setCell (Nat.le_refl _) _).setCell (Nat.le_refl _) _).setCell (Nat.le_refl _) _
structure cK (S:dJ) (k:Nat):Prop where
 d:S.ds.length≤k
 l:S.ls.length≤k
 r:∀d∈S.ds,d.rules.length≤k
 t:∀d∈S.ds,d.routes.length≤k
structure iX (ws:List (List UInt8)):Prop where
 len:ws.length≤5000
 each:∀x∈ws,x.length≤5000
 join:(dO [32] (ws.drop 1)).length ≤100000
def iV (cs:Value→Value→List aJ→Array Value) (T:TypeId) (w:World) (R:Nat) (S:dJ):Prop:=
 ∃(ds:List ah) (V L:Value),Bx w R (cs V L S.ls) T∧NG w (R+1) ds S.ls V L∧ds.map ah.dev=S.ds
def jV (V L:Value) (ls:List aJ):Array Value:=#[V,L,.bool (!ls.isEmpty)]
def jI (V L:Value) (ls:List aJ):Array Value:=#[V,L]
def gU (cs:Value→Value→List aJ→Array Value) (T:TypeId) (R:Nat) (r:Option dJ) (W:World) (e:Ending) (W':World):Prop:=
 Below R W W'∧((r=none∧e= .returned (.bool false))∨∃S,r=some S∧e= .returned (.bool true)∧iV cs T W' R S)
theorem iV.below {cs:Value→Value→List aJ→Array Value} {T:TypeId} {w w':World} {R:Nat} {S:dJ} (h:iV cs T w R S) (hb:Below w.heap.size w w'):iV cs T w' R S:=by
 obtain⟨ds,V,L,h1,h2,h3⟩:=h
 exact⟨ds,V,L,h1.below hb,h2.below hb,h3⟩
theorem iV.lt {cs:Value→Value→List aJ→Array Value} {T:TypeId} {w:World} {R:Nat} {S:dJ} (h:iV cs T w R S):R<w.heap.size:=by
 obtain⟨ds,V,L,h1,h2,h3⟩:=h
 exact h1.lt
def ny (w:World) (A:Option Addr) (n:Nat) (ps:List (List UInt8)):Prop:=
 ps.length=n∧(0<n→∃g o,A=some ⟨g,o,none⟩∧g<w.heap.size∧∀(j:Nat) x,ps[j]?=some x→w.cell? ⟨g,o+j,none⟩=some (.string ⟨x.toArray⟩))
theorem ny.below {w w':World} {A:Option Addr} {n:Nat} {ps:List (List UInt8)} (h:ny w A n ps) (hb:Below w.heap.size w w'):ny w' A n ps:=
 ⟨h.1,fun h0=>by
  obtain⟨g,o,e,hg,hc⟩:=h.2 h0
  exact⟨g,o,e,Nat.lt_of_lt_of_le hg hb.size,fun j x hx=>(hb.cell (p:=⟨g,o+j,none⟩) hg).trans (hc j x hx)⟩⟩
theorem cB.rest {w:World} {base g n cap:Nat} {ps:List (List UInt8)} (h:cB w base g n cap ps):ny w (some ⟨g,1,none⟩) (n - 1) (ps.drop 1):=
 ⟨by rw[List.length_drop,h.len],fun h0=>⟨g,1,rfl,h.lt.2,fun j x hx=>h.get (by rw[← hx,List.getElem?_drop])⟩⟩
theorem cB.vZ {w:World} {base g n cap:Nat} {ps:List (List UInt8)} (h:cB w base g n cap ps) (h0:n≤1) (A:Option Addr):ny w A (n - 1) (ps.drop 1):=
 ⟨by rw[List.length_drop,h.len],fun h1=>by omega⟩
theorem xu (ps:List (List UInt8)) (b:UInt8) (A:Option Addr) (n cap:Nat) (w:World) (hps:ny w A n ps) (hlen:(dO [b] ps).length ≤1048576) (hn:n≤1048576) (hcap:n≤cap):
  Calls Tryd.prog 59 #[.slice A n cap,.string ⟨#[b]⟩] w fun e w'=>e= .returned (.string ⟨(dO [b] ps).toArray⟩)∧Below w.heap.size w w':=by
 rcases Nat.eq_zero_or_pos n with h0 | h0
 ·subst h0
  have:ps=[]:=List.eq_nil_of_length_eq_zero hps.1
  subst this
  refine(Tryd.strings_Join_none A cap ⟨#[b]⟩ w).mono ?_
  rintro e w' ⟨rfl,rfl⟩
  exact⟨rfl,Below.refl _ _⟩
 obtain⟨g,o,rfl,hg,hc⟩:=hps.2 h0
 have hmap:(ps.map (fun x=>(⟨x.toArray⟩:ByteArray))).map (·.data.toList)=ps:=by
  rw[List.map_map];simp[Function.comp_def]
 have hj:=wF [b] ps
 have:=Tryd.strings_Join g o cap (ps.map (fun x=>(⟨x.toArray⟩:ByteArray))) ⟨#[b]⟩ w (fun j x hx=>by
  rw[List.getElem?_map]at hx
  cases e:ps[j]? with
  |none=>rw[e]at hx;cases hx
  |some y=>rw[e]at hx;cases hx;exact hc j y e) hg (by rw[List.length_map,hps.1];omega) (by rw[List.length_map,hps.1];exact hcap)
  (by rw[hmap];show(Lib.join ps [b]).length ≤_;rw[hj];omega)
 rw[hmap,List.length_map,hps.1]at this
 refine this.mono ?_
 rintro e w' ⟨rfl,hb⟩
 refine⟨?_,hb⟩
 show Ending.returned (.string ⟨(Lib.join ps [b]).toArray⟩)=_
 rw[hj]
theorem pJ (ps:List (List UInt8)) (b:UInt8) (A:Option Addr) (n cap:Nat) (w:World) (hps:ny w A n ps) (hlen:(dO [b] ps).length ≤900000) (hn:n≤1048576):
  Calls Tryd.prog 41 #[.slice A n cap,.string ⟨#[b]⟩] w fun e w'=>e= .returned (.string ⟨(dO [b] ps).toArray⟩)∧w=w':=by
 have HP:=hide hps
 clear hps
 go_enter Tryd.func41,Tryd.ntmps41
 go_wp2_with fail
 go_loopw [5,6] (fun v i wr=>∃k:Nat,k≤n∧i= .int .i64 (k:Int)∧v= .string ⟨(dO [b] (ps.take k)).toArray⟩∧wr=w) (fun _ i _=>n - (intOf i).toNat)
 case atStart=>exact⟨0,Nat.zero_le _,rfl,rfl,rfl⟩
 case round=>
  obtain⟨k,hk,rfl,rfl,rfl⟩:=hrel
  by_cases hlt:k<n
  case pos=>
   obtain⟨x,hx⟩:∃x,ps[k]?=some x:=⟨_,List.getElem?_eq_getElem (by have:=HP.out.1;omega)⟩
   obtain⟨g,o,rfl,_,hc⟩:=HP.out.2 (by omega)
   have c0:=hc k x hx
   clear hc
   have HT:=hide (zG b ps k x hx)
   have hl0:=pK b ps k
   have hl1:=pK b ps (k+1)
   by_cases h0:k=0
   ·subst h0
    rw[if_pos rfl]at HT
    have e2:∀w',(Op.stringOp .add ⟨#[]⟩ ⟨x.toArray⟩).run Tryd.prog w'= .ok (.string ⟨x.toArray⟩) w':=fun w'=>by
     have:=uJ [] x (by simp) (by rw[HT.out]at hl1;omega) w'
     simpa using this
    have HJ:dO [b] (ps.take 0)=[]:=rfl
    rw[HJ]
    rw[Nat.add_zero]at c0
    clear hl0 hl1 HJ hx
    go_wp2_with fail
    go_roundw
    case rel=>exact⟨1,by omega,by go_num,by rw[HT.out],trivial⟩
    case measure=>simp[intOf];omega
   ·rw[if_neg h0]at HT
    have hkp:(0:Int)<(k:Int):=by omega
    rw[HT.out]at hl1
    simp only[List.length_append,List.length_cons]at hl1
    generalize dO [b] (ps.take k)=J at*
    have e1:∀w',(Op.stringOp .add ⟨J.toArray⟩ ⟨#[b]⟩).run Tryd.prog w'= .ok (.string ⟨(J++[b]).toArray⟩) w':=uJ J [b] (by omega) (by simp)
    have e2:∀w',(Op.stringOp .add ⟨(J++[b]).toArray⟩ ⟨x.toArray⟩).run Tryd.prog w'= .ok (.string ⟨(J++b::x).toArray⟩) w':=fun w'=>by
     have:=uJ (J++[b]) x (by simp;omega) (by omega) w'
     simpa using this
    clear hl0 hl1 hx
    go_wp2_with fail
    go_roundw
    case rel=>exact⟨k+1,by omega,by go_num,by rw[HT.out],trivial⟩
    case measure=>simp[intOf];omega
  case neg=>
   obtain rfl:k=n:=by omega
   have hall:ps.take k=ps:=List.take_of_length_le (by have:=HP.out.1;omega)
   rw[hall]
   go_wp2
   go_ret
   exact⟨rfl,rfl⟩
theorem lZ {ds:List ah} {l:List Dev} (h:ds.map ah.dev=l):(ds=[]∧l=[]∧l.getLast? =none)∨∃ds0 x,ds=ds0++[x]∧l.dropLast=ds0.map ah.dev∧l.getLast? =some x.dev∧x.dev∈l:=by
 rcases List.eq_nil_or_concat ds with rfl | ⟨ds0,x,rfl⟩
 ·subst h
  exact .inl ⟨rfl,rfl,rfl⟩
 ·refine .inr ⟨ds0,x,by simp,?_,?_,?_⟩
  ·rw[← h];simp
  ·rw[← h];simp
  ·rw[← h];simp
theorem nN {S:dJ} {f:Dev→Dev} (h:S.ds=[]∨S.ls≠[]):mF S f=none:=by
 unfold mF
 by_cases hl:S.ls≠[]
 ·rw[if_pos hl]
 ·rw[if_neg hl]
  rcases h with h | h
  ·rw[h];rfl
  ·exact absurd h hl
theorem lC {S:dJ} {f:Dev→Dev} {ds0:List ah} {x:ah} (hl:S.ls=[]) (h1:S.ds.dropLast=ds0.map ah.dev) (h2:S.ds.getLast? =some x.dev):mF S f=some ⟨ds0.map ah.dev++[f x.dev],[]⟩:=by
 unfold mF
 rw[if_neg (by simp[hl]),h2,h1,hl]
end Go.Proofs.YtifkacnoiocebaaDoor
