/- A part of the proof: Mt5. -/
import Derived.Test.YtifkacnoiocebaaDoorNz5
set_option linter.unusedVariables false
set_option linter.unusedSimpArgs false
set_option maxRecDepth 100000
set_option maxHeartbeats 8000000
namespace Go.Proofs.YtifkacnoiocebaaDoor
open Go.RowKit
theorem oF (most:Nat):∀(xs ys:List (List UInt8)) (s:Nat),dQ most s (xs++ys)=(dQ most s xs).bind (fun x=>dQ most x ys)
 |[],ys,s=>rfl
 |r::xs,ys,s=>by
  simp only[List.cons_append,dQ]
  cases lG most r with
  |none=>rfl
  |some p=>exact oF most xs ys _
theorem nL {most:Nat} {ps:List (List UInt8)} {k x:Nat} {r:List UInt8} (hr:ps[k]?=some r) (h:dQ most 0 (ps.take k)=some x):
  dQ most 0 (ps.take (k+1))=match lG most r with | none=>none | some (lo,hi)=>some (dV x (List.range' lo (hi+1 - lo))):=by
 have ht:ps.take (k+1)=ps.take k++[r]:=by rw[List.take_add_one,hr];rfl
 rw[ht,oF,h]
 show dQ most x [r]=_
 unfold dQ
 cases lG most r with
 |none=>rfl
 |some p=>rfl
theorem iT {most:Nat} {ps:List (List UInt8)} {k:Nat} (h:dQ most 0 (ps.take k)=none):dQ most 0 ps=none:=by
 have:=oF most (ps.take k) (ps.drop k) 0
 rw[List.take_append_drop,h]at this
 exact this
theorem lW (x lo n:Nat) (h:lo≤n):dV x (List.range' lo (n+1 - lo))=dV x (List.range' lo (n - lo)) ||| 2 ^ n:=by
 rw[show n+1 - lo=(n - lo)+1 by omega,List.range'_concat,dV,List.foldl_append,show lo+1*(n - lo)=n by omega]
 rfl
theorem jw {most x lo n:Nat} (hx:x<2 ^ most) (hn:n≤most) (hl:lo≤n):dV x (List.range' lo (n - lo))<2 ^ most:=by
 apply Nat.lt_pow_two_of_testBit
 intro i hi
 rw[sD,Nat.testBit_lt_two_pow (Nat.lt_of_lt_of_le hx (Nat.pow_le_pow_right (by decide) hi)),Bool.false_or]
 exact decide_eq_false (by simp only[List.mem_range'_1];omega)
def nO (r:Option Nat):Value:=match r with | some x=>.tuple #[.int .u16 (x:Int),.bool true] | none=>.tuple #[.int .u16 0,.bool false]
theorem sw (l:List UInt8) (W:World) (hs:l.length≤1048576) (hm:eP W):
  Calls Tryd.prog 84 #[.string ⟨l.toArray⟩,.int .i64 4] W fun e W'=>e= .returned (nO (cZ l 16))∧Below W.heap.size W W':=by
 by_cases h1:l=[42]
 ·subst h1
  go_enter Tryd.func84,Tryd.ntmps84
  go_wp2
  go_ret2
  exact⟨by simp[cZ,nO]<;>decide,Below.refl _ _⟩
 by_cases h2:l=[45]
 ·subst h2
  go_enter Tryd.func84,Tryd.ntmps84
  go_wp2
  go_ret2
  exact⟨by simp[cZ,nO],Below.refl _ _⟩
 have q1:(l ==[42])=false:=by simpa using h1
 have q2:(l ==[45])=false:=by simpa using h2
 have HF:=hide (show cZ l 16=dQ 16 0 (pieces 44 l) by rw[cZ,if_neg h1,if_neg h2])
 have dR:=hide (mg l 44 W hs hm)
 have qy:=hide (iJ 44 l)
 obtain⟨ps,hps⟩:∃ps,pieces 44 l=ps:=⟨_,rfl⟩
 obtain⟨N,hN⟩:∃N,ps.length=N:=⟨_,rfl⟩
 have hpl:=eO 44 l
 rw[hps]at HF dR qy hpl
 rw[hN]at dR hpl
 rw[HF.out]
 have HN:=hide hN
 have HM:=hide hm
 clear h1 h2 HF hps hN hm
 go_enter Tryd.func84,Tryd.ntmps84
 go_wp2_with fail
 refine dR.out.mono ?_
 rintro e w1 ⟨rfl,hst,hb⟩
 have HST:=hide hst
 have HB1:=hide hb
 have nW:=hide (HM.out.below hb)
 clear hst hb dR HM
 have hn63:N≤9223372036854775807:=by omega
 go_wp2_with fail
 go_loopw [7,29] (fun sv i wr=>∃(k x:Nat),k≤N∧i= .int .i64 (k:Int)∧sv= .int .u16 (x:Int)∧Hid (dQ 16 0 (ps.take k)=some x)∧Hid (x<65536)∧Hid (Below w1.heap.size w1 wr)) (fun _ i _=>N - (intOf i).toNat)
 case atStart=>exact⟨0,0,Nat.zero_le _,rfl,rfl,hide rfl,hide (by decide),hide (Below.refl _ _)⟩
 case round=>
  obtain⟨k,x,hk,rfl,rfl,jc,oL,aV⟩:=hrel
  by_cases hlt:k<N
  case pos=>
   obtain⟨r,hr⟩:∃r,ps[k]?=some r:=⟨_,List.getElem?_eq_getElem (by have:=HN.out;omega)⟩
   have c0:=(HST.out.below aV.out).get hr
   have hrl:=qy.out r (List.mem_of_getElem? hr)
   have fB:=hide (nL hr jc.out)
   have yw:=hide (p9 ⟨r.toArray⟩ 45 wr (by rw[← lT];simpa using(show r.length≤1048576 by omega)) (nW.out.below aV.out))
   have gq:=hide (show lG 16 r=(if aF (cO 45 r).1 16<0∨aF (if 45∈r then(cO 45 r).2 else(cO 45 r).1) 16<aF (cO 45 r).1 16 then none else some ((aF (cO 45 r).1 16).toNat,(aF (if 45∈r then(cO 45 r).2 else(cO 45 r).1) 16).toNat))from rfl)
   have gu:=dP (cO 45 r).1 16
   have fM:=dP (cO 45 r).2 16
   obtain⟨X,hX⟩:∃X,(cO 45 r).1=X:=⟨_,rfl⟩
   obtain⟨Y,hY⟩:∃Y,(cO 45 r).2=Y:=⟨_,rfl⟩
   have iH:=hide (yw.out.mono (fun e w' h=>show e= .returned (.tuple #[.string ⟨X.toArray⟩,.string ⟨Y.toArray⟩,.bool (decide (45∈r))])∧Below wr.heap.size wr w' from by rw[← hX,← hY];exact h))
   rw[hX,hY]at gq
   rw[hX]at gu
   rw[hY]at fM
   clear yw hX hY hr hrl
   have gZ:=hide (fun w=>nV X 16 w)
   have oJ:=hide (fun w=>nV Y 16 w)
   obtain⟨A,hA⟩:∃A,aF X 16=A:=⟨_,rfl⟩
   obtain⟨B,hB⟩:∃B,aF Y 16=B:=⟨_,rfl⟩
   rw[hA]at gZ gu
   rw[hB]at oJ fM
   by_cases hin:45∈r
   case pos=>
    rw[if_pos hin,hA,hB]at gq
    have hdec:decide (45∈r)=true:=decide_eq_true hin
    rw[hdec]at iH
    have dD:=hide (fun(h:A<0∨B<A)=>iT (k:=k+1) (by rw[fB.out,gq.out,if_pos h]))
    go_wp2_with fail
    refine iH.out.mono ?_
    rintro e w5 ⟨rfl,hb5⟩
    have gN:=hide (aV.out.trans (hb5.mono aV.out.size))
    clear hb5 iH c0 aV
    have jO:=hide (HB1.out.trans (gN.out.mono HB1.out.size))
    by_cases hA:A<0
    ·have bC:=hide (dD.out (.inl hA))
     clear dD gq fB gu fM
     go_wp2_with (first | (go_at_call_of 87 (Value.string ⟨X.toArray⟩);refine(gZ.out _).mono ?_;rintro e w6 ⟨rfl,rfl⟩) | (go_at_call_of 87 (Value.string ⟨Y.toArray⟩);refine(oJ.out _).mono ?_;rintro e w6 ⟨rfl,rfl⟩))
     go_ret2
     exact⟨by rw[bC.out];rfl,jO.out⟩
    ·have dA:decide (A<0)=false:=decide_eq_false hA
     by_cases hB:B<A
     ·have bC:=hide (dD.out (.inr hB))
      clear dD gq fB gu fM
      go_wp2_with (first | (go_at_call_of 87 (Value.string ⟨X.toArray⟩);refine(gZ.out _).mono ?_;rintro e w6 ⟨rfl,rfl⟩) | (go_at_call_of 87 (Value.string ⟨Y.toArray⟩);refine(oJ.out _).mono ?_;rintro e w6 ⟨rfl,rfl⟩))
      go_ret2
      exact⟨by rw[bC.out];rfl,jO.out⟩
     ·have dB:decide (B<A)=false:=decide_eq_false hB
      have hr2:=gq.out
      rw[if_neg (by omega)]at hr2
      have hnx:=fB.out
      rw[hr2]at hnx
      have kr:=fM (by omega)
      obtain⟨lo,rfl⟩:∃lo:Nat,A=lo:=⟨A.toNat,by omega⟩
      obtain⟨hi,rfl⟩:∃hi:Nat,B=hi:=⟨B.toNat,by omega⟩
      simp only[Int.toNat_natCast]at hnx
      have qH:=hide hnx
      have hhi:hi<16:=by omega
      have tK:lo≤hi:=by omega
      clear dD gq fB gu fM hr2 hnx kr
      go_wp2_with (first | (go_at_call_of 87 (Value.string ⟨X.toArray⟩);refine(gZ.out _).mono ?_;rintro e w6 ⟨rfl,rfl⟩) | (go_at_call_of 87 (Value.string ⟨Y.toArray⟩);refine(oJ.out _).mono ?_;rintro e w6 ⟨rfl,rfl⟩))
      go_loopw [7,15] (fun sv i wi=>∃(n:Nat),lo≤n∧n≤hi+1∧i= .int .i64 (n:Int)∧sv= .int .u16 ((dV x (List.range' lo (n - lo)):Nat):Int)∧wi=w5) (fun _ i _=>hi+1 - (intOf i).toNat)
      case atStart=>exact⟨lo,Nat.le_refl _,by omega,rfl,by simp[dV],rfl⟩
      case round=>
       obtain⟨n,hn1,hn2,rfl,rfl,rfl⟩:=hrel
       by_cases hle:n≤hi
       case pos=>
        have hmx:=jw (most:=16) (x:=x) (lo:=lo) (n:=n) oL.out (by omega) hn1
        have nD:=hide (lW x lo n hn1)
        obtain⟨y,hy⟩:∃y,dV x (List.range' lo (n - lo))=y:=⟨_,rfl⟩
        rw[hy]at hmx nD ⊢
        have h16:(2:Nat) ^ n≤2 ^ 15:=Nat.pow_le_pow_right (by decide) (by omega)
        have hpw:((2:Int) ^ n)=((2 ^ n:Nat):Int):=by simp
        have hor:Go.bits .or .u16 (y:Int) ((2:Int) ^ n)=((y ||| 2 ^ n:Nat):Int):=by
         rw[hpw];exact u16_or y (2 ^ n) (by omega) (by omega)
        have hwr:IntKind.u16.wrap ((2:Int) ^ n)=(2:Int) ^ n:=by
         rw[hpw]
         have:(2:Nat) ^ n<65536:=by omega
         generalize (2:Nat) ^ n=z at this
         simp[IntKind.wrap,IntKind.signed,IntKind.bits];omega
        clear hy hmx h16 hpw
        go_wp2_with fail
        go_roundw
        case rel=>exact⟨n+1,by omega,by omega,by go_num,by rw[nD.out,← hor],trivial⟩
        case measure=>simp[intOf];omega
       case neg=>
        obtain rfl:n=hi+1:=by omega
        have hd7:decide (hi+1≤hi)=false:=by simp
        have Aq:decide (((hi+1:Nat):Int)≤(hi:Int))=false:=by simp;omega
        have Ar:decide ((hi:Int)+1≤(hi:Int))=false:=by simp;omega
        have qI:=hide (show dV x (List.range' lo (hi+1 - lo))<65536 from jw (most:=16) (x:=x) (lo:=lo) (n:=hi+1) oL.out (by omega) (by omega))
        go_wp2_with fail
        go_roundw
        case rel=>exact⟨k+1,_,by omega,by go_num,rfl,qH,qI,gN⟩
        case measure=>simp[intOf];omega
   case neg=>
    rw[if_neg hin,hA]at gq
    have hdec:decide (45∈r)=false:=decide_eq_false hin
    rw[hdec]at iH
    have dD:=hide (fun(h:A<0∨A<A)=>iT (k:=k+1) (by rw[fB.out,gq.out,if_pos h]))
    go_wp2_with fail
    refine iH.out.mono ?_
    rintro e w5 ⟨rfl,hb5⟩
    have gN:=hide (aV.out.trans (hb5.mono aV.out.size))
    clear hb5 iH c0 aV
    have jO:=hide (HB1.out.trans (gN.out.mono HB1.out.size))
    by_cases hA:A<0
    ·have bC:=hide (dD.out (.inl hA))
     clear dD gq fB gu fM
     go_wp2_with ((go_at_call 87;refine(gZ.out _).mono ?_;rintro e w6 ⟨rfl,rfl⟩))
     go_ret2
     exact⟨by rw[bC.out];rfl,jO.out⟩
    ·have dA:decide (A<0)=false:=decide_eq_false hA
     by_cases hB:A<A
     ·have bC:=hide (dD.out (.inr hB))
      clear dD gq fB gu fM
      go_wp2_with ((go_at_call 87;refine(gZ.out _).mono ?_;rintro e w6 ⟨rfl,rfl⟩))
      go_ret2
      exact⟨by rw[bC.out];rfl,jO.out⟩
     ·have dB:decide (A<A)=false:=decide_eq_false hB
      have hr2:=gq.out
      rw[if_neg (by omega)]at hr2
      have hnx:=fB.out
      rw[hr2]at hnx
      have kr:=gu (by omega)
      obtain⟨lo,rfl⟩:∃lo:Nat,A=lo:=⟨A.toNat,by omega⟩
      skip
      simp only[Int.toNat_natCast]at hnx
      have qH:=hide hnx
      have hhi:lo<16:=by omega
      have tK:lo≤lo:=by omega
      clear dD gq fB gu fM hr2 hnx kr
      go_wp2_with ((go_at_call 87;refine(gZ.out _).mono ?_;rintro e w6 ⟨rfl,rfl⟩))
      go_loopw [7,15] (fun sv i wi=>∃(n:Nat),lo≤n∧n≤lo+1∧i= .int .i64 (n:Int)∧sv= .int .u16 ((dV x (List.range' lo (n - lo)):Nat):Int)∧wi=w5) (fun _ i _=>lo+1 - (intOf i).toNat)
      case atStart=>exact⟨lo,Nat.le_refl _,by omega,rfl,by simp[dV],rfl⟩
      case round=>
       obtain⟨n,hn1,hn2,rfl,rfl,rfl⟩:=hrel
       by_cases hle:n≤lo
       case pos=>
        have hmx:=jw (most:=16) (x:=x) (lo:=lo) (n:=n) oL.out (by omega) hn1
        have nD:=hide (lW x lo n hn1)
        obtain⟨y,hy⟩:∃y,dV x (List.range' lo (n - lo))=y:=⟨_,rfl⟩
        rw[hy]at hmx nD ⊢
        have h16:(2:Nat) ^ n≤2 ^ 15:=Nat.pow_le_pow_right (by decide) (by omega)
        have hpw:((2:Int) ^ n)=((2 ^ n:Nat):Int):=by simp
        have hor:Go.bits .or .u16 (y:Int) ((2:Int) ^ n)=((y ||| 2 ^ n:Nat):Int):=by
         rw[hpw];exact u16_or y (2 ^ n) (by omega) (by omega)
        have hwr:IntKind.u16.wrap ((2:Int) ^ n)=(2:Int) ^ n:=by
         rw[hpw]
         have:(2:Nat) ^ n<65536:=by omega
         generalize (2:Nat) ^ n=z at this
         simp[IntKind.wrap,IntKind.signed,IntKind.bits];omega
        clear hy hmx h16 hpw
        go_wp2_with fail
        go_roundw
        case rel=>exact⟨n+1,by omega,by omega,by go_num,by rw[nD.out,← hor],trivial⟩
        case measure=>simp[intOf];omega
       case neg=>
        obtain rfl:n=lo+1:=by omega
        have hd7:decide (lo+1≤lo)=false:=by simp
        have Aq:decide (((lo+1:Nat):Int)≤(lo:Int))=false:=by simp;omega
        have Ar:decide ((lo:Int)+1≤(lo:Int))=false:=by simp;omega
        have qI:=hide (show dV x (List.range' lo (lo+1 - lo))<65536 from jw (most:=16) (x:=x) (lo:=lo) (n:=lo+1) oL.out (by omega) (by omega))
        go_wp2_with fail
        go_roundw
        case rel=>exact⟨k+1,_,by omega,by go_num,rfl,qH,qI,gN⟩
        case measure=>simp[intOf];omega
  case neg=>
   obtain rfl:k=N:=by omega
   have hall:ps.take k=ps:=List.take_of_length_le (by have:=HN.out;omega)
   rw[hall]at jc
   have jO:=hide (HB1.out.trans (aV.out.mono HB1.out.size))
   go_wp2
   go_ret2
   exact⟨by rw[jc.out];rfl,jO.out⟩
theorem uy (l:List UInt8) (W:World) (hs:l.length≤1048576) (hm:eP W):
  Calls Tryd.prog 84 #[.string ⟨l.toArray⟩,.int .i64 3] W fun e W'=>e= .returned (nO (cZ l 8))∧Below W.heap.size W W':=by
 by_cases h1:l=[42]
 ·subst h1
  go_enter Tryd.func84,Tryd.ntmps84
  go_wp2
  go_ret2
  exact⟨by simp[cZ,nO]<;>decide,Below.refl _ _⟩
 by_cases h2:l=[45]
 ·subst h2
  go_enter Tryd.func84,Tryd.ntmps84
  go_wp2
  go_ret2
  exact⟨by simp[cZ,nO],Below.refl _ _⟩
 have q1:(l ==[42])=false:=by simpa using h1
 have q2:(l ==[45])=false:=by simpa using h2
 have HF:=hide (show cZ l 8=dQ 8 0 (pieces 44 l) by rw[cZ,if_neg h1,if_neg h2])
 have dR:=hide (mg l 44 W hs hm)
 have qy:=hide (iJ 44 l)
 obtain⟨ps,hps⟩:∃ps,pieces 44 l=ps:=⟨_,rfl⟩
 obtain⟨N,hN⟩:∃N,ps.length=N:=⟨_,rfl⟩
 have hpl:=eO 44 l
 rw[hps]at HF dR qy hpl
 rw[hN]at dR hpl
 rw[HF.out]
 have HN:=hide hN
 have HM:=hide hm
 clear h1 h2 HF hps hN hm
 go_enter Tryd.func84,Tryd.ntmps84
 go_wp2_with fail
 refine dR.out.mono ?_
 rintro e w1 ⟨rfl,hst,hb⟩
 have HST:=hide hst
 have HB1:=hide hb
 have nW:=hide (HM.out.below hb)
 clear hst hb dR HM
 have hn63:N≤9223372036854775807:=by omega
 go_wp2_with fail
 go_loopw [7,29] (fun sv i wr=>∃(k x:Nat),k≤N∧i= .int .i64 (k:Int)∧sv= .int .u16 (x:Int)∧Hid (dQ 8 0 (ps.take k)=some x)∧Hid (x<256)∧Hid (Below w1.heap.size w1 wr)) (fun _ i _=>N - (intOf i).toNat)
 case atStart=>exact⟨0,0,Nat.zero_le _,rfl,rfl,hide rfl,hide (by decide),hide (Below.refl _ _)⟩
 case round=>
  obtain⟨k,x,hk,rfl,rfl,jc,oL,aV⟩:=hrel
  by_cases hlt:k<N
  case pos=>
   obtain⟨r,hr⟩:∃r,ps[k]?=some r:=⟨_,List.getElem?_eq_getElem (by have:=HN.out;omega)⟩
   have c0:=(HST.out.below aV.out).get hr
   have hrl:=qy.out r (List.mem_of_getElem? hr)
   have fB:=hide (nL hr jc.out)
   have yw:=hide (p9 ⟨r.toArray⟩ 45 wr (by rw[← lT];simpa using(show r.length≤1048576 by omega)) (nW.out.below aV.out))
   have gq:=hide (show lG 8 r=(if aF (cO 45 r).1 8<0∨aF (if 45∈r then(cO 45 r).2 else(cO 45 r).1) 8<aF (cO 45 r).1 8 then none else some ((aF (cO 45 r).1 8).toNat,(aF (if 45∈r then(cO 45 r).2 else(cO 45 r).1) 8).toNat))from rfl)
   have gu:=dP (cO 45 r).1 8
   have fM:=dP (cO 45 r).2 8
   obtain⟨X,hX⟩:∃X,(cO 45 r).1=X:=⟨_,rfl⟩
   obtain⟨Y,hY⟩:∃Y,(cO 45 r).2=Y:=⟨_,rfl⟩
   have iH:=hide (yw.out.mono (fun e w' h=>show e= .returned (.tuple #[.string ⟨X.toArray⟩,.string ⟨Y.toArray⟩,.bool (decide (45∈r))])∧Below wr.heap.size wr w' from by rw[← hX,← hY];exact h))
   rw[hX,hY]at gq
   rw[hX]at gu
   rw[hY]at fM
   clear yw hX hY hr hrl
   have gZ:=hide (fun w=>nV X 8 w)
   have oJ:=hide (fun w=>nV Y 8 w)
   obtain⟨A,hA⟩:∃A,aF X 8=A:=⟨_,rfl⟩
   obtain⟨B,hB⟩:∃B,aF Y 8=B:=⟨_,rfl⟩
   rw[hA]at gZ gu
   rw[hB]at oJ fM
   by_cases hin:45∈r
   case pos=>
    rw[if_pos hin,hA,hB]at gq
    have hdec:decide (45∈r)=true:=decide_eq_true hin
    rw[hdec]at iH
    have dD:=hide (fun(h:A<0∨B<A)=>iT (k:=k+1) (by rw[fB.out,gq.out,if_pos h]))
    go_wp2_with fail
    refine iH.out.mono ?_
    rintro e w5 ⟨rfl,hb5⟩
    have gN:=hide (aV.out.trans (hb5.mono aV.out.size))
    clear hb5 iH c0 aV
    have jO:=hide (HB1.out.trans (gN.out.mono HB1.out.size))
    by_cases hA:A<0
    ·have bC:=hide (dD.out (.inl hA))
     clear dD gq fB gu fM
     go_wp2_with (first | (go_at_call_of 87 (Value.string ⟨X.toArray⟩);refine(gZ.out _).mono ?_;rintro e w6 ⟨rfl,rfl⟩) | (go_at_call_of 87 (Value.string ⟨Y.toArray⟩);refine(oJ.out _).mono ?_;rintro e w6 ⟨rfl,rfl⟩))
     go_ret2
     exact⟨by rw[bC.out];rfl,jO.out⟩
    ·have dA:decide (A<0)=false:=decide_eq_false hA
     by_cases hB:B<A
     ·have bC:=hide (dD.out (.inr hB))
      clear dD gq fB gu fM
      go_wp2_with (first | (go_at_call_of 87 (Value.string ⟨X.toArray⟩);refine(gZ.out _).mono ?_;rintro e w6 ⟨rfl,rfl⟩) | (go_at_call_of 87 (Value.string ⟨Y.toArray⟩);refine(oJ.out _).mono ?_;rintro e w6 ⟨rfl,rfl⟩))
      go_ret2
      exact⟨by rw[bC.out];rfl,jO.out⟩
     ·have dB:decide (B<A)=false:=decide_eq_false hB
      have hr2:=gq.out
      rw[if_neg (by omega)]at hr2
      have hnx:=fB.out
      rw[hr2]at hnx
      have kr:=fM (by omega)
      obtain⟨lo,rfl⟩:∃lo:Nat,A=lo:=⟨A.toNat,by omega⟩
      obtain⟨hi,rfl⟩:∃hi:Nat,B=hi:=⟨B.toNat,by omega⟩
      simp only[Int.toNat_natCast]at hnx
      have qH:=hide hnx
      have hhi:hi<8:=by omega
      have tK:lo≤hi:=by omega
      clear dD gq fB gu fM hr2 hnx kr
      go_wp2_with (first | (go_at_call_of 87 (Value.string ⟨X.toArray⟩);refine(gZ.out _).mono ?_;rintro e w6 ⟨rfl,rfl⟩) | (go_at_call_of 87 (Value.string ⟨Y.toArray⟩);refine(oJ.out _).mono ?_;rintro e w6 ⟨rfl,rfl⟩))
      go_loopw [7,15] (fun sv i wi=>∃(n:Nat),lo≤n∧n≤hi+1∧i= .int .i64 (n:Int)∧sv= .int .u16 ((dV x (List.range' lo (n - lo)):Nat):Int)∧wi=w5) (fun _ i _=>hi+1 - (intOf i).toNat)
      case atStart=>exact⟨lo,Nat.le_refl _,by omega,rfl,by simp[dV],rfl⟩
      case round=>
       obtain⟨n,hn1,hn2,rfl,rfl,rfl⟩:=hrel
       by_cases hle:n≤hi
       case pos=>
        have hmx:=jw (most:=8) (x:=x) (lo:=lo) (n:=n) oL.out (by omega) hn1
        have nD:=hide (lW x lo n hn1)
        obtain⟨y,hy⟩:∃y,dV x (List.range' lo (n - lo))=y:=⟨_,rfl⟩
        rw[hy]at hmx nD ⊢
        have h16:(2:Nat) ^ n≤2 ^ 15:=Nat.pow_le_pow_right (by decide) (by omega)
        have hpw:((2:Int) ^ n)=((2 ^ n:Nat):Int):=by simp
        have hor:Go.bits .or .u16 (y:Int) ((2:Int) ^ n)=((y ||| 2 ^ n:Nat):Int):=by
         rw[hpw];exact u16_or y (2 ^ n) (by omega) (by omega)
        have hwr:IntKind.u16.wrap ((2:Int) ^ n)=(2:Int) ^ n:=by
         rw[hpw]
         have:(2:Nat) ^ n<65536:=by omega
         generalize (2:Nat) ^ n=z at this
         simp[IntKind.wrap,IntKind.signed,IntKind.bits];omega
        clear hy hmx h16 hpw
        go_wp2_with fail
        go_roundw
        case rel=>exact⟨n+1,by omega,by omega,by go_num,by rw[nD.out,← hor],trivial⟩
        case measure=>simp[intOf];omega
       case neg=>
        obtain rfl:n=hi+1:=by omega
        have hd7:decide (hi+1≤hi)=false:=by simp
        have Aq:decide (((hi+1:Nat):Int)≤(hi:Int))=false:=by simp;omega
        have Ar:decide ((hi:Int)+1≤(hi:Int))=false:=by simp;omega
        have qI:=hide (show dV x (List.range' lo (hi+1 - lo))<256 from jw (most:=8) (x:=x) (lo:=lo) (n:=hi+1) oL.out (by omega) (by omega))
        go_wp2_with fail
        go_roundw
        case rel=>exact⟨k+1,_,by omega,by go_num,rfl,qH,qI,gN⟩
        case measure=>simp[intOf];omega
   case neg=>
    rw[if_neg hin,hA]at gq
    have hdec:decide (45∈r)=false:=decide_eq_false hin
    rw[hdec]at iH
    have dD:=hide (fun(h:A<0∨A<A)=>iT (k:=k+1) (by rw[fB.out,gq.out,if_pos h]))
    go_wp2_with fail
    refine iH.out.mono ?_
    rintro e w5 ⟨rfl,hb5⟩
    have gN:=hide (aV.out.trans (hb5.mono aV.out.size))
    clear hb5 iH c0 aV
    have jO:=hide (HB1.out.trans (gN.out.mono HB1.out.size))
    by_cases hA:A<0
    ·have bC:=hide (dD.out (.inl hA))
     clear dD gq fB gu fM
     go_wp2_with ((go_at_call 87;refine(gZ.out _).mono ?_;rintro e w6 ⟨rfl,rfl⟩))
     go_ret2
     exact⟨by rw[bC.out];rfl,jO.out⟩
    ·have dA:decide (A<0)=false:=decide_eq_false hA
     by_cases hB:A<A
     ·have bC:=hide (dD.out (.inr hB))
      clear dD gq fB gu fM
      go_wp2_with ((go_at_call 87;refine(gZ.out _).mono ?_;rintro e w6 ⟨rfl,rfl⟩))
      go_ret2
      exact⟨by rw[bC.out];rfl,jO.out⟩
     ·have dB:decide (A<A)=false:=decide_eq_false hB
      have hr2:=gq.out
      rw[if_neg (by omega)]at hr2
      have hnx:=fB.out
      rw[hr2]at hnx
      have kr:=gu (by omega)
      obtain⟨lo,rfl⟩:∃lo:Nat,A=lo:=⟨A.toNat,by omega⟩
      skip
      simp only[Int.toNat_natCast]at hnx
      have qH:=hide hnx
      have hhi:lo<8:=by omega
      have tK:lo≤lo:=by omega
      clear dD gq fB gu fM hr2 hnx kr
      go_wp2_with ((go_at_call 87;refine(gZ.out _).mono ?_;rintro e w6 ⟨rfl,rfl⟩))
      go_loopw [7,15] (fun sv i wi=>∃(n:Nat),lo≤n∧n≤lo+1∧i= .int .i64 (n:Int)∧sv= .int .u16 ((dV x (List.range' lo (n - lo)):Nat):Int)∧wi=w5) (fun _ i _=>lo+1 - (intOf i).toNat)
      case atStart=>exact⟨lo,Nat.le_refl _,by omega,rfl,by simp[dV],rfl⟩
      case round=>
       obtain⟨n,hn1,hn2,rfl,rfl,rfl⟩:=hrel
       by_cases hle:n≤lo
       case pos=>
        have hmx:=jw (most:=8) (x:=x) (lo:=lo) (n:=n) oL.out (by omega) hn1
        have nD:=hide (lW x lo n hn1)
        obtain⟨y,hy⟩:∃y,dV x (List.range' lo (n - lo))=y:=⟨_,rfl⟩
        rw[hy]at hmx nD ⊢
        have h16:(2:Nat) ^ n≤2 ^ 15:=Nat.pow_le_pow_right (by decide) (by omega)
        have hpw:((2:Int) ^ n)=((2 ^ n:Nat):Int):=by simp
        have hor:Go.bits .or .u16 (y:Int) ((2:Int) ^ n)=((y ||| 2 ^ n:Nat):Int):=by
         rw[hpw];exact u16_or y (2 ^ n) (by omega) (by omega)
        have hwr:IntKind.u16.wrap ((2:Int) ^ n)=(2:Int) ^ n:=by
         rw[hpw]
         have:(2:Nat) ^ n<65536:=by omega
         generalize (2:Nat) ^ n=z at this
         simp[IntKind.wrap,IntKind.signed,IntKind.bits];omega
        clear hy hmx h16 hpw
        go_wp2_with fail
        go_roundw
        case rel=>exact⟨n+1,by omega,by omega,by go_num,by rw[nD.out,← hor],trivial⟩
        case measure=>simp[intOf];omega
       case neg=>
        obtain rfl:n=lo+1:=by omega
        have hd7:decide (lo+1≤lo)=false:=by simp
        have Aq:decide (((lo+1:Nat):Int)≤(lo:Int))=false:=by simp;omega
        have Ar:decide ((lo:Int)+1≤(lo:Int))=false:=by simp;omega
        have qI:=hide (show dV x (List.range' lo (lo+1 - lo))<256 from jw (most:=8) (x:=x) (lo:=lo) (n:=lo+1) oL.out (by omega) (by omega))
        go_wp2_with fail
        go_roundw
        case rel=>exact⟨k+1,_,by omega,by go_num,rfl,qH,qI,gN⟩
        case measure=>simp[intOf];omega
  case neg=>
   obtain rfl:k=N:=by omega
   have hall:ps.take k=ps:=List.take_of_length_le (by have:=HN.out;omega)
   rw[hall]at jc
   have jO:=hide (HB1.out.trans (aV.out.mono HB1.out.size))
   go_wp2
   go_ret2
   exact⟨by rw[jc.out];rfl,jO.out⟩
end Go.Proofs.YtifkacnoiocebaaDoor
