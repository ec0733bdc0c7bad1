/- A part of the proof: St1, St2, St3, Mt1. -/
import Derived.Test.YtifkacnoiocebaaDoorNz0
import Derived.Laws.Concat
import Derived.Lib.IndexMore
import Derived.Lib.ItoaNum
import Derived.Lib.CountLaws
import Derived.Lib.Split
import Derived.Lib.Join
set_option linter.unusedVariables false
set_option linter.unusedSimpArgs false
set_option maxRecDepth 100000
set_option maxHeartbeats 4000000
namespace Go.Proofs.YtifkacnoiocebaaDoor
open Go.RowKit
theorem lT (s:ByteArray):s.data.toList.length=s.size:=Array.length_toList
theorem wC {P:Program} (t:TypeId) (s:ByteArray) (k:Nat) (c:UInt8) (h:P.underlying t=some .string) (hc:s.data.toList[k]?=some c) (w:World):
  (Instr.index t (.string s) (.int .i64 (k:Int))).run P w= .ok (.int .u8 (c.toNat:Int)) w:=by
 obtain⟨hlt,e⟩:=List.getElem?_eq_some_iff.1 hc
 rw[lT]at hlt
 rw[run_index_string w t s .i64 (k:Int) h,dif_pos ⟨by omega,by omega⟩]
 have:s[(k:Int).toNat]'(by simpa using hlt)=c:=by rw[← e];rfl
 rw[this]
theorem l7 {a b:Int} (h:a=b):Ending.returned (.int .i64 a)=Ending.returned (.int .i64 b):=by rw[h]
def iR (c:UInt8):Bool:=decide (48≤c.toNat) && decide (c.toNat≤57)
def iB (l:List UInt8):Nat:=l.foldl (fun n c=>n*10+(c.toNat - 48)) 0
theorem qx (l:List UInt8) (c:UInt8):iB (l++[c])=iB l*10+(c.toNat - 48):=by simp[iB]
theorem uD (l:List UInt8) (h:∀c∈l,iR c=true):iB l<10 ^ l.length:=by
 rcases List.eq_nil_or_concat l with rfl | ⟨m,c,rfl⟩
 ·decide
 ·rw[List.concat_eq_append]at h ⊢
  have h1:=uD m (fun x hx=>h x (by simp[hx]))
  have h2:=h c (by simp)
  simp only[iR,Bool.and_eq_true,decide_eq_true_eq]at h2
  rw[qx,List.length_append]
  simp only[List.length_cons,List.length_nil,Nat.zero_add,Nat.pow_succ]
  omega
termination_by l.length
decreasing_by simp[*]
def numeral (l:List UInt8):Bool:=decide (1≤l.length) && decide (l.length≤4) && l.all iR && !(decide (l.head? =some 48) && decide (1<l.length))
def aF (l:List UInt8) (most:Int):Int:=if numeral l=true∧(iB l:Int)<most then(iB l:Int)else -1
theorem jF {l:List UInt8} {most:Int} (h:numeral l=false):aF l most= -1:=by simp[aF,h]
theorem take_at {l:List UInt8} {k:Nat} {c:UInt8} (h:l[k]?=some c):l.take (k+1)=l.take k++[c]:=by
 rw[List.take_add_one,h];rfl
theorem yD (s:ByteArray) (most:Int) (w:World):
  Calls Tryd.prog 87 #[.string s,.int .i64 most] w fun e w'=>e= .returned (.int .i64 (aF s.data.toList most))∧w=w':=by
 obtain⟨l,hl⟩:∃l,s.data.toList=l:=⟨_,rfl⟩
 obtain⟨n,hn⟩:∃n,s.size=n:=⟨_,rfl⟩
 have hln:l.length=n:=by rw[← hl,← hn];exact lT s
 rw[hl]
 have HAT:=hide (fun(k:Nat) (c:UInt8) (h:l[k]?=some c)=>wC (P:=Tryd.prog) 9 s k c Tryd.underlying9 (by rw[hl];exact h))
 have gY:=hide hln
 clear hl hln
 go_enter Tryd.func87,Tryd.ntmps87
 by_cases h1:n<1
 ·have d1:(n:Int)<1:=by omega
  go_wp2
  go_ret
  exact⟨l7 (jF (by have:=gY.out;simp[numeral];omega)).symm,rfl⟩
 have d1:decide ((n:Int)<1)=false:=by simp;omega
 by_cases h4:4<n
 ·have d4:(4:Int)<(n:Int):=by omega
  go_wp2
  go_ret
  exact⟨l7 (jF (by have:=gY.out;simp[numeral];omega)).symm,rfl⟩
 have d4:decide ((4:Int)<(n:Int))=false:=by simp;omega
 obtain⟨c0,hc0⟩:∃c,l[0]?=some c:=⟨_,List.getElem?_eq_getElem (by have:=gY.out;omega)⟩
 have x0:∀w',(Instr.index 9 (.string s) (.int .i64 0)).run Tryd.prog w'= .ok (.int .u8 (c0.toNat:Int)) w':=HAT.out 0 c0 hc0
 have hd0:l.head? =some c0:=by rw[← hc0];cases l<;>rfl
 by_cases hz:c0.toNat=48∧1<n
 ·have e0:((c0.toNat:Int)==48)=true:=by simp;omega
  have d5:(1:Int)<(n:Int):=by omega
  go_wp2
  go_ret
  refine⟨l7 (jF ?_).symm,rfl⟩
  have:=gY.out
  have:c0=48:=UInt8.toNat_inj.1 hz.1
  subst this
  simp[numeral,hd0]
  omega
 have hcase:((c0.toNat:Int)==48)=false∨(((c0.toNat:Int)=48)∧decide ((1:Int)<(n:Int))=false):=by
  by_cases h:c0.toNat=48
  ·right;exact⟨by omega,by simp;omega⟩
  ·left;simp;omega
 have hhead:(decide (l.head? =some 48) && decide (1<l.length))=false:=by
  have hln:=gY.out
  rw[hd0,hln]
  by_cases h:1<n
  ·have:c0≠48:=fun e=>hz ⟨by rw[e];rfl,h⟩
   simp[this]
  ·simp[h]
 have HH:=hide hhead
 clear hz hhead hd0
 rcases hcase with e0 | ⟨e0,e1⟩
 all_goals
  go_wp2_with fail
  go_loopw [5,6,27] (fun nv x i wr=>∃k:Nat,k≤n∧i= .int .i64 (k:Int)∧nv= .int .i64 (iB (l.take k):Int)∧Hid (∀c∈l.take k,iR c=true)∧wr=w) (fun _ _ i _=>n - (intOf i).toNat)
  case atStart=>exact⟨0,Nat.zero_le _,rfl,rfl,hide (by simp),rfl⟩
  case round=>
   obtain⟨k,hk,rfl,rfl,HD,rfl⟩:=hrel
   by_cases hlt:k<n
   case pos=>
    obtain⟨c,hc⟩:∃c,l[k]?=some c:=⟨_,List.getElem?_eq_getElem (by have:=gY.out;omega)⟩
    have x1:∀w',(Instr.index 9 (.string s) (.int .i64 (k:Int))).run Tryd.prog w'= .ok (.int .u8 (c.toNat:Int)) w':=HAT.out k c hc
    by_cases hd:iR c=true
    case neg=>
     have hno:numeral l=false:=by
      have:l.all iR=false:=by
       rw[Bool.eq_false_iff]
       intro h
       exact hd (List.all_eq_true.1 h c (List.mem_of_getElem? hc))
      simp[numeral,this]
     have hor:c.toNat<48∨57<c.toNat:=by
      simp only[iR,Bool.and_eq_true,decide_eq_true_eq]at hd
      omega
     clear hd hc
     rcases hor with h | h
     ·have q1:(c.toNat:Int)<48:=by omega
      go_wp2
      go_ret
      exact⟨l7 (jF hno).symm,rfl⟩
     ·have q1:decide ((c.toNat:Int)<48)=false:=by simp;omega
      have q2:(57:Int)<(c.toNat:Int):=by omega
      go_wp2
      go_ret
      exact⟨l7 (jF hno).symm,rfl⟩
    case pos=>
     have hb:=hd
     simp only[iR,Bool.and_eq_true,decide_eq_true_eq]at hb
     have q1:decide ((c.toNat:Int)<48)=false:=by simp;omega
     have q2:decide ((57:Int)<(c.toNat:Int))=false:=by simp;omega
     have Dk:Hid (∀x∈l.take (k+1),iR x=true):=hide (fun x hx=>by
      rw[take_at hc,List.mem_append]at hx
      rcases hx with hx | hx
      ·exact HD.out x hx
      ·rw[List.mem_singleton.1 hx];exact hd)
     have hle:iB (l.take k)≤999:=by
      have h1:=uD _ HD.out
      have h2:(l.take k).length ≤3:=by simp;omega
      have h3:10 ^ (l.take k).length ≤10 ^ 3:=Nat.pow_le_pow_right (by decide) h2
      omega
     have hsn:=hide (show iB (l.take (k+1))=iB (l.take k)*10+(c.toNat - 48) by rw[take_at hc,qx])
     clear HD hd hc
     obtain⟨D,hD⟩:∃D,iB (l.take k)=D:=⟨_,rfl⟩
     rw[hD]at hle hsn ⊢
     clear hD
     obtain⟨c1,hc1⟩:∃x,c.toNat=x+48:=⟨c.toNat - 48,by omega⟩
     go_wp2_with fail
     go_roundw
     case rel=>
      exact⟨k+1,by omega,by go_num,congrArg (Value.int .i64) (by have:=hsn.out;omega),Dk,trivial⟩
     case measure=>simp[intOf];omega
   case neg=>
    obtain rfl:k=n:=by omega
    have hall:l.take k=l:=List.take_of_length_le (by have:=gY.out;omega)
    rw[hall]at HD ⊢
    have zx:numeral l=true:=by
     have h1:=gY.out
     have h2:=HH.out
     have h3:l.all iR=true:=List.all_eq_true.2 HD.out
     simp only[numeral,h2,h3]
     simp;omega
    have hF:=hide (show aF l most=if(iB l:Int)<most then(iB l:Int)else -1 by simp[aF,zx])
    obtain⟨D,hD⟩:∃D,iB l=D:=⟨_,rfl⟩
    rw[hD]at hF ⊢
    clear HD hall zx hD
    by_cases hm:(D:Int)<most
    ·have q1:decide (most≤(D:Int))=false:=by simp;omega
     go_wp2
     go_ret
     exact⟨l7 (by rw[hF.out,if_pos hm]),rfl⟩
    ·have q1:most≤(D:Int):=by omega
     go_wp2
     go_ret
     exact⟨l7 (by rw[hF.out,if_neg (by omega)]),rfl⟩
theorem wD (a b c:Int) (w:World):Calls Tryd.prog 46 #[.int .i64 a,.int .i64 b,.int .i64 c] w fun e w'=>e= .returned (.bool (decide (b≤a) && decide (a≤c)))∧w=w':=by
 go_enter Tryd.func46,Tryd.ntmps46
 by_cases h:b≤a
 ·by_cases h2:a≤c
  ·go_wp2
   go_ret
   exact⟨by simp[h,h2],rfl⟩
  ·have h3:decide (a≤c)=false:=by simp;omega
   go_wp2
   go_ret
   exact⟨by simp[h,h2],rfl⟩
 ·have h3:decide (b≤a)=false:=by simp;omega
  go_wp2
  go_ret
  exact⟨by simp[h],rfl⟩
theorem kX (s:ByteArray) (most:Int) (w:World) (Gr:most≤1000000):
  Calls Tryd.prog 42 #[.string s,.int .i64 most] w fun e w'=>e= .returned (.int .i64 (aF s.data.toList (most+1)))∧w=w':=by
 obtain⟨l,hl⟩:∃l,s.data.toList=l:=⟨_,rfl⟩
 obtain⟨n,hn⟩:∃n,s.size=n:=⟨_,rfl⟩
 have hln:l.length=n:=by rw[← hl,← hn];exact lT s
 rw[hl]
 have HAT:=hide (fun(k:Nat) (c:UInt8) (h:l[k]?=some c)=>wC (P:=Tryd.prog) 9 s k c Tryd.underlying9 (by rw[hl];exact h))
 have gY:=hide hln
 clear hl hln
 go_enter Tryd.func42,Tryd.ntmps42
 go_wp2_with fail
 go_loopw [5,6] (fun nv i wr=>∃k:Nat,k≤n∧k≤5∧i= .int .i64 (k:Int)∧nv= .int .i64 (iB (l.take k):Int)∧Hid (∀c∈l.take k,iR c=true)∧wr=w) (fun _ i _=>5 - (intOf i).toNat)
 case atStart=>exact⟨0,Nat.zero_le _,Nat.zero_le _,rfl,rfl,hide (by simp),rfl⟩
 case round=>
  obtain⟨k,hk,hk5,rfl,rfl,HD,rfl⟩:=hrel
  by_cases hlt:k<n∧k<5
  case pos=>
   obtain⟨hlt,Gw⟩:=hlt
   obtain⟨c,hc⟩:∃c,l[k]?=some c:=⟨_,List.getElem?_eq_getElem (by have:=gY.out;omega)⟩
   have x1:∀w',(Instr.index 9 (.string s) (.int .i64 (k:Int))).run Tryd.prog w'= .ok (.int .u8 (c.toNat:Int)) w':=HAT.out k c hc
   by_cases hd:iR c=true
   case neg=>
    have hno:numeral l=false:=by
     have:l.all iR=false:=by
      rw[Bool.eq_false_iff]
      intro h
      exact hd (List.all_eq_true.1 h c (List.mem_of_getElem? hc))
     simp[numeral,this]
    have hor:c.toNat<48∨57<c.toNat:=by
     simp only[iR,Bool.and_eq_true,decide_eq_true_eq]at hd
     omega
    clear hd hc
    rcases hor with h | h
    ·have q1:(c.toNat:Int)<48:=by omega
     go_wp2
     go_ret
     exact⟨l7 (jF hno).symm,rfl⟩
    ·have q1:decide ((c.toNat:Int)<48)=false:=by simp;omega
     have q2:(57:Int)<(c.toNat:Int):=by omega
     go_wp2
     go_ret
     exact⟨l7 (jF hno).symm,rfl⟩
   case pos=>
    have hb:=hd
    simp only[iR,Bool.and_eq_true,decide_eq_true_eq]at hb
    have q1:decide ((c.toNat:Int)<48)=false:=by simp;omega
    have q2:decide ((57:Int)<(c.toNat:Int))=false:=by simp;omega
    have Dk:Hid (∀x∈l.take (k+1),iR x=true):=hide (fun x hx=>by
     rw[take_at hc,List.mem_append]at hx
     rcases hx with hx | hx
     ·exact HD.out x hx
     ·rw[List.mem_singleton.1 hx];exact hd)
    have hle:iB (l.take k)≤9999:=by
     have h1:=uD _ HD.out
     have h2:(l.take k).length ≤4:=by simp;omega
     have h3:10 ^ (l.take k).length ≤10 ^ 4:=Nat.pow_le_pow_right (by decide) h2
     omega
    have hsn:=hide (show iB (l.take (k+1))=iB (l.take k)*10+(c.toNat - 48) by rw[take_at hc,qx])
    clear HD hd hc
    obtain⟨D,hD⟩:∃D,iB (l.take k)=D:=⟨_,rfl⟩
    rw[hD]at hle hsn ⊢
    clear hD
    obtain⟨c1,hc1⟩:∃x,c.toNat=x+48:=⟨c.toNat - 48,by omega⟩
    go_wp2_with fail
    go_roundw
    case rel=>
     refine⟨k+1,by omega,by omega,by go_num,congrArg (Value.int .i64) (by have:=hsn.out;omega),Dk,trivial⟩
    case measure=>simp[intOf];omega
  case neg=>
   have hcut:decide (k<n)=false∨(k=5∧5<n):=by
    by_cases h:k<n
    ·right;exact⟨by omega,by omega⟩
    ·left;simp;omega
   have nS:=hide (show aF l (most+1)=if(1≤n∧n≤4)∧¬(1<n∧l.head? =some 48)∧(iB (l.take k):Int)≤most then(iB (l.take k):Int)else -1 from by
    have hln:=gY.out
    by_cases h4:1≤n∧n≤4
    ·have hkn:k=n:=by omega
     have hall:l.take k=l:=List.take_of_length_le (by omega)
     have h3:l.all iR=true:=List.all_eq_true.2 (by rw[← hall];exact HD.out)
     rw[hall]
     by_cases hh:1<n∧l.head? =some 48
     ·rw[jF (by simp[numeral,hh.2];omega),if_neg (fun h=>h.2.1 hh)]
     ·have zx:numeral l=true:=by
       have:(decide (l.head? =some 48) && decide (1<l.length))=false:=by
        rw[Bool.eq_false_iff];intro h
        simp only[Bool.and_eq_true,decide_eq_true_eq]at h
        exact hh ⟨by omega,h.1⟩
       show(decide (1≤l.length) && decide (l.length≤4) && l.all iR && !(decide (l.head? =some 48) && decide (1<l.length)))=true
       rw[this,h3,decide_eq_true (show 1≤l.length by omega),decide_eq_true (show l.length≤4 by omega)]
       rfl
      by_cases hm:(iB l:Int)≤most
      ·rw[if_pos (show(1≤n∧n≤4)∧¬(1<n∧l.head? =some 48)∧(iB l:Int)≤most from⟨by omega,hh,hm⟩),aF,if_pos (show numeral l=true∧(iB l:Int)<most+1 from⟨zx,by omega⟩)]
      ·rw[if_neg (fun h=>hm h.2.2),aF,if_neg (show¬(numeral l=true∧(iB l:Int)<most+1)from fun h=>hm (by omega))]
    ·rw[jF (show numeral l=false by simp[numeral];omega),if_neg (show¬((1≤n∧n≤4)∧¬(1<n∧l.head? =some 48)∧(iB (l.take k):Int)≤most)from fun h=>h4 h.1)])
   clear hlt HD
   obtain⟨D,hD⟩:∃D,iB (l.take k)=D:=⟨_,rfl⟩
   rw[hD]at nS ⊢
   clear hD
   by_cases hin:1≤n∧n≤4
   case neg=>
    have HI:=hide (nS.out.trans (if_neg (fun h=>hin h.1)))
    have HC:=hide (fun w=>show Calls Tryd.prog 46 #[.int .i64 (n:Int),.int .i64 1,.int .i64 4] w fun e w'=>e= .returned (.bool false)∧w=w' from
     (wD (n:Int) 1 4 w).mono fun e w' ⟨h1,h2⟩=>⟨by rw[h1];congr;simp;omega,h2⟩)
    clear hin nS
    rcases hcut with q | ⟨rfl,q⟩
    all_goals
     go_wp2_with (go_at_call 46;refine(HC.out _).mono ?_;rintro e w1 ⟨rfl,rfl⟩)
     go_ret
     exact⟨l7 HI.out.symm,rfl⟩
   case pos=>
    have HC:=hide (fun w=>show Calls Tryd.prog 46 #[.int .i64 (n:Int),.int .i64 1,.int .i64 4] w fun e w'=>e= .returned (.bool true)∧w=w' from
     (wD (n:Int) 1 4 w).mono fun e w' ⟨h1,h2⟩=>⟨by rw[h1];congr;simp;omega,h2⟩)
    obtain⟨c0,hc0⟩:∃c,l[0]?=some c:=⟨_,List.getElem?_eq_getElem (by have:=gY.out;omega)⟩
    have x0:∀w',(Instr.index 9 (.string s) (.int .i64 0)).run Tryd.prog w'= .ok (.int .u8 (c0.toNat:Int)) w':=HAT.out 0 c0 hc0
    have hd0:l.head? =some c0:=by rw[← hc0];cases l<;>rfl
    by_cases hm:(D:Int)≤most
    case neg=>
     have q2:most<(D:Int):=by omega
     have HI:=hide (nS.out.trans (if_neg (fun h=>hm h.2.2)))
     clear hm nS
     have q:=hcut.resolve_right (fun h=>by omega)
     all_goals
      go_wp2_with (go_at_call 46;refine(HC.out _).mono ?_;rintro e w1 ⟨rfl,rfl⟩)
      go_ret
      exact⟨l7 HI.out.symm,rfl⟩
    case pos=>
     have q2:decide (most<(D:Int))=false:=by simp;omega
     by_cases h1:1<n
     case neg=>
      have q3:decide ((1:Int)<(n:Int))=false:=by simp;omega
      have HI:=hide (nS.out.trans (if_pos ⟨hin,fun h=>h1 h.1,hm⟩))
      clear nS
      have q:=hcut.resolve_right (fun h=>by omega)
      all_goals
       go_wp2_with (go_at_call 46;refine(HC.out _).mono ?_;rintro e w1 ⟨rfl,rfl⟩)
       go_ret
       exact⟨l7 HI.out.symm,rfl⟩
     case pos=>
      have q3:(1:Int)<(n:Int):=by omega
      by_cases hz:c0.toNat=48
      ·have q4:(c0.toNat:Int)=48:=by omega
       have Dl:c0=48:=UInt8.toNat_inj.1 hz
       have HI:=hide (nS.out.trans (if_neg (show¬((1≤n∧n≤4)∧¬(1<n∧l.head? =some 48)∧(D:Int)≤most)from fun h=>h.2.1 ⟨h1,by rw[hd0,Dl]⟩)))
       clear Dl hc0 hd0 hz nS
       have q:=hcut.resolve_right (fun h=>by omega)
       all_goals
        go_wp2_with (go_at_call 46;refine(HC.out _).mono ?_;rintro e w1 ⟨rfl,rfl⟩)
        go_ret
        exact⟨l7 HI.out.symm,rfl⟩
      ·have q4:((c0.toNat:Int)==48)=false:=by simp;omega
       have HI:=hide (nS.out.trans (if_pos (show((1≤n∧n≤4)∧¬(1<n∧l.head? =some 48)∧(D:Int)≤most)from⟨hin,fun h=>hz (by rw[hd0]at h;rw[Option.some.inj h.2];rfl),hm⟩)))
       clear hc0 hd0 hz nS
       have q:=hcut.resolve_right (fun h=>by omega)
       all_goals
        go_wp2_with (go_at_call 46;refine(HC.out _).mono ?_;rintro e w1 ⟨rfl,rfl⟩)
        go_ret
        exact⟨l7 HI.out.symm,rfl⟩
def mW (l:List UInt8):Value:=.string ⟨l.toArray⟩
theorem CR (s:ByteArray):mW s.data.toList= .string s:=by simp[mW]
def ko (b:UInt8) (acc:List (List UInt8)) (x:UInt8):List (List UInt8):=if x=b then acc++[[]]else acc.dropLast++[acc.getLastD []++[x]]
def pieces (b:UInt8) (l:List UInt8):List (List UInt8):=l.foldl (ko b) [[]]
theorem kY (b:UInt8) (l:List UInt8) (x:UInt8):pieces b (l++[x])=ko b (pieces b l) x:=by simp[pieces]
theorem oI (b:UInt8):∀(l:List UInt8) (acc:List (List UInt8)) (m:List UInt8),l.foldl (ko b) (acc++[m])=acc++l.foldl (ko b) [m]
 |[],acc,m=>rfl
 |x::r,acc,m=>by
  simp only[List.foldl_cons,ko]
  split
  ·rw[oI b r (acc++[m]) [],show[m]++[[]]=[m]++[([]:List UInt8)]from rfl,oI b r [m] []];simp
  ·simp only[List.dropLast_concat,List.getLastD_concat,List.dropLast_singleton,List.nil_append,List.getLastD_cons,List.getLastD_nil]
   exact oI b r acc (m++[x])
theorem pieces_eq (b:UInt8) (l:List UInt8) (hl:b∉l):pieces b l=[l]:=by
 rcases List.eq_nil_or_concat l with rfl | ⟨m,c,rfl⟩
 ·rfl
 ·rw[List.concat_eq_append]at hl ⊢
  rw[kY,pieces_eq b m (fun h=>hl (by simp[h])),ko,if_neg (fun h=>hl (by simp[h]))]
  rfl
termination_by l.length
decreasing_by simp[*]
theorem gP (b:UInt8) (l r:List UInt8) (hl:b∉l):pieces b (l++b::r)=l::pieces b r:=by
 have h1:l.foldl (ko b) [[]]=[l]:=pieces_eq b l hl
 have h2:=oI b r [l] []
 unfold pieces
 rw[List.foldl_append,h1,List.foldl_cons,ko,if_pos rfl,h2]
 rfl
theorem dU (b:UInt8) (l:List UInt8):0<(pieces b l).length :=by
 rcases List.eq_nil_or_concat l with rfl | ⟨m,c,rfl⟩
 ·simp[pieces]
 ·rw[List.concat_eq_append,kY,ko];split<;>simp
theorem eO (b:UInt8) (l:List UInt8):(pieces b l).length ≤l.length+1:=by
 rcases List.eq_nil_or_concat l with rfl | ⟨m,c,rfl⟩
 ·simp[pieces]
 ·have:=eO b m
  rw[List.concat_eq_append,kY,ko];split<;>simp<;>omega
termination_by l.length
decreasing_by simp[*]
theorem iJ (b:UInt8) (l:List UInt8):∀m∈pieces b l,m.length≤l.length:=by
 rcases List.eq_nil_or_concat l with rfl | ⟨r,c,rfl⟩
 ·simp[pieces]
 ·have ih:=iJ b r
  intro m hm
  rw[List.concat_eq_append]at hm ⊢
  rw[kY,ko]at hm
  simp only[List.length_append,List.length_cons,List.length_nil]
  split at hm
  ·rcases List.mem_append.1 hm with h | h
   ·have:=ih m h;omega
   ·rw[List.mem_singleton.1 h];simp
  ·rcases List.mem_append.1 hm with h | h
   ·have:=ih m (List.dropLast_subset _ h);omega
   ·rw[List.mem_singleton.1 h]
    have hp:=dU b r
    have:(pieces b r).getLastD []∈pieces b r:=by
     rw[List.getLastD_eq_getLast?,List.getLast?_eq_some_getLast (List.ne_nil_of_length_pos hp)]
     exact List.getLast_mem _
    have:=ih _ this
    simp only[List.length_append,List.length_cons,List.length_nil];omega
termination_by l.length
decreasing_by simp[*]
theorem Tryd.infoString:(Tryd.prog.info? 9).map (fun i=>(i.zero,i.size,i.bytes))=some (some (.string ⟨#[]⟩),1,16):=by kernel_rfl
theorem yE (s:ByteArray) (b:UInt8) (W:World) (hs:s.size≤1048576):
  Calls Tryd.prog 15 #[.string s,.int .u8 (b.toNat:Int)] W fun e W'=>
   ∃v,e= .returned v∧W'.ownsRow W.heap.size 9 1 v (pieces b s.data.toList).length ((pieces b s.data.toList).map mW)∧Below W.heap.size W W':=by
 obtain⟨i0,hi0,hz0,hz1,hz2⟩:=info_parts Tryd.infoString
 obtain⟨l,hl⟩:∃l,s.data.toList=l:=⟨_,rfl⟩
 obtain⟨n,hn⟩:∃n,s.size=n:=⟨_,rfl⟩
 have hln:l.length=n:=by rw[← hl,← hn];exact lT s
 have FK:=hide (fun(k:Nat) (c:UInt8) (h:l[k]?=some c)=>show s.extract k (k+1)=⟨#[c]⟩from by
  have:s=⟨l.toArray⟩:=by rw[← hl]
  rw[this,ByteArray.extract_mk,show k+1 - k=1 by omega,List.take_one,List.head?_drop,h];rfl)
 rw[hl]
 have HAT:=hide (fun(k:Nat) (c:UInt8) (h:l[k]?=some c)=>wC (P:=Tryd.prog) 9 s k c Tryd.underlying9 (by rw[hl];exact h))
 have gY:=hide hln
 rw[hn]at hs
 clear hl hln
 go_enter Tryd.func15,Tryd.ntmps15
 go_wp2_with fail
 have FL:=hide (World.ownsRow_lit (e:=9) (size:=1) W #[.string ⟨#[]⟩] 1 (Nat.le_refl _) (by decide) rfl)
 have HB0:=hide ((Below.refl W.heap.size W).alloc (Nat.le_refl _) (.cells #[.string ⟨#[]⟩] 9))
 generalize W.alloc (.cells #[.string ⟨#[]⟩] 9)=W1 at*
 go_loopw [5,6] (fun v i wr=>∃k:Nat,k≤n∧i= .int .i64 (k:Int)∧Hid (wr.ownsRow W.heap.size 9 1 v (pieces b (l.take k)).length ((pieces b (l.take k)).map mW))∧Hid (Below W.heap.size W wr)) (fun _ i _=>n - (intOf i).toNat)
 case atStart=>exact⟨0,Nat.zero_le _,rfl,FL,HB0⟩
 case round=>
  obtain⟨k,hk,rfl,HO,HB⟩:=hrel
  by_cases hlt:k<n
  case pos=>
   obtain⟨c,hc⟩:∃c,l[k]?=some c:=⟨_,List.getElem?_eq_getElem (by have:=gY.out;omega)⟩
   have x1:∀w',(Instr.index 9 (.string s) (.int .i64 (k:Int))).run Tryd.prog w'= .ok (.int .u8 (c.toNat:Int)) w':=HAT.out k c hc
   have sO:=hide (show pieces b (l.take (k+1))=ko b (pieces b (l.take k)) c by rw[take_at hc,kY])
   have Fq:=hide (FK.out k c hc)
   have hlen:(pieces b (l.take k)).length ≤k+1:=Nat.le_trans (eO _ _) (by simp;omega)
   have hpos:=dU b (l.take k)
   have qy:=hide (iJ b (l.take k))
   have htk:(l.take k).length ≤k:=by simp;omega
   clear hc
   generalize pieces b (l.take k)=p at*
   obtain⟨j,hj⟩:∃j,p.length=j+1:=⟨p.length - 1,by omega⟩
   by_cases hcb:c=b
   case pos=>
    have e0:((c.toNat:Int)==(b.toNat:Int))=true:=by rw[hcb];simp
    have e1:(c.toNat:Int)=(b.toNat:Int):=by rw[hcb]
    have HP:=hide (show pieces b (l.take (k+1))=p++[[]] by rw[sO.out,ko,if_pos hcb])
    clear hcb sO e0
    have kF:=hide (show Reads (wr.alloc (.cells #[.string ⟨#[]⟩] 9)) (wr.heap.size+1) 1 (some ⟨wr.heap.size,0,none⟩) 1 [.string ⟨#[]⟩]from
     ⟨rfl,fun _=>⟨_,rfl,Nat.lt_succ_self _,fun j u hu=>by
      rw[addr_add,Nat.zero_add,cell_of_row _ _ _ _ _ _ (heap_alloc_new wr _)]
      simpa using hu⟩⟩)
    have hb3:Below wr.heap.size wr (wr.alloc (.cells #[.string ⟨#[]⟩] 9)):=(Below.refl _ _).alloc (Nat.le_refl _) _
    have hbz:=HB.out.size
    have uT:=hide (HO.out.alloc (.cells #[.string ⟨#[]⟩] 9))
    have aK:=hide (HB.out.alloc hbz (.cells #[.string ⟨#[]⟩] 9))
    clear hb3 HO HB hj
    go_wp2_with (at_builtin;refine dS _ rfl (.tmp 19) (.tmp 20) 45 rfl W.heap.size 9 i0 _ 1 16 Tryd.underlying45 hi0 hz0 hz1 hz2 rfl (by omega) _ p.length (p.map mW) rfl uT.out (wr.heap.size+1) (some ⟨wr.heap.size,0,none⟩) 1 1 [.string ⟨#[]⟩] rfl kF.out (by intro u hu;simp at hu;subst hu;rfl) (by simp only[maxLen];omega) (by omega) (by simp;omega) ?_;intro v5 w5 hown5 hg5 lI;have lU:=hide hown5;have bK:=hide (aK.out.grown hg5 (by simp;omega) (fun q hq=>(uT.out.lt q hq).1));clear hown5 hg5 lI)
    go_roundw
    case rel=>exact⟨k+1,by omega,by go_num,hide (by rw[HP.out];simpa[mW]using lU.out),bK⟩
    case measure=>simp[intOf];omega
   case neg=>
    have e0:((c.toNat:Int)==(b.toNat:Int))=false:=by
     have:c.toNat≠b.toNat:=fun e=>hcb (UInt8.toNat_inj.1 e)
     simp;omega
    have e1:decide (c.toNat=b.toNat)=false:=by
     have:c.toNat≠b.toNat:=fun e=>hcb (UInt8.toNat_inj.1 e)
     simp;omega
    obtain⟨q,z,rfl⟩:∃q z,p=q++[z]:=by
     rcases List.eq_nil_or_concat p with rfl | ⟨q,z,rfl⟩
     ·simp at hj
     ·exact⟨q,z,by rw[List.concat_eq_append]⟩
    obtain rfl:j=q.length:=by simp at hj;omega
    have HP:=hide (show pieces b (l.take (k+1))=q++[z++[c]] by rw[sO.out,ko,if_neg hcb];simp)
    clear hcb sO
    obtain⟨g,cap,hv,hgw⟩:=HO.out.form hpos
    subst hv
    have c1:wr.cell? ⟨g,q.length,none⟩=some (.string ⟨z.toArray⟩):=by
     rw[HO.out.cellAt q.length (by simp)]
     simp[mW]
    have c2:wr.frozen? ⟨g,q.length,none⟩=false:=HO.out.frozenAt q.length
    have HST:=hide (HO.out.stored q.length (.string ⟨(z++[c]).toArray⟩))
    have hgl:=(HO.out.lt g rfl)
    have hx:s.extract k (k+1)=⟨#[c]⟩:=Fq.out
    have hzl:=qy.out z (by simp)
    have hadd:∀w',(Op.stringOp .add ⟨z.toArray⟩ ⟨#[c]⟩).run Tryd.prog w'= .ok (.string ⟨(z++[c]).toArray⟩) w':=fun w'=>run_string_add_lists w' z [c] (by omega) (by simp)
    clear hzl htk qy
    clear hpos
    simp only[List.length_append,List.length_cons,List.length_nil,Nat.zero_add]at*
    have bK:=hide (HB.out.grown HST.out.2 (by have:=HB.out.size;omega) (fun q hq=>by cases hq;exact hgl.1))
    go_wp2
    go_region
    go_wp2
    go_roundw
    case rel=>exact⟨k+1,by omega,by go_num,hide (by rw[HP.out];simpa[mW]using HST.out.1.drew),hide bK.out.drew⟩
    case measure=>simp[intOf];omega
  case neg=>
   obtain rfl:k=n:=by omega
   have hall:l.take k=l:=List.take_of_length_le (by have:=gY.out;omega)
   rw[hall]at HO
   go_wp2
   go_ret
   exact⟨_,rfl,HO.out,HB.out⟩
def cO (b:UInt8):List UInt8→List UInt8×List UInt8
 |[]=>([],[])
 |x::r=>if x=b then([],r)else(x::(cO b r).1,(cO b r).2)
theorem mX (b:UInt8):∀(l:List UInt8),b∉l→cO b l=(l,[])
 |[],_=>rfl
 |x::r,h=>by
  rw[cO,if_neg (fun e=>h (by simp[e])),mX b r (fun e=>h (by simp[e]))]
theorem nP (b:UInt8):∀(l r:List UInt8),b∉l→cO b (l++b::r)=(l,r)
 |[],r,_=>by simp[cO]
 |x::l,r,h=>by
  rw[List.cons_append,cO,if_neg (fun e=>h (by simp[e])),nP b l r (fun e=>h (by simp[e]))]
theorem fU {b:UInt8} :∀ {l:List UInt8},b∈l→∃u v,l=u++b::v∧b∉u
 |x::r,h=>by
  by_cases e:x=b
  ·exact⟨[],r,by simp[e],by simp⟩
  ·obtain⟨u,v,rfl,hu⟩:=fU (l:=r) (by rcases List.mem_cons.1 h with h | h;exact absurd h.symm e;exact h)
   exact⟨x::u,v,rfl,fun h=>by rcases List.mem_cons.1 h with h | h;exact e h.symm;exact hu h⟩
theorem index_one (b:UInt8):∀(l:List UInt8),(b∉l→Lib.index l [b]= -1)∧∀u v,l=u++b::v→b∉u→Lib.index l [b]=u.length
 |[]=>⟨fun _=>rfl,fun u v h=>by simp at h⟩
 |x::r=>by
  obtain⟨h1,h2⟩:=index_one b r
  refine⟨fun h=>?_,fun u v h hu=>?_⟩
  ·have e:b≠x:=fun e=>h (by simp[e])
   rw[Lib.index,if_neg (by simp[List.isPrefixOf,e]),h1 (fun e=>h (by simp[e]))]
   rfl
  ·cases u with
   |nil=>
    simp only[List.nil_append,List.cons.injEq]at h
    rw[Lib.index,if_pos (by simp[List.isPrefixOf,h.1])]
    rfl
   |cons y u=>
    simp only[List.cons_append,List.cons.injEq]at h
    obtain⟨rfl,h⟩:=h
    have e:b≠x:=fun e=>hu (by simp[e])
    have:=h2 u v h (fun e=>hu (by simp[e]))
    rw[Lib.index,if_neg (by simp[List.isPrefixOf,e]),this,if_neg (by simp)]
    simp
theorem CS (b:UInt8) (l:List UInt8):Lib.cut l [b]=((cO b l).1,(cO b l).2,decide (b∈l)):=by
 by_cases h:b∈l
 ·obtain⟨u,v,rfl,hu⟩:=fU h
  have:=(index_one b _).2 u v rfl hu
  rw[Lib.cut,this,if_pos (by omega),nP b u v hu]
  simp
 ·rw[Lib.cut,(index_one b l).1 h,if_neg (by decide),mX b l h]
  simp[h]
theorem zy (b:UInt8) (l:List UInt8):pieces b l=[(cO b l).1,(cO b l).2]∨((pieces b l).length ≠2∧(b∈(cO b l).2∨(cO b l).2=[])):=by
 by_cases h:b∈l
 ·obtain⟨u,v,rfl,hu⟩:=fU h
  rw[gP b u v hu,nP b u v hu]
  by_cases hv:b∈v
  ·right
   refine⟨?_,.inl hv⟩
   obtain⟨x,y,rfl,hx⟩:=fU hv
   rw[gP b x y hx]
   have:=dU b y
   simp only[List.length_cons];omega
  ·left;rw[pieces_eq b v hv]
 ·right
  rw[pieces_eq b l h,mX b l h]
  exact⟨by simp,.inr rfl⟩
theorem Bt (m:Int):aF [] m= -1:=rfl
theorem wE {l:List UInt8} {m:Int} {x:UInt8} (h:x∈l) (hx:iR x=false):aF l m= -1:=by
 refine jF ?_
 have:l.all iR=false:=by
  rw[Bool.eq_false_iff]
  intro e
  rw[List.all_eq_true.1 e x h]at hx;cases hx
 simp[numeral,this]
theorem gW (l:List UInt8) (m:Int): -1≤aF l m:=by unfold aF;split<;>omega
theorem dP (l:List UInt8) (m:Int) (h:0≤aF l m):aF l m<m:=by unfold aF at*;split<;>simp_all
theorem qz (b:UInt8) (l:List UInt8):Lib.splitK [b] 0 (Lib.count l [b]) l=pieces b l:=by
 by_cases h:b∈l
 ·obtain⟨u,v,rfl,hu⟩:=fU h
  have hi:=(index_one b (u++b::v)).2 u v rfl hu
  have hd:(u++b::v).drop (u.length+[b].length)=v:=by simp
  rw[Lib.count_hit (by simp) hi,hd,Nat.add_comm,Lib.splitK,hi,if_neg (by simp),show((u.length:Int)).toNat =u.length from rfl,hd,qz b v,gP b u v hu]
  simp
 ·rw[Lib.count_miss ((index_one b l).1 h),pieces_eq b l h];rfl
termination_by l.length
decreasing_by simp[*];omega
def dO (sep:List UInt8):List (List UInt8)→List UInt8
 |[]=>[]
 |[x]=>x
 |x::y::r=>x++sep++dO sep (y::r)
theorem wF (sep:List UInt8):∀xs,Lib.join xs sep=dO sep xs
 |[]=>rfl
 |[x]=>by simp[Lib.join,dO,List.intercalate]
 |x::y::r=>by
  have:=wF sep (y::r)
  simp only[Lib.join,dO,List.intercalate,List.intersperse_cons_cons,List.flatten_cons]at this ⊢
  rw[this,List.append_assoc]
theorem uU (sep:List UInt8):∀(xs:List (List UInt8)) (x:List UInt8),xs≠[]→dO sep (xs++[x])=dO sep xs++sep++x
 |[y],x,_=>rfl
 |y::z::r,x,_=>by
  have:=uU sep (z::r) x (by simp)
  simp only[List.cons_append,dO]at this ⊢
  rw[this];simp
def lG (most:Nat) (l:List UInt8):Option (Nat×Nat):=
 let lo:=aF (cO 45 l).1 most
 let hi:=aF (if 45∈l then(cO 45 l).2 else(cO 45 l).1) most
 if lo<0∨hi<lo then none else some (lo.toNat,hi.toNat)
def dV (set:Nat) (xs:List Nat):Nat:=xs.foldl (fun s n=>s ||| 2 ^ n) set
def dQ (most:Nat):Nat→List (List UInt8)→Option Nat
 |set,[]=>some set
 |set,l::r=>match lG most l with
  |none=>none
  |some (lo,hi)=>dQ most (dV set (List.range' lo (hi+1 - lo))) r
def cZ (l:List UInt8) (most:Nat):Option Nat:=if l=[42]then some (2 ^ most - 1)else if l=[45]then some 0 else dQ most 0 (pieces 44 l)
theorem sD:∀(xs:List Nat) (set i:Nat),(dV set xs).testBit i=(set.testBit i || decide (i∈xs))
 |[],set,i=>by simp[dV]
 |x::xs,set,i=>by
  have:=sD xs (set ||| 2 ^ x) i
  simp only[dV,List.foldl_cons]at this ⊢
  rw[this,Nat.testBit_or,Nat.testBit_two_pow]
  by_cases e:x=i
  ·subst e;simp
  ·simp[e,Ne.symm e,Bool.or_assoc]
def aU (l:List UInt8):M4×Int:=
 if 300<l.length then(⟨0,0,0,0⟩,2)else
 match pieces 32 l with
 |[a,b,c,d]=>match cZ a 16,cZ b 8,cZ c 16,cZ d 8 with
  |some x,some y,some z,some u=>(⟨x,z,y,u⟩,0)
  |_,_,_,_=>(⟨0,0,0,0⟩,3)
 |_=>(⟨0,0,0,0⟩,3)
theorem jL {l:List UInt8} {most:Nat} {x:Nat} (hm:0<most) (h:cZ l most=some x):x<2 ^ most:=by
 have hp:0<2 ^ most:=Nat.two_pow_pos most
 unfold cZ at h
 split at h
 ·cases h;omega
 ·split at h
  ·cases h;exact hp
  ·have key:∀(rs:List (List UInt8)) (set:Nat),set<2 ^ most→∀x,dQ most set rs=some x→x<2 ^ most:=by
    intro rs
    induction rs with
    |nil=>intro set hs x hx;cases hx;exact hs
    |cons r rs ih=>
     intro set hs x hx
     unfold dQ at hx
     split at hx
     ·cases hx
     ·rename_i lo hi hr
      refine ih _ ?_ x hx
      have hhi:hi<most:=by
       obtain⟨q,hq⟩:∃q,(if 45∈r then(cO 45 r).2 else(cO 45 r).1)=q:=⟨_,rfl⟩
       simp only[lG,hq]at hr
       split at hr
       ·cases hr
       ·simp only[Option.some.injEq,Prod.mk.injEq]at hr
        have:=dP q most (by omega)
        omega
      apply Nat.lt_pow_two_of_testBit
      intro i hi'
      rw[sD,Nat.testBit_lt_two_pow (Nat.lt_of_lt_of_le hs (Nat.pow_le_pow_right (by decide) hi')),Bool.false_or]
      exact decide_eq_false (by simp only[List.mem_range'_1];omega)
   exact key _ 0 hp x h
theorem qA {l:List UInt8} :(aU l).1.ok :=by
 unfold aU
 split
 ·exact⟨by decide,by decide,by decide,by decide⟩
 ·split
  ·split
   ·rename_i h1 h2 h3 h4
    exact⟨jL (most:=16) (by decide) h1,jL (most:=16) (by decide) h3,jL (most:=8) (by decide) h2,jL (most:=8) (by decide) h4⟩
   ·exact⟨by decide,by decide,by decide,by decide⟩
  ·exact⟨by decide,by decide,by decide,by decide⟩
end Go.Proofs.YtifkacnoiocebaaDoor
