/- A part of the proof: Mt3, Mt4. -/
import Derived.Test.YtifkacnoiocebaaDoorNk5
set_option linter.unusedVariables false
set_option linter.unusedSimpArgs false
set_option maxRecDepth 100000
set_option maxHeartbeats 8000000
namespace Go.Proofs.YtifkacnoiocebaaDoor
open Go.RowKit
theorem jB {w:World} {b:Nat} {x0 x1 x2:Value} {t:TypeId} (h:w.heap[b]?=some (.cells #[x0,x1,x2] t)):
  w.cell? ⟨b,0,none⟩=some x0∧w.cell? ⟨b,1,none⟩=some x1∧w.cell? ⟨b,2,none⟩=some x2:=
 ⟨by rw[cell_of_row _ _ _ _ _ _ h];rfl,by rw[cell_of_row _ _ _ _ _ _ h];rfl,by rw[cell_of_row _ _ _ _ _ _ h];rfl⟩
theorem zJ {set most:Nat} (hs:set<2 ^ most) (hne:set≠0):bW set.testBit most 0≠[]:=by
 intro e
 refine hne (Nat.eq_of_testBit_eq fun i=>?_)
 rw[Nat.zero_testBit]
 cases hb:set.testBit i with
 |false=>rfl
 |true=>
  have hi:i<most:=by
   rcases Nat.lt_or_ge i most with h | h
   ·exact h
   ·rw[Nat.testBit_lt_two_pow (Nat.lt_of_lt_of_le hs (Nat.pow_le_pow_right (by decide) h))]at hb;cases hb
  obtain⟨r,hr,_⟩:=pq set.testBit most 0 i (Nat.zero_le _) hi hb
  rw[e]at hr;simp at hr
theorem rY (set:Nat) (first:Int) (W:World) (hs:set<65536):
  Calls Tryd.prog 78 #[.agg #[.int .u16 (set:Int),.int .i64 4,.int .i64 first]] W fun e W'=>e= .returned (.string ⟨(bq set 16).toArray⟩)∧Below W.heap.size W W':=by
 obtain⟨i0,hi0,hz0,hz1,hz2⟩:=info_parts Tryd.infoString
 have hb0:=(Below.refl W.heap.size W).alloc (Nat.le_refl _) (.cells #[.int .u16 (set:Int),.int .i64 4,.int .i64 first] 124)
 have hx:=heap_alloc_new W (.cells #[.int .u16 (set:Int),.int .i64 4,.int .i64 first] 124)
 have hsz:(W.alloc (.cells #[.int .u16 (set:Int),.int .i64 4,.int .i64 first] 124)).heap.size =W.heap.size+1:=by simp
 obtain⟨x0,x1,x2⟩:=jB hx
 have HS:=hide hs
 by_cases h0:set=0
 ·have HW:=hide (show bq set 16=[45] by rw[bq,if_pos h0])
  rw[HW.out]
  subst h0
  clear HW HS hs
  go_enter Tryd.func78,Tryd.ntmps78
  go_wp2
  go_ret
  exact⟨rfl,hb0⟩
 have e0:((set:Int)==0)=false:=by simp;omega
 by_cases hf:set=2 ^ 16 - 1
 ·have HW:=hide (show bq set 16=[42] by rw[bq,if_neg h0,if_pos hf])
  rw[HW.out]
  have hf':set=65536 - 1:=hf
  subst hf'
  clear HW HS hs hf h0 e0
  go_enter Tryd.func78,Tryd.ntmps78
  go_wp2_with fail
  have HB:=hide hb0
  generalize W.alloc (.cells #[.int .u16 _,.int .i64 4,.int .i64 first] 124)=w1 at*
  clear hx hb0 hsz
  go_quiet (fail)
  go_wp2
  go_ret
  exact⟨rfl,HB.out.trans ((below_drewN w1 _).mono HB.out.size)⟩
 have e1:((set:Int)==IntKind.u16.wrap (IntKind.u16.wrap 65536 - 1))=false:=by
  rw[show IntKind.u16.wrap (IntKind.u16.wrap 65536 - 1)=(65536 - 1:Int) by decide]
  simp;omega
 have e2:((set:Int)==65535)=false:=by simp;omega
 have e3:((set:Int)==IntKind.u16.wrap (65536 - 1))=false:=by
  rw[show IntKind.u16.wrap (65536 - 1)=(65535:Int) by decide];simp;omega
 have HW:=hide (show bq set 16=aS [44] ((bW set.testBit 16 0).map dI) by rw[bq,if_neg h0,if_neg hf])
 rw[HW.out]
 have sP:=hide (fun k=>zi set k (show set<65536 by omega))
 have xV:=hide (nk set.testBit 16 0)
 have BR:=hide (zJ (most:=16) hs h0)
 have HLEN:=hide (o9 set.testBit 16 0)
 have sQ:=hide (jw set.testBit 16)
 have sS:=hide (rC set.testBit 16)
 have xW:=hide (fun n (h:n<16∧set.testBit n=true)=>lT h)
 have xX:=hide (fun n (h:¬(n<16∧set.testBit n=true))=>mW h)
 have sU:=hide (fun n (h:n<16)=>l7 (S:=set.testBit) h)
 have jo:=hide (fun n (h:¬n<16)=>nP (S:=set.testBit) h)
 clear hs hf h0 HS
 obtain⟨S,hS⟩:∃S:Nat→Bool,set.testBit=S:=⟨_,rfl⟩
 have vL:=hide (fun k=>show(Go.bits .and .u16 ((set:Int) / 2 ^ k) 1==1)=S k from by rw[sP.out,hS])
 rw[hS]at xV BR HLEN sQ sS xW xX sU jo HW
 rw[hS]
 clear sP hS HW
 go_enter Tryd.func78,Tryd.ntmps78
 go_wp2_with fail
 have HX:=hide hx
 have HB:=hide hb0
 have l8:=hide hsz
 generalize W.alloc (.cells #[.int .u16 (set:Int),.int .i64 4,.int .i64 first] 124)=w1 at*
 clear hx hb0 hsz
 go_quiet (fail)
 go_wp2_with fail
 have HB1:=hide (HB.out.trans ((below_drewN w1 nq).mono HB.out.size))
 have hsz1:(w1.drewN nq).heap.size =W.heap.size+1:=l8.out
 have fF:=hide (show(w1.drewN nq).heap[W.heap.size]?=some (.cells #[.int .u16 (set:Int),.int .i64 4,.int .i64 first] 124)from HX.out)
 generalize w1.drewN nq=w2 at*
 have xY:=hide hsz1
 clear HX HB l8 x0 x1 x2 hsz1
 go_loopw [4,5] (fun v i wr=>∃(n:Nat) (os:List (Nat×Nat)),n≤16+1∧i= .int .i64 (n:Int)∧Hid (os++bW S 16 n=bW S 16 0)∧os.length≤n∧Hid (wr.ownsRow (W.heap.size+1) 9 1 v os.length ((os.map dI).map gD))∧Hid (Below (W.heap.size+1) w2 wr)) (fun _ i _=>16+1 - (intOf i).toNat)
 case atStart=>exact⟨0,[],by omega,rfl,hide rfl,Nat.le_refl _,hide (World.ownsRow_nil _ _ _ _),hide (Below.refl _ _)⟩
 case round=>
  obtain⟨n,os,hn,rfl,HR,hol,HO,aA⟩:=hrel
  have hx3:=(aA.out.block W.heap.size (Nat.lt_succ_self _)).trans fF.out
  have Hf:=aA.out.size
  have hwz:W.heap.size+1≤wr.heap.size:=by have:=xY.out;omega
  by_cases hlt:n<16
  case pos=>
   have uH:(n:Int)<16:=by omega
   obtain⟨x0,x1,x2⟩:=jB hx3
   have jg:=hide (sU.out n hlt)
   have hge:=sQ.out n
   have hle:=sS.out n (Nat.le_of_lt hlt)
   obtain⟨E,hE⟩:∃E,bS S 16 n=E:=⟨_,rfl⟩
   rw[hE]at jg hge hle
   have HE:=hide hE
   clear hE hx3 sU sS
   go_wp2_with fail
   go_loopw [5] (fun i wi=>∃k:Nat,n≤k∧k≤E∧i= .int .i64 (k:Int)∧Hid (bS S 16 k=E)∧wi=wr) (fun i _=>16 - (intOf i).toNat)
   case atStart=>exact⟨n,Nat.le_refl _,hge,rfl,HE,rfl⟩
   case round=>
    obtain⟨k,hk1,hk2,rfl,HK,rfl⟩:=hrel
    have oz:=hide (vL.out k)
    by_cases hin:k<16∧S k=true
    case pos=>
     have Iq:(k:Int)<16:=by omega
     have hb:(Go.bits .and .u16 ((set:Int) / 2 ^ k) 1==1)=true:=by rw[oz.out];exact hin.2
     have hst:=xW.out k hin
     have hg:=sQ.out (k+1)
     have hk3:k+1≤E:=by rw[← HK.out,hst];exact hg
     have Fh:=hide (show bS S 16 (k+1)=E by rw[← hst];exact HK.out)
     clear hst hg HK oz
     go_wp2_with fail
     go_roundw
     case rel=>exact⟨k+1,by omega,by omega,by go_num,Fh,trivial⟩
     case measure=>simp[intOf];omega
    case neg=>
     have hst:k=E:=by rw[← HK.out];exact(xX.out k hin).symm
     have hcase:decide ((k:Int)<16)=false∨((k:Int)<16∧(Go.bits .and .u16 ((set:Int) / 2 ^ k) 1==1)=false):=by
      by_cases h:k<16
      ·right
       refine⟨by omega,?_⟩
       rw[oz.out]
       cases e:S k with
       |false=>rfl
       |true=>exact absurd ⟨h,e⟩ hin
      ·left;simp;omega
     obtain⟨d,hd⟩:∃d,E=n+d:=⟨E - n,by omega⟩
     clear HK oz hin
     subst hst
     have kC:=hide hd
     clear hd
     rcases d with _ | _ | d
     ·have q0:(k:Int) - (n:Int)=0:=by have:=kC.out;omega
      have HR2:=hide (show os++bW S 16 (k+1)=bW S 16 0 by have h:=HR.out;rw[jg.out,if_neg (by have:=kC.out;omega)]at h;exact h)
      clear HR jg HE
      rcases hcase with g1 | ⟨g1,g2⟩
      all_goals
       go_wp2_with fail
       go_roundw
       case rel=>exact⟨k+1,os,by omega,by go_num,HR2,by omega,HO,aA⟩
       case measure=>simp[intOf];omega
     ·have q0:((k:Int) - (n:Int)==0)=false:=by have:=kC.out;simp;omega
      have q1:(k:Int) - (n:Int)=1:=by have:=kC.out;omega
      have HR2:=hide (show(os++[(n,n)])++bW S 16 (k+1)=bW S 16 0 by have h:=HR.out;have hk:=kC.out;rw[jg.out,if_pos (by omega),show k - 1=n by omega]at h;simpa using h)
      have HT:=hide (show dI (n,n)=Lib.decDigits n by simp[dI])
      have HI:=hide (fun w=>(Tryd.strconv_Itoa_small n (by omega) w).mono (fun e w' h=>show e= .returned (.string ⟨(Lib.decDigits n).toArray⟩)∧w=w' from⟨h.1,h.2.symm⟩))
      obtain⟨X,q9⟩:∃X,Lib.decDigits n=X:=⟨_,rfl⟩
      rw[q9]at HT HI
      have sV:k+1≤16+1:=by omega
      clear q9 HR jg HE
      have fT:=hide (show Reads (wr.alloc (.cells #[.string ⟨(X).toArray⟩] 9)) (wr.heap.size+1) 1 (some ⟨wr.heap.size,0,none⟩) 1 [.string ⟨(X).toArray⟩]from
       ⟨rfl,fun _=>⟨_,rfl,Nat.lt_succ_self _,fun j u hu=>by
        rw[addr_add,Nat.zero_add,cell_of_row _ _ _ _ _ _ (heap_alloc_new wr _)]
        simpa using hu⟩⟩)
      have jK:=hide (HO.out.alloc (.cells #[.string ⟨(X).toArray⟩] 9))
      have ak:=hide (aA.out.alloc hwz (.cells #[.string ⟨(X).toArray⟩] 9))
      clear HO aA
      rcases hcase with g1 | ⟨g1,g2⟩
      all_goals
       go_wp2_with (first | (go_at_call 25;refine(HI.out _).mono ?_;rintro e w3 ⟨rfl,rfl⟩) | (at_builtin;refine aY _ rfl (.tmp 55) (.tmp 58) 45 rfl (W.heap.size+1) 9 i0 _ 1 16 Tryd.underlying45 hi0 hz0 hz1 hz2 rfl (by omega) _ os.length ((os.map dI).map gD) rfl jK.out (wr.heap.size+1) (some ⟨wr.heap.size,0,none⟩) 1 1 [.string ⟨(X).toArray⟩] rfl fT.out (by intro u hu;simp at hu;subst hu;rfl) (by simp only[maxLen];omega) (by omega) (by simp;omega) ?_;intro v5 w5 hown5 hg5 gP;have iK:=hide hown5;have bH:=hide (ak.out.grown hg5 (by simp;omega) (fun q hq=>(jK.out.lt q hq).1));clear hown5 hg5 gP)
       )
       go_roundw
       case rel=>exact⟨k+1,os++[(n,n)],sV,by go_num,HR2,by simp;omega,hide (by simpa[HT.out,gD]using iK.out),bH⟩
       case measure=>simp[intOf];omega
     ·have q0:((k:Int) - (n:Int)==0)=false:=by have:=kC.out;simp;omega
      have q1:((k:Int) - (n:Int)==1)=false:=by have:=kC.out;simp;omega
      have HR2:=hide (show(os++[(n,k - 1)])++bW S 16 (k+1)=bW S 16 0 by have h:=HR.out;have hk:=kC.out;rw[jg.out,if_pos (by omega)]at h;simpa using h)
      have HT:=hide (show dI (n,k - 1)=Lib.decDigits n++45::Lib.decDigits (k - 1) by have:=kC.out;rw[dI,if_pos (by show n<k - 1;omega)])
      have HI:=hide (fun w=>(Tryd.strconv_Itoa_small n (by omega) w).mono (fun e w' h=>show e= .returned (.string ⟨(Lib.decDigits n).toArray⟩)∧w=w' from⟨h.1,h.2.symm⟩))
      have HJ:=hide (fun w=>show Calls Tryd.prog 25 #[.int .i64 ((k:Int) - 1)] w (fun e w'=>e= .returned (.string ⟨(Lib.decDigits (k - 1)).toArray⟩)∧w=w')from by
       rw[show((k:Int) - 1)=((k - 1:Nat):Int) by have:=kC.out;omega]
       exact(Tryd.strconv_Itoa_small (k - 1) (by omega) w).mono (fun e w' h=>⟨h.1,h.2.symm⟩))
      have l1:=bf (show n<100 by omega)
      have l2:=bf (show k - 1<100 by omega)
      obtain⟨X,q9⟩:∃X,Lib.decDigits n=X:=⟨_,rfl⟩
      obtain⟨Y,BS⟩:∃Y,Lib.decDigits (k - 1)=Y:=⟨_,rfl⟩
      rw[q9]at HT HI l1
      rw[BS]at HT HJ l2
      have s1:∀w',(Op.stringOp .add ⟨X.toArray⟩ ⟨#[45]⟩).run Tryd.prog w'= .ok (.string ⟨(X++[45]).toArray⟩) w':=aj X [45] (by omega) (by simp)
      have s2:∀w',(Op.stringOp .add ⟨(X++[45]).toArray⟩ ⟨Y.toArray⟩).run Tryd.prog w'= .ok (.string ⟨(X++45::Y).toArray⟩) w':=fun w'=>by
       have:=aj (X++[45]) Y (by simp;omega) (by omega) w'
       simpa using this
      have sV:k+1≤16+1:=by omega
      have hki:(-9223372036854775808:Int)≤(k:Int) - 1∧(k:Int) - 1≤9223372036854775807:=by omega
      clear q9 BS HR jg HE l1 l2
      have fT:=hide (show Reads (wr.alloc (.cells #[.string ⟨(X++45::Y).toArray⟩] 9)) (wr.heap.size+1) 1 (some ⟨wr.heap.size,0,none⟩) 1 [.string ⟨(X++45::Y).toArray⟩]from
       ⟨rfl,fun _=>⟨_,rfl,Nat.lt_succ_self _,fun j u hu=>by
        rw[addr_add,Nat.zero_add,cell_of_row _ _ _ _ _ _ (heap_alloc_new wr _)]
        simpa using hu⟩⟩)
      have jK:=hide (HO.out.alloc (.cells #[.string ⟨(X++45::Y).toArray⟩] 9))
      have ak:=hide (aA.out.alloc hwz (.cells #[.string ⟨(X++45::Y).toArray⟩] 9))
      clear HO aA
      rcases hcase with g1 | ⟨g1,g2⟩
      all_goals
       go_wp2_with (first | (go_at_call_of 25 (Value.int .i64 (n:Int));refine(HI.out _).mono ?_;rintro e w3 ⟨rfl,rfl⟩) | (go_at_call 25;refine(HJ.out _).mono ?_;rintro e w3 ⟨rfl,rfl⟩) | (at_builtin;refine aY _ rfl (.tmp 41) (.tmp 49) 45 rfl (W.heap.size+1) 9 i0 _ 1 16 Tryd.underlying45 hi0 hz0 hz1 hz2 rfl (by omega) _ os.length ((os.map dI).map gD) rfl jK.out (wr.heap.size+1) (some ⟨wr.heap.size,0,none⟩) 1 1 [.string ⟨(X++45::Y).toArray⟩] rfl fT.out (by intro u hu;simp at hu;subst hu;rfl) (by simp only[maxLen];omega) (by omega) (by simp;omega) ?_;intro v5 w5 hown5 hg5 gP;have iK:=hide hown5;have bH:=hide (ak.out.grown hg5 (by simp;omega) (fun q hq=>(jK.out.lt q hq).1));clear hown5 hg5 gP)
       )
       go_roundw
       case rel=>exact⟨k+1,os++[(n,k - 1)],sV,by go_num,HR2,by simp;omega,hide (by simpa[HT.out,gD]using iK.out),bH⟩
       case measure=>simp[intOf];omega
  case neg=>
   have hos:os=bW S 16 0:=by have h:=HR.out;rw[jo.out n hlt,List.append_nil]at h;exact h
   have hd1:decide ((n:Int)<16)=false:=by simp;omega
   have Fj:=hide (show(aS [44] (os.map dI)).length ≤1000 from by
    have h1:=ni [44] 5 (os.map dI) (fun x hx=>by
     obtain⟨r,hr,rfl⟩:=List.mem_map.1 hx
     have:=xV.out r (by rw[← hos];exact hr)
     exact sG (by omega) (by omega))
    simp only[List.length_map,List.length_cons,List.length_nil]at h1
    omega)
   have hpos:0<os.length:=List.length_pos_iff.2 (by rw[hos];exact BR.out)
   obtain⟨g,cap,hv,hgw⟩:=HO.out.form hpos
   subst hv
   have hcap:os.length≤cap:=by
    rcases HO.out.2 with⟨h,_⟩ | ⟨g',cap',cur,h,_,_,hnc,_⟩
    ·cases h
    ·cases h;exact hnc
   have HST:=hide (show bR wr (W.heap.size+1) g os.length cap (os.map dI)from⟨HO.out,by simp⟩)
   have HJ:=hide (fun w (h:bR w (W.heap.size+1) g os.length cap (os.map dI))=>ow (os.map dI) 44 (W.heap.size+1) g os.length cap w h (by have:=Fj.out;omega) (by omega) hcap)
   have cu:=hide (HB1.out.trans (aA.out.mono (by have:=xY.out;omega)))
   have Fp:=hide hos
   clear HO HR hlt hos hgw hcap hx3 aA
   go_wp2_with fail
   refine(HJ.out _ HST.out).mono ?_
   rintro e w9 ⟨rfl,hb⟩
   have jP:=hide (cu.out.trans (hb.mono cu.out.size))
   clear hb
   go_wp2
   go_ret
   exact⟨by rw[← Fp.out];rfl,jP.out⟩
theorem uo (set:Nat) (first:Int) (W:World) (hs:set<256):
  Calls Tryd.prog 78 #[.agg #[.int .u16 (set:Int),.int .i64 3,.int .i64 first]] W fun e W'=>e= .returned (.string ⟨(bq set 8).toArray⟩)∧Below W.heap.size W W':=by
 obtain⟨i0,hi0,hz0,hz1,hz2⟩:=info_parts Tryd.infoString
 have hb0:=(Below.refl W.heap.size W).alloc (Nat.le_refl _) (.cells #[.int .u16 (set:Int),.int .i64 3,.int .i64 first] 124)
 have hx:=heap_alloc_new W (.cells #[.int .u16 (set:Int),.int .i64 3,.int .i64 first] 124)
 have hsz:(W.alloc (.cells #[.int .u16 (set:Int),.int .i64 3,.int .i64 first] 124)).heap.size =W.heap.size+1:=by simp
 obtain⟨x0,x1,x2⟩:=jB hx
 have HS:=hide hs
 by_cases h0:set=0
 ·have HW:=hide (show bq set 8=[45] by rw[bq,if_pos h0])
  rw[HW.out]
  subst h0
  clear HW HS hs
  go_enter Tryd.func78,Tryd.ntmps78
  go_wp2
  go_ret
  exact⟨rfl,hb0⟩
 have e0:((set:Int)==0)=false:=by simp;omega
 by_cases hf:set=2 ^ 8 - 1
 ·have HW:=hide (show bq set 8=[42] by rw[bq,if_neg h0,if_pos hf])
  rw[HW.out]
  have hf':set=256 - 1:=hf
  subst hf'
  clear HW HS hs hf h0 e0
  go_enter Tryd.func78,Tryd.ntmps78
  go_wp2_with fail
  have HB:=hide hb0
  generalize W.alloc (.cells #[.int .u16 _,.int .i64 3,.int .i64 first] 124)=w1 at*
  clear hx hb0 hsz
  go_quiet (fail)
  go_wp2
  go_ret
  exact⟨rfl,HB.out.trans ((below_drewN w1 _).mono HB.out.size)⟩
 have e1:((set:Int)==IntKind.u16.wrap (IntKind.u16.wrap 256 - 1))=false:=by
  rw[show IntKind.u16.wrap (IntKind.u16.wrap 256 - 1)=(256 - 1:Int) by decide]
  simp;omega
 have e2:((set:Int)==255)=false:=by simp;omega
 have e3:((set:Int)==IntKind.u16.wrap (256 - 1))=false:=by
  rw[show IntKind.u16.wrap (256 - 1)=(255:Int) by decide];simp;omega
 have HW:=hide (show bq set 8=aS [44] ((bW set.testBit 8 0).map dI) by rw[bq,if_neg h0,if_neg hf])
 rw[HW.out]
 have sP:=hide (fun k=>zi set k (show set<65536 by omega))
 have xV:=hide (nk set.testBit 8 0)
 have BR:=hide (zJ (most:=8) hs h0)
 have HLEN:=hide (o9 set.testBit 8 0)
 have sQ:=hide (jw set.testBit 8)
 have sS:=hide (rC set.testBit 8)
 have xW:=hide (fun n (h:n<8∧set.testBit n=true)=>lT h)
 have xX:=hide (fun n (h:¬(n<8∧set.testBit n=true))=>mW h)
 have sU:=hide (fun n (h:n<8)=>l7 (S:=set.testBit) h)
 have jo:=hide (fun n (h:¬n<8)=>nP (S:=set.testBit) h)
 clear hs hf h0 HS
 obtain⟨S,hS⟩:∃S:Nat→Bool,set.testBit=S:=⟨_,rfl⟩
 have vL:=hide (fun k=>show(Go.bits .and .u16 ((set:Int) / 2 ^ k) 1==1)=S k from by rw[sP.out,hS])
 rw[hS]at xV BR HLEN sQ sS xW xX sU jo HW
 rw[hS]
 clear sP hS HW
 go_enter Tryd.func78,Tryd.ntmps78
 go_wp2_with fail
 have HX:=hide hx
 have HB:=hide hb0
 have l8:=hide hsz
 generalize W.alloc (.cells #[.int .u16 (set:Int),.int .i64 3,.int .i64 first] 124)=w1 at*
 clear hx hb0 hsz
 go_quiet (fail)
 go_wp2_with fail
 have HB1:=hide (HB.out.trans ((below_drewN w1 nq).mono HB.out.size))
 have hsz1:(w1.drewN nq).heap.size =W.heap.size+1:=l8.out
 have fF:=hide (show(w1.drewN nq).heap[W.heap.size]?=some (.cells #[.int .u16 (set:Int),.int .i64 3,.int .i64 first] 124)from HX.out)
 generalize w1.drewN nq=w2 at*
 have xY:=hide hsz1
 clear HX HB l8 x0 x1 x2 hsz1
 go_loopw [4,5] (fun v i wr=>∃(n:Nat) (os:List (Nat×Nat)),n≤8+1∧i= .int .i64 (n:Int)∧Hid (os++bW S 8 n=bW S 8 0)∧os.length≤n∧Hid (wr.ownsRow (W.heap.size+1) 9 1 v os.length ((os.map dI).map gD))∧Hid (Below (W.heap.size+1) w2 wr)) (fun _ i _=>8+1 - (intOf i).toNat)
 case atStart=>exact⟨0,[],by omega,rfl,hide rfl,Nat.le_refl _,hide (World.ownsRow_nil _ _ _ _),hide (Below.refl _ _)⟩
 case round=>
  obtain⟨n,os,hn,rfl,HR,hol,HO,aA⟩:=hrel
  have hx3:=(aA.out.block W.heap.size (Nat.lt_succ_self _)).trans fF.out
  have Hf:=aA.out.size
  have hwz:W.heap.size+1≤wr.heap.size:=by have:=xY.out;omega
  by_cases hlt:n<8
  case pos=>
   have uH:(n:Int)<8:=by omega
   obtain⟨x0,x1,x2⟩:=jB hx3
   have jg:=hide (sU.out n hlt)
   have hge:=sQ.out n
   have hle:=sS.out n (Nat.le_of_lt hlt)
   obtain⟨E,hE⟩:∃E,bS S 8 n=E:=⟨_,rfl⟩
   rw[hE]at jg hge hle
   have HE:=hide hE
   clear hE hx3 sU sS
   go_wp2_with fail
   go_loopw [5] (fun i wi=>∃k:Nat,n≤k∧k≤E∧i= .int .i64 (k:Int)∧Hid (bS S 8 k=E)∧wi=wr) (fun i _=>8 - (intOf i).toNat)
   case atStart=>exact⟨n,Nat.le_refl _,hge,rfl,HE,rfl⟩
   case round=>
    obtain⟨k,hk1,hk2,rfl,HK,rfl⟩:=hrel
    have oz:=hide (vL.out k)
    by_cases hin:k<8∧S k=true
    case pos=>
     have Iq:(k:Int)<8:=by omega
     have hb:(Go.bits .and .u16 ((set:Int) / 2 ^ k) 1==1)=true:=by rw[oz.out];exact hin.2
     have hst:=xW.out k hin
     have hg:=sQ.out (k+1)
     have hk3:k+1≤E:=by rw[← HK.out,hst];exact hg
     have Fh:=hide (show bS S 8 (k+1)=E by rw[← hst];exact HK.out)
     clear hst hg HK oz
     go_wp2_with fail
     go_roundw
     case rel=>exact⟨k+1,by omega,by omega,by go_num,Fh,trivial⟩
     case measure=>simp[intOf];omega
    case neg=>
     have hst:k=E:=by rw[← HK.out];exact(xX.out k hin).symm
     have hcase:decide ((k:Int)<8)=false∨((k:Int)<8∧(Go.bits .and .u16 ((set:Int) / 2 ^ k) 1==1)=false):=by
      by_cases h:k<8
      ·right
       refine⟨by omega,?_⟩
       rw[oz.out]
       cases e:S k with
       |false=>rfl
       |true=>exact absurd ⟨h,e⟩ hin
      ·left;simp;omega
     obtain⟨d,hd⟩:∃d,E=n+d:=⟨E - n,by omega⟩
     clear HK oz hin
     subst hst
     have kC:=hide hd
     clear hd
     rcases d with _ | _ | d
     ·have q0:(k:Int) - (n:Int)=0:=by have:=kC.out;omega
      have HR2:=hide (show os++bW S 8 (k+1)=bW S 8 0 by have h:=HR.out;rw[jg.out,if_neg (by have:=kC.out;omega)]at h;exact h)
      clear HR jg HE
      rcases hcase with g1 | ⟨g1,g2⟩
      all_goals
       go_wp2_with fail
       go_roundw
       case rel=>exact⟨k+1,os,by omega,by go_num,HR2,by omega,HO,aA⟩
       case measure=>simp[intOf];omega
     ·have q0:((k:Int) - (n:Int)==0)=false:=by have:=kC.out;simp;omega
      have q1:(k:Int) - (n:Int)=1:=by have:=kC.out;omega
      have HR2:=hide (show(os++[(n,n)])++bW S 8 (k+1)=bW S 8 0 by have h:=HR.out;have hk:=kC.out;rw[jg.out,if_pos (by omega),show k - 1=n by omega]at h;simpa using h)
      have HT:=hide (show dI (n,n)=Lib.decDigits n by simp[dI])
      have HI:=hide (fun w=>(Tryd.strconv_Itoa_small n (by omega) w).mono (fun e w' h=>show e= .returned (.string ⟨(Lib.decDigits n).toArray⟩)∧w=w' from⟨h.1,h.2.symm⟩))
      obtain⟨X,q9⟩:∃X,Lib.decDigits n=X:=⟨_,rfl⟩
      rw[q9]at HT HI
      have sV:k+1≤8+1:=by omega
      clear q9 HR jg HE
      have fT:=hide (show Reads (wr.alloc (.cells #[.string ⟨(X).toArray⟩] 9)) (wr.heap.size+1) 1 (some ⟨wr.heap.size,0,none⟩) 1 [.string ⟨(X).toArray⟩]from
       ⟨rfl,fun _=>⟨_,rfl,Nat.lt_succ_self _,fun j u hu=>by
        rw[addr_add,Nat.zero_add,cell_of_row _ _ _ _ _ _ (heap_alloc_new wr _)]
        simpa using hu⟩⟩)
      have jK:=hide (HO.out.alloc (.cells #[.string ⟨(X).toArray⟩] 9))
      have ak:=hide (aA.out.alloc hwz (.cells #[.string ⟨(X).toArray⟩] 9))
      clear HO aA
      rcases hcase with g1 | ⟨g1,g2⟩
      all_goals
       go_wp2_with (first | (go_at_call 25;refine(HI.out _).mono ?_;rintro e w3 ⟨rfl,rfl⟩) | (at_builtin;refine aY _ rfl (.tmp 55) (.tmp 58) 45 rfl (W.heap.size+1) 9 i0 _ 1 16 Tryd.underlying45 hi0 hz0 hz1 hz2 rfl (by omega) _ os.length ((os.map dI).map gD) rfl jK.out (wr.heap.size+1) (some ⟨wr.heap.size,0,none⟩) 1 1 [.string ⟨(X).toArray⟩] rfl fT.out (by intro u hu;simp at hu;subst hu;rfl) (by simp only[maxLen];omega) (by omega) (by simp;omega) ?_;intro v5 w5 hown5 hg5 gP;have iK:=hide hown5;have bH:=hide (ak.out.grown hg5 (by simp;omega) (fun q hq=>(jK.out.lt q hq).1));clear hown5 hg5 gP)
       )
       go_roundw
       case rel=>exact⟨k+1,os++[(n,n)],sV,by go_num,HR2,by simp;omega,hide (by simpa[HT.out,gD]using iK.out),bH⟩
       case measure=>simp[intOf];omega
     ·have q0:((k:Int) - (n:Int)==0)=false:=by have:=kC.out;simp;omega
      have q1:((k:Int) - (n:Int)==1)=false:=by have:=kC.out;simp;omega
      have HR2:=hide (show(os++[(n,k - 1)])++bW S 8 (k+1)=bW S 8 0 by have h:=HR.out;have hk:=kC.out;rw[jg.out,if_pos (by omega)]at h;simpa using h)
      have HT:=hide (show dI (n,k - 1)=Lib.decDigits n++45::Lib.decDigits (k - 1) by have:=kC.out;rw[dI,if_pos (by show n<k - 1;omega)])
      have HI:=hide (fun w=>(Tryd.strconv_Itoa_small n (by omega) w).mono (fun e w' h=>show e= .returned (.string ⟨(Lib.decDigits n).toArray⟩)∧w=w' from⟨h.1,h.2.symm⟩))
      have HJ:=hide (fun w=>show Calls Tryd.prog 25 #[.int .i64 ((k:Int) - 1)] w (fun e w'=>e= .returned (.string ⟨(Lib.decDigits (k - 1)).toArray⟩)∧w=w')from by
       rw[show((k:Int) - 1)=((k - 1:Nat):Int) by have:=kC.out;omega]
       exact(Tryd.strconv_Itoa_small (k - 1) (by omega) w).mono (fun e w' h=>⟨h.1,h.2.symm⟩))
      have l1:=bf (show n<100 by omega)
      have l2:=bf (show k - 1<100 by omega)
      obtain⟨X,q9⟩:∃X,Lib.decDigits n=X:=⟨_,rfl⟩
      obtain⟨Y,BS⟩:∃Y,Lib.decDigits (k - 1)=Y:=⟨_,rfl⟩
      rw[q9]at HT HI l1
      rw[BS]at HT HJ l2
      have s1:∀w',(Op.stringOp .add ⟨X.toArray⟩ ⟨#[45]⟩).run Tryd.prog w'= .ok (.string ⟨(X++[45]).toArray⟩) w':=aj X [45] (by omega) (by simp)
      have s2:∀w',(Op.stringOp .add ⟨(X++[45]).toArray⟩ ⟨Y.toArray⟩).run Tryd.prog w'= .ok (.string ⟨(X++45::Y).toArray⟩) w':=fun w'=>by
       have:=aj (X++[45]) Y (by simp;omega) (by omega) w'
       simpa using this
      have sV:k+1≤8+1:=by omega
      have hki:(-9223372036854775808:Int)≤(k:Int) - 1∧(k:Int) - 1≤9223372036854775807:=by omega
      clear q9 BS HR jg HE l1 l2
      have fT:=hide (show Reads (wr.alloc (.cells #[.string ⟨(X++45::Y).toArray⟩] 9)) (wr.heap.size+1) 1 (some ⟨wr.heap.size,0,none⟩) 1 [.string ⟨(X++45::Y).toArray⟩]from
       ⟨rfl,fun _=>⟨_,rfl,Nat.lt_succ_self _,fun j u hu=>by
        rw[addr_add,Nat.zero_add,cell_of_row _ _ _ _ _ _ (heap_alloc_new wr _)]
        simpa using hu⟩⟩)
      have jK:=hide (HO.out.alloc (.cells #[.string ⟨(X++45::Y).toArray⟩] 9))
      have ak:=hide (aA.out.alloc hwz (.cells #[.string ⟨(X++45::Y).toArray⟩] 9))
      clear HO aA
      rcases hcase with g1 | ⟨g1,g2⟩
      all_goals
       go_wp2_with (first | (go_at_call_of 25 (Value.int .i64 (n:Int));refine(HI.out _).mono ?_;rintro e w3 ⟨rfl,rfl⟩) | (go_at_call 25;refine(HJ.out _).mono ?_;rintro e w3 ⟨rfl,rfl⟩) | (at_builtin;refine aY _ rfl (.tmp 41) (.tmp 49) 45 rfl (W.heap.size+1) 9 i0 _ 1 16 Tryd.underlying45 hi0 hz0 hz1 hz2 rfl (by omega) _ os.length ((os.map dI).map gD) rfl jK.out (wr.heap.size+1) (some ⟨wr.heap.size,0,none⟩) 1 1 [.string ⟨(X++45::Y).toArray⟩] rfl fT.out (by intro u hu;simp at hu;subst hu;rfl) (by simp only[maxLen];omega) (by omega) (by simp;omega) ?_;intro v5 w5 hown5 hg5 gP;have iK:=hide hown5;have bH:=hide (ak.out.grown hg5 (by simp;omega) (fun q hq=>(jK.out.lt q hq).1));clear hown5 hg5 gP)
       )
       go_roundw
       case rel=>exact⟨k+1,os++[(n,k - 1)],sV,by go_num,HR2,by simp;omega,hide (by simpa[HT.out,gD]using iK.out),bH⟩
       case measure=>simp[intOf];omega
  case neg=>
   have hos:os=bW S 8 0:=by have h:=HR.out;rw[jo.out n hlt,List.append_nil]at h;exact h
   have hd1:decide ((n:Int)<8)=false:=by simp;omega
   have Fj:=hide (show(aS [44] (os.map dI)).length ≤1000 from by
    have h1:=ni [44] 5 (os.map dI) (fun x hx=>by
     obtain⟨r,hr,rfl⟩:=List.mem_map.1 hx
     have:=xV.out r (by rw[← hos];exact hr)
     exact sG (by omega) (by omega))
    simp only[List.length_map,List.length_cons,List.length_nil]at h1
    omega)
   have hpos:0<os.length:=List.length_pos_iff.2 (by rw[hos];exact BR.out)
   obtain⟨g,cap,hv,hgw⟩:=HO.out.form hpos
   subst hv
   have hcap:os.length≤cap:=by
    rcases HO.out.2 with⟨h,_⟩ | ⟨g',cap',cur,h,_,_,hnc,_⟩
    ·cases h
    ·cases h;exact hnc
   have HST:=hide (show bR wr (W.heap.size+1) g os.length cap (os.map dI)from⟨HO.out,by simp⟩)
   have HJ:=hide (fun w (h:bR w (W.heap.size+1) g os.length cap (os.map dI))=>ow (os.map dI) 44 (W.heap.size+1) g os.length cap w h (by have:=Fj.out;omega) (by omega) hcap)
   have cu:=hide (HB1.out.trans (aA.out.mono (by have:=xY.out;omega)))
   have Fp:=hide hos
   clear HO HR hlt hos hgw hcap hx3 aA
   go_wp2_with fail
   refine(HJ.out _ HST.out).mono ?_
   rintro e w9 ⟨rfl,hb⟩
   have jP:=hide (cu.out.trans (hb.mono cu.out.size))
   clear hb
   go_wp2
   go_ret
   exact⟨by rw[← Fp.out];rfl,jP.out⟩
def jr (m:M4):List (List UInt8):=[bq m.src 16,bq m.eT 8,bq m.dst 16,bq m.eU 8]
theorem Aw {m:M4} {k:Nat} {x:nW} (h:(lG m.src m.dst m.eT m.eU)[k]?=some x):(jr m)[k]?=some (bq x.set (2 ^ x.bits)):=by
 match k,h with
 |0,h=>cases h;rfl
 |1,h=>cases h;rfl
 |2,h=>cases h;rfl
 |3,h=>cases h;rfl
 |k+4,h=>simp[lG]at h
theorem xZ {m:M4} (hm:m.ok) {k:Nat} {x:nW} (h:(lG m.src m.dst m.eT m.eU)[k]?=some x) (w:World):
  Calls Tryd.prog 78 #[.agg #[.int .u16 (x.set:Int),.int .i64 (x.bits:Int),.int .i64 (x.first:Int)]] w fun e W'=>e= .returned (.string ⟨(bq x.set (2 ^ x.bits)).toArray⟩)∧Below w.heap.size w W':=by
 obtain⟨h1,h2,h3,h4⟩:=hm
 match k,h with
 |0,h=>cases h;exact rY m.src 0 w h1
 |1,h=>cases h;exact uo m.eT 8 w h3
 |2,h=>cases h;exact rY m.dst 4 w h2
 |3,h=>cases h;exact uo m.eU 11 w h4
 |k+4,h=>simp[lG]at h
theorem dJ (m:M4) (hm:m.ok) (W:World):
  Calls Tryd.prog 54 #[.agg #[.int .u16 m.src,.int .u16 m.dst,.int .u8 m.eT,.int .u8 m.eU]] W fun e W'=>e= .returned (.string ⟨(dG m).toArray⟩)∧Below W.heap.size W W':=by
 obtain⟨i0,hi0,hz0,hz1,hz2⟩:=info_parts Tryd.infoString
 have hb0:=(Below.refl W.heap.size W).alloc (Nat.le_refl _) (.cells #[.int .u16 m.src,.int .u16 m.dst,.int .u8 m.eT,.int .u8 m.eU] 61)
 have hx:=heap_alloc_new W (.cells #[.int .u16 m.src,.int .u16 m.dst,.int .u8 m.eT,.int .u8 m.eU] 61)
 obtain⟨x0,x1,x2,x3,_⟩:=kM hx
 have nD:=hide (fun w=>tQ w m.src m.dst m.eT m.eU hm.1 hm.2.1 hm.2.2.1 hm.2.2.2)
 have Ir:=hide (fun k x h=>xZ hm (k:=k) (x:=x) h)
 have Gr:=hide (oF m)
 have gG:=hide (eB m)
 go_enter Tryd.func54,Tryd.ntmps54
 go_wp2_with fail
 have HB0:=hide hb0
 generalize W.alloc (.cells #[.int .u16 m.src,.int .u16 m.dst,.int .u8 m.eT,.int .u8 m.eU] 61)=w1 at*
 clear hx hb0
 refine(nD.out w1).mono ?_
 rintro e w2 ⟨rfl,o0,hw2⟩
 have hpb:w2.heap[w1.heap.size+1]?=some (.cells (jV m.src m.dst m.eT m.eU) 124):=by
  rw[hw2]
  have:=heap_alloc_new (w1.alloc o0) (.cells (jV m.src m.dst m.eT m.eU) 124)
  rwa [show(w1.alloc o0).heap.size =w1.heap.size+1 by simp]at this
 have HB2:=hide (show Below W.heap.size W w2 from by
  rw[hw2];exact(HB0.out.alloc HB0.out.size o0).alloc (by have:=HB0.out.size;simp;omega) _)
 have hsz2:w2.heap.size=w1.heap.size+2:=by rw[hw2];simp
 have zn:=hide hpb
 clear hpb hw2 nD HB0
 generalize hN:w1.heap.size+1=Np at*
 have zm:=hide (show Np<w2.heap.size by omega)
 clear hsz2 hN x0 x1 x2 x3
 go_wp2_with fail
 go_loopw [3,9] (fun v i wr=>∃(k:Nat),k≤4∧i= .int .i64 (k:Int)∧Hid (wr.ownsRow w2.heap.size 9 1 v k (((jr m).take k).map gD))∧Hid (Below w2.heap.size w2 wr)) (fun _ i _=>4 - (intOf i).toNat)
 case atStart=>exact⟨0,by omega,rfl,hide (World.ownsRow_nil _ _ _ _),hide (Below.refl _ _)⟩
 case round=>
  obtain⟨k,hk,rfl,HO,aA⟩:=hrel
  by_cases hlt:k<4
  case pos=>
   obtain⟨x,hx,hxs,hxb,Fq,g0,g1,g2⟩:=wZ m.src m.dst m.eT m.eU k hm.1 hm.2.1 hm.2.2.1 hm.2.2.2 hlt
   have hpb:=(aA.out.block Np zm.out).trans zn.out
   have y0:wr.cell? ⟨Np,k*3,none⟩=some (.int .u16 x.set):=by rw[cell_of_row _ _ _ _ _ _ hpb];exact g0
   have y1:wr.cell? ⟨Np,k*3+1,none⟩=some (.int .i64 x.bits):=by rw[cell_of_row _ _ _ _ _ _ hpb];exact g1
   have y2:wr.cell? ⟨Np,k*3+2,none⟩=some (.int .i64 x.first):=by rw[cell_of_row _ _ _ _ _ _ hpb];exact g2
   have HW:=hide (Aw hx)
   have HC:=hide (Ir.out k x hx)
   have uH:(k:Int)<4:=by omega
   obtain⟨X,hX⟩:∃X,bq x.set (2 ^ x.bits)=X:=⟨_,rfl⟩
   rw[hX]at HW HC
   clear hX hx hxs hxb Fq g0 g1 g2 hpb
   generalize x.set=xs at*
   generalize x.bits=xb at*
   generalize x.first=xf at*
   have hbz:=aA.out.size
   have x9:=hide (HO.out.alloc (.cells #[.int .u16 (xs:Int),.int .i64 (xb:Int),.int .i64 (xf:Int)] 124))
   have HB3:=hide (aA.out.alloc hbz (.cells #[.int .u16 (xs:Int),.int .i64 (xb:Int),.int .i64 (xf:Int)] 124))
   clear HO aA
   go_wp2_with fail
   refine(HC.out _).mono ?_
   generalize wr.alloc (.cells #[.int .u16 (xs:Int),.int .i64 (xb:Int),.int .i64 (xf:Int)] 124)=w3 at*
   rintro e w4 ⟨rfl,hb⟩
   have Fu:=hide (ownsRow_below x9.out hb)
   have Db:=hide (HB3.out.trans (hb.mono HB3.out.size))
   have hwz:w2.heap.size≤w4.heap.size:=Db.out.size
   clear hb x9 HB3 y0 y1 y2
   have fT:=hide (show Reads (w4.alloc (.cells #[.string ⟨X.toArray⟩] 9)) (w4.heap.size+1) 1 (some ⟨w4.heap.size,0,none⟩) 1 [.string ⟨X.toArray⟩]from
    ⟨rfl,fun _=>⟨_,rfl,Nat.lt_succ_self _,fun j u hu=>by
     rw[addr_add,Nat.zero_add,cell_of_row _ _ _ _ _ _ (heap_alloc_new w4 _)]
     simpa using hu⟩⟩)
   have jK:=hide (Fu.out.alloc (.cells #[.string ⟨X.toArray⟩] 9))
   have ak:=hide (Db.out.alloc hwz (.cells #[.string ⟨X.toArray⟩] 9))
   clear Fu Db
   have IL:((jr m).take k).length =k:=by simp[jr];omega
   have dK:=hide (show(jr m).take (k+1)=(jr m).take k++[X] by rw[List.take_add_one,HW.out];rfl)
   go_wp2_with (at_builtin;refine aY _ rfl (.tmp 13) (.tmp 16) 45 rfl w2.heap.size 9 i0 _ 1 16 Tryd.underlying45 hi0 hz0 hz1 hz2 rfl (by omega) _ k (((jr m).take k).map gD) rfl jK.out (w4.heap.size+1) (some ⟨w4.heap.size,0,none⟩) 1 1 [.string ⟨X.toArray⟩] rfl fT.out (by intro u hu;simp at hu;subst hu;rfl) (by simp only[maxLen];omega) (by omega) (by simp;omega) ?_;intro v5 w5 hown5 hg5 gP;have iK:=hide hown5;have bH:=hide (ak.out.grown hg5 (by simp;omega) (fun q hq=>(jK.out.lt q hq).1));clear hown5 hg5 gP)
   go_roundw
   case rel=>exact⟨k+1,by omega,by go_num,hide (by rw[dK.out];simpa[gD]using iK.out),bH⟩
   case measure=>simp[intOf];omega
  case neg=>
   obtain rfl:k=4:=by omega
   have hall:(jr m).take 4=jr m:=rfl
   rw[hall]at HO
   obtain⟨g,cap,hv,hgw⟩:=HO.out.form (by omega)
   subst hv
   have hcap:4≤cap:=by
    rcases HO.out.2 with⟨h,_⟩ | ⟨g',cap',cur,h,_,_,hnc,_⟩
    ·cases h
    ·cases h;exact hnc
   have HST:=hide (show bR wr w2.heap.size g 4 cap (jr m)from⟨HO.out,rfl⟩)
   have HJ:=hide (fun w (h:bR w w2.heap.size g 4 cap (jr m))=>ow (jr m) 32 w2.heap.size g 4 cap w h (by have h:=gG.out;rw[Gr.out]at h;exact Nat.le_trans h (by omega)) (by omega) hcap)
   have cu:=hide (HB2.out.trans (aA.out.mono HB2.out.size))
   clear HO hlt hgw hcap hall aA
   go_wp2_with fail
   refine(HJ.out _ HST.out).mono ?_
   rintro e w9 ⟨rfl,hb⟩
   have jP:=hide (cu.out.trans (hb.mono cu.out.size))
   clear hb
   go_wp2
   go_ret
   exact⟨by rw[Gr.out];rfl,jP.out⟩
end Go.Proofs.YtifkacnoiocebaaDoor
