/- A part of the proof: G5. -/
import Derived.Test.YtifkacnoiocebaaGreatDz3
set_option linter.unusedVariables false
set_option linter.unusedSimpArgs false
set_option maxRecDepth 100000
set_option maxHeartbeats 4000000
namespace Go.Proofs.YtifkacnoiocebaaGreat
open Go.ChangeAt Go.ChangeShapes Go.RowKit Go.WideShapes
def xC (d:Int) (b:Nat):Int:=d / 2 ^ (4 - b)*2 ^ (4 - b)
theorem RL (P:Int→Nat→Prop) [∀d b,Decidable (P d b)] (h:∀(i:Fin 16) (j:Fin 5),P (i.val:Int) j.val) (d:Int) (b:Nat) (h0:0≤d) (h1:d≤15) (hb:b≤4):P d b:=by
 have:=h ⟨d.toNat,by omega⟩ ⟨b,by omega⟩
 simpa[Int.toNat_of_nonneg h0]using this
theorem RO (d:Int) (b:Nat) (h0:0≤d) (h1:d≤15) (hb:b≤4):bits .andNot .i64 d (15 / 2 ^ b)=xC d b:=
 RL (fun d b=>bits .andNot .i64 d (15 / 2 ^ b)=xC d b) (by decide+kernel) d b h0 h1 hb
theorem Us (d:Int) (b:Nat) (h0:0≤d) (h1:d≤15) (hb:b≤4):(xC d b ==d)=EA d b:=by
 have:=RL (fun d b=>(xC d b ==d)=(bits .and .i64 d (15 / 2 ^ b)==0)) (by decide+kernel) d b h0 h1 hb
 rw[this,EA];simp
def qO (d:Int) (b:Nat) (r:aG):Bool:=dx r.v r.b r.p && (r.b ==(b:Int)) && (xC d b ==r.v)
theorem FR {d:Int} {b:Nat} {r:aG} (h0:0≤d) (h1:d≤15) (hb:b≤4):qO d b r=(dx r.v r.b r.p && (r.b ==(b:Int)) && sI d r.v r.b):=by
 unfold qO
 by_cases e:r.b=(b:Int)
 ·rw[e]
  unfold sI
  rw[show((b:Int)).toNat =b by omega,RO d b h0 h1 hb]
 ·have:(r.b ==(b:Int))=false:=by simpa using e
  rw[this];simp
theorem xX {d:Int} {r:aG} {s:Int} (h0:0≤d) (h1:d≤15):jU d r s=true↔s<r.b∧∃b:Nat,b≤4∧r.b=b∧qO d b r=true:=by
 have e1:decide (0≤d)=true:=by simpa using h0
 have e2:decide (d<16)=true:=by simp;omega
 constructor
 ·intro h
  simp only[jU,Bool.and_eq_true,decide_eq_true_eq]at h
  obtain⟨⟨⟨⟨hr,_⟩,_⟩,ht⟩,hs⟩:=h
  have hr':=hr
  simp only[dx,Bool.and_eq_true,decide_eq_true_eq]at hr'
  obtain⟨b,hb⟩:∃b:Nat,r.b=(b:Int):=⟨r.b.toNat,by omega⟩
  refine⟨hs,b,by omega,hb,?_⟩
  rw[FR h0 h1 (by omega),hr,ht,hb];simp
 ·rintro⟨hs,b,hb,e,hh⟩
  rw[FR h0 h1 hb]at hh
  simp only[Bool.and_eq_true]at hh
  simp only[jU,e1,e2,hh.1.1,hh.2,Bool.and_eq_true,decide_eq_true_eq]
  exact⟨⟨⟨⟨trivial,trivial⟩,trivial⟩,trivial⟩,hs⟩
theorem KN {d:Int} (h0:0≤d) (h1:d≤15):∀(l:List aG) (s:Int×Int),
  (∀r∈l,jU d r s.2=false)→l.foldl (eu d) s=s:=by
 intro l
 induction l with
 |nil=>intro s _;rfl
 |cons a l ih=>
  intro s h
  have:eu d s a=s:=by unfold eu;rw[h a (by simp)];rfl
  rw[List.foldl_cons,this]
  exact ih s (fun r hr=>h r (by simp[hr]))
theorem O4 {d:Int} {l:List aG} (h:∀b:Nat,b≤4→∀r∈l,qO d b r=false) (h0:0≤d) (h1:d≤15):jE d l=(0,-1):=by
 refine KN h0 h1 l _ (fun r hr=>?_)
 cases e:jU d r (-1)
 ·rfl
 ·obtain⟨_,b,hb,_,hh⟩:=(xX h0 h1).1 e
  rw[h b hb r hr]at hh;cases hh
theorem Ut {d:Int} {l:List aG} (h:d<0∨15<d):jE d l=(0,-1):=by
 have:∀(l:List aG) (s:Int×Int),l.foldl (eu d) s=s:=by
  intro l
  induction l with
  |nil=>intro s;rfl
  |cons a l ih=>
   intro s
   have:eu d s a=s:=by
    unfold eu
    rw[if_neg]
    simp only[jU,Bool.and_eq_true,decide_eq_true_eq]
    omega
   rw[List.foldl_cons,this];exact ih s
 exact this l _
theorem O5 {d:Int} (h0:0≤d) (h1:d≤15) {b:Nat} (hb:b≤4) {r:aG} :∀(l:List aG) (s:Int×Int) (i:Nat),s.2<b→l[i]?=some r→qO d b r=true→(∀j x,j<i→l[j]?=some x→qO d b x=false)→
  (∀b':Nat,b<b'→b'≤4→∀x∈l,qO d b' x=false)→l.foldl (eu d) s=(r.p,(b:Int)):=by
 intro l
 induction l with
 |nil=>intro s i _ h;simp at h
 |cons a l ih=>
  intro s i hs hi hr hj hbig
  rw[List.foldl_cons]
  have hrb:r.b=(b:Int):=by
   simp only[qO,Bool.and_eq_true,beq_iff_eq]at hr
   exact hr.1.2
  match i,hi with
  |0,hi=>
   have:a=r:=by simpa using hi
   subst this
   have e:eu d s a=(a.p,(b:Int)):=by
    unfold eu
    rw[(xX h0 h1).2 ⟨by omega,b,hb,hrb,hr⟩,hrb];rfl
   rw[e]
   refine KN h0 h1 l _ (fun x hx=>?_)
   cases ex:jU d x (b:Int)
   ·rfl
   ·obtain⟨hlt,b',hb',e',hh⟩:=(xX h0 h1).1 ex
    rw[hbig b' (by omega) hb' x (by simp[hx])]at hh;cases hh
  |i+1,hi=>
   refine ih _ i ?_ (by simpa using hi) hr (fun j x hjx hx=>hj (j+1) x (by omega) (by simpa using hx)) (fun b' h2 h3 x hx=>hbig b' h2 h3 x (by simp[hx]))
   unfold eu
   split
   ·rename_i hh
    obtain⟨_,b',hb',e',hh⟩:=(xX h0 h1).1 hh
    rcases Nat.lt_trichotomy b' b with h | h | h
    ·show a.b<b;omega
    ·subst h
     rw[hj 0 a (by omega) (by simp)]at hh;cases hh
    ·rw[hbig b' h hb' a (by simp)]at hh;cases hh
   ·exact hs
theorem RQ {d:Int} (h0:0≤d) (h1:d≤15) {b:Nat} (hb:b≤4) {r:aG} {l:List aG} {i:Nat} (hi:l[i]?=some r) (hr:qO d b r=true) (hj:∀j x,j<i→l[j]?=some x→qO d b x=false)
  (hbig:∀b':Nat,b<b'→b'≤4→∀x∈l,qO d b' x=false):jE d l=(r.p,(b:Int)):=O5 h0 h1 hb l (0,-1) i (by show(-1:Int)<b;omega) hi hr hj hbig
theorem bJ {P:Program} {f:FuncId} {args:Array Value} {w:World} {n:Nat} {v:Value} (h:Calls P f args (w.drewN n) fun e w'=>e= .returned v∧w.drewN n=w'):Calls P f args (w.drewN n) fun e w''=>e= .returned v∧∃m,w''=w.drewN m:=
 h.mono fun _ _ ⟨he,hm⟩=>⟨he,n,hm.symm⟩
theorem bX {a b:Bool} (h:a=b):Ending.returned (.bool a)= .returned (.bool b):=by rw[h]
theorem KO (d:Int) (b:Nat) (W:World) (h0:0≤d) (h1:d≤15) (hb:b≤4) (r:Int) (hr:xC d b=r):
  Calls Tryz.prog 102 #[.int .i64 d,.int .i64 (b:Int)] W fun e W'=>e= .returned (.int .i64 r)∧W=W':=by
 have HR:=hide hr
 clear hr
 match b,hb with
 |0,_ | 1,_ | 2,_ | 3,_ | 4,_=>
  go_enter Tryz.func102,Tryz.ntmps102
  go_wp2
  go_ret
  refine⟨aA ?_,rfl⟩
  rw[← HR.out]
  simp[xC]
theorem dR {n lo hi:Int} {B:Bool} (W:World) (h:aZ n lo hi=B):Calls Tryz.prog 7 #[.int .i64 n,.int .i64 lo,.int .i64 hi] W fun e W'=>e= .returned (.bool B)∧W=W':=h▸aX n lo hi W
theorem Lx (v b p:Int) (W:World) (hv:aO v) (hb:aO b) (hp:aO p):Calls Tryz.prog 101 #[.agg #[.int .i64 v,.int .i64 b,.int .i64 p]] W fun e W'=>e= .returned (.bool (dx v b p))∧Below W.heap.size W W':=by
 obtain⟨hv1,hv2⟩:=hv
 obtain⟨hb1,hb2⟩:=hb
 obtain⟨hp1,hp2⟩:=hp
 cases e1:aZ b 0 4
 ·have rU:=e1
  simp only[aZ,Bool.and_eq_false_iff,decide_eq_false_iff_not]at rU
  have HF:=hide (show dx v b p=false from by simp[dx];omega)
  rw[HF.out]
  go_enter Tryz.func101,Tryz.ntmps101
  go_wp2
  go_quiet ((first | (go_at_call_of 7 (Value.int .i64 4);exact bJ (dR _ e1)) | (go_at_call_of 7 (Value.int .i64 15);exact bJ (dR _ e2)) | (go_at_call 102;exact bJ (HT.out _)) | (go_at_call_of 7 (Value.int .i64 3);exact bJ (dR _ e4))))
  go_wp2
  go_ret
  exact⟨rfl,((Below.refl _ _).alloc (Nat.le_refl _) _).trans ⟨rfl,rfl,rfl,Nat.le_refl _,fun _ _=>rfl⟩⟩
 have rU:=e1
 simp only[aZ,Bool.and_eq_true,decide_eq_true_eq]at rU
 obtain⟨hb3,hb4⟩:=rU
 obtain⟨bn,rfl⟩:∃n:Nat,b=(n:Int):=⟨b.toNat,by omega⟩
 cases e2:aZ v 0 15
 ·have e2':=e2
  simp only[aZ,Bool.and_eq_false_iff,decide_eq_false_iff_not]at e2'
  have HF:=hide (show dx v bn p=false from by simp[dx];omega)
  rw[HF.out]
  go_enter Tryz.func101,Tryz.ntmps101
  go_wp2
  go_quiet ((first | (go_at_call_of 7 (Value.int .i64 4);exact bJ (dR _ e1)) | (go_at_call_of 7 (Value.int .i64 15);exact bJ (dR _ e2)) | (go_at_call 102;exact bJ (HT.out _)) | (go_at_call_of 7 (Value.int .i64 3);exact bJ (dR _ e4))))
  go_wp2
  go_ret
  exact⟨rfl,((Below.refl _ _).alloc (Nat.le_refl _) _).trans ⟨rfl,rfl,rfl,Nat.le_refl _,fun _ _=>rfl⟩⟩
 have e2':=e2
 simp only[aZ,Bool.and_eq_true,decide_eq_true_eq]at e2'
 obtain⟨hv3,hv4⟩:=e2'
 obtain⟨r,hr⟩:∃r,xC v bn=r:=⟨_,rfl⟩
 have HM:=hide (Us v bn hv3 hv4 (by omega))
 rw[hr]at HM
 have HT:Hid (∀w1,Calls Tryz.prog 102 #[.int .i64 v,.int .i64 (bn:Int)] w1 fun e W'=>e= .returned (.int .i64 r)∧w1=W'):=hide (fun w1=>KO v bn w1 hv3 hv4 (by omega) r hr)
 clear hr
 cases e3:(r ==v)
 ·have HF:=hide (show dx v bn p=false from by simp[dx];rw[← HM.out,e3];simp)
  rw[HF.out]
  go_enter Tryz.func101,Tryz.ntmps101
  go_wp2
  go_quiet ((first | (go_at_call_of 7 (Value.int .i64 4);exact bJ (dR _ e1)) | (go_at_call_of 7 (Value.int .i64 15);exact bJ (dR _ e2)) | (go_at_call 102;exact bJ (HT.out _)) | (go_at_call_of 7 (Value.int .i64 3);exact bJ (dR _ e4))))
  go_wp2
  go_ret
  exact⟨rfl,((Below.refl _ _).alloc (Nat.le_refl _) _).trans ⟨rfl,rfl,rfl,Nat.le_refl _,fun _ _=>rfl⟩⟩
 cases e4:aZ p 0 3
 ·have e4':=e4
  simp only[aZ,Bool.and_eq_false_iff,decide_eq_false_iff_not]at e4'
  have HF:=hide (show dx v bn p=false from by simp[dx];omega)
  rw[HF.out]
  go_enter Tryz.func101,Tryz.ntmps101
  go_wp2
  go_quiet ((first | (go_at_call_of 7 (Value.int .i64 4);exact bJ (dR _ e1)) | (go_at_call_of 7 (Value.int .i64 15);exact bJ (dR _ e2)) | (go_at_call 102;exact bJ (HT.out _)) | (go_at_call_of 7 (Value.int .i64 3);exact bJ (dR _ e4))))
  go_wp2
  go_ret
  exact⟨rfl,((Below.refl _ _).alloc (Nat.le_refl _) _).trans ⟨rfl,rfl,rfl,Nat.le_refl _,fun _ _=>rfl⟩⟩
 ·have e4':=e4
  simp only[aZ,Bool.and_eq_true,decide_eq_true_eq]at e4'
  have HF:=hide (show dx v bn p=true from by simp[dx];rw[← HM.out,e3];simp;omega)
  rw[HF.out]
  go_enter Tryz.func101,Tryz.ntmps101
  go_wp2
  go_quiet ((first | (go_at_call_of 7 (Value.int .i64 4);exact bJ (dR _ e1)) | (go_at_call_of 7 (Value.int .i64 15);exact bJ (dR _ e2)) | (go_at_call 102;exact bJ (HT.out _)) | (go_at_call_of 7 (Value.int .i64 3);exact bJ (dR _ e4))))
  go_wp2
  go_ret
  exact⟨rfl,((Below.refl _ _).alloc (Nat.le_refl _) _).trans ⟨rfl,rfl,rfl,Nat.le_refl _,fun _ _=>rfl⟩⟩
theorem rG (v b p:Int) (W:World) (B:Bool) (hv:aO v) (hb:aO b) (hp:aO p) (h:dx v b p=B):Calls Tryz.prog 101 #[.agg #[.int .i64 v,.int .i64 b,.int .i64 p]] W fun e W'=>e= .returned (.bool B)∧Below W.heap.size W W':=
 h▸Lx v b p W hv hb hp
theorem fT (w:World) (n:Nat) (B:Nat):Below B w (w.drewN n):=⟨rfl,rfl,rfl,Nat.le_refl _,fun _ _=>rfl⟩
theorem LA (l:List aG) (b o n c:Nat) (W:World) (hn:n≤8) (hnc:n≤c) (hl:bD aG.cells 3 W W.heap.size (some ⟨b,o,none⟩) n l) (hok:∀r∈l,r.ok) (h0:0<n):
  Calls Tryz.prog 62 #[.slice (some ⟨b,o,none⟩) n c] W fun e W'=>e= .returned (.int .i64 (sJ [] l))∧Below W.heap.size W W':=by
 have HL:=hide hl
 have HK:=hide hok
 clear hl hok
 have h8:decide ((8:Int)<(n:Int))=false:=by simp;omega
 go_enter Tryz.func62,Tryz.ntmps62
 go_wp2
 go_loopw [3] (fun i wr=>∃k:Nat,k≤n∧i= .int .i64 k∧Hid (sJ [] l=sJ (l.take k) (l.drop k))∧Below W.heap.size W wr) (fun i _=>n - (intOf i).toNat)
 case atStart=>exact⟨0,Nat.zero_le _,rfl,rfl,Below.refl _ _⟩
 case round=>
  obtain⟨k,hk,rfl,HC,hb⟩:=hrel
  have HB:=hide hb
  clear hb
  by_cases hlt:k<n
  ·obtain⟨r,hr⟩:∃r,l[k]?=some r:=⟨_,List.getElem?_eq_getElem (by have:=HL.out.1;omega)⟩
   obtain⟨kD,hra⟩:=rC HL.out hr
   have Ce:=hide hra
   obtain⟨q0,q1,q2⟩:=hra.below HB.out kD
   have HS:=hide (G9 hr)
   obtain⟨⟨hv1,hv2⟩,⟨oQ,oU⟩,⟨hp1,hp2⟩⟩:=HK.out r (List.mem_of_getElem? hr)
   clear hr hra
   obtain⟨rv,rb,rp⟩:=r
   cases h1:dx rv rb rp
   ·go_wp2_with fail
    refine(rG _ _ _ _ _ ⟨hv1,hv2⟩ ⟨oQ,oU⟩ ⟨hp1,hp2⟩ h1).mono ?_
    rintro e w1 ⟨rfl,hb1⟩
    have HB1:=hide (HB.out.trans (hb1.mono HB.out.size))
    clear hb1
    go_wp2
    go_ret
    exact⟨aA (by rw[HC.out,HS.out];simp[h1]),HB1.out⟩
   ·go_wp2_with fail
    refine(rG _ _ _ _ _ ⟨hv1,hv2⟩ ⟨oQ,oU⟩ ⟨hp1,hp2⟩ h1).mono ?_
    rintro e w1 ⟨rfl,hb1⟩
    have HB1:=hide (HB.out.trans (hb1.mono HB.out.size))
    clear hb1 q0 q1 q2
    go_wp2
    go_loopw [4] (fun i wi=>∃j:Nat,j≤k∧i= .int .i64 j∧Hid (∀i x,i<j→l[i]?=some x→oz ⟨rv,rb,rp⟩ x=false)∧Below W.heap.size W wi) (fun i _=>k - (intOf i).toNat)
    case atStart=>exact⟨0,Nat.zero_le _,rfl,fun i x h=>absurd h (by omega),HB1.out⟩
    case round=>
     obtain⟨j,hj,rfl,HN,hbi⟩:=hrel
     have sK:=hide hbi
     clear hbi HB1
     by_cases hjk:j<k
     ·obtain⟨x,hx⟩:∃x,l[j]?=some x:=⟨_,List.getElem?_eq_getElem (by have:=HL.out.1;omega)⟩
      obtain⟨Tc,hxa⟩:=rC HL.out hx
      obtain⟨y0,y1,y2⟩:=hxa.below sK.out Tc
      obtain⟨z0,z1,z2⟩:=Ce.out.below sK.out kD
      have JO:=hide hx
      clear hx hxa
      obtain⟨xv,xb,xp⟩:=x
      cases e1:(xv ==rv)
      ·go_wp2
       go_quiet (fail)
       go_wp2
       go_roundw
       case rel=>exact⟨j+1,by omega,by go_num,hide (fun i x hi hx=>by
        rcases(by omega:i<j∨i=j)with h | rfl
        ·exact HN.out i x h hx
        ·have e:=JO.out;rw[e]at hx;cases hx;simp[oz,e1]),sK.out.trans (fT _ _ _)⟩
       case measure=>simp[intOf];omega
      cases e2:(xb ==rb)
      ·go_wp2
       go_quiet (fail)
       go_wp2
       go_roundw
       case rel=>exact⟨j+1,by omega,by go_num,hide (fun i x hi hx=>by
        rcases(by omega:i<j∨i=j)with h | rfl
        ·exact HN.out i x h hx
        ·have e:=JO.out;rw[e]at hx;cases hx;simp[oz,e2]),sK.out.trans (fT _ _ _)⟩
       case measure=>simp[intOf];omega
      have HA:=hide (JM (r:=⟨rv,rb,rp⟩) hjk JO.out (by simp[oz,e1,e2]))
      go_wp2
      go_quiet (fail)
      go_wp2
      go_ret
      exact⟨aA (by rw[HC.out,HS.out,HA.out];simp[h1]),sK.out.trans (fT _ _ _)⟩
     ·have Te:j=k:=by omega
      subst Te
      have HA:=hide (Au (r:=⟨rv,rb,rp⟩) HN.out)
      go_wp2
      go_roundw
      case rel=>exact⟨j+1,by omega,by go_num,hide (by rw[HC.out,HS.out,HA.out];simp[h1]),sK.out⟩
      case measure=>simp[intOf];omega
  ·have hkn:k=n:=by omega
   subst hkn
   have HT:=hide (show sJ (l.take k) (l.drop k)=0 from by rw[List.drop_of_length_le (by have:=HL.out.1;omega)];rfl)
   go_wp2
   go_ret
   exact⟨aA (by rw[HC.out,HT.out]),HB.out⟩
theorem O6 (A:Option Addr) (c:Nat) (W:World):Calls Tryz.prog 62 #[.slice A 0 c] W fun e W'=>e= .returned (.int .i64 0)∧W=W':=by
 go_enter Tryz.func62,Tryz.ntmps62
 go_wp2
 refine wp_loop_rounds 1 ?_
 rw[rounds_succ]
 go_wp2
 go_ret
 exact⟨rfl,rfl⟩
theorem KQ (A:Option Addr) (n c:Nat) (W:World) (h:8<n):Calls Tryz.prog 62 #[.slice A n c] W fun e W'=>e= .returned (.int .i64 2)∧W=W':=by
 have h8:decide ((8:Int)<(n:Int))=true:=by simp;omega
 go_enter Tryz.func62,Tryz.ntmps62
 go_wp2
 go_ret
 exact⟨rfl,rfl⟩
theorem rW (l:List aG) (A:Option Addr) (n c:Nat) (W:World) (hnc:n≤c) (hl:bD aG.cells 3 W W.heap.size A n l) (hok:∀r∈l,r.ok):
  Calls Tryz.prog 62 #[.slice A n c] W fun e W'=>e= .returned (.int .i64 (cB l))∧Below W.heap.size W W':=by
 rcases Nat.eq_zero_or_pos n with rfl | h0
 ·have:l=[]:=List.eq_nil_of_length_eq_zero hl.1
  subst this
  exact(O6 A c W).mono fun e w' ⟨he,hw⟩=>⟨he,hw▸Below.refl _ _⟩
 ·rcases Nat.lt_or_ge 8 n with h8 | h8
  ·have e:cB l=2:=by unfold cB;rw[if_pos (by rw[hl.1];exact h8)]
   rw[e]
   exact(KQ A n c W h8).mono fun e w' ⟨he,hw⟩=>⟨he,hw▸Below.refl _ _⟩
  ·have e:cB l=sJ [] l:=by unfold cB;rw[if_neg (by rw[hl.1];omega)]
   rw[e]
   obtain⟨b,o,rfl,hb,_⟩:=hl.2 h0
   exact LA l b o n c W h8 hnc hl hok h0
theorem FT (d:Int) (b:Nat) (W:World) (h0:0≤d) (h1:d≤15) (hb:b≤4) (r:Int) (x:Int) (hx:x=(b:Int)) (hr:xC d b=r):
  Calls Tryz.prog 102 #[.int .i64 d,.int .i64 x] W fun e W'=>e= .returned (.int .i64 r)∧W=W':=hx▸KO d b W h0 h1 hb r hr
theorem Cy {d:Int} {b:Nat} {v q p x tv:Int} (hx:x=(b:Int)) (ht:xC d b=tv):qO d b ⟨v,q,p⟩=(dx v q p && (q ==x) && (tv ==v)):=by subst hx;subst ht;rfl
def Kv (l:List aG) (d:Int) (W:World) (e:Ending) (W':World):Prop:=e= .returned (.tuple #[.int .i64 (jE d l).1,.bool (decide (0≤(jE d l).2))])∧Below W.heap.size W W'
theorem LC (l:List aG) (b o n c:Nat) (d:Int) (W:World) (hn:n≤9223372036854775807) (hd0:0≤d) (hd1:d≤15) (hl:bD aG.cells 3 W W.heap.size (some ⟨b,o,none⟩) n l) (hok:∀r∈l,r.ok) (h0:0<n):
  Calls Tryz.prog 65 #[.slice (some ⟨b,o,none⟩) n c,.int .i64 d] W (Kv l d W):=by
 have HL:=hide hl
 have HK:=hide hok
 have hin:aZ d 0 15=true:=by simp[aZ];omega
 clear hl hok
 go_enter Tryz.func65,Tryz.ntmps65
 go_wp2
 go_loopw [6] (fun u wr=>∃x:Int,-1≤x∧x≤4∧u= .int .i64 x∧Hid (∀b':Nat,x<b'→b'≤4→∀r∈l,qO d b' r=false)∧Below W.heap.size W wr) (fun u _=>(intOf u+1).toNat)
 case atStart=>exact⟨4,by omega,by omega,rfl,hide (fun b' h1 h2=>by omega),Below.refl _ _⟩
 case round=>
  obtain⟨x,hx1,hx2,rfl,HN,hb⟩:=hrel
  have HB:=hide hb
  clear hb
  by_cases hx0:0≤x
  ·obtain⟨bn,hbn⟩:∃m:Nat,x=(m:Int):=⟨x.toNat,by omega⟩
   have tX:=hide hbn
   clear hbn
   go_wp2_with (go_at_call 7;refine(dR _ hin).mono ?_;rintro e w' ⟨rfl,rfl⟩)
   go_loopw [7] (fun i wi=>∃j:Nat,j≤n∧i= .int .i64 j∧Hid (∀i r,i<j→l[i]?=some r→qO d bn r=false)∧Below W.heap.size W wi) (fun i _=>n - (intOf i).toNat)
   case atStart=>exact⟨0,Nat.zero_le _,rfl,hide (fun i r h=>absurd h (by omega)),HB.out⟩
   case round=>
    obtain⟨j,hj,rfl,HJ,hbi⟩:=hrel
    have sK:=hide hbi
    clear hbi HB
    by_cases hlt:j<n
    ·obtain⟨r,hr⟩:∃r,l[j]?=some r:=⟨_,List.getElem?_eq_getElem (by have:=HL.out.1;omega)⟩
     obtain⟨kD,hra⟩:=rC HL.out hr
     have Ce:=hide (hra.below sK.out kD)
     have HR:=hide hr
     obtain⟨⟨hv1,hv2⟩,⟨oQ,oU⟩,⟨hp1,hp2⟩⟩:=HK.out r (List.mem_of_getElem? hr)
     have hsz:=sK.out.size
     clear hr hra
     obtain⟨rv,rb,rp⟩:=r
     obtain⟨tv,htv⟩:∃t,xC d bn=t:=⟨_,rfl⟩
     have Ij:=hide htv
     clear htv
     go_wp2_with fail
     refine bB (by kernel_rfl) (by kernel_rfl) ?_
     intro T hT g hg hgi
     have HG:=hide hg
     have HI:=hide hgi
     have k0:∀t,(g t).cell? ⟨b,o+j*3,none⟩=some (.int .i64 rv):=fun t=>((HG.out t).cell (p:=⟨b,o+j*3,none⟩) (by show b<_;omega)).trans Ce.out.1
     have k1:∀t,(g t).cell? ⟨b,o+j*3+1,none⟩=some (.int .i64 rb):=fun t=>((HG.out t).cell (p:=⟨b,o+j*3+1,none⟩) (by show b<_;omega)).trans Ce.out.2.1
     have k2:∀t,(g t).cell? ⟨b,o+j*3+2,none⟩=some (.int .i64 rp):=fun t=>((HG.out t).cell (p:=⟨b,o+j*3+2,none⟩) (by show b<_;omega)).trans Ce.out.2.2
     have vQ:=hide (fun t=>sK.out.trans ((HG.out t).mono sK.out.size))
     clear hg hgi
     cases h1:dx rv rb rp
     ·repeat (go_big_quiet_step ((first | (go_at_call 101;exact eB HG.out HI.out (rG _ _ _ _ _ ⟨hv1,hv2⟩ ⟨oQ,oU⟩ ⟨hp1,hp2⟩ h1)) | (go_at_call 102;exact gu (FT d bn _ hd0 hd1 (by have:=tX.out;omega) tv x tX.out Ij.out)))))
      refine wpQuiet_nil ?_
      intro _ hw'
      obtain⟨t,rfl⟩:=hw'
      have HM:=hide ((Cy (v:=rv) (q:=rb) (p:=rp) tX.out Ij.out).trans (show _=false by rw[h1];simp))
      go_wp2
      go_roundw
      case rel=>exact⟨j+1,by omega,by go_num,hide (fun i r hi hr=>by
       rcases(by omega:i<j∨i=j)with h | rfl
       ·exact HJ.out i r h hr
       ·have e:=HR.out;rw[e]at hr;cases hr;exact HM.out),vQ.out t⟩
      case measure=>simp[intOf];omega
     cases h2:(rb ==x)
     ·repeat (go_big_quiet_step ((first | (go_at_call 101;exact eB HG.out HI.out (rG _ _ _ _ _ ⟨hv1,hv2⟩ ⟨oQ,oU⟩ ⟨hp1,hp2⟩ h1)) | (go_at_call 102;exact gu (FT d bn _ hd0 hd1 (by have:=tX.out;omega) tv x tX.out Ij.out)))))
      refine wpQuiet_nil ?_
      intro _ hw'
      obtain⟨t,rfl⟩:=hw'
      have HM:=hide ((Cy (v:=rv) (q:=rb) (p:=rp) tX.out Ij.out).trans (show _=false by rw[h2];simp))
      go_wp2
      go_roundw
      case rel=>exact⟨j+1,by omega,by go_num,hide (fun i r hi hr=>by
       rcases(by omega:i<j∨i=j)with h | rfl
       ·exact HJ.out i r h hr
       ·have e:=HR.out;rw[e]at hr;cases hr;exact HM.out),vQ.out t⟩
      case measure=>simp[intOf];omega
     cases h3:(tv ==rv)
     ·repeat (go_big_quiet_step ((first | (go_at_call 101;exact eB HG.out HI.out (rG _ _ _ _ _ ⟨hv1,hv2⟩ ⟨oQ,oU⟩ ⟨hp1,hp2⟩ h1)) | (go_at_call 102;exact gu (FT d bn _ hd0 hd1 (by have:=tX.out;omega) tv x tX.out Ij.out)))))
      refine wpQuiet_nil ?_
      intro _ hw'
      obtain⟨t,rfl⟩:=hw'
      have HM:=hide ((Cy (v:=rv) (q:=rb) (p:=rp) tX.out Ij.out).trans (show _=false by rw[h3];simp))
      go_wp2
      go_roundw
      case rel=>exact⟨j+1,by omega,by go_num,hide (fun i r hi hr=>by
       rcases(by omega:i<j∨i=j)with h | rfl
       ·exact HJ.out i r h hr
       ·have e:=HR.out;rw[e]at hr;cases hr;exact HM.out),vQ.out t⟩
      case measure=>simp[intOf];omega
     have HF:=hide (RQ hd0 hd1 (b:=bn) (by have:=tX.out;omega) HR.out ((Cy (v:=rv) (q:=rb) (p:=rp) tX.out Ij.out).trans (by rw[h1,h2,h3];rfl)) HJ.out (fun b' hb' hb4 y hy=>HN.out b' (by have:=tX.out;omega) hb4 y hy))
     repeat (go_big_quiet_step ((first | (go_at_call 101;exact eB HG.out HI.out (rG _ _ _ _ _ ⟨hv1,hv2⟩ ⟨oQ,oU⟩ ⟨hp1,hp2⟩ h1)) | (go_at_call 102;exact gu (FT d bn _ hd0 hd1 (by have:=tX.out;omega) tv x tX.out Ij.out)))))
     refine wpQuiet_nil ?_
     intro _ hw'
     obtain⟨t,rfl⟩:=hw'
     go_wp2
     go_ret2
     exact⟨by rw[HF.out];simp,vQ.out t⟩
    ·have hjn:j=n:=by omega
     have HA:=hide (show∀b':Nat,x - 1<b'→b'≤4→∀r∈l,qO d b' r=false from fun b' h1 h2 r hr=>by
      rcases(by have:=tX.out;omega:b'=bn∨x<b')with h | h
      ·obtain⟨i,hi⟩:=List.getElem?_of_mem hr
       rw[h]
       exact HJ.out i r (by have:=(List.getElem?_eq_some_iff.1 hi).1;have:=HL.out.1;omega) hi
      ·exact HN.out b' h h2 r hr)
     go_wp2
     go_roundw
     case rel=>exact⟨x - 1,by omega,by omega,rfl,HA,sK.out⟩
     case measure=>simp[intOf];omega
  ·have HF:=hide (O4 (l:=l) (fun b' h2 r hr=>HN.out b' (by omega) h2 r hr) hd0 hd1)
   go_wp2
   go_ret2
   exact⟨by rw[HF.out];simp,HB.out⟩
theorem O7 (l:List aG) (A:Option Addr) (n c:Nat) (d:Int) (W:World) (hd:d<0∨15<d):
  Calls Tryz.prog 65 #[.slice A n c,.int .i64 d] W (Kv l d W):=by
 have HF:=hide (Ut (l:=l) hd)
 have hin:aZ d 0 15=false:=by simp[aZ];omega
 clear hd
 go_enter Tryz.func65,Tryz.ntmps65
 go_wp2
 refine wp_loop_rounds 1 ?_
 rw[rounds_succ]
 go_wp2_with (go_at_call 7;refine(dR _ hin).mono ?_;rintro e w' ⟨rfl,rfl⟩)
 go_ret2
 exact⟨by rw[HF.out];simp,Below.refl _ _⟩
theorem O8 (A:Option Addr) (c:Nat) (d:Int) (W:World) (hd0:0≤d) (hd1:d≤15):
  Calls Tryz.prog 65 #[.slice A 0 c,.int .i64 d] W (Kv [] d W):=by
 have hin:aZ d 0 15=true:=by simp[aZ];omega
 go_enter Tryz.func65,Tryz.ntmps65
 go_wp2
 go_loopw [6] (fun u wr=>∃x:Int,-1≤x∧x≤4∧u= .int .i64 x∧Below W.heap.size W wr) (fun u _=>(intOf u+1).toNat)
 case atStart=>exact⟨4,by omega,by omega,rfl,Below.refl _ _⟩
 case round=>
  obtain⟨x,hx1,hx2,rfl,hb⟩:=hrel
  have HB:=hide hb
  clear hb
  by_cases hx0:0≤x
  ·go_wp2_with (go_at_call 7;refine(dR _ hin).mono ?_;rintro e w' ⟨rfl,rfl⟩)
   refine wp_loop_rounds 1 ?_
   rw[rounds_succ]
   go_wp2
   go_roundw
   case rel=>exact⟨x - 1,by omega,by omega,rfl,HB.out⟩
   case measure=>simp[intOf];omega
  ·go_wp2
   go_ret2
   exact⟨rfl,HB.out⟩
theorem OI (l:List aG) (A:Option Addr) (n c:Nat) (d:Int) (W:World) (hn:n≤9223372036854775807) (hl:bD aG.cells 3 W W.heap.size A n l) (hok:∀r∈l,r.ok):
  Calls Tryz.prog 65 #[.slice A n c,.int .i64 d] W (Kv l d W):=by
 by_cases h:d<0∨15<d
 ·exact O7 l A n c d W h
 ·rcases Nat.eq_zero_or_pos n with rfl | h0
  ·have:l=[]:=List.eq_nil_of_length_eq_zero hl.1
   subst this
   exact O8 A c d W (by omega) (by omega)
  ·obtain⟨b,o,rfl,hb,_⟩:=hl.2 h0
   exact LC l b o n c d W hn (by omega) (by omega) hl hok h0
end Go.Proofs.YtifkacnoiocebaaGreat
namespace Go.Proofs.YtifkacnoiocebaaGreat
open Go.RowKit
theorem nu (w:World) (set:Nat) (n:Int) (hs:set<65536) (B:Bool) (hB:hasB set n=B):
  Calls Tryz.prog 68 #[.int .i64 set,.int .i64 n] w fun e W'=>e= .returned (.bool B)∧w=W':=by
 cases h1:aZ n 0 15
 ·have HB:=hide (show B=false from by
   rw[← hB];simp only[aZ,Bool.and_eq_false_iff,decide_eq_false_iff_not]at h1;simp[hasB];omega)
  rw[HB.out]
  clear hB
  go_enter Tryz.func68,Tryz.ntmps68
  go_wp2_with fail
  refine(aX _ _ _ _).mono ?_
  rintro e w' ⟨rfl,rfl⟩
  rw[h1]
  go_wp2
  go_ret
  exact⟨rfl,rfl⟩
 ·have h2:=h1
  simp only[aZ,Bool.and_eq_true,decide_eq_true_eq]at h2
  obtain⟨h3,h4⟩:=h2
  obtain⟨k,rfl⟩:∃k:Nat,n=(k:Int):=⟨n.toNat,by omega⟩
  refine TP w set k hs (by omega) B ?_
  rw[← hB]
  have:(k:Int)<16:=by omega
  simp[hasB,this]
theorem Du (m:M4) (p:P4) (w:World) (hm:m.ok) (B:Bool) (hB:yw m p=B):
  Calls Tryz.prog 40 #[.agg #[.int .u16 m.src,.int .u16 m.dst,.int .u8 m.dz,.int .u8 m.dU],.agg #[.int .i64 p.src,.int .i64 p.dst,.int .i64 p.dz,.int .i64 p.dU]] w fun e W'=>e= .returned (.bool B)∧Below w.heap.size w W':=by
 have HB:Hid (∀o0 o1,Below w.heap.size w ((w.alloc o0).alloc o1)):=hide (fun o0 o1=>((Below.refl _ _).alloc (Nat.le_refl _) o0).alloc (by simp) o1)
 have HF:=hide (show(hasB m.src p.src && hasB m.dst p.dst && hasB m.dz p.dz && hasB m.dU p.dU)=B from hB)
 clear hB
 obtain⟨ms,md,mp,mq⟩:=m
 obtain⟨ps,pd,pp,pq⟩:=p
 have h1:ms<65536:=hm.1
 have h2:md<65536:=hm.2.1
 have h3:mp<256:=hm.2.2.1
 have h4:mq<256:=hm.2.2.2
 clear hm
 cases e1:hasB ms ps
 ·rw[← HF.out,e1]
  go_enter Tryz.func40,Tryz.ntmps40
  go_wp2_with (go_at_call 68;refine(nu _ _ _ (by omega) _ rfl).mono ?_;rintro e w' ⟨rfl,rfl⟩)
  go_ret
  exact⟨by simp[*],HB.out _ _⟩
 cases e2:hasB md pd
 ·rw[← HF.out,e1,e2]
  go_enter Tryz.func40,Tryz.ntmps40
  go_wp2_with (go_at_call 68;refine(nu _ _ _ (by omega) _ rfl).mono ?_;rintro e w' ⟨rfl,rfl⟩)
  go_ret
  exact⟨by simp[*],HB.out _ _⟩
 cases e3:hasB mp pp
 ·rw[← HF.out,e1,e2,e3]
  go_enter Tryz.func40,Tryz.ntmps40
  go_wp2_with (go_at_call 68;refine(nu _ _ _ (by omega) _ rfl).mono ?_;rintro e w' ⟨rfl,rfl⟩)
  go_ret
  exact⟨by simp[*],HB.out _ _⟩
 cases e4:hasB mq pq
 ·rw[← HF.out,e1,e2,e3,e4]
  go_enter Tryz.func40,Tryz.ntmps40
  go_wp2_with (go_at_call 68;refine(nu _ _ _ (by omega) _ rfl).mono ?_;rintro e w' ⟨rfl,rfl⟩)
  go_ret
  exact⟨by simp[*],HB.out _ _⟩
 ·rw[← HF.out,e1,e2,e3,e4]
  go_enter Tryz.func40,Tryz.ntmps40
  go_wp2_with (go_at_call 68;refine(nu _ _ _ (by omega) _ rfl).mono ?_;rintro e w' ⟨rfl,rfl⟩)
  go_ret
  exact⟨by simp[*],HB.out _ _⟩
theorem KR (l:List bg) (b o n c:Nat) (p:P4) (W:World) (hn:n≤9223372036854775807) (hl:gG W W.heap.size (some ⟨b,o,none⟩) n l):
  Calls Tryz.prog 66 #[.slice (some ⟨b,o,none⟩) n c,.agg #[.int .i64 p.src,.int .i64 p.dst,.int .i64 p.dz,.int .i64 p.dU]] W fun e W'=>e= .returned (.bool (iY l p))∧Below W.heap.size W W':=by
 have HL:=hide hl
 have hb0:Below W.heap.size W (W.alloc (.cells #[.int .i64 p.src,.int .i64 p.dst,.int .i64 p.dz,.int .i64 p.dU] 29)):=(Below.refl _ _).alloc (Nat.le_refl _) _
 have hpa:yA (W.alloc (.cells #[.int .i64 p.src,.int .i64 p.dst,.int .i64 p.dz,.int .i64 p.dU] 29)) W.heap.size p:=⟨by simp,by simp,by simp,by simp⟩
 have HB0:=hide hb0
 have HP:=hide hpa
 clear hl hb0 hpa
 go_enter Tryz.func66,Tryz.ntmps66
 go_wp2
 go_loopw [5] (fun i wr=>∃k:Nat,k≤n∧i= .int .i64 k∧Hid (∀j r,j<k→l[j]?=some r→yw r.m p=false)∧Below W.heap.size W wr∧Hid (yA wr W.heap.size p)∧W.heap.size<wr.heap.size) (fun i _=>n - (intOf i).toNat)
 case atStart=>exact⟨0,Nat.zero_le _,rfl,hide (fun j r h=>absurd h (by omega)),HB0.out,HP,by simp⟩
 case round=>
  clear HP HB0
  obtain⟨k,hk,rfl,HN,hb,HP,hsz⟩:=hrel
  have HB:=hide hb
  clear hb
  by_cases hlt:k<n
  ·obtain⟨r,hr⟩:∃r,l[k]?=some r:=⟨_,List.getElem?_eq_getElem (by have:=HL.out.1;omega)⟩
   obtain⟨kD,hra⟩:=HL.out.get hr
   have Ce:=hide (hra.below HB.out kD)
   have HR:=hide hr
   have fK:=hide (HL.out.acy hr)
   have hbl:b<wr.heap.size:=by omega
   clear hr hra
   obtain⟨rp,m⟩:=r
   go_wp2_with fail
   refine bB (by kernel_rfl) (by kernel_rfl) ?_
   intro T hT g hg hgi
   have HG:=hide hg
   have HI:=hide hgi
   have e:∀t o,(g t).cell? ⟨b,o,none⟩=wr.cell? ⟨b,o,none⟩:=fun t o=>(HG.out t).cell (p:=⟨b,o,none⟩) hbl
   have k1:∀t,(g t).cell? ⟨b,o+k*5+1,none⟩=some (.int .u16 m.src):=fun t=>(e t _).trans Ce.out.2.1
   have k2:∀t,(g t).cell? ⟨b,o+k*5+2,none⟩=some (.int .u16 m.dst):=fun t=>(e t _).trans Ce.out.2.2.1
   have k3:∀t,(g t).cell? ⟨b,o+k*5+3,none⟩=some (.int .u8 m.dz):=fun t=>(e t _).trans Ce.out.2.2.2.1
   have k4:∀t,(g t).cell? ⟨b,o+k*5+4,none⟩=some (.int .u8 m.dU):=fun t=>(e t _).trans Ce.out.2.2.2.2
   have p0:∀t,(g t).cell? ⟨W.heap.size,0,none⟩=some (.int .i64 p.src):=fun t=>(((HP.out.below (HG.out t) hsz))).1
   have p1:∀t,(g t).cell? ⟨W.heap.size,1,none⟩=some (.int .i64 p.dst):=fun t=>(((HP.out.below (HG.out t) hsz))).2.1
   have p2:∀t,(g t).cell? ⟨W.heap.size,2,none⟩=some (.int .i64 p.dz):=fun t=>(((HP.out.below (HG.out t) hsz))).2.2.1
   have p3:∀t,(g t).cell? ⟨W.heap.size,3,none⟩=some (.int .i64 p.dU):=fun t=>(((HP.out.below (HG.out t) hsz))).2.2.2
   have vQ:=hide (fun t=>HB.out.trans ((HG.out t).mono HB.out.size))
   have HPx:=hide (fun t=>(HP.out.below (HG.out t) hsz))
   have HSx:=hide (fun t=>Nat.lt_of_lt_of_le hsz (HG.out t).size)
   clear hg hgi e
   cases h1:yw m p
   ·repeat (go_big_quiet_step ((go_at_call 40;exact eB HG.out HI.out (Du m p _ fK.out _ h1))))
    refine wpQuiet_nil ?_
    intro _ hw'
    obtain⟨t,rfl⟩:=hw'
    go_wp2
    go_roundw
    case rel=>exact⟨k+1,by omega,by go_num,hide (fun i r hi hr=>by
     rcases(by omega:i<k∨i=k)with h | rfl
     ·exact HN.out i r h hr
     ·have e:=HR.out;rw[e]at hr;cases hr;exact h1),vQ.out t,hide (HPx.out t),HSx.out t⟩
    case measure=>simp[intOf];omega
   ·have HF:=hide (Nh HR.out h1 HN.out)
    repeat (go_big_quiet_step ((go_at_call 40;exact eB HG.out HI.out (Du m p _ fK.out _ h1))))
    refine wpQuiet_nil ?_
    intro _ hw'
    obtain⟨t,rfl⟩:=hw'
    have k0:(g t).cell? ⟨b,o+k*5,none⟩=some (.bool rp):=((HG.out t).cell (p:=⟨b,o+k*5,none⟩) hbl).trans Ce.out.1
    go_wp2
    go_ret
    exact⟨bX (by rw[HF.out]),vQ.out t⟩
  ·have hkn:k=n:=by omega
   have HF:=hide (Pn (l:=l) (p:=p) (fun r hr=>by
    obtain⟨i,hi⟩:=List.getElem?_of_mem hr
    exact HN.out i r (by have:=(List.getElem?_eq_some_iff.1 hi).1;have:=HL.out.1;omega) hi))
   go_wp2
   go_ret
   exact⟨bX (by rw[HF.out]),HB.out⟩
theorem LD (A:Option Addr) (c:Nat) (p:Value) (x0 x1 x2 x3:Int) (W:World):Calls Tryz.prog 66 #[.slice A 0 c,.agg #[.int .i64 x0,.int .i64 x1,.int .i64 x2,.int .i64 x3]] W fun e W'=>e= .returned (.bool false)∧Below W.heap.size W W':=by
 go_enter Tryz.func66,Tryz.ntmps66
 go_wp2
 refine wp_loop_rounds 1 ?_
 rw[rounds_succ]
 go_wp2
 go_ret
 exact⟨rfl,(Below.refl _ _).alloc (Nat.le_refl _) _⟩
theorem yu (l:List bg) (A:Option Addr) (n c:Nat) (p:P4) (W:World) (hn:n≤9223372036854775807) (hl:gG W W.heap.size A n l):
  Calls Tryz.prog 66 #[.slice A n c,.agg #[.int .i64 p.src,.int .i64 p.dst,.int .i64 p.dz,.int .i64 p.dU]] W fun e W'=>e= .returned (.bool (iY l p))∧Below W.heap.size W W':=by
 rcases Nat.eq_zero_or_pos n with rfl | h0
 ·have:l=[]:=List.eq_nil_of_length_eq_zero hl.1
  subst this
  exact LD A c undef _ _ _ _ W
 ·obtain⟨b,o,rfl,hb,_⟩:=hl.2.2 h0
  exact KR l b o n c p W hn hl
def pk (c:Nat):P4:=⟨((c / 1024:Nat):Int),((c / 64 % 16:Nat):Int),((c / 8 % 8:Nat):Int),((c % 8:Nat):Int)⟩
theorem Kl (c:Nat):fQ c= .agg #[.int .i64 (pk c).src,.int .i64 (pk c).dst,.int .i64 (pk c).dz,.int .i64 (pk c).dU]:=rfl
def mV (F G:Nat→Bool) (n:Nat):Option (Nat×Nat):=
 ((List.range n).find? fun c=>F c != G c).map fun c=>(c,if F c then 1 else 2)
theorem tF {F G:Nat→Bool} {n c:Nat} (hc:c<n) (h:(F c != G c)=true) (hl:∀j,j<c→F j=G j):mV F G n=some (c,if F c then 1 else 2):=by
 have:(List.range n).find? (fun c=>F c != G c)=some c:=by
  rw[List.find?_eq_some_iff_getElem]
  refine⟨h,c,by simpa using hc,by simp,fun j hj=>?_⟩
  simp[hl j hj]
 simp[mV,this]
theorem Dl {F G:Nat→Bool} {n:Nat} (h:∀j,j<n→F j=G j):mV F G n=none:=by
 have:(List.range n).find? (fun c=>F c != G c)=none:=by
  rw[List.find?_eq_none]
  intro j hj
  simp[h j (by simpa using hj)]
 simp[mV,this]
def nT (r:Option (Nat×Nat)):Value:=match r with
 |some (c,k)=>.tuple #[fQ c,.int .i64 (k:Int)]
 |none=>.tuple #[.agg #[.int .i64 0,.int .i64 0,.int .i64 0,.int .i64 0],.int .i64 0]
end Go.Proofs.YtifkacnoiocebaaGreat
