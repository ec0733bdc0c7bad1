/- A part of the proof: NetDevice, NetFind, NetCheckP. -/
import Derived.Test.YtifkacnoiocebaaDoorNz3
set_option linter.unusedVariables false
set_option linter.unusedSimpArgs false
set_option maxRecDepth 100000
set_option maxHeartbeats 8000000
namespace Go.Proofs.YtifkacnoiocebaaDoor
open Go.RowKit
theorem nK (nm:ByteArray) (kd ad:Int) (pl:Nat) (bA:Option Addr) (bn bc:Nat) (bs:List Int) (rA:Option Addr) (rn rc:Nat) (rs:List bN) (tA:Option Addr) (tn tc:Nat) (ts:List bf) (W:World)
  (hd:gL W W.heap.size ⟨nm,kd,ad,pl,bA,bn,bc,bs,rA,rn,rc,rs,tA,tn,tc,ts⟩):
  Calls Tryd.prog 69 #[.agg #[.string nm,.int .i64 kd,.int .i64 ad,.int .u8 pl,.slice bA bn bc,.slice rA rn rc,.slice tA tn tc]] W fun e W'=>e= .returned (.bool (cu ⟨nm,kd,ad,pl,bs,rs,ts⟩))∧RowKit.Below W.heap.size W W':=z8 _ W hd
def Aa (d:Dev):Bool:=(lH d.kind && !(decide (0≤d.addr) && decide (d.addr<16))) || (!lH d.kind && (d.addr != 0)) || ((d.pool != 0) != (d.kind ==4))
def pE (a:Int):Bool:=decide (0≤a) && decide (a<16)
def gM (k a:Int) (p:Nat):Bool:=(lH k && !pE a) || (!lH k && (a != 0)) || ((p != 0) != (k ==4))
theorem dI {k a:Int} {p:Nat} {x y z u:Bool} (h1:lH k=x) (h2:pE a=y) (h3:(a != 0)=z) (h4:((p != 0) != (k ==4))=u):gM k a p=((x && !y) || (!x && z) || u):=by
 unfold gM;rw[h1,h2,h3,h4]
theorem dW {d:Dev} (h:1≤d.kind∧d.kind≤5) (h1:Aa d=true):aX d=1:=by
 unfold Aa at h1
 unfold aX
 rw[if_neg (by simp;omega),if_pos h1]
theorem jr {d:Dev} (h:1≤d.kind∧d.kind≤5) (h1:Aa d=false):aX d=
  if 3<d.backs.length then 2 else if cu d=false then 1 else if(0<d.rules.length∧d.kind≠2∧d.kind≠3)∨(0<d.routes.length∧d.kind≠2)then 1 else if 8<d.rules.length then 2 else dH d.routes:=by
 unfold Aa at h1
 unfold aX
 rw[if_neg (by simp;omega),if_neg (by rw[h1];simp)]
 simp[and_assoc]
theorem y7 (d:ah) (W:World) (hd:gL W W.heap.size d):
  Calls Tryd.prog 36 #[d.val] W fun e W'=>e= .returned (.int .i64 (aX d.dev))∧RowKit.Below W.heap.size W W':=by
 obtain⟨W0,hW0⟩:∃W0,W0=W.alloc (.cells #[.string d.name,.int .i64 d.kind,.int .i64 d.addr,.int .u8 d.pool,.slice d.bA d.bn d.bc,.slice d.rA d.rn d.rc,.slice d.tA d.tn d.tc] 37):=⟨_,rfl⟩
 have HB0:=hide (show RowKit.Below W.heap.size W W0 from by rw[hW0];exact(RowKit.Below.refl _ _).alloc (Nat.le_refl _) _)
 have jB:=hide (show W0.heap.size=W.heap.size+1 from by rw[hW0];simp)
 have HQ:=hide (fun(w':World) (hb:RowKit.Below W0.heap.size W0 w')=>show fP w' W.heap.size d∧gL w' w'.heap.size d∧RowKit.Below W.heap.size W w' from by
  have h1:=HB0.out.trans (hb.mono (by rw[jB.out];omega))
  exact⟨(show fP W0 W.heap.size d from by rw[hW0];exact fP.new W d _).below hb (by rw[jB.out];omega),hd.below h1 h1.size,h1⟩)
 have hl1:=hd.bs.1
 have hl2:=hd.rs.1
 have hl3:=hd.ts.1
 have HL:=hide (And.intro hl1 (And.intro hl2 hl3))
 have htc:=hd.ct.1
 have hpl:=hd.pl
 clear hd hl1 hl2 hl3
 obtain⟨nm,kd,ad,pl,bA,bn,bc,bs,rA,rn,rc,rs,tA,tn,tc,ts⟩:=d
 simp only[ah.val]at*
 have HR:=hide (RowKit.Below.refl W0.heap.size W0)
 have IK:=hide HB0.out.size
 clear jB
 subst hW0
 by_cases hk1:kd<1
 ·have HF:=hide (show aX (ah.dev ⟨nm,kd,ad,pl,bA,bn,bc,bs,rA,rn,rc,rs,tA,tn,tc,ts⟩)=1 from by simp[aX,ah.dev,hk1])
  generalize aX _=E at*
  have e1:(kd ==1)=false:=by simp;omega
  have e2:(kd ==4)=false:=by simp;omega
  have e3:(kd ==5)=false:=by simp;omega
  go_enter Tryd.func36,Tryd.ntmps36
  go_wp2
  go_ret
  exact⟨aj HF.out.symm,HB0.out⟩
 by_cases hk2:5<kd
 ·have HF:=hide (show aX (ah.dev ⟨nm,kd,ad,pl,bA,bn,bc,bs,rA,rn,rc,rs,tA,tn,tc,ts⟩)=1 from by simp[aX,ah.dev,hk2])
  generalize aX _=E at*
  have e1:(kd ==1)=false:=by simp;omega
  have e2:(kd ==4)=false:=by simp;omega
  have e3:(kd ==5)=false:=by simp;omega
  go_enter Tryd.func36,Tryd.ntmps36
  go_wp2
  go_ret
  exact⟨aj HF.out.symm,HB0.out⟩
 have hkr:kd=1∨kd=2∨kd=3∨kd=4∨kd=5:=by omega
 clear hk1 hk2
 rcases hkr with rfl | rfl | rfl | rfl | rfl
 ·cases hw:(decide (0≤ad) && decide (ad<16))
  ·have HF:=hide (show aX (ah.dev ⟨nm,1,ad,pl,bA,bn,bc,bs,rA,rn,rc,rs,tA,tn,tc,ts⟩)=1 from dW (by simp[ah.dev]) (by show gM 1 ad pl=true;rw[dI rfl (show pE ad=false from hw) rfl rfl];rfl))
   generalize aX _=E at*
   go_enter Tryd.func36,Tryd.ntmps36
   go_wp2_with (go_at_call 37;refine(bE _ _ _ false hw).mono ?_;rintro e w1 ⟨rfl,rfl⟩)
   go_ret
   exact⟨aj HF.out.symm,(HQ.out _ HR.out).2.2⟩
  by_cases hp:pl=0
  ·subst hp
   have HE:=hide (show aX (ah.dev ⟨nm,1,ad,0,bA,bn,bc,bs,rA,rn,rc,rs,tA,tn,tc,ts⟩)=(if 3<bn then 2 else if cu ⟨nm,1,ad,0,bs,rs,ts⟩=false then 1 else if(0<rn∧(1:Int)≠2∧(1:Int)≠3)∨(0<tn∧(1:Int)≠2)then 1 else if 8<rn then 2 else dH ts)from by
    rw[jr (by simp[ah.dev]) (by show gM 1 ad 0=false;rw[dI rfl (show pE ad=true from hw) rfl rfl];rfl)]
    simp only[ah.dev,HL.out.1,HL.out.2.1,HL.out.2.2])
   generalize aX _=E at*
   have HC:=hide (nK nm 1 ad 0 bA bn bc bs rA rn rc rs tA tn tc ts _ (HQ.out _ HR.out).2.1)
   have kG:=hide (fun w1 hb=>lD ts tA tn tc w1 htc (HQ.out _ hb).2.1.ts (HQ.out _ hb).2.1.tok)
   go_enter Tryd.func36,Tryd.ntmps36
   by_cases b3:3<bn
   ·have HF:=hide (show E=2 from by rw[HE.out];simp[b3])
    clear HE
    go_wp2_with (go_at_call 37;refine(bE _ _ _ true hw).mono ?_;rintro e w1 ⟨rfl,rfl⟩)
    go_ret
    exact⟨aj HF.out.symm,(HQ.out _ HR.out).2.2⟩
   cases bb:cu ⟨nm,1,ad,0,bs,rs,ts⟩
   ·have HF:=hide (show E=1 from by rw[HE.out];simp[b3,bb])
    clear HE
    rw[bb]at HC
    clear bb
    go_wp2_with (first | (go_at_call 37;refine(bE _ _ _ true hw).mono ?_;rintro e w1 ⟨rfl,rfl⟩) | (go_at_call 69;refine HC.out.mono ?_;rintro e w1 ⟨rfl,hb⟩;have HR1:=hide hb;clear hb))
    go_ret
    exact⟨aj HF.out.symm,(HQ.out _ HR1.out).2.2⟩
   rw[bb]at HC
   have HE2:=hide (show E=(if(0<rn∧(1:Int)≠2∧(1:Int)≠3)∨(0<tn∧(1:Int)≠2)then 1 else if 8<rn then 2 else dH ts)from by rw[HE.out,bb];simp[b3])
   clear HE bb
   have kE:=hide (fun w=>j5 rA rn rc w)
   by_cases r8:8<rn
   ·rw[if_pos r8]at kE
    go_wp2_with (first | (go_at_call 37;refine(bE _ _ _ true hw).mono ?_;rintro e w1 ⟨rfl,rfl⟩) | (go_at_call 69;refine HC.out.mono ?_;rintro e w1 ⟨rfl,hb⟩;have HR1:=hide hb;clear hb;have y:=(HQ.out _ HR1.out).1;obtain⟨y0,y1,y2,y3,y4,y5,y6⟩:=y;clear HC) | (go_at_call 70;refine(kE.out _).mono ?_;rintro e w2 ⟨rfl,rfl⟩))
    all_goals
     go_ret
     exact⟨aj (by rw[HE2.out];first | rw[if_pos (by omega)] | rw[if_neg (by omega),if_pos r8]),(HQ.out _ HR1.out).2.2⟩
   ·rw[if_neg r8]at kE
    go_wp2_with (first | (go_at_call 37;refine(bE _ _ _ true hw).mono ?_;rintro e w1 ⟨rfl,rfl⟩) | (go_at_call 69;refine HC.out.mono ?_;rintro e w1 ⟨rfl,hb⟩;have HR1:=hide hb;clear hb;have y:=(HQ.out _ HR1.out).1;obtain⟨y0,y1,y2,y3,y4,y5,y6⟩:=y;clear HC) | (go_at_call 70;refine(kE.out _).mono ?_;rintro e w2 ⟨rfl,rfl⟩) | (go_at_call 71;refine(kG.out _ HR1.out).mono ?_;rintro e w3 ⟨rfl,hb⟩;have HR2:=hide (HR1.out.trans (hb.mono HR1.out.size));clear hb))
    all_goals
     go_ret
     first
      |exact⟨aj (by rw[HE2.out,if_pos (by omega)]),(HQ.out _ HR1.out).2.2⟩
      |exact⟨aj (by rw[HE2.out,if_neg (by omega),if_neg r8]),(HQ.out _ HR2.out).2.2⟩
  ·have p1:((pl:Int) != 0)=true:=by simp;omega
   have p2:((pl:Int)==0)=false:=by simp;omega
   ·have HF:=hide (show aX (ah.dev ⟨nm,1,ad,pl,bA,bn,bc,bs,rA,rn,rc,rs,tA,tn,tc,ts⟩)=1 from dW (by simp[ah.dev]) (by show gM 1 ad pl=true;rw[dI rfl (show pE ad=true from hw) rfl (show((pl != 0) != ((1:Int)==4))=true from by simp[hp])];rfl))
    generalize aX _=E at*
    go_enter Tryd.func36,Tryd.ntmps36
    go_wp2_with (go_at_call 37;refine(bE _ _ _ true hw).mono ?_;rintro e w1 ⟨rfl,rfl⟩)
    go_ret
    exact⟨aj HF.out.symm,(HQ.out _ HR.out).2.2⟩
 ·by_cases ha:ad=0
  ·subst ha
   by_cases hp:pl=0
   ·subst hp
    have HE:=hide (show aX (ah.dev ⟨nm,2,0,0,bA,bn,bc,bs,rA,rn,rc,rs,tA,tn,tc,ts⟩)=(if 3<bn then 2 else if cu ⟨nm,2,0,0,bs,rs,ts⟩=false then 1 else if(0<rn∧(2:Int)≠2∧(2:Int)≠3)∨(0<tn∧(2:Int)≠2)then 1 else if 8<rn then 2 else dH ts)from by
     rw[jr (by simp[ah.dev]) (by rfl)]
     simp only[ah.dev,HL.out.1,HL.out.2.1,HL.out.2.2])
    generalize aX _=E at*
    have HC:=hide (nK nm 2 0 0 bA bn bc bs rA rn rc rs tA tn tc ts _ (HQ.out _ HR.out).2.1)
    have kG:=hide (fun w1 hb=>lD ts tA tn tc w1 htc (HQ.out _ hb).2.1.ts (HQ.out _ hb).2.1.tok)
    go_enter Tryd.func36,Tryd.ntmps36
    by_cases b3:3<bn
    ·have HF:=hide (show E=2 from by rw[HE.out];simp[b3])
     clear HE
     go_wp2_with fail
     go_ret
     exact⟨aj HF.out.symm,(HQ.out _ HR.out).2.2⟩
    cases bb:cu ⟨nm,2,0,0,bs,rs,ts⟩
    ·have HF:=hide (show E=1 from by rw[HE.out];simp[b3,bb])
     clear HE
     rw[bb]at HC
     clear bb
     go_wp2_with (first | fail | (go_at_call 69;refine HC.out.mono ?_;rintro e w1 ⟨rfl,hb⟩;have HR1:=hide hb;clear hb))
     go_ret
     exact⟨aj HF.out.symm,(HQ.out _ HR1.out).2.2⟩
    rw[bb]at HC
    have HE2:=hide (show E=(if(0<rn∧(2:Int)≠2∧(2:Int)≠3)∨(0<tn∧(2:Int)≠2)then 1 else if 8<rn then 2 else dH ts)from by rw[HE.out,bb];simp[b3])
    clear HE bb
    have kE:=hide (fun w=>j5 rA rn rc w)
    by_cases r8:8<rn
    ·rw[if_pos r8]at kE
     go_wp2_with (first | fail | (go_at_call 69;refine HC.out.mono ?_;rintro e w1 ⟨rfl,hb⟩;have HR1:=hide hb;clear hb;have y:=(HQ.out _ HR1.out).1;obtain⟨y0,y1,y2,y3,y4,y5,y6⟩:=y;clear HC) | (go_at_call 70;refine(kE.out _).mono ?_;rintro e w2 ⟨rfl,rfl⟩))
     all_goals
      go_ret
      exact⟨aj (by rw[HE2.out];first | rw[if_pos (by omega)] | rw[if_neg (by omega),if_pos r8]),(HQ.out _ HR1.out).2.2⟩
    ·rw[if_neg r8]at kE
     go_wp2_with (first | fail | (go_at_call 69;refine HC.out.mono ?_;rintro e w1 ⟨rfl,hb⟩;have HR1:=hide hb;clear hb;have y:=(HQ.out _ HR1.out).1;obtain⟨y0,y1,y2,y3,y4,y5,y6⟩:=y;clear HC) | (go_at_call 70;refine(kE.out _).mono ?_;rintro e w2 ⟨rfl,rfl⟩) | (go_at_call 71;refine(kG.out _ HR1.out).mono ?_;rintro e w3 ⟨rfl,hb⟩;have HR2:=hide (HR1.out.trans (hb.mono HR1.out.size));clear hb))
     all_goals
      go_ret
      first
       |exact⟨aj (by rw[HE2.out,if_pos (by omega)]),(HQ.out _ HR1.out).2.2⟩
       |exact⟨aj (by rw[HE2.out,if_neg (by omega),if_neg r8]),(HQ.out _ HR2.out).2.2⟩
   ·have p1:((pl:Int) != 0)=true:=by simp;omega
    have p2:((pl:Int)==0)=false:=by simp;omega
    ·have HF:=hide (show aX (ah.dev ⟨nm,2,0,pl,bA,bn,bc,bs,rA,rn,rc,rs,tA,tn,tc,ts⟩)=1 from dW (by simp[ah.dev]) (by show gM 2 0 pl=true;rw[dI rfl rfl rfl (show((pl != 0) != ((2:Int)==4))=true from by simp[hp])];rfl))
     generalize aX _=E at*
     go_enter Tryd.func36,Tryd.ntmps36
     go_wp2_with fail
     go_ret
     exact⟨aj HF.out.symm,(HQ.out _ HR.out).2.2⟩
  ·have a1:((ad:Int) != 0)=true:=by simp;omega
   have a2:((ad:Int)==0)=false:=by simp;omega
   ·have HF:=hide (show aX (ah.dev ⟨nm,2,ad,pl,bA,bn,bc,bs,rA,rn,rc,rs,tA,tn,tc,ts⟩)=1 from dW (by simp[ah.dev]) (by show gM 2 ad pl=true;rw[dI rfl rfl a1 rfl];simp[lH]))
    generalize aX _=E at*
    go_enter Tryd.func36,Tryd.ntmps36
    go_wp2_with fail
    go_ret
    exact⟨aj HF.out.symm,(HQ.out _ HR.out).2.2⟩
 ·by_cases ha:ad=0
  ·subst ha
   by_cases hp:pl=0
   ·subst hp
    have HE:=hide (show aX (ah.dev ⟨nm,3,0,0,bA,bn,bc,bs,rA,rn,rc,rs,tA,tn,tc,ts⟩)=(if 3<bn then 2 else if cu ⟨nm,3,0,0,bs,rs,ts⟩=false then 1 else if(0<rn∧(3:Int)≠2∧(3:Int)≠3)∨(0<tn∧(3:Int)≠2)then 1 else if 8<rn then 2 else dH ts)from by
     rw[jr (by simp[ah.dev]) (by rfl)]
     simp only[ah.dev,HL.out.1,HL.out.2.1,HL.out.2.2])
    generalize aX _=E at*
    have HC:=hide (nK nm 3 0 0 bA bn bc bs rA rn rc rs tA tn tc ts _ (HQ.out _ HR.out).2.1)
    have kG:=hide (fun w1 hb=>lD ts tA tn tc w1 htc (HQ.out _ hb).2.1.ts (HQ.out _ hb).2.1.tok)
    go_enter Tryd.func36,Tryd.ntmps36
    by_cases b3:3<bn
    ·have HF:=hide (show E=2 from by rw[HE.out];simp[b3])
     clear HE
     go_wp2_with fail
     go_ret
     exact⟨aj HF.out.symm,(HQ.out _ HR.out).2.2⟩
    cases bb:cu ⟨nm,3,0,0,bs,rs,ts⟩
    ·have HF:=hide (show E=1 from by rw[HE.out];simp[b3,bb])
     clear HE
     rw[bb]at HC
     clear bb
     go_wp2_with (first | fail | (go_at_call 69;refine HC.out.mono ?_;rintro e w1 ⟨rfl,hb⟩;have HR1:=hide hb;clear hb))
     go_ret
     exact⟨aj HF.out.symm,(HQ.out _ HR1.out).2.2⟩
    rw[bb]at HC
    have HE2:=hide (show E=(if(0<rn∧(3:Int)≠2∧(3:Int)≠3)∨(0<tn∧(3:Int)≠2)then 1 else if 8<rn then 2 else dH ts)from by rw[HE.out,bb];simp[b3])
    clear HE bb
    have kE:=hide (fun w=>j5 rA rn rc w)
    by_cases r8:8<rn
    ·rw[if_pos r8]at kE
     go_wp2_with (first | fail | (go_at_call 69;refine HC.out.mono ?_;rintro e w1 ⟨rfl,hb⟩;have HR1:=hide hb;clear hb;have y:=(HQ.out _ HR1.out).1;obtain⟨y0,y1,y2,y3,y4,y5,y6⟩:=y;clear HC) | (go_at_call 70;refine(kE.out _).mono ?_;rintro e w2 ⟨rfl,rfl⟩))
     all_goals
      go_ret
      exact⟨aj (by rw[HE2.out];first | rw[if_pos (by omega)] | rw[if_neg (by omega),if_pos r8]),(HQ.out _ HR1.out).2.2⟩
    ·rw[if_neg r8]at kE
     go_wp2_with (first | fail | (go_at_call 69;refine HC.out.mono ?_;rintro e w1 ⟨rfl,hb⟩;have HR1:=hide hb;clear hb;have y:=(HQ.out _ HR1.out).1;obtain⟨y0,y1,y2,y3,y4,y5,y6⟩:=y;clear HC) | (go_at_call 70;refine(kE.out _).mono ?_;rintro e w2 ⟨rfl,rfl⟩) | (go_at_call 71;refine(kG.out _ HR1.out).mono ?_;rintro e w3 ⟨rfl,hb⟩;have HR2:=hide (HR1.out.trans (hb.mono HR1.out.size));clear hb))
     all_goals
      go_ret
      first
       |exact⟨aj (by rw[HE2.out,if_pos (by omega)]),(HQ.out _ HR1.out).2.2⟩
       |exact⟨aj (by rw[HE2.out,if_neg (by omega),if_neg r8]),(HQ.out _ HR2.out).2.2⟩
   ·have p1:((pl:Int) != 0)=true:=by simp;omega
    have p2:((pl:Int)==0)=false:=by simp;omega
    ·have HF:=hide (show aX (ah.dev ⟨nm,3,0,pl,bA,bn,bc,bs,rA,rn,rc,rs,tA,tn,tc,ts⟩)=1 from dW (by simp[ah.dev]) (by show gM 3 0 pl=true;rw[dI rfl rfl rfl (show((pl != 0) != ((3:Int)==4))=true from by simp[hp])];rfl))
     generalize aX _=E at*
     go_enter Tryd.func36,Tryd.ntmps36
     go_wp2_with fail
     go_ret
     exact⟨aj HF.out.symm,(HQ.out _ HR.out).2.2⟩
  ·have a1:((ad:Int) != 0)=true:=by simp;omega
   have a2:((ad:Int)==0)=false:=by simp;omega
   ·have HF:=hide (show aX (ah.dev ⟨nm,3,ad,pl,bA,bn,bc,bs,rA,rn,rc,rs,tA,tn,tc,ts⟩)=1 from dW (by simp[ah.dev]) (by show gM 3 ad pl=true;rw[dI rfl rfl a1 rfl];simp[lH]))
    generalize aX _=E at*
    go_enter Tryd.func36,Tryd.ntmps36
    go_wp2_with fail
    go_ret
    exact⟨aj HF.out.symm,(HQ.out _ HR.out).2.2⟩
 ·cases hw:(decide (0≤ad) && decide (ad<16))
  ·have HF:=hide (show aX (ah.dev ⟨nm,4,ad,pl,bA,bn,bc,bs,rA,rn,rc,rs,tA,tn,tc,ts⟩)=1 from dW (by simp[ah.dev]) (by show gM 4 ad pl=true;rw[dI rfl (show pE ad=false from hw) rfl rfl];rfl))
   generalize aX _=E at*
   go_enter Tryd.func36,Tryd.ntmps36
   go_wp2_with (go_at_call 37;refine(bE _ _ _ false hw).mono ?_;rintro e w1 ⟨rfl,rfl⟩)
   go_ret
   exact⟨aj HF.out.symm,(HQ.out _ HR.out).2.2⟩
  by_cases hp:pl=0
  ·subst hp
   ·have HF:=hide (show aX (ah.dev ⟨nm,4,ad,0,bA,bn,bc,bs,rA,rn,rc,rs,tA,tn,tc,ts⟩)=1 from dW (by simp[ah.dev]) (by show gM 4 ad 0=true;rw[dI rfl (show pE ad=true from hw) rfl rfl];rfl))
    generalize aX _=E at*
    go_enter Tryd.func36,Tryd.ntmps36
    go_wp2_with (go_at_call 37;refine(bE _ _ _ true hw).mono ?_;rintro e w1 ⟨rfl,rfl⟩)
    go_ret
    exact⟨aj HF.out.symm,(HQ.out _ HR.out).2.2⟩
  ·have p1:((pl:Int) != 0)=true:=by simp;omega
   have p2:((pl:Int)==0)=false:=by simp;omega
   have HE:=hide (show aX (ah.dev ⟨nm,4,ad,pl,bA,bn,bc,bs,rA,rn,rc,rs,tA,tn,tc,ts⟩)=(if 3<bn then 2 else if cu ⟨nm,4,ad,pl,bs,rs,ts⟩=false then 1 else if(0<rn∧(4:Int)≠2∧(4:Int)≠3)∨(0<tn∧(4:Int)≠2)then 1 else if 8<rn then 2 else dH ts)from by
    rw[jr (by simp[ah.dev]) (by show gM 4 ad pl=false;rw[dI rfl (show pE ad=true from hw) rfl (show((pl != 0) != ((4:Int)==4))=false from by simp[hp])];rfl)]
    simp only[ah.dev,HL.out.1,HL.out.2.1,HL.out.2.2])
   generalize aX _=E at*
   have HC:=hide (nK nm 4 ad pl bA bn bc bs rA rn rc rs tA tn tc ts _ (HQ.out _ HR.out).2.1)
   have kG:=hide (fun w1 hb=>lD ts tA tn tc w1 htc (HQ.out _ hb).2.1.ts (HQ.out _ hb).2.1.tok)
   go_enter Tryd.func36,Tryd.ntmps36
   by_cases b3:3<bn
   ·have HF:=hide (show E=2 from by rw[HE.out];simp[b3])
    clear HE
    go_wp2_with (go_at_call 37;refine(bE _ _ _ true hw).mono ?_;rintro e w1 ⟨rfl,rfl⟩)
    go_ret
    exact⟨aj HF.out.symm,(HQ.out _ HR.out).2.2⟩
   cases bb:cu ⟨nm,4,ad,pl,bs,rs,ts⟩
   ·have HF:=hide (show E=1 from by rw[HE.out];simp[b3,bb])
    clear HE
    rw[bb]at HC
    clear bb
    go_wp2_with (first | (go_at_call 37;refine(bE _ _ _ true hw).mono ?_;rintro e w1 ⟨rfl,rfl⟩) | (go_at_call 69;refine HC.out.mono ?_;rintro e w1 ⟨rfl,hb⟩;have HR1:=hide hb;clear hb))
    go_ret
    exact⟨aj HF.out.symm,(HQ.out _ HR1.out).2.2⟩
   rw[bb]at HC
   have HE2:=hide (show E=(if(0<rn∧(4:Int)≠2∧(4:Int)≠3)∨(0<tn∧(4:Int)≠2)then 1 else if 8<rn then 2 else dH ts)from by rw[HE.out,bb];simp[b3])
   clear HE bb
   have kE:=hide (fun w=>j5 rA rn rc w)
   by_cases r8:8<rn
   ·rw[if_pos r8]at kE
    go_wp2_with (first | (go_at_call 37;refine(bE _ _ _ true hw).mono ?_;rintro e w1 ⟨rfl,rfl⟩) | (go_at_call 69;refine HC.out.mono ?_;rintro e w1 ⟨rfl,hb⟩;have HR1:=hide hb;clear hb;have y:=(HQ.out _ HR1.out).1;obtain⟨y0,y1,y2,y3,y4,y5,y6⟩:=y;clear HC) | (go_at_call 70;refine(kE.out _).mono ?_;rintro e w2 ⟨rfl,rfl⟩))
    all_goals
     go_ret
     exact⟨aj (by rw[HE2.out];first | rw[if_pos (by omega)] | rw[if_neg (by omega),if_pos r8]),(HQ.out _ HR1.out).2.2⟩
   ·rw[if_neg r8]at kE
    go_wp2_with (first | (go_at_call 37;refine(bE _ _ _ true hw).mono ?_;rintro e w1 ⟨rfl,rfl⟩) | (go_at_call 69;refine HC.out.mono ?_;rintro e w1 ⟨rfl,hb⟩;have HR1:=hide hb;clear hb;have y:=(HQ.out _ HR1.out).1;obtain⟨y0,y1,y2,y3,y4,y5,y6⟩:=y;clear HC) | (go_at_call 70;refine(kE.out _).mono ?_;rintro e w2 ⟨rfl,rfl⟩) | (go_at_call 71;refine(kG.out _ HR1.out).mono ?_;rintro e w3 ⟨rfl,hb⟩;have HR2:=hide (HR1.out.trans (hb.mono HR1.out.size));clear hb))
    all_goals
     go_ret
     first
      |exact⟨aj (by rw[HE2.out,if_pos (by omega)]),(HQ.out _ HR1.out).2.2⟩
      |exact⟨aj (by rw[HE2.out,if_neg (by omega),if_neg r8]),(HQ.out _ HR2.out).2.2⟩
 ·cases hw:(decide (0≤ad) && decide (ad<16))
  ·have HF:=hide (show aX (ah.dev ⟨nm,5,ad,pl,bA,bn,bc,bs,rA,rn,rc,rs,tA,tn,tc,ts⟩)=1 from dW (by simp[ah.dev]) (by show gM 5 ad pl=true;rw[dI rfl (show pE ad=false from hw) rfl rfl];rfl))
   generalize aX _=E at*
   go_enter Tryd.func36,Tryd.ntmps36
   go_wp2_with (go_at_call 37;refine(bE _ _ _ false hw).mono ?_;rintro e w1 ⟨rfl,rfl⟩)
   go_ret
   exact⟨aj HF.out.symm,(HQ.out _ HR.out).2.2⟩
  by_cases hp:pl=0
  ·subst hp
   have HE:=hide (show aX (ah.dev ⟨nm,5,ad,0,bA,bn,bc,bs,rA,rn,rc,rs,tA,tn,tc,ts⟩)=(if 3<bn then 2 else if cu ⟨nm,5,ad,0,bs,rs,ts⟩=false then 1 else if(0<rn∧(5:Int)≠2∧(5:Int)≠3)∨(0<tn∧(5:Int)≠2)then 1 else if 8<rn then 2 else dH ts)from by
    rw[jr (by simp[ah.dev]) (by show gM 5 ad 0=false;rw[dI rfl (show pE ad=true from hw) rfl rfl];rfl)]
    simp only[ah.dev,HL.out.1,HL.out.2.1,HL.out.2.2])
   generalize aX _=E at*
   have HC:=hide (nK nm 5 ad 0 bA bn bc bs rA rn rc rs tA tn tc ts _ (HQ.out _ HR.out).2.1)
   have kG:=hide (fun w1 hb=>lD ts tA tn tc w1 htc (HQ.out _ hb).2.1.ts (HQ.out _ hb).2.1.tok)
   go_enter Tryd.func36,Tryd.ntmps36
   by_cases b3:3<bn
   ·have HF:=hide (show E=2 from by rw[HE.out];simp[b3])
    clear HE
    go_wp2_with (go_at_call 37;refine(bE _ _ _ true hw).mono ?_;rintro e w1 ⟨rfl,rfl⟩)
    go_ret
    exact⟨aj HF.out.symm,(HQ.out _ HR.out).2.2⟩
   cases bb:cu ⟨nm,5,ad,0,bs,rs,ts⟩
   ·have HF:=hide (show E=1 from by rw[HE.out];simp[b3,bb])
    clear HE
    rw[bb]at HC
    clear bb
    go_wp2_with (first | (go_at_call 37;refine(bE _ _ _ true hw).mono ?_;rintro e w1 ⟨rfl,rfl⟩) | (go_at_call 69;refine HC.out.mono ?_;rintro e w1 ⟨rfl,hb⟩;have HR1:=hide hb;clear hb))
    go_ret
    exact⟨aj HF.out.symm,(HQ.out _ HR1.out).2.2⟩
   rw[bb]at HC
   have HE2:=hide (show E=(if(0<rn∧(5:Int)≠2∧(5:Int)≠3)∨(0<tn∧(5:Int)≠2)then 1 else if 8<rn then 2 else dH ts)from by rw[HE.out,bb];simp[b3])
   clear HE bb
   have kE:=hide (fun w=>j5 rA rn rc w)
   by_cases r8:8<rn
   ·rw[if_pos r8]at kE
    go_wp2_with (first | (go_at_call 37;refine(bE _ _ _ true hw).mono ?_;rintro e w1 ⟨rfl,rfl⟩) | (go_at_call 69;refine HC.out.mono ?_;rintro e w1 ⟨rfl,hb⟩;have HR1:=hide hb;clear hb;have y:=(HQ.out _ HR1.out).1;obtain⟨y0,y1,y2,y3,y4,y5,y6⟩:=y;clear HC) | (go_at_call 70;refine(kE.out _).mono ?_;rintro e w2 ⟨rfl,rfl⟩))
    all_goals
     go_ret
     exact⟨aj (by rw[HE2.out];first | rw[if_pos (by omega)] | rw[if_neg (by omega),if_pos r8]),(HQ.out _ HR1.out).2.2⟩
   ·rw[if_neg r8]at kE
    go_wp2_with (first | (go_at_call 37;refine(bE _ _ _ true hw).mono ?_;rintro e w1 ⟨rfl,rfl⟩) | (go_at_call 69;refine HC.out.mono ?_;rintro e w1 ⟨rfl,hb⟩;have HR1:=hide hb;clear hb;have y:=(HQ.out _ HR1.out).1;obtain⟨y0,y1,y2,y3,y4,y5,y6⟩:=y;clear HC) | (go_at_call 70;refine(kE.out _).mono ?_;rintro e w2 ⟨rfl,rfl⟩) | (go_at_call 71;refine(kG.out _ HR1.out).mono ?_;rintro e w3 ⟨rfl,hb⟩;have HR2:=hide (HR1.out.trans (hb.mono HR1.out.size));clear hb))
    all_goals
     go_ret
     first
      |exact⟨aj (by rw[HE2.out,if_pos (by omega)]),(HQ.out _ HR1.out).2.2⟩
      |exact⟨aj (by rw[HE2.out,if_neg (by omega),if_neg r8]),(HQ.out _ HR2.out).2.2⟩
  ·have p1:((pl:Int) != 0)=true:=by simp;omega
   have p2:((pl:Int)==0)=false:=by simp;omega
   ·have HF:=hide (show aX (ah.dev ⟨nm,5,ad,pl,bA,bn,bc,bs,rA,rn,rc,rs,tA,tn,tc,ts⟩)=1 from dW (by simp[ah.dev]) (by show gM 5 ad pl=true;rw[dI rfl (show pE ad=true from hw) rfl (show((pl != 0) != ((5:Int)==4))=true from by simp[hp])];rfl))
    generalize aX _=E at*
    go_enter Tryd.func36,Tryd.ntmps36
    go_wp2_with (go_at_call 37;refine(bE _ _ _ true hw).mono ?_;rintro e w1 ⟨rfl,rfl⟩)
    go_ret
    exact⟨aj HF.out.symm,(HQ.out _ HR.out).2.2⟩
theorem rM (l:List ah) (b o n c f:Nat) (cap:Array Value) (p:ah→Bool) (W:World) (hn:n≤9223372036854775807) (hl:bD ah.cells 7 W W.heap.size (some ⟨b,o,none⟩) n l) (h0:0<n)
  (hcall:∀(args:Array Value) (w:World),(callFunc f args).run Tryd.prog w= .ok (.enter f args) w)
  (hf:Hid (∀(r:ah) (w:World),r∈l→Below W.heap.size W w→Calls Tryd.prog f (#[r.val]++cap) w fun e w'=>e= .returned (.bool (p r))∧Below w.heap.size w w')):
  Calls Tryd.prog 62 #[.slice (some ⟨b,o,none⟩) n c,.func (.func f) #[] cap] W fun e W'=>
   e= .returned (.int .i64 (ig p l))∧Below W.heap.size W W':=by
 have HL:=hide hl
 clear hl
 go_enter Tryd.func62,Tryd.ntmps62
 go_wp2
 go_loopw [5,8] (fun u i wr=>∃k:Nat,k≤n∧i= .int .i64 k∧Below W.heap.size W wr∧Hid (∀j r,j<k→l[j]?=some r→p r=false)) (fun _ i _=>n - (intOf i).toNat)
 case atStart=>exact⟨0,Nat.zero_le _,rfl,Below.refl _ _,hide (fun j r h=>by omega)⟩
 case round=>
  obtain⟨k,hk,rfl,hb,HN⟩:=hrel
  have HB:=hide hb
  by_cases hlt:k<n
  ·obtain⟨r,hr⟩:∃r,l[k]?=some r:=⟨_,List.getElem?_eq_getElem (by have:=HL.out.1;omega)⟩
   obtain⟨nA,q0,q1,q2,q3,q4,q5,q6⟩:=lV (HL.out.below HB.out HB.out.size) hr
   have HR:=hide hr
   clear hr hb
   obtain⟨nm,kd,ad,pl,bA,bn,bc,bs,rA,rn,rc,rs,tA,tn,tc,ts⟩:=r
   go_wp2_with fail
   refine(hf.out _ _ (List.mem_of_getElem? HR.out) HB.out).mono ?_
   rintro e w1 ⟨rfl,hb1⟩
   have HB1:=hide (HB.out.trans (hb1.mono HB.out.size))
   clear hb1 q0 q1 q2 q3 q4 q5 q6
   generalize hr:(⟨nm,kd,ad,pl,bA,bn,bc,bs,rA,rn,rc,rs,tA,tn,tc,ts⟩:ah)=r at*
   clear hr
   cases hp:p r
   ·go_wp2
    go_roundw
    case rel=>
     refine⟨k+1,by omega,by go_num,HB1.out,hide (fun j r' hj hr'=>?_)⟩
     rcases(by omega:j<k∨j=k)with h | rfl
     ·exact HN.out j r' h hr'
     ·rw[HR.out]at hr';cases hr';exact hp
    case measure=>simp[intOf];omega
   ·go_wp2
    go_ret
    exact⟨j6 (kR HR.out hp HN.out).symm,HB1.out⟩
  ·go_wp2
   go_ret
   exact⟨j6 (lS (fun j r hj=>HN.out j r (by have:=HL.out.1;omega))).symm,hb⟩
theorem sK (A:Option Addr) (c:Nat) (F:Value) (W:World):
  Calls Tryd.prog 62 #[.slice A 0 c,F] W fun e W'=>e= .returned (.int .i64 (-1))∧W=W':=by
 go_enter Tryd.func62,Tryd.ntmps62
 go_wp2
 refine wp_loop_rounds 1 ?_
 rw[rounds_succ]
 go_wp2
 go_ret
 exact⟨rfl,rfl⟩
theorem nY (l:List ah) (A:Option Addr) (n c f:Nat) (cap:Array Value) (p:ah→Bool) (W:World) (hn:n≤9223372036854775807) (hl:bD ah.cells 7 W W.heap.size A n l)
  (hcall:∀(args:Array Value) (w:World),(callFunc f args).run Tryd.prog w= .ok (.enter f args) w)
  (hf:Hid (∀(r:ah) (w:World),r∈l→Below W.heap.size W w→Calls Tryd.prog f (#[r.val]++cap) w fun e w'=>e= .returned (.bool (p r))∧Below w.heap.size w w')):
  Calls Tryd.prog 62 #[.slice A n c,.func (.func f) #[] cap] W fun e W'=>
   e= .returned (.int .i64 (ig p l))∧Below W.heap.size W W':=by
 rcases Nat.eq_zero_or_pos n with rfl | h0
 ·have:l=[]:=List.eq_nil_of_length_eq_zero hl.1
  subst this
  exact(sK A c _ W).mono fun e w' ⟨he,hw⟩=>⟨he,hw▸Below.refl _ _⟩
 ·obtain⟨b,o,rfl,hb,_⟩:=hl.2 h0
  exact rM l b o n c f cap p W hn hl h0 hcall hf
theorem sM {α:Type} (p:α→Bool) (l:List α):(l.any p=true∧∃k:Nat,ig p l=k)∨(l.any p=false∧ig p l= -1):=by
 rcases l6 p l with⟨k,r,hk,_,hr,hp,_⟩ | ⟨hk,hno⟩
 ·exact .inl ⟨List.any_eq_true.2 ⟨r,List.mem_of_getElem? hr,hp⟩,k,hk⟩
 ·exact .inr ⟨List.any_eq_false.2 fun r hr=>by simp[hno r hr],hk⟩
theorem qo (l:List ah) (A:Option Addr) (n c f:Nat) (cap:Array Value) (p:ah→Bool) (W:World) (hn:n≤9223372036854775807) (hl:bD ah.cells 7 W W.heap.size A n l)
  (hcall:∀(args:Array Value) (w:World),(callFunc f args).run Tryd.prog w= .ok (.enter f args) w)
  (hf:Hid (∀(r:ah) (w:World),r∈l→Below W.heap.size W w→Calls Tryd.prog f (#[r.val]++cap) w fun e w'=>e= .returned (.bool (p r))∧Below w.heap.size w w')):
  Calls Tryd.prog 34 #[.slice A n c,.func (.func f) #[] cap] W fun e W'=>
   e= .returned (.bool (l.any p))∧Below W.heap.size W W':=by
 have HC:=hide (nY l A n c f cap p W hn hl hcall hf)
 clear hl hf hcall
 rcases sM p l with⟨h1,k,h2⟩ | ⟨h1,h2⟩
 all_goals
  rw[h2]at HC
  rw[h1]
  clear h1 h2
  go_enter Tryd.func34,Tryd.ntmps34
  go_wp2_with fail
  refine HC.out.mono ?_
  rintro e w1 ⟨rfl,hb⟩
  have HB:=hide hb
  clear hb
  go_wp2
  go_ret
  exact⟨rfl,HB.out⟩
def fJ (x:Pl):List Value:=[.int .i64 x.1,.int .i64 x.2]
theorem fF (x:Pl):(fJ x).length =2:=rfl
theorem yu (l:List Pl) (b o n c:Nat) (x y:Int) (W:World) (hn:n≤9223372036854775807) (hl:bD fJ 2 W W.heap.size (some ⟨b,o,none⟩) n l) (h0:0<n):
  Calls Tryd.prog 72 #[.slice (some ⟨b,o,none⟩) n c,.agg #[.int .i64 x,.int .i64 y]] W fun e W'=>e= .returned (.int .i64 (ig (fun z=>gF (x,y) z) l))∧RowKit.Below W.heap.size W W':=by
 have HL:=hide hl
 clear hl
 have hb0:Below W.heap.size W (W.alloc (.cells #[.int .i64 x,.int .i64 y] 85)):=(Below.refl _ _).alloc (Nat.le_refl _) _
 have HX0:=hide (nM.new W x y 85)
 have hs0:(W.alloc (.cells #[.int .i64 x,.int .i64 y] 85)).heap.size =W.heap.size+1:=by simp
 go_enter Tryd.func72,Tryd.ntmps72
 go_wp2
 generalize W.alloc _=W0 at*
 have HB0:=hide hb0
 clear hb0
 go_loopw [8] (fun i wr=>∃k:Nat,k≤n∧i= .int .i64 k∧Hid (RowKit.Below W0.heap.size W0 wr)∧Hid (∀j z,j<k→l[j]?=some z→gF (x,y) z=false)) (fun i _=>n - (intOf i).toNat)
 case atStart=>exact⟨0,Nat.zero_le _,rfl,hide (RowKit.Below.refl _ _),hide (fun j r h=>absurd h (by omega))⟩
 case round=>
  obtain⟨k,hk,rfl,HB,HN⟩:=hrel
  have aV:=hide (HB0.out.trans (HB.out.mono HB0.out.size))
  by_cases hlt:k<n
  ·obtain⟨z,hz⟩:∃r,l[k]?=some r:=⟨_,List.getElem?_eq_getElem (by have:=HL.out.1;omega)⟩
   obtain⟨nA,hg⟩:=(HL.out.below aV.out aV.out.size).get hz
   have q0:=hg 0 _ rfl
   have q1:=hg 1 _ rfl
   obtain⟨x0,x1,_,_⟩:=HX0.out.below HB.out (by omega)
   have HZ:=hide hz
   clear hz hg
   obtain⟨z1,z2⟩:=z
   rw[Nat.add_zero]at q0
   cases e1:(x ==z1)
   ·go_wp2
    go_quiet (fail)
    go_wp2
    go_roundw
    case rel=>exact⟨k+1,by omega,by go_num,hide (HB.out.trans (aP _ _ _)),hide (fun j r hj hr=>by
     rcases(by omega:j<k∨j=k)with h | rfl
     ·exact HN.out j r h hr
     ·have e:=HZ.out;rw[e]at hr;cases hr;simp only[gF,e1,Bool.false_and,Bool.and_false])⟩
    case measure=>simp[intOf];omega
   cases e2:(y ==z2)
   ·go_wp2
    go_quiet (fail)
    go_wp2
    go_roundw
    case rel=>exact⟨k+1,by omega,by go_num,hide (HB.out.trans (aP _ _ _)),hide (fun j r hj hr=>by
     rcases(by omega:j<k∨j=k)with h | rfl
     ·exact HN.out j r h hr
     ·have e:=HZ.out;rw[e]at hr;cases hr;simp only[gF,e1,e2,Bool.false_and,Bool.and_false])⟩
    case measure=>simp[intOf];omega
   ·have HF:=hide (kR (p:=fun z=>gF (x,y) z) HZ.out (by simp only[gF,e1,e2];rfl) HN.out)
    go_wp2
    go_quiet (fail)
    go_wp2
    go_ret
    exact⟨j6 HF.out.symm,aV.out.trans (aP _ _ _)⟩
  ·have HF:=hide (lS (p:=fun z=>gF (x,y) z) (l:=l) (fun j r hj hr=>HN.out j r (by have:=HL.out.1;omega) hr))
   go_wp2
   go_ret
   exact⟨j6 HF.out.symm,aV.out⟩
theorem y8 (A:Option Addr) (c:Nat) (x y:Int) (W:World):Calls Tryd.prog 72 #[.slice A 0 c,.agg #[.int .i64 x,.int .i64 y]] W fun e W'=>e= .returned (.int .i64 (-1))∧RowKit.Below W.heap.size W W':=by
 go_enter Tryd.func72,Tryd.ntmps72
 go_wp2
 refine wp_loop_rounds 1 ?_
 rw[rounds_succ]
 go_wp2
 go_ret
 exact⟨rfl,(Below.refl _ _).alloc (Nat.le_refl _) _⟩
theorem y9 (l:List Pl) (A:Option Addr) (n c:Nat) (x y:Int) (W:World) (hn:n≤9223372036854775807) (hl:bD fJ 2 W W.heap.size A n l):
  Calls Tryd.prog 72 #[.slice A n c,.agg #[.int .i64 x,.int .i64 y]] W fun e W'=>e= .returned (.int .i64 (ig (fun z=>gF (x,y) z) l))∧RowKit.Below W.heap.size W W':=by
 rcases Nat.eq_zero_or_pos n with rfl | h0
 ·have:l=[]:=List.eq_nil_of_length_eq_zero hl.1
  subst this
  exact y8 A c x y W
 ·obtain⟨b,o,rfl,hb,_⟩:=hl.2 h0
  exact yu l b o n c x y W hn hl h0
theorem gK (l:List Pl) (A:Option Addr) (n c:Nat) (x y:Int) (W:World) (hn:n≤9223372036854775807) (hl:bD fJ 2 W W.heap.size A n l):
  Calls Tryd.prog 39 #[.slice A n c,.agg #[.int .i64 x,.int .i64 y]] W fun e W'=>e= .returned (.bool (l.any fun z=>gF (x,y) z))∧RowKit.Below W.heap.size W W':=by
 have hb0:Below W.heap.size W (W.alloc (.cells #[.int .i64 x,.int .i64 y] 85)):=(Below.refl _ _).alloc (Nat.le_refl _) _
 have HC:=hide (y9 l A n c x y (W.alloc (.cells #[.int .i64 x,.int .i64 y] 85)) hn (hl.below hb0 hb0.size))
 have HB0:=hide hb0
 clear hl hb0
 rcases sM (fun z=>gF (x,y) z) l with⟨h1,k,h2⟩ | ⟨h1,h2⟩
 all_goals
  rw[h2]at HC
  rw[h1]
  clear h1 h2
  go_enter Tryd.func39,Tryd.ntmps39
  go_wp2_with fail
  refine HC.out.mono ?_
  rintro e w1 ⟨rfl,hb⟩
  have HB:=hide (HB0.out.trans (hb.mono HB0.out.size))
  clear hb
  go_wp2
  go_ret
  exact⟨rfl,HB.out⟩
def bO (a b:ByteArray):Bool:=decide (a.toList=b.toList)
def fQ:List Dev→List Dev→Int
 |_,[]=>0
 |pre,d::t=>if bT d.name=false then 3 else if pre.any (fun x=>bO x.name d.name)then 5 else if aX d=0 then fQ (pre++[d]) t else aX d
theorem sS {l:List Dev} {k:Nat} {d:Dev} (h:l[k]?=some d):
  fQ (l.take k) (l.drop k)=if bT d.name=false then 3 else if(l.take k).any (fun x=>bO x.name d.name)then 5 else if aX d=0 then fQ (l.take (k+1)) (l.drop (k+1))else aX d:=by
 obtain⟨hk,e⟩:=List.getElem?_eq_some_iff.1 h
 rw[List.drop_eq_getElem_cons hk,e,List.take_succ_eq_append_getElem hk,e];rfl
def qE (ds:List Dev) (i:Int):Int:=((ds[i.toNat]?).map (·.kind)).getD 0
def gQ (ds:List Dev) (x:Pl):Bool:=(decide (0≤x.1) && decide (x.1<ds.length)) && (decide (0≤x.2) && decide (x.2<dK (qE ds x.1)))
def fZ (ends:List Pl) (l:aJ):Bool:=gF l.e1 l.e2 || ends.any (fun z=>gF l.e1 z) || ends.any (fun z=>gF l.e2 z)
def fV (ds:List Dev):List Pl→List aJ→Int
 |_,[]=>0
 |ends,l::t=>if gQ ds l.e1=false then 1 else if gQ ds l.e2=false then 1 else if fZ ends l then 5 else fV ds (ends++[l.e1,l.e2]) t
theorem sj {ds:List Dev} {ls:List aJ} {ends:List Pl} {k:Nat} {l:aJ} (h:ls[k]?=some l):
  fV ds ends (ls.drop k)=if gQ ds l.e1=false then 1 else if gQ ds l.e2=false then 1 else if fZ ends l then 5 else fV ds (ends++[l.e1,l.e2]) (ls.drop (k+1)):=by
 obtain⟨hk,e⟩:=List.getElem?_eq_some_iff.1 h
 rw[List.drop_eq_getElem_cons hk,e];rfl
def jN (ds:List Dev) (ls:List aJ):Int:=
 if 10<ds.length∨15<ls.length then 2 else if fQ [] ds=0 then fV ds [] ls else fQ [] ds
def lg (l:aJ) (j:Nat):Pl:=if j=0 then l.e1 else l.e2
theorem sV {ds:List Dev} {ls:List aJ} {ends:List Pl} {k j:Nat} {l:aJ} (h:ls[k]?=some l) (hj:j<2) (h1:∀i,i<j→gQ ds (lg l i)=true) (h2:gQ ds (lg l j)=false):fV ds ends (ls.drop k)=1:=by
 rw[sj h]
 rcases(by omega:j=0∨j=1)with rfl | rfl
 ·rw[show lg l 0=l.e1 from rfl]at h2
  simp[h2]
 ·have:=h1 0 (by omega)
  rw[show lg l 0=l.e1 from rfl]at this
  rw[show lg l 1=l.e2 from rfl]at h2
  simp[h2,this]
theorem rU {ds:List Dev} {ls:List aJ} {ends:List Pl} {k:Nat} {l:aJ} (h:ls[k]?=some l) (h1:∀i,i<2→gQ ds (lg l i)=true):
  fV ds ends (ls.drop k)=if fZ ends l then 5 else fV ds (ends++[l.e1,l.e2]) (ls.drop (k+1)):=by
 rw[sj h]
 have a:=h1 0 (by omega)
 have b:=h1 1 (by omega)
 rw[show lg l 0=l.e1 from rfl]at a
 rw[show lg l 1=l.e2 from rfl]at b
 simp[a,b]
theorem uS (x:ah) (nm:ByteArray) (k:Nat) (w:World) (hk:k<w.heap.size) (h0:w.cell? ⟨k,0,none⟩=some (.string nm)):
  Calls Tryd.prog 35 (#[x.val]++#[.pointer (some ⟨k,0,none⟩)]) w fun e W'=>e= .returned (.bool (bO x.name nm))∧Below w.heap.size w W':=by
 have hne:k≠w.heap.size:=by omega
 obtain⟨xn,xk,xa,xp,bA,bn,bc,bs,rA,rn,rc,rs,tA,tn,tc,ts⟩:=x
 show Calls Tryd.prog 35 #[.agg #[.string xn,.int .i64 xk,.int .i64 xa,.int .u8 xp,.slice bA bn bc,.slice rA rn rc,.slice tA tn tc],.pointer (some ⟨k,0,none⟩)] w _
 have HB:=hide (fun o=>show Below w.heap.size w (w.alloc o)from(Below.refl _ _).alloc (Nat.le_refl _) _)
 by_cases e:xn.toList=nm.toList
 all_goals
  go_enter Tryd.func35,Tryd.ntmps35
  go_wp2
  go_ret
  exact⟨iE (by simp[bO,e]),HB.out _⟩
end Go.Proofs.YtifkacnoiocebaaDoor
