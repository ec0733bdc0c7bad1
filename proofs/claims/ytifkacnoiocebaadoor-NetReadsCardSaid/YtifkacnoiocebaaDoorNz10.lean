/- A part of the proof: RefDev. -/
import Derived.Test.YtifkacnoiocebaaDoorNz4
set_option linter.unusedVariables false
set_option linter.unusedSimpArgs false
set_option maxRecDepth 100000
set_option maxHeartbeats 8000000
namespace Go.Proofs.YtifkacnoiocebaaDoor
open Go.RowKit
theorem jq (a:Int):dx a 0 15=pE a:=by
 unfold dx pE
 rw[Bool.eq_iff_iff];simp;omega
theorem uE (a:Int):dx a 0 15=(decide (0≤a) && decide (a<16)):=jq a
theorem not_contains {bs:List Int} {k:Nat} {b:Int} (h:∀j y,j<k→bs[j]?=some y→(y ==b)=false):(bs.take k).contains b=false:=by
 rw[Bool.eq_false_iff]
 intro hc
 have hm:b∈bs.take k:=by simpa using hc
 obtain⟨j,hj⟩:=List.getElem?_of_mem hm
 have hjk:j<k:=by have:=(List.getElem?_eq_some_iff.1 hj).1;simp at this;omega
 rw[List.getElem?_take_of_lt hjk]at hj
 have:=h j b hjk hj
 simp at this
theorem wG {bs:List Int} {k j:Nat} {b:Int} (hj:j<k) (h:bs[j]?=some b):(bs.take k).contains b=true:=by
 have:b∈bs.take k:=List.mem_of_getElem? (i:=j) (by rw[List.getElem?_take_of_lt hj];exact h)
 simpa using this
theorem Bu (d:ah) (W:World) (hd:gL W W.heap.size d) (hk:¬(1≤d.kind∧d.kind≤5)):
  Calls Tryd.prog 47 #[d.val] W fun e W'=>e= .returned (.int .i64 (aX d.dev))∧RowKit.Below W.heap.size W W':=by
 have HF:=hide (show aX d.dev=1 from by
  have h:d.kind<1∨5<d.kind:=by omega
  unfold aX
  rw[if_pos (by rw[Bool.or_eq_true,decide_eq_true_eq,decide_eq_true_eq];exact h)])
 have hi:dx d.kind 1 5=false:=by simp[dx];omega
 generalize aX _=E at*
 obtain⟨nm,kd,ad,pl,bA,bn,bc,bs,rA,rn,rc,rs,tA,tn,tc,ts⟩:=d
 simp only[ah.val]at*
 have HB:=hide (fun o=>show RowKit.Below W.heap.size W (W.alloc o)from(RowKit.Below.refl _ _).alloc (Nat.le_refl _) _)
 clear hd hk
 go_enter Tryd.func47,Tryd.ntmps47
 go_wp2_with (go_at_call 46;refine(eD _ hi).mono ?_;rintro e w1 ⟨rfl,rfl⟩)
 go_ret
 exact⟨aj HF.out.symm,HB.out _⟩
theorem Bv (d:ah) (W:World) (hd:gL W W.heap.size d) (hk:d.kind=1):
  Calls Tryd.prog 47 #[d.val] W fun e W'=>e= .returned (.int .i64 (aX d.dev))∧RowKit.Below W.heap.size W W':=by
 obtain⟨W0,hW0⟩:∃W0,W0=W.alloc (.cells #[.string d.name,.int .i64 d.kind,.int .i64 d.addr,.int .u8 d.pool,.slice d.bA d.bn d.bc,.slice d.rA d.rn d.rc,.slice d.tA d.tn d.tc] 37):=⟨_,rfl⟩
 have HB0:=hide (show RowKit.Below W.heap.size W W0 from by rw[hW0];exact(RowKit.Below.refl _ _).alloc (Nat.le_refl _) _)
 have jB:=hide (show W0.heap.size=W.heap.size+1 from by rw[hW0];simp)
 have HQ:=hide (fun(w':World) (hb:RowKit.Below W0.heap.size W0 w')=>show fP w' W.heap.size d∧gL w' w'.heap.size d∧RowKit.Below W.heap.size W w' from by
  have h1:=HB0.out.trans (hb.mono (by rw[jB.out];omega))
  exact⟨(show fP W0 W.heap.size d from by rw[hW0];exact fP.new W d _).below hb (by rw[jB.out];omega),hd.below h1 h1.size,h1⟩)
 have HL:=hide (And.intro hd.bs.1 (And.intro hd.rs.1 hd.ts.1))
 have HI:=hide hd.bs.2.1
 have htc:=hd.ct.1
 have hpl:=hd.pl
 have kr:d.bn≤d.bc∧d.bc≤9223372036854775807:=⟨hd.cb.1,by have:=hd.cb.2;unfold maxLen at this;omega⟩
 clear hd
 obtain⟨nm,kd,ad,pl,bA,bn,bc,bs,rA,rn,rc,rs,tA,tn,tc,ts⟩:=d
 obtain⟨hbn,hbc⟩:=kr
 simp only[ah.val]at*
 obtain rfl:kd=1:=hk
 have HR:=hide (RowKit.Below.refl W0.heap.size W0)
 subst hW0
 cases hw:dx ad 0 15
 ·have HF:=hide (show aX (ah.dev ⟨nm,1,ad,pl,bA,bn,bc,bs,rA,rn,rc,rs,tA,tn,tc,ts⟩)=1 from dW (by simp[ah.dev]) (by show gM 1 ad pl=true;rw[dI rfl ((jq ad).symm.trans hw) rfl rfl];rfl))
  generalize aX _=E at*
  go_enter Tryd.func47,Tryd.ntmps47
  go_wp2_with (go_at_call 46;refine(bH _ _ _ _).mono ?_;rintro e w1 ⟨rfl,rfl⟩;simp only[hw,show dx 1 1 5=true from rfl])
  go_ret
  exact⟨aj HF.out.symm,(HQ.out _ HR.out).2.2⟩
 by_cases hp:pl=0
 ·subst hp
  have HE:=hide (show aX (ah.dev ⟨nm,1,ad,0,bA,bn,bc,bs,rA,rn,rc,rs,tA,tn,tc,ts⟩)=(if 3<bn then 2 else if cu ⟨nm,1,ad,0,bs,rs,ts⟩=false then 1 else if(0<rn∧(1:Int)≠2∧(1:Int)≠3)∨(0<tn∧(1:Int)≠2)then 1 else if 8<rn then 2 else dH ts)from by
   rw[jr (by simp[ah.dev]) (by show gM 1 ad 0=false;rw[dI rfl ((jq ad).symm.trans hw) rfl rfl];rfl)]
   simp only[ah.dev,HL.out.1,HL.out.2.1,HL.out.2.2])
  generalize aX _=E at*
  have kG:=hide (fun w1 hb=>l8 ts tA tn tc w1 htc (HQ.out _ hb).2.1.ts (HQ.out _ hb).2.1.tok)
  go_enter Tryd.func47,Tryd.ntmps47
  by_cases b3:3<bn
  ·have HF:=hide (show E=2 from by rw[HE.out];simp[b3])
   clear HE
   go_wp2_with (go_at_call 46;refine(bH _ _ _ _).mono ?_;rintro e w1 ⟨rfl,rfl⟩;simp only[hw,show dx 1 1 5=true from rfl])
   go_ret
   exact⟨aj HF.out.symm,(HQ.out _ HR.out).2.2⟩
  by_cases b0:bn=0
  case neg=>
   have b0':0<bn:=by omega
   have Cr:((bn:Int)==0)=false:=by simp;omega
   have HF:=hide (show E=1 from by rw[HE.out];simp[b3,cu,HL.out.1,b0'])
   clear HE
   go_wp2_with (go_at_call 46;refine(bH _ _ _ _).mono ?_;rintro e w1 ⟨rfl,rfl⟩;simp only[hw,show dx 1 1 5=true from rfl])
   go_ret
   exact⟨aj HF.out.symm,(HQ.out _ HR.out).2.2⟩
  subst b0
  have hbs:bs=[]:=List.eq_nil_of_length_eq_zero HL.out.1
  have HE2:=hide (show E=(if(0<rn∧(1:Int)≠2∧(1:Int)≠3)∨(0<tn∧(1:Int)≠2)then 1 else if 8<rn then 2 else dH ts)from by rw[HE.out,hbs];simp[cu,fI])
  clear HE hbs
  go_wp2_with (go_at_call 46;refine(bH _ _ _ _).mono ?_;rintro e w1 ⟨rfl,rfl⟩;simp only[hw,show dx 1 1 5=true from rfl])
  refine wp_loop_rounds 1 ?_
  rw[rounds_succ]
  by_cases r8:8<rn
  ·go_wp2_with (go_at_call 46;refine(bH _ _ _ _).mono ?_;rintro e w1 ⟨rfl,rfl⟩;simp only[hw,show dx 1 1 5=true from rfl])
   all_goals
    go_ret
    exact⟨aj (by rw[HE2.out];first | rw[if_pos (by omega)] | rw[if_neg (by omega),if_pos r8]),(HQ.out _ HR.out).2.2⟩
  ·go_wp2_with (first | (go_at_call 46;refine(bH _ _ _ _).mono ?_;rintro e w1 ⟨rfl,rfl⟩;simp only[hw,show dx 1 1 5=true from rfl]) | (go_at_call 74;refine(kG.out _ HR.out).mono ?_;rintro e w3 ⟨rfl,hb⟩;have HR2:=hide (HR.out.trans (hb.mono HR.out.size));clear hb))
   all_goals
    go_ret
    first
     |exact⟨aj (by rw[HE2.out,if_pos (by omega)]),(HQ.out _ HR.out).2.2⟩
     |exact⟨aj (by rw[HE2.out,if_neg (by omega),if_neg r8]),(HQ.out _ HR2.out).2.2⟩
 ·have p1:((pl:Int) != 0)=true:=by simp;omega
  have p2:((pl:Int)==0)=false:=by simp;omega
  have p3:decide ((0:Int)<(pl:Int))=true:=by simp;omega
  have p4:(0:Int)<(pl:Int):=by omega
  have p5:0<pl:=by omega
  ·have HF:=hide (show aX (ah.dev ⟨nm,1,ad,pl,bA,bn,bc,bs,rA,rn,rc,rs,tA,tn,tc,ts⟩)=1 from dW (by simp[ah.dev]) (by show gM 1 ad pl=true;rw[dI rfl ((jq ad).symm.trans hw) rfl (show((pl != 0) != ((1:Int)==4))=true from by simp[hp])];rfl))
   generalize aX _=E at*
   go_enter Tryd.func47,Tryd.ntmps47
   go_wp2_with (go_at_call 46;refine(bH _ _ _ _).mono ?_;rintro e w1 ⟨rfl,rfl⟩;simp only[hw,show dx 1 1 5=true from rfl])
   go_ret
   exact⟨aj HF.out.symm,(HQ.out _ HR.out).2.2⟩
theorem Bw (d:ah) (W:World) (hd:gL W W.heap.size d) (hk:d.kind=2):
  Calls Tryd.prog 47 #[d.val] W fun e W'=>e= .returned (.int .i64 (aX d.dev))∧RowKit.Below W.heap.size W W':=by
 obtain⟨W0,hW0⟩:∃W0,W0=W.alloc (.cells #[.string d.name,.int .i64 d.kind,.int .i64 d.addr,.int .u8 d.pool,.slice d.bA d.bn d.bc,.slice d.rA d.rn d.rc,.slice d.tA d.tn d.tc] 37):=⟨_,rfl⟩
 have HB0:=hide (show RowKit.Below W.heap.size W W0 from by rw[hW0];exact(RowKit.Below.refl _ _).alloc (Nat.le_refl _) _)
 have jB:=hide (show W0.heap.size=W.heap.size+1 from by rw[hW0];simp)
 have HQ:=hide (fun(w':World) (hb:RowKit.Below W0.heap.size W0 w')=>show fP w' W.heap.size d∧gL w' w'.heap.size d∧RowKit.Below W.heap.size W w' from by
  have h1:=HB0.out.trans (hb.mono (by rw[jB.out];omega))
  exact⟨(show fP W0 W.heap.size d from by rw[hW0];exact fP.new W d _).below hb (by rw[jB.out];omega),hd.below h1 h1.size,h1⟩)
 have HL:=hide (And.intro hd.bs.1 (And.intro hd.rs.1 hd.ts.1))
 have HI:=hide hd.bs.2.1
 have htc:=hd.ct.1
 have hpl:=hd.pl
 have kr:d.bn≤d.bc∧d.bc≤9223372036854775807:=⟨hd.cb.1,by have:=hd.cb.2;unfold maxLen at this;omega⟩
 clear hd
 obtain⟨nm,kd,ad,pl,bA,bn,bc,bs,rA,rn,rc,rs,tA,tn,tc,ts⟩:=d
 obtain⟨hbn,hbc⟩:=kr
 simp only[ah.val]at*
 obtain rfl:kd=2:=hk
 have HR:=hide (RowKit.Below.refl W0.heap.size W0)
 subst hW0
 by_cases ha:ad=0
 ·subst ha
  by_cases hp:pl=0
  ·subst hp
   have HE:=hide (show aX (ah.dev ⟨nm,2,0,0,bA,bn,bc,bs,rA,rn,rc,rs,tA,tn,tc,ts⟩)=(if 3<bn then 2 else if cu ⟨nm,2,0,0,bs,rs,ts⟩=false then 1 else if(0<rn∧(2:Int)≠2∧(2:Int)≠3)∨(0<tn∧(2:Int)≠2)then 1 else if 8<rn then 2 else dH ts)from by
    rw[jr (by simp[ah.dev]) (by rfl)]
    simp only[ah.dev,HL.out.1,HL.out.2.1,HL.out.2.2])
   generalize aX _=E at*
   have kG:=hide (fun w1 hb=>l8 ts tA tn tc w1 htc (HQ.out _ hb).2.1.ts (HQ.out _ hb).2.1.tok)
   go_enter Tryd.func47,Tryd.ntmps47
   by_cases b3:3<bn
   ·have HF:=hide (show E=2 from by rw[HE.out];simp[b3])
    clear HE
    go_wp2_with (go_at_call 46;refine(bH _ _ _ _).mono ?_;rintro e w1 ⟨rfl,rfl⟩;rw[show dx 2 1 5=true from rfl])
    go_ret
    exact⟨aj HF.out.symm,(HQ.out _ HR.out).2.2⟩
   by_cases b0:bn=0
   case neg=>
    have b0':0<bn:=by omega
    have Cr:((bn:Int)==0)=false:=by simp;omega
    have HF:=hide (show E=1 from by rw[HE.out];simp[b3,cu,HL.out.1,b0'])
    clear HE
    go_wp2_with (go_at_call 46;refine(bH _ _ _ _).mono ?_;rintro e w1 ⟨rfl,rfl⟩;rw[show dx 2 1 5=true from rfl])
    go_ret
    exact⟨aj HF.out.symm,(HQ.out _ HR.out).2.2⟩
   subst b0
   have hbs:bs=[]:=List.eq_nil_of_length_eq_zero HL.out.1
   have HE2:=hide (show E=(if(0<rn∧(2:Int)≠2∧(2:Int)≠3)∨(0<tn∧(2:Int)≠2)then 1 else if 8<rn then 2 else dH ts)from by rw[HE.out,hbs];simp[cu,fI])
   clear HE hbs
   go_wp2_with (go_at_call 46;refine(bH _ _ _ _).mono ?_;rintro e w1 ⟨rfl,rfl⟩;rw[show dx 2 1 5=true from rfl])
   refine wp_loop_rounds 1 ?_
   rw[rounds_succ]
   by_cases r8:8<rn
   ·go_wp2_with (go_at_call 46;refine(bH _ _ _ _).mono ?_;rintro e w1 ⟨rfl,rfl⟩;rw[show dx 2 1 5=true from rfl])
    all_goals
     go_ret
     exact⟨aj (by rw[HE2.out];first | rw[if_pos (by omega)] | rw[if_neg (by omega),if_pos r8]),(HQ.out _ HR.out).2.2⟩
   ·go_wp2_with (first | (go_at_call 46;refine(bH _ _ _ _).mono ?_;rintro e w1 ⟨rfl,rfl⟩;rw[show dx 2 1 5=true from rfl]) | (go_at_call 74;refine(kG.out _ HR.out).mono ?_;rintro e w3 ⟨rfl,hb⟩;have HR2:=hide (HR.out.trans (hb.mono HR.out.size));clear hb))
    all_goals
     go_ret
     first
      |exact⟨aj (by rw[HE2.out,if_pos (by omega)]),(HQ.out _ HR.out).2.2⟩
      |exact⟨aj (by rw[HE2.out,if_neg (by omega),if_neg r8]),(HQ.out _ HR2.out).2.2⟩
  ·have p1:((pl:Int) != 0)=true:=by simp;omega
   have p2:((pl:Int)==0)=false:=by simp;omega
   have p3:decide ((0:Int)<(pl:Int))=true:=by simp;omega
   have p4:(0:Int)<(pl:Int):=by omega
   have p5:0<pl:=by omega
   ·have HF:=hide (show aX (ah.dev ⟨nm,2,0,pl,bA,bn,bc,bs,rA,rn,rc,rs,tA,tn,tc,ts⟩)=1 from dW (by simp[ah.dev]) (by show gM 2 0 pl=true;rw[dI rfl rfl rfl (show((pl != 0) != ((2:Int)==4))=true from by simp[hp])];rfl))
    generalize aX _=E at*
    go_enter Tryd.func47,Tryd.ntmps47
    go_wp2_with (go_at_call 46;refine(bH _ _ _ _).mono ?_;rintro e w1 ⟨rfl,rfl⟩;rw[show dx 2 1 5=true from rfl])
    go_ret
    exact⟨aj HF.out.symm,(HQ.out _ HR.out).2.2⟩
 ·have a1:((ad:Int) != 0)=true:=by simp;omega
  have a2:((ad:Int)==0)=false:=by simp;omega
  ·have HF:=hide (show aX (ah.dev ⟨nm,2,ad,pl,bA,bn,bc,bs,rA,rn,rc,rs,tA,tn,tc,ts⟩)=1 from dW (by simp[ah.dev]) (by show gM 2 ad pl=true;rw[dI rfl rfl a1 rfl];simp[lH]))
   generalize aX _=E at*
   go_enter Tryd.func47,Tryd.ntmps47
   go_wp2_with (go_at_call 46;refine(bH _ _ _ _).mono ?_;rintro e w1 ⟨rfl,rfl⟩;rw[show dx 2 1 5=true from rfl])
   go_ret
   exact⟨aj HF.out.symm,(HQ.out _ HR.out).2.2⟩
theorem Bz (d:ah) (W:World) (hd:gL W W.heap.size d) (hk:d.kind=3):
  Calls Tryd.prog 47 #[d.val] W fun e W'=>e= .returned (.int .i64 (aX d.dev))∧RowKit.Below W.heap.size W W':=by
 obtain⟨W0,hW0⟩:∃W0,W0=W.alloc (.cells #[.string d.name,.int .i64 d.kind,.int .i64 d.addr,.int .u8 d.pool,.slice d.bA d.bn d.bc,.slice d.rA d.rn d.rc,.slice d.tA d.tn d.tc] 37):=⟨_,rfl⟩
 have HB0:=hide (show RowKit.Below W.heap.size W W0 from by rw[hW0];exact(RowKit.Below.refl _ _).alloc (Nat.le_refl _) _)
 have jB:=hide (show W0.heap.size=W.heap.size+1 from by rw[hW0];simp)
 have HQ:=hide (fun(w':World) (hb:RowKit.Below W0.heap.size W0 w')=>show fP w' W.heap.size d∧gL w' w'.heap.size d∧RowKit.Below W.heap.size W w' from by
  have h1:=HB0.out.trans (hb.mono (by rw[jB.out];omega))
  exact⟨(show fP W0 W.heap.size d from by rw[hW0];exact fP.new W d _).below hb (by rw[jB.out];omega),hd.below h1 h1.size,h1⟩)
 have HL:=hide (And.intro hd.bs.1 (And.intro hd.rs.1 hd.ts.1))
 have HI:=hide hd.bs.2.1
 have htc:=hd.ct.1
 have hpl:=hd.pl
 have kr:d.bn≤d.bc∧d.bc≤9223372036854775807:=⟨hd.cb.1,by have:=hd.cb.2;unfold maxLen at this;omega⟩
 clear hd
 obtain⟨nm,kd,ad,pl,bA,bn,bc,bs,rA,rn,rc,rs,tA,tn,tc,ts⟩:=d
 obtain⟨hbn,hbc⟩:=kr
 simp only[ah.val]at*
 obtain rfl:kd=3:=hk
 have HR:=hide (RowKit.Below.refl W0.heap.size W0)
 subst hW0
 by_cases ha:ad=0
 ·subst ha
  by_cases hp:pl=0
  ·subst hp
   have HE:=hide (show aX (ah.dev ⟨nm,3,0,0,bA,bn,bc,bs,rA,rn,rc,rs,tA,tn,tc,ts⟩)=(if 3<bn then 2 else if cu ⟨nm,3,0,0,bs,rs,ts⟩=false then 1 else if(0<rn∧(3:Int)≠2∧(3:Int)≠3)∨(0<tn∧(3:Int)≠2)then 1 else if 8<rn then 2 else dH ts)from by
    rw[jr (by simp[ah.dev]) (by rfl)]
    simp only[ah.dev,HL.out.1,HL.out.2.1,HL.out.2.2])
   generalize aX _=E at*
   have kG:=hide (fun w1 hb=>l8 ts tA tn tc w1 htc (HQ.out _ hb).2.1.ts (HQ.out _ hb).2.1.tok)
   go_enter Tryd.func47,Tryd.ntmps47
   by_cases b3:3<bn
   ·have HF:=hide (show E=2 from by rw[HE.out];simp[b3])
    clear HE
    go_wp2_with (go_at_call 46;refine(bH _ _ _ _).mono ?_;rintro e w1 ⟨rfl,rfl⟩;rw[show dx 3 1 5=true from rfl])
    go_ret
    exact⟨aj HF.out.symm,(HQ.out _ HR.out).2.2⟩
   by_cases b0:bn=0
   case neg=>
    have b0':0<bn:=by omega
    have Cr:((bn:Int)==0)=false:=by simp;omega
    have HF:=hide (show E=1 from by rw[HE.out];simp[b3,cu,HL.out.1,b0'])
    clear HE
    go_wp2_with (go_at_call 46;refine(bH _ _ _ _).mono ?_;rintro e w1 ⟨rfl,rfl⟩;rw[show dx 3 1 5=true from rfl])
    go_ret
    exact⟨aj HF.out.symm,(HQ.out _ HR.out).2.2⟩
   subst b0
   have hbs:bs=[]:=List.eq_nil_of_length_eq_zero HL.out.1
   have HE2:=hide (show E=(if(0<rn∧(3:Int)≠2∧(3:Int)≠3)∨(0<tn∧(3:Int)≠2)then 1 else if 8<rn then 2 else dH ts)from by rw[HE.out,hbs];simp[cu,fI])
   clear HE hbs
   go_wp2_with (go_at_call 46;refine(bH _ _ _ _).mono ?_;rintro e w1 ⟨rfl,rfl⟩;rw[show dx 3 1 5=true from rfl])
   refine wp_loop_rounds 1 ?_
   rw[rounds_succ]
   by_cases r8:8<rn
   ·go_wp2_with (go_at_call 46;refine(bH _ _ _ _).mono ?_;rintro e w1 ⟨rfl,rfl⟩;rw[show dx 3 1 5=true from rfl])
    all_goals
     go_ret
     exact⟨aj (by rw[HE2.out];first | rw[if_pos (by omega)] | rw[if_neg (by omega),if_pos r8]),(HQ.out _ HR.out).2.2⟩
   ·go_wp2_with (first | (go_at_call 46;refine(bH _ _ _ _).mono ?_;rintro e w1 ⟨rfl,rfl⟩;rw[show dx 3 1 5=true from rfl]) | (go_at_call 74;refine(kG.out _ HR.out).mono ?_;rintro e w3 ⟨rfl,hb⟩;have HR2:=hide (HR.out.trans (hb.mono HR.out.size));clear hb))
    all_goals
     go_ret
     first
      |exact⟨aj (by rw[HE2.out,if_pos (by omega)]),(HQ.out _ HR.out).2.2⟩
      |exact⟨aj (by rw[HE2.out,if_neg (by omega),if_neg r8]),(HQ.out _ HR2.out).2.2⟩
  ·have p1:((pl:Int) != 0)=true:=by simp;omega
   have p2:((pl:Int)==0)=false:=by simp;omega
   have p3:decide ((0:Int)<(pl:Int))=true:=by simp;omega
   have p4:(0:Int)<(pl:Int):=by omega
   have p5:0<pl:=by omega
   ·have HF:=hide (show aX (ah.dev ⟨nm,3,0,pl,bA,bn,bc,bs,rA,rn,rc,rs,tA,tn,tc,ts⟩)=1 from dW (by simp[ah.dev]) (by show gM 3 0 pl=true;rw[dI rfl rfl rfl (show((pl != 0) != ((3:Int)==4))=true from by simp[hp])];rfl))
    generalize aX _=E at*
    go_enter Tryd.func47,Tryd.ntmps47
    go_wp2_with (go_at_call 46;refine(bH _ _ _ _).mono ?_;rintro e w1 ⟨rfl,rfl⟩;rw[show dx 3 1 5=true from rfl])
    go_ret
    exact⟨aj HF.out.symm,(HQ.out _ HR.out).2.2⟩
 ·have a1:((ad:Int) != 0)=true:=by simp;omega
  have a2:((ad:Int)==0)=false:=by simp;omega
  ·have HF:=hide (show aX (ah.dev ⟨nm,3,ad,pl,bA,bn,bc,bs,rA,rn,rc,rs,tA,tn,tc,ts⟩)=1 from dW (by simp[ah.dev]) (by show gM 3 ad pl=true;rw[dI rfl rfl a1 rfl];simp[lH]))
   generalize aX _=E at*
   go_enter Tryd.func47,Tryd.ntmps47
   go_wp2_with (go_at_call 46;refine(bH _ _ _ _).mono ?_;rintro e w1 ⟨rfl,rfl⟩;rw[show dx 3 1 5=true from rfl])
   go_ret
   exact⟨aj HF.out.symm,(HQ.out _ HR.out).2.2⟩
theorem BA (d:ah) (W:World) (hd:gL W W.heap.size d) (hk:d.kind=4):
  Calls Tryd.prog 47 #[d.val] W fun e W'=>e= .returned (.int .i64 (aX d.dev))∧RowKit.Below W.heap.size W W':=by
 obtain⟨W0,hW0⟩:∃W0,W0=W.alloc (.cells #[.string d.name,.int .i64 d.kind,.int .i64 d.addr,.int .u8 d.pool,.slice d.bA d.bn d.bc,.slice d.rA d.rn d.rc,.slice d.tA d.tn d.tc] 37):=⟨_,rfl⟩
 have HB0:=hide (show RowKit.Below W.heap.size W W0 from by rw[hW0];exact(RowKit.Below.refl _ _).alloc (Nat.le_refl _) _)
 have jB:=hide (show W0.heap.size=W.heap.size+1 from by rw[hW0];simp)
 have HQ:=hide (fun(w':World) (hb:RowKit.Below W0.heap.size W0 w')=>show fP w' W.heap.size d∧gL w' w'.heap.size d∧RowKit.Below W.heap.size W w' from by
  have h1:=HB0.out.trans (hb.mono (by rw[jB.out];omega))
  exact⟨(show fP W0 W.heap.size d from by rw[hW0];exact fP.new W d _).below hb (by rw[jB.out];omega),hd.below h1 h1.size,h1⟩)
 have HL:=hide (And.intro hd.bs.1 (And.intro hd.rs.1 hd.ts.1))
 have HI:=hide hd.bs.2.1
 have htc:=hd.ct.1
 have hpl:=hd.pl
 have kr:d.bn≤d.bc∧d.bc≤9223372036854775807:=⟨hd.cb.1,by have:=hd.cb.2;unfold maxLen at this;omega⟩
 clear hd
 obtain⟨nm,kd,ad,pl,bA,bn,bc,bs,rA,rn,rc,rs,tA,tn,tc,ts⟩:=d
 obtain⟨hbn,hbc⟩:=kr
 simp only[ah.val]at*
 obtain rfl:kd=4:=hk
 have HR:=hide (RowKit.Below.refl W0.heap.size W0)
 subst hW0
 cases hw:dx ad 0 15
 ·have HF:=hide (show aX (ah.dev ⟨nm,4,ad,pl,bA,bn,bc,bs,rA,rn,rc,rs,tA,tn,tc,ts⟩)=1 from dW (by simp[ah.dev]) (by show gM 4 ad pl=true;rw[dI rfl ((jq ad).symm.trans hw) rfl rfl];rfl))
  generalize aX _=E at*
  go_enter Tryd.func47,Tryd.ntmps47
  go_wp2_with (go_at_call 46;refine(bH _ _ _ _).mono ?_;rintro e w1 ⟨rfl,rfl⟩;simp only[hw,show dx 4 1 5=true from rfl])
  go_ret
  exact⟨aj HF.out.symm,(HQ.out _ HR.out).2.2⟩
 by_cases hp:pl=0
 ·subst hp
  ·have HF:=hide (show aX (ah.dev ⟨nm,4,ad,0,bA,bn,bc,bs,rA,rn,rc,rs,tA,tn,tc,ts⟩)=1 from dW (by simp[ah.dev]) (by show gM 4 ad 0=true;rw[dI rfl ((jq ad).symm.trans hw) rfl rfl];rfl))
   generalize aX _=E at*
   go_enter Tryd.func47,Tryd.ntmps47
   go_wp2_with (go_at_call 46;refine(bH _ _ _ _).mono ?_;rintro e w1 ⟨rfl,rfl⟩;simp only[hw,show dx 4 1 5=true from rfl])
   go_ret
   exact⟨aj HF.out.symm,(HQ.out _ HR.out).2.2⟩
 ·have p1:((pl:Int) != 0)=true:=by simp;omega
  have p2:((pl:Int)==0)=false:=by simp;omega
  have p3:decide ((0:Int)<(pl:Int))=true:=by simp;omega
  have p4:(0:Int)<(pl:Int):=by omega
  have p5:0<pl:=by omega
  have HE:=hide (show aX (ah.dev ⟨nm,4,ad,pl,bA,bn,bc,bs,rA,rn,rc,rs,tA,tn,tc,ts⟩)=(if 3<bn then 2 else if cu ⟨nm,4,ad,pl,bs,rs,ts⟩=false then 1 else if(0<rn∧(4:Int)≠2∧(4:Int)≠3)∨(0<tn∧(4:Int)≠2)then 1 else if 8<rn then 2 else dH ts)from by
   rw[jr (by simp[ah.dev]) (by show gM 4 ad pl=false;rw[dI rfl ((jq ad).symm.trans hw) rfl (show((pl != 0) != ((4:Int)==4))=false from by simp[hp])];rfl)]
   simp only[ah.dev,HL.out.1,HL.out.2.1,HL.out.2.2])
  generalize aX _=E at*
  have kG:=hide (fun w1 hb=>l8 ts tA tn tc w1 htc (HQ.out _ hb).2.1.ts (HQ.out _ hb).2.1.tok)
  go_enter Tryd.func47,Tryd.ntmps47
  by_cases b3:3<bn
  ·have HF:=hide (show E=2 from by rw[HE.out];simp[b3])
   clear HE
   go_wp2_with (go_at_call 46;refine(bH _ _ _ _).mono ?_;rintro e w1 ⟨rfl,rfl⟩;simp only[hw,show dx 4 1 5=true from rfl])
   go_ret
   exact⟨aj HF.out.symm,(HQ.out _ HR.out).2.2⟩
  by_cases b0:bn=0
  case neg=>
   have b0':0<bn:=by omega
   have Cr:((bn:Int)==0)=false:=by simp;omega
   have HF:=hide (show E=1 from by rw[HE.out];simp[b3,cu,HL.out.1,b0'])
   clear HE
   go_wp2_with (go_at_call 46;refine(bH _ _ _ _).mono ?_;rintro e w1 ⟨rfl,rfl⟩;simp only[hw,show dx 4 1 5=true from rfl])
   go_ret
   exact⟨aj HF.out.symm,(HQ.out _ HR.out).2.2⟩
  subst b0
  have hbs:bs=[]:=List.eq_nil_of_length_eq_zero HL.out.1
  have HE2:=hide (show E=(if(0<rn∧(4:Int)≠2∧(4:Int)≠3)∨(0<tn∧(4:Int)≠2)then 1 else if 8<rn then 2 else dH ts)from by rw[HE.out,hbs];simp[cu,fI])
  clear HE hbs
  go_wp2_with (go_at_call 46;refine(bH _ _ _ _).mono ?_;rintro e w1 ⟨rfl,rfl⟩;simp only[hw,show dx 4 1 5=true from rfl])
  refine wp_loop_rounds 1 ?_
  rw[rounds_succ]
  by_cases r8:8<rn
  ·go_wp2_with (go_at_call 46;refine(bH _ _ _ _).mono ?_;rintro e w1 ⟨rfl,rfl⟩;simp only[hw,show dx 4 1 5=true from rfl])
   all_goals
    go_ret
    exact⟨aj (by rw[HE2.out];first | rw[if_pos (by omega)] | rw[if_neg (by omega),if_pos r8]),(HQ.out _ HR.out).2.2⟩
  ·go_wp2_with (first | (go_at_call 46;refine(bH _ _ _ _).mono ?_;rintro e w1 ⟨rfl,rfl⟩;simp only[hw,show dx 4 1 5=true from rfl]) | (go_at_call 74;refine(kG.out _ HR.out).mono ?_;rintro e w3 ⟨rfl,hb⟩;have HR2:=hide (HR.out.trans (hb.mono HR.out.size));clear hb))
   all_goals
    go_ret
    first
     |exact⟨aj (by rw[HE2.out,if_pos (by omega)]),(HQ.out _ HR.out).2.2⟩
     |exact⟨aj (by rw[HE2.out,if_neg (by omega),if_neg r8]),(HQ.out _ HR2.out).2.2⟩
theorem BD (d:ah) (W:World) (hd:gL W W.heap.size d) (hk:d.kind=5):
  Calls Tryd.prog 47 #[d.val] W fun e W'=>e= .returned (.int .i64 (aX d.dev))∧RowKit.Below W.heap.size W W':=by
 obtain⟨W0,hW0⟩:∃W0,W0=W.alloc (.cells #[.string d.name,.int .i64 d.kind,.int .i64 d.addr,.int .u8 d.pool,.slice d.bA d.bn d.bc,.slice d.rA d.rn d.rc,.slice d.tA d.tn d.tc] 37):=⟨_,rfl⟩
 have HB0:=hide (show RowKit.Below W.heap.size W W0 from by rw[hW0];exact(RowKit.Below.refl _ _).alloc (Nat.le_refl _) _)
 have jB:=hide (show W0.heap.size=W.heap.size+1 from by rw[hW0];simp)
 have HQ:=hide (fun(w':World) (hb:RowKit.Below W0.heap.size W0 w')=>show fP w' W.heap.size d∧gL w' w'.heap.size d∧RowKit.Below W.heap.size W w' from by
  have h1:=HB0.out.trans (hb.mono (by rw[jB.out];omega))
  exact⟨(show fP W0 W.heap.size d from by rw[hW0];exact fP.new W d _).below hb (by rw[jB.out];omega),hd.below h1 h1.size,h1⟩)
 have HL:=hide (And.intro hd.bs.1 (And.intro hd.rs.1 hd.ts.1))
 have HI:=hide hd.bs.2.1
 have htc:=hd.ct.1
 have hpl:=hd.pl
 have kr:d.bn≤d.bc∧d.bc≤9223372036854775807:=⟨hd.cb.1,by have:=hd.cb.2;unfold maxLen at this;omega⟩
 clear hd
 obtain⟨nm,kd,ad,pl,bA,bn,bc,bs,rA,rn,rc,rs,tA,tn,tc,ts⟩:=d
 obtain⟨hbn,hbc⟩:=kr
 simp only[ah.val]at*
 obtain rfl:kd=5:=hk
 have HR:=hide (RowKit.Below.refl W0.heap.size W0)
 cases hw:dx ad 0 15
 ·subst hW0
  have HF:=hide (show aX (ah.dev ⟨nm,5,ad,pl,bA,bn,bc,bs,rA,rn,rc,rs,tA,tn,tc,ts⟩)=1 from dW (by simp[ah.dev]) (by show gM 5 ad pl=true;rw[dI rfl ((jq ad).symm.trans hw) rfl rfl];rfl))
  generalize aX _=E at*
  go_enter Tryd.func47,Tryd.ntmps47
  go_wp2_with (go_at_call 46;refine(bH _ _ _ _).mono ?_;rintro e w1 ⟨rfl,rfl⟩;simp only[hw,show dx 5 1 5=true from rfl])
  go_ret
  exact⟨aj HF.out.symm,(HQ.out _ HR.out).2.2⟩
 by_cases hp:pl=0
 case neg=>
  subst hW0
  have p1:((pl:Int) != 0)=true:=by simp;omega
  have p2:((pl:Int)==0)=false:=by simp;omega
  have p3:decide ((0:Int)<(pl:Int))=true:=by simp;omega
  have p4:(0:Int)<(pl:Int):=by omega
  have p5:0<pl:=by omega
  ·have HF:=hide (show aX (ah.dev ⟨nm,5,ad,pl,bA,bn,bc,bs,rA,rn,rc,rs,tA,tn,tc,ts⟩)=1 from dW (by simp[ah.dev]) (by show gM 5 ad pl=true;rw[dI rfl ((jq ad).symm.trans hw) rfl (show((pl != 0) != ((5:Int)==4))=true from by simp[hp])];rfl))
   generalize aX _=E at*
   go_enter Tryd.func47,Tryd.ntmps47
   go_wp2_with (go_at_call 46;refine(bH _ _ _ _).mono ?_;rintro e w1 ⟨rfl,rfl⟩;simp only[hw,show dx 5 1 5=true from rfl])
   go_ret
   exact⟨aj HF.out.symm,(HQ.out _ HR.out).2.2⟩
 subst hp
 have FN:=hide (show W0=W.alloc (.cells #[.string nm,.int .i64 5,.int .i64 ad,.int .u8 0,.slice bA bn bc,.slice rA rn rc,.slice tA tn tc] 37)from hW0)
 by_cases b0:bn=0
 ·subst hW0
  subst b0
  have hbs:bs=[]:=List.eq_nil_of_length_eq_zero HL.out.1
  have HF:=hide (show aX (ah.dev ⟨nm,5,ad,0,bA,0,bc,bs,rA,rn,rc,rs,tA,tn,tc,ts⟩)=1 from by
   rw[jr (by simp[ah.dev]) (by show gM 5 ad 0=false;rw[dI rfl ((jq ad).symm.trans hw) rfl rfl];rfl)]
   simp[ah.dev,hbs,cu])
  clear hbs
  generalize aX _=E at*
  go_enter Tryd.func47,Tryd.ntmps47
  go_wp2_with (go_at_call 46;refine(bH _ _ _ _).mono ?_;rintro e w1 ⟨rfl,rfl⟩;simp only[hw,show dx 5 1 5=true from rfl])
  go_ret
  exact⟨aj HF.out.symm,(HQ.out _ HR.out).2.2⟩
 have b0':0<bn:=by omega
 have Cr:((bn:Int)==0)=false:=by simp;omega
 by_cases b3:3<bn
 ·subst hW0
  have HF:=hide (show aX (ah.dev ⟨nm,5,ad,0,bA,bn,bc,bs,rA,rn,rc,rs,tA,tn,tc,ts⟩)=2 from by
   rw[jr (by simp[ah.dev]) (by show gM 5 ad 0=false;rw[dI rfl ((jq ad).symm.trans hw) rfl rfl];rfl)]
   simp only[ah.dev,HL.out.1,HL.out.2.1,HL.out.2.2,b3,if_true])
  generalize aX _=E at*
  go_enter Tryd.func47,Tryd.ntmps47
  go_wp2_with (go_at_call 46;refine(bH _ _ _ _).mono ?_;rintro e w1 ⟨rfl,rfl⟩;simp only[hw,show dx 5 1 5=true from rfl])
  go_ret
  exact⟨aj HF.out.symm,(HQ.out _ HR.out).2.2⟩
 have HE:=hide (show aX (ah.dev ⟨nm,5,ad,0,bA,bn,bc,bs,rA,rn,rc,rs,tA,tn,tc,ts⟩)=(if 3<bn then 2 else if cu ⟨nm,5,ad,0,bs,rs,ts⟩=false then 1 else if(0<rn∧(5:Int)≠2∧(5:Int)≠3)∨(0<tn∧(5:Int)≠2)then 1 else if 8<rn then 2 else dH ts)from by
  rw[jr (by simp[ah.dev]) (by show gM 5 ad 0=false;rw[dI rfl ((jq ad).symm.trans hw) rfl rfl];rfl)]
  simp only[ah.dev,HL.out.1,HL.out.2.1,HL.out.2.2])
 generalize aX _=E at*
 have kG:=hide (fun w1 hb=>l8 ts tA tn tc w1 htc (HQ.out w1 hb).2.1.ts (HQ.out _ hb).2.1.tok)
 clear hW0
 go_enter Tryd.func47,Tryd.ntmps47
 go_wp2_with (go_at_call 46;refine(bH _ _ _ _).mono ?_;rintro e w1 ⟨rfl,rfl⟩;simp only[hw,show dx 5 1 5=true from rfl])
 rw[← FN.out]
 go_loopw [4] (fun i wr=>∃k:Nat,k≤bn∧i= .int .i64 k∧Hid (fI ad [] bs=fI ad (bs.take k) (bs.drop k))∧Hid (RowKit.Below W0.heap.size W0 wr)) (fun i _=>bn - (intOf i).toNat)
 case atStart=>exact⟨0,Nat.zero_le _,rfl,hide rfl,HR⟩
 case round=>
  clear HR
  obtain⟨k,hk,rfl,HC,HB⟩:=hrel
  obtain⟨wH,hdv,hbW⟩:=HQ.out wr HB.out
  obtain⟨x0,x1,x2,x3,x4,x5,x6⟩:=wH
  have aV:=hide hbW
  by_cases hlt:k<bn
  ·obtain⟨b,hb⟩:∃r,bs[k]?=some r:=⟨_,List.getElem?_eq_getElem (by have:=HL.out.1;omega)⟩
   have HS:=hide (qB (addr:=ad) hb)
   obtain⟨bb,oo,rfl,nA,hg⟩:=hdv.bs.2.2 (by show 0<bn;omega)
   have q0:=hg k b hb
   have FP:=hide hb
   have Eo:=hide (fun j y (hy:bs[j]?=some y) (w':World) (hb:RowKit.Below W0.heap.size W0 w')=>show w'.cell? ⟨bb,oo+j,none⟩=some (.int .i64 y)from by
    obtain⟨b',o',e,_,hg⟩:=(HQ.out w' hb).2.1.bs.2.2 (by show 0<bn;omega)
    cases e
    exact hg j y hy)
   clear hb hg hdv hbW
   cases e1:dx b 0 15
   ·have HF:=hide (show E=1 from by rw[HE.out];simp only[cu,HC.out,HS.out,← uE b,e1];simp[b3])
    go_wp2
    go_quiet ((go_at_call 46;exact bL (eD _ e1)))
    go_wp2
    go_ret
    exact⟨aj HF.out.symm,aV.out.trans (aP _ _ _)⟩
   cases e2:(b ==ad)
   case true=>
    have HF:=hide (show E=1 from by rw[HE.out];simp only[cu,HC.out,HS.out,← uE b,e1,show(b != ad)=false from by simp[bne,e2]];simp[b3])
    go_wp2
    go_quiet ((go_at_call 46;exact bL (eD _ e1)))
    go_wp2
    go_ret
    exact⟨aj HF.out.symm,aV.out.trans (aP _ _ _)⟩
   have wI:=hide e1
   have FQ:=hide (show(b != ad)=true from by simp[bne,e2])
   go_wp2
   go_quiet ((go_at_call 46;exact bL (eD _ wI.out)))
   have HB2:=hide (fun m=>show RowKit.Below W0.heap.size W0 (wr.drewN m)from HB.out.trans (aP _ _ _))
   clear x0 x1 x2 x3 x4 x5 x6 e1 e2
   go_wp2
   go_loopw [5] (fun i wi=>∃j:Nat,j≤k∧i= .int .i64 j∧Hid (∀i y,i<j→bs[i]?=some y→(y ==b)=false)∧Hid (RowKit.Below W0.heap.size W0 wi)) (fun i _=>k - (intOf i).toNat)
   case atStart=>exact⟨0,Nat.zero_le _,rfl,hide (fun i y h=>absurd h (by omega)),hide (HB2.out _)⟩
   case round=>
    clear HB2 HB
    obtain⟨j,hj,rfl,HN,HB⟩:=hrel
    obtain⟨wH,_,hbW⟩:=HQ.out wr HB.out
    obtain⟨x0,x1,x2,x3,x4,x5,x6⟩:=wH
    have aV:=hide hbW
    clear hbW
    by_cases hjk:j<k
    ·obtain⟨y,hy⟩:∃r,bs[j]?=some r:=⟨_,List.getElem?_eq_getElem (by have:=HL.out.1;omega)⟩
     have q1:=Eo.out j y hy wr HB.out
     have q2:=Eo.out k b FP.out wr HB.out
     have HY:=hide hy
     clear hy
     cases e3:(y ==b)
     ·go_wp2
      go_quiet (fail)
      go_wp2
      go_roundw
      case rel=>exact⟨j+1,by omega,by go_num,hide (fun i z hi hz=>by
       rcases(by omega:i<j∨i=j)with h | rfl
       ·exact HN.out i z h hz
       ·have e:=HY.out;rw[e]at hz;cases hz;exact e3),hide (HB.out.trans (aP _ _ _))⟩
      case measure=>simp[intOf];omega
     ·have hyb:y=b:=by simpa using e3
      have Dm:=hide (wG hjk (hyb▸HY.out))
      have HF:=hide (show E=1 from by rw[HE.out];simp only[cu,HC.out,HS.out,Dm.out];simp[b3])
      go_wp2
      go_quiet (fail)
      go_wp2
      go_ret
      exact⟨aj HF.out.symm,aV.out.trans (aP _ _ _)⟩
    ·obtain rfl:j=k:=by omega
     have Dm:=hide (not_contains HN.out)
     have jM:=hide (show fI ad [] bs=fI ad (bs.take (j+1)) (bs.drop (j+1))from by rw[HC.out,HS.out,← uE b,wI.out,FQ.out,Dm.out];simp)
     go_wp2
     go_roundw
     case rel=>first | exact⟨j+1,by omega,by go_num,jM,HB⟩ | exact⟨j+1,by omega,by omega,jM⟩
     case measure=>simp[intOf];omega
  ·have HE2:=hide (show E=(if(0<rn∧((5:Nat):Int)≠2∧((5:Nat):Int)≠3)∨(0<tn∧((5:Nat):Int)≠2)then 1 else if 8<rn then 2 else dH ts)from by
    have h1:fI ad [] bs=true:=by rw[HC.out,List.drop_of_length_le (by have:=HL.out.1;omega)];rfl
    rw[HE.out]
    simp[cu,h1,b3,HL.out.1,b0'])
   clear HE HC
   by_cases r8:8<rn
   ·go_wp2_with fail
    all_goals
     go_ret
     exact⟨aj (by rw[HE2.out];first | rw[if_pos (by omega)] | rw[if_neg (by omega),if_pos r8]),(HQ.out _ HB.out).2.2⟩
   ·go_wp2_with (first | fail | (go_at_call 74;refine(kG.out _ HB.out).mono ?_;rintro e w3 ⟨rfl,hb⟩;have HR2:=hide (HB.out.trans (hb.mono HB.out.size));clear hb))
    all_goals
     go_ret
     first
      |exact⟨aj (by rw[HE2.out,if_pos (by omega)]),(HQ.out _ HB.out).2.2⟩
      |exact⟨aj (by rw[HE2.out,if_neg (by omega),if_neg r8]),(HQ.out _ HR2.out).2.2⟩
theorem zA (d:ah) (W:World) (hd:gL W W.heap.size d):
  Calls Tryd.prog 47 #[d.val] W fun e W'=>e= .returned (.int .i64 (aX d.dev))∧RowKit.Below W.heap.size W W':=by
 by_cases h:1≤d.kind∧d.kind≤5
 ·rcases(by omega:d.kind=1∨d.kind=2∨d.kind=3∨d.kind=4∨d.kind=5)with h | h | h | h | h
  ·exact Bv d W hd h
  ·exact Bw d W hd h
  ·exact Bz d W hd h
  ·exact BA d W hd h
  ·exact BD d W hd h
 ·exact Bu d W hd h
end Go.Proofs.YtifkacnoiocebaaDoor
