/- A part of the proof: Hs8. -/
import Derived.Test.YtlhmdcgckocidaaGreatHr35
set_option linter.unusedVariables false
set_option linter.unusedSimpArgs false
set_option maxRecDepth 100000
set_option maxHeartbeats 16000000
namespace Go.Proofs.YtlhmdcgckocidaaGreat
open Go.Maps Go.RowKit
theorem Lh {i o:Int} {d:Dev} {p:P4} {k:Nat} {b:Int} (h:d.backs[k]?=some b) (hb:b=p.dst):yF i o d p k=[⟨(i,1 - o),⟨p.src,d.addr,p.ah,p.aj⟩,none,(k:Int),false⟩]:=by
 unfold yF
 rw[h]
 exact if_pos hb
theorem Oj {i o:Int} {d:Dev} {p:P4} {k:Nat} {b:Int} (h:d.backs[k]?=some b) (hb:b≠p.dst):yF i o d p k=[]:=by
 unfold yF
 rw[h]
 exact if_neg hb
theorem Tk {i o:Int} {d:Dev} {p:P4} {k:Nat} {b:Int} (h:d.backs[k]?=some b):Bn i o d p k=[⟨(i,1 - o),⟨b,p.dst,p.ah,p.aj⟩,some ⟨i,o,⟨p.dst,d.addr,p.aj,p.ah⟩⟩,(k:Int),false⟩]:=by
 unfold Bn
 rw[h]
theorem Ag {P:Prop} (h:Hid P):P:=h.out
theorem M7 (i:Int) (d:Dev) (p:P4):mP i 1 d p=(if p.dst≠d.addr then[⟨(i,0),p,none,0,false⟩]else[])++(List.range d.backs.length).flatMap (yF i 1 d p):=if_pos rfl
theorem Li (i:Int) (d:Dev) (p:P4):mP i 0 d p=⟨(i,1),p,none,0,true⟩::(if p.src=d.addr then(List.range d.backs.length).flatMap (Bn i 0 d p)else[]):=if_neg (by decide)
theorem M8 (g:Nat) (r:aA) (i:Int) (p:P4) (W:World) (hi:ay i) (hbs:dz W W.heap.size r.bA r.bn r.bs) (hbc:r.bn≤r.bc∧r.bc≤maxLen) (hb3:r.bn≤3):
  Calls Tryz.prog 161 #[.pointer (some ⟨g,0,none⟩),.agg #[.string r.name,.int .i64 r.kind,.int .i64 r.addr,.int .u8 r.pool,.slice r.bA r.bn r.bc,.slice r.rA r.rn r.rc,.slice r.tA r.tn r.tc],.agg #[.int .i64 i,.int .i64 1],.agg #[.int .i64 p.src,.int .i64 p.dst,.int .i64 p.ah,.int .i64 p.aj]] W fun e W'=>∃v l,e= .returned v∧WR W.heap.size v l W'∧l.map (·.x)=mP i 1 r.dev p∧Below W.heap.size W W':=by
 obtain⟨a,b,s,t⟩:=p
 obtain⟨ad,yI⟩:∃ad,r.addr=ad:=⟨_,rfl⟩
 have HAD:=hide yI
 have vO:=hide (fun(w':World) (hb:Below W.heap.size W w')=>show dz w' w'.heap.size r.bA r.bn r.bs from hbs.below hb hb.size)
 have pR:=hide hbs.1
 have afg:=hbc.1
 have hbc2:r.bc≤9223372036854775807:=by have:=hbc.2;unfold maxLen at this;omega
 clear hbs yI hbc
 obtain⟨bn,hbn⟩:∃bn,r.bn=bn:=⟨_,rfl⟩
 obtain⟨i0,hi0,hz0,hz1,hz2⟩:=info_parts Tryz.infoWay
 have HB3:=hide hb3
 clear hb3
 obtain⟨NO,Lj⟩:∃NO,yF i 1 r.dev ⟨a,b,s,t⟩=NO:=⟨_,rfl⟩
 obtain⟨Ll,Lm⟩:∃Ll:List gN,(if b≠ad then[⟨(i,0),⟨a,b,s,t⟩,none,0,false⟩]else[])=Ll:=⟨_,rfl⟩
 have Ao:=hide (fun q=>show NO q=yF i 1 r.dev ⟨a,b,s,t⟩ q from by rw[← Lj])
 have DZ:=hide (show mP i 1 r.dev ⟨a,b,s,t⟩=Ll++(List.range r.bn).flatMap NO from by rw[M7,Lj,← Lm,← HAD.out,← pR.out];rfl)
 clear Lj
 by_cases hd:b=ad
 case pos=>
  have oD:=hide (Lm.symm.trans (if_neg (by simpa using hd)))
  have e1:(b != r.addr)=false:=by rw[HAD.out];simpa using hd
  clear Lm hd hbn
  go_enter Tryz.func161,Tryz.ntmps161
  go_wp2_with fail
  generalize hG:World.alloc (World.alloc (World.alloc (World.alloc W _) _) _) _=W1
  have HW1:=hide (show W1.heap.size=W.heap.size+4 from by rw[← hG];simp)
  have HQ:=hide (fun(w':World) (hb:Below W1.heap.size W1 w')=>gU (B:=W1.heap.size) [(#[.string r.name,.int .i64 r.kind,.int .i64 r.addr,.int .u8 r.pool,.slice r.bA r.bn r.bc,.slice r.rA r.rn r.rc,.slice r.tA r.tn r.tc],86),(#[.int .i64 i,.int .i64 1],27),(#[.int .i64 a,.int .i64 b,.int .i64 s,.int .i64 t],29),(#[.int .i64 i,.int .i64 0],27)] W (W':=w') (by rw[← hG]at hb ⊢;exact hb))
  clear hG
  have HB1:=hide ((HQ.out W1 (Below.refl _ _)).2 (by rw[HW1.out];omega))
  have hsz:=HW1.out
  have xB:=hide (fun(w':World) (hb:Below W1.heap.size W1 w')=>vO.out w' (HB1.out.trans (hb.mono (by rw[HW1.out];omega))))
  clear e1
  have vN:=hide (show([]:List bR).length ≤0+1 by simp)
  have mJ:=hide (show([]:List bR).map (·.x)=Ll++(List.range 0).flatMap NO from by rw[oD.out];rfl)
  have je:=hide (WR.nil W1.heap.size W1)
  have HB0:=hide (Below.refl W1.heap.size W1)
  go_loopw [41,9] (fun pv sv wr=>∃(q:Nat) (l:List bR) (v:Value),q≤r.bn∧pv= .int .i64 (q:Int)∧v=sv∧Hid (l.length≤q+1)∧Hid (l.map (·.x)=Ll++(List.range q).flatMap NO)∧Hid (WR W1.heap.size v l wr)∧Hid (Below W1.heap.size W1 wr)) (fun pv _ _=>r.bn - (intOf pv).toNat)
  case atStart=>exact⟨0,_,_,by omega,rfl,rfl,vN,mJ,je,HB0⟩
  case round=>
   clear vN mJ je HB0
   obtain⟨q,l,v,hq,rfl,rfl,HLEN,HM,HR,HB⟩:=hrel
   by_cases hlt:q<r.bn
   case neg=>
    obtain rfl:q=r.bn:=by omega
    go_wp2
    go_ret
    exact⟨v,l,rfl,HR.out.lo (by rw[hsz];omega),by rw[HM.out,DZ.out];try rfl,HB1.out.trans (HB.out.mono (by rw[hsz];omega))⟩
   case pos=>
    obtain⟨x,hx⟩:∃x,r.bs[q]?=some x:=⟨_,List.getElem?_eq_getElem (by have:=pR.out;omega)⟩
    obtain⟨bb,bo,GQ,_,hg⟩:=(xB.out wr HB.out).2.2 (by omega)
    have c0:=hg q x hx
    have b0:=(HQ.out wr HB.out).1 2 _ _ rfl (by omega)
    have p1:wr.cell? ⟨W.heap.size+2,1,none⟩=some (.int .i64 b):=b0.1 1 _ rfl
    have Tm:=hide hx
    have j1:(0:Int)≤(q:Int):=by omega
    have j2:(q:Int)<(r.bn:Int):=by omega
    have j3:(r.bn:Int)≤(r.bc:Int):=by omega
    rw[GQ]
    clear hx hg
    by_cases hxb:x=b
    case neg=>
     have e2:(x ==b)=false:=by simpa using hxb
     have HE:=hide (show NO q=[]from(Ao.out q).trans (Oj (d:=r.dev) Tm.out hxb))
     clear hxb
     go_wp2
     go_roundw
     case rel=>exact⟨q+1,l,v,by omega,by go_num,rfl,hide (by have:=HLEN.out;omega),hide (by rw[iw,HE.out,List.append_nil];exact HM.out),HR,HB⟩
     case measure=>simp[intOf];omega
    case pos=>
     have e2:(x ==b)=true:=by simpa using hxb
     have HE:=hide (show NO q=[⟨(i,0),⟨a,ad,s,t⟩,none,(q:Int),false⟩]from(Ao.out q).trans ((Lh (d:=r.dev) Tm.out hxb).trans (by rw[← HAD.out];rfl)))
     have p0:wr.cell? ⟨W.heap.size+2,0,none⟩=some (.int .i64 a):=b0.1 0 _ rfl
     have p2:wr.cell? ⟨W.heap.size+2,2,none⟩=some (.int .i64 s):=b0.1 2 _ rfl
     have p3:wr.cell? ⟨W.heap.size+2,3,none⟩=some (.int .i64 t):=b0.1 3 _ rfl
     have mg:=hide (fun(ob:Obj)=>HB.out.trans ((aC wr ob).mono HB.out.size))
     have o2:∀ob,(wr.alloc ob).cell? ⟨W.heap.size,2,none⟩=some (.int .i64 ad):=fun ob=>by rw[← HAD.out];exact((HQ.out _ (mg.out ob)).1 0 _ _ rfl (by omega)).1 2 _ rfl
     have x0:∀ob,(wr.alloc ob).cell? ⟨W.heap.size+3,0,none⟩=some (.int .i64 i):=fun ob=>((HQ.out _ (mg.out ob)).1 3 _ _ rfl (by omega)).1 0 _ rfl
     have x1:∀ob,(wr.alloc ob).cell? ⟨W.heap.size+3,1,none⟩=some (.int .i64 0):=fun ob=>((HQ.out _ (mg.out ob)).1 3 _ _ rfl (by omega)).1 1 _ rfl
     have H4:=hide (HR.out.Qn HB.out (.cells #[.int .i64 a,.int .i64 ad,.int .i64 s,.int .i64 t] 29) ⟨⟨(i,0),⟨a,ad,s,t⟩,none,(q:Int),false⟩,0⟩ #[.int .i64 i,.int .i64 0,.int .i64 a,.int .i64 ad,.int .i64 s,.int .i64 t,.pointer none,.int .i64 (q:Int),.bool false] rfl)
     have HOW:=hide H4.out.1.own
     clear mg hxb
     go_wp2_with (at_builtin;refine bM _ rfl (.tmp 54) (.tmp 59) 203 rfl W1.heap.size 207 i0 _ 9 72 Tryz.underlying203 hi0 hz0 hz1 hz2 rfl (by omega) v l.length (l.flatMap bR.cells) rfl HOW.out (wr.heap.size+2) (some ⟨wr.heap.size+1,0,none⟩) 1 1 (bR.cells ⟨⟨(i,0),⟨a,ad,s,t⟩,none,(q:Int),false⟩,0⟩) rfl H4.out.2.2.1 (bR.one _) (by simp only[maxLen];have:=HLEN.out;have:=HB3.out;omega) (by have:=HLEN.out;have:=HB3.out;omega) H4.out.2.2.2 ?_;intro v6 w6 hown6 nP jq;have HP:=hide (H4.out.1.push (r:=⟨⟨(i,0),⟨a,ad,s,t⟩,none,(q:Int),false⟩,0⟩) H4.out.2.1 hown6 nP jq (fun y e=>by cases e));clear hown6 nP jq)
     go_roundw
     case rel=>exact⟨q+1,l++[⟨⟨(i,0),⟨a,ad,s,t⟩,none,(q:Int),false⟩,0⟩],v6,by omega,by go_num,rfl,hide (by have:=HLEN.out;simp;omega),hide (by rw[List.map_append,HM.out,iw,HE.out,List.append_assoc];rfl),hide HP.out.1,hide HP.out.2⟩
     case measure=>simp[intOf];omega
 case neg=>
  have oD:=hide (Lm.symm.trans (if_pos hd))
  have e1:(b != r.addr)=true:=by rw[HAD.out];simpa using hd
  clear Lm hd hbn
  go_enter Tryz.func161,Tryz.ntmps161
  go_wp2_with (at_builtin;apply Ag)
  refine hide ?_
  generalize hG:World.alloc (World.alloc (World.alloc (World.alloc W _) _) _) _=W1
  have HW1:=hide (show W1.heap.size=W.heap.size+4 from by rw[← hG];simp)
  have HQ:=hide (fun(w':World) (hb:Below W1.heap.size W1 w')=>gU (B:=W1.heap.size) [(#[.string r.name,.int .i64 r.kind,.int .i64 r.addr,.int .u8 r.pool,.slice r.bA r.bn r.bc,.slice r.rA r.rn r.rc,.slice r.tA r.tn r.tc],86),(#[.int .i64 i,.int .i64 1],27),(#[.int .i64 a,.int .i64 b,.int .i64 s,.int .i64 t],29),(#[.int .i64 i,.int .i64 0],27)] W (W':=w') (by rw[← hG]at hb ⊢;exact hb))
  clear hG
  have HB1:=hide ((HQ.out W1 (Below.refl _ _)).2 (by rw[HW1.out];omega))
  have hsz:=HW1.out
  have xB:=hide (fun(w':World) (hb:Below W1.heap.size W1 w')=>vO.out w' (HB1.out.trans (hb.mono (by rw[HW1.out];omega))))
  clear e1
  have H4:=hide ((WR.nil W1.heap.size W1).Qm (Below.refl W1.heap.size W1) ⟨⟨(i,0),⟨a,b,s,t⟩,none,0,false⟩,0⟩ #[.int .i64 i,.int .i64 0,.int .i64 a,.int .i64 b,.int .i64 s,.int .i64 t,.pointer none,.int .i64 0,.bool false] rfl)
  have iF:=hide (show Reads (W1.alloc (.cells #[.int .i64 i,.int .i64 0,.int .i64 a,.int .i64 b,.int .i64 s,.int .i64 t,.pointer none,.int .i64 0,.bool false] 207)) (W1.heap.size+1) 9 (some ⟨W.heap.size+1+1+1+1,0,none⟩) 1 (bR.cells ⟨⟨(i,0),⟨a,b,s,t⟩,none,0,false⟩,0⟩)from by rw[show W.heap.size+1+1+1+1=W1.heap.size from by rw[hsz]];exact H4.out.2.2.1)
  refine bM _ rfl (.tmp 32) (.tmp 36) 203 rfl W1.heap.size 207 i0 _ 9 72 Tryz.underlying203 hi0 hz0 hz1 hz2 rfl (by omega) (.slice none 0 0) 0 [] rfl H4.out.1.own (W1.heap.size+1) (some ⟨W.heap.size+1+1+1+1,0,none⟩) 1 1 (bR.cells ⟨⟨(i,0),⟨a,b,s,t⟩,none,0,false⟩,0⟩) rfl iF.out (bR.one _) (by simp only[maxLen];omega) (by omega) H4.out.2.2.2 ?_
  intro v6 w6 hown6 nP jq
  have HP:=hide (H4.out.1.push (r:=⟨⟨(i,0),⟨a,b,s,t⟩,none,0,false⟩,0⟩) H4.out.2.1 hown6 nP jq (fun y e=>by cases e))
  clear hown6 nP jq H4
  have d4:w6.cell? ⟨W.heap.size,4,none⟩=some (.slice r.bA r.bn r.bc):=((HQ.out w6 HP.out.2).1 0 _ _ rfl (by omega)).1 4 _ rfl
  go_wp2_with fail
  clear d4
  have vN:=hide (show([]++[(⟨⟨(i,0),⟨a,b,s,t⟩,none,0,false⟩,0⟩:bR)]).length ≤0+1 by simp)
  have mJ:=hide (show([]++[(⟨⟨(i,0),⟨a,b,s,t⟩,none,0,false⟩,0⟩:bR)]).map (fun(r:bR)=>r.x)=Ll++(List.range 0).flatMap NO from by rw[oD.out];rfl)
  have je:=hide HP.out.1
  have HB0:=hide HP.out.2
  clear HP
  go_loopw [41,9] (fun pv sv wr=>∃(q:Nat) (l:List bR) (v:Value),q≤r.bn∧pv= .int .i64 (q:Int)∧v=sv∧Hid (l.length≤q+1)∧Hid (l.map (·.x)=Ll++(List.range q).flatMap NO)∧Hid (WR W1.heap.size v l wr)∧Hid (Below W1.heap.size W1 wr)) (fun pv _ _=>r.bn - (intOf pv).toNat)
  case atStart=>exact⟨0,_,_,by omega,rfl,rfl,vN,mJ,je,HB0⟩
  case round=>
   clear vN mJ je HB0
   obtain⟨q,l,v,hq,rfl,rfl,HLEN,HM,HR,HB⟩:=hrel
   by_cases hlt:q<r.bn
   case neg=>
    obtain rfl:q=r.bn:=by omega
    go_wp2
    go_ret
    exact⟨v,l,rfl,HR.out.lo (by rw[hsz];omega),by rw[HM.out,DZ.out];try rfl,HB1.out.trans (HB.out.mono (by rw[hsz];omega))⟩
   case pos=>
    obtain⟨x,hx⟩:∃x,r.bs[q]?=some x:=⟨_,List.getElem?_eq_getElem (by have:=pR.out;omega)⟩
    obtain⟨bb,bo,GQ,_,hg⟩:=(xB.out wr HB.out).2.2 (by omega)
    have c0:=hg q x hx
    have b0:=(HQ.out wr HB.out).1 2 _ _ rfl (by omega)
    have p1:wr.cell? ⟨W.heap.size+2,1,none⟩=some (.int .i64 b):=b0.1 1 _ rfl
    have Tm:=hide hx
    have j1:(0:Int)≤(q:Int):=by omega
    have j2:(q:Int)<(r.bn:Int):=by omega
    have j3:(r.bn:Int)≤(r.bc:Int):=by omega
    rw[GQ]
    clear hx hg
    by_cases hxb:x=b
    case neg=>
     have e2:(x ==b)=false:=by simpa using hxb
     have HE:=hide (show NO q=[]from(Ao.out q).trans (Oj (d:=r.dev) Tm.out hxb))
     clear hxb
     go_wp2
     go_roundw
     case rel=>exact⟨q+1,l,v,by omega,by go_num,rfl,hide (by have:=HLEN.out;omega),hide (by rw[iw,HE.out,List.append_nil];exact HM.out),HR,HB⟩
     case measure=>simp[intOf];omega
    case pos=>
     have e2:(x ==b)=true:=by simpa using hxb
     have HE:=hide (show NO q=[⟨(i,0),⟨a,ad,s,t⟩,none,(q:Int),false⟩]from(Ao.out q).trans ((Lh (d:=r.dev) Tm.out hxb).trans (by rw[← HAD.out];rfl)))
     have p0:wr.cell? ⟨W.heap.size+2,0,none⟩=some (.int .i64 a):=b0.1 0 _ rfl
     have p2:wr.cell? ⟨W.heap.size+2,2,none⟩=some (.int .i64 s):=b0.1 2 _ rfl
     have p3:wr.cell? ⟨W.heap.size+2,3,none⟩=some (.int .i64 t):=b0.1 3 _ rfl
     have mg:=hide (fun(ob:Obj)=>HB.out.trans ((aC wr ob).mono HB.out.size))
     have o2:∀ob,(wr.alloc ob).cell? ⟨W.heap.size,2,none⟩=some (.int .i64 ad):=fun ob=>by rw[← HAD.out];exact((HQ.out _ (mg.out ob)).1 0 _ _ rfl (by omega)).1 2 _ rfl
     have x0:∀ob,(wr.alloc ob).cell? ⟨W.heap.size+3,0,none⟩=some (.int .i64 i):=fun ob=>((HQ.out _ (mg.out ob)).1 3 _ _ rfl (by omega)).1 0 _ rfl
     have x1:∀ob,(wr.alloc ob).cell? ⟨W.heap.size+3,1,none⟩=some (.int .i64 0):=fun ob=>((HQ.out _ (mg.out ob)).1 3 _ _ rfl (by omega)).1 1 _ rfl
     have H4:=hide (HR.out.Qn HB.out (.cells #[.int .i64 a,.int .i64 ad,.int .i64 s,.int .i64 t] 29) ⟨⟨(i,0),⟨a,ad,s,t⟩,none,(q:Int),false⟩,0⟩ #[.int .i64 i,.int .i64 0,.int .i64 a,.int .i64 ad,.int .i64 s,.int .i64 t,.pointer none,.int .i64 (q:Int),.bool false] rfl)
     have HOW:=hide H4.out.1.own
     clear mg hxb
     go_wp2_with (at_builtin;refine bM _ rfl (.tmp 54) (.tmp 59) 203 rfl W1.heap.size 207 i0 _ 9 72 Tryz.underlying203 hi0 hz0 hz1 hz2 rfl (by omega) v l.length (l.flatMap bR.cells) rfl HOW.out (wr.heap.size+2) (some ⟨wr.heap.size+1,0,none⟩) 1 1 (bR.cells ⟨⟨(i,0),⟨a,ad,s,t⟩,none,(q:Int),false⟩,0⟩) rfl H4.out.2.2.1 (bR.one _) (by simp only[maxLen];have:=HLEN.out;have:=HB3.out;omega) (by have:=HLEN.out;have:=HB3.out;omega) H4.out.2.2.2 ?_;intro v6 w6 hown6 nP jq;have HP:=hide (H4.out.1.push (r:=⟨⟨(i,0),⟨a,ad,s,t⟩,none,(q:Int),false⟩,0⟩) H4.out.2.1 hown6 nP jq (fun y e=>by cases e));clear hown6 nP jq)
     go_roundw
     case rel=>exact⟨q+1,l++[⟨⟨(i,0),⟨a,ad,s,t⟩,none,(q:Int),false⟩,0⟩],v6,by omega,by go_num,rfl,hide (by have:=HLEN.out;simp;omega),hide (by rw[List.map_append,HM.out,iw,HE.out,List.append_assoc];rfl),hide HP.out.1,hide HP.out.2⟩
     case measure=>simp[intOf];omega
theorem Qp (g:Nat) (r:aA) (i:Int) (p:P4) (W:World) (hi:ay i) (hbs:dz W W.heap.size r.bA r.bn r.bs) (hbc:r.bn≤r.bc∧r.bc≤maxLen) (hb3:r.bn≤3):
  Calls Tryz.prog 161 #[.pointer (some ⟨g,0,none⟩),.agg #[.string r.name,.int .i64 r.kind,.int .i64 r.addr,.int .u8 r.pool,.slice r.bA r.bn r.bc,.slice r.rA r.rn r.rc,.slice r.tA r.tn r.tc],.agg #[.int .i64 i,.int .i64 0],.agg #[.int .i64 p.src,.int .i64 p.dst,.int .i64 p.ah,.int .i64 p.aj]] W fun e W'=>∃v l,e= .returned v∧WR W.heap.size v l W'∧l.map (·.x)=mP i 0 r.dev p∧Below W.heap.size W W':=by
 obtain⟨a,b,s,t⟩:=p
 obtain⟨ad,yI⟩:∃ad,r.addr=ad:=⟨_,rfl⟩
 have HAD:=hide yI
 have vO:=hide (fun(w':World) (hb:Below W.heap.size W w')=>show dz w' w'.heap.size r.bA r.bn r.bs from hbs.below hb hb.size)
 have pR:=hide hbs.1
 have afg:=hbc.1
 have hbc2:r.bc≤9223372036854775807:=by have:=hbc.2;unfold maxLen at this;omega
 clear hbs yI hbc
 obtain⟨bn,hbn⟩:∃bn,r.bn=bn:=⟨_,rfl⟩
 obtain⟨i0,hi0,hz0,hz1,hz2⟩:=info_parts Tryz.infoWay
 have HB3:=hide hb3
 clear hb3
 obtain⟨NO,Lj⟩:∃NO,Bn i 0 r.dev ⟨a,b,s,t⟩=NO:=⟨_,rfl⟩
 have Ao:=hide (fun q=>show NO q=Bn i 0 r.dev ⟨a,b,s,t⟩ q from by rw[← Lj])
 have DZ:=hide (show mP i 0 r.dev ⟨a,b,s,t⟩=⟨(i,1),⟨a,b,s,t⟩,none,0,true⟩::(if a=ad then(List.range r.bn).flatMap NO else[])from by rw[Li,Lj,← HAD.out,← pR.out];rfl)
 clear Lj hbn
 go_enter Tryz.func161,Tryz.ntmps161
 go_wp2_with (at_builtin;apply Ag)
 refine hide ?_
 generalize hG:World.alloc (World.alloc (World.alloc (World.alloc W _) _) _) _=W1
 have HW1:=hide (show W1.heap.size=W.heap.size+4 from by rw[← hG];simp)
 have HQ:=hide (fun(w':World) (hb:Below W1.heap.size W1 w')=>gU (B:=W1.heap.size) [(#[.string r.name,.int .i64 r.kind,.int .i64 r.addr,.int .u8 r.pool,.slice r.bA r.bn r.bc,.slice r.rA r.rn r.rc,.slice r.tA r.tn r.tc],86),(#[.int .i64 i,.int .i64 0],27),(#[.int .i64 a,.int .i64 b,.int .i64 s,.int .i64 t],29),(#[.int .i64 i,.int .i64 1],27)] W (W':=w') (by rw[← hG]at hb ⊢;exact hb))
 clear hG
 have HB1:=hide ((HQ.out W1 (Below.refl _ _)).2 (by rw[HW1.out];omega))
 have hsz:=HW1.out
 have xB:=hide (fun(w':World) (hb:Below W1.heap.size W1 w')=>vO.out w' (HB1.out.trans (hb.mono (by rw[HW1.out];omega))))
 have H4:=hide ((WR.nil W1.heap.size W1).Qm (Below.refl W1.heap.size W1) ⟨⟨(i,1),⟨a,b,s,t⟩,none,0,true⟩,0⟩ #[.int .i64 i,.int .i64 1,.int .i64 a,.int .i64 b,.int .i64 s,.int .i64 t,.pointer none,.int .i64 0,.bool true] rfl)
 have iF:=hide (show Reads (W1.alloc (.cells #[.int .i64 i,.int .i64 1,.int .i64 a,.int .i64 b,.int .i64 s,.int .i64 t,.pointer none,.int .i64 0,.bool true] 207)) (W1.heap.size+1) 9 (some ⟨W.heap.size+1+1+1+1,0,none⟩) 1 (bR.cells ⟨⟨(i,1),⟨a,b,s,t⟩,none,0,true⟩,0⟩)from by rw[show W.heap.size+1+1+1+1=W1.heap.size from by rw[hsz]];exact H4.out.2.2.1)
 refine bM _ rfl (.tmp 63) (.tmp 67) 203 rfl W1.heap.size 207 i0 _ 9 72 Tryz.underlying203 hi0 hz0 hz1 hz2 rfl (by omega) (.slice none 0 0) 0 [] rfl H4.out.1.own (W1.heap.size+1) (some ⟨W.heap.size+1+1+1+1,0,none⟩) 1 1 (bR.cells ⟨⟨(i,1),⟨a,b,s,t⟩,none,0,true⟩,0⟩) rfl iF.out (bR.one _) (by simp only[maxLen];omega) (by omega) H4.out.2.2.2 ?_
 intro v6 w6 hown6 nP jq
 have HP:=hide (H4.out.1.push (r:=⟨⟨(i,1),⟨a,b,s,t⟩,none,0,true⟩,0⟩) H4.out.2.1 hown6 nP jq (fun y e=>by cases e))
 clear hown6 nP jq H4 iF
 have b6:=(HQ.out w6 HP.out.2).1 2 _ _ rfl (by omega)
 have p0:w6.cell? ⟨W.heap.size+2,0,none⟩=some (.int .i64 a):=b6.1 0 _ rfl
 have d2:w6.cell? ⟨W.heap.size,2,none⟩=some (.int .i64 ad):=by rw[← HAD.out];exact((HQ.out w6 HP.out.2).1 0 _ _ rfl (by omega)).1 2 _ rfl
 by_cases ha:a=ad
 case neg=>
  have e1:(a ==ad)=false:=by simpa using ha
  have HRR:=hide (DZ.out.trans (by rw[if_neg ha]))
  clear ha DZ
  go_wp2
  go_ret
  exact⟨v6,_,rfl,HP.out.1.lo (by rw[hsz];omega),by rw[HRR.out];rfl,HB1.out.trans (HP.out.2.mono (by rw[hsz];omega))⟩
 case pos=>
  have e1:(a ==ad)=true:=by simpa using ha
  have HRR:=hide (DZ.out.trans (by rw[if_pos ha]))
  clear ha DZ
  have p1:w6.cell? ⟨W.heap.size+2,1,none⟩=some (.int .i64 b):=b6.1 1 _ rfl
  have p2:w6.cell? ⟨W.heap.size+2,2,none⟩=some (.int .i64 s):=b6.1 2 _ rfl
  have p3:w6.cell? ⟨W.heap.size+2,3,none⟩=some (.int .i64 t):=b6.1 3 _ rfl
  have d4:∀ob,(w6.alloc ob).cell? ⟨W.heap.size,4,none⟩=some (.slice r.bA r.bn r.bc):=fun ob=>((HQ.out _ (HP.out.2.trans ((aC w6 ob).mono HP.out.2.size))).1 0 _ _ rfl (by omega)).1 4 _ rfl
  go_wp2_with fail
  clear p0 p1 p2 p3 d2 d4 b6 e1
  have bI:=aC w6 (.cells #[.int .i64 b,.int .i64 ad,.int .i64 t,.int .i64 s] 29)
  have HX0:=hide (show BR v6 (w6.alloc (.cells #[.int .i64 b,.int .i64 ad,.int .i64 t,.int .i64 s] 29)) w6.heap.size #[.int .i64 b,.int .i64 ad,.int .i64 t,.int .i64 s]from⟨aB.new _ _ _,by simp,fun e=>Nat.lt_irrefl _ (HP.out.1.own.lt _ e).2⟩)
  have je:=hide (HP.out.1.below bI)
  have HB0:=hide (HP.out.2.trans (bI.mono HP.out.2.size))
  have vN:=hide (show([]++[(⟨⟨(i,1),⟨a,b,s,t⟩,none,0,true⟩,0⟩:bR)]).length ≤0+1 by simp)
  have mJ:=hide (show([]++[(⟨⟨(i,1),⟨a,b,s,t⟩,none,0,true⟩,0⟩:bR)]).map (fun(r:bR)=>r.x)=[⟨(i,1),⟨a,b,s,t⟩,none,0,true⟩]++(List.range 0).flatMap NO from rfl)
  clear bI HP
  obtain⟨sV,DY⟩:∃sV,w6.heap.size=sV:=⟨_,rfl⟩
  rw[DY]at HX0
  try rw[DY]
  clear DY
  generalize World.alloc w6 _=w7 at*
  go_loopw [86,9] (fun pv sv wr=>∃(q:Nat) (l:List bR) (v:Value),q≤r.bn∧pv= .int .i64 (q:Int)∧v=sv∧Hid (l.length≤q+1)∧Hid (l.map (·.x)=[⟨(i,1),⟨a,b,s,t⟩,none,0,true⟩]++(List.range q).flatMap NO)∧Hid (WR W1.heap.size v l wr)∧Hid (Below W1.heap.size W1 wr)∧Hid (BR v wr sV #[.int .i64 b,.int .i64 ad,.int .i64 t,.int .i64 s])) (fun pv _ _=>r.bn - (intOf pv).toNat)
  case atStart=>exact⟨0,_,_,by omega,rfl,rfl,vN,mJ,je,HB0,HX0⟩
  case round=>
   clear vN mJ je HB0 HX0
   obtain⟨q,l,v,hq,rfl,rfl,HLEN,HM,HR,HB,HX⟩:=hrel
   by_cases hlt:q<r.bn
   case neg=>
    obtain rfl:q=r.bn:=by omega
    go_wp2
    go_ret
    exact⟨v,l,rfl,HR.out.lo (by rw[hsz];omega),by rw[HM.out,HRR.out];rfl,HB1.out.trans (HB.out.mono (by rw[hsz];omega))⟩
   case pos=>
    obtain⟨x,hx⟩:∃x,r.bs[q]?=some x:=⟨_,List.getElem?_eq_getElem (by have:=pR.out;omega)⟩
    obtain⟨bb,bo,GQ,_,hg⟩:=(xB.out wr HB.out).2.2 (by omega)
    have c0:=hg q x hx
    have b0:=(HQ.out wr HB.out).1 2 _ _ rfl (by omega)
    have p0:wr.cell? ⟨W.heap.size+2,0,none⟩=some (.int .i64 a):=b0.1 0 _ rfl
    have p1:wr.cell? ⟨W.heap.size+2,1,none⟩=some (.int .i64 b):=b0.1 1 _ rfl
    have p2:wr.cell? ⟨W.heap.size+2,2,none⟩=some (.int .i64 s):=b0.1 2 _ rfl
    have p3:wr.cell? ⟨W.heap.size+2,3,none⟩=some (.int .i64 t):=b0.1 3 _ rfl
    have HE:=hide (show NO q=[⟨(i,1),⟨x,b,s,t⟩,some ⟨i,0,⟨b,ad,t,s⟩⟩,(q:Int),false⟩]from(Ao.out q).trans ((Tk (d:=r.dev) hx).trans (by rw[← HAD.out];rfl)))
    have mg:=hide (fun(ob:Obj)=>HB.out.trans ((aC wr ob).mono HB.out.size))
    have Ca:=hide (fun(ob:Obj)=>HX.out.below (aC wr ob))
    have j1:(0:Int)≤(q:Int):=by omega
    have j2:(q:Int)<(r.bn:Int):=by omega
    have j3:(r.bn:Int)≤(r.bc:Int):=by omega
    rw[GQ]
    clear hx hg
    have x0:∀ob,(wr.alloc ob).cell? ⟨W.heap.size+3,0,none⟩=some (.int .i64 i):=fun ob=>((HQ.out _ (mg.out ob)).1 3 _ _ rfl (by omega)).1 0 _ rfl
    have x1:∀ob,(wr.alloc ob).cell? ⟨W.heap.size+3,1,none⟩=some (.int .i64 1):=fun ob=>((HQ.out _ (mg.out ob)).1 3 _ _ rfl (by omega)).1 1 _ rfl
    have y0:∀ob,(wr.alloc ob).cell? ⟨W.heap.size+1,0,none⟩=some (.int .i64 i):=fun ob=>((HQ.out _ (mg.out ob)).1 1 _ _ rfl (by omega)).1 0 _ rfl
    have y1:∀ob,(wr.alloc ob).cell? ⟨W.heap.size+1,1,none⟩=some (.int .i64 0):=fun ob=>((HQ.out _ (mg.out ob)).1 1 _ _ rfl (by omega)).1 1 _ rfl
    have k4:∀ob,(wr.alloc ob).cell? ⟨sV,0,none⟩=some (.int .i64 b):=fun ob=>(Ca.out ob).b.1 0 _ rfl
    have k5:∀ob,(wr.alloc ob).cell? ⟨sV,1,none⟩=some (.int .i64 ad):=fun ob=>(Ca.out ob).b.1 1 _ rfl
    have k6:∀ob,(wr.alloc ob).cell? ⟨sV,2,none⟩=some (.int .i64 t):=fun ob=>(Ca.out ob).b.1 2 _ rfl
    have k7:∀ob,(wr.alloc ob).cell? ⟨sV,3,none⟩=some (.int .i64 s):=fun ob=>(Ca.out ob).b.1 3 _ rfl
    have H4:=hide (HR.out.abp HB.out (.cells #[.int .i64 x,.int .i64 b,.int .i64 s,.int .i64 t] 29) ⟨i,0,⟨b,ad,t,s⟩⟩ ⟨⟨(i,1),⟨x,b,s,t⟩,some ⟨i,0,⟨b,ad,t,s⟩⟩,(q:Int),false⟩,wr.heap.size+1⟩ #[.int .i64 i,.int .i64 1,.int .i64 x,.int .i64 b,.int .i64 s,.int .i64 t,.pointer (some ⟨wr.heap.size+1,0,none⟩),.int .i64 (q:Int),.bool false] rfl rfl (fun y hy=>(Option.some.inj hy).symm))
    have dW:=hide (((HX.out.below (aC wr (.cells #[.int .i64 x,.int .i64 b,.int .i64 s,.int .i64 t] 29))).below (aC _ (.cells #[.int .i64 i,.int .i64 0,.int .i64 b,.int .i64 ad,.int .i64 t,.int .i64 s] 106))).below (aC _ (.cells #[.int .i64 i,.int .i64 1,.int .i64 x,.int .i64 b,.int .i64 s,.int .i64 t,.pointer (some ⟨wr.heap.size+1,0,none⟩),.int .i64 (q:Int),.bool false] 207)))
    have HOW:=hide H4.out.1.own
    clear mg Ca b0
    go_wp2_with (at_builtin;refine bM _ rfl (.tmp 94) (.tmp 103) 203 rfl W1.heap.size 207 i0 _ 9 72 Tryz.underlying203 hi0 hz0 hz1 hz2 rfl (by omega) v l.length (l.flatMap bR.cells) rfl HOW.out (wr.heap.size+3) (some ⟨wr.heap.size+2,0,none⟩) 1 1 (bR.cells ⟨⟨(i,1),⟨x,b,s,t⟩,some ⟨i,0,⟨b,ad,t,s⟩⟩,(q:Int),false⟩,wr.heap.size+1⟩) rfl H4.out.2.2.1 (bR.one _) (by simp only[maxLen];have:=HLEN.out;have:=HB3.out;omega) (by have:=HLEN.out;have:=HB3.out;omega) H4.out.2.2.2.1 ?_;intro v8 w8 hown6 nP jq;have HP:=hide (H4.out.1.push (r:=⟨⟨(i,1),⟨x,b,s,t⟩,some ⟨i,0,⟨b,ad,t,s⟩⟩,(q:Int),false⟩,wr.heap.size+1⟩) H4.out.2.1 hown6 nP jq H4.out.2.2.2.2);have gD:=hide (dW.out.grown nP jq);clear hown6 nP jq)
    go_roundw
    case rel=>exact⟨q+1,l++[⟨⟨(i,1),⟨x,b,s,t⟩,some ⟨i,0,⟨b,ad,t,s⟩⟩,(q:Int),false⟩,wr.heap.size+1⟩],v8,by omega,by go_num,rfl,hide (by have:=HLEN.out;simp;omega),hide (by rw[List.map_append,HM.out,iw,HE.out,List.append_assoc];rfl),hide HP.out.1,hide HP.out.2,gD⟩
    case measure=>simp[intOf];omega
end Go.Proofs.YtlhmdcgckocidaaGreat
