/- A part of the proof: Hs6. -/
import Derived.Test.YtlhmdcgckocidaaGreatHr34
set_option linter.unusedVariables false
set_option linter.unusedSimpArgs false
set_option maxRecDepth 100000
set_option maxHeartbeats 16000000
namespace Go.Proofs.YtlhmdcgckocidaaGreat
open Go.Maps Go.RowKit
theorem abq (m:Nat):(m:Int).tdiv 8=((m / 8:Nat):Int):=by
 rw[Int.tdiv_eq_ediv_of_nonneg (by omega)];omega
theorem abr (m:Nat):(m:Int).tmod 8=((m % 8:Nat):Int):=by
 rw[Int.tmod_eq_emod_of_nonneg (by omega)];omega
theorem uw {α:Type} (f:Nat→α) (k:Nat):(List.range (k+1)).map f=(List.range k).map f++[f k]:=by rw[List.range_succ,List.map_append];rfl
theorem iw {α:Type} (f:Nat→List α) (k:Nat):(List.range (k+1)).flatMap f=(List.range k).flatMap f++f k:=by rw[List.range_succ,List.flatMap_append];simp
theorem Tg {p:P4} (h:aV p=true):∃s t:Nat,p.ah=(s:Int)∧p.aj=(t:Int)∧s<8∧t<8:=by
 obtain⟨_,_,h3,h4⟩:=uO h
 simp only[gq,Bool.and_eq_true,decide_eq_true_eq]at h3 h4
 exact⟨p.ah.toNat,p.aj.toNat,by omega,by omega,by omega,by omega⟩
theorem Dn (bF:Pl→P4→Int) (i:Int) (d:Dev) (p:P4):nT bF i 1 d p=if p.src=d.addr∧d.pool.testBit p.ah.toNat=true then(List.range 128).map (wu i 1 p)else[]:=if_pos rfl
theorem M6 (bF:Pl→P4→Int) (g:Nat) (r:aA) (i:Int) (p:P4) (W:World) (hi:ay i) (hp:aV p=true) (hpl:r.pool<256):
  Calls Tryz.prog 160 #[.pointer (some ⟨g,0,none⟩),.agg #[.string r.name,.int .i64 r.kind,.int .i64 r.addr,.int .u8 r.pool,.slice r.bA r.bn r.bc,.slice r.rA r.rn r.rc,.slice r.tA r.tn r.tc],.agg #[.int .i64 i,.int .i64 1],.agg #[.int .i64 p.src,.int .i64 p.dst,.int .i64 p.ah,.int .i64 p.aj]] W fun e W'=>∃v l,e= .returned v∧WR W.heap.size v l W'∧l.map (·.x)=nT bF i 1 r.dev p∧Below W.heap.size W W':=by
 obtain⟨a,b,sp,dp⟩:=p
 obtain⟨s,t,rfl,rfl,hs,ht⟩:=Tg hp
 obtain⟨NW,Oi⟩:∃NW,nT bF i 1 r.dev ⟨a,b,(s:Int),(t:Int)⟩=NW:=⟨_,rfl⟩
 have HN:=hide (fun h=>show NW=[]from Oi.symm.trans ((Dn _ _ _ _).trans (if_neg h)))
 have HY:=hide (fun h=>show NW=(List.range 128).map (wu i 1 ⟨a,b,(s:Int),(t:Int)⟩)from Oi.symm.trans ((Dn _ _ _ _).trans (if_pos h)))
 rw[Oi]
 have hbit:=Bb r.pool s hpl
 clear Oi hp
 by_cases ha:a=r.addr
 case neg=>
  have e1:(a != r.addr)=true:=by simpa using ha
  have HRR:=hide (HN.out (fun e=>ha e.1))
  clear HN HY ha hbit
  go_enter Tryz.func160,Tryz.ntmps160
  go_wp2_with fail
  generalize hG:World.alloc (World.alloc (World.alloc (World.alloc W _) _) _) _=W1
  have HW1:=hide (show W1.heap.size=W.heap.size+4 from by rw[← hG];simp)
  have HQ:=hide (fun(w':World) (hb:Below W1.heap.size W1 w')=>gU (B:=W1.heap.size) [(#[.string r.name,.int .i64 r.kind,.int .i64 r.addr,.int .u8 r.pool,.slice r.bA r.bn r.bc,.slice r.rA r.rn r.rc,.slice r.tA r.tn r.tc],86),(#[.int .i64 i,.int .i64 1],27),(#[.int .i64 a,.int .i64 b,.int .i64 (s:Int),.int .i64 (t:Int)],29),(#[.int .i64 i,.int .i64 0],27)] W (W':=w') (by rw[← hG]at hb ⊢;exact hb))
  clear hG
  have HB1:=hide ((HQ.out W1 (Below.refl _ _)).2 (by rw[HW1.out];omega))
  go_ret
  exact⟨_,[],rfl,WR.nil _ _,by rw[HRR.out];rfl,HB1.out⟩
 have e1:(a != r.addr)=false:=by simpa using ha
 cases hb:r.pool.testBit s
 case false=>
  rw[hb]at hbit
  simp only[Bool.not_false]at hbit
  have HRR:=hide (HN.out (fun e=>by have:=e.2;simp only[Int.toNat_natCast]at this;rw[show r.dev.pool=r.pool from rfl,hb]at this;cases this))
  clear HN HY ha hb
  go_enter Tryz.func160,Tryz.ntmps160
  go_wp2_with fail
  generalize hG:World.alloc (World.alloc (World.alloc (World.alloc W _) _) _) _=W1
  have HW1:=hide (show W1.heap.size=W.heap.size+4 from by rw[← hG];simp)
  have HQ:=hide (fun(w':World) (hb:Below W1.heap.size W1 w')=>gU (B:=W1.heap.size) [(#[.string r.name,.int .i64 r.kind,.int .i64 r.addr,.int .u8 r.pool,.slice r.bA r.bn r.bc,.slice r.rA r.rn r.rc,.slice r.tA r.tn r.tc],86),(#[.int .i64 i,.int .i64 1],27),(#[.int .i64 a,.int .i64 b,.int .i64 (s:Int),.int .i64 (t:Int)],29),(#[.int .i64 i,.int .i64 0],27)] W (W':=w') (by rw[← hG]at hb ⊢;exact hb))
  clear hG
  have HB1:=hide ((HQ.out W1 (Below.refl _ _)).2 (by rw[HW1.out];omega))
  go_ret
  exact⟨_,[],rfl,WR.nil _ _,by rw[HRR.out];rfl,HB1.out⟩
 rw[hb]at hbit
 simp only[Bool.not_true]at hbit
 have HRR:=hide (HY.out ⟨ha,hb⟩)
 clear HN HY ha hb
 obtain⟨i0,hi0,hz0,hz1,hz2⟩:=info_parts Tryz.infoWay
 go_enter Tryz.func160,Tryz.ntmps160
 go_wp2_with fail
 generalize hG:World.alloc (World.alloc (World.alloc (World.alloc W _) _) _) _=W1
 have HW1:=hide (show W1.heap.size=W.heap.size+4 from by rw[← hG];simp)
 have HQ:=hide (fun(w':World) (hb:Below W1.heap.size W1 w')=>gU (B:=W1.heap.size) [(#[.string r.name,.int .i64 r.kind,.int .i64 r.addr,.int .u8 r.pool,.slice r.bA r.bn r.bc,.slice r.rA r.rn r.rc,.slice r.tA r.tn r.tc],86),(#[.int .i64 i,.int .i64 1],27),(#[.int .i64 a,.int .i64 b,.int .i64 (s:Int),.int .i64 (t:Int)],29),(#[.int .i64 i,.int .i64 0],27)] W (W':=w') (by rw[← hG]at hb ⊢;exact hb))
 clear hG
 have HB1:=hide ((HQ.out W1 (Below.refl _ _)).2 (by rw[HW1.out];omega))
 go_loopw [40,9] (fun mv sv wr=>∃(m:Nat) (l:List bR) (v:Value),m≤128∧mv= .int .i64 (m:Int)∧v=sv∧Hid (l.length=m)∧Hid (l.map (·.x)=(List.range m).map (wu i 1 ⟨a,b,(s:Int),(t:Int)⟩))∧Hid (WR W1.heap.size v l wr)∧Hid (Below W1.heap.size W1 wr)) (fun mv _ _=>128 - (intOf mv).toNat)
 case atStart=>exact⟨0,[],.slice none 0 0,by omega,rfl,rfl,hide rfl,hide rfl,hide (WR.nil _ _),hide (Below.refl _ _)⟩
 case round=>
  obtain⟨m,l,v,hm,rfl,rfl,HLEN,HM,HR,HB⟩:=hrel
  by_cases hlt:m<128
  case pos=>
   have hq8:=abq m
   have hr8:=abr m
   have hz:W.heap.size+3<W1.heap.size:=by rw[HW1.out];omega
   have b0:=(HQ.out wr HB.out).1 2 _ _ rfl (by omega)
   have p0:wr.cell? ⟨W.heap.size+2,0,none⟩=some (.int .i64 a):=b0.1 0 _ rfl
   have p1:wr.cell? ⟨W.heap.size+2,1,none⟩=some (.int .i64 b):=b0.1 1 _ rfl
   have p2:wr.cell? ⟨W.heap.size+2,2,none⟩=some (.int .i64 (s:Int)):=b0.1 2 _ rfl
   have p3:wr.cell? ⟨W.heap.size+2,3,none⟩=some (.int .i64 (t:Int)):=b0.1 3 _ rfl
   have mg:=hide (fun(ob:Obj)=>HB.out.trans ((aC wr ob).mono HB.out.size))
   have o2:∀ob,(wr.alloc ob).cell? ⟨W.heap.size+2,2,none⟩=some (.int .i64 (s:Int)):=fun ob=>((HQ.out _ (mg.out ob)).1 2 _ _ rfl (by omega)).1 2 _ rfl
   have x0:∀ob,(wr.alloc ob).cell? ⟨W.heap.size+3,0,none⟩=some (.int .i64 i):=fun ob=>((HQ.out _ (mg.out ob)).1 3 _ _ rfl (by omega)).1 0 _ rfl
   have x1:∀ob,(wr.alloc ob).cell? ⟨W.heap.size+3,1,none⟩=some (.int .i64 0):=fun ob=>((HQ.out _ (mg.out ob)).1 3 _ _ rfl (by omega)).1 1 _ rfl
   have H4:=hide (HR.out.Qn HB.out (.cells #[.int .i64 ((m:Int) / 8),.int .i64 b,.int .i64 ((m:Int) % 8),.int .i64 (t:Int)] 29) ⟨wu i 1 ⟨a,b,(s:Int),(t:Int)⟩ m,0⟩ #[.int .i64 i,.int .i64 0,.int .i64 ((m:Int) / 8),.int .i64 b,.int .i64 ((m:Int) % 8),.int .i64 (t:Int),.pointer none,.int .i64 (s:Int),.bool false] (by simp[bR.cells,bR.ptr,wu]))
   have HOW:=hide H4.out.1.own
   clear hq8 hr8
   go_wp2_with (at_builtin;refine bM _ rfl (.tmp 50) (.tmp 56) 203 rfl W1.heap.size 207 i0 _ 9 72 Tryz.underlying203 hi0 hz0 hz1 hz2 rfl (by omega) v l.length (l.flatMap bR.cells) rfl HOW.out (wr.heap.size+2) (some ⟨wr.heap.size+1,0,none⟩) 1 1 (bR.cells ⟨wu i 1 ⟨a,b,(s:Int),(t:Int)⟩ m,0⟩) rfl H4.out.2.2.1 (bR.one _) (by simp only[maxLen];have:=HLEN.out;omega) (by have:=HLEN.out;omega) H4.out.2.2.2 ?_;intro v6 w6 hown6 nP jq;have HP:=hide (H4.out.1.push (r:=⟨wu i 1 ⟨a,b,(s:Int),(t:Int)⟩ m,0⟩) H4.out.2.1 hown6 nP jq (fun y e=>by cases e));clear hown6 nP jq)
   go_roundw
   case rel=>exact⟨m+1,l++[⟨wu i 1 ⟨a,b,(s:Int),(t:Int)⟩ m,0⟩],v6,by omega,by go_num,rfl,hide (by simp[HLEN.out]),hide (by rw[List.map_append,HM.out,uw];rfl),hide HP.out.1,hide HP.out.2⟩
   case measure=>simp[intOf];omega
  case neg=>
   obtain rfl:m=128:=by omega
   go_wp2
   go_ret
   exact⟨v,l,rfl,HR.out.lo (by rw[HW1.out];omega),by rw[HM.out,HRR.out],HB1.out.trans (HB.out.mono (by rw[HW1.out];omega))⟩
theorem Lg (bF:Pl→P4→Int) (i:Int) (d:Dev) (p:P4):nT bF i 0 d p=(List.range 8).flatMap (zT bF i 0 d p):=if_neg (by decide)
theorem Ti (bF:Pl→P4→Int) (i o:Int) (d:Dev) (p:P4) (q:Nat):(zT bF i o d p q).length ≤128:=by
 unfold zT
 split<;>simp
theorem Qo (g NR:Nat) (ds:List Dev) (ls:List av) (K:Nat) (r:aA) (i:Int) (p:P4) (W:World) (hi:ay i) (had:ay r.addr) (hp:aV p=true) (hpl:r.pool<256) (hmk:∀w',Below W.heap.size W w'→w'.cell? ⟨g,2,none⟩=some (.pointer (some ⟨NR,0,none⟩))∧fU w' NR ds ls K):
  Calls Tryz.prog 160 #[.pointer (some ⟨g,0,none⟩),.agg #[.string r.name,.int .i64 r.kind,.int .i64 r.addr,.int .u8 r.pool,.slice r.bA r.bn r.bc,.slice r.rA r.rn r.rc,.slice r.tA r.tn r.tc],.agg #[.int .i64 i,.int .i64 0],.agg #[.int .i64 p.src,.int .i64 p.dst,.int .i64 p.ah,.int .i64 p.aj]] W fun e W'=>∃v l,e= .returned v∧WR W.heap.size v l W'∧l.map (·.x)=nT (aJ ds ls K) i 0 r.dev p∧Below W.heap.size W W':=by
 obtain⟨a,b,s,t⟩:=p
 obtain⟨ad,yI⟩:∃ad,r.addr=ad:=⟨_,rfl⟩
 have tK:=hide (eH hp)
 have hpl':=hpl
 clear hpl
 obtain⟨NI,Yb⟩:∃NI,zT (aJ ds ls K) i 0 r.dev ⟨a,b,s,t⟩=NI:=⟨_,rfl⟩
 have HNI:=hide (fun q=>show NI q=if r.pool.testBit q=true∧0≤aJ ds ls K (i,1) ⟨a,ad,s,(q:Int)⟩then(List.range 128).map (uP i 0 r.dev ⟨a,b,s,t⟩ q)else[]from by rw[← Yb,← yI];rfl)
 have HNL:=hide (fun q=>show(NI q).length ≤128 from by rw[← Yb];exact Ti _ _ _ _ _ _)
 rw[Lg,Yb]
 have HAD:=hide yI
 have vS:=hide hmk
 have xC:=hide (And.intro hi (show ay ad from yI▸had))
 clear Yb yI hp hmk hi had
 obtain⟨i0,hi0,hz0,hz1,hz2⟩:=info_parts Tryz.infoWay
 go_enter Tryz.func160,Tryz.ntmps160
 go_wp2_with fail
 generalize hG:World.alloc (World.alloc (World.alloc (World.alloc W _) _) _) _=W1
 have HW1:=hide (show W1.heap.size=W.heap.size+4 from by rw[← hG];simp)
 have HQ:=hide (fun(w':World) (hb:Below W1.heap.size W1 w')=>gU (B:=W1.heap.size) [(#[.string r.name,.int .i64 r.kind,.int .i64 r.addr,.int .u8 r.pool,.slice r.bA r.bn r.bc,.slice r.rA r.rn r.rc,.slice r.tA r.tn r.tc],86),(#[.int .i64 i,.int .i64 0],27),(#[.int .i64 a,.int .i64 b,.int .i64 s,.int .i64 t],29),(#[.int .i64 i,.int .i64 1],27)] W (W':=w') (by rw[← hG]at hb ⊢;exact hb))
 clear hG
 have HB1:=hide ((HQ.out W1 (Below.refl _ _)).2 (by rw[HW1.out];omega))
 rw[HAD.out]at HQ
 have hsz:=HW1.out
 go_loopw [60,9] (fun pv sv wr=>∃(q:Nat) (l:List bR) (v:Value),q≤8∧pv= .int .i64 (q:Int)∧v=sv∧Hid (l.length≤128*q)∧Hid (l.map (·.x)=(List.range q).flatMap NI)∧Hid (WR W1.heap.size v l wr)∧Hid (Below W1.heap.size W1 wr)) (fun pv _ _=>8 - (intOf pv).toNat)
 case atStart=>exact⟨0,[],.slice none 0 0,by omega,rfl,rfl,hide (by simp),hide rfl,hide (WR.nil _ _),hide (Below.refl _ _)⟩
 case round=>
  obtain⟨q,l,v,hq,rfl,rfl,HLEN,HM,HR,HB⟩:=hrel
  by_cases hlt:q<8
  case neg=>
   obtain rfl:q=8:=by omega
   go_wp2
   go_ret
   exact⟨v,l,rfl,HR.out.lo (by rw[hsz];omega),HM.out,HB1.out.trans (HB.out.mono (by rw[hsz];omega))⟩
  case pos=>
   have hbit:=Bb r.pool q hpl'
   have d3:wr.cell? ⟨W.heap.size,3,none⟩=some (.int .u8 r.pool):=((HQ.out wr HB.out).1 0 _ _ rfl (by omega)).1 3 _ rfl
   cases hb:r.pool.testBit q
   case false=>
    rw[hb]at hbit
    simp only[Bool.not_false]at hbit
    have HE:=hide (show NI q=[]from(HNI.out q).trans (if_neg (by rw[hb];simp)))
    clear hb
    go_wp2
    go_roundw
    case rel=>exact⟨q+1,l,v,by omega,by go_num,rfl,hide (by have:=HLEN.out;omega),hide (by rw[iw,HE.out,List.append_nil];exact HM.out),HR,HB⟩
    case measure=>simp[intOf];omega
   case true=>
    rw[hb]at hbit
    simp only[Bool.not_true]at hbit
    have Yc:=hide (fun h=>show NI q=(List.range 128).map (uP i 0 r.dev ⟨a,b,s,t⟩ q)from(HNI.out q).trans (if_pos ⟨hb,h⟩))
    have Yd:=hide (fun(h:¬ 0≤aJ ds ls K (i,1) ⟨a,ad,s,(q:Int)⟩)=>show NI q=[]from(HNI.out q).trans (if_neg (fun e=>h e.2)))
    clear hb
    have b0:=(HQ.out wr HB.out).1 2 _ _ rfl (by omega)
    have p0:wr.cell? ⟨W.heap.size+2,0,none⟩=some (.int .i64 a):=b0.1 0 _ rfl
    have p1:wr.cell? ⟨W.heap.size+2,1,none⟩=some (.int .i64 b):=b0.1 1 _ rfl
    have p2:wr.cell? ⟨W.heap.size+2,2,none⟩=some (.int .i64 s):=b0.1 2 _ rfl
    have p3:wr.cell? ⟨W.heap.size+2,3,none⟩=some (.int .i64 t):=b0.1 3 _ rfl
    have mg:=hide (fun(ob:Obj)=>HB.out.trans ((aC wr ob).mono HB.out.size))
    have o2:∀ob,(wr.alloc ob).cell? ⟨W.heap.size,2,none⟩=some (.int .i64 ad):=fun ob=>((HQ.out _ (mg.out ob)).1 0 _ _ rfl (by omega)).1 2 _ rfl
    go_wp2_with fail
    clear p0 p1 p2 p3 o2 d3 b0 hbit
    have hb2:=aC wr (.cells #[.int .i64 a,.int .i64 ad,.int .i64 s,.int .i64 (q:Int)] 29)
    have bO:=hide (show BR v (wr.alloc (.cells #[.int .i64 a,.int .i64 ad,.int .i64 s,.int .i64 (q:Int)] 29)) wr.heap.size #[.int .i64 a,.int .i64 ad,.int .i64 s,.int .i64 (q:Int)]from⟨aB.new _ _ _,by simp,fun e=>Nat.lt_irrefl _ (HR.out.own.lt _ e).2⟩)
    have HR2:=hide (HR.out.below hb2)
    have HB2:=hide (HB.out.trans (hb2.mono HB.out.size))
    clear hb2 HR HB mg
    obtain⟨sV,DY⟩:∃sV,wr.heap.size=sV:=⟨_,rfl⟩
    rw[DY]at bO
    try rw[DY]
    clear DY
    generalize World.alloc wr _=w2 at*
    refine bS (by kernel_rfl) (by kernel_rfl) ?_
    intro T hT gt hg1 hgi
    have aU:=hide hg1
    have gX:=hide hgi
    clear hg1 hgi
    have Tj:=hide (fun t=>HB2.out.trans ((aU.out t).mono HB2.out.size))
    have Ig:=hide (fun t=>vS.out (gt t) (HB1.out.trans ((Tj.out t).mono (by rw[hsz];omega))))
    have k1:∀t,(gt t).cell? ⟨g,2,none⟩=some (.pointer (some ⟨NR,0,none⟩)):=fun t=>(Ig.out t).1
    have k2:∀t,(gt t).cell? ⟨W.heap.size+3,0,none⟩=some (.int .i64 i):=fun t=>((HQ.out _ (Tj.out t)).1 3 _ _ rfl (by omega)).1 0 _ rfl
    have k3:∀t,(gt t).cell? ⟨W.heap.size+3,1,none⟩=some (.int .i64 1):=fun t=>((HQ.out _ (Tj.out t)).1 3 _ _ rfl (by omega)).1 1 _ rfl
    have k4:∀t,(gt t).cell? ⟨sV,0,none⟩=some (.int .i64 a):=fun t=>(bO.out.below (aU.out t)).b.1 0 _ rfl
    have k5:∀t,(gt t).cell? ⟨sV,1,none⟩=some (.int .i64 ad):=fun t=>(bO.out.below (aU.out t)).b.1 1 _ rfl
    have k6:∀t,(gt t).cell? ⟨sV,2,none⟩=some (.int .i64 s):=fun t=>(bO.out.below (aU.out t)).b.1 2 _ rfl
    have k7:∀t,(gt t).cell? ⟨sV,3,none⟩=some (.int .i64 (q:Int)):=fun t=>(bO.out.below (aU.out t)).b.1 3 _ rfl
    obtain⟨RP,zw⟩:∃RP,aJ ds ls K (i,1) ⟨a,ad,s,(q:Int)⟩=RP:=⟨_,rfl⟩
    have HRW:=hide (fun w' h=>iZ NR ds ls K (i,1) ⟨xC.out.1,by simp[ay]⟩ ⟨a,ad,s,(q:Int)⟩ w' h)
    rw[zw]at HRW Yc Yd
    clear zw
    repeat (go_big_quiet_step ((go_at_call 18;exact mE aU.out gX.out (HRW.out _ (Ig.out _).2))))
    refine wpQuiet_nil ?_
    intro _ hw'
    obtain⟨t',rfl⟩:=hw'
    have cu:=hide (bO.out.below (aU.out t'))
    have HR3:=hide (HR2.out.below (aU.out t'))
    have HB3:=hide (Tj.out t')
    generalize gt t'=w3 at*
    clear aU gX Tj Ig k1 k2 k3 k4 k5 k6 k7 HRW bO HR2 HB2
    by_cases zw:RP<0
    case pos=>
     have HE:=hide (Yd.out (by omega))
     clear Yc Yd
     go_wp2
     go_roundw
     case rel=>exact⟨q+1,l,v,by omega,by go_num,rfl,hide (by have:=HLEN.out;omega),hide (by rw[iw,HE.out,List.append_nil];exact HM.out),HR3,HB3⟩
     case measure=>simp[intOf];omega
    case neg=>
     have abv:0≤RP:=by omega
     have HE:=hide (Yc.out abv)
     have hd:decide (RP<0)=false:=by simpa using abv
     clear Yc Yd zw
     go_wp2_with fail
     clear hd
     go_loopw [83,9] (fun pv sv wr=>∃(m:Nat) (l3:List bR) (v:Value),m≤128∧pv= .int .i64 (m:Int)∧v=sv∧Hid (l3.length=l.length+m)∧Hid (l3.map (·.x)=(List.range q).flatMap NI++(List.range m).map (uP i 0 r.dev ⟨a,b,s,t⟩ q))∧Hid (WR W1.heap.size v l3 wr)∧Hid (Below W1.heap.size W1 wr)∧Hid (BR v wr sV #[.int .i64 a,.int .i64 ad,.int .i64 s,.int .i64 (q:Int)])) (fun pv _ _=>128 - (intOf pv).toNat)
     case atStart=>exact⟨0,l,v,by omega,rfl,rfl,hide rfl,hide (by rw[HM.out];simp),HR3,HB3,cu⟩
     case round=>
      clear HR3 HB3 cu
      obtain⟨m,l3,v3,hm,rfl,rfl,Je,nZ,HR3,HB3,cu⟩:=hrel
      by_cases ah6:m<128
      case neg=>
       obtain rfl:m=128:=by omega
       go_wp2
       go_roundw
       case rel=>exact⟨q+1,l3,v3,by omega,by go_num,rfl,hide (by have:=HLEN.out;have:=Je.out;omega),hide (by rw[iw,HE.out];exact nZ.out),HR3,HB3⟩
       case measure=>simp[intOf];omega
      case pos=>
       have hq8:=abq m
       have hr8:=abr m
       have b0:=(HQ.out wr HB3.out).1 2 _ _ rfl (by omega)
       have p1:wr.cell? ⟨W.heap.size+2,1,none⟩=some (.int .i64 b):=b0.1 1 _ rfl
       have p3:wr.cell? ⟨W.heap.size+2,3,none⟩=some (.int .i64 t):=b0.1 3 _ rfl
       have mg:=hide (fun(ob:Obj)=>HB3.out.trans ((aC wr ob).mono HB3.out.size))
       have Ca:=hide (fun(ob:Obj)=>cu.out.below (aC wr ob))
       have x0:∀ob,(wr.alloc ob).cell? ⟨W.heap.size+3,0,none⟩=some (.int .i64 i):=fun ob=>((HQ.out _ (mg.out ob)).1 3 _ _ rfl (by omega)).1 0 _ rfl
       have x1:∀ob,(wr.alloc ob).cell? ⟨W.heap.size+3,1,none⟩=some (.int .i64 1):=fun ob=>((HQ.out _ (mg.out ob)).1 3 _ _ rfl (by omega)).1 1 _ rfl
       have y0:∀ob,(wr.alloc ob).cell? ⟨W.heap.size+1,0,none⟩=some (.int .i64 i):=fun ob=>((HQ.out _ (mg.out ob)).1 1 _ _ rfl (by omega)).1 0 _ rfl
       have y1:∀ob,(wr.alloc ob).cell? ⟨W.heap.size+1,1,none⟩=some (.int .i64 0):=fun ob=>((HQ.out _ (mg.out ob)).1 1 _ _ rfl (by omega)).1 1 _ rfl
       have k4:∀ob,(wr.alloc ob).cell? ⟨sV,0,none⟩=some (.int .i64 a):=fun ob=>(Ca.out ob).b.1 0 _ rfl
       have k5:∀ob,(wr.alloc ob).cell? ⟨sV,1,none⟩=some (.int .i64 ad):=fun ob=>(Ca.out ob).b.1 1 _ rfl
       have k6:∀ob,(wr.alloc ob).cell? ⟨sV,2,none⟩=some (.int .i64 s):=fun ob=>(Ca.out ob).b.1 2 _ rfl
       have k7:∀ob,(wr.alloc ob).cell? ⟨sV,3,none⟩=some (.int .i64 (q:Int)):=fun ob=>(Ca.out ob).b.1 3 _ rfl
       have H4:=hide (HR3.out.abp HB3.out (.cells #[.int .i64 b,.int .i64 ((m:Int) / 8),.int .i64 t,.int .i64 ((m:Int) % 8)] 29) ⟨i,0,⟨b,(m:Int) / 8,t,(m:Int) % 8⟩⟩ ⟨uP i 0 r.dev ⟨a,b,s,t⟩ q m,wr.heap.size+1⟩ #[.int .i64 i,.int .i64 1,.int .i64 a,.int .i64 ad,.int .i64 s,.int .i64 (q:Int),.pointer (some ⟨wr.heap.size+1,0,none⟩),.int .i64 (q:Int),.bool false] (by simp[bR.cells,bR.ptr,uP,aA.dev,HAD.out]) rfl (fun y hy=>by simp[uP]at hy;exact hy.symm))
       have dW:=hide (((cu.out.below (aC wr (.cells #[.int .i64 b,.int .i64 ((m:Int) / 8),.int .i64 t,.int .i64 ((m:Int) % 8)] 29))).below (aC _ (.cells #[.int .i64 i,.int .i64 0,.int .i64 b,.int .i64 ((m:Int) / 8),.int .i64 t,.int .i64 ((m:Int) % 8)] 106))).below (aC _ (.cells #[.int .i64 i,.int .i64 1,.int .i64 a,.int .i64 ad,.int .i64 s,.int .i64 (q:Int),.pointer (some ⟨wr.heap.size+1,0,none⟩),.int .i64 (q:Int),.bool false] 207)))
       have HOW:=hide H4.out.1.own
       clear hq8 hr8 mg Ca
       go_wp2_with (at_builtin;refine bM _ rfl (.tmp 95) (.tmp 104) 203 rfl W1.heap.size 207 i0 _ 9 72 Tryz.underlying203 hi0 hz0 hz1 hz2 rfl (by omega) v3 l3.length (l3.flatMap bR.cells) rfl HOW.out (wr.heap.size+3) (some ⟨wr.heap.size+2,0,none⟩) 1 1 (bR.cells ⟨uP i 0 r.dev ⟨a,b,s,t⟩ q m,wr.heap.size+1⟩) rfl H4.out.2.2.1 (bR.one _) (by simp only[maxLen];have:=HLEN.out;have:=Je.out;omega) (by have:=HLEN.out;have:=Je.out;omega) H4.out.2.2.2.1 ?_;intro v6 w6 hown6 nP jq;have HP:=hide (H4.out.1.push (r:=⟨uP i 0 r.dev ⟨a,b,s,t⟩ q m,wr.heap.size+1⟩) H4.out.2.1 hown6 nP jq H4.out.2.2.2.2);have gD:=hide (dW.out.grown nP jq);clear hown6 nP jq)
       go_roundw
       case rel=>exact⟨m+1,l3++[⟨uP i 0 r.dev ⟨a,b,s,t⟩ q m,wr.heap.size+1⟩],v6,by omega,by go_num,rfl,hide (by have:=Je.out;simp;omega),hide (by rw[List.map_append,nZ.out,uw,List.append_assoc];rfl),hide HP.out.1,hide HP.out.2,gD⟩
       case measure=>simp[intOf];omega
end Go.Proofs.YtlhmdcgckocidaaGreat
