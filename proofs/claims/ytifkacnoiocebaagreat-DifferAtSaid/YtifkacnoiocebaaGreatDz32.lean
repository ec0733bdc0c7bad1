/- A part of the proof: Sp11. -/
import Derived.Test.YtifkacnoiocebaaGreatDz29
set_option linter.unusedVariables false
set_option linter.unusedSimpArgs false
set_option maxRecDepth 100000
set_option maxHeartbeats 16000000
namespace Go.Proofs.YtifkacnoiocebaaGreat
open Go.Maps Go.RowKit Go.WideElems
def iU (ls:List ah) (i:Nat) (d:Dev) (opn:Bool) (W:Nat→Nat→Bool) (port c:Nat) (Dn:aB→Nat→Prop):aB→Nat→Prop:=fun x c'=>Dn x c'∨∃o:Nat,zh d opn W port c o c'∧aD ls ((i:Int),(o:Int))=some x
theorem iU.one {ls:List ah} {i:Nat} {d:Dev} {opn:Bool} {W:Nat→Nat→Bool} {port c o0 c0:Nat} {Dn:aB→Nat→Prop} (h:∀o c',zh d opn W port c o c'↔(o=o0∧c'=c0)) (x:aB) (c':Nat):nM ls ((i:Int),(o0:Int)) c0 Dn x c'↔iU ls i d opn W port c Dn x c':=by
 unfold nM iU
 refine or_congr Iff.rfl ⟨fun⟨h1,h2⟩=>⟨o0,(h _ _).2 ⟨rfl,h2⟩,h1⟩,fun⟨o,h1,h2⟩=>?_⟩
 obtain⟨rfl,rfl⟩:=(h _ _).1 h1
 exact⟨h2,rfl⟩
theorem iU.two {ls:List ah} {i:Nat} {d:Dev} {opn:Bool} {W:Nat→Nat→Bool} {port c o0 c0 c1:Nat} {Dn:aB→Nat→Prop} (h:∀o c',zh d opn W port c o c'↔(o=o0∧(c'=c0∨c'=c1))) (x:aB) (c':Nat):nM ls ((i:Int),(o0:Int)) c1 (nM ls ((i:Int),(o0:Int)) c0 Dn) x c'↔iU ls i d opn W port c Dn x c':=by
 unfold nM iU
 rw[or_assoc]
 refine or_congr Iff.rfl ⟨fun h0=>?_,fun⟨o,h1,h2⟩=>?_⟩
 ·rcases h0 with⟨h1,h2⟩ | ⟨h1,h2⟩
  ·exact⟨o0,(h _ _).2 ⟨rfl,.inl h2⟩,h1⟩
  ·exact⟨o0,(h _ _).2 ⟨rfl,.inr h2⟩,h1⟩
 ·obtain⟨rfl,h3⟩:=(h _ _).1 h1
  exact h3.imp (fun e=>⟨h2,e⟩) (fun e=>⟨h2,e⟩)
def nN (ls:List ah) (i a s t:Nat) (bs:List Int) (x:Nat) (Dn:aB→Nat→Prop):aB→Nat→Prop:=fun y c'=>Dn y c'∨∃j,j<x∧∃z,bs[j]?=some z∧aD ls ((i:Int),((1:Nat):Int))=some y∧c'=ay a z.toNat s t
theorem nN.zero {ls:List ah} {i a s t:Nat} {bs:List Int} {Dn:aB→Nat→Prop} (y:aB) (c':Nat):Dn y c'↔nN ls i a s t bs 0 Dn y c':=⟨.inl,fun h=>h.elim id (fun⟨j,h,_⟩=>absurd h (Nat.not_lt_zero _))⟩
theorem nN.step {ls:List ah} {i a s t:Nat} {bs:List Int} {Dn:aB→Nat→Prop} {x:Nat} {z:Int} (hz:bs[x]?=some z) (y:aB) (c':Nat):nM ls ((i:Int),((1:Nat):Int)) (ay a z.toNat s t) (nN ls i a s t bs x Dn) y c'↔nN ls i a s t bs (x+1) Dn y c':=by
 unfold nM nN
 rw[or_assoc]
 refine or_congr Iff.rfl ⟨fun h0=>?_,fun⟨j,hj,z',h1,h2,h3⟩=>?_⟩
 ·rcases h0 with⟨j,hj,h1⟩ | ⟨h1,h2⟩
  ·exact⟨j,by omega,h1⟩
  ·exact⟨x,by omega,z,hz,h1,h2⟩
 ·rcases Nat.lt_or_ge j x with hl | hl
  ·exact .inl ⟨j,hl,z',h1,h2,h3⟩
  ·obtain rfl:j=x:=by omega
   obtain rfl:z=z':=Option.some.inj (hz.symm.trans h1)
   exact .inr ⟨h2,h3⟩
theorem nN.told {ls:List ah} {i a s t:Nat} {bs:List Int} {d:Dev} {opn:Bool} {W:Nat→Nat→Bool} {port c:Nat} {Dn:aB→Nat→Prop} {n:Nat} (hn:bs.length=n) (h:∀o c',zh d opn W port c o c'↔∃x∈bs,o=1∧c'=ay a x.toNat s t) (y:aB) (c':Nat):nN ls i a s t bs n Dn y c'↔iU ls i d opn W port c Dn y c':=by
 unfold nN iU
 refine or_congr Iff.rfl ⟨fun⟨j,hj,z,h1,h2,h3⟩=>⟨1,(h _ _).2 ⟨z,List.mem_of_getElem? h1,rfl,h3⟩,h2⟩,fun⟨o,h1,h2⟩=>?_⟩
 obtain⟨z,hz,rfl,h3⟩:=(h _ _).1 h1
 obtain⟨j,hj⟩:=List.getElem?_of_mem hz
 exact⟨j,by rw[← hn];exact(List.getElem?_eq_some_iff.1 hj).1,z,hj,h2,h3⟩
theorem aaz (E:SE) (hE:E.Ok) (w:World) (Dn:aB→Nat→Prop) (h:SP E Dn w) (i:Nat) (nm:ByteArray) (an pl:Nat) (bA:Option Addr) (bn bc:Nat) (bs:List Int) (rA:Option Addr) (rn rc:Nat) (rs:List bg) (tA:Option Addr) (tn tc:Nat) (ts:List aG) (hd:E.n.ds[i]?=some ⟨nm,5,(an:Int),pl,bA,bn,bc,bs,rA,rn,rc,rs,tA,tn,tc,ts⟩) (ha:an<16) (sH:∀x∈bs,0≤x∧x<16) (hb3:bs.length≤3)
  (a b s t:Nat) (hf:dW a b s t) (opn:Bool) (W:Nat→Nat→Bool):
  Calls Tryz.prog 69 #[.pointer (some ⟨E.s,0,none⟩),.agg #[.string nm,.int .i64 5,.int .i64 (an:Int),.int .u8 pl,.slice bA bn bc,.slice rA rn rc,.slice tA tn tc],.int .i64 (i:Int),.int .i64 0,.int .i64 (E.k:Int),.agg #[.int .i64 (a:Int),.int .i64 (b:Int),.int .i64 (s:Int),.int .i64 (t:Int)],.bool opn,.func (.func 32) #[] #[.pointer (some ⟨E.nA,0,none⟩),.pointer (some ⟨E.pS,0,none⟩),.pointer (some ⟨E.kA,0,none⟩),.pointer (some ⟨E.mA,0,none⟩)]] w fun e w'=>e= .returned (.tuple #[])∧SP E (iU E.n.ls i (ak.dev ⟨nm,5,(an:Int),pl,bA,bn,bc,bs,rA,rn,rc,rs,tA,tn,tc,ts⟩) opn W 0 (ay a b s t) Dn) w'∧KC E.C w w':=by
 have HE:=hide hE
 have HS:=hide h
 have HF:=hide hf
 have HA:=hide ha
 have yt:=hide sH
 have HB1:=hide (fun(o o':Obj)=>show RowKit.Below w.heap.size w ((w.alloc o).alloc o')from(below_alloc2 w o).trans ((below_alloc2 (w.alloc o) o').mono (below_alloc2 w o).size))
 have gF:=hide (fun(w':World) (dP:aB→Nat→Prop) (h':SP E dP w')=>show bW w' w'.heap.size ⟨nm,5,(an:Int),pl,bA,bn,bc,bs,rA,rn,rc,rs,tA,tn,tc,ts⟩from(h'.net hE).qW _ (List.mem_of_getElem? hd))
 have hbn:bn≤1000:=by
  have h1:=(gF.out w Dn h).bs.1
  simp only at h1
  have:=hb3
  omega
 obtain⟨cs,hcs⟩:∃cs:Array Value,#[.string nm,.int .i64 5,.int .i64 (an:Int),.int .u8 pl,.slice bA bn bc,.slice rA rn rc,.slice tA tn tc]=cs:=⟨_,rfl⟩
 have bL:=hide (show cs[2]?=some (.int .i64 (an:Int))∧cs[4]?=some (.slice bA bn bc)from by rw[← hcs];exact⟨rfl,rfl⟩)
 simp only[hcs]
 clear h hE hf ha sH hd hcs hb3
 have HD0:=hide (show DW E w w.heap.size cs Dn ((w.alloc (.cells cs 81)).alloc (.cells #[.int .i64 (a:Int),.int .i64 (b:Int),.int .i64 (s:Int),.int .i64 (t:Int)] 29))from
  ⟨HS.out.up HE.out (HB1.out _ _),KC.of_below (HB1.out _ _),(Bx.new w cs 81).below (below_alloc2 _ _),HS.out.sz⟩)
 have HX0:=hide (show Bx ((w.alloc (.cells cs 81)).alloc (.cells #[.int .i64 (a:Int),.int .i64 (b:Int),.int .i64 (s:Int),.int .i64 (t:Int)] 29)) (w.heap.size+1) #[.int .i64 (a:Int),.int .i64 (b:Int),.int .i64 (s:Int),.int .i64 (t:Int)] 29 from by
  have:=Bx.new (w.alloc (.cells cs 81)) #[.int .i64 (a:Int),.int .i64 (b:Int),.int .i64 (s:Int),.int .i64 (t:Int)] 29
  simpa using this)
 have xS:=hide (show E.N≤w.heap.size+1∧w.heap.size≤w.heap.size+1∧w.heap.size≠w.heap.size+1 from⟨by have:=HS.out.sz;omega,by omega,by omega⟩)
 go_enter Tryz.func69,Tryz.ntmps69
 have q2:(((w.alloc (.cells cs 81)).alloc (.cells #[.int .i64 (a:Int),.int .i64 (b:Int),.int .i64 (s:Int),.int .i64 (t:Int)] 29))).cell? ⟨w.heap.size,2,none⟩=some (.int .i64 (an:Int)):=HD0.out.bx.get 2 _ bL.out.1
 have HO:=hide (show∀o c',zh (ak.dev ⟨nm,5,(an:Int),pl,bA,bn,bc,bs,rA,rn,rc,rs,tA,tn,tc,ts⟩) opn W 0 (ay a b s t) o c'↔((an≠b∧o=1∧c'=ay a b s t)∨(an=b∧∃x∈bs,o=1∧c'=ay a x.toNat s t))from fun o c'=>by
  unfold zh
  obtain⟨p1,p2,p3,p4⟩:=HF.out.parts
  rw[p1,p2,p3,p4]
  simp only[ak.dev,Int.toNat_natCast]
  simp)
 by_cases hb:b=an
 case neg=>
  have hne:¬((b:Int)=(an:Int)):=by omega
  have fM:=hide (fun(w':World) (dP:aB→Nat→Prop) (h':SP E dP w')=>show Calls Tryz.prog 32 #[.int .i64 (i:Int),.int .i64 1,.agg #[.int .i64 (a:Int),.int .i64 (b:Int),.int .i64 (s:Int),.int .i64 (t:Int)],.pointer (some ⟨E.nA,0,none⟩),.pointer (some ⟨E.pS,0,none⟩),.pointer (some ⟨E.kA,0,none⟩),.pointer (some ⟨E.mA,0,none⟩)] w' (fun e w2=>e= .returned (.tuple #[])∧SP E (nM E.n.ls ((i:Int),((1:Nat):Int)) (ay a b s t) dP) w2∧KC E.C w' w2)from tK E HE.out w' dP h' (i:Int) 1 a b s t HF.out)
  go_wp2_with fail
  clear q2
  generalize World.alloc (World.alloc w _) _=w1 at*
  obtain⟨P0,Hz⟩:∃P0,w.heap.size=P0:=⟨_,rfl⟩
  obtain⟨P1,hP1⟩:∃P1,w.heap.size+1=P1:=⟨_,rfl⟩
  rw[hP1]at HX0 xS
  have OJ:=xS
  rw[Hz]at HD0 xS
  try simp only[hP1]
  try simp only[Hz]
  clear hP1
  refine(fM.out w1 _ HD0.out.sp).mono ?_
  rintro e w2 ⟨rfl,hsp,hkc⟩
  have HD2:=hide (HD0.out.put HE.out hsp hkc)
  have bZ:=hide (HX0.out.kc hkc (DW.Ab HE.out xS.out.1))
  clear hsp hkc HD0 HX0
  have q2:w2.cell? ⟨P0,2,none⟩=some (.int .i64 (an:Int)):=HD2.out.bx.get 2 _ bL.out.1
  have x0:w2.cell? ⟨P1,0,none⟩=some (.int .i64 (a:Int)):=bZ.out.get 0 _ rfl
  have x1:w2.cell? ⟨P1,1,none⟩=some (.int .i64 (b:Int)):=bZ.out.get 1 _ rfl
  have x2:w2.cell? ⟨P1,2,none⟩=some (.int .i64 (s:Int)):=bZ.out.get 2 _ rfl
  have x3:w2.cell? ⟨P1,3,none⟩=some (.int .i64 (t:Int)):=bZ.out.get 3 _ rfl
  go_wp2_with fail
  go_end0
  have HD3:=HD2.out.below HE.out (below_alloc2 w2 (.cells #[.int .i64 (b:Int),.int .i64 (an:Int),.int .i64 (t:Int),.int .i64 (s:Int)] 29))
  refine⟨rfl,HD3.sp.congr (fun x c' _=>iU.one (fun o c'=>?_) x c'),HD3.kc⟩
  rw[HO.out o c']
  constructor
  ·rintro(⟨_,h⟩ | ⟨h,_⟩)
   ·exact h
   ·omega
  ·exact fun h=>.inl ⟨by omega,h⟩
 case pos=>
  obtain rfl:=hb
  go_wp2_with fail
  clear q2
  generalize World.alloc (World.alloc w _) _=w1 at*
  obtain⟨P0,Hz⟩:∃P0,w.heap.size=P0:=⟨_,rfl⟩
  obtain⟨P1,hP1⟩:∃P1,w.heap.size+1=P1:=⟨_,rfl⟩
  rw[hP1]at HX0 xS
  have OJ:=xS
  rw[Hz]at HD0 xS
  try simp only[hP1]
  try simp only[Hz]
  clear hP1
  have mO:=hide (show∀o c',zh (ak.dev ⟨nm,5,(b:Int),pl,bA,bn,bc,bs,rA,rn,rc,rs,tA,tn,tc,ts⟩) opn W 0 (ay a b s t) o c'↔∃x∈bs,o=1∧c'=ay a x.toNat s t from fun o c'=>by
   rw[HO.out o c']
   constructor
   ·rintro(⟨h,_⟩ | ⟨_,h⟩)
    ·omega
    ·exact h
   ·exact fun h=>.inr ⟨by first | trivial | rfl,h⟩)
  have Bc:=hide (gF.out w1 Dn HD0.out.sp).bs.1
  simp only at Bc
  go_loopw [16] (fun iv wr=>∃x:Nat,x≤bn∧iv= .int .i64 (x:Int)∧Hid (DW E w P0 cs (nN E.n.ls i a s t bs x Dn) wr∧Bx wr P1 #[.int .i64 (a:Int),.int .i64 (b:Int),.int .i64 (s:Int),.int .i64 (t:Int)] 29)) (fun iv _=>bn - (intOf iv).toNat)
  case atStart=>exact⟨0,Nat.zero_le _,rfl,hide ⟨HD0.out.congr (fun y c' _=>nN.zero y c'),HX0.out⟩⟩
  case round=>
   clear HD0 HX0
   obtain⟨x,hx,rfl,HD⟩:=hrel
   have HX:=hide HD.out.2
   have mE:=gF.out wr _ HD.out.1.sp
   by_cases hxl:x<bn
   case neg=>
    obtain rfl:x=bn:=by omega
    have q4:wr.cell? ⟨P0,4,none⟩=some (.slice bA x bc):=HD.out.1.bx.get 4 _ bL.out.2
    have q2:wr.cell? ⟨P0,2,none⟩=some (.int .i64 (b:Int)):=HD.out.1.bx.get 2 _ bL.out.1
    clear mE
    have x0:wr.cell? ⟨P1,0,none⟩=some (.int .i64 (a:Int)):=HX.out.get 0 _ rfl
    have x1:wr.cell? ⟨P1,1,none⟩=some (.int .i64 (b:Int)):=HX.out.get 1 _ rfl
    have x2:wr.cell? ⟨P1,2,none⟩=some (.int .i64 (s:Int)):=HX.out.get 2 _ rfl
    have x3:wr.cell? ⟨P1,3,none⟩=some (.int .i64 (t:Int)):=HX.out.get 3 _ rfl
    go_wp2_with fail
    go_end0
    have HD3:=HD.out.1.below HE.out (below_alloc2 wr (.cells #[.int .i64 (b:Int),.int .i64 (b:Int),.int .i64 (t:Int),.int .i64 (s:Int)] 29))
    exact⟨rfl,HD3.sp.congr (fun y c' _=>nN.told Bc.out mO.out y c'),HD3.kc⟩
   case pos=>
    obtain⟨bb,bo,Za,hblt,hg⟩:=mE.bs.2.2 (show 0<bn by omega)
    obtain⟨z,hz⟩:∃z,bs[x]?=some z:=⟨_,List.getElem?_eq_getElem (by have:=Bc.out;omega)⟩
    have ac2:=yt.out z (List.mem_of_getElem? hz)
    obtain⟨zn,rfl⟩:∃zn:Nat,z=(zn:Int):=⟨z.toNat,by omega⟩
    have hzn:zn<16:=by omega
    have HFZ:=hide (show dW a zn s t from⟨HF.out.a,hzn,HF.out.s,HF.out.d⟩)
    have HZ:=hide hz
    have e0:∀o,(wr.alloc o).cell? ⟨bb,bo+x,none⟩=some (.int .i64 (zn:Int)):=fun o=>((below_alloc2 wr o).cell (p:=⟨bb,bo+x,none⟩) hblt).trans (hg x _ hz)
    have q4:wr.cell? ⟨P0,4,none⟩=some (.slice bA bn bc):=HD.out.1.bx.get 4 _ bL.out.2
    have q5:∀o,(wr.alloc o).cell? ⟨P0,4,none⟩=some (.slice bA bn bc):=fun o=>(HD.out.1.below HE.out (below_alloc2 wr o)).bx.get 4 _ bL.out.2
    simp only at Za
    rw[Za]at q4 q5
    clear mE hg hblt hz ac2 hzn Za
    have x0:wr.cell? ⟨P1,0,none⟩=some (.int .i64 (a:Int)):=HX.out.get 0 _ rfl
    have x1:wr.cell? ⟨P1,1,none⟩=some (.int .i64 (b:Int)):=HX.out.get 1 _ rfl
    have x2:wr.cell? ⟨P1,2,none⟩=some (.int .i64 (s:Int)):=HX.out.get 2 _ rfl
    have x3:wr.cell? ⟨P1,3,none⟩=some (.int .i64 (t:Int)):=HX.out.get 3 _ rfl
    have fM:=hide (fun(w':World) (dP:aB→Nat→Prop) (h':SP E dP w')=>show Calls Tryz.prog 32 #[.int .i64 (i:Int),.int .i64 1,.agg #[.int .i64 (a:Int),.int .i64 (zn:Int),.int .i64 (s:Int),.int .i64 (t:Int)],.pointer (some ⟨E.nA,0,none⟩),.pointer (some ⟨E.pS,0,none⟩),.pointer (some ⟨E.kA,0,none⟩),.pointer (some ⟨E.mA,0,none⟩)] w' (fun e w2=>e= .returned (.tuple #[])∧SP E (nM E.n.ls ((i:Int),((1:Nat):Int)) (ay a zn s t) dP) w2∧KC E.C w' w2)from tK E HE.out w' dP h' (i:Int) 1 a zn s t HFZ.out)
    go_wp2_with fail
    clear e0 q4 q5 x0 x1 x2 x3
    have HD3:=hide (show DW E w P0 cs (nN E.n.ls i a s t bs x Dn) (wr.alloc (.cells #[.int .i64 (a:Int),.int .i64 (zn:Int),.int .i64 (s:Int),.int .i64 (t:Int)] 29))∧Bx (wr.alloc (.cells #[.int .i64 (a:Int),.int .i64 (zn:Int),.int .i64 (s:Int),.int .i64 (t:Int)] 29)) P1 #[.int .i64 (a:Int),.int .i64 (b:Int),.int .i64 (s:Int),.int .i64 (t:Int)] 29 from
     ⟨HD.out.1.below HE.out (below_alloc2 wr _),HX.out.below (below_alloc2 wr _)⟩)
    generalize World.alloc wr _=w5 at*
    refine(fM.out _ _ HD3.out.1.sp).mono ?_
    rintro e w6 ⟨rfl,hsp,hkc⟩
    have HD6:=hide (show DW E w P0 cs (nN E.n.ls i a s t bs (x+1) Dn) w6∧Bx w6 P1 #[.int .i64 (a:Int),.int .i64 (b:Int),.int .i64 (s:Int),.int .i64 (t:Int)] 29 from
     ⟨(HD3.out.1.put HE.out hsp hkc).congr (fun y c' _=>by have:=nN.step (ls:=E.n.ls) (i:=i) (a:=a) (s:=s) (t:=t) (Dn:=Dn) HZ.out y c';rw[Int.toNat_natCast]at this;exact this),HD3.out.2.kc hkc (DW.Ab HE.out xS.out.1)⟩)
    clear hsp hkc HD3 HD HX
    go_wp2_with fail
    go_roundw
    case rel=>exact⟨x+1,by omega,by go_num,HD6⟩
    case measure=>simp[intOf];omega
theorem aaA (E:SE) (hE:E.Ok) (w:World) (Dn:aB→Nat→Prop) (h:SP E Dn w) (i:Nat) (nm:ByteArray) (an pl:Nat) (bA:Option Addr) (bn bc:Nat) (bs:List Int) (rA:Option Addr) (rn rc:Nat) (rs:List bg) (tA:Option Addr) (tn tc:Nat) (ts:List aG) (hd:E.n.ds[i]?=some ⟨nm,5,(an:Int),pl,bA,bn,bc,bs,rA,rn,rc,rs,tA,tn,tc,ts⟩) (ha:an<16) (sH:∀x∈bs,0≤x∧x<16) (hb3:bs.length≤3)
  (a b s t:Nat) (hf:dW a b s t) (opn:Bool) (W:Nat→Nat→Bool) (hW:∀c,c<16384→W 0 c=iC E.n.au E.n.ls E.k ((i:Int),0) c) (hD0:E.D ((i:Int),0)):
  Calls Tryz.prog 69 #[.pointer (some ⟨E.s,0,none⟩),.agg #[.string nm,.int .i64 5,.int .i64 (an:Int),.int .u8 pl,.slice bA bn bc,.slice rA rn rc,.slice tA tn tc],.int .i64 (i:Int),.int .i64 1,.int .i64 (E.k:Int),.agg #[.int .i64 (a:Int),.int .i64 (b:Int),.int .i64 (s:Int),.int .i64 (t:Int)],.bool opn,.func (.func 32) #[] #[.pointer (some ⟨E.nA,0,none⟩),.pointer (some ⟨E.pS,0,none⟩),.pointer (some ⟨E.kA,0,none⟩),.pointer (some ⟨E.mA,0,none⟩)]] w fun e w'=>e= .returned (.tuple #[])∧SP E (iU E.n.ls i (ak.dev ⟨nm,5,(an:Int),pl,bA,bn,bc,bs,rA,rn,rc,rs,tA,tn,tc,ts⟩) opn W 1 (ay a b s t) Dn) w'∧KC E.C w w':=by
 have dY:=hide (fun(w':World) (dP:aB→Nat→Prop) (h':SP E dP w') (c:Nat) (hc:c<16384)=>show Calls Tryz.prog 64 #[.pointer (some ⟨E.s,0,none⟩),.int .i64 (i:Int),.int .i64 0,.int .i64 (c:Int),.int .i64 (E.k:Int)] w' (fun e w2=>e= .returned (.bool (W 0 c))∧w'=w2)from by
  rw[hW c hc]
  exact xg E hE w' dP h' (i:Int) 0 hD0 c hc)
 clear hW hD0
 have HE:=hide hE
 have HS:=hide h
 have HF:=hide hf
 have HA:=hide ha
 have yt:=hide sH
 have HB1:=hide (fun(o o':Obj)=>show RowKit.Below w.heap.size w ((w.alloc o).alloc o')from(below_alloc2 w o).trans ((below_alloc2 (w.alloc o) o').mono (below_alloc2 w o).size))
 have gF:=hide (fun(w':World) (dP:aB→Nat→Prop) (h':SP E dP w')=>show bW w' w'.heap.size ⟨nm,5,(an:Int),pl,bA,bn,bc,bs,rA,rn,rc,rs,tA,tn,tc,ts⟩from(h'.net hE).qW _ (List.mem_of_getElem? hd))
 have hbn:bn≤1000:=by
  have h1:=(gF.out w Dn h).bs.1
  simp only at h1
  have:=hb3
  omega
 obtain⟨cs,hcs⟩:∃cs:Array Value,#[.string nm,.int .i64 5,.int .i64 (an:Int),.int .u8 pl,.slice bA bn bc,.slice rA rn rc,.slice tA tn tc]=cs:=⟨_,rfl⟩
 have bL:=hide (show cs[2]?=some (.int .i64 (an:Int))∧cs[4]?=some (.slice bA bn bc)from by rw[← hcs];exact⟨rfl,rfl⟩)
 simp only[hcs]
 clear h hE hf ha sH hd hcs hb3
 have HD0:=hide (show DW E w w.heap.size cs Dn ((w.alloc (.cells cs 81)).alloc (.cells #[.int .i64 (a:Int),.int .i64 (b:Int),.int .i64 (s:Int),.int .i64 (t:Int)] 29))from
  ⟨HS.out.up HE.out (HB1.out _ _),KC.of_below (HB1.out _ _),(Bx.new w cs 81).below (below_alloc2 _ _),HS.out.sz⟩)
 have HX0:=hide (show Bx ((w.alloc (.cells cs 81)).alloc (.cells #[.int .i64 (a:Int),.int .i64 (b:Int),.int .i64 (s:Int),.int .i64 (t:Int)] 29)) (w.heap.size+1) #[.int .i64 (a:Int),.int .i64 (b:Int),.int .i64 (s:Int),.int .i64 (t:Int)] 29 from by
  have:=Bx.new (w.alloc (.cells cs 81)) #[.int .i64 (a:Int),.int .i64 (b:Int),.int .i64 (s:Int),.int .i64 (t:Int)] 29
  simpa using this)
 have xS:=hide (show E.N≤w.heap.size+1∧w.heap.size≤w.heap.size+1∧w.heap.size≠w.heap.size+1 from⟨by have:=HS.out.sz;omega,by omega,by omega⟩)
 go_enter Tryz.func69,Tryz.ntmps69
 have HO:=hide (show∀o c',zh (ak.dev ⟨nm,5,(an:Int),pl,bA,bn,bc,bs,rA,rn,rc,rs,tA,tn,tc,ts⟩) opn W 1 (ay a b s t) o c'↔((o=0∧c'=ay a b s t)∨(opn=true∧bs.contains (a:Int)=true∧W 0 (ay b an t s)=true∧o=0∧c'=ay an b s t))from fun o c'=>by
  unfold zh
  obtain⟨p1,p2,p3,p4⟩:=HF.out.parts
  rw[p1,p2,p3,p4]
  simp only[ak.dev,Int.toNat_natCast,List.contains_iff_mem]
  have e:(∃x∈bs,x.toNat=a)↔(a:Int)∈bs:=⟨fun⟨x,h1,h2⟩=>by have:=yt.out x h1;rw[← h2];rw[Int.toNat_of_nonneg this.1];exact h1,fun h=>⟨_,h,by simp⟩⟩
  rw[e]
  simp)
 have q2:(((w.alloc (.cells cs 81)).alloc (.cells #[.int .i64 (a:Int),.int .i64 (b:Int),.int .i64 (s:Int),.int .i64 (t:Int)] 29))).cell? ⟨w.heap.size,2,none⟩=some (.int .i64 (an:Int)):=HD0.out.bx.get 2 _ bL.out.1
 have fM:=hide (fun(w':World) (dP:aB→Nat→Prop) (h':SP E dP w') (a b s t:Nat) (hf:dW a b s t)=>show Calls Tryz.prog 32 #[.int .i64 (i:Int),.int .i64 0,.agg #[.int .i64 (a:Int),.int .i64 (b:Int),.int .i64 (s:Int),.int .i64 (t:Int)],.pointer (some ⟨E.nA,0,none⟩),.pointer (some ⟨E.pS,0,none⟩),.pointer (some ⟨E.kA,0,none⟩),.pointer (some ⟨E.mA,0,none⟩)] w' (fun e w2=>e= .returned (.tuple #[])∧SP E (nM E.n.ls ((i:Int),((0:Nat):Int)) (ay a b s t) dP) w2∧KC E.C w' w2)from tK E HE.out w' dP h' (i:Int) 0 a b s t hf)
 go_wp2_with fail
 clear q2
 generalize World.alloc (World.alloc w _) _=w1 at*
 obtain⟨P0,Hz⟩:∃P0,w.heap.size=P0:=⟨_,rfl⟩
 obtain⟨P1,hP1⟩:∃P1,w.heap.size+1=P1:=⟨_,rfl⟩
 rw[hP1]at HX0 xS
 have OJ:=xS
 rw[Hz]at HD0 xS
 try simp only[hP1]
 try simp only[Hz]
 clear hP1
 refine(fM.out w1 _ HD0.out.sp a b s t HF.out).mono ?_
 rintro e w2 ⟨rfl,hsp,hkc⟩
 have HD2:=hide (HD0.out.put HE.out hsp hkc)
 have bZ:=hide (HX0.out.kc hkc (DW.Ab HE.out xS.out.1))
 clear hsp hkc HD0 HX0
 have q2:w2.cell? ⟨P0,2,none⟩=some (.int .i64 (an:Int)):=HD2.out.bx.get 2 _ bL.out.1
 have q4:∀o,(w2.alloc o).cell? ⟨P0,4,none⟩=some (.slice bA bn bc):=fun o=>(HD2.out.below HE.out (below_alloc2 w2 o)).bx.get 4 _ bL.out.2
 have x0:w2.cell? ⟨P1,0,none⟩=some (.int .i64 (a:Int)):=bZ.out.get 0 _ rfl
 have x1:w2.cell? ⟨P1,1,none⟩=some (.int .i64 (b:Int)):=bZ.out.get 1 _ rfl
 have x2:w2.cell? ⟨P1,2,none⟩=some (.int .i64 (s:Int)):=bZ.out.get 2 _ rfl
 have x3:w2.cell? ⟨P1,3,none⟩=some (.int .i64 (t:Int)):=bZ.out.get 3 _ rfl
 have y0:∀o,(w2.alloc o).cell? ⟨P1,0,none⟩=some (.int .i64 (a:Int)):=fun o=>(bZ.out.below (below_alloc2 w2 o)).get 0 _ rfl
 have HD3:=hide (HD2.out.below HE.out (below_alloc2 w2 (.cells #[.int .i64 (b:Int),.int .i64 (an:Int),.int .i64 (t:Int),.int .i64 (s:Int)] 29)))
 have gL:=hide (bZ.out.below (below_alloc2 w2 (.cells #[.int .i64 (b:Int),.int .i64 (an:Int),.int .i64 (t:Int),.int .i64 (s:Int)] 29)))
 have HY3:=hide (Bx.new w2 #[.int .i64 (b:Int),.int .i64 (an:Int),.int .i64 (t:Int),.int .i64 (s:Int)] 29)
 cases opn
 case false=>
  go_wp2_with fail
  go_end0
  refine⟨rfl,HD3.out.sp.congr (fun x c' _=>iU.one (fun o c'=>?_) x c'),HD3.out.kc⟩
  rw[HO.out o c']
  constructor
  ·rintro(h | h)
   ·exact h
   ·exact absurd h.1 (by simp)
  ·exact fun h=>.inl h
 case true=>
  go_wp2_with fail
  clear q2 q4 x0 x1 x2 x3 y0 HD2 bZ
  generalize World.alloc w2 _=w3 at*
  generalize w2.heap.size=Q at*
  have mE:=gF.out w3 _ HD3.out.sp
  refine(iH bs bA bn bc (a:Int) w3 (by omega) mE.bs).mono ?_
  clear mE
  obtain⟨CB,jo⟩:∃CB,bs.contains (a:Int)=CB:=⟨_,rfl⟩
  rw[jo]
  simp only[jo]at HO
  clear jo
  rintro e w4 ⟨rfl,hb⟩
  have HD4:=hide (HD3.out.below HE.out hb)
  have mQ:=hide (gL.out.below hb)
  have Ri:=hide (HY3.out.below hb)
  clear hb HD3 gL HY3
  cases CB
  case false=>
   go_wp2_with fail
   go_end0
   refine⟨rfl,HD4.out.sp.congr (fun x c' _=>iU.one (fun o c'=>?_) x c'),HD4.out.kc⟩
   rw[HO.out o c']
   constructor
   ·rintro(h | h)
    ·exact h
    ·exact absurd h.2.1 (by simp)
   ·exact fun h=>.inl h
  case true=>
   have x0:w4.cell? ⟨Q,0,none⟩=some (.int .i64 (b:Int)):=Ri.out.get 0 _ rfl
   have x1:w4.cell? ⟨Q,1,none⟩=some (.int .i64 (an:Int)):=Ri.out.get 1 _ rfl
   have x2:w4.cell? ⟨Q,2,none⟩=some (.int .i64 (t:Int)):=Ri.out.get 2 _ rfl
   have x3:w4.cell? ⟨Q,3,none⟩=some (.int .i64 (s:Int)):=Ri.out.get 3 _ rfl
   go_wp2_with fail
   clear x0 x1 x2 x3
   refine(tH b an t s HF.out.b HA.out HF.out.d HF.out.s w4).mono ?_
   rintro e w5 ⟨rfl,hb⟩
   have HD5:=hide (HD4.out.below HE.out hb)
   have bS:=hide (mQ.out.below hb)
   clear hb HD4 mQ Ri
   have Wn:=hide (dY.out w5 _ HD5.out.sp (ay b an t s) (dW.lt ⟨HF.out.b,HA.out,HF.out.d,HF.out.s⟩))
   obtain⟨B2,hB⟩:∃B2,W 0 (ay b an t s)=B2:=⟨_,rfl⟩
   simp only[hB]at Wn HO
   clear hB
   unfold ay at Wn
   go_wp2_with fail
   refine Wn.out.mono ?_
   clear Wn
   rintro e w6 ⟨rfl,rfl⟩
   cases B2
   case false=>
    go_wp2_with fail
    go_end0
    refine⟨rfl,HD5.out.sp.congr (fun x c' _=>iU.one (fun o c'=>?_) x c'),HD5.out.kc⟩
    rw[HO.out o c']
    constructor
    ·rintro(h | h)
     ·exact h
     ·exact absurd h.2.2.1 (by simp)
    ·exact fun h=>.inl h
   case true=>
    have q2:w5.cell? ⟨P0,2,none⟩=some (.int .i64 (an:Int)):=HD5.out.bx.get 2 _ bL.out.1
    have gq:=hide (bS.out.set 0 (.int .i64 (an:Int)))
    have HD6:=hide (HD5.out.set HE.out ⟨P1,0,none⟩ (.int .i64 (an:Int)) OJ.out.1 OJ.out.2.1 xS.out.2.2)
    have f0:w5.frozen? ⟨P1,0,none⟩=false:=bS.out.frozen 0
    have x0:w5.cell? ⟨P1,0,none⟩=some (.int .i64 (a:Int)):=bS.out.get 0 _ rfl
    have x1:w5.cell? ⟨P1,1,none⟩=some (.int .i64 (b:Int)):=bS.out.get 1 _ rfl
    have x2:w5.cell? ⟨P1,2,none⟩=some (.int .i64 (s:Int)):=bS.out.get 2 _ rfl
    have x3:w5.cell? ⟨P1,3,none⟩=some (.int .i64 (t:Int)):=bS.out.get 3 _ rfl
    go_wp2_with fail
    clear q2 x0 x1 x2 x3 f0
    first | generalize World.setCell w5 _ _=w6 at* | skip
    refine(fM.out _ _ HD6.out.sp an b s t ⟨HA.out,HF.out.b,HF.out.s,HF.out.d⟩).mono ?_
    rintro e w7 ⟨rfl,hsp,hkc⟩
    have HD7:=hide (HD6.out.put HE.out hsp hkc)
    clear hsp hkc
    go_wp2_with fail
    go_end0
    refine⟨rfl,HD7.out.sp.congr (fun x c' _=>iU.two (fun o c'=>?_) x c'),HD7.out.kc⟩
    rw[HO.out o c']
    constructor
    ·rintro(h | ⟨_,_,_,h⟩)
     ·exact⟨h.1,.inl h.2⟩
     ·exact⟨h.1,.inr h.2⟩
    ·rintro⟨h,h1 | h1⟩
     ·exact .inl ⟨h,h1⟩
     ·exact .inr (by simp[h,h1])
end Go.Proofs.YtifkacnoiocebaaGreat
