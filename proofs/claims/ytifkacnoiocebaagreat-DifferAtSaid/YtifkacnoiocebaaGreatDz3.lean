/- A part of the proof: G3. -/
import Derived.Test.YtifkacnoiocebaaGreatDz1
import Derived.Test.YtifkacnoiocebaaGreatDz2
set_option linter.unusedVariables false
set_option linter.unusedSimpArgs false
set_option maxRecDepth 100000
set_option maxHeartbeats 8000000
namespace Go.Proofs.YtifkacnoiocebaaGreat
open aj Go.Maps Go.RowKit
def BP (w:World) (B g nb kb ib:Nat) (A:St) (F:aj.Fn) (P:aj.Fn→Prop) (e:Ending) (W':World):Prop:=
 ∃(bR cap2:Nat) (A2:St) (K2 T2:bC→Option Value),Ext A A2∧A2.full=false∧(∀j,A.len≤j→j<A2.len→P (den A2.ns j))∧aI W' B g bR kb ib cap2 A2 K2 T2∧(bR=nb∨w.heap.size≤bR)∧eO (Fp g nb kb ib) w W'∧
  ((∃r:Nat,e= .returned (.tuple #[.int .i64 (r:Int),.int .i64 0])∧r<A2.ns.length∧den A2.ns r=F)∨(e= .returned (.tuple #[.int .i64 0,.int .i64 6])∧A2.len=A2.most))
theorem Jj.bp {w:World} {B g nb kb ib:Nat} {A:St} {F:aj.Fn} {k:Nat} {e:Ending} {W':World} (h:Jj w B g nb kb ib A F k e W') (hA:A.full=false) {P:aj.Fn→Prop} (hP:∀G,lD F G→P G):BP w B g nb kb ib A F P e W':=by
 obtain⟨r,bR,cap2,A2,K2,T2,hr,h1,h2,ha,hn,hf⟩:=h
 refine⟨bR,cap2,oI A2,K2,T2,⟨hr.ext.vars,hr.ext.most,hr.ext.ns,fun h=>(by rw[hA]at h;cases h),ha.inv⟩,rfl,fun j h3 h4=>hP _ (hr.new j h3 h4),ha,hn,hf,?_⟩
 cases hfull:A2.full
 ·exact .inl ⟨r,h2 hfull,hr.lt,hr.eq hfull⟩
 ·exact .inr ⟨h1 hfull,hr.ext.inv.full hfull⟩
def fB (set:Nat):Nat→Nat→Nat→aj.Fn
 |0,_,n=>fun _=>set.testBit n
 |d+1,v,n=>bE (fun x=>x v) (fB set d (v+1) (n*2+1)) (fB set d (v+1) (n*2))
theorem Fw (set:Nat):∀(d v n:Nat) (x y:iq),(∀u,v≤u→x u=y u)→fB set d v n x=fB set d v n y:=by
 intro d
 induction d with
 |zero=>intro v n x y _;rfl
 |succ d ih=>
  intro v n x y h
  simp only[fB,bE,h v (Nat.le_refl _),ih (v+1) _ x y (fun u hu=>h u (by omega))]
theorem TL (set d v n:Nat) (b:Bool):(fun x=>fB set (d+1) v n (upd x v b))=fB set d (v+1) (if b then n*2+1 else n*2):=by
 funext x
 have e:∀m,fB set d (v+1) m (upd x v b)=fB set d (v+1) m x:=fun m=>Fw set d (v+1) m _ _ (fun u hu=>by
  have:u≠v:=by omega
  simp[upd,this])
 simp only[fB,bE,e]
 cases b<;>simp[upd]
theorem Kt (set d v n:Nat) (b:Bool):lD (fB set (d+1) v n) (fB set d (v+1) (if b then n*2+1 else n*2)):=by
 rw[← TL set d v n b]
 exact lD.upd (fun x y h=>Fw set (d+1) v n x y h) b
theorem Xu (set n:Nat) (hs:set<65536):wrap64 (Go.bits BinOp.and IntKind.u16 ((set:Int) / 2 ^ n) 1)=((if set.testBit n then 1 else 0:Nat):Int):=by
 rw[wF]
 have h:=u16_and (set / 2 ^ n) 1 (Nat.lt_of_le_of_lt (Nat.div_le_self _ _) hs) (by omega)
 have e1:((1:Nat):Int)=1:=rfl
 rw[e1]at h
 rw[h]
 have:=xY set n
 rw[Nat.and_one_is_mod]at this ⊢
 rcases Nat.mod_two_eq_zero_or_one (set / 2 ^ n)with h0 | h0
 ·rw[h0]at this ⊢
  rw[← this];decide+kernel
 ·rw[h0]at this ⊢
  rw[← this];decide+kernel
theorem OE (set bits first:Nat) (hs:set<65536) (NN:bits≤4) (aeu:first≤14) (P:aj.Fn→Prop) (hV:∀u G,lD (fun x:iq=>x u) G→P G) (d:Nat):
  ∀(w:World) (B g nb kb ib cap:Nat) (A:St) (K T:bC→Option Value) (h:aI w B g nb kb ib cap A K T) (i n:Nat) (hA:A.full=false) (hi:i+d=bits) (hv:first+bits≤A.vars) (hn:(n+1)*2 ^ d≤16) (hP:∀G,lD (fB set d (first+i) n) G→P G),
  Calls Tryz.prog 120 #[.agg #[.int .u16 set,.int .i64 bits,.int .i64 first],.pointer (some ⟨g,0,none⟩),.int .i64 i,.int .i64 n] w (BP w B g nb kb ib A (fB set d (first+i) n) P):=by
 induction d with
 |zero=>
  intro w B g nb kb ib cap A K T h i n hA hi hv hn hP
  have hb0:RowKit.Below w.heap.size w (w.alloc (.cells #[.int .u16 set,.int .i64 bits,.int .i64 first] 178)):=(RowKit.Below.refl _ _).alloc (Nat.le_refl _) _
  have HF:Hid (BP w B g nb kb ib A (fB set 0 (first+i) n) P (.returned (.tuple #[.int .i64 (wrap64 (Go.bits BinOp.and IntKind.u16 ((set:Int) / 2 ^ n) 1)),.int .i64 0])) (w.alloc (.cells #[.int .u16 set,.int .i64 bits,.int .i64 first] 178))):=hide
   ⟨nb,cap,A,K,T,Ext.refl h.inv,hA,fun j h1 h2=>by omega,h.below hb0,.inl rfl,eO.of_below hb0,.inl ⟨if set.testBit n then 1 else 0,by rw[Xu set n hs],(by have:=h.inv.ok.two;split<;>omega),(by
    funext x
    simp only[fB]
    cases set.testBit n
    ·simp[jB]
    ·simp[nV])⟩⟩
  have hn':n<16:=by omega
  have hib:i=bits:=by omega
  subst hib
  clear h hb0 hP
  go_enter Tryz.func120,Tryz.ntmps120
  go_wp2
  go_ret2
  exact HF.out
 |succ d ih=>
  intro w B g nb kb ib cap A K T h i n hA hi hv hn hP
  have IH:=hide ih
  clear ih
  have hb0:RowKit.Below w.heap.size w (w.alloc (.cells #[.int .u16 set,.int .i64 bits,.int .i64 first] 178)):=(RowKit.Below.refl _ _).alloc (Nat.le_refl _) _
  have gH:Hid (mD w B g nb kb ib #[.int .u16 set,.int .i64 bits,.int .i64 first] 178 (w.alloc (.cells #[.int .u16 set,.int .i64 bits,.int .i64 first] 178)) nb cap A K T):=hide
   ⟨h.below hb0,eO.of_below hb0,heap_alloc_new w _,.inl rfl⟩
  have H:=hide h
  have Y7:1≤2 ^ d:=Nat.one_le_two_pow
  rw[Nat.pow_succ]at hn
  have hlo:(n*2+1)*2 ^ d≤16:=by
   have:(n*2+1)*2 ^ d≤(n+1)*(2 ^ d*2):=by
    rw[Nat.mul_comm (2 ^ d) 2,← Nat.mul_assoc];exact Nat.mul_le_mul_right _ (by omega)
   omega
  have hhi:(n*2+1+1)*2 ^ d≤16:=by
   have:(n*2+1+1)*2 ^ d=(n+1)*(2 ^ d*2):=by
    rw[Nat.mul_comm (2 ^ d) 2,← Nat.mul_assoc];congr 1;omega
   omega
  have hn16:n<16:=by
   have:(n*2+1)*1≤(n*2+1)*2 ^ d:=Nat.mul_le_mul_left _ Y7
   omega
  have hib:i<bits:=by omega
  have hne:((i:Int)==(bits:Int))=false:=by simp;omega
  have Wi:=hide (fun G hG=>hP G ((Kt set d (first+i) n false).trans hG))
  have qc:=hide (fun G hG=>hP G ((Kt set d (first+i) n true).trans hG))
  have dD:=hide hP
  have Hy:=hide (And.intro hA (And.intro hlo (And.intro hhi (And.intro (show i+1+d=bits by omega) hv))))
  have hc1:((i+1:Nat):Int)=(i:Int)+1:=by omega
  have hc2:((n*2:Nat):Int)=(n:Int)*2:=by omega
  have hc3:((n*2+1:Nat):Int)=(n:Int)*2+1:=by omega
  have hc4:((first+i:Nat):Int)=(first:Int)+(i:Int):=by omega
  have IH0:=hide (fun w1 aU aQ A1 K1 T1 (h1:aI w1 B g aU kb ib aQ A1 K1 T1) (hA1:A1.full=false) (hv1:first+bits≤A1.vars)=>hc1▸hc2▸IH.out w1 B g aU kb ib aQ A1 K1 T1 h1 (i+1) (n*2) hA1 Hy.out.2.2.2.1 hv1 Hy.out.2.1 Wi.out)
  have IH1:=hide (fun w1 aU aQ A1 K1 T1 (h1:aI w1 B g aU kb ib aQ A1 K1 T1) (hA1:A1.full=false) (hv1:first+bits≤A1.vars)=>hc1▸hc3▸IH.out w1 B g aU kb ib aQ A1 K1 T1 h1 (i+1) (n*2+1) hA1 Hy.out.2.2.2.1 hv1 Hy.out.2.2.1 qc.out)
  have Wj:=hide hc4
  clear h hb0 hP hn hlo hhi Y7 IH hA hv hi hc1 hc2 hc3 hc4
  go_enter Tryz.func120,Tryz.ntmps120
  go_wp2_with fail
  refine(IH0.out _ _ _ _ _ _ gH.out.ar Hy.out.1 Hy.out.2.2.2.2).mono ?_
  rintro e wa ⟨aU,aQ,A1,K1,T1,hx1,hf1,hp1,ha1,hn1,hm1,hres⟩
  have eY:=hide (gH.out.step H.out ha1 hn1 hm1)
  have eF:=hide (And.intro hx1 (And.intro hf1 hp1))
  have x0:wa.cell? ⟨w.heap.size,0,none⟩=some (.int .u16 set):=by rw[cell_of_row _ _ _ _ _ _ eY.out.bx];rfl
  have x1:wa.cell? ⟨w.heap.size,1,none⟩=some (.int .i64 bits):=by rw[cell_of_row _ _ _ _ _ _ eY.out.bx];rfl
  have x2:wa.cell? ⟨w.heap.size,2,none⟩=some (.int .i64 first):=by rw[cell_of_row _ _ _ _ _ _ eY.out.bx];rfl
  clear hx1 hf1 hp1 ha1 hn1 hm1 gH
  rcases hres with⟨lo,rfl,hr1,hd1⟩ | ⟨rfl,hfull⟩
  case inr=>
   have HF:Hid (BP w B g nb kb ib A (fB set (d+1) (first+i) n) P (.returned (.tuple #[.int .i64 0,.int .i64 6])) wa):=hide
    ⟨aU,aQ,A1,K1,T1,eF.out.1,eF.out.2.1,eF.out.2.2,eY.out.ar,eY.out.jr.imp id (fun h=>by omega),eY.out.fm,.inr ⟨rfl,hfull⟩⟩
   clear hfull x0 x1 x2
   go_wp2
   go_ret2
   exact HF.out
  have HR1:=hide (And.intro hr1 hd1)
  clear hr1 hd1
  go_wp2_with fail
  refine(IH1.out _ _ _ _ _ _ eY.out.ar eF.out.2.1 (by rw[eF.out.1.vars];exact Hy.out.2.2.2.2)).mono ?_
  rintro e wb ⟨bR,cap2,A2,K2,T2,hx2,hf2,hp2,ha2,hn2,hm2,hres⟩
  have HS2:=hide (eY.out.step H.out ha2 hn2 hm2)
  have bZ:=hide (show Ext A A2∧A2.full=false∧(∀j,A.len≤j→j<A2.len→P (den A2.ns j))∧lo<A2.ns.length∧den A2.ns lo=fB set d (first+(i+1)) (n*2)from
   ⟨eF.out.1.trans hx2,hf2,fun j h1 h2=>(by
    rcases Nat.lt_or_ge j A1.len with hl | hl
    ·rw[hx2.den eF.out.1.inv hl];exact eF.out.2.2 j h1 hl
    ·exact hp2 j hl h2),Nat.lt_of_lt_of_le HR1.out.1 hx2.len,(hx2.den eF.out.1.inv HR1.out.1).trans HR1.out.2⟩)
  clear x0 x1 x2
  have x0:wb.cell? ⟨w.heap.size,0,none⟩=some (.int .u16 set):=by rw[cell_of_row _ _ _ _ _ _ HS2.out.bx];rfl
  have x1:wb.cell? ⟨w.heap.size,1,none⟩=some (.int .i64 bits):=by rw[cell_of_row _ _ _ _ _ _ HS2.out.bx];rfl
  have x2:wb.cell? ⟨w.heap.size,2,none⟩=some (.int .i64 first):=by rw[cell_of_row _ _ _ _ _ _ HS2.out.bx];rfl
  clear hx2 hf2 hp2 ha2 hn2 hm2 eY eF HR1
  rcases hres with⟨hi,rfl,hr2,hd2⟩ | ⟨rfl,hfull⟩
  case inr=>
   have HF:Hid (BP w B g nb kb ib A (fB set (d+1) (first+i) n) P (.returned (.tuple #[.int .i64 0,.int .i64 6])) wb):=hide
    ⟨bR,cap2,A2,K2,T2,bZ.out.1,bZ.out.2.1,bZ.out.2.2.1,HS2.out.ar,HS2.out.jr.imp id (fun h=>by omega),HS2.out.fm,.inr ⟨rfl,hfull⟩⟩
   clear hfull x0 x1 x2
   go_wp2
   go_ret2
   exact HF.out
  have HR2:=hide (And.intro hr2 hd2)
  clear hr2 hd2
  go_wp2_with fail
  have hvar:=(Ei HS2.out.ar (first+i) (by rw[bZ.out.1.vars];have:=Hy.out.2.2.2.2;omega))
  rw[Wj.out]at hvar
  refine hvar.mono ?_
  clear hvar x0 x1 x2
  rintro e wc hop
  obtain⟨xJ,vF,A3,K3,T3,hx3,hf3,hp3,Q8,Q9,yQ,hres⟩:=hop.bp bZ.out.2.1 (hV _)
  have jK:=hide (HS2.out.step H.out Q8 Q9 yQ)
  have gL:=hide (show Ext A A3∧A3.full=false∧(∀j,A.len≤j→j<A3.len→P (den A3.ns j))∧(lo<A3.ns.length∧den A3.ns lo=fB set d (first+(i+1)) (n*2))∧hi<A3.ns.length∧den A3.ns hi=fB set d (first+(i+1)) (n*2+1)from
   ⟨bZ.out.1.trans hx3,hf3,fun j h1 h2=>(by
    rcases Nat.lt_or_ge j A2.len with hl | hl
    ·rw[hx3.den bZ.out.1.inv hl];exact bZ.out.2.2.1 j h1 hl
    ·exact hp3 j hl h2),⟨Nat.lt_of_lt_of_le bZ.out.2.2.2.1 hx3.len,(hx3.den bZ.out.1.inv bZ.out.2.2.2.1).trans bZ.out.2.2.2.2⟩,Nat.lt_of_lt_of_le HR2.out.1 hx3.len,(hx3.den bZ.out.1.inv HR2.out.1).trans HR2.out.2⟩)
  clear hx3 hf3 hp3 Q8 Q9 yQ HS2 bZ HR2 hop
  rcases hres with⟨v,rfl,hr3,hd3⟩ | ⟨rfl,hfull⟩
  case inr=>
   have HF:Hid (BP w B g nb kb ib A (fB set (d+1) (first+i) n) P (.returned (.tuple #[.int .i64 0,.int .i64 6])) wc):=hide
    ⟨xJ,vF,A3,K3,T3,gL.out.1,gL.out.2.1,gL.out.2.2.1,jK.out.ar,jK.out.jr.imp id (fun h=>by omega),jK.out.fm,.inr ⟨rfl,hfull⟩⟩
   clear hfull
   go_wp2
   go_ret2
   exact HF.out
  have HR3:=hide (And.intro hr3 hd3)
  clear hr3 hd3
  go_wp2_with fail
  refine(zD jK.out.ar v hi lo HR3.out.1 gL.out.2.2.2.2.1 gL.out.2.2.2.1.1).mono ?_
  rintro e wd hop
  rw[HR3.out.2,gL.out.2.2.2.2.2,gL.out.2.2.2.1.2]at hop
  have hFe:bE (fun x=>x (first+i)) (fB set d (first+(i+1)) (n*2+1)) (fB set d (first+(i+1)) (n*2))=fB set (d+1) (first+i) n:=rfl
  rw[hFe]at hop
  obtain⟨C9,cap4,A4,K4,T4,hx4,Ra,Rb,Rc,Rf,yS,hres⟩:=hop.bp gL.out.2.1 dD.out
  have oK:=hide (jK.out.step H.out Rc Rf yS)
  have mQ:=hide (show Ext A A4∧A4.full=false∧(∀j,A.len≤j→j<A4.len→P (den A4.ns j))from
   ⟨gL.out.1.trans hx4,Ra,fun j h1 h2=>(by
    rcases Nat.lt_or_ge j A3.len with hl | hl
    ·rw[hx4.den gL.out.1.inv hl];exact gL.out.2.2.1 j h1 hl
    ·exact Rb j hl h2)⟩)
  have HF:Hid (BP w B g nb kb ib A (fB set (d+1) (first+i) n) P e wd):=hide
   ⟨C9,cap4,A4,K4,T4,mQ.out.1,mQ.out.2.1,mQ.out.2.2,oK.out.ar,oK.out.jr.imp id (fun h=>by omega),oK.out.fm,hres⟩
  clear hx4 Ra Rb Rc Rf yS hop hFe
  rcases hres with⟨r,rfl,_,_⟩ | ⟨rfl,_⟩
  ·go_wp2
   go_ret2
   exact HF.out
  ·go_wp2
   go_ret2
   exact HF.out
def wE (s d p q:Nat):Array Value:=#[.int .u16 s,.int .i64 4,.int .i64 0,.int .u16 p,.int .i64 3,.int .i64 8,.int .u16 d,.int .i64 4,.int .i64 4,.int .u16 q,.int .i64 3,.int .i64 11]
theorem OG (w:World) (s d p q:Nat) (hs:s<65536) (hd:d<65536) (hp:p<256) (hq:q<256):
  Calls Tryz.prog 119 #[.agg #[.int .u16 s,.int .u16 d,.int .u8 p,.int .u8 q]] w fun e W'=>e= .returned (.slice (some ⟨w.heap.size+1,0,none⟩) 4 4)∧∃o0,W'=(w.alloc o0).alloc (.cells (wE s d p q) 178):=by
 go_enter Tryz.func119,Tryz.ntmps119
 go_wp2
 go_ret
 exact⟨rfl,_,rfl⟩
structure tL where
 set:Nat
 bits:Nat
 first:Nat
def bU (s d p q:Nat):List tL:=[⟨s,4,0⟩,⟨p,3,8⟩,⟨d,4,4⟩,⟨q,3,11⟩]
def tL.fn (x:tL):aj.Fn:=fB x.set x.bits x.first 0
def outs (l:List tL):aj.Fn:=l.foldl (fun F x=>bE F x.fn (fun _=>false)) (fun _=>true)
theorem Rh {l:List tL} {k:Nat} {x:tL} (h:l[k]?=some x):outs (l.take (k+1))=bE (outs (l.take k)) x.fn (fun _=>false):=by
 rw[List.take_add_one,h];simp[outs]
def mR (l:List tL) (G:aj.Fn):Prop:=(∃u,lD (fun x:iq=>x u) G)∨(∃x∈l,lD x.fn G)∨∃k,k<l.length∧lD (outs (l.take (k+1))) G
theorem TM (s d p q k:Nat) (hs:s<65536) (hd:d<65536) (hp:p<256) (hq:q<256) (hk:k<4):∃x:tL,(bU s d p q)[k]?=some x∧x.set<65536∧x.bits≤4∧x.first+x.bits≤14∧
  (wE s d p q)[k*3]?=some (.int .u16 x.set)∧(wE s d p q)[k*3+1]?=some (.int .i64 x.bits)∧(wE s d p q)[k*3+2]?=some (.int .i64 x.first):=by
 match k,hk with
 |0,_=>exact⟨_,rfl,hs,(by show 4≤4;omega),(by show 0+4≤14;omega),rfl,rfl,rfl⟩
 |1,_=>exact⟨_,rfl,(by show p<_;omega),(by show 3≤4;omega),(by show 8+3≤14;omega),rfl,rfl,rfl⟩
 |2,_=>exact⟨_,rfl,hd,(by show 4≤4;omega),(by show 4+4≤14;omega),rfl,rfl,rfl⟩
 |3,_=>exact⟨_,rfl,(by show q<_;omega),(by show 3≤4;omega),(by show 11+3≤14;omega),rfl,rfl,rfl⟩
theorem mD.base {w:World} {B g nb kb ib cap:Nat} {A:St} {K T:bC→Option Value} (h0:aI w B g nb kb ib cap A K T) {box acW:Array Value} {t t2:TypeId} {wa wp wr:World} {aU aQ bR cap2:Nat} {A1 A2:St} {K1 T1 K2 T2:bC→Option Value}
  (h:mD w B g nb kb ib box t wa aU aQ A1 K1 T1) (hb:RowKit.Below wa.heap.size wa wp) (h2:mD wp B g aU kb ib acW t2 wr bR cap2 A2 K2 T2):mD w B g nb kb ib box t wr bR cap2 A2 K2 T2:=
 h.step h0 h2.ar (h2.jr.imp id (fun hh=>by have:=hb.size;omega)) ((eO.of_below hb).trans h2.fm (fun _ _ h=>h))
def AtK (l:List tL) (A:St) (k r:Nat) (A2:St):Prop:=Ext A A2∧A2.full=false∧(∀j,A.len≤j→j<A2.len→mR l (den A2.ns j))∧r<A2.ns.length∧den A2.ns r=outs (l.take k)
theorem zJ {w:World} {B g nb kb ib cap:Nat} {A:St} {K T:bC→Option Value} (h:aI w B g nb kb ib cap A K T) (hA:A.full=false) (hv:14≤A.vars) (s d p q:Nat) (hs:s<65536) (hd:d<65536) (hp:p<256) (hq:q<256):
  Calls Tryz.prog 88 #[.pointer (some ⟨g,0,none⟩),.agg #[.int .u16 s,.int .u16 d,.int .u8 p,.int .u8 q]] w (BP w B g nb kb ib A (outs (bU s d p q)) (mR (bU s d p q))):=by
 have hb0:RowKit.Below w.heap.size w (w.alloc (.cells #[.int .u16 s,.int .u16 d,.int .u8 p,.int .u8 q] 32)):=(RowKit.Below.refl _ _).alloc (Nat.le_refl _) _
 have gH:Hid (mD w B g nb kb ib #[.int .u16 s,.int .u16 d,.int .u8 p,.int .u8 q] 32 (w.alloc (.cells #[.int .u16 s,.int .u16 d,.int .u8 p,.int .u8 q] 32)) nb cap A K T):=hide
  ⟨h.below hb0,eO.of_below hb0,heap_alloc_new w _,.inl rfl⟩
 have H:=hide h
 have HA:=hide hA
 have HV:=hide hv
 clear h hA hv hb0
 go_enter Tryz.func88,Tryz.ntmps88
 go_wp2_with fail
 have hvar:Calls Tryz.prog 118 #[.pointer (some ⟨g,0,none⟩),.int .i64 13] (w.alloc (.cells #[.int .u16 s,.int .u16 d,.int .u8 p,.int .u8 q] 32)) (Jj (w.alloc (.cells #[.int .u16 s,.int .u16 d,.int .u8 p,.int .u8 q] 32)) B g nb kb ib A (fun x=>x 13) 13):=Ei gH.out.ar 13 HV.out
 refine hvar.mono ?_
 clear hvar
 rintro e wa hop
 obtain⟨aU,aQ,A1,K1,T1,hx1,hf1,hp1,ha1,hn1,hm1,hres⟩:=hop.bp HA.out (P:=mR (bU s d p q)) (fun G hG=>.inl ⟨13,hG⟩)
 have eY:=hide (gH.out.step H.out ha1 hn1 hm1)
 have eF:=hide (And.intro hx1 (And.intro hf1 hp1))
 clear hop hx1 hf1 hp1 ha1 hn1 hm1 gH
 rcases hres with⟨lo,rfl,hr1,hd1⟩ | ⟨rfl,hfull⟩
 case inr=>
  have HF:Hid (BP w B g nb kb ib A (outs (bU s d p q)) (mR (bU s d p q)) (.returned (.tuple #[.int .i64 0,.int .i64 6])) wa):=hide
   ⟨aU,aQ,A1,K1,T1,eF.out.1,eF.out.2.1,eF.out.2.2,eY.out.ar,eY.out.jr.imp id (fun h=>by omega),eY.out.fm,.inr ⟨rfl,hfull⟩⟩
  clear hfull
  go_wp2
  go_ret2
  exact HF.out
 clear hr1 hd1
 have x0:wa.cell? ⟨w.heap.size,0,none⟩=some (.int .u16 s):=by rw[cell_of_row _ _ _ _ _ _ eY.out.bx];rfl
 have x1:wa.cell? ⟨w.heap.size,1,none⟩=some (.int .u16 d):=by rw[cell_of_row _ _ _ _ _ _ eY.out.bx];rfl
 have x2:wa.cell? ⟨w.heap.size,2,none⟩=some (.int .u8 p):=by rw[cell_of_row _ _ _ _ _ _ eY.out.bx];rfl
 have x3:wa.cell? ⟨w.heap.size,3,none⟩=some (.int .u8 q):=by rw[cell_of_row _ _ _ _ _ _ eY.out.bx];rfl
 go_wp2_with fail
 refine(OG wa s d p q hs hd hp hq).mono ?_
 rintro e wb ⟨rfl,o0,hwb⟩
 clear x0 x1 x2 x3
 have hbp:RowKit.Below wa.heap.size wa (wa.alloc o0):=(RowKit.Below.refl _ _).alloc (Nat.le_refl _) _
 have H0:=hide (eY.out.ar.below hbp)
 have Wi:Hid (mD (wa.alloc o0) B g aU kb ib (wE s d p q) 178 wb aU aQ A1 K1 T1):=hide (by
  have hb1:RowKit.Below (wa.alloc o0).heap.size (wa.alloc o0) wb:=by rw[hwb];exact(RowKit.Below.refl _ _).alloc (Nat.le_refl _) _
  exact⟨H0.out.below hb1,eO.of_below hb1,by rw[hwb];exact heap_alloc_new _ _,.inl rfl⟩)
 have Y8:=hide hbp
 have hsz:(wa.alloc o0).heap.size =wa.heap.size+1:=by simp
 have jM:=hide hsz
 have C8:=hide (show AtK (bU s d p q) A 0 1 A1 from⟨eF.out.1,eF.out.2.1,eF.out.2.2,(by have:=eF.out.1.inv.ok.two;omega),(by funext x;simp[nV,outs])⟩)
 clear hbp hwb hsz
 go_wp2
 go_loopw [8,24] (fun u i wr=>∃(k r bR cap2:Nat) (A2:St) (K2 T2:bC→Option Value),k≤4∧i= .int .i64 k∧u= .int .i64 r∧Hid (mD (wa.alloc o0) B g aU kb ib (wE s d p q) 178 wr bR cap2 A2 K2 T2)∧Hid (AtK (bU s d p q) A k r A2)) (fun _ i _=>4 - (intOf i).toNat)
 case atStart=>exact⟨0,1,aU,aQ,A1,K1,T1,Nat.zero_le _,rfl,rfl,Wi,C8⟩
 case round=>
  clear Wi C8
  obtain⟨k,r,bR,cap2,A2,K2,T2,hk,rfl,rfl,HP,HK⟩:=hrel
  by_cases hlt:k<4
  ·obtain⟨⟨xs,xb,xf⟩,hx,hxs,hxb,hxf,g0,g1,g2⟩:=TM s d p q k hs hd hp hq hlt
   have x0:wr.cell? ⟨wa.heap.size+1,k*3,none⟩=some (.int .u16 xs):=by rw[← jM.out,cell_of_row _ _ _ _ _ _ HP.out.bx];exact g0
   have x1:wr.cell? ⟨wa.heap.size+1,k*3+1,none⟩=some (.int .i64 xb):=by rw[← jM.out,cell_of_row _ _ _ _ _ _ HP.out.bx];exact g1
   have x2:wr.cell? ⟨wa.heap.size+1,k*3+2,none⟩=some (.int .i64 xf):=by rw[← jM.out,cell_of_row _ _ _ _ _ _ HP.out.bx];exact g2
   have HX:=hide (And.intro hx (And.intro hxs (And.intro hxb hxf)))
   clear hx g0 g1 g2 hxs hxb hxf
   have hB3:RowKit.Below wr.heap.size wr (wr.alloc (.cells #[.int .u16 xs,.int .i64 xb,.int .i64 xf] 178)):=(RowKit.Below.refl _ _).alloc (Nat.le_refl _) _
   have HQ:=hide (HP.out.below H0.out hB3)
   have hvv:14≤A2.vars:=by rw[HK.out.1.vars];exact HV.out
   have hpw:(0+1)*2 ^ xb≤16:=by
    have:=Nat.pow_le_pow_right (n:=2) (by omega) HX.out.2.2.1
    simp only at this
    omega
   have HCB:Hid (Calls Tryz.prog 120 #[.agg #[.int .u16 xs,.int .i64 xb,.int .i64 xf],.pointer (some ⟨g,0,none⟩),.int .i64 0,.int .i64 0] (wr.alloc (.cells #[.int .u16 xs,.int .i64 xb,.int .i64 xf] 178)) (BP (wr.alloc (.cells #[.int .u16 xs,.int .i64 xb,.int .i64 xf] 178)) B g bR kb ib A2 (fB xs xb (xf+0) 0) (mR (bU s d p q)))):=
    hide (OE xs xb xf HX.out.2.1 HX.out.2.2.1 (by have:=HX.out.2.2.2;simp only at this;omega) _ (fun u G hG=>.inl ⟨u,hG⟩) xb _ _ _ _ _ _ _ _ _ _ HQ.out.ar 0 0 HK.out.2.1 (by omega) (by have:=HX.out.2.2.2;simp only at this;omega) hpw
     (fun G hG=>.inr (.inl ⟨_,List.mem_of_getElem? HX.out.1,hG⟩)))
   clear hB3 hvv hpw
   go_wp2_with fail
   refine HCB.out.mono ?_
   clear HCB x0 x1 x2
   rintro e wc ⟨xJ,vF,A3,K3,T3,hx3,hf3,hp3,Q8,Q9,yQ,hres⟩
   have HR:=hide (HQ.out.step H0.out Q8 Q9 yQ)
   have HE:=hide (show AtK (bU s d p q) A k r A3 from⟨HK.out.1.trans hx3,hf3,fun j h1 h2=>(by
    rcases Nat.lt_or_ge j A2.len with hl | hl
    ·rw[hx3.den HK.out.1.inv hl];exact HK.out.2.2.1 j h1 hl
    ·exact hp3 j hl h2),Nat.lt_of_lt_of_le HK.out.2.2.2.1 hx3.len,(hx3.den HK.out.1.inv HK.out.2.2.2.1).trans HK.out.2.2.2.2⟩)
   clear hx3 hf3 hp3 Q8 Q9 yQ HP HK HQ
   rcases hres with⟨f,rfl,hr3,hd3⟩ | ⟨rfl,hfull⟩
   case inr=>
    have oL:=hide (eY.out.base H.out Y8.out HR.out)
    have HF:Hid (BP w B g nb kb ib A (outs (bU s d p q)) (mR (bU s d p q)) (.returned (.tuple #[.int .i64 0,.int .i64 6])) wc):=hide
     ⟨xJ,vF,A3,K3,T3,HE.out.1,HE.out.2.1,HE.out.2.2.1,oL.out.ar,oL.out.jr.imp id (fun h=>by omega),oL.out.fm,.inr ⟨rfl,hfull⟩⟩
    clear hfull
    go_wp2
    go_ret2
    exact HF.out
   have HD:=hide (And.intro hr3 hd3)
   clear hr3 hd3
   go_wp2_with fail
   refine(Eh HR.out.ar r f HE.out.2.2.2.1 HD.out.1).mono ?_
   rintro e wd hop
   have e0:den A3.ns 0=fun _=>false:=by funext x;simp[jB]
   have eo:bE (den A3.ns r) (den A3.ns f) (den A3.ns 0)=outs ((bU s d p q).take (k+1)):=by
    rw[Rh HX.out.1,HE.out.2.2.2.2,e0,HD.out.2];rfl
   rw[eo]at hop
   obtain⟨C9,cap4,A4,K4,T4,hx4,Ra,Rb,Rc,Rf,yS,hres⟩:=hop.bp HE.out.2.1 (P:=mR (bU s d p q)) (fun G hG=>.inr (.inr ⟨k,hlt,hG⟩))
   clear hop eo e0
   have HR4:=hide (HR.out.step H0.out Rc Rf yS)
   have L8:=HE
   have HE:=hide (show Ext A A4∧A4.full=false∧(∀j,A.len≤j→j<A4.len→mR (bU s d p q) (den A4.ns j))∧True from⟨L8.out.1.trans hx4,Ra,fun j h1 h2=>(by
    rcases Nat.lt_or_ge j A3.len with hl | hl
    ·rw[hx4.den L8.out.1.inv hl];exact L8.out.2.2.1 j h1 hl
    ·exact Rb j hl h2),trivial⟩)
   clear hx4 Ra Rb Rc Rf yS L8 HR
   rcases hres with⟨o,rfl,hr4,hd4⟩ | ⟨rfl,hfull⟩
   case inr=>
    have oL:=hide (eY.out.base H.out Y8.out HR4.out)
    have HF:Hid (BP w B g nb kb ib A (outs (bU s d p q)) (mR (bU s d p q)) (.returned (.tuple #[.int .i64 0,.int .i64 6])) wd):=hide
     ⟨C9,cap4,A4,K4,T4,HE.out.1,HE.out.2.1,HE.out.2.2.1,oL.out.ar,oL.out.jr.imp id (fun h=>by omega),oL.out.fm,.inr ⟨rfl,hfull⟩⟩
    clear hfull
    go_wp2
    go_ret2
    exact HF.out
   have HK5:=hide (show AtK (bU s d p q) A (k+1) o A4 from⟨HE.out.1,HE.out.2.1,HE.out.2.2.1,hr4,hd4⟩)
   clear hr4 hd4
   go_wp2
   go_roundw
   case rel=>exact⟨k+1,o,C9,cap4,A4,K4,T4,by omega,by go_num,rfl,HR4,HK5⟩
   case measure=>simp[intOf];omega
  ·have hk4:k=4:=by omega
   subst hk4
   have oL:=hide (eY.out.base H.out Y8.out HP.out)
   have HF:Hid (BP w B g nb kb ib A (outs (bU s d p q)) (mR (bU s d p q)) (.returned (.tuple #[.int .i64 (r:Int),.int .i64 0])) wr):=hide
    ⟨bR,cap2,A2,K2,T2,HK.out.1,HK.out.2.1,HK.out.2.2.1,oL.out.ar,oL.out.jr.imp id (fun h=>by omega),oL.out.fm,.inl ⟨r,rfl,HK.out.2.2.2.1,HK.out.2.2.2.2⟩⟩
   go_wp2
   go_ret2
   exact HF.out
theorem MO {w:World} {B g nb kb ib cap:Nat} {A:St} {K T:bC→Option Value} (h:aI w B g nb kb ib cap A K T) (f v:Nat) (is:Bool) (hf:f<A.ns.length) {r:Nat} (hr:aj.part A.ns f v is=r):
  Calls Tryz.prog 72 #[.pointer (some ⟨g,0,none⟩),.int .i64 f,.int .i64 v,.bool is] w fun e W'=>e= .returned (.int .i64 (r:Int))∧RowKit.Below w.heap.size w W':=hr▸GD h f v is hf
theorem TN (v:Nat) (h:v≤16):wrap64 ((2:Int) ^ v)=2 ^ v:=by
 have:∀i:Fin 17,wrap64 ((2:Int) ^ i.val)=2 ^ i.val:=by decide+kernel
 exact this ⟨v,by omega⟩
theorem QV {w:World} {B g nb kb ib cap:Nat} {A:St} {K T:bC→Option Value} (h:aI w B g nb kb ib cap A K T) (f c:Nat) (hf:f<A.ns.length) (hc:c<2 ^ A.vars):
  Calls Tryz.prog 36 #[.pointer (some ⟨g,0,none⟩),.int .i64 f,.int .i64 c] w fun e W'=>e= .returned (.tuple #[.bool (den A.ns f fun u=>c.testBit (A.vars - 1 - u)),.int .i64 0])∧RowKit.Below w.heap.size w W':=by
 have hlen:=h.uJ
 have hb0:RowKit.Below w.heap.size w (w.alloc (.cells #[.int .i64 f] 3)):=(RowKit.Below.refl _ _).alloc (Nat.le_refl _) _
 have C8:=hide (h.below hb0)
 have HI:=hide (UF w (w.alloc (.cells #[.int .i64 f] 3)).heap.size (by simp) f (by omega) 3 (heap_alloc_new w _))
 have fK:=hide (show rV A [(f:Int)] []from⟨fun x hx=>by
  simp only[List.mem_cons,List.mem_nil_iff,or_false]at hx
  rw[hx];omega,fun x hx=>(by cases hx)⟩)
 have H:=hide h
 go_enter Tryz.func36,Tryz.ntmps36
 go_wp2_with fail
 refine(wL C8.out [(f:Int)] [] _ none 1 0 1 0 (by omega) (by omega) HI.out (cu.nil _ _ _)).mono ?_
 rintro e wa ⟨he,_,hb⟩
 obtain rfl:=he fK.out
 have HB:=hide (hb0.trans (hb.mono hb0.size))
 obtain⟨l1,l2,_,_,_⟩:=h.qR
 have hvs:=h.vs
 have cc:=(HB.out.cell (p:=⟨g,0,none⟩) l1).trans h.c0
 have hcn:decide ((c:Int)<0)=false:=by simp
 have hc16:c<65536:=by
  have:(2:Nat) ^ A.vars≤2 ^ 16:=Nat.pow_le_pow_right (by omega) hvs.2
  omega
 have hw:decide (wrap64 (2 ^ A.vars)≤(c:Int))=false:=by
  rw[TN A.vars hvs.2]
  have:((2 ^ A.vars:Nat):Int)=(2:Int) ^ A.vars:=by simp
  simp only[decide_eq_false_iff_not]
  omega
 have Y9:=hide h.inv.ok
 clear he hb h hb0 hc
 go_wp2
 go_loopw [1] (fun u wr=>∃f1:Nat,f1<A.ns.length∧u= .int .i64 f1∧Hid (den A.ns f1 (fun u=>c.testBit (A.vars - 1 - u))=den A.ns f (fun u=>c.testBit (A.vars - 1 - u)))∧RowKit.Below w.heap.size w wr) (fun u _=>(intOf u).toNat)
 case atStart=>exact⟨f,hf,rfl,hide rfl,HB.out⟩
 case round=>
  clear cc hw hcn
  obtain⟨f1,hf1,rfl,HD,hb⟩:=hrel
  have HB1:=hide hb
  by_cases hgt:(1:Int)<f1
  ·obtain⟨nn,hnn⟩:=eD hf1
   have HN:=hide hnn
   have hnb:=Y9.out.node f1 nn hnn (by omega)
   have hv1:nn.v<A.vars:=hnb.1
   have HA1:=hide ((H.out.below hb).below ((RowKit.Below.refl _ _).alloc (Nat.le_refl _) (.cells #[.int .i64 nn.v,.int .i64 nn.lo,.int .i64 nn.hi] 117)))
   obtain⟨q0,q1,q2⟩:=(H.out.below hb).node hnn
   have c2:=(hb.cell (p:=⟨g,2,none⟩) l1).trans H.out.c2
   have hlt2:g<wr.heap.size:=Nat.lt_of_lt_of_le l1 hb.size
   have hbit:(Go.bits BinOp.and IntKind.i64 ((c:Int) / 2 ^ (A.vars - 1 - nn.v)) 1==1)=c.testBit (A.vars - 1 - nn.v):=WC c _ (by omega)
   obtain⟨r,hr⟩:∃r,aj.part A.ns f1 nn.v (c.testBit (A.vars - 1 - nn.v))=r:=⟨_,rfl⟩
   have HR:=hide (show r<f1∧r<A.ns.length∧den A.ns r (fun u=>c.testBit (A.vars - 1 - u))=den A.ns f1 (fun u=>c.testBit (A.vars - 1 - u))from by
    have e:r=if c.testBit (A.vars - 1 - nn.v)then nn.hi else nn.lo:=by rw[← hr];simp[aj.part,HN.out]
    refine⟨by rw[e];split<;>omega,by rw[e];split<;>omega,?_⟩
    rw[nD Y9.out HN.out (by omega),e]
    cases c.testBit (A.vars - 1 - nn.v)<;>rfl)
   have HRR:=hide hr
   have htn:((A.vars:Int) - 1 - (nn.v:Int)).toNat =A.vars - 1 - nn.v:=by omega
   have hsub:((A.vars - 1 - nn.v:Nat):Int)=(A.vars:Int) - 1 - (nn.v:Int):=by omega
   have cv:=(hb.cell (p:=⟨g,0,none⟩) l1).trans H.out.c0
   have hsz:g≠wr.heap.size:=by omega
   clear hnn hb hnb HB hr
   go_wp2_with fail
   refine bB (by kernel_rfl) (by kernel_rfl) ?_
   intro T hT gw hg hgi
   have HG:=hide hg
   have HI2:=hide hgi
   have k0:∀t,(gw t).cell? ⟨wr.heap.size,0,none⟩=some (.int .i64 nn.v):=fun t=>((HG.out t).cell (p:=⟨wr.heap.size,0,none⟩) (by simp)).trans (by simp)
   have k1:∀t,(gw t).cell? ⟨g,0,none⟩=some (.int .i64 A.vars):=fun t=>((HG.out t).cell (p:=⟨g,0,none⟩) (by simp;omega)).trans HA1.out.c0
   have vQ:=hide (fun t=>HB1.out.trans (((RowKit.Below.refl _ wr).alloc (Nat.le_refl _) (.cells #[.int .i64 nn.v,.int .i64 nn.lo,.int .i64 nn.hi] 117)).trans ((HG.out t).mono (by simp)) |>.mono HB1.out.size))
   clear hg hgi q0 q1 q2 c2 cv
   repeat (go_big_quiet_step ((first | (go_at_call 72;first | rw[hbit] | skip;exact eB HG.out HI2.out (MO (HA1.out.below (HG.out _)) f1 nn.v _ hf1 HRR.out)))))
   refine wpQuiet_nil ?_
   intro _ hw'
   obtain⟨t,rfl⟩:=hw'
   go_wp2
   go_roundw
   case rel=>exact⟨r,HR.out.2.1,rfl,hide (HR.out.2.2.trans HD.out),vQ.out t⟩
   case measure=>simp[intOf];exact HR.out.1
  ·go_wp2
   go_ret2
   refine⟨?_,HB1.out⟩
   have hd:=HD.out
   rw[← hd]
   rcases(by omega:f1=0∨f1=1)with rfl | rfl
   ·rw[jB];rfl
   ·rw[nV];rfl
end Go.Proofs.YtifkacnoiocebaaGreat
namespace Go.Proofs.YtifkacnoiocebaaGreat
open Go.RowKit
def fQ (c:Nat):Value:=.agg #[.int .i64 ((c / 1024:Nat):Int),.int .i64 ((c / 64 % 16:Nat):Int),.int .i64 ((c / 8 % 8:Nat):Int),.int .i64 ((c % 8:Nat):Int)]
theorem iF (w:World) (c:Nat) (hc:c<16384):
  Calls Tryz.prog 41 #[.int .i64 c] w fun e W'=>e= .returned (fQ c)∧Below w.heap.size w W':=by
 go_enter Tryz.func41,Tryz.ntmps41
 go_wp2
 refine bodyPost_ret (results_cell_row rfl _ _ w.heap.size 29 _ (0,0) _ rfl (heap_alloc_new w _) Tryz.underlying29 rfl (by kernel_rfl)) rfl ?_
 have e1:((c / 1024:Nat):Int)=(c:Int) / 1024:=by omega
 have e2:((c / 64 % 16:Nat):Int)=(c:Int) / 64 % 16:=by omega
 have e3:((c / 8 % 8:Nat):Int)=(c:Int) / 8 % 8:=by omega
 have e4:((c % 8:Nat):Int)=(c:Int) % 8:=by omega
 exact⟨by rw[fQ,e1,e2,e3,e4],(Below.refl _ _).alloc (Nat.le_refl _) _⟩
theorem Xv (set n:Nat):(((set:Int) / 2 ^ n).tmod 2==1)=set.testBit n:=by
 rw[wF]
 have h:=xY set n
 rw[Nat.and_one_is_mod]at h
 rw[← h]
 have e:((set / 2 ^ n:Nat):Int).tmod 2=((set / 2 ^ n % 2:Nat):Int):=by
  generalize set / 2 ^ n=m
  rw[Int.tmod_eq_emod_of_nonneg (by omega)];omega
 rw[e]
 rcases Nat.mod_two_eq_zero_or_one (set / 2 ^ n)with h0 | h0<;>rw[h0]<;>rfl
theorem TP (w:World) (set n:Nat) (hs:set<65536) (hn:n<16) (B:Bool) (hB:set.testBit n=B):
  Calls Tryz.prog 68 #[.int .i64 set,.int .i64 n] w fun e W'=>e= .returned (.bool B)∧w=W':=by
 have h1:aZ n 0 15=true:=by simp[aZ];omega
 have hb:=hide ((Xv set n).trans hB)
 clear hB
 go_enter Tryz.func68,Tryz.ntmps68
 go_wp2_with fail
 refine(aX _ _ _ _).mono ?_
 rintro e w' ⟨rfl,rfl⟩
 rw[h1]
 go_wp2
 go_ret
 refine⟨?_,rfl⟩
 rw[← hb.out];rfl
def yJ (s d p q a b x y:Nat):Bool:=s.testBit a && d.testBit b && p.testBit x && q.testBit y
open aj
def aH (c:Nat):iq:=fun u=>c.testBit (13 - u)
theorem tb (c i:Nat):c.testBit i=decide (c / 2 ^ i % 2=1):=Nat.testBit_eq_decide_div_mod_eq
theorem acX (s c:Nat) (hc:c<16384):fB s 4 0 0 (aH c)=s.testBit (c / 1024):=by
 have key:c / 1024=8*(c / 8192 % 2)+4*(c / 4096 % 2)+2*(c / 2048 % 2)+c / 1024 % 2:=by omega
 rw[key]
 simp only[fB,bE,aH,tb]
 rcases Nat.mod_two_eq_zero_or_one (c / 8192)with h1 | h1<;>rcases Nat.mod_two_eq_zero_or_one (c / 4096)with h2 | h2<;>rcases Nat.mod_two_eq_zero_or_one (c / 2048)with h3 | h3<;>rcases Nat.mod_two_eq_zero_or_one (c / 1024)with h4 | h4<;>simp[h1,h2,h3,h4]
theorem acY (s c:Nat) (hc:c<16384):fB s 4 4 0 (aH c)=s.testBit (c / 64 % 16):=by
 have key:c / 64 % 16=8*(c / 512 % 2)+4*(c / 256 % 2)+2*(c / 128 % 2)+c / 64 % 2:=by omega
 rw[key]
 simp only[fB,bE,aH,tb]
 rcases Nat.mod_two_eq_zero_or_one (c / 512)with h1 | h1<;>rcases Nat.mod_two_eq_zero_or_one (c / 256)with h2 | h2<;>rcases Nat.mod_two_eq_zero_or_one (c / 128)with h3 | h3<;>rcases Nat.mod_two_eq_zero_or_one (c / 64)with h4 | h4<;>simp[h1,h2,h3,h4]
theorem acZ (s c:Nat) (hc:c<16384):fB s 3 8 0 (aH c)=s.testBit (c / 8 % 8):=by
 have key:c / 8 % 8=4*(c / 32 % 2)+2*(c / 16 % 2)+c / 8 % 2:=by omega
 rw[key]
 simp only[fB,bE,aH,tb]
 rcases Nat.mod_two_eq_zero_or_one (c / 32)with h2 | h2<;>rcases Nat.mod_two_eq_zero_or_one (c / 16)with h3 | h3<;>rcases Nat.mod_two_eq_zero_or_one (c / 8)with h4 | h4<;>simp[h2,h3,h4]
theorem ac0 (s c:Nat) (hc:c<16384):fB s 3 11 0 (aH c)=s.testBit (c % 8):=by
 have key:c % 8=4*(c / 4 % 2)+2*(c / 2 % 2)+c / 1 % 2:=by omega
 rw[key]
 simp only[fB,bE,aH,tb]
 rcases Nat.mod_two_eq_zero_or_one (c / 4)with h2 | h2<;>rcases Nat.mod_two_eq_zero_or_one (c / 2)with h3 | h3<;>rcases Nat.mod_two_eq_zero_or_one (c / 1)with h4 | h4<;>simp_all
theorem DI (s d p q c:Nat) (hc:c<16384):outs (bU s d p q) (aH c)=yJ s d p q (c / 1024) (c / 64 % 16) (c / 8 % 8) (c % 8):=by
 have e1:=acX s c hc
 have e2:=acY d c hc
 have e3:=acZ p c hc
 have e4:=ac0 q c hc
 simp only[outs,bU,List.foldl_cons,List.foldl_nil,bE,tL.fn,e1,e2,e3,e4,yJ]
 cases s.testBit (c / 1024)<;>cases d.testBit (c / 64 % 16)<;>cases p.testBit (c / 8 % 8)<;>cases q.testBit (c % 8)<;>rfl
theorem vY (set:Nat):∀(d v n:Nat),aj.Below (v+d) (fB set d v n):=by
 intro d
 induction d with
 |zero=>intro v n x y _;rfl
 |succ d ih=>
  intro v n x y h
  simp only[fB,bE,h v (by omega),ih (v+1) _ x y (fun u hu=>h u (by omega))]
theorem lY {K:Nat} {F G H:aj.Fn} (hF:aj.Below K F) (hG:aj.Below K G) (hH:aj.Below K H):aj.Below K (bE F G H):=fun x y h=>by
 simp only[bE,hF x y h,hG x y h,hH x y h]
theorem Oo (s d p q:Nat):aj.Below 4 (outs ((bU s d p q).take 1))∧aj.Below 11 (outs ((bU s d p q).take 2))∧aj.Below 11 (outs ((bU s d p q).take 3))∧aj.Below 14 (outs ((bU s d p q).take 4)):=by
 have c0:∀K b,aj.Below K (fun _=>b):=fun K b=>aj.Below.const b K
 have h1:aj.Below 4 (outs ((bU s d p q).take 1)):=lY (F:=fun _=>true) (G:=fB s 4 0 0) (H:=fun _=>false) (c0 _ _) (vY s 4 0 0) (c0 _ _)
 have h2:aj.Below 11 (outs ((bU s d p q).take 2)):=lY (F:=outs ((bU s d p q).take 1)) (G:=fB p 3 8 0) (H:=fun _=>false) (h1.mono (by omega)) (vY p 3 8 0) (c0 _ _)
 have h3:aj.Below 11 (outs ((bU s d p q).take 3)):=lY (F:=outs ((bU s d p q).take 2)) (G:=fB d 4 4 0) (H:=fun _=>false) h2 ((vY d 4 4 0).mono (by omega)) (c0 _ _)
 have h4:aj.Below 14 (outs ((bU s d p q).take 4)):=lY (F:=outs ((bU s d p q).take 3)) (G:=fB q 3 11 0) (H:=fun _=>false) (h3.mono (by omega)) (vY q 3 11 0) (c0 _ _)
 exact⟨h1,h2,h3,h4⟩
open Go.Maps
theorem aI.DN {w w':World} {B g nb kb ib cap:Nat} {A:St} {K T:bC→Option Value} (h:aI w B g nb kb ib cap A K T) (hf:eO (Fp g nb kb ib) w w'):RowKit.Below B w w':=by
 obtain⟨l1,l2,l3,l4,l5⟩:=h.qR
 obtain⟨m1,m2,m3⟩:=h.lo
 exact hf.below (by omega) (fun i hi=>by rcases hi with e | e | e | e<;>omega)
theorem BP.mono {w:World} {B g nb kb ib:Nat} {A:St} {F:aj.Fn} {P Q:aj.Fn→Prop} {e:Ending} {W':World} (h:BP w B g nb kb ib A F P e W') (hPQ:∀G,P G→Q G):BP w B g nb kb ib A F Q e W':=by
 obtain⟨bR,cap2,A2,K2,T2,h1,h2,h3,h4,h5,h6,h7⟩:=h
 exact⟨bR,cap2,A2,K2,T2,h1,h2,fun j a b=>hPQ _ (h3 j a b),h4,h5,h6,h7⟩
structure BS (w:World) (B g nb kb ib:Nat) (A:St) (P:aj.Fn→Prop) (w1:World) (aU aQ:Nat) (A1:St) (K1 T1:bC→Option Value):Prop where
 ext:Ext A A1
 nf:A1.full=false
 nw:∀j,A.len≤j→j<A1.len→P (den A1.ns j)
 ar:aI w1 B g aU kb ib aQ A1 K1 T1
 jr:aU=nb∨w.heap.size≤aU
 fm:eO (Fp g nb kb ib) w w1
def dF (A:St) (r:Nat) (F:aj.Fn):Prop:=r<A.ns.length∧den A.ns r=F
theorem dF.ext {A A':St} {r:Nat} {F:aj.Fn} (h:dF A r F) (i:Inv A) (he:Ext A A'):dF A' r F:=⟨Nat.lt_of_lt_of_le h.1 he.len,(he.den i h.1).trans h.2⟩
theorem dF.zero {A:St} (i:Inv A):dF A 0 (fun _=>false):=⟨by have:=i.ok.two;omega,jB⟩
theorem dF.one {A:St} (i:Inv A):dF A 1 (fun _=>true):=⟨by have:=i.ok.two;omega,nV⟩
theorem BS.refl {w:World} {B g nb kb ib cap:Nat} {A:St} {K T:bC→Option Value} (h:aI w B g nb kb ib cap A K T) (hA:A.full=false) (P:aj.Fn→Prop):BS w B g nb kb ib A P w nb cap A K T:=
 ⟨Ext.refl h.inv,hA,fun j h1 h2=>by omega,h,.inl rfl,eO.refl _ _⟩
theorem BS.inv {w:World} {B g nb kb ib:Nat} {A:St} {P:aj.Fn→Prop} {w1:World} {aU aQ:Nat} {A1:St} {K1 T1:bC→Option Value} (h:BS w B g nb kb ib A P w1 aU aQ A1 K1 T1):Inv A1:=h.ar.inv
def SS (A2:St) (F:aj.Fn) (e:Ending):Prop:=(∃r:Nat,e= .returned (.tuple #[.int .i64 (r:Int),.int .i64 0])∧dF A2 r F)∨(e= .returned (.tuple #[.int .i64 0,.int .i64 6])∧A2.len=A2.most)
theorem BS.step {w:World} {B g nb kb ib cap:Nat} {A:St} {K T:bC→Option Value} {P:aj.Fn→Prop} {w1 w2:World} {aU aQ:Nat} {A1:St} {K1 T1:bC→Option Value} {F:aj.Fn} {e:Ending} (h0:aI w B g nb kb ib cap A K T)
  (h:BS w B g nb kb ib A P w1 aU aQ A1 K1 T1) (hb:BP w1 B g aU kb ib A1 F P e w2):∃(bR cap2:Nat) (A2:St) (K2 T2:bC→Option Value),BS w B g nb kb ib A P w2 bR cap2 A2 K2 T2∧Ext A1 A2∧SS A2 F e:=by
 obtain⟨bR,cap2,A2,K2,T2,h1,h2,h3,h4,h5,h6,h7⟩:=hb
 obtain⟨l1,l2,l3,l4,_⟩:=h0.qR
 have hs:=h.fm.size
 refine⟨bR,cap2,A2,K2,T2,⟨h.ext.trans h1,h2,fun j a b=>?_,h4,?_,h.fm.trans h6 (fun i hi hS=>?_)⟩,h1,?_⟩
 ·rcases Nat.lt_or_ge j A1.len with hl | hl
  ·rw[h1.den h.inv hl];exact h.nw j a hl
  ·exact h3 j hl b
 ·rcases h5 with e5 | e5
  ·rw[e5];exact h.jr
  ·exact .inr (by omega)
 ·rcases hS with e | e | e | e
  ·exact .inl e
  ·rcases h.jr with e' | e'
   ·exact .inr (.inl (e.trans e'))
   ·omega
  ·exact .inr (.inr (.inl e))
  ·exact .inr (.inr (.inr e))
 ·rcases h7 with⟨r,a,b,c⟩ | h7
  ·exact .inl ⟨r,a,b,c⟩
  ·exact .inr h7
theorem BS.out {w:World} {B g nb kb ib:Nat} {A:St} {P:aj.Fn→Prop} {w1:World} {aU aQ:Nat} {A1:St} {K1 T1:bC→Option Value} {F:aj.Fn} {e:Ending}
  (h:BS w B g nb kb ib A P w1 aU aQ A1 K1 T1) (hr:SS A1 F e):BP w B g nb kb ib A F P e w1:=by
 refine⟨aU,aQ,A1,K1,T1,h.ext,h.nf,h.nw,h.ar,h.jr,h.fm,?_⟩
 rcases hr with⟨r,a,b,c⟩ | hr
 ·exact .inl ⟨r,a,b,c⟩
 ·exact .inr hr
theorem Ad {w:World} {B g nb kb ib cap:Nat} {A:St} {K T:bC→Option Value} (h:aI w B g nb kb ib cap A K T) (hA:A.full=false) {f a b:Nat} {F G H:aj.Fn} (hf:dF A f F) (ha:dF A a G) (hb:dF A b H) {P:aj.Fn→Prop} (hP:∀G',lD (bE F G H) G'→P G'):
  Calls Tryz.prog 122 #[.pointer (some ⟨g,0,none⟩),.int .i64 f,.int .i64 a,.int .i64 b] w (BP w B g nb kb ib A (bE F G H) P):=by
 refine(zD h f a b hf.1 ha.1 hb.1).mono fun e w' ho=>?_
 rw[hf.2,ha.2,hb.2]at ho
 exact ho.bp hA hP
theorem SV {w:World} {B g nb kb ib cap:Nat} {A:St} {K T:bC→Option Value} (h:aI w B g nb kb ib cap A K T) (hA:A.full=false) {f a:Nat} {F G:aj.Fn} (hf:dF A f F) (ha:dF A a G) {P:aj.Fn→Prop} (hP:∀G',lD (bE F G (fun _=>false)) G'→P G'):
  Calls Tryz.prog 121 #[.pointer (some ⟨g,0,none⟩),.int .i64 f,.int .i64 a] w (BP w B g nb kb ib A (bE F G (fun _=>false)) P):=by
 refine(Eh h f a hf.1 ha.1).mono fun e w' ho=>?_
 rw[hf.2,ha.2,jB]at ho
 exact ho.bp hA hP
theorem SX {w:World} {B g nb kb ib cap:Nat} {A:St} {K T:bC→Option Value} (h:aI w B g nb kb ib cap A K T) (hA:A.full=false) {f:Nat} {F:aj.Fn} (hf:dF A f F) {P:aj.Fn→Prop} (hP:∀G',lD (bE F (fun _=>false) (fun _=>true)) G'→P G'):
  Calls Tryz.prog 126 #[.pointer (some ⟨g,0,none⟩),.int .i64 f] w (BP w B g nb kb ib A (bE F (fun _=>false) (fun _=>true)) P):=by
 have HC:Hid (Calls Tryz.prog 122 #[.pointer (some ⟨g,0,none⟩),.int .i64 f,.int .i64 0,.int .i64 1] w (BP w B g nb kb ib A (bE F (fun _=>false) (fun _=>true)) P)):=hide (Ad h hA hf (dF.zero h.inv) (dF.one h.inv) hP)
 clear h hf hP hA
 go_enter Tryz.func126,Tryz.ntmps126
 go_wp2_with fail
 refine HC.out.mono ?_
 rintro e wc hop
 have HF:=hide hop
 obtain⟨_,_,_,_,_,_,_,_,_,_,_,hres⟩:=hop
 rcases hres with⟨r,rfl,_⟩ | ⟨rfl,_⟩
 all_goals
  go_wp2
  go_ret2
  exact HF.out
theorem WY {w:World} {B g nb kb ib cap:Nat} {A:St} {K T:bC→Option Value} (h:aI w B g nb kb ib cap A K T) (hA:A.full=false) {f a:Nat} {F G:aj.Fn} (hf:dF A f F) (ha:dF A a G) {P:aj.Fn→Prop} (hP:∀G',lD (bE F (fun _=>true) G) G'→P G'):
  Calls Tryz.prog 117 #[.pointer (some ⟨g,0,none⟩),.int .i64 f,.int .i64 a] w (BP w B g nb kb ib A (bE F (fun _=>true) G) P):=by
 have HC:Hid (Calls Tryz.prog 122 #[.pointer (some ⟨g,0,none⟩),.int .i64 f,.int .i64 1,.int .i64 a] w (BP w B g nb kb ib A (bE F (fun _=>true) G) P)):=hide (Ad h hA hf (dF.one h.inv) ha hP)
 clear h hf ha hP hA
 go_enter Tryz.func117,Tryz.ntmps117
 go_wp2_with fail
 refine HC.out.mono ?_
 rintro e wc hop
 have HF:=hide hop
 obtain⟨_,_,_,_,_,_,_,_,_,_,_,hres⟩:=hop
 rcases hres with⟨r,rfl,_⟩ | ⟨rfl,_⟩
 all_goals
  go_wp2
  go_ret2
  exact HF.out
end Go.Proofs.YtifkacnoiocebaaGreat
