/- A part of the proof: G3. -/
import Derived.Test.YtlhmdcgckocidaaGreatHr1
import Derived.Test.YtlhmdcgckocidaaGreatHr2
set_option linter.unusedVariables false
set_option linter.unusedSimpArgs false
set_option maxRecDepth 100000
set_option maxHeartbeats 8000000
namespace Go.Proofs.YtlhmdcgckocidaaGreat
open ak Go.Maps Go.RowKit
def BP (w:World) (B g nb kb ib:Nat) (A:St) (F:ak.Fn) (P:ak.Fn→Prop) (e:Ending) (W':World):Prop:=
 ∃(dw cap2:Nat) (A2:St) (K2 T2:bC→Option Value),Ext A A2∧A2.full=false∧(∀j,A.len≤j→j<A2.len→P (den A2.ns j))∧aN W' B g dw kb ib cap2 A2 K2 T2∧(dw=nb∨w.heap.size≤dw)∧dX (Fp g nb kb ib) w W'∧
  ((∃r:Nat,e= .returned (.tuple #[.int .i64 (r:Int),.int .i64 0])∧r<A2.ns.length∧den A2.ns r=F)∨(e= .returned (.tuple #[.int .i64 0,.int .i64 6])∧A2.len=A2.most))
theorem JY.bp {w:World} {B g nb kb ib:Nat} {A:St} {F:ak.Fn} {k:Nat} {e:Ending} {W':World} (h:JY w B g nb kb ib A F k e W') (hA:A.full=false) {P:ak.Fn→Prop} (hP:∀G,kS F G→P G):BP w B g nb kb ib A F P e W':=by
 obtain⟨r,dw,cap2,A2,K2,T2,hr,h1,h2,ha,hn,hf⟩:=h
 refine⟨dw,cap2,oI A2,K2,T2,⟨hr.ext.vars,hr.ext.most,hr.ext.ns,fun h=>(by rw[hA]at h;cases h),ha.inv⟩,rfl,fun j h3 h4=>hP _ (hr.new j h3 h4),ha,hn,hf,?_⟩
 cases hfull:A2.full
 ·exact .inl ⟨r,h2 hfull,hr.lt,hr.eq hfull⟩
 ·exact .inr ⟨h1 hfull,hr.ext.inv.full hfull⟩
def dZ (set:Nat):Nat→Nat→Nat→ak.Fn
 |0,_,n=>fun _=>set.testBit n
 |d+1,v,n=>bH (fun x=>x v) (dZ set d (v+1) (n*2+1)) (dZ set d (v+1) (n*2))
theorem EY (set:Nat):∀(d v n:Nat) (x y:gP),(∀u,v≤u→x u=y u)→dZ set d v n x=dZ set d v n y:=by
 intro d
 induction d with
 |zero=>intro v n x y _;rfl
 |succ d ih=>
  intro v n x y h
  simp only[dZ,bH,h v (Nat.le_refl _),ih (v+1) _ x y (fun u hu=>h u (by omega))]
theorem Vz (set d v n:Nat) (b:Bool):(fun x=>dZ set (d+1) v n (upd x v b))=dZ set d (v+1) (if b then n*2+1 else n*2):=by
 funext x
 have e:∀m,dZ set d (v+1) m (upd x v b)=dZ set d (v+1) m x:=fun m=>EY set d (v+1) m _ _ (fun u hu=>by
  have:u≠v:=by omega
  simp[upd,this])
 simp only[dZ,bH,e]
 cases b<;>simp[upd]
theorem KM (set d v n:Nat) (b:Bool):kS (dZ set (d+1) v n) (dZ set d (v+1) (if b then n*2+1 else n*2)):=by
 rw[← Vz set d v n b]
 exact kS.upd (fun x y h=>EY set (d+1) v n x y h) b
theorem Y9 (set n:Nat) (hs:set<65536):wrap64 (Go.bits BinOp.and IntKind.u16 ((set:Int) / 2 ^ n) 1)=((if set.testBit n then 1 else 0:Nat):Int):=by
 rw[rz]
 have h:=u16_and (set / 2 ^ n) 1 (Nat.lt_of_le_of_lt (Nat.div_le_self _ _) hs) (by omega)
 have e1:((1:Nat):Int)=1:=rfl
 rw[e1]at h
 rw[h]
 have:=uE set n
 rw[Nat.and_one_is_mod]at this ⊢
 rcases Nat.mod_two_eq_zero_or_one (set / 2 ^ n)with h0 | h0
 ·rw[h0]at this ⊢
  rw[← this];decide+kernel
 ·rw[h0]at this ⊢
  rw[← this];decide+kernel
theorem PO (set bits first:Nat) (hs:set<65536) (OI:bits≤4) (agm:first≤14) (P:ak.Fn→Prop) (hV:∀u G,kS (fun x:gP=>x u) G→P G) (d:Nat):
  ∀(w:World) (B g nb kb ib cap:Nat) (A:St) (K T:bC→Option Value) (h:aN w B g nb kb ib cap A K T) (i n:Nat) (hA:A.full=false) (hi:i+d=bits) (hv:first+bits≤A.vars) (hn:(n+1)*2 ^ d≤16) (hP:∀G,kS (dZ set d (first+i) n) G→P G),
  Calls Tryz.prog 182 #[.agg #[.int .u16 set,.int .i64 bits,.int .i64 first],.pointer (some ⟨g,0,none⟩),.int .i64 i,.int .i64 n] w (BP w B g nb kb ib A (dZ set d (first+i) n) P):=by
 induction d with
 |zero=>
  intro w B g nb kb ib cap A K T h i n hA hi hv hn hP
  have hb0:RowKit.Below w.heap.size w (w.alloc (.cells #[.int .u16 set,.int .i64 bits,.int .i64 first] 272)):=(RowKit.Below.refl _ _).alloc (Nat.le_refl _) _
  have HF:Hid (BP w B g nb kb ib A (dZ set 0 (first+i) n) P (.returned (.tuple #[.int .i64 (wrap64 (Go.bits BinOp.and IntKind.u16 ((set:Int) / 2 ^ n) 1)),.int .i64 0])) (w.alloc (.cells #[.int .u16 set,.int .i64 bits,.int .i64 first] 272))):=hide
   ⟨nb,cap,A,K,T,Ext.refl h.inv,hA,fun j h1 h2=>by omega,h.below hb0,.inl rfl,dX.of_below hb0,.inl ⟨if set.testBit n then 1 else 0,by rw[Y9 set n hs],(by have:=h.inv.ok.two;split<;>omega),(by
    funext x
    simp only[dZ]
    cases set.testBit n
    ·simp[iQ]
    ·simp[mM])⟩⟩
  have hn':n<16:=by omega
  have hib:i=bits:=by omega
  subst hib
  clear h hb0 hP
  go_enter Tryz.func182,Tryz.ntmps182
  go_wp2
  go_ret2
  exact HF.out
 |succ d ih=>
  intro w B g nb kb ib cap A K T h i n hA hi hv hn hP
  have IH:=hide ih
  clear ih
  have hb0:RowKit.Below w.heap.size w (w.alloc (.cells #[.int .u16 set,.int .i64 bits,.int .i64 first] 272)):=(RowKit.Below.refl _ _).alloc (Nat.le_refl _) _
  have gV:Hid (l8 w B g nb kb ib #[.int .u16 set,.int .i64 bits,.int .i64 first] 272 (w.alloc (.cells #[.int .u16 set,.int .i64 bits,.int .i64 first] 272)) nb cap A K T):=hide
   ⟨h.below hb0,dX.of_below hb0,heap_alloc_new w _,.inl rfl⟩
  have H:=hide h
  have aaN:1≤2 ^ d:=Nat.one_le_two_pow
  rw[Nat.pow_succ]at hn
  have hlo:(n*2+1)*2 ^ d≤16:=by
   have:(n*2+1)*2 ^ d≤(n+1)*(2 ^ d*2):=by
    rw[Nat.mul_comm (2 ^ d) 2,← Nat.mul_assoc];exact Nat.mul_le_mul_right _ (by omega)
   omega
  have hhi:(n*2+1+1)*2 ^ d≤16:=by
   have:(n*2+1+1)*2 ^ d=(n+1)*(2 ^ d*2):=by
    rw[Nat.mul_comm (2 ^ d) 2,← Nat.mul_assoc];congr 1;omega
   omega
  have hn16:n<16:=by
   have:(n*2+1)*1≤(n*2+1)*2 ^ d:=Nat.mul_le_mul_left _ aaN
   omega
  have hib:i<bits:=by omega
  have hne:((i:Int)==(bits:Int))=false:=by simp;omega
  have Xe:=hide (fun G hG=>hP G ((KM set d (first+i) n false).trans hG))
  have Xf:=hide (fun G hG=>hP G ((KM set d (first+i) n true).trans hG))
  have dP:=hide hP
  have Ic:=hide (And.intro hA (And.intro hlo (And.intro hhi (And.intro (show i+1+d=bits by omega) hv))))
  have hc1:((i+1:Nat):Int)=(i:Int)+1:=by omega
  have hc2:((n*2:Nat):Int)=(n:Int)*2:=by omega
  have hc3:((n*2+1:Nat):Int)=(n:Int)*2+1:=by omega
  have hc4:((first+i:Nat):Int)=(first:Int)+(i:Int):=by omega
  have IH0:=hide (fun w1 bg aZ A1 K1 T1 (h1:aN w1 B g bg kb ib aZ A1 K1 T1) (hA1:A1.full=false) (hv1:first+bits≤A1.vars)=>hc1▸hc2▸IH.out w1 B g bg kb ib aZ A1 K1 T1 h1 (i+1) (n*2) hA1 Ic.out.2.2.2.1 hv1 Ic.out.2.1 Xe.out)
  have IH1:=hide (fun w1 bg aZ A1 K1 T1 (h1:aN w1 B g bg kb ib aZ A1 K1 T1) (hA1:A1.full=false) (hv1:first+bits≤A1.vars)=>hc1▸hc3▸IH.out w1 B g bg kb ib aZ A1 K1 T1 h1 (i+1) (n*2+1) hA1 Ic.out.2.2.2.1 hv1 Ic.out.2.2.1 Xf.out)
  have ZC:=hide hc4
  clear h hb0 hP hn hlo hhi aaN IH hA hv hi hc1 hc2 hc3 hc4
  go_enter Tryz.func182,Tryz.ntmps182
  go_wp2_with fail
  refine(IH0.out _ _ _ _ _ _ gV.out.ar Ic.out.1 Ic.out.2.2.2.2).mono ?_
  rintro e wa ⟨bg,aZ,A1,K1,T1,hx1,hf1,hp1,ha1,hn1,hm1,hres⟩
  have fH:=hide (gV.out.step H.out ha1 hn1 hm1)
  have cK:=hide (And.intro hx1 (And.intro hf1 hp1))
  have x0:wa.cell? ⟨w.heap.size,0,none⟩=some (.int .u16 set):=by rw[cell_of_row _ _ _ _ _ _ fH.out.bx];rfl
  have x1:wa.cell? ⟨w.heap.size,1,none⟩=some (.int .i64 bits):=by rw[cell_of_row _ _ _ _ _ _ fH.out.bx];rfl
  have x2:wa.cell? ⟨w.heap.size,2,none⟩=some (.int .i64 first):=by rw[cell_of_row _ _ _ _ _ _ fH.out.bx];rfl
  clear hx1 hf1 hp1 ha1 hn1 hm1 gV
  rcases hres with⟨lo,rfl,hr1,hd1⟩ | ⟨rfl,hfull⟩
  case inr=>
   have HF:Hid (BP w B g nb kb ib A (dZ set (d+1) (first+i) n) P (.returned (.tuple #[.int .i64 0,.int .i64 6])) wa):=hide
    ⟨bg,aZ,A1,K1,T1,cK.out.1,cK.out.2.1,cK.out.2.2,fH.out.ar,fH.out.jc.imp id (fun h=>by omega),fH.out.fm,.inr ⟨rfl,hfull⟩⟩
   clear hfull x0 x1 x2
   go_wp2
   go_ret2
   exact HF.out
  have HR1:=hide (And.intro hr1 hd1)
  clear hr1 hd1
  go_wp2_with fail
  refine(IH1.out _ _ _ _ _ _ fH.out.ar cK.out.2.1 (by rw[cK.out.1.vars];exact Ic.out.2.2.2.2)).mono ?_
  rintro e wb ⟨dw,cap2,A2,K2,T2,hx2,hf2,hp2,ha2,hn2,hm2,hres⟩
  have HS2:=hide (fH.out.step H.out ha2 hn2 hm2)
  have bO:=hide (show Ext A A2∧A2.full=false∧(∀j,A.len≤j→j<A2.len→P (den A2.ns j))∧lo<A2.ns.length∧den A2.ns lo=dZ set d (first+(i+1)) (n*2)from
   ⟨cK.out.1.trans hx2,hf2,fun j h1 h2=>(by
    rcases Nat.lt_or_ge j A1.len with hl | hl
    ·rw[hx2.den cK.out.1.inv hl];exact cK.out.2.2 j h1 hl
    ·exact hp2 j hl h2),Nat.lt_of_lt_of_le HR1.out.1 hx2.len,(hx2.den cK.out.1.inv HR1.out.1).trans HR1.out.2⟩)
  clear x0 x1 x2
  have x0:wb.cell? ⟨w.heap.size,0,none⟩=some (.int .u16 set):=by rw[cell_of_row _ _ _ _ _ _ HS2.out.bx];rfl
  have x1:wb.cell? ⟨w.heap.size,1,none⟩=some (.int .i64 bits):=by rw[cell_of_row _ _ _ _ _ _ HS2.out.bx];rfl
  have x2:wb.cell? ⟨w.heap.size,2,none⟩=some (.int .i64 first):=by rw[cell_of_row _ _ _ _ _ _ HS2.out.bx];rfl
  clear hx2 hf2 hp2 ha2 hn2 hm2 fH cK HR1
  rcases hres with⟨hi,rfl,hr2,hd2⟩ | ⟨rfl,hfull⟩
  case inr=>
   have HF:Hid (BP w B g nb kb ib A (dZ set (d+1) (first+i) n) P (.returned (.tuple #[.int .i64 0,.int .i64 6])) wb):=hide
    ⟨dw,cap2,A2,K2,T2,bO.out.1,bO.out.2.1,bO.out.2.2.1,HS2.out.ar,HS2.out.jc.imp id (fun h=>by omega),HS2.out.fm,.inr ⟨rfl,hfull⟩⟩
   clear hfull x0 x1 x2
   go_wp2
   go_ret2
   exact HF.out
  have HR2:=hide (And.intro hr2 hd2)
  clear hr2 hd2
  go_wp2_with fail
  have hvar:=(EB HS2.out.ar (first+i) (by rw[bO.out.1.vars];have:=Ic.out.2.2.2.2;omega))
  rw[ZC.out]at hvar
  refine hvar.mono ?_
  clear hvar x0 x1 x2
  rintro e wc hop
  obtain⟨x9,vI,A3,K3,T3,hx3,hf3,hp3,tu,GX,yc,hres⟩:=hop.bp bO.out.2.1 (hV _)
  have rF:=hide (HS2.out.step H.out tu GX yc)
  have cu:=hide (show Ext A A3∧A3.full=false∧(∀j,A.len≤j→j<A3.len→P (den A3.ns j))∧(lo<A3.ns.length∧den A3.ns lo=dZ set d (first+(i+1)) (n*2))∧hi<A3.ns.length∧den A3.ns hi=dZ set d (first+(i+1)) (n*2+1)from
   ⟨bO.out.1.trans hx3,hf3,fun j h1 h2=>(by
    rcases Nat.lt_or_ge j A2.len with hl | hl
    ·rw[hx3.den bO.out.1.inv hl];exact bO.out.2.2.1 j h1 hl
    ·exact hp3 j hl h2),⟨Nat.lt_of_lt_of_le bO.out.2.2.2.1 hx3.len,(hx3.den bO.out.1.inv bO.out.2.2.2.1).trans bO.out.2.2.2.2⟩,Nat.lt_of_lt_of_le HR2.out.1 hx3.len,(hx3.den bO.out.1.inv HR2.out.1).trans HR2.out.2⟩)
  clear hx3 hf3 hp3 tu GX yc HS2 bO HR2 hop
  rcases hres with⟨v,rfl,hr3,hd3⟩ | ⟨rfl,hfull⟩
  case inr=>
   have HF:Hid (BP w B g nb kb ib A (dZ set (d+1) (first+i) n) P (.returned (.tuple #[.int .i64 0,.int .i64 6])) wc):=hide
    ⟨x9,vI,A3,K3,T3,cu.out.1,cu.out.2.1,cu.out.2.2.1,rF.out.ar,rF.out.jc.imp id (fun h=>by omega),rF.out.fm,.inr ⟨rfl,hfull⟩⟩
   clear hfull
   go_wp2
   go_ret2
   exact HF.out
  have HR3:=hide (And.intro hr3 hd3)
  clear hr3 hd3
  go_wp2_with fail
  refine(zR rF.out.ar v hi lo HR3.out.1 cu.out.2.2.2.2.1 cu.out.2.2.2.1.1).mono ?_
  rintro e wd hop
  rw[HR3.out.2,cu.out.2.2.2.2.2,cu.out.2.2.2.1.2]at hop
  have hFe:bH (fun x=>x (first+i)) (dZ set d (first+(i+1)) (n*2+1)) (dZ set d (first+(i+1)) (n*2))=dZ set (d+1) (first+i) n:=rfl
  rw[hFe]at hop
  obtain⟨Df,cap4,A4,K4,T4,hx4,SK,SL,GN,Bd,zf,hres⟩:=hop.bp cu.out.2.1 dP.out
  have oK:=hide (rF.out.step H.out GN Bd zf)
  have dW:=hide (show Ext A A4∧A4.full=false∧(∀j,A.len≤j→j<A4.len→P (den A4.ns j))from
   ⟨cu.out.1.trans hx4,SK,fun j h1 h2=>(by
    rcases Nat.lt_or_ge j A3.len with hl | hl
    ·rw[hx4.den cu.out.1.inv hl];exact cu.out.2.2.1 j h1 hl
    ·exact SL j hl h2)⟩)
  have HF:Hid (BP w B g nb kb ib A (dZ set (d+1) (first+i) n) P e wd):=hide
   ⟨Df,cap4,A4,K4,T4,dW.out.1,dW.out.2.1,dW.out.2.2,oK.out.ar,oK.out.jc.imp id (fun h=>by omega),oK.out.fm,hres⟩
  clear hx4 SK SL GN Bd zf hop hFe
  rcases hres with⟨r,rfl,_,_⟩ | ⟨rfl,_⟩
  ·go_wp2
   go_ret2
   exact HF.out
  ·go_wp2
   go_ret2
   exact HF.out
def wI (s d p q:Nat):Array Value:=#[.int .u16 s,.int .i64 4,.int .i64 0,.int .u16 p,.int .i64 3,.int .i64 8,.int .u16 d,.int .i64 4,.int .i64 4,.int .u16 q,.int .i64 3,.int .i64 11]
theorem PU (w:World) (s d p q:Nat) (hs:s<65536) (hd:d<65536) (hp:p<256) (hq:q<256):
  Calls Tryz.prog 181 #[.agg #[.int .u16 s,.int .u16 d,.int .u8 p,.int .u8 q]] w fun e W'=>e= .returned (.slice (some ⟨w.heap.size+1,0,none⟩) 4 4)∧∃o0,W'=(w.alloc o0).alloc (.cells (wI s d p q) 272):=by
 go_enter Tryz.func181,Tryz.ntmps181
 go_wp2
 go_ret
 exact⟨rfl,_,rfl⟩
structure jN where
 set:Nat
 bits:Nat
 first:Nat
def dQ (s d p q:Nat):List jN:=[⟨s,4,0⟩,⟨p,3,8⟩,⟨d,4,4⟩,⟨q,3,11⟩]
def jN.fn (x:jN):ak.Fn:=dZ x.set x.bits x.first 0
def outs (l:List jN):ak.Fn:=l.foldl (fun F x=>bH F x.fn (fun _=>false)) (fun _=>true)
theorem SN {l:List jN} {k:Nat} {x:jN} (h:l[k]?=some x):outs (l.take (k+1))=bH (outs (l.take k)) x.fn (fun _=>false):=by
 rw[List.take_add_one,h];simp[outs]
def lX (l:List jN) (G:ak.Fn):Prop:=(∃u,kS (fun x:gP=>x u) G)∨(∃x∈l,kS x.fn G)∨∃k,k<l.length∧kS (outs (l.take (k+1))) G
theorem VA (s d p q k:Nat) (hs:s<65536) (hd:d<65536) (hp:p<256) (hq:q<256) (hk:k<4):∃x:jN,(dQ s d p q)[k]?=some x∧x.set<65536∧x.bits≤4∧x.first+x.bits≤14∧
  (wI s d p q)[k*3]?=some (.int .u16 x.set)∧(wI s d p q)[k*3+1]?=some (.int .i64 x.bits)∧(wI s d p q)[k*3+2]?=some (.int .i64 x.first):=by
 match k,hk with
 |0,_=>exact⟨_,rfl,hs,(by show 4≤4;omega),(by show 0+4≤14;omega),rfl,rfl,rfl⟩
 |1,_=>exact⟨_,rfl,(by show p<_;omega),(by show 3≤4;omega),(by show 8+3≤14;omega),rfl,rfl,rfl⟩
 |2,_=>exact⟨_,rfl,hd,(by show 4≤4;omega),(by show 4+4≤14;omega),rfl,rfl,rfl⟩
 |3,_=>exact⟨_,rfl,(by show q<_;omega),(by show 3≤4;omega),(by show 11+3≤14;omega),rfl,rfl,rfl⟩
theorem l8.base {w:World} {B g nb kb ib cap:Nat} {A:St} {K T:bC→Option Value} (h0:aN w B g nb kb ib cap A K T) {box ae6:Array Value} {t t2:TypeId} {wa wp wr:World} {bg aZ dw cap2:Nat} {A1 A2:St} {K1 T1 K2 T2:bC→Option Value}
  (h:l8 w B g nb kb ib box t wa bg aZ A1 K1 T1) (hb:RowKit.Below wa.heap.size wa wp) (h2:l8 wp B g bg kb ib ae6 t2 wr dw cap2 A2 K2 T2):l8 w B g nb kb ib box t wr dw cap2 A2 K2 T2:=
 h.step h0 h2.ar (h2.jc.imp id (fun hh=>by have:=hb.size;omega)) ((dX.of_below hb).trans h2.fm (fun _ _ h=>h))
def AtK (l:List jN) (A:St) (k r:Nat) (A2:St):Prop:=Ext A A2∧A2.full=false∧(∀j,A.len≤j→j<A2.len→lX l (den A2.ns j))∧r<A2.ns.length∧den A2.ns r=outs (l.take k)
theorem zY {w:World} {B g nb kb ib cap:Nat} {A:St} {K T:bC→Option Value} (h:aN w B g nb kb ib cap A K T) (hA:A.full=false) (hv:14≤A.vars) (s d p q:Nat) (hs:s<65536) (hd:d<65536) (hp:p<256) (hq:q<256):
  Calls Tryz.prog 143 #[.pointer (some ⟨g,0,none⟩),.agg #[.int .u16 s,.int .u16 d,.int .u8 p,.int .u8 q]] w (BP w B g nb kb ib A (outs (dQ s d p q)) (lX (dQ s d p q))):=by
 have hb0:RowKit.Below w.heap.size w (w.alloc (.cells #[.int .u16 s,.int .u16 d,.int .u8 p,.int .u8 q] 32)):=(RowKit.Below.refl _ _).alloc (Nat.le_refl _) _
 have gV:Hid (l8 w B g nb kb ib #[.int .u16 s,.int .u16 d,.int .u8 p,.int .u8 q] 32 (w.alloc (.cells #[.int .u16 s,.int .u16 d,.int .u8 p,.int .u8 q] 32)) nb cap A K T):=hide
  ⟨h.below hb0,dX.of_below hb0,heap_alloc_new w _,.inl rfl⟩
 have H:=hide h
 have HA:=hide hA
 have HV:=hide hv
 clear h hA hv hb0
 go_enter Tryz.func143,Tryz.ntmps143
 go_wp2_with fail
 have hvar:Calls Tryz.prog 180 #[.pointer (some ⟨g,0,none⟩),.int .i64 13] (w.alloc (.cells #[.int .u16 s,.int .u16 d,.int .u8 p,.int .u8 q] 32)) (JY (w.alloc (.cells #[.int .u16 s,.int .u16 d,.int .u8 p,.int .u8 q] 32)) B g nb kb ib A (fun x=>x 13) 13):=EB gV.out.ar 13 HV.out
 refine hvar.mono ?_
 clear hvar
 rintro e wa hop
 obtain⟨bg,aZ,A1,K1,T1,hx1,hf1,hp1,ha1,hn1,hm1,hres⟩:=hop.bp HA.out (P:=lX (dQ s d p q)) (fun G hG=>.inl ⟨13,hG⟩)
 have fH:=hide (gV.out.step H.out ha1 hn1 hm1)
 have cK:=hide (And.intro hx1 (And.intro hf1 hp1))
 clear hop hx1 hf1 hp1 ha1 hn1 hm1 gV
 rcases hres with⟨lo,rfl,hr1,hd1⟩ | ⟨rfl,hfull⟩
 case inr=>
  have HF:Hid (BP w B g nb kb ib A (outs (dQ s d p q)) (lX (dQ s d p q)) (.returned (.tuple #[.int .i64 0,.int .i64 6])) wa):=hide
   ⟨bg,aZ,A1,K1,T1,cK.out.1,cK.out.2.1,cK.out.2.2,fH.out.ar,fH.out.jc.imp id (fun h=>by omega),fH.out.fm,.inr ⟨rfl,hfull⟩⟩
  clear hfull
  go_wp2
  go_ret2
  exact HF.out
 clear hr1 hd1
 have x0:wa.cell? ⟨w.heap.size,0,none⟩=some (.int .u16 s):=by rw[cell_of_row _ _ _ _ _ _ fH.out.bx];rfl
 have x1:wa.cell? ⟨w.heap.size,1,none⟩=some (.int .u16 d):=by rw[cell_of_row _ _ _ _ _ _ fH.out.bx];rfl
 have x2:wa.cell? ⟨w.heap.size,2,none⟩=some (.int .u8 p):=by rw[cell_of_row _ _ _ _ _ _ fH.out.bx];rfl
 have x3:wa.cell? ⟨w.heap.size,3,none⟩=some (.int .u8 q):=by rw[cell_of_row _ _ _ _ _ _ fH.out.bx];rfl
 go_wp2_with fail
 refine(PU wa s d p q hs hd hp hq).mono ?_
 rintro e wb ⟨rfl,o0,hwb⟩
 clear x0 x1 x2 x3
 have hbp:RowKit.Below wa.heap.size wa (wa.alloc o0):=(RowKit.Below.refl _ _).alloc (Nat.le_refl _) _
 have H0:=hide (fH.out.ar.below hbp)
 have Xe:Hid (l8 (wa.alloc o0) B g bg kb ib (wI s d p q) 272 wb bg aZ A1 K1 T1):=hide (by
  have hb1:RowKit.Below (wa.alloc o0).heap.size (wa.alloc o0) wb:=by rw[hwb];exact(RowKit.Below.refl _ _).alloc (Nat.le_refl _) _
  exact⟨H0.out.below hb1,dX.of_below hb1,by rw[hwb];exact heap_alloc_new _ _,.inl rfl⟩)
 have HBP:=hide hbp
 have hsz:(wa.alloc o0).heap.size =wa.heap.size+1:=by simp
 have nJ:=hide hsz
 have zk:=hide (show AtK (dQ s d p q) A 0 1 A1 from⟨cK.out.1,cK.out.2.1,cK.out.2.2,(by have:=cK.out.1.inv.ok.two;omega),(by funext x;simp[mM,outs])⟩)
 clear hbp hwb hsz
 go_wp2
 go_loopw [8,24] (fun u i wr=>∃(k r dw cap2:Nat) (A2:St) (K2 T2:bC→Option Value),k≤4∧i= .int .i64 k∧u= .int .i64 r∧Hid (l8 (wa.alloc o0) B g bg kb ib (wI s d p q) 272 wr dw cap2 A2 K2 T2)∧Hid (AtK (dQ s d p q) A k r A2)) (fun _ i _=>4 - (intOf i).toNat)
 case atStart=>exact⟨0,1,bg,aZ,A1,K1,T1,Nat.zero_le _,rfl,rfl,Xe,zk⟩
 case round=>
  clear Xe zk
  obtain⟨k,r,dw,cap2,A2,K2,T2,hk,rfl,rfl,HP,HK⟩:=hrel
  by_cases hlt:k<4
  ·obtain⟨⟨xs,xb,xf⟩,hx,hxs,hxb,hxf,g0,g1,g2⟩:=VA s d p q k hs hd hp hq hlt
   have x0:wr.cell? ⟨wa.heap.size+1,k*3,none⟩=some (.int .u16 xs):=by rw[← nJ.out,cell_of_row _ _ _ _ _ _ HP.out.bx];exact g0
   have x1:wr.cell? ⟨wa.heap.size+1,k*3+1,none⟩=some (.int .i64 xb):=by rw[← nJ.out,cell_of_row _ _ _ _ _ _ HP.out.bx];exact g1
   have x2:wr.cell? ⟨wa.heap.size+1,k*3+2,none⟩=some (.int .i64 xf):=by rw[← nJ.out,cell_of_row _ _ _ _ _ _ HP.out.bx];exact g2
   have HX:=hide (And.intro hx (And.intro hxs (And.intro hxb hxf)))
   clear hx g0 g1 g2 hxs hxb hxf
   have hB3:RowKit.Below wr.heap.size wr (wr.alloc (.cells #[.int .u16 xs,.int .i64 xb,.int .i64 xf] 272)):=(RowKit.Below.refl _ _).alloc (Nat.le_refl _) _
   have HQ:=hide (HP.out.below H0.out hB3)
   have hvv:14≤A2.vars:=by rw[HK.out.1.vars];exact HV.out
   have hpw:(0+1)*2 ^ xb≤16:=by
    have:=Nat.pow_le_pow_right (n:=2) (by omega) HX.out.2.2.1
    simp only at this
    omega
   have HCB:Hid (Calls Tryz.prog 182 #[.agg #[.int .u16 xs,.int .i64 xb,.int .i64 xf],.pointer (some ⟨g,0,none⟩),.int .i64 0,.int .i64 0] (wr.alloc (.cells #[.int .u16 xs,.int .i64 xb,.int .i64 xf] 272)) (BP (wr.alloc (.cells #[.int .u16 xs,.int .i64 xb,.int .i64 xf] 272)) B g dw kb ib A2 (dZ xs xb (xf+0) 0) (lX (dQ s d p q)))):=
    hide (PO xs xb xf HX.out.2.1 HX.out.2.2.1 (by have:=HX.out.2.2.2;simp only at this;omega) _ (fun u G hG=>.inl ⟨u,hG⟩) xb _ _ _ _ _ _ _ _ _ _ HQ.out.ar 0 0 HK.out.2.1 (by omega) (by have:=HX.out.2.2.2;simp only at this;omega) hpw
     (fun G hG=>.inr (.inl ⟨_,List.mem_of_getElem? HX.out.1,hG⟩)))
   clear hB3 hvv hpw
   go_wp2_with fail
   refine HCB.out.mono ?_
   clear HCB x0 x1 x2
   rintro e wc ⟨x9,vI,A3,K3,T3,hx3,hf3,hp3,tu,GX,yc,hres⟩
   have HR:=hide (HQ.out.step H0.out tu GX yc)
   have HE:=hide (show AtK (dQ s d p q) A k r A3 from⟨HK.out.1.trans hx3,hf3,fun j h1 h2=>(by
    rcases Nat.lt_or_ge j A2.len with hl | hl
    ·rw[hx3.den HK.out.1.inv hl];exact HK.out.2.2.1 j h1 hl
    ·exact hp3 j hl h2),Nat.lt_of_lt_of_le HK.out.2.2.2.1 hx3.len,(hx3.den HK.out.1.inv HK.out.2.2.2.1).trans HK.out.2.2.2.2⟩)
   clear hx3 hf3 hp3 tu GX yc HP HK HQ
   rcases hres with⟨f,rfl,hr3,hd3⟩ | ⟨rfl,hfull⟩
   case inr=>
    have oL:=hide (fH.out.base H.out HBP.out HR.out)
    have HF:Hid (BP w B g nb kb ib A (outs (dQ s d p q)) (lX (dQ s d p q)) (.returned (.tuple #[.int .i64 0,.int .i64 6])) wc):=hide
     ⟨x9,vI,A3,K3,T3,HE.out.1,HE.out.2.1,HE.out.2.2.1,oL.out.ar,oL.out.jc.imp id (fun h=>by omega),oL.out.fm,.inr ⟨rfl,hfull⟩⟩
    clear hfull
    go_wp2
    go_ret2
    exact HF.out
   have HD:=hide (And.intro hr3 hd3)
   clear hr3 hd3
   go_wp2_with fail
   refine(EA HR.out.ar r f HE.out.2.2.2.1 HD.out.1).mono ?_
   rintro e wd hop
   have e0:den A3.ns 0=fun _=>false:=by funext x;simp[iQ]
   have eo:bH (den A3.ns r) (den A3.ns f) (den A3.ns 0)=outs ((dQ s d p q).take (k+1)):=by
    rw[SN HX.out.1,HE.out.2.2.2.2,e0,HD.out.2];rfl
   rw[eo]at hop
   obtain⟨Df,cap4,A4,K4,T4,hx4,SK,SL,GN,Bd,zf,hres⟩:=hop.bp HE.out.2.1 (P:=lX (dQ s d p q)) (fun G hG=>.inr (.inr ⟨k,hlt,hG⟩))
   clear hop eo e0
   have HR4:=hide (HR.out.step H0.out GN Bd zf)
   have Xg:=HE
   have HE:=hide (show Ext A A4∧A4.full=false∧(∀j,A.len≤j→j<A4.len→lX (dQ s d p q) (den A4.ns j))∧True from⟨Xg.out.1.trans hx4,SK,fun j h1 h2=>(by
    rcases Nat.lt_or_ge j A3.len with hl | hl
    ·rw[hx4.den Xg.out.1.inv hl];exact Xg.out.2.2.1 j h1 hl
    ·exact SL j hl h2),trivial⟩)
   clear hx4 SK SL GN Bd zf Xg HR
   rcases hres with⟨o,rfl,hr4,hd4⟩ | ⟨rfl,hfull⟩
   case inr=>
    have oL:=hide (fH.out.base H.out HBP.out HR4.out)
    have HF:Hid (BP w B g nb kb ib A (outs (dQ s d p q)) (lX (dQ s d p q)) (.returned (.tuple #[.int .i64 0,.int .i64 6])) wd):=hide
     ⟨Df,cap4,A4,K4,T4,HE.out.1,HE.out.2.1,HE.out.2.2.1,oL.out.ar,oL.out.jc.imp id (fun h=>by omega),oL.out.fm,.inr ⟨rfl,hfull⟩⟩
    clear hfull
    go_wp2
    go_ret2
    exact HF.out
   have HK5:=hide (show AtK (dQ s d p q) A (k+1) o A4 from⟨HE.out.1,HE.out.2.1,HE.out.2.2.1,hr4,hd4⟩)
   clear hr4 hd4
   go_wp2
   go_roundw
   case rel=>exact⟨k+1,o,Df,cap4,A4,K4,T4,by omega,by go_num,rfl,HR4,HK5⟩
   case measure=>simp[intOf];omega
  ·have hk4:k=4:=by omega
   subst hk4
   have oL:=hide (fH.out.base H.out HBP.out HP.out)
   have HF:Hid (BP w B g nb kb ib A (outs (dQ s d p q)) (lX (dQ s d p q)) (.returned (.tuple #[.int .i64 (r:Int),.int .i64 0])) wr):=hide
    ⟨dw,cap2,A2,K2,T2,HK.out.1,HK.out.2.1,HK.out.2.2.1,oL.out.ar,oL.out.jc.imp id (fun h=>by omega),oL.out.fm,.inl ⟨r,rfl,HK.out.2.2.2.1,HK.out.2.2.2.2⟩⟩
   go_wp2
   go_ret2
   exact HF.out
theorem NN {w:World} {B g nb kb ib cap:Nat} {A:St} {K T:bC→Option Value} (h:aN w B g nb kb ib cap A K T) (f v:Nat) (is:Bool) (hf:f<A.ns.length) {r:Nat} (hr:ak.part A.ns f v is=r):
  Calls Tryz.prog 115 #[.pointer (some ⟨g,0,none⟩),.int .i64 f,.int .i64 v,.bool is] w fun e W'=>e= .returned (.int .i64 (r:Int))∧RowKit.Below w.heap.size w W':=hr▸G8 h f v is hf
theorem Kw (v:Nat) (h:v≤16):wrap64 ((2:Int) ^ v)=2 ^ v:=by
 have:∀i:Fin 17,wrap64 ((2:Int) ^ i.val)=2 ^ i.val:=by decide+kernel
 exact this ⟨v,by omega⟩
theorem SQ {w:World} {B g nb kb ib cap:Nat} {A:St} {K T:bC→Option Value} (h:aN w B g nb kb ib cap A K T) (f c:Nat) (hf:f<A.ns.length) (hc:c<2 ^ A.vars):
  Calls Tryz.prog 68 #[.pointer (some ⟨g,0,none⟩),.int .i64 f,.int .i64 c] w fun e W'=>e= .returned (.tuple #[.bool (den A.ns f fun u=>c.testBit (A.vars - 1 - u)),.int .i64 0])∧RowKit.Below w.heap.size w W':=by
 have hlen:=h.qC
 have hb0:RowKit.Below w.heap.size w (w.alloc (.cells #[.int .i64 f] 3)):=(RowKit.Below.refl _ _).alloc (Nat.le_refl _) _
 have zk:=hide (h.below hb0)
 have HI:=hide (Pj w (w.alloc (.cells #[.int .i64 f] 3)).heap.size (by simp) f (by omega) 3 (heap_alloc_new w _))
 have fM:=hide (show qE A [(f:Int)] []from⟨fun x hx=>by
  simp only[List.mem_cons,List.mem_nil_iff,or_false]at hx
  rw[hx];omega,fun x hx=>(by cases hx)⟩)
 have H:=hide h
 go_enter Tryz.func68,Tryz.ntmps68
 go_wp2_with fail
 refine(tT zk.out [(f:Int)] [] _ none 1 0 1 0 (by omega) (by omega) HI.out (dz.nil _ _ _)).mono ?_
 rintro e wa ⟨he,_,hb⟩
 obtain rfl:=he fM.out
 have HB:=hide (hb0.trans (hb.mono hb0.size))
 obtain⟨l1,l2,_,_,_⟩:=h.pO
 have hvs:=h.vs
 have cc:=(HB.out.cell (p:=⟨g,0,none⟩) l1).trans h.c0
 have hcn:decide ((c:Int)<0)=false:=by simp
 have hc16:c<65536:=by
  have:(2:Nat) ^ A.vars≤2 ^ 16:=Nat.pow_le_pow_right (by omega) hvs.2
  omega
 have hw:decide (wrap64 (2 ^ A.vars)≤(c:Int))=false:=by
  rw[Kw A.vars hvs.2]
  have:((2 ^ A.vars:Nat):Int)=(2:Int) ^ A.vars:=by simp
  simp only[decide_eq_false_iff_not]
  omega
 have aaP:=hide h.inv.ok
 clear he hb h hb0 hc
 go_wp2
 go_loopw [1] (fun u wr=>∃f1:Nat,f1<A.ns.length∧u= .int .i64 f1∧Hid (den A.ns f1 (fun u=>c.testBit (A.vars - 1 - u))=den A.ns f (fun u=>c.testBit (A.vars - 1 - u)))∧RowKit.Below w.heap.size w wr) (fun u _=>(intOf u).toNat)
 case atStart=>exact⟨f,hf,rfl,hide rfl,HB.out⟩
 case round=>
  clear cc hw hcn
  obtain⟨f1,hf1,rfl,HD,hb⟩:=hrel
  have HB1:=hide hb
  by_cases hgt:(1:Int)<f1
  ·obtain⟨nn,hnn⟩:=eF hf1
   have HN:=hide hnn
   have hnb:=aaP.out.node f1 nn hnn (by omega)
   have hv1:nn.v<A.vars:=hnb.1
   have HA1:=hide ((H.out.below hb).below ((RowKit.Below.refl _ _).alloc (Nat.le_refl _) (.cells #[.int .i64 nn.v,.int .i64 nn.lo,.int .i64 nn.hi] 179)))
   obtain⟨q0,q1,q2⟩:=(H.out.below hb).node hnn
   have c2:=(hb.cell (p:=⟨g,2,none⟩) l1).trans H.out.c2
   have hlt2:g<wr.heap.size:=Nat.lt_of_lt_of_le l1 hb.size
   have hbit:(Go.bits BinOp.and IntKind.i64 ((c:Int) / 2 ^ (A.vars - 1 - nn.v)) 1==1)=c.testBit (A.vars - 1 - nn.v):=Yr c _ (by omega)
   obtain⟨r,hr⟩:∃r,ak.part A.ns f1 nn.v (c.testBit (A.vars - 1 - nn.v))=r:=⟨_,rfl⟩
   have HR:=hide (show r<f1∧r<A.ns.length∧den A.ns r (fun u=>c.testBit (A.vars - 1 - u))=den A.ns f1 (fun u=>c.testBit (A.vars - 1 - u))from by
    have e:r=if c.testBit (A.vars - 1 - nn.v)then nn.hi else nn.lo:=by rw[← hr];simp[ak.part,HN.out]
    refine⟨by rw[e];split<;>omega,by rw[e];split<;>omega,?_⟩
    rw[kF aaP.out HN.out (by omega),e]
    cases c.testBit (A.vars - 1 - nn.v)<;>rfl)
   have HRR:=hide hr
   have htn:((A.vars:Int) - 1 - (nn.v:Int)).toNat =A.vars - 1 - nn.v:=by omega
   have hsub:((A.vars - 1 - nn.v:Nat):Int)=(A.vars:Int) - 1 - (nn.v:Int):=by omega
   have cv:=(hb.cell (p:=⟨g,0,none⟩) l1).trans H.out.c0
   have hsz:g≠wr.heap.size:=by omega
   clear hnn hb hnb HB hr
   go_wp2_with fail
   refine bS (by kernel_rfl) (by kernel_rfl) ?_
   intro T hT gw hg hgi
   have HG:=hide hg
   have HI2:=hide hgi
   have k0:∀t,(gw t).cell? ⟨wr.heap.size,0,none⟩=some (.int .i64 nn.v):=fun t=>((HG.out t).cell (p:=⟨wr.heap.size,0,none⟩) (by simp)).trans (by simp)
   have k1:∀t,(gw t).cell? ⟨g,0,none⟩=some (.int .i64 A.vars):=fun t=>((HG.out t).cell (p:=⟨g,0,none⟩) (by simp;omega)).trans HA1.out.c0
   have GD:=hide (fun t=>HB1.out.trans (((RowKit.Below.refl _ wr).alloc (Nat.le_refl _) (.cells #[.int .i64 nn.v,.int .i64 nn.lo,.int .i64 nn.hi] 179)).trans ((HG.out t).mono (by simp)) |>.mono HB1.out.size))
   clear hg hgi q0 q1 q2 c2 cv
   repeat (go_big_quiet_step ((first | (go_at_call 115;first | rw[hbit] | skip;exact mE HG.out HI2.out (NN (HA1.out.below (HG.out _)) f1 nn.v _ hf1 HRR.out)))))
   refine wpQuiet_nil ?_
   intro _ hw'
   obtain⟨t,rfl⟩:=hw'
   go_wp2
   go_roundw
   case rel=>exact⟨r,HR.out.2.1,rfl,hide (HR.out.2.2.trans HD.out),GD.out t⟩
   case measure=>simp[intOf];exact HR.out.1
  ·go_wp2
   go_ret2
   refine⟨?_,HB1.out⟩
   have hd:=HD.out
   rw[← hd]
   rcases(by omega:f1=0∨f1=1)with rfl | rfl
   ·rw[iQ];rfl
   ·rw[mM];rfl
end Go.Proofs.YtlhmdcgckocidaaGreat
namespace Go.Proofs.YtlhmdcgckocidaaGreat
open Go.RowKit
def Gr (c:Nat):Value:=.agg #[.int .i64 ((c / 1024:Nat):Int),.int .i64 ((c / 64 % 16:Nat):Int),.int .i64 ((c / 8 % 8:Nat):Int),.int .i64 ((c % 8:Nat):Int)]
open ak
def kQ (c:Nat):gP:=fun u=>c.testBit (13 - u)
theorem tb (c i:Nat):c.testBit i=decide (c / 2 ^ i % 2=1):=Nat.testBit_eq_decide_div_mod_eq
open Go.Maps
theorem aN.DC {w w':World} {B g nb kb ib cap:Nat} {A:St} {K T:bC→Option Value} (h:aN w B g nb kb ib cap A K T) (hf:dX (Fp g nb kb ib) w w'):RowKit.Below B w w':=by
 obtain⟨l1,l2,l3,l4,l5⟩:=h.pO
 obtain⟨m1,m2,m3⟩:=h.lo
 exact hf.below (by omega) (fun i hi=>by rcases hi with e | e | e | e<;>omega)
theorem BP.mono {w:World} {B g nb kb ib:Nat} {A:St} {F:ak.Fn} {P Q:ak.Fn→Prop} {e:Ending} {W':World} (h:BP w B g nb kb ib A F P e W') (hPQ:∀G,P G→Q G):BP w B g nb kb ib A F Q e W':=by
 obtain⟨dw,cap2,A2,K2,T2,h1,h2,h3,h4,h5,h6,h7⟩:=h
 exact⟨dw,cap2,A2,K2,T2,h1,h2,fun j a b=>hPQ _ (h3 j a b),h4,h5,h6,h7⟩
structure BS (w:World) (B g nb kb ib:Nat) (A:St) (P:ak.Fn→Prop) (w1:World) (bg aZ:Nat) (A1:St) (K1 T1:bC→Option Value):Prop where
 ext:Ext A A1
 nf:A1.full=false
 nw:∀j,A.len≤j→j<A1.len→P (den A1.ns j)
 ar:aN w1 B g bg kb ib aZ A1 K1 T1
 jc:bg=nb∨w.heap.size≤bg
 fm:dX (Fp g nb kb ib) w w1
def dM (A:St) (r:Nat) (F:ak.Fn):Prop:=r<A.ns.length∧den A.ns r=F
theorem dM.ext {A A':St} {r:Nat} {F:ak.Fn} (h:dM A r F) (i:Inv A) (he:Ext A A'):dM A' r F:=⟨Nat.lt_of_lt_of_le h.1 he.len,(he.den i h.1).trans h.2⟩
theorem dM.zero {A:St} (i:Inv A):dM A 0 (fun _=>false):=⟨by have:=i.ok.two;omega,iQ⟩
theorem dM.one {A:St} (i:Inv A):dM A 1 (fun _=>true):=⟨by have:=i.ok.two;omega,mM⟩
theorem BS.refl {w:World} {B g nb kb ib cap:Nat} {A:St} {K T:bC→Option Value} (h:aN w B g nb kb ib cap A K T) (hA:A.full=false) (P:ak.Fn→Prop):BS w B g nb kb ib A P w nb cap A K T:=
 ⟨Ext.refl h.inv,hA,fun j h1 h2=>by omega,h,.inl rfl,dX.refl _ _⟩
theorem BS.inv {w:World} {B g nb kb ib:Nat} {A:St} {P:ak.Fn→Prop} {w1:World} {bg aZ:Nat} {A1:St} {K1 T1:bC→Option Value} (h:BS w B g nb kb ib A P w1 bg aZ A1 K1 T1):Inv A1:=h.ar.inv
def Vn (A2:St) (F:ak.Fn) (e:Ending):Prop:=(∃r:Nat,e= .returned (.tuple #[.int .i64 (r:Int),.int .i64 0])∧dM A2 r F)∨(e= .returned (.tuple #[.int .i64 0,.int .i64 6])∧A2.len=A2.most)
theorem BS.step {w:World} {B g nb kb ib cap:Nat} {A:St} {K T:bC→Option Value} {P:ak.Fn→Prop} {w1 w2:World} {bg aZ:Nat} {A1:St} {K1 T1:bC→Option Value} {F:ak.Fn} {e:Ending} (h0:aN w B g nb kb ib cap A K T)
  (h:BS w B g nb kb ib A P w1 bg aZ A1 K1 T1) (hb:BP w1 B g bg kb ib A1 F P e w2):∃(dw cap2:Nat) (A2:St) (K2 T2:bC→Option Value),BS w B g nb kb ib A P w2 dw cap2 A2 K2 T2∧Ext A1 A2∧Vn A2 F e:=by
 obtain⟨dw,cap2,A2,K2,T2,h1,h2,h3,h4,h5,h6,h7⟩:=hb
 obtain⟨l1,l2,l3,l4,_⟩:=h0.pO
 have hs:=h.fm.size
 refine⟨dw,cap2,A2,K2,T2,⟨h.ext.trans h1,h2,fun j a b=>?_,h4,?_,h.fm.trans h6 (fun i hi hS=>?_)⟩,h1,?_⟩
 ·rcases Nat.lt_or_ge j A1.len with hl | hl
  ·rw[h1.den h.inv hl];exact h.nw j a hl
  ·exact h3 j hl b
 ·rcases h5 with e5 | e5
  ·rw[e5];exact h.jc
  ·exact .inr (by omega)
 ·rcases hS with e | e | e | e
  ·exact .inl e
  ·rcases h.jc with e' | e'
   ·exact .inr (.inl (e.trans e'))
   ·omega
  ·exact .inr (.inr (.inl e))
  ·exact .inr (.inr (.inr e))
 ·rcases h7 with⟨r,a,b,c⟩ | h7
  ·exact .inl ⟨r,a,b,c⟩
  ·exact .inr h7
theorem BS.out {w:World} {B g nb kb ib:Nat} {A:St} {P:ak.Fn→Prop} {w1:World} {bg aZ:Nat} {A1:St} {K1 T1:bC→Option Value} {F:ak.Fn} {e:Ending}
  (h:BS w B g nb kb ib A P w1 bg aZ A1 K1 T1) (hr:Vn A1 F e):BP w B g nb kb ib A F P e w1:=by
 refine⟨bg,aZ,A1,K1,T1,h.ext,h.nf,h.nw,h.ar,h.jc,h.fm,?_⟩
 rcases hr with⟨r,a,b,c⟩ | hr
 ·exact .inl ⟨r,a,b,c⟩
 ·exact .inr hr
theorem Aa {w:World} {B g nb kb ib cap:Nat} {A:St} {K T:bC→Option Value} (h:aN w B g nb kb ib cap A K T) (hA:A.full=false) {f a b:Nat} {F G H:ak.Fn} (hf:dM A f F) (ha:dM A a G) (hb:dM A b H) {P:ak.Fn→Prop} (hP:∀G',kS (bH F G H) G'→P G'):
  Calls Tryz.prog 184 #[.pointer (some ⟨g,0,none⟩),.int .i64 f,.int .i64 a,.int .i64 b] w (BP w B g nb kb ib A (bH F G H) P):=by
 refine(zR h f a b hf.1 ha.1 hb.1).mono fun e w' ho=>?_
 rw[hf.2,ha.2,hb.2]at ho
 exact ho.bp hA hP
theorem Vo {w:World} {B g nb kb ib cap:Nat} {A:St} {K T:bC→Option Value} (h:aN w B g nb kb ib cap A K T) (hA:A.full=false) {f a:Nat} {F G:ak.Fn} (hf:dM A f F) (ha:dM A a G) {P:ak.Fn→Prop} (hP:∀G',kS (bH F G (fun _=>false)) G'→P G'):
  Calls Tryz.prog 183 #[.pointer (some ⟨g,0,none⟩),.int .i64 f,.int .i64 a] w (BP w B g nb kb ib A (bH F G (fun _=>false)) P):=by
 refine(EA h f a hf.1 ha.1).mono fun e w' ho=>?_
 rw[hf.2,ha.2,iQ]at ho
 exact ho.bp hA hP
theorem Vp {w:World} {B g nb kb ib cap:Nat} {A:St} {K T:bC→Option Value} (h:aN w B g nb kb ib cap A K T) (hA:A.full=false) {f:Nat} {F:ak.Fn} (hf:dM A f F) {P:ak.Fn→Prop} (hP:∀G',kS (bH F (fun _=>false) (fun _=>true)) G'→P G'):
  Calls Tryz.prog 187 #[.pointer (some ⟨g,0,none⟩),.int .i64 f] w (BP w B g nb kb ib A (bH F (fun _=>false) (fun _=>true)) P):=by
 have HC:Hid (Calls Tryz.prog 184 #[.pointer (some ⟨g,0,none⟩),.int .i64 f,.int .i64 0,.int .i64 1] w (BP w B g nb kb ib A (bH F (fun _=>false) (fun _=>true)) P)):=hide (Aa h hA hf (dM.zero h.inv) (dM.one h.inv) hP)
 clear h hf hP hA
 go_enter Tryz.func187,Tryz.ntmps187
 go_wp2_with fail
 refine HC.out.mono ?_
 rintro e wc hop
 have HF:=hide hop
 obtain⟨_,_,_,_,_,_,_,_,_,_,_,hres⟩:=hop
 rcases hres with⟨r,rfl,_⟩ | ⟨rfl,_⟩
 all_goals
  go_wp2
  go_ret2
  exact HF.out
theorem Y5 {w:World} {B g nb kb ib cap:Nat} {A:St} {K T:bC→Option Value} (h:aN w B g nb kb ib cap A K T) (hA:A.full=false) {f a:Nat} {F G:ak.Fn} (hf:dM A f F) (ha:dM A a G) {P:ak.Fn→Prop} (hP:∀G',kS (bH F (fun _=>true) G) G'→P G'):
  Calls Tryz.prog 179 #[.pointer (some ⟨g,0,none⟩),.int .i64 f,.int .i64 a] w (BP w B g nb kb ib A (bH F (fun _=>true) G) P):=by
 have HC:Hid (Calls Tryz.prog 184 #[.pointer (some ⟨g,0,none⟩),.int .i64 f,.int .i64 1,.int .i64 a] w (BP w B g nb kb ib A (bH F (fun _=>true) G) P)):=hide (Aa h hA hf (dM.one h.inv) ha hP)
 clear h hf ha hP hA
 go_enter Tryz.func179,Tryz.ntmps179
 go_wp2_with fail
 refine HC.out.mono ?_
 rintro e wc hop
 have HF:=hide hop
 obtain⟨_,_,_,_,_,_,_,_,_,_,_,hres⟩:=hop
 rcases hres with⟨r,rfl,_⟩ | ⟨rfl,_⟩
 all_goals
  go_wp2
  go_ret2
  exact HF.out
end Go.Proofs.YtlhmdcgckocidaaGreat
