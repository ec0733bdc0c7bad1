/- A part of the proof: G1, St1. -/
import Derived.Test.YtifkacnoiocebaaDoorRows
import Derived.ProofKit
import Derived.SizedLaws
import Derived.Laws.BitsAllLaws
import Derived.Laws.BitsLemmas
import Derived.WalkKit
import Derived.Outline
import Derived.BigQuiet
import Derived.Lib.Hide
import Derived.WalkLawsBesides
import Derived.Below
import Derived.Lib.SmallJoins
import Derived.OpenShut
import Derived.Laws.OwnMore
import Derived.Deep.AppendLies
import Derived.Deep.Draws
import Derived.Maps.AppendAt
import Derived.RegionTactic
import Derived.OwnWalk
import Derived.WalkSpells
import Derived.Deep.Slices
import Derived.Deep.Fields
import Derived.JoinedCond
set_option linter.unusedVariables false
set_option linter.unusedSimpArgs false
set_option maxRecDepth 100000
set_option maxHeartbeats 4000000
namespace Go.Proofs.YtifkacnoiocebaaDoor
theorem aJ {α:Type} {l:List α} {i:Nat} {a:α} :l.toArray.setIfInBounds i a=(l.set i a).toArray :=List.setIfInBounds_toArray _ _ _
theorem aK {α:Type} {x:α} {xs:List α} {a:α} :(x::xs).set 0 a=a::xs:=List.set_cons_zero
theorem aL {α:Type} {x:α} {xs:List α} {n:Nat} {a:α} :(x::xs).set (n+1) a=x::xs.set n a:=List.set_cons_succ
open Go.ChangeAt Go.ChangeShapes Go.RowKit Go.WideShapes
theorem Tryd.own:ownKnob Tryd.prog.godebug=none:=by kernel_rfl
theorem Tryd.laidOut:laidOutB Tryd.prog=true:=by kernel_rfl
section
variable {H:Type} {enc:TypeId×Value→H} {P:Program}
theorem vV (hl:laidOutB P=true) {W W':World} (hb:Below W.heap.size W W'):∀(ts:List TypeId) (vs:List Value) (ds:List (DataW H)) (ps:List MemPlace),
  (ts.all fun t=>P.readableRec t && decide (t<P.types.size))=true→DataW.TrodAll enc P W 0 (fun _=>true) true ts vs ds ps→(∀x∈ps,x.block<W.heap.size)→
  DataW.TrodAll enc P W' 0 (fun b=>decide (b<W.heap.size)) true ts vs ds ps:=by
 intro ts
 induction ts with
 |nil=>intro vs ds ps _ h _;cases vs<;>cases ds<;>first | exact h | exact h.elim
 |cons t ts ih=>
  intro vs ds ps hr h hlt
  match vs,ds,h with
  |v::vs,d::ds,h=>
   obtain⟨p,q,h1,h2,rfl⟩:=h
   simp only[List.all_cons,Bool.and_eq_true,decide_eq_true_eq]at hr
   exact⟨p,q,Below.trod hl hr.1.1 hr.1.2 h1 hb (fun x hx=>hlt x (List.mem_append_left _ hx)),ih vs ds q (by simpa using hr.2) h2 (fun x hx=>hlt x (List.mem_append_right _ hx)),rfl⟩
theorem trodAll_length {w:World} {base:Nat} {spare:Nat→Bool} {held:Bool} :∀(ts:List TypeId) (vs:List Value) (ds:List (DataW H)) (ps:List MemPlace),DataW.TrodAll enc P w base spare held ts vs ds ps→ds.length=ts.length:=by
 intro ts
 induction ts with
 |nil=>intro vs ds ps h;cases vs<;>cases ds<;>first | rfl | exact h.elim
 |cons t ts ih=>
  intro vs ds ps h
  match vs,ds,h with
  |v::vs,d::ds,h=>
   obtain⟨p,q,h1,h2,rfl⟩:=h
   simp[ih vs ds q h2]
theorem Ce {fn:Func} {s:ChangeSpec} {W W':World} {args:Array Value} {ds gs:List (DataW H)} {before:List MemPlace} {tb:TypeId} (hl:laidOutB P=true)
  (hread:(fn.params.toList.all fun t=>P.readableRec t && decide (t<P.types.size))=true) (hv:s.vars=[]) (hr:fn.resultTypes=#[tb]) (zL:P.underlying tb=some .bool)
  (hs:∀ds:List (DataW H),ds.length=fn.params.size→(s.fn H (ds++[])).results =[.lit (.bool true)]∧(s.fn H (ds++[])).args =ds∧(s.fn H (ds++[])).vars =[])
  (hW:DataW.Whole enc P fn.params.toList s.vars false W args.toList ds gs before) (hb:Below W.heap.size W W'):
  s.post enc P fn false true false false W args (.bool true) W':=by
 have hlt:∀p∈before,p.block<W.heap.size:=fun p hp=>hW.lt p hp
 have hW':=hW
 obtain⟨p,q,hA,hV,rfl,hfz,hnd⟩:=hW
 have Hu:gs=[]∧q=[]:=by
  rw[hv]at hV
  cases gs with
  |nil=>exact⟨rfl,hV⟩
  |cons=>exact hV.elim
 obtain⟨rfl,rfl⟩:=Hu
 have hlen:ds.length=fn.params.size:=by rw[trodAll_length _ _ _ _ hA];simp
 obtain⟨e1,e2,e3⟩:=hs ds hlen
 refine⟨ds,[],p++[],[],p,[],hW',?_,?_,?_,World.keptBut_mono (fun p hp=>?_) (hb.frame (·∈p++[])),fun h=>by cases h⟩
 ·rw[e1,hr]
  exact trodAll_mk1 (shut_bool zL _)
 ·rw[e2]
  exact vV hl hb _ _ _ _ hread hA (fun x hx=>hlt x (List.mem_append_left _ hx))
 ·rw[e3,hv]
  rfl
 ·exact⟨hp,by simpa using hp⟩
end
end Go.Proofs.YtifkacnoiocebaaDoor
namespace Go.Proofs.YtifkacnoiocebaaDoor
open Go.RowKit
theorem iX (n a:Nat) (ha:a<2 ^ n):(BitVec.ofInt n (a:Int)).toNat =a:=by
 rw[BitVec.ofInt_natCast,BitVec.toNat_ofNat];exact Nat.mod_eq_of_lt ha
theorem u16_and (a b:Nat) (ha:a<65536) (hb:b<65536):bits .and .u16 (a:Int) (b:Int)=((a &&& b:Nat):Int):=by
 have hx:a &&& b<2 ^ 16:=Nat.and_lt_two_pow _ (by omega)
 show IntKind.u16.wrap ((BitVec.ofInt 16 (a:Int) &&& BitVec.ofInt 16 (b:Int)).toNat :Int)=_
 rw[BitVec.toNat_and,iX 16 a ha,iX 16 b hb]
 simp only[IntKind.wrap,IntKind.signed,IntKind.bits]
 simp
 omega
theorem u8_and (a b:Nat) (ha:a<256) (hb:b<256):bits .and .u8 (a:Int) (b:Int)=((a &&& b:Nat):Int):=by
 have hx:a &&& b<2 ^ 8:=Nat.and_lt_two_pow _ (by omega)
 show IntKind.u8.wrap ((BitVec.ofInt 8 (a:Int) &&& BitVec.ofInt 8 (b:Int)).toNat :Int)=_
 rw[BitVec.toNat_and,iX 8 a ha,iX 8 b hb]
 simp only[IntKind.wrap,IntKind.signed,IntKind.bits]
 simp
 omega
theorem u16_or (a b:Nat) (ha:a<65536) (hb:b<65536):bits .or .u16 (a:Int) (b:Int)=((a ||| b:Nat):Int):=by
 have hx:a ||| b<2 ^ 16:=Nat.or_lt_two_pow (by omega) (by omega)
 show IntKind.u16.wrap ((BitVec.ofInt 16 (a:Int) ||| BitVec.ofInt 16 (b:Int)).toNat :Int)=_
 rw[BitVec.toNat_or,iX 16 a ha,iX 16 b hb]
 simp only[IntKind.wrap,IntKind.signed,IntKind.bits]
 simp
 omega
theorem u8_or (a b:Nat) (ha:a<256) (hb:b<256):bits .or .u8 (a:Int) (b:Int)=((a ||| b:Nat):Int):=by
 have hx:a ||| b<2 ^ 8:=Nat.or_lt_two_pow (by omega) (by omega)
 show IntKind.u8.wrap ((BitVec.ofInt 8 (a:Int) ||| BitVec.ofInt 8 (b:Int)).toNat :Int)=_
 rw[BitVec.toNat_or,iX 8 a ha,iX 8 b hb]
 simp only[IntKind.wrap,IntKind.signed,IntKind.bits]
 simp
 omega
theorem rJ (s k:Nat):(s / 2 ^ k &&& 1==1)=s.testBit k:=by
 rw[Nat.testBit_eq_decide_div_mod_eq,Nat.and_one_is_mod]
 by_cases h:s / 2 ^ k % 2=1<;>simp[h]
theorem qo (s k:Nat):((s:Int) / 2 ^ k)=((s / 2 ^ k:Nat):Int):=by
 rw[Int.natCast_ediv];simp
theorem zi (s k:Nat) (hs:s<65536):(bits .and .u16 ((s:Int) / 2 ^ k) 1==1)=s.testBit k:=by
 have h1:s / 2 ^ k<65536:=Nat.lt_of_le_of_lt (Nat.div_le_self _ _) hs
 have:=u16_and (s / 2 ^ k) 1 h1 (by omega)
 rw[qo,show(1:Int)=((1:Nat):Int)from rfl,this,← rJ]
 by_cases h:s / 2 ^ k &&& 1=1
 ·simp[h]
 ·rw[Bool.eq_iff_iff]
  simp only[beq_iff_eq]
  omega
theorem AP (s k:Nat) (hs:s<256):(bits .and .u8 ((s:Int) / 2 ^ k) 1==1)=s.testBit k:=by
 have h1:s / 2 ^ k<256:=Nat.lt_of_le_of_lt (Nat.div_le_self _ _) hs
 have:=u8_and (s / 2 ^ k) 1 h1 (by omega)
 rw[qo,show(1:Int)=((1:Nat):Int)from rfl,this,← rJ]
 by_cases h:s / 2 ^ k &&& 1=1
 ·simp[h]
 ·rw[Bool.eq_iff_iff]
  simp only[beq_iff_eq]
  omega
open Go.ChangeAt Go.ChangeShapes Go.WideShapes
structure M4 where
 src:Nat
 dst:Nat
 eT:Nat
 eU:Nat
structure P4 where
 src:Int
 dst:Int
 eT:Int
 eU:Int
def M4.ok (m:M4):Prop:=m.src<65536∧m.dst<65536∧m.eT<256∧m.eU<256
def bB (n:Int):Prop:= -9223372036854775808≤n∧n≤9223372036854775807
end Go.Proofs.YtifkacnoiocebaaDoor
namespace Go.Proofs.YtifkacnoiocebaaDoor
open Go.RowKit
theorem vW {P:Program} {T:Type} (g:T→World) {id:Nat} {Q:Exit→Act→World→Prop} {a:Act} {w:World} {l:List Oper} (hm:P.follows .mixedOrders =true) (hB:Region.lexB .any l.toArray=true)
  (h0:∃t,{ w with drawn:=w.drawn+1 }=g t) (h:wpQuiet P l.toArray (fun w'=>∃t,w'=g t) (fun a'=>∀w',(∃t,w'=g t)→Q .normal a' w') l a):(Code.region id l.toArray true).wp P Q a w:=
 wp_region_quiet (C:=fun w'=>∃t,w'=g t) hm hB h0 (by simpa using h)
theorem aU {P:Program} {id:Nat} {Q:Exit→Act→World→Prop} {a:Act} {w:World} {l:List Oper} (hm:P.follows .mixedOrders =true) (hB:Region.lexB .any l.toArray=true)
  (h:∀(T:Type) [Nonempty T] (g:T→World),(∀t,Below w.heap.size w (g t))→(∀w',Below w.heap.size w w'→∃t,w'=g t)→
   wpQuiet P l.toArray (fun w'=>∃t,w'=g t) (fun a'=>∀w',(∃t,w'=g t)→Q .normal a' w') l a):(Code.region id l.toArray true).wp P Q a w:=
 vW (T:={ w':World // Below w.heap.size w w' }) Subtype.val hm hB ⟨⟨w.drew,(Below.refl _ _).drew⟩,rfl⟩ (@h { w':World // Below w.heap.size w w' } ⟨⟨w,Below.refl _ _⟩⟩ Subtype.val Subtype.property (fun w' hw=>⟨⟨w',hw⟩,rfl⟩))
theorem sW {P:Program} {f:FuncId} {args:Array Value} {W:World} {T:Type} {g:T→World} (hg:∀t,Below W.heap.size W (g t)) (hgi:∀w',Below W.heap.size W w'→∃t,w'=g t) {t:T} {v:Value}
  (h:Calls P f args (g t) fun e w'=>e= .returned v∧Below (g t).heap.size (g t) w'):Calls P f args (g t) fun e w''=>e= .returned v∧∃s,w''=g s:=
 h.mono fun _ w' ⟨he,hw⟩=>⟨he,hgi w' ((hg t).trans (hw.mono (hg t).size))⟩
theorem bX {P:Program} {f:FuncId} {args:Array Value} {T:Type} {g:T→World} {t:T} {v:Value} (h:Calls P f args (g t) fun e w'=>e= .returned v∧g t=w'):
  Calls P f args (g t) fun e w''=>e= .returned v∧∃s,w''=g s:=
 h.mono fun _ w' ⟨he,hw⟩=>⟨he,⟨t,hw.symm⟩⟩
theorem hide {p:Prop} (h:p):Hid p:=h
open Go.ChangeAt Go.ChangeShapes Go.Joins Go.WideShapes
theorem Tryd.cellsMatch:Tryd.prog.cellsOf 61=4:=by kernel_rfl
section
variable {H:Type} {enc:TypeId×Value→H} {w:World} {base:Nat} {spare:Nat→Bool} {held:Bool} {r:Reach} {b0:Nat}
theorem zM {k:Int} (h:(Lit.int .u16 k).wf =true):∃n:Nat,k=n∧n<65536:=by
 have hx:0≤k∧k≤65535:=by simpa[Lit.wf,IntKind.min,IntKind.max,IntKind.signed,IntKind.bits]using h
 exact⟨k.toNat,by omega,by omega⟩
theorem AQ {k:Int} (h:(Lit.int .u8 k).wf =true):∃n:Nat,k=n∧n<256:=by
 have hx:0≤k∧k≤255:=by simpa[Lit.wf,IntKind.min,IntKind.max,IntKind.signed,IntKind.bits]using h
 exact⟨k.toNat,by omega,by omega⟩
theorem wG {k:Int} (h:(Lit.int .i64 k).wf =true):bB k:=by
 have hx: -9223372036854775808≤k∧k≤9223372036854775807:=by simpa[Lit.wf,IntKind.min,IntKind.max,IntKind.signed,IntKind.bits]using h
 exact hx
theorem wH {n:Nat} {v:Value} {y:DataW H×List MemPlace} (h:DataW.trod enc Tryd.prog w base spare held n 59 [v]=some y):∃k:Nat,v= .int .u16 k∧k<65536:=by
 obtain⟨a,e0,rfl,wa⟩:=DataW.trod_int Tryd.underlying59 h
 obtain⟨k,rfl,hk⟩:=zM wa
 exact⟨k,by simpa using e0,hk⟩
theorem uz {n:Nat} {v:Value} {y:DataW H×List MemPlace} (h:DataW.trod enc Tryd.prog w base spare held n 5 [v]=some y):∃k:Nat,v= .int .u8 k∧k<256:=by
 obtain⟨a,e0,rfl,wa⟩:=DataW.trod_int Tryd.underlying5 h
 obtain⟨k,rfl,hk⟩:=AQ wa
 exact⟨k,by simpa using e0,hk⟩
theorem jc {n:Nat} {v:Value} {y:DataW H×List MemPlace} (h:DataW.trod enc Tryd.prog w base spare held n 3 [v]=some y):∃k:Int,v= .int .i64 k∧bB k:=by
 obtain⟨a,e0,rfl,wa⟩:=DataW.trod_int Tryd.underlying3 h
 exact⟨a,by simpa using e0,wG wa⟩
end
theorem Cg {H:Type} {enc:TypeId×Value→H} {P:Program} {w:World} {base:Nat} {sp:Nat→Bool} {hd:Bool} {vs:List Value} {ds:List (DataW H)} {p:List MemPlace} (h:DataW.TrodAll enc P w base sp hd [] vs ds p):vs=[]∧ds=[]∧p=[]:=by
 cases vs<;>cases ds<;>first | exact⟨rfl,rfl,h⟩ | exact h.elim
theorem uT {H:Type} {enc:TypeId×Value→H} {P:Program} {w:World} {base:Nat} {sp:Nat→Bool} {hd:Bool} {t:TypeId} {ts:List TypeId} {vs:List Value} {ds:List (DataW H)} {p:List MemPlace} (h:DataW.TrodAll enc P w base sp hd (t::ts) vs ds p):
  ∃v vs' d ds' p0 q,vs=v::vs'∧ds=d::ds'∧p=p0++q∧DataW.Trod enc P w base sp hd t v d p0∧DataW.TrodAll enc P w base sp hd ts vs' ds' q:=by
 match vs,ds,h with
 |v::vs,d::ds,h=>
  obtain⟨p0,q,h1,h2,rfl⟩:=h
  exact⟨v,vs,d,ds,p0,q,rfl,rfl,rfl,h1,h2⟩
theorem AR {a b:Array Value} (h:a.toList=b.toList):a=b:=by cases a;cases b;simp_all
end Go.Proofs.YtifkacnoiocebaaDoor
namespace Go.Proofs.YtifkacnoiocebaaDoor
open Go.ChangeAt Go.ChangeShapes Go.RowKit Go.WideShapes
structure aW where
 permit:Bool
 m:M4
def aW.ok (r:aW):Prop:=r.m.ok
def aW.cells (r:aW):List Value:=[.bool r.permit,.int .u16 r.m.src,.int .u16 r.m.dst,.int .u8 r.m.eT,.int .u8 r.m.eU]
def qp (w:World) (b o:Nat) (r:aW):Prop:=
 w.cell? ⟨b,o,none⟩=some (.bool r.permit)∧w.cell? ⟨b,o+1,none⟩=some (.int .u16 r.m.src)∧w.cell? ⟨b,o+2,none⟩=some (.int .u16 r.m.dst)∧
  w.cell? ⟨b,o+3,none⟩=some (.int .u8 r.m.eT)∧w.cell? ⟨b,o+4,none⟩=some (.int .u8 r.m.eU)
theorem qp.below {w w':World} {B b o:Nat} {r:aW} (h:qp w b o r) (hB:Below B w w') (hb:b<B):qp w' b o r:=by
 unfold qp at*
 have e:∀o,w'.cell? ⟨b,o,none⟩=w.cell? ⟨b,o,none⟩:=fun o=>hB.cell (p:=⟨b,o,none⟩) hb
 rw[e,e,e,e,e]
 exact h
def jv (w:World) (B:Nat) (A:Option Addr) (n:Nat) (l:List aW):Prop:=
 l.length=n∧(∀r∈l,r.ok)∧(0<n→∃b o,A=some ⟨b,o,none⟩∧b<B∧∀(k:Nat) (r:aW),l[k]?=some r→qp w b (o+k*5) r)
theorem jv.below {w w':World} {B B' n:Nat} {A:Option Addr} {l:List aW} (h:jv w B A n l) (hB:Below B w w') (hB':B≤B'):jv w' B' A n l:=
 ⟨h.1,h.2.1,fun h0=>by
  obtain⟨b,o,e,hb,hg⟩:=h.2.2 h0
  exact⟨b,o,e,by omega,fun k r hr=>(hg k r hr).below hB hb⟩⟩
theorem jv.wI {w:World} {B n:Nat} {A:Option Addr} {l:List aW} (h:jv w B A n l) {k:Nat} {r:aW} (hr:l[k]?=some r):r.ok:=h.2.1 r (List.mem_of_getElem? hr)
def iD {α:Type} (p:α→Bool) (l:List α):Int:=match l.findIdx? p with | some k=>(k:Int) | none=> -1
theorem mK {α:Type} {p:α→Bool} {l:List α} {k:Nat} {r:α} (hr:l[k]?=some r) (hp:p r=true) (hno:∀j r,j<k→l[j]?=some r→p r=false):iD p l=k:=by
 have hk:=(List.getElem?_eq_some_iff.1 hr).1
 have:l.findIdx? p=some k:=by
  rw[List.findIdx?_eq_some_iff_getElem]
  refine⟨hk,?_,fun j hj=>?_⟩
  ·have:=(List.getElem?_eq_some_iff.1 hr).2;rw[this];exact hp
  ·have:=hno j _ hj (List.getElem?_eq_getElem (by omega));simp[this]
 simp[iD,this]
theorem qw {α:Type} {p:α→Bool} {l:List α} (hno:∀j r,j<l.length→l[j]?=some r→p r=false):iD p l= -1:=by
 have:l.findIdx? p=none:=by
  rw[List.findIdx?_eq_none_iff]
  intro x hx
  obtain⟨j,hj⟩:=List.getElem?_of_mem hx
  exact hno j x (List.getElem?_eq_some_iff.1 hj).1 hj
 simp[iD,this]
theorem mU {a b:Int} (h:a=b):Ending.returned (.int .i64 a)= .returned (.int .i64 b):=by rw[h]
theorem mM {α:Type} (p:α→Bool) (l:List α):(∃(k:Nat) (r:α),iD p l=k∧k<l.length∧l[k]?=some r∧p r=true∧∀j r,j<k→l[j]?=some r→p r=false)∨(iD p l= -1∧∀r∈l,p r=false):=by
 cases h:l.findIdx? p with
 |none=>exact .inr ⟨by simp[iD,h],fun r hr=>by simpa using(List.findIdx?_eq_none_iff.1 h) r hr⟩
 |some k=>
  obtain⟨hk,h1,h2⟩:=List.findIdx?_eq_some_iff_getElem.1 h
  refine .inl ⟨k,l[k],by simp[iD,h],hk,List.getElem?_eq_getElem hk,h1,fun j r hj hr=>?_⟩
  have:=h2 j hj
  rw[List.getElem?_eq_getElem (by omega)]at hr
  cases hr
  simpa using this
end Go.Proofs.YtifkacnoiocebaaDoor
namespace Go.Proofs.YtifkacnoiocebaaDoor
open Go.RowKit
def Reads (w:World) (B size:Nat) (A:Option Addr) (n:Nat) (xs:List Value):Prop:=
 xs.length=n*size∧(0<n→∃ad,A=some ad∧ad.block<B∧∀j u,xs[j]?=some u→w.cell? (ad.add j)=some u)
section
variable {w w':World} {B B' size n:Nat} {A:Option Addr} {xs:List Value}
end
section
variable {P:Program} (w:World)
theorem rG (base:Nat) (t ty e:TypeId) (i:TypeInfo) (size:Nat) (ht:P.underlying t=some (.slice e)) (hi:P.info? e=some i)
  (v:Value) (n:Nat) (xs:List Value) (hown:w.ownsRow base e size v n xs) (c:Nat):(Builtin.append_ #[t,t] ty #[v,.slice none 0 c]).run P w= .ok v w:=by
 rcases hown.2 with⟨rfl,rfl⟩ | ⟨g,cap,cur,rfl,_,_,hnc,_⟩
 ·simp[Builtin.append_,run_underlying ht,sizeOf,typeInfo,hi,Builtin.lenOf,Builtin.firstCells]
 ·simp[Builtin.append_,run_underlying ht,sizeOf,typeInfo,hi,Builtin.lenOf,Builtin.firstCells,hnc,storeCells]
theorem uD (base:Nat) (t ty e:TypeId) (i:TypeInfo) (z:Value) (size bytes:Nat) (ht:P.underlying t=some (.slice e)) (hi:P.info? e=some i) (hz:i.zero=some z)
  (hsize:i.size=size) (hby:i.bytes=bytes) (hzs:z.cells.size=size) (hsz:0<size)
  (v:Value) (n:Nat) (xs:List Value) (hown:w.ownsRow base e size v n xs)
  (B:Nat) (A:Option Addr) (m c:Nat) (news:List Value) (hr:Reads w B size A m news) (h1:∀u∈news,u.oneCell'=true)
  (h63:n+m≤maxLen) (hbytes:(n+m)*bytes≤140737488355328) (hbase:base≤w.heap.size):
  ∃v' w',(Builtin.append_ #[t,t] ty #[v,.slice A m c]).run P w= .ok v' w'∧w'.ownsRow base e size v' (n+m) (xs++news)∧w.grownBy w' v.ownBlock∧
   (v'.ownBlock=v.ownBlock∨v'.ownBlock=some w.heap.size):=by
 rcases A with _ | ad
 ·have hm:m=0:=by
   rcases Nat.eq_zero_or_pos m with h0 | h0
   ·exact h0
   ·obtain⟨ad,h,_⟩:=hr.2 h0
    cases h
  subst hm
  have hn:news=[]:=List.eq_nil_of_length_eq_zero (by simpa using hr.1)
  subst hn
  exact⟨v,w,rG w base t ty e i size ht hi v n xs hown c,by simpa using hown,World.grownBy.refl w _,.inl rfl⟩
 ·have hcells:∀j u,news[j]?=some u→w.cell? (ad.add j)=some u:=by
   intro j u hu
   rcases Nat.eq_zero_or_pos m with h0 | h0
   ·subst h0
    have hn:news=[]:=List.eq_nil_of_length_eq_zero (by simpa using hr.1)
    subst hn
    simp at hu
   ·obtain⟨El,h,_,hc⟩:=hr.2 h0
    injection h with h
    subst h
    exact hc j u hu
  obtain⟨v',w',hrun,h2,h3,_,h5⟩:=run_append_own_at (P:=P) w base t ty e i z size bytes ht hi hz hsize hby hzs hsz v n xs hown ad m c news hr.1 hcells h1 h63 hbytes hbase
  exact⟨v',w',hrun,h2,h3,h5⟩
theorem bG {o:Oper} {a:Act} {K:Act→World→Prop} {Q:Exit→Act→World→Prop} (s x:Operand) (t:TypeId)
  (ho:o.op= .call { callee:=.builtin .append,args:=#[s,x],argTypes:=#[t,t] })
  (base:Nat) (e:TypeId) (i:TypeInfo) (z:Value) (size bytes:Nat) (ht:P.underlying t=some (.slice e)) (hi:P.info? e=some i) (hz:i.zero=some z)
  (hsize:i.size=size) (hby:i.bytes=bytes) (hzs:z.cells.size=size) (hsz:0<size)
  (v:Value) (n:Nat) (xs:List Value) (hs:a.eval s=v) (hown:w.ownsRow base e size v n xs)
  (B:Nat) (A:Option Addr) (m c:Nat) (news:List Value) (hx:a.eval x= .slice A m c) (hr:Reads w B size A m news) (h1:∀u∈news,u.oneCell'=true)
  (h63:n+m≤maxLen) (hbytes:(n+m)*bytes≤140737488355328) (hbase:base≤w.heap.size)
  (h:∀v' w',w'.ownsRow base e size v' (n+m) (xs++news)→w.grownBy w' v.ownBlock→(v'.ownBlock=v.ownBlock∨v'.ownBlock=some w.heap.size)→K (a.put o.dst v') w'):o.wp P a w K Q:=by
 obtain⟨v',w',hrun,h2,h3,h4⟩:=uD (P:=P) w base t o.type e i z size bytes ht hi hz hsize hby hzs hsz v n xs hown B A m c news hr h1 h63 hbytes hbase
 unfold Oper.wp execOp
 simp only[ho,resolve,invoke,builtin,Sem.run_bind,Sem.run_pure,Result.andThen_ok,List.map_toArray,List.map_cons,List.map_nil,hs,hx,hrun]
 exact h v' w' h2 h3 h4
theorem aY {ops:Array Oper} {rest:List Oper} {o:Oper} {a:Act} {Q:Exit→Act→World→Prop} (hgd:o.guard=none) (s x:Operand) (t:TypeId)
  (ho:o.op= .call { callee:=.builtin .append,args:=#[s,x],argTypes:=#[t,t] })
  (base:Nat) (e:TypeId) (i:TypeInfo) (z:Value) (size bytes:Nat) (ht:P.underlying t=some (.slice e)) (hi:P.info? e=some i) (hz:i.zero=some z)
  (hsize:i.size=size) (hby:i.bytes=bytes) (hzs:z.cells.size=size) (hsz:0<size)
  (v:Value) (n:Nat) (xs:List Value) (hs:a.eval s=v) (hown:w.ownsRow base e size v n xs)
  (B:Nat) (A:Option Addr) (m c:Nat) (news:List Value) (hx:a.eval x= .slice A m c) (hr:Reads w B size A m news) (h1:∀u∈news,u.oneCell'=true)
  (h63:n+m≤maxLen) (hbytes:(n+m)*bytes≤140737488355328) (hbase:base≤w.heap.size)
  (h:∀v' w',w'.ownsRow base e size v' (n+m) (xs++news)→w.grownBy w' v.ownBlock→(v'.ownBlock=v.ownBlock∨v'.ownBlock=some w.heap.size)→wpList P ops Q rest (a.put o.dst v') w'):wpList P ops Q (o::rest) a w:=
 wpList_plain hgd fun _ hK=>bG w s x t ho base e i z size bytes ht hi hz hsize hby hzs hsz v n xs hs hown B A m c news hx hr h1 h63 hbytes hbase fun v' w' h2 h3 h4=>hK _ _ (h v' w' h2 h3 h4)
end
def bN {α:Type} (cells:α→List Value) (s:Nat) (w:World) (B:Nat) (A:Option Addr) (n:Nat) (l:List α):Prop:=
 l.length=n∧(0<n→∃b o,A=some ⟨b,o,none⟩∧b<B∧∀(k:Nat) (r:α),l[k]?=some r→∀(j:Nat) (v:Value),(cells r)[j]?=some v→w.cell? ⟨b,o+k*s+j,none⟩=some v)
section
variable {α:Type} {cells:α→List Value} {s:Nat} {w w':World} {B B' n:Nat} {A:Option Addr} {l:List α}
theorem bN.below (h:bN cells s w B A n l) (hB:Below B w w') (hB':B≤B'):bN cells s w' B' A n l:=
 ⟨h.1,fun h0=>by
  obtain⟨b,o,e,hb,hg⟩:=h.2 h0
  exact⟨b,o,e,by omega,fun k r hr j v hv=>(hB.cell (p:=⟨b,_,none⟩) hb).trans (hg k r hr j v hv)⟩⟩
theorem bN.get {b o k:Nat} {r:α} (h:bN cells s w B (some ⟨b,o,none⟩) n l) (hr:l[k]?=some r):b<B∧∀(j:Nat) (v:Value),(cells r)[j]?=some v→w.cell? ⟨b,o+k*s+j,none⟩=some v:=by
 have hk:k<n:=by
  have:=(List.getElem?_eq_some_iff.1 hr).1
  have:=h.1
  omega
 obtain⟨b',o',e,hb,hg⟩:=h.2 (by omega)
 cases e
 exact⟨hb,hg k r hr⟩
theorem flat_get (hs:∀r,(cells r).length =s):∀(l:List α) (k:Nat) (r:α) (j:Nat) (v:Value),l[k]?=some r→(cells r)[j]?=some v→(l.flatMap cells)[k*s+j]?=some v:=by
 intro l
 induction l with
 |nil=>intro k r j v h;simp at h
 |cons a l ih=>
  intro k r j v hr hv
  rw[List.flatMap_cons]
  match k with
  |0=>
   have:a=r:=by simpa using hr
   subst this
   have hj:=(List.getElem?_eq_some_iff.1 hv).1
   rw[List.getElem?_append_left (by omega)]
   simpa using hv
  |k+1=>
   have e:(k+1)*s+j=(cells a).length +(k*s+j):=by rw[hs,Nat.succ_mul];omega
   rw[e,List.getElem?_append_right (by omega),Nat.add_sub_cancel_left]
   exact ih k r j v (by simpa using hr) hv
theorem addr_add (b o j:Nat):(⟨b,o,none⟩:Addr).add j=⟨b,o+j,none⟩:=by
 unfold Addr.add
 split
 ·rename_i h;subst h;rfl
 ·rfl
theorem bN.jZ {base e:Nat} {v:Value} (hs:∀r,(cells r).length =s) (h:w.ownsRow base e s v n (l.flatMap cells)) (hl:l.length=n):
  ∃A c,v= .slice A n c∧n≤c∧bN cells s w w.heap.size A n l∧(∀a,A=some a→base≤a.block):=by
 rcases h.2 with⟨rfl,rfl⟩ | ⟨g,cap,cur,rfl,hg,hh,hnc,_⟩
 ·exact⟨none,0,rfl,Nat.le_refl _,⟨hl,fun h=>absurd h (by omega)⟩,fun a h=>by cases h⟩
 ·refine⟨_,cap,rfl,hnc,⟨hl,fun h0=>⟨g,0,rfl,(Array.getElem?_eq_some_iff.1 hh).1,fun k r hr j u hu=>?_⟩⟩,fun a h=>by cases h;exact hg⟩
  have:=h.cells (g:=g) rfl (k*s+j) u (flat_get hs l k r j u hr hu)
  rw[addr_add]at this
  rw[Nat.zero_add]at this ⊢
  exact this
end
open Go.ChangeAt Go.ChangeShapes Go.WideShapes
theorem aW.len (r:aW):r.cells.length=5:=rfl
theorem aW.one (r:aW):∀u∈r.cells,u.oneCell'=true:=by
 intro u hu
 simp only[aW.cells,List.mem_cons,List.not_mem_nil,or_false]at hu
 rcases hu with rfl | rfl | rfl | rfl | rfl<;>rfl
theorem jv.sl {w:World} {B n:Nat} {A:Option Addr} {l:List aW} (h:jv w B A n l):bN aW.cells 5 w B A n l:=
 ⟨h.1,fun h0=>by
  obtain⟨b,o,e,hb,hg⟩:=h.2.2 h0
  refine⟨b,o,e,hb,fun k r hr j v hv=>?_⟩
  obtain⟨q0,q1,q2,q3,q4⟩:=hg k r hr
  match j,hv with
  |0,hv=>cases hv;exact q0
  |1,hv=>cases hv;exact q1
  |2,hv=>cases hv;exact q2
  |3,hv=>cases hv;exact q3
  |4,hv=>cases hv;exact q4⟩
theorem bN.rules {w:World} {B n:Nat} {A:Option Addr} {l:List aW} (h:bN aW.cells 5 w B A n l) (hok:∀r∈l,r.ok):jv w B A n l:=
 ⟨h.1,hok,fun h0=>by
  obtain⟨b,o,e,hb,hg⟩:=h.2 h0
  exact⟨b,o,e,hb,fun k r hr=>⟨hg k r hr 0 _ rfl,hg k r hr 1 _ rfl,hg k r hr 2 _ rfl,hg k r hr 3 _ rfl,hg k r hr 4 _ rfl⟩⟩⟩
theorem Tryd.infoRule:(Tryd.prog.info? 63).map (fun i=>(i.zero,i.size,i.bytes))=some (some (.agg #[.bool false,.int .u16 0,.int .u16 0,.int .u8 0,.int .u8 0]),5,8):=by kernel_rfl
open Go.Deep Go.Joins
section
variable {H:Type} {enc:TypeId×Value→H} {w:World} {base:Nat} {spare:Nat→Bool} {held:Bool} {r:Reach} {b0:Nat}
theorem Ch {n:Nat} {cs:List Value} {y:DataW H×List MemPlace} (h:DataW.trod enc Tryd.prog w base spare held n 3 cs=some y):∃k:Int,bB k∧cs=[.int .i64 k]:=by
 obtain⟨a,rfl,rfl,wa⟩:=DataW.trod_int Tryd.underlying3 h
 exact⟨a,wG wa,rfl⟩
theorem get_some {α:Type} {xs:List α} {i:Nat} (h:i<xs.length):∃y,xs[i]?=some y:=⟨_,List.getElem?_eq_getElem h⟩
theorem zN {n:Nat} {cs:List Value} {y:DataW H×List MemPlace} (h:DataW.trod enc Tryd.prog w base spare held n 61 cs=some y):
  ∃m:M4,m.ok∧cs=[.int .u16 m.src,.int .u16 m.dst,.int .u8 m.eT,.int .u8 m.eU]:=by
 obtain⟨xs,n',_,_,hlen,hxl,hf⟩:=DataW.trod_struct Tryd.underlying61 h
 rw[Tryd.cellsMatch]at hlen
 match cs,hlen with
 |[c0,c1,c2,c3],_=>
  have h0:=hf 0 _ rfl
  have h1:=hf 1 _ rfl
  have h2:=hf 2 _ rfl
  have h3:=hf 3 _ rfl
  have z1:Tryd.prog.cellsOf 59=1:=by kernel_rfl
  have z2:Tryd.prog.cellsOf 5=1:=by kernel_rfl
  obtain⟨y0,e0⟩:=get_some (xs:=xs) (i:=0) (by rw[hxl];decide)
  obtain⟨y1,e1⟩:=get_some (xs:=xs) (i:=1) (by rw[hxl];decide)
  obtain⟨y2,e2⟩:=get_some (xs:=xs) (i:=2) (by rw[hxl];decide)
  obtain⟨y3,e3⟩:=get_some (xs:=xs) (i:=3) (by rw[hxl];decide)
  rw[e0]at h0
  rw[e1]at h1
  rw[e2]at h2
  rw[e3]at h3
  simp[z1,z2]at h0 h1 h2 h3
  obtain⟨a,rfl,ha⟩:=wH h0
  obtain⟨b,rfl,hb⟩:=wH h1
  obtain⟨c,rfl,hc⟩:=uz h2
  obtain⟨d,rfl,hd⟩:=uz h3
  exact⟨⟨a,b,c,d⟩,⟨ha,hb,hc,hd⟩,rfl⟩
theorem Tryd.cellsRule:Tryd.prog.cellsOf 63=5:=by kernel_rfl
theorem AU {n:Nat} {cs:List Value} {y:DataW H×List MemPlace} (h:DataW.trod enc Tryd.prog w base spare held n 63 cs=some y):∃r:aW,r.ok∧cs=r.cells:=by
 obtain⟨xs,n',_,_,hlen,hxl,hf⟩:=DataW.trod_struct Tryd.underlying63 h
 rw[Tryd.cellsRule]at hlen
 match cs,hlen with
 |[c0,c1,c2,c3,c4],_=>
  have h0:=hf 0 _ rfl
  have h1:=hf 1 _ rfl
  have z1:Tryd.prog.cellsOf 4=1:=by kernel_rfl
  obtain⟨y0,e0⟩:=get_some (xs:=xs) (i:=0) (by rw[hxl];decide)
  obtain⟨y1,e1⟩:=get_some (xs:=xs) (i:=1) (by rw[hxl];decide)
  rw[e0]at h0
  rw[e1]at h1
  simp[z1,Tryd.cellsMatch]at h0 h1
  obtain⟨b,hb,_⟩:=DataW.trod_bool Tryd.underlying4 h0
  obtain⟨m,hm,hm2⟩:=zN h1
  cases hb
  simp only[List.cons.injEq,and_true]at hm2
  obtain⟨rfl,rfl,rfl,rfl⟩:=hm2
  exact⟨⟨b,m⟩,hm,rfl⟩
end
end Go.Proofs.YtifkacnoiocebaaDoor
namespace Go.Proofs.YtifkacnoiocebaaDoor
open Go.RowKit
section
variable {α:Type} {cells:α→List Value} {s:Nat} {w w':World} {B B' n:Nat} {A:Option Addr} {l:List α}
theorem bN.take (h:bN cells s w B A n l) {i:Nat} (hi:i≤n):bN cells s w B A i (l.take i):=
 ⟨by rw[List.length_take,h.1];omega,fun h0=>by
  obtain⟨b,o,e,hb,hg⟩:=h.2 (by omega)
  refine⟨b,o,e,hb,fun k r hr j v hv=>hg k r ?_ j v hv⟩
  have hk:k<i:=by have:=(List.getElem?_eq_some_iff.1 hr).1;simp at this;omega
  rwa [List.getElem?_take_of_lt hk]at hr⟩
end
open Go.ChangeAt Go.ChangeShapes Go.WideShapes
theorem wJ {P:Program} {f:FuncId} {fn:Func} {s:ChangeSpec} {H:Type} {enc:TypeId×Value→H} {tb:TypeId} {W:World} {args:Array Value} {ds gs:List (DataW H)} {before:List MemPlace}
  (hl:laidOutB P=true) (hread:(fn.params.toList.all fun t=>P.readableRec t && decide (t<P.types.size))=true) (hv:s.vars=[]) (hr:fn.resultTypes=#[tb]) (zL:P.underlying tb=some .bool)
  (hs:∀ds:List (DataW H),ds.length=fn.params.size→(s.fn H (ds++[])).results =[.lit (.bool true)]∧(s.fn H (ds++[])).args =ds∧(s.fn H (ds++[])).vars =[])
  (hW:DataW.Whole enc P fn.params.toList s.vars false W args.toList ds gs before)
  (walk:∀p:List MemPlace,gs=[]→DataW.TrodAll enc P W 0 (fun _=>true) true fn.params.toList args.toList ds p→(∀x∈p,x.block<W.heap.size)→Calls P f args W fun e W'=>e= .returned (.bool true)∧Below W.heap.size W W'):
  Calls P f args W fun e W'=>∃v,e= .returned v∧s.post enc P fn false true false false W args v W':=by
 have hlt:∀p∈before,p.block<W.heap.size:=fun p hp=>hW.lt p hp
 have hW':=hW
 obtain⟨p,q,hA,hV,rfl,hfz,hnd⟩:=hW
 have hg:gs=[]:=by
  rw[hv]at hV
  cases gs with
  |nil=>rfl
  |cons=>exact hV.elim
 exact(walk p hg hA (fun x hx=>hlt x (List.mem_append_left _ hx))).mono fun e W' ⟨he,hb⟩=>⟨_,he,Ce hl hread hv hr zL hs hW' hb⟩
end Go.Proofs.YtifkacnoiocebaaDoor
namespace Go.Proofs.YtifkacnoiocebaaDoor
open Go.RowKit
theorem oJ (s:ByteArray):s.data.toList.length=s.size:=Array.length_toList
theorem Em {P:Program} (t:TypeId) (s:ByteArray) (k:Nat) (c:UInt8) (h:P.underlying t=some .string) (hc:s.data.toList[k]?=some c) (w:World):
  (Instr.index t (.string s) (.int .i64 (k:Int))).run P w= .ok (.int .u8 (c.toNat:Int)) w:=by
 obtain⟨hlt,e⟩:=List.getElem?_eq_some_iff.1 hc
 rw[oJ]at hlt
 rw[run_index_string w t s .i64 (k:Int) h,dif_pos ⟨by omega,by omega⟩]
 have:s[(k:Int).toNat]'(by simpa using hlt)=c:=by rw[← e];rfl
 rw[this]
theorem sD {a b:Int} (h:a=b):Ending.returned (.int .i64 a)=Ending.returned (.int .i64 b):=by rw[h]
def fB (c:UInt8):Bool:=decide (48≤c.toNat) && decide (c.toNat≤57)
def jY (l:List UInt8):Nat:=l.foldl (fun n c=>n*10+(c.toNat - 48)) 0
theorem qx (l:List UInt8) (c:UInt8):jY (l++[c])=jY l*10+(c.toNat - 48):=by simp[jY]
theorem zk (l:List UInt8) (h:∀c∈l,fB c=true):jY l<10 ^ l.length:=by
 rcases List.eq_nil_or_concat l with rfl | ⟨m,c,rfl⟩
 ·decide
 ·rw[List.concat_eq_append]at h ⊢
  have h1:=zk m (fun x hx=>h x (by simp[hx]))
  have h2:=h c (by simp)
  simp only[fB,Bool.and_eq_true,decide_eq_true_eq]at h2
  rw[qx,List.length_append]
  simp only[List.length_cons,List.length_nil,Nat.zero_add,Nat.pow_succ]
  omega
termination_by l.length
decreasing_by simp[*]
def numeral (l:List UInt8):Bool:=decide (1≤l.length) && decide (l.length≤4) && l.all fB && !(decide (l.head? =some 48) && decide (1<l.length))
def aH (l:List UInt8) (most:Int):Int:=if numeral l=true∧(jY l:Int)<most then(jY l:Int)else -1
theorem lN {l:List UInt8} {most:Int} (h:numeral l=false):aH l most= -1:=by simp[aH,h]
theorem take_at {l:List UInt8} {k:Nat} {c:UInt8} (h:l[k]?=some c):l.take (k+1)=l.take k++[c]:=by
 rw[List.take_add_one,h];rfl
theorem yC (s:ByteArray) (most:Int) (w:World):
  Calls Tryd.prog 87 #[.string s,.int .i64 most] w fun e w'=>e= .returned (.int .i64 (aH s.data.toList most))∧w=w':=by
 obtain⟨l,hl⟩:∃l,s.data.toList=l:=⟨_,rfl⟩
 obtain⟨n,hn⟩:∃n,s.size=n:=⟨_,rfl⟩
 have hln:l.length=n:=by rw[← hl,← hn];exact oJ s
 rw[hl]
 have HAT:=hide (fun(k:Nat) (c:UInt8) (h:l[k]?=some c)=>Em (P:=Tryd.prog) 9 s k c Tryd.underlying9 (by rw[hl];exact h))
 have gG:=hide hln
 clear hl hln
 go_enter Tryd.func87,Tryd.ntmps87
 by_cases h1:n<1
 ·have d1:(n:Int)<1:=by omega
  go_wp2
  go_ret
  exact⟨sD (lN (by have:=gG.out;simp[numeral];omega)).symm,rfl⟩
 have d1:decide ((n:Int)<1)=false:=by simp;omega
 by_cases h4:4<n
 ·have d4:(4:Int)<(n:Int):=by omega
  go_wp2
  go_ret
  exact⟨sD (lN (by have:=gG.out;simp[numeral];omega)).symm,rfl⟩
 have d4:decide ((4:Int)<(n:Int))=false:=by simp;omega
 obtain⟨c0,hc0⟩:∃c,l[0]?=some c:=⟨_,List.getElem?_eq_getElem (by have:=gG.out;omega)⟩
 have x0:∀w',(Instr.index 9 (.string s) (.int .i64 0)).run Tryd.prog w'= .ok (.int .u8 (c0.toNat:Int)) w':=HAT.out 0 c0 hc0
 have hd0:l.head? =some c0:=by rw[← hc0];cases l<;>rfl
 by_cases hz:c0.toNat=48∧1<n
 ·have e0:((c0.toNat:Int)==48)=true:=by simp;omega
  have d5:(1:Int)<(n:Int):=by omega
  go_wp2
  go_ret
  refine⟨sD (lN ?_).symm,rfl⟩
  have:=gG.out
  have:c0=48:=UInt8.toNat_inj.1 hz.1
  subst this
  simp[numeral,hd0]
  omega
 have hcase:((c0.toNat:Int)==48)=false∨(((c0.toNat:Int)=48)∧decide ((1:Int)<(n:Int))=false):=by
  by_cases h:c0.toNat=48
  ·right;exact⟨by omega,by simp;omega⟩
  ·left;simp;omega
 have hhead:(decide (l.head? =some 48) && decide (1<l.length))=false:=by
  have hln:=gG.out
  rw[hd0,hln]
  by_cases h:1<n
  ·have:c0≠48:=fun e=>hz ⟨by rw[e];rfl,h⟩
   simp[this]
  ·simp[h]
 have HH:=hide hhead
 clear hz hhead hd0
 rcases hcase with e0 | ⟨e0,e1⟩
 all_goals
  go_wp2_with fail
  go_loopw [5,6,27] (fun nv x i wr=>∃k:Nat,k≤n∧i= .int .i64 (k:Int)∧nv= .int .i64 (jY (l.take k):Int)∧Hid (∀c∈l.take k,fB c=true)∧wr=w) (fun _ _ i _=>n - (intOf i).toNat)
  case atStart=>exact⟨0,Nat.zero_le _,rfl,rfl,hide (by simp),rfl⟩
  case round=>
   obtain⟨k,hk,rfl,rfl,HD,rfl⟩:=hrel
   by_cases hlt:k<n
   case pos=>
    obtain⟨c,hc⟩:∃c,l[k]?=some c:=⟨_,List.getElem?_eq_getElem (by have:=gG.out;omega)⟩
    have x1:∀w',(Instr.index 9 (.string s) (.int .i64 (k:Int))).run Tryd.prog w'= .ok (.int .u8 (c.toNat:Int)) w':=HAT.out k c hc
    by_cases hd:fB c=true
    case neg=>
     have hno:numeral l=false:=by
      have:l.all fB=false:=by
       rw[Bool.eq_false_iff]
       intro h
       exact hd (List.all_eq_true.1 h c (List.mem_of_getElem? hc))
      simp[numeral,this]
     have hor:c.toNat<48∨57<c.toNat:=by
      simp only[fB,Bool.and_eq_true,decide_eq_true_eq]at hd
      omega
     clear hd hc
     rcases hor with h | h
     ·have q1:(c.toNat:Int)<48:=by omega
      go_wp2
      go_ret
      exact⟨sD (lN hno).symm,rfl⟩
     ·have q1:decide ((c.toNat:Int)<48)=false:=by simp;omega
      have q2:(57:Int)<(c.toNat:Int):=by omega
      go_wp2
      go_ret
      exact⟨sD (lN hno).symm,rfl⟩
    case pos=>
     have hb:=hd
     simp only[fB,Bool.and_eq_true,decide_eq_true_eq]at hb
     have q1:decide ((c.toNat:Int)<48)=false:=by simp;omega
     have q2:decide ((57:Int)<(c.toNat:Int))=false:=by simp;omega
     have Hw:Hid (∀x∈l.take (k+1),fB x=true):=hide (fun x hx=>by
      rw[take_at hc,List.mem_append]at hx
      rcases hx with hx | hx
      ·exact HD.out x hx
      ·rw[List.mem_singleton.1 hx];exact hd)
     have hle:jY (l.take k)≤999:=by
      have h1:=zk _ HD.out
      have h2:(l.take k).length ≤3:=by simp;omega
      have h3:10 ^ (l.take k).length ≤10 ^ 3:=Nat.pow_le_pow_right (by decide) h2
      omega
     have hsn:=hide (show jY (l.take (k+1))=jY (l.take k)*10+(c.toNat - 48) by rw[take_at hc,qx])
     clear HD hd hc
     obtain⟨D,hD⟩:∃D,jY (l.take k)=D:=⟨_,rfl⟩
     rw[hD]at hle hsn ⊢
     clear hD
     obtain⟨c1,hc1⟩:∃x,c.toNat=x+48:=⟨c.toNat - 48,by omega⟩
     go_wp2_with fail
     go_roundw
     case rel=>
      exact⟨k+1,by omega,by go_num,congrArg (Value.int .i64) (by have:=hsn.out;omega),Hw,trivial⟩
     case measure=>simp[intOf];omega
   case neg=>
    obtain rfl:k=n:=by omega
    have hall:l.take k=l:=List.take_of_length_le (by have:=gG.out;omega)
    rw[hall]at HD ⊢
    have En:numeral l=true:=by
     have h1:=gG.out
     have h2:=HH.out
     have h3:l.all fB=true:=List.all_eq_true.2 HD.out
     simp only[numeral,h2,h3]
     simp;omega
    have hF:=hide (show aH l most=if(jY l:Int)<most then(jY l:Int)else -1 by simp[aH,En])
    obtain⟨D,hD⟩:∃D,jY l=D:=⟨_,rfl⟩
    rw[hD]at hF ⊢
    clear HD hall En hD
    by_cases hm:(D:Int)<most
    ·have q1:decide (most≤(D:Int))=false:=by simp;omega
     go_wp2
     go_ret
     exact⟨sD (by rw[hF.out,if_pos hm]),rfl⟩
    ·have q1:most≤(D:Int):=by omega
     go_wp2
     go_ret
     exact⟨sD (by rw[hF.out,if_neg (by omega)]),rfl⟩
end Go.Proofs.YtifkacnoiocebaaDoor
