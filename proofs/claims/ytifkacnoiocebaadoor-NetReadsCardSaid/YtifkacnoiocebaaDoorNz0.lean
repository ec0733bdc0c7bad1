/- A part of the proof: G1. -/
import Derived.Test.YtifkacnoiocebaaDoorRows
import Derived.ProofKit
import Derived.SizedLaws
import Derived.Laws.BitsAllLaws
import Derived.Laws.BitsLemmas
import Derived.WalkKit
import Derived.Outline
import Derived.BigQuiet
import Derived.Lib.Hide
import Derived.WalkLawsBesides
import Derived.Below
import Derived.Lib.SmallJoins
import Derived.OpenShut
import Derived.Laws.OwnMore
import Derived.Deep.AppendLies
import Derived.Deep.Draws
import Derived.Maps.AppendAt
import Derived.RegionTactic
import Derived.OwnWalk
import Derived.WalkSpells
import Derived.Deep.Slices
import Derived.Deep.Fields
import Derived.JoinedCond
set_option linter.unusedVariables false
set_option linter.unusedSimpArgs false
set_option maxRecDepth 100000
set_option maxHeartbeats 4000000
namespace Go.Proofs.YtifkacnoiocebaaDoor
theorem aB {α:Type} {l:List α} {i:Nat} {a:α} :l.toArray.setIfInBounds i a=(l.set i a).toArray :=List.setIfInBounds_toArray _ _ _
theorem aC {α:Type} {x:α} {xs:List α} {a:α} :(x::xs).set 0 a=a::xs:=List.set_cons_zero
theorem aD {α:Type} {x:α} {xs:List α} {n:Nat} {a:α} :(x::xs).set (n+1) a=x::xs.set n a:=List.set_cons_succ
open Go.ChangeAt Go.ChangeShapes Go.RowKit Go.WideShapes
theorem Tryd.own:ownKnob Tryd.prog.godebug=none:=by kernel_rfl
theorem Tryd.laidOut:laidOutB Tryd.prog=true:=by kernel_rfl
section
variable {H:Type} {enc:TypeId×Value→H} {P:Program}
theorem vO (hl:laidOutB P=true) {W W':World} (hb:Below W.heap.size W W'):∀(ts:List TypeId) (vs:List Value) (ds:List (DataW H)) (ps:List MemPlace),
  (ts.all fun t=>P.readableRec t && decide (t<P.types.size))=true→DataW.TrodAll enc P W 0 (fun _=>true) true ts vs ds ps→(∀x∈ps,x.block<W.heap.size)→
  DataW.TrodAll enc P W' 0 (fun b=>decide (b<W.heap.size)) true ts vs ds ps:=by
 intro ts
 induction ts with
 |nil=>intro vs ds ps _ h _;cases vs<;>cases ds<;>first | exact h | exact h.elim
 |cons t ts ih=>
  intro vs ds ps hr h hlt
  match vs,ds,h with
  |v::vs,d::ds,h=>
   obtain⟨p,q,h1,h2,rfl⟩:=h
   simp only[List.all_cons,Bool.and_eq_true,decide_eq_true_eq]at hr
   exact⟨p,q,Below.trod hl hr.1.1 hr.1.2 h1 hb (fun x hx=>hlt x (List.mem_append_left _ hx)),ih vs ds q (by simpa using hr.2) h2 (fun x hx=>hlt x (List.mem_append_right _ hx)),rfl⟩
theorem trodAll_length {w:World} {base:Nat} {spare:Nat→Bool} {held:Bool} :∀(ts:List TypeId) (vs:List Value) (ds:List (DataW H)) (ps:List MemPlace),DataW.TrodAll enc P w base spare held ts vs ds ps→ds.length=ts.length:=by
 intro ts
 induction ts with
 |nil=>intro vs ds ps h;cases vs<;>cases ds<;>first | rfl | exact h.elim
 |cons t ts ih=>
  intro vs ds ps h
  match vs,ds,h with
  |v::vs,d::ds,h=>
   obtain⟨p,q,h1,h2,rfl⟩:=h
   simp[ih vs ds q h2]
theorem Bq {fn:Func} {s:ChangeSpec} {W W':World} {args:Array Value} {ds gs:List (DataW H)} {before:List MemPlace} {tb:TypeId} (hl:laidOutB P=true)
  (hread:(fn.params.toList.all fun t=>P.readableRec t && decide (t<P.types.size))=true) (hv:s.vars=[]) (hr:fn.resultTypes=#[tb]) (zw:P.underlying tb=some .bool)
  (hs:∀ds:List (DataW H),ds.length=fn.params.size→(s.fn H (ds++[])).results =[.lit (.bool true)]∧(s.fn H (ds++[])).args =ds∧(s.fn H (ds++[])).vars =[])
  (hW:DataW.Whole enc P fn.params.toList s.vars false W args.toList ds gs before) (hb:Below W.heap.size W W'):
  s.post enc P fn false true false false W args (.bool true) W':=by
 have hlt:∀p∈before,p.block<W.heap.size:=fun p hp=>hW.lt p hp
 have hW':=hW
 obtain⟨p,q,hA,hV,rfl,hfz,hnd⟩:=hW
 have FJ:gs=[]∧q=[]:=by
  rw[hv]at hV
  cases gs with
  |nil=>exact⟨rfl,hV⟩
  |cons=>exact hV.elim
 obtain⟨rfl,rfl⟩:=FJ
 have hlen:ds.length=fn.params.size:=by rw[trodAll_length _ _ _ _ hA];simp
 obtain⟨e1,e2,e3⟩:=hs ds hlen
 refine⟨ds,[],p++[],[],p,[],hW',?_,?_,?_,World.keptBut_mono (fun p hp=>?_) (hb.frame (·∈p++[])),fun h=>by cases h⟩
 ·rw[e1,hr]
  exact trodAll_mk1 (shut_bool zw _)
 ·rw[e2]
  exact vO hl hb _ _ _ _ hread hA (fun x hx=>hlt x (List.mem_append_left _ hx))
 ·rw[e3,hv]
  rfl
 ·exact⟨hp,by simpa using hp⟩
end
end Go.Proofs.YtifkacnoiocebaaDoor
namespace Go.Proofs.YtifkacnoiocebaaDoor
open Go.RowKit
theorem jS (n a:Nat) (ha:a<2 ^ n):(BitVec.ofInt n (a:Int)).toNat =a:=by
 rw[BitVec.ofInt_natCast,BitVec.toNat_ofNat];exact Nat.mod_eq_of_lt ha
theorem u8_and (a b:Nat) (ha:a<256) (hb:b<256):bits .and .u8 (a:Int) (b:Int)=((a &&& b:Nat):Int):=by
 have hx:a &&& b<2 ^ 8:=Nat.and_lt_two_pow _ (by omega)
 show IntKind.u8.wrap ((BitVec.ofInt 8 (a:Int) &&& BitVec.ofInt 8 (b:Int)).toNat :Int)=_
 rw[BitVec.toNat_and,jS 8 a ha,jS 8 b hb]
 simp only[IntKind.wrap,IntKind.signed,IntKind.bits]
 simp
 omega
theorem u16_or (a b:Nat) (ha:a<65536) (hb:b<65536):bits .or .u16 (a:Int) (b:Int)=((a ||| b:Nat):Int):=by
 have hx:a ||| b<2 ^ 16:=Nat.or_lt_two_pow (by omega) (by omega)
 show IntKind.u16.wrap ((BitVec.ofInt 16 (a:Int) ||| BitVec.ofInt 16 (b:Int)).toNat :Int)=_
 rw[BitVec.toNat_or,jS 16 a ha,jS 16 b hb]
 simp only[IntKind.wrap,IntKind.signed,IntKind.bits]
 simp
 omega
theorem u8_or (a b:Nat) (ha:a<256) (hb:b<256):bits .or .u8 (a:Int) (b:Int)=((a ||| b:Nat):Int):=by
 have hx:a ||| b<2 ^ 8:=Nat.or_lt_two_pow (by omega) (by omega)
 show IntKind.u8.wrap ((BitVec.ofInt 8 (a:Int) ||| BitVec.ofInt 8 (b:Int)).toNat :Int)=_
 rw[BitVec.toNat_or,jS 8 a ha,jS 8 b hb]
 simp only[IntKind.wrap,IntKind.signed,IntKind.bits]
 simp
 omega
theorem Ac (a b:Nat) (ha:a<9223372036854775808) (hb:b<9223372036854775808):bits .or .i64 (a:Int) (b:Int)=((a ||| b:Nat):Int):=by
 have hx:a ||| b<2 ^ 63:=Nat.or_lt_two_pow (by omega) (by omega)
 show IntKind.i64.wrap ((BitVec.ofInt 64 (a:Int) ||| BitVec.ofInt 64 (b:Int)).toNat :Int)=_
 rw[BitVec.toNat_or,jS 64 a (by omega),jS 64 b (by omega),IntKind.wrap_i64]
 omega
theorem rQ (s k:Nat):(s / 2 ^ k &&& 1==1)=s.testBit k:=by
 rw[Nat.testBit_eq_decide_div_mod_eq,Nat.and_one_is_mod]
 by_cases h:s / 2 ^ k % 2=1<;>simp[h]
theorem qp (s k:Nat):((s:Int) / 2 ^ k)=((s / 2 ^ k:Nat):Int):=by
 rw[Int.natCast_ediv];simp
theorem Dh (s k:Nat) (hs:s<256):(bits .and .u8 ((s:Int) / 2 ^ k) 1==1)=s.testBit k:=by
 have h1:s / 2 ^ k<256:=Nat.lt_of_le_of_lt (Nat.div_le_self _ _) hs
 have:=u8_and (s / 2 ^ k) 1 h1 (by omega)
 rw[qp,show(1:Int)=((1:Nat):Int)from rfl,this,← rQ]
 by_cases h:s / 2 ^ k &&& 1=1
 ·simp[h]
 ·rw[Bool.eq_iff_iff]
  simp only[beq_iff_eq]
  omega
open Go.ChangeAt Go.ChangeShapes Go.WideShapes
structure M4 where
 src:Nat
 dst:Nat
 oG:Nat
 oH:Nat
structure P4 where
 src:Int
 dst:Int
 oG:Int
 oH:Int
def M4.ok (m:M4):Prop:=m.src<65536∧m.dst<65536∧m.oG<256∧m.oH<256
def bG (n:Int):Prop:= -9223372036854775808≤n∧n≤9223372036854775807
end Go.Proofs.YtifkacnoiocebaaDoor
namespace Go.Proofs.YtifkacnoiocebaaDoor
open Go.RowKit
theorem vP {P:Program} {T:Type} (g:T→World) {id:Nat} {Q:Exit→Act→World→Prop} {a:Act} {w:World} {l:List Oper} (hm:P.follows .mixedOrders =true) (hB:Region.lexB .any l.toArray=true)
  (h0:∃t,{ w with drawn:=w.drawn+1 }=g t) (h:wpQuiet P l.toArray (fun w'=>∃t,w'=g t) (fun a'=>∀w',(∃t,w'=g t)→Q .normal a' w') l a):(Code.region id l.toArray true).wp P Q a w:=
 wp_region_quiet (C:=fun w'=>∃t,w'=g t) hm hB h0 (by simpa using h)
theorem bB {P:Program} {id:Nat} {Q:Exit→Act→World→Prop} {a:Act} {w:World} {l:List Oper} (hm:P.follows .mixedOrders =true) (hB:Region.lexB .any l.toArray=true)
  (h:∀(T:Type) [Nonempty T] (g:T→World),(∀t,Below w.heap.size w (g t))→(∀w',Below w.heap.size w w'→∃t,w'=g t)→
   wpQuiet P l.toArray (fun w'=>∃t,w'=g t) (fun a'=>∀w',(∃t,w'=g t)→Q .normal a' w') l a):(Code.region id l.toArray true).wp P Q a w:=
 vP (T:={ w':World // Below w.heap.size w w' }) Subtype.val hm hB ⟨⟨w.drew,(Below.refl _ _).drew⟩,rfl⟩ (@h { w':World // Below w.heap.size w w' } ⟨⟨w,Below.refl _ _⟩⟩ Subtype.val Subtype.property (fun w' hw=>⟨⟨w',hw⟩,rfl⟩))
theorem jl {P:Program} {f:FuncId} {args:Array Value} {W:World} {T:Type} {g:T→World} (hg:∀t,Below W.heap.size W (g t)) (hgi:∀w',Below W.heap.size W w'→∃t,w'=g t) {t:T} {v:Value}
  (h:Calls P f args (g t) fun e w'=>e= .returned v∧Below (g t).heap.size (g t) w'):Calls P f args (g t) fun e w''=>e= .returned v∧∃s,w''=g s:=
 h.mono fun _ w' ⟨he,hw⟩=>⟨he,hgi w' ((hg t).trans (hw.mono (hg t).size))⟩
theorem bR {P:Program} {f:FuncId} {args:Array Value} {T:Type} {g:T→World} {t:T} {v:Value} (h:Calls P f args (g t) fun e w'=>e= .returned v∧g t=w'):
  Calls P f args (g t) fun e w''=>e= .returned v∧∃s,w''=g s:=
 h.mono fun _ w' ⟨he,hw⟩=>⟨he,⟨t,hw.symm⟩⟩
theorem hide {p:Prop} (h:p):Hid p:=h
open Go.ChangeAt Go.ChangeShapes Go.Joins Go.WideShapes
section
variable {H:Type} {enc:TypeId×Value→H} {w:World} {base:Nat} {spare:Nat→Bool} {held:Bool} {r:Reach} {b0:Nat}
end
theorem Br {H:Type} {enc:TypeId×Value→H} {P:Program} {w:World} {base:Nat} {sp:Nat→Bool} {hd:Bool} {vs:List Value} {ds:List (DataW H)} {p:List MemPlace} (h:DataW.TrodAll enc P w base sp hd [] vs ds p):vs=[]∧ds=[]∧p=[]:=by
 cases vs<;>cases ds<;>first | exact⟨rfl,rfl,h⟩ | exact h.elim
theorem Ad {H:Type} {enc:TypeId×Value→H} {P:Program} {w:World} {base:Nat} {sp:Nat→Bool} {hd:Bool} {t:TypeId} {ts:List TypeId} {vs:List Value} {ds:List (DataW H)} {p:List MemPlace} (h:DataW.TrodAll enc P w base sp hd (t::ts) vs ds p):
  ∃v vs' d ds' p0 q,vs=v::vs'∧ds=d::ds'∧p=p0++q∧DataW.Trod enc P w base sp hd t v d p0∧DataW.TrodAll enc P w base sp hd ts vs' ds' q:=by
 match vs,ds,h with
 |v::vs,d::ds,h=>
  obtain⟨p0,q,h1,h2,rfl⟩:=h
  exact⟨v,vs,d,ds,p0,q,rfl,rfl,rfl,h1,h2⟩
theorem Di {a b:Array Value} (h:a.toList=b.toList):a=b:=by cases a;cases b;simp_all
end Go.Proofs.YtifkacnoiocebaaDoor
namespace Go.Proofs.YtifkacnoiocebaaDoor
open Go.ChangeAt Go.ChangeShapes Go.RowKit Go.WideShapes
structure bN where
 permit:Bool
 m:M4
def bN.ok (r:bN):Prop:=r.m.ok
def bN.cells (r:bN):List Value:=[.bool r.permit,.int .u16 r.m.src,.int .u16 r.m.dst,.int .u8 r.m.oG,.int .u8 r.m.oH]
def qw (w:World) (b o:Nat) (r:bN):Prop:=
 w.cell? ⟨b,o,none⟩=some (.bool r.permit)∧w.cell? ⟨b,o+1,none⟩=some (.int .u16 r.m.src)∧w.cell? ⟨b,o+2,none⟩=some (.int .u16 r.m.dst)∧
  w.cell? ⟨b,o+3,none⟩=some (.int .u8 r.m.oG)∧w.cell? ⟨b,o+4,none⟩=some (.int .u8 r.m.oH)
theorem qw.below {w w':World} {B b o:Nat} {r:bN} (h:qw w b o r) (hB:Below B w w') (hb:b<B):qw w' b o r:=by
 unfold qw at*
 have e:∀o,w'.cell? ⟨b,o,none⟩=w.cell? ⟨b,o,none⟩:=fun o=>hB.cell (p:=⟨b,o,none⟩) hb
 rw[e,e,e,e,e]
 exact h
def mV (w:World) (B:Nat) (A:Option Addr) (n:Nat) (l:List bN):Prop:=
 l.length=n∧(∀r∈l,r.ok)∧(0<n→∃b o,A=some ⟨b,o,none⟩∧b<B∧∀(k:Nat) (r:bN),l[k]?=some r→qw w b (o+k*5) r)
theorem mV.below {w w':World} {B B' n:Nat} {A:Option Addr} {l:List bN} (h:mV w B A n l) (hB:Below B w w') (hB':B≤B'):mV w' B' A n l:=
 ⟨h.1,h.2.1,fun h0=>by
  obtain⟨b,o,e,hb,hg⟩:=h.2.2 h0
  exact⟨b,o,e,by omega,fun k r hr=>(hg k r hr).below hB hb⟩⟩
def ig {α:Type} (p:α→Bool) (l:List α):Int:=match l.findIdx? p with | some k=>(k:Int) | none=> -1
theorem kR {α:Type} {p:α→Bool} {l:List α} {k:Nat} {r:α} (hr:l[k]?=some r) (hp:p r=true) (hno:∀j r,j<k→l[j]?=some r→p r=false):ig p l=k:=by
 have hk:=(List.getElem?_eq_some_iff.1 hr).1
 have:l.findIdx? p=some k:=by
  rw[List.findIdx?_eq_some_iff_getElem]
  refine⟨hk,?_,fun j hj=>?_⟩
  ·have:=(List.getElem?_eq_some_iff.1 hr).2;rw[this];exact hp
  ·have:=hno j _ hj (List.getElem?_eq_getElem (by omega));simp[this]
 simp[ig,this]
theorem lS {α:Type} {p:α→Bool} {l:List α} (hno:∀j r,j<l.length→l[j]?=some r→p r=false):ig p l= -1:=by
 have:l.findIdx? p=none:=by
  rw[List.findIdx?_eq_none_iff]
  intro x hx
  obtain⟨j,hj⟩:=List.getElem?_of_mem hx
  exact hno j x (List.getElem?_eq_some_iff.1 hj).1 hj
 simp[ig,this]
theorem j6 {a b:Int} (h:a=b):Ending.returned (.int .i64 a)= .returned (.int .i64 b):=by rw[h]
theorem l6 {α:Type} (p:α→Bool) (l:List α):(∃(k:Nat) (r:α),ig p l=k∧k<l.length∧l[k]?=some r∧p r=true∧∀j r,j<k→l[j]?=some r→p r=false)∨(ig p l= -1∧∀r∈l,p r=false):=by
 cases h:l.findIdx? p with
 |none=>exact .inr ⟨by simp[ig,h],fun r hr=>by simpa using(List.findIdx?_eq_none_iff.1 h) r hr⟩
 |some k=>
  obtain⟨hk,h1,h2⟩:=List.findIdx?_eq_some_iff_getElem.1 h
  refine .inl ⟨k,l[k],by simp[ig,h],hk,List.getElem?_eq_getElem hk,h1,fun j r hj hr=>?_⟩
  have:=h2 j hj
  rw[List.getElem?_eq_getElem (by omega)]at hr
  cases hr
  simpa using this
end Go.Proofs.YtifkacnoiocebaaDoor
namespace Go.Proofs.YtifkacnoiocebaaDoor
open Go.RowKit
def Reads (w:World) (B size:Nat) (A:Option Addr) (n:Nat) (xs:List Value):Prop:=
 xs.length=n*size∧(0<n→∃ad,A=some ad∧ad.block<B∧∀j u,xs[j]?=some u→w.cell? (ad.add j)=some u)
section
variable {w w':World} {B B' size n:Nat} {A:Option Addr} {xs:List Value}
end
section
variable {P:Program} (w:World)
theorem rJ (base:Nat) (t ty e:TypeId) (i:TypeInfo) (size:Nat) (ht:P.underlying t=some (.slice e)) (hi:P.info? e=some i)
  (v:Value) (n:Nat) (xs:List Value) (hown:w.ownsRow base e size v n xs) (c:Nat):(Builtin.append_ #[t,t] ty #[v,.slice none 0 c]).run P w= .ok v w:=by
 rcases hown.2 with⟨rfl,rfl⟩ | ⟨g,cap,cur,rfl,_,_,hnc,_⟩
 ·simp[Builtin.append_,run_underlying ht,sizeOf,typeInfo,hi,Builtin.lenOf,Builtin.firstCells]
 ·simp[Builtin.append_,run_underlying ht,sizeOf,typeInfo,hi,Builtin.lenOf,Builtin.firstCells,hnc,storeCells]
theorem uz (base:Nat) (t ty e:TypeId) (i:TypeInfo) (z:Value) (size bytes:Nat) (ht:P.underlying t=some (.slice e)) (hi:P.info? e=some i) (hz:i.zero=some z)
  (hsize:i.size=size) (hby:i.bytes=bytes) (hzs:z.cells.size=size) (hsz:0<size)
  (v:Value) (n:Nat) (xs:List Value) (hown:w.ownsRow base e size v n xs)
  (B:Nat) (A:Option Addr) (m c:Nat) (news:List Value) (hr:Reads w B size A m news) (h1:∀u∈news,u.oneCell'=true)
  (h63:n+m≤maxLen) (hbytes:(n+m)*bytes≤140737488355328) (hbase:base≤w.heap.size):
  ∃v' w',(Builtin.append_ #[t,t] ty #[v,.slice A m c]).run P w= .ok v' w'∧w'.ownsRow base e size v' (n+m) (xs++news)∧w.grownBy w' v.ownBlock∧
   (v'.ownBlock=v.ownBlock∨v'.ownBlock=some w.heap.size):=by
 rcases A with _ | ad
 ·have hm:m=0:=by
   rcases Nat.eq_zero_or_pos m with h0 | h0
   ·exact h0
   ·obtain⟨ad,h,_⟩:=hr.2 h0
    cases h
  subst hm
  have hn:news=[]:=List.eq_nil_of_length_eq_zero (by simpa using hr.1)
  subst hn
  exact⟨v,w,rJ w base t ty e i size ht hi v n xs hown c,by simpa using hown,World.grownBy.refl w _,.inl rfl⟩
 ·have hcells:∀j u,news[j]?=some u→w.cell? (ad.add j)=some u:=by
   intro j u hu
   rcases Nat.eq_zero_or_pos m with h0 | h0
   ·subst h0
    have hn:news=[]:=List.eq_nil_of_length_eq_zero (by simpa using hr.1)
    subst hn
    simp at hu
   ·obtain⟨Dj,h,_,hc⟩:=hr.2 h0
    injection h with h
    subst h
    exact hc j u hu
  obtain⟨v',w',hrun,h2,h3,_,h5⟩:=run_append_own_at (P:=P) w base t ty e i z size bytes ht hi hz hsize hby hzs hsz v n xs hown ad m c news hr.1 hcells h1 h63 hbytes hbase
  exact⟨v',w',hrun,h2,h3,h5⟩
theorem aZ {o:Oper} {a:Act} {K:Act→World→Prop} {Q:Exit→Act→World→Prop} (s x:Operand) (t:TypeId)
  (ho:o.op= .call { callee:=.builtin .append,args:=#[s,x],argTypes:=#[t,t] })
  (base:Nat) (e:TypeId) (i:TypeInfo) (z:Value) (size bytes:Nat) (ht:P.underlying t=some (.slice e)) (hi:P.info? e=some i) (hz:i.zero=some z)
  (hsize:i.size=size) (hby:i.bytes=bytes) (hzs:z.cells.size=size) (hsz:0<size)
  (v:Value) (n:Nat) (xs:List Value) (hs:a.eval s=v) (hown:w.ownsRow base e size v n xs)
  (B:Nat) (A:Option Addr) (m c:Nat) (news:List Value) (hx:a.eval x= .slice A m c) (hr:Reads w B size A m news) (h1:∀u∈news,u.oneCell'=true)
  (h63:n+m≤maxLen) (hbytes:(n+m)*bytes≤140737488355328) (hbase:base≤w.heap.size)
  (h:∀v' w',w'.ownsRow base e size v' (n+m) (xs++news)→w.grownBy w' v.ownBlock→(v'.ownBlock=v.ownBlock∨v'.ownBlock=some w.heap.size)→K (a.put o.dst v') w'):o.wp P a w K Q:=by
 obtain⟨v',w',hrun,h2,h3,h4⟩:=uz (P:=P) w base t o.type e i z size bytes ht hi hz hsize hby hzs hsz v n xs hown B A m c news hr h1 h63 hbytes hbase
 unfold Oper.wp execOp
 simp only[ho,resolve,invoke,builtin,Sem.run_bind,Sem.run_pure,Result.andThen_ok,List.map_toArray,List.map_cons,List.map_nil,hs,hx,hrun]
 exact h v' w' h2 h3 h4
theorem dS {ops:Array Oper} {rest:List Oper} {o:Oper} {a:Act} {Q:Exit→Act→World→Prop} (hgd:o.guard=none) (s x:Operand) (t:TypeId)
  (ho:o.op= .call { callee:=.builtin .append,args:=#[s,x],argTypes:=#[t,t] })
  (base:Nat) (e:TypeId) (i:TypeInfo) (z:Value) (size bytes:Nat) (ht:P.underlying t=some (.slice e)) (hi:P.info? e=some i) (hz:i.zero=some z)
  (hsize:i.size=size) (hby:i.bytes=bytes) (hzs:z.cells.size=size) (hsz:0<size)
  (v:Value) (n:Nat) (xs:List Value) (hs:a.eval s=v) (hown:w.ownsRow base e size v n xs)
  (B:Nat) (A:Option Addr) (m c:Nat) (news:List Value) (hx:a.eval x= .slice A m c) (hr:Reads w B size A m news) (h1:∀u∈news,u.oneCell'=true)
  (h63:n+m≤maxLen) (hbytes:(n+m)*bytes≤140737488355328) (hbase:base≤w.heap.size)
  (h:∀v' w',w'.ownsRow base e size v' (n+m) (xs++news)→w.grownBy w' v.ownBlock→(v'.ownBlock=v.ownBlock∨v'.ownBlock=some w.heap.size)→wpList P ops Q rest (a.put o.dst v') w'):wpList P ops Q (o::rest) a w:=
 wpList_plain hgd fun _ hK=>aZ w s x t ho base e i z size bytes ht hi hz hsize hby hzs hsz v n xs hs hown B A m c news hx hr h1 h63 hbytes hbase fun v' w' h2 h3 h4=>hK _ _ (h v' w' h2 h3 h4)
end
def bD {α:Type} (cells:α→List Value) (s:Nat) (w:World) (B:Nat) (A:Option Addr) (n:Nat) (l:List α):Prop:=
 l.length=n∧(0<n→∃b o,A=some ⟨b,o,none⟩∧b<B∧∀(k:Nat) (r:α),l[k]?=some r→∀(j:Nat) (v:Value),(cells r)[j]?=some v→w.cell? ⟨b,o+k*s+j,none⟩=some v)
section
variable {α:Type} {cells:α→List Value} {s:Nat} {w w':World} {B B' n:Nat} {A:Option Addr} {l:List α}
theorem bD.below (h:bD cells s w B A n l) (hB:Below B w w') (hB':B≤B'):bD cells s w' B' A n l:=
 ⟨h.1,fun h0=>by
  obtain⟨b,o,e,hb,hg⟩:=h.2 h0
  exact⟨b,o,e,by omega,fun k r hr j v hv=>(hB.cell (p:=⟨b,_,none⟩) hb).trans (hg k r hr j v hv)⟩⟩
theorem bD.get {b o k:Nat} {r:α} (h:bD cells s w B (some ⟨b,o,none⟩) n l) (hr:l[k]?=some r):b<B∧∀(j:Nat) (v:Value),(cells r)[j]?=some v→w.cell? ⟨b,o+k*s+j,none⟩=some v:=by
 have hk:k<n:=by
  have:=(List.getElem?_eq_some_iff.1 hr).1
  have:=h.1
  omega
 obtain⟨b',o',e,hb,hg⟩:=h.2 (by omega)
 cases e
 exact⟨hb,hg k r hr⟩
theorem flat_get (hs:∀r,(cells r).length =s):∀(l:List α) (k:Nat) (r:α) (j:Nat) (v:Value),l[k]?=some r→(cells r)[j]?=some v→(l.flatMap cells)[k*s+j]?=some v:=by
 intro l
 induction l with
 |nil=>intro k r j v h;simp at h
 |cons a l ih=>
  intro k r j v hr hv
  rw[List.flatMap_cons]
  match k with
  |0=>
   have:a=r:=by simpa using hr
   subst this
   have hj:=(List.getElem?_eq_some_iff.1 hv).1
   rw[List.getElem?_append_left (by omega)]
   simpa using hv
  |k+1=>
   have e:(k+1)*s+j=(cells a).length +(k*s+j):=by rw[hs,Nat.succ_mul];omega
   rw[e,List.getElem?_append_right (by omega),Nat.add_sub_cancel_left]
   exact ih k r j v (by simpa using hr) hv
theorem addr_add (b o j:Nat):(⟨b,o,none⟩:Addr).add j=⟨b,o+j,none⟩:=by
 unfold Addr.add
 split
 ·rename_i h;subst h;rfl
 ·rfl
theorem bD.dw {base e:Nat} {v:Value} (hs:∀r,(cells r).length =s) (h:w.ownsRow base e s v n (l.flatMap cells)) (hl:l.length=n):
  ∃A c,v= .slice A n c∧n≤c∧bD cells s w w.heap.size A n l∧(∀a,A=some a→base≤a.block):=by
 rcases h.2 with⟨rfl,rfl⟩ | ⟨g,cap,cur,rfl,hg,hh,hnc,_⟩
 ·exact⟨none,0,rfl,Nat.le_refl _,⟨hl,fun h=>absurd h (by omega)⟩,fun a h=>by cases h⟩
 ·refine⟨_,cap,rfl,hnc,⟨hl,fun h0=>⟨g,0,rfl,(Array.getElem?_eq_some_iff.1 hh).1,fun k r hr j u hu=>?_⟩⟩,fun a h=>by cases h;exact hg⟩
  have:=h.cells (g:=g) rfl (k*s+j) u (flat_get hs l k r j u hr hu)
  rw[addr_add]at this
  rw[Nat.zero_add]at this ⊢
  exact this
end
open Go.ChangeAt Go.ChangeShapes Go.WideShapes
theorem bN.len (r:bN):r.cells.length=5:=rfl
theorem bN.one (r:bN):∀u∈r.cells,u.oneCell'=true:=by
 intro u hu
 simp only[bN.cells,List.mem_cons,List.not_mem_nil,or_false]at hu
 rcases hu with rfl | rfl | rfl | rfl | rfl<;>rfl
theorem mV.sl {w:World} {B n:Nat} {A:Option Addr} {l:List bN} (h:mV w B A n l):bD bN.cells 5 w B A n l:=
 ⟨h.1,fun h0=>by
  obtain⟨b,o,e,hb,hg⟩:=h.2.2 h0
  refine⟨b,o,e,hb,fun k r hr j v hv=>?_⟩
  obtain⟨q0,q1,q2,q3,q4⟩:=hg k r hr
  match j,hv with
  |0,hv=>cases hv;exact q0
  |1,hv=>cases hv;exact q1
  |2,hv=>cases hv;exact q2
  |3,hv=>cases hv;exact q3
  |4,hv=>cases hv;exact q4⟩
theorem bD.rules {w:World} {B n:Nat} {A:Option Addr} {l:List bN} (h:bD bN.cells 5 w B A n l) (hok:∀r∈l,r.ok):mV w B A n l:=
 ⟨h.1,hok,fun h0=>by
  obtain⟨b,o,e,hb,hg⟩:=h.2 h0
  exact⟨b,o,e,hb,fun k r hr=>⟨hg k r hr 0 _ rfl,hg k r hr 1 _ rfl,hg k r hr 2 _ rfl,hg k r hr 3 _ rfl,hg k r hr 4 _ rfl⟩⟩⟩
theorem Tryd.infoRule:(Tryd.prog.info? 63).map (fun i=>(i.zero,i.size,i.bytes))=some (some (.agg #[.bool false,.int .u16 0,.int .u16 0,.int .u8 0,.int .u8 0]),5,8):=by kernel_rfl
def dx (n lo hi:Int):Bool:=decide (lo≤n) && decide (n≤hi)
theorem bH (n lo hi:Int) (W:World):Calls Tryd.prog 46 #[.int .i64 n,.int .i64 lo,.int .i64 hi] W fun e W'=>e= .returned (.bool (dx n lo hi))∧W=W':=by
 cases h1:decide (lo≤n)
 ·have e1:¬lo≤n:=by simpa using h1
  go_enter Tryd.func46,Tryd.ntmps46
  go_wp2
  go_ret
  exact⟨by simp[dx,h1],rfl⟩
 ·go_enter Tryd.func46,Tryd.ntmps46
  go_wp2
  go_ret
  exact⟨by simp[dx,h1],rfl⟩
open Go.Deep Go.Joins
section
variable {H:Type} {enc:TypeId×Value→H} {w:World} {base:Nat} {spare:Nat→Bool} {held:Bool} {r:Reach} {b0:Nat}
end
end Go.Proofs.YtifkacnoiocebaaDoor
namespace Go.Proofs.YtifkacnoiocebaaDoor
open Go.RowKit
section
variable {α:Type} {cells:α→List Value} {s:Nat} {w w':World} {B B' n:Nat} {A:Option Addr} {l:List α}
theorem bD.take (h:bD cells s w B A n l) {i:Nat} (hi:i≤n):bD cells s w B A i (l.take i):=
 ⟨by rw[List.length_take,h.1];omega,fun h0=>by
  obtain⟨b,o,e,hb,hg⟩:=h.2 (by omega)
  refine⟨b,o,e,hb,fun k r hr j v hv=>hg k r ?_ j v hv⟩
  have hk:k<i:=by have:=(List.getElem?_eq_some_iff.1 hr).1;simp at this;omega
  rwa [List.getElem?_take_of_lt hk]at hr⟩
end
open Go.ChangeAt Go.ChangeShapes Go.WideShapes
theorem wu {P:Program} {f:FuncId} {fn:Func} {s:ChangeSpec} {H:Type} {enc:TypeId×Value→H} {tb:TypeId} {W:World} {args:Array Value} {ds gs:List (DataW H)} {before:List MemPlace}
  (hl:laidOutB P=true) (hread:(fn.params.toList.all fun t=>P.readableRec t && decide (t<P.types.size))=true) (hv:s.vars=[]) (hr:fn.resultTypes=#[tb]) (zw:P.underlying tb=some .bool)
  (hs:∀ds:List (DataW H),ds.length=fn.params.size→(s.fn H (ds++[])).results =[.lit (.bool true)]∧(s.fn H (ds++[])).args =ds∧(s.fn H (ds++[])).vars =[])
  (hW:DataW.Whole enc P fn.params.toList s.vars false W args.toList ds gs before)
  (walk:∀p:List MemPlace,gs=[]→DataW.TrodAll enc P W 0 (fun _=>true) true fn.params.toList args.toList ds p→(∀x∈p,x.block<W.heap.size)→Calls P f args W fun e W'=>e= .returned (.bool true)∧Below W.heap.size W W'):
  Calls P f args W fun e W'=>∃v,e= .returned v∧s.post enc P fn false true false false W args v W':=by
 have hlt:∀p∈before,p.block<W.heap.size:=fun p hp=>hW.lt p hp
 have hW':=hW
 obtain⟨p,q,hA,hV,rfl,hfz,hnd⟩:=hW
 have hg:gs=[]:=by
  rw[hv]at hV
  cases gs with
  |nil=>rfl
  |cons=>exact hV.elim
 exact(walk p hg hA (fun x hx=>hlt x (List.mem_append_left _ hx))).mono fun e W' ⟨he,hb⟩=>⟨_,he,Bq hl hread hv hr zw hs hW' hb⟩
end Go.Proofs.YtifkacnoiocebaaDoor
