/- A part of the proof: G1. -/
import Derived.Test.YtifkacnoiocebaaGreatRows
import Derived.ProofKit
import Derived.SizedLaws
import Derived.Laws.BitsAllLaws
import Derived.Laws.BitsLemmas
import Derived.WalkKit
import Derived.Outline
import Derived.BigQuiet
import Derived.Lib.Hide
import Derived.WalkLawsBesides
import Derived.Below
import Derived.Lib.SmallJoins
import Derived.OpenShut
import Derived.Laws.OwnMore
import Derived.Deep.AppendLies
import Derived.Deep.Draws
import Derived.Maps.AppendAt
import Derived.RegionTactic
import Derived.OwnWalk
import Derived.WalkSpells
import Derived.Deep.Slices
import Derived.Deep.Fields
import Derived.JoinedCond
set_option linter.unusedVariables false
set_option linter.unusedSimpArgs false
set_option maxRecDepth 100000
set_option maxHeartbeats 4000000
namespace Go.Proofs.YtifkacnoiocebaaGreat
theorem aK {α:Type} {l:List α} {i:Nat} {a:α} :l.toArray.setIfInBounds i a=(l.set i a).toArray :=List.setIfInBounds_toArray _ _ _
theorem aL {α:Type} {x:α} {xs:List α} {a:α} :(x::xs).set 0 a=a::xs:=List.set_cons_zero
theorem aM {α:Type} {x:α} {xs:List α} {n:Nat} {a:α} :(x::xs).set (n+1) a=x::xs.set n a:=List.set_cons_succ
open Go.ChangeAt Go.ChangeShapes Go.RowKit Go.WideShapes
theorem Tryz.own:ownKnob Tryz.prog.godebug=none:=by kernel_rfl
theorem Tryz.laidOut:laidOutB Tryz.prog=true:=by kernel_rfl
section
variable {H:Type} {enc:TypeId×Value→H} {P:Program}
theorem Ik (hl:laidOutB P=true) {W W':World} (hb:Below W.heap.size W W'):∀(ts:List TypeId) (vs:List Value) (ds:List (DataW H)) (ps:List MemPlace),
  (ts.all fun t=>P.readableRec t && decide (t<P.types.size))=true→DataW.TrodAll enc P W 0 (fun _=>true) true ts vs ds ps→(∀x∈ps,x.block<W.heap.size)→
  DataW.TrodAll enc P W' 0 (fun b=>decide (b<W.heap.size)) true ts vs ds ps:=by
 intro ts
 induction ts with
 |nil=>intro vs ds ps _ h _;cases vs<;>cases ds<;>first | exact h | exact h.elim
 |cons t ts ih=>
  intro vs ds ps hr h hlt
  match vs,ds,h with
  |v::vs,d::ds,h=>
   obtain⟨p,q,h1,h2,rfl⟩:=h
   simp only[List.all_cons,Bool.and_eq_true,decide_eq_true_eq]at hr
   exact⟨p,q,Below.trod hl hr.1.1 hr.1.2 h1 hb (fun x hx=>hlt x (List.mem_append_left _ hx)),ih vs ds q (by simpa using hr.2) h2 (fun x hx=>hlt x (List.mem_append_right _ hx)),rfl⟩
theorem trodAll_length {w:World} {base:Nat} {spare:Nat→Bool} {held:Bool} :∀(ts:List TypeId) (vs:List Value) (ds:List (DataW H)) (ps:List MemPlace),DataW.TrodAll enc P w base spare held ts vs ds ps→ds.length=ts.length:=by
 intro ts
 induction ts with
 |nil=>intro vs ds ps h;cases vs<;>cases ds<;>first | rfl | exact h.elim
 |cons t ts ih=>
  intro vs ds ps h
  match vs,ds,h with
  |v::vs,d::ds,h=>
   obtain⟨p,q,h1,h2,rfl⟩:=h
   simp[ih vs ds q h2]
theorem R3 {fn:Func} {s:ChangeSpec} {W W':World} {args:Array Value} {ds gs:List (DataW H)} {before:List MemPlace} {tb:TypeId} (hl:laidOutB P=true)
  (hread:(fn.params.toList.all fun t=>P.readableRec t && decide (t<P.types.size))=true) (hv:s.vars=[]) (hr:fn.resultTypes=#[tb]) (Nc:P.underlying tb=some .bool)
  (hs:∀ds:List (DataW H),ds.length=fn.params.size→(s.fn H (ds++[])).results =[.lit (.bool true)]∧(s.fn H (ds++[])).args =ds∧(s.fn H (ds++[])).vars =[])
  (hW:DataW.Whole enc P fn.params.toList s.vars false W args.toList ds gs before) (hb:Below W.heap.size W W'):
  s.post enc P fn false true false false W args (.bool true) W':=by
 have hlt:∀p∈before,p.block<W.heap.size:=fun p hp=>hW.lt p hp
 have hW':=hW
 obtain⟨p,q,hA,hV,rfl,hfz,hnd⟩:=hW
 have XI:gs=[]∧q=[]:=by
  rw[hv]at hV
  cases gs with
  |nil=>exact⟨rfl,hV⟩
  |cons=>exact hV.elim
 obtain⟨rfl,rfl⟩:=XI
 have hlen:ds.length=fn.params.size:=by rw[trodAll_length _ _ _ _ hA];simp
 obtain⟨e1,e2,e3⟩:=hs ds hlen
 refine⟨ds,[],p++[],[],p,[],hW',?_,?_,?_,World.keptBut_mono (fun p hp=>?_) (hb.frame (·∈p++[])),fun h=>by cases h⟩
 ·rw[e1,hr]
  exact trodAll_mk1 (shut_bool Nc _)
 ·rw[e2]
  exact Ik hl hb _ _ _ _ hread hA (fun x hx=>hlt x (List.mem_append_left _ hx))
 ·rw[e3,hv]
  rfl
 ·exact⟨hp,by simpa using hp⟩
end
theorem Nf {C:Checked} {os:Os} {f:FuncId} {fn:Func} {s:ChangeSpec} {H:Type} {enc:TypeId×Value→H} {tb:TypeId}
  (own:ownKnob C.prog.godebug=none) (started:os.Started) (noInit:C.prog.inits.idxOf? f=none) (hfn:C.prog.funcs[f]?=some fn)
  (hl:laidOutB C.prog=true) (hread:(fn.params.toList.all fun t=>C.prog.readableRec t && decide (t<C.prog.types.size))=true) (hv:s.vars=[]) (hr:fn.resultTypes=#[tb]) (Nc:C.prog.underlying tb=some .bool)
  (hs:∀ds:List (DataW H),ds.length=fn.params.size→(s.fn H (ds++[])).results =[.lit (.bool true)]∧(s.fn H (ds++[])).args =ds∧(s.fn H (ds++[])).vars =[])
  (witness:∃(w:World) (tape:Tape) (i:Input),w.os=os∧(w.forCall tape i).Shaped C.prog∧i.vars=[]∧Input.okWide C.prog (w.forCall tape i) .any w.heap.size f i∧
   s.pre6 enc C.prog fn [] false (w.forCall tape i).memory i.args∧({} :Assume).holds C.prog (lone (Frame.enter C.prog f i.args .normal) [] (w.forCall tape i)))
  (walk:∀(W:World) (base:Nat) (args:Array Value) (ds:List (DataW H)) (p:List MemPlace),
   (∀(j:Nat) t v,fn.params[j]?=some t→args[j]?=some v→Value.okWide C.prog W .any base t v)→
   DataW.TrodAll enc C.prog W 0 (fun _=>true) true fn.params.toList args.toList ds p→(∀x∈p,x.block<W.heap.size)→
   (DataW.weightsEach C.prog (fn.params.toList++s.plain.varTypes C.prog) (ds++[])).all (·≤reachBytes)=true→
   Calls C.prog f args W fun e W'=>e= .returned (.bool true)∧Below W.heap.size W W'):
  ReturnsInHanded {} C os f .any (s.pre6 enc C.prog fn [] false) (s.post enc C.prog fn false true false false):=by
 refine returnsInHanded_of_change_sized own started noInit hfn witness ?_
 intro W base args ds gs before hval hW _ hsz _
 have hlt:∀p∈before,p.block<W.heap.size:=fun p hp=>hW.lt p hp
 have hW':=hW
 obtain⟨p,q,hA,hV,rfl,hfz,hnd⟩:=hW
 have XI:gs=[]∧q=[]:=by
  rw[hv]at hV
  cases gs with
  |nil=>exact⟨rfl,hV⟩
  |cons=>exact hV.elim
 obtain⟨rfl,rfl⟩:=XI
 refine(walk W base args ds p hval hA (fun x hx=>hlt x (List.mem_append_left _ hx)) hsz).mono fun e W' ⟨he,hb⟩=>?_
 exact⟨_,he,R3 hl hread hv hr Nc hs hW' hb⟩
end Go.Proofs.YtifkacnoiocebaaGreat
namespace Go.Proofs.YtifkacnoiocebaaGreat
open Go.RowKit
theorem mY (n a:Nat) (ha:a<2 ^ n):(BitVec.ofInt n (a:Int)).toNat =a:=by
 rw[BitVec.ofInt_natCast,BitVec.toNat_ofNat];exact Nat.mod_eq_of_lt ha
theorem u16_and (a b:Nat) (ha:a<65536) (hb:b<65536):bits .and .u16 (a:Int) (b:Int)=((a &&& b:Nat):Int):=by
 have hx:a &&& b<2 ^ 16:=Nat.and_lt_two_pow _ (by omega)
 show IntKind.u16.wrap ((BitVec.ofInt 16 (a:Int) &&& BitVec.ofInt 16 (b:Int)).toNat :Int)=_
 rw[BitVec.toNat_and,mY 16 a ha,mY 16 b hb]
 simp only[IntKind.wrap,IntKind.signed,IntKind.bits]
 simp
 omega
theorem FW (a b:Nat) (ha:a<9223372036854775808) (hb:b<9223372036854775808):bits .and .i64 (a:Int) (b:Int)=((a &&& b:Nat):Int):=by
 have hx:a &&& b<2 ^ 63:=Nat.and_lt_two_pow _ (by omega)
 show IntKind.i64.wrap ((BitVec.ofInt 64 (a:Int) &&& BitVec.ofInt 64 (b:Int)).toNat :Int)=_
 rw[BitVec.toNat_and,mY 64 a (by omega),mY 64 b (by omega),IntKind.wrap_i64]
 omega
theorem u16_or (a b:Nat) (ha:a<65536) (hb:b<65536):bits .or .u16 (a:Int) (b:Int)=((a ||| b:Nat):Int):=by
 have hx:a ||| b<2 ^ 16:=Nat.or_lt_two_pow (by omega) (by omega)
 show IntKind.u16.wrap ((BitVec.ofInt 16 (a:Int) ||| BitVec.ofInt 16 (b:Int)).toNat :Int)=_
 rw[BitVec.toNat_or,mY 16 a ha,mY 16 b hb]
 simp only[IntKind.wrap,IntKind.signed,IntKind.bits]
 simp
 omega
theorem I4 (a b:Nat) (ha:a<9223372036854775808) (hb:b<9223372036854775808):bits .or .i64 (a:Int) (b:Int)=((a ||| b:Nat):Int):=by
 have hx:a ||| b<2 ^ 63:=Nat.or_lt_two_pow (by omega) (by omega)
 show IntKind.i64.wrap ((BitVec.ofInt 64 (a:Int) ||| BitVec.ofInt 64 (b:Int)).toNat :Int)=_
 rw[BitVec.toNat_or,mY 64 a (by omega),mY 64 b (by omega),IntKind.wrap_i64]
 omega
theorem xY (s k:Nat):(s / 2 ^ k &&& 1==1)=s.testBit k:=by
 rw[Nat.testBit_eq_decide_div_mod_eq,Nat.and_one_is_mod]
 by_cases h:s / 2 ^ k % 2=1<;>simp[h]
theorem wF (s k:Nat):((s:Int) / 2 ^ k)=((s / 2 ^ k:Nat):Int):=by
 rw[Int.natCast_ediv];simp
theorem WC (s k:Nat) (hs:s<9223372036854775808):(bits .and .i64 ((s:Int) / 2 ^ k) 1==1)=s.testBit k:=by
 have h1:s / 2 ^ k<9223372036854775808:=Nat.lt_of_le_of_lt (Nat.div_le_self _ _) hs
 have:=FW (s / 2 ^ k) 1 h1 (by omega)
 rw[wF,show(1:Int)=((1:Nat):Int)from rfl,this,← xY]
 by_cases h:s / 2 ^ k &&& 1=1
 ·simp[h]
 ·rw[Bool.eq_iff_iff]
  simp only[beq_iff_eq]
  omega
open Go.ChangeAt Go.ChangeShapes Go.WideShapes
def hasB (s:Nat) (n:Int):Bool:=decide (0≤n) && decide (n<16) && s.testBit n.toNat
structure M4 where
 src:Nat
 dst:Nat
 dz:Nat
 dU:Nat
structure P4 where
 src:Int
 dst:Int
 dz:Int
 dU:Int
def M4.ok (m:M4):Prop:=m.src<65536∧m.dst<65536∧m.dz<256∧m.dU<256
def aO (n:Int):Prop:= -9223372036854775808≤n∧n≤9223372036854775807
def M4.val (m:M4):Value:=.agg #[.int .u16 m.src,.int .u16 m.dst,.int .u8 m.dz,.int .u8 m.dU]
def yw (m:M4) (p:P4):Bool:=hasB m.src p.src && hasB m.dst p.dst && hasB m.dz p.dz && hasB m.dU p.dU
end Go.Proofs.YtifkacnoiocebaaGreat
namespace Go.Proofs.YtifkacnoiocebaaGreat
open Go.RowKit
theorem Il {P:Program} {T:Type} (g:T→World) {id:Nat} {Q:Exit→Act→World→Prop} {a:Act} {w:World} {l:List Oper} (hm:P.follows .mixedOrders =true) (hB:Region.lexB .any l.toArray=true)
  (h0:∃t,{ w with drawn:=w.drawn+1 }=g t) (h:wpQuiet P l.toArray (fun w'=>∃t,w'=g t) (fun a'=>∀w',(∃t,w'=g t)→Q .normal a' w') l a):(Code.region id l.toArray true).wp P Q a w:=
 wp_region_quiet (C:=fun w'=>∃t,w'=g t) hm hB h0 (by simpa using h)
theorem bB {P:Program} {id:Nat} {Q:Exit→Act→World→Prop} {a:Act} {w:World} {l:List Oper} (hm:P.follows .mixedOrders =true) (hB:Region.lexB .any l.toArray=true)
  (h:∀(T:Type) [Nonempty T] (g:T→World),(∀t,Below w.heap.size w (g t))→(∀w',Below w.heap.size w w'→∃t,w'=g t)→
   wpQuiet P l.toArray (fun w'=>∃t,w'=g t) (fun a'=>∀w',(∃t,w'=g t)→Q .normal a' w') l a):(Code.region id l.toArray true).wp P Q a w:=
 Il (T:={ w':World // Below w.heap.size w w' }) Subtype.val hm hB ⟨⟨w.drew,(Below.refl _ _).drew⟩,rfl⟩ (@h { w':World // Below w.heap.size w w' } ⟨⟨w,Below.refl _ _⟩⟩ Subtype.val Subtype.property (fun w' hw=>⟨⟨w',hw⟩,rfl⟩))
theorem eB {P:Program} {f:FuncId} {args:Array Value} {W:World} {T:Type} {g:T→World} (hg:∀t,Below W.heap.size W (g t)) (hgi:∀w',Below W.heap.size W w'→∃t,w'=g t) {t:T} {v:Value}
  (h:Calls P f args (g t) fun e w'=>e= .returned v∧Below (g t).heap.size (g t) w'):Calls P f args (g t) fun e w''=>e= .returned v∧∃s,w''=g s:=
 h.mono fun _ w' ⟨he,hw⟩=>⟨he,hgi w' ((hg t).trans (hw.mono (hg t).size))⟩
theorem gu {P:Program} {f:FuncId} {args:Array Value} {T:Type} {g:T→World} {t:T} {v:Value} (h:Calls P f args (g t) fun e w'=>e= .returned v∧g t=w'):
  Calls P f args (g t) fun e w''=>e= .returned v∧∃s,w''=g s:=
 h.mono fun _ w' ⟨he,hw⟩=>⟨he,⟨t,hw.symm⟩⟩
theorem hide {p:Prop} (h:p):Hid p:=h
open Go.ChangeAt Go.ChangeShapes Go.Joins Go.WideShapes
theorem Tryz.cellsMatch:Tryz.prog.cellsOf 32=4:=by kernel_rfl
section
variable {H:Type} {enc:TypeId×Value→H} {w:World} {base:Nat} {spare:Nat→Bool} {held:Bool} {r:Reach} {b0:Nat}
theorem Ng {k:Int} (h:(Lit.int .u16 k).wf =true):∃n:Nat,k=n∧n<65536:=by
 have hx:0≤k∧k≤65535:=by simpa[Lit.wf,IntKind.min,IntKind.max,IntKind.signed,IntKind.bits]using h
 exact⟨k.toNat,by omega,by omega⟩
theorem Pk {k:Int} (h:(Lit.int .u8 k).wf =true):∃n:Nat,k=n∧n<256:=by
 have hx:0≤k∧k≤255:=by simpa[Lit.wf,IntKind.min,IntKind.max,IntKind.signed,IntKind.bits]using h
 exact⟨k.toNat,by omega,by omega⟩
theorem Dw {k:Int} (h:(Lit.int .i64 k).wf =true):aO k:=by
 have hx: -9223372036854775808≤k∧k≤9223372036854775807:=by simpa[Lit.wf,IntKind.min,IntKind.max,IntKind.signed,IntKind.bits]using h
 exact hx
theorem I5 {n:Nat} {v:Value} {y:DataW H×List MemPlace} (h:DataW.trod enc Tryz.prog w base spare held n 30 [v]=some y):∃k:Nat,v= .int .u16 k∧k<65536:=by
 obtain⟨a,e0,rfl,wa⟩:=DataW.trod_int Tryz.underlying30 h
 obtain⟨k,rfl,hk⟩:=Ng wa
 exact⟨k,by simpa using e0,hk⟩
theorem FX {n:Nat} {v:Value} {y:DataW H×List MemPlace} (h:DataW.trod enc Tryz.prog w base spare held n 5 [v]=some y):∃k:Nat,v= .int .u8 k∧k<256:=by
 obtain⟨a,e0,rfl,wa⟩:=DataW.trod_int Tryz.underlying5 h
 obtain⟨k,rfl,hk⟩:=Pk wa
 exact⟨k,by simpa using e0,hk⟩
theorem ny {n:Nat} {v:Value} {y:DataW H×List MemPlace} (h:DataW.trod enc Tryz.prog w base spare held n 3 [v]=some y):∃k:Int,v= .int .i64 k∧aO k:=by
 obtain⟨a,e0,rfl,wa⟩:=DataW.trod_int Tryz.underlying3 h
 exact⟨a,by simpa using e0,Dw wa⟩
end
theorem R4 {H:Type} {enc:TypeId×Value→H} {P:Program} {w:World} {base:Nat} {sp:Nat→Bool} {hd:Bool} {vs:List Value} {ds:List (DataW H)} {p:List MemPlace} (h:DataW.TrodAll enc P w base sp hd [] vs ds p):vs=[]∧ds=[]∧p=[]:=by
 cases vs<;>cases ds<;>first | exact⟨rfl,rfl,h⟩ | exact h.elim
theorem xE {H:Type} {enc:TypeId×Value→H} {P:Program} {w:World} {base:Nat} {sp:Nat→Bool} {hd:Bool} {t:TypeId} {ts:List TypeId} {vs:List Value} {ds:List (DataW H)} {p:List MemPlace} (h:DataW.TrodAll enc P w base sp hd (t::ts) vs ds p):
  ∃v vs' d ds' p0 q,vs=v::vs'∧ds=d::ds'∧p=p0++q∧DataW.Trod enc P w base sp hd t v d p0∧DataW.TrodAll enc P w base sp hd ts vs' ds' q:=by
 match vs,ds,h with
 |v::vs,d::ds,h=>
  obtain⟨p0,q,h1,h2,rfl⟩:=h
  exact⟨v,vs,d,ds,p0,q,rfl,rfl,rfl,h1,h2⟩
theorem Pm {a b:Array Value} (h:a.toList=b.toList):a=b:=by cases a;cases b;simp_all
end Go.Proofs.YtifkacnoiocebaaGreat
namespace Go.Proofs.YtifkacnoiocebaaGreat
open Go.ChangeAt Go.ChangeShapes Go.RowKit Go.WideShapes
theorem Dx (W:World):Calls Tryz.prog 89 #[] W fun e W'=>
   e= .returned (.agg #[.int .u16 65535,.int .u16 65535,.int .u8 255,.int .u8 255])∧Below W.heap.size W W':=by
 go_enter Tryz.func89,Tryz.ntmps89
 go_wp2
 exact bodyPost_ret (v:=.agg #[.int .u16 65535,.int .u16 65535,.int .u8 255,.int .u8 255]) (by simp[results,Tryz.results89,go_sem]) rfl ⟨rfl,((Below.refl _ _).alloc (Nat.le_refl _) _)⟩
structure bg where
 permit:Bool
 m:M4
def bg.ok (r:bg):Prop:=r.m.ok
def bg.cells (r:bg):List Value:=[.bool r.permit,.int .u16 r.m.src,.int .u16 r.m.dst,.int .u8 r.m.dz,.int .u8 r.m.dU]
def yx (w:World) (b o:Nat) (r:bg):Prop:=
 w.cell? ⟨b,o,none⟩=some (.bool r.permit)∧w.cell? ⟨b,o+1,none⟩=some (.int .u16 r.m.src)∧w.cell? ⟨b,o+2,none⟩=some (.int .u16 r.m.dst)∧
  w.cell? ⟨b,o+3,none⟩=some (.int .u8 r.m.dz)∧w.cell? ⟨b,o+4,none⟩=some (.int .u8 r.m.dU)
theorem yx.below {w w':World} {B b o:Nat} {r:bg} (h:yx w b o r) (hB:Below B w w') (hb:b<B):yx w' b o r:=by
 unfold yx at*
 have e:∀o,w'.cell? ⟨b,o,none⟩=w.cell? ⟨b,o,none⟩:=fun o=>hB.cell (p:=⟨b,o,none⟩) hb
 rw[e,e,e,e,e]
 exact h
def gG (w:World) (B:Nat) (A:Option Addr) (n:Nat) (l:List bg):Prop:=
 l.length=n∧(∀r∈l,r.ok)∧(0<n→∃b o,A=some ⟨b,o,none⟩∧b<B∧∀(k:Nat) (r:bg),l[k]?=some r→yx w b (o+k*5) r)
theorem gG.get {w:World} {B b o n:Nat} {l:List bg} (h:gG w B (some ⟨b,o,none⟩) n l) {k:Nat} {r:bg} (hr:l[k]?=some r):b<B∧yx w b (o+k*5) r:=by
 have hk:k<n:=by
  have:=(List.getElem?_eq_some_iff.1 hr).1
  have:=h.1
  omega
 obtain⟨b',o',e,hb,hg⟩:=h.2.2 (by omega)
 cases e
 exact⟨hb,hg k r hr⟩
theorem gG.below {w w':World} {B B' n:Nat} {A:Option Addr} {l:List bg} (h:gG w B A n l) (hB:Below B w w') (hB':B≤B'):gG w' B' A n l:=
 ⟨h.1,h.2.1,fun h0=>by
  obtain⟨b,o,e,hb,hg⟩:=h.2.2 h0
  exact⟨b,o,e,by omega,fun k r hr=>(hg k r hr).below hB hb⟩⟩
theorem gG.acy {w:World} {B n:Nat} {A:Option Addr} {l:List bg} (h:gG w B A n l) {k:Nat} {r:bg} (hr:l[k]?=some r):r.ok:=h.2.1 r (List.mem_of_getElem? hr)
def jy {α:Type} (p:α→Bool) (l:List α):Int:=match l.findIdx? p with | some k=>(k:Int) | none=> -1
theorem rH {α:Type} {p:α→Bool} {l:List α} {k:Nat} {r:α} (hr:l[k]?=some r) (hp:p r=true) (hno:∀j r,j<k→l[j]?=some r→p r=false):jy p l=k:=by
 have hk:=(List.getElem?_eq_some_iff.1 hr).1
 have:l.findIdx? p=some k:=by
  rw[List.findIdx?_eq_some_iff_getElem]
  refine⟨hk,?_,fun j hj=>?_⟩
  ·have:=(List.getElem?_eq_some_iff.1 hr).2;rw[this];exact hp
  ·have:=hno j _ hj (List.getElem?_eq_getElem (by omega));simp[this]
 simp[jy,this]
theorem xG {α:Type} {p:α→Bool} {l:List α} (hno:∀j r,j<l.length→l[j]?=some r→p r=false):jy p l= -1:=by
 have:l.findIdx? p=none:=by
  rw[List.findIdx?_eq_none_iff]
  intro x hx
  obtain⟨j,hj⟩:=List.getElem?_of_mem hx
  exact hno j x (List.getElem?_eq_some_iff.1 hj).1 hj
 simp[jy,this]
theorem qP {a b:Int} (h:a=b):Ending.returned (.int .i64 a)= .returned (.int .i64 b):=by rw[h]
def yA (w:World) (b:Nat) (p:P4):Prop:=
 w.cell? ⟨b,0,none⟩=some (.int .i64 p.src)∧w.cell? ⟨b,1,none⟩=some (.int .i64 p.dst)∧w.cell? ⟨b,2,none⟩=some (.int .i64 p.dz)∧w.cell? ⟨b,3,none⟩=some (.int .i64 p.dU)
theorem yA.below {w w':World} {B b:Nat} {p:P4} (h:yA w b p) (hB:Below B w w') (hb:b<B):yA w' b p:=by
 unfold yA at*
 have e:∀o,w'.cell? ⟨b,o,none⟩=w.cell? ⟨b,o,none⟩:=fun o=>hB.cell (p:=⟨b,o,none⟩) hb
 rw[e,e,e,e]
 exact h
def iY (l:List bg) (p:P4):Bool:=((l.find? fun r=>yw r.m p).map (·.permit)).getD false
theorem Nh {l:List bg} {p:P4} {k:Nat} {r:bg} (hr:l[k]?=some r) (hp:yw r.m p=true) (hno:∀j r,j<k→l[j]?=some r→yw r.m p=false):iY l p=r.permit:=by
 have:l.find? (fun r=>yw r.m p)=some r:=by
  rw[List.find?_eq_some_iff_getElem]
  have hk:=(List.getElem?_eq_some_iff.1 hr)
  obtain⟨hk1,hk2⟩:=hk
  refine⟨hp,k,hk1,hk2,fun j hj=>?_⟩
  have hjl:j<l.length:=by omega
  have:=hno j _ hj (List.getElem?_eq_getElem hjl)
  simp[this]
 simp[iY,this]
theorem Pn {l:List bg} {p:P4} (hno:∀r∈l,yw r.m p=false):iY l p=false:=by
 have:l.find? (fun r=>yw r.m p)=none:=by
  rw[List.find?_eq_none]
  intro r hr
  simp[hno r hr]
 simp[iY,this]
theorem nC {α:Type} (p:α→Bool) (l:List α):(∃(k:Nat) (r:α),jy p l=k∧k<l.length∧l[k]?=some r∧p r=true∧∀j r,j<k→l[j]?=some r→p r=false)∨(jy p l= -1∧∀r∈l,p r=false):=by
 cases h:l.findIdx? p with
 |none=>exact .inr ⟨by simp[jy,h],fun r hr=>by simpa using(List.findIdx?_eq_none_iff.1 h) r hr⟩
 |some k=>
  obtain⟨hk,h1,h2⟩:=List.findIdx?_eq_some_iff_getElem.1 h
  refine .inl ⟨k,l[k],by simp[jy,h],hk,List.getElem?_eq_getElem hk,h1,fun j r hj hr=>?_⟩
  have:=h2 j hj
  rw[List.getElem?_eq_getElem (by omega)]at hr
  cases hr
  simpa using this
end Go.Proofs.YtifkacnoiocebaaGreat
namespace Go.Proofs.YtifkacnoiocebaaGreat
open Go.RowKit
theorem I6 (a:Addr) (n:Nat):(a.add n).block =a.block:=by unfold Addr.add;split<;>rfl
def Reads (w:World) (B size:Nat) (A:Option Addr) (n:Nat) (xs:List Value):Prop:=
 xs.length=n*size∧(0<n→∃ad,A=some ad∧ad.block<B∧∀j u,xs[j]?=some u→w.cell? (ad.add j)=some u)
section
variable {w w':World} {B B' size n:Nat} {A:Option Addr} {xs:List Value}
theorem Reads.keep (h:Reads w B size A n xs) (hk:∀p:Addr,p.block<B→w'.cell? p=w.cell? p):Reads w' B size A n xs:=
 ⟨h.1,fun hn=>by
  obtain⟨ad,e,hb,hc⟩:=h.2 hn
  exact⟨ad,e,hb,fun j u hu=>(hk _ (by rw[I6];exact hb)).trans (hc j u hu)⟩⟩
theorem Reads.alloc (h:Reads w B size A n xs) (hB:B≤w.heap.size) (o:Obj):Reads (w.alloc o) B size A n xs:=h.keep fun p hp=>World.cell?_alloc_lt w o p (by omega)
end
section
variable {P:Program} (w:World)
theorem Cz (base:Nat) (t ty e:TypeId) (i:TypeInfo) (size:Nat) (ht:P.underlying t=some (.slice e)) (hi:P.info? e=some i)
  (v:Value) (n:Nat) (xs:List Value) (hown:w.ownsRow base e size v n xs) (c:Nat):(Builtin.append_ #[t,t] ty #[v,.slice none 0 c]).run P w= .ok v w:=by
 rcases hown.2 with⟨rfl,rfl⟩ | ⟨g,cap,cur,rfl,_,_,hnc,_⟩
 ·simp[Builtin.append_,run_underlying ht,sizeOf,typeInfo,hi,Builtin.lenOf,Builtin.firstCells]
 ·simp[Builtin.append_,run_underlying ht,sizeOf,typeInfo,hi,Builtin.lenOf,Builtin.firstCells,hnc,storeCells]
theorem FY (base:Nat) (t ty e:TypeId) (i:TypeInfo) (z:Value) (size bytes:Nat) (ht:P.underlying t=some (.slice e)) (hi:P.info? e=some i) (hz:i.zero=some z)
  (hsize:i.size=size) (hby:i.bytes=bytes) (hzs:z.cells.size=size) (hsz:0<size)
  (v:Value) (n:Nat) (xs:List Value) (hown:w.ownsRow base e size v n xs)
  (B:Nat) (A:Option Addr) (m c:Nat) (news:List Value) (hr:Reads w B size A m news) (h1:∀u∈news,u.oneCell'=true)
  (h63:n+m≤maxLen) (hbytes:(n+m)*bytes≤140737488355328) (hbase:base≤w.heap.size):
  ∃v' w',(Builtin.append_ #[t,t] ty #[v,.slice A m c]).run P w= .ok v' w'∧w'.ownsRow base e size v' (n+m) (xs++news)∧w.grownBy w' v.ownBlock∧
   (v'.ownBlock=v.ownBlock∨v'.ownBlock=some w.heap.size):=by
 rcases A with _ | ad
 ·have hm:m=0:=by
   rcases Nat.eq_zero_or_pos m with h0 | h0
   ·exact h0
   ·obtain⟨ad,h,_⟩:=hr.2 h0
    cases h
  subst hm
  have hn:news=[]:=List.eq_nil_of_length_eq_zero (by simpa using hr.1)
  subst hn
  exact⟨v,w,Cz w base t ty e i size ht hi v n xs hown c,by simpa using hown,World.grownBy.refl w _,.inl rfl⟩
 ·have hcells:∀j u,news[j]?=some u→w.cell? (ad.add j)=some u:=by
   intro j u hu
   rcases Nat.eq_zero_or_pos m with h0 | h0
   ·subst h0
    have hn:news=[]:=List.eq_nil_of_length_eq_zero (by simpa using hr.1)
    subst hn
    simp at hu
   ·obtain⟨ad',h,_,hc⟩:=hr.2 h0
    injection h with h
    subst h
    exact hc j u hu
  obtain⟨v',w',hrun,h2,h3,_,h5⟩:=run_append_own_at (P:=P) w base t ty e i z size bytes ht hi hz hsize hby hzs hsz v n xs hown ad m c news hr.1 hcells h1 h63 hbytes hbase
  exact⟨v',w',hrun,h2,h3,h5⟩
theorem nP {o:Oper} {a:Act} {K:Act→World→Prop} {Q:Exit→Act→World→Prop} (s x:Operand) (t:TypeId)
  (ho:o.op= .call { callee:=.builtin .append,args:=#[s,x],argTypes:=#[t,t] })
  (base:Nat) (e:TypeId) (i:TypeInfo) (z:Value) (size bytes:Nat) (ht:P.underlying t=some (.slice e)) (hi:P.info? e=some i) (hz:i.zero=some z)
  (hsize:i.size=size) (hby:i.bytes=bytes) (hzs:z.cells.size=size) (hsz:0<size)
  (v:Value) (n:Nat) (xs:List Value) (hs:a.eval s=v) (hown:w.ownsRow base e size v n xs)
  (B:Nat) (A:Option Addr) (m c:Nat) (news:List Value) (hx:a.eval x= .slice A m c) (hr:Reads w B size A m news) (h1:∀u∈news,u.oneCell'=true)
  (h63:n+m≤maxLen) (hbytes:(n+m)*bytes≤140737488355328) (hbase:base≤w.heap.size)
  (h:∀v' w',w'.ownsRow base e size v' (n+m) (xs++news)→w.grownBy w' v.ownBlock→(v'.ownBlock=v.ownBlock∨v'.ownBlock=some w.heap.size)→K (a.put o.dst v') w'):o.wp P a w K Q:=by
 obtain⟨v',w',hrun,h2,h3,h4⟩:=FY (P:=P) w base t o.type e i z size bytes ht hi hz hsize hby hzs hsz v n xs hown B A m c news hr h1 h63 hbytes hbase
 unfold Oper.wp execOp
 simp only[ho,resolve,invoke,builtin,Sem.run_bind,Sem.run_pure,Result.andThen_ok,List.map_toArray,List.map_cons,List.map_nil,hs,hx,hrun]
 exact h v' w' h2 h3 h4
theorem aT {ops:Array Oper} {rest:List Oper} {o:Oper} {a:Act} {Q:Exit→Act→World→Prop} (hgd:o.guard=none) (s x:Operand) (t:TypeId)
  (ho:o.op= .call { callee:=.builtin .append,args:=#[s,x],argTypes:=#[t,t] })
  (base:Nat) (e:TypeId) (i:TypeInfo) (z:Value) (size bytes:Nat) (ht:P.underlying t=some (.slice e)) (hi:P.info? e=some i) (hz:i.zero=some z)
  (hsize:i.size=size) (hby:i.bytes=bytes) (hzs:z.cells.size=size) (hsz:0<size)
  (v:Value) (n:Nat) (xs:List Value) (hs:a.eval s=v) (hown:w.ownsRow base e size v n xs)
  (B:Nat) (A:Option Addr) (m c:Nat) (news:List Value) (hx:a.eval x= .slice A m c) (hr:Reads w B size A m news) (h1:∀u∈news,u.oneCell'=true)
  (h63:n+m≤maxLen) (hbytes:(n+m)*bytes≤140737488355328) (hbase:base≤w.heap.size)
  (h:∀v' w',w'.ownsRow base e size v' (n+m) (xs++news)→w.grownBy w' v.ownBlock→(v'.ownBlock=v.ownBlock∨v'.ownBlock=some w.heap.size)→wpList P ops Q rest (a.put o.dst v') w'):wpList P ops Q (o::rest) a w:=
 wpList_plain hgd fun _ hK=>nP w s x t ho base e i z size bytes ht hi hz hsize hby hzs hsz v n xs hs hown B A m c news hx hr h1 h63 hbytes hbase fun v' w' h2 h3 h4=>hK _ _ (h v' w' h2 h3 h4)
theorem Eb {ops:Array Oper} {o:Oper} {a:Act} {K:Act→World→Prop} {Q:Exit→Act→World→Prop} {E:Prop} (hgd:o.guard=none) (s x:Operand) (t:TypeId)
  (ho:o.op= .call { callee:=.builtin .append,args:=#[s,x],argTypes:=#[t,t] })
  (base:Nat) (e:TypeId) (i:TypeInfo) (z:Value) (size bytes:Nat) (ht:P.underlying t=some (.slice e)) (hi:P.info? e=some i) (hz:i.zero=some z)
  (hsize:i.size=size) (hby:i.bytes=bytes) (hzs:z.cells.size=size) (hsz:0<size)
  (v:Value) (n:Nat) (xs:List Value) (hs:a.eval s=v) (hown:w.ownsRow base e size v n xs)
  (B:Nat) (A:Option Addr) (m c:Nat) (news:List Value) (hx:a.eval x= .slice A m c) (hr:Reads w B size A m news) (h1:∀u∈news,u.oneCell'=true)
  (h63:n+m≤maxLen) (hbytes:(n+m)*bytes≤140737488355328) (hbase:base≤w.heap.size)
  (h:∀v' w',w'.ownsRow base e size v' (n+m) (xs++news)→w.grownBy w' v.ownBlock→(v'.ownBlock=v.ownBlock∨v'.ownBlock=some w.heap.size)→K (a.put o.dst v') w'):
  if Region.wanted o (yielded ops a.tmps)=true then Oper.wp P o a w K Q else E:=by
 have hw:Region.wanted o (yielded ops a.tmps)=true:=by simp[Region.wanted,hgd]
 rw[if_pos hw]
 exact nP w s x t ho base e i z size bytes ht hi hz hsize hby hzs hsz v n xs hs hown B A m c news hx hr h1 h63 hbytes hbase h
end
def bD {α:Type} (cells:α→List Value) (s:Nat) (w:World) (B:Nat) (A:Option Addr) (n:Nat) (l:List α):Prop:=
 l.length=n∧(0<n→∃b o,A=some ⟨b,o,none⟩∧b<B∧∀(k:Nat) (r:α),l[k]?=some r→∀(j:Nat) (v:Value),(cells r)[j]?=some v→w.cell? ⟨b,o+k*s+j,none⟩=some v)
section
variable {α:Type} {cells:α→List Value} {s:Nat} {w w':World} {B B' n:Nat} {A:Option Addr} {l:List α}
theorem bD.below (h:bD cells s w B A n l) (hB:Below B w w') (hB':B≤B'):bD cells s w' B' A n l:=
 ⟨h.1,fun h0=>by
  obtain⟨b,o,e,hb,hg⟩:=h.2 h0
  exact⟨b,o,e,by omega,fun k r hr j v hv=>(hB.cell (p:=⟨b,_,none⟩) hb).trans (hg k r hr j v hv)⟩⟩
theorem bD.get {b o k:Nat} {r:α} (h:bD cells s w B (some ⟨b,o,none⟩) n l) (hr:l[k]?=some r):b<B∧∀(j:Nat) (v:Value),(cells r)[j]?=some v→w.cell? ⟨b,o+k*s+j,none⟩=some v:=by
 have hk:k<n:=by
  have:=(List.getElem?_eq_some_iff.1 hr).1
  have:=h.1
  omega
 obtain⟨b',o',e,hb,hg⟩:=h.2 (by omega)
 cases e
 exact⟨hb,hg k r hr⟩
theorem KV (hs:∀r,(cells r).length =s):∀l:List α,(l.flatMap cells).length =l.length*s:=by
 intro l
 induction l with
 |nil=>simp
 |cons a l ih=>simp only[List.flatMap_cons,List.length_append,List.length_cons,ih,hs,Nat.succ_mul];omega
theorem flat_get (hs:∀r,(cells r).length =s):∀(l:List α) (k:Nat) (r:α) (j:Nat) (v:Value),l[k]?=some r→(cells r)[j]?=some v→(l.flatMap cells)[k*s+j]?=some v:=by
 intro l
 induction l with
 |nil=>intro k r j v h;simp at h
 |cons a l ih=>
  intro k r j v hr hv
  rw[List.flatMap_cons]
  match k with
  |0=>
   have:a=r:=by simpa using hr
   subst this
   have hj:=(List.getElem?_eq_some_iff.1 hv).1
   rw[List.getElem?_append_left (by omega)]
   simpa using hv
  |k+1=>
   have e:(k+1)*s+j=(cells a).length +(k*s+j):=by rw[hs,Nat.succ_mul];omega
   rw[e,List.getElem?_append_right (by omega),Nat.add_sub_cancel_left]
   exact ih k r j v (by simpa using hr) hv
theorem I7 (hs:∀r,(cells r).length =s) (h0:0<s):∀(l:List α) (i:Nat) (v:Value),(l.flatMap cells)[i]?=some v→∃r,l[i / s]?=some r∧(cells r)[i % s]?=some v:=by
 intro l
 induction l with
 |nil=>intro i v h;simp at h
 |cons a l ih=>
  intro i v h
  rw[List.flatMap_cons]at h
  rcases Nat.lt_or_ge i s with hi | hi
  ·rw[List.getElem?_append_left (by rw[hs];exact hi)]at h
   rw[Nat.div_eq_of_lt hi,Nat.mod_eq_of_lt hi]
   exact⟨a,by simp,h⟩
  ·rw[List.getElem?_append_right (by rw[hs];exact hi),hs]at h
   obtain⟨r,h1,h2⟩:=ih (i - s) v h
   have e1:i / s=(i - s) / s+1:=by rw[Nat.div_eq_sub_div h0 hi]
   have e2:i % s=(i - s) % s:=by rw[Nat.mod_eq_sub_mod hi]
   rw[e1,e2]
   exact⟨r,by simpa using h1,h2⟩
theorem addr_add (b o j:Nat):(⟨b,o,none⟩:Addr).add j=⟨b,o+j,none⟩:=by
 unfold Addr.add
 split
 ·rename_i h;subst h;rfl
 ·rfl
theorem bD.reads (hs:∀r,(cells r).length =s) (h0:0<s) (h:bD cells s w B A n l):Reads w B s A n (l.flatMap cells):=
 ⟨by rw[KV hs,h.1],fun hn=>by
  obtain⟨b,o,e,hb,hg⟩:=h.2 hn
  refine⟨⟨b,o,none⟩,e,hb,fun j v hv=>?_⟩
  obtain⟨r,h1,h2⟩:=I7 hs h0 l j v hv
  rw[addr_add]
  have:=hg (j / s) r h1 (j % s) v h2
  rw[Nat.add_assoc,Nat.mul_comm,Nat.div_add_mod]at this
  exact this⟩
theorem bD.lC {base e:Nat} {v:Value} (hs:∀r,(cells r).length =s) (h:w.ownsRow base e s v n (l.flatMap cells)) (hl:l.length=n):
  ∃A c,v= .slice A n c∧n≤c∧bD cells s w w.heap.size A n l∧(∀a,A=some a→base≤a.block):=by
 rcases h.2 with⟨rfl,rfl⟩ | ⟨g,cap,cur,rfl,hg,hh,hnc,_⟩
 ·exact⟨none,0,rfl,Nat.le_refl _,⟨hl,fun h=>absurd h (by omega)⟩,fun a h=>by cases h⟩
 ·refine⟨_,cap,rfl,hnc,⟨hl,fun h0=>⟨g,0,rfl,(Array.getElem?_eq_some_iff.1 hh).1,fun k r hr j u hu=>?_⟩⟩,fun a h=>by cases h;exact hg⟩
  have:=h.cells (g:=g) rfl (k*s+j) u (flat_get hs l k r j u hr hu)
  rw[addr_add]at this
  rw[Nat.zero_add]at this ⊢
  exact this
end
open Go.ChangeAt Go.ChangeShapes Go.WideShapes
theorem bg.len (r:bg):r.cells.length=5:=rfl
theorem bg.one (r:bg):∀u∈r.cells,u.oneCell'=true:=by
 intro u hu
 simp only[bg.cells,List.mem_cons,List.not_mem_nil,or_false]at hu
 rcases hu with rfl | rfl | rfl | rfl | rfl<;>rfl
theorem gG.sl {w:World} {B n:Nat} {A:Option Addr} {l:List bg} (h:gG w B A n l):bD bg.cells 5 w B A n l:=
 ⟨h.1,fun h0=>by
  obtain⟨b,o,e,hb,hg⟩:=h.2.2 h0
  refine⟨b,o,e,hb,fun k r hr j v hv=>?_⟩
  obtain⟨q0,q1,q2,q3,q4⟩:=hg k r hr
  match j,hv with
  |0,hv=>cases hv;exact q0
  |1,hv=>cases hv;exact q1
  |2,hv=>cases hv;exact q2
  |3,hv=>cases hv;exact q3
  |4,hv=>cases hv;exact q4⟩
theorem bD.rules {w:World} {B n:Nat} {A:Option Addr} {l:List bg} (h:bD bg.cells 5 w B A n l) (hok:∀r∈l,r.ok):gG w B A n l:=
 ⟨h.1,hok,fun h0=>by
  obtain⟨b,o,e,hb,hg⟩:=h.2 h0
  exact⟨b,o,e,hb,fun k r hr=>⟨hg k r hr 0 _ rfl,hg k r hr 1 _ rfl,hg k r hr 2 _ rfl,hg k r hr 3 _ rfl,hg k r hr 4 _ rfl⟩⟩⟩
theorem Dy {α:Type} {cells:α→List Value} (h1:∀r,∀u∈cells r,u.oneCell'=true) (l:List α):∀u∈l.flatMap cells,u.oneCell'=true:=by
 intro u hu
 obtain⟨r,_,hr⟩:=List.mem_flatMap.1 hu
 exact h1 r u hr
theorem Tryz.infoRule:(Tryz.prog.info? 161).map (fun i=>(i.zero,i.size,i.bytes))=some (some (.agg #[.bool false,.int .u16 0,.int .u16 0,.int .u8 0,.int .u8 0]),5,8):=by kernel_rfl
theorem FZ (l:List bg) (A:Option Addr) (n c:Nat) (W:World) (hn:n≤17592186044416) (hl:bD bg.cells 5 W W.heap.size A n l):
  Calls Tryz.prog 130 #[.slice A n c] W fun e W'=>
   ∃v,e= .returned v∧W'.ownsRow W.heap.size 161 5 v n (l.flatMap bg.cells)∧Below W.heap.size W W':=by
 obtain⟨i0,hi0,hz0,hz1,hz2⟩:=info_parts Tryz.infoRule
 rcases A with _ | ad
 ·have hn0:n=0:=by
   rcases Nat.eq_zero_or_pos n with h | h
   ·exact h
   ·obtain⟨b,o,e,_⟩:=hl.2 h;cases e
  subst hn0
  have:l=[]:=List.eq_nil_of_length_eq_zero hl.1
  subst this
  have heq:=fun w=>Lib.run_eql_slice_nil (P:=Tryz.prog) w _ _ none 0 c 0 0 Tryz.underlying78
  go_enter Tryz.func130,Tryz.ntmps130
  go_wp2
  go_ret
  exact⟨_,rfl,World.ownsRow_nil _ _ _ _,Below.refl _ _⟩
 ·have HR:=hide (hl.reads bg.len (by omega))
  clear hl
  have heq:=fun w=>Lib.run_eql_slice_nil (P:=Tryz.prog) w _ _ (some ad) n c 0 0 Tryz.underlying78
  go_enter Tryz.func130,Tryz.ntmps130
  go_wp2_with (at_builtin;refine aT _ rfl (.tmp 5) (.tmp 6) 78 rfl W.heap.size 161 i0 _ 5 8 Tryz.underlying78 hi0 hz0 hz1 hz2 rfl (by omega) (.slice (some ⟨W.heap.size,0,none⟩) 0 0) 0 [] rfl (World.ownsRow_lit _ #[] 0 (Nat.le_refl _) (by decide) rfl) W.heap.size (some ad) n c _ rfl (HR.out.alloc (Nat.le_refl _) _) (Dy bg.one l) (by simp only[maxLen];omega) (by omega) (by simp) ?_;intro v1 w1 hown1 hg1 I8)
  go_ret
  refine⟨v1,rfl,by simpa using hown1,((Below.refl _ _).alloc (Nat.le_refl _) _).grown hg1 (by simp) (fun k hk=>?_)⟩
  simp[Value.ownBlock]at hk
  omega
def aZ (n lo hi:Int):Bool:=decide (lo≤n) && decide (n≤hi)
theorem aX (n lo hi:Int) (W:World):Calls Tryz.prog 7 #[.int .i64 n,.int .i64 lo,.int .i64 hi] W fun e W'=>e= .returned (.bool (aZ n lo hi))∧W=W':=by
 cases h1:decide (lo≤n)
 ·have e1:¬lo≤n:=by simpa using h1
  go_enter Tryz.func7,Tryz.ntmps7
  go_wp2
  go_ret
  exact⟨by simp[aZ,h1],rfl⟩
 ·go_enter Tryz.func7,Tryz.ntmps7
  go_wp2
  go_ret
  exact⟨by simp[aZ,h1],rfl⟩
def dH (p:P4):Bool:=aZ p.src 0 15 && aZ p.dst 0 15 && aZ p.dz 0 7 && aZ p.dU 0 7
theorem Ni (p:P4) (W:World):Calls Tryz.prog 37 #[.agg #[.int .i64 p.src,.int .i64 p.dst,.int .i64 p.dz,.int .i64 p.dU]] W fun e W'=>e= .returned (.bool (dH p))∧Below W.heap.size W W':=by
 cases e1:aZ p.src 0 15
 ·go_enter Tryz.func37,Tryz.ntmps37
  go_wp2_with (go_at_call 7;refine(aX _ _ _ _).mono ?_;rintro e w' ⟨rfl,rfl⟩)
  go_ret
  exact⟨by simp[dH, *],((Below.refl _ _).alloc (Nat.le_refl _) _)⟩
 cases e2:aZ p.dst 0 15
 ·go_enter Tryz.func37,Tryz.ntmps37
  go_wp2_with (go_at_call 7;refine(aX _ _ _ _).mono ?_;rintro e w' ⟨rfl,rfl⟩)
  go_ret
  exact⟨by simp[dH, *],((Below.refl _ _).alloc (Nat.le_refl _) _)⟩
 cases e3:aZ p.dz 0 7
 ·go_enter Tryz.func37,Tryz.ntmps37
  go_wp2_with (go_at_call 7;refine(aX _ _ _ _).mono ?_;rintro e w' ⟨rfl,rfl⟩)
  go_ret
  exact⟨by simp[dH, *],((Below.refl _ _).alloc (Nat.le_refl _) _)⟩
 cases e4:aZ p.dU 0 7
 ·go_enter Tryz.func37,Tryz.ntmps37
  go_wp2_with (go_at_call 7;refine(aX _ _ _ _).mono ?_;rintro e w' ⟨rfl,rfl⟩)
  go_ret
  exact⟨by simp[dH, *],((Below.refl _ _).alloc (Nat.le_refl _) _)⟩
 ·go_enter Tryz.func37,Tryz.ntmps37
  go_wp2_with (go_at_call 7;refine(aX _ _ _ _).mono ?_;rintro e w' ⟨rfl,rfl⟩)
  go_ret
  exact⟨by simp[dH, *],((Below.refl _ _).alloc (Nat.le_refl _) _)⟩
open Go.Deep Go.Joins
section
variable {H:Type} {enc:TypeId×Value→H} {w:World} {base:Nat} {spare:Nat→Bool} {held:Bool} {r:Reach} {b0:Nat}
theorem R5 {n:Nat} {cs:List Value} {y:DataW H×List MemPlace} (h:DataW.trod enc Tryz.prog w base spare held n 3 cs=some y):∃k:Int,aO k∧cs=[.int .i64 k]:=by
 obtain⟨a,rfl,rfl,wa⟩:=DataW.trod_int Tryz.underlying3 h
 exact⟨a,Dw wa,rfl⟩
theorem get_some {α:Type} {xs:List α} {i:Nat} (h:i<xs.length):∃y,xs[i]?=some y:=⟨_,List.getElem?_eq_getElem h⟩
theorem Nj {n:Nat} {cs:List Value} {y:DataW H×List MemPlace} (h:DataW.trod enc Tryz.prog w base spare held n 32 cs=some y):
  ∃m:M4,m.ok∧cs=[.int .u16 m.src,.int .u16 m.dst,.int .u8 m.dz,.int .u8 m.dU]:=by
 obtain⟨xs,n',_,_,hlen,hxl,hf⟩:=DataW.trod_struct Tryz.underlying32 h
 rw[Tryz.cellsMatch]at hlen
 match cs,hlen with
 |[c0,c1,c2,c3],_=>
  have h0:=hf 0 _ rfl
  have h1:=hf 1 _ rfl
  have h2:=hf 2 _ rfl
  have h3:=hf 3 _ rfl
  have z1:Tryz.prog.cellsOf 30=1:=by kernel_rfl
  have z2:Tryz.prog.cellsOf 5=1:=by kernel_rfl
  obtain⟨y0,e0⟩:=get_some (xs:=xs) (i:=0) (by rw[hxl];decide)
  obtain⟨y1,e1⟩:=get_some (xs:=xs) (i:=1) (by rw[hxl];decide)
  obtain⟨y2,e2⟩:=get_some (xs:=xs) (i:=2) (by rw[hxl];decide)
  obtain⟨y3,e3⟩:=get_some (xs:=xs) (i:=3) (by rw[hxl];decide)
  rw[e0]at h0
  rw[e1]at h1
  rw[e2]at h2
  rw[e3]at h3
  simp[z1,z2]at h0 h1 h2 h3
  obtain⟨a,rfl,ha⟩:=I5 h0
  obtain⟨b,rfl,hb⟩:=I5 h1
  obtain⟨c,rfl,hc⟩:=FX h2
  obtain⟨d,rfl,hd⟩:=FX h3
  exact⟨⟨a,b,c,d⟩,⟨ha,hb,hc,hd⟩,rfl⟩
theorem Tryz.cellsRule:Tryz.prog.cellsOf 161=5:=by kernel_rfl
theorem Po {n:Nat} {cs:List Value} {y:DataW H×List MemPlace} (h:DataW.trod enc Tryz.prog w base spare held n 161 cs=some y):∃r:bg,r.ok∧cs=r.cells:=by
 obtain⟨xs,n',_,_,hlen,hxl,hf⟩:=DataW.trod_struct Tryz.underlying161 h
 rw[Tryz.cellsRule]at hlen
 match cs,hlen with
 |[c0,c1,c2,c3,c4],_=>
  have h0:=hf 0 _ rfl
  have h1:=hf 1 _ rfl
  have z1:Tryz.prog.cellsOf 4=1:=by kernel_rfl
  obtain⟨y0,e0⟩:=get_some (xs:=xs) (i:=0) (by rw[hxl];decide)
  obtain⟨y1,e1⟩:=get_some (xs:=xs) (i:=1) (by rw[hxl];decide)
  rw[e0]at h0
  rw[e1]at h1
  simp[z1,Tryz.cellsMatch]at h0 h1
  obtain⟨b,hb,_⟩:=DataW.trod_bool Tryz.underlying4 h0
  obtain⟨m,hm,hm2⟩:=Nj h1
  cases hb
  simp only[List.cons.injEq,and_true]at hm2
  obtain⟨rfl,rfl,rfl,rfl⟩:=hm2
  exact⟨⟨b,m⟩,hm,rfl⟩
end
end Go.Proofs.YtifkacnoiocebaaGreat
namespace Go.Proofs.YtifkacnoiocebaaGreat
open Go.RowKit
section
variable {α:Type} {cells:α→List Value} {s:Nat} {w w':World} {B B' n:Nat} {A:Option Addr} {l:List α}
theorem bD.take (h:bD cells s w B A n l) {i:Nat} (hi:i≤n):bD cells s w B A i (l.take i):=
 ⟨by rw[List.length_take,h.1];omega,fun h0=>by
  obtain⟨b,o,e,hb,hg⟩:=h.2 (by omega)
  refine⟨b,o,e,hb,fun k r hr j v hv=>hg k r ?_ j v hv⟩
  have hk:k<i:=by have:=(List.getElem?_eq_some_iff.1 hr).1;simp at this;omega
  rwa [List.getElem?_take_of_lt hk]at hr⟩
end
open Go.ChangeAt Go.ChangeShapes Go.WideShapes
end Go.Proofs.YtifkacnoiocebaaGreat
