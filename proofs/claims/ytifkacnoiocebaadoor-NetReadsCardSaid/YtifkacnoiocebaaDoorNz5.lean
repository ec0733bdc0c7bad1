/- A part of the proof: ShD, St4, St5, St6, Mt2, Mt3. -/
import Derived.Test.YtifkacnoiocebaaDoorNz1
import Derived.Test.YtifkacnoiocebaaDoorNz3
import Derived.Shelf.Strconv.Itoa3
import Derived.Shelf.Strings.OnBuilder
import Derived.Shelf.Strings.Cut
import Derived.Shelf.Strings.Split
import Derived.Test.YtifkacnoiocebaaDoorProg
import Derived.Deep.QuietTactic
import Derived.Lib.SplitLaws
set_option linter.unusedVariables false
set_option linter.unusedSimpArgs false
set_option maxRecDepth 100000
set_option maxHeartbeats 8000000
namespace Go.Proofs
open Go.Shelf Go.RowKit
def Tryd.lays156_ren:Go.Shelf.Ren:=⟨fun | 156=>59 | 165=>86 | 166=>23 | 169=>26 | 240=>50 | 241=>100 | 276=>76 | 277=>109 | n=>n,fun | 31=>45 | 9=>9 | 3=>3 | 4=>4 | 0=>0 | 20=>20 | 72=>71 | 76=>74 | 70=>68 | 37=>69 | 75=>73 | 127=>103 | 164=>118 | 5=>5 | 80=>78 | n=>n,fun | n=>n⟩
theorem Tryd.lays156:Go.Proofs.Lays.n156 Tryd.prog Tryd.lays156_ren:={
 mixed:=by kernel_rfl
 f156:=Tryd.func59.trans (congrArg some (by kernel_rfl))
 f165:=Tryd.func86.trans (congrArg some (by kernel_rfl))
 f166:=Tryd.func23.trans (congrArg some (by kernel_rfl))
 f169:=Tryd.func26.trans (congrArg some (by kernel_rfl))
 f240:=Tryd.func50.trans (congrArg some (by kernel_rfl))
 f241:=Tryd.func100.trans (congrArg some (by kernel_rfl))
 f276:=Tryd.func76.trans (congrArg some (by kernel_rfl))
 f277:=Tryd.func109.trans (congrArg some (by kernel_rfl))
 t0:=Tryd.underlying0
 a0:=Tryd.isAgg0
 z0:=Tryd.sizeOf0
 v0:=Tryd.zeroValue0
 t3:=Tryd.underlying3
 a3:=Tryd.isAgg3
 z3:=Tryd.sizeOf3
 v3:=Tryd.zeroValue3
 t4:=Tryd.underlying4
 a4:=Tryd.isAgg4
 z4:=Tryd.sizeOf4
 v4:=Tryd.zeroValue4
 t9:=Tryd.underlying9
 a9:=Tryd.isAgg9
 z9:=Tryd.sizeOf9
 v9:=Tryd.zeroValue9
 t20:=Tryd.underlying20
 a20:=Tryd.isAgg20
 z20:=Tryd.sizeOf20
 v20:=Tryd.zeroValue20
 t31:=Tryd.underlying45
 a31:=Tryd.isAgg45
 z31:=Tryd.sizeOf45
 v31:=Tryd.zeroValue45
 t37:=Tryd.underlying69
 a37:=Tryd.isAgg69
 z37:=Tryd.sizeOf69
 v37:=Tryd.zeroValue69
 t70:=Tryd.underlying68
 a70:=Tryd.isAgg68
 z70:=Tryd.sizeOf68
 v70:=Tryd.zeroValue68
 t72:=Tryd.underlying71
 a72:=Tryd.isAgg71
 z72:=Tryd.sizeOf71
 v72:=Tryd.zeroValue71
 t75:=Tryd.underlying73
 a75:=Tryd.isAgg73
 z75:=Tryd.sizeOf73
 v75:=Tryd.zeroValue73
 t76:=Tryd.underlying74
 a76:=Tryd.isAgg74
 z76:=Tryd.sizeOf74
 v76:=Tryd.zeroValue74
 t127:=Tryd.underlying103
 a127:=Tryd.isAgg103
 z127:=Tryd.sizeOf103
 v127:=Tryd.zeroValue103
 t164:=Tryd.underlying118
 a164:=Tryd.isAgg118
 z164:=Tryd.sizeOf118
 v164:=Tryd.zeroValue118 }
theorem Tryd.Builder_Extra_156:Builder.Extra Tryd.prog Tryd.lays156_ren:={
 sizeBuilder:=by kernel_rfl
 liesBuilder:=by kernel_rfl
 t5:=Tryd.underlying5
 a5:=Tryd.isAgg5
 z5:=Tryd.sizeOf5
 v5:=Tryd.zeroValue5
 infoByte:=by kernel_rfl
 cellsByte:=by kernel_rfl
 sizeByte:=by kernel_rfl
 neB5:=by decide }
theorem Tryd.strings_Join_none (a:Option Addr) (c:Nat) (sep:ByteArray) (w:World):
  Calls Tryd.prog 59 #[.slice a 0 c,.string sep] w fun e w'=>e= .returned (.string ⟨#[]⟩)∧w'=w:=Any.strings_Join_none Tryd.lays156 Tryd.Builder_Extra_156 a c sep w
theorem Tryd.strings_Join (bk o c:Nat) (xs:List ByteArray) (sep:ByteArray) (w:World) (hcells:∀(j:Nat) x,xs[j]?=some x→w.cell? ⟨bk,o+j,none⟩=some (.string x)) (hbk:bk<w.heap.size) (hN:xs.length≤140737488355328) (hcap:xs.length≤c) (hlen:(Lib.join (xs.map (·.data.toList)) sep.data.toList).length ≤140737488355328):
  Calls Tryd.prog 59 #[.slice (some ⟨bk,o,none⟩) xs.length c,.string sep] w fun e w'=>e= .returned (.string ⟨(Lib.join (xs.map (·.data.toList)) sep.data.toList).toArray⟩)∧Below w.heap.size w w':=Any.strings_Join Tryd.lays156 Tryd.Builder_Extra_156 bk o c xs sep w hcells hbk hN hcap hlen
def Tryd.lays145_ren:Go.Shelf.Ren:=⟨fun | 145=>9 | 220=>27 | 219=>56 | 217=>80 | 225=>81 | 224=>82 | 267=>83 | 266=>98 | 314=>99 | n=>n,fun | 9=>9 | 4=>4 | 59=>42 | 3=>3 | 5=>5 | 46=>127 | 146=>144 | 51=>143 | n=>n,fun | 1=>0 | n=>n⟩
theorem Tryd.lays145:Go.Proofs.Lays.n145 Tryd.prog Tryd.lays145_ren:={
 mixed:=by kernel_rfl
 f145:=Tryd.func9.trans (congrArg some (by kernel_rfl))
 f217:=Tryd.func80.trans (congrArg some (by kernel_rfl))
 f219:=Tryd.func56.trans (congrArg some (by kernel_rfl))
 f220:=Tryd.func27.trans (congrArg some (by kernel_rfl))
 f224:=Tryd.func82.trans (congrArg some (by kernel_rfl))
 f225:=Tryd.func81.trans (congrArg some (by kernel_rfl))
 f266:=Tryd.func98.trans (congrArg some (by kernel_rfl))
 f267:=Tryd.func83.trans (congrArg some (by kernel_rfl))
 f314:=Tryd.func99.trans (congrArg some (by kernel_rfl))
 t3:=Tryd.underlying3
 a3:=Tryd.isAgg3
 z3:=Tryd.sizeOf3
 v3:=Tryd.zeroValue3
 t4:=Tryd.underlying4
 a4:=Tryd.isAgg4
 z4:=Tryd.sizeOf4
 v4:=Tryd.zeroValue4
 t5:=Tryd.underlying5
 a5:=Tryd.isAgg5
 z5:=Tryd.sizeOf5
 v5:=Tryd.zeroValue5
 t9:=Tryd.underlying9
 a9:=Tryd.isAgg9
 z9:=Tryd.sizeOf9
 v9:=Tryd.zeroValue9
 t46:=Tryd.underlying127
 a46:=Tryd.isAgg127
 z46:=Tryd.sizeOf127
 v46:=Tryd.zeroValue127
 t51:=Tryd.underlying143
 a51:=Tryd.isAgg143
 z51:=Tryd.sizeOf143
 v51:=Tryd.zeroValue143
 t59:=Tryd.underlying42
 a59:=Tryd.isAgg42
 z59:=Tryd.sizeOf42
 v59:=Tryd.zeroValue42
 t146:=Tryd.underlying144
 a146:=Tryd.isAgg144
 z146:=Tryd.sizeOf144
 v146:=Tryd.zeroValue144
 g1:=by kernel_rfl }
theorem Tryd.strings_Cut (s sep:ByteArray) (m:Int) (w:World) (hs:s.size<4294967281) (hm:w.cell? ⟨0,0,none⟩=some (.int .i64 m)):
  Calls Tryd.prog 9 #[.string s,.string sep] w fun e w'=>e= .returned (.tuple #[.string ⟨(Lib.cut s.data.toList sep.data.toList).1.toArray⟩,.string ⟨(Lib.cut s.data.toList sep.data.toList).2.1.toArray⟩,.bool (Lib.cut s.data.toList sep.data.toList).2.2])∧∃n,w'=w.drewN n:=Any.strings_Cut Tryd.lays145 s sep m w hs hm
def Tryd.lays146_ren:Go.Shelf.Ren:=⟨fun | 146=>11 | 221=>32 | 268=>66 | 138=>67 | 143=>68 | 195=>88 | 197=>89 | 218=>90 | 219=>56 | 260=>101 | 217=>80 | 225=>81 | 224=>82 | 267=>83 | 266=>98 | 314=>99 | n=>n,fun | 9=>9 | 31=>45 | 3=>3 | 4=>4 | 0=>0 | 105=>133 | 21=>21 | 5=>5 | 46=>127 | 119=>154 | 139=>157 | 138=>156 | 146=>144 | 51=>143 | n=>n,fun | 1=>0 | 3=>2 | 4=>3 | n=>n⟩
theorem Tryd.lays146:Go.Proofs.Lays.n146 Tryd.prog Tryd.lays146_ren:={
 mixed:=by kernel_rfl
 f138:=Tryd.func67.trans (congrArg some (by kernel_rfl))
 f143:=Tryd.func68.trans (congrArg some (by kernel_rfl))
 f146:=Tryd.func11.trans (congrArg some (by kernel_rfl))
 f195:=Tryd.func88.trans (congrArg some (by kernel_rfl))
 f197:=Tryd.func89.trans (congrArg some (by kernel_rfl))
 f217:=Tryd.func80.trans (congrArg some (by kernel_rfl))
 f218:=Tryd.func90.trans (congrArg some (by kernel_rfl))
 f219:=Tryd.func56.trans (congrArg some (by kernel_rfl))
 f221:=Tryd.func32.trans (congrArg some (by kernel_rfl))
 f224:=Tryd.func82.trans (congrArg some (by kernel_rfl))
 f225:=Tryd.func81.trans (congrArg some (by kernel_rfl))
 f260:=Tryd.func101.trans (congrArg some (by kernel_rfl))
 f266:=Tryd.func98.trans (congrArg some (by kernel_rfl))
 f267:=Tryd.func83.trans (congrArg some (by kernel_rfl))
 f268:=Tryd.func66.trans (congrArg some (by kernel_rfl))
 f314:=Tryd.func99.trans (congrArg some (by kernel_rfl))
 t0:=Tryd.underlying0
 a0:=Tryd.isAgg0
 z0:=Tryd.sizeOf0
 v0:=Tryd.zeroValue0
 t3:=Tryd.underlying3
 a3:=Tryd.isAgg3
 z3:=Tryd.sizeOf3
 v3:=Tryd.zeroValue3
 t4:=Tryd.underlying4
 a4:=Tryd.isAgg4
 z4:=Tryd.sizeOf4
 v4:=Tryd.zeroValue4
 t5:=Tryd.underlying5
 a5:=Tryd.isAgg5
 z5:=Tryd.sizeOf5
 v5:=Tryd.zeroValue5
 t9:=Tryd.underlying9
 a9:=Tryd.isAgg9
 z9:=Tryd.sizeOf9
 v9:=Tryd.zeroValue9
 t21:=Tryd.underlying21
 a21:=Tryd.isAgg21
 z21:=Tryd.sizeOf21
 v21:=Tryd.zeroValue21
 t31:=Tryd.underlying45
 a31:=Tryd.isAgg45
 z31:=Tryd.sizeOf45
 v31:=Tryd.zeroValue45
 t46:=Tryd.underlying127
 a46:=Tryd.isAgg127
 z46:=Tryd.sizeOf127
 v46:=Tryd.zeroValue127
 t51:=Tryd.underlying143
 a51:=Tryd.isAgg143
 z51:=Tryd.sizeOf143
 v51:=Tryd.zeroValue143
 t105:=Tryd.underlying133
 a105:=Tryd.isAgg133
 z105:=Tryd.sizeOf133
 v105:=Tryd.zeroValue133
 t119:=Tryd.underlying154
 a119:=Tryd.isAgg154
 z119:=Tryd.sizeOf154
 t138:=Tryd.underlying156
 a138:=Tryd.isAgg156
 z138:=Tryd.sizeOf156
 v138:=Tryd.zeroValue156
 t139:=Tryd.underlying157
 a139:=Tryd.isAgg157
 z139:=Tryd.sizeOf157
 v139:=Tryd.zeroValue157
 t146:=Tryd.underlying144
 a146:=Tryd.isAgg144
 z146:=Tryd.sizeOf144
 v146:=Tryd.zeroValue144
 g1:=by kernel_rfl
 g3:=by kernel_rfl
 g4:=by kernel_rfl }
theorem Tryd.strings_Split (s sep:ByteArray) (m:Int) (w:World) (hs:s.size<4294967281) (hm:w.cell? ⟨0,0,none⟩=some (.int .i64 m)) (h1:1≤sep.size):
  Calls Tryd.prog 11 #[.string s,.string sep] w fun e w'=>
   e= .returned (.slice (some ⟨w.heap.size,0,none⟩) (Lib.countB s sep+1) (Lib.countB s sep+1))∧w'=w.alloc (.cells ((Lib.splitB sep 0 (Lib.countB s sep) s).map Value.string).toArray 9):=Any.strings_Split Tryd.lays146 (by kernel_rfl) s sep m w hs hm h1
end Go.Proofs
namespace Go.Proofs.YtifkacnoiocebaaDoor
open Go.RowKit
def eP (w:World):Prop:=0<w.heap.size∧∃m:Int,w.cell? ⟨0,0,none⟩=some (.int .i64 m)
theorem eP.below {w w':World} (h:eP w) (hb:Below w.heap.size w w'):eP w':=
 ⟨Nat.lt_of_lt_of_le h.1 hb.size,h.2.imp fun m e=>(hb.cell (p:=⟨_,0,none⟩) h.1).trans e⟩
theorem below_drewN (w:World) (n:Nat):Below w.heap.size w (w.drewN n):=⟨rfl,rfl,rfl,Nat.le_refl _,fun _ _=>rfl⟩
theorem p9 (s:ByteArray) (b:UInt8) (w:World) (hs:s.size≤1048576) (hm:eP w):
  Calls Tryd.prog 9 #[.string s,.string ⟨#[b]⟩] w fun e w'=>e= .returned (.tuple #[mW (cO b s.data.toList).1,mW (cO b s.data.toList).2,.bool (decide (b∈s.data.toList))])∧Below w.heap.size w w':=by
 obtain⟨_,m,hm⟩:=hm
 refine(Tryd.strings_Cut s ⟨#[b]⟩ m w (by omega) hm).mono ?_
 rintro e w' ⟨rfl,n,rfl⟩
 have:(⟨#[b]⟩:ByteArray).data.toList =[b]:=rfl
 rw[this,CS]
 exact⟨rfl,below_drewN w n⟩
theorem uJ (x y:List UInt8) (hx:x.length≤1000000) (hy:y.length≤1000000) (w:World):(Op.stringOp .add ⟨x.toArray⟩ ⟨y.toArray⟩).run Tryd.prog w= .ok (.string ⟨(x++y).toArray⟩) w:=
 run_string_add_lists w x y (by omega) (by omega)
theorem nV (x:List UInt8) (most:Int) (w:World):Calls Tryd.prog 87 #[.string ⟨x.toArray⟩,.int .i64 most] w fun e w'=>e= .returned (.int .i64 (aF x most))∧w=w':=yD ⟨x.toArray⟩ most w
theorem jZ (x:List UInt8) (most:Int) (w:World) (h:most≤1000000):Calls Tryd.prog 42 #[.string ⟨x.toArray⟩,.int .i64 most] w fun e w'=>e= .returned (.int .i64 (aF x (most+1)))∧w=w':=kX ⟨x.toArray⟩ most w h
theorem lY {w:World} {b:Nat} {o:Obj} (h:w.heap[b]?=some o):b<w.heap.size:=(Array.getElem?_eq_some_iff.1 h).1
theorem lX {w:World} {b:Nat} {x0 x1 x2 x3:Value} {t:TypeId} (h:w.heap[b]?=some (.cells #[x0,x1,x2,x3] t)):
  w.cell? ⟨b,0,none⟩=some x0∧w.cell? ⟨b,1,none⟩=some x1∧w.cell? ⟨b,2,none⟩=some x2∧w.cell? ⟨b,3,none⟩=some x3∧
  w.frozen? ⟨b,0,none⟩=false∧w.frozen? ⟨b,1,none⟩=false∧w.frozen? ⟨b,2,none⟩=false∧w.frozen? ⟨b,3,none⟩=false:=
 ⟨by rw[cell_of_row _ _ _ _ _ _ h];rfl,by rw[cell_of_row _ _ _ _ _ _ h];rfl,by rw[cell_of_row _ _ _ _ _ _ h];rfl,by rw[cell_of_row _ _ _ _ _ _ h];rfl,
  frozen_of_row _ _ _ _ _ h,frozen_of_row _ _ _ _ _ h,frozen_of_row _ _ _ _ _ h,frozen_of_row _ _ _ _ _ h⟩
structure cB (w:World) (base g n cap:Nat) (ps:List (List UInt8)):Prop where
 own:w.ownsRow base 9 1 (.slice (some ⟨g,0,none⟩) n cap) n (ps.map mW)
 len:ps.length=n
theorem cB.lt {w:World} {base g n cap:Nat} {ps:List (List UInt8)} (h:cB w base g n cap ps):base≤g∧g<w.heap.size:=h.own.lt g rfl
theorem cB.get {w:World} {base g n cap:Nat} {ps:List (List UInt8)} (h:cB w base g n cap ps) {k:Nat} {x:List UInt8} (hx:ps[k]?=some x):w.cell? ⟨g,k,none⟩=some (.string ⟨x.toArray⟩):=by
 have hk:k<n:=by rw[← h.len];exact(List.getElem?_eq_some_iff.1 hx).1
 rw[h.own.cellAt k (by omega),List.getElem?_map,hx];rfl
theorem cB.below {w w':World} {base g n cap:Nat} {ps:List (List UInt8)} (h:cB w base g n cap ps) (hb:Below w.heap.size w w'):cB w' base g n cap ps:=
 ⟨Go.Proofs.YtifkacnoiocebaaDoor.ownsRow_below h.own hb,h.len⟩
theorem iK (l:List UInt8) (b:UInt8) (w:World) (hs:l.length≤1048576):
  Calls Tryd.prog 15 #[.string ⟨l.toArray⟩,.int .u8 (b.toNat:Int)] w fun e w'=>
   ∃g cap,e= .returned (.slice (some ⟨g,0,none⟩) (pieces b l).length cap)∧cB w' w.heap.size g (pieces b l).length cap (pieces b l)∧Below w.heap.size w w':=by
 refine(yE ⟨l.toArray⟩ b w (by rw[← lT];simpa using hs)).mono ?_
 rintro e w' ⟨v,rfl,ho,hb⟩
 obtain⟨g,cap,rfl,_⟩:=ho.form (dU b _)
 exact⟨g,cap,rfl,⟨ho,rfl⟩,hb⟩
theorem zU {b:UInt8} {l:List UInt8} (h:(pieces b l).length =2):pieces b l=[(cO b l).1,(cO b l).2]:=by
 rcases zy b l with e | ⟨e,_⟩
 ·exact e
 ·exact absurd h e
theorem mg (l:List UInt8) (b:UInt8) (w:World) (hs:l.length≤1048576) (hm:eP w):
  Calls Tryd.prog 11 #[.string ⟨l.toArray⟩,.string ⟨#[b]⟩] w fun e w'=>
   e= .returned (.slice (some ⟨w.heap.size,0,none⟩) (pieces b l).length (pieces b l).length)∧cB w' w.heap.size w.heap.size (pieces b l).length (pieces b l).length (pieces b l)∧Below w.heap.size w w':=by
 obtain⟨_,m,hm⟩:=hm
 refine(Tryd.strings_Split ⟨l.toArray⟩ ⟨#[b]⟩ m w (by rw[← lT];simp;omega) hm (Nat.le_refl 1)).mono ?_
 rintro e w' ⟨rfl,rfl⟩
 have hd:=Lib.splitB_data ⟨#[b]⟩ 0 (Lib.countB ⟨l.toArray⟩ ⟨#[b]⟩) ⟨l.toArray⟩
 have hk:Lib.splitK [b] 0 (Lib.countB ⟨l.toArray⟩ ⟨#[b]⟩) l=pieces b l:=qz b l
 have hd2:(Lib.splitB ⟨#[b]⟩ 0 (Lib.countB ⟨l.toArray⟩ ⟨#[b]⟩) ⟨l.toArray⟩).map (·.data.toList)=pieces b l:=hd.trans hk
 have hlen:=Lib.splitB_all ⟨#[b]⟩ (Nat.le_refl 1) 0 _ ⟨l.toArray⟩ rfl
 have hn:(pieces b l).length =Lib.countB ⟨l.toArray⟩ ⟨#[b]⟩+1:=by rw[← hd2,List.length_map,hlen]
 have hv:(Lib.splitB ⟨#[b]⟩ 0 (Lib.countB ⟨l.toArray⟩ ⟨#[b]⟩) ⟨l.toArray⟩).map Value.string=(pieces b l).map mW:=by
  rw[← hd2,List.map_map]
  exact List.map_congr_left (fun x _=>(CR x).symm)
 rw[hn,hv]
 refine⟨rfl,⟨?_,hn⟩,(Below.refl _ _).alloc (Nat.le_refl _) _⟩
 have hle:=eO b l
 have:=World.ownsRow_lit (e:=9) (size:=1) w ((pieces b l).map mW).toArray (Lib.countB ⟨l.toArray⟩ ⟨#[b]⟩+1) (Nat.le_refl _) (by rw[← hn];unfold maxLen;omega) (by simp[hn])
 simpa using this
theorem zG (b:UInt8) (ps:List (List UInt8)) (k:Nat) (x:List UInt8) (hx:ps[k]?=some x):dO [b] (ps.take (k+1))=if k=0 then x else dO [b] (ps.take k)++b::x:=by
 have ht:ps.take (k+1)=ps.take k++[x]:=by rw[List.take_add_one,hx];rfl
 rw[ht]
 split
 ·rename_i h;subst h;rfl
 ·rename_i h
  rw[uU [b] _ x (by
   have:k<ps.length:=(List.getElem?_eq_some_iff.1 hx).1
   intro e;have h2:=congrArg List.length e;rw[List.length_take]at h2;simp only[List.length_nil]at h2;omega)]
  simp
theorem pK (b:UInt8) (ps:List (List UInt8)) (k:Nat):(dO [b] (ps.take k)).length ≤(dO [b] ps).length :=by
 have key:∀(xs ys:List (List UInt8)),(dO [b] xs).length ≤(dO [b] (xs++ys)).length :=by
  intro xs
  induction xs with
  |nil=>intro ys;simp[dO]
  |cons x xs ih=>
   intro ys
   cases xs with
   |nil=>cases ys<;>simp[dO]
   |cons y r=>
    have:=ih ys
    simp only[List.cons_append,dO,List.length_append]at this ⊢
    omega
 have:=key (ps.take k) (ps.drop k)
 rwa [List.take_append_drop]at this
theorem Dc {w:World} {b:Nat} {x0 x1 x2:Value} {t:TypeId} (h:w.heap[b]?=some (.cells #[x0,x1,x2] t)):
  w.cell? ⟨b,0,none⟩=some x0∧w.cell? ⟨b,1,none⟩=some x1∧w.cell? ⟨b,2,none⟩=some x2:=
 ⟨by rw[cell_of_row _ _ _ _ _ _ h];rfl,by rw[cell_of_row _ _ _ _ _ _ h];rfl,by rw[cell_of_row _ _ _ _ _ _ h];rfl⟩
end Go.Proofs.YtifkacnoiocebaaDoor
