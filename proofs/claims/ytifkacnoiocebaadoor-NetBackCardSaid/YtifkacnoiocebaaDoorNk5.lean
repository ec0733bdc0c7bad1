/- A part of the proof: ShD, St4, St5, St6, Mt2. -/
import Derived.Test.YtifkacnoiocebaaDoorNk1
import Derived.Test.YtifkacnoiocebaaDoorNk3
import Derived.Shelf.Strconv.Itoa3
import Derived.Shelf.Strings.OnBuilder
import Derived.Shelf.Strings.Cut
import Derived.Shelf.Strings.Split
import Derived.Test.YtifkacnoiocebaaDoorProg
import Derived.Deep.QuietTactic
import Derived.Lib.SplitLaws
set_option linter.unusedVariables false
set_option linter.unusedSimpArgs false
set_option maxRecDepth 100000
set_option maxHeartbeats 4000000
namespace Go.Proofs
open Go.Shelf Go.RowKit
def Tryd.lays156_ren:Go.Shelf.Ren:=⟨fun | 156=>59 | 165=>86 | 166=>23 | 169=>26 | 240=>50 | 241=>100 | 276=>76 | 277=>109 | n=>n,fun | 31=>45 | 9=>9 | 3=>3 | 4=>4 | 0=>0 | 20=>20 | 72=>71 | 76=>74 | 70=>68 | 37=>69 | 75=>73 | 127=>103 | 164=>118 | 5=>5 | 80=>78 | n=>n,fun | n=>n⟩
theorem Tryd.lays156:Go.Proofs.Lays.n156 Tryd.prog Tryd.lays156_ren:={
 mixed:=by kernel_rfl
 f156:=Tryd.func59.trans (congrArg some (by kernel_rfl))
 f165:=Tryd.func86.trans (congrArg some (by kernel_rfl))
 f166:=Tryd.func23.trans (congrArg some (by kernel_rfl))
 f169:=Tryd.func26.trans (congrArg some (by kernel_rfl))
 f240:=Tryd.func50.trans (congrArg some (by kernel_rfl))
 f241:=Tryd.func100.trans (congrArg some (by kernel_rfl))
 f276:=Tryd.func76.trans (congrArg some (by kernel_rfl))
 f277:=Tryd.func109.trans (congrArg some (by kernel_rfl))
 t0:=Tryd.underlying0
 a0:=Tryd.isAgg0
 z0:=Tryd.sizeOf0
 v0:=Tryd.zeroValue0
 t3:=Tryd.underlying3
 a3:=Tryd.isAgg3
 z3:=Tryd.sizeOf3
 v3:=Tryd.zeroValue3
 t4:=Tryd.underlying4
 a4:=Tryd.isAgg4
 z4:=Tryd.sizeOf4
 v4:=Tryd.zeroValue4
 t9:=Tryd.underlying9
 a9:=Tryd.isAgg9
 z9:=Tryd.sizeOf9
 v9:=Tryd.zeroValue9
 t20:=Tryd.underlying20
 a20:=Tryd.isAgg20
 z20:=Tryd.sizeOf20
 v20:=Tryd.zeroValue20
 t31:=Tryd.underlying45
 a31:=Tryd.isAgg45
 z31:=Tryd.sizeOf45
 v31:=Tryd.zeroValue45
 t37:=Tryd.underlying69
 a37:=Tryd.isAgg69
 z37:=Tryd.sizeOf69
 v37:=Tryd.zeroValue69
 t70:=Tryd.underlying68
 a70:=Tryd.isAgg68
 z70:=Tryd.sizeOf68
 v70:=Tryd.zeroValue68
 t72:=Tryd.underlying71
 a72:=Tryd.isAgg71
 z72:=Tryd.sizeOf71
 v72:=Tryd.zeroValue71
 t75:=Tryd.underlying73
 a75:=Tryd.isAgg73
 z75:=Tryd.sizeOf73
 v75:=Tryd.zeroValue73
 t76:=Tryd.underlying74
 a76:=Tryd.isAgg74
 z76:=Tryd.sizeOf74
 v76:=Tryd.zeroValue74
 t127:=Tryd.underlying103
 a127:=Tryd.isAgg103
 z127:=Tryd.sizeOf103
 v127:=Tryd.zeroValue103
 t164:=Tryd.underlying118
 a164:=Tryd.isAgg118
 z164:=Tryd.sizeOf118
 v164:=Tryd.zeroValue118 }
theorem Tryd.Builder_Extra_156:Builder.Extra Tryd.prog Tryd.lays156_ren:={
 sizeBuilder:=by kernel_rfl
 liesBuilder:=by kernel_rfl
 t5:=Tryd.underlying5
 a5:=Tryd.isAgg5
 z5:=Tryd.sizeOf5
 v5:=Tryd.zeroValue5
 infoByte:=by kernel_rfl
 cellsByte:=by kernel_rfl
 sizeByte:=by kernel_rfl
 neB5:=by decide }
theorem Tryd.strings_Join_none (a:Option Addr) (c:Nat) (sep:ByteArray) (w:World):
  Calls Tryd.prog 59 #[.slice a 0 c,.string sep] w fun e w'=>e= .returned (.string ⟨#[]⟩)∧w'=w:=Any.strings_Join_none Tryd.lays156 Tryd.Builder_Extra_156 a c sep w
theorem Tryd.strings_Join (bk o c:Nat) (xs:List ByteArray) (sep:ByteArray) (w:World) (hcells:∀(j:Nat) x,xs[j]?=some x→w.cell? ⟨bk,o+j,none⟩=some (.string x)) (hbk:bk<w.heap.size) (hN:xs.length≤140737488355328) (hcap:xs.length≤c) (hlen:(Lib.join (xs.map (·.data.toList)) sep.data.toList).length ≤140737488355328):
  Calls Tryd.prog 59 #[.slice (some ⟨bk,o,none⟩) xs.length c,.string sep] w fun e w'=>e= .returned (.string ⟨(Lib.join (xs.map (·.data.toList)) sep.data.toList).toArray⟩)∧Below w.heap.size w w':=Any.strings_Join Tryd.lays156 Tryd.Builder_Extra_156 bk o c xs sep w hcells hbk hN hcap hlen
def Tryd.lays171_ren:Go.Shelf.Ren:=⟨fun | 171=>25 | 243=>55 | 246=>79 | 283=>94 | 284=>95 | 285=>96 | 286=>97 | 129=>105 | 317=>104 | 318=>106 | 319=>107 | 320=>108 | 337=>110 | 338=>111 | n=>n,fun | 3=>3 | 9=>9 | 2=>2 | 4=>4 | 171=>137 | 0=>0 | 53=>138 | 37=>69 | 5=>5 | 173=>141 | 212=>149 | 51=>143 | 20=>20 | 213=>150 | 46=>127 | 232=>159 | 233=>160 | n=>n,fun | 17=>1 | 18=>4 | 19=>5 | n=>n⟩
theorem Tryd.lays171:Go.Proofs.Lays.n171 Tryd.prog Tryd.lays171_ren:={
 mixed:=by kernel_rfl
 f129:=Tryd.func105.trans (congrArg some (by kernel_rfl))
 f171:=Tryd.func25.trans (congrArg some (by kernel_rfl))
 f243:=Tryd.func55.trans (congrArg some (by kernel_rfl))
 f246:=Tryd.func79.trans (congrArg some (by kernel_rfl))
 f283:=Tryd.func94.trans (congrArg some (by kernel_rfl))
 f284:=Tryd.func95.trans (congrArg some (by kernel_rfl))
 f285:=Tryd.func96.trans (congrArg some (by kernel_rfl))
 f286:=Tryd.func97.trans (congrArg some (by kernel_rfl))
 f317:=Tryd.func104.trans (congrArg some (by kernel_rfl))
 f318:=Tryd.func106.trans (congrArg some (by kernel_rfl))
 f319:=Tryd.func107.trans (congrArg some (by kernel_rfl))
 f320:=Tryd.func108.trans (congrArg some (by kernel_rfl))
 f337:=Tryd.func110.trans (congrArg some (by kernel_rfl))
 f338:=Tryd.func111.trans (congrArg some (by kernel_rfl))
 t0:=Tryd.underlying0
 a0:=Tryd.isAgg0
 z0:=Tryd.sizeOf0
 v0:=Tryd.zeroValue0
 t2:=Tryd.underlying2
 a2:=Tryd.isAgg2
 z2:=Tryd.sizeOf2
 v2:=Tryd.zeroValue2
 t3:=Tryd.underlying3
 a3:=Tryd.isAgg3
 z3:=Tryd.sizeOf3
 v3:=Tryd.zeroValue3
 t4:=Tryd.underlying4
 a4:=Tryd.isAgg4
 z4:=Tryd.sizeOf4
 v4:=Tryd.zeroValue4
 t5:=Tryd.underlying5
 a5:=Tryd.isAgg5
 z5:=Tryd.sizeOf5
 v5:=Tryd.zeroValue5
 t9:=Tryd.underlying9
 a9:=Tryd.isAgg9
 z9:=Tryd.sizeOf9
 v9:=Tryd.zeroValue9
 t20:=Tryd.underlying20
 a20:=Tryd.isAgg20
 z20:=Tryd.sizeOf20
 v20:=Tryd.zeroValue20
 t37:=Tryd.underlying69
 a37:=Tryd.isAgg69
 z37:=Tryd.sizeOf69
 v37:=Tryd.zeroValue69
 t46:=Tryd.underlying127
 a46:=Tryd.isAgg127
 z46:=Tryd.sizeOf127
 v46:=Tryd.zeroValue127
 t51:=Tryd.underlying143
 a51:=Tryd.isAgg143
 z51:=Tryd.sizeOf143
 v51:=Tryd.zeroValue143
 t53:=Tryd.underlying138
 a53:=Tryd.isAgg138
 z53:=Tryd.sizeOf138
 v53:=Tryd.zeroValue138
 t171:=Tryd.underlying137
 a171:=Tryd.isAgg137
 z171:=Tryd.sizeOf137
 v171:=Tryd.zeroValue137
 t173:=Tryd.underlying141
 a173:=Tryd.isAgg141
 z173:=Tryd.sizeOf141
 v173:=Tryd.zeroValue141
 t212:=Tryd.underlying149
 a212:=Tryd.isAgg149
 z212:=Tryd.sizeOf149
 v212:=Tryd.zeroValue149
 t213:=Tryd.underlying150
 a213:=Tryd.isAgg150
 z213:=Tryd.sizeOf150
 t232:=Tryd.underlying159
 a232:=Tryd.isAgg159
 z232:=Tryd.sizeOf159
 v232:=Tryd.zeroValue159
 t233:=Tryd.underlying160
 a233:=Tryd.isAgg160
 z233:=Tryd.sizeOf160
 v233:=Tryd.zeroValue160
 g17:=by kernel_rfl
 g18:=by kernel_rfl
 g19:=by kernel_rfl }
theorem Tryd.strconv_Itoa_small (i:Nat) (hi:i<100) (w:World):
  Calls Tryd.prog 25 #[.int .i64 i] w fun e w'=>e= .returned (.string ⟨(Lib.decDigits i).toArray⟩)∧w'=w:=Any.strconv_Itoa_small Tryd.lays171 i hi w
def Tryd.lays145_ren:Go.Shelf.Ren:=⟨fun | 145=>9 | 220=>27 | 219=>56 | 217=>80 | 225=>81 | 224=>82 | 267=>83 | 266=>98 | 314=>99 | n=>n,fun | 9=>9 | 4=>4 | 59=>42 | 3=>3 | 5=>5 | 46=>127 | 146=>144 | 51=>143 | n=>n,fun | 1=>0 | n=>n⟩
theorem Tryd.lays145:Go.Proofs.Lays.n145 Tryd.prog Tryd.lays145_ren:={
 mixed:=by kernel_rfl
 f145:=Tryd.func9.trans (congrArg some (by kernel_rfl))
 f217:=Tryd.func80.trans (congrArg some (by kernel_rfl))
 f219:=Tryd.func56.trans (congrArg some (by kernel_rfl))
 f220:=Tryd.func27.trans (congrArg some (by kernel_rfl))
 f224:=Tryd.func82.trans (congrArg some (by kernel_rfl))
 f225:=Tryd.func81.trans (congrArg some (by kernel_rfl))
 f266:=Tryd.func98.trans (congrArg some (by kernel_rfl))
 f267:=Tryd.func83.trans (congrArg some (by kernel_rfl))
 f314:=Tryd.func99.trans (congrArg some (by kernel_rfl))
 t3:=Tryd.underlying3
 a3:=Tryd.isAgg3
 z3:=Tryd.sizeOf3
 v3:=Tryd.zeroValue3
 t4:=Tryd.underlying4
 a4:=Tryd.isAgg4
 z4:=Tryd.sizeOf4
 v4:=Tryd.zeroValue4
 t5:=Tryd.underlying5
 a5:=Tryd.isAgg5
 z5:=Tryd.sizeOf5
 v5:=Tryd.zeroValue5
 t9:=Tryd.underlying9
 a9:=Tryd.isAgg9
 z9:=Tryd.sizeOf9
 v9:=Tryd.zeroValue9
 t46:=Tryd.underlying127
 a46:=Tryd.isAgg127
 z46:=Tryd.sizeOf127
 v46:=Tryd.zeroValue127
 t51:=Tryd.underlying143
 a51:=Tryd.isAgg143
 z51:=Tryd.sizeOf143
 v51:=Tryd.zeroValue143
 t59:=Tryd.underlying42
 a59:=Tryd.isAgg42
 z59:=Tryd.sizeOf42
 v59:=Tryd.zeroValue42
 t146:=Tryd.underlying144
 a146:=Tryd.isAgg144
 z146:=Tryd.sizeOf144
 v146:=Tryd.zeroValue144
 g1:=by kernel_rfl }
theorem Tryd.strings_Cut (s sep:ByteArray) (m:Int) (w:World) (hs:s.size<4294967281) (hm:w.cell? ⟨0,0,none⟩=some (.int .i64 m)):
  Calls Tryd.prog 9 #[.string s,.string sep] w fun e w'=>e= .returned (.tuple #[.string ⟨(Lib.cut s.data.toList sep.data.toList).1.toArray⟩,.string ⟨(Lib.cut s.data.toList sep.data.toList).2.1.toArray⟩,.bool (Lib.cut s.data.toList sep.data.toList).2.2])∧∃n,w'=w.drewN n:=Any.strings_Cut Tryd.lays145 s sep m w hs hm
def Tryd.lays146_ren:Go.Shelf.Ren:=⟨fun | 146=>11 | 221=>32 | 268=>66 | 138=>67 | 143=>68 | 195=>88 | 197=>89 | 218=>90 | 219=>56 | 260=>101 | 217=>80 | 225=>81 | 224=>82 | 267=>83 | 266=>98 | 314=>99 | n=>n,fun | 9=>9 | 31=>45 | 3=>3 | 4=>4 | 0=>0 | 105=>133 | 21=>21 | 5=>5 | 46=>127 | 119=>154 | 139=>157 | 138=>156 | 146=>144 | 51=>143 | n=>n,fun | 1=>0 | 3=>2 | 4=>3 | n=>n⟩
theorem Tryd.lays146:Go.Proofs.Lays.n146 Tryd.prog Tryd.lays146_ren:={
 mixed:=by kernel_rfl
 f138:=Tryd.func67.trans (congrArg some (by kernel_rfl))
 f143:=Tryd.func68.trans (congrArg some (by kernel_rfl))
 f146:=Tryd.func11.trans (congrArg some (by kernel_rfl))
 f195:=Tryd.func88.trans (congrArg some (by kernel_rfl))
 f197:=Tryd.func89.trans (congrArg some (by kernel_rfl))
 f217:=Tryd.func80.trans (congrArg some (by kernel_rfl))
 f218:=Tryd.func90.trans (congrArg some (by kernel_rfl))
 f219:=Tryd.func56.trans (congrArg some (by kernel_rfl))
 f221:=Tryd.func32.trans (congrArg some (by kernel_rfl))
 f224:=Tryd.func82.trans (congrArg some (by kernel_rfl))
 f225:=Tryd.func81.trans (congrArg some (by kernel_rfl))
 f260:=Tryd.func101.trans (congrArg some (by kernel_rfl))
 f266:=Tryd.func98.trans (congrArg some (by kernel_rfl))
 f267:=Tryd.func83.trans (congrArg some (by kernel_rfl))
 f268:=Tryd.func66.trans (congrArg some (by kernel_rfl))
 f314:=Tryd.func99.trans (congrArg some (by kernel_rfl))
 t0:=Tryd.underlying0
 a0:=Tryd.isAgg0
 z0:=Tryd.sizeOf0
 v0:=Tryd.zeroValue0
 t3:=Tryd.underlying3
 a3:=Tryd.isAgg3
 z3:=Tryd.sizeOf3
 v3:=Tryd.zeroValue3
 t4:=Tryd.underlying4
 a4:=Tryd.isAgg4
 z4:=Tryd.sizeOf4
 v4:=Tryd.zeroValue4
 t5:=Tryd.underlying5
 a5:=Tryd.isAgg5
 z5:=Tryd.sizeOf5
 v5:=Tryd.zeroValue5
 t9:=Tryd.underlying9
 a9:=Tryd.isAgg9
 z9:=Tryd.sizeOf9
 v9:=Tryd.zeroValue9
 t21:=Tryd.underlying21
 a21:=Tryd.isAgg21
 z21:=Tryd.sizeOf21
 v21:=Tryd.zeroValue21
 t31:=Tryd.underlying45
 a31:=Tryd.isAgg45
 z31:=Tryd.sizeOf45
 v31:=Tryd.zeroValue45
 t46:=Tryd.underlying127
 a46:=Tryd.isAgg127
 z46:=Tryd.sizeOf127
 v46:=Tryd.zeroValue127
 t51:=Tryd.underlying143
 a51:=Tryd.isAgg143
 z51:=Tryd.sizeOf143
 v51:=Tryd.zeroValue143
 t105:=Tryd.underlying133
 a105:=Tryd.isAgg133
 z105:=Tryd.sizeOf133
 v105:=Tryd.zeroValue133
 t119:=Tryd.underlying154
 a119:=Tryd.isAgg154
 z119:=Tryd.sizeOf154
 t138:=Tryd.underlying156
 a138:=Tryd.isAgg156
 z138:=Tryd.sizeOf156
 v138:=Tryd.zeroValue156
 t139:=Tryd.underlying157
 a139:=Tryd.isAgg157
 z139:=Tryd.sizeOf157
 v139:=Tryd.zeroValue157
 t146:=Tryd.underlying144
 a146:=Tryd.isAgg144
 z146:=Tryd.sizeOf144
 v146:=Tryd.zeroValue144
 g1:=by kernel_rfl
 g3:=by kernel_rfl
 g4:=by kernel_rfl }
theorem Tryd.strings_Split (s sep:ByteArray) (m:Int) (w:World) (hs:s.size<4294967281) (hm:w.cell? ⟨0,0,none⟩=some (.int .i64 m)) (h1:1≤sep.size):
  Calls Tryd.prog 11 #[.string s,.string sep] w fun e w'=>
   e= .returned (.slice (some ⟨w.heap.size,0,none⟩) (Lib.countB s sep+1) (Lib.countB s sep+1))∧w'=w.alloc (.cells ((Lib.splitB sep 0 (Lib.countB s sep) s).map Value.string).toArray 9):=Any.strings_Split Tryd.lays146 (by kernel_rfl) s sep m w hs hm h1
end Go.Proofs
namespace Go.Proofs.YtifkacnoiocebaaDoor
open Go.RowKit
def dF (w:World):Prop:=0<w.heap.size∧∃m:Int,w.cell? ⟨0,0,none⟩=some (.int .i64 m)
theorem dF.below {w w':World} (h:dF w) (hb:Below w.heap.size w w'):dF w':=
 ⟨Nat.lt_of_lt_of_le h.1 hb.size,h.2.imp fun m e=>(hb.cell (p:=⟨_,0,none⟩) h.1).trans e⟩
theorem below_drewN (w:World) (n:Nat):Below w.heap.size w (w.drewN n):=⟨rfl,rfl,rfl,Nat.le_refl _,fun _ _=>rfl⟩
theorem pI (s:ByteArray) (b:UInt8) (w:World) (hs:s.size≤1048576) (hm:dF w):
  Calls Tryd.prog 9 #[.string s,.string ⟨#[b]⟩] w fun e w'=>e= .returned (.tuple #[gD (cZ b s.data.toList).1,gD (cZ b s.data.toList).2,.bool (decide (b∈s.data.toList))])∧Below w.heap.size w w':=by
 obtain⟨_,m,hm⟩:=hm
 refine(Tryd.strings_Cut s ⟨#[b]⟩ m w (by omega) hm).mono ?_
 rintro e w' ⟨rfl,n,rfl⟩
 have:(⟨#[b]⟩:ByteArray).data.toList =[b]:=rfl
 rw[this,DY]
 exact⟨rfl,below_drewN w n⟩
theorem aj (x y:List UInt8) (hx:x.length≤1000000) (hy:y.length≤1000000) (w:World):(Op.stringOp .add ⟨x.toArray⟩ ⟨y.toArray⟩).run Tryd.prog w= .ok (.string ⟨(x++y).toArray⟩) w:=
 run_string_add_lists w x y (by omega) (by omega)
theorem bf {u:Nat} (h:u<100):(Lib.decDigits u).length ≤2:=rz u 1 (by omega)
theorem nA (x:List UInt8) (most:Int) (w:World):Calls Tryd.prog 87 #[.string ⟨x.toArray⟩,.int .i64 most] w fun e w'=>e= .returned (.int .i64 (aH x most))∧w=w':=yC ⟨x.toArray⟩ most w
theorem cO {w:World} {b:Nat} {o:Obj} (h:w.heap[b]?=some o):b<w.heap.size:=(Array.getElem?_eq_some_iff.1 h).1
theorem kM {w:World} {b:Nat} {x0 x1 x2 x3:Value} {t:TypeId} (h:w.heap[b]?=some (.cells #[x0,x1,x2,x3] t)):
  w.cell? ⟨b,0,none⟩=some x0∧w.cell? ⟨b,1,none⟩=some x1∧w.cell? ⟨b,2,none⟩=some x2∧w.cell? ⟨b,3,none⟩=some x3∧
  w.frozen? ⟨b,0,none⟩=false∧w.frozen? ⟨b,1,none⟩=false∧w.frozen? ⟨b,2,none⟩=false∧w.frozen? ⟨b,3,none⟩=false:=
 ⟨by rw[cell_of_row _ _ _ _ _ _ h];rfl,by rw[cell_of_row _ _ _ _ _ _ h];rfl,by rw[cell_of_row _ _ _ _ _ _ h];rfl,by rw[cell_of_row _ _ _ _ _ _ h];rfl,
  frozen_of_row _ _ _ _ _ h,frozen_of_row _ _ _ _ _ h,frozen_of_row _ _ _ _ _ h,frozen_of_row _ _ _ _ _ h⟩
structure bR (w:World) (base g n cap:Nat) (ps:List (List UInt8)):Prop where
 own:w.ownsRow base 9 1 (.slice (some ⟨g,0,none⟩) n cap) n (ps.map gD)
 len:ps.length=n
theorem bR.lt {w:World} {base g n cap:Nat} {ps:List (List UInt8)} (h:bR w base g n cap ps):base≤g∧g<w.heap.size:=h.own.lt g rfl
theorem bR.get {w:World} {base g n cap:Nat} {ps:List (List UInt8)} (h:bR w base g n cap ps) {k:Nat} {x:List UInt8} (hx:ps[k]?=some x):w.cell? ⟨g,k,none⟩=some (.string ⟨x.toArray⟩):=by
 have hk:k<n:=by rw[← h.len];exact(List.getElem?_eq_some_iff.1 hx).1
 rw[h.own.cellAt k (by omega),List.getElem?_map,hx];rfl
theorem bR.below {w w':World} {base g n cap:Nat} {ps:List (List UInt8)} (h:bR w base g n cap ps) (hb:Below w.heap.size w w'):bR w' base g n cap ps:=
 ⟨Go.Proofs.YtifkacnoiocebaaDoor.ownsRow_below h.own hb,h.len⟩
theorem kX (l:List UInt8) (b:UInt8) (w:World) (hs:l.length≤1048576) (hm:dF w):
  Calls Tryd.prog 11 #[.string ⟨l.toArray⟩,.string ⟨#[b]⟩] w fun e w'=>
   e= .returned (.slice (some ⟨w.heap.size,0,none⟩) (pieces b l).length (pieces b l).length)∧bR w' w.heap.size w.heap.size (pieces b l).length (pieces b l).length (pieces b l)∧Below w.heap.size w w':=by
 obtain⟨_,m,hm⟩:=hm
 refine(Tryd.strings_Split ⟨l.toArray⟩ ⟨#[b]⟩ m w (by rw[← oJ];simp;omega) hm (Nat.le_refl 1)).mono ?_
 rintro e w' ⟨rfl,rfl⟩
 have hd:=Lib.splitB_data ⟨#[b]⟩ 0 (Lib.countB ⟨l.toArray⟩ ⟨#[b]⟩) ⟨l.toArray⟩
 have hk:Lib.splitK [b] 0 (Lib.countB ⟨l.toArray⟩ ⟨#[b]⟩) l=pieces b l:=qy b l
 have hd2:(Lib.splitB ⟨#[b]⟩ 0 (Lib.countB ⟨l.toArray⟩ ⟨#[b]⟩) ⟨l.toArray⟩).map (·.data.toList)=pieces b l:=hd.trans hk
 have hlen:=Lib.splitB_all ⟨#[b]⟩ (Nat.le_refl 1) 0 _ ⟨l.toArray⟩ rfl
 have hn:(pieces b l).length =Lib.countB ⟨l.toArray⟩ ⟨#[b]⟩+1:=by rw[← hd2,List.length_map,hlen]
 have hv:(Lib.splitB ⟨#[b]⟩ 0 (Lib.countB ⟨l.toArray⟩ ⟨#[b]⟩) ⟨l.toArray⟩).map Value.string=(pieces b l).map gD:=by
  rw[← hd2,List.map_map]
  exact List.map_congr_left (fun x _=>(DX x).symm)
 rw[hn,hv]
 refine⟨rfl,⟨?_,hn⟩,(Below.refl _ _).alloc (Nat.le_refl _) _⟩
 have hle:=gJ b l
 have:=World.ownsRow_lit (e:=9) (size:=1) w ((pieces b l).map gD).toArray (Lib.countB ⟨l.toArray⟩ ⟨#[b]⟩+1) (Nat.le_refl _) (by rw[← hn];unfold maxLen;omega) (by simp[hn])
 simpa using this
theorem ow (ps:List (List UInt8)) (b:UInt8) (base g n cap:Nat) (w:World) (hps:bR w base g n cap ps) (hlen:(aS [b] ps).length ≤1048576) (hn:n≤1048576) (hcap:n≤cap):
  Calls Tryd.prog 59 #[.slice (some ⟨g,0,none⟩) n cap,.string ⟨#[b]⟩] w fun e w'=>e= .returned (.string ⟨(aS [b] ps).toArray⟩)∧Below w.heap.size w w':=by
 have hmap:(ps.map (fun x=>(⟨x.toArray⟩:ByteArray))).map (·.data.toList)=ps:=by
  rw[List.map_map];simp[Function.comp_def]
 have hj:=sF [b] ps
 have:=Tryd.strings_Join g 0 cap (ps.map (fun x=>(⟨x.toArray⟩:ByteArray))) ⟨#[b]⟩ w (fun j x hx=>by
  rw[List.getElem?_map]at hx
  cases e:ps[j]? with
  |none=>rw[e]at hx;cases hx
  |some y=>rw[e]at hx;cases hx;rw[Nat.zero_add];exact hps.get e) hps.lt.2 (by rw[List.length_map,hps.len];omega) (by rw[List.length_map,hps.len];exact hcap)
  (by rw[hmap];show(Lib.join ps [b]).length ≤_;rw[hj];omega)
 rw[hmap,List.length_map,hps.len]at this
 refine this.mono ?_
 rintro e w' ⟨rfl,hb⟩
 refine⟨?_,hb⟩
 show Ending.returned (.string ⟨(Lib.join ps [b]).toArray⟩)=_
 rw[hj]
end Go.Proofs.YtifkacnoiocebaaDoor
