/- A part of the proof: Arr, Opens, WorldF, ArrKeys, LawTwo, PlayA. -/
import Derived.Test.YthaiffjalgionaaWg17
import Derived.Deep.DeepCutAuto
import Derived.Deep.CutBlock
import Derived.Shelf.SlMaps.Clone

set_option linter.unusedVariables false
set_option linter.unusedSimpArgs false
namespace Go.Proofs.Ythaiffjalgionaa
open Go.RowKit

structure ArrV where
  d : Int
  y : Int
  p : P4
def ArrV.cells (x : ArrV) : List Value := [.int .i64 x.d, .int .i64 x.y, .int .i64 x.p.src, .int .i64 x.p.dst, .int .i64 x.p.sport, .int .i64 x.p.dport]
theorem ArrV.len (x : ArrV) : x.cells.length = 6 := rfl
theorem ArrV.one (x : ArrV) : ∀ u ∈ x.cells, u.oneCell' = true := by
  intro u hu
  simp only [ArrV.cells, List.mem_cons, List.not_mem_nil, or_false] at hu
  rcases hu with rfl | rfl | rfl | rfl | rfl | rfl <;> rfl
def ArrV.val (x : ArrV) : Value := .agg #[.int .i64 x.d, .int .i64 x.y, .int .i64 x.p.src, .int .i64 x.p.dst, .int .i64 x.p.sport, .int .i64 x.p.dport]
def eqA (x y : ArrV) : Bool := x.d == y.d && x.y == y.y && eq4 x.p y.p
theorem eqA_iff (x y : ArrV) : eqA x y = true ↔ x = y := by
  obtain ⟨a, c, p⟩ := x
  obtain ⟨a', c', p'⟩ := y
  simp [eqA, eq4_iff, and_assoc]
instance : DecidableEq ArrV := fun x y => decidable_of_iff _ (eqA_iff x y)
structure ArrV.ok (x : ArrV) : Prop where
  d : i64ok x.d
  y : i64ok x.y
  p : x.p.ok
theorem arr_get {w : World} {B b o n k : Nat} {l : List ArrV} {x : ArrV} (h : SlAt ArrV.cells 6 w B (some ⟨b, o, none⟩) n l) (hx : l[k]? = some x) : w.cell? ⟨b, o + k * 6, none⟩ = some (.int .i64 x.d) ∧ w.cell? ⟨b, o + k * 6 + 1, none⟩ = some (.int .i64 x.y) ∧ w.cell? ⟨b, o + k * 6 + 2, none⟩ = some (.int .i64 x.p.src) ∧ w.cell? ⟨b, o + k * 6 + 3, none⟩ = some (.int .i64 x.p.dst) ∧ w.cell? ⟨b, o + k * 6 + 4, none⟩ = some (.int .i64 x.p.sport) ∧ w.cell? ⟨b, o + k * 6 + 5, none⟩ = some (.int .i64 x.p.dport) := by
  obtain ⟨_, hg⟩ := h.get hx
  exact ⟨hg 0 _ rfl, hg 1 _ rfl, hg 2 _ rfl, hg 3 _ rfl, hg 4 _ rfl, hg 5 _ rfl⟩

set_option maxRecDepth 100000 in
theorem equalArr_yes (l : List ArrV) (A1 A2 : Option Addr) (n c1 c2 : Nat) (W : World) (hn : n ≤ 9223372036854775807) (h1 : SlAt ArrV.cells 6 W W.heap.size A1 n l) (h2 : SlAt ArrV.cells 6 W W.heap.size A2 n l) :
    Calls Try.prog 33 #[.slice A1 n c1, .slice A2 n c2] W fun e W' => e = .returned (.bool true) ∧ RowKit.Below W.heap.size W W' := by
  have H1 := hide h1
  have H2 := hide h2
  clear h1 h2
  go_enter Try.func33, Try.ntmps33
  go_wp2
  go_loopw [13] (fun i wr => ∃ k : Nat, k ≤ n ∧ i = .int .i64 k ∧ Hid (RowKit.Below W.heap.size W wr)) (fun i _ => n - (intOf i).toNat)
  case atStart => exact ⟨0, Nat.zero_le _, rfl, hide (RowKit.Below.refl _ _)⟩
  case round =>
    obtain ⟨k, hk, rfl, HB⟩ := hrel
    by_cases hlt : k < n
    · obtain ⟨z, hz⟩ : ∃ r, l[k]? = some r := ⟨_, List.getElem?_eq_getElem (by have := H1.out.1; omega)⟩
      obtain ⟨b, o, rfl, _, _⟩ := H1.out.2 (by omega)
      obtain ⟨b', o', rfl, _, _⟩ := H2.out.2 (by omega)
      obtain ⟨q0, q1, q2, q3, q4, q5⟩ := arr_get (H1.out.below HB.out HB.out.size) hz
      obtain ⟨u0, u1, u2, u3, u4, u5⟩ := arr_get (H2.out.below HB.out HB.out.size) hz
      clear hz
      go_wp2
      go_quiet (fail)
      go_wp2
      go_roundw
      case rel => exact ⟨k + 1, by omega, by go_num, hide (HB.out.trans (below_drew _ _ _))⟩
      case measure => simp [intOf]; omega
    · go_wp2
      go_ret
      exact ⟨rfl, HB.out⟩
end Go.Proofs.Ythaiffjalgionaa

set_option linter.unusedVariables false
set_option linter.unusedSimpArgs false
namespace Go.Proofs.Ythaiffjalgionaa
open Go.ChangeShapes Go.WideShapes Go.ChangeAt Go.RowKit

def P4.cells (p : P4) : List Value := [.int .i64 p.src, .int .i64 p.dst, .int .i64 p.sport, .int .i64 p.dport]
structure ActV where
  kind : Int
  dev : Int
  port : Int
  p : P4
  ch : Int
def ActV.cells (x : ActV) : List Value := [.int .i64 x.kind, .int .i64 x.dev, .int .i64 x.port, .int .i64 x.p.src, .int .i64 x.p.dst, .int .i64 x.p.sport, .int .i64 x.p.dport, .int .i64 x.ch]
theorem ActV.len (x : ActV) : x.cells.length = 8 := rfl
structure ActV.ok (x : ActV) : Prop where
  k : i64ok x.kind
  d : i64ok x.dev
  y : i64ok x.port
  p : x.p.ok
  c : i64ok x.ch

section
variable {H : Type} {enc : TypeId × Value → H} {w : World} {base : Nat} {spare : Nat → Bool} {held : Bool} {r : Reach} {b0 : Nat}
theorem Try.cellsPacket4 : Try.prog.cellsOf 39 = 4 := by kernel_rfl
set_option maxRecDepth 100000 in
theorem read_packet {n : Nat} {cs : List Value} {y : DataW H × List MemPlace} (h : DataW.trod enc Try.prog w base spare held n 39 cs = some y) : ∃ p : P4, p.ok ∧ cs = p.cells := by
  obtain ⟨xs, n', _, _, hlen, hxl, hf⟩ := DataW.trod_struct Try.underlying39 h
  rw [Try.cellsPacket4] at hlen
  match cs, hlen with
  | [c0, c1, c2, c3], _ =>
    have h0 := hf 0 _ rfl
    have h1 := hf 1 _ rfl
    have h2 := hf 2 _ rfl
    have h3 := hf 3 _ rfl
    obtain ⟨y0, e0⟩ := get_some (xs := xs) (i := 0) (by rw [hxl]; decide)
    obtain ⟨y1, e1⟩ := get_some (xs := xs) (i := 1) (by rw [hxl]; decide)
    obtain ⟨y2, e2⟩ := get_some (xs := xs) (i := 2) (by rw [hxl]; decide)
    obtain ⟨y3, e3⟩ := get_some (xs := xs) (i := 3) (by rw [hxl]; decide)
    rw [e0] at h0
    rw [e1] at h1
    rw [e2] at h2
    rw [e3] at h3
    simp [cellsI1] at h0 h1 h2 h3
    obtain ⟨a, rfl, ha⟩ := trod_i64 h0
    obtain ⟨b, rfl, hb⟩ := trod_i64 h1
    obtain ⟨c, rfl, hc⟩ := trod_i64 h2
    obtain ⟨d, rfl, hd⟩ := trod_i64 h3
    exact ⟨⟨a, b, c, d⟩, ⟨ha, hb, hc, hd⟩, rfl⟩
end
end Go.Proofs.Ythaiffjalgionaa

set_option linter.unusedVariables false
set_option linter.unusedSimpArgs false
namespace Go.Proofs.Ythaiffjalgionaa
open Go.RowKit

def comeS (S : List ArrV) (x : ArrV) : List ArrV := if x ∈ S then S else S ++ [x]
def injR (ls : List LinkV) (S : List ArrV) (i : Int) (p : P4) (r : Dev) : Int × List ArrV :=
  if r.kind ≠ 1 then (1, S) else if rightB p = false then (1, S) else if p.src ≠ r.addr then (1, S)
  else match peerF ls (i, 0) with
    | none => (7, S)
    | some z => (0, comeS S ⟨z.1, z.2, p⟩)
def injS (ds : List Dev) (ls : List LinkV) (S : List ArrV) (i : Int) (p : P4) : Int × List ArrV :=
  if inR i 0 ((ds.length : Int) - 1) = false then (4, S)
  else match ds[i.toNat]? with
    | none => (4, S)
    | some r => injR ls S i p r
theorem injS_out {ds : List Dev} {ls : List LinkV} {S : List ArrV} {i : Int} {p : P4} (h : inR i 0 ((ds.length : Int) - 1) = false) : injS ds ls S i p = (4, S) := if_pos h
theorem injS_some {ds : List Dev} {ls : List LinkV} {S : List ArrV} {i : Int} {p : P4} (h : inR i 0 ((ds.length : Int) - 1) = true) {r : Dev} (hr : ds[i.toNat]? = some r) : injS ds ls S i p = injR ls S i p r := by
  simp [injS, h, hr]
section
variable {ls : List LinkV} {S : List ArrV} {i : Int} {p : P4} {r : Dev}
theorem injR_kind (h : r.kind ≠ 1) : injR ls S i p r = (1, S) := if_pos h
theorem injR_right (h : r.kind = 1) (h2 : rightB p = false) : injR ls S i p r = (1, S) := by simp [injR, h, h2]
theorem injR_src (h : r.kind = 1) (h2 : rightB p = true) (h3 : p.src ≠ r.addr) : injR ls S i p r = (1, S) := by simp [injR, h, h2, h3]
theorem injR_none (h : r.kind = 1) (h2 : rightB p = true) (h3 : p.src = r.addr) (h4 : peerF ls (i, 0) = none) : injR ls S i p r = (7, S) := by simp [injR, h, h2, h3, h4]
theorem injR_some (h : r.kind = 1) (h2 : rightB p = true) (h3 : p.src = r.addr) {z : Pl} (h4 : peerF ls (i, 0) = some z) : injR ls S i p r = (0, comeS S ⟨z.1, z.2, p⟩) := by simp [injR, h, h2, h3, h4]
end
def HandS.come (h : HandS) (S : List ArrV) : List ArrV := if h.e = 0 then comeS S ⟨h.to.1, h.to.2, h.q⟩ else S
structure WS where
  M : MS
  S : List ArrV
structure TS where
  L : List FactV
  S : List ArrV
def doS (ds : List Dev) (ls : List LinkV) (Z : WS) (x : ActV) : Int × WS :=
  if x.kind = 1 then ((injS ds ls Z.S x.dev x.p).1, ⟨Z.M, (injS ds ls Z.S x.dev x.p).2⟩)
  else if x.kind = 2 then
    if (⟨x.dev, x.port, x.p⟩ : ArrV) ∈ Z.S then ((handS ds ls Z.M x.dev x.port x.p x.ch).e, ⟨Z.M.learn (handS ds ls Z.M x.dev x.port x.p x.ch).kn, (handS ds ls Z.M x.dev x.port x.p x.ch).come Z.S⟩)
    else (7, Z)
  else if x.kind = 3 then ((forgetS ds Z.M x.dev x.p x.ch).1, ⟨(forgetS ds Z.M x.dev x.p x.ch).2, Z.S⟩)
  else (1, Z)
def doT (ds : List Dev) (ls : List LinkV) (Z : TS) (x : ActV) : Int × TS :=
  if x.kind = 1 then ((injS ds ls Z.S x.dev x.p).1, ⟨Z.L, (injS ds ls Z.S x.dev x.p).2⟩)
  else if x.kind = 2 then
    if (⟨x.dev, x.port, x.p⟩ : ArrV) ∈ Z.S then ((mindS ds ls Z.L x.dev x.port x.p x.ch).1.e, ⟨(mindS ds ls Z.L x.dev x.port x.p x.ch).2, (mindS ds ls Z.L x.dev x.port x.p x.ch).1.come Z.S⟩)
    else (7, Z)
  else if x.kind = 3 then ((forgetM ds Z.L x.dev x.p x.ch).1, ⟨(forgetM ds Z.L x.dev x.p x.ch).2, Z.S⟩)
  else (1, Z)
structure RelW (ds : List Dev) (Z : WS) (T : TS) : Prop where
  r : Rel ds Z.M T.L
  s : Z.S = T.S
theorem HandS.val_inj {h h' : HandS} (e : h.val = h'.val) : h.e = h'.e ∧ h.to = h'.to ∧ h.q = h'.q := by
  obtain ⟨e1, ⟨t1, t2⟩, ⟨a, b, c, d⟩, k⟩ := h
  obtain ⟨e1', ⟨t1', t2'⟩, ⟨a', b', c', d'⟩, k'⟩ := h'
  simp only [HandS.val, Value.tuple.injEq, Array.mk.injEq, List.cons.injEq, Value.agg.injEq, Value.int.injEq, true_and, and_true] at e
  obtain ⟨⟨rfl, rfl, rfl, rfl, rfl, rfl⟩, rfl⟩ := e
  exact ⟨rfl, rfl, rfl⟩
theorem HandS.come_same {h h' : HandS} (e : h.val = h'.val) (S : List ArrV) : h.come S = h'.come S := by
  obtain ⟨e1, e2, e3⟩ := HandS.val_inj e
  simp only [HandS.come, e1, e2, e3]
theorem rel_do {ds : List Dev} {ls : List LinkV} {Z : WS} {T : TS} (h : RelW ds Z T) (x : ActV) : (doS ds ls Z x).1 = (doT ds ls T x).1 ∧ RelW ds (doS ds ls Z x).2 (doT ds ls T x).2 := by
  unfold doS doT
  by_cases h1 : x.kind = 1
  · rw [if_pos h1, if_pos h1, h.s]; exact ⟨rfl, h.r, rfl⟩
  rw [if_neg h1, if_neg h1]
  by_cases h2 : x.kind = 2
  · rw [if_pos h2, if_pos h2, h.s]
    by_cases h3 : (⟨x.dev, x.port, x.p⟩ : ArrV) ∈ T.S
    · rw [if_pos h3, if_pos h3]
      obtain ⟨q1, q2⟩ := rel_hand (i := x.dev) (y := x.port) (p := x.p) (ch := x.ch) (ls := ls) h.r
      exact ⟨(HandS.val_inj q1).1.symm, q2, (HandS.come_same q1 T.S).symm⟩
    · rw [if_neg h3, if_neg h3]; exact ⟨rfl, h.r, h.s⟩
  rw [if_neg h2, if_neg h2]
  by_cases h3 : x.kind = 3
  · rw [if_pos h3, if_pos h3]
    obtain ⟨q1, q2⟩ := rel_forget (i := x.dev) (p := x.p) (q := x.ch) h.r
    exact ⟨q1.symm, q2, h.s⟩
  · rw [if_neg h3, if_neg h3]; exact ⟨rfl, h⟩

structure GoodW (ds : List Dev) (Z : WS) : Prop where
  o : ∀ a v, Z.M.O a = some v → inR v.1 0 15 = true ∧ inR v.2 0 7 = true
  b : ∀ a v, Z.M.B a = some v → inR v 0 15 = true
  s : ∀ x ∈ Z.S, rightB x.p = true ∧ placeB ds (x.d, x.y) = true
  nd : Z.S.Nodup
theorem right4 {a b c d : Int} (h1 : inR a 0 15 = true) (h2 : inR b 0 15 = true) (h3 : inR c 0 7 = true) (h4 : inR d 0 7 = true) : rightB ⟨a, b, c, d⟩ = true := by simp [rightB, h1, h2, h3, h4]
theorem right_parts {p : P4} (h : rightB p = true) : inR p.src 0 15 = true ∧ inR p.dst 0 15 = true ∧ inR p.sport 0 7 = true ∧ inR p.dport 0 7 = true := by
  simp only [rightB, Bool.and_eq_true] at h
  exact ⟨h.1.1.1, h.1.1.2, h.1.2, h.2⟩
theorem inR_of {x lo hi : Int} (h1 : lo ≤ x) (h2 : x ≤ hi) : inR x lo hi = true := by simp [inR, h1, h2]
structure GoodM (M : MS) : Prop where
  o : ∀ a v, M.O a = some v → inR v.1 0 15 = true ∧ inR v.2 0 7 = true
  b : ∀ a v, M.B a = some v → inR v 0 15 = true
theorem GoodM.owner {M : MS} (h : GoodM M) (k : PoK) {u : Int × Int} (hu : inR u.1 0 15 = true ∧ inR u.2 0 7 = true) : GoodM (M.learn (.owner k u)) :=
  ⟨fun a v hv => by
    simp only [MS.learn] at hv
    by_cases e : a = k
    · rw [if_pos e] at hv; cases hv; exact hu
    · rw [if_neg e] at hv; exact h.o a v hv, h.b⟩
theorem GoodM.back {M : MS} (h : GoodM M) (k : OfK) {u : Int} (hu : inR u 0 15 = true) : GoodM (M.learn (.back k u)) :=
  ⟨h.o, fun a v hv => by
    simp only [MS.learn] at hv
    by_cases e : a = k
    · rw [if_pos e] at hv; cases hv; exact hu
    · rw [if_neg e] at hv; exact h.b a v hv⟩
theorem dev_addr {d : Dev} (h : DevOk d) (hk : d.kind = 4 ∨ d.kind = 5) : inR d.addr 0 15 = true := by
  have h1 := h.ar
  have h2 : addrB d.kind = true := by rcases hk with e | e <;> simp [addrB, e]
  rw [h2] at h1
  simp only [Bool.true_and, Bool.not_true, Bool.false_and, Bool.not_false, Bool.and_true, Bool.and_eq_true, Bool.not_not, decide_eq_true_eq] at h1
  exact inR_of h1.1.1 (by omega)
theorem dev_backs {d : Dev} (h : DevOk d) {b : Int} (hb : b ∈ d.backs) : inR b 0 15 = true := by
  have h2 := h.bb
  simp only [backsB, Bool.and_eq_true] at h2
  have := backsOk_mem _ _ _ h2.1 b hb
  exact inR_of this.1 (by omega)
theorem mineG_lt (M : MS) (i : Int) (o : Int × Int) : ∀ (m k : Nat), mineG M i o m k < (k : Int) + m ∨ mineG M i o m k = -1
  | 0, k => Or.inr rfl
  | m + 1, k => by
    by_cases h : M.O (i, (k : Int)) = some o
    · have e : mineG M i o (m + 1) k = (k : Int) := by simp [mineG, h]
      left; rw [e]; omega
    · have e : mineG M i o (m + 1) k = mineG M i o m (k + 1) := by simp [mineG, h]
      rw [e]
      have := mineG_lt M i o m (k + 1)
      omega
theorem mineF_lt (M : MS) (i : Int) (o : Int × Int) : mineF M i o < 8 := by
  have := mineG_lt M i o 8 0
  unfold mineF
  omega
theorem out_good {r : Dev} {M : MS} {i y : Int} {p : P4} {ch : Int} (hd : DevOk r) (hM : GoodM M) (hp : rightB p = true) (h1 : (outS r M i y p ch).2.2 = 0) (h2 : (outS r M i y p ch).2.1 = true) : rightB (outS r M i y p ch).1.q = true ∧ GoodM (M.learn (outS r M i y p ch).1.kn) := by
  obtain ⟨p1, p2, p3, p4⟩ := right_parts hp
  unfold outS at h1 h2 ⊢
  by_cases k2 : r.kind = 2
  · rw [if_pos k2]; exact ⟨hp, hM⟩
  rw [if_neg k2] at h1 h2 ⊢
  by_cases k3 : r.kind = 3
  · rw [if_pos k3]
    by_cases y0 : y = 0
    · simp only [fireF, if_pos y0]; exact ⟨hp, ⟨hM.o, hM.b⟩⟩
    · simp only [fireF, if_neg y0]; exact ⟨hp, hM⟩
  rw [if_neg k3] at h1 h2 ⊢
  by_cases k4 : r.kind = 4
  · rw [if_pos k4] at h1 h2 ⊢
    have ha := dev_addr hd (Or.inl k4)
    unfold natF at h1 h2 ⊢
    by_cases y1 : y = 1
    · rw [if_pos y1] at h1 h2 ⊢
      by_cases hda : p.dst ≠ r.addr
      · rw [if_pos hda] at h2; cases h2
      · rw [if_neg hda] at h2 ⊢
        cases hO : M.O (i, p.dport) with
        | none => rw [hO] at h2; cases h2
        | some o =>
          have := hM.o _ _ hO
          exact ⟨right4 p1 this.1 p3 this.2, hM⟩
    · rw [if_neg y1] at h1 h2 ⊢
      by_cases hm : 0 ≤ mineF M i (p.src, p.sport)
      · rw [if_pos hm]
        have hm8 : mineF M i (p.src, p.sport) < 8 := by
          exact mineF_lt M i (p.src, p.sport)
        exact ⟨right4 ha p2 (inR_of hm (by omega)) p4, hM.owner _ ⟨p1, p3⟩⟩
      · rw [if_neg hm] at h1 h2 ⊢
        by_cases hc : ch < 0 ∨ 8 ≤ ch ∨ hasBit r.pool ch = false
        · rw [if_pos hc] at h2; cases h2
        · rw [if_neg hc] at h1 h2 ⊢
          by_cases hf : (M.O (i, ch)).isSome = true
          · rw [if_pos hf] at h2; cases h2
          · rw [if_neg hf]
            have c1 : ¬ ch < 0 := fun e => hc (Or.inl e)
            have c2 : ¬ 8 ≤ ch := fun e => hc (Or.inr (Or.inl e))
            exact ⟨right4 ha p2 (inR_of (by omega) (by omega)) p4, hM.owner _ ⟨p1, p3⟩⟩
  rw [if_neg k4] at h1 h2 ⊢
  by_cases k5 : r.kind = 5
  · rw [if_pos k5] at h1 h2 ⊢
    have ha := dev_addr hd (Or.inr k5)
    unfold balF at h1 h2 ⊢
    by_cases y1 : y = 1
    · rw [if_pos y1]
      by_cases hb : M.B (i, ⟨p.dst, r.addr, p.dport, p.sport⟩) = some p.src
      · simp only [if_pos hb]; exact ⟨right4 ha p2 p3 p4, hM⟩
      · simp only [if_neg hb]; exact ⟨hp, hM⟩
    · rw [if_neg y1] at h1 h2 ⊢
      by_cases hda : p.dst ≠ r.addr
      · rw [if_pos hda]; exact ⟨hp, hM⟩
      · rw [if_neg hda] at h1 h2 ⊢
        cases hB : M.B (i, p) with
        | some b =>
          have := hM.b _ _ hB
          exact ⟨right4 p1 this p3 p4, hM.back _ this⟩
        | none =>
          rw [hB] at h1 h2
          cases hx : (if ch < 0 then none else r.backs[ch.toNat]?) with
          | none => rw [hx] at h1; cases h1
          | some b =>
            have hb : b ∈ r.backs := by
              by_cases c0 : ch < 0
              · rw [if_pos c0] at hx; cases hx
              · rw [if_neg c0] at hx; exact List.mem_of_getElem? hx
            have := dev_backs hd hb
            exact ⟨right4 p1 this p3 p4, hM.back _ this⟩
  · rw [if_neg k5] at h2; cases h2
theorem peer_place {ds : List Dev} {ls : List LinkV} (hE : netE ds ls = 0) {x z : Pl} (h : peerF ls x = some z) : placeB ds z = true := (netE_ok hE).pl z (peerF_some (netE_ok hE).nd h).2.1
theorem hand_good {ds : List Dev} {ls : List LinkV} {M : MS} {i y : Int} {p : P4} {ch : Int} (hE : netE ds ls = 0) (hM : GoodM M) : GoodM (M.learn (handS ds ls M i y p ch).kn) ∧ ((handS ds ls M i y p ch).e = 0 → rightB (handS ds ls M i y p ch).q = true ∧ placeB ds (handS ds ls M i y p ch).to = true) := by
  unfold handS
  by_cases h1 : placeB ds (i, y) = false
  · rw [if_pos h1]; exact ⟨hM, fun e => absurd e (by simp [HandS.bad])⟩
  rw [if_neg h1]
  by_cases h2 : rightB p = false
  · rw [if_pos h2]; exact ⟨hM, fun e => absurd e (by simp [HandS.bad])⟩
  rw [if_neg h2]
  cases hr : ds[i.toNat]? with
  | none => exact ⟨hM, fun e => absurd e (by simp [HandS.bad])⟩
  | some r =>
    show GoodM (M.learn (goS ls i (outS r M i y p ch)).kn) ∧ ((goS ls i (outS r M i y p ch)).e = 0 → rightB (goS ls i (outS r M i y p ch)).q = true ∧ placeB ds (goS ls i (outS r M i y p ch)).to = true)
    have hd := net_devs_ok hE r (List.mem_of_getElem? hr)
    have hg := out_good (i := i) (y := y) (ch := ch) hd hM (by simpa using h2)
    unfold goS
    by_cases e1 : (outS r M i y p ch).2.2 ≠ 0
    · rw [if_pos e1]; exact ⟨hM, fun e => absurd e e1⟩
    · rw [if_neg e1]
      cases hpe : peerF ls (i, (outS r M i y p ch).1.port) with
      | none => exact ⟨hM, fun e => absurd e (by simp [HandS.bad])⟩
      | some z =>
        cases h3 : (outS r M i y p ch).2.1
        · simp only [Bool.false_eq_true, if_false]; exact ⟨hM, fun e => absurd e (by simp [HandS.bad])⟩
        · simp only [if_true]
          have q := hg (by simpa using e1) h3
          exact ⟨q.2, fun _ => ⟨q.1, peer_place hE hpe⟩⟩
theorem come_good {ds : List Dev} {S : List ArrV} {x : ArrV} (h : ∀ x ∈ S, rightB x.p = true ∧ placeB ds (x.d, x.y) = true) (hx : rightB x.p = true ∧ placeB ds (x.d, x.y) = true) : ∀ z ∈ comeS S x, rightB z.p = true ∧ placeB ds (z.d, z.y) = true := by
  unfold comeS
  intro z hz
  split at hz
  · exact h z hz
  · rcases List.mem_append.1 hz with hz | hz
    · exact h z hz
    · rw [List.mem_singleton.1 hz]; exact hx
theorem come_nodup {S : List ArrV} {x : ArrV} (h : S.Nodup) : (comeS S x).Nodup := by
  unfold comeS
  split
  · exact h
  · rename_i hx
    rw [List.nodup_append]
    exact ⟨h, by simp, fun a ha b hb e => hx (by rw [← List.mem_singleton.1 hb, ← e]; exact ha)⟩
theorem come_cases (S : List ArrV) (x : ArrV) : comeS S x = S ∨ comeS S x = S ++ [x] := by
  unfold comeS
  split
  · exact Or.inl rfl
  · exact Or.inr rfl
theorem forget_good {ds : List Dev} {M : MS} {i : Int} {p : P4} {q : Int} (hM : GoodM M) : GoodM (forgetS ds M i p q).2 := by
  unfold forgetS
  repeat' split
  all_goals first
    | exact hM
    | exact ⟨fun a v hv => hM.o a v (by
        simp only [MS.drop] at hv
        first | exact hv | (split at hv <;> first | exact hv | cases hv)), fun a v hv => hM.b a v (by
        simp only [MS.drop] at hv
        first | exact hv | (split at hv <;> first | exact hv | cases hv))⟩
theorem do_good {ds : List Dev} {ls : List LinkV} {Z : WS} (hE : netE ds ls = 0) (h : GoodW ds Z) (x : ActV) : GoodW ds (doS ds ls Z x).2 ∧ ((doS ds ls Z x).2.S = Z.S ∨ (doS ds ls Z x).1 = 0 ∧ ∃ y, (doS ds ls Z x).2.S = Z.S ++ [y]) := by
  unfold doS
  by_cases h1 : x.kind = 1
  · rw [if_pos h1]
    unfold injS
    by_cases i1 : inR x.dev 0 ((ds.length : Int) - 1) = false
    · rw [if_pos i1]; exact ⟨⟨h.o, h.b, h.s, h.nd⟩, Or.inl rfl⟩
    rw [if_neg i1]
    cases hr : ds[x.dev.toNat]? with
    | none => exact ⟨⟨h.o, h.b, h.s, h.nd⟩, Or.inl rfl⟩
    | some r =>
      simp only [injR]
      by_cases k1 : r.kind ≠ 1
      · rw [if_pos k1]; exact ⟨⟨h.o, h.b, h.s, h.nd⟩, Or.inl rfl⟩
      rw [if_neg k1]
      by_cases k2 : rightB x.p = false
      · rw [if_pos k2]; exact ⟨⟨h.o, h.b, h.s, h.nd⟩, Or.inl rfl⟩
      rw [if_neg k2]
      by_cases k3 : x.p.src ≠ r.addr
      · rw [if_pos k3]; exact ⟨⟨h.o, h.b, h.s, h.nd⟩, Or.inl rfl⟩
      rw [if_neg k3]
      cases hpe : peerF ls (x.dev, 0) with
      | none => exact ⟨⟨h.o, h.b, h.s, h.nd⟩, Or.inl rfl⟩
      | some z =>
        simp only
        refine ⟨⟨h.o, h.b, come_good h.s ⟨by simpa using k2, peer_place hE hpe⟩, come_nodup h.nd⟩, ?_⟩
        rcases come_cases Z.S ⟨z.1, z.2, x.p⟩ with e | e
        · exact Or.inl e
        · exact Or.inr ⟨trivial, _, e⟩
  rw [if_neg h1]
  by_cases h2 : x.kind = 2
  · rw [if_pos h2]
    by_cases h3 : (⟨x.dev, x.port, x.p⟩ : ArrV) ∈ Z.S
    · rw [if_pos h3]
      obtain ⟨g1, g2⟩ := hand_good (i := x.dev) (y := x.port) (p := x.p) (ch := x.ch) (ls := ls) hE ⟨h.o, h.b⟩
      generalize handS ds ls Z.M x.dev x.port x.p x.ch = H at g1 g2
      by_cases e : H.e = 0
      · have hc : H.come Z.S = comeS Z.S ⟨H.to.1, H.to.2, H.q⟩ := by rw [HandS.come, if_pos e]
        refine ⟨⟨g1.o, g1.b, ?_, ?_⟩, ?_⟩
        · show ∀ z ∈ H.come Z.S, _
          rw [hc]; exact come_good h.s (g2 e)
        · show (H.come Z.S).Nodup
          rw [hc]; exact come_nodup h.nd
        · show H.come Z.S = Z.S ∨ H.e = 0 ∧ ∃ y, H.come Z.S = Z.S ++ [y]
          rw [hc]
          rcases come_cases Z.S ⟨H.to.1, H.to.2, H.q⟩ with q | q
          · exact Or.inl q
          · exact Or.inr ⟨e, _, q⟩
      · have hc : H.come Z.S = Z.S := by rw [HandS.come, if_neg e]
        refine ⟨⟨g1.o, g1.b, ?_, ?_⟩, Or.inl hc⟩
        · show ∀ z ∈ H.come Z.S, _
          rw [hc]; exact h.s
        · show (H.come Z.S).Nodup
          rw [hc]; exact h.nd
    · rw [if_neg h3]; exact ⟨h, Or.inl rfl⟩
  rw [if_neg h2]
  by_cases h3 : x.kind = 3
  · rw [if_pos h3]
    have g := forget_good (ds := ds) (i := x.dev) (p := x.p) (q := x.ch) ⟨h.o, h.b⟩
    exact ⟨⟨g.o, g.b, h.s, h.nd⟩, Or.inl rfl⟩
  · rw [if_neg h3]; exact ⟨h, Or.inl rfl⟩
end Go.Proofs.Ythaiffjalgionaa

set_option linter.unusedVariables false
set_option linter.unusedSimpArgs false
namespace Go.Proofs.Ythaiffjalgionaa
open Go.RowKit Go.Maps Go.WideElems

def arDom (k : ArrV) : Prop := k.ok
theorem arVal_inj (a b : ArrV) (h : a.val = b.val) : a = b := by
  obtain ⟨a0, a1, a2, a3, a4, a5⟩ := a
  obtain ⟨b0, b1, b2, b3, b4, b5⟩ := b
  simp only [ArrV.val, Value.agg.injEq, Array.mk.injEq, List.cons.injEq, Value.int.injEq, true_and, and_true] at h
  obtain ⟨rfl, rfl, rfl, rfl, rfl, rfl⟩ := h
  rfl
theorem rowAr : decide (43 < Try.prog.types.size) = true := by kernel_rfl
theorem atAr : Try.prog.keyTypeAt 3 43 = true := by kernel_rfl
theorem keyArT : Try.prog.keyType 43 = true := by kernel_rfl
theorem cellsAr6 : Try.prog.cellsOf 43 = 6 := by kernel_rfl
theorem cellsArPl2 : Try.prog.cellsOf 37 = 2 := by kernel_rfl
theorem lawAr : Keyed Try.prog 43 := Keyed.of_law (deep_law_laid Try.laidOut (m := 3) (by omega) (of_decide_eq_true rowAr) atAr (by rw [Try.underlying43]))
set_option maxHeartbeats 4000000 in
theorem ar_key {P : Program} {k i l q : TypeId} {f1 f2 e1 e2 g1 g2 g3 g4 : Field} (hu : P.underlying k = some (.struct #[f1, f2])) (hl : P.underlying l = some (.struct #[e1, e2])) (hq : P.underlying q = some (.struct #[g1, g2, g3, g4])) (h1 : f1.type = l ∧ f1.offset = 0 ∧ f1.name ≠ "_") (h2 : f2.type = q ∧ f2.offset = 2 ∧ f2.name ≠ "_")
    (k1 : e1.type = i ∧ e1.offset = 0 ∧ e1.name ≠ "_") (k2 : e2.type = i ∧ e2.offset = 1 ∧ e2.name ≠ "_")
    (j1 : g1.type = i ∧ g1.offset = 0 ∧ g1.name ≠ "_") (j2 : g2.type = i ∧ g2.offset = 1 ∧ g2.name ≠ "_") (j3 : g3.type = i ∧ g3.offset = 2 ∧ g3.name ≠ "_") (j4 : g4.type = i ∧ g4.offset = 3 ∧ g4.name ≠ "_")
    (hi : P.underlying i = some (.int .i64)) (hk : P.keyType k = true) (hc : P.cellsOf k = 6) (hcl : P.cellsOf l = 2) (hcq : P.cellsOf q = 4) (hci : P.cellsOf i = 1) (hm : ∃ m, P.types.size = m + 2) (t : ArrV) (ht : arDom t) : ∃ kl, keyOf P k t.val = some kl := by
  obtain ⟨a, y, b, c, d, e⟩ := t
  have w1 := i64ok_wf ht.d
  have w0 := i64ok_wf ht.y
  have w2 := i64ok_wf ht.p.1
  have w3 := i64ok_wf ht.p.2.1
  have w4 := i64ok_wf ht.p.2.2.1
  have w5 := i64ok_wf ht.p.2.2.2
  simp only at w0 w1 w2 w3 w4 w5
  obtain ⟨m, hm⟩ := hm
  unfold keyOf
  rw [hu]
  have hall : ∀ (i : Nat) (x : i < 4), ¬([g1, g2, g3, g4][i]'x).name = "_" := fun i x => match i, x with
    | 0, _ => j1.2.2
    | 1, _ => j2.2.2
    | 2, _ => j3.2.2
    | 3, _ => j4.2.2
  have hall2 : ∀ (i : Nat) (x : i < 2), ¬([e1, e2][i]'x).name = "_" := fun i x => match i, x with
    | 0, _ => k1.2.2
    | 1, _ => k2.2.2
  simp [hall, hall2, hk, Value.formed, hu, hl, hq, ArrV.val, hc, hcl, hcq, Value.cells, hm, Program.keyLits, hci, hi, w0, w1, w2, w3, w4, w5, h1, h2, k1, k2, j1, j2, j3, j4]
theorem arKeys : KeysAny Try.prog 43 ArrV.val arDom :=
  ⟨lawAr, ar_key Try.underlying43 Try.underlying37 Try.underlying39 ⟨rfl, rfl, by decide⟩ ⟨rfl, rfl, by decide⟩ ⟨rfl, rfl, by decide⟩ ⟨rfl, rfl, by decide⟩ ⟨rfl, rfl, by decide⟩ ⟨rfl, rfl, by decide⟩ ⟨rfl, rfl, by decide⟩ ⟨rfl, rfl, by decide⟩ Try.underlying3 keyArT cellsAr6 cellsArPl2 Try.cellsPacket cellsI types_succ2, arVal_inj⟩
end Go.Proofs.Ythaiffjalgionaa

set_option linter.unusedVariables false
set_option linter.unusedSimpArgs false
namespace Go.Proofs.Ythaiffjalgionaa
open Go.RowKit Go.Maps

theorem BX.beside {W w w' : World} {L : List (Nat × Array Value)} {p : Nat → Prop} (h : BX W L w) (hn : Near p w.heap.size w w') (ha : ∀ x ∈ L, ¬ p x.1) (hlo : ∀ j, p j → W.heap.size ≤ j) : BX W L w' :=
  ⟨((Near.of_below (p := p) h.bl).trans (hn.mono h.bl.size)).below (Nat.le_refl _) hlo, fun x hx => ⟨(h.bx x hx).1.near hn (h.bx x hx).2 (ha x hx), Nat.lt_of_lt_of_le (h.bx x hx).2 hn.size⟩⟩

section
variable {W w w' : World} {L : List (Nat × Array Value)} {ga : Nat} {na : NetV} {fa oa ba gb : Nat} {nb : NetV} {fb ob bb : Nat} {MA MB MA' MB' : MS} {k k' : Nat}
end
theorem cells8 {w : World} {N : Nat} {a b c d e f g h : Int} (q : BoxV w N #[.int .i64 a, .int .i64 b, .int .i64 c, .int .i64 d, .int .i64 e, .int .i64 f, .int .i64 g, .int .i64 h]) : w.cell? ⟨N, 0, none⟩ = some (.int .i64 a) ∧ w.cell? ⟨N, 1, none⟩ = some (.int .i64 b) ∧ w.cell? ⟨N, 2, none⟩ = some (.int .i64 c) ∧ w.cell? ⟨N, 3, none⟩ = some (.int .i64 d) ∧ w.cell? ⟨N, 4, none⟩ = some (.int .i64 e) ∧ w.cell? ⟨N, 5, none⟩ = some (.int .i64 f) ∧ w.cell? ⟨N, 6, none⟩ = some (.int .i64 g) ∧ w.cell? ⟨N, 7, none⟩ = some (.int .i64 h) :=
  ⟨q.1 0 _ rfl, q.1 1 _ rfl, q.1 2 _ rfl, q.1 3 _ rfl, q.1 4 _ rfl, q.1 5 _ rfl, q.1 6 _ rfl, q.1 7 _ rfl⟩
end Go.Proofs.Ythaiffjalgionaa

set_option linter.unusedVariables false
set_option linter.unusedSimpArgs false
namespace Go.Proofs.Ythaiffjalgionaa
open Go.RowKit

section
variable {p : Nat → Prop} {w w' : World} {B B' n : Nat} {A : Option Addr}
theorem StayOn.of_near {q : Nat → Prop} (hn : Near q w.heap.size w w') : StayOn (fun k => ¬ q k) w w' := fun a v hp hv => (World.cell?_of_block (hn.block a.block (cell_lt hv) hp)).trans hv
theorem SlAt.stay0 {α : Type} {cells : α → List Value} {s : Nat} {l : List α} (h : SlAt cells s w B A n l) (hs : StayOn p w w') (hp : 0 < n → ∀ a, A = some a → p a.block) (hB : B ≤ B') : SlAt cells s w' B' A n l :=
  ⟨h.1, fun h0 => by
    obtain ⟨b, o, e, hb, hg⟩ := h.2 h0
    exact ⟨b, o, e, by omega, fun k r hr j v hv => hs _ _ (show p b from hp h0 _ e) (hg k r hr j v hv)⟩⟩
theorem IntsAt.stay0 {l : List Int} (h : IntsAt w B A n l) (hs : StayOn p w w') (hp : 0 < n → ∀ a, A = some a → p a.block) (hB : B ≤ B') : IntsAt w' B' A n l :=
  ⟨h.1, h.2.1, fun h0 => by
    obtain ⟨b, o, e, hb, hg⟩ := h.2.2 h0
    exact ⟨b, o, e, by omega, fun k x hx => hs _ _ (show p b from hp h0 _ e) (hg k x hx)⟩⟩
theorem RulesAt.stay0 {l : List RuleV} (h : RulesAt w B A n l) (hs : StayOn p w w') (hp : 0 < n → ∀ a, A = some a → p a.block) (hB : B ≤ B') : RulesAt w' B' A n l :=
  (h.sl.stay0 hs hp hB).rules h.2.1
structure DevOn0 (p : Nat → Prop) (d : DevV) : Prop where
  b : 0 < d.bn → ∀ a, d.bA = some a → p a.block
  r : 0 < d.rn → ∀ a, d.rA = some a → p a.block
  t : 0 < d.tn → ∀ a, d.tA = some a → p a.block
theorem DevOn0.weak {q : Nat → Prop} {d : DevV} (h : DevOn0 p d) (hq : ∀ k, p k → q k) : DevOn0 q d := ⟨fun z a e => hq _ (h.b z a e), fun z a e => hq _ (h.r z a e), fun z a e => hq _ (h.t z a e)⟩
structure NetOn0 (p : Nat → Prop) (n : NetV) : Prop where
  d : 0 < n.dn → ∀ a, n.dA = some a → p a.block
  l : 0 < n.ln → ∀ a, n.lA = some a → p a.block
  o : ∀ x ∈ n.ds, DevOn0 p x
theorem NetOn0.weak {q : Nat → Prop} {n : NetV} (h : NetOn0 p n) (hq : ∀ k, p k → q k) : NetOn0 q n := ⟨fun z a e => hq _ (h.d z a e), fun z a e => hq _ (h.l z a e), fun x hx => (h.o x hx).weak hq⟩
theorem DevAt.stay0 {d : DevV} (h : DevAt w B d) (hs : StayOn p w w') (hp : DevOn0 p d) (hB : B ≤ B') : DevAt w' B' d :=
  ⟨h.nm, h.kd, h.ad, h.pl, h.bs.stay0 hs hp.b hB, h.rs.stay0 hs hp.r hB, h.ts.stay0 hs hp.t hB, h.tok, h.cb, h.cr, h.ct⟩
theorem NetAt.stay0 {m : NetV} (h : NetAt w B m) (hs : StayOn p w w') (ho : NetOn0 p m) (hB : B ≤ B') : NetAt w' B' m :=
  { ds := h.ds.stay0 hs ho.d hB, dok := fun d hm => (h.dok d hm).stay0 hs (ho.o d hm) hB, ls := h.ls.stay0 hs ho.l hB, lok := h.lok, cd := h.cd, cl := h.cl }
theorem NetAt.on {m : NetV} {K : Nat} (h : NetAt w B m) (ho : NetOn K m) : NetOn0 (fun k => K ≤ k ∧ k < B) m where
  d z a e := ⟨ho.d a e, by obtain ⟨b, o, e2, hb, _⟩ := h.ds.2 z; rw [e] at e2; cases e2; exact hb⟩
  l z a e := ⟨ho.l a e, by obtain ⟨b, o, e2, hb, _⟩ := h.ls.2 z; rw [e] at e2; cases e2; exact hb⟩
  o x hx := ⟨fun z a e => ⟨(ho.o x hx).b a e, by obtain ⟨b, o, e2, hb, _⟩ := (h.dok x hx).bs.2.2 z; rw [e] at e2; cases e2; exact hb⟩,
    fun z a e => ⟨(ho.o x hx).r a e, by obtain ⟨b, o, e2, hb, _⟩ := (h.dok x hx).rs.sl.2 z; rw [e] at e2; cases e2; exact hb⟩,
    fun z a e => ⟨(ho.o x hx).t a e, by obtain ⟨b, o, e2, hb, _⟩ := (h.dok x hx).ts.2 z; rw [e] at e2; cases e2; exact hb⟩⟩
theorem MemAt.apart {g : Nat} {m : NetV} {f o b : Nat} {M : MS} {k : Nat} {q : Nat → Prop} (h : MemAt w g m f o b M k) (hn : Near q w.heap.size w w') (hg : ¬ q g) (h3 : ∀ j, Is3 f o b j → ¬ q j) (ho : NetOn0 (fun j => ¬ q j) m) : MemAt w' g m f o b M k := by
  have st := StayOn.of_near hn
  exact ⟨st _ _ hg h.c0, st _ _ hg h.c1, st _ _ hg h.c2, st _ _ hg h.c3, st _ _ hg h.c4, h.net.stay0 st ho hn.size,
    h.mf.same (hn.block f h.flt (h3 f (Or.inl rfl))), h.mo.same (hn.block o h.olt (h3 o (Or.inr (Or.inl rfl)))), h.mb.same (hn.block b h.blt (h3 b (Or.inr (Or.inr rfl)))), h.nfo, h.nfb, h.nob, h.lf, h.lo, h.lb, h.oo, h.ob⟩
end
section
variable {W w w' : World} {LB : List (Nat × Array Value)} {ga : Nat} {na : NetV} {fa oa ba : Nat} {M M' : MS} {k k' g : Nat} {n : NetV} {A A' : Option Addr} {c c' : Nat} {L L' : List FactV}
end
end Go.Proofs.Ythaiffjalgionaa
