/- A part of the proof: G1, St1, St2, St3, ShD, G2, G3. -/
import Derived.Test.YtohbafigjpoijaaDoorRows
import Derived.ProofKit
import Derived.SizedLaws
import Derived.Laws.BitsAllLaws
import Derived.Laws.BitsLemmas
import Derived.WalkKit
import Derived.Outline
import Derived.BigQuiet
import Derived.Lib.Hide
import Derived.WalkLawsBesides
import Derived.Below
import Derived.Lib.SmallJoins
import Derived.OpenShut
import Derived.Laws.OwnMore
import Derived.Deep.AppendLies
import Derived.Deep.Draws
import Derived.Maps.AppendAt
import Derived.RegionTactic
import Derived.OwnWalk
import Derived.WalkSpells
import Derived.Deep.Slices
import Derived.Deep.Fields
import Derived.JoinedCond
import Derived.Laws.Concat
import Derived.Lib.IndexMore
import Derived.Lib.ItoaNum
import Derived.Shelf.Strconv.Itoa3
import Derived.Shelf.Strings.OnBuilder
import Derived.Shelf.Strings.Cut
import Derived.Shelf.Strings.Split
import Derived.Test.YtohbafigjpoijaaDoorProg
import Derived.Maps.OwnOps
import Derived.Maps.OwnSet
import Derived.Maps.Ext
import Derived.DeepKeys5
import Derived.Deep.RegionLaw
import Derived.StillTailTactics
import Derived.Deep.RegionWith
set_option linter.unusedVariables false
set_option linter.unusedSimpArgs false
set_option maxRecDepth 100000
set_option maxHeartbeats 4000000
namespace Go.Proofs.YtohbafigjpoijaaDoor
theorem nrmA {α : Type} {l : List α} {i : Nat} {a : α} : l.toArray.setIfInBounds i a = (l.set i a).toArray := List.setIfInBounds_toArray _ _ _
theorem nrmB {α : Type} {x : α} {xs : List α} {a : α} : (x :: xs).set 0 a = a :: xs := List.set_cons_zero
theorem nrmC {α : Type} {x : α} {xs : List α} {n : Nat} {a : α} : (x :: xs).set (n + 1) a = x :: xs.set n a := List.set_cons_succ
open Go.ChangeAt Go.ChangeShapes Go.RowKit Go.WideShapes
theorem Tryd.own : ownKnob Tryd.prog.godebug = none := by kernel_rfl
theorem Tryd.laidOut : laidOutB Tryd.prog = true := by kernel_rfl
section
variable {H : Type} {enc : TypeId × Value → H} {P : Program}
theorem trodAll_below (hl : laidOutB P = true) {W W' : World} (hb : Below W.heap.size W W') : ∀ (ts : List TypeId) (vs : List Value) (ds : List (DataW H)) (ps : List MemPlace),
    (ts.all fun t => P.readableRec t && decide (t < P.types.size)) = true → DataW.TrodAll enc P W 0 (fun _ => true) true ts vs ds ps → (∀ x ∈ ps, x.block < W.heap.size) →
    DataW.TrodAll enc P W' 0 (fun b => decide (b < W.heap.size)) true ts vs ds ps := by
  intro ts
  induction ts with
  | nil => intro vs ds ps _ h _; cases vs <;> cases ds <;> first | exact h | exact h.elim
  | cons t ts ih =>
    intro vs ds ps hr h hlt
    match vs, ds, h with
    | v :: vs, d :: ds, h =>
      obtain ⟨p, q, h1, h2, rfl⟩ := h
      simp only [List.all_cons, Bool.and_eq_true, decide_eq_true_eq] at hr
      exact ⟨p, q, Below.trod hl hr.1.1 hr.1.2 h1 hb (fun x hx => hlt x (List.mem_append_left _ hx)), ih vs ds q (by simpa using hr.2) h2 (fun x hx => hlt x (List.mem_append_right _ hx)), rfl⟩
theorem trodAll_length {w : World} {base : Nat} {spare : Nat → Bool} {held : Bool} : ∀ (ts : List TypeId) (vs : List Value) (ds : List (DataW H)) (ps : List MemPlace), DataW.TrodAll enc P w base spare held ts vs ds ps → ds.length = ts.length := by
  intro ts
  induction ts with
  | nil => intro vs ds ps h; cases vs <;> cases ds <;> first | rfl | exact h.elim
  | cons t ts ih =>
    intro vs ds ps h
    match vs, ds, h with
    | v :: vs, d :: ds, h =>
      obtain ⟨p, q, h1, h2, rfl⟩ := h
      simp [ih vs ds q h2]
theorem law_post {fn : Func} {s : ChangeSpec} {W W' : World} {args : Array Value} {ds gs : List (DataW H)} {before : List MemPlace} {tb : TypeId} (hl : laidOutB P = true)
    (hread : (fn.params.toList.all fun t => P.readableRec t && decide (t < P.types.size)) = true) (hv : s.vars = []) (hr : fn.resultTypes = #[tb]) (hbool : P.underlying tb = some .bool)
    (hs : ∀ ds : List (DataW H), ds.length = fn.params.size → (s.fn H (ds ++ [])).results = [.lit (.bool true)] ∧ (s.fn H (ds ++ [])).args = ds ∧ (s.fn H (ds ++ [])).vars = [])
    (hW : DataW.Whole enc P fn.params.toList s.vars false W args.toList ds gs before) (hb : Below W.heap.size W W') :
    s.post enc P fn false true false false W args (.bool true) W' := by
  have hlt : ∀ p ∈ before, p.block < W.heap.size := fun p hp => hW.lt p hp
  have hW' := hW
  obtain ⟨p, q, hA, hV, rfl, hfz, hnd⟩ := hW
  have hgq : gs = [] ∧ q = [] := by
    rw [hv] at hV
    cases gs with
    | nil => exact ⟨rfl, hV⟩
    | cons => exact hV.elim
  obtain ⟨rfl, rfl⟩ := hgq
  have hlen : ds.length = fn.params.size := by rw [trodAll_length _ _ _ _ hA]; simp
  obtain ⟨e1, e2, e3⟩ := hs ds hlen
  refine ⟨ds, [], p ++ [], [], p, [], hW', ?_, ?_, ?_, World.keptBut_mono (fun p hp => ?_) (hb.frame (· ∈ p ++ [])), fun h => by cases h⟩
  · rw [e1, hr]
    exact trodAll_mk1 (shut_bool hbool _)
  · rw [e2]
    exact trodAll_below hl hb _ _ _ _ hread hA (fun x hx => hlt x (List.mem_append_left _ hx))
  · rw [e3, hv]
    rfl
  · exact ⟨hp, by simpa using hp⟩
end
end Go.Proofs.YtohbafigjpoijaaDoor
namespace Go.Proofs.YtohbafigjpoijaaDoor
open Go.RowKit
theorem ofInt_nat (n a : Nat) (ha : a < 2 ^ n) : (BitVec.ofInt n (a : Int)).toNat = a := by
  rw [BitVec.ofInt_natCast, BitVec.toNat_ofNat]; exact Nat.mod_eq_of_lt ha
theorem i64_and (a b : Nat) (ha : a < 9223372036854775808) (hb : b < 9223372036854775808) : bits .and .i64 (a : Int) (b : Int) = ((a &&& b : Nat) : Int) := by
  have hx : a &&& b < 2 ^ 63 := Nat.and_lt_two_pow _ (by omega)
  show IntKind.i64.wrap ((BitVec.ofInt 64 (a : Int) &&& BitVec.ofInt 64 (b : Int)).toNat : Int) = _
  rw [BitVec.toNat_and, ofInt_nat 64 a (by omega), ofInt_nat 64 b (by omega), IntKind.wrap_i64]
  omega
theorem i64_or (a b : Nat) (ha : a < 9223372036854775808) (hb : b < 9223372036854775808) : bits .or .i64 (a : Int) (b : Int) = ((a ||| b : Nat) : Int) := by
  have hx : a ||| b < 2 ^ 63 := Nat.or_lt_two_pow (by omega) (by omega)
  show IntKind.i64.wrap ((BitVec.ofInt 64 (a : Int) ||| BitVec.ofInt 64 (b : Int)).toNat : Int) = _
  rw [BitVec.toNat_or, ofInt_nat 64 a (by omega), ofInt_nat 64 b (by omega), IntKind.wrap_i64]
  omega
open Go.ChangeAt Go.ChangeShapes Go.WideShapes
structure P4 where
  src : Int
  dst : Int
  sport : Int
  dport : Int
def i64ok (n : Int) : Prop := -9223372036854775808 ≤ n ∧ n ≤ 9223372036854775807
end Go.Proofs.YtohbafigjpoijaaDoor
namespace Go.Proofs.YtohbafigjpoijaaDoor
open Go.RowKit
theorem wp_region_fam {P : Program} {T : Type} (g : T → World) {id : Nat} {Q : Exit → Act → World → Prop} {a : Act} {w : World} {l : List Oper} (hm : P.follows .mixedOrders = true) (hB : Region.lexB .any l.toArray = true)
    (h0 : ∃ t, { w with drawn := w.drawn + 1 } = g t) (h : wpQuiet P l.toArray (fun w' => ∃ t, w' = g t) (fun a' => ∀ w', (∃ t, w' = g t) → Q .normal a' w') l a) : (Code.region id l.toArray true).wp P Q a w :=
  wp_region_quiet (C := fun w' => ∃ t, w' = g t) hm hB h0 (by simpa using h)
theorem wp_region_abs {P : Program} {id : Nat} {Q : Exit → Act → World → Prop} {a : Act} {w : World} {l : List Oper} (hm : P.follows .mixedOrders = true) (hB : Region.lexB .any l.toArray = true)
    (h : ∀ (T : Type) [Nonempty T] (g : T → World), (∀ t, Below w.heap.size w (g t)) → (∀ w', Below w.heap.size w w' → ∃ t, w' = g t) →
      wpQuiet P l.toArray (fun w' => ∃ t, w' = g t) (fun a' => ∀ w', (∃ t, w' = g t) → Q .normal a' w') l a) : (Code.region id l.toArray true).wp P Q a w :=
  wp_region_fam (T := { w' : World // Below w.heap.size w w' }) Subtype.val hm hB ⟨⟨w.drew, (Below.refl _ _).drew⟩, rfl⟩ (@h { w' : World // Below w.heap.size w w' } ⟨⟨w, Below.refl _ _⟩⟩ Subtype.val Subtype.property (fun w' hw => ⟨⟨w', hw⟩, rfl⟩))
theorem inAbs {P : Program} {f : FuncId} {args : Array Value} {W : World} {T : Type} {g : T → World} (hg : ∀ t, Below W.heap.size W (g t)) (hgi : ∀ w', Below W.heap.size W w' → ∃ t, w' = g t) {t : T} {v : Value}
    (h : Calls P f args (g t) fun e w' => e = .returned v ∧ Below (g t).heap.size (g t) w') : Calls P f args (g t) fun e w'' => e = .returned v ∧ ∃ s, w'' = g s :=
  h.mono fun _ w' ⟨he, hw⟩ => ⟨he, hgi w' ((hg t).trans (hw.mono (hg t).size))⟩
theorem hide {p : Prop} (h : p) : Hid p := h
open Go.ChangeAt Go.ChangeShapes Go.Joins Go.WideShapes
theorem Tryd.cellsPacket : Tryd.prog.cellsOf 23 = 4 := by kernel_rfl
section
variable {H : Type} {enc : TypeId × Value → H} {w : World} {base : Nat} {spare : Nat → Bool} {held : Bool} {r : Reach} {b0 : Nat}
theorem wf_i64ok {k : Int} (h : (Lit.int .i64 k).wf = true) : i64ok k := by
  have hx : -9223372036854775808 ≤ k ∧ k ≤ 9223372036854775807 := by simpa [Lit.wf, IntKind.min, IntKind.max, IntKind.signed, IntKind.bits] using h
  exact hx
theorem trod_i64 {n : Nat} {v : Value} {y : DataW H × List MemPlace} (h : DataW.trod enc Tryd.prog w base spare held n 3 [v] = some y) : ∃ k : Int, v = .int .i64 k ∧ i64ok k := by
  obtain ⟨a, e0, rfl, wa⟩ := DataW.trod_int Tryd.underlying3 h
  exact ⟨a, by simpa using e0, wf_i64ok wa⟩
theorem open_packet {v : Value} {d : DataW H} {p : List MemPlace} (hv : Value.okWide Tryd.prog w r b0 23 v) (h : DataW.Trod enc Tryd.prog w base spare held 23 v d p) :
    ∃ x y z u : Int, v = .agg #[.int .i64 x, .int .i64 y, .int .i64 z, .int .i64 u] ∧ i64ok x ∧ i64ok y ∧ i64ok z ∧ i64ok u := by
  obtain ⟨c0, c1, c2, c3, y0, y1, y2, y3, m, rfl, rfl, rfl, h0, h1, h2, h3⟩ := open_agg4 Tryd.underlying23 (by kernel_rfl) Tryd.cellsPacket hv h
  obtain ⟨a, rfl, ha⟩ := trod_i64 h0
  obtain ⟨b, rfl, hb⟩ := trod_i64 h1
  obtain ⟨c, rfl, hc⟩ := trod_i64 h2
  obtain ⟨d, rfl, hd⟩ := trod_i64 h3
  exact ⟨a, b, c, d, rfl, ha, hb, hc, hd⟩
end
theorem args_nil {H : Type} {enc : TypeId × Value → H} {P : Program} {w : World} {base : Nat} {sp : Nat → Bool} {hd : Bool} {vs : List Value} {ds : List (DataW H)} {p : List MemPlace} (h : DataW.TrodAll enc P w base sp hd [] vs ds p) : vs = [] ∧ ds = [] ∧ p = [] := by
  cases vs <;> cases ds <;> first | exact ⟨rfl, rfl, h⟩ | exact h.elim
theorem args_cons {H : Type} {enc : TypeId × Value → H} {P : Program} {w : World} {base : Nat} {sp : Nat → Bool} {hd : Bool} {t : TypeId} {ts : List TypeId} {vs : List Value} {ds : List (DataW H)} {p : List MemPlace} (h : DataW.TrodAll enc P w base sp hd (t :: ts) vs ds p) :
    ∃ v vs' d ds' p0 q, vs = v :: vs' ∧ ds = d :: ds' ∧ p = p0 ++ q ∧ DataW.Trod enc P w base sp hd t v d p0 ∧ DataW.TrodAll enc P w base sp hd ts vs' ds' q := by
  match vs, ds, h with
  | v :: vs, d :: ds, h =>
    obtain ⟨p0, q, h1, h2, rfl⟩ := h
    exact ⟨v, vs, d, ds, p0, q, rfl, rfl, rfl, h1, h2⟩
theorem arr_eq {a b : Array Value} (h : a.toList = b.toList) : a = b := by cases a; cases b; simp_all
end Go.Proofs.YtohbafigjpoijaaDoor
namespace Go.Proofs.YtohbafigjpoijaaDoor
open Go.ChangeAt Go.ChangeShapes Go.RowKit Go.WideShapes
end Go.Proofs.YtohbafigjpoijaaDoor
namespace Go.Proofs.YtohbafigjpoijaaDoor
open Go.RowKit
section
variable {w w' : World} {B B' size n : Nat} {A : Option Addr} {xs : List Value}
end
section
variable {P : Program} (w : World)
end
section
variable {α : Type} {cells : α → List Value} {s : Nat} {w w' : World} {B B' n : Nat} {A : Option Addr} {l : List α}
end
open Go.ChangeAt Go.ChangeShapes Go.WideShapes
def inR (n lo hi : Int) : Bool := decide (lo ≤ n) && decide (n ≤ hi)
def rightB (p : P4) : Bool := inR p.src 0 15 && inR p.dst 0 15 && inR p.sport 0 7 && inR p.dport 0 7
open Go.Deep Go.Joins
section
variable {H : Type} {enc : TypeId × Value → H} {w : World} {base : Nat} {spare : Nat → Bool} {held : Bool} {r : Reach} {b0 : Nat}
end
end Go.Proofs.YtohbafigjpoijaaDoor
namespace Go.Proofs.YtohbafigjpoijaaDoor
open Go.RowKit
section
variable {α : Type} {cells : α → List Value} {s : Nat} {w w' : World} {B B' n : Nat} {A : Option Addr} {l : List α}
end
open Go.ChangeAt Go.ChangeShapes Go.WideShapes
theorem law_contract {P : Program} {f : FuncId} {fn : Func} {s : ChangeSpec} {H : Type} {enc : TypeId × Value → H} {tb : TypeId} {W : World} {args : Array Value} {ds gs : List (DataW H)} {before : List MemPlace}
    (hl : laidOutB P = true) (hread : (fn.params.toList.all fun t => P.readableRec t && decide (t < P.types.size)) = true) (hv : s.vars = []) (hr : fn.resultTypes = #[tb]) (hbool : P.underlying tb = some .bool)
    (hs : ∀ ds : List (DataW H), ds.length = fn.params.size → (s.fn H (ds ++ [])).results = [.lit (.bool true)] ∧ (s.fn H (ds ++ [])).args = ds ∧ (s.fn H (ds ++ [])).vars = [])
    (hW : DataW.Whole enc P fn.params.toList s.vars false W args.toList ds gs before)
    (walk : ∀ p : List MemPlace, gs = [] → DataW.TrodAll enc P W 0 (fun _ => true) true fn.params.toList args.toList ds p → (∀ x ∈ p, x.block < W.heap.size) → Calls P f args W fun e W' => e = .returned (.bool true) ∧ Below W.heap.size W W') :
    Calls P f args W fun e W' => ∃ v, e = .returned v ∧ s.post enc P fn false true false false W args v W' := by
  have hlt : ∀ p ∈ before, p.block < W.heap.size := fun p hp => hW.lt p hp
  have hW' := hW
  obtain ⟨p, q, hA, hV, rfl, hfz, hnd⟩ := hW
  have hg : gs = [] := by
    rw [hv] at hV
    cases gs with
    | nil => rfl
    | cons => exact hV.elim
  exact (walk p hg hA (fun x hx => hlt x (List.mem_append_left _ hx))).mono fun e W' ⟨he, hb⟩ => ⟨_, he, law_post hl hread hv hr hbool hs hW' hb⟩
theorem bulk_bound {H : Type} {l : List (DataW H)} (hk : Rows.uptoSmall H l = true) : Rows.uptoBulkAll l ≤ 1048576 := of_decide_eq_true hk
end Go.Proofs.YtohbafigjpoijaaDoor
namespace Go.Proofs.YtohbafigjpoijaaDoor
open Go.RowKit
theorem sz_list (s : ByteArray) : s.data.toList.length = s.size := Array.length_toList
theorem run_at {P : Program} (t : TypeId) (s : ByteArray) (k : Nat) (c : UInt8) (h : P.underlying t = some .string) (hc : s.data.toList[k]? = some c) (w : World) :
    (Instr.index t (.string s) (.int .i64 (k : Int))).run P w = .ok (.int .u8 (c.toNat : Int)) w := by
  obtain ⟨hlt, e⟩ := List.getElem?_eq_some_iff.1 hc
  rw [sz_list] at hlt
  rw [run_index_string w t s .i64 (k : Int) h, dif_pos ⟨by omega, by omega⟩]
  have : s[(k : Int).toNat]'(by simpa using hlt) = c := by rw [← e]; rfl
  rw [this]
theorem retI {a b : Int} (h : a = b) : Ending.returned (.int .i64 a) = Ending.returned (.int .i64 b) := by rw [h]
def isDig (c : UInt8) : Bool := decide (48 ≤ c.toNat) && decide (c.toNat ≤ 57)
def digs (l : List UInt8) : Nat := l.foldl (fun n c => n * 10 + (c.toNat - 48)) 0
theorem digs_snoc (l : List UInt8) (c : UInt8) : digs (l ++ [c]) = digs l * 10 + (c.toNat - 48) := by simp [digs]
theorem digs_lt (l : List UInt8) (h : ∀ c ∈ l, isDig c = true) : digs l < 10 ^ l.length := by
  rcases List.eq_nil_or_concat l with rfl | ⟨m, c, rfl⟩
  · decide
  · rw [List.concat_eq_append] at h ⊢
    have h1 := digs_lt m (fun x hx => h x (by simp [hx]))
    have h2 := h c (by simp)
    simp only [isDig, Bool.and_eq_true, decide_eq_true_eq] at h2
    rw [digs_snoc, List.length_append]
    simp only [List.length_cons, List.length_nil, Nat.zero_add, Nat.pow_succ]
    omega
termination_by l.length
decreasing_by simp [*]
def numeral (l : List UInt8) : Bool := decide (1 ≤ l.length) && decide (l.length ≤ 4) && l.all isDig && !(decide (l.head? = some 48) && decide (1 < l.length))
def numF (l : List UInt8) (most : Int) : Int := if numeral l = true ∧ (digs l : Int) < most then (digs l : Int) else -1
theorem numF_not {l : List UInt8} {most : Int} (h : numeral l = false) : numF l most = -1 := by simp [numF, h]
theorem take_at {l : List UInt8} {k : Nat} {c : UInt8} (h : l[k]? = some c) : l.take (k + 1) = l.take k ++ [c] := by
  rw [List.take_add_one, h]; rfl
theorem number_walk (s : ByteArray) (most : Int) (w : World) :
    Calls Tryd.prog 81 #[.string s, .int .i64 most] w fun e w' => e = .returned (.int .i64 (numF s.data.toList most)) ∧ w = w' := by
  obtain ⟨l, hl⟩ : ∃ l, s.data.toList = l := ⟨_, rfl⟩
  obtain ⟨n, hn⟩ : ∃ n, s.size = n := ⟨_, rfl⟩
  have hln : l.length = n := by rw [← hl, ← hn]; exact sz_list s
  rw [hl]
  have HAT := hide (fun (k : Nat) (c : UInt8) (h : l[k]? = some c) => run_at (P := Tryd.prog) 9 s k c Tryd.underlying9 (by rw [hl]; exact h))
  have HLN := hide hln
  clear hl hln
  go_enter Tryd.func81, Tryd.ntmps81
  by_cases h1 : n < 1
  · have d1 : (n : Int) < 1 := by omega
    go_wp2
    go_ret
    exact ⟨retI (numF_not (by have := HLN.out; simp [numeral]; omega)).symm, rfl⟩
  have d1 : decide ((n : Int) < 1) = false := by simp; omega
  by_cases h4 : 4 < n
  · have d4 : (4 : Int) < (n : Int) := by omega
    go_wp2
    go_ret
    exact ⟨retI (numF_not (by have := HLN.out; simp [numeral]; omega)).symm, rfl⟩
  have d4 : decide ((4 : Int) < (n : Int)) = false := by simp; omega
  obtain ⟨c0, hc0⟩ : ∃ c, l[0]? = some c := ⟨_, List.getElem?_eq_getElem (by have := HLN.out; omega)⟩
  have x0 : ∀ w', (Instr.index 9 (.string s) (.int .i64 0)).run Tryd.prog w' = .ok (.int .u8 (c0.toNat : Int)) w' := HAT.out 0 c0 hc0
  have hd0 : l.head? = some c0 := by rw [← hc0]; cases l <;> rfl
  by_cases hz : c0.toNat = 48 ∧ 1 < n
  · have e0 : ((c0.toNat : Int) == 48) = true := by simp; omega
    have d5 : (1 : Int) < (n : Int) := by omega
    go_wp2
    go_ret
    refine ⟨retI (numF_not ?_).symm, rfl⟩
    have := HLN.out
    have : c0 = 48 := UInt8.toNat_inj.1 hz.1
    subst this
    simp [numeral, hd0]
    omega
  have hcase : ((c0.toNat : Int) == 48) = false ∨ (((c0.toNat : Int) = 48) ∧ decide ((1 : Int) < (n : Int)) = false) := by
    by_cases h : c0.toNat = 48
    · right; exact ⟨by omega, by simp; omega⟩
    · left; simp; omega
  have hhead : (decide (l.head? = some 48) && decide (1 < l.length)) = false := by
    have hln := HLN.out
    rw [hd0, hln]
    by_cases h : 1 < n
    · have : c0 ≠ 48 := fun e => hz ⟨by rw [e]; rfl, h⟩
      simp [this]
    · simp [h]
  have HH := hide hhead
  clear hz hhead hd0
  rcases hcase with e0 | ⟨e0, e1⟩
  all_goals
    go_wp2_with fail
    go_loopw [5, 6, 27] (fun nv x i wr => ∃ k : Nat, k ≤ n ∧ i = .int .i64 (k : Int) ∧ nv = .int .i64 (digs (l.take k) : Int) ∧ Hid (∀ c ∈ l.take k, isDig c = true) ∧ wr = w) (fun _ _ i _ => n - (intOf i).toNat)
    case atStart => exact ⟨0, Nat.zero_le _, rfl, rfl, hide (by simp), rfl⟩
    case round =>
      obtain ⟨k, hk, rfl, rfl, HD, rfl⟩ := hrel
      by_cases hlt : k < n
      case pos =>
        obtain ⟨c, hc⟩ : ∃ c, l[k]? = some c := ⟨_, List.getElem?_eq_getElem (by have := HLN.out; omega)⟩
        have x1 : ∀ w', (Instr.index 9 (.string s) (.int .i64 (k : Int))).run Tryd.prog w' = .ok (.int .u8 (c.toNat : Int)) w' := HAT.out k c hc
        by_cases hd : isDig c = true
        case neg =>
          have hno : numeral l = false := by
            have : l.all isDig = false := by
              rw [Bool.eq_false_iff]
              intro h
              exact hd (List.all_eq_true.1 h c (List.mem_of_getElem? hc))
            simp [numeral, this]
          have hor : c.toNat < 48 ∨ 57 < c.toNat := by
            simp only [isDig, Bool.and_eq_true, decide_eq_true_eq] at hd
            omega
          clear hd hc
          rcases hor with h | h
          · have q1 : (c.toNat : Int) < 48 := by omega
            go_wp2
            go_ret
            exact ⟨retI (numF_not hno).symm, rfl⟩
          · have q1 : decide ((c.toNat : Int) < 48) = false := by simp; omega
            have q2 : (57 : Int) < (c.toNat : Int) := by omega
            go_wp2
            go_ret
            exact ⟨retI (numF_not hno).symm, rfl⟩
        case pos =>
          have hb := hd
          simp only [isDig, Bool.and_eq_true, decide_eq_true_eq] at hb
          have q1 : decide ((c.toNat : Int) < 48) = false := by simp; omega
          have q2 : decide ((57 : Int) < (c.toNat : Int)) = false := by simp; omega
          have hHD : Hid (∀ x ∈ l.take (k + 1), isDig x = true) := hide (fun x hx => by
            rw [take_at hc, List.mem_append] at hx
            rcases hx with hx | hx
            · exact HD.out x hx
            · rw [List.mem_singleton.1 hx]; exact hd)
          have hle : digs (l.take k) ≤ 999 := by
            have h1 := digs_lt _ HD.out
            have h2 : (l.take k).length ≤ 3 := by simp; omega
            have h3 : 10 ^ (l.take k).length ≤ 10 ^ 3 := Nat.pow_le_pow_right (by decide) h2
            omega
          have hsn := hide (show digs (l.take (k + 1)) = digs (l.take k) * 10 + (c.toNat - 48) by rw [take_at hc, digs_snoc])
          clear HD hd hc
          obtain ⟨D, hD⟩ : ∃ D, digs (l.take k) = D := ⟨_, rfl⟩
          rw [hD] at hle hsn ⊢
          clear hD
          obtain ⟨c1, hc1⟩ : ∃ x, c.toNat = x + 48 := ⟨c.toNat - 48, by omega⟩
          go_wp2_with fail
          go_roundw
          case rel =>
            exact ⟨k + 1, by omega, by go_num, congrArg (Value.int .i64) (by have := hsn.out; omega), hHD, trivial⟩
          case measure => simp [intOf]; omega
      case neg =>
        obtain rfl : k = n := by omega
        have hall : l.take k = l := List.take_of_length_le (by have := HLN.out; omega)
        rw [hall] at HD ⊢
        have hnum : numeral l = true := by
          have h1 := HLN.out
          have h2 := HH.out
          have h3 : l.all isDig = true := List.all_eq_true.2 HD.out
          simp only [numeral, h2, h3]
          simp; omega
        have hF := hide (show numF l most = if (digs l : Int) < most then (digs l : Int) else -1 by simp [numF, hnum])
        obtain ⟨D, hD⟩ : ∃ D, digs l = D := ⟨_, rfl⟩
        rw [hD] at hF ⊢
        clear HD hall hnum hD
        by_cases hm : (D : Int) < most
        · have q1 : decide (most ≤ (D : Int)) = false := by simp; omega
          go_wp2
          go_ret
          exact ⟨retI (by rw [hF.out, if_pos hm]), rfl⟩
        · have q1 : most ≤ (D : Int) := by omega
          go_wp2
          go_ret
          exact ⟨retI (by rw [hF.out, if_neg (by omega)]), rfl⟩
def strV (l : List UInt8) : Value := .string ⟨l.toArray⟩
def cutB (b : UInt8) : List UInt8 → List UInt8 × List UInt8
  | [] => ([], [])
  | x :: r => if x = b then ([], r) else (x :: (cutB b r).1, (cutB b r).2)
theorem cutB_not (b : UInt8) : ∀ (l : List UInt8), b ∉ l → cutB b l = (l, [])
  | [], _ => rfl
  | x :: r, h => by
    rw [cutB, if_neg (fun e => h (by simp [e])), cutB_not b r (fun e => h (by simp [e]))]
theorem cutB_at (b : UInt8) : ∀ (l r : List UInt8), b ∉ l → cutB b (l ++ b :: r) = (l, r)
  | [], r, _ => by simp [cutB]
  | x :: l, r, h => by
    rw [List.cons_append, cutB, if_neg (fun e => h (by simp [e])), cutB_at b l r (fun e => h (by simp [e]))]
theorem split_first {b : UInt8} : ∀ {l : List UInt8}, b ∈ l → ∃ u v, l = u ++ b :: v ∧ b ∉ u
  | x :: r, h => by
    by_cases e : x = b
    · exact ⟨[], r, by simp [e], by simp⟩
    · obtain ⟨u, v, rfl, hu⟩ := split_first (l := r) (by rcases List.mem_cons.1 h with h | h; exact absurd h.symm e; exact h)
      exact ⟨x :: u, v, rfl, fun h => by rcases List.mem_cons.1 h with h | h; exact e h.symm; exact hu h⟩
theorem index_one (b : UInt8) : ∀ (l : List UInt8), (b ∉ l → Lib.index l [b] = -1) ∧ ∀ u v, l = u ++ b :: v → b ∉ u → Lib.index l [b] = u.length
  | [] => ⟨fun _ => rfl, fun u v h => by simp at h⟩
  | x :: r => by
    obtain ⟨h1, h2⟩ := index_one b r
    refine ⟨fun h => ?_, fun u v h hu => ?_⟩
    · have e : b ≠ x := fun e => h (by simp [e])
      rw [Lib.index, if_neg (by simp [List.isPrefixOf, e]), h1 (fun e => h (by simp [e]))]
      rfl
    · cases u with
      | nil =>
        simp only [List.nil_append, List.cons.injEq] at h
        rw [Lib.index, if_pos (by simp [List.isPrefixOf, h.1])]
        rfl
      | cons y u =>
        simp only [List.cons_append, List.cons.injEq] at h
        obtain ⟨rfl, h⟩ := h
        have e : b ≠ x := fun e => hu (by simp [e])
        have := h2 u v h (fun e => hu (by simp [e]))
        rw [Lib.index, if_neg (by simp [List.isPrefixOf, e]), this, if_neg (by simp)]
        simp
theorem cut_one (b : UInt8) (l : List UInt8) : Lib.cut l [b] = ((cutB b l).1, (cutB b l).2, decide (b ∈ l)) := by
  by_cases h : b ∈ l
  · obtain ⟨u, v, rfl, hu⟩ := split_first h
    have := (index_one b _).2 u v rfl hu
    rw [Lib.cut, this, if_pos (by omega), cutB_at b u v hu]
    simp
  · rw [Lib.cut, (index_one b l).1 h, if_neg (by decide), cutB_not b l h]
    simp [h]
theorem numF_lt (l : List UInt8) (m : Int) (h : 0 ≤ numF l m) : numF l m < m := by unfold numF at *; split <;> simp_all
theorem numF_some {l : List UInt8} {m : Int} (h : 0 ≤ numF l m) : numeral l = true ∧ numF l m = digs l := by
  unfold numF at *
  split <;> simp_all
theorem dig_dec (u : Nat) (h : u < 10) : Lib.decDigits u = [UInt8.ofNat (48 + u)] := by rw [Lib.decDigits, dif_pos h]
theorem dec_more (u : Nat) (h : ¬ u < 10) : Lib.decDigits u = Lib.decDigits (u / 10) ++ [UInt8.ofNat (48 + u % 10)] := by rw [Lib.decDigits, dif_neg h]
theorem ofNat_dig (c : UInt8) (h : isDig c = true) : UInt8.ofNat (48 + (c.toNat - 48)) = c := by
  simp only [isDig, Bool.and_eq_true, decide_eq_true_eq] at h
  rw [show 48 + (c.toNat - 48) = c.toNat by omega]
  simp
theorem dig_ofNat (u : Nat) (h : u < 10) : isDig (UInt8.ofNat (48 + u)) = true ∧ (UInt8.ofNat (48 + u)).toNat = 48 + u := by
  have : (UInt8.ofNat (48 + u)).toNat = 48 + u := by simp; omega
  refine ⟨?_, this⟩
  simp only [isDig, this]; simp; omega
theorem dec_digs (l : List UInt8) (hd : ∀ c ∈ l, isDig c = true) (h0 : l ≠ []) (hz : l.head? = some 48 → l.length = 1) : Lib.decDigits (digs l) = l ∧ (l.head? ≠ some 48 → 1 ≤ digs l) := by
  rcases List.eq_nil_or_concat l with rfl | ⟨m, c, rfl⟩
  · exact absurd rfl h0
  · rw [List.concat_eq_append] at *
    have hc := hd c (by simp)
    have hcb := hc
    simp only [isDig, Bool.and_eq_true, decide_eq_true_eq] at hcb
    rw [digs_snoc]
    cases m with
    | nil =>
      simp only [digs, List.foldl_nil, Nat.zero_mul, Nat.zero_add, List.nil_append]
      refine ⟨by rw [dig_dec _ (by omega), ofNat_dig c hc], fun h => ?_⟩
      have : c ≠ 48 := fun e => h (by simp [e])
      have : c.toNat ≠ 48 := fun e => this (UInt8.toNat_inj.1 e)
      omega
    | cons y m =>
      have hh : (y :: m ++ [c]).head? = some y := rfl
      rw [hh] at hz ⊢
      have hy : y ≠ 48 := fun e => by
        have := hz (by rw [e])
        simp at this
      obtain ⟨i1, i2⟩ := dec_digs (y :: m) (fun x hx => hd x (by simp at hx ⊢; rcases hx with h | h; exact .inl h; exact .inr (.inl h))) (by simp) (fun e => by simp at e; exact absurd e hy)
      have i3 := i2 (by simpa using hy)
      refine ⟨?_, fun _ => by omega⟩
      rw [dec_more _ (by omega), show (digs (y :: m) * 10 + (c.toNat - 48)) / 10 = digs (y :: m) by omega, show (digs (y :: m) * 10 + (c.toNat - 48)) % 10 = c.toNat - 48 by omega, i1, ofNat_dig c hc]
termination_by l.length
decreasing_by simp [*]
theorem dec_all (u : Nat) : (∀ c ∈ Lib.decDigits u, isDig c = true) ∧ digs (Lib.decDigits u) = u ∧ Lib.decDigits u ≠ [] ∧ (1 ≤ u → (Lib.decDigits u).head? ≠ some 48) := by
  by_cases h : u < 10
  · rw [dig_dec u h]
    obtain ⟨h1, h2⟩ := dig_ofNat u h
    refine ⟨fun c hc => by rw [List.mem_singleton.1 hc]; exact h1, by simp only [digs, List.foldl_cons, List.foldl_nil, h2]; omega, by simp, fun hu e => ?_⟩
    simp only [List.head?_cons, Option.some.injEq] at e
    rw [e] at h2
    simp at h2; omega
  · obtain ⟨i1, i2, i3, i4⟩ := dec_all (u / 10)
    obtain ⟨h1, h2⟩ := dig_ofNat (u % 10) (by omega)
    rw [dec_more u h]
    refine ⟨fun c hc => ?_, by rw [digs_snoc, i2, h2]; omega, by simp, fun _ => ?_⟩
    · rcases List.mem_append.1 hc with hc | hc
      · exact i1 c hc
      · rw [List.mem_singleton.1 hc]; exact h1
    · obtain ⟨y, r, e⟩ := List.exists_cons_of_ne_nil i3
      rw [e] at i4 ⊢
      exact i4 (by omega)
termination_by u
decreasing_by omega
theorem dec_len (u k : Nat) (h : u < 10 ^ (k + 1)) : (Lib.decDigits u).length ≤ k + 1 := by
  induction k generalizing u with
  | zero => rw [dig_dec u (by simpa using h)]; simp
  | succ k ih =>
    by_cases hu : u < 10
    · rw [dig_dec u hu]; simp
    · rw [dec_more u hu]
      have := ih (u / 10) (by rw [Nat.pow_succ] at h; omega)
      simp; omega
theorem num_dec (u : Nat) (m : Int) (h : u < 10000) (hm : (u : Int) < m) : numF (Lib.decDigits u) m = u := by
  obtain ⟨h1, h2, h3, h4⟩ := dec_all u
  have hl := dec_len u 3 (by omega)
  have hlp : 1 ≤ (Lib.decDigits u).length := List.length_pos_iff.2 h3
  have hn : numeral (Lib.decDigits u) = true := by
    have ha : (Lib.decDigits u).all isDig = true := List.all_eq_true.2 h1
    have hz : (decide ((Lib.decDigits u).head? = some 48) && decide (1 < (Lib.decDigits u).length)) = false := by
      rw [Bool.eq_false_iff]; intro e
      simp only [Bool.and_eq_true, decide_eq_true_eq] at e
      by_cases h0 : u = 0
      · subst h0; rw [dig_dec 0 (by decide)] at e; simp at e
      · exact h4 (by omega) e.1
    show (decide (1 ≤ _) && decide (_ ≤ 4) && _ && !(_)) = true
    rw [hz, ha, decide_eq_true (show 1 ≤ (Lib.decDigits u).length from hlp), decide_eq_true (show (Lib.decDigits u).length ≤ 4 by omega)]
    rfl
  rw [numF, h2, if_pos ⟨hn, hm⟩]
theorem numeral_dec {l : List UInt8} (h : numeral l = true) : Lib.decDigits (digs l) = l := by
  have h' : (decide (1 ≤ l.length) && decide (l.length ≤ 4) && l.all isDig && !(decide (l.head? = some 48) && decide (1 < l.length))) = true := h
  simp only [Bool.and_eq_true, decide_eq_true_eq, Bool.not_eq_true', Bool.and_eq_false_iff, decide_eq_false_iff_not] at h'
  obtain ⟨⟨⟨h1, h2⟩, h3⟩, h4⟩ := h'
  refine (dec_digs l (List.all_eq_true.1 h3) (List.length_pos_iff.1 h1) (fun e => ?_)).1
  rcases h4 with h4 | h4
  · exact absurd e h4
  · omega
theorem not_dec (u : Nat) (x : UInt8) (hx : isDig x = false) : x ∉ Lib.decDigits u := fun h => by
  rw [(dec_all u).1 x h] at hx; cases hx
def endT (a p : Nat) : List UInt8 := Lib.decDigits a ++ 58 :: Lib.decDigits p
def packT (p : P4) : List UInt8 := endT p.src.toNat p.sport.toNat ++ 62 :: endT p.dst.toNat p.dport.toNat
def endsF (l : List UInt8) : Int × Int := (numF (cutB 58 l).1 16, numF (cutB 58 l).2 8)
def goodE (x : Int × Int) : Bool := decide (0 ≤ x.1) && decide (0 ≤ x.2)
def parseF (l : List UInt8) : P4 × Int :=
  if goodE (endsF (cutB 62 l).1) && goodE (endsF (cutB 62 l).2) then (⟨(endsF (cutB 62 l).1).1, (endsF (cutB 62 l).2).1, (endsF (cutB 62 l).1).2, (endsF (cutB 62 l).2).2⟩, 0) else (⟨0, 0, 0, 0⟩, 3)
end Go.Proofs.YtohbafigjpoijaaDoor
namespace Go.Proofs
open Go.Shelf
def Tryd.lays171_ren : Go.Shelf.Ren := ⟨fun | 171 => 41 | 243 => 79 | 246 => 102 | 283 => 118 | 284 => 119 | 285 => 120 | 286 => 121 | 129 => 133 | 317 => 132 | 318 => 134 | 319 => 135 | 320 => 136 | 337 => 140 | 338 => 141 | n => n, fun | 3 => 3 | 9 => 9 | 2 => 2 | 4 => 4 | 171 => 162 | 0 => 0 | 53 => 163 | 37 => 109 | 5 => 5 | 173 => 166 | 212 => 175 | 51 => 176 | 20 => 20 | 213 => 177 | 46 => 75 | 232 => 187 | 233 => 188 | n => n, fun | 17 => 1 | 18 => 4 | 19 => 5 | n => n⟩
theorem Tryd.lays171 : Go.Proofs.Lays.n171 Tryd.prog Tryd.lays171_ren := {
  mixed := by kernel_rfl
  f129 := Tryd.func133.trans (congrArg some (by kernel_rfl))
  f171 := Tryd.func41.trans (congrArg some (by kernel_rfl))
  f243 := Tryd.func79.trans (congrArg some (by kernel_rfl))
  f246 := Tryd.func102.trans (congrArg some (by kernel_rfl))
  f283 := Tryd.func118.trans (congrArg some (by kernel_rfl))
  f284 := Tryd.func119.trans (congrArg some (by kernel_rfl))
  f285 := Tryd.func120.trans (congrArg some (by kernel_rfl))
  f286 := Tryd.func121.trans (congrArg some (by kernel_rfl))
  f317 := Tryd.func132.trans (congrArg some (by kernel_rfl))
  f318 := Tryd.func134.trans (congrArg some (by kernel_rfl))
  f319 := Tryd.func135.trans (congrArg some (by kernel_rfl))
  f320 := Tryd.func136.trans (congrArg some (by kernel_rfl))
  f337 := Tryd.func140.trans (congrArg some (by kernel_rfl))
  f338 := Tryd.func141.trans (congrArg some (by kernel_rfl))
  t0 := Tryd.underlying0
  a0 := Tryd.isAgg0
  z0 := Tryd.sizeOf0
  v0 := Tryd.zeroValue0
  t2 := Tryd.underlying2
  a2 := Tryd.isAgg2
  z2 := Tryd.sizeOf2
  v2 := Tryd.zeroValue2
  t3 := Tryd.underlying3
  a3 := Tryd.isAgg3
  z3 := Tryd.sizeOf3
  v3 := Tryd.zeroValue3
  t4 := Tryd.underlying4
  a4 := Tryd.isAgg4
  z4 := Tryd.sizeOf4
  v4 := Tryd.zeroValue4
  t5 := Tryd.underlying5
  a5 := Tryd.isAgg5
  z5 := Tryd.sizeOf5
  v5 := Tryd.zeroValue5
  t9 := Tryd.underlying9
  a9 := Tryd.isAgg9
  z9 := Tryd.sizeOf9
  v9 := Tryd.zeroValue9
  t20 := Tryd.underlying20
  a20 := Tryd.isAgg20
  z20 := Tryd.sizeOf20
  v20 := Tryd.zeroValue20
  t37 := Tryd.underlying109
  a37 := Tryd.isAgg109
  z37 := Tryd.sizeOf109
  v37 := Tryd.zeroValue109
  t46 := Tryd.underlying75
  a46 := Tryd.isAgg75
  z46 := Tryd.sizeOf75
  v46 := Tryd.zeroValue75
  t51 := Tryd.underlying176
  a51 := Tryd.isAgg176
  z51 := Tryd.sizeOf176
  v51 := Tryd.zeroValue176
  t53 := Tryd.underlying163
  a53 := Tryd.isAgg163
  z53 := Tryd.sizeOf163
  v53 := Tryd.zeroValue163
  t171 := Tryd.underlying162
  a171 := Tryd.isAgg162
  z171 := Tryd.sizeOf162
  v171 := Tryd.zeroValue162
  t173 := Tryd.underlying166
  a173 := Tryd.isAgg166
  z173 := Tryd.sizeOf166
  v173 := Tryd.zeroValue166
  t212 := Tryd.underlying175
  a212 := Tryd.isAgg175
  z212 := Tryd.sizeOf175
  v212 := Tryd.zeroValue175
  t213 := Tryd.underlying177
  a213 := Tryd.isAgg177
  z213 := Tryd.sizeOf177
  t232 := Tryd.underlying187
  a232 := Tryd.isAgg187
  z232 := Tryd.sizeOf187
  v232 := Tryd.zeroValue187
  t233 := Tryd.underlying188
  a233 := Tryd.isAgg188
  z233 := Tryd.sizeOf188
  v233 := Tryd.zeroValue188
  g17 := by kernel_rfl
  g18 := by kernel_rfl
  g19 := by kernel_rfl }
open Go.RowKit Go.Sort Go.Lib in
theorem Tryd.strconv_Itoa_small (i : Nat) (hi : i < 100) (w : World) :
    Calls Tryd.prog 41 #[.int .i64 i] w fun e w' => e = .returned (.string ⟨(Lib.decDigits i).toArray⟩) ∧ w' = w := Any.strconv_Itoa_small Tryd.lays171 i hi w
def Tryd.lays145_ren : Go.Shelf.Ren := ⟨fun | 145 => 44 | 220 => 80 | 219 => 103 | 217 => 122 | 225 => 123 | 224 => 124 | 267 => 125 | 266 => 137 | 314 => 138 | n => n, fun | 9 => 9 | 4 => 4 | 59 => 78 | 3 => 3 | 5 => 5 | 46 => 75 | 146 => 180 | 51 => 176 | n => n, fun | 1 => 0 | n => n⟩
theorem Tryd.lays145 : Go.Proofs.Lays.n145 Tryd.prog Tryd.lays145_ren := {
  mixed := by kernel_rfl
  f145 := Tryd.func44.trans (congrArg some (by kernel_rfl))
  f217 := Tryd.func122.trans (congrArg some (by kernel_rfl))
  f219 := Tryd.func103.trans (congrArg some (by kernel_rfl))
  f220 := Tryd.func80.trans (congrArg some (by kernel_rfl))
  f224 := Tryd.func124.trans (congrArg some (by kernel_rfl))
  f225 := Tryd.func123.trans (congrArg some (by kernel_rfl))
  f266 := Tryd.func137.trans (congrArg some (by kernel_rfl))
  f267 := Tryd.func125.trans (congrArg some (by kernel_rfl))
  f314 := Tryd.func138.trans (congrArg some (by kernel_rfl))
  t3 := Tryd.underlying3
  a3 := Tryd.isAgg3
  z3 := Tryd.sizeOf3
  v3 := Tryd.zeroValue3
  t4 := Tryd.underlying4
  a4 := Tryd.isAgg4
  z4 := Tryd.sizeOf4
  v4 := Tryd.zeroValue4
  t5 := Tryd.underlying5
  a5 := Tryd.isAgg5
  z5 := Tryd.sizeOf5
  v5 := Tryd.zeroValue5
  t9 := Tryd.underlying9
  a9 := Tryd.isAgg9
  z9 := Tryd.sizeOf9
  v9 := Tryd.zeroValue9
  t46 := Tryd.underlying75
  a46 := Tryd.isAgg75
  z46 := Tryd.sizeOf75
  v46 := Tryd.zeroValue75
  t51 := Tryd.underlying176
  a51 := Tryd.isAgg176
  z51 := Tryd.sizeOf176
  v51 := Tryd.zeroValue176
  t59 := Tryd.underlying78
  a59 := Tryd.isAgg78
  z59 := Tryd.sizeOf78
  v59 := Tryd.zeroValue78
  t146 := Tryd.underlying180
  a146 := Tryd.isAgg180
  z146 := Tryd.sizeOf180
  v146 := Tryd.zeroValue180
  g1 := by kernel_rfl }
open Go.RowKit Go.Lib in
theorem Tryd.strings_Cut (s sep : ByteArray) (m : Int) (w : World) (hs : s.size < 4294967281) (hm : w.cell? ⟨0, 0, none⟩ = some (.int .i64 m)) :
    Calls Tryd.prog 44 #[.string s, .string sep] w fun e w' => e = .returned (.tuple #[.string ⟨(Lib.cut s.data.toList sep.data.toList).1.toArray⟩, .string ⟨(Lib.cut s.data.toList sep.data.toList).2.1.toArray⟩, .bool (Lib.cut s.data.toList sep.data.toList).2.2]) ∧ ∃ n, w' = w.drewN n := Any.strings_Cut Tryd.lays145 s sep m w hs hm
end Go.Proofs
namespace Go.Proofs.YtohbafigjpoijaaDoor.Bdd
abbrev Asg := Nat → Bool
abbrev Fn := Asg → Bool
structure Node where
  v : Nat
  lo : Nat
  hi : Nat
section
variable {vars : Nat} {ns : List Node}
end
end Go.Proofs.YtohbafigjpoijaaDoor.Bdd
namespace Go.Proofs.YtohbafigjpoijaaDoor.Bdd
def Below (K : Nat) (F : Fn) : Prop := ∀ x y : Asg, (∀ u, u < K → x u = y u) → F x = F y
section
variable {vars : Nat} {ns : List Node}
end
structure St where
  vars : Nat
  most : Nat
  ns : List Node
  full : Bool
end Go.Proofs.YtohbafigjpoijaaDoor.Bdd
namespace Go.Proofs.YtohbafigjpoijaaDoor
open Go.Maps Go.RowKit Go.WideElems
section
variable {α : Type} {P : Program} {kt : TypeId} {key : α → Value} {dom : α → Prop} {w w' : World} {b : Nat} {M : α → Option Value}
end
section
variable {α : Type} {P : Program} {kt : TypeId} {key : α → Value} {dom : α → Prop} {b : Nat} {M : α → Option Value} (w : World)
end
end Go.Proofs.YtohbafigjpoijaaDoor
namespace Go.Proofs.YtohbafigjpoijaaDoor
open Bdd Go.Maps Go.RowKit
abbrev Tri := Nat × Nat × Nat
section
variable {w w' : World} {B g nb kb ib cap : Nat} {A : St} {K T : Tri → Option Value}
end
end Go.Proofs.YtohbafigjpoijaaDoor
namespace Go.Proofs.YtohbafigjpoijaaDoor
open Go.RowKit
def packVal (c : Nat) : Value := .agg #[.int .i64 ((c / 1024 : Nat) : Int), .int .i64 ((c / 64 % 16 : Nat) : Int), .int .i64 ((c / 8 % 8 : Nat) : Int), .int .i64 ((c % 8 : Nat) : Int)]
open Bdd
theorem tb (c i : Nat) : c.testBit i = decide (c / 2 ^ i % 2 = 1) := Nat.testBit_eq_decide_div_mod_eq
open Go.Maps
end Go.Proofs.YtohbafigjpoijaaDoor
