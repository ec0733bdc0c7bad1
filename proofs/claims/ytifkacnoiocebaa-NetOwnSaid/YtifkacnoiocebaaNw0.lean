/- A part of the proof: G1. -/
import Derived.Test.YtifkacnoiocebaaRows
import Derived.ProofKit
import Derived.SizedLaws
import Derived.Laws.BitsAllLaws
import Derived.Laws.BitsLemmas
import Derived.WalkKit
import Derived.Outline
import Derived.BigQuiet
import Derived.Lib.Hide
import Derived.WalkLawsBesides
import Derived.Below
import Derived.Lib.SmallJoins
import Derived.OpenShut
import Derived.Laws.OwnMore
import Derived.Deep.AppendLies
import Derived.Deep.Draws
import Derived.Maps.AppendAt
import Derived.RegionTactic
import Derived.OwnWalk
import Derived.WalkSpells
import Derived.Deep.Slices
import Derived.Deep.Fields
import Derived.JoinedCond
set_option linter.unusedVariables false
set_option linter.unusedSimpArgs false
set_option maxRecDepth 100000
set_option maxHeartbeats 4000000
namespace Go.Proofs.Ytifkacnoiocebaa
theorem nrmA {α : Type} {l : List α} {i : Nat} {a : α} : l.toArray.setIfInBounds i a = (l.set i a).toArray := List.setIfInBounds_toArray _ _ _
theorem nrmB {α : Type} {x : α} {xs : List α} {a : α} : (x :: xs).set 0 a = a :: xs := List.set_cons_zero
theorem nrmC {α : Type} {x : α} {xs : List α} {n : Nat} {a : α} : (x :: xs).set (n + 1) a = x :: xs.set n a := List.set_cons_succ
open Go.ChangeAt Go.ChangeShapes Go.RowKit Go.WideShapes
theorem Try.own : ownKnob Try.prog.godebug = none := by kernel_rfl
theorem Try.laidOut : laidOutB Try.prog = true := by kernel_rfl
section
variable {H : Type} {enc : TypeId × Value → H} {P : Program}
theorem trodAll_below (hl : laidOutB P = true) {W W' : World} (hb : Below W.heap.size W W') : ∀ (ts : List TypeId) (vs : List Value) (ds : List (DataW H)) (ps : List MemPlace),
    (ts.all fun t => P.readableRec t && decide (t < P.types.size)) = true → DataW.TrodAll enc P W 0 (fun _ => true) true ts vs ds ps → (∀ x ∈ ps, x.block < W.heap.size) →
    DataW.TrodAll enc P W' 0 (fun b => decide (b < W.heap.size)) true ts vs ds ps := by
  intro ts
  induction ts with
  | nil => intro vs ds ps _ h _; cases vs <;> cases ds <;> first | exact h | exact h.elim
  | cons t ts ih =>
    intro vs ds ps hr h hlt
    match vs, ds, h with
    | v :: vs, d :: ds, h =>
      obtain ⟨p, q, h1, h2, rfl⟩ := h
      simp only [List.all_cons, Bool.and_eq_true, decide_eq_true_eq] at hr
      exact ⟨p, q, Below.trod hl hr.1.1 hr.1.2 h1 hb (fun x hx => hlt x (List.mem_append_left _ hx)), ih vs ds q (by simpa using hr.2) h2 (fun x hx => hlt x (List.mem_append_right _ hx)), rfl⟩
theorem trodAll_length {w : World} {base : Nat} {spare : Nat → Bool} {held : Bool} : ∀ (ts : List TypeId) (vs : List Value) (ds : List (DataW H)) (ps : List MemPlace), DataW.TrodAll enc P w base spare held ts vs ds ps → ds.length = ts.length := by
  intro ts
  induction ts with
  | nil => intro vs ds ps h; cases vs <;> cases ds <;> first | rfl | exact h.elim
  | cons t ts ih =>
    intro vs ds ps h
    match vs, ds, h with
    | v :: vs, d :: ds, h =>
      obtain ⟨p, q, h1, h2, rfl⟩ := h
      simp [ih vs ds q h2]
theorem law_post {fn : Func} {s : ChangeSpec} {W W' : World} {args : Array Value} {ds gs : List (DataW H)} {before : List MemPlace} {tb : TypeId} (hl : laidOutB P = true)
    (hread : (fn.params.toList.all fun t => P.readableRec t && decide (t < P.types.size)) = true) (hv : s.vars = []) (hr : fn.resultTypes = #[tb]) (hbool : P.underlying tb = some .bool)
    (hs : ∀ ds : List (DataW H), ds.length = fn.params.size → (s.fn H (ds ++ [])).results = [.lit (.bool true)] ∧ (s.fn H (ds ++ [])).args = ds ∧ (s.fn H (ds ++ [])).vars = [])
    (hW : DataW.Whole enc P fn.params.toList s.vars false W args.toList ds gs before) (hb : Below W.heap.size W W') :
    s.post enc P fn false true false false W args (.bool true) W' := by
  have hlt : ∀ p ∈ before, p.block < W.heap.size := fun p hp => hW.lt p hp
  have hW' := hW
  obtain ⟨p, q, hA, hV, rfl, hfz, hnd⟩ := hW
  have hgq : gs = [] ∧ q = [] := by
    rw [hv] at hV
    cases gs with
    | nil => exact ⟨rfl, hV⟩
    | cons => exact hV.elim
  obtain ⟨rfl, rfl⟩ := hgq
  have hlen : ds.length = fn.params.size := by rw [trodAll_length _ _ _ _ hA]; simp
  obtain ⟨e1, e2, e3⟩ := hs ds hlen
  refine ⟨ds, [], p ++ [], [], p, [], hW', ?_, ?_, ?_, World.keptBut_mono (fun p hp => ?_) (hb.frame (· ∈ p ++ [])), fun h => by cases h⟩
  · rw [e1, hr]
    exact trodAll_mk1 (shut_bool hbool _)
  · rw [e2]
    exact trodAll_below hl hb _ _ _ _ hread hA (fun x hx => hlt x (List.mem_append_left _ hx))
  · rw [e3, hv]
    rfl
  · exact ⟨hp, by simpa using hp⟩
end
theorem law_lifted {C : Checked} {os : Os} {f : FuncId} {fn : Func} {s : ChangeSpec} {H : Type} {enc : TypeId × Value → H} {tb : TypeId}
    (own : ownKnob C.prog.godebug = none) (started : os.Started) (noInit : C.prog.inits.idxOf? f = none) (hfn : C.prog.funcs[f]? = some fn)
    (hl : laidOutB C.prog = true) (hread : (fn.params.toList.all fun t => C.prog.readableRec t && decide (t < C.prog.types.size)) = true) (hv : s.vars = []) (hr : fn.resultTypes = #[tb]) (hbool : C.prog.underlying tb = some .bool)
    (hs : ∀ ds : List (DataW H), ds.length = fn.params.size → (s.fn H (ds ++ [])).results = [.lit (.bool true)] ∧ (s.fn H (ds ++ [])).args = ds ∧ (s.fn H (ds ++ [])).vars = [])
    (witness : ∃ (w : World) (tape : Tape) (i : Input), w.os = os ∧ (w.forCall tape i).Shaped C.prog ∧ i.vars = [] ∧ Input.okWide C.prog (w.forCall tape i) .any w.heap.size f i ∧
      s.pre6 enc C.prog fn [] false (w.forCall tape i).memory i.args ∧ ({} : Assume).holds C.prog (lone (Frame.enter C.prog f i.args .normal) [] (w.forCall tape i)))
    (walk : ∀ (W : World) (base : Nat) (args : Array Value) (ds : List (DataW H)) (p : List MemPlace),
      (∀ (j : Nat) t v, fn.params[j]? = some t → args[j]? = some v → Value.okWide C.prog W .any base t v) →
      DataW.TrodAll enc C.prog W 0 (fun _ => true) true fn.params.toList args.toList ds p → (∀ x ∈ p, x.block < W.heap.size) →
      (DataW.weightsEach C.prog (fn.params.toList ++ s.plain.varTypes C.prog) (ds ++ [])).all (· ≤ reachBytes) = true →
      Calls C.prog f args W fun e W' => e = .returned (.bool true) ∧ Below W.heap.size W W') :
    ReturnsInHanded {} C os f .any (s.pre6 enc C.prog fn [] false) (s.post enc C.prog fn false true false false) := by
  refine returnsInHanded_of_change_sized own started noInit hfn witness ?_
  intro W base args ds gs before hval hW _ hsz _
  have hlt : ∀ p ∈ before, p.block < W.heap.size := fun p hp => hW.lt p hp
  have hW' := hW
  obtain ⟨p, q, hA, hV, rfl, hfz, hnd⟩ := hW
  have hgq : gs = [] ∧ q = [] := by
    rw [hv] at hV
    cases gs with
    | nil => exact ⟨rfl, hV⟩
    | cons => exact hV.elim
  obtain ⟨rfl, rfl⟩ := hgq
  refine (walk W base args ds p hval hA (fun x hx => hlt x (List.mem_append_left _ hx)) hsz).mono fun e W' ⟨he, hb⟩ => ?_
  exact ⟨_, he, law_post hl hread hv hr hbool hs hW' hb⟩
end Go.Proofs.Ytifkacnoiocebaa
namespace Go.Proofs.Ytifkacnoiocebaa
open Go.RowKit
theorem ofInt_nat (n a : Nat) (ha : a < 2 ^ n) : (BitVec.ofInt n (a : Int)).toNat = a := by
  rw [BitVec.ofInt_natCast, BitVec.toNat_ofNat]; exact Nat.mod_eq_of_lt ha
theorem u16_and (a b : Nat) (ha : a < 65536) (hb : b < 65536) : bits .and .u16 (a : Int) (b : Int) = ((a &&& b : Nat) : Int) := by
  have hx : a &&& b < 2 ^ 16 := Nat.and_lt_two_pow _ (by omega)
  show IntKind.u16.wrap ((BitVec.ofInt 16 (a : Int) &&& BitVec.ofInt 16 (b : Int)).toNat : Int) = _
  rw [BitVec.toNat_and, ofInt_nat 16 a ha, ofInt_nat 16 b hb]
  simp only [IntKind.wrap, IntKind.signed, IntKind.bits]
  simp
  omega
theorem u8_and (a b : Nat) (ha : a < 256) (hb : b < 256) : bits .and .u8 (a : Int) (b : Int) = ((a &&& b : Nat) : Int) := by
  have hx : a &&& b < 2 ^ 8 := Nat.and_lt_two_pow _ (by omega)
  show IntKind.u8.wrap ((BitVec.ofInt 8 (a : Int) &&& BitVec.ofInt 8 (b : Int)).toNat : Int) = _
  rw [BitVec.toNat_and, ofInt_nat 8 a ha, ofInt_nat 8 b hb]
  simp only [IntKind.wrap, IntKind.signed, IntKind.bits]
  simp
  omega
theorem testBit_div (s k : Nat) : (s / 2 ^ k &&& 1 == 1) = s.testBit k := by
  rw [Nat.testBit_eq_decide_div_mod_eq, Nat.and_one_is_mod]
  by_cases h : s / 2 ^ k % 2 = 1 <;> simp [h]
theorem div_pow_cast (s k : Nat) : ((s : Int) / 2 ^ k) = ((s / 2 ^ k : Nat) : Int) := by
  rw [Int.natCast_ediv]; simp
theorem bit_u16 (s k : Nat) (hs : s < 65536) : (bits .and .u16 ((s : Int) / 2 ^ k) 1 == 1) = s.testBit k := by
  have h1 : s / 2 ^ k < 65536 := Nat.lt_of_le_of_lt (Nat.div_le_self _ _) hs
  have := u16_and (s / 2 ^ k) 1 h1 (by omega)
  rw [div_pow_cast, show (1 : Int) = ((1 : Nat) : Int) from rfl, this, ← testBit_div]
  by_cases h : s / 2 ^ k &&& 1 = 1
  · simp [h]
  · rw [Bool.eq_iff_iff]
    simp only [beq_iff_eq]
    omega
open Go.ChangeAt Go.ChangeShapes Go.WideShapes
def hasB (s : Nat) (n : Int) : Bool := decide (0 ≤ n) && decide (n < 16) && s.testBit n.toNat
theorem in1_any (s : Nat) (hs : s < 65536) (n : Int) (W : World) (h1 : -9223372036854775808 ≤ n) (h2 : n ≤ 9223372036854775807) :
    Calls Try.prog 76 #[.int .u16 s, .int .i64 n] W fun e W' => e = .returned (.bool (hasB s n)) ∧ W = W' := by
  by_cases h0 : 0 ≤ n
  · by_cases h16 : n < 16
    · go_enter Try.func76, Try.ntmps76
      go_wp2
      go_ret
      exact ⟨by rw [bit_u16 s n.toNat hs]; simp [hasB, h0, h16], rfl⟩
    · have e16 : decide (n < 16) = false := by simpa using h16
      go_enter Try.func76, Try.ntmps76
      go_wp2
      go_ret
      exact ⟨by simp [hasB, e16], rfl⟩
  · have e0 : decide (0 ≤ n) = false := by simpa using h0
    go_enter Try.func76, Try.ntmps76
    go_wp2
    go_ret
    exact ⟨by simp [hasB, e0], rfl⟩
structure M4 where
  src : Nat
  dst : Nat
  sport : Nat
  dport : Nat
structure P4 where
  src : Int
  dst : Int
  sport : Int
  dport : Int
def M4.ok (m : M4) : Prop := m.src < 65536 ∧ m.dst < 65536 ∧ m.sport < 256 ∧ m.dport < 256
def i64ok (n : Int) : Prop := -9223372036854775808 ≤ n ∧ n ≤ 9223372036854775807
def P4.ok (p : P4) : Prop := i64ok p.src ∧ i64ok p.dst ∧ i64ok p.sport ∧ i64ok p.dport
def inB (m : M4) (p : P4) : Bool := hasB m.src p.src && hasB m.dst p.dst && hasB m.sport p.sport && hasB m.dport p.dport
theorem in_walk (a b c d : Nat) (x y z u : Int) (W : World) (ha : a < 65536) (hb : b < 65536) (hc : c < 256) (hd : d < 256) (hx : i64ok x) (hy : i64ok y) (hz : i64ok z) (hu : i64ok u) :
    Calls Try.prog 69 #[.agg #[.int .u16 a, .int .u16 b, .int .u8 c, .int .u8 d], .agg #[.int .i64 x, .int .i64 y, .int .i64 z, .int .i64 u]] W fun e W' =>
      e = .returned (.bool (hasB a x && hasB b y && hasB c z && hasB d u)) ∧ Below W.heap.size W W' := by
  obtain ⟨x1, x2⟩ := hx
  obtain ⟨y1, y2⟩ := hy
  obtain ⟨z1, z2⟩ := hz
  obtain ⟨u1, u2⟩ := hu
  cases e1 : hasB a x
  · go_enter Try.func69, Try.ntmps69
    go_wp2_with (go_at_call 76; refine (in1_any _ ?_ _ _ ?_ ?_).mono ?_ <;> (try omega); rintro e w' ⟨rfl, rfl⟩)
    go_ret
    exact ⟨by simp, ((Below.refl _ _).alloc (Nat.le_refl _) _).alloc (by simp) _⟩
  cases e2 : hasB b y
  · go_enter Try.func69, Try.ntmps69
    go_wp2_with (go_at_call 76; refine (in1_any _ ?_ _ _ ?_ ?_).mono ?_ <;> (try omega); rintro e w' ⟨rfl, rfl⟩)
    go_ret
    exact ⟨by simp, ((Below.refl _ _).alloc (Nat.le_refl _) _).alloc (by simp) _⟩
  cases e3 : hasB c z
  · go_enter Try.func69, Try.ntmps69
    go_wp2_with (go_at_call 76; refine (in1_any _ ?_ _ _ ?_ ?_).mono ?_ <;> (try omega); rintro e w' ⟨rfl, rfl⟩)
    go_ret
    exact ⟨by simp, ((Below.refl _ _).alloc (Nat.le_refl _) _).alloc (by simp) _⟩
  cases e4 : hasB d u
  · go_enter Try.func69, Try.ntmps69
    go_wp2_with (go_at_call 76; refine (in1_any _ ?_ _ _ ?_ ?_).mono ?_ <;> (try omega); rintro e w' ⟨rfl, rfl⟩)
    go_ret
    exact ⟨by simp, ((Below.refl _ _).alloc (Nat.le_refl _) _).alloc (by simp) _⟩
  · go_enter Try.func69, Try.ntmps69
    go_wp2_with (go_at_call 76; refine (in1_any _ ?_ _ _ ?_ ?_).mono ?_ <;> (try omega); rintro e w' ⟨rfl, rfl⟩)
    go_ret
    exact ⟨by simp, ((Below.refl _ _).alloc (Nat.le_refl _) _).alloc (by simp) _⟩
end Go.Proofs.Ytifkacnoiocebaa
namespace Go.Proofs.Ytifkacnoiocebaa
open Go.RowKit
theorem wp_region_fam {P : Program} {T : Type} (g : T → World) {id : Nat} {Q : Exit → Act → World → Prop} {a : Act} {w : World} {l : List Oper} (hm : P.follows .mixedOrders = true) (hB : Region.lexB .any l.toArray = true)
    (h0 : ∃ t, { w with drawn := w.drawn + 1 } = g t) (h : wpQuiet P l.toArray (fun w' => ∃ t, w' = g t) (fun a' => ∀ w', (∃ t, w' = g t) → Q .normal a' w') l a) : (Code.region id l.toArray true).wp P Q a w :=
  wp_region_quiet (C := fun w' => ∃ t, w' = g t) hm hB h0 (by simpa using h)
theorem wp_region_abs {P : Program} {id : Nat} {Q : Exit → Act → World → Prop} {a : Act} {w : World} {l : List Oper} (hm : P.follows .mixedOrders = true) (hB : Region.lexB .any l.toArray = true)
    (h : ∀ (T : Type) [Nonempty T] (g : T → World), (∀ t, Below w.heap.size w (g t)) → (∀ w', Below w.heap.size w w' → ∃ t, w' = g t) →
      wpQuiet P l.toArray (fun w' => ∃ t, w' = g t) (fun a' => ∀ w', (∃ t, w' = g t) → Q .normal a' w') l a) : (Code.region id l.toArray true).wp P Q a w :=
  wp_region_fam (T := { w' : World // Below w.heap.size w w' }) Subtype.val hm hB ⟨⟨w.drew, (Below.refl _ _).drew⟩, rfl⟩ (@h { w' : World // Below w.heap.size w w' } ⟨⟨w, Below.refl _ _⟩⟩ Subtype.val Subtype.property (fun w' hw => ⟨⟨w', hw⟩, rfl⟩))
theorem inAbs {P : Program} {f : FuncId} {args : Array Value} {W : World} {T : Type} {g : T → World} (hg : ∀ t, Below W.heap.size W (g t)) (hgi : ∀ w', Below W.heap.size W w' → ∃ t, w' = g t) {t : T} {v : Value}
    (h : Calls P f args (g t) fun e w' => e = .returned v ∧ Below (g t).heap.size (g t) w') : Calls P f args (g t) fun e w'' => e = .returned v ∧ ∃ s, w'' = g s :=
  h.mono fun _ w' ⟨he, hw⟩ => ⟨he, hgi w' ((hg t).trans (hw.mono (hg t).size))⟩
theorem inAbsSame {P : Program} {f : FuncId} {args : Array Value} {T : Type} {g : T → World} {t : T} {v : Value} (h : Calls P f args (g t) fun e w' => e = .returned v ∧ g t = w') :
    Calls P f args (g t) fun e w'' => e = .returned v ∧ ∃ s, w'' = g s :=
  h.mono fun _ w' ⟨he, hw⟩ => ⟨he, ⟨t, hw.symm⟩⟩
theorem hide {p : Prop} (h : p) : Hid p := h
theorem bcell {W w1 : World} (hb : Below W.heap.size W w1) : (∀ b o, b < W.heap.size → w1.cell? ⟨b, o, none⟩ = W.cell? ⟨b, o, none⟩) ∧ (∀ b o, b < W.heap.size → w1.frozen? ⟨b, o, none⟩ = W.frozen? ⟨b, o, none⟩) :=
  ⟨fun b o h => hb.cell (p := ⟨b, o, none⟩) h, fun b o h => hb.frozen (p := ⟨b, o, none⟩) h⟩
open Go.ChangeAt Go.ChangeShapes Go.Joins Go.WideShapes
theorem Try.cellsMatch : Try.prog.cellsOf 53 = 4 := by kernel_rfl
theorem Try.cellsPacket : Try.prog.cellsOf 38 = 4 := by kernel_rfl
section
variable {H : Type} {enc : TypeId × Value → H} {w : World} {base : Nat} {spare : Nat → Bool} {held : Bool} {r : Reach} {b0 : Nat}
theorem wf_nat_u16 {k : Int} (h : (Lit.int .u16 k).wf = true) : ∃ n : Nat, k = n ∧ n < 65536 := by
  have hx : 0 ≤ k ∧ k ≤ 65535 := by simpa [Lit.wf, IntKind.min, IntKind.max, IntKind.signed, IntKind.bits] using h
  exact ⟨k.toNat, by omega, by omega⟩
theorem wf_nat_u8 {k : Int} (h : (Lit.int .u8 k).wf = true) : ∃ n : Nat, k = n ∧ n < 256 := by
  have hx : 0 ≤ k ∧ k ≤ 255 := by simpa [Lit.wf, IntKind.min, IntKind.max, IntKind.signed, IntKind.bits] using h
  exact ⟨k.toNat, by omega, by omega⟩
theorem wf_i64ok {k : Int} (h : (Lit.int .i64 k).wf = true) : i64ok k := by
  have hx : -9223372036854775808 ≤ k ∧ k ≤ 9223372036854775807 := by simpa [Lit.wf, IntKind.min, IntKind.max, IntKind.signed, IntKind.bits] using h
  exact hx
theorem trod_u16 {n : Nat} {v : Value} {y : DataW H × List MemPlace} (h : DataW.trod enc Try.prog w base spare held n 51 [v] = some y) : ∃ k : Nat, v = .int .u16 k ∧ k < 65536 := by
  obtain ⟨a, e0, rfl, wa⟩ := DataW.trod_int Try.underlying51 h
  obtain ⟨k, rfl, hk⟩ := wf_nat_u16 wa
  exact ⟨k, by simpa using e0, hk⟩
theorem trod_u8 {n : Nat} {v : Value} {y : DataW H × List MemPlace} (h : DataW.trod enc Try.prog w base spare held n 5 [v] = some y) : ∃ k : Nat, v = .int .u8 k ∧ k < 256 := by
  obtain ⟨a, e0, rfl, wa⟩ := DataW.trod_int Try.underlying5 h
  obtain ⟨k, rfl, hk⟩ := wf_nat_u8 wa
  exact ⟨k, by simpa using e0, hk⟩
theorem trod_i64 {n : Nat} {v : Value} {y : DataW H × List MemPlace} (h : DataW.trod enc Try.prog w base spare held n 3 [v] = some y) : ∃ k : Int, v = .int .i64 k ∧ i64ok k := by
  obtain ⟨a, e0, rfl, wa⟩ := DataW.trod_int Try.underlying3 h
  exact ⟨a, by simpa using e0, wf_i64ok wa⟩
end
theorem args_nil {H : Type} {enc : TypeId × Value → H} {P : Program} {w : World} {base : Nat} {sp : Nat → Bool} {hd : Bool} {vs : List Value} {ds : List (DataW H)} {p : List MemPlace} (h : DataW.TrodAll enc P w base sp hd [] vs ds p) : vs = [] ∧ ds = [] ∧ p = [] := by
  cases vs <;> cases ds <;> first | exact ⟨rfl, rfl, h⟩ | exact h.elim
theorem args_cons {H : Type} {enc : TypeId × Value → H} {P : Program} {w : World} {base : Nat} {sp : Nat → Bool} {hd : Bool} {t : TypeId} {ts : List TypeId} {vs : List Value} {ds : List (DataW H)} {p : List MemPlace} (h : DataW.TrodAll enc P w base sp hd (t :: ts) vs ds p) :
    ∃ v vs' d ds' p0 q, vs = v :: vs' ∧ ds = d :: ds' ∧ p = p0 ++ q ∧ DataW.Trod enc P w base sp hd t v d p0 ∧ DataW.TrodAll enc P w base sp hd ts vs' ds' q := by
  match vs, ds, h with
  | v :: vs, d :: ds, h =>
    obtain ⟨p0, q, h1, h2, rfl⟩ := h
    exact ⟨v, vs, d, ds, p0, q, rfl, rfl, rfl, h1, h2⟩
theorem arr_eq {a b : Array Value} (h : a.toList = b.toList) : a = b := by cases a; cases b; simp_all
end Go.Proofs.Ytifkacnoiocebaa
namespace Go.Proofs.Ytifkacnoiocebaa
open Go.ChangeAt Go.ChangeShapes Go.RowKit Go.WideShapes
theorem all_walk (W : World) : Calls Try.prog 36 #[] W fun e W' =>
      e = .returned (.agg #[.int .u16 65535, .int .u16 65535, .int .u8 255, .int .u8 255]) ∧ Below W.heap.size W W' := by
  go_enter Try.func36, Try.ntmps36
  go_wp2
  exact bodyPost_ret (v := .agg #[.int .u16 65535, .int .u16 65535, .int .u8 255, .int .u8 255]) (by simp [results, Try.results36, go_sem]) rfl ⟨rfl, ((Below.refl _ _).alloc (Nat.le_refl _) _)⟩
structure RuleV where
  permit : Bool
  m : M4
def RuleV.ok (r : RuleV) : Prop := r.m.ok
def RuleV.cells (r : RuleV) : List Value := [.bool r.permit, .int .u16 r.m.src, .int .u16 r.m.dst, .int .u8 r.m.sport, .int .u8 r.m.dport]
def RuleV.val (r : RuleV) : Value := .agg #[.bool r.permit, .int .u16 r.m.src, .int .u16 r.m.dst, .int .u8 r.m.sport, .int .u8 r.m.dport]
def RuleAt (w : World) (b o : Nat) (r : RuleV) : Prop :=
  w.cell? ⟨b, o, none⟩ = some (.bool r.permit) ∧ w.cell? ⟨b, o + 1, none⟩ = some (.int .u16 r.m.src) ∧ w.cell? ⟨b, o + 2, none⟩ = some (.int .u16 r.m.dst) ∧
    w.cell? ⟨b, o + 3, none⟩ = some (.int .u8 r.m.sport) ∧ w.cell? ⟨b, o + 4, none⟩ = some (.int .u8 r.m.dport)
theorem RuleAt.below {w w' : World} {B b o : Nat} {r : RuleV} (h : RuleAt w b o r) (hB : Below B w w') (hb : b < B) : RuleAt w' b o r := by
  unfold RuleAt at *
  have e : ∀ o, w'.cell? ⟨b, o, none⟩ = w.cell? ⟨b, o, none⟩ := fun o => hB.cell (p := ⟨b, o, none⟩) hb
  rw [e, e, e, e, e]
  exact h
def RulesAt (w : World) (B : Nat) (A : Option Addr) (n : Nat) (l : List RuleV) : Prop :=
  l.length = n ∧ (∀ r ∈ l, r.ok) ∧ (0 < n → ∃ b o, A = some ⟨b, o, none⟩ ∧ b < B ∧ ∀ (k : Nat) (r : RuleV), l[k]? = some r → RuleAt w b (o + k * 5) r)
theorem RulesAt.get {w : World} {B b o n : Nat} {l : List RuleV} (h : RulesAt w B (some ⟨b, o, none⟩) n l) {k : Nat} {r : RuleV} (hr : l[k]? = some r) : b < B ∧ RuleAt w b (o + k * 5) r := by
  have hk : k < n := by
    have := (List.getElem?_eq_some_iff.1 hr).1
    have := h.1
    omega
  obtain ⟨b', o', e, hb, hg⟩ := h.2.2 (by omega)
  cases e
  exact ⟨hb, hg k r hr⟩
theorem RulesAt.below {w w' : World} {B B' n : Nat} {A : Option Addr} {l : List RuleV} (h : RulesAt w B A n l) (hB : Below B w w') (hB' : B ≤ B') : RulesAt w' B' A n l :=
  ⟨h.1, h.2.1, fun h0 => by
    obtain ⟨b, o, e, hb, hg⟩ := h.2.2 h0
    exact ⟨b, o, e, by omega, fun k r hr => (hg k r hr).below hB hb⟩⟩
def idxF {α : Type} (p : α → Bool) (l : List α) : Int := match l.findIdx? p with | some k => (k : Int) | none => -1
theorem idxF_found {α : Type} {p : α → Bool} {l : List α} {k : Nat} {r : α} (hr : l[k]? = some r) (hp : p r = true) (hno : ∀ j r, j < k → l[j]? = some r → p r = false) : idxF p l = k := by
  have hk := (List.getElem?_eq_some_iff.1 hr).1
  have : l.findIdx? p = some k := by
    rw [List.findIdx?_eq_some_iff_getElem]
    refine ⟨hk, ?_, fun j hj => ?_⟩
    · have := (List.getElem?_eq_some_iff.1 hr).2; rw [this]; exact hp
    · have := hno j _ hj (List.getElem?_eq_getElem (by omega)); simp [this]
  simp [idxF, this]
theorem idxF_none {α : Type} {p : α → Bool} {l : List α} (hno : ∀ j r, j < l.length → l[j]? = some r → p r = false) : idxF p l = -1 := by
  have : l.findIdx? p = none := by
    rw [List.findIdx?_eq_none_iff]
    intro x hx
    obtain ⟨j, hj⟩ := List.getElem?_of_mem hx
    exact hno j x (List.getElem?_eq_some_iff.1 hj).1 hj
  simp [idxF, this]
theorem ret_i64 {a b : Int} (h : a = b) : Ending.returned (.int .i64 a) = .returned (.int .i64 b) := by rw [h]
theorem indexFuncRule_walk (l : List RuleV) (b o n c f : Nat) (cap : Array Value) (p : RuleV → Bool) (W : World) (hn : n ≤ 9223372036854775807) (hl : RulesAt W W.heap.size (some ⟨b, o, none⟩) n l) (h0 : 0 < n)
    (hcall : ∀ (args : Array Value) (w : World), (callFunc f args).run Try.prog w = .ok (.enter f args) w)
    (hf : Hid (∀ (r : RuleV) (w : World), r ∈ l → Below W.heap.size W w → Calls Try.prog f (#[r.val] ++ cap) w fun e w' => e = .returned (.bool (p r)) ∧ Below w.heap.size w w')) :
    Calls Try.prog 67 #[.slice (some ⟨b, o, none⟩) n c, .func (.func f) #[] cap] W fun e W' =>
      e = .returned (.int .i64 (idxF p l)) ∧ Below W.heap.size W W' := by
  have HL := hide hl
  clear hl
  go_enter Try.func67, Try.ntmps67
  go_wp2
  go_loopw [5, 8] (fun u i wr => ∃ k : Nat, k ≤ n ∧ i = .int .i64 k ∧ Below W.heap.size W wr ∧ ∀ j r, j < k → l[j]? = some r → p r = false) (fun _ i _ => n - (intOf i).toNat)
  case atStart => exact ⟨0, Nat.zero_le _, rfl, Below.refl _ _, fun j r h => by omega⟩
  case round =>
    obtain ⟨k, hk, rfl, hb, hno⟩ := hrel
    by_cases hlt : k < n
    · obtain ⟨r, hr⟩ : ∃ r, l[k]? = some r := ⟨_, List.getElem?_eq_getElem (by have := HL.out.1; omega)⟩
      obtain ⟨hbB, hra⟩ := HL.out.get hr
      obtain ⟨q0, q1, q2, q3, q4⟩ := hra.below hb hbB
      have HR := hide hr
      have HB := hide hb
      have HN := hide hno
      clear hr hb hno
      go_wp2_with fail
      refine (hf.out r _ (List.mem_of_getElem? HR.out) HB.out).mono ?_
      rintro e w1 ⟨rfl, hb1⟩
      have HB1 := hide (HB.out.trans (hb1.mono HB.out.size))
      clear hb1
      cases hp : p r
      · go_wp2
        go_roundw
        case rel =>
          refine ⟨k + 1, by omega, by go_num, HB1.out, fun j r' hj hr' => ?_⟩
          rcases (by omega : j < k ∨ j = k) with h | rfl
          · exact HN.out j r' h hr'
          · rw [HR.out] at hr'; cases hr'; exact hp
        case measure => simp [intOf]; omega
      · go_wp2
        go_ret
        exact ⟨ret_i64 (idxF_found HR.out hp HN.out).symm, HB1.out⟩
    · go_wp2
      go_ret
      exact ⟨ret_i64 (idxF_none (fun j r hj => hno j r (by have := HL.out.1; omega))).symm, hb⟩
theorem indexFuncRule_nil (A : Option Addr) (c : Nat) (F : Value) (W : World) :
    Calls Try.prog 67 #[.slice A 0 c, F] W fun e W' => e = .returned (.int .i64 (-1)) ∧ W = W' := by
  go_enter Try.func67, Try.ntmps67
  go_wp2
  refine wp_loop_rounds 1 ?_
  rw [rounds_succ]
  go_wp2
  go_ret
  exact ⟨rfl, rfl⟩
theorem indexFuncRule_any (l : List RuleV) (A : Option Addr) (n c f : Nat) (cap : Array Value) (p : RuleV → Bool) (W : World) (hn : n ≤ 9223372036854775807) (hl : RulesAt W W.heap.size A n l)
    (hcall : ∀ (args : Array Value) (w : World), (callFunc f args).run Try.prog w = .ok (.enter f args) w)
    (hf : ∀ (r : RuleV) (w : World), r ∈ l → Below W.heap.size W w → Calls Try.prog f (#[r.val] ++ cap) w fun e w' => e = .returned (.bool (p r)) ∧ Below w.heap.size w w') :
    Calls Try.prog 67 #[.slice A n c, .func (.func f) #[] cap] W fun e W' =>
      e = .returned (.int .i64 (idxF p l)) ∧ Below W.heap.size W W' := by
  rcases Nat.eq_zero_or_pos n with rfl | h0
  · have : l = [] := List.eq_nil_of_length_eq_zero hl.1
    subst this
    exact (indexFuncRule_nil A c _ W).mono fun e w' ⟨he, hw⟩ => ⟨he, hw ▸ Below.refl _ _⟩
  · obtain ⟨b, o, rfl, hb, _⟩ := hl.2.2 h0
    exact indexFuncRule_walk l b o n c f cap p W hn hl h0 hcall hf
def PackAt (w : World) (b : Nat) (p : P4) : Prop :=
  w.cell? ⟨b, 0, none⟩ = some (.int .i64 p.src) ∧ w.cell? ⟨b, 1, none⟩ = some (.int .i64 p.dst) ∧ w.cell? ⟨b, 2, none⟩ = some (.int .i64 p.sport) ∧ w.cell? ⟨b, 3, none⟩ = some (.int .i64 p.dport)
theorem PackAt.below {w w' : World} {B b : Nat} {p : P4} (h : PackAt w b p) (hB : Below B w w') (hb : b < B) : PackAt w' b p := by
  unfold PackAt at *
  have e : ∀ o, w'.cell? ⟨b, o, none⟩ = w.cell? ⟨b, o, none⟩ := fun o => hB.cell (p := ⟨b, o, none⟩) hb
  rw [e, e, e, e]
  exact h
theorem in_ofNat (m : M4) (p : P4) (w : World) (hm : m.ok) (hp : p.ok) :
    Calls Try.prog 69 #[.agg #[.int .u16 m.src, .int .u16 m.dst, .int .u8 m.sport, .int .u8 m.dport], .agg #[.int .i64 p.src, .int .i64 p.dst, .int .i64 p.sport, .int .i64 p.dport]] w fun e W' =>
      e = .returned (.bool (inB m p)) ∧ Below w.heap.size w W' := in_walk m.src m.dst m.sport m.dport p.src p.dst p.sport p.dport w hm.1 hm.2.1 hm.2.2.1 hm.2.2.2 hp.1 hp.2.1 hp.2.2.1 hp.2.2.2
theorem lets1_walk (r : RuleV) (p : P4) (b : Nat) (w : World) (hr : r.ok) (hp : p.ok) (hpa : PackAt w b p) (hlt : b < w.heap.size) :
    Calls Try.prog 68 (#[r.val] ++ #[.pointer (some ⟨b, 0, none⟩)]) w fun e W' => e = .returned (.bool (inB r.m p)) ∧ Below w.heap.size w W' := by
  obtain ⟨q0, q1, q2, q3⟩ := hpa
  have hne : b ≠ w.heap.size := by omega
  show Calls Try.prog 68 #[.agg #[.bool r.permit, .int .u16 r.m.src, .int .u16 r.m.dst, .int .u8 r.m.sport, .int .u8 r.m.dport], .pointer (some ⟨b, 0, none⟩)] w _
  go_enter Try.func68, Try.ntmps68
  go_wp2_with fail
  refine (in_ofNat r.m p _ hr hp).mono ?_
  rintro e w1 ⟨rfl, hb1⟩
  go_wp2
  go_ret
  exact ⟨rfl, ((Below.refl _ _).alloc (Nat.le_refl _) _).trans (hb1.mono (by simp))⟩
def letsB (l : List RuleV) (p : P4) : Bool := ((l.find? fun r => inB r.m p).map (·.permit)).getD false
theorem lets_found {l : List RuleV} {p : P4} {k : Nat} {r : RuleV} (hr : l[k]? = some r) (hp : inB r.m p = true) (hno : ∀ j r, j < k → l[j]? = some r → inB r.m p = false) : letsB l p = r.permit := by
  have : l.find? (fun r => inB r.m p) = some r := by
    rw [List.find?_eq_some_iff_getElem]
    have hk := (List.getElem?_eq_some_iff.1 hr)
    obtain ⟨hk1, hk2⟩ := hk
    refine ⟨hp, k, hk1, hk2, fun j hj => ?_⟩
    have hjl : j < l.length := by omega
    have := hno j _ hj (List.getElem?_eq_getElem hjl)
    simp [this]
  simp [letsB, this]
theorem lets_none {l : List RuleV} {p : P4} (hno : ∀ r ∈ l, inB r.m p = false) : letsB l p = false := by
  have : l.find? (fun r => inB r.m p) = none := by
    rw [List.find?_eq_none]
    intro r hr
    simp [hno r hr]
  simp [letsB, this]
theorem idxF_cases {α : Type} (p : α → Bool) (l : List α) : (∃ (k : Nat) (r : α), idxF p l = k ∧ k < l.length ∧ l[k]? = some r ∧ p r = true ∧ ∀ j r, j < k → l[j]? = some r → p r = false) ∨ (idxF p l = -1 ∧ ∀ r ∈ l, p r = false) := by
  cases h : l.findIdx? p with
  | none => exact .inr ⟨by simp [idxF, h], fun r hr => by simpa using (List.findIdx?_eq_none_iff.1 h) r hr⟩
  | some k =>
    obtain ⟨hk, h1, h2⟩ := List.findIdx?_eq_some_iff_getElem.1 h
    refine .inl ⟨k, l[k], by simp [idxF, h], hk, List.getElem?_eq_getElem hk, h1, fun j r hj hr => ?_⟩
    have := h2 j hj
    rw [List.getElem?_eq_getElem (by omega)] at hr
    cases hr
    simpa using this
theorem lets_walk (l : List RuleV) (A : Option Addr) (n c : Nat) (p : P4) (W : World) (hn : n ≤ 9223372036854775807) (hp : p.ok) (hl : RulesAt W W.heap.size A n l) :
    Calls Try.prog 58 #[.slice A n c, .agg #[.int .i64 p.src, .int .i64 p.dst, .int .i64 p.sport, .int .i64 p.dport]] W fun e W' =>
      e = .returned (.bool (letsB l p)) ∧ Below W.heap.size W W' := by
  have hb0 : Below W.heap.size W (W.alloc (.cells #[.int .i64 p.src, .int .i64 p.dst, .int .i64 p.sport, .int .i64 p.dport] 38)) := (Below.refl _ _).alloc (Nat.le_refl _) _
  have hpa : PackAt (W.alloc (.cells #[.int .i64 p.src, .int .i64 p.dst, .int .i64 p.sport, .int .i64 p.dport] 38)) W.heap.size p := ⟨by simp, by simp, by simp, by simp⟩
  have hl1 := hl.below hb0 (B' := W.heap.size + 1) (by omega)
  have HP := hide hpa
  have HL := hide hl1
  have HL0 := hide hl
  clear hpa hl1 hl
  go_enter Try.func58, Try.ntmps58
  go_wp2_with fail
  refine (indexFuncRule_any l A n c 68 _ (fun r => inB r.m p) _ hn (by simpa using HL.out) ?_ ?_).mono ?_
  · intro args w
    go_simp
  · intro r w hr hw
    exact lets1_walk r p W.heap.size w (HL0.out.2.1 r hr) hp (HP.out.below hw (by simp)) (by have := hw.size; simp at this; omega)
  rintro e w1 ⟨rfl, hb1⟩
  have HB := hide (hb0.trans (hb1.mono (by simp)))
  clear hb1 hb0
  rcases idxF_cases (fun r => inB r.m p) l with ⟨k, r, hk, hkl, hr, hpr, hno⟩ | ⟨hk, hno⟩
  · rw [hk]
    have hlen := HL0.out.1
    have h0 : 0 < n := by omega
    obtain ⟨b, o, rfl, hbB, _⟩ := HL0.out.2.2 h0
    obtain ⟨q0, _, _, _, _⟩ := (HL0.out.get hr).2.below HB.out hbB
    have HF := hide (lets_found hr hpr hno)
    have hkn : k < n := by omega
    clear hk hr hpr hno hlen
    go_wp2
    go_ret
    exact ⟨by rw [HF.out]; rfl, HB.out⟩
  · rw [hk]
    have HF := hide (lets_none hno)
    clear hk hno
    go_wp2
    go_ret
    exact ⟨by rw [HF.out]; rfl, HB.out⟩
end Go.Proofs.Ytifkacnoiocebaa
namespace Go.Proofs.Ytifkacnoiocebaa
open Go.RowKit
theorem block_of_add (a : Addr) (n : Nat) : (a.add n).block = a.block := by unfold Addr.add; split <;> rfl
def Reads (w : World) (B size : Nat) (A : Option Addr) (n : Nat) (xs : List Value) : Prop :=
  xs.length = n * size ∧ (0 < n → ∃ ad, A = some ad ∧ ad.block < B ∧ ∀ j u, xs[j]? = some u → w.cell? (ad.add j) = some u)
section
variable {w w' : World} {B B' size n : Nat} {A : Option Addr} {xs : List Value}
theorem Reads.keep (h : Reads w B size A n xs) (hk : ∀ p : Addr, p.block < B → w'.cell? p = w.cell? p) : Reads w' B size A n xs :=
  ⟨h.1, fun hn => by
    obtain ⟨ad, e, hb, hc⟩ := h.2 hn
    exact ⟨ad, e, hb, fun j u hu => (hk _ (by rw [block_of_add]; exact hb)).trans (hc j u hu)⟩⟩
theorem Reads.alloc (h : Reads w B size A n xs) (hB : B ≤ w.heap.size) (o : Obj) : Reads (w.alloc o) B size A n xs := h.keep fun p hp => World.cell?_alloc_lt w o p (by omega)
end
section
variable {P : Program} (w : World)
theorem run_append_of_nil (base : Nat) (t ty e : TypeId) (i : TypeInfo) (size : Nat) (ht : P.underlying t = some (.slice e)) (hi : P.info? e = some i)
    (v : Value) (n : Nat) (xs : List Value) (hown : w.ownsRow base e size v n xs) (c : Nat) : (Builtin.append_ #[t, t] ty #[v, .slice none 0 c]).run P w = .ok v w := by
  rcases hown.2 with ⟨rfl, rfl⟩ | ⟨g, cap, cur, rfl, _, _, hnc, _⟩
  · simp [Builtin.append_, run_underlying ht, sizeOf, typeInfo, hi, Builtin.lenOf, Builtin.firstCells]
  · simp [Builtin.append_, run_underlying ht, sizeOf, typeInfo, hi, Builtin.lenOf, Builtin.firstCells, hnc, storeCells]
theorem run_append_any (base : Nat) (t ty e : TypeId) (i : TypeInfo) (z : Value) (size bytes : Nat) (ht : P.underlying t = some (.slice e)) (hi : P.info? e = some i) (hz : i.zero = some z)
    (hsize : i.size = size) (hby : i.bytes = bytes) (hzs : z.cells.size = size) (hsz : 0 < size)
    (v : Value) (n : Nat) (xs : List Value) (hown : w.ownsRow base e size v n xs)
    (B : Nat) (A : Option Addr) (m c : Nat) (news : List Value) (hr : Reads w B size A m news) (h1 : ∀ u ∈ news, u.oneCell' = true)
    (h63 : n + m ≤ maxLen) (hbytes : (n + m) * bytes ≤ 140737488355328) (hbase : base ≤ w.heap.size) :
    ∃ v' w', (Builtin.append_ #[t, t] ty #[v, .slice A m c]).run P w = .ok v' w' ∧ w'.ownsRow base e size v' (n + m) (xs ++ news) ∧ w.grownBy w' v.ownBlock ∧
      (v'.ownBlock = v.ownBlock ∨ v'.ownBlock = some w.heap.size) := by
  rcases A with _ | ad
  · have hm : m = 0 := by
      rcases Nat.eq_zero_or_pos m with h0 | h0
      · exact h0
      · obtain ⟨ad, h, _⟩ := hr.2 h0
        cases h
    subst hm
    have hn : news = [] := List.eq_nil_of_length_eq_zero (by simpa using hr.1)
    subst hn
    exact ⟨v, w, run_append_of_nil w base t ty e i size ht hi v n xs hown c, by simpa using hown, World.grownBy.refl w _, .inl rfl⟩
  · have hcells : ∀ j u, news[j]? = some u → w.cell? (ad.add j) = some u := by
      intro j u hu
      rcases Nat.eq_zero_or_pos m with h0 | h0
      · subst h0
        have hn : news = [] := List.eq_nil_of_length_eq_zero (by simpa using hr.1)
        subst hn
        simp at hu
      · obtain ⟨ad', h, _, hc⟩ := hr.2 h0
        injection h with h
        subst h
        exact hc j u hu
    obtain ⟨v', w', hrun, h2, h3, _, h5⟩ := run_append_own_at (P := P) w base t ty e i z size bytes ht hi hz hsize hby hzs hsz v n xs hown ad m c news hr.1 hcells h1 h63 hbytes hbase
    exact ⟨v', w', hrun, h2, h3, h5⟩
theorem wp_append_any {o : Oper} {a : Act} {K : Act → World → Prop} {Q : Exit → Act → World → Prop} (s x : Operand) (t : TypeId)
    (ho : o.op = .call { callee := .builtin .append, args := #[s, x], argTypes := #[t, t] })
    (base : Nat) (e : TypeId) (i : TypeInfo) (z : Value) (size bytes : Nat) (ht : P.underlying t = some (.slice e)) (hi : P.info? e = some i) (hz : i.zero = some z)
    (hsize : i.size = size) (hby : i.bytes = bytes) (hzs : z.cells.size = size) (hsz : 0 < size)
    (v : Value) (n : Nat) (xs : List Value) (hs : a.eval s = v) (hown : w.ownsRow base e size v n xs)
    (B : Nat) (A : Option Addr) (m c : Nat) (news : List Value) (hx : a.eval x = .slice A m c) (hr : Reads w B size A m news) (h1 : ∀ u ∈ news, u.oneCell' = true)
    (h63 : n + m ≤ maxLen) (hbytes : (n + m) * bytes ≤ 140737488355328) (hbase : base ≤ w.heap.size)
    (h : ∀ v' w', w'.ownsRow base e size v' (n + m) (xs ++ news) → w.grownBy w' v.ownBlock → (v'.ownBlock = v.ownBlock ∨ v'.ownBlock = some w.heap.size) → K (a.put o.dst v') w') : o.wp P a w K Q := by
  obtain ⟨v', w', hrun, h2, h3, h4⟩ := run_append_any (P := P) w base t o.type e i z size bytes ht hi hz hsize hby hzs hsz v n xs hown B A m c news hr h1 h63 hbytes hbase
  unfold Oper.wp execOp
  simp only [ho, resolve, invoke, builtin, Sem.run_bind, Sem.run_pure, Result.andThen_ok, List.map_toArray, List.map_cons, List.map_nil, hs, hx, hrun]
  exact h v' w' h2 h3 h4
theorem wpList_append_any {ops : Array Oper} {rest : List Oper} {o : Oper} {a : Act} {Q : Exit → Act → World → Prop} (hgd : o.guard = none) (s x : Operand) (t : TypeId)
    (ho : o.op = .call { callee := .builtin .append, args := #[s, x], argTypes := #[t, t] })
    (base : Nat) (e : TypeId) (i : TypeInfo) (z : Value) (size bytes : Nat) (ht : P.underlying t = some (.slice e)) (hi : P.info? e = some i) (hz : i.zero = some z)
    (hsize : i.size = size) (hby : i.bytes = bytes) (hzs : z.cells.size = size) (hsz : 0 < size)
    (v : Value) (n : Nat) (xs : List Value) (hs : a.eval s = v) (hown : w.ownsRow base e size v n xs)
    (B : Nat) (A : Option Addr) (m c : Nat) (news : List Value) (hx : a.eval x = .slice A m c) (hr : Reads w B size A m news) (h1 : ∀ u ∈ news, u.oneCell' = true)
    (h63 : n + m ≤ maxLen) (hbytes : (n + m) * bytes ≤ 140737488355328) (hbase : base ≤ w.heap.size)
    (h : ∀ v' w', w'.ownsRow base e size v' (n + m) (xs ++ news) → w.grownBy w' v.ownBlock → (v'.ownBlock = v.ownBlock ∨ v'.ownBlock = some w.heap.size) → wpList P ops Q rest (a.put o.dst v') w') : wpList P ops Q (o :: rest) a w :=
  wpList_plain hgd fun _ hK => wp_append_any w s x t ho base e i z size bytes ht hi hz hsize hby hzs hsz v n xs hs hown B A m c news hx hr h1 h63 hbytes hbase fun v' w' h2 h3 h4 => hK _ _ (h v' w' h2 h3 h4)
end
def SlAt {α : Type} (cells : α → List Value) (s : Nat) (w : World) (B : Nat) (A : Option Addr) (n : Nat) (l : List α) : Prop :=
  l.length = n ∧ (0 < n → ∃ b o, A = some ⟨b, o, none⟩ ∧ b < B ∧ ∀ (k : Nat) (r : α), l[k]? = some r → ∀ (j : Nat) (v : Value), (cells r)[j]? = some v → w.cell? ⟨b, o + k * s + j, none⟩ = some v)
section
variable {α : Type} {cells : α → List Value} {s : Nat} {w w' : World} {B B' n : Nat} {A : Option Addr} {l : List α}
theorem SlAt.below (h : SlAt cells s w B A n l) (hB : Below B w w') (hB' : B ≤ B') : SlAt cells s w' B' A n l :=
  ⟨h.1, fun h0 => by
    obtain ⟨b, o, e, hb, hg⟩ := h.2 h0
    exact ⟨b, o, e, by omega, fun k r hr j v hv => (hB.cell (p := ⟨b, _, none⟩) hb).trans (hg k r hr j v hv)⟩⟩
theorem SlAt.get {b o k : Nat} {r : α} (h : SlAt cells s w B (some ⟨b, o, none⟩) n l) (hr : l[k]? = some r) : b < B ∧ ∀ (j : Nat) (v : Value), (cells r)[j]? = some v → w.cell? ⟨b, o + k * s + j, none⟩ = some v := by
  have hk : k < n := by
    have := (List.getElem?_eq_some_iff.1 hr).1
    have := h.1
    omega
  obtain ⟨b', o', e, hb, hg⟩ := h.2 (by omega)
  cases e
  exact ⟨hb, hg k r hr⟩
theorem flat_length (hs : ∀ r, (cells r).length = s) : ∀ l : List α, (l.flatMap cells).length = l.length * s := by
  intro l
  induction l with
  | nil => simp
  | cons a l ih => simp only [List.flatMap_cons, List.length_append, List.length_cons, ih, hs, Nat.succ_mul]; omega
theorem flat_get (hs : ∀ r, (cells r).length = s) : ∀ (l : List α) (k : Nat) (r : α) (j : Nat) (v : Value), l[k]? = some r → (cells r)[j]? = some v → (l.flatMap cells)[k * s + j]? = some v := by
  intro l
  induction l with
  | nil => intro k r j v h; simp at h
  | cons a l ih =>
    intro k r j v hr hv
    rw [List.flatMap_cons]
    match k with
    | 0 =>
      have : a = r := by simpa using hr
      subst this
      have hj := (List.getElem?_eq_some_iff.1 hv).1
      rw [List.getElem?_append_left (by omega)]
      simpa using hv
    | k + 1 =>
      have e : (k + 1) * s + j = (cells a).length + (k * s + j) := by rw [hs, Nat.succ_mul]; omega
      rw [e, List.getElem?_append_right (by omega), Nat.add_sub_cancel_left]
      exact ih k r j v (by simpa using hr) hv
theorem flat_get_inv (hs : ∀ r, (cells r).length = s) (h0 : 0 < s) : ∀ (l : List α) (i : Nat) (v : Value), (l.flatMap cells)[i]? = some v → ∃ r, l[i / s]? = some r ∧ (cells r)[i % s]? = some v := by
  intro l
  induction l with
  | nil => intro i v h; simp at h
  | cons a l ih =>
    intro i v h
    rw [List.flatMap_cons] at h
    rcases Nat.lt_or_ge i s with hi | hi
    · rw [List.getElem?_append_left (by rw [hs]; exact hi)] at h
      rw [Nat.div_eq_of_lt hi, Nat.mod_eq_of_lt hi]
      exact ⟨a, by simp, h⟩
    · rw [List.getElem?_append_right (by rw [hs]; exact hi), hs] at h
      obtain ⟨r, h1, h2⟩ := ih (i - s) v h
      have e1 : i / s = (i - s) / s + 1 := by rw [Nat.div_eq_sub_div h0 hi]
      have e2 : i % s = (i - s) % s := by rw [Nat.mod_eq_sub_mod hi]
      rw [e1, e2]
      exact ⟨r, by simpa using h1, h2⟩
theorem addr_add (b o j : Nat) : (⟨b, o, none⟩ : Addr).add j = ⟨b, o + j, none⟩ := by
  unfold Addr.add
  split
  · rename_i h; subst h; rfl
  · rfl
theorem SlAt.reads (hs : ∀ r, (cells r).length = s) (h0 : 0 < s) (h : SlAt cells s w B A n l) : Reads w B s A n (l.flatMap cells) :=
  ⟨by rw [flat_length hs, h.1], fun hn => by
    obtain ⟨b, o, e, hb, hg⟩ := h.2 hn
    refine ⟨⟨b, o, none⟩, e, hb, fun j v hv => ?_⟩
    obtain ⟨r, h1, h2⟩ := flat_get_inv hs h0 l j v hv
    rw [addr_add]
    have := hg (j / s) r h1 (j % s) v h2
    rw [Nat.add_assoc, Nat.mul_comm, Nat.div_add_mod] at this
    exact this⟩
theorem SlAt.of_own {base e : Nat} {v : Value} (hs : ∀ r, (cells r).length = s) (h : w.ownsRow base e s v n (l.flatMap cells)) (hl : l.length = n) :
    ∃ A c, v = .slice A n c ∧ n ≤ c ∧ SlAt cells s w w.heap.size A n l ∧ (∀ a, A = some a → base ≤ a.block) := by
  rcases h.2 with ⟨rfl, rfl⟩ | ⟨g, cap, cur, rfl, hg, hh, hnc, _⟩
  · exact ⟨none, 0, rfl, Nat.le_refl _, ⟨hl, fun h => absurd h (by omega)⟩, fun a h => by cases h⟩
  · refine ⟨_, cap, rfl, hnc, ⟨hl, fun h0 => ⟨g, 0, rfl, (Array.getElem?_eq_some_iff.1 hh).1, fun k r hr j u hu => ?_⟩⟩, fun a h => by cases h; exact hg⟩
    have := h.cells (g := g) rfl (k * s + j) u (flat_get hs l k r j u hr hu)
    rw [addr_add] at this
    rw [Nat.zero_add] at this ⊢
    exact this
end
open Go.ChangeAt Go.ChangeShapes Go.WideShapes
theorem RuleV.len (r : RuleV) : r.cells.length = 5 := rfl
theorem RuleV.one (r : RuleV) : ∀ u ∈ r.cells, u.oneCell' = true := by
  intro u hu
  simp only [RuleV.cells, List.mem_cons, List.not_mem_nil, or_false] at hu
  rcases hu with rfl | rfl | rfl | rfl | rfl <;> rfl
theorem RulesAt.sl {w : World} {B n : Nat} {A : Option Addr} {l : List RuleV} (h : RulesAt w B A n l) : SlAt RuleV.cells 5 w B A n l :=
  ⟨h.1, fun h0 => by
    obtain ⟨b, o, e, hb, hg⟩ := h.2.2 h0
    refine ⟨b, o, e, hb, fun k r hr j v hv => ?_⟩
    obtain ⟨q0, q1, q2, q3, q4⟩ := hg k r hr
    match j, hv with
    | 0, hv => cases hv; exact q0
    | 1, hv => cases hv; exact q1
    | 2, hv => cases hv; exact q2
    | 3, hv => cases hv; exact q3
    | 4, hv => cases hv; exact q4⟩
theorem SlAt.rules {w : World} {B n : Nat} {A : Option Addr} {l : List RuleV} (h : SlAt RuleV.cells 5 w B A n l) (hok : ∀ r ∈ l, r.ok) : RulesAt w B A n l :=
  ⟨h.1, hok, fun h0 => by
    obtain ⟨b, o, e, hb, hg⟩ := h.2 h0
    exact ⟨b, o, e, hb, fun k r hr => ⟨hg k r hr 0 _ rfl, hg k r hr 1 _ rfl, hg k r hr 2 _ rfl, hg k r hr 3 _ rfl, hg k r hr 4 _ rfl⟩⟩⟩
theorem flat_one {α : Type} {cells : α → List Value} (h1 : ∀ r, ∀ u ∈ cells r, u.oneCell' = true) (l : List α) : ∀ u ∈ l.flatMap cells, u.oneCell' = true := by
  intro u hu
  obtain ⟨r, _, hr⟩ := List.mem_flatMap.1 hu
  exact h1 r u hr
theorem Try.infoRule : (Try.prog.info? 55).map (fun i => (i.zero, i.size, i.bytes)) = some (some (.agg #[.bool false, .int .u16 0, .int .u16 0, .int .u8 0, .int .u8 0]), 5, 8) := by kernel_rfl
theorem cloneRule_walk (l : List RuleV) (A : Option Addr) (n c : Nat) (W : World) (hn : n ≤ 17592186044416) (hl : SlAt RuleV.cells 5 W W.heap.size A n l) :
    Calls Try.prog 19 #[.slice A n c] W fun e W' =>
      ∃ v, e = .returned v ∧ W'.ownsRow W.heap.size 55 5 v n (l.flatMap RuleV.cells) ∧ Below W.heap.size W W' := by
  obtain ⟨i0, hi0, hz0, hz1, hz2⟩ := info_parts Try.infoRule
  rcases A with _ | ad
  · have hn0 : n = 0 := by
      rcases Nat.eq_zero_or_pos n with h | h
      · exact h
      · obtain ⟨b, o, e, _⟩ := hl.2 h; cases e
    subst hn0
    have : l = [] := List.eq_nil_of_length_eq_zero hl.1
    subst this
    have heq := fun w => Lib.run_eql_slice_nil (P := Try.prog) w _ _ none 0 c 0 0 Try.underlying57
    go_enter Try.func19, Try.ntmps19
    go_wp2
    go_ret
    exact ⟨_, rfl, World.ownsRow_nil _ _ _ _, Below.refl _ _⟩
  · have HR := hide (hl.reads RuleV.len (by omega))
    clear hl
    have heq := fun w => Lib.run_eql_slice_nil (P := Try.prog) w _ _ (some ad) n c 0 0 Try.underlying57
    go_enter Try.func19, Try.ntmps19
    go_wp2_with (at_builtin; refine wpList_append_any _ rfl (.tmp 5) (.tmp 6) 57 rfl W.heap.size 55 i0 _ 5 8 Try.underlying57 hi0 hz0 hz1 hz2 rfl (by omega) (.slice (some ⟨W.heap.size, 0, none⟩) 0 0) 0 [] rfl (World.ownsRow_lit _ #[] 0 (Nat.le_refl _) (by decide) rfl) W.heap.size (some ad) n c _ rfl (HR.out.alloc (Nat.le_refl _) _) (flat_one RuleV.one l) (by simp only [maxLen]; omega) (by omega) (by simp) ?_; intro v1 w1 hown1 hg1 hat1)
    go_ret
    refine ⟨v1, rfl, by simpa using hown1, ((Below.refl _ _).alloc (Nat.le_refl _) _).grown hg1 (by simp) (fun k hk => ?_)⟩
    simp [Value.ownBlock] at hk
    omega
def inR (n lo hi : Int) : Bool := decide (lo ≤ n) && decide (n ≤ hi)
def rightB (p : P4) : Bool := inR p.src 0 15 && inR p.dst 0 15 && inR p.sport 0 7 && inR p.dport 0 7
theorem allRule_walk (b : Bool) (W : World) : Calls Try.prog 14 #[.bool b] W fun e W' =>
      e = .returned (.agg #[.bool b, .int .u16 65535, .int .u16 65535, .int .u8 255, .int .u8 255]) ∧ Below W.heap.size W W' := by
  go_enter Try.func14, Try.ntmps14
  go_wp2_with fail
  refine (all_walk _).mono ?_
  rintro e w1 ⟨rfl, hb1⟩
  obtain ⟨hc, hf⟩ := bcell hb1
  have hs := hb1.size
  simp only [World.size_alloc] at hs hc hf
  have HB := hide (((Below.refl _ W).alloc (Nat.le_refl _) _).trans (hb1.mono (by simp)))
  clear hb1
  go_wp2
  refine bodyPost_ret (v := .agg #[.bool b, .int .u16 65535, .int .u16 65535, .int .u8 255, .int .u8 255]) (by simp [results, Try.results14, go_sem, hc]) rfl ⟨rfl, ?_⟩
  exact ((((HB.out.setCell (Nat.le_refl _) _).setCell (Nat.le_refl _) _).setCell (Nat.le_refl _) _).setCell (Nat.le_refl _) _).setCell (Nat.le_refl _) _
open Go.Deep Go.Joins
section
variable {H : Type} {enc : TypeId × Value → H} {w : World} {base : Nat} {spare : Nat → Bool} {held : Bool} {r : Reach} {b0 : Nat}
theorem open_elems {α : Type} {P : Program} (cells : α → List Value) (ok : α → Prop) (s : Nat) {t e : TypeId} (ht : P.underlying t = some (.slice e)) (hC : P.cellsOf e = s) (hs : 0 < s) (hlen : ∀ r, (cells r).length = s)
    (helem : ∀ (n : Nat) (cs : List Value) (y : DataW H × List MemPlace), DataW.trod enc P w base spare held n e cs = some y → ∃ r, ok r ∧ cs = cells r)
    {v : Value} {d : DataW H} {p : List MemPlace} (hv : Value.okWide P w r b0 t v) (h : DataW.Trod enc P w base spare held t v d p) :
    ∃ (A : Option Addr) (n c : Nat) (l : List α), v = .slice A n c ∧ n ≤ c ∧ c ≤ maxLen ∧ SlAt cells s w w.heap.size A n l ∧ (∀ r ∈ l, ok r) ∧ (n = 0 ∨ ∃ elems sp, d = .slice elems sp ∧ elems.length = n) := by
  obtain ⟨a0, len0, cap0, rfl⟩ := okWide_slice ht hv
  obtain ⟨fuel, hf⟩ := h
  have hf' : DataW.trod enc P w base spare held fuel t [.slice a0 len0 cap0] = some (d, p) := hf
  rcases open_slice ht hf' with ⟨hcs, hx⟩ | ⟨a, len, cap, m, n, D, Pl, hcs, hb, hl, hm, hmm, hx, hi⟩
  · simp only [List.cons.injEq, Value.slice.injEq, and_true] at hcs
    obtain ⟨rfl, rfl, rfl⟩ := hcs
    exact ⟨none, 0, 0, [], rfl, Nat.le_refl _, Nat.zero_le _, ⟨rfl, fun h => absurd h (by omega)⟩, (fun r hr => by simp at hr), .inl rfl⟩
  · simp only [List.cons.injEq, Value.slice.injEq, and_true] at hcs
    obtain ⟨rfl, rfl, rfl⟩ := hcs
    have hlm : len0 ≤ m := by rw [hmm]; split <;> omega
    have hex : ∀ i : Fin len0, ∃ x, ok x ∧ ∀ j u, (cells x)[j]? = some u → w.cell? (a.add (i.val * s + j)) = some u := fun i => by
      obtain ⟨cs', hc, ht'⟩ := hi i.val (by omega)
      obtain ⟨x, hx1, rfl⟩ := helem n cs' _ ht'
      obtain ⟨_, hcl, hat⟩ := World.cells?_some hc
      refine ⟨x, hx1, fun j u hu => ?_⟩
      have hj := (List.getElem?_eq_some_iff.1 hu).1
      rw [hC] at hat
      have := hat j (by rw [← hlen x]; exact hj)
      rw [hu] at this
      rw [← Go.Deep.add_add]
      exact this
    let f : Fin len0 → α := fun i => Classical.choose (hex i)
    have hfs : ∀ i, ok (f i) ∧ ∀ j u, (cells (f i))[j]? = some u → w.cell? (a.add (i.val * s + j)) = some u := fun i => Classical.choose_spec (hex i)
    refine ⟨some a, len0, cap0, List.ofFn f, rfl, hl, hm, ⟨by simp, fun h0 => ?_⟩, ?_, .inr ?_⟩
    · have h1 := (hfs ⟨0, h0⟩).2 0 ((cells (f ⟨0, h0⟩))[0]'(by rw [hlen]; exact hs)) (List.getElem?_eq_getElem _)
      have ha : a = ⟨a.block, a.off, none⟩ := by
        have h2 : a.add (0 * s + 0) = a := by simp [Addr.add]
        rw [h2] at h1
        unfold World.cell? at h1
        split at h1
        · split at h1
          · cases h1
          · rename_i hsp
            cases a with | mk b o sp => cases sp <;> simp_all
        · cases h1
      have hblk : a.block < w.heap.size := by
        have := World.block_lt_of_cell? w _ h1
        simpa [Addr.add] using this
      refine ⟨a.block, a.off, by rw [← ha], hblk, fun k x hk j u hu => ?_⟩
      have hk' := (List.getElem?_eq_some_iff.1 hk).1
      simp only [List.length_ofFn] at hk'
      have hx' : x = f ⟨k, hk'⟩ := by
        rw [List.getElem?_ofFn] at hk
        simp only [hk', dif_pos, Option.some.injEq] at hk
        exact hk.symm
      subst hx'
      have := (hfs ⟨k, hk'⟩).2 j u hu
      rw [ha, addr_add] at this
      rw [Nat.add_assoc]
      exact this
    · intro x hx
      obtain ⟨i, rfl⟩ := List.mem_ofFn.1 hx
      exact (hfs i).1
    · simp only [Prod.mk.injEq] at hx
      exact ⟨_, _, hx.1, by simp⟩
theorem read_int {n : Nat} {cs : List Value} {y : DataW H × List MemPlace} (h : DataW.trod enc Try.prog w base spare held n 3 cs = some y) : ∃ k : Int, i64ok k ∧ cs = [.int .i64 k] := by
  obtain ⟨a, rfl, rfl, wa⟩ := DataW.trod_int Try.underlying3 h
  exact ⟨a, wf_i64ok wa, rfl⟩
theorem get_some {α : Type} {xs : List α} {i : Nat} (h : i < xs.length) : ∃ y, xs[i]? = some y := ⟨_, List.getElem?_eq_getElem h⟩
theorem read_match {n : Nat} {cs : List Value} {y : DataW H × List MemPlace} (h : DataW.trod enc Try.prog w base spare held n 53 cs = some y) :
    ∃ m : M4, m.ok ∧ cs = [.int .u16 m.src, .int .u16 m.dst, .int .u8 m.sport, .int .u8 m.dport] := by
  obtain ⟨xs, n', _, _, hlen, hxl, hf⟩ := DataW.trod_struct Try.underlying53 h
  rw [Try.cellsMatch] at hlen
  match cs, hlen with
  | [c0, c1, c2, c3], _ =>
    have h0 := hf 0 _ rfl
    have h1 := hf 1 _ rfl
    have h2 := hf 2 _ rfl
    have h3 := hf 3 _ rfl
    have z1 : Try.prog.cellsOf 51 = 1 := by kernel_rfl
    have z2 : Try.prog.cellsOf 5 = 1 := by kernel_rfl
    obtain ⟨y0, e0⟩ := get_some (xs := xs) (i := 0) (by rw [hxl]; decide)
    obtain ⟨y1, e1⟩ := get_some (xs := xs) (i := 1) (by rw [hxl]; decide)
    obtain ⟨y2, e2⟩ := get_some (xs := xs) (i := 2) (by rw [hxl]; decide)
    obtain ⟨y3, e3⟩ := get_some (xs := xs) (i := 3) (by rw [hxl]; decide)
    rw [e0] at h0
    rw [e1] at h1
    rw [e2] at h2
    rw [e3] at h3
    simp [z1, z2] at h0 h1 h2 h3
    obtain ⟨a, rfl, ha⟩ := trod_u16 h0
    obtain ⟨b, rfl, hb⟩ := trod_u16 h1
    obtain ⟨c, rfl, hc⟩ := trod_u8 h2
    obtain ⟨d, rfl, hd⟩ := trod_u8 h3
    exact ⟨⟨a, b, c, d⟩, ⟨ha, hb, hc, hd⟩, rfl⟩
theorem Try.cellsRule : Try.prog.cellsOf 55 = 5 := by kernel_rfl
theorem read_rule {n : Nat} {cs : List Value} {y : DataW H × List MemPlace} (h : DataW.trod enc Try.prog w base spare held n 55 cs = some y) : ∃ r : RuleV, r.ok ∧ cs = r.cells := by
  obtain ⟨xs, n', _, _, hlen, hxl, hf⟩ := DataW.trod_struct Try.underlying55 h
  rw [Try.cellsRule] at hlen
  match cs, hlen with
  | [c0, c1, c2, c3, c4], _ =>
    have h0 := hf 0 _ rfl
    have h1 := hf 1 _ rfl
    have z1 : Try.prog.cellsOf 4 = 1 := by kernel_rfl
    obtain ⟨y0, e0⟩ := get_some (xs := xs) (i := 0) (by rw [hxl]; decide)
    obtain ⟨y1, e1⟩ := get_some (xs := xs) (i := 1) (by rw [hxl]; decide)
    rw [e0] at h0
    rw [e1] at h1
    simp [z1, Try.cellsMatch] at h0 h1
    obtain ⟨b, hb, _⟩ := DataW.trod_bool Try.underlying4 h0
    obtain ⟨m, hm, hm2⟩ := read_match h1
    cases hb
    simp only [List.cons.injEq, and_true] at hm2
    obtain ⟨rfl, rfl, rfl, rfl⟩ := hm2
    exact ⟨⟨b, m⟩, hm, rfl⟩
end
end Go.Proofs.Ytifkacnoiocebaa
namespace Go.Proofs.Ytifkacnoiocebaa
open Go.RowKit
section
variable {α : Type} {cells : α → List Value} {s : Nat} {w w' : World} {B B' n : Nat} {A : Option Addr} {l : List α}
theorem SlAt.take (h : SlAt cells s w B A n l) {i : Nat} (hi : i ≤ n) : SlAt cells s w B A i (l.take i) :=
  ⟨by rw [List.length_take, h.1]; omega, fun h0 => by
    obtain ⟨b, o, e, hb, hg⟩ := h.2 (by omega)
    refine ⟨b, o, e, hb, fun k r hr j v hv => hg k r ?_ j v hv⟩
    have hk : k < i := by have := (List.getElem?_eq_some_iff.1 hr).1; simp at this; omega
    rwa [List.getElem?_take_of_lt hk] at hr⟩
end
open Go.ChangeAt Go.ChangeShapes Go.WideShapes
end Go.Proofs.Ytifkacnoiocebaa
