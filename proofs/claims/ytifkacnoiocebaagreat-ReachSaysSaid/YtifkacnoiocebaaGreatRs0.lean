/- A part of the proof: G1. -/
import Derived.Test.YtifkacnoiocebaaGreatRows
import Derived.ProofKit
import Derived.SizedLaws
import Derived.Laws.BitsAllLaws
import Derived.Laws.BitsLemmas
import Derived.WalkKit
import Derived.Outline
import Derived.BigQuiet
import Derived.Lib.Hide
import Derived.WalkLawsBesides
import Derived.Below
import Derived.Lib.SmallJoins
import Derived.OpenShut
import Derived.Laws.OwnMore
import Derived.Deep.AppendLies
import Derived.Deep.Draws
import Derived.Maps.AppendAt
import Derived.RegionTactic
import Derived.OwnWalk
import Derived.WalkSpells
import Derived.Deep.Slices
import Derived.Deep.Fields
import Derived.JoinedCond
set_option linter.unusedVariables false
set_option linter.unusedSimpArgs false
set_option maxRecDepth 100000
set_option maxHeartbeats 4000000
namespace Go.Proofs.YtifkacnoiocebaaGreat
theorem nrmA {α : Type} {l : List α} {i : Nat} {a : α} : l.toArray.setIfInBounds i a = (l.set i a).toArray := List.setIfInBounds_toArray _ _ _
theorem nrmB {α : Type} {x : α} {xs : List α} {a : α} : (x :: xs).set 0 a = a :: xs := List.set_cons_zero
theorem nrmC {α : Type} {x : α} {xs : List α} {n : Nat} {a : α} : (x :: xs).set (n + 1) a = x :: xs.set n a := List.set_cons_succ
open Go.ChangeAt Go.ChangeShapes Go.RowKit Go.WideShapes
theorem Tryz.own : ownKnob Tryz.prog.godebug = none := by kernel_rfl
theorem Tryz.laidOut : laidOutB Tryz.prog = true := by kernel_rfl
section
variable {H : Type} {enc : TypeId × Value → H} {P : Program}
theorem trodAll_below (hl : laidOutB P = true) {W W' : World} (hb : Below W.heap.size W W') : ∀ (ts : List TypeId) (vs : List Value) (ds : List (DataW H)) (ps : List MemPlace),
    (ts.all fun t => P.readableRec t && decide (t < P.types.size)) = true → DataW.TrodAll enc P W 0 (fun _ => true) true ts vs ds ps → (∀ x ∈ ps, x.block < W.heap.size) →
    DataW.TrodAll enc P W' 0 (fun b => decide (b < W.heap.size)) true ts vs ds ps := by
  intro ts
  induction ts with
  | nil => intro vs ds ps _ h _; cases vs <;> cases ds <;> first | exact h | exact h.elim
  | cons t ts ih =>
    intro vs ds ps hr h hlt
    match vs, ds, h with
    | v :: vs, d :: ds, h =>
      obtain ⟨p, q, h1, h2, rfl⟩ := h
      simp only [List.all_cons, Bool.and_eq_true, decide_eq_true_eq] at hr
      exact ⟨p, q, Below.trod hl hr.1.1 hr.1.2 h1 hb (fun x hx => hlt x (List.mem_append_left _ hx)), ih vs ds q (by simpa using hr.2) h2 (fun x hx => hlt x (List.mem_append_right _ hx)), rfl⟩
theorem trodAll_length {w : World} {base : Nat} {spare : Nat → Bool} {held : Bool} : ∀ (ts : List TypeId) (vs : List Value) (ds : List (DataW H)) (ps : List MemPlace), DataW.TrodAll enc P w base spare held ts vs ds ps → ds.length = ts.length := by
  intro ts
  induction ts with
  | nil => intro vs ds ps h; cases vs <;> cases ds <;> first | rfl | exact h.elim
  | cons t ts ih =>
    intro vs ds ps h
    match vs, ds, h with
    | v :: vs, d :: ds, h =>
      obtain ⟨p, q, h1, h2, rfl⟩ := h
      simp [ih vs ds q h2]
theorem law_post {fn : Func} {s : ChangeSpec} {W W' : World} {args : Array Value} {ds gs : List (DataW H)} {before : List MemPlace} {tb : TypeId} (hl : laidOutB P = true)
    (hread : (fn.params.toList.all fun t => P.readableRec t && decide (t < P.types.size)) = true) (hv : s.vars = []) (hr : fn.resultTypes = #[tb]) (hbool : P.underlying tb = some .bool)
    (hs : ∀ ds : List (DataW H), ds.length = fn.params.size → (s.fn H (ds ++ [])).results = [.lit (.bool true)] ∧ (s.fn H (ds ++ [])).args = ds ∧ (s.fn H (ds ++ [])).vars = [])
    (hW : DataW.Whole enc P fn.params.toList s.vars false W args.toList ds gs before) (hb : Below W.heap.size W W') :
    s.post enc P fn false true false false W args (.bool true) W' := by
  have hlt : ∀ p ∈ before, p.block < W.heap.size := fun p hp => hW.lt p hp
  have hW' := hW
  obtain ⟨p, q, hA, hV, rfl, hfz, hnd⟩ := hW
  have hgq : gs = [] ∧ q = [] := by
    rw [hv] at hV
    cases gs with
    | nil => exact ⟨rfl, hV⟩
    | cons => exact hV.elim
  obtain ⟨rfl, rfl⟩ := hgq
  have hlen : ds.length = fn.params.size := by rw [trodAll_length _ _ _ _ hA]; simp
  obtain ⟨e1, e2, e3⟩ := hs ds hlen
  refine ⟨ds, [], p ++ [], [], p, [], hW', ?_, ?_, ?_, World.keptBut_mono (fun p hp => ?_) (hb.frame (· ∈ p ++ [])), fun h => by cases h⟩
  · rw [e1, hr]
    exact trodAll_mk1 (shut_bool hbool _)
  · rw [e2]
    exact trodAll_below hl hb _ _ _ _ hread hA (fun x hx => hlt x (List.mem_append_left _ hx))
  · rw [e3, hv]
    rfl
  · exact ⟨hp, by simpa using hp⟩
end
theorem law_lifted {C : Checked} {os : Os} {f : FuncId} {fn : Func} {s : ChangeSpec} {H : Type} {enc : TypeId × Value → H} {tb : TypeId}
    (own : ownKnob C.prog.godebug = none) (started : os.Started) (noInit : C.prog.inits.idxOf? f = none) (hfn : C.prog.funcs[f]? = some fn)
    (hl : laidOutB C.prog = true) (hread : (fn.params.toList.all fun t => C.prog.readableRec t && decide (t < C.prog.types.size)) = true) (hv : s.vars = []) (hr : fn.resultTypes = #[tb]) (hbool : C.prog.underlying tb = some .bool)
    (hs : ∀ ds : List (DataW H), ds.length = fn.params.size → (s.fn H (ds ++ [])).results = [.lit (.bool true)] ∧ (s.fn H (ds ++ [])).args = ds ∧ (s.fn H (ds ++ [])).vars = [])
    (witness : ∃ (w : World) (tape : Tape) (i : Input), w.os = os ∧ (w.forCall tape i).Shaped C.prog ∧ i.vars = [] ∧ Input.okWide C.prog (w.forCall tape i) .any w.heap.size f i ∧
      s.pre6 enc C.prog fn [] false (w.forCall tape i).memory i.args ∧ ({} : Assume).holds C.prog (lone (Frame.enter C.prog f i.args .normal) [] (w.forCall tape i)))
    (walk : ∀ (W : World) (base : Nat) (args : Array Value) (ds : List (DataW H)) (p : List MemPlace),
      (∀ (j : Nat) t v, fn.params[j]? = some t → args[j]? = some v → Value.okWide C.prog W .any base t v) →
      DataW.TrodAll enc C.prog W 0 (fun _ => true) true fn.params.toList args.toList ds p → (∀ x ∈ p, x.block < W.heap.size) →
      (DataW.weightsEach C.prog (fn.params.toList ++ s.plain.varTypes C.prog) (ds ++ [])).all (· ≤ reachBytes) = true →
      Calls C.prog f args W fun e W' => e = .returned (.bool true) ∧ Below W.heap.size W W') :
    ReturnsInHanded {} C os f .any (s.pre6 enc C.prog fn [] false) (s.post enc C.prog fn false true false false) := by
  refine returnsInHanded_of_change_sized own started noInit hfn witness ?_
  intro W base args ds gs before hval hW _ hsz _
  have hlt : ∀ p ∈ before, p.block < W.heap.size := fun p hp => hW.lt p hp
  have hW' := hW
  obtain ⟨p, q, hA, hV, rfl, hfz, hnd⟩ := hW
  have hgq : gs = [] ∧ q = [] := by
    rw [hv] at hV
    cases gs with
    | nil => exact ⟨rfl, hV⟩
    | cons => exact hV.elim
  obtain ⟨rfl, rfl⟩ := hgq
  refine (walk W base args ds p hval hA (fun x hx => hlt x (List.mem_append_left _ hx)) hsz).mono fun e W' ⟨he, hb⟩ => ?_
  exact ⟨_, he, law_post hl hread hv hr hbool hs hW' hb⟩
end Go.Proofs.YtifkacnoiocebaaGreat
namespace Go.Proofs.YtifkacnoiocebaaGreat
open Go.RowKit
theorem ofInt_nat (n a : Nat) (ha : a < 2 ^ n) : (BitVec.ofInt n (a : Int)).toNat = a := by
  rw [BitVec.ofInt_natCast, BitVec.toNat_ofNat]; exact Nat.mod_eq_of_lt ha
theorem u16_and (a b : Nat) (ha : a < 65536) (hb : b < 65536) : bits .and .u16 (a : Int) (b : Int) = ((a &&& b : Nat) : Int) := by
  have hx : a &&& b < 2 ^ 16 := Nat.and_lt_two_pow _ (by omega)
  show IntKind.u16.wrap ((BitVec.ofInt 16 (a : Int) &&& BitVec.ofInt 16 (b : Int)).toNat : Int) = _
  rw [BitVec.toNat_and, ofInt_nat 16 a ha, ofInt_nat 16 b hb]
  simp only [IntKind.wrap, IntKind.signed, IntKind.bits]
  simp
  omega
theorem i64_and (a b : Nat) (ha : a < 9223372036854775808) (hb : b < 9223372036854775808) : bits .and .i64 (a : Int) (b : Int) = ((a &&& b : Nat) : Int) := by
  have hx : a &&& b < 2 ^ 63 := Nat.and_lt_two_pow _ (by omega)
  show IntKind.i64.wrap ((BitVec.ofInt 64 (a : Int) &&& BitVec.ofInt 64 (b : Int)).toNat : Int) = _
  rw [BitVec.toNat_and, ofInt_nat 64 a (by omega), ofInt_nat 64 b (by omega), IntKind.wrap_i64]
  omega
theorem u16_or (a b : Nat) (ha : a < 65536) (hb : b < 65536) : bits .or .u16 (a : Int) (b : Int) = ((a ||| b : Nat) : Int) := by
  have hx : a ||| b < 2 ^ 16 := Nat.or_lt_two_pow (by omega) (by omega)
  show IntKind.u16.wrap ((BitVec.ofInt 16 (a : Int) ||| BitVec.ofInt 16 (b : Int)).toNat : Int) = _
  rw [BitVec.toNat_or, ofInt_nat 16 a ha, ofInt_nat 16 b hb]
  simp only [IntKind.wrap, IntKind.signed, IntKind.bits]
  simp
  omega
theorem i64_or (a b : Nat) (ha : a < 9223372036854775808) (hb : b < 9223372036854775808) : bits .or .i64 (a : Int) (b : Int) = ((a ||| b : Nat) : Int) := by
  have hx : a ||| b < 2 ^ 63 := Nat.or_lt_two_pow (by omega) (by omega)
  show IntKind.i64.wrap ((BitVec.ofInt 64 (a : Int) ||| BitVec.ofInt 64 (b : Int)).toNat : Int) = _
  rw [BitVec.toNat_or, ofInt_nat 64 a (by omega), ofInt_nat 64 b (by omega), IntKind.wrap_i64]
  omega
theorem testBit_div (s k : Nat) : (s / 2 ^ k &&& 1 == 1) = s.testBit k := by
  rw [Nat.testBit_eq_decide_div_mod_eq, Nat.and_one_is_mod]
  by_cases h : s / 2 ^ k % 2 = 1 <;> simp [h]
theorem div_pow_cast (s k : Nat) : ((s : Int) / 2 ^ k) = ((s / 2 ^ k : Nat) : Int) := by
  rw [Int.natCast_ediv]; simp
theorem bit_u16 (s k : Nat) (hs : s < 65536) : (bits .and .u16 ((s : Int) / 2 ^ k) 1 == 1) = s.testBit k := by
  have h1 : s / 2 ^ k < 65536 := Nat.lt_of_le_of_lt (Nat.div_le_self _ _) hs
  have := u16_and (s / 2 ^ k) 1 h1 (by omega)
  rw [div_pow_cast, show (1 : Int) = ((1 : Nat) : Int) from rfl, this, ← testBit_div]
  by_cases h : s / 2 ^ k &&& 1 = 1
  · simp [h]
  · rw [Bool.eq_iff_iff]
    simp only [beq_iff_eq]
    omega
theorem bit_i64 (s k : Nat) (hs : s < 9223372036854775808) : (bits .and .i64 ((s : Int) / 2 ^ k) 1 == 1) = s.testBit k := by
  have h1 : s / 2 ^ k < 9223372036854775808 := Nat.lt_of_le_of_lt (Nat.div_le_self _ _) hs
  have := i64_and (s / 2 ^ k) 1 h1 (by omega)
  rw [div_pow_cast, show (1 : Int) = ((1 : Nat) : Int) from rfl, this, ← testBit_div]
  by_cases h : s / 2 ^ k &&& 1 = 1
  · simp [h]
  · rw [Bool.eq_iff_iff]
    simp only [beq_iff_eq]
    omega
open Go.ChangeAt Go.ChangeShapes Go.WideShapes
def hasB (s : Nat) (n : Int) : Bool := decide (0 ≤ n) && decide (n < 16) && s.testBit n.toNat
theorem in1_any (s : Nat) (hs : s < 65536) (n : Int) (W : World) (h1 : -9223372036854775808 ≤ n) (h2 : n ≤ 9223372036854775807) :
    Calls Tryz.prog 74 #[.int .u16 s, .int .i64 n] W fun e W' => e = .returned (.bool (hasB s n)) ∧ W = W' := by
  by_cases h0 : 0 ≤ n
  · by_cases h16 : n < 16
    · go_enter Tryz.func74, Tryz.ntmps74
      go_wp2
      go_ret
      exact ⟨by rw [bit_u16 s n.toNat hs]; simp [hasB, h0, h16], rfl⟩
    · have e16 : decide (n < 16) = false := by simpa using h16
      go_enter Tryz.func74, Tryz.ntmps74
      go_wp2
      go_ret
      exact ⟨by simp [hasB, e16], rfl⟩
  · have e0 : decide (0 ≤ n) = false := by simpa using h0
    go_enter Tryz.func74, Tryz.ntmps74
    go_wp2
    go_ret
    exact ⟨by simp [hasB, e0], rfl⟩
structure M4 where
  src : Nat
  dst : Nat
  sport : Nat
  dport : Nat
structure P4 where
  src : Int
  dst : Int
  sport : Int
  dport : Int
def M4.ok (m : M4) : Prop := m.src < 65536 ∧ m.dst < 65536 ∧ m.sport < 256 ∧ m.dport < 256
def i64ok (n : Int) : Prop := -9223372036854775808 ≤ n ∧ n ≤ 9223372036854775807
def P4.ok (p : P4) : Prop := i64ok p.src ∧ i64ok p.dst ∧ i64ok p.sport ∧ i64ok p.dport
def M4.val (m : M4) : Value := .agg #[.int .u16 m.src, .int .u16 m.dst, .int .u8 m.sport, .int .u8 m.dport]
def inB (m : M4) (p : P4) : Bool := hasB m.src p.src && hasB m.dst p.dst && hasB m.sport p.sport && hasB m.dport p.dport
theorem in_walk (a b c d : Nat) (x y z u : Int) (W : World) (ha : a < 65536) (hb : b < 65536) (hc : c < 256) (hd : d < 256) (hx : i64ok x) (hy : i64ok y) (hz : i64ok z) (hu : i64ok u) :
    Calls Tryz.prog 39 #[.agg #[.int .u16 a, .int .u16 b, .int .u8 c, .int .u8 d], .agg #[.int .i64 x, .int .i64 y, .int .i64 z, .int .i64 u]] W fun e W' =>
      e = .returned (.bool (hasB a x && hasB b y && hasB c z && hasB d u)) ∧ Below W.heap.size W W' := by
  obtain ⟨x1, x2⟩ := hx
  obtain ⟨y1, y2⟩ := hy
  obtain ⟨z1, z2⟩ := hz
  obtain ⟨u1, u2⟩ := hu
  cases e1 : hasB a x
  · go_enter Tryz.func39, Tryz.ntmps39
    go_wp2_with (go_at_call 74; refine (in1_any _ ?_ _ _ ?_ ?_).mono ?_ <;> (try omega); rintro e w' ⟨rfl, rfl⟩)
    go_ret
    exact ⟨by simp, ((Below.refl _ _).alloc (Nat.le_refl _) _).alloc (by simp) _⟩
  cases e2 : hasB b y
  · go_enter Tryz.func39, Tryz.ntmps39
    go_wp2_with (go_at_call 74; refine (in1_any _ ?_ _ _ ?_ ?_).mono ?_ <;> (try omega); rintro e w' ⟨rfl, rfl⟩)
    go_ret
    exact ⟨by simp, ((Below.refl _ _).alloc (Nat.le_refl _) _).alloc (by simp) _⟩
  cases e3 : hasB c z
  · go_enter Tryz.func39, Tryz.ntmps39
    go_wp2_with (go_at_call 74; refine (in1_any _ ?_ _ _ ?_ ?_).mono ?_ <;> (try omega); rintro e w' ⟨rfl, rfl⟩)
    go_ret
    exact ⟨by simp, ((Below.refl _ _).alloc (Nat.le_refl _) _).alloc (by simp) _⟩
  cases e4 : hasB d u
  · go_enter Tryz.func39, Tryz.ntmps39
    go_wp2_with (go_at_call 74; refine (in1_any _ ?_ _ _ ?_ ?_).mono ?_ <;> (try omega); rintro e w' ⟨rfl, rfl⟩)
    go_ret
    exact ⟨by simp, ((Below.refl _ _).alloc (Nat.le_refl _) _).alloc (by simp) _⟩
  · go_enter Tryz.func39, Tryz.ntmps39
    go_wp2_with (go_at_call 74; refine (in1_any _ ?_ _ _ ?_ ?_).mono ?_ <;> (try omega); rintro e w' ⟨rfl, rfl⟩)
    go_ret
    exact ⟨by simp, ((Below.refl _ _).alloc (Nat.le_refl _) _).alloc (by simp) _⟩
end Go.Proofs.YtifkacnoiocebaaGreat
namespace Go.Proofs.YtifkacnoiocebaaGreat
open Go.RowKit
theorem wp_region_fam {P : Program} {T : Type} (g : T → World) {id : Nat} {Q : Exit → Act → World → Prop} {a : Act} {w : World} {l : List Oper} (hm : P.follows .mixedOrders = true) (hB : Region.lexB .any l.toArray = true)
    (h0 : ∃ t, { w with drawn := w.drawn + 1 } = g t) (h : wpQuiet P l.toArray (fun w' => ∃ t, w' = g t) (fun a' => ∀ w', (∃ t, w' = g t) → Q .normal a' w') l a) : (Code.region id l.toArray true).wp P Q a w :=
  wp_region_quiet (C := fun w' => ∃ t, w' = g t) hm hB h0 (by simpa using h)
theorem wp_region_abs {P : Program} {id : Nat} {Q : Exit → Act → World → Prop} {a : Act} {w : World} {l : List Oper} (hm : P.follows .mixedOrders = true) (hB : Region.lexB .any l.toArray = true)
    (h : ∀ (T : Type) [Nonempty T] (g : T → World), (∀ t, Below w.heap.size w (g t)) → (∀ w', Below w.heap.size w w' → ∃ t, w' = g t) →
      wpQuiet P l.toArray (fun w' => ∃ t, w' = g t) (fun a' => ∀ w', (∃ t, w' = g t) → Q .normal a' w') l a) : (Code.region id l.toArray true).wp P Q a w :=
  wp_region_fam (T := { w' : World // Below w.heap.size w w' }) Subtype.val hm hB ⟨⟨w.drew, (Below.refl _ _).drew⟩, rfl⟩ (@h { w' : World // Below w.heap.size w w' } ⟨⟨w, Below.refl _ _⟩⟩ Subtype.val Subtype.property (fun w' hw => ⟨⟨w', hw⟩, rfl⟩))
theorem inAbs {P : Program} {f : FuncId} {args : Array Value} {W : World} {T : Type} {g : T → World} (hg : ∀ t, Below W.heap.size W (g t)) (hgi : ∀ w', Below W.heap.size W w' → ∃ t, w' = g t) {t : T} {v : Value}
    (h : Calls P f args (g t) fun e w' => e = .returned v ∧ Below (g t).heap.size (g t) w') : Calls P f args (g t) fun e w'' => e = .returned v ∧ ∃ s, w'' = g s :=
  h.mono fun _ w' ⟨he, hw⟩ => ⟨he, hgi w' ((hg t).trans (hw.mono (hg t).size))⟩
theorem inAbsSame {P : Program} {f : FuncId} {args : Array Value} {T : Type} {g : T → World} {t : T} {v : Value} (h : Calls P f args (g t) fun e w' => e = .returned v ∧ g t = w') :
    Calls P f args (g t) fun e w'' => e = .returned v ∧ ∃ s, w'' = g s :=
  h.mono fun _ w' ⟨he, hw⟩ => ⟨he, ⟨t, hw.symm⟩⟩
theorem hide {p : Prop} (h : p) : Hid p := h
open Go.ChangeAt Go.ChangeShapes Go.Joins Go.WideShapes
theorem Tryz.cellsMatch : Tryz.prog.cellsOf 32 = 4 := by kernel_rfl
theorem Tryz.cellsPacket : Tryz.prog.cellsOf 29 = 4 := by kernel_rfl
section
variable {H : Type} {enc : TypeId × Value → H} {w : World} {base : Nat} {spare : Nat → Bool} {held : Bool} {r : Reach} {b0 : Nat}
theorem wf_nat_u16 {k : Int} (h : (Lit.int .u16 k).wf = true) : ∃ n : Nat, k = n ∧ n < 65536 := by
  have hx : 0 ≤ k ∧ k ≤ 65535 := by simpa [Lit.wf, IntKind.min, IntKind.max, IntKind.signed, IntKind.bits] using h
  exact ⟨k.toNat, by omega, by omega⟩
theorem wf_nat_u8 {k : Int} (h : (Lit.int .u8 k).wf = true) : ∃ n : Nat, k = n ∧ n < 256 := by
  have hx : 0 ≤ k ∧ k ≤ 255 := by simpa [Lit.wf, IntKind.min, IntKind.max, IntKind.signed, IntKind.bits] using h
  exact ⟨k.toNat, by omega, by omega⟩
theorem wf_i64ok {k : Int} (h : (Lit.int .i64 k).wf = true) : i64ok k := by
  have hx : -9223372036854775808 ≤ k ∧ k ≤ 9223372036854775807 := by simpa [Lit.wf, IntKind.min, IntKind.max, IntKind.signed, IntKind.bits] using h
  exact hx
theorem trod_u16 {n : Nat} {v : Value} {y : DataW H × List MemPlace} (h : DataW.trod enc Tryz.prog w base spare held n 30 [v] = some y) : ∃ k : Nat, v = .int .u16 k ∧ k < 65536 := by
  obtain ⟨a, e0, rfl, wa⟩ := DataW.trod_int Tryz.underlying30 h
  obtain ⟨k, rfl, hk⟩ := wf_nat_u16 wa
  exact ⟨k, by simpa using e0, hk⟩
theorem trod_u8 {n : Nat} {v : Value} {y : DataW H × List MemPlace} (h : DataW.trod enc Tryz.prog w base spare held n 5 [v] = some y) : ∃ k : Nat, v = .int .u8 k ∧ k < 256 := by
  obtain ⟨a, e0, rfl, wa⟩ := DataW.trod_int Tryz.underlying5 h
  obtain ⟨k, rfl, hk⟩ := wf_nat_u8 wa
  exact ⟨k, by simpa using e0, hk⟩
theorem trod_i64 {n : Nat} {v : Value} {y : DataW H × List MemPlace} (h : DataW.trod enc Tryz.prog w base spare held n 3 [v] = some y) : ∃ k : Int, v = .int .i64 k ∧ i64ok k := by
  obtain ⟨a, e0, rfl, wa⟩ := DataW.trod_int Tryz.underlying3 h
  exact ⟨a, by simpa using e0, wf_i64ok wa⟩
theorem open_match {v : Value} {d : DataW H} {p : List MemPlace} (hv : Value.okWide Tryz.prog w r b0 32 v) (h : DataW.Trod enc Tryz.prog w base spare held 32 v d p) :
    ∃ a b c d : Nat, v = .agg #[.int .u16 a, .int .u16 b, .int .u8 c, .int .u8 d] ∧ a < 65536 ∧ b < 65536 ∧ c < 256 ∧ d < 256 := by
  obtain ⟨c0, c1, c2, c3, y0, y1, y2, y3, m, rfl, rfl, rfl, h0, h1, h2, h3⟩ := open_agg4 Tryz.underlying32 (by kernel_rfl) Tryz.cellsMatch hv h
  obtain ⟨a, rfl, ha⟩ := trod_u16 h0
  obtain ⟨b, rfl, hb⟩ := trod_u16 h1
  obtain ⟨c, rfl, hc⟩ := trod_u8 h2
  obtain ⟨d, rfl, hd⟩ := trod_u8 h3
  exact ⟨a, b, c, d, rfl, ha, hb, hc, hd⟩
theorem open_packet {v : Value} {d : DataW H} {p : List MemPlace} (hv : Value.okWide Tryz.prog w r b0 29 v) (h : DataW.Trod enc Tryz.prog w base spare held 29 v d p) :
    ∃ x y z u : Int, v = .agg #[.int .i64 x, .int .i64 y, .int .i64 z, .int .i64 u] ∧ i64ok x ∧ i64ok y ∧ i64ok z ∧ i64ok u := by
  obtain ⟨c0, c1, c2, c3, y0, y1, y2, y3, m, rfl, rfl, rfl, h0, h1, h2, h3⟩ := open_agg4 Tryz.underlying29 (by kernel_rfl) Tryz.cellsPacket hv h
  obtain ⟨a, rfl, ha⟩ := trod_i64 h0
  obtain ⟨b, rfl, hb⟩ := trod_i64 h1
  obtain ⟨c, rfl, hc⟩ := trod_i64 h2
  obtain ⟨d, rfl, hd⟩ := trod_i64 h3
  exact ⟨a, b, c, d, rfl, ha, hb, hc, hd⟩
end
theorem args_nil {H : Type} {enc : TypeId × Value → H} {P : Program} {w : World} {base : Nat} {sp : Nat → Bool} {hd : Bool} {vs : List Value} {ds : List (DataW H)} {p : List MemPlace} (h : DataW.TrodAll enc P w base sp hd [] vs ds p) : vs = [] ∧ ds = [] ∧ p = [] := by
  cases vs <;> cases ds <;> first | exact ⟨rfl, rfl, h⟩ | exact h.elim
theorem args_cons {H : Type} {enc : TypeId × Value → H} {P : Program} {w : World} {base : Nat} {sp : Nat → Bool} {hd : Bool} {t : TypeId} {ts : List TypeId} {vs : List Value} {ds : List (DataW H)} {p : List MemPlace} (h : DataW.TrodAll enc P w base sp hd (t :: ts) vs ds p) :
    ∃ v vs' d ds' p0 q, vs = v :: vs' ∧ ds = d :: ds' ∧ p = p0 ++ q ∧ DataW.Trod enc P w base sp hd t v d p0 ∧ DataW.TrodAll enc P w base sp hd ts vs' ds' q := by
  match vs, ds, h with
  | v :: vs, d :: ds, h =>
    obtain ⟨p0, q, h1, h2, rfl⟩ := h
    exact ⟨v, vs, d, ds, p0, q, rfl, rfl, rfl, h1, h2⟩
theorem arr_eq {a b : Array Value} (h : a.toList = b.toList) : a = b := by cases a; cases b; simp_all
end Go.Proofs.YtifkacnoiocebaaGreat
namespace Go.Proofs.YtifkacnoiocebaaGreat
open Go.ChangeAt Go.ChangeShapes Go.RowKit Go.WideShapes
theorem all_walk (W : World) : Calls Tryz.prog 89 #[] W fun e W' =>
      e = .returned (.agg #[.int .u16 65535, .int .u16 65535, .int .u8 255, .int .u8 255]) ∧ Below W.heap.size W W' := by
  go_enter Tryz.func89, Tryz.ntmps89
  go_wp2
  exact bodyPost_ret (v := .agg #[.int .u16 65535, .int .u16 65535, .int .u8 255, .int .u8 255]) (by simp [results, Tryz.results89, go_sem]) rfl ⟨rfl, ((Below.refl _ _).alloc (Nat.le_refl _) _)⟩
structure RuleV where
  permit : Bool
  m : M4
def RuleV.ok (r : RuleV) : Prop := r.m.ok
def RuleV.cells (r : RuleV) : List Value := [.bool r.permit, .int .u16 r.m.src, .int .u16 r.m.dst, .int .u8 r.m.sport, .int .u8 r.m.dport]
def RuleAt (w : World) (b o : Nat) (r : RuleV) : Prop :=
  w.cell? ⟨b, o, none⟩ = some (.bool r.permit) ∧ w.cell? ⟨b, o + 1, none⟩ = some (.int .u16 r.m.src) ∧ w.cell? ⟨b, o + 2, none⟩ = some (.int .u16 r.m.dst) ∧
    w.cell? ⟨b, o + 3, none⟩ = some (.int .u8 r.m.sport) ∧ w.cell? ⟨b, o + 4, none⟩ = some (.int .u8 r.m.dport)
theorem RuleAt.below {w w' : World} {B b o : Nat} {r : RuleV} (h : RuleAt w b o r) (hB : Below B w w') (hb : b < B) : RuleAt w' b o r := by
  unfold RuleAt at *
  have e : ∀ o, w'.cell? ⟨b, o, none⟩ = w.cell? ⟨b, o, none⟩ := fun o => hB.cell (p := ⟨b, o, none⟩) hb
  rw [e, e, e, e, e]
  exact h
def RulesAt (w : World) (B : Nat) (A : Option Addr) (n : Nat) (l : List RuleV) : Prop :=
  l.length = n ∧ (∀ r ∈ l, r.ok) ∧ (0 < n → ∃ b o, A = some ⟨b, o, none⟩ ∧ b < B ∧ ∀ (k : Nat) (r : RuleV), l[k]? = some r → RuleAt w b (o + k * 5) r)
theorem RulesAt.get {w : World} {B b o n : Nat} {l : List RuleV} (h : RulesAt w B (some ⟨b, o, none⟩) n l) {k : Nat} {r : RuleV} (hr : l[k]? = some r) : b < B ∧ RuleAt w b (o + k * 5) r := by
  have hk : k < n := by
    have := (List.getElem?_eq_some_iff.1 hr).1
    have := h.1
    omega
  obtain ⟨b', o', e, hb, hg⟩ := h.2.2 (by omega)
  cases e
  exact ⟨hb, hg k r hr⟩
theorem RulesAt.below {w w' : World} {B B' n : Nat} {A : Option Addr} {l : List RuleV} (h : RulesAt w B A n l) (hB : Below B w w') (hB' : B ≤ B') : RulesAt w' B' A n l :=
  ⟨h.1, h.2.1, fun h0 => by
    obtain ⟨b, o, e, hb, hg⟩ := h.2.2 h0
    exact ⟨b, o, e, by omega, fun k r hr => (hg k r hr).below hB hb⟩⟩
theorem RulesAt.okAt {w : World} {B n : Nat} {A : Option Addr} {l : List RuleV} (h : RulesAt w B A n l) {k : Nat} {r : RuleV} (hr : l[k]? = some r) : r.ok := h.2.1 r (List.mem_of_getElem? hr)
def idxF {α : Type} (p : α → Bool) (l : List α) : Int := match l.findIdx? p with | some k => (k : Int) | none => -1
theorem idxF_found {α : Type} {p : α → Bool} {l : List α} {k : Nat} {r : α} (hr : l[k]? = some r) (hp : p r = true) (hno : ∀ j r, j < k → l[j]? = some r → p r = false) : idxF p l = k := by
  have hk := (List.getElem?_eq_some_iff.1 hr).1
  have : l.findIdx? p = some k := by
    rw [List.findIdx?_eq_some_iff_getElem]
    refine ⟨hk, ?_, fun j hj => ?_⟩
    · have := (List.getElem?_eq_some_iff.1 hr).2; rw [this]; exact hp
    · have := hno j _ hj (List.getElem?_eq_getElem (by omega)); simp [this]
  simp [idxF, this]
theorem idxF_none {α : Type} {p : α → Bool} {l : List α} (hno : ∀ j r, j < l.length → l[j]? = some r → p r = false) : idxF p l = -1 := by
  have : l.findIdx? p = none := by
    rw [List.findIdx?_eq_none_iff]
    intro x hx
    obtain ⟨j, hj⟩ := List.getElem?_of_mem hx
    exact hno j x (List.getElem?_eq_some_iff.1 hj).1 hj
  simp [idxF, this]
theorem ret_i64 {a b : Int} (h : a = b) : Ending.returned (.int .i64 a) = .returned (.int .i64 b) := by rw [h]
def PackAt (w : World) (b : Nat) (p : P4) : Prop :=
  w.cell? ⟨b, 0, none⟩ = some (.int .i64 p.src) ∧ w.cell? ⟨b, 1, none⟩ = some (.int .i64 p.dst) ∧ w.cell? ⟨b, 2, none⟩ = some (.int .i64 p.sport) ∧ w.cell? ⟨b, 3, none⟩ = some (.int .i64 p.dport)
theorem PackAt.below {w w' : World} {B b : Nat} {p : P4} (h : PackAt w b p) (hB : Below B w w') (hb : b < B) : PackAt w' b p := by
  unfold PackAt at *
  have e : ∀ o, w'.cell? ⟨b, o, none⟩ = w.cell? ⟨b, o, none⟩ := fun o => hB.cell (p := ⟨b, o, none⟩) hb
  rw [e, e, e, e]
  exact h
theorem in_ofNat (m : M4) (p : P4) (w : World) (hm : m.ok) (hp : p.ok) :
    Calls Tryz.prog 39 #[.agg #[.int .u16 m.src, .int .u16 m.dst, .int .u8 m.sport, .int .u8 m.dport], .agg #[.int .i64 p.src, .int .i64 p.dst, .int .i64 p.sport, .int .i64 p.dport]] w fun e W' =>
      e = .returned (.bool (inB m p)) ∧ Below w.heap.size w W' := in_walk m.src m.dst m.sport m.dport p.src p.dst p.sport p.dport w hm.1 hm.2.1 hm.2.2.1 hm.2.2.2 hp.1 hp.2.1 hp.2.2.1 hp.2.2.2
def letsB (l : List RuleV) (p : P4) : Bool := ((l.find? fun r => inB r.m p).map (·.permit)).getD false
theorem lets_found {l : List RuleV} {p : P4} {k : Nat} {r : RuleV} (hr : l[k]? = some r) (hp : inB r.m p = true) (hno : ∀ j r, j < k → l[j]? = some r → inB r.m p = false) : letsB l p = r.permit := by
  have : l.find? (fun r => inB r.m p) = some r := by
    rw [List.find?_eq_some_iff_getElem]
    have hk := (List.getElem?_eq_some_iff.1 hr)
    obtain ⟨hk1, hk2⟩ := hk
    refine ⟨hp, k, hk1, hk2, fun j hj => ?_⟩
    have hjl : j < l.length := by omega
    have := hno j _ hj (List.getElem?_eq_getElem hjl)
    simp [this]
  simp [letsB, this]
theorem lets_none {l : List RuleV} {p : P4} (hno : ∀ r ∈ l, inB r.m p = false) : letsB l p = false := by
  have : l.find? (fun r => inB r.m p) = none := by
    rw [List.find?_eq_none]
    intro r hr
    simp [hno r hr]
  simp [letsB, this]
theorem idxF_cases {α : Type} (p : α → Bool) (l : List α) : (∃ (k : Nat) (r : α), idxF p l = k ∧ k < l.length ∧ l[k]? = some r ∧ p r = true ∧ ∀ j r, j < k → l[j]? = some r → p r = false) ∨ (idxF p l = -1 ∧ ∀ r ∈ l, p r = false) := by
  cases h : l.findIdx? p with
  | none => exact .inr ⟨by simp [idxF, h], fun r hr => by simpa using (List.findIdx?_eq_none_iff.1 h) r hr⟩
  | some k =>
    obtain ⟨hk, h1, h2⟩ := List.findIdx?_eq_some_iff_getElem.1 h
    refine .inl ⟨k, l[k], by simp [idxF, h], hk, List.getElem?_eq_getElem hk, h1, fun j r hj hr => ?_⟩
    have := h2 j hj
    rw [List.getElem?_eq_getElem (by omega)] at hr
    cases hr
    simpa using this
end Go.Proofs.YtifkacnoiocebaaGreat
namespace Go.Proofs.YtifkacnoiocebaaGreat
open Go.RowKit
def Reads (w : World) (B size : Nat) (A : Option Addr) (n : Nat) (xs : List Value) : Prop :=
  xs.length = n * size ∧ (0 < n → ∃ ad, A = some ad ∧ ad.block < B ∧ ∀ j u, xs[j]? = some u → w.cell? (ad.add j) = some u)
section
variable {w w' : World} {B B' size n : Nat} {A : Option Addr} {xs : List Value}
end
section
variable {P : Program} (w : World)
theorem run_append_of_nil (base : Nat) (t ty e : TypeId) (i : TypeInfo) (size : Nat) (ht : P.underlying t = some (.slice e)) (hi : P.info? e = some i)
    (v : Value) (n : Nat) (xs : List Value) (hown : w.ownsRow base e size v n xs) (c : Nat) : (Builtin.append_ #[t, t] ty #[v, .slice none 0 c]).run P w = .ok v w := by
  rcases hown.2 with ⟨rfl, rfl⟩ | ⟨g, cap, cur, rfl, _, _, hnc, _⟩
  · simp [Builtin.append_, run_underlying ht, sizeOf, typeInfo, hi, Builtin.lenOf, Builtin.firstCells]
  · simp [Builtin.append_, run_underlying ht, sizeOf, typeInfo, hi, Builtin.lenOf, Builtin.firstCells, hnc, storeCells]
theorem run_append_any (base : Nat) (t ty e : TypeId) (i : TypeInfo) (z : Value) (size bytes : Nat) (ht : P.underlying t = some (.slice e)) (hi : P.info? e = some i) (hz : i.zero = some z)
    (hsize : i.size = size) (hby : i.bytes = bytes) (hzs : z.cells.size = size) (hsz : 0 < size)
    (v : Value) (n : Nat) (xs : List Value) (hown : w.ownsRow base e size v n xs)
    (B : Nat) (A : Option Addr) (m c : Nat) (news : List Value) (hr : Reads w B size A m news) (h1 : ∀ u ∈ news, u.oneCell' = true)
    (h63 : n + m ≤ maxLen) (hbytes : (n + m) * bytes ≤ 140737488355328) (hbase : base ≤ w.heap.size) :
    ∃ v' w', (Builtin.append_ #[t, t] ty #[v, .slice A m c]).run P w = .ok v' w' ∧ w'.ownsRow base e size v' (n + m) (xs ++ news) ∧ w.grownBy w' v.ownBlock ∧
      (v'.ownBlock = v.ownBlock ∨ v'.ownBlock = some w.heap.size) := by
  rcases A with _ | ad
  · have hm : m = 0 := by
      rcases Nat.eq_zero_or_pos m with h0 | h0
      · exact h0
      · obtain ⟨ad, h, _⟩ := hr.2 h0
        cases h
    subst hm
    have hn : news = [] := List.eq_nil_of_length_eq_zero (by simpa using hr.1)
    subst hn
    exact ⟨v, w, run_append_of_nil w base t ty e i size ht hi v n xs hown c, by simpa using hown, World.grownBy.refl w _, .inl rfl⟩
  · have hcells : ∀ j u, news[j]? = some u → w.cell? (ad.add j) = some u := by
      intro j u hu
      rcases Nat.eq_zero_or_pos m with h0 | h0
      · subst h0
        have hn : news = [] := List.eq_nil_of_length_eq_zero (by simpa using hr.1)
        subst hn
        simp at hu
      · obtain ⟨ad', h, _, hc⟩ := hr.2 h0
        injection h with h
        subst h
        exact hc j u hu
    obtain ⟨v', w', hrun, h2, h3, _, h5⟩ := run_append_own_at (P := P) w base t ty e i z size bytes ht hi hz hsize hby hzs hsz v n xs hown ad m c news hr.1 hcells h1 h63 hbytes hbase
    exact ⟨v', w', hrun, h2, h3, h5⟩
theorem wp_append_any {o : Oper} {a : Act} {K : Act → World → Prop} {Q : Exit → Act → World → Prop} (s x : Operand) (t : TypeId)
    (ho : o.op = .call { callee := .builtin .append, args := #[s, x], argTypes := #[t, t] })
    (base : Nat) (e : TypeId) (i : TypeInfo) (z : Value) (size bytes : Nat) (ht : P.underlying t = some (.slice e)) (hi : P.info? e = some i) (hz : i.zero = some z)
    (hsize : i.size = size) (hby : i.bytes = bytes) (hzs : z.cells.size = size) (hsz : 0 < size)
    (v : Value) (n : Nat) (xs : List Value) (hs : a.eval s = v) (hown : w.ownsRow base e size v n xs)
    (B : Nat) (A : Option Addr) (m c : Nat) (news : List Value) (hx : a.eval x = .slice A m c) (hr : Reads w B size A m news) (h1 : ∀ u ∈ news, u.oneCell' = true)
    (h63 : n + m ≤ maxLen) (hbytes : (n + m) * bytes ≤ 140737488355328) (hbase : base ≤ w.heap.size)
    (h : ∀ v' w', w'.ownsRow base e size v' (n + m) (xs ++ news) → w.grownBy w' v.ownBlock → (v'.ownBlock = v.ownBlock ∨ v'.ownBlock = some w.heap.size) → K (a.put o.dst v') w') : o.wp P a w K Q := by
  obtain ⟨v', w', hrun, h2, h3, h4⟩ := run_append_any (P := P) w base t o.type e i z size bytes ht hi hz hsize hby hzs hsz v n xs hown B A m c news hr h1 h63 hbytes hbase
  unfold Oper.wp execOp
  simp only [ho, resolve, invoke, builtin, Sem.run_bind, Sem.run_pure, Result.andThen_ok, List.map_toArray, List.map_cons, List.map_nil, hs, hx, hrun]
  exact h v' w' h2 h3 h4
theorem wpList_append_any {ops : Array Oper} {rest : List Oper} {o : Oper} {a : Act} {Q : Exit → Act → World → Prop} (hgd : o.guard = none) (s x : Operand) (t : TypeId)
    (ho : o.op = .call { callee := .builtin .append, args := #[s, x], argTypes := #[t, t] })
    (base : Nat) (e : TypeId) (i : TypeInfo) (z : Value) (size bytes : Nat) (ht : P.underlying t = some (.slice e)) (hi : P.info? e = some i) (hz : i.zero = some z)
    (hsize : i.size = size) (hby : i.bytes = bytes) (hzs : z.cells.size = size) (hsz : 0 < size)
    (v : Value) (n : Nat) (xs : List Value) (hs : a.eval s = v) (hown : w.ownsRow base e size v n xs)
    (B : Nat) (A : Option Addr) (m c : Nat) (news : List Value) (hx : a.eval x = .slice A m c) (hr : Reads w B size A m news) (h1 : ∀ u ∈ news, u.oneCell' = true)
    (h63 : n + m ≤ maxLen) (hbytes : (n + m) * bytes ≤ 140737488355328) (hbase : base ≤ w.heap.size)
    (h : ∀ v' w', w'.ownsRow base e size v' (n + m) (xs ++ news) → w.grownBy w' v.ownBlock → (v'.ownBlock = v.ownBlock ∨ v'.ownBlock = some w.heap.size) → wpList P ops Q rest (a.put o.dst v') w') : wpList P ops Q (o :: rest) a w :=
  wpList_plain hgd fun _ hK => wp_append_any w s x t ho base e i z size bytes ht hi hz hsize hby hzs hsz v n xs hs hown B A m c news hx hr h1 h63 hbytes hbase fun v' w' h2 h3 h4 => hK _ _ (h v' w' h2 h3 h4)
theorem step_append_any {ops : Array Oper} {o : Oper} {a : Act} {K : Act → World → Prop} {Q : Exit → Act → World → Prop} {E : Prop} (hgd : o.guard = none) (s x : Operand) (t : TypeId)
    (ho : o.op = .call { callee := .builtin .append, args := #[s, x], argTypes := #[t, t] })
    (base : Nat) (e : TypeId) (i : TypeInfo) (z : Value) (size bytes : Nat) (ht : P.underlying t = some (.slice e)) (hi : P.info? e = some i) (hz : i.zero = some z)
    (hsize : i.size = size) (hby : i.bytes = bytes) (hzs : z.cells.size = size) (hsz : 0 < size)
    (v : Value) (n : Nat) (xs : List Value) (hs : a.eval s = v) (hown : w.ownsRow base e size v n xs)
    (B : Nat) (A : Option Addr) (m c : Nat) (news : List Value) (hx : a.eval x = .slice A m c) (hr : Reads w B size A m news) (h1 : ∀ u ∈ news, u.oneCell' = true)
    (h63 : n + m ≤ maxLen) (hbytes : (n + m) * bytes ≤ 140737488355328) (hbase : base ≤ w.heap.size)
    (h : ∀ v' w', w'.ownsRow base e size v' (n + m) (xs ++ news) → w.grownBy w' v.ownBlock → (v'.ownBlock = v.ownBlock ∨ v'.ownBlock = some w.heap.size) → K (a.put o.dst v') w') :
    if Region.wanted o (yielded ops a.tmps) = true then Oper.wp P o a w K Q else E := by
  have hw : Region.wanted o (yielded ops a.tmps) = true := by simp [Region.wanted, hgd]
  rw [if_pos hw]
  exact wp_append_any w s x t ho base e i z size bytes ht hi hz hsize hby hzs hsz v n xs hs hown B A m c news hx hr h1 h63 hbytes hbase h
end
def SlAt {α : Type} (cells : α → List Value) (s : Nat) (w : World) (B : Nat) (A : Option Addr) (n : Nat) (l : List α) : Prop :=
  l.length = n ∧ (0 < n → ∃ b o, A = some ⟨b, o, none⟩ ∧ b < B ∧ ∀ (k : Nat) (r : α), l[k]? = some r → ∀ (j : Nat) (v : Value), (cells r)[j]? = some v → w.cell? ⟨b, o + k * s + j, none⟩ = some v)
section
variable {α : Type} {cells : α → List Value} {s : Nat} {w w' : World} {B B' n : Nat} {A : Option Addr} {l : List α}
theorem SlAt.below (h : SlAt cells s w B A n l) (hB : Below B w w') (hB' : B ≤ B') : SlAt cells s w' B' A n l :=
  ⟨h.1, fun h0 => by
    obtain ⟨b, o, e, hb, hg⟩ := h.2 h0
    exact ⟨b, o, e, by omega, fun k r hr j v hv => (hB.cell (p := ⟨b, _, none⟩) hb).trans (hg k r hr j v hv)⟩⟩
theorem SlAt.get {b o k : Nat} {r : α} (h : SlAt cells s w B (some ⟨b, o, none⟩) n l) (hr : l[k]? = some r) : b < B ∧ ∀ (j : Nat) (v : Value), (cells r)[j]? = some v → w.cell? ⟨b, o + k * s + j, none⟩ = some v := by
  have hk : k < n := by
    have := (List.getElem?_eq_some_iff.1 hr).1
    have := h.1
    omega
  obtain ⟨b', o', e, hb, hg⟩ := h.2 (by omega)
  cases e
  exact ⟨hb, hg k r hr⟩
theorem flat_get (hs : ∀ r, (cells r).length = s) : ∀ (l : List α) (k : Nat) (r : α) (j : Nat) (v : Value), l[k]? = some r → (cells r)[j]? = some v → (l.flatMap cells)[k * s + j]? = some v := by
  intro l
  induction l with
  | nil => intro k r j v h; simp at h
  | cons a l ih =>
    intro k r j v hr hv
    rw [List.flatMap_cons]
    match k with
    | 0 =>
      have : a = r := by simpa using hr
      subst this
      have hj := (List.getElem?_eq_some_iff.1 hv).1
      rw [List.getElem?_append_left (by omega)]
      simpa using hv
    | k + 1 =>
      have e : (k + 1) * s + j = (cells a).length + (k * s + j) := by rw [hs, Nat.succ_mul]; omega
      rw [e, List.getElem?_append_right (by omega), Nat.add_sub_cancel_left]
      exact ih k r j v (by simpa using hr) hv
theorem addr_add (b o j : Nat) : (⟨b, o, none⟩ : Addr).add j = ⟨b, o + j, none⟩ := by
  unfold Addr.add
  split
  · rename_i h; subst h; rfl
  · rfl
theorem SlAt.of_own {base e : Nat} {v : Value} (hs : ∀ r, (cells r).length = s) (h : w.ownsRow base e s v n (l.flatMap cells)) (hl : l.length = n) :
    ∃ A c, v = .slice A n c ∧ n ≤ c ∧ SlAt cells s w w.heap.size A n l ∧ (∀ a, A = some a → base ≤ a.block) := by
  rcases h.2 with ⟨rfl, rfl⟩ | ⟨g, cap, cur, rfl, hg, hh, hnc, _⟩
  · exact ⟨none, 0, rfl, Nat.le_refl _, ⟨hl, fun h => absurd h (by omega)⟩, fun a h => by cases h⟩
  · refine ⟨_, cap, rfl, hnc, ⟨hl, fun h0 => ⟨g, 0, rfl, (Array.getElem?_eq_some_iff.1 hh).1, fun k r hr j u hu => ?_⟩⟩, fun a h => by cases h; exact hg⟩
    have := h.cells (g := g) rfl (k * s + j) u (flat_get hs l k r j u hr hu)
    rw [addr_add] at this
    rw [Nat.zero_add] at this ⊢
    exact this
end
open Go.ChangeAt Go.ChangeShapes Go.WideShapes
theorem RuleV.len (r : RuleV) : r.cells.length = 5 := rfl
theorem SlAt.rules {w : World} {B n : Nat} {A : Option Addr} {l : List RuleV} (h : SlAt RuleV.cells 5 w B A n l) (hok : ∀ r ∈ l, r.ok) : RulesAt w B A n l :=
  ⟨h.1, hok, fun h0 => by
    obtain ⟨b, o, e, hb, hg⟩ := h.2 h0
    exact ⟨b, o, e, hb, fun k r hr => ⟨hg k r hr 0 _ rfl, hg k r hr 1 _ rfl, hg k r hr 2 _ rfl, hg k r hr 3 _ rfl, hg k r hr 4 _ rfl⟩⟩⟩
def inR (n lo hi : Int) : Bool := decide (lo ≤ n) && decide (n ≤ hi)
theorem inR_walk (n lo hi : Int) (W : World) : Calls Tryz.prog 7 #[.int .i64 n, .int .i64 lo, .int .i64 hi] W fun e W' => e = .returned (.bool (inR n lo hi)) ∧ W = W' := by
  cases h1 : decide (lo ≤ n)
  · have e1 : ¬ lo ≤ n := by simpa using h1
    go_enter Tryz.func7, Tryz.ntmps7
    go_wp2
    go_ret
    exact ⟨by simp [inR, h1], rfl⟩
  · go_enter Tryz.func7, Tryz.ntmps7
    go_wp2
    go_ret
    exact ⟨by simp [inR, h1], rfl⟩
def rightB (p : P4) : Bool := inR p.src 0 15 && inR p.dst 0 15 && inR p.sport 0 7 && inR p.dport 0 7
theorem right_walk (p : P4) (W : World) : Calls Tryz.prog 37 #[.agg #[.int .i64 p.src, .int .i64 p.dst, .int .i64 p.sport, .int .i64 p.dport]] W fun e W' => e = .returned (.bool (rightB p)) ∧ Below W.heap.size W W' := by
  cases e1 : inR p.src 0 15
  · go_enter Tryz.func37, Tryz.ntmps37
    go_wp2_with (go_at_call 7; refine (inR_walk _ _ _ _).mono ?_; rintro e w' ⟨rfl, rfl⟩)
    go_ret
    exact ⟨by simp [rightB, *], ((Below.refl _ _).alloc (Nat.le_refl _) _)⟩
  cases e2 : inR p.dst 0 15
  · go_enter Tryz.func37, Tryz.ntmps37
    go_wp2_with (go_at_call 7; refine (inR_walk _ _ _ _).mono ?_; rintro e w' ⟨rfl, rfl⟩)
    go_ret
    exact ⟨by simp [rightB, *], ((Below.refl _ _).alloc (Nat.le_refl _) _)⟩
  cases e3 : inR p.sport 0 7
  · go_enter Tryz.func37, Tryz.ntmps37
    go_wp2_with (go_at_call 7; refine (inR_walk _ _ _ _).mono ?_; rintro e w' ⟨rfl, rfl⟩)
    go_ret
    exact ⟨by simp [rightB, *], ((Below.refl _ _).alloc (Nat.le_refl _) _)⟩
  cases e4 : inR p.dport 0 7
  · go_enter Tryz.func37, Tryz.ntmps37
    go_wp2_with (go_at_call 7; refine (inR_walk _ _ _ _).mono ?_; rintro e w' ⟨rfl, rfl⟩)
    go_ret
    exact ⟨by simp [rightB, *], ((Below.refl _ _).alloc (Nat.le_refl _) _)⟩
  · go_enter Tryz.func37, Tryz.ntmps37
    go_wp2_with (go_at_call 7; refine (inR_walk _ _ _ _).mono ?_; rintro e w' ⟨rfl, rfl⟩)
    go_ret
    exact ⟨by simp [rightB, *], ((Below.refl _ _).alloc (Nat.le_refl _) _)⟩
open Go.Deep Go.Joins
section
variable {H : Type} {enc : TypeId × Value → H} {w : World} {base : Nat} {spare : Nat → Bool} {held : Bool} {r : Reach} {b0 : Nat}
theorem read_int {n : Nat} {cs : List Value} {y : DataW H × List MemPlace} (h : DataW.trod enc Tryz.prog w base spare held n 3 cs = some y) : ∃ k : Int, i64ok k ∧ cs = [.int .i64 k] := by
  obtain ⟨a, rfl, rfl, wa⟩ := DataW.trod_int Tryz.underlying3 h
  exact ⟨a, wf_i64ok wa, rfl⟩
theorem get_some {α : Type} {xs : List α} {i : Nat} (h : i < xs.length) : ∃ y, xs[i]? = some y := ⟨_, List.getElem?_eq_getElem h⟩
theorem read_match {n : Nat} {cs : List Value} {y : DataW H × List MemPlace} (h : DataW.trod enc Tryz.prog w base spare held n 32 cs = some y) :
    ∃ m : M4, m.ok ∧ cs = [.int .u16 m.src, .int .u16 m.dst, .int .u8 m.sport, .int .u8 m.dport] := by
  obtain ⟨xs, n', _, _, hlen, hxl, hf⟩ := DataW.trod_struct Tryz.underlying32 h
  rw [Tryz.cellsMatch] at hlen
  match cs, hlen with
  | [c0, c1, c2, c3], _ =>
    have h0 := hf 0 _ rfl
    have h1 := hf 1 _ rfl
    have h2 := hf 2 _ rfl
    have h3 := hf 3 _ rfl
    have z1 : Tryz.prog.cellsOf 30 = 1 := by kernel_rfl
    have z2 : Tryz.prog.cellsOf 5 = 1 := by kernel_rfl
    obtain ⟨y0, e0⟩ := get_some (xs := xs) (i := 0) (by rw [hxl]; decide)
    obtain ⟨y1, e1⟩ := get_some (xs := xs) (i := 1) (by rw [hxl]; decide)
    obtain ⟨y2, e2⟩ := get_some (xs := xs) (i := 2) (by rw [hxl]; decide)
    obtain ⟨y3, e3⟩ := get_some (xs := xs) (i := 3) (by rw [hxl]; decide)
    rw [e0] at h0
    rw [e1] at h1
    rw [e2] at h2
    rw [e3] at h3
    simp [z1, z2] at h0 h1 h2 h3
    obtain ⟨a, rfl, ha⟩ := trod_u16 h0
    obtain ⟨b, rfl, hb⟩ := trod_u16 h1
    obtain ⟨c, rfl, hc⟩ := trod_u8 h2
    obtain ⟨d, rfl, hd⟩ := trod_u8 h3
    exact ⟨⟨a, b, c, d⟩, ⟨ha, hb, hc, hd⟩, rfl⟩
theorem Tryz.cellsRule : Tryz.prog.cellsOf 161 = 5 := by kernel_rfl
theorem read_rule {n : Nat} {cs : List Value} {y : DataW H × List MemPlace} (h : DataW.trod enc Tryz.prog w base spare held n 161 cs = some y) : ∃ r : RuleV, r.ok ∧ cs = r.cells := by
  obtain ⟨xs, n', _, _, hlen, hxl, hf⟩ := DataW.trod_struct Tryz.underlying161 h
  rw [Tryz.cellsRule] at hlen
  match cs, hlen with
  | [c0, c1, c2, c3, c4], _ =>
    have h0 := hf 0 _ rfl
    have h1 := hf 1 _ rfl
    have z1 : Tryz.prog.cellsOf 4 = 1 := by kernel_rfl
    obtain ⟨y0, e0⟩ := get_some (xs := xs) (i := 0) (by rw [hxl]; decide)
    obtain ⟨y1, e1⟩ := get_some (xs := xs) (i := 1) (by rw [hxl]; decide)
    rw [e0] at h0
    rw [e1] at h1
    simp [z1, Tryz.cellsMatch] at h0 h1
    obtain ⟨b, hb, _⟩ := DataW.trod_bool Tryz.underlying4 h0
    obtain ⟨m, hm, hm2⟩ := read_match h1
    cases hb
    simp only [List.cons.injEq, and_true] at hm2
    obtain ⟨rfl, rfl, rfl, rfl⟩ := hm2
    exact ⟨⟨b, m⟩, hm, rfl⟩
end
end Go.Proofs.YtifkacnoiocebaaGreat
namespace Go.Proofs.YtifkacnoiocebaaGreat
open Go.RowKit
section
variable {α : Type} {cells : α → List Value} {s : Nat} {w w' : World} {B B' n : Nat} {A : Option Addr} {l : List α}
theorem SlAt.take (h : SlAt cells s w B A n l) {i : Nat} (hi : i ≤ n) : SlAt cells s w B A i (l.take i) :=
  ⟨by rw [List.length_take, h.1]; omega, fun h0 => by
    obtain ⟨b, o, e, hb, hg⟩ := h.2 (by omega)
    refine ⟨b, o, e, hb, fun k r hr j v hv => hg k r ?_ j v hv⟩
    have hk : k < i := by have := (List.getElem?_eq_some_iff.1 hr).1; simp at this; omega
    rwa [List.getElem?_take_of_lt hk] at hr⟩
end
open Go.ChangeAt Go.ChangeShapes Go.WideShapes
end Go.Proofs.YtifkacnoiocebaaGreat
