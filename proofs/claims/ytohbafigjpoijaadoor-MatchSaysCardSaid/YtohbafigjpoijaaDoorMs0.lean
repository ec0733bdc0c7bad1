/- A part of the proof: G1. -/
import Derived.Test.YtohbafigjpoijaaDoorRows
import Derived.ProofKit
import Derived.SizedLaws
import Derived.Laws.BitsAllLaws
import Derived.Laws.BitsLemmas
import Derived.WalkKit
import Derived.Outline
import Derived.BigQuiet
import Derived.Lib.Hide
import Derived.WalkLawsBesides
import Derived.Below
import Derived.Lib.SmallJoins
import Derived.OpenShut
import Derived.Laws.OwnMore
import Derived.Deep.AppendLies
import Derived.Deep.Draws
import Derived.Maps.AppendAt
import Derived.RegionTactic
import Derived.OwnWalk
import Derived.WalkSpells
import Derived.Deep.Slices
import Derived.Deep.Fields
import Derived.JoinedCond
set_option linter.unusedVariables false
set_option linter.unusedSimpArgs false
set_option maxRecDepth 100000
set_option maxHeartbeats 4000000
namespace Go.Proofs.YtohbafigjpoijaaDoor
theorem nrmA {α : Type} {l : List α} {i : Nat} {a : α} : l.toArray.setIfInBounds i a = (l.set i a).toArray := List.setIfInBounds_toArray _ _ _
theorem nrmB {α : Type} {x : α} {xs : List α} {a : α} : (x :: xs).set 0 a = a :: xs := List.set_cons_zero
theorem nrmC {α : Type} {x : α} {xs : List α} {n : Nat} {a : α} : (x :: xs).set (n + 1) a = x :: xs.set n a := List.set_cons_succ
open Go.ChangeAt Go.ChangeShapes Go.RowKit Go.WideShapes
theorem Tryd.own : ownKnob Tryd.prog.godebug = none := by kernel_rfl
theorem Tryd.laidOut : laidOutB Tryd.prog = true := by kernel_rfl
section
variable {H : Type} {enc : TypeId × Value → H} {P : Program}
theorem trodAll_below (hl : laidOutB P = true) {W W' : World} (hb : Below W.heap.size W W') : ∀ (ts : List TypeId) (vs : List Value) (ds : List (DataW H)) (ps : List MemPlace),
    (ts.all fun t => P.readableRec t && decide (t < P.types.size)) = true → DataW.TrodAll enc P W 0 (fun _ => true) true ts vs ds ps → (∀ x ∈ ps, x.block < W.heap.size) →
    DataW.TrodAll enc P W' 0 (fun b => decide (b < W.heap.size)) true ts vs ds ps := by
  intro ts
  induction ts with
  | nil => intro vs ds ps _ h _; cases vs <;> cases ds <;> first | exact h | exact h.elim
  | cons t ts ih =>
    intro vs ds ps hr h hlt
    match vs, ds, h with
    | v :: vs, d :: ds, h =>
      obtain ⟨p, q, h1, h2, rfl⟩ := h
      simp only [List.all_cons, Bool.and_eq_true, decide_eq_true_eq] at hr
      exact ⟨p, q, Below.trod hl hr.1.1 hr.1.2 h1 hb (fun x hx => hlt x (List.mem_append_left _ hx)), ih vs ds q (by simpa using hr.2) h2 (fun x hx => hlt x (List.mem_append_right _ hx)), rfl⟩
theorem trodAll_length {w : World} {base : Nat} {spare : Nat → Bool} {held : Bool} : ∀ (ts : List TypeId) (vs : List Value) (ds : List (DataW H)) (ps : List MemPlace), DataW.TrodAll enc P w base spare held ts vs ds ps → ds.length = ts.length := by
  intro ts
  induction ts with
  | nil => intro vs ds ps h; cases vs <;> cases ds <;> first | rfl | exact h.elim
  | cons t ts ih =>
    intro vs ds ps h
    match vs, ds, h with
    | v :: vs, d :: ds, h =>
      obtain ⟨p, q, h1, h2, rfl⟩ := h
      simp [ih vs ds q h2]
theorem law_post {fn : Func} {s : ChangeSpec} {W W' : World} {args : Array Value} {ds gs : List (DataW H)} {before : List MemPlace} {tb : TypeId} (hl : laidOutB P = true)
    (hread : (fn.params.toList.all fun t => P.readableRec t && decide (t < P.types.size)) = true) (hv : s.vars = []) (hr : fn.resultTypes = #[tb]) (hbool : P.underlying tb = some .bool)
    (hs : ∀ ds : List (DataW H), ds.length = fn.params.size → (s.fn H (ds ++ [])).results = [.lit (.bool true)] ∧ (s.fn H (ds ++ [])).args = ds ∧ (s.fn H (ds ++ [])).vars = [])
    (hW : DataW.Whole enc P fn.params.toList s.vars false W args.toList ds gs before) (hb : Below W.heap.size W W') :
    s.post enc P fn false true false false W args (.bool true) W' := by
  have hlt : ∀ p ∈ before, p.block < W.heap.size := fun p hp => hW.lt p hp
  have hW' := hW
  obtain ⟨p, q, hA, hV, rfl, hfz, hnd⟩ := hW
  have hgq : gs = [] ∧ q = [] := by
    rw [hv] at hV
    cases gs with
    | nil => exact ⟨rfl, hV⟩
    | cons => exact hV.elim
  obtain ⟨rfl, rfl⟩ := hgq
  have hlen : ds.length = fn.params.size := by rw [trodAll_length _ _ _ _ hA]; simp
  obtain ⟨e1, e2, e3⟩ := hs ds hlen
  refine ⟨ds, [], p ++ [], [], p, [], hW', ?_, ?_, ?_, World.keptBut_mono (fun p hp => ?_) (hb.frame (· ∈ p ++ [])), fun h => by cases h⟩
  · rw [e1, hr]
    exact trodAll_mk1 (shut_bool hbool _)
  · rw [e2]
    exact trodAll_below hl hb _ _ _ _ hread hA (fun x hx => hlt x (List.mem_append_left _ hx))
  · rw [e3, hv]
    rfl
  · exact ⟨hp, by simpa using hp⟩
end
end Go.Proofs.YtohbafigjpoijaaDoor
namespace Go.Proofs.YtohbafigjpoijaaDoor
open Go.RowKit
theorem ofInt_nat (n a : Nat) (ha : a < 2 ^ n) : (BitVec.ofInt n (a : Int)).toNat = a := by
  rw [BitVec.ofInt_natCast, BitVec.toNat_ofNat]; exact Nat.mod_eq_of_lt ha
theorem u16_and (a b : Nat) (ha : a < 65536) (hb : b < 65536) : bits .and .u16 (a : Int) (b : Int) = ((a &&& b : Nat) : Int) := by
  have hx : a &&& b < 2 ^ 16 := Nat.and_lt_two_pow _ (by omega)
  show IntKind.u16.wrap ((BitVec.ofInt 16 (a : Int) &&& BitVec.ofInt 16 (b : Int)).toNat : Int) = _
  rw [BitVec.toNat_and, ofInt_nat 16 a ha, ofInt_nat 16 b hb]
  simp only [IntKind.wrap, IntKind.signed, IntKind.bits]
  simp
  omega
theorem u16_or (a b : Nat) (ha : a < 65536) (hb : b < 65536) : bits .or .u16 (a : Int) (b : Int) = ((a ||| b : Nat) : Int) := by
  have hx : a ||| b < 2 ^ 16 := Nat.or_lt_two_pow (by omega) (by omega)
  show IntKind.u16.wrap ((BitVec.ofInt 16 (a : Int) ||| BitVec.ofInt 16 (b : Int)).toNat : Int) = _
  rw [BitVec.toNat_or, ofInt_nat 16 a ha, ofInt_nat 16 b hb]
  simp only [IntKind.wrap, IntKind.signed, IntKind.bits]
  simp
  omega
theorem i64_or (a b : Nat) (ha : a < 9223372036854775808) (hb : b < 9223372036854775808) : bits .or .i64 (a : Int) (b : Int) = ((a ||| b : Nat) : Int) := by
  have hx : a ||| b < 2 ^ 63 := Nat.or_lt_two_pow (by omega) (by omega)
  show IntKind.i64.wrap ((BitVec.ofInt 64 (a : Int) ||| BitVec.ofInt 64 (b : Int)).toNat : Int) = _
  rw [BitVec.toNat_or, ofInt_nat 64 a (by omega), ofInt_nat 64 b (by omega), IntKind.wrap_i64]
  omega
theorem testBit_div (s k : Nat) : (s / 2 ^ k &&& 1 == 1) = s.testBit k := by
  rw [Nat.testBit_eq_decide_div_mod_eq, Nat.and_one_is_mod]
  by_cases h : s / 2 ^ k % 2 = 1 <;> simp [h]
theorem div_pow_cast (s k : Nat) : ((s : Int) / 2 ^ k) = ((s / 2 ^ k : Nat) : Int) := by
  rw [Int.natCast_ediv]; simp
theorem bit_u16 (s k : Nat) (hs : s < 65536) : (bits .and .u16 ((s : Int) / 2 ^ k) 1 == 1) = s.testBit k := by
  have h1 : s / 2 ^ k < 65536 := Nat.lt_of_le_of_lt (Nat.div_le_self _ _) hs
  have := u16_and (s / 2 ^ k) 1 h1 (by omega)
  rw [div_pow_cast, show (1 : Int) = ((1 : Nat) : Int) from rfl, this, ← testBit_div]
  by_cases h : s / 2 ^ k &&& 1 = 1
  · simp [h]
  · rw [Bool.eq_iff_iff]
    simp only [beq_iff_eq]
    omega
open Go.ChangeAt Go.ChangeShapes Go.WideShapes
def hasB (s : Nat) (n : Int) : Bool := decide (0 ≤ n) && decide (n < 16) && s.testBit n.toNat
theorem in1_any (s : Nat) (hs : s < 65536) (n : Int) (W : World) (h1 : -9223372036854775808 ≤ n) (h2 : n ≤ 9223372036854775807) :
    Calls Tryd.prog 53 #[.int .u16 s, .int .i64 n] W fun e W' => e = .returned (.bool (hasB s n)) ∧ W = W' := by
  by_cases h0 : 0 ≤ n
  · by_cases h16 : n < 16
    · go_enter Tryd.func53, Tryd.ntmps53
      go_wp2
      go_ret
      exact ⟨by rw [bit_u16 s n.toNat hs]; simp [hasB, h0, h16], rfl⟩
    · have e16 : decide (n < 16) = false := by simpa using h16
      go_enter Tryd.func53, Tryd.ntmps53
      go_wp2
      go_ret
      exact ⟨by simp [hasB, e16], rfl⟩
  · have e0 : decide (0 ≤ n) = false := by simpa using h0
    go_enter Tryd.func53, Tryd.ntmps53
    go_wp2
    go_ret
    exact ⟨by simp [hasB, e0], rfl⟩
structure M4 where
  src : Nat
  dst : Nat
  sport : Nat
  dport : Nat
structure P4 where
  src : Int
  dst : Int
  sport : Int
  dport : Int
def M4.ok (m : M4) : Prop := m.src < 65536 ∧ m.dst < 65536 ∧ m.sport < 256 ∧ m.dport < 256
def i64ok (n : Int) : Prop := -9223372036854775808 ≤ n ∧ n ≤ 9223372036854775807
def P4.ok (p : P4) : Prop := i64ok p.src ∧ i64ok p.dst ∧ i64ok p.sport ∧ i64ok p.dport
theorem in_walk (a b c d : Nat) (x y z u : Int) (W : World) (ha : a < 65536) (hb : b < 65536) (hc : c < 256) (hd : d < 256) (hx : i64ok x) (hy : i64ok y) (hz : i64ok z) (hu : i64ok u) :
    Calls Tryd.prog 24 #[.agg #[.int .u16 a, .int .u16 b, .int .u8 c, .int .u8 d], .agg #[.int .i64 x, .int .i64 y, .int .i64 z, .int .i64 u]] W fun e W' =>
      e = .returned (.bool (hasB a x && hasB b y && hasB c z && hasB d u)) ∧ Below W.heap.size W W' := by
  obtain ⟨x1, x2⟩ := hx
  obtain ⟨y1, y2⟩ := hy
  obtain ⟨z1, z2⟩ := hz
  obtain ⟨u1, u2⟩ := hu
  cases e1 : hasB a x
  · go_enter Tryd.func24, Tryd.ntmps24
    go_wp2_with (go_at_call 53; refine (in1_any _ ?_ _ _ ?_ ?_).mono ?_ <;> (try omega); rintro e w' ⟨rfl, rfl⟩)
    go_ret
    exact ⟨by simp, ((Below.refl _ _).alloc (Nat.le_refl _) _).alloc (by simp) _⟩
  cases e2 : hasB b y
  · go_enter Tryd.func24, Tryd.ntmps24
    go_wp2_with (go_at_call 53; refine (in1_any _ ?_ _ _ ?_ ?_).mono ?_ <;> (try omega); rintro e w' ⟨rfl, rfl⟩)
    go_ret
    exact ⟨by simp, ((Below.refl _ _).alloc (Nat.le_refl _) _).alloc (by simp) _⟩
  cases e3 : hasB c z
  · go_enter Tryd.func24, Tryd.ntmps24
    go_wp2_with (go_at_call 53; refine (in1_any _ ?_ _ _ ?_ ?_).mono ?_ <;> (try omega); rintro e w' ⟨rfl, rfl⟩)
    go_ret
    exact ⟨by simp, ((Below.refl _ _).alloc (Nat.le_refl _) _).alloc (by simp) _⟩
  cases e4 : hasB d u
  · go_enter Tryd.func24, Tryd.ntmps24
    go_wp2_with (go_at_call 53; refine (in1_any _ ?_ _ _ ?_ ?_).mono ?_ <;> (try omega); rintro e w' ⟨rfl, rfl⟩)
    go_ret
    exact ⟨by simp, ((Below.refl _ _).alloc (Nat.le_refl _) _).alloc (by simp) _⟩
  · go_enter Tryd.func24, Tryd.ntmps24
    go_wp2_with (go_at_call 53; refine (in1_any _ ?_ _ _ ?_ ?_).mono ?_ <;> (try omega); rintro e w' ⟨rfl, rfl⟩)
    go_ret
    exact ⟨by simp, ((Below.refl _ _).alloc (Nat.le_refl _) _).alloc (by simp) _⟩
end Go.Proofs.YtohbafigjpoijaaDoor
namespace Go.Proofs.YtohbafigjpoijaaDoor
open Go.RowKit
theorem wp_region_fam {P : Program} {T : Type} (g : T → World) {id : Nat} {Q : Exit → Act → World → Prop} {a : Act} {w : World} {l : List Oper} (hm : P.follows .mixedOrders = true) (hB : Region.lexB .any l.toArray = true)
    (h0 : ∃ t, { w with drawn := w.drawn + 1 } = g t) (h : wpQuiet P l.toArray (fun w' => ∃ t, w' = g t) (fun a' => ∀ w', (∃ t, w' = g t) → Q .normal a' w') l a) : (Code.region id l.toArray true).wp P Q a w :=
  wp_region_quiet (C := fun w' => ∃ t, w' = g t) hm hB h0 (by simpa using h)
theorem wp_region_abs {P : Program} {id : Nat} {Q : Exit → Act → World → Prop} {a : Act} {w : World} {l : List Oper} (hm : P.follows .mixedOrders = true) (hB : Region.lexB .any l.toArray = true)
    (h : ∀ (T : Type) [Nonempty T] (g : T → World), (∀ t, Below w.heap.size w (g t)) → (∀ w', Below w.heap.size w w' → ∃ t, w' = g t) →
      wpQuiet P l.toArray (fun w' => ∃ t, w' = g t) (fun a' => ∀ w', (∃ t, w' = g t) → Q .normal a' w') l a) : (Code.region id l.toArray true).wp P Q a w :=
  wp_region_fam (T := { w' : World // Below w.heap.size w w' }) Subtype.val hm hB ⟨⟨w.drew, (Below.refl _ _).drew⟩, rfl⟩ (@h { w' : World // Below w.heap.size w w' } ⟨⟨w, Below.refl _ _⟩⟩ Subtype.val Subtype.property (fun w' hw => ⟨⟨w', hw⟩, rfl⟩))
theorem inAbs {P : Program} {f : FuncId} {args : Array Value} {W : World} {T : Type} {g : T → World} (hg : ∀ t, Below W.heap.size W (g t)) (hgi : ∀ w', Below W.heap.size W w' → ∃ t, w' = g t) {t : T} {v : Value}
    (h : Calls P f args (g t) fun e w' => e = .returned v ∧ Below (g t).heap.size (g t) w') : Calls P f args (g t) fun e w'' => e = .returned v ∧ ∃ s, w'' = g s :=
  h.mono fun _ w' ⟨he, hw⟩ => ⟨he, hgi w' ((hg t).trans (hw.mono (hg t).size))⟩
theorem inAbsSame {P : Program} {f : FuncId} {args : Array Value} {T : Type} {g : T → World} {t : T} {v : Value} (h : Calls P f args (g t) fun e w' => e = .returned v ∧ g t = w') :
    Calls P f args (g t) fun e w'' => e = .returned v ∧ ∃ s, w'' = g s :=
  h.mono fun _ w' ⟨he, hw⟩ => ⟨he, ⟨t, hw.symm⟩⟩
theorem hide {p : Prop} (h : p) : Hid p := h
open Go.ChangeAt Go.ChangeShapes Go.Joins Go.WideShapes
theorem Tryd.cellsMatch : Tryd.prog.cellsOf 42 = 4 := by kernel_rfl
theorem Tryd.cellsPacket : Tryd.prog.cellsOf 23 = 4 := by kernel_rfl
section
variable {H : Type} {enc : TypeId × Value → H} {w : World} {base : Nat} {spare : Nat → Bool} {held : Bool} {r : Reach} {b0 : Nat}
theorem wf_nat_u16 {k : Int} (h : (Lit.int .u16 k).wf = true) : ∃ n : Nat, k = n ∧ n < 65536 := by
  have hx : 0 ≤ k ∧ k ≤ 65535 := by simpa [Lit.wf, IntKind.min, IntKind.max, IntKind.signed, IntKind.bits] using h
  exact ⟨k.toNat, by omega, by omega⟩
theorem wf_nat_u8 {k : Int} (h : (Lit.int .u8 k).wf = true) : ∃ n : Nat, k = n ∧ n < 256 := by
  have hx : 0 ≤ k ∧ k ≤ 255 := by simpa [Lit.wf, IntKind.min, IntKind.max, IntKind.signed, IntKind.bits] using h
  exact ⟨k.toNat, by omega, by omega⟩
theorem wf_i64ok {k : Int} (h : (Lit.int .i64 k).wf = true) : i64ok k := by
  have hx : -9223372036854775808 ≤ k ∧ k ≤ 9223372036854775807 := by simpa [Lit.wf, IntKind.min, IntKind.max, IntKind.signed, IntKind.bits] using h
  exact hx
theorem trod_u16 {n : Nat} {v : Value} {y : DataW H × List MemPlace} (h : DataW.trod enc Tryd.prog w base spare held n 40 [v] = some y) : ∃ k : Nat, v = .int .u16 k ∧ k < 65536 := by
  obtain ⟨a, e0, rfl, wa⟩ := DataW.trod_int Tryd.underlying40 h
  obtain ⟨k, rfl, hk⟩ := wf_nat_u16 wa
  exact ⟨k, by simpa using e0, hk⟩
theorem trod_u8 {n : Nat} {v : Value} {y : DataW H × List MemPlace} (h : DataW.trod enc Tryd.prog w base spare held n 5 [v] = some y) : ∃ k : Nat, v = .int .u8 k ∧ k < 256 := by
  obtain ⟨a, e0, rfl, wa⟩ := DataW.trod_int Tryd.underlying5 h
  obtain ⟨k, rfl, hk⟩ := wf_nat_u8 wa
  exact ⟨k, by simpa using e0, hk⟩
theorem trod_i64 {n : Nat} {v : Value} {y : DataW H × List MemPlace} (h : DataW.trod enc Tryd.prog w base spare held n 3 [v] = some y) : ∃ k : Int, v = .int .i64 k ∧ i64ok k := by
  obtain ⟨a, e0, rfl, wa⟩ := DataW.trod_int Tryd.underlying3 h
  exact ⟨a, by simpa using e0, wf_i64ok wa⟩
theorem open_match {v : Value} {d : DataW H} {p : List MemPlace} (hv : Value.okWide Tryd.prog w r b0 42 v) (h : DataW.Trod enc Tryd.prog w base spare held 42 v d p) :
    ∃ a b c d : Nat, v = .agg #[.int .u16 a, .int .u16 b, .int .u8 c, .int .u8 d] ∧ a < 65536 ∧ b < 65536 ∧ c < 256 ∧ d < 256 := by
  obtain ⟨c0, c1, c2, c3, y0, y1, y2, y3, m, rfl, rfl, rfl, h0, h1, h2, h3⟩ := open_agg4 Tryd.underlying42 (by kernel_rfl) Tryd.cellsMatch hv h
  obtain ⟨a, rfl, ha⟩ := trod_u16 h0
  obtain ⟨b, rfl, hb⟩ := trod_u16 h1
  obtain ⟨c, rfl, hc⟩ := trod_u8 h2
  obtain ⟨d, rfl, hd⟩ := trod_u8 h3
  exact ⟨a, b, c, d, rfl, ha, hb, hc, hd⟩
theorem open_packet {v : Value} {d : DataW H} {p : List MemPlace} (hv : Value.okWide Tryd.prog w r b0 23 v) (h : DataW.Trod enc Tryd.prog w base spare held 23 v d p) :
    ∃ x y z u : Int, v = .agg #[.int .i64 x, .int .i64 y, .int .i64 z, .int .i64 u] ∧ i64ok x ∧ i64ok y ∧ i64ok z ∧ i64ok u := by
  obtain ⟨c0, c1, c2, c3, y0, y1, y2, y3, m, rfl, rfl, rfl, h0, h1, h2, h3⟩ := open_agg4 Tryd.underlying23 (by kernel_rfl) Tryd.cellsPacket hv h
  obtain ⟨a, rfl, ha⟩ := trod_i64 h0
  obtain ⟨b, rfl, hb⟩ := trod_i64 h1
  obtain ⟨c, rfl, hc⟩ := trod_i64 h2
  obtain ⟨d, rfl, hd⟩ := trod_i64 h3
  exact ⟨a, b, c, d, rfl, ha, hb, hc, hd⟩
end
theorem args_nil {H : Type} {enc : TypeId × Value → H} {P : Program} {w : World} {base : Nat} {sp : Nat → Bool} {hd : Bool} {vs : List Value} {ds : List (DataW H)} {p : List MemPlace} (h : DataW.TrodAll enc P w base sp hd [] vs ds p) : vs = [] ∧ ds = [] ∧ p = [] := by
  cases vs <;> cases ds <;> first | exact ⟨rfl, rfl, h⟩ | exact h.elim
theorem args_cons {H : Type} {enc : TypeId × Value → H} {P : Program} {w : World} {base : Nat} {sp : Nat → Bool} {hd : Bool} {t : TypeId} {ts : List TypeId} {vs : List Value} {ds : List (DataW H)} {p : List MemPlace} (h : DataW.TrodAll enc P w base sp hd (t :: ts) vs ds p) :
    ∃ v vs' d ds' p0 q, vs = v :: vs' ∧ ds = d :: ds' ∧ p = p0 ++ q ∧ DataW.Trod enc P w base sp hd t v d p0 ∧ DataW.TrodAll enc P w base sp hd ts vs' ds' q := by
  match vs, ds, h with
  | v :: vs, d :: ds, h =>
    obtain ⟨p0, q, h1, h2, rfl⟩ := h
    exact ⟨v, vs, d, ds, p0, q, rfl, rfl, rfl, h1, h2⟩
theorem arr_eq {a b : Array Value} (h : a.toList = b.toList) : a = b := by cases a; cases b; simp_all
end Go.Proofs.YtohbafigjpoijaaDoor
namespace Go.Proofs.YtohbafigjpoijaaDoor
open Go.ChangeAt Go.ChangeShapes Go.RowKit Go.WideShapes
end Go.Proofs.YtohbafigjpoijaaDoor
namespace Go.Proofs.YtohbafigjpoijaaDoor
open Go.RowKit
def Reads (w : World) (B size : Nat) (A : Option Addr) (n : Nat) (xs : List Value) : Prop :=
  xs.length = n * size ∧ (0 < n → ∃ ad, A = some ad ∧ ad.block < B ∧ ∀ j u, xs[j]? = some u → w.cell? (ad.add j) = some u)
section
variable {w w' : World} {B B' size n : Nat} {A : Option Addr} {xs : List Value}
end
section
variable {P : Program} (w : World)
theorem run_append_of_nil (base : Nat) (t ty e : TypeId) (i : TypeInfo) (size : Nat) (ht : P.underlying t = some (.slice e)) (hi : P.info? e = some i)
    (v : Value) (n : Nat) (xs : List Value) (hown : w.ownsRow base e size v n xs) (c : Nat) : (Builtin.append_ #[t, t] ty #[v, .slice none 0 c]).run P w = .ok v w := by
  rcases hown.2 with ⟨rfl, rfl⟩ | ⟨g, cap, cur, rfl, _, _, hnc, _⟩
  · simp [Builtin.append_, run_underlying ht, sizeOf, typeInfo, hi, Builtin.lenOf, Builtin.firstCells]
  · simp [Builtin.append_, run_underlying ht, sizeOf, typeInfo, hi, Builtin.lenOf, Builtin.firstCells, hnc, storeCells]
theorem run_append_any (base : Nat) (t ty e : TypeId) (i : TypeInfo) (z : Value) (size bytes : Nat) (ht : P.underlying t = some (.slice e)) (hi : P.info? e = some i) (hz : i.zero = some z)
    (hsize : i.size = size) (hby : i.bytes = bytes) (hzs : z.cells.size = size) (hsz : 0 < size)
    (v : Value) (n : Nat) (xs : List Value) (hown : w.ownsRow base e size v n xs)
    (B : Nat) (A : Option Addr) (m c : Nat) (news : List Value) (hr : Reads w B size A m news) (h1 : ∀ u ∈ news, u.oneCell' = true)
    (h63 : n + m ≤ maxLen) (hbytes : (n + m) * bytes ≤ 140737488355328) (hbase : base ≤ w.heap.size) :
    ∃ v' w', (Builtin.append_ #[t, t] ty #[v, .slice A m c]).run P w = .ok v' w' ∧ w'.ownsRow base e size v' (n + m) (xs ++ news) ∧ w.grownBy w' v.ownBlock ∧
      (v'.ownBlock = v.ownBlock ∨ v'.ownBlock = some w.heap.size) := by
  rcases A with _ | ad
  · have hm : m = 0 := by
      rcases Nat.eq_zero_or_pos m with h0 | h0
      · exact h0
      · obtain ⟨ad, h, _⟩ := hr.2 h0
        cases h
    subst hm
    have hn : news = [] := List.eq_nil_of_length_eq_zero (by simpa using hr.1)
    subst hn
    exact ⟨v, w, run_append_of_nil w base t ty e i size ht hi v n xs hown c, by simpa using hown, World.grownBy.refl w _, .inl rfl⟩
  · have hcells : ∀ j u, news[j]? = some u → w.cell? (ad.add j) = some u := by
      intro j u hu
      rcases Nat.eq_zero_or_pos m with h0 | h0
      · subst h0
        have hn : news = [] := List.eq_nil_of_length_eq_zero (by simpa using hr.1)
        subst hn
        simp at hu
      · obtain ⟨ad', h, _, hc⟩ := hr.2 h0
        injection h with h
        subst h
        exact hc j u hu
    obtain ⟨v', w', hrun, h2, h3, _, h5⟩ := run_append_own_at (P := P) w base t ty e i z size bytes ht hi hz hsize hby hzs hsz v n xs hown ad m c news hr.1 hcells h1 h63 hbytes hbase
    exact ⟨v', w', hrun, h2, h3, h5⟩
theorem wp_append_any {o : Oper} {a : Act} {K : Act → World → Prop} {Q : Exit → Act → World → Prop} (s x : Operand) (t : TypeId)
    (ho : o.op = .call { callee := .builtin .append, args := #[s, x], argTypes := #[t, t] })
    (base : Nat) (e : TypeId) (i : TypeInfo) (z : Value) (size bytes : Nat) (ht : P.underlying t = some (.slice e)) (hi : P.info? e = some i) (hz : i.zero = some z)
    (hsize : i.size = size) (hby : i.bytes = bytes) (hzs : z.cells.size = size) (hsz : 0 < size)
    (v : Value) (n : Nat) (xs : List Value) (hs : a.eval s = v) (hown : w.ownsRow base e size v n xs)
    (B : Nat) (A : Option Addr) (m c : Nat) (news : List Value) (hx : a.eval x = .slice A m c) (hr : Reads w B size A m news) (h1 : ∀ u ∈ news, u.oneCell' = true)
    (h63 : n + m ≤ maxLen) (hbytes : (n + m) * bytes ≤ 140737488355328) (hbase : base ≤ w.heap.size)
    (h : ∀ v' w', w'.ownsRow base e size v' (n + m) (xs ++ news) → w.grownBy w' v.ownBlock → (v'.ownBlock = v.ownBlock ∨ v'.ownBlock = some w.heap.size) → K (a.put o.dst v') w') : o.wp P a w K Q := by
  obtain ⟨v', w', hrun, h2, h3, h4⟩ := run_append_any (P := P) w base t o.type e i z size bytes ht hi hz hsize hby hzs hsz v n xs hown B A m c news hr h1 h63 hbytes hbase
  unfold Oper.wp execOp
  simp only [ho, resolve, invoke, builtin, Sem.run_bind, Sem.run_pure, Result.andThen_ok, List.map_toArray, List.map_cons, List.map_nil, hs, hx, hrun]
  exact h v' w' h2 h3 h4
theorem wpList_append_any {ops : Array Oper} {rest : List Oper} {o : Oper} {a : Act} {Q : Exit → Act → World → Prop} (hgd : o.guard = none) (s x : Operand) (t : TypeId)
    (ho : o.op = .call { callee := .builtin .append, args := #[s, x], argTypes := #[t, t] })
    (base : Nat) (e : TypeId) (i : TypeInfo) (z : Value) (size bytes : Nat) (ht : P.underlying t = some (.slice e)) (hi : P.info? e = some i) (hz : i.zero = some z)
    (hsize : i.size = size) (hby : i.bytes = bytes) (hzs : z.cells.size = size) (hsz : 0 < size)
    (v : Value) (n : Nat) (xs : List Value) (hs : a.eval s = v) (hown : w.ownsRow base e size v n xs)
    (B : Nat) (A : Option Addr) (m c : Nat) (news : List Value) (hx : a.eval x = .slice A m c) (hr : Reads w B size A m news) (h1 : ∀ u ∈ news, u.oneCell' = true)
    (h63 : n + m ≤ maxLen) (hbytes : (n + m) * bytes ≤ 140737488355328) (hbase : base ≤ w.heap.size)
    (h : ∀ v' w', w'.ownsRow base e size v' (n + m) (xs ++ news) → w.grownBy w' v.ownBlock → (v'.ownBlock = v.ownBlock ∨ v'.ownBlock = some w.heap.size) → wpList P ops Q rest (a.put o.dst v') w') : wpList P ops Q (o :: rest) a w :=
  wpList_plain hgd fun _ hK => wp_append_any w s x t ho base e i z size bytes ht hi hz hsize hby hzs hsz v n xs hs hown B A m c news hx hr h1 h63 hbytes hbase fun v' w' h2 h3 h4 => hK _ _ (h v' w' h2 h3 h4)
end
section
variable {α : Type} {cells : α → List Value} {s : Nat} {w w' : World} {B B' n : Nat} {A : Option Addr} {l : List α}
theorem addr_add (b o j : Nat) : (⟨b, o, none⟩ : Addr).add j = ⟨b, o + j, none⟩ := by
  unfold Addr.add
  split
  · rename_i h; subst h; rfl
  · rfl
end
open Go.ChangeAt Go.ChangeShapes Go.WideShapes
def inR (n lo hi : Int) : Bool := decide (lo ≤ n) && decide (n ≤ hi)
theorem inR_walk (n lo hi : Int) (W : World) : Calls Tryd.prog 40 #[.int .i64 n, .int .i64 lo, .int .i64 hi] W fun e W' => e = .returned (.bool (inR n lo hi)) ∧ W = W' := by
  cases h1 : decide (lo ≤ n)
  · have e1 : ¬ lo ≤ n := by simpa using h1
    go_enter Tryd.func40, Tryd.ntmps40
    go_wp2
    go_ret
    exact ⟨by simp [inR, h1], rfl⟩
  · go_enter Tryd.func40, Tryd.ntmps40
    go_wp2
    go_ret
    exact ⟨by simp [inR, h1], rfl⟩
open Go.Deep Go.Joins
section
variable {H : Type} {enc : TypeId × Value → H} {w : World} {base : Nat} {spare : Nat → Bool} {held : Bool} {r : Reach} {b0 : Nat}
end
end Go.Proofs.YtohbafigjpoijaaDoor
namespace Go.Proofs.YtohbafigjpoijaaDoor
open Go.RowKit
section
variable {α : Type} {cells : α → List Value} {s : Nat} {w w' : World} {B B' n : Nat} {A : Option Addr} {l : List α}
end
open Go.ChangeAt Go.ChangeShapes Go.WideShapes
theorem law_contract {P : Program} {f : FuncId} {fn : Func} {s : ChangeSpec} {H : Type} {enc : TypeId × Value → H} {tb : TypeId} {W : World} {args : Array Value} {ds gs : List (DataW H)} {before : List MemPlace}
    (hl : laidOutB P = true) (hread : (fn.params.toList.all fun t => P.readableRec t && decide (t < P.types.size)) = true) (hv : s.vars = []) (hr : fn.resultTypes = #[tb]) (hbool : P.underlying tb = some .bool)
    (hs : ∀ ds : List (DataW H), ds.length = fn.params.size → (s.fn H (ds ++ [])).results = [.lit (.bool true)] ∧ (s.fn H (ds ++ [])).args = ds ∧ (s.fn H (ds ++ [])).vars = [])
    (hW : DataW.Whole enc P fn.params.toList s.vars false W args.toList ds gs before)
    (walk : ∀ p : List MemPlace, gs = [] → DataW.TrodAll enc P W 0 (fun _ => true) true fn.params.toList args.toList ds p → (∀ x ∈ p, x.block < W.heap.size) → Calls P f args W fun e W' => e = .returned (.bool true) ∧ Below W.heap.size W W') :
    Calls P f args W fun e W' => ∃ v, e = .returned v ∧ s.post enc P fn false true false false W args v W' := by
  have hlt : ∀ p ∈ before, p.block < W.heap.size := fun p hp => hW.lt p hp
  have hW' := hW
  obtain ⟨p, q, hA, hV, rfl, hfz, hnd⟩ := hW
  have hg : gs = [] := by
    rw [hv] at hV
    cases gs with
    | nil => rfl
    | cons => exact hV.elim
  exact (walk p hg hA (fun x hx => hlt x (List.mem_append_left _ hx))).mono fun e W' ⟨he, hb⟩ => ⟨_, he, law_post hl hread hv hr hbool hs hW' hb⟩
end Go.Proofs.YtohbafigjpoijaaDoor
