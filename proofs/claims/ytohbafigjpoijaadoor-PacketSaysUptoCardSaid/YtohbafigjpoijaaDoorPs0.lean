/- A part of the proof: G1, St1. -/
import Derived.Test.YtohbafigjpoijaaDoorRows
import Derived.ProofKit
import Derived.SizedLaws
import Derived.Laws.BitsAllLaws
import Derived.Laws.BitsLemmas
import Derived.WalkKit
import Derived.Outline
import Derived.BigQuiet
import Derived.Lib.Hide
import Derived.WalkLawsBesides
import Derived.Below
import Derived.Lib.SmallJoins
import Derived.OpenShut
import Derived.Laws.OwnMore
import Derived.Deep.AppendLies
import Derived.Deep.Draws
import Derived.Maps.AppendAt
import Derived.RegionTactic
import Derived.OwnWalk
import Derived.WalkSpells
import Derived.Deep.Slices
import Derived.Deep.Fields
import Derived.JoinedCond
set_option linter.unusedVariables false
set_option linter.unusedSimpArgs false
set_option maxRecDepth 100000
set_option maxHeartbeats 4000000
namespace Go.Proofs.YtohbafigjpoijaaDoor
theorem nrmA {α : Type} {l : List α} {i : Nat} {a : α} : l.toArray.setIfInBounds i a = (l.set i a).toArray := List.setIfInBounds_toArray _ _ _
theorem nrmB {α : Type} {x : α} {xs : List α} {a : α} : (x :: xs).set 0 a = a :: xs := List.set_cons_zero
theorem nrmC {α : Type} {x : α} {xs : List α} {n : Nat} {a : α} : (x :: xs).set (n + 1) a = x :: xs.set n a := List.set_cons_succ
open Go.ChangeAt Go.ChangeShapes Go.RowKit Go.WideShapes
theorem Tryd.own : ownKnob Tryd.prog.godebug = none := by kernel_rfl
theorem Tryd.laidOut : laidOutB Tryd.prog = true := by kernel_rfl
section
variable {H : Type} {enc : TypeId × Value → H} {P : Program}
theorem trodAll_below (hl : laidOutB P = true) {W W' : World} (hb : Below W.heap.size W W') : ∀ (ts : List TypeId) (vs : List Value) (ds : List (DataW H)) (ps : List MemPlace),
    (ts.all fun t => P.readableRec t && decide (t < P.types.size)) = true → DataW.TrodAll enc P W 0 (fun _ => true) true ts vs ds ps → (∀ x ∈ ps, x.block < W.heap.size) →
    DataW.TrodAll enc P W' 0 (fun b => decide (b < W.heap.size)) true ts vs ds ps := by
  intro ts
  induction ts with
  | nil => intro vs ds ps _ h _; cases vs <;> cases ds <;> first | exact h | exact h.elim
  | cons t ts ih =>
    intro vs ds ps hr h hlt
    match vs, ds, h with
    | v :: vs, d :: ds, h =>
      obtain ⟨p, q, h1, h2, rfl⟩ := h
      simp only [List.all_cons, Bool.and_eq_true, decide_eq_true_eq] at hr
      exact ⟨p, q, Below.trod hl hr.1.1 hr.1.2 h1 hb (fun x hx => hlt x (List.mem_append_left _ hx)), ih vs ds q (by simpa using hr.2) h2 (fun x hx => hlt x (List.mem_append_right _ hx)), rfl⟩
theorem trodAll_length {w : World} {base : Nat} {spare : Nat → Bool} {held : Bool} : ∀ (ts : List TypeId) (vs : List Value) (ds : List (DataW H)) (ps : List MemPlace), DataW.TrodAll enc P w base spare held ts vs ds ps → ds.length = ts.length := by
  intro ts
  induction ts with
  | nil => intro vs ds ps h; cases vs <;> cases ds <;> first | rfl | exact h.elim
  | cons t ts ih =>
    intro vs ds ps h
    match vs, ds, h with
    | v :: vs, d :: ds, h =>
      obtain ⟨p, q, h1, h2, rfl⟩ := h
      simp [ih vs ds q h2]
theorem law_post {fn : Func} {s : ChangeSpec} {W W' : World} {args : Array Value} {ds gs : List (DataW H)} {before : List MemPlace} {tb : TypeId} (hl : laidOutB P = true)
    (hread : (fn.params.toList.all fun t => P.readableRec t && decide (t < P.types.size)) = true) (hv : s.vars = []) (hr : fn.resultTypes = #[tb]) (hbool : P.underlying tb = some .bool)
    (hs : ∀ ds : List (DataW H), ds.length = fn.params.size → (s.fn H (ds ++ [])).results = [.lit (.bool true)] ∧ (s.fn H (ds ++ [])).args = ds ∧ (s.fn H (ds ++ [])).vars = [])
    (hW : DataW.Whole enc P fn.params.toList s.vars false W args.toList ds gs before) (hb : Below W.heap.size W W') :
    s.post enc P fn false true false false W args (.bool true) W' := by
  have hlt : ∀ p ∈ before, p.block < W.heap.size := fun p hp => hW.lt p hp
  have hW' := hW
  obtain ⟨p, q, hA, hV, rfl, hfz, hnd⟩ := hW
  have hgq : gs = [] ∧ q = [] := by
    rw [hv] at hV
    cases gs with
    | nil => exact ⟨rfl, hV⟩
    | cons => exact hV.elim
  obtain ⟨rfl, rfl⟩ := hgq
  have hlen : ds.length = fn.params.size := by rw [trodAll_length _ _ _ _ hA]; simp
  obtain ⟨e1, e2, e3⟩ := hs ds hlen
  refine ⟨ds, [], p ++ [], [], p, [], hW', ?_, ?_, ?_, World.keptBut_mono (fun p hp => ?_) (hb.frame (· ∈ p ++ [])), fun h => by cases h⟩
  · rw [e1, hr]
    exact trodAll_mk1 (shut_bool hbool _)
  · rw [e2]
    exact trodAll_below hl hb _ _ _ _ hread hA (fun x hx => hlt x (List.mem_append_left _ hx))
  · rw [e3, hv]
    rfl
  · exact ⟨hp, by simpa using hp⟩
end
end Go.Proofs.YtohbafigjpoijaaDoor
namespace Go.Proofs.YtohbafigjpoijaaDoor
open Go.RowKit
theorem ofInt_nat (n a : Nat) (ha : a < 2 ^ n) : (BitVec.ofInt n (a : Int)).toNat = a := by
  rw [BitVec.ofInt_natCast, BitVec.toNat_ofNat]; exact Nat.mod_eq_of_lt ha
theorem i64_and (a b : Nat) (ha : a < 9223372036854775808) (hb : b < 9223372036854775808) : bits .and .i64 (a : Int) (b : Int) = ((a &&& b : Nat) : Int) := by
  have hx : a &&& b < 2 ^ 63 := Nat.and_lt_two_pow _ (by omega)
  show IntKind.i64.wrap ((BitVec.ofInt 64 (a : Int) &&& BitVec.ofInt 64 (b : Int)).toNat : Int) = _
  rw [BitVec.toNat_and, ofInt_nat 64 a (by omega), ofInt_nat 64 b (by omega), IntKind.wrap_i64]
  omega
theorem i64_or (a b : Nat) (ha : a < 9223372036854775808) (hb : b < 9223372036854775808) : bits .or .i64 (a : Int) (b : Int) = ((a ||| b : Nat) : Int) := by
  have hx : a ||| b < 2 ^ 63 := Nat.or_lt_two_pow (by omega) (by omega)
  show IntKind.i64.wrap ((BitVec.ofInt 64 (a : Int) ||| BitVec.ofInt 64 (b : Int)).toNat : Int) = _
  rw [BitVec.toNat_or, ofInt_nat 64 a (by omega), ofInt_nat 64 b (by omega), IntKind.wrap_i64]
  omega
open Go.ChangeAt Go.ChangeShapes Go.WideShapes
structure P4 where
  src : Int
  dst : Int
  sport : Int
  dport : Int
def i64ok (n : Int) : Prop := -9223372036854775808 ≤ n ∧ n ≤ 9223372036854775807
def P4.ok (p : P4) : Prop := i64ok p.src ∧ i64ok p.dst ∧ i64ok p.sport ∧ i64ok p.dport
end Go.Proofs.YtohbafigjpoijaaDoor
namespace Go.Proofs.YtohbafigjpoijaaDoor
open Go.RowKit
theorem wp_region_fam {P : Program} {T : Type} (g : T → World) {id : Nat} {Q : Exit → Act → World → Prop} {a : Act} {w : World} {l : List Oper} (hm : P.follows .mixedOrders = true) (hB : Region.lexB .any l.toArray = true)
    (h0 : ∃ t, { w with drawn := w.drawn + 1 } = g t) (h : wpQuiet P l.toArray (fun w' => ∃ t, w' = g t) (fun a' => ∀ w', (∃ t, w' = g t) → Q .normal a' w') l a) : (Code.region id l.toArray true).wp P Q a w :=
  wp_region_quiet (C := fun w' => ∃ t, w' = g t) hm hB h0 (by simpa using h)
theorem wp_region_abs {P : Program} {id : Nat} {Q : Exit → Act → World → Prop} {a : Act} {w : World} {l : List Oper} (hm : P.follows .mixedOrders = true) (hB : Region.lexB .any l.toArray = true)
    (h : ∀ (T : Type) [Nonempty T] (g : T → World), (∀ t, Below w.heap.size w (g t)) → (∀ w', Below w.heap.size w w' → ∃ t, w' = g t) →
      wpQuiet P l.toArray (fun w' => ∃ t, w' = g t) (fun a' => ∀ w', (∃ t, w' = g t) → Q .normal a' w') l a) : (Code.region id l.toArray true).wp P Q a w :=
  wp_region_fam (T := { w' : World // Below w.heap.size w w' }) Subtype.val hm hB ⟨⟨w.drew, (Below.refl _ _).drew⟩, rfl⟩ (@h { w' : World // Below w.heap.size w w' } ⟨⟨w, Below.refl _ _⟩⟩ Subtype.val Subtype.property (fun w' hw => ⟨⟨w', hw⟩, rfl⟩))
theorem inAbs {P : Program} {f : FuncId} {args : Array Value} {W : World} {T : Type} {g : T → World} (hg : ∀ t, Below W.heap.size W (g t)) (hgi : ∀ w', Below W.heap.size W w' → ∃ t, w' = g t) {t : T} {v : Value}
    (h : Calls P f args (g t) fun e w' => e = .returned v ∧ Below (g t).heap.size (g t) w') : Calls P f args (g t) fun e w'' => e = .returned v ∧ ∃ s, w'' = g s :=
  h.mono fun _ w' ⟨he, hw⟩ => ⟨he, hgi w' ((hg t).trans (hw.mono (hg t).size))⟩
theorem hide {p : Prop} (h : p) : Hid p := h
open Go.ChangeAt Go.ChangeShapes Go.Joins Go.WideShapes
theorem Tryd.cellsPacket : Tryd.prog.cellsOf 23 = 4 := by kernel_rfl
section
variable {H : Type} {enc : TypeId × Value → H} {w : World} {base : Nat} {spare : Nat → Bool} {held : Bool} {r : Reach} {b0 : Nat}
theorem wf_i64ok {k : Int} (h : (Lit.int .i64 k).wf = true) : i64ok k := by
  have hx : -9223372036854775808 ≤ k ∧ k ≤ 9223372036854775807 := by simpa [Lit.wf, IntKind.min, IntKind.max, IntKind.signed, IntKind.bits] using h
  exact hx
theorem trod_i64 {n : Nat} {v : Value} {y : DataW H × List MemPlace} (h : DataW.trod enc Tryd.prog w base spare held n 3 [v] = some y) : ∃ k : Int, v = .int .i64 k ∧ i64ok k := by
  obtain ⟨a, e0, rfl, wa⟩ := DataW.trod_int Tryd.underlying3 h
  exact ⟨a, by simpa using e0, wf_i64ok wa⟩
theorem open_packet {v : Value} {d : DataW H} {p : List MemPlace} (hv : Value.okWide Tryd.prog w r b0 23 v) (h : DataW.Trod enc Tryd.prog w base spare held 23 v d p) :
    ∃ x y z u : Int, v = .agg #[.int .i64 x, .int .i64 y, .int .i64 z, .int .i64 u] ∧ i64ok x ∧ i64ok y ∧ i64ok z ∧ i64ok u := by
  obtain ⟨c0, c1, c2, c3, y0, y1, y2, y3, m, rfl, rfl, rfl, h0, h1, h2, h3⟩ := open_agg4 Tryd.underlying23 (by kernel_rfl) Tryd.cellsPacket hv h
  obtain ⟨a, rfl, ha⟩ := trod_i64 h0
  obtain ⟨b, rfl, hb⟩ := trod_i64 h1
  obtain ⟨c, rfl, hc⟩ := trod_i64 h2
  obtain ⟨d, rfl, hd⟩ := trod_i64 h3
  exact ⟨a, b, c, d, rfl, ha, hb, hc, hd⟩
end
theorem args_nil {H : Type} {enc : TypeId × Value → H} {P : Program} {w : World} {base : Nat} {sp : Nat → Bool} {hd : Bool} {vs : List Value} {ds : List (DataW H)} {p : List MemPlace} (h : DataW.TrodAll enc P w base sp hd [] vs ds p) : vs = [] ∧ ds = [] ∧ p = [] := by
  cases vs <;> cases ds <;> first | exact ⟨rfl, rfl, h⟩ | exact h.elim
theorem args_cons {H : Type} {enc : TypeId × Value → H} {P : Program} {w : World} {base : Nat} {sp : Nat → Bool} {hd : Bool} {t : TypeId} {ts : List TypeId} {vs : List Value} {ds : List (DataW H)} {p : List MemPlace} (h : DataW.TrodAll enc P w base sp hd (t :: ts) vs ds p) :
    ∃ v vs' d ds' p0 q, vs = v :: vs' ∧ ds = d :: ds' ∧ p = p0 ++ q ∧ DataW.Trod enc P w base sp hd t v d p0 ∧ DataW.TrodAll enc P w base sp hd ts vs' ds' q := by
  match vs, ds, h with
  | v :: vs, d :: ds, h =>
    obtain ⟨p0, q, h1, h2, rfl⟩ := h
    exact ⟨v, vs, d, ds, p0, q, rfl, rfl, rfl, h1, h2⟩
theorem arr_eq {a b : Array Value} (h : a.toList = b.toList) : a = b := by cases a; cases b; simp_all
end Go.Proofs.YtohbafigjpoijaaDoor
namespace Go.Proofs.YtohbafigjpoijaaDoor
open Go.ChangeAt Go.ChangeShapes Go.RowKit Go.WideShapes
end Go.Proofs.YtohbafigjpoijaaDoor
namespace Go.Proofs.YtohbafigjpoijaaDoor
open Go.RowKit
def Reads (w : World) (B size : Nat) (A : Option Addr) (n : Nat) (xs : List Value) : Prop :=
  xs.length = n * size ∧ (0 < n → ∃ ad, A = some ad ∧ ad.block < B ∧ ∀ j u, xs[j]? = some u → w.cell? (ad.add j) = some u)
section
variable {w w' : World} {B B' size n : Nat} {A : Option Addr} {xs : List Value}
end
section
variable {P : Program} (w : World)
theorem run_append_of_nil (base : Nat) (t ty e : TypeId) (i : TypeInfo) (size : Nat) (ht : P.underlying t = some (.slice e)) (hi : P.info? e = some i)
    (v : Value) (n : Nat) (xs : List Value) (hown : w.ownsRow base e size v n xs) (c : Nat) : (Builtin.append_ #[t, t] ty #[v, .slice none 0 c]).run P w = .ok v w := by
  rcases hown.2 with ⟨rfl, rfl⟩ | ⟨g, cap, cur, rfl, _, _, hnc, _⟩
  · simp [Builtin.append_, run_underlying ht, sizeOf, typeInfo, hi, Builtin.lenOf, Builtin.firstCells]
  · simp [Builtin.append_, run_underlying ht, sizeOf, typeInfo, hi, Builtin.lenOf, Builtin.firstCells, hnc, storeCells]
theorem run_append_any (base : Nat) (t ty e : TypeId) (i : TypeInfo) (z : Value) (size bytes : Nat) (ht : P.underlying t = some (.slice e)) (hi : P.info? e = some i) (hz : i.zero = some z)
    (hsize : i.size = size) (hby : i.bytes = bytes) (hzs : z.cells.size = size) (hsz : 0 < size)
    (v : Value) (n : Nat) (xs : List Value) (hown : w.ownsRow base e size v n xs)
    (B : Nat) (A : Option Addr) (m c : Nat) (news : List Value) (hr : Reads w B size A m news) (h1 : ∀ u ∈ news, u.oneCell' = true)
    (h63 : n + m ≤ maxLen) (hbytes : (n + m) * bytes ≤ 140737488355328) (hbase : base ≤ w.heap.size) :
    ∃ v' w', (Builtin.append_ #[t, t] ty #[v, .slice A m c]).run P w = .ok v' w' ∧ w'.ownsRow base e size v' (n + m) (xs ++ news) ∧ w.grownBy w' v.ownBlock ∧
      (v'.ownBlock = v.ownBlock ∨ v'.ownBlock = some w.heap.size) := by
  rcases A with _ | ad
  · have hm : m = 0 := by
      rcases Nat.eq_zero_or_pos m with h0 | h0
      · exact h0
      · obtain ⟨ad, h, _⟩ := hr.2 h0
        cases h
    subst hm
    have hn : news = [] := List.eq_nil_of_length_eq_zero (by simpa using hr.1)
    subst hn
    exact ⟨v, w, run_append_of_nil w base t ty e i size ht hi v n xs hown c, by simpa using hown, World.grownBy.refl w _, .inl rfl⟩
  · have hcells : ∀ j u, news[j]? = some u → w.cell? (ad.add j) = some u := by
      intro j u hu
      rcases Nat.eq_zero_or_pos m with h0 | h0
      · subst h0
        have hn : news = [] := List.eq_nil_of_length_eq_zero (by simpa using hr.1)
        subst hn
        simp at hu
      · obtain ⟨ad', h, _, hc⟩ := hr.2 h0
        injection h with h
        subst h
        exact hc j u hu
    obtain ⟨v', w', hrun, h2, h3, _, h5⟩ := run_append_own_at (P := P) w base t ty e i z size bytes ht hi hz hsize hby hzs hsz v n xs hown ad m c news hr.1 hcells h1 h63 hbytes hbase
    exact ⟨v', w', hrun, h2, h3, h5⟩
theorem wp_append_any {o : Oper} {a : Act} {K : Act → World → Prop} {Q : Exit → Act → World → Prop} (s x : Operand) (t : TypeId)
    (ho : o.op = .call { callee := .builtin .append, args := #[s, x], argTypes := #[t, t] })
    (base : Nat) (e : TypeId) (i : TypeInfo) (z : Value) (size bytes : Nat) (ht : P.underlying t = some (.slice e)) (hi : P.info? e = some i) (hz : i.zero = some z)
    (hsize : i.size = size) (hby : i.bytes = bytes) (hzs : z.cells.size = size) (hsz : 0 < size)
    (v : Value) (n : Nat) (xs : List Value) (hs : a.eval s = v) (hown : w.ownsRow base e size v n xs)
    (B : Nat) (A : Option Addr) (m c : Nat) (news : List Value) (hx : a.eval x = .slice A m c) (hr : Reads w B size A m news) (h1 : ∀ u ∈ news, u.oneCell' = true)
    (h63 : n + m ≤ maxLen) (hbytes : (n + m) * bytes ≤ 140737488355328) (hbase : base ≤ w.heap.size)
    (h : ∀ v' w', w'.ownsRow base e size v' (n + m) (xs ++ news) → w.grownBy w' v.ownBlock → (v'.ownBlock = v.ownBlock ∨ v'.ownBlock = some w.heap.size) → K (a.put o.dst v') w') : o.wp P a w K Q := by
  obtain ⟨v', w', hrun, h2, h3, h4⟩ := run_append_any (P := P) w base t o.type e i z size bytes ht hi hz hsize hby hzs hsz v n xs hown B A m c news hr h1 h63 hbytes hbase
  unfold Oper.wp execOp
  simp only [ho, resolve, invoke, builtin, Sem.run_bind, Sem.run_pure, Result.andThen_ok, List.map_toArray, List.map_cons, List.map_nil, hs, hx, hrun]
  exact h v' w' h2 h3 h4
theorem wpList_append_any {ops : Array Oper} {rest : List Oper} {o : Oper} {a : Act} {Q : Exit → Act → World → Prop} (hgd : o.guard = none) (s x : Operand) (t : TypeId)
    (ho : o.op = .call { callee := .builtin .append, args := #[s, x], argTypes := #[t, t] })
    (base : Nat) (e : TypeId) (i : TypeInfo) (z : Value) (size bytes : Nat) (ht : P.underlying t = some (.slice e)) (hi : P.info? e = some i) (hz : i.zero = some z)
    (hsize : i.size = size) (hby : i.bytes = bytes) (hzs : z.cells.size = size) (hsz : 0 < size)
    (v : Value) (n : Nat) (xs : List Value) (hs : a.eval s = v) (hown : w.ownsRow base e size v n xs)
    (B : Nat) (A : Option Addr) (m c : Nat) (news : List Value) (hx : a.eval x = .slice A m c) (hr : Reads w B size A m news) (h1 : ∀ u ∈ news, u.oneCell' = true)
    (h63 : n + m ≤ maxLen) (hbytes : (n + m) * bytes ≤ 140737488355328) (hbase : base ≤ w.heap.size)
    (h : ∀ v' w', w'.ownsRow base e size v' (n + m) (xs ++ news) → w.grownBy w' v.ownBlock → (v'.ownBlock = v.ownBlock ∨ v'.ownBlock = some w.heap.size) → wpList P ops Q rest (a.put o.dst v') w') : wpList P ops Q (o :: rest) a w :=
  wpList_plain hgd fun _ hK => wp_append_any w s x t ho base e i z size bytes ht hi hz hsize hby hzs hsz v n xs hs hown B A m c news hx hr h1 h63 hbytes hbase fun v' w' h2 h3 h4 => hK _ _ (h v' w' h2 h3 h4)
end
section
variable {α : Type} {cells : α → List Value} {s : Nat} {w w' : World} {B B' n : Nat} {A : Option Addr} {l : List α}
theorem addr_add (b o j : Nat) : (⟨b, o, none⟩ : Addr).add j = ⟨b, o + j, none⟩ := by
  unfold Addr.add
  split
  · rename_i h; subst h; rfl
  · rfl
end
open Go.ChangeAt Go.ChangeShapes Go.WideShapes
def inR (n lo hi : Int) : Bool := decide (lo ≤ n) && decide (n ≤ hi)
theorem inR_walk (n lo hi : Int) (W : World) : Calls Tryd.prog 40 #[.int .i64 n, .int .i64 lo, .int .i64 hi] W fun e W' => e = .returned (.bool (inR n lo hi)) ∧ W = W' := by
  cases h1 : decide (lo ≤ n)
  · have e1 : ¬ lo ≤ n := by simpa using h1
    go_enter Tryd.func40, Tryd.ntmps40
    go_wp2
    go_ret
    exact ⟨by simp [inR, h1], rfl⟩
  · go_enter Tryd.func40, Tryd.ntmps40
    go_wp2
    go_ret
    exact ⟨by simp [inR, h1], rfl⟩
def rightB (p : P4) : Bool := inR p.src 0 15 && inR p.dst 0 15 && inR p.sport 0 7 && inR p.dport 0 7
theorem right_walk (p : P4) (W : World) : Calls Tryd.prog 10 #[.agg #[.int .i64 p.src, .int .i64 p.dst, .int .i64 p.sport, .int .i64 p.dport]] W fun e W' => e = .returned (.bool (rightB p)) ∧ Below W.heap.size W W' := by
  cases e1 : inR p.src 0 15
  · go_enter Tryd.func10, Tryd.ntmps10
    go_wp2_with (go_at_call 40; refine (inR_walk _ _ _ _).mono ?_; rintro e w' ⟨rfl, rfl⟩)
    go_ret
    exact ⟨by simp [rightB, *], ((Below.refl _ _).alloc (Nat.le_refl _) _)⟩
  cases e2 : inR p.dst 0 15
  · go_enter Tryd.func10, Tryd.ntmps10
    go_wp2_with (go_at_call 40; refine (inR_walk _ _ _ _).mono ?_; rintro e w' ⟨rfl, rfl⟩)
    go_ret
    exact ⟨by simp [rightB, *], ((Below.refl _ _).alloc (Nat.le_refl _) _)⟩
  cases e3 : inR p.sport 0 7
  · go_enter Tryd.func10, Tryd.ntmps10
    go_wp2_with (go_at_call 40; refine (inR_walk _ _ _ _).mono ?_; rintro e w' ⟨rfl, rfl⟩)
    go_ret
    exact ⟨by simp [rightB, *], ((Below.refl _ _).alloc (Nat.le_refl _) _)⟩
  cases e4 : inR p.dport 0 7
  · go_enter Tryd.func10, Tryd.ntmps10
    go_wp2_with (go_at_call 40; refine (inR_walk _ _ _ _).mono ?_; rintro e w' ⟨rfl, rfl⟩)
    go_ret
    exact ⟨by simp [rightB, *], ((Below.refl _ _).alloc (Nat.le_refl _) _)⟩
  · go_enter Tryd.func10, Tryd.ntmps10
    go_wp2_with (go_at_call 40; refine (inR_walk _ _ _ _).mono ?_; rintro e w' ⟨rfl, rfl⟩)
    go_ret
    exact ⟨by simp [rightB, *], ((Below.refl _ _).alloc (Nat.le_refl _) _)⟩
open Go.Deep Go.Joins
section
variable {H : Type} {enc : TypeId × Value → H} {w : World} {base : Nat} {spare : Nat → Bool} {held : Bool} {r : Reach} {b0 : Nat}
end
end Go.Proofs.YtohbafigjpoijaaDoor
namespace Go.Proofs.YtohbafigjpoijaaDoor
open Go.RowKit
section
variable {α : Type} {cells : α → List Value} {s : Nat} {w w' : World} {B B' n : Nat} {A : Option Addr} {l : List α}
end
open Go.ChangeAt Go.ChangeShapes Go.WideShapes
theorem law_contract {P : Program} {f : FuncId} {fn : Func} {s : ChangeSpec} {H : Type} {enc : TypeId × Value → H} {tb : TypeId} {W : World} {args : Array Value} {ds gs : List (DataW H)} {before : List MemPlace}
    (hl : laidOutB P = true) (hread : (fn.params.toList.all fun t => P.readableRec t && decide (t < P.types.size)) = true) (hv : s.vars = []) (hr : fn.resultTypes = #[tb]) (hbool : P.underlying tb = some .bool)
    (hs : ∀ ds : List (DataW H), ds.length = fn.params.size → (s.fn H (ds ++ [])).results = [.lit (.bool true)] ∧ (s.fn H (ds ++ [])).args = ds ∧ (s.fn H (ds ++ [])).vars = [])
    (hW : DataW.Whole enc P fn.params.toList s.vars false W args.toList ds gs before)
    (walk : ∀ p : List MemPlace, gs = [] → DataW.TrodAll enc P W 0 (fun _ => true) true fn.params.toList args.toList ds p → (∀ x ∈ p, x.block < W.heap.size) → Calls P f args W fun e W' => e = .returned (.bool true) ∧ Below W.heap.size W W') :
    Calls P f args W fun e W' => ∃ v, e = .returned v ∧ s.post enc P fn false true false false W args v W' := by
  have hlt : ∀ p ∈ before, p.block < W.heap.size := fun p hp => hW.lt p hp
  have hW' := hW
  obtain ⟨p, q, hA, hV, rfl, hfz, hnd⟩ := hW
  have hg : gs = [] := by
    rw [hv] at hV
    cases gs with
    | nil => rfl
    | cons => exact hV.elim
  exact (walk p hg hA (fun x hx => hlt x (List.mem_append_left _ hx))).mono fun e W' ⟨he, hb⟩ => ⟨_, he, law_post hl hread hv hr hbool hs hW' hb⟩
theorem bulk_bound {H : Type} {l : List (DataW H)} (hk : Rows.uptoSmall H l = true) : Rows.uptoBulkAll l ≤ 1048576 := of_decide_eq_true hk
end Go.Proofs.YtohbafigjpoijaaDoor
namespace Go.Proofs.YtohbafigjpoijaaDoor
open Go.RowKit
theorem sz_list (s : ByteArray) : s.data.toList.length = s.size := Array.length_toList
theorem run_at {P : Program} (t : TypeId) (s : ByteArray) (k : Nat) (c : UInt8) (h : P.underlying t = some .string) (hc : s.data.toList[k]? = some c) (w : World) :
    (Instr.index t (.string s) (.int .i64 (k : Int))).run P w = .ok (.int .u8 (c.toNat : Int)) w := by
  obtain ⟨hlt, e⟩ := List.getElem?_eq_some_iff.1 hc
  rw [sz_list] at hlt
  rw [run_index_string w t s .i64 (k : Int) h, dif_pos ⟨by omega, by omega⟩]
  have : s[(k : Int).toNat]'(by simpa using hlt) = c := by rw [← e]; rfl
  rw [this]
theorem retI {a b : Int} (h : a = b) : Ending.returned (.int .i64 a) = Ending.returned (.int .i64 b) := by rw [h]
def isDig (c : UInt8) : Bool := decide (48 ≤ c.toNat) && decide (c.toNat ≤ 57)
def digs (l : List UInt8) : Nat := l.foldl (fun n c => n * 10 + (c.toNat - 48)) 0
theorem digs_snoc (l : List UInt8) (c : UInt8) : digs (l ++ [c]) = digs l * 10 + (c.toNat - 48) := by simp [digs]
theorem digs_lt (l : List UInt8) (h : ∀ c ∈ l, isDig c = true) : digs l < 10 ^ l.length := by
  rcases List.eq_nil_or_concat l with rfl | ⟨m, c, rfl⟩
  · decide
  · rw [List.concat_eq_append] at h ⊢
    have h1 := digs_lt m (fun x hx => h x (by simp [hx]))
    have h2 := h c (by simp)
    simp only [isDig, Bool.and_eq_true, decide_eq_true_eq] at h2
    rw [digs_snoc, List.length_append]
    simp only [List.length_cons, List.length_nil, Nat.zero_add, Nat.pow_succ]
    omega
termination_by l.length
decreasing_by simp [*]
def numeral (l : List UInt8) : Bool := decide (1 ≤ l.length) && decide (l.length ≤ 4) && l.all isDig && !(decide (l.head? = some 48) && decide (1 < l.length))
def numF (l : List UInt8) (most : Int) : Int := if numeral l = true ∧ (digs l : Int) < most then (digs l : Int) else -1
theorem numF_not {l : List UInt8} {most : Int} (h : numeral l = false) : numF l most = -1 := by simp [numF, h]
theorem take_at {l : List UInt8} {k : Nat} {c : UInt8} (h : l[k]? = some c) : l.take (k + 1) = l.take k ++ [c] := by
  rw [List.take_add_one, h]; rfl
theorem number_walk (s : ByteArray) (most : Int) (w : World) :
    Calls Tryd.prog 81 #[.string s, .int .i64 most] w fun e w' => e = .returned (.int .i64 (numF s.data.toList most)) ∧ w = w' := by
  obtain ⟨l, hl⟩ : ∃ l, s.data.toList = l := ⟨_, rfl⟩
  obtain ⟨n, hn⟩ : ∃ n, s.size = n := ⟨_, rfl⟩
  have hln : l.length = n := by rw [← hl, ← hn]; exact sz_list s
  rw [hl]
  have HAT := hide (fun (k : Nat) (c : UInt8) (h : l[k]? = some c) => run_at (P := Tryd.prog) 9 s k c Tryd.underlying9 (by rw [hl]; exact h))
  have HLN := hide hln
  clear hl hln
  go_enter Tryd.func81, Tryd.ntmps81
  by_cases h1 : n < 1
  · have d1 : (n : Int) < 1 := by omega
    go_wp2
    go_ret
    exact ⟨retI (numF_not (by have := HLN.out; simp [numeral]; omega)).symm, rfl⟩
  have d1 : decide ((n : Int) < 1) = false := by simp; omega
  by_cases h4 : 4 < n
  · have d4 : (4 : Int) < (n : Int) := by omega
    go_wp2
    go_ret
    exact ⟨retI (numF_not (by have := HLN.out; simp [numeral]; omega)).symm, rfl⟩
  have d4 : decide ((4 : Int) < (n : Int)) = false := by simp; omega
  obtain ⟨c0, hc0⟩ : ∃ c, l[0]? = some c := ⟨_, List.getElem?_eq_getElem (by have := HLN.out; omega)⟩
  have x0 : ∀ w', (Instr.index 9 (.string s) (.int .i64 0)).run Tryd.prog w' = .ok (.int .u8 (c0.toNat : Int)) w' := HAT.out 0 c0 hc0
  have hd0 : l.head? = some c0 := by rw [← hc0]; cases l <;> rfl
  by_cases hz : c0.toNat = 48 ∧ 1 < n
  · have e0 : ((c0.toNat : Int) == 48) = true := by simp; omega
    have d5 : (1 : Int) < (n : Int) := by omega
    go_wp2
    go_ret
    refine ⟨retI (numF_not ?_).symm, rfl⟩
    have := HLN.out
    have : c0 = 48 := UInt8.toNat_inj.1 hz.1
    subst this
    simp [numeral, hd0]
    omega
  have hcase : ((c0.toNat : Int) == 48) = false ∨ (((c0.toNat : Int) = 48) ∧ decide ((1 : Int) < (n : Int)) = false) := by
    by_cases h : c0.toNat = 48
    · right; exact ⟨by omega, by simp; omega⟩
    · left; simp; omega
  have hhead : (decide (l.head? = some 48) && decide (1 < l.length)) = false := by
    have hln := HLN.out
    rw [hd0, hln]
    by_cases h : 1 < n
    · have : c0 ≠ 48 := fun e => hz ⟨by rw [e]; rfl, h⟩
      simp [this]
    · simp [h]
  have HH := hide hhead
  clear hz hhead hd0
  rcases hcase with e0 | ⟨e0, e1⟩
  all_goals
    go_wp2_with fail
    go_loopw [5, 6, 27] (fun nv x i wr => ∃ k : Nat, k ≤ n ∧ i = .int .i64 (k : Int) ∧ nv = .int .i64 (digs (l.take k) : Int) ∧ Hid (∀ c ∈ l.take k, isDig c = true) ∧ wr = w) (fun _ _ i _ => n - (intOf i).toNat)
    case atStart => exact ⟨0, Nat.zero_le _, rfl, rfl, hide (by simp), rfl⟩
    case round =>
      obtain ⟨k, hk, rfl, rfl, HD, rfl⟩ := hrel
      by_cases hlt : k < n
      case pos =>
        obtain ⟨c, hc⟩ : ∃ c, l[k]? = some c := ⟨_, List.getElem?_eq_getElem (by have := HLN.out; omega)⟩
        have x1 : ∀ w', (Instr.index 9 (.string s) (.int .i64 (k : Int))).run Tryd.prog w' = .ok (.int .u8 (c.toNat : Int)) w' := HAT.out k c hc
        by_cases hd : isDig c = true
        case neg =>
          have hno : numeral l = false := by
            have : l.all isDig = false := by
              rw [Bool.eq_false_iff]
              intro h
              exact hd (List.all_eq_true.1 h c (List.mem_of_getElem? hc))
            simp [numeral, this]
          have hor : c.toNat < 48 ∨ 57 < c.toNat := by
            simp only [isDig, Bool.and_eq_true, decide_eq_true_eq] at hd
            omega
          clear hd hc
          rcases hor with h | h
          · have q1 : (c.toNat : Int) < 48 := by omega
            go_wp2
            go_ret
            exact ⟨retI (numF_not hno).symm, rfl⟩
          · have q1 : decide ((c.toNat : Int) < 48) = false := by simp; omega
            have q2 : (57 : Int) < (c.toNat : Int) := by omega
            go_wp2
            go_ret
            exact ⟨retI (numF_not hno).symm, rfl⟩
        case pos =>
          have hb := hd
          simp only [isDig, Bool.and_eq_true, decide_eq_true_eq] at hb
          have q1 : decide ((c.toNat : Int) < 48) = false := by simp; omega
          have q2 : decide ((57 : Int) < (c.toNat : Int)) = false := by simp; omega
          have hHD : Hid (∀ x ∈ l.take (k + 1), isDig x = true) := hide (fun x hx => by
            rw [take_at hc, List.mem_append] at hx
            rcases hx with hx | hx
            · exact HD.out x hx
            · rw [List.mem_singleton.1 hx]; exact hd)
          have hle : digs (l.take k) ≤ 999 := by
            have h1 := digs_lt _ HD.out
            have h2 : (l.take k).length ≤ 3 := by simp; omega
            have h3 : 10 ^ (l.take k).length ≤ 10 ^ 3 := Nat.pow_le_pow_right (by decide) h2
            omega
          have hsn := hide (show digs (l.take (k + 1)) = digs (l.take k) * 10 + (c.toNat - 48) by rw [take_at hc, digs_snoc])
          clear HD hd hc
          obtain ⟨D, hD⟩ : ∃ D, digs (l.take k) = D := ⟨_, rfl⟩
          rw [hD] at hle hsn ⊢
          clear hD
          obtain ⟨c1, hc1⟩ : ∃ x, c.toNat = x + 48 := ⟨c.toNat - 48, by omega⟩
          go_wp2_with fail
          go_roundw
          case rel =>
            exact ⟨k + 1, by omega, by go_num, congrArg (Value.int .i64) (by have := hsn.out; omega), hHD, trivial⟩
          case measure => simp [intOf]; omega
      case neg =>
        obtain rfl : k = n := by omega
        have hall : l.take k = l := List.take_of_length_le (by have := HLN.out; omega)
        rw [hall] at HD ⊢
        have hnum : numeral l = true := by
          have h1 := HLN.out
          have h2 := HH.out
          have h3 : l.all isDig = true := List.all_eq_true.2 HD.out
          simp only [numeral, h2, h3]
          simp; omega
        have hF := hide (show numF l most = if (digs l : Int) < most then (digs l : Int) else -1 by simp [numF, hnum])
        obtain ⟨D, hD⟩ : ∃ D, digs l = D := ⟨_, rfl⟩
        rw [hD] at hF ⊢
        clear HD hall hnum hD
        by_cases hm : (D : Int) < most
        · have q1 : decide (most ≤ (D : Int)) = false := by simp; omega
          go_wp2
          go_ret
          exact ⟨retI (by rw [hF.out, if_pos hm]), rfl⟩
        · have q1 : most ≤ (D : Int) := by omega
          go_wp2
          go_ret
          exact ⟨retI (by rw [hF.out, if_neg (by omega)]), rfl⟩
theorem inD_walk (a b c : Int) (w : World) : Calls Tryd.prog 40 #[.int .i64 a, .int .i64 b, .int .i64 c] w fun e w' => e = .returned (.bool (decide (b ≤ a) && decide (a ≤ c))) ∧ w = w' := by
  go_enter Tryd.func40, Tryd.ntmps40
  by_cases h : b ≤ a
  · by_cases h2 : a ≤ c
    · go_wp2
      go_ret
      exact ⟨by simp [h, h2], rfl⟩
    · have h3 : decide (a ≤ c) = false := by simp; omega
      go_wp2
      go_ret
      exact ⟨by simp [h, h2], rfl⟩
  · have h3 : decide (b ≤ a) = false := by simp; omega
    go_wp2
    go_ret
    exact ⟨by simp [h], rfl⟩
theorem digits_walk (s : ByteArray) (most : Int) (w : World) (hmost : most ≤ 1000000) :
    Calls Tryd.prog 47 #[.string s, .int .i64 most] w fun e w' => e = .returned (.int .i64 (numF s.data.toList (most + 1))) ∧ w = w' := by
  obtain ⟨l, hl⟩ : ∃ l, s.data.toList = l := ⟨_, rfl⟩
  obtain ⟨n, hn⟩ : ∃ n, s.size = n := ⟨_, rfl⟩
  have hln : l.length = n := by rw [← hl, ← hn]; exact sz_list s
  rw [hl]
  have HAT := hide (fun (k : Nat) (c : UInt8) (h : l[k]? = some c) => run_at (P := Tryd.prog) 9 s k c Tryd.underlying9 (by rw [hl]; exact h))
  have HLN := hide hln
  clear hl hln
  go_enter Tryd.func47, Tryd.ntmps47
  go_wp2_with fail
  go_loopw [5, 6] (fun nv i wr => ∃ k : Nat, k ≤ n ∧ k ≤ 5 ∧ i = .int .i64 (k : Int) ∧ nv = .int .i64 (digs (l.take k) : Int) ∧ Hid (∀ c ∈ l.take k, isDig c = true) ∧ wr = w) (fun _ i _ => 5 - (intOf i).toNat)
  case atStart => exact ⟨0, Nat.zero_le _, Nat.zero_le _, rfl, rfl, hide (by simp), rfl⟩
  case round =>
    obtain ⟨k, hk, hk5, rfl, rfl, HD, rfl⟩ := hrel
    by_cases hlt : k < n ∧ k < 5
    case pos =>
      obtain ⟨hlt, hlt5⟩ := hlt
      obtain ⟨c, hc⟩ : ∃ c, l[k]? = some c := ⟨_, List.getElem?_eq_getElem (by have := HLN.out; omega)⟩
      have x1 : ∀ w', (Instr.index 9 (.string s) (.int .i64 (k : Int))).run Tryd.prog w' = .ok (.int .u8 (c.toNat : Int)) w' := HAT.out k c hc
      by_cases hd : isDig c = true
      case neg =>
        have hno : numeral l = false := by
          have : l.all isDig = false := by
            rw [Bool.eq_false_iff]
            intro h
            exact hd (List.all_eq_true.1 h c (List.mem_of_getElem? hc))
          simp [numeral, this]
        have hor : c.toNat < 48 ∨ 57 < c.toNat := by
          simp only [isDig, Bool.and_eq_true, decide_eq_true_eq] at hd
          omega
        clear hd hc
        rcases hor with h | h
        · have q1 : (c.toNat : Int) < 48 := by omega
          go_wp2
          go_ret
          exact ⟨retI (numF_not hno).symm, rfl⟩
        · have q1 : decide ((c.toNat : Int) < 48) = false := by simp; omega
          have q2 : (57 : Int) < (c.toNat : Int) := by omega
          go_wp2
          go_ret
          exact ⟨retI (numF_not hno).symm, rfl⟩
      case pos =>
        have hb := hd
        simp only [isDig, Bool.and_eq_true, decide_eq_true_eq] at hb
        have q1 : decide ((c.toNat : Int) < 48) = false := by simp; omega
        have q2 : decide ((57 : Int) < (c.toNat : Int)) = false := by simp; omega
        have hHD : Hid (∀ x ∈ l.take (k + 1), isDig x = true) := hide (fun x hx => by
          rw [take_at hc, List.mem_append] at hx
          rcases hx with hx | hx
          · exact HD.out x hx
          · rw [List.mem_singleton.1 hx]; exact hd)
        have hle : digs (l.take k) ≤ 9999 := by
          have h1 := digs_lt _ HD.out
          have h2 : (l.take k).length ≤ 4 := by simp; omega
          have h3 : 10 ^ (l.take k).length ≤ 10 ^ 4 := Nat.pow_le_pow_right (by decide) h2
          omega
        have hsn := hide (show digs (l.take (k + 1)) = digs (l.take k) * 10 + (c.toNat - 48) by rw [take_at hc, digs_snoc])
        clear HD hd hc
        obtain ⟨D, hD⟩ : ∃ D, digs (l.take k) = D := ⟨_, rfl⟩
        rw [hD] at hle hsn ⊢
        clear hD
        obtain ⟨c1, hc1⟩ : ∃ x, c.toNat = x + 48 := ⟨c.toNat - 48, by omega⟩
        go_wp2_with fail
        go_roundw
        case rel =>
          refine ⟨k + 1, by omega, by omega, by go_num, congrArg (Value.int .i64) (by have := hsn.out; omega), hHD, trivial⟩
        case measure => simp [intOf]; omega
    case neg =>
      have hcut : decide (k < n) = false ∨ (k = 5 ∧ 5 < n) := by
        by_cases h : k < n
        · right; exact ⟨by omega, by omega⟩
        · left; simp; omega
      have HNUM := hide (show numF l (most + 1) = if (1 ≤ n ∧ n ≤ 4) ∧ ¬ (1 < n ∧ l.head? = some 48) ∧ (digs (l.take k) : Int) ≤ most then (digs (l.take k) : Int) else -1 from by
        have hln := HLN.out
        by_cases h4 : 1 ≤ n ∧ n ≤ 4
        · have hkn : k = n := by omega
          have hall : l.take k = l := List.take_of_length_le (by omega)
          have h3 : l.all isDig = true := List.all_eq_true.2 (by rw [← hall]; exact HD.out)
          rw [hall]
          by_cases hh : 1 < n ∧ l.head? = some 48
          · rw [numF_not (by simp [numeral, hh.2]; omega), if_neg (fun h => h.2.1 hh)]
          · have hnum : numeral l = true := by
              have : (decide (l.head? = some 48) && decide (1 < l.length)) = false := by
                rw [Bool.eq_false_iff]; intro h
                simp only [Bool.and_eq_true, decide_eq_true_eq] at h
                exact hh ⟨by omega, h.1⟩
              show (decide (1 ≤ l.length) && decide (l.length ≤ 4) && l.all isDig && !(decide (l.head? = some 48) && decide (1 < l.length))) = true
              rw [this, h3, decide_eq_true (show 1 ≤ l.length by omega), decide_eq_true (show l.length ≤ 4 by omega)]
              rfl
            by_cases hm : (digs l : Int) ≤ most
            · rw [if_pos (show (1 ≤ n ∧ n ≤ 4) ∧ ¬ (1 < n ∧ l.head? = some 48) ∧ (digs l : Int) ≤ most from ⟨by omega, hh, hm⟩), numF, if_pos (show numeral l = true ∧ (digs l : Int) < most + 1 from ⟨hnum, by omega⟩)]
            · rw [if_neg (fun h => hm h.2.2), numF, if_neg (show ¬ (numeral l = true ∧ (digs l : Int) < most + 1) from fun h => hm (by omega))]
        · rw [numF_not (show numeral l = false by simp [numeral]; omega), if_neg (show ¬ ((1 ≤ n ∧ n ≤ 4) ∧ ¬ (1 < n ∧ l.head? = some 48) ∧ (digs (l.take k) : Int) ≤ most) from fun h => h4 h.1)])
      clear hlt HD
      obtain ⟨D, hD⟩ : ∃ D, digs (l.take k) = D := ⟨_, rfl⟩
      rw [hD] at HNUM ⊢
      clear hD
      by_cases hin : 1 ≤ n ∧ n ≤ 4
      case neg =>
        have HI := hide (HNUM.out.trans (if_neg (fun h => hin h.1)))
        have HC := hide (fun w => show Calls Tryd.prog 40 #[.int .i64 (n : Int), .int .i64 1, .int .i64 4] w fun e w' => e = .returned (.bool false) ∧ w = w' from
          (inD_walk (n : Int) 1 4 w).mono fun e w' ⟨h1, h2⟩ => ⟨by rw [h1]; congr; simp; omega, h2⟩)
        clear hin HNUM
        rcases hcut with q | ⟨rfl, q⟩
        all_goals
          go_wp2_with (go_at_call 40; refine (HC.out _).mono ?_; rintro e w1 ⟨rfl, rfl⟩)
          go_ret
          exact ⟨retI HI.out.symm, rfl⟩
      case pos =>
        have HC := hide (fun w => show Calls Tryd.prog 40 #[.int .i64 (n : Int), .int .i64 1, .int .i64 4] w fun e w' => e = .returned (.bool true) ∧ w = w' from
          (inD_walk (n : Int) 1 4 w).mono fun e w' ⟨h1, h2⟩ => ⟨by rw [h1]; congr; simp; omega, h2⟩)
        obtain ⟨c0, hc0⟩ : ∃ c, l[0]? = some c := ⟨_, List.getElem?_eq_getElem (by have := HLN.out; omega)⟩
        have x0 : ∀ w', (Instr.index 9 (.string s) (.int .i64 0)).run Tryd.prog w' = .ok (.int .u8 (c0.toNat : Int)) w' := HAT.out 0 c0 hc0
        have hd0 : l.head? = some c0 := by rw [← hc0]; cases l <;> rfl
        by_cases hm : (D : Int) ≤ most
        case neg =>
          have q2 : most < (D : Int) := by omega
          have HI := hide (HNUM.out.trans (if_neg (fun h => hm h.2.2)))
          clear hm HNUM
          have q := hcut.resolve_right (fun h => by omega)
          all_goals
            go_wp2_with (go_at_call 40; refine (HC.out _).mono ?_; rintro e w1 ⟨rfl, rfl⟩)
            go_ret
            exact ⟨retI HI.out.symm, rfl⟩
        case pos =>
          have q2 : decide (most < (D : Int)) = false := by simp; omega
          by_cases h1 : 1 < n
          case neg =>
            have q3 : decide ((1 : Int) < (n : Int)) = false := by simp; omega
            have HI := hide (HNUM.out.trans (if_pos ⟨hin, fun h => h1 h.1, hm⟩))
            clear HNUM
            have q := hcut.resolve_right (fun h => by omega)
            all_goals
              go_wp2_with (go_at_call 40; refine (HC.out _).mono ?_; rintro e w1 ⟨rfl, rfl⟩)
              go_ret
              exact ⟨retI HI.out.symm, rfl⟩
          case pos =>
            have q3 : (1 : Int) < (n : Int) := by omega
            by_cases hz : c0.toNat = 48
            · have q4 : (c0.toNat : Int) = 48 := by omega
              have hc48 : c0 = 48 := UInt8.toNat_inj.1 hz
              have HI := hide (HNUM.out.trans (if_neg (show ¬ ((1 ≤ n ∧ n ≤ 4) ∧ ¬ (1 < n ∧ l.head? = some 48) ∧ (D : Int) ≤ most) from fun h => h.2.1 ⟨h1, by rw [hd0, hc48]⟩)))
              clear hc48 hc0 hd0 hz HNUM
              have q := hcut.resolve_right (fun h => by omega)
              all_goals
                go_wp2_with (go_at_call 40; refine (HC.out _).mono ?_; rintro e w1 ⟨rfl, rfl⟩)
                go_ret
                exact ⟨retI HI.out.symm, rfl⟩
            · have q4 : ((c0.toNat : Int) == 48) = false := by simp; omega
              have HI := hide (HNUM.out.trans (if_pos (show ((1 ≤ n ∧ n ≤ 4) ∧ ¬ (1 < n ∧ l.head? = some 48) ∧ (D : Int) ≤ most) from ⟨hin, fun h => hz (by rw [hd0] at h; rw [Option.some.inj h.2]; rfl), hm⟩)))
              clear hc0 hd0 hz HNUM
              have q := hcut.resolve_right (fun h => by omega)
              all_goals
                go_wp2_with (go_at_call 40; refine (HC.out _).mono ?_; rintro e w1 ⟨rfl, rfl⟩)
                go_ret
                exact ⟨retI HI.out.symm, rfl⟩
end Go.Proofs.YtohbafigjpoijaaDoor
