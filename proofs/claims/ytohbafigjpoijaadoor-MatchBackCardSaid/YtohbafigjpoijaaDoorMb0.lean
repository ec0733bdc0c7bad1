/- A part of the proof: G1, St1, St2, St3. -/
import Derived.Test.YtohbafigjpoijaaDoorRows
import Derived.ProofKit
import Derived.SizedLaws
import Derived.Laws.BitsAllLaws
import Derived.Laws.BitsLemmas
import Derived.WalkKit
import Derived.Outline
import Derived.BigQuiet
import Derived.Lib.Hide
import Derived.WalkLawsBesides
import Derived.Below
import Derived.Lib.SmallJoins
import Derived.OpenShut
import Derived.Laws.OwnMore
import Derived.Deep.AppendLies
import Derived.Deep.Draws
import Derived.Maps.AppendAt
import Derived.RegionTactic
import Derived.OwnWalk
import Derived.WalkSpells
import Derived.Deep.Slices
import Derived.Deep.Fields
import Derived.JoinedCond
import Derived.Laws.Concat
import Derived.Lib.IndexMore
import Derived.Lib.ItoaNum
set_option linter.unusedVariables false
set_option linter.unusedSimpArgs false
set_option maxRecDepth 100000
set_option maxHeartbeats 4000000
namespace Go.Proofs.YtohbafigjpoijaaDoor
theorem nrmA {α : Type} {l : List α} {i : Nat} {a : α} : l.toArray.setIfInBounds i a = (l.set i a).toArray := List.setIfInBounds_toArray _ _ _
theorem nrmB {α : Type} {x : α} {xs : List α} {a : α} : (x :: xs).set 0 a = a :: xs := List.set_cons_zero
theorem nrmC {α : Type} {x : α} {xs : List α} {n : Nat} {a : α} : (x :: xs).set (n + 1) a = x :: xs.set n a := List.set_cons_succ
open Go.ChangeAt Go.ChangeShapes Go.RowKit Go.WideShapes
theorem Tryd.own : ownKnob Tryd.prog.godebug = none := by kernel_rfl
theorem Tryd.laidOut : laidOutB Tryd.prog = true := by kernel_rfl
section
variable {H : Type} {enc : TypeId × Value → H} {P : Program}
theorem trodAll_below (hl : laidOutB P = true) {W W' : World} (hb : Below W.heap.size W W') : ∀ (ts : List TypeId) (vs : List Value) (ds : List (DataW H)) (ps : List MemPlace),
    (ts.all fun t => P.readableRec t && decide (t < P.types.size)) = true → DataW.TrodAll enc P W 0 (fun _ => true) true ts vs ds ps → (∀ x ∈ ps, x.block < W.heap.size) →
    DataW.TrodAll enc P W' 0 (fun b => decide (b < W.heap.size)) true ts vs ds ps := by
  intro ts
  induction ts with
  | nil => intro vs ds ps _ h _; cases vs <;> cases ds <;> first | exact h | exact h.elim
  | cons t ts ih =>
    intro vs ds ps hr h hlt
    match vs, ds, h with
    | v :: vs, d :: ds, h =>
      obtain ⟨p, q, h1, h2, rfl⟩ := h
      simp only [List.all_cons, Bool.and_eq_true, decide_eq_true_eq] at hr
      exact ⟨p, q, Below.trod hl hr.1.1 hr.1.2 h1 hb (fun x hx => hlt x (List.mem_append_left _ hx)), ih vs ds q (by simpa using hr.2) h2 (fun x hx => hlt x (List.mem_append_right _ hx)), rfl⟩
theorem trodAll_length {w : World} {base : Nat} {spare : Nat → Bool} {held : Bool} : ∀ (ts : List TypeId) (vs : List Value) (ds : List (DataW H)) (ps : List MemPlace), DataW.TrodAll enc P w base spare held ts vs ds ps → ds.length = ts.length := by
  intro ts
  induction ts with
  | nil => intro vs ds ps h; cases vs <;> cases ds <;> first | rfl | exact h.elim
  | cons t ts ih =>
    intro vs ds ps h
    match vs, ds, h with
    | v :: vs, d :: ds, h =>
      obtain ⟨p, q, h1, h2, rfl⟩ := h
      simp [ih vs ds q h2]
theorem law_post {fn : Func} {s : ChangeSpec} {W W' : World} {args : Array Value} {ds gs : List (DataW H)} {before : List MemPlace} {tb : TypeId} (hl : laidOutB P = true)
    (hread : (fn.params.toList.all fun t => P.readableRec t && decide (t < P.types.size)) = true) (hv : s.vars = []) (hr : fn.resultTypes = #[tb]) (hbool : P.underlying tb = some .bool)
    (hs : ∀ ds : List (DataW H), ds.length = fn.params.size → (s.fn H (ds ++ [])).results = [.lit (.bool true)] ∧ (s.fn H (ds ++ [])).args = ds ∧ (s.fn H (ds ++ [])).vars = [])
    (hW : DataW.Whole enc P fn.params.toList s.vars false W args.toList ds gs before) (hb : Below W.heap.size W W') :
    s.post enc P fn false true false false W args (.bool true) W' := by
  have hlt : ∀ p ∈ before, p.block < W.heap.size := fun p hp => hW.lt p hp
  have hW' := hW
  obtain ⟨p, q, hA, hV, rfl, hfz, hnd⟩ := hW
  have hgq : gs = [] ∧ q = [] := by
    rw [hv] at hV
    cases gs with
    | nil => exact ⟨rfl, hV⟩
    | cons => exact hV.elim
  obtain ⟨rfl, rfl⟩ := hgq
  have hlen : ds.length = fn.params.size := by rw [trodAll_length _ _ _ _ hA]; simp
  obtain ⟨e1, e2, e3⟩ := hs ds hlen
  refine ⟨ds, [], p ++ [], [], p, [], hW', ?_, ?_, ?_, World.keptBut_mono (fun p hp => ?_) (hb.frame (· ∈ p ++ [])), fun h => by cases h⟩
  · rw [e1, hr]
    exact trodAll_mk1 (shut_bool hbool _)
  · rw [e2]
    exact trodAll_below hl hb _ _ _ _ hread hA (fun x hx => hlt x (List.mem_append_left _ hx))
  · rw [e3, hv]
    rfl
  · exact ⟨hp, by simpa using hp⟩
end
end Go.Proofs.YtohbafigjpoijaaDoor
namespace Go.Proofs.YtohbafigjpoijaaDoor
open Go.RowKit
theorem ofInt_nat (n a : Nat) (ha : a < 2 ^ n) : (BitVec.ofInt n (a : Int)).toNat = a := by
  rw [BitVec.ofInt_natCast, BitVec.toNat_ofNat]; exact Nat.mod_eq_of_lt ha
theorem u16_and (a b : Nat) (ha : a < 65536) (hb : b < 65536) : bits .and .u16 (a : Int) (b : Int) = ((a &&& b : Nat) : Int) := by
  have hx : a &&& b < 2 ^ 16 := Nat.and_lt_two_pow _ (by omega)
  show IntKind.u16.wrap ((BitVec.ofInt 16 (a : Int) &&& BitVec.ofInt 16 (b : Int)).toNat : Int) = _
  rw [BitVec.toNat_and, ofInt_nat 16 a ha, ofInt_nat 16 b hb]
  simp only [IntKind.wrap, IntKind.signed, IntKind.bits]
  simp
  omega
theorem u16_or (a b : Nat) (ha : a < 65536) (hb : b < 65536) : bits .or .u16 (a : Int) (b : Int) = ((a ||| b : Nat) : Int) := by
  have hx : a ||| b < 2 ^ 16 := Nat.or_lt_two_pow (by omega) (by omega)
  show IntKind.u16.wrap ((BitVec.ofInt 16 (a : Int) ||| BitVec.ofInt 16 (b : Int)).toNat : Int) = _
  rw [BitVec.toNat_or, ofInt_nat 16 a ha, ofInt_nat 16 b hb]
  simp only [IntKind.wrap, IntKind.signed, IntKind.bits]
  simp
  omega
theorem testBit_div (s k : Nat) : (s / 2 ^ k &&& 1 == 1) = s.testBit k := by
  rw [Nat.testBit_eq_decide_div_mod_eq, Nat.and_one_is_mod]
  by_cases h : s / 2 ^ k % 2 = 1 <;> simp [h]
theorem div_pow_cast (s k : Nat) : ((s : Int) / 2 ^ k) = ((s / 2 ^ k : Nat) : Int) := by
  rw [Int.natCast_ediv]; simp
theorem bit_u16 (s k : Nat) (hs : s < 65536) : (bits .and .u16 ((s : Int) / 2 ^ k) 1 == 1) = s.testBit k := by
  have h1 : s / 2 ^ k < 65536 := Nat.lt_of_le_of_lt (Nat.div_le_self _ _) hs
  have := u16_and (s / 2 ^ k) 1 h1 (by omega)
  rw [div_pow_cast, show (1 : Int) = ((1 : Nat) : Int) from rfl, this, ← testBit_div]
  by_cases h : s / 2 ^ k &&& 1 = 1
  · simp [h]
  · rw [Bool.eq_iff_iff]
    simp only [beq_iff_eq]
    omega
open Go.ChangeAt Go.ChangeShapes Go.WideShapes
structure M4 where
  src : Nat
  dst : Nat
  sport : Nat
  dport : Nat
def M4.ok (m : M4) : Prop := m.src < 65536 ∧ m.dst < 65536 ∧ m.sport < 256 ∧ m.dport < 256
end Go.Proofs.YtohbafigjpoijaaDoor
namespace Go.Proofs.YtohbafigjpoijaaDoor
open Go.RowKit
theorem wp_region_fam {P : Program} {T : Type} (g : T → World) {id : Nat} {Q : Exit → Act → World → Prop} {a : Act} {w : World} {l : List Oper} (hm : P.follows .mixedOrders = true) (hB : Region.lexB .any l.toArray = true)
    (h0 : ∃ t, { w with drawn := w.drawn + 1 } = g t) (h : wpQuiet P l.toArray (fun w' => ∃ t, w' = g t) (fun a' => ∀ w', (∃ t, w' = g t) → Q .normal a' w') l a) : (Code.region id l.toArray true).wp P Q a w :=
  wp_region_quiet (C := fun w' => ∃ t, w' = g t) hm hB h0 (by simpa using h)
theorem wp_region_abs {P : Program} {id : Nat} {Q : Exit → Act → World → Prop} {a : Act} {w : World} {l : List Oper} (hm : P.follows .mixedOrders = true) (hB : Region.lexB .any l.toArray = true)
    (h : ∀ (T : Type) [Nonempty T] (g : T → World), (∀ t, Below w.heap.size w (g t)) → (∀ w', Below w.heap.size w w' → ∃ t, w' = g t) →
      wpQuiet P l.toArray (fun w' => ∃ t, w' = g t) (fun a' => ∀ w', (∃ t, w' = g t) → Q .normal a' w') l a) : (Code.region id l.toArray true).wp P Q a w :=
  wp_region_fam (T := { w' : World // Below w.heap.size w w' }) Subtype.val hm hB ⟨⟨w.drew, (Below.refl _ _).drew⟩, rfl⟩ (@h { w' : World // Below w.heap.size w w' } ⟨⟨w, Below.refl _ _⟩⟩ Subtype.val Subtype.property (fun w' hw => ⟨⟨w', hw⟩, rfl⟩))
theorem inAbs {P : Program} {f : FuncId} {args : Array Value} {W : World} {T : Type} {g : T → World} (hg : ∀ t, Below W.heap.size W (g t)) (hgi : ∀ w', Below W.heap.size W w' → ∃ t, w' = g t) {t : T} {v : Value}
    (h : Calls P f args (g t) fun e w' => e = .returned v ∧ Below (g t).heap.size (g t) w') : Calls P f args (g t) fun e w'' => e = .returned v ∧ ∃ s, w'' = g s :=
  h.mono fun _ w' ⟨he, hw⟩ => ⟨he, hgi w' ((hg t).trans (hw.mono (hg t).size))⟩
theorem hide {p : Prop} (h : p) : Hid p := h
open Go.ChangeAt Go.ChangeShapes Go.Joins Go.WideShapes
theorem Tryd.cellsMatch : Tryd.prog.cellsOf 42 = 4 := by kernel_rfl
section
variable {H : Type} {enc : TypeId × Value → H} {w : World} {base : Nat} {spare : Nat → Bool} {held : Bool} {r : Reach} {b0 : Nat}
theorem wf_nat_u16 {k : Int} (h : (Lit.int .u16 k).wf = true) : ∃ n : Nat, k = n ∧ n < 65536 := by
  have hx : 0 ≤ k ∧ k ≤ 65535 := by simpa [Lit.wf, IntKind.min, IntKind.max, IntKind.signed, IntKind.bits] using h
  exact ⟨k.toNat, by omega, by omega⟩
theorem wf_nat_u8 {k : Int} (h : (Lit.int .u8 k).wf = true) : ∃ n : Nat, k = n ∧ n < 256 := by
  have hx : 0 ≤ k ∧ k ≤ 255 := by simpa [Lit.wf, IntKind.min, IntKind.max, IntKind.signed, IntKind.bits] using h
  exact ⟨k.toNat, by omega, by omega⟩
theorem trod_u16 {n : Nat} {v : Value} {y : DataW H × List MemPlace} (h : DataW.trod enc Tryd.prog w base spare held n 40 [v] = some y) : ∃ k : Nat, v = .int .u16 k ∧ k < 65536 := by
  obtain ⟨a, e0, rfl, wa⟩ := DataW.trod_int Tryd.underlying40 h
  obtain ⟨k, rfl, hk⟩ := wf_nat_u16 wa
  exact ⟨k, by simpa using e0, hk⟩
theorem trod_u8 {n : Nat} {v : Value} {y : DataW H × List MemPlace} (h : DataW.trod enc Tryd.prog w base spare held n 5 [v] = some y) : ∃ k : Nat, v = .int .u8 k ∧ k < 256 := by
  obtain ⟨a, e0, rfl, wa⟩ := DataW.trod_int Tryd.underlying5 h
  obtain ⟨k, rfl, hk⟩ := wf_nat_u8 wa
  exact ⟨k, by simpa using e0, hk⟩
theorem open_match {v : Value} {d : DataW H} {p : List MemPlace} (hv : Value.okWide Tryd.prog w r b0 42 v) (h : DataW.Trod enc Tryd.prog w base spare held 42 v d p) :
    ∃ a b c d : Nat, v = .agg #[.int .u16 a, .int .u16 b, .int .u8 c, .int .u8 d] ∧ a < 65536 ∧ b < 65536 ∧ c < 256 ∧ d < 256 := by
  obtain ⟨c0, c1, c2, c3, y0, y1, y2, y3, m, rfl, rfl, rfl, h0, h1, h2, h3⟩ := open_agg4 Tryd.underlying42 (by kernel_rfl) Tryd.cellsMatch hv h
  obtain ⟨a, rfl, ha⟩ := trod_u16 h0
  obtain ⟨b, rfl, hb⟩ := trod_u16 h1
  obtain ⟨c, rfl, hc⟩ := trod_u8 h2
  obtain ⟨d, rfl, hd⟩ := trod_u8 h3
  exact ⟨a, b, c, d, rfl, ha, hb, hc, hd⟩
end
theorem args_nil {H : Type} {enc : TypeId × Value → H} {P : Program} {w : World} {base : Nat} {sp : Nat → Bool} {hd : Bool} {vs : List Value} {ds : List (DataW H)} {p : List MemPlace} (h : DataW.TrodAll enc P w base sp hd [] vs ds p) : vs = [] ∧ ds = [] ∧ p = [] := by
  cases vs <;> cases ds <;> first | exact ⟨rfl, rfl, h⟩ | exact h.elim
theorem args_cons {H : Type} {enc : TypeId × Value → H} {P : Program} {w : World} {base : Nat} {sp : Nat → Bool} {hd : Bool} {t : TypeId} {ts : List TypeId} {vs : List Value} {ds : List (DataW H)} {p : List MemPlace} (h : DataW.TrodAll enc P w base sp hd (t :: ts) vs ds p) :
    ∃ v vs' d ds' p0 q, vs = v :: vs' ∧ ds = d :: ds' ∧ p = p0 ++ q ∧ DataW.Trod enc P w base sp hd t v d p0 ∧ DataW.TrodAll enc P w base sp hd ts vs' ds' q := by
  match vs, ds, h with
  | v :: vs, d :: ds, h =>
    obtain ⟨p0, q, h1, h2, rfl⟩ := h
    exact ⟨v, vs, d, ds, p0, q, rfl, rfl, rfl, h1, h2⟩
theorem arr_eq {a b : Array Value} (h : a.toList = b.toList) : a = b := by cases a; cases b; simp_all
end Go.Proofs.YtohbafigjpoijaaDoor
namespace Go.Proofs.YtohbafigjpoijaaDoor
open Go.ChangeAt Go.ChangeShapes Go.RowKit Go.WideShapes
end Go.Proofs.YtohbafigjpoijaaDoor
namespace Go.Proofs.YtohbafigjpoijaaDoor
open Go.RowKit
def Reads (w : World) (B size : Nat) (A : Option Addr) (n : Nat) (xs : List Value) : Prop :=
  xs.length = n * size ∧ (0 < n → ∃ ad, A = some ad ∧ ad.block < B ∧ ∀ j u, xs[j]? = some u → w.cell? (ad.add j) = some u)
section
variable {w w' : World} {B B' size n : Nat} {A : Option Addr} {xs : List Value}
end
section
variable {P : Program} (w : World)
theorem run_append_of_nil (base : Nat) (t ty e : TypeId) (i : TypeInfo) (size : Nat) (ht : P.underlying t = some (.slice e)) (hi : P.info? e = some i)
    (v : Value) (n : Nat) (xs : List Value) (hown : w.ownsRow base e size v n xs) (c : Nat) : (Builtin.append_ #[t, t] ty #[v, .slice none 0 c]).run P w = .ok v w := by
  rcases hown.2 with ⟨rfl, rfl⟩ | ⟨g, cap, cur, rfl, _, _, hnc, _⟩
  · simp [Builtin.append_, run_underlying ht, sizeOf, typeInfo, hi, Builtin.lenOf, Builtin.firstCells]
  · simp [Builtin.append_, run_underlying ht, sizeOf, typeInfo, hi, Builtin.lenOf, Builtin.firstCells, hnc, storeCells]
theorem run_append_any (base : Nat) (t ty e : TypeId) (i : TypeInfo) (z : Value) (size bytes : Nat) (ht : P.underlying t = some (.slice e)) (hi : P.info? e = some i) (hz : i.zero = some z)
    (hsize : i.size = size) (hby : i.bytes = bytes) (hzs : z.cells.size = size) (hsz : 0 < size)
    (v : Value) (n : Nat) (xs : List Value) (hown : w.ownsRow base e size v n xs)
    (B : Nat) (A : Option Addr) (m c : Nat) (news : List Value) (hr : Reads w B size A m news) (h1 : ∀ u ∈ news, u.oneCell' = true)
    (h63 : n + m ≤ maxLen) (hbytes : (n + m) * bytes ≤ 140737488355328) (hbase : base ≤ w.heap.size) :
    ∃ v' w', (Builtin.append_ #[t, t] ty #[v, .slice A m c]).run P w = .ok v' w' ∧ w'.ownsRow base e size v' (n + m) (xs ++ news) ∧ w.grownBy w' v.ownBlock ∧
      (v'.ownBlock = v.ownBlock ∨ v'.ownBlock = some w.heap.size) := by
  rcases A with _ | ad
  · have hm : m = 0 := by
      rcases Nat.eq_zero_or_pos m with h0 | h0
      · exact h0
      · obtain ⟨ad, h, _⟩ := hr.2 h0
        cases h
    subst hm
    have hn : news = [] := List.eq_nil_of_length_eq_zero (by simpa using hr.1)
    subst hn
    exact ⟨v, w, run_append_of_nil w base t ty e i size ht hi v n xs hown c, by simpa using hown, World.grownBy.refl w _, .inl rfl⟩
  · have hcells : ∀ j u, news[j]? = some u → w.cell? (ad.add j) = some u := by
      intro j u hu
      rcases Nat.eq_zero_or_pos m with h0 | h0
      · subst h0
        have hn : news = [] := List.eq_nil_of_length_eq_zero (by simpa using hr.1)
        subst hn
        simp at hu
      · obtain ⟨ad', h, _, hc⟩ := hr.2 h0
        injection h with h
        subst h
        exact hc j u hu
    obtain ⟨v', w', hrun, h2, h3, _, h5⟩ := run_append_own_at (P := P) w base t ty e i z size bytes ht hi hz hsize hby hzs hsz v n xs hown ad m c news hr.1 hcells h1 h63 hbytes hbase
    exact ⟨v', w', hrun, h2, h3, h5⟩
theorem wp_append_any {o : Oper} {a : Act} {K : Act → World → Prop} {Q : Exit → Act → World → Prop} (s x : Operand) (t : TypeId)
    (ho : o.op = .call { callee := .builtin .append, args := #[s, x], argTypes := #[t, t] })
    (base : Nat) (e : TypeId) (i : TypeInfo) (z : Value) (size bytes : Nat) (ht : P.underlying t = some (.slice e)) (hi : P.info? e = some i) (hz : i.zero = some z)
    (hsize : i.size = size) (hby : i.bytes = bytes) (hzs : z.cells.size = size) (hsz : 0 < size)
    (v : Value) (n : Nat) (xs : List Value) (hs : a.eval s = v) (hown : w.ownsRow base e size v n xs)
    (B : Nat) (A : Option Addr) (m c : Nat) (news : List Value) (hx : a.eval x = .slice A m c) (hr : Reads w B size A m news) (h1 : ∀ u ∈ news, u.oneCell' = true)
    (h63 : n + m ≤ maxLen) (hbytes : (n + m) * bytes ≤ 140737488355328) (hbase : base ≤ w.heap.size)
    (h : ∀ v' w', w'.ownsRow base e size v' (n + m) (xs ++ news) → w.grownBy w' v.ownBlock → (v'.ownBlock = v.ownBlock ∨ v'.ownBlock = some w.heap.size) → K (a.put o.dst v') w') : o.wp P a w K Q := by
  obtain ⟨v', w', hrun, h2, h3, h4⟩ := run_append_any (P := P) w base t o.type e i z size bytes ht hi hz hsize hby hzs hsz v n xs hown B A m c news hr h1 h63 hbytes hbase
  unfold Oper.wp execOp
  simp only [ho, resolve, invoke, builtin, Sem.run_bind, Sem.run_pure, Result.andThen_ok, List.map_toArray, List.map_cons, List.map_nil, hs, hx, hrun]
  exact h v' w' h2 h3 h4
theorem wpList_append_any {ops : Array Oper} {rest : List Oper} {o : Oper} {a : Act} {Q : Exit → Act → World → Prop} (hgd : o.guard = none) (s x : Operand) (t : TypeId)
    (ho : o.op = .call { callee := .builtin .append, args := #[s, x], argTypes := #[t, t] })
    (base : Nat) (e : TypeId) (i : TypeInfo) (z : Value) (size bytes : Nat) (ht : P.underlying t = some (.slice e)) (hi : P.info? e = some i) (hz : i.zero = some z)
    (hsize : i.size = size) (hby : i.bytes = bytes) (hzs : z.cells.size = size) (hsz : 0 < size)
    (v : Value) (n : Nat) (xs : List Value) (hs : a.eval s = v) (hown : w.ownsRow base e size v n xs)
    (B : Nat) (A : Option Addr) (m c : Nat) (news : List Value) (hx : a.eval x = .slice A m c) (hr : Reads w B size A m news) (h1 : ∀ u ∈ news, u.oneCell' = true)
    (h63 : n + m ≤ maxLen) (hbytes : (n + m) * bytes ≤ 140737488355328) (hbase : base ≤ w.heap.size)
    (h : ∀ v' w', w'.ownsRow base e size v' (n + m) (xs ++ news) → w.grownBy w' v.ownBlock → (v'.ownBlock = v.ownBlock ∨ v'.ownBlock = some w.heap.size) → wpList P ops Q rest (a.put o.dst v') w') : wpList P ops Q (o :: rest) a w :=
  wpList_plain hgd fun _ hK => wp_append_any w s x t ho base e i z size bytes ht hi hz hsize hby hzs hsz v n xs hs hown B A m c news hx hr h1 h63 hbytes hbase fun v' w' h2 h3 h4 => hK _ _ (h v' w' h2 h3 h4)
end
section
variable {α : Type} {cells : α → List Value} {s : Nat} {w w' : World} {B B' n : Nat} {A : Option Addr} {l : List α}
theorem addr_add (b o j : Nat) : (⟨b, o, none⟩ : Addr).add j = ⟨b, o + j, none⟩ := by
  unfold Addr.add
  split
  · rename_i h; subst h; rfl
  · rfl
end
open Go.ChangeAt Go.ChangeShapes Go.WideShapes
open Go.Deep Go.Joins
section
variable {H : Type} {enc : TypeId × Value → H} {w : World} {base : Nat} {spare : Nat → Bool} {held : Bool} {r : Reach} {b0 : Nat}
end
end Go.Proofs.YtohbafigjpoijaaDoor
namespace Go.Proofs.YtohbafigjpoijaaDoor
open Go.RowKit
section
variable {α : Type} {cells : α → List Value} {s : Nat} {w w' : World} {B B' n : Nat} {A : Option Addr} {l : List α}
end
open Go.ChangeAt Go.ChangeShapes Go.WideShapes
theorem law_contract {P : Program} {f : FuncId} {fn : Func} {s : ChangeSpec} {H : Type} {enc : TypeId × Value → H} {tb : TypeId} {W : World} {args : Array Value} {ds gs : List (DataW H)} {before : List MemPlace}
    (hl : laidOutB P = true) (hread : (fn.params.toList.all fun t => P.readableRec t && decide (t < P.types.size)) = true) (hv : s.vars = []) (hr : fn.resultTypes = #[tb]) (hbool : P.underlying tb = some .bool)
    (hs : ∀ ds : List (DataW H), ds.length = fn.params.size → (s.fn H (ds ++ [])).results = [.lit (.bool true)] ∧ (s.fn H (ds ++ [])).args = ds ∧ (s.fn H (ds ++ [])).vars = [])
    (hW : DataW.Whole enc P fn.params.toList s.vars false W args.toList ds gs before)
    (walk : ∀ p : List MemPlace, gs = [] → DataW.TrodAll enc P W 0 (fun _ => true) true fn.params.toList args.toList ds p → (∀ x ∈ p, x.block < W.heap.size) → Calls P f args W fun e W' => e = .returned (.bool true) ∧ Below W.heap.size W W') :
    Calls P f args W fun e W' => ∃ v, e = .returned v ∧ s.post enc P fn false true false false W args v W' := by
  have hlt : ∀ p ∈ before, p.block < W.heap.size := fun p hp => hW.lt p hp
  have hW' := hW
  obtain ⟨p, q, hA, hV, rfl, hfz, hnd⟩ := hW
  have hg : gs = [] := by
    rw [hv] at hV
    cases gs with
    | nil => rfl
    | cons => exact hV.elim
  exact (walk p hg hA (fun x hx => hlt x (List.mem_append_left _ hx))).mono fun e W' ⟨he, hb⟩ => ⟨_, he, law_post hl hread hv hr hbool hs hW' hb⟩
end Go.Proofs.YtohbafigjpoijaaDoor
namespace Go.Proofs.YtohbafigjpoijaaDoor
open Go.RowKit
theorem sz_list (s : ByteArray) : s.data.toList.length = s.size := Array.length_toList
theorem run_at {P : Program} (t : TypeId) (s : ByteArray) (k : Nat) (c : UInt8) (h : P.underlying t = some .string) (hc : s.data.toList[k]? = some c) (w : World) :
    (Instr.index t (.string s) (.int .i64 (k : Int))).run P w = .ok (.int .u8 (c.toNat : Int)) w := by
  obtain ⟨hlt, e⟩ := List.getElem?_eq_some_iff.1 hc
  rw [sz_list] at hlt
  rw [run_index_string w t s .i64 (k : Int) h, dif_pos ⟨by omega, by omega⟩]
  have : s[(k : Int).toNat]'(by simpa using hlt) = c := by rw [← e]; rfl
  rw [this]
theorem retI {a b : Int} (h : a = b) : Ending.returned (.int .i64 a) = Ending.returned (.int .i64 b) := by rw [h]
def isDig (c : UInt8) : Bool := decide (48 ≤ c.toNat) && decide (c.toNat ≤ 57)
def digs (l : List UInt8) : Nat := l.foldl (fun n c => n * 10 + (c.toNat - 48)) 0
theorem digs_snoc (l : List UInt8) (c : UInt8) : digs (l ++ [c]) = digs l * 10 + (c.toNat - 48) := by simp [digs]
theorem digs_lt (l : List UInt8) (h : ∀ c ∈ l, isDig c = true) : digs l < 10 ^ l.length := by
  rcases List.eq_nil_or_concat l with rfl | ⟨m, c, rfl⟩
  · decide
  · rw [List.concat_eq_append] at h ⊢
    have h1 := digs_lt m (fun x hx => h x (by simp [hx]))
    have h2 := h c (by simp)
    simp only [isDig, Bool.and_eq_true, decide_eq_true_eq] at h2
    rw [digs_snoc, List.length_append]
    simp only [List.length_cons, List.length_nil, Nat.zero_add, Nat.pow_succ]
    omega
termination_by l.length
decreasing_by simp [*]
def numeral (l : List UInt8) : Bool := decide (1 ≤ l.length) && decide (l.length ≤ 4) && l.all isDig && !(decide (l.head? = some 48) && decide (1 < l.length))
def numF (l : List UInt8) (most : Int) : Int := if numeral l = true ∧ (digs l : Int) < most then (digs l : Int) else -1
theorem numF_not {l : List UInt8} {most : Int} (h : numeral l = false) : numF l most = -1 := by simp [numF, h]
theorem take_at {l : List UInt8} {k : Nat} {c : UInt8} (h : l[k]? = some c) : l.take (k + 1) = l.take k ++ [c] := by
  rw [List.take_add_one, h]; rfl
theorem number_walk (s : ByteArray) (most : Int) (w : World) :
    Calls Tryd.prog 81 #[.string s, .int .i64 most] w fun e w' => e = .returned (.int .i64 (numF s.data.toList most)) ∧ w = w' := by
  obtain ⟨l, hl⟩ : ∃ l, s.data.toList = l := ⟨_, rfl⟩
  obtain ⟨n, hn⟩ : ∃ n, s.size = n := ⟨_, rfl⟩
  have hln : l.length = n := by rw [← hl, ← hn]; exact sz_list s
  rw [hl]
  have HAT := hide (fun (k : Nat) (c : UInt8) (h : l[k]? = some c) => run_at (P := Tryd.prog) 9 s k c Tryd.underlying9 (by rw [hl]; exact h))
  have HLN := hide hln
  clear hl hln
  go_enter Tryd.func81, Tryd.ntmps81
  by_cases h1 : n < 1
  · have d1 : (n : Int) < 1 := by omega
    go_wp2
    go_ret
    exact ⟨retI (numF_not (by have := HLN.out; simp [numeral]; omega)).symm, rfl⟩
  have d1 : decide ((n : Int) < 1) = false := by simp; omega
  by_cases h4 : 4 < n
  · have d4 : (4 : Int) < (n : Int) := by omega
    go_wp2
    go_ret
    exact ⟨retI (numF_not (by have := HLN.out; simp [numeral]; omega)).symm, rfl⟩
  have d4 : decide ((4 : Int) < (n : Int)) = false := by simp; omega
  obtain ⟨c0, hc0⟩ : ∃ c, l[0]? = some c := ⟨_, List.getElem?_eq_getElem (by have := HLN.out; omega)⟩
  have x0 : ∀ w', (Instr.index 9 (.string s) (.int .i64 0)).run Tryd.prog w' = .ok (.int .u8 (c0.toNat : Int)) w' := HAT.out 0 c0 hc0
  have hd0 : l.head? = some c0 := by rw [← hc0]; cases l <;> rfl
  by_cases hz : c0.toNat = 48 ∧ 1 < n
  · have e0 : ((c0.toNat : Int) == 48) = true := by simp; omega
    have d5 : (1 : Int) < (n : Int) := by omega
    go_wp2
    go_ret
    refine ⟨retI (numF_not ?_).symm, rfl⟩
    have := HLN.out
    have : c0 = 48 := UInt8.toNat_inj.1 hz.1
    subst this
    simp [numeral, hd0]
    omega
  have hcase : ((c0.toNat : Int) == 48) = false ∨ (((c0.toNat : Int) = 48) ∧ decide ((1 : Int) < (n : Int)) = false) := by
    by_cases h : c0.toNat = 48
    · right; exact ⟨by omega, by simp; omega⟩
    · left; simp; omega
  have hhead : (decide (l.head? = some 48) && decide (1 < l.length)) = false := by
    have hln := HLN.out
    rw [hd0, hln]
    by_cases h : 1 < n
    · have : c0 ≠ 48 := fun e => hz ⟨by rw [e]; rfl, h⟩
      simp [this]
    · simp [h]
  have HH := hide hhead
  clear hz hhead hd0
  rcases hcase with e0 | ⟨e0, e1⟩
  all_goals
    go_wp2_with fail
    go_loopw [5, 6, 27] (fun nv x i wr => ∃ k : Nat, k ≤ n ∧ i = .int .i64 (k : Int) ∧ nv = .int .i64 (digs (l.take k) : Int) ∧ Hid (∀ c ∈ l.take k, isDig c = true) ∧ wr = w) (fun _ _ i _ => n - (intOf i).toNat)
    case atStart => exact ⟨0, Nat.zero_le _, rfl, rfl, hide (by simp), rfl⟩
    case round =>
      obtain ⟨k, hk, rfl, rfl, HD, rfl⟩ := hrel
      by_cases hlt : k < n
      case pos =>
        obtain ⟨c, hc⟩ : ∃ c, l[k]? = some c := ⟨_, List.getElem?_eq_getElem (by have := HLN.out; omega)⟩
        have x1 : ∀ w', (Instr.index 9 (.string s) (.int .i64 (k : Int))).run Tryd.prog w' = .ok (.int .u8 (c.toNat : Int)) w' := HAT.out k c hc
        by_cases hd : isDig c = true
        case neg =>
          have hno : numeral l = false := by
            have : l.all isDig = false := by
              rw [Bool.eq_false_iff]
              intro h
              exact hd (List.all_eq_true.1 h c (List.mem_of_getElem? hc))
            simp [numeral, this]
          have hor : c.toNat < 48 ∨ 57 < c.toNat := by
            simp only [isDig, Bool.and_eq_true, decide_eq_true_eq] at hd
            omega
          clear hd hc
          rcases hor with h | h
          · have q1 : (c.toNat : Int) < 48 := by omega
            go_wp2
            go_ret
            exact ⟨retI (numF_not hno).symm, rfl⟩
          · have q1 : decide ((c.toNat : Int) < 48) = false := by simp; omega
            have q2 : (57 : Int) < (c.toNat : Int) := by omega
            go_wp2
            go_ret
            exact ⟨retI (numF_not hno).symm, rfl⟩
        case pos =>
          have hb := hd
          simp only [isDig, Bool.and_eq_true, decide_eq_true_eq] at hb
          have q1 : decide ((c.toNat : Int) < 48) = false := by simp; omega
          have q2 : decide ((57 : Int) < (c.toNat : Int)) = false := by simp; omega
          have hHD : Hid (∀ x ∈ l.take (k + 1), isDig x = true) := hide (fun x hx => by
            rw [take_at hc, List.mem_append] at hx
            rcases hx with hx | hx
            · exact HD.out x hx
            · rw [List.mem_singleton.1 hx]; exact hd)
          have hle : digs (l.take k) ≤ 999 := by
            have h1 := digs_lt _ HD.out
            have h2 : (l.take k).length ≤ 3 := by simp; omega
            have h3 : 10 ^ (l.take k).length ≤ 10 ^ 3 := Nat.pow_le_pow_right (by decide) h2
            omega
          have hsn := hide (show digs (l.take (k + 1)) = digs (l.take k) * 10 + (c.toNat - 48) by rw [take_at hc, digs_snoc])
          clear HD hd hc
          obtain ⟨D, hD⟩ : ∃ D, digs (l.take k) = D := ⟨_, rfl⟩
          rw [hD] at hle hsn ⊢
          clear hD
          obtain ⟨c1, hc1⟩ : ∃ x, c.toNat = x + 48 := ⟨c.toNat - 48, by omega⟩
          go_wp2_with fail
          go_roundw
          case rel =>
            exact ⟨k + 1, by omega, by go_num, congrArg (Value.int .i64) (by have := hsn.out; omega), hHD, trivial⟩
          case measure => simp [intOf]; omega
      case neg =>
        obtain rfl : k = n := by omega
        have hall : l.take k = l := List.take_of_length_le (by have := HLN.out; omega)
        rw [hall] at HD ⊢
        have hnum : numeral l = true := by
          have h1 := HLN.out
          have h2 := HH.out
          have h3 : l.all isDig = true := List.all_eq_true.2 HD.out
          simp only [numeral, h2, h3]
          simp; omega
        have hF := hide (show numF l most = if (digs l : Int) < most then (digs l : Int) else -1 by simp [numF, hnum])
        obtain ⟨D, hD⟩ : ∃ D, digs l = D := ⟨_, rfl⟩
        rw [hD] at hF ⊢
        clear HD hall hnum hD
        by_cases hm : (D : Int) < most
        · have q1 : decide (most ≤ (D : Int)) = false := by simp; omega
          go_wp2
          go_ret
          exact ⟨retI (by rw [hF.out, if_pos hm]), rfl⟩
        · have q1 : most ≤ (D : Int) := by omega
          go_wp2
          go_ret
          exact ⟨retI (by rw [hF.out, if_neg (by omega)]), rfl⟩
def strV (l : List UInt8) : Value := .string ⟨l.toArray⟩
theorem strV_of (s : ByteArray) : strV s.data.toList = .string s := by simp [strV]
def pstep (b : UInt8) (acc : List (List UInt8)) (x : UInt8) : List (List UInt8) := if x = b then acc ++ [[]] else acc.dropLast ++ [acc.getLastD [] ++ [x]]
def pieces (b : UInt8) (l : List UInt8) : List (List UInt8) := l.foldl (pstep b) [[]]
theorem pieces_snoc (b : UInt8) (l : List UInt8) (x : UInt8) : pieces b (l ++ [x]) = pstep b (pieces b l) x := by simp [pieces]
theorem pfold_acc (b : UInt8) : ∀ (l : List UInt8) (acc : List (List UInt8)) (m : List UInt8), l.foldl (pstep b) (acc ++ [m]) = acc ++ l.foldl (pstep b) [m]
  | [], acc, m => rfl
  | x :: r, acc, m => by
    simp only [List.foldl_cons, pstep]
    split
    · rw [pfold_acc b r (acc ++ [m]) [], show [m] ++ [[]] = [m] ++ [([] : List UInt8)] from rfl, pfold_acc b r [m] []]; simp
    · simp only [List.dropLast_concat, List.getLastD_concat, List.dropLast_singleton, List.nil_append, List.getLastD_cons, List.getLastD_nil]
      exact pfold_acc b r acc (m ++ [x])
theorem pieces_eq (b : UInt8) (l : List UInt8) (hl : b ∉ l) : pieces b l = [l] := by
  rcases List.eq_nil_or_concat l with rfl | ⟨m, c, rfl⟩
  · rfl
  · rw [List.concat_eq_append] at hl ⊢
    rw [pieces_snoc, pieces_eq b m (fun h => hl (by simp [h])), pstep, if_neg (fun h => hl (by simp [h]))]
    rfl
termination_by l.length
decreasing_by simp [*]
theorem pieces_cut (b : UInt8) (l r : List UInt8) (hl : b ∉ l) : pieces b (l ++ b :: r) = l :: pieces b r := by
  have h1 : l.foldl (pstep b) [[]] = [l] := pieces_eq b l hl
  have h2 := pfold_acc b r [l] []
  unfold pieces
  rw [List.foldl_append, h1, List.foldl_cons, pstep, if_pos rfl, h2]
  rfl
theorem pieces_pos (b : UInt8) (l : List UInt8) : 0 < (pieces b l).length := by
  rcases List.eq_nil_or_concat l with rfl | ⟨m, c, rfl⟩
  · simp [pieces]
  · rw [List.concat_eq_append, pieces_snoc, pstep]; split <;> simp
theorem pieces_len (b : UInt8) (l : List UInt8) : (pieces b l).length ≤ l.length + 1 := by
  rcases List.eq_nil_or_concat l with rfl | ⟨m, c, rfl⟩
  · simp [pieces]
  · have := pieces_len b m
    rw [List.concat_eq_append, pieces_snoc, pstep]; split <;> simp <;> omega
termination_by l.length
decreasing_by simp [*]
theorem pieces_each (b : UInt8) (l : List UInt8) : ∀ m ∈ pieces b l, m.length ≤ l.length := by
  rcases List.eq_nil_or_concat l with rfl | ⟨r, c, rfl⟩
  · simp [pieces]
  · have ih := pieces_each b r
    intro m hm
    rw [List.concat_eq_append] at hm ⊢
    rw [pieces_snoc, pstep] at hm
    simp only [List.length_append, List.length_cons, List.length_nil]
    split at hm
    · rcases List.mem_append.1 hm with h | h
      · have := ih m h; omega
      · rw [List.mem_singleton.1 h]; simp
    · rcases List.mem_append.1 hm with h | h
      · have := ih m (List.dropLast_subset _ h); omega
      · rw [List.mem_singleton.1 h]
        have hp := pieces_pos b r
        have : (pieces b r).getLastD [] ∈ pieces b r := by
          rw [List.getLastD_eq_getLast?, List.getLast?_eq_some_getLast (List.ne_nil_of_length_pos hp)]
          exact List.getLast_mem _
        have := ih _ this
        simp only [List.length_append, List.length_cons, List.length_nil]; omega
termination_by l.length
decreasing_by simp [*]
theorem Tryd.infoString : (Tryd.prog.info? 9).map (fun i => (i.zero, i.size, i.bytes)) = some (some (.string ⟨#[]⟩), 1, 16) := by kernel_rfl
def cutB (b : UInt8) : List UInt8 → List UInt8 × List UInt8
  | [] => ([], [])
  | x :: r => if x = b then ([], r) else (x :: (cutB b r).1, (cutB b r).2)
theorem cutB_not (b : UInt8) : ∀ (l : List UInt8), b ∉ l → cutB b l = (l, [])
  | [], _ => rfl
  | x :: r, h => by
    rw [cutB, if_neg (fun e => h (by simp [e])), cutB_not b r (fun e => h (by simp [e]))]
theorem cutB_at (b : UInt8) : ∀ (l r : List UInt8), b ∉ l → cutB b (l ++ b :: r) = (l, r)
  | [], r, _ => by simp [cutB]
  | x :: l, r, h => by
    rw [List.cons_append, cutB, if_neg (fun e => h (by simp [e])), cutB_at b l r (fun e => h (by simp [e]))]
theorem split_first {b : UInt8} : ∀ {l : List UInt8}, b ∈ l → ∃ u v, l = u ++ b :: v ∧ b ∉ u
  | x :: r, h => by
    by_cases e : x = b
    · exact ⟨[], r, by simp [e], by simp⟩
    · obtain ⟨u, v, rfl, hu⟩ := split_first (l := r) (by rcases List.mem_cons.1 h with h | h; exact absurd h.symm e; exact h)
      exact ⟨x :: u, v, rfl, fun h => by rcases List.mem_cons.1 h with h | h; exact e h.symm; exact hu h⟩
theorem index_one (b : UInt8) : ∀ (l : List UInt8), (b ∉ l → Lib.index l [b] = -1) ∧ ∀ u v, l = u ++ b :: v → b ∉ u → Lib.index l [b] = u.length
  | [] => ⟨fun _ => rfl, fun u v h => by simp at h⟩
  | x :: r => by
    obtain ⟨h1, h2⟩ := index_one b r
    refine ⟨fun h => ?_, fun u v h hu => ?_⟩
    · have e : b ≠ x := fun e => h (by simp [e])
      rw [Lib.index, if_neg (by simp [List.isPrefixOf, e]), h1 (fun e => h (by simp [e]))]
      rfl
    · cases u with
      | nil =>
        simp only [List.nil_append, List.cons.injEq] at h
        rw [Lib.index, if_pos (by simp [List.isPrefixOf, h.1])]
        rfl
      | cons y u =>
        simp only [List.cons_append, List.cons.injEq] at h
        obtain ⟨rfl, h⟩ := h
        have e : b ≠ x := fun e => hu (by simp [e])
        have := h2 u v h (fun e => hu (by simp [e]))
        rw [Lib.index, if_neg (by simp [List.isPrefixOf, e]), this, if_neg (by simp)]
        simp
theorem cut_one (b : UInt8) (l : List UInt8) : Lib.cut l [b] = ((cutB b l).1, (cutB b l).2, decide (b ∈ l)) := by
  by_cases h : b ∈ l
  · obtain ⟨u, v, rfl, hu⟩ := split_first h
    have := (index_one b _).2 u v rfl hu
    rw [Lib.cut, this, if_pos (by omega), cutB_at b u v hu]
    simp
  · rw [Lib.cut, (index_one b l).1 h, if_neg (by decide), cutB_not b l h]
    simp [h]
theorem numF_lt (l : List UInt8) (m : Int) (h : 0 ≤ numF l m) : numF l m < m := by unfold numF at *; split <;> simp_all
theorem dig_dec (u : Nat) (h : u < 10) : Lib.decDigits u = [UInt8.ofNat (48 + u)] := by rw [Lib.decDigits, dif_pos h]
theorem dec_more (u : Nat) (h : ¬ u < 10) : Lib.decDigits u = Lib.decDigits (u / 10) ++ [UInt8.ofNat (48 + u % 10)] := by rw [Lib.decDigits, dif_neg h]
theorem dig_ofNat (u : Nat) (h : u < 10) : isDig (UInt8.ofNat (48 + u)) = true ∧ (UInt8.ofNat (48 + u)).toNat = 48 + u := by
  have : (UInt8.ofNat (48 + u)).toNat = 48 + u := by simp; omega
  refine ⟨?_, this⟩
  simp only [isDig, this]; simp; omega
theorem dec_all (u : Nat) : (∀ c ∈ Lib.decDigits u, isDig c = true) ∧ digs (Lib.decDigits u) = u ∧ Lib.decDigits u ≠ [] ∧ (1 ≤ u → (Lib.decDigits u).head? ≠ some 48) := by
  by_cases h : u < 10
  · rw [dig_dec u h]
    obtain ⟨h1, h2⟩ := dig_ofNat u h
    refine ⟨fun c hc => by rw [List.mem_singleton.1 hc]; exact h1, by simp only [digs, List.foldl_cons, List.foldl_nil, h2]; omega, by simp, fun hu e => ?_⟩
    simp only [List.head?_cons, Option.some.injEq] at e
    rw [e] at h2
    simp at h2; omega
  · obtain ⟨i1, i2, i3, i4⟩ := dec_all (u / 10)
    obtain ⟨h1, h2⟩ := dig_ofNat (u % 10) (by omega)
    rw [dec_more u h]
    refine ⟨fun c hc => ?_, by rw [digs_snoc, i2, h2]; omega, by simp, fun _ => ?_⟩
    · rcases List.mem_append.1 hc with hc | hc
      · exact i1 c hc
      · rw [List.mem_singleton.1 hc]; exact h1
    · obtain ⟨y, r, e⟩ := List.exists_cons_of_ne_nil i3
      rw [e] at i4 ⊢
      exact i4 (by omega)
termination_by u
decreasing_by omega
theorem dec_len (u k : Nat) (h : u < 10 ^ (k + 1)) : (Lib.decDigits u).length ≤ k + 1 := by
  induction k generalizing u with
  | zero => rw [dig_dec u (by simpa using h)]; simp
  | succ k ih =>
    by_cases hu : u < 10
    · rw [dig_dec u hu]; simp
    · rw [dec_more u hu]
      have := ih (u / 10) (by rw [Nat.pow_succ] at h; omega)
      simp; omega
theorem num_dec (u : Nat) (m : Int) (h : u < 10000) (hm : (u : Int) < m) : numF (Lib.decDigits u) m = u := by
  obtain ⟨h1, h2, h3, h4⟩ := dec_all u
  have hl := dec_len u 3 (by omega)
  have hlp : 1 ≤ (Lib.decDigits u).length := List.length_pos_iff.2 h3
  have hn : numeral (Lib.decDigits u) = true := by
    have ha : (Lib.decDigits u).all isDig = true := List.all_eq_true.2 h1
    have hz : (decide ((Lib.decDigits u).head? = some 48) && decide (1 < (Lib.decDigits u).length)) = false := by
      rw [Bool.eq_false_iff]; intro e
      simp only [Bool.and_eq_true, decide_eq_true_eq] at e
      by_cases h0 : u = 0
      · subst h0; rw [dig_dec 0 (by decide)] at e; simp at e
      · exact h4 (by omega) e.1
    show (decide (1 ≤ _) && decide (_ ≤ 4) && _ && !(_)) = true
    rw [hz, ha, decide_eq_true (show 1 ≤ (Lib.decDigits u).length from hlp), decide_eq_true (show (Lib.decDigits u).length ≤ 4 by omega)]
    rfl
  rw [numF, h2, if_pos ⟨hn, hm⟩]
theorem not_dec (u : Nat) (x : UInt8) (hx : isDig x = false) : x ∉ Lib.decDigits u := fun h => by
  rw [(dec_all u).1 x h] at hx; cases hx
end Go.Proofs.YtohbafigjpoijaaDoor
