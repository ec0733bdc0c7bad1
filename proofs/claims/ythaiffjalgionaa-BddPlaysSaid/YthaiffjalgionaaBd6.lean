/- A part of the proof: Bp4. -/
import Derived.Test.YthaiffjalgionaaBd5

set_option linter.unusedVariables false
set_option linter.unusedSimpArgs false
namespace Go.Proofs.Ythaiffjalgionaa
open Go.RowKit Go.Maps Bdd Bq

theorem boxes4 {W W2 : World} {a1 a2 a3 a4 : Array Value} {t1 t2 t3 t4 : TypeId} (hG : (((W.alloc (.cells a1 t1)).alloc (.cells a2 t2)).alloc (.cells a3 t3)).alloc (.cells a4 t4) = W2) : BX W [(W.heap.size + 1 + 1 + 1, a4), (W.heap.size + 1 + 1, a3), (W.heap.size + 1, a2), (W.heap.size, a1)] W2 ∧ W2.heap.size = W.heap.size + 4 := by
  subst hG
  have h := ((((((((BX.none W).al a1 t1).done).al a2 t2).done).al a3 t3).done).al a4 t4).done
  rw [show (((W.alloc (.cells a1 t1)).alloc (.cells a2 t2)).alloc (.cells a3 t3)).heap.size = W.heap.size + 1 + 1 + 1 from by simp, show ((W.alloc (.cells a1 t1)).alloc (.cells a2 t2)).heap.size = W.heap.size + 1 + 1 from by simp, show (W.alloc (.cells a1 t1)).heap.size = W.heap.size + 1 from by simp] at h
  exact ⟨h, by simp⟩
theorem store_func (P : Program) (w : World) (a : Addr) (f : Fn) (first cap : Array Value) (u : Value) (hc : w.cell? a = some u) (hf : w.frozen? a = false) : (store a (.func f first cap)).run P w = .ok () (w.setCell a (.func f first cap)) := by
  rw [run_store P w a _ _ rfl]
  simp [stored, hc, hf]
structure OpV where
  k : Int
  a : Int
  b : Int
  c : Int
structure OpV.ok (x : OpV) : Prop where
  k : i64ok x.k
  a : i64ok x.a
  b : i64ok x.b
  c : i64ok x.c
def toldF (vars : Nat) (a b c : SeenV) (x : OpV) : Option (Nat → Bool) :=
  if x.k = 0 then (if 0 ≤ x.a ∧ x.a < vars then some (fun i => i.testBit (vars - 1 - x.a.toNat)) else none)
  else if x.k = 1 then some (fun i => !a.F i)
  else if x.k = 2 then some (fun i => a.F i && b.F i)
  else if x.k = 3 then some (fun i => a.F i || b.F i)
  else if x.k = 4 then some (fun i => (a.F i && b.F i) || (!a.F i && c.F i))
  else if x.k = 5 then (if 0 ≤ x.b ∧ x.b < vars then some (fun i => a.F (clrN i (2 ^ (vars - 1 - x.b.toNat))) || a.F (i ||| 2 ^ (vars - 1 - x.b.toNat))) else none)
  else (if (0 ≤ x.b ∧ x.b < vars) ∧ (0 ≤ x.c ∧ x.c < vars) then some (fun i => a.F (swpN i (vars - 1 - x.b.toNat) (vars - 1 - x.c.toNat) (2 ^ (vars - 1 - x.b.toNat)) (2 ^ (vars - 1 - x.c.toNat)))) else none)
def toldI (a b c : SeenV) (x : OpV) : List Nat :=
  if x.k = 0 then [] else if x.k = 1 then [a.id] else if x.k = 2 then [a.id, b.id] else if x.k = 3 then [a.id, b.id] else if x.k = 4 then [a.id, b.id, c.id] else [a.id]
def IdsAt (w : World) (v : Value) (l : List Nat) : Prop := ∃ (A : Option Addr) (m c : Nat), v = .slice A m c ∧ m = l.length ∧ m ≤ c ∧ (0 < m → ∃ N, A = some ⟨N, 0, none⟩ ∧ N < w.heap.size ∧ ∀ (j : Nat) (k : Nat), l[j]? = some k → w.cell? ⟨N, j, none⟩ = some (.int .i64 (k : Int)))
def ToldP (W : World) (n : Nat) (F : Option (Nat → Bool)) (I : List Nat) (e : Ending) (W' : World) : Prop :=
  Below W.heap.size W W' ∧ ∃ tv iv ok, e = .returned (.tuple #[tv, iv, .bool ok]) ∧ IdsAt W' iv I ∧ match F with
    | none => tv = .slice none 0 0 ∧ ok = false
    | some G => ok = true ∧ ∃ N, tv = .slice (some ⟨N, 0, none⟩) n n ∧ TabAt W' N n n G ∧ W.heap.size ≤ N
theorem ids_nil (w : World) : IdsAt w (.slice none 0 0) [] := ⟨none, 0, 0, rfl, rfl, Nat.le_refl _, fun h => absurd h (Nat.lt_irrefl _)⟩
theorem ids_box {w : World} {N : Nat} {l : List Nat} (h : BoxV w N (l.map (fun (k : Nat) => Value.int .i64 (k : Int))).toArray) (hN : N < w.heap.size) {m : Nat} (hm : m = l.length) : IdsAt w (.slice (some ⟨N, 0, none⟩) m m) l :=
  ⟨_, _, _, rfl, hm, Nat.le_refl _, fun _ => ⟨N, rfl, hN, fun j k hj => h.1 j _ (by simp [hj])⟩⟩
def TI (Wb : World) (n : Nat) (F : Nat → Bool) (vs : Array Value) (Nt Ni : Nat) (w : World) : Prop := TabAt w Nt n n F ∧ Wb.heap.size ≤ Nt ∧ BoxV w Ni vs ∧ Ni < w.heap.size ∧ Below Wb.heap.size Wb w
theorem TI.a {Wb w : World} {n Nt : Nat} {F : Nat → Bool} (ht : TabAt w Nt n n F) (hl : Wb.heap.size ≤ Nt) (hb : BX Wb [] w) (vs : Array Value) (t : TypeId) : ∃ Nt' Ni' w', Nt = Nt' ∧ w.heap.size = Ni' ∧ w.alloc (.cells vs t) = w' ∧ TI Wb n F vs Nt' Ni' w' :=
  ⟨_, _, _, rfl, rfl, rfl, ht.below (below_alloc _ _), hl, BoxV.new _ _ _, by simp, hb.bl.trans ((below_alloc _ _).mono hb.bl.size)⟩
theorem TI.b {Wb w : World} {n Nt N : Nat} {F : Nat → Bool} {vs : Array Value} (ht : TabAt w Nt n n F) (hl : Wb.heap.size ≤ Nt) (hb : BX Wb [(N, vs)] w) : ∃ Nt' Ni' w', Nt = Nt' ∧ N = Ni' ∧ w = w' ∧ TI Wb n F vs Nt' Ni' w' :=
  ⟨_, _, _, rfl, rfl, rfl, ht, hl, hb.get 0 rfl, (hb.bx _ List.mem_cons_self).2, hb.bl⟩
theorem cut_region2 {P : Program} {c : Code} {Q : Exit → Act → World → Prop} {a : Act} {w : World} (A : Nat → Nat → Act) (C : Nat → Nat → World → Prop) (h1 : Shut (∀ N M w', C N M w' → Q .normal (A N M) w') → Code.wp P c Q a w) (h2 : ∀ N M w', C N M w' → Q .normal (A N M) w') : Code.wp P c Q a w := h1 h2

set_option maxRecDepth 100000 in
set_option maxHeartbeats 16000000 in
theorem told_walk (vars n len cap : Nat) (A : Option Addr) (l : List SeenV) (x : OpV) (W : World) (h1 : 1 ≤ vars) (h8 : vars ≤ 8) (hn : 2 ^ vars = n) (hl : SlAt (SeenV.cells n) 2 W W.heap.size A len l) (h0 : 0 < len) (hle : len ≤ 1000) (hx : x.ok) (hk : 0 ≤ x.k ∧ x.k ≤ 6) (a b c : SeenV) (ha : l[(x.a % (len : Int)).toNat]? = some a) (hb : l[(x.b % (len : Int)).toNat]? = some b) (hc : l[(x.c % (len : Int)).toNat]? = some c) (HT : Hid (∀ (w' : World), Below W.heap.size W w' → TabAt w' a.N n n a.F ∧ TabAt w' b.N n n b.F ∧ TabAt w' c.N n n c.F)) :
    Calls Try.prog 25 #[.int .i64 (vars : Int), .slice A len cap, .agg #[.int .i64 x.k, .int .i64 x.a, .int .i64 x.b, .int .i64 x.c]] W (ToldP W n (toldF vars a b c x) (toldI a b c x)) := by
  have HL := hide (fun (w' : World) (hb : Below W.heap.size W w') => hl.below hb hb.size)
  clear hl
  have hx4 := (boxes4 (W := W) (a1 := #[.int .i64 (vars : Int)]) (a2 := #[.slice A len cap]) (a3 := #[.int .i64 x.k, .int .i64 x.a, .int .i64 x.b, .int .i64 x.c]) (a4 := #[.nilFunc]) (t1 := 3) (t2 := 60) (t3 := 62) (t4 := 102) rfl).1.get 0 rfl
  have hst := store_func Try.prog _ ⟨W.heap.size + 1 + 1 + 1, 0, none⟩ (.func 87) #[] #[.pointer (some ⟨W.heap.size, 0, none⟩)] _ (hx4.1 0 .nilFunc rfl) (hx4.2 0)
  clear hx4
  go_enter Try.func25, Try.ntmps25
  go_wp2_with fail
  clear hst
  generalize hG : World.alloc (World.alloc (World.alloc (World.alloc W _) _) _) _ = W1
  have HX1 := hide (show BX W [(W.heap.size + 1 + 1 + 1, #[.func (.func 87) #[] #[.pointer (some ⟨W.heap.size, 0, none⟩)]]), (W.heap.size + 1 + 1, #[.int .i64 x.k, .int .i64 x.a, .int .i64 x.b, .int .i64 x.c]), (W.heap.size + 1, #[.slice A len cap]), (W.heap.size, #[.int .i64 (vars : Int)])] W1 from (boxes4 hG).1)
  clear hG
  have HAT := hide (fun (w' : World) (hb' : Below W1.heap.size W1 w') (i : Int) (hi : i64ok i) (s : SeenV) (hs : l[(i % (len : Int)).toNat]? = some s) => told1_walk i hi n (W.heap.size + 1) len cap A l s w' (((HX1.out.below hb').get 2 rfl).1 0 _ rfl) (HL.out _ (HX1.out.below hb').bl) h0 hle hs)
  have hcall := told1_enters
  have HC := hide (fun (w' : World) (hb' : Below W1.heap.size W1 w') => show (w'.cell? ⟨W.heap.size + 1 + 1, 1, none⟩ = some (.int .i64 x.a) ∧ w'.cell? ⟨W.heap.size + 1 + 1, 2, none⟩ = some (.int .i64 x.b) ∧ w'.cell? ⟨W.heap.size + 1 + 1, 3, none⟩ = some (.int .i64 x.c)) from ⟨((HX1.out.below hb').get 1 rfl).1 1 _ rfl, ((HX1.out.below hb').get 1 rfl).1 2 _ rfl, ((HX1.out.below hb').get 1 rfl).1 3 _ rfl⟩)
  refine wp_region_E (fun w' => Below W1.heap.size W1 w') 11 (by kernel_rfl) ((Below.refl _ _).drew) (fun hS inv => ?_)
  refine wpAnyE_pure (i := 0) (v := ?_) rfl (by kernel_rfl) (by kernel_rfl) (by kernel_rfl) (by kernel_rfl) (fun _ _ _ h => h) inv (Or.inl ⟨by rfl, ?_⟩) (fun _ => hS) (fun inv2 => ?_)
  rotate_left
  · intro w _
    go_simp
    try with_reducible rfl
  clear inv
  have inv := inv2
  clear inv2
  try simp only [Act.put, nrmA, nrmB, nrmC]
  refine wpAnyE_pure (i := 1) (v := ?_) rfl (by kernel_rfl) (by kernel_rfl) (by kernel_rfl) (by kernel_rfl) (fun _ _ _ h => h) inv (Or.inl ⟨by rfl, ?_⟩) (fun _ => hS) (fun inv2 => ?_)
  rotate_left
  · intro w _
    go_simp
    try with_reducible rfl
  clear inv
  have inv := inv2
  clear inv2
  try simp only [Act.put, nrmA, nrmB, nrmC]
  refine wpAnyE_load (i := 2) (v := ?_) [3, 7, 11] rfl (by kernel_rfl) (by kernel_rfl) (by kernel_rfl) (by kernel_rfl) (fun _ _ _ h => h) inv (Or.inl ⟨by rfl, ?_⟩) hS (fun inv2 => ?_)
  rotate_left
  · intro w hSw
    obtain ⟨s0, s1, s2⟩ := HC.out _ hSw
    go_simp
    try with_reducible rfl
  clear inv
  have inv := inv2
  clear inv2
  try simp only [Act.put, nrmA, nrmB, nrmC]
  refine wpAnyE_pure (i := 4) (v := ?_) rfl (by kernel_rfl) (by kernel_rfl) (by kernel_rfl) (by kernel_rfl) (fun _ _ _ h => h) inv (Or.inl ⟨by rfl, ?_⟩) (fun _ => hS) (fun inv2 => ?_)
  rotate_left
  · intro w _
    go_simp
    try with_reducible rfl
  clear inv
  have inv := inv2
  clear inv2
  try simp only [Act.put, nrmA, nrmB, nrmC]
  refine wpAnyE_pure (i := 5) (v := ?_) rfl (by kernel_rfl) (by kernel_rfl) (by kernel_rfl) (by kernel_rfl) (fun _ _ _ h => h) inv (Or.inl ⟨by rfl, ?_⟩) (fun _ => hS) (fun inv2 => ?_)
  rotate_left
  · intro w _
    go_simp
    try with_reducible rfl
  clear inv
  have inv := inv2
  clear inv2
  try simp only [Act.put, nrmA, nrmB, nrmC]
  refine wpAnyE_load (i := 6) (v := ?_) [7, 11] rfl (by kernel_rfl) (by kernel_rfl) (by kernel_rfl) (by kernel_rfl) (fun _ _ _ h => h) inv (Or.inl ⟨by rfl, ?_⟩) hS (fun inv2 => ?_)
  rotate_left
  · intro w hSw
    obtain ⟨s0, s1, s2⟩ := HC.out _ hSw
    go_simp
    try with_reducible rfl
  clear inv
  have inv := inv2
  clear inv2
  try simp only [Act.put, nrmA, nrmB, nrmC]
  refine wpAnyE_pure (i := 8) (v := ?_) rfl (by kernel_rfl) (by kernel_rfl) (by kernel_rfl) (by kernel_rfl) (fun _ _ _ h => h) inv (Or.inl ⟨by rfl, ?_⟩) (fun _ => hS) (fun inv2 => ?_)
  rotate_left
  · intro w _
    go_simp
    try with_reducible rfl
  clear inv
  have inv := inv2
  clear inv2
  try simp only [Act.put, nrmA, nrmB, nrmC]
  refine wpAnyE_pure (i := 9) (v := ?_) rfl (by kernel_rfl) (by kernel_rfl) (by kernel_rfl) (by kernel_rfl) (fun _ _ _ h => h) inv (Or.inl ⟨by rfl, ?_⟩) (fun _ => hS) (fun inv2 => ?_)
  rotate_left
  · intro w _
    go_simp
    try with_reducible rfl
  clear inv
  have inv := inv2
  clear inv2
  try simp only [Act.put, nrmA, nrmB, nrmC]
  refine wpAnyE_load (i := 10) (v := ?_) [11] rfl (by kernel_rfl) (by kernel_rfl) (by kernel_rfl) (by kernel_rfl) (fun _ _ _ h => h) inv (Or.inl ⟨by rfl, ?_⟩) hS (fun inv2 => ?_)
  rotate_left
  · intro w hSw
    obtain ⟨s0, s1, s2⟩ := HC.out _ hSw
    go_simp
    try with_reducible rfl
  clear inv
  have inv := inv2
  clear inv2
  try simp only [Act.put, nrmA, nrmB, nrmC]
  -- R3
  apply cutE4 (C := fun N1 N2 N3 w' => BX W1 [(N1, a.arr n), (N2, b.arr n), (N3, c.arr n)] w')
  · intro Q' ops' hops HK
    have R3 : ∀ (m c0 : Nat) (p1 p2 p3 : Option Nat) (w : World), c0 ≤ 3 → m + c0 + (if p1.isSome then 1 else 0) + (if p2.isSome then 1 else 0) + (if p3.isSome then 1 else 0) = 6 → Hid (RI W1 p1 p2 p3 w) → wpAnyE Try.prog .any ops' Q' (fun w' => Below W1.heap.size W1 w') 11 (m + 3) #[true, true, true, decide (1 ≤ c0), true, true, true, decide (2 ≤ c0), true, true, true, decide (3 ≤ c0), p1.isSome, p2.isSome, p3.isSome, false, false, false] (⟨#[.int .i64 (vars : Int), .slice A len cap, .agg #[.int .i64 x.k, .int .i64 x.a, .int .i64 x.b, .int .i64 x.c], .pointer (some ⟨W.heap.size, 0, none⟩), .pointer (some ⟨W.heap.size + 1, 0, none⟩), .pointer (some ⟨W.heap.size + 1 + 1, 0, none⟩), .slice none 0 0, .slice none 0 0, .bool false, .func (.func 85) #[] #[.pointer (some ⟨W.heap.size + 1, 0, none⟩)], .pointer (some ⟨W.heap.size + 1 + 1 + 1, 0, none⟩), (match p1 with | some N => Value.pointer (some ⟨N, 0, none⟩) | none => undef), (match p2 with | some N => Value.pointer (some ⟨N, 0, none⟩) | none => undef), (match p3 with | some N => Value.pointer (some ⟨N, 0, none⟩) | none => undef), .func (.func 85) #[] #[.pointer (some ⟨W.heap.size + 1, 0, none⟩)], .func (.func 87) #[] #[.pointer (some ⟨W.heap.size, 0, none⟩)], .func (.func 85) #[] #[.pointer (some ⟨W.heap.size + 1, 0, none⟩)], .pointer (some ⟨W.heap.size + 1 + 1, 1, none⟩), .int .i64 x.a, (if 1 ≤ c0 then .agg #[.int .i64 (a.id : Int), .slice (some ⟨a.N, 0, none⟩) n n] else undef), .func (.func 85) #[] #[.pointer (some ⟨W.heap.size + 1, 0, none⟩)], .pointer (some ⟨W.heap.size + 1 + 1, 2, none⟩), .int .i64 x.b, (if 2 ≤ c0 then .agg #[.int .i64 (b.id : Int), .slice (some ⟨b.N, 0, none⟩) n n] else undef), .func (.func 85) #[] #[.pointer (some ⟨W.heap.size + 1, 0, none⟩)], .pointer (some ⟨W.heap.size + 1 + 1, 3, none⟩), .int .i64 x.c, (if 3 ≤ c0 then .agg #[.int .i64 (c.id : Int), .slice (some ⟨c.N, 0, none⟩) n n] else undef), undef, undef, undef, undef, undef, undef, undef, undef, undef, undef, undef, undef, undef, undef, undef, undef, undef, undef, undef, undef, undef, undef, undef, undef, undef, undef, undef, undef, undef, undef, undef, undef, undef, undef, undef, undef, undef, undef, undef, undef, undef, undef, undef, undef, undef, undef, undef, undef, undef, undef, undef, undef, undef, undef, undef, undef, undef, undef, undef, undef, undef, undef, undef, undef, undef, undef, undef, undef, undef, undef, undef, undef, undef, undef, undef, undef, undef, undef, undef, undef, undef, undef, undef, undef, undef, undef, undef, undef, undef, undef, undef, undef, undef, undef, undef, undef, undef, undef, undef, undef, undef, undef, undef, undef, undef], []⟩ : Act) w := by
      subst hops
      skip
      intro m
      induction m with
      | zero =>
        intro c0 p1 p2 p3 w hc3 hs HR
        rcases p1 with _ | N1 <;> rcases p2 with _ | N2 <;> rcases p3 with _ | N3 <;> simp only [Option.isSome_none, Option.isSome_some, if_true, if_false, Bool.false_eq_true] at hs <;> try omega
        obtain rfl : c0 = 3 := by omega
        obtain ⟨x1, y1, z1⟩ := HR.out.z1 N1 rfl
        obtain ⟨x2, y2, z2⟩ := HR.out.z2 N2 rfl
        obtain ⟨x3, y3, z3⟩ := HR.out.z3 N3 rfl
        have d12 := HR.out.d12 N1 N2 rfl rfl
        have d13 := HR.out.d13 N1 N3 rfl rfl
        have d23 := HR.out.d23 N2 N3 rfl rfl
        have HFI := hide (HR.out.fill (.int .i64 (a.id : Int)) (.int .i64 (b.id : Int)) (.int .i64 (c.id : Int)) (.slice (some ⟨a.N, 0, none⟩) n n) (.slice (some ⟨b.N, 0, none⟩) n n) (.slice (some ⟨c.N, 0, none⟩) n n))
        have HB := hide HR.out.b
        have HY := hide (And.intro y1 (And.intro y2 y3))
        have u2 := ((x2.far ⟨N1, 0, none⟩ (.int .i64 (a.id : Int)) d12).far ⟨N1, 1, none⟩ (.slice (some ⟨a.N, 0, none⟩) n n) d12)
        have u3 := ((((x3.far ⟨N1, 0, none⟩ (.int .i64 (a.id : Int)) d13).far ⟨N1, 1, none⟩ (.slice (some ⟨a.N, 0, none⟩) n n) d13).far ⟨N2, 0, none⟩ (.int .i64 (b.id : Int)) d23).far ⟨N2, 1, none⟩ (.slice (some ⟨b.N, 0, none⟩) n n) d23)
        have X2 := hide u2
        have X3 := hide u3
        have k0 := x1.1 0 (.int .i64 0) rfl
        have k1 := x1.1 1 (.slice none 0 0) rfl
        have f0 := x1.2 0
        have f1 := x1.2 1
        clear u2 u3 x1 x2 x3 y1 y2 y3 z1 z2 z3 d12 d13 d23
        refine wpAnyE_split [15] (by kernel_rfl) (by simp) (fun i hi => ?_)
        obtain rfl := List.mem_singleton.1 hi
        refine wpOp_step (i := 15) rfl (fun K hK => ?_)
        go_simp
        clear k0 k1 f0 f1
        have k0 := X2.out.1 0 (.int .i64 0) rfl
        have k1 := X2.out.1 1 (.slice none 0 0) rfl
        have f0 := X2.out.2 0
        have f1 := X2.out.2 1
        have HB2 := hide ((HB.out.setCell (p := ⟨N1, 0, none⟩) HY.out.1 (.int .i64 (a.id : Int))).setCell (p := ⟨N1, 1, none⟩) HY.out.1 (.slice (some ⟨a.N, 0, none⟩) n n))
        refine hK _ _ ⟨fun _ => HB2.out, ?_⟩
        clear hK K hi
        refine wpAnyE_split [16] (by kernel_rfl) (by simp) (fun i hi => ?_)
        obtain rfl := List.mem_singleton.1 hi
        refine wpOp_step (i := 16) rfl (fun K hK => ?_)
        go_simp
        clear k0 k1 f0 f1
        have k0 := X3.out.1 0 (.int .i64 0) rfl
        have k1 := X3.out.1 1 (.slice none 0 0) rfl
        have f0 := X3.out.2 0
        have f1 := X3.out.2 1
        have HB3 := hide ((HB2.out.setCell (p := ⟨N2, 0, none⟩) HY.out.2.1 (.int .i64 (b.id : Int))).setCell (p := ⟨N2, 1, none⟩) HY.out.2.1 (.slice (some ⟨b.N, 0, none⟩) n n))
        refine hK _ _ ⟨fun _ => HB3.out, ?_⟩
        clear hK K hi
        refine wpAnyE_split [17] (by kernel_rfl) (by simp) (fun i hi => ?_)
        obtain rfl := List.mem_singleton.1 hi
        refine wpOp_step (i := 17) rfl (fun K hK => ?_)
        go_simp
        have HB4 := hide ((HB3.out.setCell (p := ⟨N3, 0, none⟩) HY.out.2.2 (.int .i64 (c.id : Int))).setCell (p := ⟨N3, 1, none⟩) HY.out.2.2 (.slice (some ⟨c.N, 0, none⟩) n n))
        refine hK _ _ ⟨fun _ => HB4.out, ?_⟩
        clear hK K hi k0 k1 f0 f1
        refine wpAnyE_done (by kernel_rfl) ?_ _
        exact HK.out N1 N2 N3 _ HFI.out
      | succ m ih =>
        intro c0 p1 p2 p3 w hc3 hs HR
        rcases (by omega : c0 = 0 ∨ c0 = 1 ∨ c0 = 2 ∨ c0 = 3) with rfl | rfl | rfl | rfl <;> rcases p1 with _ | N1 <;> rcases p2 with _ | N2 <;> rcases p3 with _ | N3
        · refine wpAnyE_split [3, 12, 13, 14] (by kernel_rfl) (by simp) (fun i hi => ?_)
          simp only [List.mem_cons, List.not_mem_nil, or_false] at hi
          rcases hi with rfl | rfl | rfl | rfl
          · refine wpOp_step (i := 3) rfl (fun K hK => ?_)
            go_simp
            refine (HAT.out w HR.out.b x.a hx.a a ha).mono ?_
            rintro e wq ⟨rfl, hbq⟩
            have HR2 := hide (HR.out.below hbq)
            -- C0000
            refine hK _ _ ⟨fun _ => HR2.out.b, ih 1 none none none wq (by omega) (by simp at hs ⊢; omega) HR2⟩
          · refine wpOp_step (i := 12) rfl (fun K hK => ?_)
            go_simp
            have HR2 := hide (HR.out.al1 59)
            refine hK _ _ ⟨fun _ => HR2.out.b, ih 0 (some w.heap.size) none none _ (by omega) (by simp at hs ⊢; omega) HR2⟩
          · refine wpOp_step (i := 13) rfl (fun K hK => ?_)
            go_simp
            have HR2 := hide (HR.out.al2 59)
            refine hK _ _ ⟨fun _ => HR2.out.b, ih 0 none (some w.heap.size) none _ (by omega) (by simp at hs ⊢; omega) HR2⟩
          · refine wpOp_step (i := 14) rfl (fun K hK => ?_)
            go_simp
            have HR2 := hide (HR.out.al3 59)
            refine hK _ _ ⟨fun _ => HR2.out.b, ih 0 none none (some w.heap.size) _ (by omega) (by simp at hs ⊢; omega) HR2⟩
        · refine wpAnyE_split [3, 12, 13] (by kernel_rfl) (by simp) (fun i hi => ?_)
          simp only [List.mem_cons, List.not_mem_nil, or_false] at hi
          rcases hi with rfl | rfl | rfl
          · refine wpOp_step (i := 3) rfl (fun K hK => ?_)
            go_simp
            refine (HAT.out w HR.out.b x.a hx.a a ha).mono ?_
            rintro e wq ⟨rfl, hbq⟩
            have HR2 := hide (HR.out.below hbq)
            skip
            refine hK _ _ ⟨fun _ => HR2.out.b, ih 1 none none (some N3) wq (by omega) (by simp at hs ⊢; omega) HR2⟩
          · refine wpOp_step (i := 12) rfl (fun K hK => ?_)
            go_simp
            have HR2 := hide (HR.out.al1 59)
            refine hK _ _ ⟨fun _ => HR2.out.b, ih 0 (some w.heap.size) none (some N3) _ (by omega) (by simp at hs ⊢; omega) HR2⟩
          · refine wpOp_step (i := 13) rfl (fun K hK => ?_)
            go_simp
            have HR2 := hide (HR.out.al2 59)
            refine hK _ _ ⟨fun _ => HR2.out.b, ih 0 none (some w.heap.size) (some N3) _ (by omega) (by simp at hs ⊢; omega) HR2⟩
        · refine wpAnyE_split [3, 12, 14] (by kernel_rfl) (by simp) (fun i hi => ?_)
          simp only [List.mem_cons, List.not_mem_nil, or_false] at hi
          rcases hi with rfl | rfl | rfl
          · refine wpOp_step (i := 3) rfl (fun K hK => ?_)
            go_simp
            refine (HAT.out w HR.out.b x.a hx.a a ha).mono ?_
            rintro e wq ⟨rfl, hbq⟩
            have HR2 := hide (HR.out.below hbq)
            skip
            refine hK _ _ ⟨fun _ => HR2.out.b, ih 1 none (some N2) none wq (by omega) (by simp at hs ⊢; omega) HR2⟩
          · refine wpOp_step (i := 12) rfl (fun K hK => ?_)
            go_simp
            have HR2 := hide (HR.out.al1 59)
            refine hK _ _ ⟨fun _ => HR2.out.b, ih 0 (some w.heap.size) (some N2) none _ (by omega) (by simp at hs ⊢; omega) HR2⟩
          · refine wpOp_step (i := 14) rfl (fun K hK => ?_)
            go_simp
            have HR2 := hide (HR.out.al3 59)
            refine hK _ _ ⟨fun _ => HR2.out.b, ih 0 none (some N2) (some w.heap.size) _ (by omega) (by simp at hs ⊢; omega) HR2⟩
        · refine wpAnyE_split [3, 12] (by kernel_rfl) (by simp) (fun i hi => ?_)
          simp only [List.mem_cons, List.not_mem_nil, or_false] at hi
          rcases hi with rfl | rfl
          · refine wpOp_step (i := 3) rfl (fun K hK => ?_)
            go_simp
            refine (HAT.out w HR.out.b x.a hx.a a ha).mono ?_
            rintro e wq ⟨rfl, hbq⟩
            have HR2 := hide (HR.out.below hbq)
            skip
            refine hK _ _ ⟨fun _ => HR2.out.b, ih 1 none (some N2) (some N3) wq (by omega) (by simp at hs ⊢; omega) HR2⟩
          · refine wpOp_step (i := 12) rfl (fun K hK => ?_)
            go_simp
            have HR2 := hide (HR.out.al1 59)
            refine hK _ _ ⟨fun _ => HR2.out.b, ih 0 (some w.heap.size) (some N2) (some N3) _ (by omega) (by simp at hs ⊢; omega) HR2⟩
        · refine wpAnyE_split [3, 13, 14] (by kernel_rfl) (by simp) (fun i hi => ?_)
          simp only [List.mem_cons, List.not_mem_nil, or_false] at hi
          rcases hi with rfl | rfl | rfl
          · refine wpOp_step (i := 3) rfl (fun K hK => ?_)
            go_simp
            refine (HAT.out w HR.out.b x.a hx.a a ha).mono ?_
            rintro e wq ⟨rfl, hbq⟩
            have HR2 := hide (HR.out.below hbq)
            skip
            refine hK _ _ ⟨fun _ => HR2.out.b, ih 1 (some N1) none none wq (by omega) (by simp at hs ⊢; omega) HR2⟩
          · refine wpOp_step (i := 13) rfl (fun K hK => ?_)
            go_simp
            have HR2 := hide (HR.out.al2 59)
            refine hK _ _ ⟨fun _ => HR2.out.b, ih 0 (some N1) (some w.heap.size) none _ (by omega) (by simp at hs ⊢; omega) HR2⟩
          · refine wpOp_step (i := 14) rfl (fun K hK => ?_)
            go_simp
            have HR2 := hide (HR.out.al3 59)
            refine hK _ _ ⟨fun _ => HR2.out.b, ih 0 (some N1) none (some w.heap.size) _ (by omega) (by simp at hs ⊢; omega) HR2⟩
        · refine wpAnyE_split [3, 13] (by kernel_rfl) (by simp) (fun i hi => ?_)
          simp only [List.mem_cons, List.not_mem_nil, or_false] at hi
          rcases hi with rfl | rfl
          · refine wpOp_step (i := 3) rfl (fun K hK => ?_)
            go_simp
            refine (HAT.out w HR.out.b x.a hx.a a ha).mono ?_
            rintro e wq ⟨rfl, hbq⟩
            have HR2 := hide (HR.out.below hbq)
            skip
            refine hK _ _ ⟨fun _ => HR2.out.b, ih 1 (some N1) none (some N3) wq (by omega) (by simp at hs ⊢; omega) HR2⟩
          · refine wpOp_step (i := 13) rfl (fun K hK => ?_)
            go_simp
            have HR2 := hide (HR.out.al2 59)
            refine hK _ _ ⟨fun _ => HR2.out.b, ih 0 (some N1) (some w.heap.size) (some N3) _ (by omega) (by simp at hs ⊢; omega) HR2⟩
        · refine wpAnyE_split [3, 14] (by kernel_rfl) (by simp) (fun i hi => ?_)
          simp only [List.mem_cons, List.not_mem_nil, or_false] at hi
          rcases hi with rfl | rfl
          · refine wpOp_step (i := 3) rfl (fun K hK => ?_)
            go_simp
            refine (HAT.out w HR.out.b x.a hx.a a ha).mono ?_
            rintro e wq ⟨rfl, hbq⟩
            have HR2 := hide (HR.out.below hbq)
            skip
            refine hK _ _ ⟨fun _ => HR2.out.b, ih 1 (some N1) (some N2) none wq (by omega) (by simp at hs ⊢; omega) HR2⟩
          · refine wpOp_step (i := 14) rfl (fun K hK => ?_)
            go_simp
            have HR2 := hide (HR.out.al3 59)
            refine hK _ _ ⟨fun _ => HR2.out.b, ih 0 (some N1) (some N2) (some w.heap.size) _ (by omega) (by simp at hs ⊢; omega) HR2⟩
        · refine wpAnyE_split [3] (by kernel_rfl) (by simp) (fun i hi => ?_)
          simp only [List.mem_cons, List.not_mem_nil, or_false] at hi
          subst hi
          · refine wpOp_step (i := 3) rfl (fun K hK => ?_)
            go_simp
            refine (HAT.out w HR.out.b x.a hx.a a ha).mono ?_
            rintro e wq ⟨rfl, hbq⟩
            have HR2 := hide (HR.out.below hbq)
            skip
            refine hK _ _ ⟨fun _ => HR2.out.b, ih 1 (some N1) (some N2) (some N3) wq (by omega) (by simp at hs ⊢; omega) HR2⟩
        · refine wpAnyE_split [7, 12, 13, 14] (by kernel_rfl) (by simp) (fun i hi => ?_)
          simp only [List.mem_cons, List.not_mem_nil, or_false] at hi
          rcases hi with rfl | rfl | rfl | rfl
          · refine wpOp_step (i := 7) rfl (fun K hK => ?_)
            go_simp
            refine (HAT.out w HR.out.b x.b hx.b b hb).mono ?_
            rintro e wq ⟨rfl, hbq⟩
            have HR2 := hide (HR.out.below hbq)
            skip
            refine hK _ _ ⟨fun _ => HR2.out.b, ih 2 none none none wq (by omega) (by simp at hs ⊢; omega) HR2⟩
          · refine wpOp_step (i := 12) rfl (fun K hK => ?_)
            go_simp
            have HR2 := hide (HR.out.al1 59)
            refine hK _ _ ⟨fun _ => HR2.out.b, ih 1 (some w.heap.size) none none _ (by omega) (by simp at hs ⊢; omega) HR2⟩
          · refine wpOp_step (i := 13) rfl (fun K hK => ?_)
            go_simp
            have HR2 := hide (HR.out.al2 59)
            refine hK _ _ ⟨fun _ => HR2.out.b, ih 1 none (some w.heap.size) none _ (by omega) (by simp at hs ⊢; omega) HR2⟩
          · refine wpOp_step (i := 14) rfl (fun K hK => ?_)
            go_simp
            have HR2 := hide (HR.out.al3 59)
            refine hK _ _ ⟨fun _ => HR2.out.b, ih 1 none none (some w.heap.size) _ (by omega) (by simp at hs ⊢; omega) HR2⟩
        · refine wpAnyE_split [7, 12, 13] (by kernel_rfl) (by simp) (fun i hi => ?_)
          simp only [List.mem_cons, List.not_mem_nil, or_false] at hi
          rcases hi with rfl | rfl | rfl
          · refine wpOp_step (i := 7) rfl (fun K hK => ?_)
            go_simp
            refine (HAT.out w HR.out.b x.b hx.b b hb).mono ?_
            rintro e wq ⟨rfl, hbq⟩
            have HR2 := hide (HR.out.below hbq)
            skip
            refine hK _ _ ⟨fun _ => HR2.out.b, ih 2 none none (some N3) wq (by omega) (by simp at hs ⊢; omega) HR2⟩
          · refine wpOp_step (i := 12) rfl (fun K hK => ?_)
            go_simp
            have HR2 := hide (HR.out.al1 59)
            refine hK _ _ ⟨fun _ => HR2.out.b, ih 1 (some w.heap.size) none (some N3) _ (by omega) (by simp at hs ⊢; omega) HR2⟩
          · refine wpOp_step (i := 13) rfl (fun K hK => ?_)
            go_simp
            have HR2 := hide (HR.out.al2 59)
            refine hK _ _ ⟨fun _ => HR2.out.b, ih 1 none (some w.heap.size) (some N3) _ (by omega) (by simp at hs ⊢; omega) HR2⟩
        · refine wpAnyE_split [7, 12, 14] (by kernel_rfl) (by simp) (fun i hi => ?_)
          simp only [List.mem_cons, List.not_mem_nil, or_false] at hi
          rcases hi with rfl | rfl | rfl
          · refine wpOp_step (i := 7) rfl (fun K hK => ?_)
            go_simp
            refine (HAT.out w HR.out.b x.b hx.b b hb).mono ?_
            rintro e wq ⟨rfl, hbq⟩
            have HR2 := hide (HR.out.below hbq)
            skip
            refine hK _ _ ⟨fun _ => HR2.out.b, ih 2 none (some N2) none wq (by omega) (by simp at hs ⊢; omega) HR2⟩
          · refine wpOp_step (i := 12) rfl (fun K hK => ?_)
            go_simp
            have HR2 := hide (HR.out.al1 59)
            refine hK _ _ ⟨fun _ => HR2.out.b, ih 1 (some w.heap.size) (some N2) none _ (by omega) (by simp at hs ⊢; omega) HR2⟩
          · refine wpOp_step (i := 14) rfl (fun K hK => ?_)
            go_simp
            have HR2 := hide (HR.out.al3 59)
            refine hK _ _ ⟨fun _ => HR2.out.b, ih 1 none (some N2) (some w.heap.size) _ (by omega) (by simp at hs ⊢; omega) HR2⟩
        · refine wpAnyE_split [7, 12] (by kernel_rfl) (by simp) (fun i hi => ?_)
          simp only [List.mem_cons, List.not_mem_nil, or_false] at hi
          rcases hi with rfl | rfl
          · refine wpOp_step (i := 7) rfl (fun K hK => ?_)
            go_simp
            refine (HAT.out w HR.out.b x.b hx.b b hb).mono ?_
            rintro e wq ⟨rfl, hbq⟩
            have HR2 := hide (HR.out.below hbq)
            skip
            refine hK _ _ ⟨fun _ => HR2.out.b, ih 2 none (some N2) (some N3) wq (by omega) (by simp at hs ⊢; omega) HR2⟩
          · refine wpOp_step (i := 12) rfl (fun K hK => ?_)
            go_simp
            have HR2 := hide (HR.out.al1 59)
            refine hK _ _ ⟨fun _ => HR2.out.b, ih 1 (some w.heap.size) (some N2) (some N3) _ (by omega) (by simp at hs ⊢; omega) HR2⟩
        · refine wpAnyE_split [7, 13, 14] (by kernel_rfl) (by simp) (fun i hi => ?_)
          simp only [List.mem_cons, List.not_mem_nil, or_false] at hi
          rcases hi with rfl | rfl | rfl
          · refine wpOp_step (i := 7) rfl (fun K hK => ?_)
            go_simp
            refine (HAT.out w HR.out.b x.b hx.b b hb).mono ?_
            rintro e wq ⟨rfl, hbq⟩
            have HR2 := hide (HR.out.below hbq)
            skip
            refine hK _ _ ⟨fun _ => HR2.out.b, ih 2 (some N1) none none wq (by omega) (by simp at hs ⊢; omega) HR2⟩
          · refine wpOp_step (i := 13) rfl (fun K hK => ?_)
            go_simp
            have HR2 := hide (HR.out.al2 59)
            refine hK _ _ ⟨fun _ => HR2.out.b, ih 1 (some N1) (some w.heap.size) none _ (by omega) (by simp at hs ⊢; omega) HR2⟩
          · refine wpOp_step (i := 14) rfl (fun K hK => ?_)
            go_simp
            have HR2 := hide (HR.out.al3 59)
            refine hK _ _ ⟨fun _ => HR2.out.b, ih 1 (some N1) none (some w.heap.size) _ (by omega) (by simp at hs ⊢; omega) HR2⟩
        · refine wpAnyE_split [7, 13] (by kernel_rfl) (by simp) (fun i hi => ?_)
          simp only [List.mem_cons, List.not_mem_nil, or_false] at hi
          rcases hi with rfl | rfl
          · refine wpOp_step (i := 7) rfl (fun K hK => ?_)
            go_simp
            refine (HAT.out w HR.out.b x.b hx.b b hb).mono ?_
            rintro e wq ⟨rfl, hbq⟩
            have HR2 := hide (HR.out.below hbq)
            skip
            refine hK _ _ ⟨fun _ => HR2.out.b, ih 2 (some N1) none (some N3) wq (by omega) (by simp at hs ⊢; omega) HR2⟩
          · refine wpOp_step (i := 13) rfl (fun K hK => ?_)
            go_simp
            have HR2 := hide (HR.out.al2 59)
            refine hK _ _ ⟨fun _ => HR2.out.b, ih 1 (some N1) (some w.heap.size) (some N3) _ (by omega) (by simp at hs ⊢; omega) HR2⟩
        · refine wpAnyE_split [7, 14] (by kernel_rfl) (by simp) (fun i hi => ?_)
          simp only [List.mem_cons, List.not_mem_nil, or_false] at hi
          rcases hi with rfl | rfl
          · refine wpOp_step (i := 7) rfl (fun K hK => ?_)
            go_simp
            refine (HAT.out w HR.out.b x.b hx.b b hb).mono ?_
            rintro e wq ⟨rfl, hbq⟩
            have HR2 := hide (HR.out.below hbq)
            skip
            refine hK _ _ ⟨fun _ => HR2.out.b, ih 2 (some N1) (some N2) none wq (by omega) (by simp at hs ⊢; omega) HR2⟩
          · refine wpOp_step (i := 14) rfl (fun K hK => ?_)
            go_simp
            have HR2 := hide (HR.out.al3 59)
            refine hK _ _ ⟨fun _ => HR2.out.b, ih 1 (some N1) (some N2) (some w.heap.size) _ (by omega) (by simp at hs ⊢; omega) HR2⟩
        · refine wpAnyE_split [7] (by kernel_rfl) (by simp) (fun i hi => ?_)
          simp only [List.mem_cons, List.not_mem_nil, or_false] at hi
          subst hi
          · refine wpOp_step (i := 7) rfl (fun K hK => ?_)
            go_simp
            refine (HAT.out w HR.out.b x.b hx.b b hb).mono ?_
            rintro e wq ⟨rfl, hbq⟩
            have HR2 := hide (HR.out.below hbq)
            skip
            refine hK _ _ ⟨fun _ => HR2.out.b, ih 2 (some N1) (some N2) (some N3) wq (by omega) (by simp at hs ⊢; omega) HR2⟩
        · refine wpAnyE_split [11, 12, 13, 14] (by kernel_rfl) (by simp) (fun i hi => ?_)
          simp only [List.mem_cons, List.not_mem_nil, or_false] at hi
          rcases hi with rfl | rfl | rfl | rfl
          · refine wpOp_step (i := 11) rfl (fun K hK => ?_)
            go_simp
            refine (HAT.out w HR.out.b x.c hx.c c hc).mono ?_
            rintro e wq ⟨rfl, hbq⟩
            have HR2 := hide (HR.out.below hbq)
            skip
            refine hK _ _ ⟨fun _ => HR2.out.b, ih 3 none none none wq (by omega) (by simp at hs ⊢; omega) HR2⟩
          · refine wpOp_step (i := 12) rfl (fun K hK => ?_)
            go_simp
            have HR2 := hide (HR.out.al1 59)
            refine hK _ _ ⟨fun _ => HR2.out.b, ih 2 (some w.heap.size) none none _ (by omega) (by simp at hs ⊢; omega) HR2⟩
          · refine wpOp_step (i := 13) rfl (fun K hK => ?_)
            go_simp
            have HR2 := hide (HR.out.al2 59)
            refine hK _ _ ⟨fun _ => HR2.out.b, ih 2 none (some w.heap.size) none _ (by omega) (by simp at hs ⊢; omega) HR2⟩
          · refine wpOp_step (i := 14) rfl (fun K hK => ?_)
            go_simp
            have HR2 := hide (HR.out.al3 59)
            refine hK _ _ ⟨fun _ => HR2.out.b, ih 2 none none (some w.heap.size) _ (by omega) (by simp at hs ⊢; omega) HR2⟩
        · refine wpAnyE_split [11, 12, 13] (by kernel_rfl) (by simp) (fun i hi => ?_)
          simp only [List.mem_cons, List.not_mem_nil, or_false] at hi
          rcases hi with rfl | rfl | rfl
          · refine wpOp_step (i := 11) rfl (fun K hK => ?_)
            go_simp
            refine (HAT.out w HR.out.b x.c hx.c c hc).mono ?_
            rintro e wq ⟨rfl, hbq⟩
            have HR2 := hide (HR.out.below hbq)
            skip
            refine hK _ _ ⟨fun _ => HR2.out.b, ih 3 none none (some N3) wq (by omega) (by simp at hs ⊢; omega) HR2⟩
          · refine wpOp_step (i := 12) rfl (fun K hK => ?_)
            go_simp
            have HR2 := hide (HR.out.al1 59)
            refine hK _ _ ⟨fun _ => HR2.out.b, ih 2 (some w.heap.size) none (some N3) _ (by omega) (by simp at hs ⊢; omega) HR2⟩
          · refine wpOp_step (i := 13) rfl (fun K hK => ?_)
            go_simp
            have HR2 := hide (HR.out.al2 59)
            refine hK _ _ ⟨fun _ => HR2.out.b, ih 2 none (some w.heap.size) (some N3) _ (by omega) (by simp at hs ⊢; omega) HR2⟩
        · refine wpAnyE_split [11, 12, 14] (by kernel_rfl) (by simp) (fun i hi => ?_)
          simp only [List.mem_cons, List.not_mem_nil, or_false] at hi
          rcases hi with rfl | rfl | rfl
          · refine wpOp_step (i := 11) rfl (fun K hK => ?_)
            go_simp
            refine (HAT.out w HR.out.b x.c hx.c c hc).mono ?_
            rintro e wq ⟨rfl, hbq⟩
            have HR2 := hide (HR.out.below hbq)
            skip
            refine hK _ _ ⟨fun _ => HR2.out.b, ih 3 none (some N2) none wq (by omega) (by simp at hs ⊢; omega) HR2⟩
          · refine wpOp_step (i := 12) rfl (fun K hK => ?_)
            go_simp
            have HR2 := hide (HR.out.al1 59)
            refine hK _ _ ⟨fun _ => HR2.out.b, ih 2 (some w.heap.size) (some N2) none _ (by omega) (by simp at hs ⊢; omega) HR2⟩
          · refine wpOp_step (i := 14) rfl (fun K hK => ?_)
            go_simp
            have HR2 := hide (HR.out.al3 59)
            refine hK _ _ ⟨fun _ => HR2.out.b, ih 2 none (some N2) (some w.heap.size) _ (by omega) (by simp at hs ⊢; omega) HR2⟩
        · refine wpAnyE_split [11, 12] (by kernel_rfl) (by simp) (fun i hi => ?_)
          simp only [List.mem_cons, List.not_mem_nil, or_false] at hi
          rcases hi with rfl | rfl
          · refine wpOp_step (i := 11) rfl (fun K hK => ?_)
            go_simp
            refine (HAT.out w HR.out.b x.c hx.c c hc).mono ?_
            rintro e wq ⟨rfl, hbq⟩
            have HR2 := hide (HR.out.below hbq)
            skip
            refine hK _ _ ⟨fun _ => HR2.out.b, ih 3 none (some N2) (some N3) wq (by omega) (by simp at hs ⊢; omega) HR2⟩
          · refine wpOp_step (i := 12) rfl (fun K hK => ?_)
            go_simp
            have HR2 := hide (HR.out.al1 59)
            refine hK _ _ ⟨fun _ => HR2.out.b, ih 2 (some w.heap.size) (some N2) (some N3) _ (by omega) (by simp at hs ⊢; omega) HR2⟩
        · refine wpAnyE_split [11, 13, 14] (by kernel_rfl) (by simp) (fun i hi => ?_)
          simp only [List.mem_cons, List.not_mem_nil, or_false] at hi
          rcases hi with rfl | rfl | rfl
          · refine wpOp_step (i := 11) rfl (fun K hK => ?_)
            go_simp
            refine (HAT.out w HR.out.b x.c hx.c c hc).mono ?_
            rintro e wq ⟨rfl, hbq⟩
            have HR2 := hide (HR.out.below hbq)
            skip
            refine hK _ _ ⟨fun _ => HR2.out.b, ih 3 (some N1) none none wq (by omega) (by simp at hs ⊢; omega) HR2⟩
          · refine wpOp_step (i := 13) rfl (fun K hK => ?_)
            go_simp
            have HR2 := hide (HR.out.al2 59)
            refine hK _ _ ⟨fun _ => HR2.out.b, ih 2 (some N1) (some w.heap.size) none _ (by omega) (by simp at hs ⊢; omega) HR2⟩
          · refine wpOp_step (i := 14) rfl (fun K hK => ?_)
            go_simp
            have HR2 := hide (HR.out.al3 59)
            refine hK _ _ ⟨fun _ => HR2.out.b, ih 2 (some N1) none (some w.heap.size) _ (by omega) (by simp at hs ⊢; omega) HR2⟩
        · refine wpAnyE_split [11, 13] (by kernel_rfl) (by simp) (fun i hi => ?_)
          simp only [List.mem_cons, List.not_mem_nil, or_false] at hi
          rcases hi with rfl | rfl
          · refine wpOp_step (i := 11) rfl (fun K hK => ?_)
            go_simp
            refine (HAT.out w HR.out.b x.c hx.c c hc).mono ?_
            rintro e wq ⟨rfl, hbq⟩
            have HR2 := hide (HR.out.below hbq)
            skip
            refine hK _ _ ⟨fun _ => HR2.out.b, ih 3 (some N1) none (some N3) wq (by omega) (by simp at hs ⊢; omega) HR2⟩
          · refine wpOp_step (i := 13) rfl (fun K hK => ?_)
            go_simp
            have HR2 := hide (HR.out.al2 59)
            refine hK _ _ ⟨fun _ => HR2.out.b, ih 2 (some N1) (some w.heap.size) (some N3) _ (by omega) (by simp at hs ⊢; omega) HR2⟩
        · refine wpAnyE_split [11, 14] (by kernel_rfl) (by simp) (fun i hi => ?_)
          simp only [List.mem_cons, List.not_mem_nil, or_false] at hi
          rcases hi with rfl | rfl
          · refine wpOp_step (i := 11) rfl (fun K hK => ?_)
            go_simp
            refine (HAT.out w HR.out.b x.c hx.c c hc).mono ?_
            rintro e wq ⟨rfl, hbq⟩
            have HR2 := hide (HR.out.below hbq)
            skip
            refine hK _ _ ⟨fun _ => HR2.out.b, ih 3 (some N1) (some N2) none wq (by omega) (by simp at hs ⊢; omega) HR2⟩
          · refine wpOp_step (i := 14) rfl (fun K hK => ?_)
            go_simp
            have HR2 := hide (HR.out.al3 59)
            refine hK _ _ ⟨fun _ => HR2.out.b, ih 2 (some N1) (some N2) (some w.heap.size) _ (by omega) (by simp at hs ⊢; omega) HR2⟩
        · refine wpAnyE_split [11] (by kernel_rfl) (by simp) (fun i hi => ?_)
          simp only [List.mem_cons, List.not_mem_nil, or_false] at hi
          subst hi
          · refine wpOp_step (i := 11) rfl (fun K hK => ?_)
            go_simp
            refine (HAT.out w HR.out.b x.c hx.c c hc).mono ?_
            rintro e wq ⟨rfl, hbq⟩
            have HR2 := hide (HR.out.below hbq)
            skip
            refine hK _ _ ⟨fun _ => HR2.out.b, ih 3 (some N1) (some N2) (some N3) wq (by omega) (by simp at hs ⊢; omega) HR2⟩
        · refine wpAnyE_split [12, 13, 14] (by kernel_rfl) (by simp) (fun i hi => ?_)
          simp only [List.mem_cons, List.not_mem_nil, or_false] at hi
          rcases hi with rfl | rfl | rfl
          · refine wpOp_step (i := 12) rfl (fun K hK => ?_)
            go_simp
            have HR2 := hide (HR.out.al1 59)
            refine hK _ _ ⟨fun _ => HR2.out.b, ih 3 (some w.heap.size) none none _ (by omega) (by simp at hs ⊢; omega) HR2⟩
          · refine wpOp_step (i := 13) rfl (fun K hK => ?_)
            go_simp
            have HR2 := hide (HR.out.al2 59)
            refine hK _ _ ⟨fun _ => HR2.out.b, ih 3 none (some w.heap.size) none _ (by omega) (by simp at hs ⊢; omega) HR2⟩
          · refine wpOp_step (i := 14) rfl (fun K hK => ?_)
            go_simp
            have HR2 := hide (HR.out.al3 59)
            refine hK _ _ ⟨fun _ => HR2.out.b, ih 3 none none (some w.heap.size) _ (by omega) (by simp at hs ⊢; omega) HR2⟩
        · refine wpAnyE_split [12, 13] (by kernel_rfl) (by simp) (fun i hi => ?_)
          simp only [List.mem_cons, List.not_mem_nil, or_false] at hi
          rcases hi with rfl | rfl
          · refine wpOp_step (i := 12) rfl (fun K hK => ?_)
            go_simp
            have HR2 := hide (HR.out.al1 59)
            refine hK _ _ ⟨fun _ => HR2.out.b, ih 3 (some w.heap.size) none (some N3) _ (by omega) (by simp at hs ⊢; omega) HR2⟩
          · refine wpOp_step (i := 13) rfl (fun K hK => ?_)
            go_simp
            have HR2 := hide (HR.out.al2 59)
            refine hK _ _ ⟨fun _ => HR2.out.b, ih 3 none (some w.heap.size) (some N3) _ (by omega) (by simp at hs ⊢; omega) HR2⟩
        · refine wpAnyE_split [12, 14] (by kernel_rfl) (by simp) (fun i hi => ?_)
          simp only [List.mem_cons, List.not_mem_nil, or_false] at hi
          rcases hi with rfl | rfl
          · refine wpOp_step (i := 12) rfl (fun K hK => ?_)
            go_simp
            have HR2 := hide (HR.out.al1 59)
            refine hK _ _ ⟨fun _ => HR2.out.b, ih 3 (some w.heap.size) (some N2) none _ (by omega) (by simp at hs ⊢; omega) HR2⟩
          · refine wpOp_step (i := 14) rfl (fun K hK => ?_)
            go_simp
            have HR2 := hide (HR.out.al3 59)
            refine hK _ _ ⟨fun _ => HR2.out.b, ih 3 none (some N2) (some w.heap.size) _ (by omega) (by simp at hs ⊢; omega) HR2⟩
        · refine wpAnyE_split [12] (by kernel_rfl) (by simp) (fun i hi => ?_)
          simp only [List.mem_cons, List.not_mem_nil, or_false] at hi
          subst hi
          · refine wpOp_step (i := 12) rfl (fun K hK => ?_)
            go_simp
            have HR2 := hide (HR.out.al1 59)
            refine hK _ _ ⟨fun _ => HR2.out.b, ih 3 (some w.heap.size) (some N2) (some N3) _ (by omega) (by simp at hs ⊢; omega) HR2⟩
        · refine wpAnyE_split [13, 14] (by kernel_rfl) (by simp) (fun i hi => ?_)
          simp only [List.mem_cons, List.not_mem_nil, or_false] at hi
          rcases hi with rfl | rfl
          · refine wpOp_step (i := 13) rfl (fun K hK => ?_)
            go_simp
            have HR2 := hide (HR.out.al2 59)
            refine hK _ _ ⟨fun _ => HR2.out.b, ih 3 (some N1) (some w.heap.size) none _ (by omega) (by simp at hs ⊢; omega) HR2⟩
          · refine wpOp_step (i := 14) rfl (fun K hK => ?_)
            go_simp
            have HR2 := hide (HR.out.al3 59)
            refine hK _ _ ⟨fun _ => HR2.out.b, ih 3 (some N1) none (some w.heap.size) _ (by omega) (by simp at hs ⊢; omega) HR2⟩
        · refine wpAnyE_split [13] (by kernel_rfl) (by simp) (fun i hi => ?_)
          simp only [List.mem_cons, List.not_mem_nil, or_false] at hi
          subst hi
          · refine wpOp_step (i := 13) rfl (fun K hK => ?_)
            go_simp
            have HR2 := hide (HR.out.al2 59)
            refine hK _ _ ⟨fun _ => HR2.out.b, ih 3 (some N1) (some w.heap.size) (some N3) _ (by omega) (by simp at hs ⊢; omega) HR2⟩
        · refine wpAnyE_split [14] (by kernel_rfl) (by simp) (fun i hi => ?_)
          simp only [List.mem_cons, List.not_mem_nil, or_false] at hi
          subst hi
          · refine wpOp_step (i := 14) rfl (fun K hK => ?_)
            go_simp
            have HR2 := hide (HR.out.al3 59)
            refine hK _ _ ⟨fun _ => HR2.out.b, ih 3 (some N1) (some N2) (some w.heap.size) _ (by omega) (by simp at hs ⊢; omega) HR2⟩
        · exfalso; simp at hs
    exact R3 6 0 none none none _ (by omega) (by simp) (hide ⟨(Below.refl _ _).drew, fun N e => (by cases e), fun N e => (by cases e), fun N e => (by cases e), fun N M e => (by cases e), fun N M e => (by cases e), fun N M e => (by cases e)⟩)
  intro N1 N2 N3 w3 hB3
  -- R4
  have HX3 := hide (HX1.out.below hB3.bl)
  have HB3 := hide hB3
  clear hB3 HAT hcall HC HX1
  have HK := hide hx
  have HC3 := hide (fun (w' : World) (hb' : Below w3.heap.size w3 w') => show (w'.cell? ⟨W.heap.size, 0, none⟩ = some (.int .i64 (vars : Int)) ∧ w'.cell? ⟨W.heap.size + 1 + 1 + 1, 0, none⟩ = some (.func (.func 87) #[] #[.pointer (some ⟨W.heap.size, 0, none⟩)]) ∧ (w'.cell? ⟨W.heap.size + 1 + 1, 0, none⟩ = some (.int .i64 x.k) ∧ w'.cell? ⟨W.heap.size + 1 + 1, 1, none⟩ = some (.int .i64 x.a) ∧ w'.cell? ⟨W.heap.size + 1 + 1, 2, none⟩ = some (.int .i64 x.b) ∧ w'.cell? ⟨W.heap.size + 1 + 1, 3, none⟩ = some (.int .i64 x.c)) ∧ (w'.cell? ⟨N1, 0, none⟩ = some (.int .i64 (a.id : Int)) ∧ w'.cell? ⟨N1, 1, none⟩ = some (.slice (some ⟨a.N, 0, none⟩) n n)) ∧ (w'.cell? ⟨N2, 0, none⟩ = some (.int .i64 (b.id : Int)) ∧ w'.cell? ⟨N2, 1, none⟩ = some (.slice (some ⟨b.N, 0, none⟩) n n)) ∧ (w'.cell? ⟨N3, 0, none⟩ = some (.int .i64 (c.id : Int)) ∧ w'.cell? ⟨N3, 1, none⟩ = some (.slice (some ⟨c.N, 0, none⟩) n n))) from by
    have q := HX3.out.below hb'
    have r := HB3.out.below hb'
    exact ⟨(q.get 3 rfl).1 0 _ rfl, (q.get 0 rfl).1 0 _ rfl, ⟨(q.get 1 rfl).1 0 _ rfl, (q.get 1 rfl).1 1 _ rfl, (q.get 1 rfl).1 2 _ rfl, (q.get 1 rfl).1 3 _ rfl⟩, ⟨(r.get 0 rfl).1 0 _ rfl, (r.get 0 rfl).1 1 _ rfl⟩, ⟨(r.get 1 rfl).1 0 _ rfl, (r.get 1 rfl).1 1 _ rfl⟩, ⟨(r.get 2 rfl).1 0 _ rfl, (r.get 2 rfl).1 1 _ rfl⟩⟩)
  have HT3 := hide (fun (w' : World) (hb' : Below w3.heap.size w3 w') => HT.out w' (HX3.out.bl.trans (hb'.mono HX3.out.bl.size)))
  have HN := hide (And.intro h8 hn)
  have hlt1 := (HB3.out.bx _ (List.mem_of_getElem? (i := 0) rfl)).2
  have hlt2 := (HB3.out.bx _ (List.mem_of_getElem? (i := 1) rfl)).2
  have hlt3 := (HB3.out.bx _ (List.mem_of_getElem? (i := 2) rfl)).2
  simp only at hlt1 hlt2 hlt3
  have hsW : W.heap.size + 4 ≤ w3.heap.size := by have := (HX3.out.bx _ (List.mem_of_getElem? (i := 0) rfl)).2; simp only at this; omega
  obtain ⟨F0, hF0⟩ : ∃ F0, toldF vars a b c x = F0 := ⟨_, rfl⟩
  obtain ⟨I0, hI0⟩ : ∃ I0, toldI a b c x = I0 := ⟨_, rfl⟩
  have HF := hide hF0
  have HI := hide hI0
  clear hF0 hI0 ha hb hc HL h0 hle hn
  obtain ⟨c0, c1, ⟨c2, c3, c4, c5⟩, ⟨s1, t1⟩, ⟨s2, t2⟩, ⟨s3, t3⟩⟩ := HC3.out w3 (Below.refl _ _)
  have HCS := hide (And.intro c0 (And.intro c3 (And.intro c4 c5)))
  by_cases k0 : x.k = 0
  case pos =>
    have e0 : (x.k == 0) = true := by simpa using k0
    have HK0 := hide k0
    clear k0
    have HI2 := hide (show I0 = [] from by rw [← HI.out, toldI, if_pos HK0.out])
    by_cases hr : 0 ≤ x.a ∧ x.a < (vars : Int)
    case neg =>
      have HF2 := hide (show F0 = none from by rw [← HF.out, toldF, if_pos HK0.out, if_neg hr])
      by_cases h0 : x.a < 0
      all_goals
        first | have hge : (vars : Int) ≤ x.a := by omega | skip
        go_wp2
        go_ret3
        exact ⟨HX3.out.bl, _, _, _, rfl, by rw [HI.out, HI2.out]; exact ids_nil _, by rw [HF.out, HF2.out]; exact ⟨rfl, rfl⟩⟩
    obtain ⟨j, hj⟩ : ∃ j : Nat, x.a = (j : Int) := ⟨x.a.toNat, by omega⟩
    have HF2 := hide (show F0 = some (fun i => i.testBit (vars - 1 - j)) from by rw [← HF.out, toldF, if_pos HK0.out, if_pos hr, hj]; rfl)
    have HM := hide (fun (w' : World) (hb' : Below w3.heap.size w3 w') => table_walk vars n HN.out.1 HN.out.2 88 #[.pointer (some ⟨W.heap.size + 1 + 1 + 1, 0, none⟩), .pointer (some ⟨W.heap.size + 1 + 1, 0, none⟩)] (fun i => i.testBit (vars - 1 - j)) w' told3_enters (hide (fun c0 w0 hc0 hb0 => told3_walk vars j c0 (W.heap.size) (W.heap.size + 1 + 1 + 1) (W.heap.size + 1 + 1) #[] HN.out.1 (by omega) (by have h2 := pow8 HN.out.1; rw [HN.out.2] at h2; omega) w0 ((HC3.out w0 (hb'.trans (hb0.mono hb'.size))).1) ((HC3.out w0 (hb'.trans (hb0.mono hb'.size))).2.1) (by rw [← hj]; exact (HC3.out w0 (hb'.trans (hb0.mono hb'.size))).2.2.1.2.1) |>.mono (fun e w' h => ⟨h.1, h.2 ▸ Below.refl _ _⟩))))
    have i1 : (0 : Int) ≤ x.a := hr.1
    have i2 : x.a < (vars : Int) := hr.2
    clear hr
    go_wp2_with fail
    refine (HM.out w3 (Below.refl _ _)).mono ?_
    clear HM c0 c1 c2 c3 c4 c5 s1 s2 s3 t1 t2 t3
    rintro e w4 ⟨Nt, rfl, ht, hlo, hbm⟩
    have HTT := hide ht
    have HBM := hide (HX3.out.bl.trans (hbm.mono HX3.out.bl.size))
    have hlo2 : W.heap.size ≤ Nt := by omega
    clear ht hbm
    go_wp2
    go_ret3
    exact ⟨HBM.out, _, _, _, rfl, by rw [HI.out, HI2.out]; exact ids_nil _, by rw [HF.out, HF2.out]; exact ⟨rfl, Nt, rfl, HTT.out, hlo2⟩⟩
  have e0 : (x.k == 0) = false := by simpa using k0
  have K0 := hide k0
  clear k0
  by_cases k1 : x.k = 1
  case pos =>
    have e1 : (x.k == 1) = true := by simpa using k1
    have HK1 := hide k1
    clear k1
    have HI2 := hide (show I0 = [a.id] from by rw [← HI.out, toldI, if_neg K0.out, if_pos HK1.out])
    have HF2 := hide (show F0 = some (fun i => !a.F i) from by rw [← HF.out, toldF, if_neg K0.out, if_pos HK1.out])
    have HM := hide (fun (w' : World) (hb' : Below w3.heap.size w3 w') => table_walk vars n HN.out.1 HN.out.2 89 #[.pointer (some ⟨N1, 0, none⟩)] (fun i => !a.F i) w' told4_enters (hide (fun c0 w0 hc0 hb0 => told4_walk n c0 hc0 N1 a.N a.F w0 (HC3.out w0 (hb'.trans (hb0.mono hb'.size))).2.2.2.1.2 (HT3.out w0 (hb'.trans (hb0.mono hb'.size))).1 |>.mono (fun e w' h => ⟨h.1, h.2 ▸ Below.refl _ _⟩))))
    go_wp2_with fail
    have HG := hide (show BX w3 [] w3 from BX.none w3)
    obtain ⟨c0, c1, ⟨c2, c3, c4, c5⟩, ⟨s1, t1⟩, ⟨s2, t2⟩, ⟨s3, t3⟩⟩ := HC3.out _ HG.out.bl
    have m1 := Nat.ne_of_lt (Nat.lt_of_lt_of_le hlt1 HG.out.bl.size)
    have m2 := Nat.ne_of_lt (Nat.lt_of_lt_of_le hlt2 HG.out.bl.size)
    have m3 := Nat.ne_of_lt (Nat.lt_of_lt_of_le hlt3 HG.out.bl.size)
    have m4 : W.heap.size ≠ _ := Nat.ne_of_lt (Nat.lt_of_lt_of_le (show W.heap.size < w3.heap.size by omega) HG.out.bl.size)
    have m5 := Ne.symm m1
    have m6 := Ne.symm m2
    have m7 := Ne.symm m3
    have m8 := Ne.symm m4
    apply cut_region2 (C := TI w3 n (fun i => !a.F i) #[.int .i64 (a.id : Int)])
    · intro HKK
      go_region_held3 (fun w' => w'.cell? ⟨W.heap.size, 0, none⟩ = some (.int .i64 (vars : Int)) ∧ w'.cell? ⟨N1, 0, none⟩ = some (.int .i64 (a.id : Int)) ∧ w'.cell? ⟨N2, 0, none⟩ = some (.int .i64 (b.id : Int)) ∧ w'.cell? ⟨N3, 0, none⟩ = some (.int .i64 (c.id : Int))) (go_keep) ((go_at_call 20; refine (HM.out _ (by first | exact HG.out.drew.bl | exact (HG.out.al _ _).done.drew.bl | exact HG.out.bl | exact (HG.out.al _ _).done.bl)).mono ?_; rintro e wp ⟨Nt, rfl, ht, hlo, hbm⟩; have HTT := hide ht; have HLO := hide (show w3.heap.size ≤ Nt from Nat.le_trans (by first | exact HG.out.drew.bl.size | exact (HG.out.al _ _).done.drew.bl.size | exact HG.out.bl.size | exact (HG.out.al _ _).done.bl.size) hlo); (first | (have HG := hide (HG.out.drew.below hbm)) | (have HG := hide ((HG.out.al #[.int .i64 (a.id : Int)] 3).done.drew.below hbm)) | (have HG := hide (HG.out.below hbm)) | (have HG := hide ((HG.out.al #[.int .i64 (a.id : Int)] 3).done.below hbm))); obtain ⟨c0, c1, ⟨c2, c3, c4, c5⟩, ⟨s1, t1⟩, ⟨s2, t2⟩, ⟨s3, t3⟩⟩ := HC3.out _ HG.out.bl; have m1 := Nat.ne_of_lt (Nat.lt_of_lt_of_le hlt1 HG.out.bl.size); have m2 := Nat.ne_of_lt (Nat.lt_of_lt_of_le hlt2 HG.out.bl.size); have m3 := Nat.ne_of_lt (Nat.lt_of_lt_of_le hlt3 HG.out.bl.size); have m4 : W.heap.size ≠ _ := Nat.ne_of_lt (Nat.lt_of_lt_of_le (show W.heap.size < w3.heap.size by omega) HG.out.bl.size); have m5 := Ne.symm m1; have m6 := Ne.symm m2; have m7 := Ne.symm m3; have m8 := Ne.symm m4))
      all_goals (first | (obtain ⟨Nt', Ni', w', e1, e2, e3, q⟩ := TI.a HTT.out HLO.out HG.out #[.int .i64 (a.id : Int)] 3; rw [e3, e2, e1]; exact HKK.out _ _ _ q) | (obtain ⟨Nt', Ni', w', e1, e2, e3, q⟩ := TI.b HTT.out HLO.out HG.out; rw [e3, e2, e1]; exact HKK.out _ _ _ q))
    clear HG HM c0 c1 c2 c3 c4 c5 s1 s2 s3 t1 t2 t3 m1 m2 m3 m4 m5 m6 m7 m8
    intro Nt Ni w4 hTI
    have HTI := hide hTI
    clear hTI
    go_wp2
    go_ret3
    refine ⟨HX3.out.bl.trans (HTI.out.2.2.2.2.mono HX3.out.bl.size), _, _, _, rfl, ?_, ?_⟩
    · rw [HI.out, HI2.out]; exact ids_box (l := [a.id]) HTI.out.2.2.1 HTI.out.2.2.2.1 rfl
    · rw [HF.out, HF2.out]; exact ⟨rfl, Nt, rfl, HTI.out.1, by have := HTI.out.2.1; omega⟩
  have e1 : (x.k == 1) = false := by simpa using k1
  have K1 := hide k1
  clear k1
  by_cases k2 : x.k = 2
  case pos =>
    have e2 : (x.k == 2) = true := by simpa using k2
    have HK2 := hide k2
    clear k2
    have HI2 := hide (show I0 = [a.id, b.id] from by rw [← HI.out, toldI, if_neg K0.out, if_neg K1.out, if_pos HK2.out])
    have HF2 := hide (show F0 = some (fun i => a.F i && b.F i) from by rw [← HF.out, toldF, if_neg K0.out, if_neg K1.out, if_pos HK2.out])
    have HM := hide (fun (w' : World) (hb' : Below w3.heap.size w3 w') => table_walk vars n HN.out.1 HN.out.2 90 #[.pointer (some ⟨N1, 0, none⟩), .pointer (some ⟨N2, 0, none⟩)] (fun i => a.F i && b.F i) w' told5_enters (hide (fun c0 w0 hc0 hb0 => told5_walk n c0 hc0 N1 a.N a.F N2 b.N b.F w0 (HC3.out w0 (hb'.trans (hb0.mono hb'.size))).2.2.2.1.2 (HT3.out w0 (hb'.trans (hb0.mono hb'.size))).1 (HC3.out w0 (hb'.trans (hb0.mono hb'.size))).2.2.2.2.1.2 (HT3.out w0 (hb'.trans (hb0.mono hb'.size))).2.1 |>.mono (fun e w' h => ⟨h.1, h.2 ▸ Below.refl _ _⟩))))
    go_wp2_with fail
    have HG := hide (show BX w3 [] w3 from BX.none w3)
    obtain ⟨c0, c1, ⟨c2, c3, c4, c5⟩, ⟨s1, t1⟩, ⟨s2, t2⟩, ⟨s3, t3⟩⟩ := HC3.out _ HG.out.bl
    have m1 := Nat.ne_of_lt (Nat.lt_of_lt_of_le hlt1 HG.out.bl.size)
    have m2 := Nat.ne_of_lt (Nat.lt_of_lt_of_le hlt2 HG.out.bl.size)
    have m3 := Nat.ne_of_lt (Nat.lt_of_lt_of_le hlt3 HG.out.bl.size)
    have m4 : W.heap.size ≠ _ := Nat.ne_of_lt (Nat.lt_of_lt_of_le (show W.heap.size < w3.heap.size by omega) HG.out.bl.size)
    have m5 := Ne.symm m1
    have m6 := Ne.symm m2
    have m7 := Ne.symm m3
    have m8 := Ne.symm m4
    apply cut_region2 (C := TI w3 n (fun i => a.F i && b.F i) #[.int .i64 (a.id : Int), .int .i64 (b.id : Int)])
    · intro HKK
      go_region_held3 (fun w' => w'.cell? ⟨W.heap.size, 0, none⟩ = some (.int .i64 (vars : Int)) ∧ w'.cell? ⟨N1, 0, none⟩ = some (.int .i64 (a.id : Int)) ∧ w'.cell? ⟨N2, 0, none⟩ = some (.int .i64 (b.id : Int)) ∧ w'.cell? ⟨N3, 0, none⟩ = some (.int .i64 (c.id : Int))) (go_keep) ((go_at_call 20; refine (HM.out _ (by first | exact HG.out.drew.bl | exact (HG.out.al _ _).done.drew.bl | exact HG.out.bl | exact (HG.out.al _ _).done.bl)).mono ?_; rintro e wp ⟨Nt, rfl, ht, hlo, hbm⟩; have HTT := hide ht; have HLO := hide (show w3.heap.size ≤ Nt from Nat.le_trans (by first | exact HG.out.drew.bl.size | exact (HG.out.al _ _).done.drew.bl.size | exact HG.out.bl.size | exact (HG.out.al _ _).done.bl.size) hlo); (first | (have HG := hide (HG.out.drew.below hbm)) | (have HG := hide ((HG.out.al #[.int .i64 (a.id : Int), .int .i64 (b.id : Int)] 3).done.drew.below hbm)) | (have HG := hide (HG.out.below hbm)) | (have HG := hide ((HG.out.al #[.int .i64 (a.id : Int), .int .i64 (b.id : Int)] 3).done.below hbm))); obtain ⟨c0, c1, ⟨c2, c3, c4, c5⟩, ⟨s1, t1⟩, ⟨s2, t2⟩, ⟨s3, t3⟩⟩ := HC3.out _ HG.out.bl; have m1 := Nat.ne_of_lt (Nat.lt_of_lt_of_le hlt1 HG.out.bl.size); have m2 := Nat.ne_of_lt (Nat.lt_of_lt_of_le hlt2 HG.out.bl.size); have m3 := Nat.ne_of_lt (Nat.lt_of_lt_of_le hlt3 HG.out.bl.size); have m4 : W.heap.size ≠ _ := Nat.ne_of_lt (Nat.lt_of_lt_of_le (show W.heap.size < w3.heap.size by omega) HG.out.bl.size); have m5 := Ne.symm m1; have m6 := Ne.symm m2; have m7 := Ne.symm m3; have m8 := Ne.symm m4))
      all_goals (first | (obtain ⟨Nt', Ni', w', e1, e2, e3, q⟩ := TI.a HTT.out HLO.out HG.out #[.int .i64 (a.id : Int), .int .i64 (b.id : Int)] 3; rw [e3, e2, e1]; exact HKK.out _ _ _ q) | (obtain ⟨Nt', Ni', w', e1, e2, e3, q⟩ := TI.b HTT.out HLO.out HG.out; rw [e3, e2, e1]; exact HKK.out _ _ _ q))
    clear HG HM c0 c1 c2 c3 c4 c5 s1 s2 s3 t1 t2 t3 m1 m2 m3 m4 m5 m6 m7 m8
    intro Nt Ni w4 hTI
    have HTI := hide hTI
    clear hTI
    go_wp2
    go_ret3
    refine ⟨HX3.out.bl.trans (HTI.out.2.2.2.2.mono HX3.out.bl.size), _, _, _, rfl, ?_, ?_⟩
    · rw [HI.out, HI2.out]; exact ids_box (l := [a.id, b.id]) HTI.out.2.2.1 HTI.out.2.2.2.1 rfl
    · rw [HF.out, HF2.out]; exact ⟨rfl, Nt, rfl, HTI.out.1, by have := HTI.out.2.1; omega⟩
  have e2 : (x.k == 2) = false := by simpa using k2
  have K2 := hide k2
  clear k2
  by_cases k3 : x.k = 3
  case pos =>
    have e3 : (x.k == 3) = true := by simpa using k3
    have HK3 := hide k3
    clear k3
    have HI2 := hide (show I0 = [a.id, b.id] from by rw [← HI.out, toldI, if_neg K0.out, if_neg K1.out, if_neg K2.out, if_pos HK3.out])
    have HF2 := hide (show F0 = some (fun i => a.F i || b.F i) from by rw [← HF.out, toldF, if_neg K0.out, if_neg K1.out, if_neg K2.out, if_pos HK3.out])
    have HM := hide (fun (w' : World) (hb' : Below w3.heap.size w3 w') => table_walk vars n HN.out.1 HN.out.2 91 #[.pointer (some ⟨N1, 0, none⟩), .pointer (some ⟨N2, 0, none⟩)] (fun i => a.F i || b.F i) w' told6_enters (hide (fun c0 w0 hc0 hb0 => told6_walk n c0 hc0 N1 a.N a.F N2 b.N b.F w0 (HC3.out w0 (hb'.trans (hb0.mono hb'.size))).2.2.2.1.2 (HT3.out w0 (hb'.trans (hb0.mono hb'.size))).1 (HC3.out w0 (hb'.trans (hb0.mono hb'.size))).2.2.2.2.1.2 (HT3.out w0 (hb'.trans (hb0.mono hb'.size))).2.1 |>.mono (fun e w' h => ⟨h.1, h.2 ▸ Below.refl _ _⟩))))
    go_wp2_with fail
    have HG := hide (show BX w3 [] w3 from BX.none w3)
    obtain ⟨c0, c1, ⟨c2, c3, c4, c5⟩, ⟨s1, t1⟩, ⟨s2, t2⟩, ⟨s3, t3⟩⟩ := HC3.out _ HG.out.bl
    have m1 := Nat.ne_of_lt (Nat.lt_of_lt_of_le hlt1 HG.out.bl.size)
    have m2 := Nat.ne_of_lt (Nat.lt_of_lt_of_le hlt2 HG.out.bl.size)
    have m3 := Nat.ne_of_lt (Nat.lt_of_lt_of_le hlt3 HG.out.bl.size)
    have m4 : W.heap.size ≠ _ := Nat.ne_of_lt (Nat.lt_of_lt_of_le (show W.heap.size < w3.heap.size by omega) HG.out.bl.size)
    have m5 := Ne.symm m1
    have m6 := Ne.symm m2
    have m7 := Ne.symm m3
    have m8 := Ne.symm m4
    apply cut_region2 (C := TI w3 n (fun i => a.F i || b.F i) #[.int .i64 (a.id : Int), .int .i64 (b.id : Int)])
    · intro HKK
      go_region_held3 (fun w' => w'.cell? ⟨W.heap.size, 0, none⟩ = some (.int .i64 (vars : Int)) ∧ w'.cell? ⟨N1, 0, none⟩ = some (.int .i64 (a.id : Int)) ∧ w'.cell? ⟨N2, 0, none⟩ = some (.int .i64 (b.id : Int)) ∧ w'.cell? ⟨N3, 0, none⟩ = some (.int .i64 (c.id : Int))) (go_keep) ((go_at_call 20; refine (HM.out _ (by first | exact HG.out.drew.bl | exact (HG.out.al _ _).done.drew.bl | exact HG.out.bl | exact (HG.out.al _ _).done.bl)).mono ?_; rintro e wp ⟨Nt, rfl, ht, hlo, hbm⟩; have HTT := hide ht; have HLO := hide (show w3.heap.size ≤ Nt from Nat.le_trans (by first | exact HG.out.drew.bl.size | exact (HG.out.al _ _).done.drew.bl.size | exact HG.out.bl.size | exact (HG.out.al _ _).done.bl.size) hlo); (first | (have HG := hide (HG.out.drew.below hbm)) | (have HG := hide ((HG.out.al #[.int .i64 (a.id : Int), .int .i64 (b.id : Int)] 3).done.drew.below hbm)) | (have HG := hide (HG.out.below hbm)) | (have HG := hide ((HG.out.al #[.int .i64 (a.id : Int), .int .i64 (b.id : Int)] 3).done.below hbm))); obtain ⟨c0, c1, ⟨c2, c3, c4, c5⟩, ⟨s1, t1⟩, ⟨s2, t2⟩, ⟨s3, t3⟩⟩ := HC3.out _ HG.out.bl; have m1 := Nat.ne_of_lt (Nat.lt_of_lt_of_le hlt1 HG.out.bl.size); have m2 := Nat.ne_of_lt (Nat.lt_of_lt_of_le hlt2 HG.out.bl.size); have m3 := Nat.ne_of_lt (Nat.lt_of_lt_of_le hlt3 HG.out.bl.size); have m4 : W.heap.size ≠ _ := Nat.ne_of_lt (Nat.lt_of_lt_of_le (show W.heap.size < w3.heap.size by omega) HG.out.bl.size); have m5 := Ne.symm m1; have m6 := Ne.symm m2; have m7 := Ne.symm m3; have m8 := Ne.symm m4))
      all_goals (first | (obtain ⟨Nt', Ni', w', e1, e2, e3, q⟩ := TI.a HTT.out HLO.out HG.out #[.int .i64 (a.id : Int), .int .i64 (b.id : Int)] 3; rw [e3, e2, e1]; exact HKK.out _ _ _ q) | (obtain ⟨Nt', Ni', w', e1, e2, e3, q⟩ := TI.b HTT.out HLO.out HG.out; rw [e3, e2, e1]; exact HKK.out _ _ _ q))
    clear HG HM c0 c1 c2 c3 c4 c5 s1 s2 s3 t1 t2 t3 m1 m2 m3 m4 m5 m6 m7 m8
    intro Nt Ni w4 hTI
    have HTI := hide hTI
    clear hTI
    go_wp2
    go_ret3
    refine ⟨HX3.out.bl.trans (HTI.out.2.2.2.2.mono HX3.out.bl.size), _, _, _, rfl, ?_, ?_⟩
    · rw [HI.out, HI2.out]; exact ids_box (l := [a.id, b.id]) HTI.out.2.2.1 HTI.out.2.2.2.1 rfl
    · rw [HF.out, HF2.out]; exact ⟨rfl, Nt, rfl, HTI.out.1, by have := HTI.out.2.1; omega⟩
  have e3 : (x.k == 3) = false := by simpa using k3
  have K3 := hide k3
  clear k3
  by_cases k4 : x.k = 4
  case pos =>
    have e4 : (x.k == 4) = true := by simpa using k4
    have HK4 := hide k4
    clear k4
    have HI2 := hide (show I0 = [a.id, b.id, c.id] from by rw [← HI.out, toldI, if_neg K0.out, if_neg K1.out, if_neg K2.out, if_neg K3.out, if_pos HK4.out])
    have HF2 := hide (show F0 = some (fun i => (a.F i && b.F i) || (!a.F i && c.F i)) from by rw [← HF.out, toldF, if_neg K0.out, if_neg K1.out, if_neg K2.out, if_neg K3.out, if_pos HK4.out])
    have HM := hide (fun (w' : World) (hb' : Below w3.heap.size w3 w') => table_walk vars n HN.out.1 HN.out.2 92 #[.pointer (some ⟨N1, 0, none⟩), .pointer (some ⟨N2, 0, none⟩), .pointer (some ⟨N3, 0, none⟩)] (fun i => (a.F i && b.F i) || (!a.F i && c.F i)) w' told7_enters (hide (fun c0 w0 hc0 hb0 => told7_walk n c0 hc0 N1 a.N a.F N2 b.N b.F N3 c.N c.F w0 (HC3.out w0 (hb'.trans (hb0.mono hb'.size))).2.2.2.1.2 (HT3.out w0 (hb'.trans (hb0.mono hb'.size))).1 (HC3.out w0 (hb'.trans (hb0.mono hb'.size))).2.2.2.2.1.2 (HT3.out w0 (hb'.trans (hb0.mono hb'.size))).2.1 (HC3.out w0 (hb'.trans (hb0.mono hb'.size))).2.2.2.2.2.2 (HT3.out w0 (hb'.trans (hb0.mono hb'.size))).2.2 |>.mono (fun e w' h => ⟨h.1, h.2 ▸ Below.refl _ _⟩))))
    go_wp2_with fail
    have HG := hide (show BX w3 [] w3 from BX.none w3)
    obtain ⟨c0, c1, ⟨c2, c3, c4, c5⟩, ⟨s1, t1⟩, ⟨s2, t2⟩, ⟨s3, t3⟩⟩ := HC3.out _ HG.out.bl
    have m1 := Nat.ne_of_lt (Nat.lt_of_lt_of_le hlt1 HG.out.bl.size)
    have m2 := Nat.ne_of_lt (Nat.lt_of_lt_of_le hlt2 HG.out.bl.size)
    have m3 := Nat.ne_of_lt (Nat.lt_of_lt_of_le hlt3 HG.out.bl.size)
    have m4 : W.heap.size ≠ _ := Nat.ne_of_lt (Nat.lt_of_lt_of_le (show W.heap.size < w3.heap.size by omega) HG.out.bl.size)
    have m5 := Ne.symm m1
    have m6 := Ne.symm m2
    have m7 := Ne.symm m3
    have m8 := Ne.symm m4
    apply cut_region2 (C := TI w3 n (fun i => (a.F i && b.F i) || (!a.F i && c.F i)) #[.int .i64 (a.id : Int), .int .i64 (b.id : Int), .int .i64 (c.id : Int)])
    · intro HKK
      go_region_held3 (fun w' => w'.cell? ⟨W.heap.size, 0, none⟩ = some (.int .i64 (vars : Int)) ∧ w'.cell? ⟨N1, 0, none⟩ = some (.int .i64 (a.id : Int)) ∧ w'.cell? ⟨N2, 0, none⟩ = some (.int .i64 (b.id : Int)) ∧ w'.cell? ⟨N3, 0, none⟩ = some (.int .i64 (c.id : Int))) (go_keep) ((go_at_call 20; refine (HM.out _ (by first | exact HG.out.drew.bl | exact (HG.out.al _ _).done.drew.bl | exact HG.out.bl | exact (HG.out.al _ _).done.bl)).mono ?_; rintro e wp ⟨Nt, rfl, ht, hlo, hbm⟩; have HTT := hide ht; have HLO := hide (show w3.heap.size ≤ Nt from Nat.le_trans (by first | exact HG.out.drew.bl.size | exact (HG.out.al _ _).done.drew.bl.size | exact HG.out.bl.size | exact (HG.out.al _ _).done.bl.size) hlo); (first | (have HG := hide (HG.out.drew.below hbm)) | (have HG := hide ((HG.out.al #[.int .i64 (a.id : Int), .int .i64 (b.id : Int), .int .i64 (c.id : Int)] 3).done.drew.below hbm)) | (have HG := hide (HG.out.below hbm)) | (have HG := hide ((HG.out.al #[.int .i64 (a.id : Int), .int .i64 (b.id : Int), .int .i64 (c.id : Int)] 3).done.below hbm))); obtain ⟨c0, c1, ⟨c2, c3, c4, c5⟩, ⟨s1, t1⟩, ⟨s2, t2⟩, ⟨s3, t3⟩⟩ := HC3.out _ HG.out.bl; have m1 := Nat.ne_of_lt (Nat.lt_of_lt_of_le hlt1 HG.out.bl.size); have m2 := Nat.ne_of_lt (Nat.lt_of_lt_of_le hlt2 HG.out.bl.size); have m3 := Nat.ne_of_lt (Nat.lt_of_lt_of_le hlt3 HG.out.bl.size); have m4 : W.heap.size ≠ _ := Nat.ne_of_lt (Nat.lt_of_lt_of_le (show W.heap.size < w3.heap.size by omega) HG.out.bl.size); have m5 := Ne.symm m1; have m6 := Ne.symm m2; have m7 := Ne.symm m3; have m8 := Ne.symm m4))
      all_goals (first | (obtain ⟨Nt', Ni', w', e1, e2, e3, q⟩ := TI.a HTT.out HLO.out HG.out #[.int .i64 (a.id : Int), .int .i64 (b.id : Int), .int .i64 (c.id : Int)] 3; rw [e3, e2, e1]; exact HKK.out _ _ _ q) | (obtain ⟨Nt', Ni', w', e1, e2, e3, q⟩ := TI.b HTT.out HLO.out HG.out; rw [e3, e2, e1]; exact HKK.out _ _ _ q))
    clear HG HM c0 c1 c2 c3 c4 c5 s1 s2 s3 t1 t2 t3 m1 m2 m3 m4 m5 m6 m7 m8
    intro Nt Ni w4 hTI
    have HTI := hide hTI
    clear hTI
    go_wp2
    go_ret3
    refine ⟨HX3.out.bl.trans (HTI.out.2.2.2.2.mono HX3.out.bl.size), _, _, _, rfl, ?_, ?_⟩
    · rw [HI.out, HI2.out]; exact ids_box (l := [a.id, b.id, c.id]) HTI.out.2.2.1 HTI.out.2.2.2.1 rfl
    · rw [HF.out, HF2.out]; exact ⟨rfl, Nt, rfl, HTI.out.1, by have := HTI.out.2.1; omega⟩
  have e4 : (x.k == 4) = false := by simpa using k4
  have K4 := hide k4
  clear k4
  by_cases k5 : x.k = 5
  case pos =>
    have e5 : (x.k == 5) = true := by simpa using k5
    have HK5 := hide k5
    clear k5
    have HI2 := hide (show I0 = [a.id] from by rw [← HI.out, toldI, if_neg K0.out, if_neg K1.out, if_neg K2.out, if_neg K3.out, if_neg K4.out])
    by_cases hr : 0 ≤ x.b ∧ x.b < (vars : Int)
    case neg =>
      have HF2 := hide (show F0 = none from by rw [← HF.out, toldF, if_neg K0.out, if_neg K1.out, if_neg K2.out, if_neg K3.out, if_neg K4.out, if_pos HK5.out, if_neg hr])
      by_cases h0 : x.b < 0
      all_goals
        first | have hge : (vars : Int) ≤ x.b := by omega | skip
        go_wp2_with fail
        have HG := hide (show BX w3 [] w3 from BX.none w3)
        obtain ⟨c0, c1, ⟨c2, c3, c4, c5⟩, ⟨s1, t1⟩, ⟨s2, t2⟩, ⟨s3, t3⟩⟩ := HC3.out _ HG.out.bl
        have m1 := Nat.ne_of_lt (Nat.lt_of_lt_of_le hlt1 HG.out.bl.size)
        have m2 := Nat.ne_of_lt (Nat.lt_of_lt_of_le hlt2 HG.out.bl.size)
        have m3 := Nat.ne_of_lt (Nat.lt_of_lt_of_le hlt3 HG.out.bl.size)
        have m4 : W.heap.size ≠ _ := Nat.ne_of_lt (Nat.lt_of_lt_of_le (show W.heap.size < w3.heap.size by omega) HG.out.bl.size)
        have m5 := Ne.symm m1
        have m6 := Ne.symm m2
        have m7 := Ne.symm m3
        have m8 := Ne.symm m4
        go_region_held3 (fun w' => w'.cell? ⟨N1, 0, none⟩ = some (.int .i64 (a.id : Int))) (go_keep) (fail)
        skip
        have HZ := hide ((BX.none w3).al #[.int .i64 (a.id : Int)] 3).done.drew
        clear HG c0 c1 c2 c3 c4 c5 s1 s2 s3 t1 t2 t3 m1 m2 m3 m4 m5 m6 m7 m8
        go_wp2
        go_ret3
        refine ⟨HX3.out.bl.trans (HZ.out.bl.mono HX3.out.bl.size), _, _, _, rfl, ?_, ?_⟩
        · rw [HI.out, HI2.out]; exact ids_box (l := [a.id]) (HZ.out.get 0 rfl) (HZ.out.bx _ List.mem_cons_self).2 rfl
        · rw [HF.out, HF2.out]; exact ⟨rfl, rfl⟩
    obtain ⟨j, hj⟩ : ∃ j : Nat, x.b = (j : Int) := ⟨x.b.toNat, by omega⟩
    have HF2 := hide (show F0 = some (fun i => a.F (clrN i (2 ^ (vars - 1 - j))) || a.F (i ||| 2 ^ (vars - 1 - j))) from by rw [← HF.out, toldF, if_neg K0.out, if_neg K1.out, if_neg K2.out, if_neg K3.out, if_neg K4.out, if_pos HK5.out, if_pos hr, hj]; rfl)
    have hjv : j < vars := by omega
    have HM := hide (fun (w' : World) (hb' : Below w3.heap.size w3 w') => table_walk vars n HN.out.1 HN.out.2 93 #[.pointer (some ⟨N1, 0, none⟩), .pointer (some ⟨W.heap.size + 1 + 1 + 1, 0, none⟩), .pointer (some ⟨W.heap.size + 1 + 1, 0, none⟩)] (fun i => a.F (clrN i (2 ^ (vars - 1 - j))) || a.F (i ||| 2 ^ (vars - 1 - j))) w' told8_enters (hide (fun c0 w0 hc0 hb0 => told8_walk vars j c0 n (vars - 1 - j) (2 ^ (vars - 1 - j)) (W.heap.size) (W.heap.size + 1 + 1 + 1) (W.heap.size + 1 + 1) N1 a.N a.F HN.out.1 hjv HN.out.2 rfl rfl hc0 w0 (HC3.out w0 (hb'.trans (hb0.mono hb'.size))).1 (HC3.out w0 (hb'.trans (hb0.mono hb'.size))).2.1 (by rw [← hj]; exact (HC3.out w0 (hb'.trans (hb0.mono hb'.size))).2.2.1.2.2.1) (HC3.out w0 (hb'.trans (hb0.mono hb'.size))).2.2.2.1.2 (HT3.out w0 (hb'.trans (hb0.mono hb'.size))).1)))
    have i1 : (0 : Int) ≤ x.b := hr.1
    have i2 : x.b < (vars : Int) := hr.2
    clear hr
    go_wp2_with fail
    have HG := hide (show BX w3 [] w3 from BX.none w3)
    obtain ⟨c0, c1, ⟨c2, c3, c4, c5⟩, ⟨s1, t1⟩, ⟨s2, t2⟩, ⟨s3, t3⟩⟩ := HC3.out _ HG.out.bl
    have m1 := Nat.ne_of_lt (Nat.lt_of_lt_of_le hlt1 HG.out.bl.size)
    have m2 := Nat.ne_of_lt (Nat.lt_of_lt_of_le hlt2 HG.out.bl.size)
    have m3 := Nat.ne_of_lt (Nat.lt_of_lt_of_le hlt3 HG.out.bl.size)
    have m4 : W.heap.size ≠ _ := Nat.ne_of_lt (Nat.lt_of_lt_of_le (show W.heap.size < w3.heap.size by omega) HG.out.bl.size)
    have m5 := Ne.symm m1
    have m6 := Ne.symm m2
    have m7 := Ne.symm m3
    have m8 := Ne.symm m4
    apply cut_region2 (C := TI w3 n (fun i => a.F (clrN i (2 ^ (vars - 1 - j))) || a.F (i ||| 2 ^ (vars - 1 - j))) #[.int .i64 (a.id : Int)])
    · intro HKK
      go_region_held3 (fun w' => w'.cell? ⟨W.heap.size, 0, none⟩ = some (.int .i64 (vars : Int)) ∧ w'.cell? ⟨N1, 0, none⟩ = some (.int .i64 (a.id : Int)) ∧ w'.cell? ⟨N2, 0, none⟩ = some (.int .i64 (b.id : Int)) ∧ w'.cell? ⟨N3, 0, none⟩ = some (.int .i64 (c.id : Int))) (go_keep) ((go_at_call 20; refine (HM.out _ (by first | exact HG.out.drew.bl | exact (HG.out.al _ _).done.drew.bl | exact HG.out.bl | exact (HG.out.al _ _).done.bl)).mono ?_; rintro e wp ⟨Nt, rfl, ht, hlo, hbm⟩; have HTT := hide ht; have HLO := hide (show w3.heap.size ≤ Nt from Nat.le_trans (by first | exact HG.out.drew.bl.size | exact (HG.out.al _ _).done.drew.bl.size | exact HG.out.bl.size | exact (HG.out.al _ _).done.bl.size) hlo); (first | (have HG := hide (HG.out.drew.below hbm)) | (have HG := hide ((HG.out.al #[.int .i64 (a.id : Int)] 3).done.drew.below hbm)) | (have HG := hide (HG.out.below hbm)) | (have HG := hide ((HG.out.al #[.int .i64 (a.id : Int)] 3).done.below hbm))); obtain ⟨c0, c1, ⟨c2, c3, c4, c5⟩, ⟨s1, t1⟩, ⟨s2, t2⟩, ⟨s3, t3⟩⟩ := HC3.out _ HG.out.bl; have m1 := Nat.ne_of_lt (Nat.lt_of_lt_of_le hlt1 HG.out.bl.size); have m2 := Nat.ne_of_lt (Nat.lt_of_lt_of_le hlt2 HG.out.bl.size); have m3 := Nat.ne_of_lt (Nat.lt_of_lt_of_le hlt3 HG.out.bl.size); have m4 : W.heap.size ≠ _ := Nat.ne_of_lt (Nat.lt_of_lt_of_le (show W.heap.size < w3.heap.size by omega) HG.out.bl.size); have m5 := Ne.symm m1; have m6 := Ne.symm m2; have m7 := Ne.symm m3; have m8 := Ne.symm m4))
      all_goals (first | (obtain ⟨Nt', Ni', w', e1, e2, e3, q⟩ := TI.a HTT.out HLO.out HG.out #[.int .i64 (a.id : Int)] 3; rw [e3, e2, e1]; exact HKK.out _ _ _ q) | (obtain ⟨Nt', Ni', w', e1, e2, e3, q⟩ := TI.b HTT.out HLO.out HG.out; rw [e3, e2, e1]; exact HKK.out _ _ _ q))
    clear HG HM c0 c1 c2 c3 c4 c5 s1 s2 s3 t1 t2 t3 m1 m2 m3 m4 m5 m6 m7 m8
    intro Nt Ni w4 hTI
    have HTI := hide hTI
    clear hTI
    go_wp2
    go_ret3
    refine ⟨HX3.out.bl.trans (HTI.out.2.2.2.2.mono HX3.out.bl.size), _, _, _, rfl, ?_, ?_⟩
    · rw [HI.out, HI2.out]; exact ids_box (l := [a.id]) HTI.out.2.2.1 HTI.out.2.2.2.1 rfl
    · rw [HF.out, HF2.out]; exact ⟨rfl, Nt, rfl, HTI.out.1, by have := HTI.out.2.1; omega⟩
  have e5 : (x.k == 5) = false := by simpa using k5
  have K5 := hide k5
  clear k5
  have HI2 := hide (show I0 = [a.id] from by rw [← HI.out, toldI, if_neg K0.out, if_neg K1.out, if_neg K2.out, if_neg K3.out, if_neg K4.out])
  by_cases hr : (0 ≤ x.b ∧ x.b < (vars : Int)) ∧ (0 ≤ x.c ∧ x.c < (vars : Int))
  case neg =>
    have HF2 := hide (show F0 = none from by rw [← HF.out, toldF, if_neg K0.out, if_neg K1.out, if_neg K2.out, if_neg K3.out, if_neg K4.out, if_neg K5.out, if_neg hr])
    by_cases h0 : x.b < 0
    case pos =>
      go_wp2_with fail
      have HG := hide (show BX w3 [] w3 from BX.none w3)
      obtain ⟨c0, c1, ⟨c2, c3, c4, c5⟩, ⟨s1, t1⟩, ⟨s2, t2⟩, ⟨s3, t3⟩⟩ := HC3.out _ HG.out.bl
      have m1 := Nat.ne_of_lt (Nat.lt_of_lt_of_le hlt1 HG.out.bl.size)
      have m2 := Nat.ne_of_lt (Nat.lt_of_lt_of_le hlt2 HG.out.bl.size)
      have m3 := Nat.ne_of_lt (Nat.lt_of_lt_of_le hlt3 HG.out.bl.size)
      have m4 : W.heap.size ≠ _ := Nat.ne_of_lt (Nat.lt_of_lt_of_le (show W.heap.size < w3.heap.size by omega) HG.out.bl.size)
      have m5 := Ne.symm m1
      have m6 := Ne.symm m2
      have m7 := Ne.symm m3
      have m8 := Ne.symm m4
      go_region_held3 (fun w' => w'.cell? ⟨N1, 0, none⟩ = some (.int .i64 (a.id : Int))) (go_keep) (fail)
      skip
      have HZ := hide ((BX.none w3).al #[.int .i64 (a.id : Int)] 3).done.drew
      clear HG c0 c1 c2 c3 c4 c5 s1 s2 s3 t1 t2 t3 m1 m2 m3 m4 m5 m6 m7 m8
      go_wp2
      go_ret3
      refine ⟨HX3.out.bl.trans (HZ.out.bl.mono HX3.out.bl.size), _, _, _, rfl, ?_, ?_⟩
      · rw [HI.out, HI2.out]; exact ids_box (l := [a.id]) (HZ.out.get 0 rfl) (HZ.out.bx _ List.mem_cons_self).2 rfl
      · rw [HF.out, HF2.out]; exact ⟨rfl, rfl⟩
    have g0 : (0 : Int) ≤ x.b := by omega
    by_cases h1' : (vars : Int) ≤ x.b
    case pos =>
      go_wp2_with fail
      have HG := hide (show BX w3 [] w3 from BX.none w3)
      obtain ⟨c0, c1, ⟨c2, c3, c4, c5⟩, ⟨s1, t1⟩, ⟨s2, t2⟩, ⟨s3, t3⟩⟩ := HC3.out _ HG.out.bl
      have m1 := Nat.ne_of_lt (Nat.lt_of_lt_of_le hlt1 HG.out.bl.size)
      have m2 := Nat.ne_of_lt (Nat.lt_of_lt_of_le hlt2 HG.out.bl.size)
      have m3 := Nat.ne_of_lt (Nat.lt_of_lt_of_le hlt3 HG.out.bl.size)
      have m4 : W.heap.size ≠ _ := Nat.ne_of_lt (Nat.lt_of_lt_of_le (show W.heap.size < w3.heap.size by omega) HG.out.bl.size)
      have m5 := Ne.symm m1
      have m6 := Ne.symm m2
      have m7 := Ne.symm m3
      have m8 := Ne.symm m4
      go_region_held3 (fun w' => w'.cell? ⟨N1, 0, none⟩ = some (.int .i64 (a.id : Int))) (go_keep) (fail)
      skip
      have HZ := hide ((BX.none w3).al #[.int .i64 (a.id : Int)] 3).done.drew
      clear HG c0 c1 c2 c3 c4 c5 s1 s2 s3 t1 t2 t3 m1 m2 m3 m4 m5 m6 m7 m8
      go_wp2
      go_ret3
      refine ⟨HX3.out.bl.trans (HZ.out.bl.mono HX3.out.bl.size), _, _, _, rfl, ?_, ?_⟩
      · rw [HI.out, HI2.out]; exact ids_box (l := [a.id]) (HZ.out.get 0 rfl) (HZ.out.bx _ List.mem_cons_self).2 rfl
      · rw [HF.out, HF2.out]; exact ⟨rfl, rfl⟩
    have g1 : x.b < (vars : Int) := by omega
    by_cases h2' : x.c < 0
    case pos =>
      go_wp2_with fail
      have HG := hide (show BX w3 [] w3 from BX.none w3)
      obtain ⟨c0, c1, ⟨c2, c3, c4, c5⟩, ⟨s1, t1⟩, ⟨s2, t2⟩, ⟨s3, t3⟩⟩ := HC3.out _ HG.out.bl
      have m1 := Nat.ne_of_lt (Nat.lt_of_lt_of_le hlt1 HG.out.bl.size)
      have m2 := Nat.ne_of_lt (Nat.lt_of_lt_of_le hlt2 HG.out.bl.size)
      have m3 := Nat.ne_of_lt (Nat.lt_of_lt_of_le hlt3 HG.out.bl.size)
      have m4 : W.heap.size ≠ _ := Nat.ne_of_lt (Nat.lt_of_lt_of_le (show W.heap.size < w3.heap.size by omega) HG.out.bl.size)
      have m5 := Ne.symm m1
      have m6 := Ne.symm m2
      have m7 := Ne.symm m3
      have m8 := Ne.symm m4
      go_region_held3 (fun w' => w'.cell? ⟨N1, 0, none⟩ = some (.int .i64 (a.id : Int))) (go_keep) (fail)
      skip
      have HZ := hide ((BX.none w3).al #[.int .i64 (a.id : Int)] 3).done.drew
      clear HG c0 c1 c2 c3 c4 c5 s1 s2 s3 t1 t2 t3 m1 m2 m3 m4 m5 m6 m7 m8
      go_wp2
      go_ret3
      refine ⟨HX3.out.bl.trans (HZ.out.bl.mono HX3.out.bl.size), _, _, _, rfl, ?_, ?_⟩
      · rw [HI.out, HI2.out]; exact ids_box (l := [a.id]) (HZ.out.get 0 rfl) (HZ.out.bx _ List.mem_cons_self).2 rfl
      · rw [HF.out, HF2.out]; exact ⟨rfl, rfl⟩
    have g2 : (0 : Int) ≤ x.c := by omega
    have g3 : (vars : Int) ≤ x.c := by omega
    go_wp2_with fail
    have HG := hide (show BX w3 [] w3 from BX.none w3)
    obtain ⟨c0, c1, ⟨c2, c3, c4, c5⟩, ⟨s1, t1⟩, ⟨s2, t2⟩, ⟨s3, t3⟩⟩ := HC3.out _ HG.out.bl
    have m1 := Nat.ne_of_lt (Nat.lt_of_lt_of_le hlt1 HG.out.bl.size)
    have m2 := Nat.ne_of_lt (Nat.lt_of_lt_of_le hlt2 HG.out.bl.size)
    have m3 := Nat.ne_of_lt (Nat.lt_of_lt_of_le hlt3 HG.out.bl.size)
    have m4 : W.heap.size ≠ _ := Nat.ne_of_lt (Nat.lt_of_lt_of_le (show W.heap.size < w3.heap.size by omega) HG.out.bl.size)
    have m5 := Ne.symm m1
    have m6 := Ne.symm m2
    have m7 := Ne.symm m3
    have m8 := Ne.symm m4
    go_region_held3 (fun w' => w'.cell? ⟨N1, 0, none⟩ = some (.int .i64 (a.id : Int))) (go_keep) (fail)
    skip
    have HZ := hide ((BX.none w3).al #[.int .i64 (a.id : Int)] 3).done.drew
    clear HG c0 c1 c2 c3 c4 c5 s1 s2 s3 t1 t2 t3 m1 m2 m3 m4 m5 m6 m7 m8
    go_wp2
    go_ret3
    refine ⟨HX3.out.bl.trans (HZ.out.bl.mono HX3.out.bl.size), _, _, _, rfl, ?_, ?_⟩
    · rw [HI.out, HI2.out]; exact ids_box (l := [a.id]) (HZ.out.get 0 rfl) (HZ.out.bx _ List.mem_cons_self).2 rfl
    · rw [HF.out, HF2.out]; exact ⟨rfl, rfl⟩
  obtain ⟨j, hj⟩ : ∃ j : Nat, x.b = (j : Int) := ⟨x.b.toNat, by omega⟩
  obtain ⟨q, hq⟩ : ∃ q : Nat, x.c = (q : Int) := ⟨x.c.toNat, by omega⟩
  have HF2 := hide (show F0 = some (fun i => a.F (swpN i (vars - 1 - j) (vars - 1 - q) (2 ^ (vars - 1 - j)) (2 ^ (vars - 1 - q)))) from by rw [← HF.out, toldF, if_neg K0.out, if_neg K1.out, if_neg K2.out, if_neg K3.out, if_neg K4.out, if_neg K5.out, if_pos hr, hj, hq]; rfl)
  have hjv : j < vars := by omega
  have hqv : q < vars := by omega
  have HM := hide (fun (w' : World) (hb' : Below w3.heap.size w3 w') => table_walk vars n HN.out.1 HN.out.2 94 #[.pointer (some ⟨W.heap.size + 1 + 1 + 1, 0, none⟩), .pointer (some ⟨W.heap.size + 1 + 1, 0, none⟩), .pointer (some ⟨N1, 0, none⟩)] (fun i => a.F (swpN i (vars - 1 - j) (vars - 1 - q) (2 ^ (vars - 1 - j)) (2 ^ (vars - 1 - q)))) w' told9_enters (hide (fun c0 w0 hc0 hb0 => told9_walk vars j q c0 n (vars - 1 - j) (vars - 1 - q) (2 ^ (vars - 1 - j)) (2 ^ (vars - 1 - q)) (W.heap.size) (W.heap.size + 1 + 1 + 1) (W.heap.size + 1 + 1) N1 a.N a.F HN.out.1 hjv hqv HN.out.2 rfl rfl rfl rfl hc0 w0 (HC3.out w0 (hb'.trans (hb0.mono hb'.size))).1 (HC3.out w0 (hb'.trans (hb0.mono hb'.size))).2.1 (by rw [← hj]; exact (HC3.out w0 (hb'.trans (hb0.mono hb'.size))).2.2.1.2.2.1) (by rw [← hq]; exact (HC3.out w0 (hb'.trans (hb0.mono hb'.size))).2.2.1.2.2.2) (HC3.out w0 (hb'.trans (hb0.mono hb'.size))).2.2.2.1.2 (HT3.out w0 (hb'.trans (hb0.mono hb'.size))).1)))
  have i1 : (0 : Int) ≤ x.b := hr.1.1
  have i2 : x.b < (vars : Int) := hr.1.2
  have i3 : (0 : Int) ≤ x.c := hr.2.1
  have i4 : x.c < (vars : Int) := hr.2.2
  clear hr
  go_wp2_with fail
  have HG := hide (show BX w3 [] w3 from BX.none w3)
  obtain ⟨c0, c1, ⟨c2, c3, c4, c5⟩, ⟨s1, t1⟩, ⟨s2, t2⟩, ⟨s3, t3⟩⟩ := HC3.out _ HG.out.bl
  have m1 := Nat.ne_of_lt (Nat.lt_of_lt_of_le hlt1 HG.out.bl.size)
  have m2 := Nat.ne_of_lt (Nat.lt_of_lt_of_le hlt2 HG.out.bl.size)
  have m3 := Nat.ne_of_lt (Nat.lt_of_lt_of_le hlt3 HG.out.bl.size)
  have m4 : W.heap.size ≠ _ := Nat.ne_of_lt (Nat.lt_of_lt_of_le (show W.heap.size < w3.heap.size by omega) HG.out.bl.size)
  have m5 := Ne.symm m1
  have m6 := Ne.symm m2
  have m7 := Ne.symm m3
  have m8 := Ne.symm m4
  apply cut_region2 (C := TI w3 n (fun i => a.F (swpN i (vars - 1 - j) (vars - 1 - q) (2 ^ (vars - 1 - j)) (2 ^ (vars - 1 - q)))) #[.int .i64 (a.id : Int)])
  · intro HKK
    go_region_held3 (fun w' => w'.cell? ⟨W.heap.size, 0, none⟩ = some (.int .i64 (vars : Int)) ∧ w'.cell? ⟨N1, 0, none⟩ = some (.int .i64 (a.id : Int)) ∧ w'.cell? ⟨N2, 0, none⟩ = some (.int .i64 (b.id : Int)) ∧ w'.cell? ⟨N3, 0, none⟩ = some (.int .i64 (c.id : Int))) (go_keep) ((go_at_call 20; refine (HM.out _ (by first | exact HG.out.drew.bl | exact (HG.out.al _ _).done.drew.bl | exact HG.out.bl | exact (HG.out.al _ _).done.bl)).mono ?_; rintro e wp ⟨Nt, rfl, ht, hlo, hbm⟩; have HTT := hide ht; have HLO := hide (show w3.heap.size ≤ Nt from Nat.le_trans (by first | exact HG.out.drew.bl.size | exact (HG.out.al _ _).done.drew.bl.size | exact HG.out.bl.size | exact (HG.out.al _ _).done.bl.size) hlo); (first | (have HG := hide (HG.out.drew.below hbm)) | (have HG := hide ((HG.out.al #[.int .i64 (a.id : Int)] 3).done.drew.below hbm)) | (have HG := hide (HG.out.below hbm)) | (have HG := hide ((HG.out.al #[.int .i64 (a.id : Int)] 3).done.below hbm))); obtain ⟨c0, c1, ⟨c2, c3, c4, c5⟩, ⟨s1, t1⟩, ⟨s2, t2⟩, ⟨s3, t3⟩⟩ := HC3.out _ HG.out.bl; have m1 := Nat.ne_of_lt (Nat.lt_of_lt_of_le hlt1 HG.out.bl.size); have m2 := Nat.ne_of_lt (Nat.lt_of_lt_of_le hlt2 HG.out.bl.size); have m3 := Nat.ne_of_lt (Nat.lt_of_lt_of_le hlt3 HG.out.bl.size); have m4 : W.heap.size ≠ _ := Nat.ne_of_lt (Nat.lt_of_lt_of_le (show W.heap.size < w3.heap.size by omega) HG.out.bl.size); have m5 := Ne.symm m1; have m6 := Ne.symm m2; have m7 := Ne.symm m3; have m8 := Ne.symm m4))
    all_goals (first | (obtain ⟨Nt', Ni', w', e1, e2, e3, q⟩ := TI.a HTT.out HLO.out HG.out #[.int .i64 (a.id : Int)] 3; rw [e3, e2, e1]; exact HKK.out _ _ _ q) | (obtain ⟨Nt', Ni', w', e1, e2, e3, q⟩ := TI.b HTT.out HLO.out HG.out; rw [e3, e2, e1]; exact HKK.out _ _ _ q))
  clear HG HM c0 c1 c2 c3 c4 c5 s1 s2 s3 t1 t2 t3 m1 m2 m3 m4 m5 m6 m7 m8
  intro Nt Ni w4 hTI
  have HTI := hide hTI
  clear hTI
  go_wp2
  go_ret3
  refine ⟨HX3.out.bl.trans (HTI.out.2.2.2.2.mono HX3.out.bl.size), _, _, _, rfl, ?_, ?_⟩
  · rw [HI.out, HI2.out]; exact ids_box (l := [a.id]) HTI.out.2.2.1 HTI.out.2.2.2.1 rfl
  · rw [HF.out, HF2.out]; exact ⟨rfl, Nt, rfl, HTI.out.1, by have := HTI.out.2.1; omega⟩
end Go.Proofs.Ythaiffjalgionaa
