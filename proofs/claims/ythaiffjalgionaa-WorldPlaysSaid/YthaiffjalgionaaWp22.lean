/- A part of the proof: Mind2, MindF, LawMine. -/
import Derived.Test.YthaiffjalgionaaWp21

set_option linter.unusedVariables false
set_option linter.unusedSimpArgs false
namespace Go.Proofs.Ythaiffjalgionaa
open Go.RowKit

set_option maxRecDepth 100000 in
theorem back_walk (p : P4) (W : World) : Calls Try.prog 68 #[.agg #[.int .i64 p.src, .int .i64 p.dst, .int .i64 p.sport, .int .i64 p.dport]] W fun e W' => e = .returned (.agg #[.int .i64 p.dst, .int .i64 p.src, .int .i64 p.dport, .int .i64 p.sport]) ∧ Below W.heap.size W W' := by
  obtain ⟨a, b, c, d⟩ := p
  simp only
  have hb : Below W.heap.size W (((W.alloc (.cells #[.int .i64 a, .int .i64 b, .int .i64 c, .int .i64 d] 39)).alloc (.cells #[.int .i64 b, .int .i64 a, .int .i64 d, .int .i64 c] 39))) := ((Below.refl _ _).alloc (Nat.le_refl _) _).alloc (by simp) _
  have hx := cells4 (BoxV.new (W.alloc (.cells #[.int .i64 a, .int .i64 b, .int .i64 c, .int .i64 d] 39)) #[.int .i64 b, .int .i64 a, .int .i64 d, .int .i64 c] 39)
  have HB := hide hb
  have hs : (W.alloc (.cells #[.int .i64 a, .int .i64 b, .int .i64 c, .int .i64 d] 39)).heap.size = W.heap.size + 1 := by simp
  rw [hs] at hx
  clear hb hs
  go_enter Try.func68, Try.ntmps68
  go_wp2
  obtain ⟨z0, z1, z2, z3⟩ := hx
  generalize World.alloc (World.alloc W _) _ = W2 at *
  refine bodyPost_ret (v := .agg #[.int .i64 b, .int .i64 a, .int .i64 d, .int .i64 c]) (by simp [results, Try.f68, go_sem, z0, z1, z2, z3]) rfl ⟨rfl, HB.out⟩

theorem find_walk (g : Nat) (A : Option Addr) (n c f : Nat) (cap : Array Value) (q : FactV → Bool) (l : List FactV) (W : World) (hn : n ≤ 9223372036854775807) (hc : W.cell? ⟨g, 2, none⟩ = some (.slice A n c)) (hl : SlAt FactV.cells 6 W W.heap.size A n l)
    (hcall : ∀ (args : Array Value) (w : World), (callFunc f args).run Try.prog w = .ok (.enter f args) w)
    (hf : Hid (∀ (r : FactV) (w : World), r ∈ l → Below W.heap.size W w → Calls Try.prog f (#[r.val] ++ cap) w fun e w' => e = .returned (.bool (q r)) ∧ Below w.heap.size w w')) :
    Calls Try.prog 66 #[.pointer (some ⟨g, 0, none⟩), .func (.func f) #[] cap] W fun e W' => e = .returned (.int .i64 (idxF q l)) ∧ Below W.heap.size W W' := by
  have HI := hide (indexFuncFact_any l A n c f cap q W hn hl hcall hf)
  clear hl hf hcall
  go_enter Try.func66, Try.ntmps66
  go_wp2_with fail
  refine HI.out.mono ?_
  rintro e w1 ⟨rfl, hb⟩
  have HB := hide hb
  clear hb HI
  go_wp2
  go_ret
  exact ⟨rfl, HB.out⟩

theorem mc2_enters : ∀ (args : Array Value) (w' : World), (callFunc 69 args).run Try.prog w' = .ok (.enter 69 args) w' := enters_of Try.func69 (by kernel_rfl) rfl
set_option maxRecDepth 100000 in
set_option maxHeartbeats 4000000 in
theorem mc2_walk (x : FactV) (A1 A2 : Nat) (i y : Int) (p : P4) (w : World) (h1 : BoxV w A1 #[.int .i64 i, .int .i64 y]) (h2 : BoxV w A2 #[.int .i64 p.src, .int .i64 p.dst, .int .i64 p.sport, .int .i64 p.dport]) :
    Calls Try.prog 69 (#[x.val] ++ #[.pointer (some ⟨A1, 0, none⟩), .pointer (some ⟨A2, 0, none⟩)]) w fun e w' => e = .returned (.bool (x.d == i && x.n == p.dport)) ∧ Below w.heap.size w w' := by
  show Calls _ _ #[.agg #[.int .i64 x.d, .int .i64 x.p.src, .int .i64 x.p.dst, .int .i64 x.p.sport, .int .i64 x.p.dport, .int .i64 x.n], .pointer (some ⟨A1, 0, none⟩), .pointer (some ⟨A2, 0, none⟩)] w _
  have HB := hide (fun (o' : Obj) => show Below w.heap.size w (w.alloc o') from (Below.refl _ _).alloc (Nat.le_refl _) _)
  have a0 := fun (o' : Obj) => (h1.below ((Below.refl _ _).alloc (Nat.le_refl _) o') (cell_lt (h1.1 0 _ rfl))).1 0 _ rfl
  have a1 := fun (o' : Obj) => (h1.below ((Below.refl _ _).alloc (Nat.le_refl _) o') (cell_lt (h1.1 0 _ rfl))).1 1 _ rfl
  have b0 := fun (o' : Obj) => (h2.below ((Below.refl _ _).alloc (Nat.le_refl _) o') (cell_lt (h2.1 0 _ rfl))).1 0 _ rfl
  have b1 := fun (o' : Obj) => (h2.below ((Below.refl _ _).alloc (Nat.le_refl _) o') (cell_lt (h2.1 0 _ rfl))).1 1 _ rfl
  have b2 := fun (o' : Obj) => (h2.below ((Below.refl _ _).alloc (Nat.le_refl _) o') (cell_lt (h2.1 0 _ rfl))).1 2 _ rfl
  have b3 := fun (o' : Obj) => (h2.below ((Below.refl _ _).alloc (Nat.le_refl _) o') (cell_lt (h2.1 0 _ rfl))).1 3 _ rfl
  clear h1 h2
  cases e0 : (x.d == i)
  · simp only [Bool.false_and]
    go_enter Try.func69, Try.ntmps69
    go_wp2
    go_ret
    exact ⟨rfl, HB.out _⟩
  simp only [Bool.true_and]
  cases e1 : (x.n == p.dport)
  all_goals
    go_enter Try.func69, Try.ntmps69
    go_wp2
    go_ret
    exact ⟨rfl, HB.out _⟩

theorem mc3_enters : ∀ (args : Array Value) (w' : World), (callFunc 70 args).run Try.prog w' = .ok (.enter 70 args) w' := enters_of Try.func70 (by kernel_rfl) rfl
set_option maxRecDepth 100000 in
set_option maxHeartbeats 4000000 in
theorem mc3_walk (x : FactV) (A1 A2 : Nat) (i y : Int) (p : P4) (w : World) (h1 : BoxV w A1 #[.int .i64 i, .int .i64 y]) (h2 : BoxV w A2 #[.int .i64 p.src, .int .i64 p.dst, .int .i64 p.sport, .int .i64 p.dport]) :
    Calls Try.prog 70 (#[x.val] ++ #[.pointer (some ⟨A1, 0, none⟩), .pointer (some ⟨A2, 0, none⟩)]) w fun e w' => e = .returned (.bool (x.d == i && eq4 x.p p)) ∧ Below w.heap.size w w' := by
  show Calls _ _ #[.agg #[.int .i64 x.d, .int .i64 x.p.src, .int .i64 x.p.dst, .int .i64 x.p.sport, .int .i64 x.p.dport, .int .i64 x.n], .pointer (some ⟨A1, 0, none⟩), .pointer (some ⟨A2, 0, none⟩)] w _
  have HB := hide (fun (o' : Obj) => show Below w.heap.size w (w.alloc o') from (Below.refl _ _).alloc (Nat.le_refl _) _)
  have a0 := fun (o' : Obj) => (h1.below ((Below.refl _ _).alloc (Nat.le_refl _) o') (cell_lt (h1.1 0 _ rfl))).1 0 _ rfl
  have a1 := fun (o' : Obj) => (h1.below ((Below.refl _ _).alloc (Nat.le_refl _) o') (cell_lt (h1.1 0 _ rfl))).1 1 _ rfl
  have b0 := fun (o' : Obj) => (h2.below ((Below.refl _ _).alloc (Nat.le_refl _) o') (cell_lt (h2.1 0 _ rfl))).1 0 _ rfl
  have b1 := fun (o' : Obj) => (h2.below ((Below.refl _ _).alloc (Nat.le_refl _) o') (cell_lt (h2.1 0 _ rfl))).1 1 _ rfl
  have b2 := fun (o' : Obj) => (h2.below ((Below.refl _ _).alloc (Nat.le_refl _) o') (cell_lt (h2.1 0 _ rfl))).1 2 _ rfl
  have b3 := fun (o' : Obj) => (h2.below ((Below.refl _ _).alloc (Nat.le_refl _) o') (cell_lt (h2.1 0 _ rfl))).1 3 _ rfl
  clear h1 h2
  cases e0 : (x.d == i)
  · simp only [Bool.false_and]
    go_enter Try.func70, Try.ntmps70
    go_wp2
    go_ret
    exact ⟨rfl, HB.out _⟩
  simp only [Bool.true_and]
  rcases peq x.p p with ⟨e1, ep⟩ | ⟨e1, e2, ep⟩ | ⟨e1, e2, e3, ep⟩ | ⟨e1, e2, e3, e4, ep⟩ | ⟨e1, e2, e3, e4, ep⟩
  all_goals
    rw [ep]
    clear ep
    go_enter Try.func70, Try.ntmps70
    go_wp2
    go_ret
    exact ⟨rfl, HB.out _⟩

theorem mc4_enters : ∀ (args : Array Value) (w' : World), (callFunc 72 args).run Try.prog w' = .ok (.enter 72 args) w' := enters_of Try.func72 (by kernel_rfl) rfl
set_option maxRecDepth 100000 in
set_option maxHeartbeats 4000000 in
theorem mc4_walk (x : FactV) (A1 A2 : Nat) (i y ch : Int) (w : World) (h1 : BoxV w A1 #[.int .i64 i, .int .i64 y]) (h2 : BoxV w A2 #[.int .i64 ch]) :
    Calls Try.prog 72 (#[x.val] ++ #[.pointer (some ⟨A1, 0, none⟩), .pointer (some ⟨A2, 0, none⟩)]) w fun e w' => e = .returned (.bool (x.d == i && x.n == ch)) ∧ Below w.heap.size w w' := by
  show Calls _ _ #[.agg #[.int .i64 x.d, .int .i64 x.p.src, .int .i64 x.p.dst, .int .i64 x.p.sport, .int .i64 x.p.dport, .int .i64 x.n], .pointer (some ⟨A1, 0, none⟩), .pointer (some ⟨A2, 0, none⟩)] w _
  have HB := hide (fun (o' : Obj) => show Below w.heap.size w (w.alloc o') from (Below.refl _ _).alloc (Nat.le_refl _) _)
  have a0 := fun (o' : Obj) => (h1.below ((Below.refl _ _).alloc (Nat.le_refl _) o') (cell_lt (h1.1 0 _ rfl))).1 0 _ rfl
  have a1 := fun (o' : Obj) => (h1.below ((Below.refl _ _).alloc (Nat.le_refl _) o') (cell_lt (h1.1 0 _ rfl))).1 1 _ rfl
  have b0 := fun (o' : Obj) => (h2.below ((Below.refl _ _).alloc (Nat.le_refl _) o') (cell_lt (h2.1 0 _ rfl))).1 0 _ rfl
  clear h1 h2
  cases e0 : (x.d == i)
  · simp only [Bool.false_and]
    go_enter Try.func72, Try.ntmps72
    go_wp2
    go_ret
    exact ⟨rfl, HB.out _⟩
  simp only [Bool.true_and]
  cases e1 : (x.n == ch)
  all_goals
    go_enter Try.func72, Try.ntmps72
    go_wp2
    go_ret
    exact ⟨rfl, HB.out _⟩

theorem mc5_enters : ∀ (args : Array Value) (w' : World), (callFunc 73 args).run Try.prog w' = .ok (.enter 73 args) w' := enters_of Try.func73 (by kernel_rfl) rfl
set_option maxRecDepth 100000 in
set_option maxHeartbeats 4000000 in
theorem mc5_walk (x : FactV) (A1 A2 A3 : Nat) (i y : Int) (q p : P4) (w : World) (h1 : BoxV w A1 #[.int .i64 i, .int .i64 y]) (h2 : BoxV w A2 #[.int .i64 q.src, .int .i64 q.dst, .int .i64 q.sport, .int .i64 q.dport]) (h3 : BoxV w A3 #[.int .i64 p.src, .int .i64 p.dst, .int .i64 p.sport, .int .i64 p.dport]) :
    Calls Try.prog 73 (#[x.val] ++ #[.pointer (some ⟨A1, 0, none⟩), .pointer (some ⟨A2, 0, none⟩), .pointer (some ⟨A3, 0, none⟩)]) w fun e w' => e = .returned (.bool (x.d == i && (eq4 x.p q && x.n == p.src))) ∧ Below w.heap.size w w' := by
  show Calls _ _ #[.agg #[.int .i64 x.d, .int .i64 x.p.src, .int .i64 x.p.dst, .int .i64 x.p.sport, .int .i64 x.p.dport, .int .i64 x.n], .pointer (some ⟨A1, 0, none⟩), .pointer (some ⟨A2, 0, none⟩), .pointer (some ⟨A3, 0, none⟩)] w _
  have HB := hide (fun (o' : Obj) => show Below w.heap.size w (w.alloc o') from (Below.refl _ _).alloc (Nat.le_refl _) _)
  have a0 := fun (o' : Obj) => (h1.below ((Below.refl _ _).alloc (Nat.le_refl _) o') (cell_lt (h1.1 0 _ rfl))).1 0 _ rfl
  have a1 := fun (o' : Obj) => (h1.below ((Below.refl _ _).alloc (Nat.le_refl _) o') (cell_lt (h1.1 0 _ rfl))).1 1 _ rfl
  have b0 := fun (o' : Obj) => (h2.below ((Below.refl _ _).alloc (Nat.le_refl _) o') (cell_lt (h2.1 0 _ rfl))).1 0 _ rfl
  have b1 := fun (o' : Obj) => (h2.below ((Below.refl _ _).alloc (Nat.le_refl _) o') (cell_lt (h2.1 0 _ rfl))).1 1 _ rfl
  have b2 := fun (o' : Obj) => (h2.below ((Below.refl _ _).alloc (Nat.le_refl _) o') (cell_lt (h2.1 0 _ rfl))).1 2 _ rfl
  have b3 := fun (o' : Obj) => (h2.below ((Below.refl _ _).alloc (Nat.le_refl _) o') (cell_lt (h2.1 0 _ rfl))).1 3 _ rfl
  have c0 := fun (o' : Obj) => (h3.below ((Below.refl _ _).alloc (Nat.le_refl _) o') (cell_lt (h3.1 0 _ rfl))).1 0 _ rfl
  have c1 := fun (o' : Obj) => (h3.below ((Below.refl _ _).alloc (Nat.le_refl _) o') (cell_lt (h3.1 0 _ rfl))).1 1 _ rfl
  have c2 := fun (o' : Obj) => (h3.below ((Below.refl _ _).alloc (Nat.le_refl _) o') (cell_lt (h3.1 0 _ rfl))).1 2 _ rfl
  have c3 := fun (o' : Obj) => (h3.below ((Below.refl _ _).alloc (Nat.le_refl _) o') (cell_lt (h3.1 0 _ rfl))).1 3 _ rfl
  clear h1 h2 h3
  cases e0 : (x.d == i)
  · simp only [Bool.false_and]
    go_enter Try.func73, Try.ntmps73
    go_wp2
    go_ret
    exact ⟨rfl, HB.out _⟩
  simp only [Bool.true_and]
  rcases peq x.p q with ⟨e1, ep⟩ | ⟨e1, e2, ep⟩ | ⟨e1, e2, e3, ep⟩ | ⟨e1, e2, e3, e4, ep⟩ | ⟨e1, e2, e3, e4, ep⟩
  iterate 4
    · rw [ep]
      clear ep
      simp only [Bool.false_and]
      go_enter Try.func73, Try.ntmps73
      go_wp2
      go_ret
      exact ⟨rfl, HB.out _⟩
  · rw [ep]
    clear ep
    simp only [Bool.true_and]
    cases e5 : (x.n == p.src)
    all_goals
      go_enter Try.func73, Try.ntmps73
      go_wp2
      go_ret
      exact ⟨rfl, HB.out _⟩

theorem mc6_enters : ∀ (args : Array Value) (w' : World), (callFunc 74 args).run Try.prog w' = .ok (.enter 74 args) w' := enters_of Try.func74 (by kernel_rfl) rfl
set_option maxRecDepth 100000 in
set_option maxHeartbeats 4000000 in
theorem mc6_walk (x : FactV) (A1 A2 : Nat) (i y : Int) (p : P4) (w : World) (h1 : BoxV w A1 #[.int .i64 i, .int .i64 y]) (h2 : BoxV w A2 #[.int .i64 p.src, .int .i64 p.dst, .int .i64 p.sport, .int .i64 p.dport]) :
    Calls Try.prog 74 (#[x.val] ++ #[.pointer (some ⟨A1, 0, none⟩), .pointer (some ⟨A2, 0, none⟩)]) w fun e w' => e = .returned (.bool (x.d == i && eq4 x.p p)) ∧ Below w.heap.size w w' := by
  show Calls _ _ #[.agg #[.int .i64 x.d, .int .i64 x.p.src, .int .i64 x.p.dst, .int .i64 x.p.sport, .int .i64 x.p.dport, .int .i64 x.n], .pointer (some ⟨A1, 0, none⟩), .pointer (some ⟨A2, 0, none⟩)] w _
  have HB := hide (fun (o' : Obj) => show Below w.heap.size w (w.alloc o') from (Below.refl _ _).alloc (Nat.le_refl _) _)
  have a0 := fun (o' : Obj) => (h1.below ((Below.refl _ _).alloc (Nat.le_refl _) o') (cell_lt (h1.1 0 _ rfl))).1 0 _ rfl
  have a1 := fun (o' : Obj) => (h1.below ((Below.refl _ _).alloc (Nat.le_refl _) o') (cell_lt (h1.1 0 _ rfl))).1 1 _ rfl
  have b0 := fun (o' : Obj) => (h2.below ((Below.refl _ _).alloc (Nat.le_refl _) o') (cell_lt (h2.1 0 _ rfl))).1 0 _ rfl
  have b1 := fun (o' : Obj) => (h2.below ((Below.refl _ _).alloc (Nat.le_refl _) o') (cell_lt (h2.1 0 _ rfl))).1 1 _ rfl
  have b2 := fun (o' : Obj) => (h2.below ((Below.refl _ _).alloc (Nat.le_refl _) o') (cell_lt (h2.1 0 _ rfl))).1 2 _ rfl
  have b3 := fun (o' : Obj) => (h2.below ((Below.refl _ _).alloc (Nat.le_refl _) o') (cell_lt (h2.1 0 _ rfl))).1 3 _ rfl
  clear h1 h2
  cases e0 : (x.d == i)
  · simp only [Bool.false_and]
    go_enter Try.func74, Try.ntmps74
    go_wp2
    go_ret
    exact ⟨rfl, HB.out _⟩
  simp only [Bool.true_and]
  rcases peq x.p p with ⟨e1, ep⟩ | ⟨e1, e2, ep⟩ | ⟨e1, e2, e3, ep⟩ | ⟨e1, e2, e3, e4, ep⟩ | ⟨e1, e2, e3, e4, ep⟩
  all_goals
    rw [ep]
    clear ep
    go_enter Try.func74, Try.ntmps74
    go_wp2
    go_ret
    exact ⟨rfl, HB.out _⟩

theorem mc1_enters : ∀ (args : Array Value) (w' : World), (callFunc 67 args).run Try.prog w' = .ok (.enter 67 args) w' := enters_of Try.func67 (by kernel_rfl) rfl
set_option maxRecDepth 100000 in
set_option maxHeartbeats 4000000 in
theorem mc1_walk (x : FactV) (A1 A2 : Nat) (i y : Int) (p : P4) (w : World) (h1 : BoxV w A1 #[.int .i64 i, .int .i64 y]) (h2 : BoxV w A2 #[.int .i64 p.src, .int .i64 p.dst, .int .i64 p.sport, .int .i64 p.dport]) :
    Calls Try.prog 67 (#[x.val] ++ #[.pointer (some ⟨A1, 0, none⟩), .pointer (some ⟨A2, 0, none⟩)]) w fun e w' => e = .returned (.bool (x.d == i && eq4 x.p (flipP p))) ∧ Below w.heap.size w w' := by
  show Calls _ _ #[.agg #[.int .i64 x.d, .int .i64 x.p.src, .int .i64 x.p.dst, .int .i64 x.p.sport, .int .i64 x.p.dport, .int .i64 x.n], .pointer (some ⟨A1, 0, none⟩), .pointer (some ⟨A2, 0, none⟩)] w _
  have hb1 : Below w.heap.size w (w.alloc (.cells #[.int .i64 x.d, .int .i64 x.p.src, .int .i64 x.p.dst, .int .i64 x.p.sport, .int .i64 x.p.dport, .int .i64 x.n] 141)) := (Below.refl _ _).alloc (Nat.le_refl _) _
  have hx := BoxV.new w #[.int .i64 x.d, .int .i64 x.p.src, .int .i64 x.p.dst, .int .i64 x.p.sport, .int .i64 x.p.dport, .int .i64 x.n] 141
  have k1 := h1.below hb1 (cell_lt (h1.1 0 _ rfl))
  have k2 := h2.below hb1 (cell_lt (h2.1 0 _ rfl))
  have hN : w.heap.size < (w.alloc (.cells #[.int .i64 x.d, .int .i64 x.p.src, .int .i64 x.p.dst, .int .i64 x.p.sport, .int .i64 x.p.dport, .int .i64 x.n] 141)).heap.size := by simp
  have HB1 := hide hb1
  clear h1 h2 hb1
  obtain ⟨N, hNN⟩ : ∃ N, w.heap.size = N := ⟨_, rfl⟩
  have HNN := hide hNN
  cases e0 : (x.d == i)
  · simp only [Bool.false_and]
    go_enter Try.func67, Try.ntmps67
    go_wp2_with fail
    rw [hNN] at hx hN
    clear hNN
    generalize World.alloc w _ = w1 at *
    refine wp_region_abs (by kernel_rfl) (by kernel_rfl) ?_
    intro T hT gt hg1 hgi
    have HGT := hide hg1
    have HGI := hide hgi
    clear hg1 hgi
    have c0 : ∀ t, (gt t).cell? ⟨N, 0, none⟩ = some (.int .i64 x.d) := fun t => (hx.below (HGT.out t) hN).1 0 _ rfl
    have c1 : ∀ t, (gt t).cell? ⟨N, 1, none⟩ = some (.int .i64 x.p.src) := fun t => (hx.below (HGT.out t) hN).1 1 _ rfl
    have c2 : ∀ t, (gt t).cell? ⟨N, 2, none⟩ = some (.int .i64 x.p.dst) := fun t => (hx.below (HGT.out t) hN).1 2 _ rfl
    have c3 : ∀ t, (gt t).cell? ⟨N, 3, none⟩ = some (.int .i64 x.p.sport) := fun t => (hx.below (HGT.out t) hN).1 3 _ rfl
    have c4 : ∀ t, (gt t).cell? ⟨N, 4, none⟩ = some (.int .i64 x.p.dport) := fun t => (hx.below (HGT.out t) hN).1 4 _ rfl
    have a0 : ∀ t, (gt t).cell? ⟨A1, 0, none⟩ = some (.int .i64 i) := fun t => (k1.below (HGT.out t) (cell_lt (k1.1 0 _ rfl))).1 0 _ rfl
    have b0 : ∀ t, (gt t).cell? ⟨A2, 0, none⟩ = some (.int .i64 p.src) := fun t => (k2.below (HGT.out t) (cell_lt (k2.1 0 _ rfl))).1 0 _ rfl
    have b1 : ∀ t, (gt t).cell? ⟨A2, 1, none⟩ = some (.int .i64 p.dst) := fun t => (k2.below (HGT.out t) (cell_lt (k2.1 0 _ rfl))).1 1 _ rfl
    have b2 : ∀ t, (gt t).cell? ⟨A2, 2, none⟩ = some (.int .i64 p.sport) := fun t => (k2.below (HGT.out t) (cell_lt (k2.1 0 _ rfl))).1 2 _ rfl
    have b3 : ∀ t, (gt t).cell? ⟨A2, 3, none⟩ = some (.int .i64 p.dport) := fun t => (k2.below (HGT.out t) (cell_lt (k2.1 0 _ rfl))).1 3 _ rfl
    clear hx hN k1 k2
    repeat (go_big_quiet_step ((go_at_call 68; exact inAbs HGT.out HGI.out (back_walk p _))))
    refine wpQuiet_nil ?_
    intro _ hw'
    obtain ⟨t, rfl⟩ := hw'
    have HB2 := hide (HB1.out.trans ((HGT.out t).mono HB1.out.size))
    generalize gt t = w2 at *
    clear a0 b0 b1 b2 b3 c0 c1 c2 c3 c4 HGT HGI
    go_wp2
    go_ret
    exact ⟨rfl, HB2.out⟩
  simp only [Bool.true_and]
  rcases peq x.p (flipP p) with ⟨e1, ep⟩ | ⟨e1, e2, ep⟩ | ⟨e1, e2, e3, ep⟩ | ⟨e1, e2, e3, e4, ep⟩ | ⟨e1, e2, e3, e4, ep⟩
  all_goals
    rw [ep]
    clear ep
    simp only [flipP] at *
    go_enter Try.func67, Try.ntmps67
    go_wp2_with fail
    rw [hNN] at hx hN
    clear hNN
    generalize World.alloc w _ = w1 at *
    refine wp_region_abs (by kernel_rfl) (by kernel_rfl) ?_
    intro T hT gt hg1 hgi
    have HGT := hide hg1
    have HGI := hide hgi
    clear hg1 hgi
    have c0 : ∀ t, (gt t).cell? ⟨N, 0, none⟩ = some (.int .i64 x.d) := fun t => (hx.below (HGT.out t) hN).1 0 _ rfl
    have c1 : ∀ t, (gt t).cell? ⟨N, 1, none⟩ = some (.int .i64 x.p.src) := fun t => (hx.below (HGT.out t) hN).1 1 _ rfl
    have c2 : ∀ t, (gt t).cell? ⟨N, 2, none⟩ = some (.int .i64 x.p.dst) := fun t => (hx.below (HGT.out t) hN).1 2 _ rfl
    have c3 : ∀ t, (gt t).cell? ⟨N, 3, none⟩ = some (.int .i64 x.p.sport) := fun t => (hx.below (HGT.out t) hN).1 3 _ rfl
    have c4 : ∀ t, (gt t).cell? ⟨N, 4, none⟩ = some (.int .i64 x.p.dport) := fun t => (hx.below (HGT.out t) hN).1 4 _ rfl
    have a0 : ∀ t, (gt t).cell? ⟨A1, 0, none⟩ = some (.int .i64 i) := fun t => (k1.below (HGT.out t) (cell_lt (k1.1 0 _ rfl))).1 0 _ rfl
    have b0 : ∀ t, (gt t).cell? ⟨A2, 0, none⟩ = some (.int .i64 p.src) := fun t => (k2.below (HGT.out t) (cell_lt (k2.1 0 _ rfl))).1 0 _ rfl
    have b1 : ∀ t, (gt t).cell? ⟨A2, 1, none⟩ = some (.int .i64 p.dst) := fun t => (k2.below (HGT.out t) (cell_lt (k2.1 0 _ rfl))).1 1 _ rfl
    have b2 : ∀ t, (gt t).cell? ⟨A2, 2, none⟩ = some (.int .i64 p.sport) := fun t => (k2.below (HGT.out t) (cell_lt (k2.1 0 _ rfl))).1 2 _ rfl
    have b3 : ∀ t, (gt t).cell? ⟨A2, 3, none⟩ = some (.int .i64 p.dport) := fun t => (k2.below (HGT.out t) (cell_lt (k2.1 0 _ rfl))).1 3 _ rfl
    clear hx hN k1 k2
    repeat (go_big_quiet_step ((go_at_call 68; exact inAbs HGT.out HGI.out (back_walk p _))))
    refine wpQuiet_nil ?_
    intro _ hw'
    obtain ⟨t, rfl⟩ := hw'
    have HB2 := hide (HB1.out.trans ((HGT.out t).mono HB1.out.size))
    generalize gt t = w2 at *
    clear a0 b0 b1 b2 b3 c0 c1 c2 c3 c4 HGT HGI
    go_wp2
    go_ret
    exact ⟨rfl, HB2.out⟩
end Go.Proofs.Ythaiffjalgionaa

set_option linter.unusedVariables false
set_option linter.unusedSimpArgs false
namespace Go.Proofs.Ythaiffjalgionaa
open Go.RowKit

def fnd (q : FactV → Bool) (L : List FactV) : Option FactV := if idxF q L < 0 then none else L[(idxF q L).toNat]?
theorem fnd_cases (q : FactV → Bool) (L : List FactV) : (∃ (k : Nat) (r : FactV), idxF q L = (k : Int) ∧ k < L.length ∧ L[k]? = some r ∧ q r = true ∧ fnd q L = some r) ∨ (idxF q L = -1 ∧ (∀ r ∈ L, q r = false) ∧ fnd q L = none) := by
  rcases idxF_cases q L with ⟨k, r, hk, hl, hr, hq, _⟩ | ⟨hk, hno⟩
  · refine Or.inl ⟨k, r, hk, hl, hr, hq, ?_⟩
    unfold fnd
    rw [hk, if_neg (by omega)]
    simpa using hr
  · refine Or.inr ⟨hk, hno, ?_⟩
    unfold fnd
    rw [hk, if_pos (by omega)]
structure MG where
  e : Int
  ok : Bool
  port : Int
  q : P4
  kn : Option FactV
def MG.bad (e : Int) : MG := ⟨e, false, 0, ⟨0, 0, 0, 0⟩, none⟩
def mFire (r : Dev) (L : List FactV) (i y : Int) (p : P4) : MG :=
  if y = 0 then ⟨0, letsB r.rules p, 1 - y, p, some ⟨i, p, 0⟩⟩ else ⟨0, (fnd (fun x => x.d == i && eq4 x.p (flipP p)) L).isSome, 1 - y, p, none⟩
def mNat (r : Dev) (L : List FactV) (i y : Int) (p : P4) (ch : Int) : MG :=
  if y = 1 then
    match fnd (fun x => x.d == i && x.n == p.dport) L with
    | some f => if p.dst = r.addr then ⟨0, true, 1 - y, ⟨p.src, f.p.src, p.sport, f.p.sport⟩, none⟩ else ⟨0, false, 1 - y, p, none⟩
    | none => ⟨0, false, 1 - y, p, none⟩
  else match fnd (fun x => x.d == i && eq4 x.p ⟨p.src, 0, p.sport, 0⟩) L with
    | some f => ⟨0, true, 1 - y, ⟨r.addr, p.dst, f.n, p.dport⟩, some ⟨i, ⟨p.src, 0, p.sport, 0⟩, f.n⟩⟩
    | none =>
      if inR ch 0 7 = false then .bad 1
      else if hasB r.pool ch = false then .bad 1
      else if (fnd (fun x => x.d == i && x.n == ch) L).isSome then .bad 6
      else ⟨0, true, 1 - y, ⟨r.addr, p.dst, ch, p.dport⟩, some ⟨i, ⟨p.src, 0, p.sport, 0⟩, ch⟩⟩
def mBal (r : Dev) (L : List FactV) (i y : Int) (p : P4) (ch : Int) : MG :=
  if y = 1 then
    ⟨0, true, 1 - y, if (fnd (fun x => x.d == i && (eq4 x.p ⟨p.dst, r.addr, p.dport, p.sport⟩ && x.n == p.src)) L).isSome then ⟨r.addr, p.dst, p.sport, p.dport⟩ else p, none⟩
  else if p.dst ≠ r.addr then ⟨0, true, 1 - y, p, none⟩
  else match fnd (fun x => x.d == i && eq4 x.p p) L with
    | some f => ⟨0, true, 1 - y, ⟨p.src, f.n, p.sport, p.dport⟩, some ⟨i, p, f.n⟩⟩
    | none => match (if inR ch 0 ((r.backs.length : Int) - 1) = false then none else r.backs[ch.toNat]?) with
      | some b => ⟨0, true, 1 - y, ⟨p.src, b, p.sport, p.dport⟩, some ⟨i, p, b⟩⟩
      | none => .bad 1
def mRout (r : Dev) (y : Int) (p : P4) : MG := ⟨0, decide (0 ≤ (outF p.dst r.routes).2) && letsB r.rules p, (outF p.dst r.routes).1, p, none⟩
def mS (r : Dev) (L : List FactV) (i y : Int) (p : P4) (ch : Int) : MG :=
  if r.kind = 2 then mRout r y p
  else if r.kind = 3 then mFire r L i y p
  else if r.kind = 4 then mNat r L i y p ch
  else if r.kind = 5 then mBal r L i y p ch
  else ⟨0, false, 1 - y, p, none⟩
def addF (L : List FactV) : Option FactV → List FactV
  | none => L
  | some f => if L.any (fun z => eqF f z) then L else L ++ [f]
def mGo (ls : List LinkV) (L : List FactV) (i : Int) (x : MG) : HandS × List FactV :=
  if x.e ≠ 0 then (.bad x.e, L)
  else match peerF ls (i, x.port) with
    | none => (.bad 7, L)
    | some to => if x.ok then (⟨0, to, x.q, .nothing⟩, addF L x.kn) else (.bad 7, L)
def mindS (ds : List Dev) (ls : List LinkV) (L : List FactV) (i y : Int) (p : P4) (ch : Int) : HandS × List FactV :=
  if placeB ds (i, y) = false then (.bad 4, L)
  else if rightB p = false then (.bad 1, L)
  else match ds[i.toNat]? with
    | none => (.bad 4, L)
    | some r => mGo ls L i (mS r L i y p ch)
theorem mindS_place {ds : List Dev} {ls : List LinkV} {L : List FactV} {i y : Int} {p : P4} {ch : Int} (h : placeB ds (i, y) = false) : mindS ds ls L i y p ch = (.bad 4, L) := by simp [mindS, h]
theorem mindS_right {ds : List Dev} {ls : List LinkV} {L : List FactV} {i y : Int} {p : P4} {ch : Int} (h : placeB ds (i, y) = true) (h2 : rightB p = false) : mindS ds ls L i y p ch = (.bad 1, L) := by simp [mindS, h, h2]
theorem mindS_go {ds : List Dev} {ls : List LinkV} {L : List FactV} {i y : Int} {p : P4} {ch : Int} (h : placeB ds (i, y) = true) (h2 : rightB p = true) {r : Dev} (hr : ds[i.toNat]? = some r) : mindS ds ls L i y p ch = mGo ls L i (mS r L i y p ch) := by simp [mindS, h, h2, hr]
def forgetM (ds : List Dev) (L : List FactV) (i : Int) (p : P4) (q : Int) : Int × List FactV :=
  if inR i 0 ((ds.length : Int) - 1) = false then (4, L)
  else match ds[i.toNat]? with
    | none => (4, L)
    | some r => if inR r.kind 3 5 = false then (4, L)
      else
        let k := idxF (fun x => x.d == i && ((r.kind == 4 && x.n == q) || (r.kind != 4 && eq4 x.p p))) L
        if k < 0 then (7, L) else (0, L.take k.toNat ++ L.drop (k.toNat + 1))

structure Rel (ds : List Dev) (M : MS) (L : List FactV) : Prop where
  f : ∀ (i : Int) (r : Dev), 0 ≤ i → ds[i.toNat]? = some r → r.kind = 3 → ∀ p, M.F (i, p) = true ↔ ∃ n, (⟨i, p, n⟩ : FactV) ∈ L
  o : ∀ (i : Int) (r : Dev), 0 ≤ i → ds[i.toNat]? = some r → r.kind = 4 → ∀ k u, M.O (i, k) = some u ↔ (⟨i, ⟨u.1, 0, u.2, 0⟩, k⟩ : FactV) ∈ L
  o2 : ∀ (i : Int) (r : Dev), 0 ≤ i → ds[i.toNat]? = some r → r.kind = 4 → ∀ x ∈ L, x.d = i → x.p.dst = 0 ∧ x.p.dport = 0 ∧ 0 ≤ x.n ∧ x.n < 8
  ou : ∀ (i : Int) (r : Dev), 0 ≤ i → ds[i.toNat]? = some r → r.kind = 4 → ∀ k k' u, M.O (i, k) = some u → M.O (i, k') = some u → k = k'
  b : ∀ (i : Int) (r : Dev), 0 ≤ i → ds[i.toNat]? = some r → r.kind = 5 → ∀ p u, M.B (i, p) = some u ↔ (⟨i, p, u⟩ : FactV) ∈ L
  fz : ∀ (i : Int) (r : Dev), 0 ≤ i → ds[i.toNat]? = some r → r.kind = 3 → ∀ x ∈ L, x.d = i → x.n = 0
  nd : L.Nodup
theorem Rel.empty (ds : List Dev) : Rel ds MS.empty [] :=
  ⟨fun _ _ _ _ _ p => (by simp [MS.empty]), fun _ _ _ _ _ k u => (by simp [MS.empty]), fun _ _ _ _ _ x hx => (by cases hx), fun _ _ _ _ _ k k' u h => (by simp [MS.empty] at h), fun _ _ _ _ _ p u => (by simp [MS.empty]), fun _ _ _ _ _ x hx => (by cases hx), List.nodup_nil⟩

def FactV.arr (x : FactV) : Array Value := #[.int .i64 x.d, .int .i64 x.p.src, .int .i64 x.p.dst, .int .i64 x.p.sport, .int .i64 x.p.dport, .int .i64 x.n]
structure MindAt (w : World) (g : Nat) (n : NetV) (A : Option Addr) (c : Nat) (L : List FactV) : Prop where
  c0 : w.cell? ⟨g, 0, none⟩ = some (.slice n.dA n.dn n.dc)
  c1 : w.cell? ⟨g, 1, none⟩ = some (.slice n.lA n.ln n.lc)
  c2 : w.cell? ⟨g, 2, none⟩ = some (.slice A L.length c)
  fz : w.frozen? ⟨g, 2, none⟩ = false
  own : w.ownsRow (g + 1) 141 6 (.slice A L.length c) L.length (L.flatMap FactV.cells)
  net : NetAt w g n
theorem MindAt.glt {w : World} {g : Nat} {n : NetV} {A : Option Addr} {c : Nat} {L : List FactV} (h : MindAt w g n A c L) : g < w.heap.size := cell_lt h.c0
theorem MindAt.below {w w' : World} {g : Nat} {n : NetV} {A : Option Addr} {c : Nat} {L : List FactV} (h : MindAt w g n A c L) (hb : Below w.heap.size w w') : MindAt w' g n A c L :=
  ⟨(hb.cell (p := ⟨g, 0, none⟩) h.glt).trans h.c0, (hb.cell (p := ⟨g, 1, none⟩) h.glt).trans h.c1, (hb.cell (p := ⟨g, 2, none⟩) h.glt).trans h.c2, (hb.frozen (p := ⟨g, 2, none⟩) h.glt).trans h.fz, own_below h.own hb, h.net.below (hb.mono (Nat.le_of_lt h.glt)) (Nat.le_refl _)⟩
theorem MindAt.sl {w : World} {g : Nat} {n : NetV} {A : Option Addr} {c : Nat} {L : List FactV} (h : MindAt w g n A c L) : SlAt FactV.cells 6 w w.heap.size A L.length L := own_sl FactV.len h.own rfl
def MindP (W : World) (g : Nat) (n : NetV) (A : Option Addr) (S : HandS × List FactV) (e : Ending) (W' : World) : Prop :=
  e = .returned S.1.val ∧ ∃ A' c', MindAt W' g n A' c' S.2 ∧ Near (fun k => k = g ∨ A.map (·.block) = some k) W.heap.size W W' ∧ ∀ a, A' = some a → A.map (·.block) = some a.block ∨ W.heap.size ≤ a.block
theorem MindP.same {W W' : World} {g : Nat} {n : NetV} {A : Option Addr} {c : Nat} {L : List FactV} {S : HandS} {e : Ending} (hM : MindAt W g n A c L) (hb : Below W.heap.size W W') (he : e = .returned S.val) : MindP W g n A (S, L) e W' :=
  ⟨he, A, c, hM.below hb, Near.of_below hb, fun a h => Or.inl (by rw [h]; rfl)⟩
def mqArr (q : P4) : Array Value := #[.int .i64 q.src, .int .i64 q.dst, .int .i64 q.sport, .int .i64 q.dport]
structure BN (W : World) (L : List (Nat × Array Value)) (N : Nat) (vs : Array Value) (w : World) : Prop where
  box : BX W L w
  z : BoxV w N vs
  lt : N < w.heap.size
  ap : ∀ x ∈ L, x.1 < N
  lo : W.heap.size ≤ N
section
variable {W w w' : World} {L : List (Nat × Array Value)} {N : Nat} {vs : Array Value}
theorem BX.d (h : BX W L w) : BX W L w.drew := h.below (Below.refl _ _).drew
theorem BX.al (h : BX W L w) (vs : Array Value) (t : TypeId) : BN W L w.heap.size vs (w.alloc (.cells vs t)) :=
  ⟨h.below ((Below.refl _ _).alloc (Nat.le_refl _) _), BoxV.new _ _ _, by simp, fun x hx => (h.bx x hx).2, h.bl.size⟩
theorem BN.below (h : BN W L N vs w) (hb : Below w.heap.size w w') : BN W L N vs w' := ⟨h.box.below hb, h.z.below hb h.lt, Nat.lt_of_lt_of_le h.lt hb.size, h.ap, h.lo⟩
theorem BN.d (h : BN W L N vs w) : BN W L N vs w.drew := h.below (Below.refl _ _).drew
theorem BN.set (h : BN W L N vs w) (j : Nat) (v : Value) : BN W L N (vs.setIfInBounds j v) (w.setCell ⟨N, j, none⟩ v) := by
  have hsz : (w.setCell ⟨N, j, none⟩ v).heap.size = w.heap.size := by simp [World.setCell]
  exact ⟨⟨h.box.bl.setCell h.lo v, fun x hx => ⟨(h.box.bx x hx).1.far _ _ (by have := h.ap x hx; show N ≠ x.1; omega), by rw [hsz]; exact (h.box.bx x hx).2⟩⟩, h.z.set j v, by rw [hsz]; exact h.lt, h.ap, h.lo⟩
theorem BN.done (h : BN W L N vs w) : BX W ((N, vs) :: L) w := ⟨h.box.bl, fun x hx => by
  rcases List.mem_cons.1 hx with rfl | hx
  · exact ⟨h.z, h.lt⟩
  · exact h.box.bx x hx⟩
theorem BN.leafL (h : BN W L N vs w) : ∃ N' w', N = N' ∧ w = w' ∧ BX W ((N', vs) :: L) w' ∧ W.heap.size ≤ N' := ⟨_, _, rfl, rfl, h.done, h.lo⟩
end
def MindMid (W : World) (LB : List (Nat × Array Value)) (Q : Nat) (X : MG) (s11 s12 s14 : Value) (wx : World) : Prop :=
  X.e = 0 ∧ s11 = .bool X.ok ∧ s12 = .int .i64 X.port ∧ BX W ((Q, mqArr X.q) :: LB) wx ∧ ∃ kn : Option Nat, s14 = .pointer (kn.map fun N => ⟨N, 0, none⟩) ∧
    match kn, X.kn with
    | none, none => True
    | some N, some f => BoxV wx N f.arr ∧ N < wx.heap.size ∧ W.heap.size ≤ N
    | _, _ => False
theorem Try.infoFact : (Try.prog.info? 141).map (fun i => (i.zero, i.size, i.bytes)) = some (some (.agg #[.int .i64 0, .int .i64 0, .int .i64 0, .int .i64 0, .int .i64 0, .int .i64 0]), 6, 48) := by kernel_rfl
theorem BN.cells2 {W w : World} {L : List (Nat × Array Value)} {N : Nat} {a b : Int} (h : BN W L N #[.int .i64 a, .int .i64 b] w) : w.cell? ⟨N, 0, none⟩ = some (.int .i64 a) ∧ w.cell? ⟨N, 1, none⟩ = some (.int .i64 b) ∧ w.frozen? ⟨N, 0, none⟩ = false ∧ w.frozen? ⟨N, 1, none⟩ = false := ⟨h.z.1 0 _ rfl, h.z.1 1 _ rfl, h.z.2 _, h.z.2 _⟩
theorem MindAt.ablk {w : World} {g : Nat} {n : NetV} {A : Option Addr} {c : Nat} {L : List FactV} (h : MindAt w g n A c L) : ∀ a, A = some a → g + 1 ≤ a.block ∧ a.block < w.heap.size := fun a ha => h.own.lt a.block (by rw [ha]; rfl)
theorem MindAt.near {w w' : World} {g : Nat} {n : NetV} {A : Option Addr} {c : Nat} {L : List FactV} {q : Nat → Prop} (h : MindAt w g n A c L) (hn : Near q w.heap.size w w') (hg : ∀ k, q k → g < k) (hA : ∀ a, A = some a → ¬ q a.block) : MindAt w' g n A c L := by
  have hq : ¬ q g := fun e => Nat.lt_irrefl _ (hg g e)
  refine ⟨(hn.cell (a := ⟨g, 0, none⟩) h.glt hq).trans h.c0, (hn.cell (a := ⟨g, 1, none⟩) h.glt hq).trans h.c1, (hn.cell (a := ⟨g, 2, none⟩) h.glt hq).trans h.c2, (hn.frozen (a := ⟨g, 2, none⟩) h.glt hq).trans h.fz, own_same h.own (fun k hk => ?_), ?_⟩
  · cases hA0 : A with
    | none => rw [hA0] at hk; cases hk
    | some a =>
      rw [hA0] at hk
      have e : a.block = k := by simpa [Value.ownBlock] using hk
      rw [← e]
      exact hn.block a.block (h.ablk a hA0).2 (hA a hA0)
  · exact h.net.below (B := g) ⟨hn.os, hn.tape, hn.output, hn.size, fun k hk => hn.block k (by have := h.glt; omega) (fun e => by have := hg k e; omega)⟩ (Nat.le_refl _)
theorem mind_added {W w w5 : World} {g : Nat} {n : NetV} {A A5 : Option Addr} {c c5 : Nat} {L : List FactV} {f : FactV} (hM : MindAt W g n A c L) (hb : Below W.heap.size W w)
    (hown : w5.ownsRow (g + 1) 141 6 (.slice A5 (L.length + 1) c5) (L.length + 1) (L.flatMap FactV.cells ++ f.cells)) (hg : w.grownBy w5 (Value.slice A L.length c).ownBlock) (hat : (Value.slice A5 (L.length + 1) c5).ownBlock = (Value.slice A L.length c).ownBlock ∨ (Value.slice A5 (L.length + 1) c5).ownBlock = some w.heap.size) :
    MindAt (w5.setCell ⟨g, 2, none⟩ (.slice A5 (L.length + 1) c5)) g n A5 c5 (L ++ [f]) ∧ Near (fun k => k = g ∨ A.map (·.block) = some k) w.heap.size w (w5.setCell ⟨g, 2, none⟩ (.slice A5 (L.length + 1) c5)) ∧ (∀ a, A5 = some a → A.map (·.block) = some a.block ∨ w.heap.size ≤ a.block) := by
  have hMw := hM.below hb
  have hblk : (Value.slice A L.length c).ownBlock = A.map (·.block) := by cases A <;> rfl
  have hblk5 : (Value.slice A5 (L.length + 1) c5).ownBlock = A5.map (·.block) := by cases A5 <;> rfl
  rw [hblk] at hg hat
  rw [hblk5] at hat
  have hgA : A.map (·.block) ≠ some g := fun e => by
    cases hA : A with
    | none => rw [hA] at e; cases e
    | some a =>
      rw [hA] at e
      have := (hM.ablk a hA).1
      simp at e
      omega
  have hgl := hMw.glt
  have c2 : w5.cell? ⟨g, 2, none⟩ = some (.slice A L.length c) := (World.cell?_of_block (hg.block g hgl (Ne.symm hgA))).trans hMw.c2
  have n5 : Near (fun k => A.map (·.block) = some k) w.heap.size w w5 := ⟨hg.os, hg.tape, hg.output, hg.size, fun k hk hp => hg.block k hk (fun e => hp e.symm)⟩
  have n6 : Near (fun k => k = g) w5.heap.size w5 (w5.setCell ⟨g, 2, none⟩ (.slice A5 (L.length + 1) c5)) := ⟨rfl, rfl, rfl, by simp [World.setCell], fun k _ hp => Below.heap_setCell _ _ _ k hp⟩
  have nn : Near (fun k => k = g ∨ A.map (·.block) = some k) w.heap.size w (w5.setCell ⟨g, 2, none⟩ (.slice A5 (L.length + 1) c5)) := (n5.weak (fun k e => Or.inr e)).trans ((n6.mono hg.size).weak (fun k e => Or.inl e))
  refine ⟨⟨?_, ?_, ?_, ?_, ?_, ?_⟩, nn, fun a ha => ?_⟩
  · rw [World.cell?_setCell_other _ _ _ _ (by simp)]; exact (World.cell?_of_block (hg.block g hgl (Ne.symm hgA))).trans hMw.c0
  · rw [World.cell?_setCell_other _ _ _ _ (by simp)]; exact (World.cell?_of_block (hg.block g hgl (Ne.symm hgA))).trans hMw.c1
  · have := World.cell?_setCell_same w5 ⟨g, 2, none⟩ (.slice A5 (L.length + 1) c5) c2
    simpa using this
  · rw [World.frozen?_setCell]; exact (World.frozen?_of_block (hg.block g hgl (Ne.symm hgA))).trans hMw.fz
  · have h1 : (L ++ [f]).length = L.length + 1 := by simp
    have h2 : (L ++ [f]).flatMap FactV.cells = L.flatMap FactV.cells ++ f.cells := by simp
    rw [h1, h2]
    exact own_setCell hown (fun k hk => by have := (hown.lt k hk).1; show k ≠ g; omega) _
  · exact hMw.net.below (B := g) ⟨nn.os, nn.tape, nn.output, nn.size, fun k hk => nn.block k (by omega) (fun e => by
      rcases e with e | e
      · omega
      · cases hA : A with
        | none => rw [hA] at e; cases e
        | some a =>
          rw [hA] at e
          have := (hM.ablk a hA).1
          simp at e
          omega)⟩ (Nat.le_refl _)
  · rcases hat with e | e
    · rw [ha] at e; exact Or.inl e.symm
    · rw [ha] at e
      have e2 : a.block = w.heap.size := by simpa using e
      right; omega
theorem reads_fact {w : World} {N : Nat} {f : FactV} (h : BoxV w N f.arr) : Reads w (N + 1) 6 (some ⟨N, 0, none⟩) 1 f.cells :=
  ⟨rfl, fun _ => ⟨_, rfl, Nat.lt_succ_self _, fun j u hu => by
    rw [addr_add, Nat.zero_add]
    exact h.1 j u (by simpa [FactV.cells, FactV.arr] using hu)⟩⟩
theorem near_setCells (w : World) (N : Nat) (cs : List Value) : Near (fun k => k = N) w.heap.size w (w.setCells N 0 cs) := by
  have hb := below_setCells (B := N) (N := N) (Nat.le_refl _) cs 0 w (Below.refl _ _)
  have h2 := setCells_blk (L := N + 1) (N := N) (Nat.lt_succ_self _) cs 0 w
  refine ⟨hb.os, hb.tape, hb.output, h2.1, fun k hk hp => ?_⟩
  rcases Nat.lt_or_ge k N with h | h
  · exact hb.block k h
  · exact h2.2 k (by omega)
section
variable {W w w5 : World} {g : Nat} {n : NetV} {A : Option Addr} {c : Nat} {L : List FactV}
theorem own_low (hM : MindAt W g n A c L) {k : Nat} (hk : k = g ∨ A.map (·.block) = some k) : k < W.heap.size := by
  rcases hk with rfl | e
  · exact hM.glt
  · cases hA : A with
    | none => rw [hA] at e; cases e
    | some a =>
      rw [hA] at e
      have := (hM.ablk a hA).2
      simp at e
      omega
theorem row_blk (A : Option Addr) (m c : Nat) : (Value.slice A m c).ownBlock = A.map (·.block) := by cases A <;> rfl
theorem grown_box (hM : MindAt W g n A c L) {N : Nat} {vs : Array Value} (hx : BoxV w N vs) (hN : N < w.heap.size) (hW : W.heap.size ≤ N) (hg : w.grownBy w5 (Value.slice A L.length c).ownBlock) : BoxV w5 N vs := by
  rw [row_blk] at hg
  have n5 : Near (fun k => A.map (·.block) = some k) w.heap.size w w5 := ⟨hg.os, hg.tape, hg.output, hg.size, fun k hk hp => hg.block k hk (fun e => hp e.symm)⟩
  exact hx.near n5 hN (fun e => by have := own_low hM (Or.inr e); omega)
theorem grown_c2 (hM : MindAt W g n A c L) (hb : Below W.heap.size W w) (hg : w.grownBy w5 (Value.slice A L.length c).ownBlock) : w5.cell? ⟨g, 2, none⟩ = some (.slice A L.length c) ∧ w5.frozen? ⟨g, 2, none⟩ = false := by
  have hMw := hM.below hb
  rw [row_blk] at hg
  have hgA : some g ≠ A.map (·.block) := fun e => by
    cases hA : A with
    | none => rw [hA] at e; cases e
    | some a =>
      rw [hA] at e
      have := (hM.ablk a hA).1
      simp at e
      omega
  exact ⟨(World.cell?_of_block (hg.block g hMw.glt hgA)).trans hMw.c2, (World.frozen?_of_block (hg.block g hMw.glt hgA)).trans hMw.fz⟩
theorem kept_box (hM : MindAt W g n A c L) {N : Nat} {vs : Array Value} (hx : BoxV w N vs) (hN : N < w.heap.size) (hW : W.heap.size ≤ N) (hn : Near (fun k => k = g ∨ A.map (·.block) = some k) w.heap.size w w5) : BoxV w5 N vs :=
  hx.near hn hN (fun e => by have := own_low hM e; omega)
theorem mind_done (hM : MindAt W g n A c L) (hb : Below W.heap.size W w) {A5 : Option Addr} {c5 : Nat} {L5 : List FactV} {S : HandS} {N : Nat} {cs : List Value} (h5 : MindAt w5 g n A5 c5 L5) (hn : Near (fun k => k = g ∨ A.map (·.block) = some k) w.heap.size w w5) (hA : ∀ a, A5 = some a → A.map (·.block) = some a.block ∨ w.heap.size ≤ a.block)
    (hN : W.heap.size ≤ N) (hNw : N < w.heap.size) {e : Ending} (he : e = .returned S.val) : MindP W g n A (S, L5) e (w5.setCells N 0 cs) := by
  have hs := near_setCells w5 N cs
  have hgl := hM.glt
  refine ⟨he, A5, c5, h5.near hs (fun k e => by omega) (fun a ha e => ?_), ?_, fun a ha => ?_⟩
  · rcases hA a ha with h | h
    · have := own_low hM (Or.inr h); omega
    · omega
  · have h1 : Near (fun k => k = g ∨ A.map (·.block) = some k) W.heap.size W w := Near.of_below hb
    refine (h1.trans (hn.mono hb.size)).trans ?_
    exact ⟨hs.os, hs.tape, hs.output, hs.size, fun k hk hp => hs.block k (by have := hb.size; have := hn.size; omega) (by omega)⟩
  · rcases hA a ha with h | h
    · exact Or.inl h
    · have := hb.size; right; omega
end
end Go.Proofs.Ythaiffjalgionaa

set_option linter.unusedVariables false
set_option linter.unusedSimpArgs false
namespace Go.Proofs.Ythaiffjalgionaa
open Go.RowKit Go.Maps

theorem mineG_spec (M : MS) (i : Int) (o : Int × Int) : ∀ (m k : Nat), (mineG M i o m k = -1 ∧ ∀ j : Nat, k ≤ j → j < k + m → M.O (i, (j : Int)) ≠ some o) ∨ ∃ j : Nat, k ≤ j ∧ j < k + m ∧ mineG M i o m k = (j : Int) ∧ M.O (i, (j : Int)) = some o
  | 0, k => Or.inl ⟨rfl, fun j h1 h2 => absurd h2 (by omega)⟩
  | m + 1, k => by
    by_cases h : M.O (i, (k : Int)) = some o
    · exact Or.inr ⟨k, Nat.le_refl _, by omega, by simp [mineG, h], h⟩
    · have e : mineG M i o (m + 1) k = mineG M i o m (k + 1) := by simp [mineG, h]
      rw [e]
      rcases mineG_spec M i o m (k + 1) with ⟨h1, h2⟩ | ⟨j, h1, h2, h3, h4⟩
      · refine Or.inl ⟨h1, fun j j1 j2 => ?_⟩
        by_cases hj : j = k
        · subst hj; exact h
        · exact h2 j (by omega) (by omega)
      · exact Or.inr ⟨j, by omega, by omega, h3, h4⟩
theorem mineF_spec (M : MS) (i : Int) (o : Int × Int) : (mineF M i o = -1 ∧ ∀ j : Int, 0 ≤ j → j < 8 → M.O (i, j) ≠ some o) ∨ (0 ≤ mineF M i o ∧ mineF M i o < 8 ∧ M.O (i, mineF M i o) = some o) := by
  rcases mineG_spec M i o 8 0 with ⟨h1, h2⟩ | ⟨j, h1, h2, h3, h4⟩
  · refine Or.inl ⟨h1, fun j j0 j1 => ?_⟩
    have := h2 j.toNat (by omega) (by omega)
    rwa [Int.toNat_of_nonneg j0] at this
  · refine Or.inr ⟨?_, ?_, ?_⟩
    · show 0 ≤ mineG M i o 8 0; omega
    · show mineG M i o 8 0 < 8; omega
    · show M.O (i, mineG M i o 8 0) = some o; rw [h3]; exact h4
end Go.Proofs.Ythaiffjalgionaa
