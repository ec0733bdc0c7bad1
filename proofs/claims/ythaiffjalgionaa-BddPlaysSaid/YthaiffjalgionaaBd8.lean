/- A part of the proof: Bp6, Bp7, Bp8, Bp9. -/
import Derived.Test.YthaiffjalgionaaBd7

set_option linter.unusedVariables false
set_option linter.unusedSimpArgs false
namespace Go.Proofs.Ythaiffjalgionaa
open Go.RowKit Go.Maps Bdd

def BadP (w : World) (e : Ending) (W' : World) : Prop := e = .returned (.tuple #[.int .i64 0, .int .i64 1]) ∧ RowKit.Below w.heap.size w W'
theorem intsBox {w w1 : World} {B N : Nat} (hB : N < B) (l : List Int) (hl : ∀ x ∈ l, i64ok x) (t : TypeId) (h : w1.heap[N]? = some (.cells (l.map (fun x => Value.int .i64 x)).toArray t (0, 0))) : IntsAt w1 B (some ⟨N, 0, none⟩) l.length l :=
  ⟨rfl, fun x hx => by have := hl x hx; exact this, fun _ => ⟨_, 0, rfl, hB, fun k x hx => by
    rw [cell_of_row _ _ _ _ _ _ h]
    simp [hx]⟩⟩
set_option maxRecDepth 100000 in
set_option maxHeartbeats 4000000 in
theorem ite_bad {w : World} {B g nb kb ib cap : Nat} {A : St} {K T : Tri → Option Value} (h : ArenaAt w B g nb kb ib cap A K T) (f a b : Int) (hf : i64ok f) (ha : i64ok a) (hb : i64ok b) (hbad : ¬ AskOk A [f, a, b] []) :
    Calls Try.prog 84 #[.pointer (some ⟨g, 0, none⟩), .int .i64 f, .int .i64 a, .int .i64 b] w (BadP w) := by
  have hb0 : RowKit.Below w.heap.size w (w.alloc (.cells #[.int .i64 f, .int .i64 a, .int .i64 b] 3)) := (RowKit.Below.refl _ _).alloc (Nat.le_refl _) _
  have HA0 := hide (h.below hb0)
  have HB0 := hide hb0
  have HI3 := hide (intsBox (B := (w.alloc (.cells #[.int .i64 f, .int .i64 a, .int .i64 b] 3)).heap.size) (w := w) (by simp) [f, a, b] (fun x hx => by
    simp only [List.mem_cons, List.mem_nil_iff, or_false] at hx
    rcases hx with rfl | rfl | rfl <;> assumption) 3 (heap_alloc_new w _))
  have HX := hide hbad
  clear h hf ha hb hbad hb0
  go_enter Try.func84, Try.ntmps84
  go_wp2_with fail
  refine (ask_walk HA0.out _ [] _ none 3 0 3 0 (by omega) (by omega) HI3.out (IntsAt.nil _ _ _)).mono ?_
  rintro e wa ⟨_, he, hb⟩
  obtain rfl := he HX.out
  have HF := hide (HB0.out.trans (hb.mono HB0.out.size))
  clear hb he HA0 HB0 HI3
  go_wp2
  go_ret2
  exact ⟨rfl, HF.out⟩
set_option maxRecDepth 100000 in
set_option maxHeartbeats 4000000 in
theorem and_bad {w : World} {B g nb kb ib cap : Nat} {A : St} {K T : Tri → Option Value} (h : ArenaAt w B g nb kb ib cap A K T) (f a : Int) (hf : i64ok f) (ha : i64ok a) (hbad : ¬ ((0 ≤ f ∧ f < A.ns.length) ∧ (0 ≤ a ∧ a < A.ns.length))) :
    Calls Try.prog 24 #[.pointer (some ⟨g, 0, none⟩), .int .i64 f, .int .i64 a] w (BadP w) := by
  have HC := hide (ite_bad h f a 0 hf ha (by unfold i64ok; omega) (fun hok => hbad ⟨hok.1 f (by simp), hok.1 a (by simp)⟩))
  clear h hf ha hbad
  go_enter Try.func24, Try.ntmps24
  go_wp2_with fail
  refine HC.out.mono ?_
  rintro e wc ⟨rfl, hb⟩
  go_wp2
  go_ret2
  exact ⟨rfl, hb⟩
set_option maxRecDepth 100000 in
set_option maxHeartbeats 4000000 in
theorem var_bad {w : World} {B g nb kb ib cap : Nat} {A : St} {K T : Tri → Option Value} (h : ArenaAt w B g nb kb ib cap A K T) (i : Int) (hi : i64ok i) (hbad : ¬ (0 ≤ i ∧ i < A.vars)) :
    Calls Try.prog 95 #[.pointer (some ⟨g, 0, none⟩), .int .i64 i] w (BadP w) := by
  have hb0 : RowKit.Below w.heap.size w (w.alloc (.cells #[.int .i64 i] 3)) := (RowKit.Below.refl _ _).alloc (Nat.le_refl _) _
  have HA0 := hide (h.below hb0)
  have HB0 := hide hb0
  have HI3 := hide (intsBox (B := (w.alloc (.cells #[.int .i64 i] 3)).heap.size) (w := w) (by simp) [i] (fun x hx => by
    simp only [List.mem_cons, List.mem_nil_iff, or_false] at hx
    rw [hx]; assumption) 3 (heap_alloc_new w _))
  have HX := hide (show ¬ AskOk A [] [i] from fun hok => hbad (hok.2 i (by simp)))
  clear h hi hbad hb0
  go_enter Try.func95, Try.ntmps95
  go_wp2_with fail
  refine (ask_walk HA0.out [] _ none _ 0 1 0 1 (by omega) (by omega) (IntsAt.nil _ _ _) HI3.out).mono ?_
  rintro e wa ⟨_, he, hb⟩
  obtain rfl := he HX.out
  have HF := hide (HB0.out.trans (hb.mono HB0.out.size))
  clear hb he HA0 HB0 HI3
  go_wp2
  go_ret2
  exact ⟨rfl, HF.out⟩
set_option maxRecDepth 100000 in
set_option maxHeartbeats 4000000 in
theorem exists_bad {w : World} {B g nb kb ib cap : Nat} {A : St} {K T : Tri → Option Value} (h : ArenaAt w B g nb kb ib cap A K T) (f i : Int) (hf : i64ok f) (hv : ∀ x ∈ [i], i64ok x) (hbad : ¬ AskOk A [f] [i]) :
    Calls Try.prog 98 #[.pointer (some ⟨g, 0, none⟩), .int .i64 f, .int .i64 i] w (BadP w) := by
  obtain ⟨hb0, ha0⟩ := ask2 h (.cells #[.int .i64 f] 3) (.cells #[.int .i64 i] 3)
  have HA0 := hide ha0
  have HB0 := hide hb0
  have e1 : ((w.alloc (.cells #[.int .i64 f] 3)).alloc (.cells #[.int .i64 i] 3)).heap[w.heap.size]? = some (.cells #[.int .i64 f] 3 (0, 0)) := (RowKit.Below.heap_alloc _ _ _ (by simp)).trans (heap_alloc_new w _)
  have e2 : ((w.alloc (.cells #[.int .i64 f] 3)).alloc (.cells #[.int .i64 i] 3)).heap[w.heap.size + 1]? = some (.cells #[.int .i64 i] 3 (0, 0)) := by
    have := heap_alloc_new (w.alloc (.cells #[.int .i64 f] 3)) (.cells #[.int .i64 i] 3)
    simpa using this
  have HI1 := hide (intsBox (w := w) (B := ((w.alloc (.cells #[.int .i64 f] 3)).alloc (.cells #[.int .i64 i] 3)).heap.size) (by simp; omega) [f] (fun x hx => by
    simp only [List.mem_cons, List.mem_nil_iff, or_false] at hx
    rw [hx]; exact hf) 3 e1)
  have HI2 := hide (intsBox (w := w) (B := ((w.alloc (.cells #[.int .i64 f] 3)).alloc (.cells #[.int .i64 i] 3)).heap.size) (N := w.heap.size + 1) (by simp) [i] hv 3 e2)
  have HX := hide hbad
  clear h hf hv hbad hb0 ha0 e1 e2
  go_enter Try.func98, Try.ntmps98
  go_wp2_with fail
  refine (ask_walk HA0.out _ _ _ _ 1 1 1 1 (by omega) (by omega) HI1.out HI2.out).mono ?_
  rintro e wa ⟨_, he, hb⟩
  obtain rfl := he HX.out
  have HF := hide (HB0.out.trans (hb.mono HB0.out.size))
  clear hb he HA0 HB0 HI1 HI2
  go_wp2
  go_ret2
  exact ⟨rfl, HF.out⟩
set_option maxRecDepth 100000 in
set_option maxHeartbeats 4000000 in
theorem swap_bad {w : World} {B g nb kb ib cap : Nat} {A : St} {K T : Tri → Option Value} (h : ArenaAt w B g nb kb ib cap A K T) (f i j : Int) (hf : i64ok f) (hv : ∀ x ∈ [i, j], i64ok x) (hbad : ¬ AskOk A [f] [i, j]) :
    Calls Try.prog 99 #[.pointer (some ⟨g, 0, none⟩), .int .i64 f, .int .i64 i, .int .i64 j] w (BadP w) := by
  obtain ⟨hb0, ha0⟩ := ask2 h (.cells #[.int .i64 f] 3) (.cells #[.int .i64 i, .int .i64 j] 3)
  have HA0 := hide ha0
  have HB0 := hide hb0
  have e1 : ((w.alloc (.cells #[.int .i64 f] 3)).alloc (.cells #[.int .i64 i, .int .i64 j] 3)).heap[w.heap.size]? = some (.cells #[.int .i64 f] 3 (0, 0)) := (RowKit.Below.heap_alloc _ _ _ (by simp)).trans (heap_alloc_new w _)
  have e2 : ((w.alloc (.cells #[.int .i64 f] 3)).alloc (.cells #[.int .i64 i, .int .i64 j] 3)).heap[w.heap.size + 1]? = some (.cells #[.int .i64 i, .int .i64 j] 3 (0, 0)) := by
    have := heap_alloc_new (w.alloc (.cells #[.int .i64 f] 3)) (.cells #[.int .i64 i, .int .i64 j] 3)
    simpa using this
  have HI1 := hide (intsBox (w := w) (B := ((w.alloc (.cells #[.int .i64 f] 3)).alloc (.cells #[.int .i64 i, .int .i64 j] 3)).heap.size) (by simp; omega) [f] (fun x hx => by
    simp only [List.mem_cons, List.mem_nil_iff, or_false] at hx
    rw [hx]; exact hf) 3 e1)
  have HI2 := hide (intsBox (w := w) (B := ((w.alloc (.cells #[.int .i64 f] 3)).alloc (.cells #[.int .i64 i, .int .i64 j] 3)).heap.size) (N := w.heap.size + 1) (by simp) [i, j] hv 3 e2)
  have HX := hide hbad
  clear h hf hv hbad hb0 ha0 e1 e2
  go_enter Try.func99, Try.ntmps99
  go_wp2_with fail
  refine (ask_walk HA0.out _ _ _ _ 1 2 1 2 (by omega) (by omega) HI1.out HI2.out).mono ?_
  rintro e wa ⟨_, he, hb⟩
  obtain rfl := he HX.out
  have HF := hide (HB0.out.trans (hb.mono HB0.out.size))
  clear hb he HA0 HB0 HI1 HI2
  go_wp2
  go_ret2
  exact ⟨rfl, HF.out⟩
set_option maxRecDepth 100000 in
set_option maxHeartbeats 4000000 in
theorem eval_bad {w : World} {B g nb kb ib cap : Nat} {A : St} {K T : Tri → Option Value} (h : ArenaAt w B g nb kb ib cap A K T) (f n : Nat) (hf : f < A.ns.length) (hn : 2 ^ A.vars = n) (h8 : A.vars ≤ 8) :
    Calls Try.prog 100 #[.pointer (some ⟨g, 0, none⟩), .int .i64 f, .int .i64 n] w fun e W' => e = .returned (.tuple #[.bool false, .int .i64 1]) ∧ RowKit.Below w.heap.size w W' := by
  have hlen := h.lenle
  have hvs := h.vs
  have hb0 : RowKit.Below w.heap.size w (w.alloc (.cells #[.int .i64 f] 3)) := (RowKit.Below.refl _ _).alloc (Nat.le_refl _) _
  have HA0 := hide (h.below hb0)
  have HI := hide (ints1 w (w.alloc (.cells #[.int .i64 f] 3)).heap.size (by simp) f (by omega) 3 (heap_alloc_new w _))
  have HOK := hide (show AskOk A [(f : Int)] [] from ⟨fun x hx => by
    simp only [List.mem_cons, List.mem_nil_iff, or_false] at hx
    rw [hx]; omega, fun x hx => (by cases hx)⟩)
  have hw := wrap_two A.vars n h8 hn
  have H := hide h
  clear h hn
  go_enter Try.func100, Try.ntmps100
  go_wp2_with fail
  refine (ask_walk HA0.out [(f : Int)] [] _ none 1 0 1 0 (by omega) (by omega) HI.out (IntsAt.nil _ _ _)).mono ?_
  rintro e wa ⟨he, _, hb⟩
  obtain rfl := he HOK.out
  have HB := hide (hb0.trans (hb.mono hb0.size))
  have c0 := (H.out.below HB.out).c0
  have hv0 : (0 : Int) ≤ (A.vars : Int) := by omega
  have hn0 : ¬ ((n : Int) < 0) := by omega
  clear he hb hf hlen
  go_wp2
  go_ret2
  exact ⟨rfl, HB.out⟩
set_option maxRecDepth 100000 in
set_option maxHeartbeats 4000000 in
theorem new_bad2 (w : World) (vars most : Int) (hb : vars < 1 ∨ 16 < vars ∨ most < 2 ∨ 40000 < most) :
    Calls Try.prog 18 #[.int .i64 vars, .int .i64 most] w fun e W' => e = .returned (.tuple #[.pointer none, .int .i64 1]) ∧ RowKit.Below w.heap.size w W' := by
  have hmm := @run_makeMap Try.prog
  by_cases h1 : vars < 1
  case pos =>
    go_enter Try.func18, Try.ntmps18
    go_wp2
    go_ret2
    exact ⟨rfl, RowKit.Below.refl _ _⟩
  by_cases h2 : 16 < vars
  case pos =>
    go_enter Try.func18, Try.ntmps18
    go_wp2
    go_ret2
    exact ⟨rfl, RowKit.Below.refl _ _⟩
  have h : most < 2 ∨ 40000 < most := by omega
  clear hb
  rcases h with h | h
  all_goals
    go_enter Try.func18, Try.ntmps18
    go_wp2
    go_ret2
    exact ⟨rfl, RowKit.Below.refl _ _⟩
end Go.Proofs.Ythaiffjalgionaa

set_option linter.unusedVariables false
set_option linter.unusedSimpArgs false
namespace Go.Proofs.Ythaiffjalgionaa
open Go.RowKit Go.Maps Bdd

def cntI (G : Nat → Bool) : Nat → Nat
  | 0 => 0
  | k + 1 => if G k then cntI G k + 1 else cntI G k
def fstI (G : Nat → Bool) : Nat → Int
  | 0 => -1
  | k + 1 => if G k = true ∧ fstI G k < 0 then (k : Int) else fstI G k
theorem cntI_le (G : Nat → Bool) : ∀ k, cntI G k ≤ k
  | 0 => Nat.le_refl _
  | k + 1 => by have := cntI_le G k; simp only [cntI]; split <;> omega
theorem fstI_bd (G : Nat → Bool) : ∀ k, -1 ≤ fstI G k ∧ fstI G k < k ∨ (k = 0 ∧ fstI G k = -1)
  | 0 => .inr ⟨rfl, rfl⟩
  | k + 1 => by have := fstI_bd G k; simp only [fstI]; split <;> omega
theorem cntI_range (G : Nat → Bool) : ∀ n, (List.range n).countP G = cntI G n
  | 0 => rfl
  | n + 1 => by
    rw [List.range_succ, List.countP_append, cntI_range G n]
    simp only [List.countP_cons, List.countP_nil, cntI]
    split <;> simp_all
theorem none_c (G : Nat → Bool) : ∀ n, (∀ i, i < n → G i = false) → cntI G n = 0 ∧ fstI G n = -1
  | 0, _ => ⟨rfl, rfl⟩
  | n + 1, h => by
    have := none_c G n (fun i hi => h i (by omega))
    simp [cntI, fstI, h n (by omega), this]
theorem some_c (G : Nat → Bool) (c : Nat) (hc : G c = true) (hl : ∀ i, i < c → G i = false) : ∀ n, c < n → 0 < cntI G n ∧ fstI G n = c
  | 0, h => by omega
  | n + 1, h => by
    by_cases e : c = n
    · subst e
      have := none_c G c hl
      simp [cntI, fstI, hc, this]
    · have := some_c G c hc hl n (by omega)
      simp only [cntI, fstI, this.2]
      refine ⟨by split <;> omega, ?_⟩
      rw [if_neg (by omega)]
set_option maxRecDepth 100000 in
set_option maxHeartbeats 8000000 in
theorem rightT_walk {W : World} {B g nb kb ib cap : Nat} {A : St} {K T : Tri → Option Value} (h : ArenaAt W B g nb kb ib cap A K T) (hW : B ≤ W.heap.size) (f n N : Nat) (G : Nat → Bool) (hf : f < A.ns.length) (h8 : A.vars ≤ 8) (hn : 2 ^ A.vars = n) (ht : TabAt W N n n G) (hG : Hid (∀ i, i < n → den A.ns f (asgV A.vars i) = G i)) :
    Calls Try.prog 27 #[.pointer (some ⟨g, 0, none⟩), .int .i64 (A.vars : Int), .int .i64 (f : Int), .slice (some ⟨N, 0, none⟩) n n] W fun e W' => e = .returned (.bool true) ∧ Below W.heap.size W W' := by
  have hn256 : n ≤ 256 := by rw [← hn]; exact pow8 h8
  have hlen := h.lenle
  have HE := hide (fun (w : World) (hb : Below W.heap.size W w) (k : Nat) (hk : k < n) => show Calls Try.prog 100 #[.pointer (some ⟨g, 0, none⟩), .int .i64 f, .int .i64 k] w fun e w' => e = .returned (.tuple #[.bool (G k), .int .i64 0]) ∧ Below w.heap.size w w' from by
    have := eval_walk (h.below hb) f k hf (by rw [hn]; exact hk)
    rw [show (den A.ns f fun u => k.testBit (A.vars - 1 - u)) = G k from hG.out k hk] at this
    exact this)
  have HCnt := hide (fun (w : World) (hb : Below W.heap.size W w) => show Calls Try.prog 101 #[.pointer (some ⟨g, 0, none⟩), .int .i64 f] w fun e w' => e = .returned (.tuple #[.int .i64 (cntI G n : Nat), .int .i64 0]) ∧ Below w.heap.size w w' from by
    have := opCount_walk (h.below hb) f hf
    rw [show cntF A.vars A.vars (den A.ns f) = cntI G n from by
      rw [cntF, hn, ← cntI_range]
      exact List.countP_congr (fun i hi => by rw [hG.out i (List.mem_range.1 hi)])] at this
    exact this)
  have HOne := hide (fun (w : World) (hb : Below W.heap.size W w) => show Calls Try.prog 102 #[.pointer (some ⟨g, 0, none⟩), .int .i64 f] w fun e w' => ((e = .returned (.tuple #[.int .i64 0, .bool false, .int .i64 0]) ∧ cntI G n = 0 ∧ fstI G n = -1) ∨ ∃ c : Nat, e = .returned (.tuple #[.int .i64 (c : Int), .bool true, .int .i64 0]) ∧ 0 < cntI G n ∧ fstI G n = c) ∧ Below w.heap.size w w' from by
    refine (one_walk (h.below hb) f hf).mono ?_
    rintro e w' ⟨hb', hq⟩
    refine ⟨?_, hb'⟩
    rcases hq with ⟨rfl, rfl⟩ | ⟨c, _, rfl, hc, hd, hl⟩
    · refine .inl ⟨rfl, none_c G n (fun i hi => ?_)⟩
      rw [← hG.out i hi, den_zero]
    · rw [hn] at hc
      refine .inr ⟨c, rfl, some_c G c ?_ (fun i hi => ?_) n hc⟩
      · rw [← hG.out c hc]; exact hd
      · rw [← hG.out i (by omega)]; exact hl i hi)
  have HEB := hide (fun (w : World) (hb : Below W.heap.size W w) => eval_bad (h.below hb) f n hf hn h8)
  have HSz := hide (fun (w : World) (hb : Below W.heap.size W w) => opSize_walk (h.below hb))
  have HT := hide (fun (w : World) (hb : Below W.heap.size W w) => ht.below hb)
  have hw := wrap_two A.vars n h8 hn
  have hv0 : (0 : Int) ≤ (A.vars : Int) := by omega
  clear h hG ht hn
  obtain ⟨L, hL⟩ : ∃ L, A.ns.length = L := ⟨_, rfl⟩
  rw [hL] at HSz hlen hf
  obtain ⟨V, hV⟩ : ∃ V, A.vars = V := ⟨_, rfl⟩
  rw [hV] at hw hv0 h8 ⊢
  clear hL hV
  go_enter Try.func27, Try.ntmps27
  go_wp2
  go_loopw [9, 10, 24] (fun u v i wr => ∃ k : Nat, k ≤ n ∧ i = .int .i64 (k : Int) ∧ u = .int .i64 (cntI G k : Nat) ∧ v = .int .i64 (fstI G k) ∧ Hid (Below W.heap.size W wr)) (fun _ _ i _ => n - (intOf i).toNat)
  case atStart => exact ⟨0, Nat.zero_le _, rfl, rfl, rfl, hide (Below.refl _ _)⟩
  case round =>
    obtain ⟨k, hk, rfl, rfl, rfl, HB⟩ := hrel
    by_cases hlt : k < n
    case neg =>
      obtain rfl : k = n := by omega
      have HC1 := hide (HCnt.out wr HB.out)
      clear hlt HE HT
      go_wp2_with fail
      refine HC1.out.mono ?_
      clear HC1
      rintro e w2 ⟨rfl, hb⟩
      have HB2 := hide (HB.out.trans (hb.mono HB.out.size))
      have HC1 := hide (HOne.out w2 HB2.out)
      clear hb HB
      go_wp2_with fail
      refine HC1.out.mono ?_
      clear HC1
      rintro e w3 ⟨hq, hb⟩
      have HB3 := hide (HB2.out.trans (hb.mono HB2.out.size))
      have HC1 := hide (HEB.out w3 HB3.out)
      clear hb HB2
      obtain ⟨cn, hcn⟩ : ∃ x, cntI G k = x := ⟨_, rfl⟩
      obtain ⟨fi, hfi⟩ : ∃ x, fstI G k = x := ⟨_, rfl⟩
      rw [hcn, hfi] at hq
      rw [hcn, hfi]
      clear hcn hfi
      rcases hq with ⟨rfl, rfl, rfl⟩ | ⟨c, rfl, hc, rfl⟩
      · go_wp2_with fail
        refine HC1.out.mono ?_
        clear HC1
        rintro e w4 ⟨rfl, hb⟩
        have HB4 := hide (HB3.out.trans (hb.mono HB3.out.size))
        have HC1 := hide (HSz.out w4 HB4.out)
        clear hb HB3
        go_wp2_with fail
        refine HC1.out.mono ?_
        clear HC1
        rintro e w5 ⟨rfl, rfl⟩
        go_wp2
        go_ret
        exact ⟨ret_bool (by simp <;> omega), HB4.out⟩
      · go_wp2_with fail
        refine HC1.out.mono ?_
        clear HC1
        rintro e w4 ⟨rfl, hb⟩
        have HB4 := hide (HB3.out.trans (hb.mono HB3.out.size))
        have HC1 := hide (HSz.out w4 HB4.out)
        have hc1 : (0 : Int) < (cn : Int) := by omega
        clear hb HB3
        go_wp2_with fail
        refine HC1.out.mono ?_
        clear HC1
        rintro e w5 ⟨rfl, rfl⟩
        go_wp2
        go_ret
        exact ⟨ret_bool (by simp <;> omega), HB4.out⟩
    have hg : G k = true ∨ G k = false := by cases G k <;> simp
    have hc0 := (HT.out wr HB.out).get hlt
    have HC1 := hide (HE.out wr HB.out k hlt)
    have hcl := cntI_le G k
    have hs1 : cntI G (k + 1) = if G k then cntI G k + 1 else cntI G k := rfl
    have hs2 : fstI G (k + 1) = if G k = true ∧ fstI G k < 0 then (k : Int) else fstI G k := rfl
    have hfb := fstI_bd G k
    rcases hg with hg | hg
    · rw [hg] at hc0 HC1 hs1 hs2
      simp only [if_true, true_and] at hs1 hs2
      clear hg
      go_wp2_with fail
      refine HC1.out.mono ?_
      clear HC1
      rintro e w2 ⟨rfl, hb⟩
      have HB2 := hide (HB.out.trans (hb.mono HB.out.size))
      clear hb HB hc0
      by_cases hneg : fstI G k < 0
      · rw [if_pos hneg] at hs2
        go_wp2
        go_roundw
        case rel => exact ⟨k + 1, by omega, by go_num, by rw [hs1]; go_num, by rw [hs2], HB2⟩
        case measure => simp [intOf]; omega
      · rw [if_neg hneg] at hs2
        have hneg' : decide (fstI G k < 0) = false := by simpa using hneg
        go_wp2
        go_roundw
        case rel => exact ⟨k + 1, by omega, by go_num, by rw [hs1]; go_num, by rw [hs2], HB2⟩
        case measure => simp [intOf]; omega
    · rw [hg] at hc0 HC1 hs1 hs2
      simp only [if_false, false_and, Bool.false_eq_true] at hs1 hs2
      clear hg
      go_wp2_with fail
      refine HC1.out.mono ?_
      clear HC1
      rintro e w2 ⟨rfl, hb⟩
      have HB2 := hide (HB.out.trans (hb.mono HB.out.size))
      clear hb HB hc0
      go_wp2
      go_roundw
      case rel => exact ⟨k + 1, by omega, by go_num, by rw [hs1], by rw [hs2], HB2⟩
      case measure => simp [intOf]; omega
end Go.Proofs.Ythaiffjalgionaa

set_option linter.unusedVariables false
set_option linter.unusedSimpArgs false
namespace Go.Proofs.Ythaiffjalgionaa
open Go.RowKit Go.Maps Bdd

theorem clr_bit (c k t : Nat) (hk : k < 64) (ht : t < 64) : (clrN c (2 ^ k)).testBit t = (c.testBit t && decide (k ≠ t)) := by
  have hp : 2 ^ k < 2 ^ 64 := Nat.pow_lt_pow_right (by omega) hk
  rw [clrN, Nat.testBit_and, show 2 ^ 64 - 1 - 2 ^ k = 2 ^ 64 - (2 ^ k + 1) from by omega, Nat.testBit_two_pow_sub_succ hp, Nat.testBit_two_pow]
  simp [ht]
theorem set_bit (c k t : Nat) : (c ||| 2 ^ k).testBit t = (c.testBit t || decide (k = t)) := by rw [Nat.testBit_or, Nat.testBit_two_pow]
theorem swp_bit (c i j t : Nat) (hi : i < 64) (hj : j < 64) (ht : t < 64) : (swpN c i j (2 ^ i) (2 ^ j)).testBit t = if t = i then c.testBit j else if t = j then c.testBit i else c.testBit t := by
  unfold swpN
  have e1 := clr_bit c i t hi ht
  have e2 := clr_bit (clrN c (2 ^ i)) j t hj ht
  rw [e1] at e2
  have e3 := set_bit (clrN (clrN c (2 ^ i)) (2 ^ j)) j t
  have e4 := set_bit (clrN (clrN c (2 ^ i)) (2 ^ j)) i t
  have e5 := set_bit (clrN (clrN c (2 ^ i)) (2 ^ j) ||| 2 ^ j) i t
  rw [e3] at e5
  rw [e2] at e3 e4 e5
  by_cases h1 : t = i
  · subst h1
    by_cases h2 : t = j
    · subst h2
      cases h : c.testBit t <;> simp_all
    · have h2' : ¬ j = t := fun e => h2 e.symm
      cases h : c.testBit j <;> cases h' : c.testBit t <;> simp_all
  · have h1' : ¬ i = t := fun e => h1 e.symm
    by_cases h2 : t = j
    · subst h2
      cases h : c.testBit t <;> cases h' : c.testBit i <;> simp_all
    · have h2' : ¬ j = t := fun e => h2 e.symm
      cases h : c.testBit j <;> cases h' : c.testBit i <;> simp_all
theorem swp_lt {c i j v : Nat} (hc : c < 2 ^ v) (hi : i < v) (hj : j < v) : swpN c i j (2 ^ i) (2 ^ j) < 2 ^ v := by
  have hp : clrN (clrN c (2 ^ i)) (2 ^ j) < 2 ^ v := Nat.lt_of_le_of_lt (Nat.le_trans (clrN_le _ _) (clrN_le _ _)) hc
  have m1 : 2 ^ i < 2 ^ v := Nat.pow_lt_pow_right (by omega) hi
  have m2 : 2 ^ j < 2 ^ v := Nat.pow_lt_pow_right (by omega) hj
  unfold swpN
  split <;> split
  · exact Nat.or_lt_two_pow (Nat.or_lt_two_pow hp m2) m1
  · exact Nat.or_lt_two_pow hp m1
  · exact Nat.or_lt_two_pow hp m2
  · exact hp
def opF (x : OpV) (Fa Fb Fc : Bdd.Fn) : Bdd.Fn :=
  if x.k = 0 then (fun y => y x.a.toNat) else if x.k = 1 then notF Fa else if x.k = 2 then andF Fa Fb else if x.k = 3 then orF Fa Fb else if x.k = 4 then iteF Fa Fb Fc
  else if x.k = 5 then existsF Fa x.b.toNat else swapF Fa x.b.toNat x.c.toNat
theorem toldF_op {vars : Nat} (h8 : vars ≤ 8) {a b c : SeenV} {x : OpV} {G : Nat → Bool} {Fa Fb Fc : Bdd.Fn} (hB : Bdd.Below vars Fa) (ha : ∀ i, i < 2 ^ vars → Fa (asgV vars i) = a.F i) (hb : ∀ i, i < 2 ^ vars → Fb (asgV vars i) = b.F i) (hc : ∀ i, i < 2 ^ vars → Fc (asgV vars i) = c.F i) (hT : toldF vars a b c x = some G) :
    ∀ i, i < 2 ^ vars → opF x Fa Fb Fc (asgV vars i) = G i := by
  intro i hi
  unfold toldF at hT
  unfold opF
  by_cases k0 : x.k = 0
  · rw [if_pos k0] at hT ⊢
    split at hT
    · cases hT; rfl
    · cases hT
  rw [if_neg k0] at hT ⊢
  by_cases k1 : x.k = 1
  · rw [if_pos k1] at hT ⊢
    cases hT
    simp only [notF, iteF, ha i hi]
    cases a.F i <;> rfl
  rw [if_neg k1] at hT ⊢
  by_cases k2 : x.k = 2
  · rw [if_pos k2] at hT ⊢
    cases hT
    simp only [andF, iteF, ha i hi, hb i hi]
    cases a.F i <;> simp
  rw [if_neg k2] at hT ⊢
  by_cases k3 : x.k = 3
  · rw [if_pos k3] at hT ⊢
    cases hT
    simp only [orF, iteF, ha i hi, hb i hi]
    cases a.F i <;> simp
  rw [if_neg k3] at hT ⊢
  by_cases k4 : x.k = 4
  · rw [if_pos k4] at hT ⊢
    cases hT
    simp only [iteF, ha i hi, hb i hi, hc i hi]
    cases a.F i <;> simp
  rw [if_neg k4] at hT ⊢
  by_cases k5 : x.k = 5
  · rw [if_pos k5] at hT ⊢
    split at hT
    case isFalse => cases hT
    rename_i hr
    cases hT
    obtain ⟨j, hj⟩ : ∃ j : Nat, x.b.toNat = j := ⟨_, rfl⟩
    rw [hj]
    have hjv : j < vars := by omega
    have e1 : Fa (upd (asgV vars i) j false) = a.F (clrN i (2 ^ (vars - 1 - j))) := by
      rw [← ha _ (Nat.lt_of_le_of_lt (clrN_le _ _) hi)]
      refine hB _ _ (fun u hu => ?_)
      show _ = (clrN i (2 ^ (vars - 1 - j))).testBit (vars - 1 - u)
      rw [clr_bit _ _ _ (by omega) (by omega)]
      by_cases e : u = j
      · subst e; simp [upd]
      · have : vars - 1 - j ≠ vars - 1 - u := by omega
        simp [upd, e, this, asgV]
    have e2 : Fa (upd (asgV vars i) j true) = a.F (i ||| 2 ^ (vars - 1 - j)) := by
      rw [← ha _ (Nat.or_lt_two_pow hi (Nat.pow_lt_pow_right (by omega) (by omega)))]
      refine hB _ _ (fun u hu => ?_)
      show _ = (i ||| 2 ^ (vars - 1 - j)).testBit (vars - 1 - u)
      rw [set_bit]
      by_cases e : u = j
      · subst e; simp [upd]
      · have : ¬ vars - 1 - j = vars - 1 - u := by omega
        simp [upd, e, this, asgV]
    simp only [existsF, iteF, restr, e1, e2]
    cases a.F (clrN i (2 ^ (vars - 1 - j))) <;> simp
  rw [if_neg k5] at hT ⊢
  split at hT
  case isFalse => cases hT
  rename_i hr
  cases hT
  obtain ⟨j, hj⟩ : ∃ j : Nat, x.b.toNat = j := ⟨_, rfl⟩
  obtain ⟨m, hm⟩ : ∃ j : Nat, x.c.toNat = j := ⟨_, rfl⟩
  rw [hj, hm]
  have hjv : j < vars := by omega
  have hmv : m < vars := by omega
  simp only [swapF]
  rw [← ha _ (swp_lt hi (by omega) (by omega))]
  refine hB _ _ (fun u hu => ?_)
  show _ = (swpN i (vars - 1 - j) (vars - 1 - m) (2 ^ (vars - 1 - j)) (2 ^ (vars - 1 - m))).testBit (vars - 1 - u)
  rw [swp_bit _ _ _ _ (by omega) (by omega) (by omega)]
  by_cases e1 : u = j
  · subst e1; simp [upd, asgV]
  · have n1 : ¬ vars - 1 - u = vars - 1 - j := by omega
    by_cases e2 : u = m
    · subst e2; simp [upd, asgV, e1, n1]
    · have n2 : ¬ vars - 1 - u = vars - 1 - m := by omega
      simp [upd, asgV, e1, e2, n1, n2]
def eqTab (n : Nat) (F G : Nat → Bool) : Bool := (List.range n).all (fun i => F i == G i)
theorem eqTab_iff {n : Nat} {F G : Nat → Bool} : eqTab n F G = true ↔ ∀ i, i < n → F i = G i := by simp [eqTab]
def TabOk (A : St) (n : Nat) (s : SeenV) : Prop := s.id < A.ns.length ∧ ∀ i, i < n → den A.ns s.id (asgV A.vars i) = s.F i
theorem TabOk.ext {A A2 : St} {n : Nat} {s : SeenV} (h : TabOk A n s) (hi : Inv A) (he : Ext A A2) : TabOk A2 n s :=
  ⟨Nat.lt_of_lt_of_le h.1 he.len, fun i hn => by rw [he.den hi h.1, he.vars]; exact h.2 i hn⟩
theorem same_id {A : St} {n : Nat} {s r : SeenV} (hi : Inv A) (hn : 2 ^ A.vars = n) (h1 : TabOk A n s) (h2 : TabOk A n r) : decide (s.id = r.id) = eqTab n s.F r.F := by
  rw [Bool.eq_iff_iff, decide_eq_true_eq, eqTab_iff]
  constructor
  · intro e i hlt
    rw [← h1.2 i hlt, ← h2.2 i hlt, e]
  · intro h
    refine (canon hi.ok h1.1 h2.1).1 ?_
    funext x
    have b1 := den_below hi.ok _ h1.1
    have b2 := den_below hi.ok _ h2.1
    have hc := codeN_lt x A.vars
    have e1 := b1 x (asgV A.vars (codeN x A.vars)) (fun u hu => (codeN_bit x A.vars u hu).symm)
    have e2 := b2 x (asgV A.vars (codeN x A.vars)) (fun u hu => (codeN_bit x A.vars u hu).symm)
    rw [hn] at hc
    rw [e1, e2, h1.2 _ hc, h2.2 _ hc, h _ hc]
set_option maxRecDepth 100000 in
theorem equalTab_walk (n N1 N2 : Nat) (F G : Nat → Bool) (W : World) (hn : n ≤ 256) (h1 : TabAt W N1 n n F) (h2 : TabAt W N2 n n G) :
    Calls Try.prog 28 #[.slice (some ⟨N1, 0, none⟩) n n, .slice (some ⟨N2, 0, none⟩) n n] W fun e W' => e = .returned (.bool (eqTab n F G)) ∧ RowKit.Below W.heap.size W W' := by
  have H1 := hide h1
  have H2 := hide h2
  clear h1 h2
  go_enter Try.func28, Try.ntmps28
  go_wp2
  go_loopw [13] (fun i wr => ∃ k : Nat, k ≤ n ∧ i = .int .i64 k ∧ Hid (RowKit.Below W.heap.size W wr) ∧ Hid (∀ j, j < k → F j = G j)) (fun i _ => n - (intOf i).toNat)
  case atStart => exact ⟨0, Nat.zero_le _, rfl, hide (RowKit.Below.refl _ _), hide (fun j h => by omega)⟩
  case round =>
    obtain ⟨k, hk, rfl, HB, HQ⟩ := hrel
    by_cases hlt : k < n
    · have q0 := (H1.out.below HB.out).get hlt
      have u0 := (H2.out.below HB.out).get hlt
      have HF := hide (show F k ≠ G k → eqTab n F G = false from fun hne => by
        rw [Bool.eq_false_iff, ne_eq, eqTab_iff]
        exact fun h => hne (h k hlt))
      have HQ2 := hide (show F k = G k → ∀ j, j < k + 1 → F j = G j from fun he j hj => by
        rcases (by omega : j < k ∨ j = k) with h | rfl
        · exact HQ.out j h
        · exact he)
      clear HQ
      obtain ⟨fv, hfv⟩ : ∃ v, F k = v := ⟨_, rfl⟩
      obtain ⟨gv, hgv⟩ : ∃ v, G k = v := ⟨_, rfl⟩
      rw [hfv] at q0
      rw [hgv] at u0
      rw [hfv, hgv] at HF HQ2
      clear hfv hgv
      cases fv <;> cases gv
      · go_wp2
        go_quiet (fail)
        go_wp2
        go_roundw
        case rel => exact ⟨k + 1, by omega, by go_num, hide (HB.out.trans (below_drew _ _ _)), hide (HQ2.out (by simp))⟩
        case measure => simp [intOf]; omega
      · go_wp2
        go_quiet (fail)
        go_wp2
        go_ret
        exact ⟨ret_bool (HF.out (by simp)).symm, HB.out.trans (below_drew _ _ _)⟩
      · go_wp2
        go_quiet (fail)
        go_wp2
        go_ret
        exact ⟨ret_bool (HF.out (by simp)).symm, HB.out.trans (below_drew _ _ _)⟩
      · go_wp2
        go_quiet (fail)
        go_wp2
        go_roundw
        case rel => exact ⟨k + 1, by omega, by go_num, hide (HB.out.trans (below_drew _ _ _)), hide (HQ2.out (by simp))⟩
        case measure => simp [intOf]; omega
    · have HE := hide (show eqTab n F G = true from eqTab_iff.2 (fun j hj => HQ.out j (by omega)))
      go_wp2
      go_ret
      exact ⟨ret_bool HE.out.symm, HB.out⟩
end Go.Proofs.Ythaiffjalgionaa

set_option linter.unusedVariables false
set_option linter.unusedSimpArgs false
namespace Go.Proofs.Ythaiffjalgionaa
open Go.RowKit Go.Maps Bdd Bq

theorem OpQ.pre {w w1 : World} {B g nb kb ib : Nat} {A : St} {F : Bdd.Fn} {c c' : Nat} {e : Ending} {W' : World} (hb : RowKit.Below w.heap.size w w1) (hc : c ≤ c') (h : OpQ w1 B g nb kb ib A F c e W') : OpQ w B g nb kb ib A F c' e W' := by
  obtain ⟨r, nb2, cap2, A2, K2, T2, hm, h1⟩ := h
  exact ⟨r, nb2, cap2, A2, K2, T2, (hm.base hb).more hc, h1⟩
theorem OpQ.form {w : World} {B g nb kb ib : Nat} {A : St} {F : Bdd.Fn} {c : Nat} {e : Ending} {W' : World} (h : OpQ w B g nb kb ib A F c e W') : ∃ r q : Int, e = .returned (.tuple #[.int .i64 r, .int .i64 q]) := by
  obtain ⟨_, _, _, _, _, _, _, ⟨r, rfl, _⟩ | ⟨rfl, _⟩⟩ := h.cases
  · exact ⟨_, _, rfl⟩
  · exact ⟨_, _, rfl⟩
theorem BadP.form {w : World} {e : Ending} {W' : World} (h : BadP w e W') : ∃ r q : Int, e = .returned (.tuple #[.int .i64 r, .int .i64 q]) := ⟨_, _, h.1⟩
theorem BadP.pre {w w1 : World} {e : Ending} {W' : World} (hb : RowKit.Below w.heap.size w w1) (h : BadP w1 e W') : BadP w e W' := ⟨h.1, hb.trans (h.2.mono hb.size)⟩
def OpV.val (x : OpV) : Value := .agg #[.int .i64 x.k, .int .i64 x.a, .int .i64 x.b, .int .i64 x.c]
def askedK (v : Nat) : Nat := 11 * 2 ^ v
theorem askedK1 (v : Nat) : 2 ^ v ≤ askedK v := by unfold askedK; omega
theorem askedK3 (v : Nat) : 3 * 2 ^ v ≤ askedK v := by unfold askedK; omega
set_option maxRecDepth 100000 in
set_option maxHeartbeats 4000000 in
theorem asked_ok {W : World} {B g nb kb ib cap : Nat} {A : St} {K T : Tri → Option Value} (h : ArenaAt W B g nb kb ib cap A K T) (hA : A.full = false) {vars : Nat} (hv : A.vars = vars) (x : OpV) (hx : x.ok) (hk : 0 ≤ x.k ∧ x.k ≤ 6) {a b c : SeenV} {Fa Fb Fc : Bdd.Fn} (ha : IsF A a.id Fa) (hb : IsF A b.id Fb) (hc : IsF A c.id Fc) {iv : Value} (hI : IdsAt W iv (toldI a b c x)) {G : Nat → Bool} (hT : toldF vars a b c x = some G) :
    Calls Try.prog 26 #[.pointer (some ⟨g, 0, none⟩), iv, x.val] W (OpQ W B g nb kb ib A (opF x Fa Fb Fc) (askedK A.vars)) := by
  obtain ⟨k, xa, xb, xc⟩ := x
  simp only at hk
  unfold toldI at hI
  unfold toldF at hT
  unfold opF OpV.val
  simp only at hI hT ⊢
  have h7 : k = 0 ∨ k = 1 ∨ k = 2 ∨ k = 3 ∨ k = 4 ∨ k = 5 ∨ k = 6 := by omega
  rcases h7 with rfl | rfl | rfl | rfl | rfl | rfl | rfl
  · skip
    have hr : 0 ≤ xa ∧ xa < (vars : Int) := by
      by_cases hr : 0 ≤ xa ∧ xa < (vars : Int)
      · exact hr
      · simp [hr] at hT
    obtain ⟨i, rfl⟩ : ∃ i : Nat, xa = (i : Int) := ⟨xa.toNat, by omega⟩
    · exact (asked0 g  i xb xc (by simpa using hI) (fun w => OpQ w B g nb kb ib A (fun y => y i) (2 ^ A.vars)) (hide (fun w e w' hp => OpQ.form hp)) (hide (fun w1 hb1 => opVar_q (h.below hb1) hA i (by omega)))).mono (fun e w' hq => by
        obtain ⟨w1, hb1, hq⟩ := hq
        simpa using hq.pre hb1 (askedK1 _))
  · skip
    · exact (asked1 g a.id xa xb xc (by simpa using hI) (fun w => OpQ w B g nb kb ib A (notF Fa) (2 ^ A.vars)) (hide (fun w e w' hp => OpQ.form hp)) (hide (fun w1 hb1 => opNot_q (h.below hb1) hA ha (a := 0) (G := fun _ => false) trivial))).mono (fun e w' hq => by
        obtain ⟨w1, hb1, hq⟩ := hq
        simpa using hq.pre hb1 (askedK1 _))
  · skip
    · exact (asked2 g a.id b.id xa xb xc (by simpa using hI) (fun w => OpQ w B g nb kb ib A (andF Fa Fb) (2 ^ A.vars)) (hide (fun w e w' hp => OpQ.form hp)) (hide (fun w1 hb1 => opAnd_q (h.below hb1) hA ha hb))).mono (fun e w' hq => by
        obtain ⟨w1, hb1, hq⟩ := hq
        simpa using hq.pre hb1 (askedK1 _))
  · skip
    · exact (asked3 g a.id b.id xa xb xc (by simpa using hI) (fun w => OpQ w B g nb kb ib A (orF Fa Fb) (2 ^ A.vars)) (hide (fun w e w' hp => OpQ.form hp)) (hide (fun w1 hb1 => opOr_q (h.below hb1) hA ha hb))).mono (fun e w' hq => by
        obtain ⟨w1, hb1, hq⟩ := hq
        simpa using hq.pre hb1 (askedK1 _))
  · skip
    · exact (asked4 g a.id b.id c.id xa xb xc (by simpa using hI) (fun w => OpQ w B g nb kb ib A (iteF Fa Fb Fc) (2 ^ A.vars)) (hide (fun w e w' hp => OpQ.form hp)) (hide (fun w1 hb1 => opIte_q (h.below hb1) hA ha hb hc))).mono (fun e w' hq => by
        obtain ⟨w1, hb1, hq⟩ := hq
        simpa using hq.pre hb1 (askedK1 _))
  · skip
    have hr : 0 ≤ xb ∧ xb < (vars : Int) := by
      by_cases hr : 0 ≤ xb ∧ xb < (vars : Int)
      · exact hr
      · simp [hr] at hT
    obtain ⟨i, rfl⟩ : ∃ i : Nat, xb = (i : Int) := ⟨xb.toNat, by omega⟩
    · exact (asked5 g a.id xa i xc (by simpa using hI) (fun w => OpQ w B g nb kb ib A (existsF Fa i) (3 * 2 ^ A.vars)) (hide (fun w e w' hp => OpQ.form hp)) (hide (fun w1 hb1 => opExists_walk (h.below hb1) hA a.id i Fa ha (by omega)))).mono (fun e w' hq => by
        obtain ⟨w1, hb1, hq⟩ := hq
        simpa using hq.pre hb1 (askedK3 _))
  · have hr : (0 ≤ xb ∧ xb < (vars : Int)) ∧ (0 ≤ xc ∧ xc < (vars : Int)) := by
      by_cases hr : (0 ≤ xb ∧ xb < (vars : Int)) ∧ (0 ≤ xc ∧ xc < (vars : Int))
      · exact hr
      · simp [hr] at hT
    obtain ⟨i, rfl⟩ : ∃ i : Nat, xb = (i : Int) := ⟨xb.toNat, by omega⟩
    obtain ⟨j, rfl⟩ : ∃ i : Nat, xc = (i : Int) := ⟨xc.toNat, by omega⟩
    refine (asked6 g a.id xa i j (by simpa using hI) (fun w => OpQ w B g nb kb ib A (swapF Fa i j) (askedK A.vars)) (hide (fun w e w' hp => OpQ.form hp)) (hide (fun w1 hb1 => ?_))).mono (fun e w' hq => by
        obtain ⟨w1, hb1, hq⟩ := hq
        simpa using hq.pre hb1 (Nat.le_refl _))
    by_cases hij : i = j
    · exact opSwap_same (h.below hb1) hA a.id i j Fa ha (by omega) (by omega) hij _
    · exact opSwap_diff (h.below hb1) hA a.id i j Fa ha (by omega) (by omega) hij
set_option maxRecDepth 100000 in
set_option maxHeartbeats 4000000 in
theorem asked_none {W : World} {B g nb kb ib cap : Nat} {A : St} {K T : Tri → Option Value} (h : ArenaAt W B g nb kb ib cap A K T) {vars : Nat} (hv : A.vars = vars) (x : OpV) (hx : x.ok) (hk : 0 ≤ x.k ∧ x.k ≤ 6) {a b c : SeenV} (ha : a.id < A.ns.length) {iv : Value} (hI : IdsAt W iv (toldI a b c x)) (hT : toldF vars a b c x = none) :
    Calls Try.prog 26 #[.pointer (some ⟨g, 0, none⟩), iv, x.val] W (BadP W) := by
  have hlen := h.lenle
  obtain ⟨k, xa, xb, xc⟩ := x
  obtain ⟨hxk, hxa, hxb, hxc⟩ := hx
  simp only at hk hxa hxb hxc
  unfold toldI at hI
  unfold toldF at hT
  unfold OpV.val
  simp only at hI hT ⊢
  have h7 : k = 0 ∨ k = 1 ∨ k = 2 ∨ k = 3 ∨ k = 4 ∨ k = 5 ∨ k = 6 := by omega
  rcases h7 with rfl | rfl | rfl | rfl | rfl | rfl | rfl
  · have hr : ¬ (0 ≤ xa ∧ xa < (vars : Int)) := fun hr => by simp [hr] at hT
    refine (asked0 g xa xb xc (by simpa using hI) BadP (hide (fun w e w' hp => BadP.form hp)) (hide (fun w1 hb1 => ?_))).mono (fun e w' hq => by
        obtain ⟨w1, hb1, hq⟩ := hq
        exact hq.pre hb1)
    exact var_bad (h.below hb1) xa hxa (by rw [hv]; exact hr)
  · simp at hT
  · simp at hT
  · simp at hT
  · simp at hT
  · have hr : ¬ (0 ≤ xb ∧ xb < (vars : Int)) := fun hr => by simp [hr] at hT
    refine (asked5 g a.id xa xb xc (by simpa using hI) BadP (hide (fun w e w' hp => BadP.form hp)) (hide (fun w1 hb1 => ?_))).mono (fun e w' hq => by
        obtain ⟨w1, hb1, hq⟩ := hq
        exact hq.pre hb1)
    refine exists_bad (h.below hb1) a.id xb (by unfold i64ok; omega) (fun x hx => by
      simp only [List.mem_cons, List.mem_nil_iff, or_false] at hx
      rw [hx]; exact hxb) (fun hok => hr ?_)
    have := hok.2 xb (by simp)
    rw [hv] at this
    exact this
  · have hr : ¬ ((0 ≤ xb ∧ xb < (vars : Int)) ∧ (0 ≤ xc ∧ xc < (vars : Int))) := fun hr => by simp [hr] at hT
    refine (asked6 g a.id xa xb xc (by simpa using hI) BadP (hide (fun w e w' hp => BadP.form hp)) (hide (fun w1 hb1 => ?_))).mono (fun e w' hq => by
        obtain ⟨w1, hb1, hq⟩ := hq
        exact hq.pre hb1)
    refine swap_bad (h.below hb1) a.id xb xc (by unfold i64ok; omega) (fun x hx => by
      simp only [List.mem_cons, List.mem_nil_iff, or_false] at hx
      rcases hx with rfl | rfl <;> assumption) (fun hok => hr ?_)
    have h1 := hok.2 xb (by simp)
    have h2 := hok.2 xc (by simp)
    rw [hv] at h1 h2
    exact ⟨h1, h2⟩

structure KAt (w : World) (B g nb kb ib vars most n N c : Nat) (A : St) (l : List SeenV) : Prop where
  ar : ∃ cap K T, ArenaAt w B g nb kb ib cap A K T
  nf : A.full = false
  v : A.vars = vars
  m : A.most = most
  own : w.ownsRow B 59 2 (.slice (some ⟨N, 0, none⟩) l.length c) l.length (l.flatMap (SeenV.cells n))
  off : ¬ Fp g nb kb ib N
  tab : ∀ s ∈ l, TabAt w s.N n n s.F ∧ ¬ Fp g nb kb ib s.N ∧ s.N ≠ N ∧ TabOk A n s
section
variable {w w' : World} {B g nb kb ib vars most n N c : Nat} {A : St} {l : List SeenV}
theorem KAt.below (h : KAt w B g nb kb ib vars most n N c A l) (hb : RowKit.Below w.heap.size w w') : KAt w' B g nb kb ib vars most n N c A l := by
  obtain ⟨cap, K, T, ha⟩ := h.ar
  exact ⟨⟨cap, K, T, ha.below hb⟩, h.nf, h.v, h.m, own_below h.own hb, h.off, fun s hs => ⟨(h.tab s hs).1.below hb, (h.tab s hs).2⟩⟩
theorem KAt.lt (h : KAt w B g nb kb ib vars most n N c A l) : N < w.heap.size ∧ B ≤ N := by
  have := h.own.lt N rfl
  exact ⟨this.2, this.1⟩
theorem KAt.inv (h : KAt w B g nb kb ib vars most n N c A l) : Inv A := by
  obtain ⟨cap, K, T, ha⟩ := h.ar
  exact ha.inv
theorem KAt.sl (h : KAt w B g nb kb ib vars most n N c A l) : SlAt (SeenV.cells n) 2 w w.heap.size (some ⟨N, 0, none⟩) l.length l := by
  obtain ⟨A', c', e', _, h', _⟩ := SlAt.of_own (SeenV.len n) h.own rfl
  cases e'
  exact h'
theorem TabAt.frm {S : Nat → Prop} {w w' : World} {N n k : Nat} {F : Nat → Bool} (h : TabAt w N n k F) (hf : Frm S w w') (hN : ¬ S N) : TabAt w' N n k F :=
  ⟨fun j hj => (World.cell?_of_block (a := ⟨N, j, none⟩) (hf.block N h.lt hN)).trans (h.c j hj), fun o => (World.frozen?_of_block (a := ⟨N, o, none⟩) (hf.block N h.lt hN)).trans (h.fz o), Nat.lt_of_lt_of_le h.lt hf.size⟩
theorem fp_new {g nb kb ib nb2 s k : Nat} (hn : nb2 = nb ∨ s ≤ nb2) (hk : k < s) (h : ¬ Fp g nb kb ib k) : ¬ Fp g nb2 kb ib k := fun e => by
  rcases e with e | e | e | e
  · exact h (.inl e)
  · rcases hn with h2 | h2
    · exact h (.inr (.inl (e.trans h2)))
    · omega
  · exact h (.inr (.inr (.inl e)))
  · exact h (.inr (.inr (.inr e)))
theorem KAt.asked (h : KAt w B g nb kb ib vars most n N c A l) {k nb2 cap2 : Nat} {A2 : St} {K2 T2 : Tri → Option Value} (hm : MS w B g nb kb ib A k w' nb2 cap2 A2 K2 T2) (hf : A2.full = false) : KAt w' B g nb2 kb ib vars most n N c A2 l := by
  refine ⟨⟨_, _, _, hm.ar⟩, hf, hm.ext.vars.trans h.v, hm.ext.most.trans h.m, own_same h.own (fun q hq => ?_), fp_new hm.nbc h.lt.1 h.off, fun s hs => ?_⟩
  · cases hq
    exact hm.fm.block N h.lt.1 h.off
  · obtain ⟨t1, t2, t3, t4⟩ := h.tab s hs
    exact ⟨t1.frm hm.fm t2, fp_new hm.nbc t1.lt t2, t3, t4.ext h.inv hm.ext⟩
theorem KAt.add (h : KAt w B g nb kb ib vars most n N c A l) {s : SeenV} (ht : TabAt w s.N n n s.F) (ho : ¬ Fp g nb kb ib s.N) (hne : s.N ≠ N) (hok : TabOk A n s) {N2 c2 : Nat} (hown : w'.ownsRow B 59 2 (.slice (some ⟨N2, 0, none⟩) (l.length + 1) c2) (l.length + 1) (l.flatMap (SeenV.cells n) ++ s.cells n)) (hg : w.grownBy w' (some N)) (hat : N2 = N ∨ N2 = w.heap.size) :
    KAt w' B g nb kb ib vars most n N2 c2 A (l ++ [s]) := by
  obtain ⟨cap, K, T, ha⟩ := h.ar
  obtain ⟨l1, l2, l3, l4, _⟩ := ha.lts
  have blk : ∀ k, k < w.heap.size → k ≠ N → w'.heap[k]? = w.heap[k]? := fun k hk hn => hg.block k hk (fun e => hn (by cases e; rfl))
  have hx : ∀ k, Fp g nb kb ib k → k ≠ N := fun k hk e => h.off (e ▸ hk)
  refine ⟨⟨cap, K, T, ha.keep (blk g l1 (hx g (.inl rfl))) (blk nb l2 (hx nb (.inr (.inl rfl)))) (blk kb l3 (hx kb (.inr (.inr (.inl rfl))))) (blk ib l4 (hx ib (.inr (.inr (.inr rfl)))))⟩, h.nf, h.v, h.m, ?_, ?_, ?_⟩
  · have e1 : (l ++ [s]).flatMap (SeenV.cells n) = l.flatMap (SeenV.cells n) ++ s.cells n := by simp
    have e2 : (l ++ [s]).length = l.length + 1 := by simp
    rw [e1, e2]
    exact hown
  · rcases hat with e | e
    · rw [e]; exact h.off
    · rw [e]
      intro hF
      rcases hF with e | e | e | e <;> omega
  · intro r hr
    have one : TabAt w r.N n n r.F → ¬ Fp g nb kb ib r.N → r.N ≠ N → TabOk A n r → TabAt w' r.N n n r.F ∧ ¬ Fp g nb kb ib r.N ∧ r.N ≠ N2 ∧ TabOk A n r := fun t1 t2 t3 t4 => by
      have eb := blk r.N t1.lt t3
      refine ⟨⟨fun j hj => (World.cell?_of_block (a := ⟨r.N, j, none⟩) eb).trans (t1.c j hj), fun o => (World.frozen?_of_block (a := ⟨r.N, o, none⟩) eb).trans (t1.fz o), Nat.lt_of_lt_of_le t1.lt hg.size⟩, t2, ?_, t4⟩
      rcases hat with e | e
      · rw [e]; exact t3
      · have := t1.lt; omega
    rcases List.mem_append.1 hr with hr | hr
    · obtain ⟨t1, t2, t3, t4⟩ := h.tab r hr
      exact one t1 t2 t3 t4
    · obtain rfl := List.mem_singleton.1 hr
      exact one ht ho hne hok
end
end Go.Proofs.Ythaiffjalgionaa
