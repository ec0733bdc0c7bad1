/- The arena's calls where there is room, one behind the other; wirekeep.some, got. -/
import Derived.Test.YtoanimmlpfchjaaCountW
import Derived.Test.YtoanimmlpfchjaaFibLongest
set_option linter.unusedVariables false
set_option linter.unusedSimpArgs false
namespace Go.Proofs.Ytoanimmlpfchjaa
open Go.RowKit Go.Maps Bdd

def notF (F : Bdd.Fn) : Bdd.Fn := iteF F (fun _ => false) (fun _ => true)
def andF (F G : Bdd.Fn) : Bdd.Fn := iteF F G (fun _ => false)
def orF (F G : Bdd.Fn) : Bdd.Fn := iteF F (fun _ => true) G

theorem opIte_q {w : World} {B g nb kb ib cap : Nat} {A : St} {K T : Tri → Option Value} (h : ArenaAt w B g nb kb ib cap A K T) (hA : A.full = false) {f a b : Nat} {F G H : Bdd.Fn} (hf : IsF A f F) (ha : IsF A a G) (hb : IsF A b H) :
    Calls Try.prog 43 #[.pointer (some ⟨g, 0, none⟩), .int .i64 f, .int .i64 a, .int .i64 b] w (OpQ w B g nb kb ib A (iteF F G H) (2 ^ A.vars)) := by
  refine (opIte_walk h f a b hf.1 ha.1 hb.1).mono fun e w' ho => ?_
  have ok := h.inv.ok
  have hB := iteF_below (den_below ok _ hf.1) (den_below ok _ ha.1) (den_below ok _ hb.1)
  rw [hf.2, ha.2, hb.2] at ho hB
  exact ho.opQ h.inv hA hB
theorem opVar_q {w : World} {B g nb kb ib cap : Nat} {A : St} {K T : Tri → Option Value} (h : ArenaAt w B g nb kb ib cap A K T) (hA : A.full = false) (i : Nat) (hi : i < A.vars) :
    Calls Try.prog 35 #[.pointer (some ⟨g, 0, none⟩), .int .i64 i] w (OpQ w B g nb kb ib A (fun x => x i) (2 ^ A.vars)) :=
  (opVar_walk h i hi).mono fun e w' ho => ho.opQ h.inv hA (fun x y hxy => hxy i hi)

set_option maxRecDepth 100000 in
set_option maxHeartbeats 4000000 in
theorem opNot_q {w : World} {B g nb kb ib cap : Nat} {A : St} {K T : Tri → Option Value} (h : ArenaAt w B g nb kb ib cap A K T) (hA : A.full = false) {f a : Nat} {F G : Bdd.Fn} (hf : IsF A f F) (_ : True) :
    Calls Try.prog 36 #[.pointer (some ⟨g, 0, none⟩), .int .i64 f] w (OpQ w B g nb kb ib A (notF F) (2 ^ A.vars)) := by
  have HC : Hid (Calls Try.prog 43 #[.pointer (some ⟨g, 0, none⟩), .int .i64 f, .int .i64 0, .int .i64 1] w (OpQ w B g nb kb ib A (notF F) (2 ^ A.vars))) := hide (opIte_q h hA hf (IsF.zero h.inv) (IsF.one h.inv))
  clear h hf hA
  go_enter Try.func36, Try.ntmps36
  go_wp2_with fail
  refine HC.out.mono ?_
  rintro e wc hop
  have HF := hide hop
  obtain ⟨r, nb2, cap2, A2, K2, T2, _, _, _, h1, h2⟩ := hop
  cases hfull : A2.full
  · obtain rfl := h2 hfull
    go_wp2
    go_ret2
    exact HF.out
  · obtain rfl := h1 hfull
    go_wp2
    go_ret2
    exact HF.out
set_option maxRecDepth 100000 in
set_option maxHeartbeats 4000000 in
theorem opAnd_q {w : World} {B g nb kb ib cap : Nat} {A : St} {K T : Tri → Option Value} (h : ArenaAt w B g nb kb ib cap A K T) (hA : A.full = false) {f a : Nat} {F G : Bdd.Fn} (hf : IsF A f F) (ha : IsF A a G) :
    Calls Try.prog 37 #[.pointer (some ⟨g, 0, none⟩), .int .i64 f, .int .i64 a] w (OpQ w B g nb kb ib A (andF F G) (2 ^ A.vars)) := by
  have HC : Hid (Calls Try.prog 43 #[.pointer (some ⟨g, 0, none⟩), .int .i64 f, .int .i64 a, .int .i64 0] w (OpQ w B g nb kb ib A (andF F G) (2 ^ A.vars))) := hide (opIte_q h hA hf ha (IsF.zero h.inv))
  clear h hf hA
  go_enter Try.func37, Try.ntmps37
  go_wp2_with fail
  refine HC.out.mono ?_
  rintro e wc hop
  have HF := hide hop
  obtain ⟨r, nb2, cap2, A2, K2, T2, _, _, _, h1, h2⟩ := hop
  cases hfull : A2.full
  · obtain rfl := h2 hfull
    go_wp2
    go_ret2
    exact HF.out
  · obtain rfl := h1 hfull
    go_wp2
    go_ret2
    exact HF.out
set_option maxRecDepth 100000 in
set_option maxHeartbeats 4000000 in
theorem opOr_q {w : World} {B g nb kb ib cap : Nat} {A : St} {K T : Tri → Option Value} (h : ArenaAt w B g nb kb ib cap A K T) (hA : A.full = false) {f a : Nat} {F G : Bdd.Fn} (hf : IsF A f F) (ha : IsF A a G) :
    Calls Try.prog 38 #[.pointer (some ⟨g, 0, none⟩), .int .i64 f, .int .i64 a] w (OpQ w B g nb kb ib A (orF F G) (2 ^ A.vars)) := by
  have HC : Hid (Calls Try.prog 43 #[.pointer (some ⟨g, 0, none⟩), .int .i64 f, .int .i64 1, .int .i64 a] w (OpQ w B g nb kb ib A (orF F G) (2 ^ A.vars))) := hide (opIte_q h hA hf (IsF.one h.inv) ha)
  clear h hf hA
  go_enter Try.func38, Try.ntmps38
  go_wp2_with fail
  refine HC.out.mono ?_
  rintro e wc hop
  have HF := hide hop
  obtain ⟨r, nb2, cap2, A2, K2, T2, _, _, _, h1, h2⟩ := hop
  cases hfull : A2.full
  · obtain rfl := h2 hfull
    go_wp2
    go_ret2
    exact HF.out
  · obtain rfl := h1 hfull
    go_wp2
    go_ret2
    exact HF.out

/-! ### in the room of an arena of six variables -/
/-- What such a call leaves. -/
def RQ (w : World) (B g nb kb ib : Nat) (A : St) (c : Nat) (A1 : St) (F : Bdd.Fn) (e : Ending) (w2 : World) : Prop :=
  ∃ (r nb2 cap2 : Nat) (A2 : St) (K2 T2 : Tri → Option Value), e = .returned (.tuple #[.int .i64 (r : Int), .int .i64 0]) ∧ MS w B g nb kb ib A c w2 nb2 cap2 A2 K2 T2 ∧ A2.full = false ∧ Ext A1 A2 ∧ IsF A2 r F

theorem MS.trans {w : World} {B g nb kb ib : Nat} {A : St} {c d : Nat} {w1 w2 : World} {nb1 cap1 nb2 cap2 : Nat} {A1 A2 : St} {K1 T1 K2 T2 : Tri → Option Value} (hlt : nb < w.heap.size)
    (h : MS w B g nb kb ib A c w1 nb1 cap1 A1 K1 T1) (h2 : MS w1 B g nb1 kb ib A1 d w2 nb2 cap2 A2 K2 T2) : MS w B g nb kb ib A (c + d) w2 nb2 cap2 A2 K2 T2 := by
  have hs := h.fm.size
  have e1 := h.cnt
  have e2 := h2.cnt
  refine ⟨h.ext.trans h2.ext, by omega, h2.ar, ?_, h.fm.trans h2.fm (fun i hi hS => ?_)⟩
  · rcases h2.nbc with e5 | e5
    · rw [e5]; exact h.nbc
    · exact .inr (by omega)
  · rcases hS with e | e | e | e
    · exact .inl e
    · rcases h.nbc with e' | e'
      · exact .inr (.inl (e.trans e'))
      · omega
    · exact .inr (.inr (.inl e))
    · exact .inr (.inr (.inr e))

theorem OpQ.rq {w : World} {B g nb kb ib : Nat} {A : St} {c d : Nat} {w1 w2 : World} {nb1 cap1 : Nat} {A1 : St} {K1 T1 : Tri → Option Value} {F : Bdd.Fn} {e : Ending} (hlt : nb < w.heap.size) (h : MS w B g nb kb ib A c w1 nb1 cap1 A1 K1 T1) (ho : OpQ w1 B g nb1 kb ib A1 F d e w2) (hroom : A.len + c + d < A.most) :
    RQ w B g nb kb ib A (c + d) A1 F e w2 := by
  have e1 := h.cnt
  have e2 := h.ext.most
  obtain ⟨r, nb2, cap2, A2, K2, T2, he, hm, hnf, hi⟩ := ho.room (by omega)
  exact ⟨r, nb2, cap2, A2, K2, T2, he, h.trans hlt hm, hnf, hm.ext, hi⟩

/-- An arena's size, in short. -/
structure Six (A : St) : Prop where
  vars : A.vars = 6
  len : A.len = 2
  most : A.most = 40000

section
variable {w : World} {B g nb kb ib : Nat} {A : St} {c : Nat} {w1 : World} {nb1 cap1 : Nat} {A1 : St} {K1 T1 : Tri → Option Value}
theorem MS.pow (h : MS w B g nb kb ib A c w1 nb1 cap1 A1 K1 T1) (h6 : Six A) : A1.vars = 6 ∧ 2 ^ A1.vars = 64 := by
  have := h.ext.vars
  rw [h6.vars] at this
  exact ⟨this, by rw [this]⟩

theorem var_rq (hlt : nb < w.heap.size) (h6 : Six A) (h : MS w B g nb kb ib A c w1 nb1 cap1 A1 K1 T1) (hf : A1.full = false) (hc : c ≤ 20000) (i : Nat) (hi : i < 6) :
    Calls Try.prog 35 #[.pointer (some ⟨g, 0, none⟩), .int .i64 i] w1 (RQ w B g nb kb ib A (c + 64) A1 (fun x => x i)) := by
  obtain ⟨e1, e2⟩ := h.pow h6
  have l := h6.len
  have m := h6.most
  refine (opVar_q h.ar hf i (by omega)).mono fun e w2 ho => ?_
  rw [e2] at ho
  exact ho.rq hlt h (by omega)
theorem not_rq (hlt : nb < w.heap.size) (h6 : Six A) (h : MS w B g nb kb ib A c w1 nb1 cap1 A1 K1 T1) (hf : A1.full = false) (hc : c ≤ 20000) {f : Nat} {F : Bdd.Fn} (h1 : IsF A1 f F) :
    Calls Try.prog 36 #[.pointer (some ⟨g, 0, none⟩), .int .i64 f] w1 (RQ w B g nb kb ib A (c + 64) A1 (notF F)) := by
  obtain ⟨e1, e2⟩ := h.pow h6
  have l := h6.len
  have m := h6.most
  refine (opNot_q (a := 0) (G := F) h.ar hf h1 trivial).mono fun e w2 ho => ?_
  rw [e2] at ho
  exact ho.rq hlt h (by omega)
theorem and_rq (hlt : nb < w.heap.size) (h6 : Six A) (h : MS w B g nb kb ib A c w1 nb1 cap1 A1 K1 T1) (hf : A1.full = false) (hc : c ≤ 20000) {f a : Nat} {F G : Bdd.Fn} (h1 : IsF A1 f F) (h2 : IsF A1 a G) :
    Calls Try.prog 37 #[.pointer (some ⟨g, 0, none⟩), .int .i64 f, .int .i64 a] w1 (RQ w B g nb kb ib A (c + 64) A1 (andF F G)) := by
  obtain ⟨e1, e2⟩ := h.pow h6
  have l := h6.len
  have m := h6.most
  refine (opAnd_q h.ar hf h1 h2).mono fun e w2 ho => ?_
  rw [e2] at ho
  exact ho.rq hlt h (by omega)
theorem or_rq (hlt : nb < w.heap.size) (h6 : Six A) (h : MS w B g nb kb ib A c w1 nb1 cap1 A1 K1 T1) (hf : A1.full = false) (hc : c ≤ 20000) {f a : Nat} {F G : Bdd.Fn} (h1 : IsF A1 f F) (h2 : IsF A1 a G) :
    Calls Try.prog 38 #[.pointer (some ⟨g, 0, none⟩), .int .i64 f, .int .i64 a] w1 (RQ w B g nb kb ib A (c + 64) A1 (orF F G)) := by
  obtain ⟨e1, e2⟩ := h.pow h6
  have l := h6.len
  have m := h6.most
  refine (opOr_q h.ar hf h1 h2).mono fun e w2 ho => ?_
  rw [e2] at ho
  exact ho.rq hlt h (by omega)
theorem ite_rq (hlt : nb < w.heap.size) (h6 : Six A) (h : MS w B g nb kb ib A c w1 nb1 cap1 A1 K1 T1) (hf : A1.full = false) (hc : c ≤ 20000) {f a b : Nat} {F G H : Bdd.Fn} (h1 : IsF A1 f F) (h2 : IsF A1 a G) (h3 : IsF A1 b H) :
    Calls Try.prog 43 #[.pointer (some ⟨g, 0, none⟩), .int .i64 f, .int .i64 a, .int .i64 b] w1 (RQ w B g nb kb ib A (c + 64) A1 (iteF F G H)) := by
  obtain ⟨e1, e2⟩ := h.pow h6
  have l := h6.len
  have m := h6.most
  refine (opIte_q h.ar hf h1 h2 h3).mono fun e w2 ho => ?_
  rw [e2] at ho
  exact ho.rq hlt h (by omega)
theorem exists_rq (hlt : nb < w.heap.size) (h6 : Six A) (h : MS w B g nb kb ib A c w1 nb1 cap1 A1 K1 T1) (hf : A1.full = false) (hc : c ≤ 20000) {f : Nat} {F : Bdd.Fn} (h1 : IsF A1 f F) (i : Nat) (hi : i < 6) :
    Calls Try.prog 40 #[.pointer (some ⟨g, 0, none⟩), .int .i64 f, .int .i64 i] w1 (RQ w B g nb kb ib A (c + 192) A1 (existsF F i)) := by
  obtain ⟨e1, e2⟩ := h.pow h6
  have l := h6.len
  have m := h6.most
  refine (opExists_walk h.ar hf f i F h1 (by omega)).mono fun e w2 ho => ?_
  rw [e2] at ho
  exact ho.rq hlt h (by omega)
theorem swap_rq (hlt : nb < w.heap.size) (h6 : Six A) (h : MS w B g nb kb ib A c w1 nb1 cap1 A1 K1 T1) (hf : A1.full = false) (hc : c ≤ 20000) {f : Nat} {F : Bdd.Fn} (h1 : IsF A1 f F) (i j : Nat) (hi : i < 6) (hj : j < 6) :
    Calls Try.prog 41 #[.pointer (some ⟨g, 0, none⟩), .int .i64 f, .int .i64 i, .int .i64 j] w1 (RQ w B g nb kb ib A (c + 704) A1 (swapF F i j)) := by
  obtain ⟨e1, e2⟩ := h.pow h6
  have l := h6.len
  have m := h6.most
  by_cases hij : i = j
  · exact (opSwap_same h.ar hf f i j F h1 (by omega) (by omega) hij 704).mono fun e w2 ho => ho.rq hlt h (by omega)
  · refine (opSwap_diff h.ar hf f i j F h1 (by omega) (by omega) hij).mono fun e w2 ho => ?_
    rw [e2] at ho
    exact ho.rq hlt h (by omega)
theorem count_ms (h6 : Six A) (h : MS w B g nb kb ib A c w1 nb1 cap1 A1 K1 T1) {f : Nat} {F : Bdd.Fn} (h1 : IsF A1 f F) :
    Calls Try.prog 42 #[.pointer (some ⟨g, 0, none⟩), .int .i64 f] w1 fun e w2 => e = .returned (.tuple #[.int .i64 (cntF 6 6 F : Nat), .int .i64 0]) ∧ MS w B g nb kb ib A c w2 nb1 cap1 A1 K1 T1 := by
  obtain ⟨e1, e2⟩ := h.pow h6
  refine (opCount_walk h.ar f h1.1).mono fun e w2 ⟨he, hb⟩ => ⟨?_, h.below hb⟩
  rw [he, e1, h1.2]
end

theorem isF_eq {A : St} {r s : Nat} {F G : Bdd.Fn} (hi : Inv A) (h1 : IsF A r F) (h2 : IsF A s G) (h : F = G) : r = s :=
  (canon hi.ok h1.1 h2.1).1 (by rw [h1.2, h2.2, h])

theorem got_walk (f : Int) (W : World) : Calls Try.prog 34 #[.int .i64 f, .int .i64 0] W fun e W' => e = .returned (.int .i64 f) ∧ W = W' := by
  go_enter Try.func34, Try.ntmps34
  go_wp2
  go_ret
  exact ⟨rfl, rfl⟩
end Go.Proofs.Ytoanimmlpfchjaa
