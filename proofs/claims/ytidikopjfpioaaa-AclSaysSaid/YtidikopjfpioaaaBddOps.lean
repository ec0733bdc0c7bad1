/- The arena's calls: Var, Ite, And. -/
import Derived.Test.YtidikopjfpioaaaBddAsk
import Derived.WalkLawsBesides
set_option linter.unusedVariables false
set_option linter.unusedSimpArgs false
namespace Go.Proofs.Ytidikopjfpioaaa
open Go.RowKit Go.Maps Bdd

/-- What a call leaves that makes a function. -/
def OpP (w : World) (B g nb kb ib : Nat) (A : St) (F : Bdd.Fn) (k : Nat) (e : Ending) (W' : World) : Prop :=
  ∃ (r nb2 cap2 : Nat) (A2 : St) (K2 T2 : Tri → Option Value), Res A A2 r F k ∧ (A2.full = true → e = .returned (.tuple #[.int .i64 0, .int .i64 6])) ∧ (A2.full = false → e = .returned (.tuple #[.int .i64 (r : Int), .int .i64 0])) ∧
    ArenaAt W' B g nb2 kb ib cap2 (doneSt A2) K2 T2 ∧ (nb2 = nb ∨ w.heap.size ≤ nb2) ∧ Frm (Fp g nb kb ib) w W'

theorem Stg.op {w : World} {B g nb kb ib cap : Nat} {A : St} {K T : Tri → Option Value} (h0 : ArenaAt w B g nb kb ib cap A K T) {box : Array Value} {t : TypeId} {w1 w2 : World} {nb1 cap1 r k : Nat} {A1 : St} {K1 T1 : Tri → Option Value} {F : Bdd.Fn} {e : Ending}
    (hs : Stg w B g nb kb ib box t w1 nb1 cap1 A1 K1 T1) (hr : Res A A1 r F k) (h1 : A1.full = true → e = .returned (.tuple #[.int .i64 0, .int .i64 6])) (h2 : A1.full = false → e = .returned (.tuple #[.int .i64 (r : Int), .int .i64 0]))
    (ha : ArenaAt w2 B g nb1 kb ib cap1 (doneSt A1) K1 T1) (hf : Frm (Fp g nb1 kb ib) w1 w2) : OpP w B g nb kb ib A F k e w2 :=
  have h := hs.step h0 ha (.inl rfl) hf
  ⟨r, nb1, cap1, A1, K1, T1, hr, h1, h2, h.ar, h.nbc.imp id (fun h => by omega), h.fm⟩

theorem ints3 (w : World) (B : Nat) (hB : w.heap.size < B) (f a b : Nat) (hf : f < 65536) (ha : a < 65536) (hb : b < 65536) (t : TypeId) {w1 : World} (h : w1.heap[w.heap.size]? = some (.cells #[.int .i64 f, .int .i64 a, .int .i64 b] t (0, 0))) :
    IntsAt w1 B (some ⟨w.heap.size, 0, none⟩) 3 [(f : Int), (a : Int), (b : Int)] := by
  refine ⟨rfl, fun x hx => ?_, fun _ => ⟨_, 0, rfl, hB, fun k x hx => ?_⟩⟩
  · simp only [List.mem_cons, List.mem_nil_iff, or_false] at hx
    rcases hx with rfl | rfl | rfl <;> omega
  · rw [cell_of_row _ _ _ _ _ _ h]
    match k, hx with
    | 0, hx => cases hx; rfl
    | 1, hx => cases hx; rfl
    | 2, hx => cases hx; rfl

theorem ints1 (w : World) (B : Nat) (hB : w.heap.size < B) (i : Int) (hi : -9223372036854775808 ≤ i ∧ i ≤ 9223372036854775807) (t : TypeId) {w1 : World} (h : w1.heap[w.heap.size]? = some (.cells #[.int .i64 i] t (0, 0))) :
    IntsAt w1 B (some ⟨w.heap.size, 0, none⟩) 1 [i] := by
  refine ⟨rfl, fun x hx => ?_, fun _ => ⟨_, 0, rfl, hB, fun k x hx => ?_⟩⟩
  · simp only [List.mem_cons, List.mem_nil_iff, or_false] at hx
    rw [hx]; exact hi
  · rw [cell_of_row _ _ _ _ _ _ h]
    match k, hx with
    | 0, hx => cases hx; rfl

set_option maxRecDepth 100000 in
set_option maxHeartbeats 4000000 in
theorem opIte_walk {w : World} {B g nb kb ib cap : Nat} {A : St} {K T : Tri → Option Value} (h : ArenaAt w B g nb kb ib cap A K T) (f a b : Nat) (hf : f < A.ns.length) (ha : a < A.ns.length) (hb : b < A.ns.length) :
    Calls Try.prog 66 #[.pointer (some ⟨g, 0, none⟩), .int .i64 f, .int .i64 a, .int .i64 b] w (OpP w B g nb kb ib A (iteF (den A.ns f) (den A.ns a) (den A.ns b)) (min3 (var A.ns f) (var A.ns a) (var A.ns b))) := by
  have hlen := h.lenle
  have hb0 : ∀ o, RowKit.Below w.heap.size w (w.alloc o) := fun o => (RowKit.Below.refl _ _).alloc (Nat.le_refl _) _
  have HS0 : Hid (Stg w B g nb kb ib #[.int .i64 f, .int .i64 a, .int .i64 b] 3 (w.alloc (.cells #[.int .i64 f, .int .i64 a, .int .i64 b] 3)) nb cap A K T) := hide
    ⟨h.below (hb0 _), Frm.of_below (hb0 _), heap_alloc_new w _, .inl rfl⟩
  have HI3 := hide (ints3 w (w.alloc (.cells #[.int .i64 f, .int .i64 a, .int .i64 b] 3)).heap.size (by simp) f a b (by omega) (by omega) (by omega) 3 HS0.out.bx)
  have HOK := hide (show AskOk A [(f : Int), (a : Int), (b : Int)] [] from ⟨fun x hx => by
    simp only [List.mem_cons, List.mem_nil_iff, or_false] at hx
    rcases hx with rfl | rfl | rfl <;> omega, fun x hx => by cases hx⟩)
  have H := hide h
  have HL := hide (And.intro hf (And.intro ha hb))
  clear h hf ha hb hb0
  go_enter Try.func66, Try.ntmps66
  go_wp2_with fail
  refine (ask_walk HS0.out.ar _ [] _ none 3 0 3 0 (by omega) (by omega) HI3.out (IntsAt.nil _ _ _)).mono ?_
  rintro e wa ⟨he, _, hb⟩
  obtain rfl := he HOK.out
  have HS1 := hide (HS0.out.below H.out hb)
  clear hb he HS0 HI3
  go_wp2_with fail
  refine (ite_walk _ _ _ _ _ _ _ _ _ _ _ HS1.out.ar f a b HL.out.1 HL.out.2.1 HL.out.2.2 (Nat.lt_succ_self _)).mono ?_
  rintro e wb ⟨r, nb1, cap1, A1, K1, T1, rfl, hres, har, hnb, hfm⟩
  have HS2 := hide (HS1.out.step H.out har hnb hfm)
  have HR := hide hres
  clear hres har hnb hfm HS1
  go_wp2_with fail
  refine (done_walk HS2.out.ar r).mono ?_
  rintro e wc ⟨h1, h2, har, hfm⟩
  have HF := hide (HS2.out.op H.out HR.out h1 h2 har hfm)
  clear har hfm
  cases hfull : A1.full
  · obtain rfl := h2 hfull
    go_wp2
    go_ret2
    exact HF.out
  · obtain rfl := h1 hfull
    go_wp2
    go_ret2
    exact HF.out

set_option maxRecDepth 100000 in
set_option maxHeartbeats 4000000 in
theorem opAnd_walk {w : World} {B g nb kb ib cap : Nat} {A : St} {K T : Tri → Option Value} (h : ArenaAt w B g nb kb ib cap A K T) (f a : Nat) (hf : f < A.ns.length) (ha : a < A.ns.length) :
    Calls Try.prog 29 #[.pointer (some ⟨g, 0, none⟩), .int .i64 f, .int .i64 a] w (OpP w B g nb kb ib A (iteF (den A.ns f) (den A.ns a) (den A.ns 0)) (min3 (var A.ns f) (var A.ns a) (var A.ns 0))) := by
  have h2 := h.inv.ok.two
  have HC := hide (opIte_walk h f a 0 hf ha (by omega))
  clear h hf ha h2
  go_enter Try.func29, Try.ntmps29
  go_wp2_with fail
  refine HC.out.mono ?_
  rintro e wc hop
  have HF := hide hop
  obtain ⟨r, nb2, cap2, A2, K2, T2, _, h1, h2, _⟩ := hop
  cases hfull : A2.full
  · obtain rfl := h2 hfull
    go_wp2
    go_ret2
    exact HF.out
  · obtain rfl := h1 hfull
    go_wp2
    go_ret2
    exact HF.out

set_option maxRecDepth 100000 in
set_option maxHeartbeats 4000000 in
theorem opVar_walk {w : World} {B g nb kb ib cap : Nat} {A : St} {K T : Tri → Option Value} (h : ArenaAt w B g nb kb ib cap A K T) (i : Nat) (hi : i < A.vars) :
    Calls Try.prog 76 #[.pointer (some ⟨g, 0, none⟩), .int .i64 i] w (OpP w B g nb kb ib A (fun x => x i) i) := by
  have hlen := h.lenle
  have hvs := h.vs
  have ok := h.inv.ok
  have htwo := ok.two
  have hv0 := var_zero ok
  have hv1 := var_one ok
  have hb0 : ∀ o, RowKit.Below w.heap.size w (w.alloc o) := fun o => (RowKit.Below.refl _ _).alloc (Nat.le_refl _) _
  have HS0 : Hid (Stg w B g nb kb ib #[.int .i64 i] 3 (w.alloc (.cells #[.int .i64 i] 3)) nb cap A K T) := hide
    ⟨h.below (hb0 _), Frm.of_below (hb0 _), heap_alloc_new w _, .inl rfl⟩
  have HI1 := hide (ints1 w (w.alloc (.cells #[.int .i64 i] 3)).heap.size (by simp) i (by omega) 3 HS0.out.bx)
  have HOK := hide (show AskOk A [] [(i : Int)] from ⟨fun x hx => (by cases hx), fun x hx => by
    simp only [List.mem_cons, List.mem_nil_iff, or_false] at hx
    rw [hx]; omega⟩)
  have HM : Hid (∀ A' r, Made A i 0 1 r A' → Res A A' r (fun x => x i) i) := hide fun A' r hm =>
    res_node h.inv hi (fun x y hxy => hxy i (Nat.le_refl _)) (L := fun _ => false) (H := fun _ => true) (by funext x; simp [upd]) (by funext x; simp [upd])
      (res_there h.inv (by simp only [St.len]; omega) (by rw [hv0]; omega) (fun _ => by funext x; simp [den_zero])) (res_there h.inv (by simp only [St.len]; omega) (by rw [hv1]; omega) (fun _ => by funext x; simp [den_one])) hm
  have H := hide h
  have HL : Hid (0 < A.ns.length ∧ 1 < A.ns.length ∧ i < var A.ns 0 ∧ i < var A.ns 1) := hide ⟨by omega, by omega, by omega, by omega⟩
  clear h hb0 ok htwo hv0 hv1
  go_enter Try.func76, Try.ntmps76
  go_wp2_with fail
  refine (ask_walk HS0.out.ar [] _ none _ 0 1 0 1 (by omega) (by omega) (IntsAt.nil _ _ _) HI1.out).mono ?_
  rintro e wa ⟨he, _, hb⟩
  obtain rfl := he HOK.out
  have HS1 := hide (HS0.out.below H.out hb)
  clear hb he HS0 HI1
  go_wp2_with fail
  refine (made_walk HS1.out.ar i 0 1 hi HL.out.1 HL.out.2.1 HL.out.2.2.1 HL.out.2.2.2).mono ?_
  rintro e wb ⟨r, nb1, cap1, A1, K1, rfl, hmade, har, hnb, hfm⟩
  have HS2 := hide (HS1.out.step H.out har hnb hfm)
  have HR := hide (HM.out _ _ hmade)
  clear hmade har hnb hfm HS1
  go_wp2_with fail
  refine (done_walk HS2.out.ar r).mono ?_
  rintro e wc ⟨h1, h2, har, hfm⟩
  have HF := hide (HS2.out.op H.out HR.out h1 h2 har hfm)
  clear har hfm
  cases hfull : A1.full
  · obtain rfl := h2 hfull
    go_wp2
    go_ret2
    exact HF.out
  · obtain rfl := h1 hfull
    go_wp2
    go_ret2
    exact HF.out
end Go.Proofs.Ytidikopjfpioaaa
