/- wirekeep.some. -/
import Derived.Test.YtoanimmlpfchjaaOps
import Derived.WalkLawsBesides
set_option linter.unusedVariables false
set_option linter.unusedSimpArgs false
namespace Go.Proofs.Ytoanimmlpfchjaa
open Go.RowKit Go.Maps Bdd

structure OpV where
  k : Int
  a : Int
  b : Int
  c : Int
def OpV.ok (r : OpV) : Prop := i64ok r.k ∧ i64ok r.a ∧ i64ok r.b ∧ i64ok r.c
def OpV.cells (r : OpV) : List Value := [.int .i64 r.k, .int .i64 r.a, .int .i64 r.b, .int .i64 r.c]
theorem OpV.len (r : OpV) : r.cells.length = 4 := rfl

theorem op_get {w : World} {B b o n k : Nat} {l : List OpV} {r : OpV} (h : SlAt OpV.cells 4 w B (some ⟨b, o, none⟩) n l) (hr : l[k]? = some r) : b < B ∧
    w.cell? ⟨b, o + k * 4, none⟩ = some (.int .i64 r.k) ∧ w.cell? ⟨b, o + k * 4 + 1, none⟩ = some (.int .i64 r.a) ∧ w.cell? ⟨b, o + k * 4 + 2, none⟩ = some (.int .i64 r.b) ∧ w.cell? ⟨b, o + k * 4 + 3, none⟩ = some (.int .i64 r.c) :=
  ⟨(h.get hr).1, (h.get hr).2 0 _ rfl, (h.get hr).2 1 _ rfl, (h.get hr).2 2 _ rfl, (h.get hr).2 3 _ rfl⟩

/-- What 'some' leaves: a number of some function. -/
def SomeP (w : World) (B g nb kb ib : Nat) (A : St) (c : Nat) (A1 : St) (e : Ending) (w2 : World) : Prop :=
  ∃ (F : Bdd.Fn) (r nb2 cap2 : Nat) (A2 : St) (K2 T2 : Tri → Option Value), e = .returned (.int .i64 (r : Int)) ∧ MS w B g nb kb ib A c w2 nb2 cap2 A2 K2 T2 ∧ A2.full = false ∧ Ext A1 A2 ∧ IsF A2 r F

theorem OpQ.block {w : World} {B g nb kb ib : Nat} {A : St} {F : Bdd.Fn} {c : Nat} {e : Ending} {W' : World} (h : OpQ w B g nb kb ib A F c e W') {N : Nat} (hN : N < w.heap.size) (hn : ¬ Fp g nb kb ib N) : W'.heap[N]? = w.heap[N]? := by
  obtain ⟨_, _, _, _, _, _, hm, _⟩ := h
  exact hm.fm.block N hN hn

theorem min12 (n : Nat) (w : World) : (n : Int) ≤ 12 ∨ 12 ≤ (n : Int) := by omega

set_option maxRecDepth 100000 in
set_option maxHeartbeats 8000000 in
theorem some_walk {w : World} {B g nb kb ib cap : Nat} {A : St} {K T : Tri → Option Value} {c : Nat} {w1 : World} {nb1 cap1 : Nat} {A1 : St} {K1 T1 : Tri → Option Value} (h0 : ArenaAt w B g nb kb ib cap A K T) (h6 : Six A) (h : MS w B g nb kb ib A c w1 nb1 cap1 A1 K1 T1) (hf : A1.full = false) (hc : c ≤ 10000)
    (l : List OpV) (a : Option Addr) (n cp m : Nat) (hn : n ≤ 9223372036854775807) (hm : m = min 12 n) (hnc : n ≤ cp) (hl : SlAt OpV.cells 4 w B a n l) (hok : ∀ r ∈ l, r.ok) :
    Calls Try.prog 33 #[.pointer (some ⟨g, 0, none⟩), .slice a n cp, .int .i64 6] w1 (SomeP w B g nb kb ib A (c + 128 * m) A1) := by
  have HM0 := hide h
  have HE0 := hide (Ext.refl h.inv)
  have HI0 := hide (IsF.zero h.inv)
  have H0 := hide h0
  have H6 := hide h6
  have HL := hide hl
  have HK := hide hok
  have HLT := hide h0.lts.2.1
  clear h h0 h6 hl hok
  by_cases h12 : 12 ≤ n
  · have hm' : m = 12 := by omega
    subst hm'
    have h12' : (12 : Int) ≤ (n : Int) := by omega
    clear hm
    go_enter Try.func33, Try.ntmps33
    go_wp2
    go_loopw [7, 18] (fun u i wr => ∃ (k r nb2 cap2 : Nat) (A2 : St) (K2 T2 : Tri → Option Value) (F : Bdd.Fn), k ≤ 12 ∧ i = .int .i64 k ∧ u = .int .i64 r ∧ Hid (MS w B g nb kb ib A (c + 128 * k) wr nb2 cap2 A2 K2 T2) ∧ A2.full = false ∧ Hid (Ext A1 A2) ∧ Hid (IsF A2 r F)) (fun _ i _ => 12 - (intOf i).toNat)
    case atStart => exact ⟨0, 0, nb1, cap1, A1, K1, T1, _, Nat.zero_le _, rfl, rfl, hide (HM0.out.more (by omega)), hf, HE0, HI0⟩
    case round =>
      clear HM0 HE0 HI0 hf
      obtain ⟨k, r, nb2, cap2, A2, K2, T2, F, hk, rfl, rfl, HM, hnf, HE, HI⟩ := hrel
      by_cases hlt : k < 12
      · obtain ⟨x, hx⟩ : ∃ x, l[k]? = some x := ⟨_, List.getElem?_eq_getElem (by have := HL.out.1; omega)⟩
        obtain ⟨b, o, rfl, hbB, _⟩ := HL.out.2 (by omega)
        have hBb := H0.out.frmBelow HM.out.fm
        obtain ⟨_, p0, p1, p2, p3⟩ := op_get (HL.out.below hBb (Nat.le_refl _)) hx
        obtain ⟨hk1, ha1, hb1, hc1⟩ := HK.out x (List.mem_of_getElem? hx)
        clear hx hBb hb1 hc1
        obtain ⟨xk, xa, xb, xc⟩ := x
        obtain ⟨iv, hiv⟩ : ∃ iv : Nat, xa % 6 = (iv : Int) := ⟨(xa % 6).toNat, by omega⟩
        have hi6 : iv < 6 := by omega
        have hb0 : RowKit.Below wr.heap.size wr (wr.alloc (.cells #[.int .i64 xk, .int .i64 xa, .int .i64 xb, .int .i64 xc] 91)) := (RowKit.Below.refl _ _).alloc (Nat.le_refl _) _
        have HMx := hide (HM.out.below hb0)
        have hbx := heap_alloc_new wr (.cells #[.int .i64 xk, .int .i64 xa, .int .i64 xb, .int .i64 xc] 91)
        have hszx : wr.heap.size < (wr.alloc (.cells #[.int .i64 xk, .int .i64 xa, .int .i64 xb, .int .i64 xc] 91)).heap.size := by simp
        have hnF : ¬ Fp g nb2 kb ib wr.heap.size := fun hS => by
          obtain ⟨l1, l2, l3, l4, _⟩ := HM.out.ar.lts
          rcases hS with e | e | e | e <;> omega
        have HBX := hide (And.intro hbx (And.intro hszx hnF))
        have HQ : Hid (Calls Try.prog 35 #[.pointer (some ⟨g, 0, none⟩), .int .i64 iv] (wr.alloc (.cells #[.int .i64 xk, .int .i64 xa, .int .i64 xb, .int .i64 xc] 91)) (OpQ (wr.alloc (.cells #[.int .i64 xk, .int .i64 xa, .int .i64 xb, .int .i64 xc] 91)) B g nb2 kb ib A2 (fun x => x iv) (2 ^ A2.vars))) :=
          hide (opVar_q HMx.out.ar hnf iv (by have := (HMx.out.pow H6.out).1; omega))
        have HIV := hide hiv
        clear hb0 hbx hszx hnF hiv HM
        go_wp2_with fail
        refine (rest_walk xa 6 _ ha1 (by omega) (by omega)).mono ?_
        rintro e w' ⟨rfl, rfl⟩
        rw [HIV.out]
        go_wp2_with fail
        refine HQ.out.mono ?_
        clear p0 p1 p2 p3 HQ
        rintro e wv hop
        have HX := hide ((hop.block HBX.out.2.1 HBX.out.2.2).trans HBX.out.1)
        rw [(HMx.out.pow H6.out).2] at hop
        obtain ⟨v, nb3, cap3, A3, K3, T3, rfl, hm3, hnf3, hx3, hi3⟩ := hop.rq HLT.out HMx.out (by have := H6.out.len; have := H6.out.most; omega)
        have HM3 := hide hm3
        have HE3 := hide (HE.out.trans hx3)
        have HI3 := hide hi3
        have HI2 := hide (HI.out.ext HMx.out.inv hx3)
        clear hop hm3 hx3 hi3 HMx HE HI HBX
        have y0 : wv.cell? ⟨wr.heap.size, 0, none⟩ = some (.int .i64 xk) := by rw [cell_of_row _ _ _ _ _ _ HX.out]; rfl
        go_wp2_with fail
        refine (rest_walk xk 3 _ hk1 (by omega) (by omega)).mono ?_
        rintro e w' ⟨rfl, rfl⟩
        clear y0
        rcases (by omega : xk % 3 = 0 ∨ xk % 3 = 1 ∨ xk % 3 = 2) with h3 | h3 | h3
        · rw [h3]
          clear h3
          go_wp2_with fail
          refine (or_rq HLT.out H6.out HM3.out hnf3 (by omega) HI2.out HI3.out).mono ?_
          rintro e wy ⟨r4, nb4, cap4, A4, K4, T4, rfl, hm', hnf4, hx, hi⟩
          have HI4 := hide hi
          have HE4 := hide (HE3.out.trans hx)
          have HM4 := hide hm'
          clear hi hx hm'
          go_wp2
          go_roundw
          case rel => exact ⟨k + 1, r4, nb4, cap4, A4, K4, T4, _, by omega, by go_num, rfl, hide (HM4.out.more (by omega)), hnf4, HE4, HI4⟩
          case measure => simp [intOf]; omega
        · rw [h3]
          have HI1 := hide (IsF.one HM3.out.inv)
          have HC1 : Hid (Calls Try.prog 43 #[.pointer (some ⟨g, 0, none⟩), .int .i64 v, .int .i64 r, .int .i64 1] wv (RQ w B g nb kb ib A (c + 128 * k + 64 + 64) A3 (iteF (fun x => x iv) F (fun _ => true)))) := hide (ite_rq HLT.out H6.out HM3.out hnf3 (by omega) HI3.out HI2.out HI1.out)
          clear h3
          go_wp2_with fail
          refine (HC1.out).mono ?_
          rintro e wy ⟨r4, nb4, cap4, A4, K4, T4, rfl, hm', hnf4, hx, hi⟩
          have HI4 := hide hi
          have HE4 := hide (HE3.out.trans hx)
          have HM4 := hide hm'
          clear hi hx hm'
          go_wp2
          go_roundw
          case rel => exact ⟨k + 1, r4, nb4, cap4, A4, K4, T4, _, by omega, by go_num, rfl, hide (HM4.out.more (by omega)), hnf4, HE4, HI4⟩
          case measure => simp [intOf]; omega
        · rw [h3]
          have HI1 := hide (IsF.one HM3.out.inv)
          have HC1 : Hid (Calls Try.prog 43 #[.pointer (some ⟨g, 0, none⟩), .int .i64 r, .int .i64 v, .int .i64 1] wv (RQ w B g nb kb ib A (c + 128 * k + 64 + 64) A3 (iteF F (fun x => x iv) (fun _ => true)))) := hide (ite_rq HLT.out H6.out HM3.out hnf3 (by omega) HI2.out HI3.out HI1.out)
          clear h3
          go_wp2_with fail
          refine (HC1.out).mono ?_
          rintro e wy ⟨r4, nb4, cap4, A4, K4, T4, rfl, hm', hnf4, hx, hi⟩
          have HI4 := hide hi
          have HE4 := hide (HE3.out.trans hx)
          have HM4 := hide hm'
          clear hi hx hm'
          go_wp2
          go_roundw
          case rel => exact ⟨k + 1, r4, nb4, cap4, A4, K4, T4, _, by omega, by go_num, rfl, hide (HM4.out.more (by omega)), hnf4, HE4, HI4⟩
          case measure => simp [intOf]; omega
      · have hkm : 12 = k := by omega
        subst hkm
        have HF := hide (show SomeP w B g nb kb ib A (c + 128 * 12) A1 (.returned (.int .i64 (r : Int))) wr from ⟨F, r, nb2, cap2, A2, K2, T2, rfl, HM.out, hnf, HE.out, HI.out⟩)
        go_wp2
        go_ret
        exact HF.out
  · have hm' : m = n := by omega
    subst hm'
    have h12' : (m : Int) < 12 := by omega
    clear hm
    go_enter Try.func33, Try.ntmps33
    go_wp2
    go_loopw [7, 18] (fun u i wr => ∃ (k r nb2 cap2 : Nat) (A2 : St) (K2 T2 : Tri → Option Value) (F : Bdd.Fn), k ≤ m ∧ i = .int .i64 k ∧ u = .int .i64 r ∧ Hid (MS w B g nb kb ib A (c + 128 * k) wr nb2 cap2 A2 K2 T2) ∧ A2.full = false ∧ Hid (Ext A1 A2) ∧ Hid (IsF A2 r F)) (fun _ i _ => m - (intOf i).toNat)
    case atStart => exact ⟨0, 0, nb1, cap1, A1, K1, T1, _, Nat.zero_le _, rfl, rfl, hide (HM0.out.more (by omega)), hf, HE0, HI0⟩
    case round =>
      clear HM0 HE0 HI0 hf
      obtain ⟨k, r, nb2, cap2, A2, K2, T2, F, hk, rfl, rfl, HM, hnf, HE, HI⟩ := hrel
      by_cases hlt : k < m
      · obtain ⟨x, hx⟩ : ∃ x, l[k]? = some x := ⟨_, List.getElem?_eq_getElem (by have := HL.out.1; omega)⟩
        obtain ⟨b, o, rfl, hbB, _⟩ := HL.out.2 (by omega)
        have hBb := H0.out.frmBelow HM.out.fm
        obtain ⟨_, p0, p1, p2, p3⟩ := op_get (HL.out.below hBb (Nat.le_refl _)) hx
        obtain ⟨hk1, ha1, hb1, hc1⟩ := HK.out x (List.mem_of_getElem? hx)
        clear hx hBb hb1 hc1
        obtain ⟨xk, xa, xb, xc⟩ := x
        obtain ⟨iv, hiv⟩ : ∃ iv : Nat, xa % 6 = (iv : Int) := ⟨(xa % 6).toNat, by omega⟩
        have hi6 : iv < 6 := by omega
        have hb0 : RowKit.Below wr.heap.size wr (wr.alloc (.cells #[.int .i64 xk, .int .i64 xa, .int .i64 xb, .int .i64 xc] 91)) := (RowKit.Below.refl _ _).alloc (Nat.le_refl _) _
        have HMx := hide (HM.out.below hb0)
        have hbx := heap_alloc_new wr (.cells #[.int .i64 xk, .int .i64 xa, .int .i64 xb, .int .i64 xc] 91)
        have hszx : wr.heap.size < (wr.alloc (.cells #[.int .i64 xk, .int .i64 xa, .int .i64 xb, .int .i64 xc] 91)).heap.size := by simp
        have hnF : ¬ Fp g nb2 kb ib wr.heap.size := fun hS => by
          obtain ⟨l1, l2, l3, l4, _⟩ := HM.out.ar.lts
          rcases hS with e | e | e | e <;> omega
        have HBX := hide (And.intro hbx (And.intro hszx hnF))
        have HQ : Hid (Calls Try.prog 35 #[.pointer (some ⟨g, 0, none⟩), .int .i64 iv] (wr.alloc (.cells #[.int .i64 xk, .int .i64 xa, .int .i64 xb, .int .i64 xc] 91)) (OpQ (wr.alloc (.cells #[.int .i64 xk, .int .i64 xa, .int .i64 xb, .int .i64 xc] 91)) B g nb2 kb ib A2 (fun x => x iv) (2 ^ A2.vars))) :=
          hide (opVar_q HMx.out.ar hnf iv (by have := (HMx.out.pow H6.out).1; omega))
        have HIV := hide hiv
        clear hb0 hbx hszx hnF hiv HM
        go_wp2_with fail
        refine (rest_walk xa 6 _ ha1 (by omega) (by omega)).mono ?_
        rintro e w' ⟨rfl, rfl⟩
        rw [HIV.out]
        go_wp2_with fail
        refine HQ.out.mono ?_
        clear p0 p1 p2 p3 HQ
        rintro e wv hop
        have HX := hide ((hop.block HBX.out.2.1 HBX.out.2.2).trans HBX.out.1)
        rw [(HMx.out.pow H6.out).2] at hop
        obtain ⟨v, nb3, cap3, A3, K3, T3, rfl, hm3, hnf3, hx3, hi3⟩ := hop.rq HLT.out HMx.out (by have := H6.out.len; have := H6.out.most; omega)
        have HM3 := hide hm3
        have HE3 := hide (HE.out.trans hx3)
        have HI3 := hide hi3
        have HI2 := hide (HI.out.ext HMx.out.inv hx3)
        clear hop hm3 hx3 hi3 HMx HE HI HBX
        have y0 : wv.cell? ⟨wr.heap.size, 0, none⟩ = some (.int .i64 xk) := by rw [cell_of_row _ _ _ _ _ _ HX.out]; rfl
        go_wp2_with fail
        refine (rest_walk xk 3 _ hk1 (by omega) (by omega)).mono ?_
        rintro e w' ⟨rfl, rfl⟩
        clear y0
        rcases (by omega : xk % 3 = 0 ∨ xk % 3 = 1 ∨ xk % 3 = 2) with h3 | h3 | h3
        · rw [h3]
          clear h3
          go_wp2_with fail
          refine (or_rq HLT.out H6.out HM3.out hnf3 (by omega) HI2.out HI3.out).mono ?_
          rintro e wy ⟨r4, nb4, cap4, A4, K4, T4, rfl, hm', hnf4, hx, hi⟩
          have HI4 := hide hi
          have HE4 := hide (HE3.out.trans hx)
          have HM4 := hide hm'
          clear hi hx hm'
          go_wp2
          go_roundw
          case rel => exact ⟨k + 1, r4, nb4, cap4, A4, K4, T4, _, by omega, by go_num, rfl, hide (HM4.out.more (by omega)), hnf4, HE4, HI4⟩
          case measure => simp [intOf]; omega
        · rw [h3]
          have HI1 := hide (IsF.one HM3.out.inv)
          have HC1 : Hid (Calls Try.prog 43 #[.pointer (some ⟨g, 0, none⟩), .int .i64 v, .int .i64 r, .int .i64 1] wv (RQ w B g nb kb ib A (c + 128 * k + 64 + 64) A3 (iteF (fun x => x iv) F (fun _ => true)))) := hide (ite_rq HLT.out H6.out HM3.out hnf3 (by omega) HI3.out HI2.out HI1.out)
          clear h3
          go_wp2_with fail
          refine (HC1.out).mono ?_
          rintro e wy ⟨r4, nb4, cap4, A4, K4, T4, rfl, hm', hnf4, hx, hi⟩
          have HI4 := hide hi
          have HE4 := hide (HE3.out.trans hx)
          have HM4 := hide hm'
          clear hi hx hm'
          go_wp2
          go_roundw
          case rel => exact ⟨k + 1, r4, nb4, cap4, A4, K4, T4, _, by omega, by go_num, rfl, hide (HM4.out.more (by omega)), hnf4, HE4, HI4⟩
          case measure => simp [intOf]; omega
        · rw [h3]
          have HI1 := hide (IsF.one HM3.out.inv)
          have HC1 : Hid (Calls Try.prog 43 #[.pointer (some ⟨g, 0, none⟩), .int .i64 r, .int .i64 v, .int .i64 1] wv (RQ w B g nb kb ib A (c + 128 * k + 64 + 64) A3 (iteF F (fun x => x iv) (fun _ => true)))) := hide (ite_rq HLT.out H6.out HM3.out hnf3 (by omega) HI2.out HI3.out HI1.out)
          clear h3
          go_wp2_with fail
          refine (HC1.out).mono ?_
          rintro e wy ⟨r4, nb4, cap4, A4, K4, T4, rfl, hm', hnf4, hx, hi⟩
          have HI4 := hide hi
          have HE4 := hide (HE3.out.trans hx)
          have HM4 := hide hm'
          clear hi hx hm'
          go_wp2
          go_roundw
          case rel => exact ⟨k + 1, r4, nb4, cap4, A4, K4, T4, _, by omega, by go_num, rfl, hide (HM4.out.more (by omega)), hnf4, HE4, HI4⟩
          case measure => simp [intOf]; omega
      · have hkm : m = k := by omega
        subst hkm
        have HF := hide (show SomeP w B g nb kb ib A (c + 128 * m) A1 (.returned (.int .i64 (r : Int))) wr from ⟨F, r, nb2, cap2, A2, K2, T2, rfl, HM.out, hnf, HE.out, HI.out⟩)
        go_wp2
        go_ret
        exact HF.out
end Go.Proofs.Ytoanimmlpfchjaa
