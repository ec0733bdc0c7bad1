/- A part of the proof: OpsQ, MsP, FibBuild. -/
import Derived.Test.YtifkacnoiocebaaGreatRs4
set_option linter.unusedVariables false
set_option linter.unusedSimpArgs false
set_option maxRecDepth 100000
set_option maxHeartbeats 8000000
namespace Go.Proofs.YtifkacnoiocebaaGreat
open Bdd Go.Maps Go.RowKit
def notF (F : Bdd.Fn) : Bdd.Fn := iteF F (fun _ => false) (fun _ => true)
def andF (F G : Bdd.Fn) : Bdd.Fn := iteF F G (fun _ => false)
def orF (F G : Bdd.Fn) : Bdd.Fn := iteF F (fun _ => true) G
def PC (P : Bdd.Fn → Prop) (F : Bdd.Fn) : Prop := ∀ G, Cof F G → P G
structure MT (w : World) (B g nb kb ib : Nat) (A : St) (P : Bdd.Fn → Prop) (w1 : World) (nb1 cap1 : Nat) (A1 : St) (K1 T1 : Tri → Option Value) : Prop where
  ext : Ext A A1
  nw : ∀ j, A.len ≤ j → j < A1.len → P (den A1.ns j)
  ar : ArenaAt w1 B g nb1 kb ib cap1 A1 K1 T1
  nbc : nb1 = nb ∨ w.heap.size ≤ nb1
  fm : Frm (Fp g nb kb ib) w w1
def MU (w : World) (B g nb kb ib : Nat) (A : St) (P : Bdd.Fn → Prop) (A1 : St) (F : Bdd.Fn) (e : Ending) (w2 : World) : Prop :=
  ∃ (r nb2 cap2 : Nat) (A2 : St) (K2 T2 : Tri → Option Value), e = .returned (.int .i64 (r : Int)) ∧ MT w B g nb kb ib A P w2 nb2 cap2 A2 K2 T2 ∧ Ext A1 A2 ∧ WF A2 r F
section
variable {w : World} {B g nb kb ib : Nat} {A : St} {P : Bdd.Fn → Prop} {w1 w2 : World} {nb1 cap1 : Nat} {A1 : St} {K1 T1 : Tri → Option Value}
theorem MT.inv (h : MT w B g nb kb ib A P w1 nb1 cap1 A1 K1 T1) : Inv A1 := h.ar.inv
theorem MT.below (h : MT w B g nb kb ib A P w1 nb1 cap1 A1 K1 T1) (hb : RowKit.Below w1.heap.size w1 w2) : MT w B g nb kb ib A P w2 nb1 cap1 A1 K1 T1 :=
  ⟨h.ext, h.nw, h.ar.below hb, h.nbc, h.fm.trans (Frm.of_below hb) (fun _ _ h => h)⟩
theorem MT.refl {cap : Nat} {K T : Tri → Option Value} (h : ArenaAt w B g nb kb ib cap A K T) (P : Bdd.Fn → Prop) : MT w B g nb kb ib A P w nb cap A K T := ⟨Ext.refl h.inv, fun j h1 h2 => by omega, h, .inl rfl, Frm.refl _ _⟩
theorem MT.base {w0 : World} (hb : RowKit.Below w0.heap.size w0 w) (h : MT w B g nb kb ib A P w1 nb1 cap1 A1 K1 T1) : MT w0 B g nb kb ib A P w1 nb1 cap1 A1 K1 T1 :=
  ⟨h.ext, h.nw, h.ar, h.nbc.imp id (fun h => by have := hb.size; omega), (Frm.of_below hb).trans h.fm (fun _ _ h => h)⟩
theorem MT.step {F G : Bdd.Fn} {k : Nat} {e : Ending} (hlt : nb < w.heap.size) (h : MT w B g nb kb ib A P w1 nb1 cap1 A1 K1 T1) (hi : IteP w1 B g nb1 kb ib A1 F k e w2) (hG : A1.full = false → F = G) (hP : PC P G) : MU w B g nb kb ib A P A1 G e w2 := by
  obtain ⟨r, nb2, cap2, A2, K2, T2, he, hr, har, hnb, hfm⟩ := hi
  have hs := h.fm.size
  refine ⟨r, nb2, cap2, A2, K2, T2, he, ⟨h.ext.trans hr.ext, fun j h1 h2 => ?_, har, ?_, h.fm.trans hfm (fun i hi hS => ?_)⟩, hr.ext, hr.lt, fun hf => (hr.eq hf).trans (hG (hr.ext.notFull hf))⟩
  · rcases Nat.lt_or_ge j A1.len with hl | hl
    · rw [hr.ext.den h.inv hl]; exact h.nw j h1 hl
    · cases hf : A1.full
      · rw [← hG hf] at hP
        exact hP _ (hr.new j hl h2)
      · have e1 := h.inv.full hf
        have e2 := hr.ext.inv.bound
        have e3 := hr.ext.most
        simp only [St.len] at *
        omega
  · rcases hnb with e5 | e5
    · rw [e5]; exact h.nbc
    · exact .inr (by omega)
  · rcases hS with e | e | e | e
    · exact .inl e
    · rcases h.nbc with e' | e'
      · exact .inr (.inl (e.trans e'))
      · omega
    · exact .inr (.inr (.inl e))
    · exact .inr (.inr (.inr e))
theorem ite_mt (hlt : nb < w.heap.size) (h : MT w B g nb kb ib A P w1 nb1 cap1 A1 K1 T1) {f a b : Nat} {F G H : Bdd.Fn} (hf : WF A1 f F) (ha : WF A1 a G) (hb : WF A1 b H) (hP : PC P (iteF F G H)) :
    Calls Tryz.prog 140 #[.pointer (some ⟨g, 0, none⟩), .int .i64 f, .int .i64 a, .int .i64 b] w1 (MU w B g nb kb ib A P A1 (iteF F G H)) := by
  refine (ite_walk _ w1 B g nb1 kb ib cap1 A1 K1 T1 h.ar f a b hf.1 ha.1 hb.1 (Nat.lt_succ_self _)).mono fun e w2 hi => ?_
  exact h.step hlt hi (fun hnf => by rw [hf.2 hnf, ha.2 hnf, hb.2 hnf]) hP
theorem put_mt (hlt : nb < w.heap.size) (h : MT w B g nb kb ib A P w1 nb1 cap1 A1 K1 T1) {f : Nat} {F : Bdd.Fn} (hf : WF A1 f F) (i : Nat) (b : Bool) (hi : i < A.vars) (hP : PC P (restr F i b)) :
    Calls Tryz.prog 141 #[.pointer (some ⟨g, 0, none⟩), .int .i64 f, .int .i64 i, .bool b] w1 (MU w B g nb kb ib A P A1 (restr F i b)) := by
  refine (put_walk h.ar f i b hf.1 (by rw [h.ext.vars]; exact hi)).mono fun e w2 hp => ?_
  exact h.step hlt hp (fun hnf => by rw [hf.2 hnf]) hP
theorem var_mt (hlt : nb < w.heap.size) (h : MT w B g nb kb ib A P w1 nb1 cap1 A1 K1 T1) (i : Nat) (hi : i < A.vars) (hP : PC P (fun x => x i)) :
    Calls Tryz.prog 139 #[.pointer (some ⟨g, 0, none⟩), .int .i64 i, .int .i64 0, .int .i64 1] w1 (MU w B g nb kb ib A P A1 (fun x => x i)) := by
  have ok := h.inv.ok
  have hv : A1.vars = A.vars := h.ext.vars
  have htwo := ok.two
  have hv0 := var_zero ok
  have hv1 := var_one ok
  refine (made_walk h.ar i 0 1 (by omega) (by omega) (by omega) (by omega) (by omega)).mono ?_
  rintro e w2 ⟨r, nb2, cap2, A2, K2, rfl, hmade, har, hnb, hfm⟩
  have hr : Res A1 A2 r (fun x => x i) i := res_node h.inv (by omega) (fun x y hxy => hxy i (Nat.le_refl _)) (L := fun _ => false) (H := fun _ => true) (by funext x; simp [upd]) (by funext x; simp [upd])
      (res_there h.inv (by simp only [St.len]; omega) (by rw [hv0]; omega) (fun _ => by funext x; simp [den_zero])) (res_there h.inv (by simp only [St.len]; omega) (by rw [hv1]; omega) (fun _ => by funext x; simp [den_one])) hmade
  exact h.step hlt ⟨r, nb2, cap2, A2, K2, T1, rfl, hr, har, hnb, hfm⟩ (fun _ => rfl) hP
end
def OpT (w : World) (B g nb kb ib : Nat) (A : St) (F : Bdd.Fn) (P : Bdd.Fn → Prop) (e : Ending) (W' : World) : Prop :=
  ∃ (r nb2 cap2 : Nat) (A2 : St) (K2 T2 : Tri → Option Value), MT w B g nb kb ib A P W' nb2 cap2 (doneSt A2) K2 T2 ∧ Inv A2 ∧ WF A2 r F ∧ (A2.full = true → e = .returned (.tuple #[.int .i64 0, .int .i64 6])) ∧ (A2.full = false → e = .returned (.tuple #[.int .i64 (r : Int), .int .i64 0]))
theorem MT.done {w : World} {B g nb kb ib : Nat} {A : St} {P : Bdd.Fn → Prop} {w1 w2 : World} {nb1 cap1 r : Nat} {A1 : St} {K1 T1 : Tri → Option Value} {F : Bdd.Fn} {e : Ending} (hlt : nb < w.heap.size) (hA : A.full = false) (h : MT w B g nb kb ib A P w1 nb1 cap1 A1 K1 T1) (hw : WF A1 r F)
    (h1 : A1.full = true → e = .returned (.tuple #[.int .i64 0, .int .i64 6])) (h2 : A1.full = false → e = .returned (.tuple #[.int .i64 (r : Int), .int .i64 0])) (ha : ArenaAt w2 B g nb1 kb ib cap1 (doneSt A1) K1 T1) (hf : Frm (Fp g nb1 kb ib) w1 w2) : OpT w B g nb kb ib A F P e w2 := by
  have hs := h.fm.size
  refine ⟨r, nb1, cap1, A1, K1, T1, ⟨⟨h.ext.vars, h.ext.most, h.ext.ns, fun h => (by rw [hA] at h; cases h), ha.inv⟩, h.nw, ha, h.nbc, h.fm.trans hf (fun i hi hS => ?_)⟩, h.inv, hw, h1, h2⟩
  rcases hS with e | e | e | e
  · exact .inl e
  · rcases h.nbc with e' | e'
    · exact .inr (.inl (e.trans e'))
    · omega
  · exact .inr (.inr (.inl e))
  · exact .inr (.inr (.inr e))
theorem OpT.cases {w : World} {B g nb kb ib : Nat} {A : St} {F : Bdd.Fn} {P : Bdd.Fn → Prop} {e : Ending} {W' : World} (h : OpT w B g nb kb ib A F P e W') :
    ∃ (nb2 cap2 : Nat) (A2 : St) (K2 T2 : Tri → Option Value), MT w B g nb kb ib A P W' nb2 cap2 A2 K2 T2 ∧ A2.full = false ∧ ((∃ r : Nat, e = .returned (.tuple #[.int .i64 (r : Int), .int .i64 0]) ∧ IsF A2 r F) ∨ (e = .returned (.tuple #[.int .i64 0, .int .i64 6]) ∧ A2.len = A2.most)) := by
  obtain ⟨r, nb2, cap2, A2, K2, T2, hm, hi, hw, h1, h2⟩ := h
  cases hf : A2.full
  · rw [doneSt_id hf] at hm
    exact ⟨nb2, cap2, A2, K2, T2, hm, hf, .inl ⟨r, h2 hf, hw.1, hw.2 hf⟩⟩
  · exact ⟨nb2, cap2, doneSt A2, K2, T2, hm, rfl, .inr ⟨h1 hf, hi.full hf⟩⟩
structure SwapPC (P : Bdd.Fn → Prop) (F : Bdd.Fn) (i j : Nat) : Prop where
  p1 : PC P (fun x => x i)
  p2 : PC P (fun x => x j)
  p3 : PC P (restr F i false)
  p4 : PC P (restr F i true)
  p5 : PC P (restr (restr F i false) j true)
  p6 : PC P (restr (restr F i false) j false)
  p7 : PC P (iteF (fun x => x i) (restr (restr F i false) j true) (restr (restr F i false) j false))
  p8 : PC P (restr (restr F i true) j true)
  p9 : PC P (restr (restr F i true) j false)
  p10 : PC P (iteF (fun x => x i) (restr (restr F i true) j true) (restr (restr F i true) j false))
  p11 : PC P (iteF (fun x => x j) (iteF (fun x => x i) (restr (restr F i true) j true) (restr (restr F i true) j false)) (iteF (fun x => x i) (restr (restr F i false) j true) (restr (restr F i false) j false)))
theorem opExists_p {w : World} {B g nb kb ib cap : Nat} {A : St} {K T : Tri → Option Value} (h : ArenaAt w B g nb kb ib cap A K T) (hA : A.full = false) (f i : Nat) (F : Bdd.Fn) (hf : IsF A f F) (hi : i < A.vars) {P : Bdd.Fn → Prop} (h1P : PC P (restr F i false)) (h2P : PC P (restr F i true)) (h3P : PC P (existsF F i)) :
    Calls Tryz.prog 125 #[.pointer (some ⟨g, 0, none⟩), .int .i64 f, .int .i64 i] w (OpT w B g nb kb ib A (existsF F i) P) := by
  have hlen := h.lenle
  have hvs := h.vs
  obtain ⟨hb0, ha0⟩ := ask2 h (.cells #[.int .i64 f] 3) (.cells #[.int .i64 i] 3)
  have hfl := hf.1
  have e1 : ((w.alloc (.cells #[.int .i64 f] 3)).alloc (.cells #[.int .i64 i] 3)).heap[w.heap.size]? = some (.cells #[.int .i64 f] 3 (0, 0)) := (RowKit.Below.heap_alloc _ _ _ (by simp)).trans (heap_alloc_new w _)
  have e2 : ((w.alloc (.cells #[.int .i64 f] 3)).alloc (.cells #[.int .i64 i] 3)).heap[w.heap.size + 1]? = some (.cells #[.int .i64 i] 3 (0, 0)) := by
    have := heap_alloc_new (w.alloc (.cells #[.int .i64 f] 3)) (.cells #[.int .i64 i] 3)
    simpa using this
  have HI1 := hide (ints1N w.heap.size ((w.alloc (.cells #[.int .i64 f] 3)).alloc (.cells #[.int .i64 i] 3)).heap.size (by simp; omega) f (by omega) 3 e1)
  have HI2 := hide (ints1N (w.heap.size + 1) ((w.alloc (.cells #[.int .i64 f] 3)).alloc (.cells #[.int .i64 i] 3)).heap.size (by simp) i (by omega) 3 e2)
  have HOK := hide (show AskOk A [(f : Int)] [(i : Int)] from ⟨fun x hx => by
    simp only [List.mem_cons, List.mem_nil_iff, or_false] at hx
    rw [hx]; omega, fun x hx => by
    simp only [List.mem_cons, List.mem_nil_iff, or_false] at hx
    rw [hx]; omega⟩)
  have HA0 := hide ha0
  have HB0 := hide hb0
  have HM0 := hide (MT.base hb0 (MT.refl ha0 P))
  have HLT := hide h.lts.2.1
  have HWF := hide (WF.of hf)
  have HI := hide hi
  have HAF := hide hA
  have HINV := hide h.inv
  clear h hf hi hA e1 e2 hb0 ha0 hfl
  go_enter Tryz.func125, Tryz.ntmps125
  go_wp2_with fail
  refine (ask_walk HA0.out _ _ _ _ 1 1 1 1 (by omega) (by omega) HI1.out HI2.out).mono ?_
  rintro e wa ⟨he, _, hb⟩
  obtain rfl := he HOK.out
  have HM1 := hide (HM0.out.below hb)
  clear hb he HI1 HI2 HA0 HM0
  go_wp2_with fail
  refine (put_mt HLT.out HM1.out HWF.out i false HI.out h1P).mono ?_
  rintro e wb ⟨r2, nb2, cap2, A2, K2, T2, rfl, hm2, hx2, hw2⟩
  have HM2 := hide hm2
  have HX2 := hide hx2
  have HR2 := hide hw2
  clear hm2 hx2 hw2
  have HWF2 := hide (HWF.out.ext HM1.out.inv HX2.out)
  go_wp2_with fail
  refine (put_mt HLT.out HM2.out HWF2.out i true HI.out h2P).mono ?_
  rintro e wc ⟨r3, nb3, cap3, A3, K3, T3, rfl, hm3, hx3, hw3⟩
  have HM3 := hide hm3
  have HX3 := hide hx3
  have HR3 := hide hw3
  clear hm3 hx3 hw3
  have HR2b := hide (HR2.out.ext HM2.out.inv HX3.out)
  have HO3 := hide (WF.of (IsF.one HM3.out.inv))
  have HC : Hid (Calls Tryz.prog 140 #[.pointer (some ⟨g, 0, none⟩), .int .i64 r2, .int .i64 1, .int .i64 r3] wc (MU w B g nb kb ib A P A3 (iteF (restr F i false) (fun _ => true) (restr F i true)))) := hide (ite_mt HLT.out HM3.out HR2b.out HO3.out HR3.out h3P)
  clear HM1 HM2 HX2 HX3 HWF2 HR2 HR2b HO3 HR3
  go_wp2_with fail
  refine HC.out.mono ?_
  rintro e wd ⟨r4, nb4, cap4, A4, K4, T4, rfl, hm4, hx4, hw4⟩
  have HM4 := hide hm4
  have HX4 := hide hx4
  have HR4 := hide hw4
  clear hm4 hx4 hw4
  go_wp2_with fail
  refine (done_walk HM4.out.ar r4).mono ?_
  rintro e we ⟨h1, h2, har, hfm⟩
  have HF := hide (HM4.out.done HLT.out HAF.out HR4.out h1 h2 har hfm)
  clear har hfm
  cases hfull : A4.full
  · obtain rfl := h2 hfull
    go_wp2
    go_ret2
    exact HF.out
  · obtain rfl := h1 hfull
    go_wp2
    go_ret2
    exact HF.out
theorem opSwap_diff_p {w : World} {B g nb kb ib cap : Nat} {A : St} {K T : Tri → Option Value} (h : ArenaAt w B g nb kb ib cap A K T) (hA : A.full = false) (f i j : Nat) (F : Bdd.Fn) (hf : IsF A f F) (hi : i < A.vars) (hj : j < A.vars) (hij : i ≠ j) {P : Bdd.Fn → Prop} (hP : SwapPC P F i j) :
    Calls Tryz.prog 124 #[.pointer (some ⟨g, 0, none⟩), .int .i64 f, .int .i64 i, .int .i64 j] w (OpT w B g nb kb ib A (swapF F i j) P) := by
  have HFF := hide (show swapF F i j = iteF (fun x => x j) (iteF (fun x => x i) (restr (restr F i true) j true) (restr (restr F i true) j false)) (iteF (fun x => x i) (restr (restr F i false) j true) (restr (restr F i false) j false)) from by
    funext x
    simp only [swapF, iteF, restr]
    rcases Bool.eq_false_or_eq_true (x i) with h1 | h1 <;> rcases Bool.eq_false_or_eq_true (x j) with h2 | h2 <;> simp [h1, h2])
  rw [HFF.out]
  have hij' : ((i : Int) == (j : Int)) = false := by simp; omega
  have HPP := hide hP
  clear hij hP
  have hlen := h.lenle
  have hvs := h.vs
  obtain ⟨hb0, ha0⟩ := ask2 h (.cells #[.int .i64 f] 3) (.cells #[.int .i64 i, .int .i64 j] 3)
  have hfl := hf.1
  have e1 : ((w.alloc (.cells #[.int .i64 f] 3)).alloc (.cells #[.int .i64 i, .int .i64 j] 3)).heap[w.heap.size]? = some (.cells #[.int .i64 f] 3 (0, 0)) := (RowKit.Below.heap_alloc _ _ _ (by simp)).trans (heap_alloc_new w _)
  have e2 : ((w.alloc (.cells #[.int .i64 f] 3)).alloc (.cells #[.int .i64 i, .int .i64 j] 3)).heap[w.heap.size + 1]? = some (.cells #[.int .i64 i, .int .i64 j] 3 (0, 0)) := by
    have := heap_alloc_new (w.alloc (.cells #[.int .i64 f] 3)) (.cells #[.int .i64 i, .int .i64 j] 3)
    simpa using this
  have HI1 := hide (ints1N w.heap.size ((w.alloc (.cells #[.int .i64 f] 3)).alloc (.cells #[.int .i64 i, .int .i64 j] 3)).heap.size (by simp; omega) f (by omega) 3 e1)
  have HI2 := hide (ints2 w ((w.alloc (.cells #[.int .i64 f] 3)).alloc (.cells #[.int .i64 i, .int .i64 j] 3)).heap.size (w.heap.size + 1) (by simp) i j (by omega) (by omega) 3 e2)
  have HOK := hide (show AskOk A [(f : Int)] [(i : Int), (j : Int)] from ⟨fun x hx => by
    simp only [List.mem_cons, List.mem_nil_iff, or_false] at hx
    rw [hx]; omega, fun x hx => by
    simp only [List.mem_cons, List.mem_nil_iff, or_false] at hx
    rcases hx with rfl | rfl <;> omega⟩)
  have HA0 := hide ha0
  have HB0 := hide hb0
  have HM0 := hide (MT.base hb0 (MT.refl ha0 P))
  have HLT := hide h.lts.2.1
  have HWF := hide (WF.of hf)
  have HAF := hide hA
  have HI := hide (And.intro hi hj)
  clear h hf hi hj hA e1 e2 hb0 ha0 hfl
  go_enter Tryz.func124, Tryz.ntmps124
  go_wp2_with fail
  refine (ask_walk HA0.out _ _ _ _ 1 2 1 2 (by omega) (by omega) HI1.out HI2.out).mono ?_
  rintro e wa ⟨he, _, hb⟩
  obtain rfl := he HOK.out
  have HM1 := hide (HM0.out.below hb)
  clear hb he HI1 HI2 HA0 HM0
  go_wp2_with fail
  refine (var_mt HLT.out HM1.out i HI.out.1 HPP.out.p1).mono ?_
  rintro e w2 ⟨r2, nb2, cap2, A2, K2, T2, rfl, hm2, hx2, hw2⟩
  have HM2 := hide hm2
  have HX2 := hide hx2
  have HR2 := hide hw2
  clear hm2 hx2 hw2
  have HWF2 := hide (HWF.out.ext HM1.out.inv HX2.out)
  clear HM1 HX2 HWF
  go_wp2_with fail
  refine (var_mt HLT.out HM2.out j HI.out.2 HPP.out.p2).mono ?_
  rintro e w3 ⟨r3, nb3, cap3, A3, K3, T3, rfl, hm3, hx3, hw3⟩
  have HM3 := hide hm3
  have HX3 := hide hx3
  have HR3 := hide hw3
  clear hm3 hx3 hw3
  have HR2_3 := hide (HR2.out.ext HM2.out.inv HX3.out)
  clear HR2
  have HWF2_3 := hide (HWF2.out.ext HM2.out.inv HX3.out)
  clear HWF2
  clear HM2 HX3
  go_wp2_with fail
  refine (put_mt HLT.out HM3.out HWF2_3.out i false HI.out.1 HPP.out.p3).mono ?_
  rintro e w4 ⟨r4, nb4, cap4, A4, K4, T4, rfl, hm4, hx4, hw4⟩
  have HM4 := hide hm4
  have HX4 := hide hx4
  have HR4 := hide hw4
  clear hm4 hx4 hw4
  have HR2_3_4 := hide (HR2_3.out.ext HM3.out.inv HX4.out)
  clear HR2_3
  have HR3_4 := hide (HR3.out.ext HM3.out.inv HX4.out)
  clear HR3
  have HWF2_3_4 := hide (HWF2_3.out.ext HM3.out.inv HX4.out)
  clear HWF2_3
  clear HM3 HX4
  go_wp2_with fail
  refine (put_mt HLT.out HM4.out HWF2_3_4.out i true HI.out.1 HPP.out.p4).mono ?_
  rintro e w5 ⟨r5, nb5, cap5, A5, K5, T5, rfl, hm5, hx5, hw5⟩
  have HM5 := hide hm5
  have HX5 := hide hx5
  have HR5 := hide hw5
  clear hm5 hx5 hw5
  have HR2_3_4_5 := hide (HR2_3_4.out.ext HM4.out.inv HX5.out)
  clear HR2_3_4
  have HR3_4_5 := hide (HR3_4.out.ext HM4.out.inv HX5.out)
  clear HR3_4
  have HR4_5 := hide (HR4.out.ext HM4.out.inv HX5.out)
  clear HR4
  clear HM4 HX5 HWF2_3_4
  go_wp2_with fail
  refine (put_mt HLT.out HM5.out HR4_5.out j true HI.out.2 HPP.out.p5).mono ?_
  rintro e w6 ⟨r6, nb6, cap6, A6, K6, T6, rfl, hm6, hx6, hw6⟩
  have HM6 := hide hm6
  have HX6 := hide hx6
  have HR6 := hide hw6
  clear hm6 hx6 hw6
  have HR2_3_4_5_6 := hide (HR2_3_4_5.out.ext HM5.out.inv HX6.out)
  clear HR2_3_4_5
  have HR3_4_5_6 := hide (HR3_4_5.out.ext HM5.out.inv HX6.out)
  clear HR3_4_5
  have HR4_5_6 := hide (HR4_5.out.ext HM5.out.inv HX6.out)
  clear HR4_5
  have HR5_6 := hide (HR5.out.ext HM5.out.inv HX6.out)
  clear HR5
  clear HM5 HX6
  go_wp2_with fail
  refine (put_mt HLT.out HM6.out HR4_5_6.out j false HI.out.2 HPP.out.p6).mono ?_
  rintro e w7 ⟨r7, nb7, cap7, A7, K7, T7, rfl, hm7, hx7, hw7⟩
  have HM7 := hide hm7
  have HX7 := hide hx7
  have HR7 := hide hw7
  clear hm7 hx7 hw7
  have HR2_3_4_5_6_7 := hide (HR2_3_4_5_6.out.ext HM6.out.inv HX7.out)
  clear HR2_3_4_5_6
  have HR3_4_5_6_7 := hide (HR3_4_5_6.out.ext HM6.out.inv HX7.out)
  clear HR3_4_5_6
  have HR5_6_7 := hide (HR5_6.out.ext HM6.out.inv HX7.out)
  clear HR5_6
  have HR6_7 := hide (HR6.out.ext HM6.out.inv HX7.out)
  clear HR6
  clear HM6 HX7 HR4_5_6
  go_wp2_with fail
  refine (ite_mt HLT.out HM7.out HR2_3_4_5_6_7.out HR6_7.out HR7.out HPP.out.p7).mono ?_
  rintro e w8 ⟨r8, nb8, cap8, A8, K8, T8, rfl, hm8, hx8, hw8⟩
  have HM8 := hide hm8
  have HX8 := hide hx8
  have HR8 := hide hw8
  clear hm8 hx8 hw8
  have HR2_3_4_5_6_7_8 := hide (HR2_3_4_5_6_7.out.ext HM7.out.inv HX8.out)
  clear HR2_3_4_5_6_7
  have HR3_4_5_6_7_8 := hide (HR3_4_5_6_7.out.ext HM7.out.inv HX8.out)
  clear HR3_4_5_6_7
  have HR5_6_7_8 := hide (HR5_6_7.out.ext HM7.out.inv HX8.out)
  clear HR5_6_7
  clear HM7 HX8 HR6_7 HR7
  go_wp2_with fail
  refine (put_mt HLT.out HM8.out HR5_6_7_8.out j true HI.out.2 HPP.out.p8).mono ?_
  rintro e w9 ⟨r9, nb9, cap9, A9, K9, T9, rfl, hm9, hx9, hw9⟩
  have HM9 := hide hm9
  have HX9 := hide hx9
  have HR9 := hide hw9
  clear hm9 hx9 hw9
  have HR2_3_4_5_6_7_8_9 := hide (HR2_3_4_5_6_7_8.out.ext HM8.out.inv HX9.out)
  clear HR2_3_4_5_6_7_8
  have HR3_4_5_6_7_8_9 := hide (HR3_4_5_6_7_8.out.ext HM8.out.inv HX9.out)
  clear HR3_4_5_6_7_8
  have HR5_6_7_8_9 := hide (HR5_6_7_8.out.ext HM8.out.inv HX9.out)
  clear HR5_6_7_8
  have HR8_9 := hide (HR8.out.ext HM8.out.inv HX9.out)
  clear HR8
  clear HM8 HX9
  go_wp2_with fail
  refine (put_mt HLT.out HM9.out HR5_6_7_8_9.out j false HI.out.2 HPP.out.p9).mono ?_
  rintro e w10 ⟨r10, nb10, cap10, A10, K10, T10, rfl, hm10, hx10, hw10⟩
  have HM10 := hide hm10
  have HX10 := hide hx10
  have HR10 := hide hw10
  clear hm10 hx10 hw10
  have HR2_3_4_5_6_7_8_9_10 := hide (HR2_3_4_5_6_7_8_9.out.ext HM9.out.inv HX10.out)
  clear HR2_3_4_5_6_7_8_9
  have HR3_4_5_6_7_8_9_10 := hide (HR3_4_5_6_7_8_9.out.ext HM9.out.inv HX10.out)
  clear HR3_4_5_6_7_8_9
  have HR8_9_10 := hide (HR8_9.out.ext HM9.out.inv HX10.out)
  clear HR8_9
  have HR9_10 := hide (HR9.out.ext HM9.out.inv HX10.out)
  clear HR9
  clear HM9 HX10 HR5_6_7_8_9
  go_wp2_with fail
  refine (ite_mt HLT.out HM10.out HR2_3_4_5_6_7_8_9_10.out HR9_10.out HR10.out HPP.out.p10).mono ?_
  rintro e w11 ⟨r11, nb11, cap11, A11, K11, T11, rfl, hm11, hx11, hw11⟩
  have HM11 := hide hm11
  have HX11 := hide hx11
  have HR11 := hide hw11
  clear hm11 hx11 hw11
  have HR3_4_5_6_7_8_9_10_11 := hide (HR3_4_5_6_7_8_9_10.out.ext HM10.out.inv HX11.out)
  clear HR3_4_5_6_7_8_9_10
  have HR8_9_10_11 := hide (HR8_9_10.out.ext HM10.out.inv HX11.out)
  clear HR8_9_10
  clear HM10 HX11 HR9_10 HR10 HR2_3_4_5_6_7_8_9_10
  go_wp2_with fail
  refine (ite_mt HLT.out HM11.out HR3_4_5_6_7_8_9_10_11.out HR11.out HR8_9_10_11.out HPP.out.p11).mono ?_
  rintro e w12 ⟨r12, nb12, cap12, A12, K12, T12, rfl, hm12, hx12, hw12⟩
  have HM12 := hide hm12
  have HX12 := hide hx12
  have HR12 := hide hw12
  clear hm12 hx12 hw12
  clear HM11 HX12 HR3_4_5_6_7_8_9_10_11 HR11 HR8_9_10_11
  go_wp2_with fail
  refine (done_walk HM12.out.ar r12).mono ?_
  rintro e we ⟨h1, h2, har, hfm⟩
  have HF := hide (HM12.out.done HLT.out HAF.out HR12.out h1 h2 har hfm)
  clear har hfm
  cases hfull : A12.full
  · obtain rfl := h2 hfull
    go_wp2
    go_ret2
    exact HF.out
  · obtain rfl := h1 hfull
    go_wp2
    go_ret2
    exact HF.out
def setTo (P : Nat → Bool) : Nat → Nat
  | 0 => 0
  | k + 1 => if P k then setTo P k ||| 2 ^ k else setTo P k
theorem setTo_lt (P : Nat → Bool) : ∀ k, setTo P k < 2 ^ k := by
  intro k
  induction k with
  | zero => simp [setTo]
  | succ k ih =>
    have : setTo P k < 2 ^ (k + 1) := Nat.lt_of_lt_of_le ih (Nat.pow_le_pow_right (by omega) (by omega))
    unfold setTo
    split
    · exact Nat.or_lt_two_pow this (Nat.pow_lt_pow_right (by omega) (by omega))
    · exact this
theorem setTo_bit (P : Nat → Bool) : ∀ k j, (setTo P k).testBit j = (decide (j < k) && P j) := by
  intro k
  induction k with
  | zero => intro j; simp [setTo]
  | succ k ih =>
    intro j
    unfold setTo
    by_cases hj : j = k
    · subst hj
      cases hP : P j
      · simp [ih]
      · simp [Nat.testBit_or, ih, Nat.testBit_two_pow]
    · have e1 : decide (j < k + 1) = decide (j < k) := by
        by_cases h : j < k
        · simp [h]; omega
        · simp [h]; omega
      split
      · rw [Nat.testBit_or, ih, e1, Nat.testBit_two_pow]
        have : decide (k = j) = false := by simp; omega
        rw [this]; simp
      · rw [ih, e1]
theorem setTo_lt16 (P : Nat → Bool) {k : Nat} (hk : k ≤ 16) : setTo P k < 65536 := Nat.lt_of_lt_of_le (setTo_lt P k) (Nat.pow_le_pow_right (by omega) hk : 2 ^ k ≤ 2 ^ 16)
def dstB (l : List RouteV) (port : Int) (k : Nat) : Bool := decide (0 ≤ (outF (k : Int) l).2) && ((outF (k : Int) l).1 == port)
def MBox (w : World) (N d : Nat) : Prop := w.cell? ⟨N, 0, none⟩ = some (.int .u16 65535) ∧ w.cell? ⟨N, 1, none⟩ = some (.int .u16 d) ∧ w.cell? ⟨N, 2, none⟩ = some (.int .u8 255) ∧ w.cell? ⟨N, 3, none⟩ = some (.int .u8 255) ∧ w.frozen? ⟨N, 1, none⟩ = false
theorem MBox.below {w w' : World} {B N d : Nat} (h : MBox w N d) (hB : RowKit.Below B w w') (hN : N < B) : MBox w' N d := by
  have e : ∀ o, w'.cell? ⟨N, o, none⟩ = w.cell? ⟨N, o, none⟩ := fun o => hB.cell (p := ⟨N, o, none⟩) hN
  unfold MBox
  rw [e, e, e, e, hB.frozen (p := ⟨N, 1, none⟩) hN]
  exact h
theorem MBox.drew {w : World} {N d : Nat} (h : MBox w N d) : MBox w.drew N d := h
theorem MBox.set {w : World} {N d d' : Nat} (h : MBox w N d) : MBox (w.setCell ⟨N, 1, none⟩ (.int .u16 d')) N d' := by
  have ho : ∀ o, o ≠ 1 → (w.setCell ⟨N, 1, none⟩ (.int .u16 (d' : Int))).cell? ⟨N, o, none⟩ = w.cell? ⟨N, o, none⟩ := fun o ho => World.cell?_setCell_other w _ _ _ (fun e => by simp only [Addr.mk.injEq] at e; omega)
  obtain ⟨h0, h1, h2, h3, h4⟩ := h
  exact ⟨by rw [ho 0 (by omega)]; exact h0, World.cell?_setCell_same w ⟨N, 1, none⟩ _ h1, by rw [ho 2 (by omega)]; exact h2, by rw [ho 3 (by omega)]; exact h3, by rw [World.frozen?_setCell]; exact h4⟩
theorem MBox.set' {w : World} {N d d' : Nat} {x : Int} (h : MBox w N d) (hx : x = (d' : Int)) : MBox (w.setCell ⟨N, 1, none⟩ (.int .u16 x)) N d' := hx ▸ h.set
theorem BP.base {w w1 : World} {B g nb kb ib : Nat} {A : St} {F : Bdd.Fn} {P : Bdd.Fn → Prop} {e : Ending} {W' : World} (hb : RowKit.Below w.heap.size w w1) (h : BP w1 B g nb kb ib A F P e W') : BP w B g nb kb ib A F P e W' := by
  obtain ⟨nb2, cap2, A2, K2, T2, h1, h2, h3, h4, h5, h6, h7⟩ := h
  exact ⟨nb2, cap2, A2, K2, T2, h1, h2, h3, h4, h5.imp id (fun h => by have := hb.size; omega), (Frm.of_below hb).trans h6 (fun _ _ h => h), h7⟩
theorem or_shl (s k : Nat) (hs : s < 65536) (hk : k < 16) : Go.bits .or .u16 (s : Int) (IntKind.u16.wrap (2 ^ k)) = ((s ||| 2 ^ k : Nat) : Int) := by
  have h2 : (2 : Nat) ^ k < 65536 := Nat.pow_lt_pow_right (by omega) hk
  have e : IntKind.u16.wrap ((2 : Int) ^ k) = ((2 ^ k : Nat) : Int) := by
    have : ∀ i : Fin 16, IntKind.u16.wrap ((2 : Int) ^ i.val) = ((2 ^ i.val : Nat) : Int) := by decide +kernel
    exact this ⟨k, hk⟩
  rw [e]; exact u16_or s (2 ^ k) hs h2
theorem fibBuild_walk {w : World} {B g nb kb ib cap : Nat} {A : St} {K T : Tri → Option Value} (h : ArenaAt w B g nb kb ib cap A K T) (hA : A.full = false) (hv : 14 ≤ A.vars) (l : List RouteV) (a : Option Addr) (n c : Nat) (port : Int)
    (hn : n ≤ 9223372036854775807) (hnc : n ≤ c) (hl : SlAt RouteV.cells 3 w w.heap.size a n l) (hok : ∀ r ∈ l, r.ok) (hc : checkF l = 0) :
    Calls Tryz.prog 93 #[.pointer (some ⟨g, 0, none⟩), .slice a n c, .int .i64 port] w (BP w B g nb kb ib A (outs (partL 65535 (setTo (dstB l port) 16) 255 255)) (NewB (partL 65535 (setTo (dstB l port) 16) 255 255))) := by
  have HC := hide (fun w1 (hb : RowKit.Below w.heap.size w w1) => check22_any l a n c w1 hnc (hl.below hb hb.size) hok)
  have HO := hide (fun w1 (k : Nat) (hk : k < 16) (hb : RowKit.Below w.heap.size w w1) => out_any l a n c (k : Int) w1 hn ⟨by omega, by omega⟩ (hl.below hb hb.size) hok)
  have HE := hide hc
  have H := hide h
  have HAV := hide (And.intro hA hv)
  clear hl hok hc h hA hv
  go_enter Tryz.func93, Tryz.ntmps93
  go_wp2_with fail
  refine (HC.out _ (RowKit.Below.refl _ _)).mono ?_
  rintro e w1 ⟨rfl, hb1⟩
  rw [HE.out]
  have HB := hide hb1
  clear hb1
  go_wp2_with fail
  refine (all_walk _).mono ?_
  rintro e w2 ⟨rfl, hb2⟩
  have HB2 := hide (HB.out.trans (hb2.mono HB.out.size))
  clear hb2
  have hsz2 := HB2.out.size
  go_wp2
  have hbx := heap_alloc_new w2 (.cells #[.int .u16 65535, .int .u16 0, .int .u8 255, .int .u8 255] 32)
  have HM0 : Hid (MBox (w2.alloc (.cells #[.int .u16 65535, .int .u16 0, .int .u8 255, .int .u8 255] 32)) w2.heap.size (setTo (dstB l port) 0)) := hide
    ⟨by rw [cell_of_row _ _ _ _ _ _ hbx]; rfl, by rw [cell_of_row _ _ _ _ _ _ hbx]; rfl, by rw [cell_of_row _ _ _ _ _ _ hbx]; rfl, by rw [cell_of_row _ _ _ _ _ _ hbx]; rfl, by unfold World.frozen?; rw [hbx]; simp⟩
  clear hbx
  obtain ⟨N, hN⟩ : ∃ N, w2.heap.size = N := ⟨_, rfl⟩
  have HB3 := hide (HB2.out.alloc hsz2 (.cells #[.int .u16 65535, .int .u16 0, .int .u8 255, .int .u8 255] 32))
  have hN3 : N < (w2.alloc (.cells #[.int .u16 65535, .int .u16 0, .int .u8 255, .int .u8 255] 32)).heap.size := by simp; omega
  rw [hN] at HM0 hsz2 ⊢
  generalize w2.alloc _ = w3 at *
  clear hN HB2 HB
  go_loopw [20] (fun i wr => ∃ k : Nat, k ≤ 16 ∧ i = .int .i64 k ∧ Hid (MBox wr N (setTo (dstB l port) k)) ∧ RowKit.Below w.heap.size w wr ∧ N < wr.heap.size) (fun i _ => 16 - (intOf i).toNat)
  case atStart => exact ⟨0, Nat.zero_le _, rfl, HM0, HB3.out, hN3⟩
  case round =>
    clear HM0 HB3 hN3
    obtain ⟨k, hk, rfl, HM, hb, hNr⟩ := hrel
    have HBR := hide hb
    clear hb
    by_cases hlt : k < 16
    · go_wp2_with fail
      refine (HO.out _ k hlt HBR.out).mono ?_
      rintro e w4 ⟨rfl, hb4⟩
      have HM4 := hide (HM.out.below hb4 hNr)
      have HB4 := hide (HBR.out.trans (hb4.mono HBR.out.size))
      have hN4 : N < w4.heap.size := Nat.lt_of_lt_of_le hNr hb4.size
      clear hb4 HBR HM hNr
      cases hp1 : decide (0 ≤ (outF (k : Int) l).2)
      · have HS := hide (show setTo (dstB l port) (k + 1) = setTo (dstB l port) k from by simp only [setTo, dstB, hp1]; simp)
        go_wp2
        go_roundw
        case rel => exact ⟨k + 1, by omega, by go_num, HS.out.symm ▸ HM4, HB4.out, hN4⟩
        case measure => simp [intOf]; omega
      cases hp2 : ((outF (k : Int) l).1 == port)
      · have HS := hide (show setTo (dstB l port) (k + 1) = setTo (dstB l port) k from by simp only [setTo, dstB, hp1, hp2]; simp)
        go_wp2
        go_roundw
        case rel => exact ⟨k + 1, by omega, by go_num, HS.out.symm ▸ HM4, HB4.out, hN4⟩
        case measure => simp [intOf]; omega
      have HS := hide (show setTo (dstB l port) (k + 1) = setTo (dstB l port) k ||| 2 ^ k from by simp only [setTo, dstB, hp1, hp2]; simp)
      have HX := hide (or_shl (setTo (dstB l port) k) k (setTo_lt16 _ hk) hlt)
      obtain ⟨y0, y1, y2, y3, y4⟩ := HM4.out
      go_wp2
      go_region
      all_goals
        go_wp2
        go_roundw
        case rel => exact ⟨k + 1, by omega, by go_num, hide (by rw [HS.out]; exact (HM4.out.set' HX.out).drew), (HB4.out.setCell hsz2 _).drew, by simp [World.setCell]; exact hN4⟩
        case measure => simp [intOf]; omega
    · have hk16 : k = 16 := by omega
      subst hk16
      obtain ⟨y0, y1, y2, y3, y4⟩ := HM.out
      have HBW : Hid (Calls Tryz.prog 88 #[.pointer (some ⟨g, 0, none⟩), .agg #[.int .u16 65535, .int .u16 (setTo (dstB l port) 16 : Nat), .int .u8 255, .int .u8 255]] wr (BP wr B g nb kb ib A (outs (partL 65535 (setTo (dstB l port) 16) 255 255)) (NewB (partL 65535 (setTo (dstB l port) 16) 255 255)))) :=
        hide (build_walk (H.out.below HBR.out) HAV.out.1 HAV.out.2 65535 (setTo (dstB l port) 16) 255 255 (by omega) (setTo_lt16 _ (Nat.le_refl _)) (by omega) (by omega))
      go_wp2_with fail
      refine HBW.out.mono ?_
      rintro e w5 hbp
      have HF := hide (hbp.base HBR.out)
      obtain ⟨_, _, _, _, _, _, _, _, _, _, _, hres⟩ := hbp
      clear HBW
      rcases hres with ⟨r, rfl, _, _⟩ | ⟨rfl, _⟩
      all_goals
        go_wp2
        go_ret2
        exact HF.out
end Go.Proofs.YtifkacnoiocebaaGreat
