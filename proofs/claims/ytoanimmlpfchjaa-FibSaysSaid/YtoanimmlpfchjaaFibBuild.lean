/- fib.Build. -/
import Derived.Test.YtoanimmlpfchjaaMatchBuilds
import Derived.Test.YtoanimmlpfchjaaFibOut
import Derived.Test.YtoanimmlpfchjaaFibCheck
import Derived.RegionTactic
import Derived.Outline
set_option linter.unusedVariables false
set_option linter.unusedSimpArgs false
namespace Go.Proofs.Ytoanimmlpfchjaa
open Go.RowKit Go.Maps Bdd

/-- The set of the numbers below k of which P holds. -/
def setTo (P : Nat → Bool) : Nat → Nat
  | 0 => 0
  | k + 1 => if P k then setTo P k ||| 2 ^ k else setTo P k

theorem setTo_lt (P : Nat → Bool) : ∀ k, setTo P k < 2 ^ k := by
  intro k
  induction k with
  | zero => simp [setTo]
  | succ k ih =>
    have : setTo P k < 2 ^ (k + 1) := Nat.lt_of_lt_of_le ih (Nat.pow_le_pow_right (by omega) (by omega))
    unfold setTo
    split
    · exact Nat.or_lt_two_pow this (Nat.pow_lt_pow_right (by omega) (by omega))
    · exact this
theorem setTo_bit (P : Nat → Bool) : ∀ k j, (setTo P k).testBit j = (decide (j < k) && P j) := by
  intro k
  induction k with
  | zero => intro j; simp [setTo]
  | succ k ih =>
    intro j
    unfold setTo
    by_cases hj : j = k
    · subst hj
      cases hP : P j
      · simp [ih]
      · simp [Nat.testBit_or, ih, Nat.testBit_two_pow]
    · have e1 : decide (j < k + 1) = decide (j < k) := by
        by_cases h : j < k
        · simp [h]; omega
        · simp [h]; omega
      split
      · rw [Nat.testBit_or, ih, e1, Nat.testBit_two_pow]
        have : decide (k = j) = false := by simp; omega
        rw [this]; simp
      · rw [ih, e1]

theorem setTo_lt16 (P : Nat → Bool) {k : Nat} (hk : k ≤ 16) : setTo P k < 65536 := Nat.lt_of_lt_of_le (setTo_lt P k) (Nat.pow_le_pow_right (by omega) hk : 2 ^ k ≤ 2 ^ 16)

/-- The addresses that go out at a port. -/
def dstB (l : List RouteV) (port : Int) (k : Nat) : Bool := decide (0 ≤ (outF (k : Int) l).2) && ((outF (k : Int) l).1 == port)

def MBox (w : World) (N d : Nat) : Prop := w.cell? ⟨N, 0, none⟩ = some (.int .u16 65535) ∧ w.cell? ⟨N, 1, none⟩ = some (.int .u16 d) ∧ w.cell? ⟨N, 2, none⟩ = some (.int .u8 255) ∧ w.cell? ⟨N, 3, none⟩ = some (.int .u8 255) ∧ w.frozen? ⟨N, 1, none⟩ = false
theorem MBox.below {w w' : World} {B N d : Nat} (h : MBox w N d) (hB : RowKit.Below B w w') (hN : N < B) : MBox w' N d := by
  have e : ∀ o, w'.cell? ⟨N, o, none⟩ = w.cell? ⟨N, o, none⟩ := fun o => hB.cell (p := ⟨N, o, none⟩) hN
  unfold MBox
  rw [e, e, e, e, hB.frozen (p := ⟨N, 1, none⟩) hN]
  exact h
theorem MBox.drew {w : World} {N d : Nat} (h : MBox w N d) : MBox w.drew N d := h
theorem MBox.set {w : World} {N d d' : Nat} (h : MBox w N d) : MBox (w.setCell ⟨N, 1, none⟩ (.int .u16 d')) N d' := by
  have ho : ∀ o, o ≠ 1 → (w.setCell ⟨N, 1, none⟩ (.int .u16 (d' : Int))).cell? ⟨N, o, none⟩ = w.cell? ⟨N, o, none⟩ := fun o ho => World.cell?_setCell_other w _ _ _ (fun e => by simp only [Addr.mk.injEq] at e; omega)
  obtain ⟨h0, h1, h2, h3, h4⟩ := h
  exact ⟨by rw [ho 0 (by omega)]; exact h0, World.cell?_setCell_same w ⟨N, 1, none⟩ _ h1, by rw [ho 2 (by omega)]; exact h2, by rw [ho 3 (by omega)]; exact h3, by rw [World.frozen?_setCell]; exact h4⟩
theorem MBox.set' {w : World} {N d d' : Nat} {x : Int} (h : MBox w N d) (hx : x = (d' : Int)) : MBox (w.setCell ⟨N, 1, none⟩ (.int .u16 x)) N d' := hx ▸ h.set

theorem BP.base {w w1 : World} {B g nb kb ib : Nat} {A : St} {F : Bdd.Fn} {P : Bdd.Fn → Prop} {e : Ending} {W' : World} (hb : RowKit.Below w.heap.size w w1) (h : BP w1 B g nb kb ib A F P e W') : BP w B g nb kb ib A F P e W' := by
  obtain ⟨nb2, cap2, A2, K2, T2, h1, h2, h3, h4, h5, h6, h7⟩ := h
  exact ⟨nb2, cap2, A2, K2, T2, h1, h2, h3, h4, h5.imp id (fun h => by have := hb.size; omega), (Frm.of_below hb).trans h6 (fun _ _ h => h), h7⟩

theorem or_shl (s k : Nat) (hs : s < 65536) (hk : k < 16) : Go.bits .or .u16 (s : Int) (IntKind.u16.wrap (2 ^ k)) = ((s ||| 2 ^ k : Nat) : Int) := by
  have h2 : (2 : Nat) ^ k < 65536 := Nat.pow_lt_pow_right (by omega) hk
  have e : IntKind.u16.wrap ((2 : Int) ^ k) = ((2 ^ k : Nat) : Int) := by
    have : ∀ i : Fin 16, IntKind.u16.wrap ((2 : Int) ^ i.val) = ((2 ^ i.val : Nat) : Int) := by decide +kernel
    exact this ⟨k, hk⟩
  rw [e]; exact u16_or s (2 ^ k) hs h2

set_option maxRecDepth 100000 in
set_option maxHeartbeats 4000000 in
theorem fibBuild_bad {w : World} (gp : Value) (l : List RouteV) (a : Option Addr) (n c : Nat) (port : Int) (hnc : n ≤ c) (hl : SlAt RouteV.cells 3 w w.heap.size a n l) (hok : ∀ r ∈ l, r.ok) (hc : checkF l ≠ 0) :
    Calls Try.prog 46 #[gp, .slice a n c, .int .i64 port] w fun e W' => e = .returned (.tuple #[.int .i64 0, .int .i64 (checkF l)]) ∧ RowKit.Below w.heap.size w W' := by
  have HC := hide (fun w1 (hb : RowKit.Below w.heap.size w w1) => check22_any l a n c w1 hnc (hl.below hb hb.size) hok)
  have hc' : (checkF l == 0) = false := by simpa using hc
  have hc2 : (checkF l != 0) = true := by simpa using hc
  clear hl hok hc
  go_enter Try.func46, Try.ntmps46
  go_wp2_with fail
  refine (HC.out _ (RowKit.Below.refl _ _)).mono ?_
  rintro e w1 ⟨rfl, hb1⟩
  have HB := hide hb1
  clear hb1
  go_wp2
  go_ret2
  exact ⟨rfl, HB.out⟩

set_option maxRecDepth 100000 in
set_option maxHeartbeats 8000000 in
theorem fibBuild_walk {w : World} {B g nb kb ib cap : Nat} {A : St} {K T : Tri → Option Value} (h : ArenaAt w B g nb kb ib cap A K T) (hA : A.full = false) (hv : 14 ≤ A.vars) (l : List RouteV) (a : Option Addr) (n c : Nat) (port : Int)
    (hn : n ≤ 9223372036854775807) (hnc : n ≤ c) (hl : SlAt RouteV.cells 3 w w.heap.size a n l) (hok : ∀ r ∈ l, r.ok) (hc : checkF l = 0) :
    Calls Try.prog 46 #[.pointer (some ⟨g, 0, none⟩), .slice a n c, .int .i64 port] w (BP w B g nb kb ib A (outs (partL 65535 (setTo (dstB l port) 16) 255 255)) (NewB (partL 65535 (setTo (dstB l port) 16) 255 255))) := by
  have HC := hide (fun w1 (hb : RowKit.Below w.heap.size w w1) => check22_any l a n c w1 hnc (hl.below hb hb.size) hok)
  have HO := hide (fun w1 (k : Nat) (hk : k < 16) (hb : RowKit.Below w.heap.size w w1) => out_any l a n c (k : Int) w1 hn ⟨by omega, by omega⟩ (hl.below hb hb.size) hok)
  have HE := hide hc
  have H := hide h
  have HAV := hide (And.intro hA hv)
  clear hl hok hc h hA hv
  go_enter Try.func46, Try.ntmps46
  go_wp2_with fail
  refine (HC.out _ (RowKit.Below.refl _ _)).mono ?_
  rintro e w1 ⟨rfl, hb1⟩
  rw [HE.out]
  have HB := hide hb1
  clear hb1
  go_wp2_with fail
  refine (all_walk _).mono ?_
  rintro e w2 ⟨rfl, hb2⟩
  have HB2 := hide (HB.out.trans (hb2.mono HB.out.size))
  clear hb2
  have hsz2 := HB2.out.size
  go_wp2
  have hbx := heap_alloc_new w2 (.cells #[.int .u16 65535, .int .u16 0, .int .u8 255, .int .u8 255] 27)
  have HM0 : Hid (MBox (w2.alloc (.cells #[.int .u16 65535, .int .u16 0, .int .u8 255, .int .u8 255] 27)) w2.heap.size (setTo (dstB l port) 0)) := hide
    ⟨by rw [cell_of_row _ _ _ _ _ _ hbx]; rfl, by rw [cell_of_row _ _ _ _ _ _ hbx]; rfl, by rw [cell_of_row _ _ _ _ _ _ hbx]; rfl, by rw [cell_of_row _ _ _ _ _ _ hbx]; rfl, by unfold World.frozen?; rw [hbx]; simp⟩
  clear hbx
  obtain ⟨N, hN⟩ : ∃ N, w2.heap.size = N := ⟨_, rfl⟩
  have HB3 := hide (HB2.out.alloc hsz2 (.cells #[.int .u16 65535, .int .u16 0, .int .u8 255, .int .u8 255] 27))
  have hN3 : N < (w2.alloc (.cells #[.int .u16 65535, .int .u16 0, .int .u8 255, .int .u8 255] 27)).heap.size := by simp; omega
  rw [hN] at HM0 hsz2 ⊢
  generalize w2.alloc _ = w3 at *
  clear hN HB2 HB
  go_loopw [20] (fun i wr => ∃ k : Nat, k ≤ 16 ∧ i = .int .i64 k ∧ Hid (MBox wr N (setTo (dstB l port) k)) ∧ RowKit.Below w.heap.size w wr ∧ N < wr.heap.size) (fun i _ => 16 - (intOf i).toNat)
  case atStart => exact ⟨0, Nat.zero_le _, rfl, HM0, HB3.out, hN3⟩
  case round =>
    clear HM0 HB3 hN3
    obtain ⟨k, hk, rfl, HM, hb, hNr⟩ := hrel
    have HBR := hide hb
    clear hb
    by_cases hlt : k < 16
    · go_wp2_with fail
      refine (HO.out _ k hlt HBR.out).mono ?_
      rintro e w4 ⟨rfl, hb4⟩
      have HM4 := hide (HM.out.below hb4 hNr)
      have HB4 := hide (HBR.out.trans (hb4.mono HBR.out.size))
      have hN4 : N < w4.heap.size := Nat.lt_of_lt_of_le hNr hb4.size
      clear hb4 HBR HM hNr
      cases hp1 : decide (0 ≤ (outF (k : Int) l).2)
      · have HS := hide (show setTo (dstB l port) (k + 1) = setTo (dstB l port) k from by simp only [setTo, dstB, hp1]; simp)
        go_wp2
        go_roundw
        case rel => exact ⟨k + 1, by omega, by go_num, HS.out.symm ▸ HM4, HB4.out, hN4⟩
        case measure => simp [intOf]; omega
      cases hp2 : ((outF (k : Int) l).1 == port)
      · have HS := hide (show setTo (dstB l port) (k + 1) = setTo (dstB l port) k from by simp only [setTo, dstB, hp1, hp2]; simp)
        go_wp2
        go_roundw
        case rel => exact ⟨k + 1, by omega, by go_num, HS.out.symm ▸ HM4, HB4.out, hN4⟩
        case measure => simp [intOf]; omega
      have HS := hide (show setTo (dstB l port) (k + 1) = setTo (dstB l port) k ||| 2 ^ k from by simp only [setTo, dstB, hp1, hp2]; simp)
      have HX := hide (or_shl (setTo (dstB l port) k) k (setTo_lt16 _ hk) hlt)
      obtain ⟨y0, y1, y2, y3, y4⟩ := HM4.out
      go_wp2
      go_region
      all_goals
        go_wp2
        go_roundw
        case rel => exact ⟨k + 1, by omega, by go_num, hide (by rw [HS.out]; exact (HM4.out.set' HX.out).drew), (HB4.out.setCell hsz2 _).drew, by simp [World.setCell]; exact hN4⟩
        case measure => simp [intOf]; omega
    · have hk16 : k = 16 := by omega
      subst hk16
      obtain ⟨y0, y1, y2, y3, y4⟩ := HM.out
      have HBW : Hid (Calls Try.prog 29 #[.pointer (some ⟨g, 0, none⟩), .agg #[.int .u16 65535, .int .u16 (setTo (dstB l port) 16 : Nat), .int .u8 255, .int .u8 255]] wr (BP wr B g nb kb ib A (outs (partL 65535 (setTo (dstB l port) 16) 255 255)) (NewB (partL 65535 (setTo (dstB l port) 16) 255 255)))) :=
        hide (build_walk (H.out.below HBR.out) HAV.out.1 HAV.out.2 65535 (setTo (dstB l port) 16) 255 255 (by omega) (setTo_lt16 _ (Nat.le_refl _)) (by omega) (by omega))
      go_wp2_with fail
      refine HBW.out.mono ?_
      rintro e w5 hbp
      have HF := hide (hbp.base HBR.out)
      obtain ⟨_, _, _, _, _, _, _, _, _, _, _, hres⟩ := hbp
      clear HBW
      rcases hres with ⟨r, rfl, _, _⟩ | ⟨rfl, _⟩
      all_goals
        go_wp2
        go_ret2
        exact HF.out
end Go.Proofs.Ytoanimmlpfchjaa
