/- The arena's Eval. -/
import Derived.Test.YtidikopjfpioaaaBddOps
import Derived.Test.YtidikopjfpioaaaBits
import Derived.WalkLawsBesides
set_option linter.unusedVariables false
set_option linter.unusedSimpArgs false
namespace Go.Proofs.Ytidikopjfpioaaa
open Go.RowKit Go.Maps Bdd

theorem part_is {w : World} {B g nb kb ib cap : Nat} {A : St} {K T : Tri → Option Value} (h : ArenaAt w B g nb kb ib cap A K T) (f v : Nat) (is : Bool) (hf : f < A.ns.length) {r : Nat} (hr : Bdd.part A.ns f v is = r) :
    Calls Try.prog 128 #[.pointer (some ⟨g, 0, none⟩), .int .i64 f, .int .i64 v, .bool is] w fun e W' => e = .returned (.int .i64 (r : Int)) ∧ RowKit.Below w.heap.size w W' := hr ▸ part_walk h f v is hf

theorem wrap_pow (v : Nat) (h : v ≤ 16) : wrap64 ((2 : Int) ^ v) = 2 ^ v := by
  have : ∀ i : Fin 17, wrap64 ((2 : Int) ^ i.val) = 2 ^ i.val := by decide +kernel
  exact this ⟨v, by omega⟩

set_option maxRecDepth 100000 in
set_option maxHeartbeats 4000000 in
theorem eval_walk {w : World} {B g nb kb ib cap : Nat} {A : St} {K T : Tri → Option Value} (h : ArenaAt w B g nb kb ib cap A K T) (f c : Nat) (hf : f < A.ns.length) (hc : c < 2 ^ A.vars) :
    Calls Try.prog 81 #[.pointer (some ⟨g, 0, none⟩), .int .i64 f, .int .i64 c] w fun e W' => e = .returned (.tuple #[.bool (den A.ns f fun u => c.testBit (A.vars - 1 - u)), .int .i64 0]) ∧ RowKit.Below w.heap.size w W' := by
  have hlen := h.lenle
  have hb0 : RowKit.Below w.heap.size w (w.alloc (.cells #[.int .i64 f] 3)) := (RowKit.Below.refl _ _).alloc (Nat.le_refl _) _
  have HA0 := hide (h.below hb0)
  have HI := hide (ints1 w (w.alloc (.cells #[.int .i64 f] 3)).heap.size (by simp) f (by omega) 3 (heap_alloc_new w _))
  have HOK := hide (show AskOk A [(f : Int)] [] from ⟨fun x hx => by
    simp only [List.mem_cons, List.mem_nil_iff, or_false] at hx
    rw [hx]; omega, fun x hx => (by cases hx)⟩)
  have H := hide h
  go_enter Try.func81, Try.ntmps81
  go_wp2_with fail
  refine (ask_walk HA0.out [(f : Int)] [] _ none 1 0 1 0 (by omega) (by omega) HI.out (IntsAt.nil _ _ _)).mono ?_
  rintro e wa ⟨he, _, hb⟩
  obtain rfl := he HOK.out
  have HB := hide (hb0.trans (hb.mono hb0.size))
  obtain ⟨l1, l2, _, _, _⟩ := h.lts
  have hvs := h.vs
  have cc := (HB.out.cell (p := ⟨g, 0, none⟩) l1).trans h.c0
  have hcn : decide ((c : Int) < 0) = false := by simp
  have hc16 : c < 65536 := by
    have : (2 : Nat) ^ A.vars ≤ 2 ^ 16 := Nat.pow_le_pow_right (by omega) hvs.2
    omega
  have hw : decide (wrap64 (2 ^ A.vars) ≤ (c : Int)) = false := by
    rw [wrap_pow A.vars hvs.2]
    have : ((2 ^ A.vars : Nat) : Int) = (2 : Int) ^ A.vars := by simp
    simp only [decide_eq_false_iff_not]
    omega
  have HOKK := hide h.inv.ok
  clear he hb h hb0 hc
  go_wp2
  go_loopw [1] (fun u wr => ∃ f1 : Nat, f1 < A.ns.length ∧ u = .int .i64 f1 ∧ Hid (den A.ns f1 (fun u => c.testBit (A.vars - 1 - u)) = den A.ns f (fun u => c.testBit (A.vars - 1 - u))) ∧ RowKit.Below w.heap.size w wr) (fun u _ => (intOf u).toNat)
  case atStart => exact ⟨f, hf, rfl, hide rfl, HB.out⟩
  case round =>
    clear cc hw hcn
    obtain ⟨f1, hf1, rfl, HD, hb⟩ := hrel
    have HB1 := hide hb
    by_cases hgt : (1 : Int) < f1
    · obtain ⟨nn, hnn⟩ := get_of_lt hf1
      have HN := hide hnn
      have hnb := HOKK.out.node f1 nn hnn (by omega)
      have hv1 : nn.v < A.vars := hnb.1
      have HA1 := hide ((H.out.below hb).below ((RowKit.Below.refl _ _).alloc (Nat.le_refl _) (.cells #[.int .i64 nn.v, .int .i64 nn.lo, .int .i64 nn.hi] 129)))
      obtain ⟨q0, q1, q2⟩ := (H.out.below hb).node hnn
      have c2 := (hb.cell (p := ⟨g, 2, none⟩) l1).trans H.out.c2
      have hlt2 : g < wr.heap.size := Nat.lt_of_lt_of_le l1 hb.size
      have hbit : (Go.bits BinOp.and IntKind.i64 ((c : Int) / 2 ^ (A.vars - 1 - nn.v)) 1 == 1) = c.testBit (A.vars - 1 - nn.v) := bit_i64 c _ (by omega)
      obtain ⟨r, hr⟩ : ∃ r, Bdd.part A.ns f1 nn.v (c.testBit (A.vars - 1 - nn.v)) = r := ⟨_, rfl⟩
      have HR := hide (show r < f1 ∧ r < A.ns.length ∧ den A.ns r (fun u => c.testBit (A.vars - 1 - u)) = den A.ns f1 (fun u => c.testBit (A.vars - 1 - u)) from by
        have e : r = if c.testBit (A.vars - 1 - nn.v) then nn.hi else nn.lo := by rw [← hr]; simp [Bdd.part, HN.out]
        refine ⟨by rw [e]; split <;> omega, by rw [e]; split <;> omega, ?_⟩
        rw [den_node HOKK.out HN.out (by omega), e]
        cases c.testBit (A.vars - 1 - nn.v) <;> rfl)
      have HRR := hide hr
      have htn : ((A.vars : Int) - 1 - (nn.v : Int)).toNat = A.vars - 1 - nn.v := by omega
      have hsub : ((A.vars - 1 - nn.v : Nat) : Int) = (A.vars : Int) - 1 - (nn.v : Int) := by omega
      have cv := (hb.cell (p := ⟨g, 0, none⟩) l1).trans H.out.c0
      have hsz : g ≠ wr.heap.size := by omega
      clear hnn hb hnb HB hr
      go_wp2_with fail
      refine wp_region_abs (by kernel_rfl) (by kernel_rfl) ?_
      intro T hT gw hg hgi
      have HG := hide hg
      have HI2 := hide hgi
      have k0 : ∀ t, (gw t).cell? ⟨wr.heap.size, 0, none⟩ = some (.int .i64 nn.v) := fun t => ((HG.out t).cell (p := ⟨wr.heap.size, 0, none⟩) (by simp)).trans (by simp)
      have k1 : ∀ t, (gw t).cell? ⟨g, 0, none⟩ = some (.int .i64 A.vars) := fun t => ((HG.out t).cell (p := ⟨g, 0, none⟩) (by simp; omega)).trans HA1.out.c0
      have HBx := hide (fun t => HB1.out.trans (((RowKit.Below.refl _ wr).alloc (Nat.le_refl _) (.cells #[.int .i64 nn.v, .int .i64 nn.lo, .int .i64 nn.hi] 129)).trans ((HG.out t).mono (by simp)) |>.mono HB1.out.size))
      clear hg hgi q0 q1 q2 c2 cv
      repeat (go_big_quiet_step ((first | (go_at_call 128; first | rw [hbit] | skip; exact inAbs HG.out HI2.out (part_is (HA1.out.below (HG.out _)) f1 nn.v _ hf1 HRR.out)))))
      refine wpQuiet_nil ?_
      intro _ hw'
      obtain ⟨t, rfl⟩ := hw'
      go_wp2
      go_roundw
      case rel => exact ⟨r, HR.out.2.1, rfl, hide (HR.out.2.2.trans HD.out), HBx.out t⟩
      case measure => simp [intOf]; exact HR.out.1
    · go_wp2
      go_ret2
      refine ⟨?_, HB1.out⟩
      have hd := HD.out
      rw [← hd]
      rcases (by omega : f1 = 0 ∨ f1 = 1) with rfl | rfl
      · rw [den_zero]; rfl
      · rw [den_one]; rfl
end Go.Proofs.Ytidikopjfpioaaa
