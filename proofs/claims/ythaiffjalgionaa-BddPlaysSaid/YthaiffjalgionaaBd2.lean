/- A part of the proof: G4, G3. -/
import Derived.Test.YthaiffjalgionaaBd1
import Derived.Outline
import Derived.BigQuiet
import Derived.Deep.RegionWith
import Derived.WalkLawsBesides

set_option linter.unusedVariables false
set_option linter.unusedSimpArgs false
namespace Go.Proofs.Ythaiffjalgionaa
open Go.ChangeShapes Go.WideShapes Go.ChangeAt Go.RowKit

end Go.Proofs.Ythaiffjalgionaa

set_option linter.unusedVariables false
set_option linter.unusedSimpArgs false
namespace Go.Proofs.Ythaiffjalgionaa
open Go.ChangeShapes Go.WideShapes Go.ChangeAt Go.RowKit

end Go.Proofs.Ythaiffjalgionaa

set_option linter.unusedVariables false
set_option linter.unusedSimpArgs false
namespace Go.Proofs.Ythaiffjalgionaa
open Go.ChangeShapes Go.WideShapes Go.ChangeAt Go.RowKit

theorem ret_i64' {a b : Int} (h : a = b) : Ending.returned (.int .i64 a) = .returned (.int .i64 b) := by rw [h]

end Go.Proofs.Ythaiffjalgionaa

set_option linter.unusedVariables false
set_option linter.unusedSimpArgs false
namespace Go.Proofs.Ythaiffjalgionaa
open Go.ChangeShapes Go.WideShapes Go.ChangeAt Go.RowKit

end Go.Proofs.Ythaiffjalgionaa

set_option linter.unusedVariables false
set_option linter.unusedSimpArgs false
namespace Go.Proofs.Ythaiffjalgionaa
open Go.ChangeShapes Go.WideShapes Go.ChangeAt Go.RowKit

theorem rest_eq (n m : Int) (hm : 0 < m) : -m < n.tmod m ∧ n.tmod m < m ∧ n % m = if n.tmod m < 0 then n.tmod m + m else n.tmod m := by
  have e := Int.tmod_eq_emod (a := n) (b := m)
  have h0 := Int.emod_nonneg n (show m ≠ 0 by omega)
  have h1 := Int.emod_lt_of_pos n hm
  have hab : (m.natAbs : Int) = m := by omega
  by_cases hc : 0 ≤ n ∨ m ∣ n
  · rw [if_pos hc] at e
    refine ⟨by omega, by omega, ?_⟩
    rw [if_neg (by omega)]; omega
  · rw [if_neg hc, hab] at e
    have : n % m ≠ 0 := fun h => hc (.inr (Int.dvd_of_emod_eq_zero h))
    refine ⟨by omega, by omega, ?_⟩
    rw [if_pos (by omega)]; omega

theorem rest_walk (n m : Int) (W : World) (hn : i64ok n) (hm : 0 < m) (hm2 : m ≤ 1073741824) : Calls Try.prog 86 #[.int .i64 n, .int .i64 m] W fun e W' => e = .returned (.int .i64 (n % m)) ∧ W = W' := by
  obtain ⟨h1, h2⟩ := hn
  obtain ⟨t1, t2, e⟩ := rest_eq n m hm
  have E := hide e
  clear e
  have hm0 : (m == 0) = false := by simp; omega
  by_cases h : n.tmod m < 0
  · go_enter Try.func86, Try.ntmps86
    go_wp2
    go_ret
    exact ⟨ret_i64' (by rw [E.out, if_pos h]), rfl⟩
  · go_enter Try.func86, Try.ntmps86
    go_wp2
    go_ret
    exact ⟨ret_i64' (by rw [E.out, if_neg (by omega)]), rfl⟩

end Go.Proofs.Ythaiffjalgionaa

set_option linter.unusedVariables false
set_option linter.unusedSimpArgs false
namespace Go.Proofs.Ythaiffjalgionaa
open Go.ChangeShapes Go.WideShapes Go.ChangeAt Go.RowKit

end Go.Proofs.Ythaiffjalgionaa

set_option linter.unusedVariables false
set_option linter.unusedSimpArgs false
namespace Go.Proofs.Ythaiffjalgionaa
open Go.ChangeShapes Go.WideShapes Go.ChangeAt Go.RowKit

section
variable {H : Type} {enc : TypeId × Value → H} {w : World} {base : Nat} {spare : Nat → Bool} {held : Bool} {r : Reach} {b0 : Nat}
set_option maxRecDepth 100000 in
theorem open_i64 {v : Value} {d : DataW H} {p : List MemPlace} (hv : Value.okWide Try.prog w r b0 3 v) (h : DataW.Trod enc Try.prog w base spare held 3 v d p) : ∃ x : Int, v = .int .i64 x ∧ i64ok x := by
  obtain ⟨x, rfl, rfl, rfl, wx⟩ := open_int Try.underlying3 hv h
  exact ⟨x, rfl, wf_i64ok wx⟩
end

end Go.Proofs.Ythaiffjalgionaa

set_option linter.unusedVariables false
set_option linter.unusedSimpArgs false
namespace Go.Proofs.Ythaiffjalgionaa
open Go.RowKit Go.Maps Bdd

end Go.Proofs.Ythaiffjalgionaa

set_option linter.unusedVariables false
set_option linter.unusedSimpArgs false
namespace Go.Proofs.Ythaiffjalgionaa
open Go.RowKit Go.Maps Bdd

end Go.Proofs.Ythaiffjalgionaa

set_option linter.unusedVariables false
set_option linter.unusedSimpArgs false
namespace Go.Proofs.Ythaiffjalgionaa
open Go.RowKit Go.Maps Bdd

theorem part_is {w : World} {B g nb kb ib cap : Nat} {A : St} {K T : Tri → Option Value} (h : ArenaAt w B g nb kb ib cap A K T) (f v : Nat) (is : Bool) (hf : f < A.ns.length) {r : Nat} (hr : Bdd.part A.ns f v is = r) :
    Calls Try.prog 150 #[.pointer (some ⟨g, 0, none⟩), .int .i64 f, .int .i64 v, .bool is] w fun e W' => e = .returned (.int .i64 (r : Int)) ∧ RowKit.Below w.heap.size w W' := hr ▸ part_walk h f v is hf

theorem wrap_pow (v : Nat) (h : v ≤ 16) : wrap64 ((2 : Int) ^ v) = 2 ^ v := by
  have : ∀ i : Fin 17, wrap64 ((2 : Int) ^ i.val) = 2 ^ i.val := by decide +kernel
  exact this ⟨v, by omega⟩

set_option maxRecDepth 100000 in
set_option maxHeartbeats 4000000 in
theorem eval_walk {w : World} {B g nb kb ib cap : Nat} {A : St} {K T : Tri → Option Value} (h : ArenaAt w B g nb kb ib cap A K T) (f c : Nat) (hf : f < A.ns.length) (hc : c < 2 ^ A.vars) :
    Calls Try.prog 100 #[.pointer (some ⟨g, 0, none⟩), .int .i64 f, .int .i64 c] w fun e W' => e = .returned (.tuple #[.bool (den A.ns f fun u => c.testBit (A.vars - 1 - u)), .int .i64 0]) ∧ RowKit.Below w.heap.size w W' := by
  have hlen := h.lenle
  have hb0 : RowKit.Below w.heap.size w (w.alloc (.cells #[.int .i64 f] 3)) := (RowKit.Below.refl _ _).alloc (Nat.le_refl _) _
  have HA0 := hide (h.below hb0)
  have HI := hide (ints1 w (w.alloc (.cells #[.int .i64 f] 3)).heap.size (by simp) f (by omega) 3 (heap_alloc_new w _))
  have HOK := hide (show AskOk A [(f : Int)] [] from ⟨fun x hx => by
    simp only [List.mem_cons, List.mem_nil_iff, or_false] at hx
    rw [hx]; omega, fun x hx => (by cases hx)⟩)
  have H := hide h
  go_enter Try.func100, Try.ntmps100
  go_wp2_with fail
  refine (ask_walk HA0.out [(f : Int)] [] _ none 1 0 1 0 (by omega) (by omega) HI.out (IntsAt.nil _ _ _)).mono ?_
  rintro e wa ⟨he, _, hb⟩
  obtain rfl := he HOK.out
  have HB := hide (hb0.trans (hb.mono hb0.size))
  obtain ⟨l1, l2, _, _, _⟩ := h.lts
  have hvs := h.vs
  have cc := (HB.out.cell (p := ⟨g, 0, none⟩) l1).trans h.c0
  have hcn : decide ((c : Int) < 0) = false := by simp
  have hc16 : c < 65536 := by
    have : (2 : Nat) ^ A.vars ≤ 2 ^ 16 := Nat.pow_le_pow_right (by omega) hvs.2
    omega
  have hw : decide (wrap64 (2 ^ A.vars) ≤ (c : Int)) = false := by
    rw [wrap_pow A.vars hvs.2]
    have : ((2 ^ A.vars : Nat) : Int) = (2 : Int) ^ A.vars := by simp
    simp only [decide_eq_false_iff_not]
    omega
  have HOKK := hide h.inv.ok
  clear he hb h hb0 hc
  go_wp2
  go_loopw [1] (fun u wr => ∃ f1 : Nat, f1 < A.ns.length ∧ u = .int .i64 f1 ∧ Hid (den A.ns f1 (fun u => c.testBit (A.vars - 1 - u)) = den A.ns f (fun u => c.testBit (A.vars - 1 - u))) ∧ RowKit.Below w.heap.size w wr) (fun u _ => (intOf u).toNat)
  case atStart => exact ⟨f, hf, rfl, hide rfl, HB.out⟩
  case round =>
    clear cc hw hcn
    obtain ⟨f1, hf1, rfl, HD, hb⟩ := hrel
    have HB1 := hide hb
    by_cases hgt : (1 : Int) < f1
    · obtain ⟨nn, hnn⟩ := get_of_lt hf1
      have HN := hide hnn
      have hnb := HOKK.out.node f1 nn hnn (by omega)
      have hv1 : nn.v < A.vars := hnb.1
      have HA1 := hide ((H.out.below hb).below ((RowKit.Below.refl _ _).alloc (Nat.le_refl _) (.cells #[.int .i64 nn.v, .int .i64 nn.lo, .int .i64 nn.hi] 160)))
      obtain ⟨q0, q1, q2⟩ := (H.out.below hb).node hnn
      have c2 := (hb.cell (p := ⟨g, 2, none⟩) l1).trans H.out.c2
      have hlt2 : g < wr.heap.size := Nat.lt_of_lt_of_le l1 hb.size
      have hbit : (Go.bits BinOp.and IntKind.i64 ((c : Int) / 2 ^ (A.vars - 1 - nn.v)) 1 == 1) = c.testBit (A.vars - 1 - nn.v) := bit_i64 c _ (by omega)
      obtain ⟨r, hr⟩ : ∃ r, Bdd.part A.ns f1 nn.v (c.testBit (A.vars - 1 - nn.v)) = r := ⟨_, rfl⟩
      have HR := hide (show r < f1 ∧ r < A.ns.length ∧ den A.ns r (fun u => c.testBit (A.vars - 1 - u)) = den A.ns f1 (fun u => c.testBit (A.vars - 1 - u)) from by
        have e : r = if c.testBit (A.vars - 1 - nn.v) then nn.hi else nn.lo := by rw [← hr]; simp [Bdd.part, HN.out]
        refine ⟨by rw [e]; split <;> omega, by rw [e]; split <;> omega, ?_⟩
        rw [den_node HOKK.out HN.out (by omega), e]
        cases c.testBit (A.vars - 1 - nn.v) <;> rfl)
      have HRR := hide hr
      have htn : ((A.vars : Int) - 1 - (nn.v : Int)).toNat = A.vars - 1 - nn.v := by omega
      have hsub : ((A.vars - 1 - nn.v : Nat) : Int) = (A.vars : Int) - 1 - (nn.v : Int) := by omega
      have cv := (hb.cell (p := ⟨g, 0, none⟩) l1).trans H.out.c0
      have hsz : g ≠ wr.heap.size := by omega
      clear hnn hb hnb HB hr
      go_wp2_with fail
      refine wp_region_abs (by kernel_rfl) (by kernel_rfl) ?_
      intro T hT gw hg hgi
      have HG := hide hg
      have HI2 := hide hgi
      have k0 : ∀ t, (gw t).cell? ⟨wr.heap.size, 0, none⟩ = some (.int .i64 nn.v) := fun t => ((HG.out t).cell (p := ⟨wr.heap.size, 0, none⟩) (by simp)).trans (by simp)
      have k1 : ∀ t, (gw t).cell? ⟨g, 0, none⟩ = some (.int .i64 A.vars) := fun t => ((HG.out t).cell (p := ⟨g, 0, none⟩) (by simp; omega)).trans HA1.out.c0
      have HBx := hide (fun t => HB1.out.trans (((RowKit.Below.refl _ wr).alloc (Nat.le_refl _) (.cells #[.int .i64 nn.v, .int .i64 nn.lo, .int .i64 nn.hi] 160)).trans ((HG.out t).mono (by simp)) |>.mono HB1.out.size))
      clear hg hgi q0 q1 q2 c2 cv
      repeat (go_big_quiet_step ((first | (go_at_call 150; first | rw [hbit] | skip; exact inAbs HG.out HI2.out (part_is (HA1.out.below (HG.out _)) f1 nn.v _ hf1 HRR.out)))))
      refine wpQuiet_nil ?_
      intro _ hw'
      obtain ⟨t, rfl⟩ := hw'
      go_wp2
      go_roundw
      case rel => exact ⟨r, HR.out.2.1, rfl, hide (HR.out.2.2.trans HD.out), HBx.out t⟩
      case measure => simp [intOf]; exact HR.out.1
    · go_wp2
      go_ret2
      refine ⟨?_, HB1.out⟩
      have hd := HD.out
      rw [← hd]
      rcases (by omega : f1 = 0 ∨ f1 = 1) with rfl | rfl
      · rw [den_zero]; rfl
      · rw [den_one]; rfl
end Go.Proofs.Ythaiffjalgionaa

set_option linter.unusedVariables false
set_option linter.unusedSimpArgs false
namespace Go.Proofs.Ythaiffjalgionaa
open Go.RowKit

end Go.Proofs.Ythaiffjalgionaa

set_option linter.unusedVariables false
namespace Go.Proofs.Ythaiffjalgionaa
open Go.RowKit Bdd

theorem tb (c i : Nat) : c.testBit i = decide (c / 2 ^ i % 2 = 1) := Nat.testBit_eq_decide_div_mod_eq

end Go.Proofs.Ythaiffjalgionaa

set_option linter.unusedVariables false
namespace Go.Proofs.Ythaiffjalgionaa
open Go.RowKit Bdd

theorem iteF_below {K : Nat} {F G H : Bdd.Fn} (hF : Bdd.Below K F) (hG : Bdd.Below K G) (hH : Bdd.Below K H) : Bdd.Below K (iteF F G H) := fun x y h => by
  simp only [iteF, hF x y h, hG x y h, hH x y h]

end Go.Proofs.Ythaiffjalgionaa

set_option linter.unusedVariables false
set_option linter.unusedSimpArgs false
namespace Go.Proofs.Ythaiffjalgionaa
open Go.RowKit Go.Maps Bdd

end Go.Proofs.Ythaiffjalgionaa

set_option linter.unusedVariables false
set_option linter.unusedSimpArgs false
namespace Go.Proofs.Ythaiffjalgionaa
open Go.RowKit Go.Maps Bdd

theorem ArenaAt.frmBelow {w w' : World} {B g nb kb ib cap : Nat} {A : St} {K T : Tri → Option Value} (h : ArenaAt w B g nb kb ib cap A K T) (hf : Frm (Fp g nb kb ib) w w') : RowKit.Below B w w' := by
  obtain ⟨l1, l2, l3, l4, l5⟩ := h.lts
  obtain ⟨m1, m2, m3⟩ := h.lo
  exact hf.below (by omega) (fun i hi => by rcases hi with e | e | e | e <;> omega)

end Go.Proofs.Ythaiffjalgionaa

set_option linter.unusedVariables false
set_option linter.unusedSimpArgs false
namespace Go.Proofs.Ythaiffjalgionaa
open Go.RowKit Go.Maps Bdd

def IsF (A : St) (r : Nat) (F : Bdd.Fn) : Prop := r < A.ns.length ∧ den A.ns r = F
theorem IsF.zero {A : St} (i : Inv A) : IsF A 0 (fun _ => false) := ⟨by have := i.ok.two; omega, den_zero⟩
theorem IsF.one {A : St} (i : Inv A) : IsF A 1 (fun _ => true) := ⟨by have := i.ok.two; omega, den_one⟩

end Go.Proofs.Ythaiffjalgionaa
