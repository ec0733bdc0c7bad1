/- The arena's One. -/
import Derived.Test.YtoanimmlpfchjaaEval
import Derived.WalkLawsBesides
set_option linter.unusedVariables false
set_option linter.unusedSimpArgs false
namespace Go.Proofs.Ytoanimmlpfchjaa
open Go.RowKit Go.Maps Bdd

def asgV (vars c : Nat) : Asg := fun u => c.testBit (vars - 1 - u)

/-- Where One stands: what is below has been shut out. -/
structure OneAt (vars : Nat) (ns : List Bdd.Node) (f f1 c1 : Nat) : Prop where
  lt : f1 < ns.length
  nz : f1 ≠ 0
  mul : ∃ q, c1 = 2 ^ (vars - var ns f1) * q
  top : c1 + 2 ^ (vars - var ns f1) ≤ 2 ^ vars
  same : ∀ r, r < 2 ^ (vars - var ns f1) → den ns f (asgV vars (c1 + r)) = den ns f1 (asgV vars (c1 + r))
  less : ∀ c, c < c1 → den ns f (asgV vars c) = false

theorem OneAt.start {vars : Nat} {ns : List Bdd.Node} {f : Nat} (hf : f < ns.length) (hz : f ≠ 0) : OneAt vars ns f f 0 :=
  ⟨hf, hz, ⟨0, by simp⟩, by rw [Nat.zero_add]; exact Nat.pow_le_pow_right (by omega) (by omega), fun r _ => rfl, fun c h => by omega⟩

theorem OneAt.fin {vars : Nat} {ns : List Bdd.Node} {f c1 : Nat} (ok : Ok vars ns) (h : OneAt vars ns f 1 c1) : c1 < 2 ^ vars ∧ den ns f (asgV vars c1) = true ∧ ∀ c, c < c1 → den ns f (asgV vars c) = false := by
  have h1 := h.top
  have h2 := h.same 0
  rw [var_one ok, Nat.sub_self] at h1 h2
  refine ⟨by simp at h1; omega, ?_, h.less⟩
  have := h2 (by simp)
  rw [Nat.add_zero] at this
  rw [this, den_one]

theorem bit_low {m q r : Nat} (hm : 1 ≤ m) (hr : r < 2 ^ (m - 1)) : (2 ^ m * q + r).testBit (m - 1) = false := by
  have h2 : r < 2 ^ m := Nat.lt_of_lt_of_le hr (Nat.pow_le_pow_right (by omega) (by omega))
  rw [Nat.testBit_two_pow_mul_add _ h2, if_pos (by omega)]
  exact Nat.testBit_lt_two_pow hr
theorem bit_high {m q r : Nat} (hm : 1 ≤ m) (hr : r < 2 ^ (m - 1)) : (2 ^ m * q + 2 ^ (m - 1) + r).testBit (m - 1) = true := by
  have h3 : 2 ^ m = 2 ^ (m - 1) + 2 ^ (m - 1) := by
    have : m = (m - 1) + 1 := by omega
    rw [this, Nat.pow_succ, Nat.add_sub_cancel]; omega
  have h2 : 2 ^ (m - 1) + r < 2 ^ m := by omega
  rw [Nat.add_assoc, Nat.testBit_two_pow_mul_add _ h2, if_pos (by omega), Nat.testBit_two_pow_add_eq, Nat.testBit_lt_two_pow hr]
  rfl
theorem or_add {m q : Nat} (hm : 1 ≤ m) : 2 ^ m * q ||| 2 ^ (m - 1) = 2 ^ m * q + 2 ^ (m - 1) :=
  (Nat.two_pow_add_eq_or_of_lt (Nat.pow_lt_pow_right (by omega) (by omega)) q).symm

theorem OneAt.lo {vars : Nat} {ns : List Bdd.Node} {f f1 c1 : Nat} {n : Bdd.Node} (ok : Ok vars ns) (h : OneAt vars ns f f1 c1) (hn : ns[f1]? = some n) (h2 : 2 ≤ f1) (hlo : n.lo ≠ 0) : OneAt vars ns f n.lo c1 := by
  obtain ⟨hv, hl, hh, hne, g1, g2⟩ := ok.node f1 n hn h2
  have hlt : n.lo < ns.length := by have := h.lt; omega
  have ev := var_some hn
  have hle := var_le ok hlt
  have hm : vars - var ns n.lo ≤ vars - n.v - 1 := by omega
  have hp : 2 ^ (vars - var ns n.lo) ≤ 2 ^ (vars - n.v - 1) := Nat.pow_le_pow_right (by omega) hm
  have hp2 : 2 ^ (vars - n.v - 1) ≤ 2 ^ (vars - n.v) := Nat.pow_le_pow_right (by omega) (by omega)
  obtain ⟨q, hq⟩ := h.mul
  have ht := h.top
  rw [ev] at hq ht
  refine ⟨hlt, hlo, ?_, by omega, fun r hr => ?_, h.less⟩
  · obtain ⟨d, hd⟩ : ∃ d, vars - n.v = (vars - var ns n.lo) + d := ⟨vars - n.v - (vars - var ns n.lo), by omega⟩
    exact ⟨2 ^ d * q, by rw [hq, hd, Nat.pow_add, Nat.mul_assoc]⟩
  · rw [h.same r (by rw [ev]; omega), den_node ok hn h2]
    have : asgV vars (c1 + r) n.v = false := by
      show (c1 + r).testBit (vars - 1 - n.v) = false
      rw [hq, show vars - 1 - n.v = vars - n.v - 1 by omega]
      exact bit_low (by omega) (by omega)
    rw [this]; rfl

theorem OneAt.hi {vars : Nat} {ns : List Bdd.Node} {f f1 c1 : Nat} {n : Bdd.Node} (ok : Ok vars ns) (h : OneAt vars ns f f1 c1) (hn : ns[f1]? = some n) (h2 : 2 ≤ f1) (hlo : n.lo = 0) : OneAt vars ns f n.hi (c1 ||| 2 ^ (vars - 1 - n.v)) := by
  obtain ⟨hv, hl, hh, hne, g1, g2⟩ := ok.node f1 n hn h2
  have hlt : n.hi < ns.length := by have := h.lt; omega
  have ev := var_some hn
  have hle := var_le ok hlt
  have hm : vars - var ns n.hi ≤ vars - n.v - 1 := by omega
  have hp : 2 ^ (vars - var ns n.hi) ≤ 2 ^ (vars - n.v - 1) := Nat.pow_le_pow_right (by omega) hm
  have h3 : 2 ^ (vars - n.v) = 2 ^ (vars - n.v - 1) + 2 ^ (vars - n.v - 1) := by
    have : vars - n.v = (vars - n.v - 1) + 1 := by omega
    rw [this, Nat.pow_succ, Nat.add_sub_cancel]; omega
  obtain ⟨q, hq⟩ := h.mul
  have ht := h.top
  rw [ev] at hq ht
  have e0 : vars - 1 - n.v = vars - n.v - 1 := by omega
  have e1 : c1 ||| 2 ^ (vars - 1 - n.v) = c1 + 2 ^ (vars - n.v - 1) := by rw [e0, hq, or_add (by omega)]
  rw [e1]
  refine ⟨hlt, (fun e => hne (by omega)), ?_, by omega, fun r hr => ?_, fun c hc => ?_⟩
  · obtain ⟨d, hd⟩ : ∃ d, vars - n.v - 1 = (vars - var ns n.hi) + d := ⟨vars - n.v - 1 - (vars - var ns n.hi), by omega⟩
    have h4 : 2 ^ (vars - n.v) = 2 ^ (vars - n.v - 1) * 2 := by omega
    exact ⟨2 ^ d * (2 * q) + 2 ^ d, by rw [hq, h4, hd, Nat.pow_add]; simp only [Nat.mul_add, Nat.mul_assoc]⟩
  · rw [Nat.add_assoc, h.same (2 ^ (vars - n.v - 1) + r) (by rw [ev]; omega), den_node ok hn h2]
    have : asgV vars (c1 + (2 ^ (vars - n.v - 1) + r)) n.v = true := by
      show (c1 + (2 ^ (vars - n.v - 1) + r)).testBit (vars - 1 - n.v) = true
      rw [hq, e0, ← Nat.add_assoc]
      exact bit_high (by omega) (by omega)
    rw [this]; rfl
  · rcases Nat.lt_or_ge c c1 with hcc | hcc
    · exact h.less c hcc
    · obtain ⟨r, rfl⟩ : ∃ r, c = c1 + r := ⟨c - c1, by omega⟩
      rw [h.same r (by rw [ev]; omega), den_node ok hn h2]
      have : asgV vars (c1 + r) n.v = false := by
        show (c1 + r).testBit (vars - 1 - n.v) = false
        rw [hq, e0]
        exact bit_low (by omega) (by omega)
      rw [this, hlo, den_zero]; rfl

def OneP (vars : Nat) (ns : List Bdd.Node) (f : Nat) (w : World) (e : Ending) (W' : World) : Prop :=
  RowKit.Below w.heap.size w W' ∧ ((f = 0 ∧ e = .returned (.tuple #[.int .i64 0, .bool false, .int .i64 0])) ∨
    ∃ c : Nat, f ≠ 0 ∧ e = .returned (.tuple #[.int .i64 (c : Int), .bool true, .int .i64 0]) ∧ c < 2 ^ vars ∧ den ns f (asgV vars c) = true ∧ ∀ c', c' < c → den ns f (asgV vars c') = false)

theorem or_pow (c k : Nat) (hc : c < 65536) (hk : k ≤ 16) : Go.bits .or .i64 (c : Int) (wrap64 (2 ^ k)) = ((c ||| 2 ^ k : Nat) : Int) := by
  rw [wrap_pow k hk]
  have : (2 : Nat) ^ k ≤ 2 ^ 16 := Nat.pow_le_pow_right (by omega) hk
  have e : ((2 : Int) ^ k) = ((2 ^ k : Nat) : Int) := by simp
  rw [e]; exact i64_or c (2 ^ k) (by omega) (by omega)

set_option maxRecDepth 100000 in
set_option maxHeartbeats 4000000 in
theorem one_walk {w : World} {B g nb kb ib cap : Nat} {A : St} {K T : Tri → Option Value} (h : ArenaAt w B g nb kb ib cap A K T) (f : Nat) (hf : f < A.ns.length) :
    Calls Try.prog 104 #[.pointer (some ⟨g, 0, none⟩), .int .i64 f] w (OneP A.vars A.ns f w) := by
  have hlen := h.lenle
  have hb0 : RowKit.Below w.heap.size w (w.alloc (.cells #[.int .i64 f] 3)) := (RowKit.Below.refl _ _).alloc (Nat.le_refl _) _
  have HA0 := hide (h.below hb0)
  have HI := hide (ints1 w (w.alloc (.cells #[.int .i64 f] 3)).heap.size (by simp) f (by omega) 3 (heap_alloc_new w _))
  have HOK := hide (show AskOk A [(f : Int)] [] from ⟨fun x hx => by
    simp only [List.mem_cons, List.mem_nil_iff, or_false] at hx
    rw [hx]; omega, fun x hx => (by cases hx)⟩)
  have H := hide h
  go_enter Try.func104, Try.ntmps104
  go_wp2_with fail
  refine (ask_walk HA0.out [(f : Int)] [] _ none 1 0 1 0 (by omega) (by omega) HI.out (IntsAt.nil _ _ _)).mono ?_
  rintro e wa ⟨he, _, hb⟩
  obtain rfl := he HOK.out
  have HB := hide (hb0.trans (hb.mono hb0.size))
  obtain ⟨l1, l2, _, _, _⟩ := h.lts
  have hvs := h.vs
  have HOKK := hide h.inv.ok
  clear he hb h
  by_cases hz : f = 0
  · subst hz
    go_wp2
    go_ret3
    exact ⟨HB.out, .inl ⟨rfl, rfl⟩⟩
  have hz' : ((f : Int) == 0) = false := by simp; omega
  go_wp2
  go_loopw [1, 8] (fun u v wr => ∃ f1 c1 : Nat, u = .int .i64 f1 ∧ v = .int .i64 c1 ∧ Hid (OneAt A.vars A.ns f f1 c1) ∧ RowKit.Below w.heap.size w wr) (fun u _ _ => (intOf u).toNat)
  case atStart => exact ⟨f, 0, rfl, rfl, hide (OneAt.start hf hz), HB.out⟩
  case round =>
    clear hz'
    obtain ⟨f1, c1, rfl, rfl, HO, hb⟩ := hrel
    have HB1 := hide hb
    have hf1 := HO.out.lt
    by_cases hgt : (1 : Int) < f1
    · obtain ⟨nn, hnn⟩ := get_of_lt hf1
      have HN := hide hnn
      obtain ⟨hv1, hnl, hnh, _⟩ := HOKK.out.node f1 nn hnn (by omega)
      obtain ⟨q0, q1, q2⟩ := (H.out.below hb).node hnn
      have c2 := (hb.cell (p := ⟨g, 2, none⟩) l1).trans H.out.c2
      have hlt2 : g < wr.heap.size := Nat.lt_of_lt_of_le l1 hb.size
      have cv : ∀ ob, (wr.alloc ob).cell? ⟨g, 0, none⟩ = some (.int .i64 A.vars) := fun ob => (World.cell?_alloc_lt _ _ _ (by show g < _; omega)).trans ((hb.cell (p := ⟨g, 0, none⟩) l1).trans H.out.c0)
      have hc16 : c1 < 65536 := by
        have ht := HO.out.top
        have h1 : 1 ≤ 2 ^ (A.vars - var A.ns f1) := Nat.one_le_two_pow
        have : (2 : Nat) ^ A.vars ≤ 2 ^ 16 := Nat.pow_le_pow_right (by omega) hvs.2
        omega
      have htn : ((A.vars : Int) - 1 - (nn.v : Int)).toNat = A.vars - 1 - nn.v := by omega
      have HOR := hide (or_pow c1 (A.vars - 1 - nn.v) hc16 (by omega))
      clear hnn hb HB
      by_cases hlo : nn.lo = 0
      · have HH := hide (HO.out.hi HOKK.out HN.out (by omega) hlo)
        rw [hlo] at q1
        go_wp2
        go_quiet (fail)
        go_wp2
        go_roundw
        case rel => exact ⟨nn.hi, c1 ||| 2 ^ (A.vars - 1 - nn.v), rfl, by rw [HOR.out], HH, (HB1.out.alloc HB1.out.size _).trans ⟨rfl, rfl, rfl, Nat.le_refl _, fun _ _ => rfl⟩⟩
        case measure => simp [intOf]; omega
      · have hlo' : ((nn.lo : Int) == 0) = false := by simp; omega
        have HH := hide (HO.out.lo HOKK.out HN.out (by omega) hlo)
        go_wp2
        go_roundw
        case rel => exact ⟨nn.lo, c1, rfl, rfl, HH, HB1.out.alloc HB1.out.size _⟩
        case measure => simp [intOf]; omega
    · have h1 : f1 = 1 := by have := HO.out.nz; omega
      subst h1
      have HF := hide (HO.out.fin HOKK.out)
      go_wp2
      go_ret3
      exact ⟨HB1.out, .inr ⟨c1, hz, rfl, HF.out⟩⟩
end Go.Proofs.Ytoanimmlpfchjaa
