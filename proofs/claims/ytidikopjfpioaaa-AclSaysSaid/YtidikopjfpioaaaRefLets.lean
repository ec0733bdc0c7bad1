/- wireref.Has, Lets, whatever the packet; wirelaw.least. -/
import Derived.Test.YtidikopjfpioaaaHeld
import Derived.Test.YtidikopjfpioaaaLets
import Derived.Test.YtidikopjfpioaaaRefRoutesW
set_option linter.unusedVariables false
set_option linter.unusedSimpArgs false
namespace Go.Proofs.Ytidikopjfpioaaa
open Go.RowKit

set_option maxRecDepth 100000 in
theorem hasI_walk (w : World) (set : Nat) (n : Int) (hs : set < 65536) (B : Bool) (hB : hasB set n = B) :
    Calls Try.prog 108 #[.int .i64 set, .int .i64 n] w fun e W' => e = .returned (.bool B) ∧ w = W' := by
  cases h1 : inR n 0 15
  · have HB := hide (show B = false from by
      rw [← hB]; simp only [inR, Bool.and_eq_false_iff, decide_eq_false_iff_not] at h1; simp [hasB]; omega)
    rw [HB.out]
    clear hB
    go_enter Try.func108, Try.ntmps108
    go_wp2_with fail
    refine (inR_walk _ _ _ _).mono ?_
    rintro e w' ⟨rfl, rfl⟩
    rw [h1]
    go_wp2
    go_ret
    exact ⟨rfl, rfl⟩
  · have h2 := h1
    simp only [inR, Bool.and_eq_true, decide_eq_true_eq] at h2
    obtain ⟨h3, h4⟩ := h2
    obtain ⟨k, rfl⟩ : ∃ k : Nat, n = (k : Int) := ⟨n.toNat, by omega⟩
    refine has_walk w set k hs (by omega) B ?_
    rw [← hB]
    have : (k : Int) < 16 := by omega
    simp [hasB, this]

set_option maxRecDepth 100000 in
set_option maxHeartbeats 4000000 in
theorem refHas_walk (m : M4) (p : P4) (w : World) (hm : m.ok) (B : Bool) (hB : inB m p = B) :
    Calls Try.prog 87 #[.agg #[.int .u16 m.src, .int .u16 m.dst, .int .u8 m.sport, .int .u8 m.dport], .agg #[.int .i64 p.src, .int .i64 p.dst, .int .i64 p.sport, .int .i64 p.dport]] w fun e W' => e = .returned (.bool B) ∧ Below w.heap.size w W' := by
  have HB : Hid (∀ o0 o1, Below w.heap.size w ((w.alloc o0).alloc o1)) := hide (fun o0 o1 => ((Below.refl _ _).alloc (Nat.le_refl _) o0).alloc (by simp) o1)
  have HF := hide (show (hasB m.src p.src && hasB m.dst p.dst && hasB m.sport p.sport && hasB m.dport p.dport) = B from hB)
  clear hB
  obtain ⟨ms, md, mp, mq⟩ := m
  obtain ⟨ps, pd, pp, pq⟩ := p
  have h1 : ms < 65536 := hm.1
  have h2 : md < 65536 := hm.2.1
  have h3 : mp < 256 := hm.2.2.1
  have h4 : mq < 256 := hm.2.2.2
  clear hm
  cases e1 : hasB ms ps
  · rw [← HF.out, e1]
    go_enter Try.func87, Try.ntmps87
    go_wp2_with (go_at_call 108; refine (hasI_walk _ _ _ (by omega) _ rfl).mono ?_; rintro e w' ⟨rfl, rfl⟩)
    go_ret
    exact ⟨by simp [*], HB.out _ _⟩
  cases e2 : hasB md pd
  · rw [← HF.out, e1, e2]
    go_enter Try.func87, Try.ntmps87
    go_wp2_with (go_at_call 108; refine (hasI_walk _ _ _ (by omega) _ rfl).mono ?_; rintro e w' ⟨rfl, rfl⟩)
    go_ret
    exact ⟨by simp [*], HB.out _ _⟩
  cases e3 : hasB mp pp
  · rw [← HF.out, e1, e2, e3]
    go_enter Try.func87, Try.ntmps87
    go_wp2_with (go_at_call 108; refine (hasI_walk _ _ _ (by omega) _ rfl).mono ?_; rintro e w' ⟨rfl, rfl⟩)
    go_ret
    exact ⟨by simp [*], HB.out _ _⟩
  cases e4 : hasB mq pq
  · rw [← HF.out, e1, e2, e3, e4]
    go_enter Try.func87, Try.ntmps87
    go_wp2_with (go_at_call 108; refine (hasI_walk _ _ _ (by omega) _ rfl).mono ?_; rintro e w' ⟨rfl, rfl⟩)
    go_ret
    exact ⟨by simp [*], HB.out _ _⟩
  · rw [← HF.out, e1, e2, e3, e4]
    go_enter Try.func87, Try.ntmps87
    go_wp2_with (go_at_call 108; refine (hasI_walk _ _ _ (by omega) _ rfl).mono ?_; rintro e w' ⟨rfl, rfl⟩)
    go_ret
    exact ⟨by simp [*], HB.out _ _⟩

set_option maxRecDepth 100000 in
set_option maxHeartbeats 4000000 in
theorem refLets_walk (l : List RuleV) (b o n c : Nat) (p : P4) (W : World) (hn : n ≤ 9223372036854775807) (hl : RulesAt W W.heap.size (some ⟨b, o, none⟩) n l) :
    Calls Try.prog 36 #[.slice (some ⟨b, o, none⟩) n c, .agg #[.int .i64 p.src, .int .i64 p.dst, .int .i64 p.sport, .int .i64 p.dport]] W fun e W' => e = .returned (.bool (letsB l p)) ∧ Below W.heap.size W W' := by
  have HL := hide hl
  have hb0 : Below W.heap.size W (W.alloc (.cells #[.int .i64 p.src, .int .i64 p.dst, .int .i64 p.sport, .int .i64 p.dport] 42)) := (Below.refl _ _).alloc (Nat.le_refl _) _
  have hpa : PackAt (W.alloc (.cells #[.int .i64 p.src, .int .i64 p.dst, .int .i64 p.sport, .int .i64 p.dport] 42)) W.heap.size p := ⟨by simp, by simp, by simp, by simp⟩
  have HB0 := hide hb0
  have HP := hide hpa
  clear hl hb0 hpa
  go_enter Try.func36, Try.ntmps36
  go_wp2
  go_loopw [5] (fun i wr => ∃ k : Nat, k ≤ n ∧ i = .int .i64 k ∧ Hid (∀ j r, j < k → l[j]? = some r → inB r.m p = false) ∧ Below W.heap.size W wr ∧ Hid (PackAt wr W.heap.size p) ∧ W.heap.size < wr.heap.size) (fun i _ => n - (intOf i).toNat)
  case atStart => exact ⟨0, Nat.zero_le _, rfl, hide (fun j r h => absurd h (by omega)), HB0.out, HP, by simp⟩
  case round =>
    clear HP HB0
    obtain ⟨k, hk, rfl, HN, hb, HP, hsz⟩ := hrel
    have HB := hide hb
    clear hb
    by_cases hlt : k < n
    · obtain ⟨r, hr⟩ : ∃ r, l[k]? = some r := ⟨_, List.getElem?_eq_getElem (by have := HL.out.1; omega)⟩
      obtain ⟨hbB, hra⟩ := HL.out.get hr
      have HRA := hide (hra.below HB.out hbB)
      have HR := hide hr
      have HOK := hide (HL.out.okAt hr)
      have hbl : b < wr.heap.size := by omega
      clear hr hra
      obtain ⟨rp, m⟩ := r
      go_wp2_with fail
      refine wp_region_abs (by kernel_rfl) (by kernel_rfl) ?_
      intro T hT g hg hgi
      have HG := hide hg
      have HI := hide hgi
      have e : ∀ t o, (g t).cell? ⟨b, o, none⟩ = wr.cell? ⟨b, o, none⟩ := fun t o => (HG.out t).cell (p := ⟨b, o, none⟩) hbl
      have k1 : ∀ t, (g t).cell? ⟨b, o + k * 5 + 1, none⟩ = some (.int .u16 m.src) := fun t => (e t _).trans HRA.out.2.1
      have k2 : ∀ t, (g t).cell? ⟨b, o + k * 5 + 2, none⟩ = some (.int .u16 m.dst) := fun t => (e t _).trans HRA.out.2.2.1
      have k3 : ∀ t, (g t).cell? ⟨b, o + k * 5 + 3, none⟩ = some (.int .u8 m.sport) := fun t => (e t _).trans HRA.out.2.2.2.1
      have k4 : ∀ t, (g t).cell? ⟨b, o + k * 5 + 4, none⟩ = some (.int .u8 m.dport) := fun t => (e t _).trans HRA.out.2.2.2.2
      have p0 : ∀ t, (g t).cell? ⟨W.heap.size, 0, none⟩ = some (.int .i64 p.src) := fun t => (((HP.out.below (HG.out t) hsz))).1
      have p1 : ∀ t, (g t).cell? ⟨W.heap.size, 1, none⟩ = some (.int .i64 p.dst) := fun t => (((HP.out.below (HG.out t) hsz))).2.1
      have p2 : ∀ t, (g t).cell? ⟨W.heap.size, 2, none⟩ = some (.int .i64 p.sport) := fun t => (((HP.out.below (HG.out t) hsz))).2.2.1
      have p3 : ∀ t, (g t).cell? ⟨W.heap.size, 3, none⟩ = some (.int .i64 p.dport) := fun t => (((HP.out.below (HG.out t) hsz))).2.2.2
      have HBx := hide (fun t => HB.out.trans ((HG.out t).mono HB.out.size))
      have HPx := hide (fun t => (HP.out.below (HG.out t) hsz))
      have HSx := hide (fun t => Nat.lt_of_lt_of_le hsz (HG.out t).size)
      clear hg hgi e
      cases h1 : inB m p
      · repeat (go_big_quiet_step ((go_at_call 87; exact inAbs HG.out HI.out (refHas_walk m p _ HOK.out _ h1))))
        refine wpQuiet_nil ?_
        intro _ hw'
        obtain ⟨t, rfl⟩ := hw'
        go_wp2
        go_roundw
        case rel => exact ⟨k + 1, by omega, by go_num, hide (fun i r hi hr => by
          rcases (by omega : i < k ∨ i = k) with h | rfl
          · exact HN.out i r h hr
          · have e := HR.out; rw [e] at hr; cases hr; exact h1), HBx.out t, hide (HPx.out t), HSx.out t⟩
        case measure => simp [intOf]; omega
      · have HF := hide (lets_found HR.out h1 HN.out)
        repeat (go_big_quiet_step ((go_at_call 87; exact inAbs HG.out HI.out (refHas_walk m p _ HOK.out _ h1))))
        refine wpQuiet_nil ?_
        intro _ hw'
        obtain ⟨t, rfl⟩ := hw'
        have k0 : (g t).cell? ⟨b, o + k * 5, none⟩ = some (.bool rp) := ((HG.out t).cell (p := ⟨b, o + k * 5, none⟩) hbl).trans HRA.out.1
        go_wp2
        go_ret
        exact ⟨ret_bool (by rw [HF.out]), HBx.out t⟩
    · have hkn : k = n := by omega
      have HF := hide (lets_none (l := l) (p := p) (fun r hr => by
        obtain ⟨i, hi⟩ := List.getElem?_of_mem hr
        exact HN.out i r (by have := (List.getElem?_eq_some_iff.1 hi).1; have := HL.out.1; omega) hi))
      go_wp2
      go_ret
      exact ⟨ret_bool (by rw [HF.out]), HB.out⟩

set_option maxRecDepth 100000 in
theorem refLets_nil (A : Option Addr) (c : Nat) (p : Value) (x0 x1 x2 x3 : Int) (W : World) : Calls Try.prog 36 #[.slice A 0 c, .agg #[.int .i64 x0, .int .i64 x1, .int .i64 x2, .int .i64 x3]] W fun e W' => e = .returned (.bool false) ∧ Below W.heap.size W W' := by
  go_enter Try.func36, Try.ntmps36
  go_wp2
  refine wp_loop_rounds 1 ?_
  rw [rounds_succ]
  go_wp2
  go_ret
  exact ⟨rfl, (Below.refl _ _).alloc (Nat.le_refl _) _⟩

theorem refLets_any (l : List RuleV) (A : Option Addr) (n c : Nat) (p : P4) (W : World) (hn : n ≤ 9223372036854775807) (hl : RulesAt W W.heap.size A n l) :
    Calls Try.prog 36 #[.slice A n c, .agg #[.int .i64 p.src, .int .i64 p.dst, .int .i64 p.sport, .int .i64 p.dport]] W fun e W' => e = .returned (.bool (letsB l p)) ∧ Below W.heap.size W W' := by
  rcases Nat.eq_zero_or_pos n with rfl | h0
  · have : l = [] := List.eq_nil_of_length_eq_zero hl.1
    subst this
    exact refLets_nil A c undef _ _ _ _ W
  · obtain ⟨b, o, rfl, hb, _⟩ := hl.2.2 h0
    exact refLets_walk l b o n c p W hn hl

/-! ### packets by their codes -/
def pk (c : Nat) : P4 := ⟨((c / 1024 : Nat) : Int), ((c / 64 % 16 : Nat) : Int), ((c / 8 % 8 : Nat) : Int), ((c % 8 : Nat) : Int)⟩
theorem pk_val (c : Nat) : packVal c = .agg #[.int .i64 (pk c).src, .int .i64 (pk c).dst, .int .i64 (pk c).sport, .int .i64 (pk c).dport] := rfl

/-- Where two things first differ, below n; and which one holds. -/
def leastF (F G : Nat → Bool) (n : Nat) : Option (Nat × Nat) :=
  ((List.range n).find? fun c => F c != G c).map fun c => (c, if F c then 1 else 2)

theorem leastF_found {F G : Nat → Bool} {n c : Nat} (hc : c < n) (h : (F c != G c) = true) (hl : ∀ j, j < c → F j = G j) : leastF F G n = some (c, if F c then 1 else 2) := by
  have : (List.range n).find? (fun c => F c != G c) = some c := by
    rw [List.find?_eq_some_iff_getElem]
    refine ⟨h, c, by simpa using hc, by simp, fun j hj => ?_⟩
    simp [hl j hj]
  simp [leastF, this]
theorem leastF_none {F G : Nat → Bool} {n : Nat} (h : ∀ j, j < n → F j = G j) : leastF F G n = none := by
  have : (List.range n).find? (fun c => F c != G c) = none := by
    rw [List.find?_eq_none]
    intro j hj
    simp [h j (by simpa using hj)]
  simp [leastF, this]

def leastV (r : Option (Nat × Nat)) : Value := match r with
  | some (c, k) => .tuple #[packVal c, .int .i64 (k : Int)]
  | none => .tuple #[.agg #[.int .i64 0, .int .i64 0, .int .i64 0, .int .i64 0], .int .i64 0]
end Go.Proofs.Ytidikopjfpioaaa
