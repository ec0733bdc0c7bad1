/- fib.Out: what it answers. -/
import Derived.Test.YtidikopjfpioaaaFib
set_option linter.unusedVariables false
set_option linter.unusedSimpArgs false
namespace Go.Proofs.Ytidikopjfpioaaa
open Go.ChangeShapes Go.WideShapes Go.ChangeAt Go.RowKit

theorem outF_bits (d : Int) (l : List RouteV) : -1 ≤ (outF d l).2 ∧ (outF d l).2 ≤ 4 := by
  have h : ∀ (l : List RouteV) (s : Int × Int), -1 ≤ s.2 ∧ s.2 ≤ 4 → -1 ≤ (l.foldl (outStep d) s).2 ∧ (l.foldl (outStep d) s).2 ≤ 4 := by
    intro l
    induction l with
    | nil => intro s h; exact h
    | cons r l ih =>
      intro s h
      refine ih _ ?_
      unfold outStep
      split
      · rename_i hh
        simp only [outHit, routeB, Bool.and_eq_true, decide_eq_true_eq] at hh
        show -1 ≤ r.b ∧ r.b ≤ 4
        omega
      · exact h
  exact h l _ (by decide)

set_option maxRecDepth 100000 in
set_option maxHeartbeats 4000000 in
theorem out_walk (l : List RouteV) (b o n c : Nat) (d : Int) (W : World) (hn : n ≤ 9223372036854775807) (hd : i64ok d) (hl : SlAt RouteV.cells 3 W W.heap.size (some ⟨b, o, none⟩) n l) (hok : ∀ r ∈ l, r.ok) (h0 : 0 < n) :
    Calls Try.prog 122 #[.slice (some ⟨b, o, none⟩) n c, .int .i64 d] W fun e W' =>
      e = .returned (.tuple #[.int .i64 (outF d l).1, .bool (decide (0 ≤ (outF d l).2))]) ∧ Below W.heap.size W W' := by
  obtain ⟨hd1, hd2⟩ := hd
  have HL := hide hl
  have HK := hide hok
  clear hl hok
  go_enter Try.func122, Try.ntmps122
  go_wp2
  go_loopw [6, 7, 12] (fun u v i wr => ∃ (k : Nat) (x y : Int), k ≤ n ∧ i = .int .i64 k ∧ u = .int .i64 x ∧ v = .int .i64 y ∧ (x, y) = outF d (l.take k) ∧ Below W.heap.size W wr) (fun _ _ i _ => n - (intOf i).toNat)
  case atStart => exact ⟨0, 0, -1, Nat.zero_le _, rfl, rfl, rfl, rfl, Below.refl _ _⟩
  case round =>
    obtain ⟨k, x, y, hk, rfl, rfl, rfl, hxy, hb⟩ := hrel
    have hbits := outF_bits d (l.take k)
    rw [← hxy] at hbits
    obtain ⟨hy1, hy2⟩ : -1 ≤ y ∧ y ≤ 4 := hbits
    have HXY := hide hxy
    have HB := hide hb
    clear hxy hb
    by_cases hlt : k < n
    · obtain ⟨r, hr⟩ : ∃ r, l[k]? = some r := ⟨_, List.getElem?_eq_getElem (by have := HL.out.1; omega)⟩
      obtain ⟨hbB, hra⟩ := route_get HL.out hr
      obtain ⟨q0, q1, q2⟩ := hra.below HB.out hbB
      have HS := hide (outF_snoc d l hr)
      have hrok := HK.out r (List.mem_of_getElem? hr)
      obtain ⟨⟨hv1, hv2⟩, ⟨hbb1, hbb2⟩, ⟨hp1, hp2⟩⟩ := hrok
      clear hr hra
      obtain ⟨rv, rb, rp⟩ := r
      go_wp2_with fail
      refine wp_region_abs (by kernel_rfl) (by kernel_rfl) ?_
      intro T hT g hg hgi
      have HG := hide hg
      have HI := hide hgi
      have k0 : ∀ t, (g t).cell? ⟨wr.heap.size, 0, none⟩ = some (.int .i64 rv) := fun t => ((HG.out t).cell (p := ⟨wr.heap.size, 0, none⟩) (by simp)).trans (by simp)
      have k1 : ∀ t, (g t).cell? ⟨wr.heap.size, 1, none⟩ = some (.int .i64 rb) := fun t => ((HG.out t).cell (p := ⟨wr.heap.size, 1, none⟩) (by simp)).trans (by simp)
      have k2 : ∀ t, (g t).cell? ⟨wr.heap.size, 2, none⟩ = some (.int .i64 rp) := fun t => ((HG.out t).cell (p := ⟨wr.heap.size, 2, none⟩) (by simp)).trans (by simp)
      have HBx := hide (fun t => HB.out.trans (((Below.refl _ wr).alloc HB.out.size _).trans ((HG.out t).mono (by have := HB.out.size; simp; omega))))
      clear hg hgi q0 q1 q2
      cases h1 : routeB rv rb rp
      · repeat (go_big_quiet_step ((go_at_call 146; exact inAbs HG.out HI.out (right75_is _ _ _ _ _ ⟨hv1, hv2⟩ ⟨hbb1, hbb2⟩ ⟨hp1, hp2⟩ h1))))
        refine wpQuiet_nil ?_
        intro _ hw'
        obtain ⟨t, rfl⟩ := hw'
        go_wp2
        go_roundw
        case rel => exact ⟨k + 1, x, y, by omega, by go_num, rfl, rfl, by rw [HS.out, ← HXY.out]; simp [outStep, outHit, takesB, h1], HBx.out t⟩
        case measure => simp [intOf]; omega
      have h1' := h1
      simp only [routeB, Bool.and_eq_true, decide_eq_true_eq] at h1'
      obtain ⟨⟨⟨⟨⟨⟨r1, r2⟩, r3⟩, r4⟩, r5⟩, r6⟩, r7⟩ := h1'
      clear r5
      by_cases h2 : 0 ≤ d
      case neg =>
        have h2' : decide (0 ≤ d) = false := by simpa using h2
        repeat (go_big_quiet_step ((go_at_call 146; exact inAbs HG.out HI.out (right75_is _ _ _ _ _ ⟨hv1, hv2⟩ ⟨hbb1, hbb2⟩ ⟨hp1, hp2⟩ h1))))
        refine wpQuiet_nil ?_
        intro _ hw'
        obtain ⟨t, rfl⟩ := hw'
        go_wp2
        go_roundw
        case rel => exact ⟨k + 1, x, y, by omega, by go_num, rfl, rfl, by rw [HS.out, ← HXY.out]; simp [outStep, outHit, takesB, h2'], HBx.out t⟩
        case measure => simp [intOf]; omega
      by_cases h3 : d < 16
      case neg =>
        have h3' : decide (d < 16) = false := by simpa using h3
        repeat (go_big_quiet_step ((go_at_call 146; exact inAbs HG.out HI.out (right75_is _ _ _ _ _ ⟨hv1, hv2⟩ ⟨hbb1, hbb2⟩ ⟨hp1, hp2⟩ h1))))
        refine wpQuiet_nil ?_
        intro _ hw'
        obtain ⟨t, rfl⟩ := hw'
        go_wp2
        go_roundw
        case rel => exact ⟨k + 1, x, y, by omega, by go_num, rfl, rfl, by rw [HS.out, ← HXY.out]; simp [outStep, outHit, takesB, h3'], HBx.out t⟩
        case measure => simp [intOf]; omega
      cases h4 : (bits .andNot .i64 d (15 / 2 ^ rb.toNat) == rv)
      · repeat (go_big_quiet_step ((go_at_call 146; exact inAbs HG.out HI.out (right75_is _ _ _ _ _ ⟨hv1, hv2⟩ ⟨hbb1, hbb2⟩ ⟨hp1, hp2⟩ h1))))
        refine wpQuiet_nil ?_
        intro _ hw'
        obtain ⟨t, rfl⟩ := hw'
        go_wp2
        go_roundw
        case rel => exact ⟨k + 1, x, y, by omega, by go_num, rfl, rfl, by rw [HS.out, ← HXY.out]; simp [outStep, outHit, takesB, h4], HBx.out t⟩
        case measure => simp [intOf]; omega
      cases h5 : decide (y < rb)
      · repeat (go_big_quiet_step ((go_at_call 146; exact inAbs HG.out HI.out (right75_is _ _ _ _ _ ⟨hv1, hv2⟩ ⟨hbb1, hbb2⟩ ⟨hp1, hp2⟩ h1))))
        refine wpQuiet_nil ?_
        intro _ hw'
        obtain ⟨t, rfl⟩ := hw'
        go_wp2
        go_roundw
        case rel => exact ⟨k + 1, x, y, by omega, by go_num, rfl, rfl, by rw [HS.out, ← HXY.out]; simp [outStep, outHit, takesB, h5], HBx.out t⟩
        case measure => simp [intOf]; omega
      have h6 : y < rb := by simpa using h5
      repeat (go_big_quiet_step ((go_at_call 146; exact inAbs HG.out HI.out (right75_is _ _ _ _ _ ⟨hv1, hv2⟩ ⟨hbb1, hbb2⟩ ⟨hp1, hp2⟩ h1))))
      refine wpQuiet_nil ?_
      intro _ hw'
      obtain ⟨t, rfl⟩ := hw'
      go_wp2
      go_quiet (fail)
      go_wp2
      go_roundw
      case rel => exact ⟨k + 1, rp, rb, by omega, by go_num, rfl, rfl, by rw [HS.out, ← HXY.out]; simp [outStep, outHit, takesB, h1, h2, h3, h4, h6], (HBx.out t).trans ⟨rfl, rfl, rfl, Nat.le_refl _, fun _ _ => rfl⟩⟩
      case measure => simp [intOf]; omega
    · have hkn : k = n := by omega
      subst hkn
      have htake : l.take k = l := List.take_of_length_le (by have := HL.out.1; omega)
      have HT := hide htake
      clear htake
      go_wp2
      go_ret2
      have e := HXY.out
      rw [HT.out] at e
      exact ⟨by rw [← e]; rfl, HB.out⟩

set_option maxRecDepth 100000 in
theorem out_nil (A : Option Addr) (c : Nat) (d : Int) (W : World) (hd : i64ok d) : Calls Try.prog 122 #[.slice A 0 c, .int .i64 d] W fun e W' => e = .returned (.tuple #[.int .i64 0, .bool false]) ∧ W = W' := by
  go_enter Try.func122, Try.ntmps122
  go_wp2
  refine wp_loop_rounds 1 ?_
  rw [rounds_succ]
  go_wp2
  go_ret2
  exact ⟨rfl, rfl⟩

theorem out_any (l : List RouteV) (A : Option Addr) (n c : Nat) (d : Int) (W : World) (hn : n ≤ 9223372036854775807) (hd : i64ok d) (hl : SlAt RouteV.cells 3 W W.heap.size A n l) (hok : ∀ r ∈ l, r.ok) :
    Calls Try.prog 122 #[.slice A n c, .int .i64 d] W fun e W' =>
      e = .returned (.tuple #[.int .i64 (outF d l).1, .bool (decide (0 ≤ (outF d l).2))]) ∧ Below W.heap.size W W' := by
  rcases Nat.eq_zero_or_pos n with rfl | h0
  · have : l = [] := List.eq_nil_of_length_eq_zero hl.1
    subst this
    exact (out_nil A c d W hd).mono fun e w' ⟨he, hw⟩ => ⟨he, hw ▸ Below.refl _ _⟩
  · obtain ⟨b, o, rfl, hb, _⟩ := hl.2 h0
    exact out_walk l b o n c d W hn hd hl hok h0
end Go.Proofs.Ytidikopjfpioaaa
