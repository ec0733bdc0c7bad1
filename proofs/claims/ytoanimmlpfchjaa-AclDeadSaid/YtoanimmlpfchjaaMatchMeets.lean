/- MatchMeets: a packet is in what two matches have in common just if it is in both. No condition. -/
import Derived.Test.YtoanimmlpfchjaaMatchIn
import Derived.Test.YtoanimmlpfchjaaFam
import Derived.Test.YtoanimmlpfchjaaOpen
set_option linter.unusedVariables false
namespace Go.Proofs.Ytoanimmlpfchjaa
open Go.ChangeShapes Go.WideShapes Go.ChangeAt Go.RowKit

theorem all_walk (W : World) : Calls Try.prog 16 #[] W fun e W' =>
      e = .returned (.agg #[.int .u16 65535, .int .u16 65535, .int .u8 255, .int .u8 255]) ∧ Below W.heap.size W W' := by
  go_enter Try.func16, Try.ntmps16
  go_wp2
  exact bodyPost_ret (v := .agg #[.int .u16 65535, .int .u16 65535, .int .u8 255, .int .u8 255]) (by simp [results, Try.results16, go_sem]) rfl ⟨rfl, ((Below.refl _ _).alloc (Nat.le_refl _) _)⟩

theorem hasB_and (s t : Nat) (n : Int) : hasB (s &&& t) n = (hasB s n && hasB t n) := by
  simp only [hasB, Nat.testBit_and]
  cases decide (0 ≤ n) <;> cases decide (n < 16) <;> cases s.testBit n.toNat <;> cases t.testBit n.toNat <;> rfl
theorem hasB_full (s : Nat) (n : Int) (h : hasB s n = true) : hasB 65535 n = true := by
  simp only [hasB, Bool.and_eq_true, decide_eq_true_eq] at h ⊢
  refine ⟨h.1, ?_⟩
  have h16 : n.toNat < 16 := by omega
  rw [show (65535 : Nat) = 2 ^ 16 - 1 from rfl, Nat.testBit_two_pow_sub_one]
  simpa using h16
theorem hasB_full8 (s : Nat) (n : Int) (hs : s < 256) (h : hasB s n = true) : hasB 255 n = true := by
  simp only [hasB, Bool.and_eq_true, decide_eq_true_eq] at h ⊢
  refine ⟨h.1, ?_⟩
  rw [show (255 : Nat) = 2 ^ 8 - 1 from rfl, Nat.testBit_two_pow_sub_one]
  rcases Nat.lt_or_ge n.toNat 8 with h8 | h8
  · simpa using h8
  · have := Nat.testBit_lt_two_pow (x := s) (i := n.toNat) (Nat.lt_of_lt_of_le hs (Nat.pow_le_pow_right (n := 2) (by omega) h8))
    rw [this] at h
    cases h.2

theorem in_is (a b c d x y z u : Int) (W : World) (B : Bool) (ha : 0 ≤ a ∧ a < 65536) (hb : 0 ≤ b ∧ b < 65536) (hc : 0 ≤ c ∧ c < 256) (hd : 0 ≤ d ∧ d < 256) (hx : i64ok x) (hy : i64ok y) (hz : i64ok z) (hu : i64ok u)
    (h : inB ⟨a.toNat, b.toNat, c.toNat, d.toNat⟩ ⟨x, y, z, u⟩ = B) :
    Calls Try.prog 15 #[.agg #[.int .u16 a, .int .u16 b, .int .u8 c, .int .u8 d], .agg #[.int .i64 x, .int .i64 y, .int .i64 z, .int .i64 u]] W fun e W' =>
      e = .returned (.bool B) ∧ Below W.heap.size W W' := h ▸ in_any a b c d x y z u W ha hb hc hd hx hy hz hu

theorem inB_and (a b c d a' b' c' d' : Nat) (p : P4) : inB ⟨a &&& a', b &&& b', c &&& c', d &&& d'⟩ p = (inB ⟨a, b, c, d⟩ p && inB ⟨a', b', c', d'⟩ p) := by
  simp only [inB, hasB_and]
  cases hasB a p.src <;> cases hasB a' p.src <;> cases hasB b p.dst <;> cases hasB b' p.dst <;> cases hasB c p.sport <;> cases hasB c' p.sport <;> simp
theorem inB_full (a b c d : Nat) (p : P4) (hc : c < 256) (hd : d < 256) (h : inB ⟨a, b, c, d⟩ p = true) : inB ⟨65535, 65535, 255, 255⟩ p = true := by
  simp only [inB, Bool.and_eq_true] at h ⊢
  exact ⟨⟨⟨hasB_full _ _ h.1.1.1, hasB_full _ _ h.1.1.2⟩, hasB_full8 _ _ hc h.1.2⟩, hasB_full8 _ _ hd h.2⟩

set_option maxHeartbeats 4000000 in
theorem matchMeets_walk (a b c d a' b' c' d' : Nat) (x y z u : Int) (W : World) (ha : a < 65536) (hb : b < 65536) (hc_ : c < 256) (hd_ : d < 256) (ha' : a' < 65536) (hb' : b' < 65536) (hc' : c' < 256) (hd' : d' < 256)
    (hx : i64ok x) (hy : i64ok y) (hz : i64ok z) (hu : i64ok u) :
    Calls Try.prog 4 #[.agg #[.int .u16 a, .int .u16 b, .int .u8 c, .int .u8 d], .agg #[.int .u16 a', .int .u16 b', .int .u8 c', .int .u8 d'], .agg #[.int .i64 x, .int .i64 y, .int .i64 z, .int .i64 u]] W fun e W' =>
      e = .returned (.bool true) ∧ Below W.heap.size W W' := by
  have hp1 := u16_and a a' ha ha'
  have hp2 := u16_and b b' hb hb'
  have hp3 := u8_and c c' hc_ hc'
  have hp4 := u8_and d d' hd_ hd'
  have hq1 : a &&& a' < 65536 := Nat.lt_of_le_of_lt Nat.and_le_left ha
  have hq2 : b &&& b' < 65536 := Nat.lt_of_le_of_lt Nat.and_le_left hb
  have hq3 : c &&& c' < 256 := Nat.lt_of_le_of_lt Nat.and_le_left hc_
  have hq4 : d &&& d' < 256 := Nat.lt_of_le_of_lt Nat.and_le_left hd_
  obtain ⟨x1, x2⟩ := hx
  obtain ⟨y1, y2⟩ := hy
  obtain ⟨z1, z2⟩ := hz
  obtain ⟨u1, u2⟩ := hu
  go_enter Try.func4, Try.ntmps4
  go_wp2_with fail
  refine (all_walk _).mono ?_
  rintro e w1 ⟨rfl, hb1⟩
  have hfull : inB ⟨(65535 : Int).toNat, (65535 : Int).toNat, (255 : Int).toNat, (255 : Int).toNat⟩ ⟨15, 0, 0, 7⟩ = true := by decide +kernel
  go_wp2_with fail
  refine (in_any _ _ _ _ _ _ _ _ _ (by omega) (by omega) (by omega) (by omega) ⟨by omega, by omega⟩ ⟨by omega, by omega⟩ ⟨by omega, by omega⟩ ⟨by omega, by omega⟩).mono ?_
  rintro e w2 ⟨rfl, hb2⟩
  rw [hfull]
  have hb12 := hb1.trans (hb2.mono hb1.size)
  have hB : Below W.heap.size W w2 := (((Below.refl _ W).alloc (Nat.le_refl _) _).alloc (by simp) _).alloc (by simp; omega) _ |>.trans (hb12.mono (by simp; omega))
  have hs2 : W.heap.size + 3 ≤ w2.heap.size := by
    have := hb12.size
    simp at this
    omega
  have hc : ∀ b o, b < W.heap.size + 3 → w2.cell? ⟨b, o, none⟩ = _ := fun b o h => hb12.cell (p := ⟨b, o, none⟩) (by simp; omega)
  clear hb1 hb2 hb12 hfull
  have HB := hide hB
  clear hB
  go_wp2_with fail
  refine wp_region_abs (by kernel_rfl) (by kernel_rfl) ?_
  intro T hT g hg hgi
  have k1 : ∀ t b o, b < W.heap.size + 3 → (g t).cell? ⟨b, o, none⟩ = _ := fun t b o h =>
    ((hg t).cell (p := ⟨b, o, none⟩) (by simp; omega)).trans ((World.cell?_alloc_lt _ _ _ (by show b < _; omega)).trans (hc b o h))
  have k2 : ∀ t o, (g t).cell? ⟨w2.heap.size, o, none⟩ = _ := fun t o =>
    ((hg t).cell (p := ⟨w2.heap.size, o, none⟩) (by simp)).trans (cell_of_row _ _ _ _ _ _ (heap_alloc_new _ _))
  clear hc hs2
  have e3 := inB_and a b c d a' b' c' d' ⟨x, y, z, u⟩
  have e4 := inB_full a b c d ⟨x, y, z, u⟩ hc_ hd_
  cases e1 : inB ⟨a, b, c, d⟩ ⟨x, y, z, u⟩ <;> cases e2 : inB ⟨a', b', c', d'⟩ ⟨x, y, z, u⟩
  · have E1 : inB ⟨(a : Int).toNat, (b : Int).toNat, (c : Int).toNat, (d : Int).toNat⟩ ⟨x, y, z, u⟩ = _ := e1
    have E2 : inB ⟨(a' : Int).toNat, (b' : Int).toNat, (c' : Int).toNat, (d' : Int).toNat⟩ ⟨x, y, z, u⟩ = _ := e2
    have E3 : inB ⟨((a &&& a' : Nat) : Int).toNat, ((b &&& b' : Nat) : Int).toNat, ((c &&& c' : Nat) : Int).toNat, ((d &&& d' : Nat) : Int).toNat⟩ ⟨x, y, z, u⟩ = false := by
      show inB ⟨a &&& a', b &&& b', c &&& c', d &&& d'⟩ ⟨x, y, z, u⟩ = _
      rw [e3, e1, e2]; rfl
    have E4 : True := trivial
    clear e1 e2 e3 e4 hp1 hp2 hp3 hp4
    repeat (go_big_quiet_step (first | (go_at_call 15; exact inAbs hg hgi (in_is _ _ _ _ _ _ _ _ _ _ (by omega) (by omega) (by omega) (by omega) ⟨x1, x2⟩ ⟨y1, y2⟩ ⟨z1, z2⟩ ⟨u1, u2⟩ (by assumption))) | (go_at_call 16; exact inAbs hg hgi (all_walk _))))
    refine wpQuiet_nil ?_
    intro _ hw'
    obtain ⟨t, rfl⟩ := hw'
    go_wp2
    go_ret
    exact ⟨rfl, HB.out.trans (((Below.refl _ _).alloc (Nat.le_of_lt_succ (by have := HB.out.size; omega)) _).trans ((hg t).mono (by have := HB.out.size; simp; omega)))⟩
  · have E1 : inB ⟨(a : Int).toNat, (b : Int).toNat, (c : Int).toNat, (d : Int).toNat⟩ ⟨x, y, z, u⟩ = _ := e1
    have E2 : inB ⟨(a' : Int).toNat, (b' : Int).toNat, (c' : Int).toNat, (d' : Int).toNat⟩ ⟨x, y, z, u⟩ = _ := e2
    have E3 : inB ⟨((a &&& a' : Nat) : Int).toNat, ((b &&& b' : Nat) : Int).toNat, ((c &&& c' : Nat) : Int).toNat, ((d &&& d' : Nat) : Int).toNat⟩ ⟨x, y, z, u⟩ = false := by
      show inB ⟨a &&& a', b &&& b', c &&& c', d &&& d'⟩ ⟨x, y, z, u⟩ = _
      rw [e3, e1, e2]; rfl
    have E4 : True := trivial
    clear e1 e2 e3 e4 hp1 hp2 hp3 hp4
    repeat (go_big_quiet_step (first | (go_at_call 15; exact inAbs hg hgi (in_is _ _ _ _ _ _ _ _ _ _ (by omega) (by omega) (by omega) (by omega) ⟨x1, x2⟩ ⟨y1, y2⟩ ⟨z1, z2⟩ ⟨u1, u2⟩ (by assumption))) | (go_at_call 16; exact inAbs hg hgi (all_walk _))))
    refine wpQuiet_nil ?_
    intro _ hw'
    obtain ⟨t, rfl⟩ := hw'
    go_wp2
    go_ret
    exact ⟨rfl, HB.out.trans (((Below.refl _ _).alloc (Nat.le_of_lt_succ (by have := HB.out.size; omega)) _).trans ((hg t).mono (by have := HB.out.size; simp; omega)))⟩
  · have E1 : inB ⟨(a : Int).toNat, (b : Int).toNat, (c : Int).toNat, (d : Int).toNat⟩ ⟨x, y, z, u⟩ = _ := e1
    have E2 : inB ⟨(a' : Int).toNat, (b' : Int).toNat, (c' : Int).toNat, (d' : Int).toNat⟩ ⟨x, y, z, u⟩ = _ := e2
    have E3 : inB ⟨((a &&& a' : Nat) : Int).toNat, ((b &&& b' : Nat) : Int).toNat, ((c &&& c' : Nat) : Int).toNat, ((d &&& d' : Nat) : Int).toNat⟩ ⟨x, y, z, u⟩ = false := by
      show inB ⟨a &&& a', b &&& b', c &&& c', d &&& d'⟩ ⟨x, y, z, u⟩ = _
      rw [e3, e1, e2]; rfl
    have E4 : inB ⟨(65535 : Int).toNat, (65535 : Int).toNat, (255 : Int).toNat, (255 : Int).toNat⟩ ⟨x, y, z, u⟩ = true := e4 e1
    clear e1 e2 e3 e4 hp1 hp2 hp3 hp4
    repeat (go_big_quiet_step (first | (go_at_call 15; exact inAbs hg hgi (in_is _ _ _ _ _ _ _ _ _ _ (by omega) (by omega) (by omega) (by omega) ⟨x1, x2⟩ ⟨y1, y2⟩ ⟨z1, z2⟩ ⟨u1, u2⟩ (by assumption))) | (go_at_call 16; exact inAbs hg hgi (all_walk _))))
    refine wpQuiet_nil ?_
    intro _ hw'
    obtain ⟨t, rfl⟩ := hw'
    go_wp2
    go_ret
    exact ⟨rfl, HB.out.trans (((Below.refl _ _).alloc (Nat.le_of_lt_succ (by have := HB.out.size; omega)) _).trans ((hg t).mono (by have := HB.out.size; simp; omega)))⟩
  · have E1 : inB ⟨(a : Int).toNat, (b : Int).toNat, (c : Int).toNat, (d : Int).toNat⟩ ⟨x, y, z, u⟩ = _ := e1
    have E2 : inB ⟨(a' : Int).toNat, (b' : Int).toNat, (c' : Int).toNat, (d' : Int).toNat⟩ ⟨x, y, z, u⟩ = _ := e2
    have E3 : inB ⟨((a &&& a' : Nat) : Int).toNat, ((b &&& b' : Nat) : Int).toNat, ((c &&& c' : Nat) : Int).toNat, ((d &&& d' : Nat) : Int).toNat⟩ ⟨x, y, z, u⟩ = true := by
      show inB ⟨a &&& a', b &&& b', c &&& c', d &&& d'⟩ ⟨x, y, z, u⟩ = _
      rw [e3, e1, e2]; rfl
    have E4 : inB ⟨(65535 : Int).toNat, (65535 : Int).toNat, (255 : Int).toNat, (255 : Int).toNat⟩ ⟨x, y, z, u⟩ = true := e4 e1
    clear e1 e2 e3 e4 hp1 hp2 hp3 hp4
    repeat (go_big_quiet_step (first | (go_at_call 15; exact inAbs hg hgi (in_is _ _ _ _ _ _ _ _ _ _ (by omega) (by omega) (by omega) (by omega) ⟨x1, x2⟩ ⟨y1, y2⟩ ⟨z1, z2⟩ ⟨u1, u2⟩ (by assumption))) | (go_at_call 16; exact inAbs hg hgi (all_walk _))))
    refine wpQuiet_nil ?_
    intro _ hw'
    obtain ⟨t, rfl⟩ := hw'
    go_wp2
    go_ret
    exact ⟨rfl, HB.out.trans (((Below.refl _ _).alloc (Nat.le_of_lt_succ (by have := HB.out.size; omega)) _).trans ((hg t).mono (by have := HB.out.size; simp; omega)))⟩

set_option maxRecDepth 100000 in
theorem matchMeets_lifted (os : Os) (started : os.Started) (H : Type) (enc : TypeId × Value → H) :
    ReturnsInHanded {} Try.checked os 4 .any (Rows.matchMeetsSpec.pre6 enc Try.prog Try.f4 Rows.matchMeetsRow.domain false) (Rows.matchMeetsSpec.post enc Try.prog Try.f4 false true false false) :=
  law_lifted (C := Try.checked) (tb := 4) Try.own started (by kernel_rfl) Try.func4 Try.laidOut (by kernel_rfl) rfl (by kernel_rfl) Try.underlying4
    (fun ds h => by
      match ds, h with
      | [_, _, _], _ => exact ⟨rfl, rfl, rfl⟩)
    (ChangeSpec.witness6 (enc := enc) (C := Try.checked) false ⟨#[], #[.agg #[.int .u16 0, .int .u16 0, .int .u8 0, .int .u8 0], .agg #[.int .u16 0, .int .u16 0, .int .u8 0, .int .u8 0], .agg #[.int .i64 0, .int .i64 0, .int .i64 0, .int .i64 0]], []⟩ 8 (by kernel_rfl) (by kernel_rfl) (by kernel_rfl) (by kernel_rfl))
    (fun W base args ds p hval0 hA0 hlt hsz => by
      have hval : ∀ (j : Nat) t v, Try.f4.params[j]? = some t → args[j]? = some v → Value.okWide Try.prog W .any base t v := hval0
      have hA : DataW.TrodAll enc Try.prog W 0 (fun _ => true) true Try.f4.params.toList args.toList ds p := hA0
      rw [Try.params4] at hA hval
      obtain ⟨v0, vs0, d0, ds0, p0, q0, hargs, rfl, rfl, h0, r0⟩ := args_cons hA
      obtain ⟨v1, vs1, d1, ds1, p1, q1, rfl, rfl, rfl, h1, r1⟩ := args_cons r0
      obtain ⟨v2, vs2, d2, ds2, p2, q2, rfl, rfl, rfl, h2, r2⟩ := args_cons r1
      obtain ⟨rfl, rfl, rfl⟩ := args_nil r2
      obtain rfl : args = #[v0, v1, v2] := arr_eq hargs
      obtain ⟨a, b, c, d, rfl, ha, hb, hc, hd⟩ := open_match (hval 0 _ v0 rfl rfl) h0
      obtain ⟨a', b', c', d', rfl, ha', hb', hc', hd'⟩ := open_match (hval 1 _ v1 rfl rfl) h1
      obtain ⟨x, y, z, u, rfl, hx, hy, hz, hu⟩ := open_packet (hval 2 _ v2 rfl rfl) h2
      exact matchMeets_walk a b c d a' b' c' d' x y z u W ha hb hc hd ha' hb' hc' hd' hx hy hz hu)

theorem matchMeets_holds : Rows.MatchMeetsSaid :=
  OpenClaim.holds_of_wide 4 Try.f4 rfl rfl rfl rfl rfl rfl rfl ⟨rfl, rfl, rfl, rfl, rfl⟩ rfl rfl rfl rfl rfl (by kernel_rfl) Try.func4 (by kernel_rfl)
    (of_decide_eq_true (by kernel_rfl)) (by unfold Func.isWrapper; first | (rw [if_pos (by decide +kernel)]; kernel_rfl) | (rw [if_neg (by decide +kernel)]; exact ⟨rfl, rfl⟩))
    (fun os started H enc _ => matchMeets_lifted os started H enc)
end Go.Proofs.Ytoanimmlpfchjaa
