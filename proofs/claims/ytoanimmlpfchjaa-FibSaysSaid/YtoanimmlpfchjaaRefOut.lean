/- wireref.Out: what it answers. -/
import Derived.Test.YtoanimmlpfchjaaRefRoutesW
set_option linter.unusedVariables false
set_option linter.unusedSimpArgs false
namespace Go.Proofs.Ytoanimmlpfchjaa
open Go.ChangeShapes Go.WideShapes Go.ChangeAt Go.RowKit

theorem top_is (d : Int) (b : Nat) (W : World) (h0 : 0 ≤ d) (h1 : d ≤ 15) (hb : b ≤ 4) (r : Int) (x : Int) (hx : x = (b : Int)) (hr : topI d b = r) :
    Calls Try.prog 94 #[.int .i64 d, .int .i64 x] W fun e W' => e = .returned (.int .i64 r) ∧ W = W' := hx ▸ top_walk d b W h0 h1 hb r hr

theorem hitR_eq {d : Int} {b : Nat} {v q p x tv : Int} (hx : x = (b : Int)) (ht : topI d b = tv) : hitR d b ⟨v, q, p⟩ = (routeB v q p && (q == x) && (tv == v)) := by subst hx; subst ht; rfl

def OutP (l : List RouteV) (d : Int) (W : World) (e : Ending) (W' : World) : Prop := e = .returned (.tuple #[.int .i64 (outF d l).1, .bool (decide (0 ≤ (outF d l).2))]) ∧ Below W.heap.size W W'

set_option maxRecDepth 100000 in
set_option maxHeartbeats 4000000 in
theorem refOut_walk (l : List RouteV) (b o n c : Nat) (d : Int) (W : World) (hn : n ≤ 9223372036854775807) (hd0 : 0 ≤ d) (hd1 : d ≤ 15) (hl : SlAt RouteV.cells 3 W W.heap.size (some ⟨b, o, none⟩) n l) (hok : ∀ r ∈ l, r.ok) (h0 : 0 < n) :
    Calls Try.prog 45 #[.slice (some ⟨b, o, none⟩) n c, .int .i64 d] W (OutP l d W) := by
  have HL := hide hl
  have HK := hide hok
  have hin : inR d 0 15 = true := by simp [inR]; omega
  clear hl hok
  go_enter Try.func45, Try.ntmps45
  go_wp2
  go_loopw [6] (fun u wr => ∃ x : Int, -1 ≤ x ∧ x ≤ 4 ∧ u = .int .i64 x ∧ Hid (∀ b' : Nat, x < b' → b' ≤ 4 → ∀ r ∈ l, hitR d b' r = false) ∧ Below W.heap.size W wr) (fun u _ => (intOf u + 1).toNat)
  case atStart => exact ⟨4, by omega, by omega, rfl, hide (fun b' h1 h2 => by omega), Below.refl _ _⟩
  case round =>
    obtain ⟨x, hx1, hx2, rfl, HN, hb⟩ := hrel
    have HB := hide hb
    clear hb
    by_cases hx0 : 0 ≤ x
    · obtain ⟨bn, hbn⟩ : ∃ m : Nat, x = (m : Int) := ⟨x.toNat, by omega⟩
      have HBN := hide hbn
      clear hbn
      go_wp2_with (go_at_call 48; refine (inR_is _ hin).mono ?_; rintro e w' ⟨rfl, rfl⟩)
      go_loopw [7] (fun i wi => ∃ j : Nat, j ≤ n ∧ i = .int .i64 j ∧ Hid (∀ i r, i < j → l[i]? = some r → hitR d bn r = false) ∧ Below W.heap.size W wi) (fun i _ => n - (intOf i).toNat)
      case atStart => exact ⟨0, Nat.zero_le _, rfl, hide (fun i r h => absurd h (by omega)), HB.out⟩
      case round =>
        obtain ⟨j, hj, rfl, HJ, hbi⟩ := hrel
        have HBI := hide hbi
        clear hbi HB
        by_cases hlt : j < n
        · obtain ⟨r, hr⟩ : ∃ r, l[j]? = some r := ⟨_, List.getElem?_eq_getElem (by have := HL.out.1; omega)⟩
          obtain ⟨hbB, hra⟩ := route_get HL.out hr
          have HRA := hide (hra.below HBI.out hbB)
          have HR := hide hr
          obtain ⟨⟨hv1, hv2⟩, ⟨hbb1, hbb2⟩, ⟨hp1, hp2⟩⟩ := HK.out r (List.mem_of_getElem? hr)
          have hsz := HBI.out.size
          clear hr hra
          obtain ⟨rv, rb, rp⟩ := r
          obtain ⟨tv, htv⟩ : ∃ t, topI d bn = t := ⟨_, rfl⟩
          have HTV := hide htv
          clear htv
          go_wp2_with fail
          refine wp_region_abs (by kernel_rfl) (by kernel_rfl) ?_
          intro T hT g hg hgi
          have HG := hide hg
          have HI := hide hgi
          have k0 : ∀ t, (g t).cell? ⟨b, o + j * 3, none⟩ = some (.int .i64 rv) := fun t => ((HG.out t).cell (p := ⟨b, o + j * 3, none⟩) (by show b < _; omega)).trans HRA.out.1
          have k1 : ∀ t, (g t).cell? ⟨b, o + j * 3 + 1, none⟩ = some (.int .i64 rb) := fun t => ((HG.out t).cell (p := ⟨b, o + j * 3 + 1, none⟩) (by show b < _; omega)).trans HRA.out.2.1
          have k2 : ∀ t, (g t).cell? ⟨b, o + j * 3 + 2, none⟩ = some (.int .i64 rp) := fun t => ((HG.out t).cell (p := ⟨b, o + j * 3 + 2, none⟩) (by show b < _; omega)).trans HRA.out.2.2
          have HBx := hide (fun t => HBI.out.trans ((HG.out t).mono HBI.out.size))
          clear hg hgi
          cases h1 : routeB rv rb rp
          · repeat (go_big_quiet_step ((first | (go_at_call 93; exact inAbs HG.out HI.out (rightR_is _ _ _ _ _ ⟨hv1, hv2⟩ ⟨hbb1, hbb2⟩ ⟨hp1, hp2⟩ h1)) | (go_at_call 94; exact inAbsSame (top_is d bn _ hd0 hd1 (by have := HBN.out; omega) tv x HBN.out HTV.out)))))
            refine wpQuiet_nil ?_
            intro _ hw'
            obtain ⟨t, rfl⟩ := hw'
            have HM := hide ((hitR_eq (v := rv) (q := rb) (p := rp) HBN.out HTV.out).trans (show _ = false by rw [h1]; simp))
            go_wp2
            go_roundw
            case rel => exact ⟨j + 1, by omega, by go_num, hide (fun i r hi hr => by
              rcases (by omega : i < j ∨ i = j) with h | rfl
              · exact HJ.out i r h hr
              · have e := HR.out; rw [e] at hr; cases hr; exact HM.out), HBx.out t⟩
            case measure => simp [intOf]; omega
          cases h2 : (rb == x)
          · repeat (go_big_quiet_step ((first | (go_at_call 93; exact inAbs HG.out HI.out (rightR_is _ _ _ _ _ ⟨hv1, hv2⟩ ⟨hbb1, hbb2⟩ ⟨hp1, hp2⟩ h1)) | (go_at_call 94; exact inAbsSame (top_is d bn _ hd0 hd1 (by have := HBN.out; omega) tv x HBN.out HTV.out)))))
            refine wpQuiet_nil ?_
            intro _ hw'
            obtain ⟨t, rfl⟩ := hw'
            have HM := hide ((hitR_eq (v := rv) (q := rb) (p := rp) HBN.out HTV.out).trans (show _ = false by rw [h2]; simp))
            go_wp2
            go_roundw
            case rel => exact ⟨j + 1, by omega, by go_num, hide (fun i r hi hr => by
              rcases (by omega : i < j ∨ i = j) with h | rfl
              · exact HJ.out i r h hr
              · have e := HR.out; rw [e] at hr; cases hr; exact HM.out), HBx.out t⟩
            case measure => simp [intOf]; omega
          cases h3 : (tv == rv)
          · repeat (go_big_quiet_step ((first | (go_at_call 93; exact inAbs HG.out HI.out (rightR_is _ _ _ _ _ ⟨hv1, hv2⟩ ⟨hbb1, hbb2⟩ ⟨hp1, hp2⟩ h1)) | (go_at_call 94; exact inAbsSame (top_is d bn _ hd0 hd1 (by have := HBN.out; omega) tv x HBN.out HTV.out)))))
            refine wpQuiet_nil ?_
            intro _ hw'
            obtain ⟨t, rfl⟩ := hw'
            have HM := hide ((hitR_eq (v := rv) (q := rb) (p := rp) HBN.out HTV.out).trans (show _ = false by rw [h3]; simp))
            go_wp2
            go_roundw
            case rel => exact ⟨j + 1, by omega, by go_num, hide (fun i r hi hr => by
              rcases (by omega : i < j ∨ i = j) with h | rfl
              · exact HJ.out i r h hr
              · have e := HR.out; rw [e] at hr; cases hr; exact HM.out), HBx.out t⟩
            case measure => simp [intOf]; omega
          have HF := hide (outF_lead hd0 hd1 (b := bn) (by have := HBN.out; omega) HR.out ((hitR_eq (v := rv) (q := rb) (p := rp) HBN.out HTV.out).trans (by rw [h1, h2, h3]; rfl)) HJ.out (fun b' hb' hb4 y hy => HN.out b' (by have := HBN.out; omega) hb4 y hy))
          repeat (go_big_quiet_step ((first | (go_at_call 93; exact inAbs HG.out HI.out (rightR_is _ _ _ _ _ ⟨hv1, hv2⟩ ⟨hbb1, hbb2⟩ ⟨hp1, hp2⟩ h1)) | (go_at_call 94; exact inAbsSame (top_is d bn _ hd0 hd1 (by have := HBN.out; omega) tv x HBN.out HTV.out)))))
          refine wpQuiet_nil ?_
          intro _ hw'
          obtain ⟨t, rfl⟩ := hw'
          go_wp2
          go_ret2
          exact ⟨by rw [HF.out]; simp, HBx.out t⟩
        · have hjn : j = n := by omega
          have HA := hide (show ∀ b' : Nat, x - 1 < b' → b' ≤ 4 → ∀ r ∈ l, hitR d b' r = false from fun b' h1 h2 r hr => by
            rcases (by have := HBN.out; omega : b' = bn ∨ x < b') with h | h
            · obtain ⟨i, hi⟩ := List.getElem?_of_mem hr
              rw [h]
              exact HJ.out i r (by have := (List.getElem?_eq_some_iff.1 hi).1; have := HL.out.1; omega) hi
            · exact HN.out b' h h2 r hr)
          go_wp2
          go_roundw
          case rel => exact ⟨x - 1, by omega, by omega, rfl, HA, HBI.out⟩
          case measure => simp [intOf]; omega
    · have HF := hide (outF_none' (l := l) (fun b' h2 r hr => HN.out b' (by omega) h2 r hr) hd0 hd1)
      go_wp2
      go_ret2
      exact ⟨by rw [HF.out]; simp, HB.out⟩

set_option maxRecDepth 100000 in
set_option maxHeartbeats 4000000 in
theorem refOut_out (l : List RouteV) (A : Option Addr) (n c : Nat) (d : Int) (W : World) (hd : d < 0 ∨ 15 < d) :
    Calls Try.prog 45 #[.slice A n c, .int .i64 d] W (OutP l d W) := by
  have HF := hide (outF_out (l := l) hd)
  have hin : inR d 0 15 = false := by simp [inR]; omega
  clear hd
  go_enter Try.func45, Try.ntmps45
  go_wp2
  refine wp_loop_rounds 1 ?_
  rw [rounds_succ]
  go_wp2_with (go_at_call 48; refine (inR_is _ hin).mono ?_; rintro e w' ⟨rfl, rfl⟩)
  go_ret2
  exact ⟨by rw [HF.out]; simp, Below.refl _ _⟩

set_option maxRecDepth 100000 in
set_option maxHeartbeats 4000000 in
theorem refOut_nil (A : Option Addr) (c : Nat) (d : Int) (W : World) (hd0 : 0 ≤ d) (hd1 : d ≤ 15) :
    Calls Try.prog 45 #[.slice A 0 c, .int .i64 d] W (OutP [] d W) := by
  have hin : inR d 0 15 = true := by simp [inR]; omega
  go_enter Try.func45, Try.ntmps45
  go_wp2
  go_loopw [6] (fun u wr => ∃ x : Int, -1 ≤ x ∧ x ≤ 4 ∧ u = .int .i64 x ∧ Below W.heap.size W wr) (fun u _ => (intOf u + 1).toNat)
  case atStart => exact ⟨4, by omega, by omega, rfl, Below.refl _ _⟩
  case round =>
    obtain ⟨x, hx1, hx2, rfl, hb⟩ := hrel
    have HB := hide hb
    clear hb
    by_cases hx0 : 0 ≤ x
    · go_wp2_with (go_at_call 48; refine (inR_is _ hin).mono ?_; rintro e w' ⟨rfl, rfl⟩)
      refine wp_loop_rounds 1 ?_
      rw [rounds_succ]
      go_wp2
      go_roundw
      case rel => exact ⟨x - 1, by omega, by omega, rfl, HB.out⟩
      case measure => simp [intOf]; omega
    · go_wp2
      go_ret2
      exact ⟨rfl, HB.out⟩

theorem refOut_any (l : List RouteV) (A : Option Addr) (n c : Nat) (d : Int) (W : World) (hn : n ≤ 9223372036854775807) (hl : SlAt RouteV.cells 3 W W.heap.size A n l) (hok : ∀ r ∈ l, r.ok) :
    Calls Try.prog 45 #[.slice A n c, .int .i64 d] W (OutP l d W) := by
  by_cases h : d < 0 ∨ 15 < d
  · exact refOut_out l A n c d W h
  · rcases Nat.eq_zero_or_pos n with rfl | h0
    · have : l = [] := List.eq_nil_of_length_eq_zero hl.1
      subst this
      exact refOut_nil A c d W (by omega) (by omega)
    · obtain ⟨b, o, rfl, hb, _⟩ := hl.2 h0
      exact refOut_walk l b o n c d W hn (by omega) (by omega) hl hok h0
end Go.Proofs.Ytoanimmlpfchjaa
