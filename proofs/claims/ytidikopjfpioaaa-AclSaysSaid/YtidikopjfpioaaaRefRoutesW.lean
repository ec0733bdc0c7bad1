/- wireref's routes: top, rightRoute: the walks. -/
import Derived.Test.YtidikopjfpioaaaRefRoutes
import Derived.Test.YtidikopjfpioaaaRight
set_option linter.unusedVariables false
set_option linter.unusedSimpArgs false
namespace Go.Proofs.Ytidikopjfpioaaa
open Go.ChangeShapes Go.WideShapes Go.ChangeAt Go.RowKit

theorem quiet_same' {P : Program} {f : FuncId} {args : Array Value} {w : World} {n : Nat} {v : Value} (h : Calls P f args (w.drewN n) fun e w' => e = .returned v ∧ w.drewN n = w') : Calls P f args (w.drewN n) fun e w'' => e = .returned v ∧ ∃ m, w'' = w.drewN m :=
  h.mono fun _ _ ⟨he, hm⟩ => ⟨he, n, hm.symm⟩
theorem ret_bool {a b : Bool} (h : a = b) : Ending.returned (.bool a) = .returned (.bool b) := by rw [h]

set_option maxRecDepth 100000 in
set_option maxHeartbeats 4000000 in
theorem top_walk (d : Int) (b : Nat) (W : World) (h0 : 0 ≤ d) (h1 : d ≤ 15) (hb : b ≤ 4) (r : Int) (hr : topI d b = r) :
    Calls Try.prog 142 #[.int .i64 d, .int .i64 (b : Int)] W fun e W' => e = .returned (.int .i64 r) ∧ W = W' := by
  have HR := hide hr
  clear hr
  match b, hb with
  | 0, _ | 1, _ | 2, _ | 3, _ | 4, _ =>
    go_enter Try.func142, Try.ntmps142
    go_wp2
    go_ret
    refine ⟨ret_i64' ?_, rfl⟩
    rw [← HR.out]
    simp [topI]

theorem inR_is {n lo hi : Int} {B : Bool} (W : World) (h : inR n lo hi = B) : Calls Try.prog 19 #[.int .i64 n, .int .i64 lo, .int .i64 hi] W fun e W' => e = .returned (.bool B) ∧ W = W' := h ▸ inR_walk n lo hi W

set_option maxRecDepth 100000 in
set_option maxHeartbeats 4000000 in
theorem rightR_walk (v b p : Int) (W : World) (hv : i64ok v) (hb : i64ok b) (hp : i64ok p) : Calls Try.prog 141 #[.agg #[.int .i64 v, .int .i64 b, .int .i64 p]] W fun e W' => e = .returned (.bool (routeB v b p)) ∧ Below W.heap.size W W' := by
  obtain ⟨hv1, hv2⟩ := hv
  obtain ⟨hb1, hb2⟩ := hb
  obtain ⟨hp1, hp2⟩ := hp
  cases e1 : inR b 0 4
  · have e1' := e1
    simp only [inR, Bool.and_eq_false_iff, decide_eq_false_iff_not] at e1'
    have HF := hide (show routeB v b p = false from by simp [routeB]; omega)
    rw [HF.out]
    go_enter Try.func141, Try.ntmps141
    go_wp2
    go_quiet ((first | (go_at_call_of 19 (Value.int .i64 4); exact quiet_same' (inR_is _ e1)) | (go_at_call_of 19 (Value.int .i64 15); exact quiet_same' (inR_is _ e2)) | (go_at_call 142; exact quiet_same' (HT.out _)) | (go_at_call_of 19 (Value.int .i64 3); exact quiet_same' (inR_is _ e4))))
    go_wp2
    go_ret
    exact ⟨rfl, ((Below.refl _ _).alloc (Nat.le_refl _) _).trans ⟨rfl, rfl, rfl, Nat.le_refl _, fun _ _ => rfl⟩⟩
  have e1' := e1
  simp only [inR, Bool.and_eq_true, decide_eq_true_eq] at e1'
  obtain ⟨hb3, hb4⟩ := e1'
  obtain ⟨bn, rfl⟩ : ∃ n : Nat, b = (n : Int) := ⟨b.toNat, by omega⟩
  cases e2 : inR v 0 15
  · have e2' := e2
    simp only [inR, Bool.and_eq_false_iff, decide_eq_false_iff_not] at e2'
    have HF := hide (show routeB v bn p = false from by simp [routeB]; omega)
    rw [HF.out]
    go_enter Try.func141, Try.ntmps141
    go_wp2
    go_quiet ((first | (go_at_call_of 19 (Value.int .i64 4); exact quiet_same' (inR_is _ e1)) | (go_at_call_of 19 (Value.int .i64 15); exact quiet_same' (inR_is _ e2)) | (go_at_call 142; exact quiet_same' (HT.out _)) | (go_at_call_of 19 (Value.int .i64 3); exact quiet_same' (inR_is _ e4))))
    go_wp2
    go_ret
    exact ⟨rfl, ((Below.refl _ _).alloc (Nat.le_refl _) _).trans ⟨rfl, rfl, rfl, Nat.le_refl _, fun _ _ => rfl⟩⟩
  have e2' := e2
  simp only [inR, Bool.and_eq_true, decide_eq_true_eq] at e2'
  obtain ⟨hv3, hv4⟩ := e2'
  obtain ⟨r, hr⟩ : ∃ r, topI v bn = r := ⟨_, rfl⟩
  have HM := hide (top_mask v bn hv3 hv4 (by omega))
  rw [hr] at HM
  have HT : Hid (∀ w1, Calls Try.prog 142 #[.int .i64 v, .int .i64 (bn : Int)] w1 fun e W' => e = .returned (.int .i64 r) ∧ w1 = W') := hide (fun w1 => top_walk v bn w1 hv3 hv4 (by omega) r hr)
  clear hr
  cases e3 : (r == v)
  · have HF := hide (show routeB v bn p = false from by simp [routeB]; rw [← HM.out, e3]; simp)
    rw [HF.out]
    go_enter Try.func141, Try.ntmps141
    go_wp2
    go_quiet ((first | (go_at_call_of 19 (Value.int .i64 4); exact quiet_same' (inR_is _ e1)) | (go_at_call_of 19 (Value.int .i64 15); exact quiet_same' (inR_is _ e2)) | (go_at_call 142; exact quiet_same' (HT.out _)) | (go_at_call_of 19 (Value.int .i64 3); exact quiet_same' (inR_is _ e4))))
    go_wp2
    go_ret
    exact ⟨rfl, ((Below.refl _ _).alloc (Nat.le_refl _) _).trans ⟨rfl, rfl, rfl, Nat.le_refl _, fun _ _ => rfl⟩⟩
  cases e4 : inR p 0 3
  · have e4' := e4
    simp only [inR, Bool.and_eq_false_iff, decide_eq_false_iff_not] at e4'
    have HF := hide (show routeB v bn p = false from by simp [routeB]; omega)
    rw [HF.out]
    go_enter Try.func141, Try.ntmps141
    go_wp2
    go_quiet ((first | (go_at_call_of 19 (Value.int .i64 4); exact quiet_same' (inR_is _ e1)) | (go_at_call_of 19 (Value.int .i64 15); exact quiet_same' (inR_is _ e2)) | (go_at_call 142; exact quiet_same' (HT.out _)) | (go_at_call_of 19 (Value.int .i64 3); exact quiet_same' (inR_is _ e4))))
    go_wp2
    go_ret
    exact ⟨rfl, ((Below.refl _ _).alloc (Nat.le_refl _) _).trans ⟨rfl, rfl, rfl, Nat.le_refl _, fun _ _ => rfl⟩⟩
  · have e4' := e4
    simp only [inR, Bool.and_eq_true, decide_eq_true_eq] at e4'
    have HF := hide (show routeB v bn p = true from by simp [routeB]; rw [← HM.out, e3]; simp; omega)
    rw [HF.out]
    go_enter Try.func141, Try.ntmps141
    go_wp2
    go_quiet ((first | (go_at_call_of 19 (Value.int .i64 4); exact quiet_same' (inR_is _ e1)) | (go_at_call_of 19 (Value.int .i64 15); exact quiet_same' (inR_is _ e2)) | (go_at_call 142; exact quiet_same' (HT.out _)) | (go_at_call_of 19 (Value.int .i64 3); exact quiet_same' (inR_is _ e4))))
    go_wp2
    go_ret
    exact ⟨rfl, ((Below.refl _ _).alloc (Nat.le_refl _) _).trans ⟨rfl, rfl, rfl, Nat.le_refl _, fun _ _ => rfl⟩⟩

theorem rightR_is (v b p : Int) (W : World) (B : Bool) (hv : i64ok v) (hb : i64ok b) (hp : i64ok p) (h : routeB v b p = B) : Calls Try.prog 141 #[.agg #[.int .i64 v, .int .i64 b, .int .i64 p]] W fun e W' => e = .returned (.bool B) ∧ Below W.heap.size W W' :=
  h ▸ rightR_walk v b p W hv hb hp

theorem below_drew (w : World) (n : Nat) (B : Nat) : Below B w (w.drewN n) := ⟨rfl, rfl, rfl, Nat.le_refl _, fun _ _ => rfl⟩

set_option maxRecDepth 100000 in
set_option maxHeartbeats 4000000 in
theorem routes_walk (l : List RouteV) (b o n c : Nat) (W : World) (hn : n ≤ 8) (hnc : n ≤ c) (hl : SlAt RouteV.cells 3 W W.heap.size (some ⟨b, o, none⟩) n l) (hok : ∀ r ∈ l, r.ok) (h0 : 0 < n) :
    Calls Try.prog 139 #[.slice (some ⟨b, o, none⟩) n c] W fun e W' => e = .returned (.int .i64 (chkF [] l)) ∧ Below W.heap.size W W' := by
  have HL := hide hl
  have HK := hide hok
  clear hl hok
  have h8 : decide ((8 : Int) < (n : Int)) = false := by simp; omega
  go_enter Try.func139, Try.ntmps139
  go_wp2
  go_loopw [3] (fun i wr => ∃ k : Nat, k ≤ n ∧ i = .int .i64 k ∧ Hid (chkF [] l = chkF (l.take k) (l.drop k)) ∧ Below W.heap.size W wr) (fun i _ => n - (intOf i).toNat)
  case atStart => exact ⟨0, Nat.zero_le _, rfl, rfl, Below.refl _ _⟩
  case round =>
    obtain ⟨k, hk, rfl, HC, hb⟩ := hrel
    have HB := hide hb
    clear hb
    by_cases hlt : k < n
    · obtain ⟨r, hr⟩ : ∃ r, l[k]? = some r := ⟨_, List.getElem?_eq_getElem (by have := HL.out.1; omega)⟩
      obtain ⟨hbB, hra⟩ := route_get HL.out hr
      have HRA := hide hra
      obtain ⟨q0, q1, q2⟩ := hra.below HB.out hbB
      have HS := hide (chkF_step hr)
      obtain ⟨⟨hv1, hv2⟩, ⟨hbb1, hbb2⟩, ⟨hp1, hp2⟩⟩ := HK.out r (List.mem_of_getElem? hr)
      clear hr hra
      obtain ⟨rv, rb, rp⟩ := r
      cases h1 : routeB rv rb rp
      · go_wp2_with fail
        refine (rightR_is _ _ _ _ _ ⟨hv1, hv2⟩ ⟨hbb1, hbb2⟩ ⟨hp1, hp2⟩ h1).mono ?_
        rintro e w1 ⟨rfl, hb1⟩
        have HB1 := hide (HB.out.trans (hb1.mono HB.out.size))
        clear hb1
        go_wp2
        go_ret
        exact ⟨ret_i64' (by rw [HC.out, HS.out]; simp [h1]), HB1.out⟩
      · go_wp2_with fail
        refine (rightR_is _ _ _ _ _ ⟨hv1, hv2⟩ ⟨hbb1, hbb2⟩ ⟨hp1, hp2⟩ h1).mono ?_
        rintro e w1 ⟨rfl, hb1⟩
        have HB1 := hide (HB.out.trans (hb1.mono HB.out.size))
        clear hb1 q0 q1 q2
        go_wp2
        go_loopw [4] (fun i wi => ∃ j : Nat, j ≤ k ∧ i = .int .i64 j ∧ Hid (∀ i x, i < j → l[i]? = some x → sameR ⟨rv, rb, rp⟩ x = false) ∧ Below W.heap.size W wi) (fun i _ => k - (intOf i).toNat)
        case atStart => exact ⟨0, Nat.zero_le _, rfl, fun i x h => absurd h (by omega), HB1.out⟩
        case round =>
          obtain ⟨j, hj, rfl, HN, hbi⟩ := hrel
          have HBI := hide hbi
          clear hbi HB1
          by_cases hjk : j < k
          · obtain ⟨x, hx⟩ : ∃ x, l[j]? = some x := ⟨_, List.getElem?_eq_getElem (by have := HL.out.1; omega)⟩
            obtain ⟨hbB', hxa⟩ := route_get HL.out hx
            obtain ⟨y0, y1, y2⟩ := hxa.below HBI.out hbB'
            obtain ⟨z0, z1, z2⟩ := HRA.out.below HBI.out hbB
            have HXJ := hide hx
            clear hx hxa
            obtain ⟨xv, xb, xp⟩ := x
            cases e1 : (xv == rv)
            · go_wp2
              go_quiet (fail)
              go_wp2
              go_roundw
              case rel => exact ⟨j + 1, by omega, by go_num, hide (fun i x hi hx => by
                rcases (by omega : i < j ∨ i = j) with h | rfl
                · exact HN.out i x h hx
                · have e := HXJ.out; rw [e] at hx; cases hx; simp [sameR, e1]), HBI.out.trans (below_drew _ _ _)⟩
              case measure => simp [intOf]; omega
            cases e2 : (xb == rb)
            · go_wp2
              go_quiet (fail)
              go_wp2
              go_roundw
              case rel => exact ⟨j + 1, by omega, by go_num, hide (fun i x hi hx => by
                rcases (by omega : i < j ∨ i = j) with h | rfl
                · exact HN.out i x h hx
                · have e := HXJ.out; rw [e] at hx; cases hx; simp [sameR, e2]), HBI.out.trans (below_drew _ _ _)⟩
              case measure => simp [intOf]; omega
            have HA := hide (any_take (r := ⟨rv, rb, rp⟩) hjk HXJ.out (by simp [sameR, e1, e2]))
            go_wp2
            go_quiet (fail)
            go_wp2
            go_ret
            exact ⟨ret_i64' (by rw [HC.out, HS.out, HA.out]; simp [h1]), HBI.out.trans (below_drew _ _ _)⟩
          · have hjk' : j = k := by omega
            subst hjk'
            have HA := hide (any_take_none (r := ⟨rv, rb, rp⟩) HN.out)
            go_wp2
            go_roundw
            case rel => exact ⟨j + 1, by omega, by go_num, hide (by rw [HC.out, HS.out, HA.out]; simp [h1]), HBI.out⟩
            case measure => simp [intOf]; omega
    · have hkn : k = n := by omega
      subst hkn
      have HT := hide (show chkF (l.take k) (l.drop k) = 0 from by rw [List.drop_of_length_le (by have := HL.out.1; omega)]; rfl)
      go_wp2
      go_ret
      exact ⟨ret_i64' (by rw [HC.out, HT.out]), HB.out⟩

set_option maxRecDepth 100000 in
theorem routes_nil (A : Option Addr) (c : Nat) (W : World) : Calls Try.prog 139 #[.slice A 0 c] W fun e W' => e = .returned (.int .i64 0) ∧ W = W' := by
  go_enter Try.func139, Try.ntmps139
  go_wp2
  refine wp_loop_rounds 1 ?_
  rw [rounds_succ]
  go_wp2
  go_ret
  exact ⟨rfl, rfl⟩

set_option maxRecDepth 100000 in
theorem routes_large (A : Option Addr) (n c : Nat) (W : World) (h : 8 < n) : Calls Try.prog 139 #[.slice A n c] W fun e W' => e = .returned (.int .i64 2) ∧ W = W' := by
  have h8 : decide ((8 : Int) < (n : Int)) = true := by simp; omega
  go_enter Try.func139, Try.ntmps139
  go_wp2
  go_ret
  exact ⟨rfl, rfl⟩

theorem routes_any (l : List RouteV) (A : Option Addr) (n c : Nat) (W : World) (hnc : n ≤ c) (hl : SlAt RouteV.cells 3 W W.heap.size A n l) (hok : ∀ r ∈ l, r.ok) :
    Calls Try.prog 139 #[.slice A n c] W fun e W' => e = .returned (.int .i64 (checkF l)) ∧ Below W.heap.size W W' := by
  rcases Nat.eq_zero_or_pos n with rfl | h0
  · have : l = [] := List.eq_nil_of_length_eq_zero hl.1
    subst this
    exact (routes_nil A c W).mono fun e w' ⟨he, hw⟩ => ⟨he, hw ▸ Below.refl _ _⟩
  · rcases Nat.lt_or_ge 8 n with h8 | h8
    · have e : checkF l = 2 := by unfold checkF; rw [if_pos (by rw [hl.1]; exact h8)]
      rw [e]
      exact (routes_large A n c W h8).mono fun e w' ⟨he, hw⟩ => ⟨he, hw ▸ Below.refl _ _⟩
    · have e : checkF l = chkF [] l := by unfold checkF; rw [if_neg (by rw [hl.1]; omega)]
      rw [e]
      obtain ⟨b, o, rfl, hb, _⟩ := hl.2 h0
      exact routes_walk l b o n c W h8 hnc hl hok h0
end Go.Proofs.Ytidikopjfpioaaa
