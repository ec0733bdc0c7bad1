/- fib.Check: what it answers. -/
import Derived.Test.YtidikopjfpioaaaFib
set_option linter.unusedVariables false
set_option linter.unusedSimpArgs false
namespace Go.Proofs.Ytidikopjfpioaaa
open Go.ChangeShapes Go.WideShapes Go.ChangeAt Go.RowKit

def sameR (r x : RouteV) : Bool := (x.v == r.v) && (x.b == r.b)
def chkF : List RouteV → List RouteV → Int
  | _, [] => 0
  | pre, r :: t => if routeB r.v r.b r.p = false then 1 else if pre.any (sameR r) then 5 else chkF (pre ++ [r]) t
def checkF (l : List RouteV) : Int := if 8 < l.length then 2 else chkF [] l

theorem chkF_step {l : List RouteV} {k : Nat} {r : RouteV} (hr : l[k]? = some r) : chkF (l.take k) (l.drop k) = if routeB r.v r.b r.p = false then 1 else if (l.take k).any (sameR r) then 5 else chkF (l.take (k + 1)) (l.drop (k + 1)) := by
  obtain ⟨hk1, hk2⟩ := List.getElem?_eq_some_iff.1 hr
  rw [List.drop_eq_getElem_cons hk1, hk2, List.take_succ_eq_append_getElem hk1, hk2]
  rfl
theorem any_take {l : List RouteV} {k j : Nat} {r x : RouteV} (hj : j < k) (hx : l[j]? = some x) (h : sameR r x = true) : (l.take k).any (sameR r) = true := by
  rw [List.any_eq_true]
  exact ⟨x, List.mem_of_getElem? (i := j) (by rw [List.getElem?_take_of_lt hj]; exact hx), h⟩
theorem any_take_none {l : List RouteV} {k : Nat} {r : RouteV} (h : ∀ j x, j < k → l[j]? = some x → sameR r x = false) : (l.take k).any (sameR r) = false := by
  rw [List.any_eq_false]
  intro x hx
  obtain ⟨j, hj⟩ := List.getElem?_of_mem hx
  have hjk : j < k := by
    have := (List.getElem?_eq_some_iff.1 hj).1
    simp at this
    omega
  rw [List.getElem?_take_of_lt hjk] at hj
  simp [h j x hjk hj]
def RouteBox (w : World) (b : Nat) (r : RouteV) : Prop := w.cell? ⟨b, 0, none⟩ = some (.int .i64 r.v) ∧ w.cell? ⟨b, 1, none⟩ = some (.int .i64 r.b) ∧ w.cell? ⟨b, 2, none⟩ = some (.int .i64 r.p)
theorem RouteBox.below {w w' : World} {B b : Nat} {r : RouteV} (h : RouteBox w b r) (hB : Below B w w') (hb : b < B) : RouteBox w' b r := by
  unfold RouteBox at *
  have e : ∀ o, w'.cell? ⟨b, o, none⟩ = w.cell? ⟨b, o, none⟩ := fun o => hB.cell (p := ⟨b, o, none⟩) hb
  rw [e, e, e]
  exact h
theorem ret_i64' {a b : Int} (h : a = b) : Ending.returned (.int .i64 a) = .returned (.int .i64 b) := by rw [h]

set_option maxRecDepth 100000 in
set_option maxHeartbeats 4000000 in
theorem check22_walk (l : List RouteV) (b o n c : Nat) (W : World) (hn : n ≤ 8) (hnc : n ≤ c) (hl : SlAt RouteV.cells 3 W W.heap.size (some ⟨b, o, none⟩) n l) (hok : ∀ r ∈ l, r.ok) (h0 : 0 < n) :
    Calls Try.prog 121 #[.slice (some ⟨b, o, none⟩) n c] W fun e W' => e = .returned (.int .i64 (chkF [] l)) ∧ Below W.heap.size W W' := by
  have HL := hide hl
  have HK := hide hok
  clear hl hok
  have h8 : decide ((8 : Int) < (n : Int)) = false := by simp; omega
  go_enter Try.func121, Try.ntmps121
  go_wp2
  go_loopw [3, 4, 12] (fun _ _ i wr => ∃ k : Nat, k ≤ n ∧ i = .int .i64 k ∧ Hid (chkF [] l = chkF (l.take k) (l.drop k)) ∧ Below W.heap.size W wr) (fun _ _ i _ => n - (intOf i).toNat)
  case atStart => exact ⟨0, Nat.zero_le _, rfl, rfl, Below.refl _ _⟩
  case round =>
    obtain ⟨k, hk, rfl, HC, hb⟩ := hrel
    have HB := hide hb
    clear hb
    by_cases hlt : k < n
    · obtain ⟨r, hr⟩ : ∃ r, l[k]? = some r := ⟨_, List.getElem?_eq_getElem (by have := HL.out.1; omega)⟩
      obtain ⟨hbB, hra⟩ := route_get HL.out hr
      obtain ⟨q0, q1, q2⟩ := hra.below HB.out hbB
      have HS := hide (chkF_step hr)
      obtain ⟨⟨hv1, hv2⟩, ⟨hbb1, hbb2⟩, ⟨hp1, hp2⟩⟩ := HK.out r (List.mem_of_getElem? hr)
      clear hr hra
      obtain ⟨rv, rb, rp⟩ := r
      cases h1 : routeB rv rb rp
      · go_wp2_with fail
        refine (right75_is _ _ _ _ _ ⟨hv1, hv2⟩ ⟨hbb1, hbb2⟩ ⟨hp1, hp2⟩ h1).mono ?_
        rintro e w1 ⟨rfl, hb1⟩
        have HB1 := hide (HB.out.trans (((Below.refl _ wr).alloc HB.out.size _).trans (hb1.mono (by have := HB.out.size; simp; omega))))
        clear hb1
        go_wp2
        go_ret
        exact ⟨ret_i64' (by rw [HC.out, HS.out]; simp [h1]), HB1.out⟩
      · go_wp2_with fail
        refine (right75_is _ _ _ _ _ ⟨hv1, hv2⟩ ⟨hbb1, hbb2⟩ ⟨hp1, hp2⟩ h1).mono ?_
        rintro e w1 ⟨rfl, hb1⟩
        have HB1 := hide (HB.out.trans (((Below.refl _ wr).alloc HB.out.size _).trans (hb1.mono (by have := HB.out.size; simp; omega))))
        have HX := hide ((show RouteBox (wr.alloc (.cells #[.int .i64 rv, .int .i64 rb, .int .i64 rp] 120)) wr.heap.size ⟨rv, rb, rp⟩ from by simp [RouteBox]).below hb1 (by simp))
        have hs1 : wr.heap.size + 1 ≤ w1.heap.size := by have := hb1.size; simpa using this
        have hsW : W.heap.size ≤ wr.heap.size := HB.out.size
        clear hb1 q0 q1 q2
        go_wp2
        generalize hB0 : wr.heap.size = B0 at *
        clear hB0 HB
        go_loopw [6, 24] (fun _ i wi => ∃ j : Nat, j ≤ k ∧ i = .int .i64 j ∧ Hid (∀ i x, i < j → l[i]? = some x → sameR ⟨rv, rb, rp⟩ x = false) ∧ Below W.heap.size W wi ∧ B0 + 1 ≤ wi.heap.size ∧ RouteBox wi B0 ⟨rv, rb, rp⟩) (fun _ i _ => k - (intOf i).toNat)
        case atStart => exact ⟨0, Nat.zero_le _, rfl, fun i x h => absurd h (by omega), HB1.out, hs1, HX.out⟩
        case round =>
          obtain ⟨j, hj, rfl, HN, hbi, hsi, hxi⟩ := hrel
          have HBI := hide hbi
          have HXI := hide hxi
          clear hbi hxi HB1 HX hs1
          obtain ⟨x0, x1, _⟩ := HXI.out
          by_cases hjk : j < k
          · obtain ⟨x, hx⟩ : ∃ x, l[j]? = some x := ⟨_, List.getElem?_eq_getElem (by have := HL.out.1; omega)⟩
            obtain ⟨hbB', hxa⟩ := route_get HL.out hx
            obtain ⟨y0, y1, y2⟩ := hxa.below HBI.out hbB'
            have HXJ := hide hx
            clear hx hxa
            obtain ⟨xv, xb, xp⟩ := x
            have z0 : ∀ ob, (wr.alloc ob).cell? ⟨B0, 0, none⟩ = some (.int .i64 rv) := fun ob => (World.cell?_alloc_lt _ _ _ (by show B0 < _; omega)).trans x0
            have z1 : ∀ ob, (wr.alloc ob).cell? ⟨B0, 1, none⟩ = some (.int .i64 rb) := fun ob => (World.cell?_alloc_lt _ _ _ (by show B0 < _; omega)).trans x1
            clear x0 x1
            have hsi' := HBI.out.size
            cases e1 : (xv == rv)
            · go_wp2
              go_roundw
              case rel => exact ⟨j + 1, by omega, by go_num, hide (fun i x hi hx => by
                rcases (by omega : i < j ∨ i = j) with h | rfl
                · exact HN.out i x h hx
                · have e := HXJ.out; rw [e] at hx; cases hx; simp [sameR, e1]), HBI.out.alloc hsi' _, by simp; omega, HXI.out.below ((Below.refl _ _).alloc (Nat.le_refl _) _) (by omega)⟩
              case measure => simp [intOf]; omega
            cases e2 : (xb == rb)
            · go_wp2
              go_roundw
              case rel => exact ⟨j + 1, by omega, by go_num, hide (fun i x hi hx => by
                rcases (by omega : i < j ∨ i = j) with h | rfl
                · exact HN.out i x h hx
                · have e := HXJ.out; rw [e] at hx; cases hx; simp [sameR, e2]), HBI.out.alloc hsi' _, by simp; omega, HXI.out.below ((Below.refl _ _).alloc (Nat.le_refl _) _) (by omega)⟩
              case measure => simp [intOf]; omega
            have HA := hide (any_take (r := ⟨rv, rb, rp⟩) hjk HXJ.out (by simp [sameR, e1, e2]))
            go_wp2
            go_ret
            exact ⟨ret_i64' (by rw [HC.out, HS.out, HA.out]; simp [h1]), HBI.out.alloc hsi' _⟩
          · have hjk' : j = k := by omega
            subst hjk'
            have HA := hide (any_take_none (r := ⟨rv, rb, rp⟩) HN.out)
            go_wp2
            go_roundw
            case rel => exact ⟨j + 1, by omega, by go_num, hide (by rw [HC.out, HS.out, HA.out]; simp [h1]), HBI.out⟩
            case measure => simp [intOf]; omega
    · have hkn : k = n := by omega
      subst hkn
      have HT := hide (show chkF (l.take k) (l.drop k) = 0 from by rw [List.drop_of_length_le (by have := HL.out.1; omega)]; rfl)
      go_wp2
      go_ret
      exact ⟨ret_i64' (by rw [HC.out, HT.out]), HB.out⟩

set_option maxRecDepth 100000 in
theorem check22_nil (A : Option Addr) (c : Nat) (W : World) : Calls Try.prog 121 #[.slice A 0 c] W fun e W' => e = .returned (.int .i64 0) ∧ W = W' := by
  go_enter Try.func121, Try.ntmps121
  go_wp2
  refine wp_loop_rounds 1 ?_
  rw [rounds_succ]
  go_wp2
  go_ret
  exact ⟨rfl, rfl⟩

set_option maxRecDepth 100000 in
theorem check22_large (A : Option Addr) (n c : Nat) (W : World) (h : 8 < n) : Calls Try.prog 121 #[.slice A n c] W fun e W' => e = .returned (.int .i64 2) ∧ W = W' := by
  have h8 : decide ((8 : Int) < (n : Int)) = true := by simp; omega
  go_enter Try.func121, Try.ntmps121
  go_wp2
  go_ret
  exact ⟨rfl, rfl⟩

theorem check22_any (l : List RouteV) (A : Option Addr) (n c : Nat) (W : World) (hnc : n ≤ c) (hl : SlAt RouteV.cells 3 W W.heap.size A n l) (hok : ∀ r ∈ l, r.ok) :
    Calls Try.prog 121 #[.slice A n c] W fun e W' => e = .returned (.int .i64 (checkF l)) ∧ Below W.heap.size W W' := by
  rcases Nat.eq_zero_or_pos n with rfl | h0
  · have : l = [] := List.eq_nil_of_length_eq_zero hl.1
    subst this
    exact (check22_nil A c W).mono fun e w' ⟨he, hw⟩ => ⟨he, hw ▸ Below.refl _ _⟩
  · rcases Nat.lt_or_ge 8 n with h8 | h8
    · have e : checkF l = 2 := by unfold checkF; rw [if_pos (by rw [hl.1]; exact h8)]
      rw [e]
      exact (check22_large A n c W h8).mono fun e w' ⟨he, hw⟩ => ⟨he, hw ▸ Below.refl _ _⟩
    · have e : checkF l = chkF [] l := by unfold checkF; rw [if_neg (by rw [hl.1]; omega)]
      rw [e]
      obtain ⟨b, o, rfl, hb, _⟩ := hl.2 h0
      exact check22_walk l b o n c W h8 hnc hl hok h0
end Go.Proofs.Ytidikopjfpioaaa
