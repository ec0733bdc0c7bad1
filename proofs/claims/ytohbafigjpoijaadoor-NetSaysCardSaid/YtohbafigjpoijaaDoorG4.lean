/- G4: Fib FibOut FibCheck AclFirst FibLongest FibLongestW FibLongestLaw. -/
import Derived.Test.YtohbafigjpoijaaDoorG1
import Derived.Outline
import Derived.BigQuiet
import Derived.Deep.RegionWith
/- Routes: fib.right, fib.Out, fib.Check: what they answer. -/
set_option linter.unusedVariables false
set_option linter.unusedSimpArgs false
namespace Go.Proofs.YtohbafigjpoijaaDoor
open Go.ChangeShapes Go.WideShapes Go.ChangeAt Go.RowKit

structure RouteV where
  v : Int
  b : Int
  p : Int
def RouteV.ok (r : RouteV) : Prop := i64ok r.v ∧ i64ok r.b ∧ i64ok r.p
def RouteV.cells (r : RouteV) : List Value := [.int .i64 r.v, .int .i64 r.b, .int .i64 r.p]
def RouteV.val (r : RouteV) : Value := .agg #[.int .i64 r.v, .int .i64 r.b, .int .i64 r.p]
theorem RouteV.len (r : RouteV) : r.cells.length = 3 := rfl
theorem RouteV.one (r : RouteV) : ∀ u ∈ r.cells, u.oneCell' = true := by
  intro u hu
  simp only [RouteV.cells, List.mem_cons, List.not_mem_nil, or_false] at hu
  rcases hu with rfl | rfl | rfl <;> rfl

def maskB (v b : Int) : Bool := bits .and .i64 v (15 / 2 ^ b.toNat) == 0
def takesB (d v b : Int) : Bool := bits .andNot .i64 d (15 / 2 ^ b.toNat) == v
def routeB (v b p : Int) : Bool := decide (0 ≤ b) && decide (b ≤ 4) && decide (0 ≤ v) && decide (v < 16) && maskB v b && decide (0 ≤ p) && decide (p ≤ 3)

set_option maxRecDepth 100000 in
set_option maxHeartbeats 4000000 in
theorem right75_walk (v b p : Int) (W : World) (hv : i64ok v) (hb : i64ok b) (hp : i64ok p) : Calls Tryd.prog 111 #[.agg #[.int .i64 v, .int .i64 b, .int .i64 p]] W fun e W' => e = .returned (.bool (routeB v b p)) ∧ Below W.heap.size W W' := by
  obtain ⟨hv1, hv2⟩ := hv
  obtain ⟨hb1, hb2⟩ := hb
  obtain ⟨hp1, hp2⟩ := hp
  by_cases h1 : 0 ≤ b
  case neg =>
    have h1' : decide (0 ≤ b) = false := by simpa using h1
    go_enter Tryd.func111, Tryd.ntmps111
    go_wp2
    go_quiet (fail)
    go_wp2
    go_ret
    exact ⟨by simp [routeB, h1'], ((Below.refl _ _).alloc (Nat.le_refl _) _).trans ⟨rfl, rfl, rfl, Nat.le_refl _, fun _ _ => rfl⟩⟩
  by_cases h2 : b ≤ 4
  case neg =>
    have h2' : decide (b ≤ 4) = false := by simpa using h2
    go_enter Tryd.func111, Tryd.ntmps111
    go_wp2
    go_quiet (fail)
    go_wp2
    go_ret
    exact ⟨by simp [routeB, h2'], ((Below.refl _ _).alloc (Nat.le_refl _) _).trans ⟨rfl, rfl, rfl, Nat.le_refl _, fun _ _ => rfl⟩⟩
  by_cases h3 : 0 ≤ v
  case neg =>
    have h3' : decide (0 ≤ v) = false := by simpa using h3
    go_enter Tryd.func111, Tryd.ntmps111
    go_wp2
    go_quiet (fail)
    go_wp2
    go_ret
    exact ⟨by simp [routeB, h3'], ((Below.refl _ _).alloc (Nat.le_refl _) _).trans ⟨rfl, rfl, rfl, Nat.le_refl _, fun _ _ => rfl⟩⟩
  by_cases h4 : v < 16
  case neg =>
    have h4' : decide (v < 16) = false := by simpa using h4
    go_enter Tryd.func111, Tryd.ntmps111
    go_wp2
    go_quiet (fail)
    go_wp2
    go_ret
    exact ⟨by simp [routeB, h4'], ((Below.refl _ _).alloc (Nat.le_refl _) _).trans ⟨rfl, rfl, rfl, Nat.le_refl _, fun _ _ => rfl⟩⟩
  cases h5 : (bits .and .i64 v (15 / 2 ^ b.toNat) == 0)
  · go_enter Tryd.func111, Tryd.ntmps111
    go_wp2
    go_quiet (fail)
    go_wp2
    go_ret
    exact ⟨by simp [routeB, maskB, h5], ((Below.refl _ _).alloc (Nat.le_refl _) _).trans ⟨rfl, rfl, rfl, Nat.le_refl _, fun _ _ => rfl⟩⟩
  by_cases h6 : 0 ≤ p
  case neg =>
    have h6' : decide (0 ≤ p) = false := by simpa using h6
    go_enter Tryd.func111, Tryd.ntmps111
    go_wp2
    go_quiet (fail)
    go_wp2
    go_ret
    exact ⟨by simp [routeB, h6'], ((Below.refl _ _).alloc (Nat.le_refl _) _).trans ⟨rfl, rfl, rfl, Nat.le_refl _, fun _ _ => rfl⟩⟩
  cases h7 : decide (p ≤ 3)
  · go_enter Tryd.func111, Tryd.ntmps111
    go_wp2
    go_quiet (fail)
    go_wp2
    go_ret
    exact ⟨by simp [routeB, h7], ((Below.refl _ _).alloc (Nat.le_refl _) _).trans ⟨rfl, rfl, rfl, Nat.le_refl _, fun _ _ => rfl⟩⟩
  · have h8 : p ≤ 3 := by simpa using h7
    go_enter Tryd.func111, Tryd.ntmps111
    go_wp2
    go_quiet (fail)
    go_wp2
    go_ret
    exact ⟨by simp [routeB, maskB, h1, h2, h3, h4, h5, h6, h8], ((Below.refl _ _).alloc (Nat.le_refl _) _).trans ⟨rfl, rfl, rfl, Nat.le_refl _, fun _ _ => rfl⟩⟩

def RouteAt (w : World) (b o : Nat) (r : RouteV) : Prop :=
  w.cell? ⟨b, o, none⟩ = some (.int .i64 r.v) ∧ w.cell? ⟨b, o + 1, none⟩ = some (.int .i64 r.b) ∧ w.cell? ⟨b, o + 2, none⟩ = some (.int .i64 r.p)
theorem RouteAt.below {w w' : World} {B b o : Nat} {r : RouteV} (h : RouteAt w b o r) (hB : Below B w w') (hb : b < B) : RouteAt w' b o r := by
  unfold RouteAt at *
  have e : ∀ o, w'.cell? ⟨b, o, none⟩ = w.cell? ⟨b, o, none⟩ := fun o => hB.cell (p := ⟨b, o, none⟩) hb
  rw [e, e, e]
  exact h
theorem route_get {w : World} {B b o n k : Nat} {l : List RouteV} {r : RouteV} (h : SlAt RouteV.cells 3 w B (some ⟨b, o, none⟩) n l) (hr : l[k]? = some r) : b < B ∧ RouteAt w b (o + k * 3) r :=
  ⟨(h.get hr).1, (h.get hr).2 0 _ rfl, (h.get hr).2 1 _ rfl, (h.get hr).2 2 _ rfl⟩

/-! ### fib.Out -/
def outHit (d : Int) (r : RouteV) (bits : Int) : Bool := routeB r.v r.b r.p && decide (0 ≤ d) && decide (d < 16) && takesB d r.v r.b && decide (bits < r.b)
def outStep (d : Int) (s : Int × Int) (r : RouteV) : Int × Int := if outHit d r s.2 then (r.p, r.b) else s
def outF (d : Int) (l : List RouteV) : Int × Int := l.foldl (outStep d) (0, -1)

theorem right75_is (v b p : Int) (W : World) (B : Bool) (hv : i64ok v) (hb : i64ok b) (hp : i64ok p) (h : routeB v b p = B) : Calls Tryd.prog 111 #[.agg #[.int .i64 v, .int .i64 b, .int .i64 p]] W fun e W' => e = .returned (.bool B) ∧ Below W.heap.size W W' :=
  h ▸ right75_walk v b p W hv hb hp

theorem outF_snoc (d : Int) (l : List RouteV) {k : Nat} {r : RouteV} (hr : l[k]? = some r) : outF d (l.take (k + 1)) = outStep d (outF d (l.take k)) r := by
  have hk := List.getElem?_eq_some_iff.1 hr
  obtain ⟨hk1, hk2⟩ := hk
  rw [outF, List.take_succ_eq_append_getElem hk1, List.foldl_append, hk2]
  rfl
end Go.Proofs.YtohbafigjpoijaaDoor

/- fib.Out: what it answers. -/
set_option linter.unusedVariables false
set_option linter.unusedSimpArgs false
namespace Go.Proofs.YtohbafigjpoijaaDoor
open Go.ChangeShapes Go.WideShapes Go.ChangeAt Go.RowKit

theorem outF_bits (d : Int) (l : List RouteV) : -1 ≤ (outF d l).2 ∧ (outF d l).2 ≤ 4 := by
  have h : ∀ (l : List RouteV) (s : Int × Int), -1 ≤ s.2 ∧ s.2 ≤ 4 → -1 ≤ (l.foldl (outStep d) s).2 ∧ (l.foldl (outStep d) s).2 ≤ 4 := by
    intro l
    induction l with
    | nil => intro s h; exact h
    | cons r l ih =>
      intro s h
      refine ih _ ?_
      unfold outStep
      split
      · rename_i hh
        simp only [outHit, routeB, Bool.and_eq_true, decide_eq_true_eq] at hh
        show -1 ≤ r.b ∧ r.b ≤ 4
        omega
      · exact h
  exact h l _ (by decide)

end Go.Proofs.YtohbafigjpoijaaDoor

/- fib.Check: what it answers. -/
set_option linter.unusedVariables false
set_option linter.unusedSimpArgs false
namespace Go.Proofs.YtohbafigjpoijaaDoor
open Go.ChangeShapes Go.WideShapes Go.ChangeAt Go.RowKit

def sameR (r x : RouteV) : Bool := (x.v == r.v) && (x.b == r.b)
def chkF : List RouteV → List RouteV → Int
  | _, [] => 0
  | pre, r :: t => if routeB r.v r.b r.p = false then 1 else if pre.any (sameR r) then 5 else chkF (pre ++ [r]) t
def checkF (l : List RouteV) : Int := if 8 < l.length then 2 else chkF [] l

theorem chkF_step {l : List RouteV} {k : Nat} {r : RouteV} (hr : l[k]? = some r) : chkF (l.take k) (l.drop k) = if routeB r.v r.b r.p = false then 1 else if (l.take k).any (sameR r) then 5 else chkF (l.take (k + 1)) (l.drop (k + 1)) := by
  obtain ⟨hk1, hk2⟩ := List.getElem?_eq_some_iff.1 hr
  rw [List.drop_eq_getElem_cons hk1, hk2, List.take_succ_eq_append_getElem hk1, hk2]
  rfl
theorem any_take {l : List RouteV} {k j : Nat} {r x : RouteV} (hj : j < k) (hx : l[j]? = some x) (h : sameR r x = true) : (l.take k).any (sameR r) = true := by
  rw [List.any_eq_true]
  exact ⟨x, List.mem_of_getElem? (i := j) (by rw [List.getElem?_take_of_lt hj]; exact hx), h⟩
theorem any_take_none {l : List RouteV} {k : Nat} {r : RouteV} (h : ∀ j x, j < k → l[j]? = some x → sameR r x = false) : (l.take k).any (sameR r) = false := by
  rw [List.any_eq_false]
  intro x hx
  obtain ⟨j, hj⟩ := List.getElem?_of_mem hx
  have hjk : j < k := by
    have := (List.getElem?_eq_some_iff.1 hj).1
    simp at this
    omega
  rw [List.getElem?_take_of_lt hjk] at hj
  simp [h j x hjk hj]
def RouteBox (w : World) (b : Nat) (r : RouteV) : Prop := w.cell? ⟨b, 0, none⟩ = some (.int .i64 r.v) ∧ w.cell? ⟨b, 1, none⟩ = some (.int .i64 r.b) ∧ w.cell? ⟨b, 2, none⟩ = some (.int .i64 r.p)
theorem RouteBox.below {w w' : World} {B b : Nat} {r : RouteV} (h : RouteBox w b r) (hB : Below B w w') (hb : b < B) : RouteBox w' b r := by
  unfold RouteBox at *
  have e : ∀ o, w'.cell? ⟨b, o, none⟩ = w.cell? ⟨b, o, none⟩ := fun o => hB.cell (p := ⟨b, o, none⟩) hb
  rw [e, e, e]
  exact h
theorem ret_i64' {a b : Int} (h : a = b) : Ending.returned (.int .i64 a) = .returned (.int .i64 b) := by rw [h]

set_option maxRecDepth 100000 in
set_option maxHeartbeats 4000000 in
theorem check22_walk (l : List RouteV) (b o n c : Nat) (W : World) (hn : n ≤ 8) (hnc : n ≤ c) (hl : SlAt RouteV.cells 3 W W.heap.size (some ⟨b, o, none⟩) n l) (hok : ∀ r ∈ l, r.ok) (h0 : 0 < n) :
    Calls Tryd.prog 94 #[.slice (some ⟨b, o, none⟩) n c] W fun e W' => e = .returned (.int .i64 (chkF [] l)) ∧ Below W.heap.size W W' := by
  have HL := hide hl
  have HK := hide hok
  clear hl hok
  have h8 : decide ((8 : Int) < (n : Int)) = false := by simp; omega
  go_enter Tryd.func94, Tryd.ntmps94
  go_wp2
  go_loopw [3, 4, 12] (fun _ _ i wr => ∃ k : Nat, k ≤ n ∧ i = .int .i64 k ∧ Hid (chkF [] l = chkF (l.take k) (l.drop k)) ∧ Below W.heap.size W wr) (fun _ _ i _ => n - (intOf i).toNat)
  case atStart => exact ⟨0, Nat.zero_le _, rfl, rfl, Below.refl _ _⟩
  case round =>
    obtain ⟨k, hk, rfl, HC, hb⟩ := hrel
    have HB := hide hb
    clear hb
    by_cases hlt : k < n
    · obtain ⟨r, hr⟩ : ∃ r, l[k]? = some r := ⟨_, List.getElem?_eq_getElem (by have := HL.out.1; omega)⟩
      obtain ⟨hbB, hra⟩ := route_get HL.out hr
      obtain ⟨q0, q1, q2⟩ := hra.below HB.out hbB
      have HS := hide (chkF_step hr)
      obtain ⟨⟨hv1, hv2⟩, ⟨hbb1, hbb2⟩, ⟨hp1, hp2⟩⟩ := HK.out r (List.mem_of_getElem? hr)
      clear hr hra
      obtain ⟨rv, rb, rp⟩ := r
      cases h1 : routeB rv rb rp
      · go_wp2_with fail
        refine (right75_is _ _ _ _ _ ⟨hv1, hv2⟩ ⟨hbb1, hbb2⟩ ⟨hp1, hp2⟩ h1).mono ?_
        rintro e w1 ⟨rfl, hb1⟩
        have HB1 := hide (HB.out.trans (((Below.refl _ wr).alloc HB.out.size _).trans (hb1.mono (by have := HB.out.size; simp; omega))))
        clear hb1
        go_wp2
        go_ret
        exact ⟨ret_i64' (by rw [HC.out, HS.out]; simp [h1]), HB1.out⟩
      · go_wp2_with fail
        refine (right75_is _ _ _ _ _ ⟨hv1, hv2⟩ ⟨hbb1, hbb2⟩ ⟨hp1, hp2⟩ h1).mono ?_
        rintro e w1 ⟨rfl, hb1⟩
        have HB1 := hide (HB.out.trans (((Below.refl _ wr).alloc HB.out.size _).trans (hb1.mono (by have := HB.out.size; simp; omega))))
        have HX := hide ((show RouteBox (wr.alloc (.cells #[.int .i64 rv, .int .i64 rb, .int .i64 rp] 107)) wr.heap.size ⟨rv, rb, rp⟩ from by simp [RouteBox]).below hb1 (by simp))
        have hs1 : wr.heap.size + 1 ≤ w1.heap.size := by have := hb1.size; simpa using this
        have hsW : W.heap.size ≤ wr.heap.size := HB.out.size
        clear hb1 q0 q1 q2
        go_wp2
        generalize hB0 : wr.heap.size = B0 at *
        clear hB0 HB
        go_loopw [6, 24] (fun _ i wi => ∃ j : Nat, j ≤ k ∧ i = .int .i64 j ∧ Hid (∀ i x, i < j → l[i]? = some x → sameR ⟨rv, rb, rp⟩ x = false) ∧ Below W.heap.size W wi ∧ B0 + 1 ≤ wi.heap.size ∧ RouteBox wi B0 ⟨rv, rb, rp⟩) (fun _ i _ => k - (intOf i).toNat)
        case atStart => exact ⟨0, Nat.zero_le _, rfl, fun i x h => absurd h (by omega), HB1.out, hs1, HX.out⟩
        case round =>
          obtain ⟨j, hj, rfl, HN, hbi, hsi, hxi⟩ := hrel
          have HBI := hide hbi
          have HXI := hide hxi
          clear hbi hxi HB1 HX hs1
          obtain ⟨x0, x1, _⟩ := HXI.out
          by_cases hjk : j < k
          · obtain ⟨x, hx⟩ : ∃ x, l[j]? = some x := ⟨_, List.getElem?_eq_getElem (by have := HL.out.1; omega)⟩
            obtain ⟨hbB', hxa⟩ := route_get HL.out hx
            obtain ⟨y0, y1, y2⟩ := hxa.below HBI.out hbB'
            have HXJ := hide hx
            clear hx hxa
            obtain ⟨xv, xb, xp⟩ := x
            have z0 : ∀ ob, (wr.alloc ob).cell? ⟨B0, 0, none⟩ = some (.int .i64 rv) := fun ob => (World.cell?_alloc_lt _ _ _ (by show B0 < _; omega)).trans x0
            have z1 : ∀ ob, (wr.alloc ob).cell? ⟨B0, 1, none⟩ = some (.int .i64 rb) := fun ob => (World.cell?_alloc_lt _ _ _ (by show B0 < _; omega)).trans x1
            clear x0 x1
            have hsi' := HBI.out.size
            cases e1 : (xv == rv)
            · go_wp2
              go_roundw
              case rel => exact ⟨j + 1, by omega, by go_num, hide (fun i x hi hx => by
                rcases (by omega : i < j ∨ i = j) with h | rfl
                · exact HN.out i x h hx
                · have e := HXJ.out; rw [e] at hx; cases hx; simp [sameR, e1]), HBI.out.alloc hsi' _, by simp; omega, HXI.out.below ((Below.refl _ _).alloc (Nat.le_refl _) _) (by omega)⟩
              case measure => simp [intOf]; omega
            cases e2 : (xb == rb)
            · go_wp2
              go_roundw
              case rel => exact ⟨j + 1, by omega, by go_num, hide (fun i x hi hx => by
                rcases (by omega : i < j ∨ i = j) with h | rfl
                · exact HN.out i x h hx
                · have e := HXJ.out; rw [e] at hx; cases hx; simp [sameR, e2]), HBI.out.alloc hsi' _, by simp; omega, HXI.out.below ((Below.refl _ _).alloc (Nat.le_refl _) _) (by omega)⟩
              case measure => simp [intOf]; omega
            have HA := hide (any_take (r := ⟨rv, rb, rp⟩) hjk HXJ.out (by simp [sameR, e1, e2]))
            go_wp2
            go_ret
            exact ⟨ret_i64' (by rw [HC.out, HS.out, HA.out]; simp [h1]), HBI.out.alloc hsi' _⟩
          · have hjk' : j = k := by omega
            subst hjk'
            have HA := hide (any_take_none (r := ⟨rv, rb, rp⟩) HN.out)
            go_wp2
            go_roundw
            case rel => exact ⟨j + 1, by omega, by go_num, hide (by rw [HC.out, HS.out, HA.out]; simp [h1]), HBI.out⟩
            case measure => simp [intOf]; omega
    · have hkn : k = n := by omega
      subst hkn
      have HT := hide (show chkF (l.take k) (l.drop k) = 0 from by rw [List.drop_of_length_le (by have := HL.out.1; omega)]; rfl)
      go_wp2
      go_ret
      exact ⟨ret_i64' (by rw [HC.out, HT.out]), HB.out⟩

set_option maxRecDepth 100000 in
theorem check22_nil (A : Option Addr) (c : Nat) (W : World) : Calls Tryd.prog 94 #[.slice A 0 c] W fun e W' => e = .returned (.int .i64 0) ∧ W = W' := by
  go_enter Tryd.func94, Tryd.ntmps94
  go_wp2
  refine wp_loop_rounds 1 ?_
  rw [rounds_succ]
  go_wp2
  go_ret
  exact ⟨rfl, rfl⟩

set_option maxRecDepth 100000 in
theorem check22_large (A : Option Addr) (n c : Nat) (W : World) (h : 8 < n) : Calls Tryd.prog 94 #[.slice A n c] W fun e W' => e = .returned (.int .i64 2) ∧ W = W' := by
  have h8 : decide ((8 : Int) < (n : Int)) = true := by simp; omega
  go_enter Tryd.func94, Tryd.ntmps94
  go_wp2
  go_ret
  exact ⟨rfl, rfl⟩

theorem check22_any (l : List RouteV) (A : Option Addr) (n c : Nat) (W : World) (hnc : n ≤ c) (hl : SlAt RouteV.cells 3 W W.heap.size A n l) (hok : ∀ r ∈ l, r.ok) :
    Calls Tryd.prog 94 #[.slice A n c] W fun e W' => e = .returned (.int .i64 (checkF l)) ∧ Below W.heap.size W W' := by
  rcases Nat.eq_zero_or_pos n with rfl | h0
  · have : l = [] := List.eq_nil_of_length_eq_zero hl.1
    subst this
    exact (check22_nil A c W).mono fun e w' ⟨he, hw⟩ => ⟨he, hw ▸ Below.refl _ _⟩
  · rcases Nat.lt_or_ge 8 n with h8 | h8
    · have e : checkF l = 2 := by unfold checkF; rw [if_pos (by rw [hl.1]; exact h8)]
      rw [e]
      exact (check22_large A n c W h8).mono fun e w' ⟨he, hw⟩ => ⟨he, hw ▸ Below.refl _ _⟩
    · have e : checkF l = chkF [] l := by unfold checkF; rw [if_neg (by rw [hl.1]; omega)]
      rw [e]
      obtain ⟨b, o, rfl, hb, _⟩ := hl.2 h0
      exact check22_walk l b o n c W h8 hnc hl hok h0
end Go.Proofs.YtohbafigjpoijaaDoor

/- AclFirst: behind a rule for all nothing is looked at; with a rule ahead what it matches is as it says, and nothing else turns. For arguments that hold at most 1048576 values. -/
set_option linter.unusedVariables false
set_option linter.unusedSimpArgs false
namespace Go.Proofs.YtohbafigjpoijaaDoor
open Go.ChangeShapes Go.WideShapes Go.ChangeAt Go.RowKit

def RuleBox (w : World) (b : Nat) (r : RuleV) : Prop :=
  w.cell? ⟨b, 0, none⟩ = some (.bool r.permit) ∧ w.cell? ⟨b, 1, none⟩ = some (.int .u16 r.m.src) ∧ w.cell? ⟨b, 2, none⟩ = some (.int .u16 r.m.dst) ∧
    w.cell? ⟨b, 3, none⟩ = some (.int .u8 r.m.sport) ∧ w.cell? ⟨b, 4, none⟩ = some (.int .u8 r.m.dport)
theorem RuleBox.below {w w' : World} {B b : Nat} {r : RuleV} (h : RuleBox w b r) (hB : Below B w w') (hb : b < B) : RuleBox w' b r := by
  unfold RuleBox at *
  have e : ∀ o, w'.cell? ⟨b, o, none⟩ = w.cell? ⟨b, o, none⟩ := fun o => hB.cell (p := ⟨b, o, none⟩) hb
  rw [e, e, e, e, e]
  exact h

theorem ownsRow_below {w w' : World} {base e s n : Nat} {v : Value} {xs : List Value} (h : w.ownsRow base e s v n xs) (hb : Below w.heap.size w w') : w'.ownsRow base e s v n xs :=
  h.kept (row := none) ⟨hb.os, hb.tape, hb.output, hb.size, fun k hk _ => hb.block k hk⟩ (by cases hv : v.ownBlock <;> simp)

theorem rules_lit {w : World} {r : RuleV} (hr : r.ok) {cs : Array Value} (hcs : cs.toList = r.cells) : RulesAt (w.alloc (.cells cs 105)) (w.heap.size + 1) (some ⟨w.heap.size, 0, none⟩) 1 [r] := by
  refine ⟨rfl, fun x hx => by simp at hx; subst hx; exact hr, fun _ => ⟨w.heap.size, 0, rfl, by omega, fun k x hk => ?_⟩⟩
  have hk0 : k = 0 := by have := (List.getElem?_eq_some_iff.1 hk).1; simp at this; exact this
  subst hk0
  have : r = x := by simpa using hk
  subst this
  have e : ∀ j : Nat, (w.alloc (.cells cs 105)).cell? ⟨w.heap.size, j, none⟩ = r.cells[j]? := fun j => by
    rw [cell_of_row _ _ j cs 105 (0, 0) (heap_alloc_new w _), ← hcs]; simp
  exact ⟨e 0, e 1, e 2, e 3, e 4⟩

/-- What stands at each point of AclFirst's walk. -/
structure AF (W : World) (r : RuleV) (p : P4) (w : World) : Prop where
  hb : Below W.heap.size W w
  hs : W.heap.size + 2 ≤ w.heap.size
  rb : RuleBox w W.heap.size r
  pb : PackAt w (W.heap.size + 1) p
theorem AF.step {W w w' : World} {r : RuleV} {p : P4} {B : Nat} (h : AF W r p w) (hb : Below B w w') (hB : W.heap.size + 2 ≤ B) : AF W r p w' :=
  ⟨h.hb.trans (hb.mono (by omega)), Nat.le_trans h.hs hb.size, h.rb.below hb (by omega), h.pb.below hb (by omega)⟩
theorem AF.alloc {W w : World} {r : RuleV} {p : P4} (h : AF W r p w) (o : Obj) : AF W r p (w.alloc o) := h.step ((Below.refl _ _).alloc (Nat.le_refl _) _) h.hs

def allR (b : Bool) : RuleV := ⟨b, ⟨65535, 65535, 255, 255⟩⟩
theorem allR_ok (b : Bool) : (allR b).ok := ⟨Nat.lt_succ_self 65535, Nat.lt_succ_self 65535, Nat.lt_succ_self 255, Nat.lt_succ_self 255⟩
theorem zeroP_ok : P4.ok ⟨0, 0, 0, 0⟩ := by simp [P4.ok, i64ok]

theorem inB_right (p : P4) (h : rightB p = true) : inB ⟨65535, 65535, 255, 255⟩ p = true := by
  simp only [rightB, inR, Bool.and_eq_true, decide_eq_true_eq] at h
  have t : ∀ (n : Int) (k : Nat), 0 ≤ n → n < k → k ≤ 16 → hasB (2 ^ k - 1) n = true := fun n k h0 hk hk16 => by
    simp only [hasB, Bool.and_eq_true, decide_eq_true_eq, Nat.testBit_two_pow_sub_one]
    omega
  simp only [inB, Bool.and_eq_true]
  exact ⟨⟨⟨t _ 16 (by omega) (by omega) (by omega), t _ 16 (by omega) (by omega) (by omega)⟩, t _ 8 (by omega) (by omega) (by omega)⟩, t _ 8 (by omega) (by omega) (by omega)⟩

theorem lets_append (l m : List RuleV) (p : P4) : letsB (l ++ m) p = if (l.any fun r => inB r.m p) then letsB l p else letsB m p := by
  induction l with
  | nil => simp
  | cons a l ih =>
    by_cases h : inB a.m p = true
    · simp [letsB, h]
    · simp only [letsB] at ih
      simpa [letsB, h] using ih
theorem lets_ended (l more : List RuleV) (p : P4) (h : rightB p = true) : letsB (l ++ [allR false] ++ more) p = letsB l p := by
  rw [List.append_assoc, lets_append]
  cases ha : l.any fun r => inB r.m p
  · have e1 : letsB l p = false := lets_none (fun r hr => by simpa using (List.any_eq_false.1 ha) r hr)
    rw [e1]
    have := inB_right p h
    simp [letsB, allR, this]
  · simp
theorem lets_ahead (r : RuleV) (l : List RuleV) (p : P4) : letsB (r :: l) p = if inB r.m p then r.permit else letsB l p := by
  cases h : inB r.m p <;> simp [letsB, h]

theorem right_is (p : P4) (W : World) (B : Bool) (h : rightB p = B) : Calls Tryd.prog 10 #[.agg #[.int .i64 p.src, .int .i64 p.dst, .int .i64 p.sport, .int .i64 p.dport]] W fun e W' => e = .returned (.bool B) ∧ Below W.heap.size W W' := h ▸ right_walk p W

end Go.Proofs.YtohbafigjpoijaaDoor

/- FibLongest: what is told is told by a route with the most bits. No condition. -/
set_option linter.unusedVariables false
set_option linter.unusedSimpArgs false
namespace Go.Proofs.YtohbafigjpoijaaDoor
open Go.ChangeShapes Go.WideShapes Go.ChangeAt Go.RowKit

theorem fin16 (P : Int → Prop) [DecidablePred P] (h : ∀ i : Fin 16, P (i.val : Int)) (d : Int) (h0 : 0 ≤ d) (h1 : d ≤ 15) : P d := by
  have := h ⟨d.toNat, by omega⟩
  simpa [Int.toNat_of_nonneg h0] using this
theorem fin4 (P : Int → Prop) [DecidablePred P] (h : ∀ i : Fin 4, P (i.val : Int)) (d : Int) (h0 : 0 ≤ d) (h1 : d ≤ 3) : P d := by
  have := h ⟨d.toNat, by omega⟩
  simpa [Int.toNat_of_nonneg h0] using this

theorem mask4 (d : Int) (h0 : 0 ≤ d) (h1 : d ≤ 15) : maskB d 4 = true := fin16 (fun d => maskB d 4 = true) (by decide +kernel) d h0 h1
theorem takes4 (d : Int) (h0 : 0 ≤ d) (h1 : d ≤ 15) : takesB d d 4 = true := fin16 (fun d => takesB d d 4 = true) (by decide +kernel) d h0 h1
theorem takes0 (d : Int) (h0 : 0 ≤ d) (h1 : d ≤ 15) : takesB d 0 0 = true := fin16 (fun d => takesB d 0 0 = true) (by decide +kernel) d h0 h1
theorem mask0 : maskB 0 0 = true := by decide +kernel

theorem outF_ahead (d k : Int) (l : List RouteV) (h0 : 0 ≤ d) (h1 : d ≤ 15) (hk0 : 0 ≤ k) (hk3 : k ≤ 3) : outF d (⟨d, 4, k⟩ :: l) = (k, 4) := by
  have h : ∀ l : List RouteV, l.foldl (outStep d) (k, 4) = (k, 4) := by
    intro l
    induction l with
    | nil => rfl
    | cons r l ih =>
      rw [List.foldl_cons]
      have : outStep d (k, 4) r = (k, 4) := by
        unfold outStep
        rw [if_neg]
        simp only [outHit, routeB, Bool.and_eq_true, decide_eq_true_eq]
        omega
      rw [this]; exact ih
  show List.foldl (outStep d) (outStep d (0, -1) ⟨d, 4, k⟩) l = _
  have : outStep d (0, -1) ⟨d, 4, k⟩ = (k, 4) := by
    unfold outStep
    rw [if_pos]
    simp [outHit, routeB, mask4 d h0 h1, takes4 d h0 h1]
    omega
  rw [this]; exact h l

theorem outF_last (d k : Int) (l : List RouteV) (h0 : 0 ≤ d) (h1 : d ≤ 15) (hk0 : 0 ≤ k) (hk3 : k ≤ 3) : outF d (l ++ [⟨0, 0, k⟩]) = if (outF d l).2 < 0 then (k, 0) else outF d l := by
  rw [outF, List.foldl_append]
  show outStep d (outF d l) ⟨0, 0, k⟩ = _
  unfold outStep
  have e : outHit d ⟨0, 0, k⟩ (outF d l).2 = decide ((outF d l).2 < 0) := by
    have a1 : decide (d < 16) = true := by simp; omega
    simp [outHit, routeB, mask0, takes0 d h0 h1, h0, hk0, hk3, a1]
  rw [e]
  by_cases h : (outF d l).2 < 0 <;> simp [h]

theorem rest_eq (n m : Int) (hm : 0 < m) : -m < n.tmod m ∧ n.tmod m < m ∧ n % m = if n.tmod m < 0 then n.tmod m + m else n.tmod m := by
  have e := Int.tmod_eq_emod (a := n) (b := m)
  have h0 := Int.emod_nonneg n (show m ≠ 0 by omega)
  have h1 := Int.emod_lt_of_pos n hm
  have hab : (m.natAbs : Int) = m := by omega
  by_cases hc : 0 ≤ n ∨ m ∣ n
  · rw [if_pos hc] at e
    refine ⟨by omega, by omega, ?_⟩
    rw [if_neg (by omega)]; omega
  · rw [if_neg hc, hab] at e
    have : n % m ≠ 0 := fun h => hc (.inr (Int.dvd_of_emod_eq_zero h))
    refine ⟨by omega, by omega, ?_⟩
    rw [if_pos (by omega)]; omega

theorem Tryd.infoRoute : (Tryd.prog.info? 107).map (fun i => (i.zero, i.size, i.bytes)) = some (some (.agg #[.int .i64 0, .int .i64 0, .int .i64 0]), 3, 24) := by kernel_rfl

end Go.Proofs.YtohbafigjpoijaaDoor

/- FibLongest: what is told is told by a route that takes it, and none with more bits does. No condition. -/
set_option linter.unusedVariables false
set_option linter.unusedSimpArgs false
namespace Go.Proofs.YtohbafigjpoijaaDoor
open Go.ChangeShapes Go.WideShapes Go.ChangeAt Go.RowKit

/-- A block that holds just the cells of a list of routes. -/
theorem routes_lit {w : World} (l : List RouteV) {cs : Array Value} (hcs : cs.toList = l.flatMap RouteV.cells) : SlAt RouteV.cells 3 (w.alloc (.cells cs 107)) (w.heap.size + 1) (some ⟨w.heap.size, 0, none⟩) l.length l := by
  refine ⟨rfl, fun _ => ⟨w.heap.size, 0, rfl, by omega, fun k x hk j v hv => ?_⟩⟩
  rw [cell_of_row _ _ _ cs 107 (0, 0) (heap_alloc_new w _)]
  have := flat_get RouteV.len l k x j v hk hv
  rw [← hcs] at this
  simpa using this

theorem i64ok_0 : i64ok 0 := by unfold i64ok; omega
theorem i64ok_4 : i64ok 4 := by unfold i64ok; omega
theorem outF_first : outF 13 [⟨8, 1, 2⟩, ⟨12, 2, 3⟩] = (3, 2) := by decide +kernel

end Go.Proofs.YtohbafigjpoijaaDoor

/- FibLongest: the statement. -/
set_option linter.unusedVariables false
set_option linter.unusedSimpArgs false
namespace Go.Proofs.YtohbafigjpoijaaDoor
open Go.ChangeShapes Go.WideShapes Go.ChangeAt Go.RowKit

theorem Tryd.cellsRoute : Tryd.prog.cellsOf 107 = 3 := by kernel_rfl
theorem Tryd.cellsInt : Tryd.prog.cellsOf 3 = 1 := by kernel_rfl

section
variable {H : Type} {enc : TypeId × Value → H} {w : World} {base : Nat} {spare : Nat → Bool} {held : Bool} {r : Reach} {b0 : Nat}
set_option maxRecDepth 100000 in
theorem read_route {n : Nat} {cs : List Value} {y : DataW H × List MemPlace} (h : DataW.trod enc Tryd.prog w base spare held n 107 cs = some y) : ∃ r : RouteV, r.ok ∧ cs = r.cells := by
  obtain ⟨xs, n', _, _, hlen, hxl, hf⟩ := DataW.trod_struct Tryd.underlying107 h
  rw [Tryd.cellsRoute] at hlen
  match cs, hlen with
  | [c0, c1, c2], _ =>
    have h0 := hf 0 _ rfl
    have h1 := hf 1 _ rfl
    have h2 := hf 2 _ rfl
    obtain ⟨y0, e0⟩ := get_some (xs := xs) (i := 0) (by rw [hxl]; decide)
    obtain ⟨y1, e1⟩ := get_some (xs := xs) (i := 1) (by rw [hxl]; decide)
    obtain ⟨y2, e2⟩ := get_some (xs := xs) (i := 2) (by rw [hxl]; decide)
    rw [e0] at h0
    rw [e1] at h1
    rw [e2] at h2
    simp [Tryd.cellsInt] at h0 h1 h2
    obtain ⟨a, rfl, ha⟩ := trod_i64 h0
    obtain ⟨b, rfl, hb⟩ := trod_i64 h1
    obtain ⟨c, rfl, hc⟩ := trod_i64 h2
    exact ⟨⟨a, b, c⟩, ⟨ha, hb, hc⟩, rfl⟩
set_option maxRecDepth 100000 in
theorem open_routes {v : Value} {d : DataW H} {p : List MemPlace} (hv : Value.okWide Tryd.prog w r b0 69 v) (h : DataW.Trod enc Tryd.prog w base spare held 69 v d p) :
    ∃ (A : Option Addr) (n c : Nat) (l : List RouteV), v = .slice A n c ∧ n ≤ c ∧ c ≤ maxLen ∧ SlAt RouteV.cells 3 w w.heap.size A n l ∧ (∀ r ∈ l, r.ok) ∧ (n = 0 ∨ ∃ elems sp, d = .slice elems sp ∧ elems.length = n) :=
  open_elems RouteV.cells RouteV.ok 3 Tryd.underlying69 Tryd.cellsRoute (by omega) RouteV.len (fun _ _ _ h => read_route h) hv h
set_option maxRecDepth 100000 in
theorem open_i64 {v : Value} {d : DataW H} {p : List MemPlace} (hv : Value.okWide Tryd.prog w r b0 3 v) (h : DataW.Trod enc Tryd.prog w base spare held 3 v d p) : ∃ x : Int, v = .int .i64 x ∧ i64ok x := by
  obtain ⟨x, rfl, rfl, rfl, wx⟩ := open_int Tryd.underlying3 hv h
  exact ⟨x, rfl, wf_i64ok wx⟩
end

end Go.Proofs.YtohbafigjpoijaaDoor
