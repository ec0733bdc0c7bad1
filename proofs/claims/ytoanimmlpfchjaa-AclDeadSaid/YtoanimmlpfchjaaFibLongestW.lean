/- FibLongest: what is told is told by a route that takes it, and none with more bits does. No condition. -/
import Derived.Test.YtoanimmlpfchjaaFibLongest
set_option linter.unusedVariables false
set_option linter.unusedSimpArgs false
namespace Go.Proofs.Ytoanimmlpfchjaa
open Go.ChangeShapes Go.WideShapes Go.ChangeAt Go.RowKit

/-- A block that holds just the cells of a list of routes. -/
theorem routes_lit {w : World} (l : List RouteV) {cs : Array Value} (hcs : cs.toList = l.flatMap RouteV.cells) : SlAt RouteV.cells 3 (w.alloc (.cells cs 45)) (w.heap.size + 1) (some ⟨w.heap.size, 0, none⟩) l.length l := by
  refine ⟨rfl, fun _ => ⟨w.heap.size, 0, rfl, by omega, fun k x hk j v hv => ?_⟩⟩
  rw [cell_of_row _ _ _ cs 45 (0, 0) (heap_alloc_new w _)]
  have := flat_get RouteV.len l k x j v hk hv
  rw [← hcs] at this
  simpa using this

theorem i64ok_0 : i64ok 0 := by unfold i64ok; omega
theorem i64ok_4 : i64ok 4 := by unfold i64ok; omega
theorem outF_first : outF 13 [⟨8, 1, 2⟩, ⟨12, 2, 3⟩] = (3, 2) := by decide +kernel

set_option maxRecDepth 100000 in
set_option maxHeartbeats 4000000 in
theorem fibLongest_walk (l : List RouteV) (A : Option Addr) (n c : Nat) (d p : Int) (W : World) (hn : n ≤ maxLen) (hnc : n ≤ c) (hd : i64ok d) (hp : i64ok p) (hl : SlAt RouteV.cells 3 W W.heap.size A n l) (hok : ∀ r ∈ l, r.ok) :
    Calls Try.prog 6 #[.slice A n c, .int .i64 d, .int .i64 p] W fun e W' => e = .returned (.bool true) ∧ Below W.heap.size W W' := by
  unfold maxLen at hn
  obtain ⟨i0, hi0, hz0, hz1, hz2⟩ := info_parts Try.infoRoute
  have hd' := hd
  obtain ⟨hd1, hd2⟩ := hd
  have HL := hide hl
  have HK := hide hok
  clear hl hok
  go_enter Try.func6, Try.ntmps6
  go_wp2_with fail
  refine (out_any [⟨8, 1, 2⟩, ⟨12, 2, 3⟩] _ 2 2 13 _ (by omega) ⟨by omega, by omega⟩ ((routes_lit [⟨8, 1, 2⟩, ⟨12, 2, 3⟩] rfl).below (Below.refl _ _) (by simp)) (by simp [RouteV.ok, i64ok])).mono ?_
  rintro e w1 ⟨rfl, hb1⟩
  rw [outF_first]
  have H1 := hide (((Below.refl _ W).alloc (Nat.le_refl _) _).trans (hb1.mono (by simp)))
  clear hb1
  go_wp2_with fail
  refine (check22_any l A n c _ hnc (HL.out.below H1.out H1.out.size) HK.out).mono ?_
  rintro e w2 ⟨rfl, hb2⟩
  have H2 := hide (H1.out.trans (hb2.mono H1.out.size))
  clear hb2 H1
  cases hc0 : (checkF l != 0)
  case true =>
    go_wp2
    go_ret
    exact ⟨rfl, H2.out⟩
  by_cases hd0 : 0 ≤ d
  case neg =>
    have hd0' : decide (d < 0) = true := by simpa using hd0
    go_wp2
    go_ret
    exact ⟨rfl, H2.out⟩
  by_cases hd15 : d ≤ 15
  case neg =>
    have hd15' : decide (15 < d) = true := by simpa using hd15
    go_wp2
    go_ret
    exact ⟨rfl, H2.out⟩
  have hn8 : n ≤ 8 := by
    have e : checkF l = 0 := by simpa using hc0
    unfold checkF at e
    split at e
    · omega
    · have := HL.out.1; omega
  have hd0' : decide (d < 0) = false := by simp; omega
  have hd15' : decide (15 < d) = false := by simp; omega
  go_wp2_with fail
  refine (out_any l A n c d _ (by omega) hd' (HL.out.below H2.out H2.out.size) HK.out).mono ?_
  rintro e w3 ⟨rfl, hb3⟩
  have H3 := hide (H2.out.trans (hb3.mono H2.out.size))
  clear hb3 H2 hc0
  go_wp2_with fail
  refine (rest_walk p 4 _ hp (by omega) (by omega)).mono ?_
  rintro e w4 ⟨rfl, rfl⟩
  have hk0 : 0 ≤ p % 4 := by omega
  have hk3 : p % 4 ≤ 3 := by omega
  generalize p % 4 = k at *
  have hsW : W.heap.size ≤ w3.heap.size := H3.out.size
  go_wp2_with (at_builtin; refine wpList_append_any _ rfl (.tmp 52) (.tmp 53) 41 rfl w3.heap.size 45 i0 _ 3 24 Try.underlying41 hi0 hz0 hz1 hz2 rfl (by omega) (.slice (some ⟨w3.heap.size, 0, none⟩) 1 1) 1 _ rfl (World.ownsRow_lit w3 #[.int .i64 d, .int .i64 4, .int .i64 k] 1 (Nat.le_refl _) (by decide) rfl) W.heap.size A n c (l.flatMap RouteV.cells) rfl ((HL.out.below (H3.out.alloc hsW _) (Nat.le_refl _)).reads RouteV.len (by omega)) (flat_one RouteV.one _) (by simp only [maxLen]; omega) (by omega) (by simp) ?_; intro v5 w5 hown5 hg5 hat5; have H5 := hide ((H3.out.alloc hsW _).grown hg5 (by simp; omega) (fun k hk => by simp [Value.ownBlock] at hk; omega)))
  obtain ⟨A5, c5, hv5, hnc5, hsl5, _⟩ := SlAt.of_own (l := ⟨d, 4, k⟩ :: l) RouteV.len (by simpa [RouteV.cells] using hown5) (by have h1 := HL.out.1; simp; omega)
  rw [hv5]
  have HS5 := hide hsl5
  clear hsl5 hown5 hg5 hat5 hv5 H3 hsW
  have hi64k : i64ok k := ⟨by omega, by omega⟩
  have hi64d4 : RouteV.ok ⟨d, 4, k⟩ := ⟨hd', i64ok_4, hi64k⟩
  refine (out_any (⟨d, 4, k⟩ :: l) A5 _ c5 d _ (by omega) hd' HS5.out (fun x hx => by
    rcases List.mem_cons.1 hx with rfl | hx
    · exact hi64d4
    · exact HK.out x hx)).mono ?_
  rintro e w6 ⟨rfl, hb6⟩
  rw [outF_ahead d k l hd0 hd15 hk0 hk3]
  have H6 := hide (H5.out.trans (hb6.mono H5.out.size))
  clear hb6 HS5 H5 hnc5
  go_wp2_with fail
  refine (cloneRoute_walk l A n c _ (by omega) (HL.out.below H6.out H6.out.size)).mono ?_
  rintro e w7 ⟨v7, rfl, hown7, hb7⟩
  have H7 := hide (H6.out.trans (hb7.mono H6.out.size))
  have HO7 := hide hown7
  have hs6 : W.heap.size ≤ w6.heap.size := H6.out.size
  have hs7 : w6.heap.size ≤ w7.heap.size := hb7.size
  clear hb7 hown7 H6
  go_wp2_with (at_builtin; refine wpList_append_any _ rfl (.tmp 68) (.tmp 71) 41 rfl w6.heap.size 45 i0 _ 3 24 Try.underlying41 hi0 hz0 hz1 hz2 rfl (by omega) v7 n (l.flatMap RouteV.cells) rfl (HO7.out.alloc _) (w7.heap.size + 1) (some ⟨w7.heap.size, 0, none⟩) 1 1 ([(⟨0, 0, k⟩ : RouteV)].flatMap RouteV.cells) rfl ((routes_lit [⟨0, 0, k⟩] rfl).reads RouteV.len (by omega)) (flat_one RouteV.one _) (by simp only [maxLen]; omega) (by omega) (by simp; omega) ?_; intro v8 w8 hown8 hg8 hat8; have H8 := hide ((H7.out.alloc (Nat.le_trans hs6 hs7) _).grown hg8 (by simp; omega) (fun k hk => Nat.le_trans hs6 (HO7.out.lt k hk).1)))
  obtain ⟨A8, c8, hv8, hnc8, hsl8, _⟩ := SlAt.of_own (l := l ++ [⟨0, 0, k⟩]) RouteV.len (by simpa using hown8) (by have h1 := HL.out.1; simp; omega)
  rw [hv8]
  have HS8 := hide hsl8
  clear hsl8 hown8 hg8 hat8 hv8 H7 HO7 hs6 hs7
  have hi64d0 : RouteV.ok ⟨0, 0, k⟩ := ⟨i64ok_0, i64ok_0, hi64k⟩
  refine (out_any (l ++ [⟨0, 0, k⟩]) A8 _ c8 d _ (by omega) hd' HS8.out (fun x hx => by
    rcases List.mem_append.1 hx with hx | hx
    · exact HK.out x hx
    · rw [List.mem_singleton] at hx; subst hx; exact hi64d0)).mono ?_
  rintro e w9 ⟨rfl, hb9⟩
  rw [outF_last d k l hd0 hd15 hk0 hk3]
  have H9 := hide (H8.out.trans (hb9.mono H8.out.size))
  clear hb9 HS8 H8 hnc8
  generalize outF d l = q at *
  obtain ⟨q1, q2⟩ := q
  by_cases hq : q2 < 0
  · simp only [if_pos hq]
    have hq' : decide (0 ≤ q2) = false := by simp; omega
    cases hkq : (k == q1)
    · go_wp2
      go_ret
      exact ⟨by simp, H9.out⟩
    · go_wp2
      go_ret
      exact ⟨by simp, H9.out⟩
  · simp only [if_neg hq]
    have hq' : decide (0 ≤ q2) = true := by simp; omega
    go_wp2
    go_ret
    exact ⟨by simp, H9.out⟩
end Go.Proofs.Ytoanimmlpfchjaa
