/- Ways round, plainly; what a memory does on a net of hosts and routers. -/
import Derived.Test.YtidikopjfpioaaaLawFB
import Derived.Test.YtidikopjfpioaaaLawSet
import Derived.Test.YtidikopjfpioaaaRing5
set_option linter.unusedVariables false
set_option linter.unusedSimpArgs false
namespace Go.Proofs.Ytidikopjfpioaaa
open Go.RowKit Go.Maps

set_option maxRecDepth 100000 in
set_option maxHeartbeats 4000000 in
theorem equalPl_yes (l : List Pl) (A1 A2 : Option Addr) (n c1 c2 : Nat) (W : World) (hn : n ≤ 9223372036854775807) (h1 : SlAt plCells 2 W W.heap.size A1 n l) (h2 : SlAt plCells 2 W W.heap.size A2 n l) :
    Calls Try.prog 23 #[.slice A1 n c1, .slice A2 n c2] W fun e W' => e = .returned (.bool true) ∧ RowKit.Below W.heap.size W W' := by
  have H1 := hide h1
  have H2 := hide h2
  clear h1 h2
  go_enter Try.func23, Try.ntmps23
  go_wp2
  go_loopw [13] (fun i wr => ∃ k : Nat, k ≤ n ∧ i = .int .i64 k ∧ Hid (RowKit.Below W.heap.size W wr)) (fun i _ => n - (intOf i).toNat)
  case atStart => exact ⟨0, Nat.zero_le _, rfl, hide (RowKit.Below.refl _ _)⟩
  case round =>
    obtain ⟨k, hk, rfl, HB⟩ := hrel
    by_cases hlt : k < n
    · obtain ⟨z, hz⟩ : ∃ r, l[k]? = some r := ⟨_, List.getElem?_eq_getElem (by have := H1.out.1; omega)⟩
      obtain ⟨b, o, rfl, _, _⟩ := H1.out.2 (by omega)
      obtain ⟨b', o', rfl, _, _⟩ := H2.out.2 (by omega)
      obtain ⟨_, hg⟩ := (H1.out.below HB.out HB.out.size).get hz
      obtain ⟨_, hg'⟩ := (H2.out.below HB.out HB.out.size).get hz
      have q0 := hg 0 _ rfl
      have q1 := hg 1 _ rfl
      have q2 := hg' 0 _ rfl
      have q3 := hg' 1 _ rfl
      clear hg hg' hz
      obtain ⟨z1, z2⟩ := z
      rw [Nat.add_zero] at q0 q2
      go_wp2
      go_quiet (fail)
      go_wp2
      go_roundw
      case rel => exact ⟨k + 1, by omega, by go_num, hide (HB.out.trans (below_drew _ _ _))⟩
      case measure => simp [intOf]; omega
    · go_wp2
      go_ret
      exact ⟨rfl, HB.out⟩

/-- What a way is: each place once, each leads to the next one; it stops where none is next, or where one was. -/
structure WayIs (nx : Pl → Option Pl) (l : List Pl) (b : Bool) : Prop where
  nd : l.Nodup
  next : ∀ (i : Nat) (x y : Pl), l[i]? = some x → l[i + 1]? = some y → nx x = some y
  last : ∀ (i : Nat) (x : Pl), l[i]? = some x → i + 1 = l.length → (b = false ∧ nx x = none) ∨ (b = true ∧ ∃ to_ ∈ l, nx x = some to_)
theorem walkTo_is {nx : Pl → Option Pl} : ∀ {out : List Pl} {at_ : Pl} {r : List Pl × Bool}, WalkTo nx out at_ r → out.Nodup → (∃ pre, out = pre ++ [at_]) → (∀ (i : Nat) (x y : Pl), out[i]? = some x → out[i + 1]? = some y → nx x = some y) →
    WayIs nx r.1 r.2 ∧ ∃ more, r.1 = out ++ more := by
  intro out at_ r h
  induction h with
  | stop h =>
    intro hnd ⟨pre, hp⟩ hc
    refine ⟨⟨hnd, hc, fun i x hx hi => Or.inl ⟨rfl, ?_⟩⟩, [], by simp⟩
    subst hp
    have : i = pre.length := by simp at hi; omega
    subst this
    simp at hx
    rw [← hx]; exact h
  | round h hm =>
    intro hnd ⟨pre, hp⟩ hc
    refine ⟨⟨hnd, hc, fun i x hx hi => Or.inr ⟨rfl, _, hm, ?_⟩⟩, [], by simp⟩
    subst hp
    have : i = pre.length := by simp at hi; omega
    subst this
    simp at hx
    rw [← hx]; exact h
  | step h hm k ih =>
    rename_i out at_ to_ r
    intro hnd ⟨pre, hp⟩ hc
    obtain ⟨h1, more, h2⟩ := ih (by
      rw [List.nodup_append]
      exact ⟨hnd, by simp, fun a ha b hb => by simp at hb; subst hb; exact fun e => hm (e ▸ ha)⟩) ⟨out, rfl⟩ (fun i x y hx hy => by
        by_cases e : i + 1 < out.length
        · rw [List.getElem?_append_left (by omega)] at hx
          rw [List.getElem?_append_left e] at hy
          exact hc i x y hx hy
        · have hl := (List.getElem?_eq_some_iff.1 hy).1
          simp only [List.length_append, List.length_singleton] at hl
          have e2 : i + 1 = out.length := by omega
          rw [List.getElem?_append_left (by omega)] at hx
          rw [e2] at hy
          simp at hy
          subst hp
          have : i = pre.length := by simp at e2; omega
          subst this
          simp at hx
          rw [← hx, ← hy]
          exact h)
    exact ⟨h1, [to_] ++ more, by rw [h2]; simp⟩
theorem walkTo_way {nx : Pl → Option Pl} {x : Pl} {r : List Pl × Bool} (h : WalkTo nx [x] x r) : WayIs nx r.1 r.2 ∧ ∃ more, r.1 = x :: more := by
  obtain ⟨h1, more, h2⟩ := walkTo_is h (by simp) ⟨[], rfl⟩ (fun i x y hx hy => by simp at hy)
  exact ⟨h1, more, by simpa using h2⟩

/-! ### a memory on such a net -/
theorem plain_hand {ds : List Dev} {ls : List LinkV} (hE : plainE ds ls = 0) (M : MS) {x : Pl} {p : P4} (ch : Int) (hx : placeB ds x = true) (hp : rightB p = true) :
    handS ds ls M x.1 x.2 p ch = match nextAt ds ls p x with
      | some y => ⟨0, y, p, .nothing⟩
      | none => .bad 7 := by
  have hpl := (placeB_iff.1 hx)
  obtain ⟨i, y⟩ := x
  obtain ⟨d, hd⟩ : ∃ d, ds[i.toNat]? = some d := ⟨_, List.getElem?_eq_getElem (by simp only at hpl; omega)⟩
  have hk : d.kind = 1 ∨ d.kind = 2 := by
    have h2 := hE
    unfold plainE at h2
    split at h2
    · split at h2
      · cases h2
      · rename_i hany
        have : ds.any (fun d => oddKind d.kind) = false := by simpa using hany
        rw [List.any_eq_false] at this
        have := this d (List.mem_of_getElem? hd)
        simp only [oddKind, Bool.and_eq_true, not_and, bne_iff_ne, ne_eq] at this
        by_cases e : d.kind = 1
        · exact Or.inl e
        · have := this e
          right; omega
    · rename_i h3; exact absurd h2 h3
  rw [handS_go hx hp hd]
  simp only [nextAt, hd]
  rcases hk with hk | hk
  · have e1 : outS d M i y p ch = (.zero, false, 0) := by
      unfold outS
      rw [if_neg (by omega), if_neg (by omega), if_neg (by omega), if_neg (by omega)]
    have e2 : nextF ls d i p = none := by simp [nextF, hk]
    rw [e1, e2]
    simp only [goS, GoneS.zero]
    cases peerF ls (i, 0) <;> simp
  · have e1 : outS d M i y p ch = ((routF d p).1, (routF d p).2, 0) := by
      unfold outS
      rw [if_pos hk]
    rw [e1]
    simp only [goS, routF, nextF, hk]
    have e3 : ((2 : Int) == 2 && decide (0 ≤ (outF p.dst d.routes).2) && letsB d.rules p) = (decide (0 ≤ (outF p.dst d.routes).2) && letsB d.rules p) := by simp
    rw [e3]
    by_cases hb : (decide (0 ≤ (outF p.dst d.routes).2) && letsB d.rules p) = true
    · rw [if_pos hb]
      cases hpe : peerF ls (i, (outF p.dst d.routes).1) with
      | none => rfl
      | some to_ => simp [hb]
    · rw [if_neg hb]
      cases hpe : peerF ls (i, (outF p.dst d.routes).1) with
      | none => rfl
      | some to_ => simp [hb]
theorem way_valid {ds : List Dev} {ls : List LinkV} {p : P4} (hE : plainE ds ls = 0) {l : List Pl} {b : Bool} (h : WayIs (nextAt ds ls p) l b) {x0 : Pl} {more : List Pl} (hl : l = x0 :: more) (h0 : placeB ds x0 = true) : ∀ (i : Nat) (x : Pl), l[i]? = some x → placeB ds x = true
  | 0, x, hx => by
    rw [hl] at hx
    simp at hx
    rw [← hx]; exact h0
  | i + 1, x, hx => by
    obtain ⟨y, hy⟩ : ∃ y, l[i]? = some y := ⟨_, List.getElem?_eq_getElem (by have := (List.getElem?_eq_some_iff.1 hx).1; omega)⟩
    exact nextAt_valid (plainE_ok hE) (h.next i y x hy hx)
theorem plain_net {ds : List Dev} {ls : List LinkV} (h : plainE ds ls = 0) : netE ds ls = 0 := by
  unfold plainE at h
  split at h
  · assumption
  · rename_i h2; exact absurd h h2
theorem any_taken {l : List Pl} (hn : l.Nodup) {i : Nat} {x : Pl} (hx : l[i]? = some x) : ((l.take i).any fun z => eqP x z) = false := by
  rw [List.any_eq_false]
  intro z hz e
  have e2 := (eqP_iff _ _).1 e
  subst e2
  obtain ⟨j, hj⟩ := List.mem_iff_getElem?.1 hz
  have hjl := (List.getElem?_eq_some_iff.1 hj).1
  rw [List.length_take] at hjl
  rw [List.getElem?_take_of_lt (by omega)] at hj
  have := (List.getElem?_inj (by omega) hn).1 (hj.trans hx.symm)
  omega
theorem any_mem {l : List Pl} {x : Pl} (hx : x ∈ l) : (l.any fun z => eqP x z) = true := by
  rw [List.any_eq_true]
  exact ⟨x, hx, eqP_self x⟩
/-! ### the law's first net -/
def rDev : Dev := ⟨⟨#[114]⟩, 2, 0, 0, [], [allR true], [⟨0, 0, 1⟩]⟩
theorem r_plain : plainE [rDev] [⟨0, 0, 0, 1⟩] = 0 := by decide
theorem r_walk : walkE [rDev] [⟨0, 0, 0, 1⟩] (0, 2) ⟨0, 0, 0, 0⟩ = 0 := by decide
theorem r_next (y : Int) : nextAt [rDev] [⟨0, 0, 0, 1⟩] ⟨0, 0, 0, 0⟩ (0, y) = some (0, 0) := by
  show nextF _ rDev 0 _ = _
  decide
theorem r_way {r : List Pl × Bool} (h : WalkTo (nextAt [rDev] [⟨0, 0, 0, 1⟩] ⟨0, 0, 0, 0⟩) [(0, 2)] (0, 2) r) : r = ([(0, 2), (0, 0)], true) :=
  h.same (.step (r_next 2) (by decide) (.round (r_next 0) (by decide)))
end Go.Proofs.Ytidikopjfpioaaa
