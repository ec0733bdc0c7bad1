/- A part of the proof: G2, G4, G3, G5. -/
import Derived.Test.YtifkacnoiocebaaNw0
import Derived.Maps.OwnOps
import Derived.Maps.OwnSet
import Derived.Maps.Ext
import Derived.DeepKeys5
import Derived.Deep.RegionLaw
import Derived.StillTailTactics
import Derived.Deep.RegionWith
set_option linter.unusedVariables false
set_option linter.unusedSimpArgs false
set_option maxRecDepth 100000
set_option maxHeartbeats 4000000
namespace Go.Proofs.Ytifkacnoiocebaa.Bdd
abbrev Asg := Nat → Bool
abbrev Fn := Asg → Bool
structure Node where
  v : Nat
  lo : Nat
  hi : Nat
section
variable {vars : Nat} {ns : List Node}
end
end Go.Proofs.Ytifkacnoiocebaa.Bdd
namespace Go.Proofs.Ytifkacnoiocebaa.Bdd
def Below (K : Nat) (F : Fn) : Prop := ∀ x y : Asg, (∀ u, u < K → x u = y u) → F x = F y
section
variable {vars : Nat} {ns : List Node}
end
structure St where
  vars : Nat
  most : Nat
  ns : List Node
  full : Bool
end Go.Proofs.Ytifkacnoiocebaa.Bdd
namespace Go.Proofs.Ytifkacnoiocebaa
open Go.Maps Go.RowKit Go.WideElems
theorem length_le_of_subset' {α : Type} : ∀ (l L : List α), l.Nodup → (∀ a ∈ l, a ∈ L) → l.length ≤ L.length := by
  intro l
  induction l with
  | nil => intro L _ _; simp
  | cons a l ih =>
    intro L hn hs
    have ha : a ∈ L := hs a (by simp)
    obtain ⟨s, t, rfl⟩ := List.append_of_mem ha
    have hn' := List.nodup_cons.1 hn
    have := ih (s ++ t) hn'.2 (fun b hb => by
      have hb' := hs b (by simp [hb])
      have hne : b ≠ a := fun e => hn'.1 (e ▸ hb)
      simp only [List.mem_append, List.mem_cons] at hb' ⊢
      rcases hb' with h | h | h
      · exact .inl h
      · exact absurd h hne
      · exact .inr h)
    simp only [List.length_append, List.length_cons] at this ⊢
    omega
def heldR (v : Value) : Option (DataW Value × List MemPlace) := some (.held v, [])
def MapIs {α : Type} (P : Program) (kt : TypeId) (key : α → Value) (dom : α → Prop) (w : World) (b : Nat) (M : α → Option Value) : Prop :=
  ∃ D, w.ownsMap P kt heldR b (Maps.size D) D ∧
    (∀ a, dom a → ∀ kl, keyOf P kt (key a) = some kl → Maps.has D kl = (M a).isSome ∧ ∀ z, D.atKey kl (.held z) = .held ((M a).getD z)) ∧
    (∀ kl, Maps.has D kl = true → ∃ a, dom a ∧ keyOf P kt (key a) = some kl)
section
variable {α : Type} {P : Program} {kt : TypeId} {key : α → Value} {dom : α → Prop} {w w' : World} {b : Nat} {M : α → Option Value}
theorem ownsMap_tight {n : Nat} {D : DataW Value} (h : w.ownsMap P kt heldR b n D) : w.ownsMap P kt heldR b (Maps.size D) D := by
  obtain ⟨es, clock, hb, F, hs, hD⟩ := h
  refine ⟨es, clock, hb, F, ?_, hD⟩
  rw [hD]
  simp [Maps.size, length_sorted]
theorem MapIs.made (w : World) : MapIs P kt key dom (w.alloc (.map #[] 0)) w.heap.size (fun _ => none) :=
  ⟨.map [], World.ownsMap_made w P kt heldR, fun a _ kl _ => ⟨rfl, fun z => rfl⟩, fun kl h => by simp [Maps.has] at h⟩
theorem MapIs.lt (h : MapIs P kt key dom w b M) : b < w.heap.size := by
  obtain ⟨D, h1, _⟩ := h
  exact h1.lt
theorem MapIs.kept {row : Option Nat} (h : MapIs P kt key dom w b M) (hg : w.grownBy w' row) (hne : some b ≠ row) : MapIs P kt key dom w' b M := by
  obtain ⟨D, h1, h2, h3⟩ := h
  exact ⟨D, h1.kept hg hne, h2, h3⟩
theorem MapIs.same (h : MapIs P kt key dom w b M) (hb : w'.heap[b]? = w.heap[b]?) : MapIs P kt key dom w' b M := by
  obtain ⟨D, ⟨es, clock, hh, F, hs, hD⟩, h2, h3⟩ := h
  exact ⟨D, ⟨es, clock, hb.trans hh, F, hs, hD⟩, h2, h3⟩
def putM [DecidableEq α] (M : α → Option Value) (a : α) (v : Value) : α → Option Value := fun x => if x = a then some v else M x
theorem putM_same [DecidableEq α] (M : α → Option Value) (a : α) (v : Value) : putM M a v a = some v := by simp [putM]
theorem putM_other [DecidableEq α] (M : α → Option Value) {a x : α} (v : Value) (h : x ≠ a) : putM M a v x = M x := by simp [putM, h]
end
section
variable {α : Type} {P : Program} {kt : TypeId} {key : α → Value} {dom : α → Prop} {b : Nat} {M : α → Option Value} (w : World)
end
end Go.Proofs.Ytifkacnoiocebaa
namespace Go.Proofs.Ytifkacnoiocebaa
open Bdd Go.Maps Go.RowKit
abbrev Tri := Nat × Nat × Nat
theorem cellsI : Try.prog.cellsOf 3 = 1 := by kernel_rfl
section
variable {w w' : World} {B g nb kb ib cap : Nat} {A : St} {K T : Tri → Option Value}
theorem MapIs.block {α : Type} {P : Program} {kt : TypeId} {key : α → Value} {dom : α → Prop} {w : World} {b : Nat} {M : α → Option Value} (h : MapIs P kt key dom w b M) : ∃ es c, w.heap[b]? = some (.map es c) := by
  obtain ⟨D, ⟨es, clock, hh, _⟩, _⟩ := h
  exact ⟨es, clock, hh⟩
end
theorem own_setCell {w : World} {base e s n : Nat} {v : Value} {xs : List Value} (h : w.ownsRow base e s v n xs) {p : Addr} (hp : ∀ k, v.ownBlock = some k → k ≠ p.block) (u : Value) : (w.setCell p u).ownsRow base e s v n xs := by
  obtain ⟨h1, h2⟩ := h
  refine ⟨h1, ?_⟩
  rcases h2 with h2 | ⟨g', cap', cur, hv, hb, hh, r⟩
  · exact .inl h2
  · subst hv
    exact .inr ⟨_, _, cur, rfl, hb, (RowKit.Below.heap_setCell _ _ _ _ (hp g' rfl)).trans hh, r⟩
def IntsAt (w : World) (B : Nat) (A : Option Addr) (n : Nat) (l : List Int) : Prop :=
  l.length = n ∧ (∀ x ∈ l, -9223372036854775808 ≤ x ∧ x ≤ 9223372036854775807) ∧ (0 < n → ∃ b o, A = some ⟨b, o, none⟩ ∧ b < B ∧ ∀ (k : Nat) (x : Int), l[k]? = some x → w.cell? ⟨b, o + k, none⟩ = some (.int .i64 x))
theorem IntsAt.nil (w : World) (B : Nat) (A : Option Addr) : IntsAt w B A 0 [] := ⟨rfl, fun x hx => (by cases hx), fun h => by omega⟩
theorem IntsAt.below {w w' : World} {B B' n : Nat} {A : Option Addr} {l : List Int} (h : IntsAt w B A n l) (hB : RowKit.Below B w w') (hB' : B ≤ B') : IntsAt w' B' A n l :=
  ⟨h.1, h.2.1, fun h0 => by
    obtain ⟨b, o, e, hb, hg⟩ := h.2.2 h0
    exact ⟨b, o, e, by omega, fun k x hx => (hB.cell (p := ⟨b, o + k, none⟩) hb).trans (hg k x hx)⟩⟩
end Go.Proofs.Ytifkacnoiocebaa
namespace Go.Proofs.Ytifkacnoiocebaa
open Go.ChangeAt Go.ChangeShapes Go.RowKit Go.WideShapes
structure RouteV where
  v : Int
  b : Int
  p : Int
def RouteV.ok (r : RouteV) : Prop := i64ok r.v ∧ i64ok r.b ∧ i64ok r.p
def RouteV.cells (r : RouteV) : List Value := [.int .i64 r.v, .int .i64 r.b, .int .i64 r.p]
theorem RouteV.len (r : RouteV) : r.cells.length = 3 := rfl
theorem RouteV.one (r : RouteV) : ∀ u ∈ r.cells, u.oneCell' = true := by
  intro u hu
  simp only [RouteV.cells, List.mem_cons, List.not_mem_nil, or_false] at hu
  rcases hu with rfl | rfl | rfl <;> rfl
def maskB (v b : Int) : Bool := bits .and .i64 v (15 / 2 ^ b.toNat) == 0
def takesB (d v b : Int) : Bool := bits .andNot .i64 d (15 / 2 ^ b.toNat) == v
def routeB (v b p : Int) : Bool := decide (0 ≤ b) && decide (b ≤ 4) && decide (0 ≤ v) && decide (v < 16) && maskB v b && decide (0 ≤ p) && decide (p ≤ 3)
theorem right75_walk (v b p : Int) (W : World) (hv : i64ok v) (hb : i64ok b) (hp : i64ok p) : Calls Try.prog 66 #[.agg #[.int .i64 v, .int .i64 b, .int .i64 p]] W fun e W' => e = .returned (.bool (routeB v b p)) ∧ Below W.heap.size W W' := by
  obtain ⟨hv1, hv2⟩ := hv
  obtain ⟨hb1, hb2⟩ := hb
  obtain ⟨hp1, hp2⟩ := hp
  by_cases h1 : 0 ≤ b
  case neg =>
    have h1' : decide (0 ≤ b) = false := by simpa using h1
    go_enter Try.func66, Try.ntmps66
    go_wp2
    go_quiet (fail)
    go_wp2
    go_ret
    exact ⟨by simp [routeB, h1'], ((Below.refl _ _).alloc (Nat.le_refl _) _).trans ⟨rfl, rfl, rfl, Nat.le_refl _, fun _ _ => rfl⟩⟩
  by_cases h2 : b ≤ 4
  case neg =>
    have h2' : decide (b ≤ 4) = false := by simpa using h2
    go_enter Try.func66, Try.ntmps66
    go_wp2
    go_quiet (fail)
    go_wp2
    go_ret
    exact ⟨by simp [routeB, h2'], ((Below.refl _ _).alloc (Nat.le_refl _) _).trans ⟨rfl, rfl, rfl, Nat.le_refl _, fun _ _ => rfl⟩⟩
  by_cases h3 : 0 ≤ v
  case neg =>
    have h3' : decide (0 ≤ v) = false := by simpa using h3
    go_enter Try.func66, Try.ntmps66
    go_wp2
    go_quiet (fail)
    go_wp2
    go_ret
    exact ⟨by simp [routeB, h3'], ((Below.refl _ _).alloc (Nat.le_refl _) _).trans ⟨rfl, rfl, rfl, Nat.le_refl _, fun _ _ => rfl⟩⟩
  by_cases h4 : v < 16
  case neg =>
    have h4' : decide (v < 16) = false := by simpa using h4
    go_enter Try.func66, Try.ntmps66
    go_wp2
    go_quiet (fail)
    go_wp2
    go_ret
    exact ⟨by simp [routeB, h4'], ((Below.refl _ _).alloc (Nat.le_refl _) _).trans ⟨rfl, rfl, rfl, Nat.le_refl _, fun _ _ => rfl⟩⟩
  cases h5 : (bits .and .i64 v (15 / 2 ^ b.toNat) == 0)
  · go_enter Try.func66, Try.ntmps66
    go_wp2
    go_quiet (fail)
    go_wp2
    go_ret
    exact ⟨by simp [routeB, maskB, h5], ((Below.refl _ _).alloc (Nat.le_refl _) _).trans ⟨rfl, rfl, rfl, Nat.le_refl _, fun _ _ => rfl⟩⟩
  by_cases h6 : 0 ≤ p
  case neg =>
    have h6' : decide (0 ≤ p) = false := by simpa using h6
    go_enter Try.func66, Try.ntmps66
    go_wp2
    go_quiet (fail)
    go_wp2
    go_ret
    exact ⟨by simp [routeB, h6'], ((Below.refl _ _).alloc (Nat.le_refl _) _).trans ⟨rfl, rfl, rfl, Nat.le_refl _, fun _ _ => rfl⟩⟩
  cases h7 : decide (p ≤ 3)
  · go_enter Try.func66, Try.ntmps66
    go_wp2
    go_quiet (fail)
    go_wp2
    go_ret
    exact ⟨by simp [routeB, h7], ((Below.refl _ _).alloc (Nat.le_refl _) _).trans ⟨rfl, rfl, rfl, Nat.le_refl _, fun _ _ => rfl⟩⟩
  · have h8 : p ≤ 3 := by simpa using h7
    go_enter Try.func66, Try.ntmps66
    go_wp2
    go_quiet (fail)
    go_wp2
    go_ret
    exact ⟨by simp [routeB, maskB, h1, h2, h3, h4, h5, h6, h8], ((Below.refl _ _).alloc (Nat.le_refl _) _).trans ⟨rfl, rfl, rfl, Nat.le_refl _, fun _ _ => rfl⟩⟩
def RouteAt (w : World) (b o : Nat) (r : RouteV) : Prop :=
  w.cell? ⟨b, o, none⟩ = some (.int .i64 r.v) ∧ w.cell? ⟨b, o + 1, none⟩ = some (.int .i64 r.b) ∧ w.cell? ⟨b, o + 2, none⟩ = some (.int .i64 r.p)
theorem RouteAt.below {w w' : World} {B b o : Nat} {r : RouteV} (h : RouteAt w b o r) (hB : Below B w w') (hb : b < B) : RouteAt w' b o r := by
  unfold RouteAt at *
  have e : ∀ o, w'.cell? ⟨b, o, none⟩ = w.cell? ⟨b, o, none⟩ := fun o => hB.cell (p := ⟨b, o, none⟩) hb
  rw [e, e, e]
  exact h
theorem route_get {w : World} {B b o n k : Nat} {l : List RouteV} {r : RouteV} (h : SlAt RouteV.cells 3 w B (some ⟨b, o, none⟩) n l) (hr : l[k]? = some r) : b < B ∧ RouteAt w b (o + k * 3) r :=
  ⟨(h.get hr).1, (h.get hr).2 0 _ rfl, (h.get hr).2 1 _ rfl, (h.get hr).2 2 _ rfl⟩
def outHit (d : Int) (r : RouteV) (bits : Int) : Bool := routeB r.v r.b r.p && decide (0 ≤ d) && decide (d < 16) && takesB d r.v r.b && decide (bits < r.b)
def outStep (d : Int) (s : Int × Int) (r : RouteV) : Int × Int := if outHit d r s.2 then (r.p, r.b) else s
def outF (d : Int) (l : List RouteV) : Int × Int := l.foldl (outStep d) (0, -1)
theorem right75_is (v b p : Int) (W : World) (B : Bool) (hv : i64ok v) (hb : i64ok b) (hp : i64ok p) (h : routeB v b p = B) : Calls Try.prog 66 #[.agg #[.int .i64 v, .int .i64 b, .int .i64 p]] W fun e W' => e = .returned (.bool B) ∧ Below W.heap.size W W' :=
  h ▸ right75_walk v b p W hv hb hp
theorem outF_snoc (d : Int) (l : List RouteV) {k : Nat} {r : RouteV} (hr : l[k]? = some r) : outF d (l.take (k + 1)) = outStep d (outF d (l.take k)) r := by
  have hk := List.getElem?_eq_some_iff.1 hr
  obtain ⟨hk1, hk2⟩ := hk
  rw [outF, List.take_succ_eq_append_getElem hk1, List.foldl_append, hk2]
  rfl
theorem outF_bits (d : Int) (l : List RouteV) : -1 ≤ (outF d l).2 ∧ (outF d l).2 ≤ 4 := by
  have h : ∀ (l : List RouteV) (s : Int × Int), -1 ≤ s.2 ∧ s.2 ≤ 4 → -1 ≤ (l.foldl (outStep d) s).2 ∧ (l.foldl (outStep d) s).2 ≤ 4 := by
    intro l
    induction l with
    | nil => intro s h; exact h
    | cons r l ih =>
      intro s h
      refine ih _ ?_
      unfold outStep
      split
      · rename_i hh
        simp only [outHit, routeB, Bool.and_eq_true, decide_eq_true_eq] at hh
        show -1 ≤ r.b ∧ r.b ≤ 4
        omega
      · exact h
  exact h l _ (by decide)
theorem out_walk (l : List RouteV) (b o n c : Nat) (d : Int) (W : World) (hn : n ≤ 9223372036854775807) (hd : i64ok d) (hl : SlAt RouteV.cells 3 W W.heap.size (some ⟨b, o, none⟩) n l) (hok : ∀ r ∈ l, r.ok) (h0 : 0 < n) :
    Calls Try.prog 57 #[.slice (some ⟨b, o, none⟩) n c, .int .i64 d] W fun e W' =>
      e = .returned (.tuple #[.int .i64 (outF d l).1, .bool (decide (0 ≤ (outF d l).2))]) ∧ Below W.heap.size W W' := by
  obtain ⟨hd1, hd2⟩ := hd
  have HL := hide hl
  have HK := hide hok
  clear hl hok
  go_enter Try.func57, Try.ntmps57
  go_wp2
  go_loopw [6, 7, 12] (fun u v i wr => ∃ (k : Nat) (x y : Int), k ≤ n ∧ i = .int .i64 k ∧ u = .int .i64 x ∧ v = .int .i64 y ∧ (x, y) = outF d (l.take k) ∧ Below W.heap.size W wr) (fun _ _ i _ => n - (intOf i).toNat)
  case atStart => exact ⟨0, 0, -1, Nat.zero_le _, rfl, rfl, rfl, rfl, Below.refl _ _⟩
  case round =>
    obtain ⟨k, x, y, hk, rfl, rfl, rfl, hxy, hb⟩ := hrel
    have hbits := outF_bits d (l.take k)
    rw [← hxy] at hbits
    obtain ⟨hy1, hy2⟩ : -1 ≤ y ∧ y ≤ 4 := hbits
    have HXY := hide hxy
    have HB := hide hb
    clear hxy hb
    by_cases hlt : k < n
    · obtain ⟨r, hr⟩ : ∃ r, l[k]? = some r := ⟨_, List.getElem?_eq_getElem (by have := HL.out.1; omega)⟩
      obtain ⟨hbB, hra⟩ := route_get HL.out hr
      obtain ⟨q0, q1, q2⟩ := hra.below HB.out hbB
      have HS := hide (outF_snoc d l hr)
      have hrok := HK.out r (List.mem_of_getElem? hr)
      obtain ⟨⟨hv1, hv2⟩, ⟨hbb1, hbb2⟩, ⟨hp1, hp2⟩⟩ := hrok
      clear hr hra
      obtain ⟨rv, rb, rp⟩ := r
      go_wp2_with fail
      refine wp_region_abs (by kernel_rfl) (by kernel_rfl) ?_
      intro T hT g hg hgi
      have HG := hide hg
      have HI := hide hgi
      have k0 : ∀ t, (g t).cell? ⟨wr.heap.size, 0, none⟩ = some (.int .i64 rv) := fun t => ((HG.out t).cell (p := ⟨wr.heap.size, 0, none⟩) (by simp)).trans (by simp)
      have k1 : ∀ t, (g t).cell? ⟨wr.heap.size, 1, none⟩ = some (.int .i64 rb) := fun t => ((HG.out t).cell (p := ⟨wr.heap.size, 1, none⟩) (by simp)).trans (by simp)
      have k2 : ∀ t, (g t).cell? ⟨wr.heap.size, 2, none⟩ = some (.int .i64 rp) := fun t => ((HG.out t).cell (p := ⟨wr.heap.size, 2, none⟩) (by simp)).trans (by simp)
      have HBx := hide (fun t => HB.out.trans (((Below.refl _ wr).alloc HB.out.size _).trans ((HG.out t).mono (by have := HB.out.size; simp; omega))))
      clear hg hgi q0 q1 q2
      cases h1 : routeB rv rb rp
      · repeat (go_big_quiet_step ((go_at_call 66; exact inAbs HG.out HI.out (right75_is _ _ _ _ _ ⟨hv1, hv2⟩ ⟨hbb1, hbb2⟩ ⟨hp1, hp2⟩ h1))))
        refine wpQuiet_nil ?_
        intro _ hw'
        obtain ⟨t, rfl⟩ := hw'
        go_wp2
        go_roundw
        case rel => exact ⟨k + 1, x, y, by omega, by go_num, rfl, rfl, by rw [HS.out, ← HXY.out]; simp [outStep, outHit, takesB, h1], HBx.out t⟩
        case measure => simp [intOf]; omega
      have h1' := h1
      simp only [routeB, Bool.and_eq_true, decide_eq_true_eq] at h1'
      obtain ⟨⟨⟨⟨⟨⟨r1, r2⟩, r3⟩, r4⟩, r5⟩, r6⟩, r7⟩ := h1'
      clear r5
      by_cases h2 : 0 ≤ d
      case neg =>
        have h2' : decide (0 ≤ d) = false := by simpa using h2
        repeat (go_big_quiet_step ((go_at_call 66; exact inAbs HG.out HI.out (right75_is _ _ _ _ _ ⟨hv1, hv2⟩ ⟨hbb1, hbb2⟩ ⟨hp1, hp2⟩ h1))))
        refine wpQuiet_nil ?_
        intro _ hw'
        obtain ⟨t, rfl⟩ := hw'
        go_wp2
        go_roundw
        case rel => exact ⟨k + 1, x, y, by omega, by go_num, rfl, rfl, by rw [HS.out, ← HXY.out]; simp [outStep, outHit, takesB, h2'], HBx.out t⟩
        case measure => simp [intOf]; omega
      by_cases h3 : d < 16
      case neg =>
        have h3' : decide (d < 16) = false := by simpa using h3
        repeat (go_big_quiet_step ((go_at_call 66; exact inAbs HG.out HI.out (right75_is _ _ _ _ _ ⟨hv1, hv2⟩ ⟨hbb1, hbb2⟩ ⟨hp1, hp2⟩ h1))))
        refine wpQuiet_nil ?_
        intro _ hw'
        obtain ⟨t, rfl⟩ := hw'
        go_wp2
        go_roundw
        case rel => exact ⟨k + 1, x, y, by omega, by go_num, rfl, rfl, by rw [HS.out, ← HXY.out]; simp [outStep, outHit, takesB, h3'], HBx.out t⟩
        case measure => simp [intOf]; omega
      cases h4 : (bits .andNot .i64 d (15 / 2 ^ rb.toNat) == rv)
      · repeat (go_big_quiet_step ((go_at_call 66; exact inAbs HG.out HI.out (right75_is _ _ _ _ _ ⟨hv1, hv2⟩ ⟨hbb1, hbb2⟩ ⟨hp1, hp2⟩ h1))))
        refine wpQuiet_nil ?_
        intro _ hw'
        obtain ⟨t, rfl⟩ := hw'
        go_wp2
        go_roundw
        case rel => exact ⟨k + 1, x, y, by omega, by go_num, rfl, rfl, by rw [HS.out, ← HXY.out]; simp [outStep, outHit, takesB, h4], HBx.out t⟩
        case measure => simp [intOf]; omega
      cases h5 : decide (y < rb)
      · repeat (go_big_quiet_step ((go_at_call 66; exact inAbs HG.out HI.out (right75_is _ _ _ _ _ ⟨hv1, hv2⟩ ⟨hbb1, hbb2⟩ ⟨hp1, hp2⟩ h1))))
        refine wpQuiet_nil ?_
        intro _ hw'
        obtain ⟨t, rfl⟩ := hw'
        go_wp2
        go_roundw
        case rel => exact ⟨k + 1, x, y, by omega, by go_num, rfl, rfl, by rw [HS.out, ← HXY.out]; simp [outStep, outHit, takesB, h5], HBx.out t⟩
        case measure => simp [intOf]; omega
      have h6 : y < rb := by simpa using h5
      repeat (go_big_quiet_step ((go_at_call 66; exact inAbs HG.out HI.out (right75_is _ _ _ _ _ ⟨hv1, hv2⟩ ⟨hbb1, hbb2⟩ ⟨hp1, hp2⟩ h1))))
      refine wpQuiet_nil ?_
      intro _ hw'
      obtain ⟨t, rfl⟩ := hw'
      go_wp2
      go_quiet (fail)
      go_wp2
      go_roundw
      case rel => exact ⟨k + 1, rp, rb, by omega, by go_num, rfl, rfl, by rw [HS.out, ← HXY.out]; simp [outStep, outHit, takesB, h1, h2, h3, h4, h6], (HBx.out t).trans ⟨rfl, rfl, rfl, Nat.le_refl _, fun _ _ => rfl⟩⟩
      case measure => simp [intOf]; omega
    · have hkn : k = n := by omega
      subst hkn
      have htake : l.take k = l := List.take_of_length_le (by have := HL.out.1; omega)
      have HT := hide htake
      clear htake
      go_wp2
      go_ret2
      have e := HXY.out
      rw [HT.out] at e
      exact ⟨by rw [← e]; rfl, HB.out⟩
theorem out_nil (A : Option Addr) (c : Nat) (d : Int) (W : World) (hd : i64ok d) : Calls Try.prog 57 #[.slice A 0 c, .int .i64 d] W fun e W' => e = .returned (.tuple #[.int .i64 0, .bool false]) ∧ W = W' := by
  go_enter Try.func57, Try.ntmps57
  go_wp2
  refine wp_loop_rounds 1 ?_
  rw [rounds_succ]
  go_wp2
  go_ret2
  exact ⟨rfl, rfl⟩
theorem out_any (l : List RouteV) (A : Option Addr) (n c : Nat) (d : Int) (W : World) (hn : n ≤ 9223372036854775807) (hd : i64ok d) (hl : SlAt RouteV.cells 3 W W.heap.size A n l) (hok : ∀ r ∈ l, r.ok) :
    Calls Try.prog 57 #[.slice A n c, .int .i64 d] W fun e W' =>
      e = .returned (.tuple #[.int .i64 (outF d l).1, .bool (decide (0 ≤ (outF d l).2))]) ∧ Below W.heap.size W W' := by
  rcases Nat.eq_zero_or_pos n with rfl | h0
  · have : l = [] := List.eq_nil_of_length_eq_zero hl.1
    subst this
    exact (out_nil A c d W hd).mono fun e w' ⟨he, hw⟩ => ⟨he, hw ▸ Below.refl _ _⟩
  · obtain ⟨b, o, rfl, hb, _⟩ := hl.2 h0
    exact out_walk l b o n c d W hn hd hl hok h0
def sameR (r x : RouteV) : Bool := (x.v == r.v) && (x.b == r.b)
def chkF : List RouteV → List RouteV → Int
  | _, [] => 0
  | pre, r :: t => if routeB r.v r.b r.p = false then 1 else if pre.any (sameR r) then 5 else chkF (pre ++ [r]) t
def checkF (l : List RouteV) : Int := if 8 < l.length then 2 else chkF [] l
theorem chkF_step {l : List RouteV} {k : Nat} {r : RouteV} (hr : l[k]? = some r) : chkF (l.take k) (l.drop k) = if routeB r.v r.b r.p = false then 1 else if (l.take k).any (sameR r) then 5 else chkF (l.take (k + 1)) (l.drop (k + 1)) := by
  obtain ⟨hk1, hk2⟩ := List.getElem?_eq_some_iff.1 hr
  rw [List.drop_eq_getElem_cons hk1, hk2, List.take_succ_eq_append_getElem hk1, hk2]
  rfl
theorem any_take {l : List RouteV} {k j : Nat} {r x : RouteV} (hj : j < k) (hx : l[j]? = some x) (h : sameR r x = true) : (l.take k).any (sameR r) = true := by
  rw [List.any_eq_true]
  exact ⟨x, List.mem_of_getElem? (i := j) (by rw [List.getElem?_take_of_lt hj]; exact hx), h⟩
theorem any_take_none {l : List RouteV} {k : Nat} {r : RouteV} (h : ∀ j x, j < k → l[j]? = some x → sameR r x = false) : (l.take k).any (sameR r) = false := by
  rw [List.any_eq_false]
  intro x hx
  obtain ⟨j, hj⟩ := List.getElem?_of_mem hx
  have hjk : j < k := by
    have := (List.getElem?_eq_some_iff.1 hj).1
    simp at this
    omega
  rw [List.getElem?_take_of_lt hjk] at hj
  simp [h j x hjk hj]
def RouteBox (w : World) (b : Nat) (r : RouteV) : Prop := w.cell? ⟨b, 0, none⟩ = some (.int .i64 r.v) ∧ w.cell? ⟨b, 1, none⟩ = some (.int .i64 r.b) ∧ w.cell? ⟨b, 2, none⟩ = some (.int .i64 r.p)
theorem RouteBox.below {w w' : World} {B b : Nat} {r : RouteV} (h : RouteBox w b r) (hB : Below B w w') (hb : b < B) : RouteBox w' b r := by
  unfold RouteBox at *
  have e : ∀ o, w'.cell? ⟨b, o, none⟩ = w.cell? ⟨b, o, none⟩ := fun o => hB.cell (p := ⟨b, o, none⟩) hb
  rw [e, e, e]
  exact h
theorem ret_i64' {a b : Int} (h : a = b) : Ending.returned (.int .i64 a) = .returned (.int .i64 b) := by rw [h]
theorem check22_walk (l : List RouteV) (b o n c : Nat) (W : World) (hn : n ≤ 8) (hnc : n ≤ c) (hl : SlAt RouteV.cells 3 W W.heap.size (some ⟨b, o, none⟩) n l) (hok : ∀ r ∈ l, r.ok) (h0 : 0 < n) :
    Calls Try.prog 64 #[.slice (some ⟨b, o, none⟩) n c] W fun e W' => e = .returned (.int .i64 (chkF [] l)) ∧ Below W.heap.size W W' := by
  have HL := hide hl
  have HK := hide hok
  clear hl hok
  have h8 : decide ((8 : Int) < (n : Int)) = false := by simp; omega
  go_enter Try.func64, Try.ntmps64
  go_wp2
  go_loopw [3, 4, 12] (fun _ _ i wr => ∃ k : Nat, k ≤ n ∧ i = .int .i64 k ∧ Hid (chkF [] l = chkF (l.take k) (l.drop k)) ∧ Below W.heap.size W wr) (fun _ _ i _ => n - (intOf i).toNat)
  case atStart => exact ⟨0, Nat.zero_le _, rfl, rfl, Below.refl _ _⟩
  case round =>
    obtain ⟨k, hk, rfl, HC, hb⟩ := hrel
    have HB := hide hb
    clear hb
    by_cases hlt : k < n
    · obtain ⟨r, hr⟩ : ∃ r, l[k]? = some r := ⟨_, List.getElem?_eq_getElem (by have := HL.out.1; omega)⟩
      obtain ⟨hbB, hra⟩ := route_get HL.out hr
      obtain ⟨q0, q1, q2⟩ := hra.below HB.out hbB
      have HS := hide (chkF_step hr)
      obtain ⟨⟨hv1, hv2⟩, ⟨hbb1, hbb2⟩, ⟨hp1, hp2⟩⟩ := HK.out r (List.mem_of_getElem? hr)
      clear hr hra
      obtain ⟨rv, rb, rp⟩ := r
      cases h1 : routeB rv rb rp
      · go_wp2_with fail
        refine (right75_is _ _ _ _ _ ⟨hv1, hv2⟩ ⟨hbb1, hbb2⟩ ⟨hp1, hp2⟩ h1).mono ?_
        rintro e w1 ⟨rfl, hb1⟩
        have HB1 := hide (HB.out.trans (((Below.refl _ wr).alloc HB.out.size _).trans (hb1.mono (by have := HB.out.size; simp; omega))))
        clear hb1
        go_wp2
        go_ret
        exact ⟨ret_i64' (by rw [HC.out, HS.out]; simp [h1]), HB1.out⟩
      · go_wp2_with fail
        refine (right75_is _ _ _ _ _ ⟨hv1, hv2⟩ ⟨hbb1, hbb2⟩ ⟨hp1, hp2⟩ h1).mono ?_
        rintro e w1 ⟨rfl, hb1⟩
        have HB1 := hide (HB.out.trans (((Below.refl _ wr).alloc HB.out.size _).trans (hb1.mono (by have := HB.out.size; simp; omega))))
        have HX := hide ((show RouteBox (wr.alloc (.cells #[.int .i64 rv, .int .i64 rb, .int .i64 rp] 71)) wr.heap.size ⟨rv, rb, rp⟩ from by simp [RouteBox]).below hb1 (by simp))
        have hs1 : wr.heap.size + 1 ≤ w1.heap.size := by have := hb1.size; simpa using this
        have hsW : W.heap.size ≤ wr.heap.size := HB.out.size
        clear hb1 q0 q1 q2
        go_wp2
        generalize hB0 : wr.heap.size = B0 at *
        clear hB0 HB
        go_loopw [6, 24] (fun _ i wi => ∃ j : Nat, j ≤ k ∧ i = .int .i64 j ∧ Hid (∀ i x, i < j → l[i]? = some x → sameR ⟨rv, rb, rp⟩ x = false) ∧ Below W.heap.size W wi ∧ B0 + 1 ≤ wi.heap.size ∧ RouteBox wi B0 ⟨rv, rb, rp⟩) (fun _ i _ => k - (intOf i).toNat)
        case atStart => exact ⟨0, Nat.zero_le _, rfl, fun i x h => absurd h (by omega), HB1.out, hs1, HX.out⟩
        case round =>
          obtain ⟨j, hj, rfl, HN, hbi, hsi, hxi⟩ := hrel
          have HBI := hide hbi
          have HXI := hide hxi
          clear hbi hxi HB1 HX hs1
          obtain ⟨x0, x1, _⟩ := HXI.out
          by_cases hjk : j < k
          · obtain ⟨x, hx⟩ : ∃ x, l[j]? = some x := ⟨_, List.getElem?_eq_getElem (by have := HL.out.1; omega)⟩
            obtain ⟨hbB', hxa⟩ := route_get HL.out hx
            obtain ⟨y0, y1, y2⟩ := hxa.below HBI.out hbB'
            have HXJ := hide hx
            clear hx hxa
            obtain ⟨xv, xb, xp⟩ := x
            have z0 : ∀ ob, (wr.alloc ob).cell? ⟨B0, 0, none⟩ = some (.int .i64 rv) := fun ob => (World.cell?_alloc_lt _ _ _ (by show B0 < _; omega)).trans x0
            have z1 : ∀ ob, (wr.alloc ob).cell? ⟨B0, 1, none⟩ = some (.int .i64 rb) := fun ob => (World.cell?_alloc_lt _ _ _ (by show B0 < _; omega)).trans x1
            clear x0 x1
            have hsi' := HBI.out.size
            cases e1 : (xv == rv)
            · go_wp2
              go_roundw
              case rel => exact ⟨j + 1, by omega, by go_num, hide (fun i x hi hx => by
                rcases (by omega : i < j ∨ i = j) with h | rfl
                · exact HN.out i x h hx
                · have e := HXJ.out; rw [e] at hx; cases hx; simp [sameR, e1]), HBI.out.alloc hsi' _, by simp; omega, HXI.out.below ((Below.refl _ _).alloc (Nat.le_refl _) _) (by omega)⟩
              case measure => simp [intOf]; omega
            cases e2 : (xb == rb)
            · go_wp2
              go_roundw
              case rel => exact ⟨j + 1, by omega, by go_num, hide (fun i x hi hx => by
                rcases (by omega : i < j ∨ i = j) with h | rfl
                · exact HN.out i x h hx
                · have e := HXJ.out; rw [e] at hx; cases hx; simp [sameR, e2]), HBI.out.alloc hsi' _, by simp; omega, HXI.out.below ((Below.refl _ _).alloc (Nat.le_refl _) _) (by omega)⟩
              case measure => simp [intOf]; omega
            have HA := hide (any_take (r := ⟨rv, rb, rp⟩) hjk HXJ.out (by simp [sameR, e1, e2]))
            go_wp2
            go_ret
            exact ⟨ret_i64' (by rw [HC.out, HS.out, HA.out]; simp [h1]), HBI.out.alloc hsi' _⟩
          · have hjk' : j = k := by omega
            subst hjk'
            have HA := hide (any_take_none (r := ⟨rv, rb, rp⟩) HN.out)
            go_wp2
            go_roundw
            case rel => exact ⟨j + 1, by omega, by go_num, hide (by rw [HC.out, HS.out, HA.out]; simp [h1]), HBI.out⟩
            case measure => simp [intOf]; omega
    · have hkn : k = n := by omega
      subst hkn
      have HT := hide (show chkF (l.take k) (l.drop k) = 0 from by rw [List.drop_of_length_le (by have := HL.out.1; omega)]; rfl)
      go_wp2
      go_ret
      exact ⟨ret_i64' (by rw [HC.out, HT.out]), HB.out⟩
theorem check22_nil (A : Option Addr) (c : Nat) (W : World) : Calls Try.prog 64 #[.slice A 0 c] W fun e W' => e = .returned (.int .i64 0) ∧ W = W' := by
  go_enter Try.func64, Try.ntmps64
  go_wp2
  refine wp_loop_rounds 1 ?_
  rw [rounds_succ]
  go_wp2
  go_ret
  exact ⟨rfl, rfl⟩
theorem check22_large (A : Option Addr) (n c : Nat) (W : World) (h : 8 < n) : Calls Try.prog 64 #[.slice A n c] W fun e W' => e = .returned (.int .i64 2) ∧ W = W' := by
  have h8 : decide ((8 : Int) < (n : Int)) = true := by simp; omega
  go_enter Try.func64, Try.ntmps64
  go_wp2
  go_ret
  exact ⟨rfl, rfl⟩
theorem check22_any (l : List RouteV) (A : Option Addr) (n c : Nat) (W : World) (hnc : n ≤ c) (hl : SlAt RouteV.cells 3 W W.heap.size A n l) (hok : ∀ r ∈ l, r.ok) :
    Calls Try.prog 64 #[.slice A n c] W fun e W' => e = .returned (.int .i64 (checkF l)) ∧ Below W.heap.size W W' := by
  rcases Nat.eq_zero_or_pos n with rfl | h0
  · have : l = [] := List.eq_nil_of_length_eq_zero hl.1
    subst this
    exact (check22_nil A c W).mono fun e w' ⟨he, hw⟩ => ⟨he, hw ▸ Below.refl _ _⟩
  · rcases Nat.lt_or_ge 8 n with h8 | h8
    · have e : checkF l = 2 := by unfold checkF; rw [if_pos (by rw [hl.1]; exact h8)]
      rw [e]
      exact (check22_large A n c W h8).mono fun e w' ⟨he, hw⟩ => ⟨he, hw ▸ Below.refl _ _⟩
    · have e : checkF l = chkF [] l := by unfold checkF; rw [if_neg (by rw [hl.1]; omega)]
      rw [e]
      obtain ⟨b, o, rfl, hb, _⟩ := hl.2 h0
      exact check22_walk l b o n c W h8 hnc hl hok h0
def allR (b : Bool) : RuleV := ⟨b, ⟨65535, 65535, 255, 255⟩⟩
theorem allR_ok (b : Bool) : (allR b).ok := ⟨Nat.lt_succ_self 65535, Nat.lt_succ_self 65535, Nat.lt_succ_self 255, Nat.lt_succ_self 255⟩
theorem Try.infoRoute : (Try.prog.info? 71).map (fun i => (i.zero, i.size, i.bytes)) = some (some (.agg #[.int .i64 0, .int .i64 0, .int .i64 0]), 3, 24) := by kernel_rfl
theorem cloneRoute_walk (l : List RouteV) (A : Option Addr) (n c : Nat) (W : World) (hn : n ≤ 1048576) (hl : SlAt RouteV.cells 3 W W.heap.size A n l) :
    Calls Try.prog 20 #[.slice A n c] W fun e W' =>
      ∃ v, e = .returned v ∧ W'.ownsRow W.heap.size 71 3 v n (l.flatMap RouteV.cells) ∧ Below W.heap.size W W' := by
  obtain ⟨i0, hi0, hz0, hz1, hz2⟩ := info_parts Try.infoRoute
  rcases A with _ | ad
  · have hn0 : n = 0 := by
      rcases Nat.eq_zero_or_pos n with h | h
      · exact h
      · obtain ⟨b, o, e, _⟩ := hl.2 h; cases e
    subst hn0
    have : l = [] := List.eq_nil_of_length_eq_zero hl.1
    subst this
    have heq := fun w => Lib.run_eql_slice_nil (P := Try.prog) w _ _ none 0 c 0 0 Try.underlying59
    go_enter Try.func20, Try.ntmps20
    go_wp2
    go_ret
    exact ⟨_, rfl, World.ownsRow_nil _ _ _ _, Below.refl _ _⟩
  · have HR := hide (hl.reads RouteV.len (by omega))
    clear hl
    have heq := fun w => Lib.run_eql_slice_nil (P := Try.prog) w _ _ (some ad) n c 0 0 Try.underlying59
    go_enter Try.func20, Try.ntmps20
    go_wp2_with (at_builtin; refine wpList_append_any _ rfl (.tmp 5) (.tmp 6) 59 rfl W.heap.size 71 i0 _ 3 24 Try.underlying59 hi0 hz0 hz1 hz2 rfl (by omega) (.slice (some ⟨W.heap.size, 0, none⟩) 0 0) 0 [] rfl (World.ownsRow_lit _ #[] 0 (Nat.le_refl _) (by decide) rfl) W.heap.size (some ad) n c _ rfl (HR.out.alloc (Nat.le_refl _) _) (flat_one RouteV.one l) (by simp only [maxLen]; omega) (by omega) (by simp) ?_; intro v1 w1 hown1 hg1 hat1)
    go_ret
    refine ⟨v1, rfl, by simpa using hown1, ((Below.refl _ _).alloc (Nat.le_refl _) _).grown hg1 (by simp) (fun k hk => ?_)⟩
    simp [Value.ownBlock] at hk
    omega
theorem Try.cellsRoute : Try.prog.cellsOf 71 = 3 := by kernel_rfl
theorem Try.cellsInt : Try.prog.cellsOf 3 = 1 := by kernel_rfl
section
variable {H : Type} {enc : TypeId × Value → H} {w : World} {base : Nat} {spare : Nat → Bool} {held : Bool} {r : Reach} {b0 : Nat}
theorem read_route {n : Nat} {cs : List Value} {y : DataW H × List MemPlace} (h : DataW.trod enc Try.prog w base spare held n 71 cs = some y) : ∃ r : RouteV, r.ok ∧ cs = r.cells := by
  obtain ⟨xs, n', _, _, hlen, hxl, hf⟩ := DataW.trod_struct Try.underlying71 h
  rw [Try.cellsRoute] at hlen
  match cs, hlen with
  | [c0, c1, c2], _ =>
    have h0 := hf 0 _ rfl
    have h1 := hf 1 _ rfl
    have h2 := hf 2 _ rfl
    obtain ⟨y0, e0⟩ := get_some (xs := xs) (i := 0) (by rw [hxl]; decide)
    obtain ⟨y1, e1⟩ := get_some (xs := xs) (i := 1) (by rw [hxl]; decide)
    obtain ⟨y2, e2⟩ := get_some (xs := xs) (i := 2) (by rw [hxl]; decide)
    rw [e0] at h0
    rw [e1] at h1
    rw [e2] at h2
    simp [Try.cellsInt] at h0 h1 h2
    obtain ⟨a, rfl, ha⟩ := trod_i64 h0
    obtain ⟨b, rfl, hb⟩ := trod_i64 h1
    obtain ⟨c, rfl, hc⟩ := trod_i64 h2
    exact ⟨⟨a, b, c⟩, ⟨ha, hb, hc⟩, rfl⟩
end
end Go.Proofs.Ytifkacnoiocebaa
namespace Go.Proofs.Ytifkacnoiocebaa
open Bdd Go.Maps Go.RowKit
end Go.Proofs.Ytifkacnoiocebaa
namespace Go.Proofs.Ytifkacnoiocebaa
open Go.RowKit
open Bdd
theorem tb (c i : Nat) : c.testBit i = decide (c / 2 ^ i % 2 = 1) := Nat.testBit_eq_decide_div_mod_eq
open Go.Maps
end Go.Proofs.Ytifkacnoiocebaa
namespace Go.Proofs.Ytifkacnoiocebaa
open Go.ChangeAt Go.ChangeShapes Go.RowKit Go.WideShapes
theorem ret_bool {a b : Bool} (h : a = b) : Ending.returned (.bool a) = .returned (.bool b) := by rw [h]
theorem below_drew (w : World) (n : Nat) (B : Nat) : Below B w (w.drewN n) := ⟨rfl, rfl, rfl, Nat.le_refl _, fun _ _ => rfl⟩
end Go.Proofs.Ytifkacnoiocebaa
namespace Go.Proofs.Ytifkacnoiocebaa
open Go.RowKit
end Go.Proofs.Ytifkacnoiocebaa
