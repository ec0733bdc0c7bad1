/- A part of the proof: NetFind, NetCheckP. -/
import Derived.Test.YtifkacnoiocebaaNw4
set_option linter.unusedVariables false
set_option linter.unusedSimpArgs false
set_option maxRecDepth 100000
set_option maxHeartbeats 4000000
namespace Go.Proofs.Ytifkacnoiocebaa
open Go.RowKit
theorem indexFuncDev_walk (l : List DevV) (b o n c f : Nat) (cap : Array Value) (p : DevV → Bool) (W : World) (hn : n ≤ 9223372036854775807) (hl : SlAt DevV.cells 7 W W.heap.size (some ⟨b, o, none⟩) n l) (h0 : 0 < n)
    (hcall : ∀ (args : Array Value) (w : World), (callFunc f args).run Try.prog w = .ok (.enter f args) w)
    (hf : Hid (∀ (r : DevV) (w : World), r ∈ l → Below W.heap.size W w → Calls Try.prog f (#[r.val] ++ cap) w fun e w' => e = .returned (.bool (p r)) ∧ Below w.heap.size w w')) :
    Calls Try.prog 54 #[.slice (some ⟨b, o, none⟩) n c, .func (.func f) #[] cap] W fun e W' =>
      e = .returned (.int .i64 (idxF p l)) ∧ Below W.heap.size W W' := by
  have HL := hide hl
  clear hl
  go_enter Try.func54, Try.ntmps54
  go_wp2
  go_loopw [5, 8] (fun u i wr => ∃ k : Nat, k ≤ n ∧ i = .int .i64 k ∧ Below W.heap.size W wr ∧ Hid (∀ j r, j < k → l[j]? = some r → p r = false)) (fun _ i _ => n - (intOf i).toNat)
  case atStart => exact ⟨0, Nat.zero_le _, rfl, Below.refl _ _, hide (fun j r h => by omega)⟩
  case round =>
    obtain ⟨k, hk, rfl, hb, HN⟩ := hrel
    have HB := hide hb
    by_cases hlt : k < n
    · obtain ⟨r, hr⟩ : ∃ r, l[k]? = some r := ⟨_, List.getElem?_eq_getElem (by have := HL.out.1; omega)⟩
      obtain ⟨hbB, q0, q1, q2, q3, q4, q5, q6⟩ := dev_get (HL.out.below HB.out HB.out.size) hr
      have HR := hide hr
      clear hr hb
      obtain ⟨nm, kd, ad, pl, bA, bn, bc, bs, rA, rn, rc, rs, tA, tn, tc, ts⟩ := r
      go_wp2_with fail
      refine (hf.out _ _ (List.mem_of_getElem? HR.out) HB.out).mono ?_
      rintro e w1 ⟨rfl, hb1⟩
      have HB1 := hide (HB.out.trans (hb1.mono HB.out.size))
      clear hb1 q0 q1 q2 q3 q4 q5 q6
      generalize hr : (⟨nm, kd, ad, pl, bA, bn, bc, bs, rA, rn, rc, rs, tA, tn, tc, ts⟩ : DevV) = r at *
      clear hr
      cases hp : p r
      · go_wp2
        go_roundw
        case rel =>
          refine ⟨k + 1, by omega, by go_num, HB1.out, hide (fun j r' hj hr' => ?_)⟩
          rcases (by omega : j < k ∨ j = k) with h | rfl
          · exact HN.out j r' h hr'
          · rw [HR.out] at hr'; cases hr'; exact hp
        case measure => simp [intOf]; omega
      · go_wp2
        go_ret
        exact ⟨ret_i64 (idxF_found HR.out hp HN.out).symm, HB1.out⟩
    · go_wp2
      go_ret
      exact ⟨ret_i64 (idxF_none (fun j r hj => HN.out j r (by have := HL.out.1; omega))).symm, hb⟩
theorem indexFuncDev_nil (A : Option Addr) (c : Nat) (F : Value) (W : World) :
    Calls Try.prog 54 #[.slice A 0 c, F] W fun e W' => e = .returned (.int .i64 (-1)) ∧ W = W' := by
  go_enter Try.func54, Try.ntmps54
  go_wp2
  refine wp_loop_rounds 1 ?_
  rw [rounds_succ]
  go_wp2
  go_ret
  exact ⟨rfl, rfl⟩
theorem indexFuncDev_any (l : List DevV) (A : Option Addr) (n c f : Nat) (cap : Array Value) (p : DevV → Bool) (W : World) (hn : n ≤ 9223372036854775807) (hl : SlAt DevV.cells 7 W W.heap.size A n l)
    (hcall : ∀ (args : Array Value) (w : World), (callFunc f args).run Try.prog w = .ok (.enter f args) w)
    (hf : Hid (∀ (r : DevV) (w : World), r ∈ l → Below W.heap.size W w → Calls Try.prog f (#[r.val] ++ cap) w fun e w' => e = .returned (.bool (p r)) ∧ Below w.heap.size w w')) :
    Calls Try.prog 54 #[.slice A n c, .func (.func f) #[] cap] W fun e W' =>
      e = .returned (.int .i64 (idxF p l)) ∧ Below W.heap.size W W' := by
  rcases Nat.eq_zero_or_pos n with rfl | h0
  · have : l = [] := List.eq_nil_of_length_eq_zero hl.1
    subst this
    exact (indexFuncDev_nil A c _ W).mono fun e w' ⟨he, hw⟩ => ⟨he, hw ▸ Below.refl _ _⟩
  · obtain ⟨b, o, rfl, hb, _⟩ := hl.2 h0
    exact indexFuncDev_walk l b o n c f cap p W hn hl h0 hcall hf
theorem idxF_any {α : Type} (p : α → Bool) (l : List α) : (l.any p = true ∧ ∃ k : Nat, idxF p l = k) ∨ (l.any p = false ∧ idxF p l = -1) := by
  rcases idxF_cases p l with ⟨k, r, hk, _, hr, hp, _⟩ | ⟨hk, hno⟩
  · exact .inl ⟨List.any_eq_true.2 ⟨r, List.mem_of_getElem? hr, hp⟩, k, hk⟩
  · exact .inr ⟨List.any_eq_false.2 fun r hr => by simp [hno r hr], hk⟩
theorem containsFuncDev_any (l : List DevV) (A : Option Addr) (n c f : Nat) (cap : Array Value) (p : DevV → Bool) (W : World) (hn : n ≤ 9223372036854775807) (hl : SlAt DevV.cells 7 W W.heap.size A n l)
    (hcall : ∀ (args : Array Value) (w : World), (callFunc f args).run Try.prog w = .ok (.enter f args) w)
    (hf : Hid (∀ (r : DevV) (w : World), r ∈ l → Below W.heap.size W w → Calls Try.prog f (#[r.val] ++ cap) w fun e w' => e = .returned (.bool (p r)) ∧ Below w.heap.size w w')) :
    Calls Try.prog 49 #[.slice A n c, .func (.func f) #[] cap] W fun e W' =>
      e = .returned (.bool (l.any p)) ∧ Below W.heap.size W W' := by
  have HC := hide (indexFuncDev_any l A n c f cap p W hn hl hcall hf)
  clear hl hf hcall
  rcases idxF_any p l with ⟨h1, k, h2⟩ | ⟨h1, h2⟩
  all_goals
    rw [h2] at HC
    rw [h1]
    clear h1 h2
    go_enter Try.func49, Try.ntmps49
    go_wp2_with fail
    refine HC.out.mono ?_
    rintro e w1 ⟨rfl, hb⟩
    have HB := hide hb
    clear hb
    go_wp2
    go_ret
    exact ⟨rfl, HB.out⟩
def plCells (x : Pl) : List Value := [.int .i64 x.1, .int .i64 x.2]
theorem plCells_len (x : Pl) : (plCells x).length = 2 := rfl
theorem indexPl_walk (l : List Pl) (b o n c : Nat) (x y : Int) (W : World) (hn : n ≤ 9223372036854775807) (hl : SlAt plCells 2 W W.heap.size (some ⟨b, o, none⟩) n l) (h0 : 0 < n) :
    Calls Try.prog 65 #[.slice (some ⟨b, o, none⟩) n c, .agg #[.int .i64 x, .int .i64 y]] W fun e W' => e = .returned (.int .i64 (idxF (fun z => eqP (x, y) z) l)) ∧ RowKit.Below W.heap.size W W' := by
  have HL := hide hl
  clear hl
  have hb0 : Below W.heap.size W (W.alloc (.cells #[.int .i64 x, .int .i64 y] 45)) := (Below.refl _ _).alloc (Nat.le_refl _) _
  have HX0 := hide (Box2.new W x y 45)
  have hs0 : (W.alloc (.cells #[.int .i64 x, .int .i64 y] 45)).heap.size = W.heap.size + 1 := by simp
  go_enter Try.func65, Try.ntmps65
  go_wp2
  generalize W.alloc _ = W0 at *
  have HB0 := hide hb0
  clear hb0
  go_loopw [8] (fun i wr => ∃ k : Nat, k ≤ n ∧ i = .int .i64 k ∧ Hid (RowKit.Below W0.heap.size W0 wr) ∧ Hid (∀ j z, j < k → l[j]? = some z → eqP (x, y) z = false)) (fun i _ => n - (intOf i).toNat)
  case atStart => exact ⟨0, Nat.zero_le _, rfl, hide (RowKit.Below.refl _ _), hide (fun j r h => absurd h (by omega))⟩
  case round =>
    obtain ⟨k, hk, rfl, HB, HN⟩ := hrel
    have HBW := hide (HB0.out.trans (HB.out.mono HB0.out.size))
    by_cases hlt : k < n
    · obtain ⟨z, hz⟩ : ∃ r, l[k]? = some r := ⟨_, List.getElem?_eq_getElem (by have := HL.out.1; omega)⟩
      obtain ⟨hbB, hg⟩ := (HL.out.below HBW.out HBW.out.size).get hz
      have q0 := hg 0 _ rfl
      have q1 := hg 1 _ rfl
      obtain ⟨x0, x1, _, _⟩ := HX0.out.below HB.out (by omega)
      have HZ := hide hz
      clear hz hg
      obtain ⟨z1, z2⟩ := z
      rw [Nat.add_zero] at q0
      cases e1 : (x == z1)
      · go_wp2
        go_quiet (fail)
        go_wp2
        go_roundw
        case rel => exact ⟨k + 1, by omega, by go_num, hide (HB.out.trans (below_drew _ _ _)), hide (fun j r hj hr => by
          rcases (by omega : j < k ∨ j = k) with h | rfl
          · exact HN.out j r h hr
          · have e := HZ.out; rw [e] at hr; cases hr; simp only [eqP, e1, Bool.false_and, Bool.and_false])⟩
        case measure => simp [intOf]; omega
      cases e2 : (y == z2)
      · go_wp2
        go_quiet (fail)
        go_wp2
        go_roundw
        case rel => exact ⟨k + 1, by omega, by go_num, hide (HB.out.trans (below_drew _ _ _)), hide (fun j r hj hr => by
          rcases (by omega : j < k ∨ j = k) with h | rfl
          · exact HN.out j r h hr
          · have e := HZ.out; rw [e] at hr; cases hr; simp only [eqP, e1, e2, Bool.false_and, Bool.and_false])⟩
        case measure => simp [intOf]; omega
      · have HF := hide (idxF_found (p := fun z => eqP (x, y) z) HZ.out (by simp only [eqP, e1, e2]; rfl) HN.out)
        go_wp2
        go_quiet (fail)
        go_wp2
        go_ret
        exact ⟨ret_i64 HF.out.symm, HBW.out.trans (below_drew _ _ _)⟩
    · have HF := hide (idxF_none (p := fun z => eqP (x, y) z) (l := l) (fun j r hj hr => HN.out j r (by have := HL.out.1; omega) hr))
      go_wp2
      go_ret
      exact ⟨ret_i64 HF.out.symm, HBW.out⟩
theorem indexPl_nil (A : Option Addr) (c : Nat) (x y : Int) (W : World) : Calls Try.prog 65 #[.slice A 0 c, .agg #[.int .i64 x, .int .i64 y]] W fun e W' => e = .returned (.int .i64 (-1)) ∧ RowKit.Below W.heap.size W W' := by
  go_enter Try.func65, Try.ntmps65
  go_wp2
  refine wp_loop_rounds 1 ?_
  rw [rounds_succ]
  go_wp2
  go_ret
  exact ⟨rfl, (Below.refl _ _).alloc (Nat.le_refl _) _⟩
theorem indexPl_any (l : List Pl) (A : Option Addr) (n c : Nat) (x y : Int) (W : World) (hn : n ≤ 9223372036854775807) (hl : SlAt plCells 2 W W.heap.size A n l) :
    Calls Try.prog 65 #[.slice A n c, .agg #[.int .i64 x, .int .i64 y]] W fun e W' => e = .returned (.int .i64 (idxF (fun z => eqP (x, y) z) l)) ∧ RowKit.Below W.heap.size W W' := by
  rcases Nat.eq_zero_or_pos n with rfl | h0
  · have : l = [] := List.eq_nil_of_length_eq_zero hl.1
    subst this
    exact indexPl_nil A c x y W
  · obtain ⟨b, o, rfl, hb, _⟩ := hl.2 h0
    exact indexPl_walk l b o n c x y W hn hl h0
theorem containsPl_any (l : List Pl) (A : Option Addr) (n c : Nat) (x y : Int) (W : World) (hn : n ≤ 9223372036854775807) (hl : SlAt plCells 2 W W.heap.size A n l) :
    Calls Try.prog 53 #[.slice A n c, .agg #[.int .i64 x, .int .i64 y]] W fun e W' => e = .returned (.bool (l.any fun z => eqP (x, y) z)) ∧ RowKit.Below W.heap.size W W' := by
  have hb0 : Below W.heap.size W (W.alloc (.cells #[.int .i64 x, .int .i64 y] 45)) := (Below.refl _ _).alloc (Nat.le_refl _) _
  have HC := hide (indexPl_any l A n c x y (W.alloc (.cells #[.int .i64 x, .int .i64 y] 45)) hn (hl.below hb0 hb0.size))
  have HB0 := hide hb0
  clear hl hb0
  rcases idxF_any (fun z => eqP (x, y) z) l with ⟨h1, k, h2⟩ | ⟨h1, h2⟩
  all_goals
    rw [h2] at HC
    rw [h1]
    clear h1 h2
    go_enter Try.func53, Try.ntmps53
    go_wp2_with fail
    refine HC.out.mono ?_
    rintro e w1 ⟨rfl, hb⟩
    have HB := hide (HB0.out.trans (hb.mono HB0.out.size))
    clear hb
    go_wp2
    go_ret
    exact ⟨rfl, HB.out⟩
def nameEq (a b : ByteArray) : Bool := decide (a.toList = b.toList)
def devsE : List Dev → List Dev → Int
  | _, [] => 0
  | pre, d :: t => if namedB d.name = false then 3 else if pre.any (fun x => nameEq x.name d.name) then 5 else if devE d = 0 then devsE (pre ++ [d]) t else devE d
theorem devsE_step {l : List Dev} {k : Nat} {d : Dev} (h : l[k]? = some d) :
    devsE (l.take k) (l.drop k) = if namedB d.name = false then 3 else if (l.take k).any (fun x => nameEq x.name d.name) then 5 else if devE d = 0 then devsE (l.take (k + 1)) (l.drop (k + 1)) else devE d := by
  obtain ⟨hk, e⟩ := List.getElem?_eq_some_iff.1 h
  rw [List.drop_eq_getElem_cons hk, e, List.take_succ_eq_append_getElem hk, e]; rfl
def kindAt (ds : List Dev) (i : Int) : Int := ((ds[i.toNat]?).map (·.kind)).getD 0
def placeB (ds : List Dev) (x : Pl) : Bool := (decide (0 ≤ x.1) && decide (x.1 < ds.length)) && (decide (0 ≤ x.2) && decide (x.2 < portsF (kindAt ds x.1)))
def takenB (ends : List Pl) (l : LinkV) : Bool := eqP l.e1 l.e2 || ends.any (fun z => eqP l.e1 z) || ends.any (fun z => eqP l.e2 z)
def linksE (ds : List Dev) : List Pl → List LinkV → Int
  | _, [] => 0
  | ends, l :: t => if placeB ds l.e1 = false then 1 else if placeB ds l.e2 = false then 1 else if takenB ends l then 5 else linksE ds (ends ++ [l.e1, l.e2]) t
theorem linksE_step {ds : List Dev} {ls : List LinkV} {ends : List Pl} {k : Nat} {l : LinkV} (h : ls[k]? = some l) :
    linksE ds ends (ls.drop k) = if placeB ds l.e1 = false then 1 else if placeB ds l.e2 = false then 1 else if takenB ends l then 5 else linksE ds (ends ++ [l.e1, l.e2]) (ls.drop (k + 1)) := by
  obtain ⟨hk, e⟩ := List.getElem?_eq_some_iff.1 h
  rw [List.drop_eq_getElem_cons hk, e]; rfl
def netE (ds : List Dev) (ls : List LinkV) : Int :=
  if 10 < ds.length ∨ 15 < ls.length then 2 else if devsE [] ds = 0 then linksE ds [] ls else devsE [] ds
theorem placeB_iff {ds : List Dev} {x : Pl} : placeB ds x = true ↔ (0 ≤ x.1 ∧ x.1 < ds.length) ∧ 0 ≤ x.2 ∧ x.2 < portsF (kindAt ds x.1) := by
  simp [placeB]
def pjL (l : LinkV) (j : Nat) : Pl := if j = 0 then l.e1 else l.e2
theorem linksE_bad {ds : List Dev} {ls : List LinkV} {ends : List Pl} {k j : Nat} {l : LinkV} (h : ls[k]? = some l) (hj : j < 2) (h1 : ∀ i, i < j → placeB ds (pjL l i) = true) (h2 : placeB ds (pjL l j) = false) : linksE ds ends (ls.drop k) = 1 := by
  rw [linksE_step h]
  rcases (by omega : j = 0 ∨ j = 1) with rfl | rfl
  · rw [show pjL l 0 = l.e1 from rfl] at h2
    simp [h2]
  · have := h1 0 (by omega)
    rw [show pjL l 0 = l.e1 from rfl] at this
    rw [show pjL l 1 = l.e2 from rfl] at h2
    simp [h2, this]
theorem linksE_good {ds : List Dev} {ls : List LinkV} {ends : List Pl} {k : Nat} {l : LinkV} (h : ls[k]? = some l) (h1 : ∀ i, i < 2 → placeB ds (pjL l i) = true) :
    linksE ds ends (ls.drop k) = if takenB ends l then 5 else linksE ds (ends ++ [l.e1, l.e2]) (ls.drop (k + 1)) := by
  rw [linksE_step h]
  have a := h1 0 (by omega)
  have b := h1 1 (by omega)
  rw [show pjL l 0 = l.e1 from rfl] at a
  rw [show pjL l 1 = l.e2 from rfl] at b
  simp [a, b]
theorem checkClos_walk (x : DevV) (nm : ByteArray) (k : Nat) (w : World) (hk : k < w.heap.size) (h0 : w.cell? ⟨k, 0, none⟩ = some (.string nm)) :
    Calls Try.prog 50 (#[x.val] ++ #[.pointer (some ⟨k, 0, none⟩)]) w fun e W' => e = .returned (.bool (nameEq x.name nm)) ∧ Below w.heap.size w W' := by
  have hne : k ≠ w.heap.size := by omega
  obtain ⟨xn, xk, xa, xp, bA, bn, bc, bs, rA, rn, rc, rs, tA, tn, tc, ts⟩ := x
  show Calls Try.prog 50 #[.agg #[.string xn, .int .i64 xk, .int .i64 xa, .int .u8 xp, .slice bA bn bc, .slice rA rn rc, .slice tA tn tc], .pointer (some ⟨k, 0, none⟩)] w _
  have HB := hide (fun o => show Below w.heap.size w (w.alloc o) from (Below.refl _ _).alloc (Nat.le_refl _) _)
  by_cases e : xn.toList = nm.toList
  all_goals
    go_enter Try.func50, Try.ntmps50
    go_wp2
    go_ret
    exact ⟨ret_bool (by simp [nameEq, e]), HB.out _⟩
end Go.Proofs.Ytifkacnoiocebaa
