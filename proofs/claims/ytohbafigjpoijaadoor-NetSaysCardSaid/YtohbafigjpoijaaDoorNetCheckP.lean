/- What a net is checked for, plainly; net.Check's closure. -/
import Derived.Test.YtohbafigjpoijaaDoorNetFind
import Derived.Test.YtohbafigjpoijaaDoorG6
set_option linter.unusedVariables false
set_option linter.unusedSimpArgs false
namespace Go.Proofs.YtohbafigjpoijaaDoor
open Go.RowKit

/-- The same name? -/
def nameEq (a b : ByteArray) : Bool := decide (a.toList = b.toList)
def devsE : List Dev → List Dev → Int
  | _, [] => 0
  | pre, d :: t => if namedB d.name = false then 3 else if pre.any (fun x => nameEq x.name d.name) then 5 else if devE d = 0 then devsE (pre ++ [d]) t else devE d
theorem devsE_step {l : List Dev} {k : Nat} {d : Dev} (h : l[k]? = some d) :
    devsE (l.take k) (l.drop k) = if namedB d.name = false then 3 else if (l.take k).any (fun x => nameEq x.name d.name) then 5 else if devE d = 0 then devsE (l.take (k + 1)) (l.drop (k + 1)) else devE d := by
  obtain ⟨hk, e⟩ := List.getElem?_eq_some_iff.1 h
  rw [List.drop_eq_getElem_cons hk, e, List.take_succ_eq_append_getElem hk, e]; rfl
def kindAt (ds : List Dev) (i : Int) : Int := ((ds[i.toNat]?).map (·.kind)).getD 0
def placeB (ds : List Dev) (x : Pl) : Bool := (decide (0 ≤ x.1) && decide (x.1 < ds.length)) && (decide (0 ≤ x.2) && decide (x.2 < portsF (kindAt ds x.1)))
def takenB (ends : List Pl) (l : LinkV) : Bool := eqP l.e1 l.e2 || ends.any (fun z => eqP l.e1 z) || ends.any (fun z => eqP l.e2 z)
def linksE (ds : List Dev) : List Pl → List LinkV → Int
  | _, [] => 0
  | ends, l :: t => if placeB ds l.e1 = false then 1 else if placeB ds l.e2 = false then 1 else if takenB ends l then 5 else linksE ds (ends ++ [l.e1, l.e2]) t
theorem linksE_step {ds : List Dev} {ls : List LinkV} {ends : List Pl} {k : Nat} {l : LinkV} (h : ls[k]? = some l) :
    linksE ds ends (ls.drop k) = if placeB ds l.e1 = false then 1 else if placeB ds l.e2 = false then 1 else if takenB ends l then 5 else linksE ds (ends ++ [l.e1, l.e2]) (ls.drop (k + 1)) := by
  obtain ⟨hk, e⟩ := List.getElem?_eq_some_iff.1 h
  rw [List.drop_eq_getElem_cons hk, e]; rfl
def netE (ds : List Dev) (ls : List LinkV) : Int :=
  if 10 < ds.length ∨ 15 < ls.length then 2 else if devsE [] ds = 0 then linksE ds [] ls else devsE [] ds

theorem placeB_iff {ds : List Dev} {x : Pl} : placeB ds x = true ↔ (0 ≤ x.1 ∧ x.1 < ds.length) ∧ 0 ≤ x.2 ∧ x.2 < portsF (kindAt ds x.1) := by
  simp [placeB]

def pjL (l : LinkV) (j : Nat) : Pl := if j = 0 then l.e1 else l.e2
theorem linksE_bad {ds : List Dev} {ls : List LinkV} {ends : List Pl} {k j : Nat} {l : LinkV} (h : ls[k]? = some l) (hj : j < 2) (h1 : ∀ i, i < j → placeB ds (pjL l i) = true) (h2 : placeB ds (pjL l j) = false) : linksE ds ends (ls.drop k) = 1 := by
  rw [linksE_step h]
  rcases (by omega : j = 0 ∨ j = 1) with rfl | rfl
  · rw [show pjL l 0 = l.e1 from rfl] at h2
    simp [h2]
  · have := h1 0 (by omega)
    rw [show pjL l 0 = l.e1 from rfl] at this
    rw [show pjL l 1 = l.e2 from rfl] at h2
    simp [h2, this]
theorem linksE_good {ds : List Dev} {ls : List LinkV} {ends : List Pl} {k : Nat} {l : LinkV} (h : ls[k]? = some l) (h1 : ∀ i, i < 2 → placeB ds (pjL l i) = true) :
    linksE ds ends (ls.drop k) = if takenB ends l then 5 else linksE ds (ends ++ [l.e1, l.e2]) (ls.drop (k + 1)) := by
  rw [linksE_step h]
  have a := h1 0 (by omega)
  have b := h1 1 (by omega)
  rw [show pjL l 0 = l.e1 from rfl] at a
  rw [show pjL l 1 = l.e2 from rfl] at b
  simp [a, b]

set_option maxRecDepth 100000 in
theorem checkClos_walk (x : DevV) (nm : ByteArray) (k : Nat) (w : World) (hk : k < w.heap.size) (h0 : w.cell? ⟨k, 0, none⟩ = some (.string nm)) :
    Calls Tryd.prog 66 (#[x.val] ++ #[.pointer (some ⟨k, 0, none⟩)]) w fun e W' => e = .returned (.bool (nameEq x.name nm)) ∧ Below w.heap.size w W' := by
  have hne : k ≠ w.heap.size := by omega
  obtain ⟨xn, xk, xa, xp, bA, bn, bc, bs, rA, rn, rc, rs, tA, tn, tc, ts⟩ := x
  show Calls Tryd.prog 66 #[.agg #[.string xn, .int .i64 xk, .int .i64 xa, .int .u8 xp, .slice bA bn bc, .slice rA rn rc, .slice tA tn tc], .pointer (some ⟨k, 0, none⟩)] w _
  have HB := hide (fun o => show Below w.heap.size w (w.alloc o) from (Below.refl _ _).alloc (Nat.le_refl _) _)
  by_cases e : xn.toList = nm.toList
  all_goals
    go_enter Tryd.func66, Tryd.ntmps66
    go_wp2
    go_ret
    exact ⟨ret_bool (by simp [nameEq, e]), HB.out _⟩
end Go.Proofs.YtohbafigjpoijaaDoor
