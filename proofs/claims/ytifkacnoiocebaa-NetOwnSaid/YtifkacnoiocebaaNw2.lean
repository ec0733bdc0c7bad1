/- A part of the proof: G6, NetAt. -/
import Derived.Test.YtifkacnoiocebaaNw1
import Derived.Deep.Upon
import Derived.Lib.SliceRun
import Derived.Laws.IdiomCopy
import Derived.Deep.RegionHeld3
import Derived.BigRegion
import Derived.ChangeAlike
set_option linter.unusedVariables false
set_option linter.unusedSimpArgs false
set_option maxRecDepth 100000
set_option maxHeartbeats 8000000
namespace Go.Proofs.Ytifkacnoiocebaa
open Bdd Go.Maps Go.RowKit
theorem aclCheck_walk (A : Option Addr) (n c : Nat) (W : World) : Calls Try.prog 63 #[.slice A n c] W fun e W' => e = .returned (.int .i64 (if 8 < n then 2 else 0)) ∧ W = W' := by
  by_cases h : 8 < n
  · have h8 : decide ((8 : Int) < (n : Int)) = true := by simp; omega
    rw [if_pos h]
    go_enter Try.func63, Try.ntmps63
    go_wp2
    go_ret
    exact ⟨rfl, rfl⟩
  · have h8 : decide ((8 : Int) < (n : Int)) = false := by simp; omega
    rw [if_neg h]
    go_enter Try.func63, Try.ntmps63
    go_wp2
    go_ret
    exact ⟨rfl, rfl⟩
theorem within_walk (n m : Int) (W : World) (B : Bool) (h : (decide (0 ≤ n) && decide (n < m)) = B) : Calls Try.prog 56 #[.int .i64 n, .int .i64 m] W fun e W' => e = .returned (.bool B) ∧ W = W' := by
  cases h1 : decide (0 ≤ n)
  · have e1 : ¬ 0 ≤ n := by simpa using h1
    have HF := hide (show false = B by rw [← h, h1]; rfl)
    clear h
    go_enter Try.func56, Try.ntmps56
    go_wp2
    go_ret
    exact ⟨ret_bool HF.out, rfl⟩
  · have HF := hide (show decide (n < m) = B by rw [← h, h1]; rfl)
    clear h
    go_enter Try.func56, Try.ntmps56
    go_wp2
    go_ret
    exact ⟨ret_bool HF.out, rfl⟩
def intCells (dl : List Nat) : List Value := dl.map fun (k : Nat) => Value.int .i64 (k : Int)
theorem own_same {w w' : World} {base e s n : Nat} {v : Value} {xs : List Value} (h : w.ownsRow base e s v n xs) (hb : ∀ q, v.ownBlock = some q → w'.heap[q]? = w.heap[q]?) : w'.ownsRow base e s v n xs := by
  obtain ⟨h1, h2⟩ := h
  refine ⟨h1, ?_⟩
  rcases h2 with h2 | ⟨g', cap', cur, hv, hb', hh, r⟩
  · exact .inl h2
  · subst hv
    exact .inr ⟨_, _, cur, rfl, hb', (hb g' rfl).trans hh, r⟩
theorem Try.infoInt : (Try.prog.info? 3).map (fun i => (i.zero, i.size, i.bytes)) = some (some (.int .i64 0), 1, 8) := by kernel_rfl
theorem ints_of_own {w : World} {base : Nat} {v : Value} {dl : List Nat} (h : w.ownsRow base 3 1 v dl.length (intCells dl)) (hb : ∀ x ∈ dl, x < 4611686018427387904) :
    ∃ A c, v = .slice A dl.length c ∧ dl.length ≤ c ∧ IntsAt w w.heap.size A dl.length (dl.map fun (k : Nat) => (k : Int)) := by
  rcases h.2 with ⟨rfl, h0⟩ | ⟨g, cap, cur, rfl, hg, hh, hnc, _⟩
  · have : dl = [] := List.eq_nil_of_length_eq_zero h0
    subst this
    exact ⟨none, 0, rfl, Nat.le_refl _, IntsAt.nil _ _ _⟩
  · refine ⟨_, cap, rfl, hnc, ⟨by simp, fun x hx => ?_, fun _ => ⟨g, 0, rfl, (Array.getElem?_eq_some_iff.1 hh).1, fun k x hx => ?_⟩⟩⟩
    · obtain ⟨k, hk, rfl⟩ := List.mem_map.1 hx
      have := hb k hk
      omega
    · have := h.cells (g := g) rfl k (.int .i64 x) (by
        rw [List.getElem?_map] at hx
        cases e : dl[k]? with
        | none => rw [e] at hx; cases hx
        | some y => rw [e] at hx; cases hx; simp [intCells, e])
      rw [addr_add] at this
      exact this
theorem index_walk (l : List Int) (b o n c : Nat) (x : Int) (W : World) (hn : n ≤ 9223372036854775807) (hl : IntsAt W W.heap.size (some ⟨b, o, none⟩) n l) (h0 : 0 < n) :
    Calls Try.prog 77 #[.slice (some ⟨b, o, none⟩) n c, .int .i64 x] W fun e W' => e = .returned (.int .i64 (idxF (fun y => x == y) l)) ∧ RowKit.Below W.heap.size W W' := by
  have HL := hide hl
  clear hl
  go_enter Try.func77, Try.ntmps77
  go_wp2
  go_loopw [8] (fun i wr => ∃ k : Nat, k ≤ n ∧ i = .int .i64 k ∧ RowKit.Below W.heap.size W wr ∧ Hid (∀ j y, j < k → l[j]? = some y → (x == y) = false)) (fun i _ => n - (intOf i).toNat)
  case atStart => exact ⟨0, Nat.zero_le _, rfl, RowKit.Below.refl _ _, hide (fun j r h => absurd h (by omega))⟩
  case round =>
    obtain ⟨k, hk, rfl, hb, HN⟩ := hrel
    have HB := hide hb
    by_cases hlt : k < n
    · obtain ⟨y, hy⟩ : ∃ r, l[k]? = some r := ⟨_, List.getElem?_eq_getElem (by have := HL.out.1; omega)⟩
      obtain ⟨b', o', e, hbB, hg⟩ := HL.out.2.2 (by omega)
      cases e
      have q0 := (hb.cell (p := ⟨b, o + k, none⟩) hbB).trans (hg k y hy)
      have HY := hide hy
      clear hb hg hy
      cases hxy : (x == y)
      · go_wp2
        go_roundw
        case rel => exact ⟨k + 1, by omega, by go_num, HB.out, hide (fun j z hj hz => by
          rcases (by omega : j < k ∨ j = k) with h | rfl
          · exact HN.out j z h hz
          · have e := HY.out; rw [e] at hz; cases hz; exact hxy)⟩
        case measure => simp [intOf]; omega
      · have HF := hide (idxF_found (p := fun y => x == y) HY.out hxy HN.out)
        go_wp2
        go_ret
        exact ⟨ret_i64 HF.out.symm, HB.out⟩
    · have HF := hide (idxF_none (p := fun y => x == y) (l := l) (fun j r hj hr => HN.out j r (by have := HL.out.1; omega) hr))
      go_wp2
      go_ret
      exact ⟨ret_i64 HF.out.symm, HB.out⟩
theorem contains_yes (l : List Int) (A : Option Addr) (n c : Nat) (x : Int) (W : World) (hn : n ≤ 9223372036854775807) (hl : IntsAt W W.heap.size A n l) (hx : x ∈ l) :
    Calls Try.prog 75 #[.slice A n c, .int .i64 x] W fun e W' => e = .returned (.bool true) ∧ RowKit.Below W.heap.size W W' := by
  have h0 : 0 < n := by have := List.length_pos_of_mem hx; have := hl.1; omega
  obtain ⟨b, o, rfl, _, _⟩ := hl.2.2 h0
  have HC := hide (index_walk l b o n c x W hn hl h0)
  obtain ⟨k, hk⟩ : ∃ k : Nat, idxF (fun y => x == y) l = k := by
    rcases idxF_cases (fun y => x == y) l with ⟨k, r, hk, _⟩ | ⟨_, hno⟩
    · exact ⟨k, hk⟩
    · have := hno x hx; simp at this
  rw [hk] at HC
  clear hl hx hk
  go_enter Try.func75, Try.ntmps75
  go_wp2_with fail
  refine HC.out.mono ?_
  rintro e w1 ⟨rfl, hb⟩
  have HB := hide hb
  clear hb
  go_wp2
  go_ret
  exact ⟨rfl, HB.out⟩
theorem equal_yes (l : List Int) (A1 A2 : Option Addr) (n c1 c2 : Nat) (W : World) (hn : n ≤ 9223372036854775807) (h1 : IntsAt W W.heap.size A1 n l) (h2 : IntsAt W W.heap.size A2 n l) :
    Calls Try.prog 28 #[.slice A1 n c1, .slice A2 n c2] W fun e W' => e = .returned (.bool true) ∧ RowKit.Below W.heap.size W W' := by
  have H1 := hide h1
  have H2 := hide h2
  clear h1 h2
  go_enter Try.func28, Try.ntmps28
  go_wp2
  go_loopw [13] (fun i wr => ∃ k : Nat, k ≤ n ∧ i = .int .i64 k ∧ RowKit.Below W.heap.size W wr) (fun i _ => n - (intOf i).toNat)
  case atStart => exact ⟨0, Nat.zero_le _, rfl, RowKit.Below.refl _ _⟩
  case round =>
    obtain ⟨k, hk, rfl, hb⟩ := hrel
    have HB := hide hb
    by_cases hlt : k < n
    · obtain ⟨y, hy⟩ : ∃ r, l[k]? = some r := ⟨_, List.getElem?_eq_getElem (by have := H1.out.1; omega)⟩
      obtain ⟨b, o, rfl, hbB, hg⟩ := H1.out.2.2 (by omega)
      obtain ⟨b', o', rfl, hbB', hg'⟩ := H2.out.2.2 (by omega)
      have q0 := (hb.cell (p := ⟨b, o + k, none⟩) hbB).trans (hg k y hy)
      have q1 := (hb.cell (p := ⟨b', o' + k, none⟩) hbB').trans (hg' k y hy)
      clear hb hg hg' hy
      go_wp2
      go_quiet (fail)
      go_wp2
      go_roundw
      case rel => exact ⟨k + 1, by omega, by go_num, HB.out.trans ⟨rfl, rfl, rfl, Nat.le_refl _, fun _ _ => rfl⟩⟩
      case measure => simp [intOf]; omega
    · go_wp2
      go_ret
      exact ⟨rfl, HB.out⟩
end Go.Proofs.Ytifkacnoiocebaa
namespace Go.Proofs.Ytifkacnoiocebaa
open Go.RowKit
theorem own_below {w w' : World} {base e s n : Nat} {v : Value} {xs : List Value} (h : w.ownsRow base e s v n xs) (hb : RowKit.Below w.heap.size w w') : w'.ownsRow base e s v n xs :=
  own_same h (fun q hq => hb.block q (h.lt q hq).2)
theorem grow_new {B : Nat} {w w' : World} {row : Option Nat} (hb : RowKit.Below B w w') (hB : B ≤ w.heap.size) {w'' : World} (hg : w'.grownBy w'' row) (hr : ∀ k, row = some k → B ≤ k) : RowKit.Below B w w'' :=
  hb.grown hg (by have := hb.size; omega) hr
open Bdd Go.Maps
end Go.Proofs.Ytifkacnoiocebaa
namespace Go.Proofs.Ytifkacnoiocebaa
open Go.RowKit
structure LinkV where
  a : Int
  p : Int
  b : Int
  q : Int
def LinkV.ok (l : LinkV) : Prop := i64ok l.a ∧ i64ok l.p ∧ i64ok l.b ∧ i64ok l.q
def LinkV.cells (l : LinkV) : List Value := [.int .i64 l.a, .int .i64 l.p, .int .i64 l.b, .int .i64 l.q]
theorem LinkV.len (l : LinkV) : l.cells.length = 4 := rfl
theorem link_get {w : World} {B b o n k : Nat} {l : List LinkV} {r : LinkV} (h : SlAt LinkV.cells 4 w B (some ⟨b, o, none⟩) n l) (hr : l[k]? = some r) : b < B ∧
    w.cell? ⟨b, o + k * 4, none⟩ = some (.int .i64 r.a) ∧ w.cell? ⟨b, o + k * 4 + 1, none⟩ = some (.int .i64 r.p) ∧ w.cell? ⟨b, o + k * 4 + 2, none⟩ = some (.int .i64 r.b) ∧ w.cell? ⟨b, o + k * 4 + 3, none⟩ = some (.int .i64 r.q) :=
  ⟨(h.get hr).1, (h.get hr).2 0 _ rfl, (h.get hr).2 1 _ rfl, (h.get hr).2 2 _ rfl, (h.get hr).2 3 _ rfl⟩
abbrev Pl := Int × Int
def LinkV.e1 (l : LinkV) : Pl := (l.a, l.p)
def LinkV.e2 (l : LinkV) : Pl := (l.b, l.q)
def eqP (x y : Pl) : Bool := (x.1 == y.1) && (x.2 == y.2)
theorem eqP_iff (x y : Pl) : eqP x y = true ↔ x = y := by
  obtain ⟨a, b⟩ := x
  obtain ⟨c, d⟩ := y
  simp [eqP]
def peerF (l : List LinkV) (x : Pl) : Option Pl :=
  match l with
  | [] => none
  | a :: l => if eqP x a.e1 then some a.e2 else if eqP x a.e2 then some a.e1 else peerF l x
theorem peerF_drop {l : List LinkV} {k : Nat} {r : LinkV} (h : l[k]? = some r) (x : Pl) : peerF (l.drop k) x = if eqP x r.e1 then some r.e2 else if eqP x r.e2 then some r.e1 else peerF (l.drop (k + 1)) x := by
  obtain ⟨hk, e⟩ := List.getElem?_eq_some_iff.1 h
  rw [List.drop_eq_getElem_cons hk, e]; rfl
def peerV (r : Option Pl) : Value := match r with
  | some x => .tuple #[.agg #[.int .i64 x.1, .int .i64 x.2], .bool true]
  | none => .tuple #[.agg #[.int .i64 0, .int .i64 0], .bool false]
def Box2 (w : World) (N : Nat) (a b : Int) : Prop := w.cell? ⟨N, 0, none⟩ = some (.int .i64 a) ∧ w.cell? ⟨N, 1, none⟩ = some (.int .i64 b) ∧ w.frozen? ⟨N, 0, none⟩ = false ∧ w.frozen? ⟨N, 1, none⟩ = false
theorem Box2.below {w w' : World} {B N : Nat} {a b : Int} (h : Box2 w N a b) (hB : Below B w w') (hN : N < B) : Box2 w' N a b := by
  have e : ∀ o, w'.cell? ⟨N, o, none⟩ = w.cell? ⟨N, o, none⟩ := fun o => hB.cell (p := ⟨N, o, none⟩) hN
  have f : ∀ o, w'.frozen? ⟨N, o, none⟩ = w.frozen? ⟨N, o, none⟩ := fun o => hB.frozen (p := ⟨N, o, none⟩) hN
  unfold Box2
  rw [e, e, f, f]
  exact h
theorem Box2.new (w : World) (a b : Int) (t : TypeId) : Box2 (w.alloc (.cells #[.int .i64 a, .int .i64 b] t)) w.heap.size a b := by
  have hbx := heap_alloc_new w (.cells #[.int .i64 a, .int .i64 b] t)
  have f : ∀ o, (w.alloc (.cells #[.int .i64 a, .int .i64 b] t)).frozen? ⟨w.heap.size, o, none⟩ = false := fun o => by unfold World.frozen?; rw [hbx]; simp
  exact ⟨by rw [cell_of_row _ _ _ _ _ _ hbx]; rfl, by rw [cell_of_row _ _ _ _ _ _ hbx]; rfl, f 0, f 1⟩
theorem nwithin_walk (n m : Int) (W : World) (B : Bool) (h : (decide (0 ≤ n) && decide (n < m)) = B) : Calls Try.prog 52 #[.int .i64 n, .int .i64 m] W fun e W' => e = .returned (.bool B) ∧ W = W' := by
  cases h1 : decide (0 ≤ n)
  · have e1 : ¬ 0 ≤ n := by simpa using h1
    have HF := hide (show false = B by rw [← h, h1]; rfl)
    clear h
    go_enter Try.func52, Try.ntmps52
    go_wp2
    go_ret
    exact ⟨ret_bool HF.out, rfl⟩
  · have HF := hide (show decide (n < m) = B by rw [← h, h1]; rfl)
    clear h
    go_enter Try.func52, Try.ntmps52
    go_wp2
    go_ret
    exact ⟨ret_bool HF.out, rfl⟩
theorem le2 (n : Nat) : n ≤ n + 1 + 1 := by omega
def portsF (k : Int) : Int := if k == 1 then 1 else if k == 2 then 4 else if k == 3 then 2 else if k == 4 then 2 else if k == 5 then 2 else 0
theorem ports_walk (k : Int) (W : World) : Calls Try.prog 43 #[.int .i64 k] W fun e W' => e = .returned (.int .i64 (portsF k)) ∧ W = W' := by
  cases h1 : (k == 1)
  case true =>
    have HF := hide (show portsF k = 1 from by simp [portsF, h1])
    rw [HF.out]
    go_enter Try.func43, Try.ntmps43
    go_wp2
    go_ret
    exact ⟨rfl, rfl⟩
  cases h2 : (k == 2)
  case true =>
    have HF := hide (show portsF k = 4 from by simp [portsF, h1, h2])
    rw [HF.out]
    go_enter Try.func43, Try.ntmps43
    go_wp2
    go_ret
    exact ⟨rfl, rfl⟩
  cases h3 : (k == 3)
  case true =>
    have HF := hide (show portsF k = 2 from by simp [portsF, h1, h2, h3])
    rw [HF.out]
    go_enter Try.func43, Try.ntmps43
    go_wp2
    go_ret
    exact ⟨rfl, rfl⟩
  cases h4 : (k == 4)
  case true =>
    have HF := hide (show portsF k = 2 from by simp [portsF, h1, h2, h3, h4])
    rw [HF.out]
    go_enter Try.func43, Try.ntmps43
    go_wp2
    go_ret
    exact ⟨rfl, rfl⟩
  cases h5 : (k == 5)
  case true =>
    have HF := hide (show portsF k = 2 from by simp [portsF, h1, h2, h3, h4, h5])
    rw [HF.out]
    go_enter Try.func43, Try.ntmps43
    go_wp2
    go_ret
    exact ⟨rfl, rfl⟩
  · have HF := hide (show portsF k = 0 from by simp [portsF, h1, h2, h3, h4, h5])
    rw [HF.out]
    go_enter Try.func43, Try.ntmps43
    go_wp2
    go_ret
    exact ⟨rfl, rfl⟩
theorem peer_walk (l : List LinkV) (D : Value) (b o n c : Nat) (x y : Int) (W : World) (hn : n ≤ 9223372036854775807) (hl : SlAt LinkV.cells 4 W W.heap.size (some ⟨b, o, none⟩) n l) (h0 : 0 < n)
    (dA : Option Addr) (dn dc : Nat) (hD : D = .slice dA dn dc) :
    Calls Try.prog 42 #[.agg #[.slice dA dn dc, .slice (some ⟨b, o, none⟩) n c], .agg #[.int .i64 x, .int .i64 y]] W fun e W' => e = .returned (peerV (peerF l (x, y))) ∧ Below W.heap.size W W' := by
  have HL := hide hl
  have HB0 := hide (fun o0 o1 o2 => show Below W.heap.size W (((W.alloc o0).alloc o1).alloc o2) from (((Below.refl _ _).alloc (Nat.le_refl _) _).alloc (by simp) _).alloc (by simp; omega) _)
  clear hl hD
  go_enter Try.func42, Try.ntmps42
  go_wp2
  have hw0 : (((W.alloc (.cells #[.slice dA dn dc, .slice (some ⟨b, o, none⟩) n c] 25)).alloc (.cells #[.int .i64 x, .int .i64 y] 45)).alloc (.cells #[.int .i64 0, .int .i64 0] 45)).heap.size = W.heap.size + 3 := by simp
  have HX0 := hide (show Box2 (((W.alloc (.cells #[.slice dA dn dc, .slice (some ⟨b, o, none⟩) n c] 25)).alloc (.cells #[.int .i64 x, .int .i64 y] 45)).alloc (.cells #[.int .i64 0, .int .i64 0] 45)) (W.heap.size + 1) x y from by
    have := (Box2.new (W.alloc (.cells #[.slice dA dn dc, .slice (some ⟨b, o, none⟩) n c] 25)) x y 45).below ((Below.refl _ _).alloc (Nat.le_refl _) (.cells #[.int .i64 0, .int .i64 0] 45)) (by simp)
    simpa using this)
  have HZ0 := hide (show Box2 (((W.alloc (.cells #[.slice dA dn dc, .slice (some ⟨b, o, none⟩) n c] 25)).alloc (.cells #[.int .i64 x, .int .i64 y] 45)).alloc (.cells #[.int .i64 0, .int .i64 0] 45)) (W.heap.size + 1 + 1) 0 0 from by
    have := (Box2.new ((W.alloc (.cells #[.slice dA dn dc, .slice (some ⟨b, o, none⟩) n c] 25)).alloc (.cells #[.int .i64 x, .int .i64 y] 45)) 0 0 45)
    simpa using this)
  have HB1 := hide (HB0.out (.cells #[.slice dA dn dc, .slice (some ⟨b, o, none⟩) n c] 25) (.cells #[.int .i64 x, .int .i64 y] 45) (.cells #[.int .i64 0, .int .i64 0] 45))
  generalize World.alloc _ _ = w0 at *
  go_loopw [13] (fun i wr => ∃ k : Nat, k ≤ n ∧ i = .int .i64 k ∧ Below W.heap.size W wr ∧ Hid (Box2 wr (W.heap.size + 1) x y) ∧ Hid (Box2 wr (W.heap.size + 1 + 1) 0 0) ∧ W.heap.size + 3 ≤ wr.heap.size ∧ Hid (peerF l (x, y) = peerF (l.drop k) (x, y))) (fun i _ => n - (intOf i).toNat)
  case atStart => exact ⟨0, Nat.zero_le _, rfl, HB1.out, HX0, HZ0, by omega, hide rfl⟩
  case round =>
    clear HX0 HZ0 HB1 hw0 HB0
    obtain ⟨k, hk, rfl, hb, HX, HZ, hsz, HE⟩ := hrel
    have HB := hide hb
    clear hb
    by_cases hlt : k < n
    · obtain ⟨r, hr⟩ : ∃ r, l[k]? = some r := ⟨_, List.getElem?_eq_getElem (by have := HL.out.1; omega)⟩
      obtain ⟨hbB, q0, q1, q2, q3⟩ := link_get (HL.out.below HB.out HB.out.size) hr
      have HS := hide (peerF_drop hr (x, y))
      obtain ⟨ra, rp, rb, rq⟩ := r
      have hx1 := fun (o1 o2 o3 : Obj) => (World.cell?_alloc_lt ((wr.alloc o1).alloc o2) o3 ⟨W.heap.size + 1, 0, none⟩ (by simp; omega)).trans ((World.cell?_alloc_lt (wr.alloc o1) o2 ⟨W.heap.size + 1, 0, none⟩ (by simp; omega)).trans ((World.cell?_alloc_lt wr o1 ⟨W.heap.size + 1, 0, none⟩ (by simp; omega)).trans HX.out.1))
      have hx2 := fun (o1 o2 o3 : Obj) => (World.cell?_alloc_lt ((wr.alloc o1).alloc o2) o3 ⟨W.heap.size + 1, 1, none⟩ (by simp; omega)).trans ((World.cell?_alloc_lt (wr.alloc o1) o2 ⟨W.heap.size + 1, 1, none⟩ (by simp; omega)).trans ((World.cell?_alloc_lt wr o1 ⟨W.heap.size + 1, 1, none⟩ (by simp; omega)).trans HX.out.2.1))
      clear hr
      go_wp2
      clear q0 q1 q2 q3
      obtain ⟨N, hN⟩ : ∃ N, wr.heap.size = N := ⟨_, rfl⟩
      have hbx := heap_alloc_new wr (.cells #[.int .i64 ra, .int .i64 rp, .int .i64 rb, .int .i64 rq] 66)
      have hsx : (wr.alloc (.cells #[.int .i64 ra, .int .i64 rp, .int .i64 rb, .int .i64 rq] 66)).heap.size = wr.heap.size + 1 := by simp
      have HBw := hide (HB.out.alloc HB.out.size (.cells #[.int .i64 ra, .int .i64 rp, .int .i64 rb, .int .i64 rq] 66))
      rw [hN] at hbx hsx hsz ⊢
      have HXw := hide (HX.out.below ((Below.refl _ wr).alloc (Nat.le_refl _) (.cells #[.int .i64 ra, .int .i64 rp, .int .i64 rb, .int .i64 rq] 66)) (by omega))
      have HZw := hide (HZ.out.below ((Below.refl _ wr).alloc (Nat.le_refl _) (.cells #[.int .i64 ra, .int .i64 rp, .int .i64 rb, .int .i64 rq] 66)) (by omega))
      generalize wr.alloc _ = wx at *
      have y0 : wx.cell? ⟨N, 0, none⟩ = some (.int .i64 ra) := by rw [cell_of_row _ _ _ _ _ _ hbx]; rfl
      have y1 : wx.cell? ⟨N, 1, none⟩ = some (.int .i64 rp) := by rw [cell_of_row _ _ _ _ _ _ hbx]; rfl
      have y2 : wx.cell? ⟨N, 2, none⟩ = some (.int .i64 rb) := by rw [cell_of_row _ _ _ _ _ _ hbx]; rfl
      have y3 : wx.cell? ⟨N, 3, none⟩ = some (.int .i64 rq) := by rw [cell_of_row _ _ _ _ _ _ hbx]; rfl
      clear hbx hx1 hx2 hN
      have hNx : N < wx.heap.size := by omega
      have hWx : W.heap.size + 3 ≤ wx.heap.size := by omega
      have HF1 : Hid (∀ (u v : Pl), Below wx.heap.size wx ((wx.alloc (.cells #[.int .i64 u.1, .int .i64 u.2] 45)).alloc (.cells #[.int .i64 v.1, .int .i64 v.2] 45)) ∧ ((wx.alloc (.cells #[.int .i64 u.1, .int .i64 u.2] 45)).alloc (.cells #[.int .i64 v.1, .int .i64 v.2] 45)).heap.size = N + 3 ∧
          Box2 ((wx.alloc (.cells #[.int .i64 u.1, .int .i64 u.2] 45)).alloc (.cells #[.int .i64 v.1, .int .i64 v.2] 45)) (N + 1) u.1 u.2 ∧ Box2 ((wx.alloc (.cells #[.int .i64 u.1, .int .i64 u.2] 45)).alloc (.cells #[.int .i64 v.1, .int .i64 v.2] 45)) (N + 1 + 1) v.1 v.2) := hide (fun u v => by
        have hb1 : Below wx.heap.size wx (wx.alloc (.cells #[.int .i64 u.1, .int .i64 u.2] 45)) := (Below.refl _ _).alloc (Nat.le_refl _) _
        have hs : (wx.alloc (.cells #[.int .i64 u.1, .int .i64 u.2] 45)).heap.size = N + 1 + 1 := by rw [← hsx]; simp
        have b1 := Box2.new wx u.1 u.2 45
        have b2 := Box2.new (wx.alloc (.cells #[.int .i64 u.1, .int .i64 u.2] 45)) v.1 v.2 45
        rw [hsx] at b1
        rw [hs] at b2
        refine ⟨hb1.alloc hb1.size _, by simp; omega, b1.below ((Below.refl _ _).alloc (Nat.le_refl _) _) (by omega), b2⟩)
      go_region_held3 (fun w' => w'.cell? ⟨N, 0, none⟩ = some (.int .i64 ra) ∧ w'.cell? ⟨N, 1, none⟩ = some (.int .i64 rp) ∧ w'.cell? ⟨N, 2, none⟩ = some (.int .i64 rb) ∧ w'.cell? ⟨N, 3, none⟩ = some (.int .i64 rq)) (go_keep) (fail)
      · obtain ⟨hbz, hsz3, b1, b2⟩ := HF1.out (ra, rp) (rb, rq)
        have HBz := hide (HBw.out.trans (hbz.mono (by have := HBw.out.size; omega)))
        have HXz := hide (HXw.out.below hbz (by omega))
        have HZz := hide (HZw.out.below hbz (by omega))
        generalize World.alloc (World.alloc wx _) _ = wz at *
        have hsz' : W.heap.size + 3 ≤ wz.heap.size := by omega
        obtain ⟨u0, u1, _, _⟩ := b1
        obtain ⟨v0, v1, _, _⟩ := b2
        obtain ⟨x0, x1, _, _⟩ := HXz.out
        clear hbz HF1
        cases e1 : (x == ra)
        · cases e3 : (x == rb)
          · have HN := hide (show peerF l (x, y) = peerF (l.drop (k + 1)) (x, y) from by rw [HE.out, HS.out]; simp [eqP, LinkV.e1, LinkV.e2, e1, e3])
            go_wp2
            go_roundw
            case rel => exact ⟨k + 1, by omega, by go_num, HBz.out.drew, HXz, HZz, hsz', HN⟩
            case measure => simp [intOf]; omega
          · cases e4 : (y == rq)
            · have HN := hide (show peerF l (x, y) = peerF (l.drop (k + 1)) (x, y) from by rw [HE.out, HS.out]; simp [eqP, LinkV.e1, LinkV.e2, e1, e3, e4])
              go_wp2
              go_roundw
              case rel => exact ⟨k + 1, by omega, by go_num, HBz.out.drew, HXz, HZz, hsz', HN⟩
              case measure => simp [intOf]; omega
            · have HN := hide (show peerF l (x, y) = some (ra, rp) from by rw [HE.out, HS.out]; simp [eqP, LinkV.e1, LinkV.e2, e1, e3, e4])
              obtain ⟨z0, z1, z2, z3⟩ := HZz.out
              go_wp2
              refine bodyPost_ret (v := .tuple #[.agg #[.int .i64 ra, .int .i64 rp], .bool true]) (by simp [results, Try.results42, go_sem, z0, z1]) rfl ⟨by rw [HN.out]; rfl, ?_⟩
              first | exact ((HBz.out.setCell (le2 _) _).setCell (le2 _) _).drew | exact ((HBz.out.drew.setCell (le2 _) _).setCell (le2 _) _)
        · cases e2 : (y == rp)
          · cases e3 : (x == rb)
            · have HN := hide (show peerF l (x, y) = peerF (l.drop (k + 1)) (x, y) from by rw [HE.out, HS.out]; simp [eqP, LinkV.e1, LinkV.e2, e1, e2, e3])
              go_wp2
              go_roundw
              case rel => exact ⟨k + 1, by omega, by go_num, HBz.out.drew, HXz, HZz, hsz', HN⟩
              case measure => simp [intOf]; omega
            · cases e4 : (y == rq)
              · have HN := hide (show peerF l (x, y) = peerF (l.drop (k + 1)) (x, y) from by rw [HE.out, HS.out]; simp [eqP, LinkV.e1, LinkV.e2, e1, e2, e3, e4])
                go_wp2
                go_roundw
                case rel => exact ⟨k + 1, by omega, by go_num, HBz.out.drew, HXz, HZz, hsz', HN⟩
                case measure => simp [intOf]; omega
              · have HN := hide (show peerF l (x, y) = some (ra, rp) from by rw [HE.out, HS.out]; simp [eqP, LinkV.e1, LinkV.e2, e1, e2, e3, e4])
                obtain ⟨z0, z1, z2, z3⟩ := HZz.out
                go_wp2
                refine bodyPost_ret (v := .tuple #[.agg #[.int .i64 ra, .int .i64 rp], .bool true]) (by simp [results, Try.results42, go_sem, z0, z1]) rfl ⟨by rw [HN.out]; rfl, ?_⟩
                first | exact ((HBz.out.setCell (le2 _) _).setCell (le2 _) _).drew | exact ((HBz.out.drew.setCell (le2 _) _).setCell (le2 _) _)
          · have HN := hide (show peerF l (x, y) = some (rb, rq) from by rw [HE.out, HS.out]; simp [eqP, LinkV.e1, LinkV.e2, e1, e2])
            obtain ⟨z0, z1, z2, z3⟩ := HZz.out
            go_wp2
            refine bodyPost_ret (v := .tuple #[.agg #[.int .i64 rb, .int .i64 rq], .bool true]) (by simp [results, Try.results42, go_sem, z0, z1]) rfl ⟨by rw [HN.out]; rfl, ?_⟩
            first | exact ((HBz.out.setCell (le2 _) _).setCell (le2 _) _).drew | exact ((HBz.out.drew.setCell (le2 _) _).setCell (le2 _) _)
      · obtain ⟨hbz, hsz3, b1, b2⟩ := HF1.out (rb, rq) (ra, rp)
        have HBz := hide (HBw.out.trans (hbz.mono (by have := HBw.out.size; omega)))
        have HXz := hide (HXw.out.below hbz (by omega))
        have HZz := hide (HZw.out.below hbz (by omega))
        generalize World.alloc (World.alloc wx _) _ = wz at *
        have hsz' : W.heap.size + 3 ≤ wz.heap.size := by omega
        obtain ⟨u0, u1, _, _⟩ := b1
        obtain ⟨v0, v1, _, _⟩ := b2
        obtain ⟨x0, x1, _, _⟩ := HXz.out
        clear hbz HF1
        cases e1 : (x == ra)
        · cases e3 : (x == rb)
          · have HN := hide (show peerF l (x, y) = peerF (l.drop (k + 1)) (x, y) from by rw [HE.out, HS.out]; simp [eqP, LinkV.e1, LinkV.e2, e1, e3])
            go_wp2
            go_roundw
            case rel => exact ⟨k + 1, by omega, by go_num, HBz.out.drew, HXz, HZz, hsz', HN⟩
            case measure => simp [intOf]; omega
          · cases e4 : (y == rq)
            · have HN := hide (show peerF l (x, y) = peerF (l.drop (k + 1)) (x, y) from by rw [HE.out, HS.out]; simp [eqP, LinkV.e1, LinkV.e2, e1, e3, e4])
              go_wp2
              go_roundw
              case rel => exact ⟨k + 1, by omega, by go_num, HBz.out.drew, HXz, HZz, hsz', HN⟩
              case measure => simp [intOf]; omega
            · have HN := hide (show peerF l (x, y) = some (ra, rp) from by rw [HE.out, HS.out]; simp [eqP, LinkV.e1, LinkV.e2, e1, e3, e4])
              obtain ⟨z0, z1, z2, z3⟩ := HZz.out
              go_wp2
              refine bodyPost_ret (v := .tuple #[.agg #[.int .i64 ra, .int .i64 rp], .bool true]) (by simp [results, Try.results42, go_sem, z0, z1]) rfl ⟨by rw [HN.out]; rfl, ?_⟩
              first | exact ((HBz.out.setCell (le2 _) _).setCell (le2 _) _).drew | exact ((HBz.out.drew.setCell (le2 _) _).setCell (le2 _) _)
        · cases e2 : (y == rp)
          · cases e3 : (x == rb)
            · have HN := hide (show peerF l (x, y) = peerF (l.drop (k + 1)) (x, y) from by rw [HE.out, HS.out]; simp [eqP, LinkV.e1, LinkV.e2, e1, e2, e3])
              go_wp2
              go_roundw
              case rel => exact ⟨k + 1, by omega, by go_num, HBz.out.drew, HXz, HZz, hsz', HN⟩
              case measure => simp [intOf]; omega
            · cases e4 : (y == rq)
              · have HN := hide (show peerF l (x, y) = peerF (l.drop (k + 1)) (x, y) from by rw [HE.out, HS.out]; simp [eqP, LinkV.e1, LinkV.e2, e1, e2, e3, e4])
                go_wp2
                go_roundw
                case rel => exact ⟨k + 1, by omega, by go_num, HBz.out.drew, HXz, HZz, hsz', HN⟩
                case measure => simp [intOf]; omega
              · have HN := hide (show peerF l (x, y) = some (ra, rp) from by rw [HE.out, HS.out]; simp [eqP, LinkV.e1, LinkV.e2, e1, e2, e3, e4])
                obtain ⟨z0, z1, z2, z3⟩ := HZz.out
                go_wp2
                refine bodyPost_ret (v := .tuple #[.agg #[.int .i64 ra, .int .i64 rp], .bool true]) (by simp [results, Try.results42, go_sem, z0, z1]) rfl ⟨by rw [HN.out]; rfl, ?_⟩
                first | exact ((HBz.out.setCell (le2 _) _).setCell (le2 _) _).drew | exact ((HBz.out.drew.setCell (le2 _) _).setCell (le2 _) _)
          · have HN := hide (show peerF l (x, y) = some (rb, rq) from by rw [HE.out, HS.out]; simp [eqP, LinkV.e1, LinkV.e2, e1, e2])
            obtain ⟨z0, z1, z2, z3⟩ := HZz.out
            go_wp2
            refine bodyPost_ret (v := .tuple #[.agg #[.int .i64 rb, .int .i64 rq], .bool true]) (by simp [results, Try.results42, go_sem, z0, z1]) rfl ⟨by rw [HN.out]; rfl, ?_⟩
            first | exact ((HBz.out.setCell (le2 _) _).setCell (le2 _) _).drew | exact ((HBz.out.drew.setCell (le2 _) _).setCell (le2 _) _)
    · have HN := hide (show peerF l (x, y) = none from by rw [HE.out, List.drop_of_length_le (by have := HL.out.1; omega)]; rfl)
      obtain ⟨z0, z1, z2, z3⟩ := HZ.out
      go_wp2
      refine bodyPost_ret (v := .tuple #[.agg #[.int .i64 0, .int .i64 0], .bool false]) (by simp [results, Try.results42, go_sem, z0, z1]) rfl ⟨by rw [HN.out]; rfl, ?_⟩
      exact (HB.out.setCell (le2 _) _).setCell (le2 _) _
end Go.Proofs.Ytifkacnoiocebaa
