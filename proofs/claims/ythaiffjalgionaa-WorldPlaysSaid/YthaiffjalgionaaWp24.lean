/- A part of the proof: Arr, Opens, WorldF, ArrKeys, MindC. -/
import Derived.Test.YthaiffjalgionaaWp23

set_option linter.unusedVariables false
set_option linter.unusedSimpArgs false
namespace Go.Proofs.Ythaiffjalgionaa
open Go.RowKit

structure ArrV where
  d : Int
  y : Int
  p : P4
def ArrV.cells (x : ArrV) : List Value := [.int .i64 x.d, .int .i64 x.y, .int .i64 x.p.src, .int .i64 x.p.dst, .int .i64 x.p.sport, .int .i64 x.p.dport]
theorem ArrV.len (x : ArrV) : x.cells.length = 6 := rfl
theorem ArrV.one (x : ArrV) : ∀ u ∈ x.cells, u.oneCell' = true := by
  intro u hu
  simp only [ArrV.cells, List.mem_cons, List.not_mem_nil, or_false] at hu
  rcases hu with rfl | rfl | rfl | rfl | rfl | rfl <;> rfl
def ArrV.val (x : ArrV) : Value := .agg #[.int .i64 x.d, .int .i64 x.y, .int .i64 x.p.src, .int .i64 x.p.dst, .int .i64 x.p.sport, .int .i64 x.p.dport]
def eqA (x y : ArrV) : Bool := x.d == y.d && x.y == y.y && eq4 x.p y.p
theorem eqA_iff (x y : ArrV) : eqA x y = true ↔ x = y := by
  obtain ⟨a, c, p⟩ := x
  obtain ⟨a', c', p'⟩ := y
  simp [eqA, eq4_iff, and_assoc]
instance : DecidableEq ArrV := fun x y => decidable_of_iff _ (eqA_iff x y)
theorem any_eqA (x : ArrV) (l : List ArrV) : (l.any fun z => eqA x z) = decide (x ∈ l) := by
  cases h : (l.any fun z => eqA x z)
  · symm; rw [decide_eq_false_iff_not]
    intro hm
    have := List.any_eq_false.1 h x hm
    exact this ((eqA_iff x x).2 rfl)
  · symm; rw [decide_eq_true_eq]
    obtain ⟨z, hz, he⟩ := List.any_eq_true.1 h
    rw [(eqA_iff x z).1 he]; exact hz
structure ArrV.ok (x : ArrV) : Prop where
  d : i64ok x.d
  y : i64ok x.y
  p : x.p.ok
theorem arr_get {w : World} {B b o n k : Nat} {l : List ArrV} {x : ArrV} (h : SlAt ArrV.cells 6 w B (some ⟨b, o, none⟩) n l) (hx : l[k]? = some x) : w.cell? ⟨b, o + k * 6, none⟩ = some (.int .i64 x.d) ∧ w.cell? ⟨b, o + k * 6 + 1, none⟩ = some (.int .i64 x.y) ∧ w.cell? ⟨b, o + k * 6 + 2, none⟩ = some (.int .i64 x.p.src) ∧ w.cell? ⟨b, o + k * 6 + 3, none⟩ = some (.int .i64 x.p.dst) ∧ w.cell? ⟨b, o + k * 6 + 4, none⟩ = some (.int .i64 x.p.sport) ∧ w.cell? ⟨b, o + k * 6 + 5, none⟩ = some (.int .i64 x.p.dport) := by
  obtain ⟨_, hg⟩ := h.get hx
  exact ⟨hg 0 _ rfl, hg 1 _ rfl, hg 2 _ rfl, hg 3 _ rfl, hg 4 _ rfl, hg 5 _ rfl⟩

set_option maxRecDepth 100000 in
set_option maxHeartbeats 8000000 in
theorem indexArr_walk (l : List ArrV) (b o n c : Nat) (x : ArrV) (W : World) (hn : n ≤ 9223372036854775807) (hl : SlAt ArrV.cells 6 W W.heap.size (some ⟨b, o, none⟩) n l) (h0 : 0 < n) :
    Calls Try.prog 113 #[.slice (some ⟨b, o, none⟩) n c, .agg #[.int .i64 x.d, .int .i64 x.y, .int .i64 x.p.src, .int .i64 x.p.dst, .int .i64 x.p.sport, .int .i64 x.p.dport]] W fun e W' => e = .returned (.int .i64 (idxF (fun z => eqA x z) l)) ∧ Below W.heap.size W W' := by
  have HL := hide hl
  clear hl
  have hb0 : Below W.heap.size W (W.alloc (.cells #[.int .i64 x.d, .int .i64 x.y, .int .i64 x.p.src, .int .i64 x.p.dst, .int .i64 x.p.sport, .int .i64 x.p.dport] 43)) := (Below.refl _ _).alloc (Nat.le_refl _) _
  have HX0 := hide (BoxV.new W #[.int .i64 x.d, .int .i64 x.y, .int .i64 x.p.src, .int .i64 x.p.dst, .int .i64 x.p.sport, .int .i64 x.p.dport] 43)
  have hs0 : (W.alloc (.cells #[.int .i64 x.d, .int .i64 x.y, .int .i64 x.p.src, .int .i64 x.p.dst, .int .i64 x.p.sport, .int .i64 x.p.dport] 43)).heap.size = W.heap.size + 1 := by simp
  go_enter Try.func113, Try.ntmps113
  go_wp2
  generalize W.alloc _ = W0 at *
  have HB0 := hide hb0
  clear hb0
  go_loopw [8] (fun i wr => ∃ k : Nat, k ≤ n ∧ i = .int .i64 k ∧ Hid (Below W0.heap.size W0 wr) ∧ Hid (∀ j z, j < k → l[j]? = some z → eqA x z = false)) (fun i _ => n - (intOf i).toNat)
  case atStart => exact ⟨0, Nat.zero_le _, rfl, hide (Below.refl _ _), hide (fun j r h => absurd h (by omega))⟩
  case round =>
    obtain ⟨k, hk, rfl, HB, HN⟩ := hrel
    have HBW := hide (HB0.out.trans (HB.out.mono HB0.out.size))
    by_cases hlt : k < n
    · obtain ⟨z, hz⟩ : ∃ r, l[k]? = some r := ⟨_, List.getElem?_eq_getElem (by have := HL.out.1; omega)⟩
      obtain ⟨q0, q1, q2, q3, q4, q5⟩ := arr_get (HL.out.below HBW.out HBW.out.size) hz
      have hx := HX0.out.below HB.out (by omega)
      obtain ⟨x0, x1, x2, x3, x4, x5⟩ : wr.cell? ⟨W.heap.size, 0, none⟩ = some (.int .i64 x.d) ∧ wr.cell? ⟨W.heap.size, 1, none⟩ = some (.int .i64 x.y) ∧ wr.cell? ⟨W.heap.size, 2, none⟩ = some (.int .i64 x.p.src) ∧ wr.cell? ⟨W.heap.size, 3, none⟩ = some (.int .i64 x.p.dst) ∧ wr.cell? ⟨W.heap.size, 4, none⟩ = some (.int .i64 x.p.sport) ∧ wr.cell? ⟨W.heap.size, 5, none⟩ = some (.int .i64 x.p.dport) := ⟨hx.1 0 _ rfl, hx.1 1 _ rfl, hx.1 2 _ rfl, hx.1 3 _ rfl, hx.1 4 _ rfl, hx.1 5 _ rfl⟩
      have HZ := hide hz
      clear hz hx
      cases e0 : (x.d == z.d)
      · go_wp2
        go_quiet (fail)
        go_wp2
        go_roundw
        case rel => exact ⟨k + 1, by omega, by go_num, hide (HB.out.trans (below_drew _ _ _)), hide (fun j r hj hr => by
          rcases (by omega : j < k ∨ j = k) with h | rfl
          · exact HN.out j r h hr
          · have e := HZ.out; rw [e] at hr; cases hr; simp only [eqA, e0, Bool.false_and, Bool.and_false])⟩
        case measure => simp [intOf]; omega
      cases e5 : (x.y == z.y)
      · go_wp2
        go_quiet (fail)
        go_wp2
        go_roundw
        case rel => exact ⟨k + 1, by omega, by go_num, hide (HB.out.trans (below_drew _ _ _)), hide (fun j r hj hr => by
          rcases (by omega : j < k ∨ j = k) with h | rfl
          · exact HN.out j r h hr
          · have e := HZ.out; rw [e] at hr; cases hr; simp only [eqA, e5, Bool.false_and, Bool.and_false])⟩
        case measure => simp [intOf]; omega
      rcases peq x.p z.p with ⟨e1, ep⟩ | ⟨e1, e2, ep⟩ | ⟨e1, e2, e3, ep⟩ | ⟨e1, e2, e3, e4, ep⟩ | ⟨e1, e2, e3, e4, ep⟩
      · go_wp2
        go_quiet (fail)
        go_wp2
        go_roundw
        case rel => exact ⟨k + 1, by omega, by go_num, hide (HB.out.trans (below_drew _ _ _)), hide (fun j r hj hr => by
          rcases (by omega : j < k ∨ j = k) with h | rfl
          · exact HN.out j r h hr
          · have e := HZ.out; rw [e] at hr; cases hr; simp only [eqA, ep, Bool.false_and, Bool.and_false])⟩
        case measure => simp [intOf]; omega
      · go_wp2
        go_quiet (fail)
        go_wp2
        go_roundw
        case rel => exact ⟨k + 1, by omega, by go_num, hide (HB.out.trans (below_drew _ _ _)), hide (fun j r hj hr => by
          rcases (by omega : j < k ∨ j = k) with h | rfl
          · exact HN.out j r h hr
          · have e := HZ.out; rw [e] at hr; cases hr; simp only [eqA, ep, Bool.false_and, Bool.and_false])⟩
        case measure => simp [intOf]; omega
      · go_wp2
        go_quiet (fail)
        go_wp2
        go_roundw
        case rel => exact ⟨k + 1, by omega, by go_num, hide (HB.out.trans (below_drew _ _ _)), hide (fun j r hj hr => by
          rcases (by omega : j < k ∨ j = k) with h | rfl
          · exact HN.out j r h hr
          · have e := HZ.out; rw [e] at hr; cases hr; simp only [eqA, ep, Bool.false_and, Bool.and_false])⟩
        case measure => simp [intOf]; omega
      · go_wp2
        go_quiet (fail)
        go_wp2
        go_roundw
        case rel => exact ⟨k + 1, by omega, by go_num, hide (HB.out.trans (below_drew _ _ _)), hide (fun j r hj hr => by
          rcases (by omega : j < k ∨ j = k) with h | rfl
          · exact HN.out j r h hr
          · have e := HZ.out; rw [e] at hr; cases hr; simp only [eqA, ep, Bool.false_and, Bool.and_false])⟩
        case measure => simp [intOf]; omega
      · have HF := hide (idxF_found (p := fun z => eqA x z) HZ.out (by simp only [eqA, e0, ep, e5]; rfl) HN.out)
        go_wp2
        go_quiet (fail)
        go_wp2
        go_ret
        exact ⟨ret_i64 HF.out.symm, HBW.out.trans (below_drew _ _ _)⟩
    · have HF := hide (idxF_none (p := fun z => eqA x z) (l := l) (fun j r hj hr => HN.out j r (by have := HL.out.1; omega) hr))
      go_wp2
      go_ret
      exact ⟨ret_i64 HF.out.symm, HBW.out⟩
set_option maxRecDepth 100000 in
theorem indexArr_nil (A : Option Addr) (c : Nat) (x : ArrV) (W : World) : Calls Try.prog 113 #[.slice A 0 c, .agg #[.int .i64 x.d, .int .i64 x.y, .int .i64 x.p.src, .int .i64 x.p.dst, .int .i64 x.p.sport, .int .i64 x.p.dport]] W fun e W' => e = .returned (.int .i64 (-1)) ∧ Below W.heap.size W W' := by
  go_enter Try.func113, Try.ntmps113
  go_wp2
  refine wp_loop_rounds 1 ?_
  rw [rounds_succ]
  go_wp2
  go_ret
  exact ⟨rfl, (Below.refl _ _).alloc (Nat.le_refl _) _⟩
theorem indexArr_any (l : List ArrV) (A : Option Addr) (n c : Nat) (x : ArrV) (W : World) (hn : n ≤ 9223372036854775807) (hl : SlAt ArrV.cells 6 W W.heap.size A n l) :
    Calls Try.prog 113 #[.slice A n c, .agg #[.int .i64 x.d, .int .i64 x.y, .int .i64 x.p.src, .int .i64 x.p.dst, .int .i64 x.p.sport, .int .i64 x.p.dport]] W fun e W' => e = .returned (.int .i64 (idxF (fun z => eqA x z) l)) ∧ Below W.heap.size W W' := by
  rcases Nat.eq_zero_or_pos n with rfl | h0
  · have : l = [] := List.eq_nil_of_length_eq_zero hl.1
    subst this
    exact indexArr_nil A c x W
  · obtain ⟨b, o, rfl, hb, _⟩ := hl.2 h0
    exact indexArr_walk l b o n c x W hn hl h0
set_option maxRecDepth 100000 in
theorem containsArr_any (l : List ArrV) (A : Option Addr) (n c : Nat) (x : ArrV) (W : World) (hn : n ≤ 9223372036854775807) (hl : SlAt ArrV.cells 6 W W.heap.size A n l) :
    Calls Try.prog 38 #[.slice A n c, .agg #[.int .i64 x.d, .int .i64 x.y, .int .i64 x.p.src, .int .i64 x.p.dst, .int .i64 x.p.sport, .int .i64 x.p.dport]] W fun e W' => e = .returned (.bool (l.any fun z => eqA x z)) ∧ Below W.heap.size W W' := by
  have hb0 : Below W.heap.size W (W.alloc (.cells #[.int .i64 x.d, .int .i64 x.y, .int .i64 x.p.src, .int .i64 x.p.dst, .int .i64 x.p.sport, .int .i64 x.p.dport] 43)) := (Below.refl _ _).alloc (Nat.le_refl _) _
  have HC := hide (indexArr_any l A n c x (W.alloc (.cells #[.int .i64 x.d, .int .i64 x.y, .int .i64 x.p.src, .int .i64 x.p.dst, .int .i64 x.p.sport, .int .i64 x.p.dport] 43)) hn (hl.below hb0 hb0.size))
  have HB0 := hide hb0
  clear hl hb0
  rcases idxF_any (fun z => eqA x z) l with ⟨h1, k, h2⟩ | ⟨h1, h2⟩
  all_goals
    rw [h2] at HC
    rw [h1]
    clear h1 h2
    go_enter Try.func38, Try.ntmps38
    go_wp2_with fail
    refine HC.out.mono ?_
    rintro e w1 ⟨rfl, hb⟩
    have HB := hide (HB0.out.trans (hb.mono HB0.out.size))
    clear hb
    go_wp2
    go_ret
    exact ⟨rfl, HB.out⟩

set_option maxRecDepth 100000 in
theorem equalArr_yes (l : List ArrV) (A1 A2 : Option Addr) (n c1 c2 : Nat) (W : World) (hn : n ≤ 9223372036854775807) (h1 : SlAt ArrV.cells 6 W W.heap.size A1 n l) (h2 : SlAt ArrV.cells 6 W W.heap.size A2 n l) :
    Calls Try.prog 33 #[.slice A1 n c1, .slice A2 n c2] W fun e W' => e = .returned (.bool true) ∧ RowKit.Below W.heap.size W W' := by
  have H1 := hide h1
  have H2 := hide h2
  clear h1 h2
  go_enter Try.func33, Try.ntmps33
  go_wp2
  go_loopw [13] (fun i wr => ∃ k : Nat, k ≤ n ∧ i = .int .i64 k ∧ Hid (RowKit.Below W.heap.size W wr)) (fun i _ => n - (intOf i).toNat)
  case atStart => exact ⟨0, Nat.zero_le _, rfl, hide (RowKit.Below.refl _ _)⟩
  case round =>
    obtain ⟨k, hk, rfl, HB⟩ := hrel
    by_cases hlt : k < n
    · obtain ⟨z, hz⟩ : ∃ r, l[k]? = some r := ⟨_, List.getElem?_eq_getElem (by have := H1.out.1; omega)⟩
      obtain ⟨b, o, rfl, _, _⟩ := H1.out.2 (by omega)
      obtain ⟨b', o', rfl, _, _⟩ := H2.out.2 (by omega)
      obtain ⟨q0, q1, q2, q3, q4, q5⟩ := arr_get (H1.out.below HB.out HB.out.size) hz
      obtain ⟨u0, u1, u2, u3, u4, u5⟩ := arr_get (H2.out.below HB.out HB.out.size) hz
      clear hz
      go_wp2
      go_quiet (fail)
      go_wp2
      go_roundw
      case rel => exact ⟨k + 1, by omega, by go_num, hide (HB.out.trans (below_drew _ _ _))⟩
      case measure => simp [intOf]; omega
    · go_wp2
      go_ret
      exact ⟨rfl, HB.out⟩
end Go.Proofs.Ythaiffjalgionaa

set_option linter.unusedVariables false
set_option linter.unusedSimpArgs false
namespace Go.Proofs.Ythaiffjalgionaa
open Go.ChangeShapes Go.WideShapes Go.ChangeAt Go.RowKit

def P4.cells (p : P4) : List Value := [.int .i64 p.src, .int .i64 p.dst, .int .i64 p.sport, .int .i64 p.dport]
structure ActV where
  kind : Int
  dev : Int
  port : Int
  p : P4
  ch : Int
def ActV.cells (x : ActV) : List Value := [.int .i64 x.kind, .int .i64 x.dev, .int .i64 x.port, .int .i64 x.p.src, .int .i64 x.p.dst, .int .i64 x.p.sport, .int .i64 x.p.dport, .int .i64 x.ch]
theorem ActV.len (x : ActV) : x.cells.length = 8 := rfl
structure ActV.ok (x : ActV) : Prop where
  k : i64ok x.kind
  d : i64ok x.dev
  y : i64ok x.port
  p : x.p.ok
  c : i64ok x.ch

section
variable {H : Type} {enc : TypeId × Value → H} {w : World} {base : Nat} {spare : Nat → Bool} {held : Bool} {r : Reach} {b0 : Nat}
theorem Try.cellsPacket4 : Try.prog.cellsOf 39 = 4 := by kernel_rfl
set_option maxRecDepth 100000 in
theorem read_packet {n : Nat} {cs : List Value} {y : DataW H × List MemPlace} (h : DataW.trod enc Try.prog w base spare held n 39 cs = some y) : ∃ p : P4, p.ok ∧ cs = p.cells := by
  obtain ⟨xs, n', _, _, hlen, hxl, hf⟩ := DataW.trod_struct Try.underlying39 h
  rw [Try.cellsPacket4] at hlen
  match cs, hlen with
  | [c0, c1, c2, c3], _ =>
    have h0 := hf 0 _ rfl
    have h1 := hf 1 _ rfl
    have h2 := hf 2 _ rfl
    have h3 := hf 3 _ rfl
    obtain ⟨y0, e0⟩ := get_some (xs := xs) (i := 0) (by rw [hxl]; decide)
    obtain ⟨y1, e1⟩ := get_some (xs := xs) (i := 1) (by rw [hxl]; decide)
    obtain ⟨y2, e2⟩ := get_some (xs := xs) (i := 2) (by rw [hxl]; decide)
    obtain ⟨y3, e3⟩ := get_some (xs := xs) (i := 3) (by rw [hxl]; decide)
    rw [e0] at h0
    rw [e1] at h1
    rw [e2] at h2
    rw [e3] at h3
    simp [cellsI1] at h0 h1 h2 h3
    obtain ⟨a, rfl, ha⟩ := trod_i64 h0
    obtain ⟨b, rfl, hb⟩ := trod_i64 h1
    obtain ⟨c, rfl, hc⟩ := trod_i64 h2
    obtain ⟨d, rfl, hd⟩ := trod_i64 h3
    exact ⟨⟨a, b, c, d⟩, ⟨ha, hb, hc, hd⟩, rfl⟩
end
end Go.Proofs.Ythaiffjalgionaa

set_option linter.unusedVariables false
set_option linter.unusedSimpArgs false
namespace Go.Proofs.Ythaiffjalgionaa
open Go.RowKit

def comeS (S : List ArrV) (x : ArrV) : List ArrV := if x ∈ S then S else S ++ [x]
def injR (ls : List LinkV) (S : List ArrV) (i : Int) (p : P4) (r : Dev) : Int × List ArrV :=
  if r.kind ≠ 1 then (1, S) else if rightB p = false then (1, S) else if p.src ≠ r.addr then (1, S)
  else match peerF ls (i, 0) with
    | none => (7, S)
    | some z => (0, comeS S ⟨z.1, z.2, p⟩)
def injS (ds : List Dev) (ls : List LinkV) (S : List ArrV) (i : Int) (p : P4) : Int × List ArrV :=
  if inR i 0 ((ds.length : Int) - 1) = false then (4, S)
  else match ds[i.toNat]? with
    | none => (4, S)
    | some r => injR ls S i p r
theorem injS_out {ds : List Dev} {ls : List LinkV} {S : List ArrV} {i : Int} {p : P4} (h : inR i 0 ((ds.length : Int) - 1) = false) : injS ds ls S i p = (4, S) := if_pos h
theorem injS_some {ds : List Dev} {ls : List LinkV} {S : List ArrV} {i : Int} {p : P4} (h : inR i 0 ((ds.length : Int) - 1) = true) {r : Dev} (hr : ds[i.toNat]? = some r) : injS ds ls S i p = injR ls S i p r := by
  simp [injS, h, hr]
section
variable {ls : List LinkV} {S : List ArrV} {i : Int} {p : P4} {r : Dev}
theorem injR_kind (h : r.kind ≠ 1) : injR ls S i p r = (1, S) := if_pos h
theorem injR_right (h : r.kind = 1) (h2 : rightB p = false) : injR ls S i p r = (1, S) := by simp [injR, h, h2]
theorem injR_src (h : r.kind = 1) (h2 : rightB p = true) (h3 : p.src ≠ r.addr) : injR ls S i p r = (1, S) := by simp [injR, h, h2, h3]
theorem injR_none (h : r.kind = 1) (h2 : rightB p = true) (h3 : p.src = r.addr) (h4 : peerF ls (i, 0) = none) : injR ls S i p r = (7, S) := by simp [injR, h, h2, h3, h4]
theorem injR_some (h : r.kind = 1) (h2 : rightB p = true) (h3 : p.src = r.addr) {z : Pl} (h4 : peerF ls (i, 0) = some z) : injR ls S i p r = (0, comeS S ⟨z.1, z.2, p⟩) := by simp [injR, h, h2, h3, h4]
end
def HandS.come (h : HandS) (S : List ArrV) : List ArrV := if h.e = 0 then comeS S ⟨h.to.1, h.to.2, h.q⟩ else S
structure WS where
  M : MS
  S : List ArrV
structure TS where
  L : List FactV
  S : List ArrV
def doS (ds : List Dev) (ls : List LinkV) (Z : WS) (x : ActV) : Int × WS :=
  if x.kind = 1 then ((injS ds ls Z.S x.dev x.p).1, ⟨Z.M, (injS ds ls Z.S x.dev x.p).2⟩)
  else if x.kind = 2 then
    if (⟨x.dev, x.port, x.p⟩ : ArrV) ∈ Z.S then ((handS ds ls Z.M x.dev x.port x.p x.ch).e, ⟨Z.M.learn (handS ds ls Z.M x.dev x.port x.p x.ch).kn, (handS ds ls Z.M x.dev x.port x.p x.ch).come Z.S⟩)
    else (7, Z)
  else if x.kind = 3 then ((forgetS ds Z.M x.dev x.p x.ch).1, ⟨(forgetS ds Z.M x.dev x.p x.ch).2, Z.S⟩)
  else (1, Z)
def doT (ds : List Dev) (ls : List LinkV) (Z : TS) (x : ActV) : Int × TS :=
  if x.kind = 1 then ((injS ds ls Z.S x.dev x.p).1, ⟨Z.L, (injS ds ls Z.S x.dev x.p).2⟩)
  else if x.kind = 2 then
    if (⟨x.dev, x.port, x.p⟩ : ArrV) ∈ Z.S then ((mindS ds ls Z.L x.dev x.port x.p x.ch).1.e, ⟨(mindS ds ls Z.L x.dev x.port x.p x.ch).2, (mindS ds ls Z.L x.dev x.port x.p x.ch).1.come Z.S⟩)
    else (7, Z)
  else if x.kind = 3 then ((forgetM ds Z.L x.dev x.p x.ch).1, ⟨(forgetM ds Z.L x.dev x.p x.ch).2, Z.S⟩)
  else (1, Z)
structure RelW (ds : List Dev) (Z : WS) (T : TS) : Prop where
  r : Rel ds Z.M T.L
  s : Z.S = T.S
theorem HandS.val_inj {h h' : HandS} (e : h.val = h'.val) : h.e = h'.e ∧ h.to = h'.to ∧ h.q = h'.q := by
  obtain ⟨e1, ⟨t1, t2⟩, ⟨a, b, c, d⟩, k⟩ := h
  obtain ⟨e1', ⟨t1', t2'⟩, ⟨a', b', c', d'⟩, k'⟩ := h'
  simp only [HandS.val, Value.tuple.injEq, Array.mk.injEq, List.cons.injEq, Value.agg.injEq, Value.int.injEq, true_and, and_true] at e
  obtain ⟨⟨rfl, rfl, rfl, rfl, rfl, rfl⟩, rfl⟩ := e
  exact ⟨rfl, rfl, rfl⟩
theorem HandS.come_same {h h' : HandS} (e : h.val = h'.val) (S : List ArrV) : h.come S = h'.come S := by
  obtain ⟨e1, e2, e3⟩ := HandS.val_inj e
  simp only [HandS.come, e1, e2, e3]
theorem rel_do {ds : List Dev} {ls : List LinkV} {Z : WS} {T : TS} (h : RelW ds Z T) (x : ActV) : (doS ds ls Z x).1 = (doT ds ls T x).1 ∧ RelW ds (doS ds ls Z x).2 (doT ds ls T x).2 := by
  unfold doS doT
  by_cases h1 : x.kind = 1
  · rw [if_pos h1, if_pos h1, h.s]; exact ⟨rfl, h.r, rfl⟩
  rw [if_neg h1, if_neg h1]
  by_cases h2 : x.kind = 2
  · rw [if_pos h2, if_pos h2, h.s]
    by_cases h3 : (⟨x.dev, x.port, x.p⟩ : ArrV) ∈ T.S
    · rw [if_pos h3, if_pos h3]
      obtain ⟨q1, q2⟩ := rel_hand (i := x.dev) (y := x.port) (p := x.p) (ch := x.ch) (ls := ls) h.r
      exact ⟨(HandS.val_inj q1).1.symm, q2, (HandS.come_same q1 T.S).symm⟩
    · rw [if_neg h3, if_neg h3]; exact ⟨rfl, h.r, h.s⟩
  rw [if_neg h2, if_neg h2]
  by_cases h3 : x.kind = 3
  · rw [if_pos h3, if_pos h3]
    obtain ⟨q1, q2⟩ := rel_forget (i := x.dev) (p := x.p) (q := x.ch) h.r
    exact ⟨q1.symm, q2, h.s⟩
  · rw [if_neg h3, if_neg h3]; exact ⟨rfl, h⟩

structure GoodW (ds : List Dev) (Z : WS) : Prop where
  o : ∀ a v, Z.M.O a = some v → inR v.1 0 15 = true ∧ inR v.2 0 7 = true
  b : ∀ a v, Z.M.B a = some v → inR v 0 15 = true
  s : ∀ x ∈ Z.S, rightB x.p = true ∧ placeB ds (x.d, x.y) = true
  nd : Z.S.Nodup
theorem right4 {a b c d : Int} (h1 : inR a 0 15 = true) (h2 : inR b 0 15 = true) (h3 : inR c 0 7 = true) (h4 : inR d 0 7 = true) : rightB ⟨a, b, c, d⟩ = true := by simp [rightB, h1, h2, h3, h4]
theorem right_parts {p : P4} (h : rightB p = true) : inR p.src 0 15 = true ∧ inR p.dst 0 15 = true ∧ inR p.sport 0 7 = true ∧ inR p.dport 0 7 = true := by
  simp only [rightB, Bool.and_eq_true] at h
  exact ⟨h.1.1.1, h.1.1.2, h.1.2, h.2⟩
theorem inR_of {x lo hi : Int} (h1 : lo ≤ x) (h2 : x ≤ hi) : inR x lo hi = true := by simp [inR, h1, h2]
structure GoodM (M : MS) : Prop where
  o : ∀ a v, M.O a = some v → inR v.1 0 15 = true ∧ inR v.2 0 7 = true
  b : ∀ a v, M.B a = some v → inR v 0 15 = true
theorem GoodM.owner {M : MS} (h : GoodM M) (k : PoK) {u : Int × Int} (hu : inR u.1 0 15 = true ∧ inR u.2 0 7 = true) : GoodM (M.learn (.owner k u)) :=
  ⟨fun a v hv => by
    simp only [MS.learn] at hv
    by_cases e : a = k
    · rw [if_pos e] at hv; cases hv; exact hu
    · rw [if_neg e] at hv; exact h.o a v hv, h.b⟩
theorem GoodM.back {M : MS} (h : GoodM M) (k : OfK) {u : Int} (hu : inR u 0 15 = true) : GoodM (M.learn (.back k u)) :=
  ⟨h.o, fun a v hv => by
    simp only [MS.learn] at hv
    by_cases e : a = k
    · rw [if_pos e] at hv; cases hv; exact hu
    · rw [if_neg e] at hv; exact h.b a v hv⟩
theorem dev_addr {d : Dev} (h : DevOk d) (hk : d.kind = 4 ∨ d.kind = 5) : inR d.addr 0 15 = true := by
  have h1 := h.ar
  have h2 : addrB d.kind = true := by rcases hk with e | e <;> simp [addrB, e]
  rw [h2] at h1
  simp only [Bool.true_and, Bool.not_true, Bool.false_and, Bool.not_false, Bool.and_true, Bool.and_eq_true, Bool.not_not, decide_eq_true_eq] at h1
  exact inR_of h1.1.1 (by omega)
theorem dev_backs {d : Dev} (h : DevOk d) {b : Int} (hb : b ∈ d.backs) : inR b 0 15 = true := by
  have h2 := h.bb
  simp only [backsB, Bool.and_eq_true] at h2
  have := backsOk_mem _ _ _ h2.1 b hb
  exact inR_of this.1 (by omega)
theorem mineG_lt (M : MS) (i : Int) (o : Int × Int) : ∀ (m k : Nat), mineG M i o m k < (k : Int) + m ∨ mineG M i o m k = -1
  | 0, k => Or.inr rfl
  | m + 1, k => by
    by_cases h : M.O (i, (k : Int)) = some o
    · have e : mineG M i o (m + 1) k = (k : Int) := by simp [mineG, h]
      left; rw [e]; omega
    · have e : mineG M i o (m + 1) k = mineG M i o m (k + 1) := by simp [mineG, h]
      rw [e]
      have := mineG_lt M i o m (k + 1)
      omega
theorem mineF_lt (M : MS) (i : Int) (o : Int × Int) : mineF M i o < 8 := by
  have := mineG_lt M i o 8 0
  unfold mineF
  omega
theorem out_good {r : Dev} {M : MS} {i y : Int} {p : P4} {ch : Int} (hd : DevOk r) (hM : GoodM M) (hp : rightB p = true) (h1 : (outS r M i y p ch).2.2 = 0) (h2 : (outS r M i y p ch).2.1 = true) : rightB (outS r M i y p ch).1.q = true ∧ GoodM (M.learn (outS r M i y p ch).1.kn) := by
  obtain ⟨p1, p2, p3, p4⟩ := right_parts hp
  unfold outS at h1 h2 ⊢
  by_cases k2 : r.kind = 2
  · rw [if_pos k2]; exact ⟨hp, hM⟩
  rw [if_neg k2] at h1 h2 ⊢
  by_cases k3 : r.kind = 3
  · rw [if_pos k3]
    by_cases y0 : y = 0
    · simp only [fireF, if_pos y0]; exact ⟨hp, ⟨hM.o, hM.b⟩⟩
    · simp only [fireF, if_neg y0]; exact ⟨hp, hM⟩
  rw [if_neg k3] at h1 h2 ⊢
  by_cases k4 : r.kind = 4
  · rw [if_pos k4] at h1 h2 ⊢
    have ha := dev_addr hd (Or.inl k4)
    unfold natF at h1 h2 ⊢
    by_cases y1 : y = 1
    · rw [if_pos y1] at h1 h2 ⊢
      by_cases hda : p.dst ≠ r.addr
      · rw [if_pos hda] at h2; cases h2
      · rw [if_neg hda] at h2 ⊢
        cases hO : M.O (i, p.dport) with
        | none => rw [hO] at h2; cases h2
        | some o =>
          have := hM.o _ _ hO
          exact ⟨right4 p1 this.1 p3 this.2, hM⟩
    · rw [if_neg y1] at h1 h2 ⊢
      by_cases hm : 0 ≤ mineF M i (p.src, p.sport)
      · rw [if_pos hm]
        have hm8 : mineF M i (p.src, p.sport) < 8 := by
          exact mineF_lt M i (p.src, p.sport)
        exact ⟨right4 ha p2 (inR_of hm (by omega)) p4, hM.owner _ ⟨p1, p3⟩⟩
      · rw [if_neg hm] at h1 h2 ⊢
        by_cases hc : ch < 0 ∨ 8 ≤ ch ∨ hasBit r.pool ch = false
        · rw [if_pos hc] at h2; cases h2
        · rw [if_neg hc] at h1 h2 ⊢
          by_cases hf : (M.O (i, ch)).isSome = true
          · rw [if_pos hf] at h2; cases h2
          · rw [if_neg hf]
            have c1 : ¬ ch < 0 := fun e => hc (Or.inl e)
            have c2 : ¬ 8 ≤ ch := fun e => hc (Or.inr (Or.inl e))
            exact ⟨right4 ha p2 (inR_of (by omega) (by omega)) p4, hM.owner _ ⟨p1, p3⟩⟩
  rw [if_neg k4] at h1 h2 ⊢
  by_cases k5 : r.kind = 5
  · rw [if_pos k5] at h1 h2 ⊢
    have ha := dev_addr hd (Or.inr k5)
    unfold balF at h1 h2 ⊢
    by_cases y1 : y = 1
    · rw [if_pos y1]
      by_cases hb : M.B (i, ⟨p.dst, r.addr, p.dport, p.sport⟩) = some p.src
      · simp only [if_pos hb]; exact ⟨right4 ha p2 p3 p4, hM⟩
      · simp only [if_neg hb]; exact ⟨hp, hM⟩
    · rw [if_neg y1] at h1 h2 ⊢
      by_cases hda : p.dst ≠ r.addr
      · rw [if_pos hda]; exact ⟨hp, hM⟩
      · rw [if_neg hda] at h1 h2 ⊢
        cases hB : M.B (i, p) with
        | some b =>
          have := hM.b _ _ hB
          exact ⟨right4 p1 this p3 p4, hM.back _ this⟩
        | none =>
          rw [hB] at h1 h2
          cases hx : (if ch < 0 then none else r.backs[ch.toNat]?) with
          | none => rw [hx] at h1; cases h1
          | some b =>
            have hb : b ∈ r.backs := by
              by_cases c0 : ch < 0
              · rw [if_pos c0] at hx; cases hx
              · rw [if_neg c0] at hx; exact List.mem_of_getElem? hx
            have := dev_backs hd hb
            exact ⟨right4 p1 this p3 p4, hM.back _ this⟩
  · rw [if_neg k5] at h2; cases h2
theorem peer_place {ds : List Dev} {ls : List LinkV} (hE : netE ds ls = 0) {x z : Pl} (h : peerF ls x = some z) : placeB ds z = true := (netE_ok hE).pl z (peerF_some (netE_ok hE).nd h).2.1
theorem hand_good {ds : List Dev} {ls : List LinkV} {M : MS} {i y : Int} {p : P4} {ch : Int} (hE : netE ds ls = 0) (hM : GoodM M) : GoodM (M.learn (handS ds ls M i y p ch).kn) ∧ ((handS ds ls M i y p ch).e = 0 → rightB (handS ds ls M i y p ch).q = true ∧ placeB ds (handS ds ls M i y p ch).to = true) := by
  unfold handS
  by_cases h1 : placeB ds (i, y) = false
  · rw [if_pos h1]; exact ⟨hM, fun e => absurd e (by simp [HandS.bad])⟩
  rw [if_neg h1]
  by_cases h2 : rightB p = false
  · rw [if_pos h2]; exact ⟨hM, fun e => absurd e (by simp [HandS.bad])⟩
  rw [if_neg h2]
  cases hr : ds[i.toNat]? with
  | none => exact ⟨hM, fun e => absurd e (by simp [HandS.bad])⟩
  | some r =>
    show GoodM (M.learn (goS ls i (outS r M i y p ch)).kn) ∧ ((goS ls i (outS r M i y p ch)).e = 0 → rightB (goS ls i (outS r M i y p ch)).q = true ∧ placeB ds (goS ls i (outS r M i y p ch)).to = true)
    have hd := net_devs_ok hE r (List.mem_of_getElem? hr)
    have hg := out_good (i := i) (y := y) (ch := ch) hd hM (by simpa using h2)
    unfold goS
    by_cases e1 : (outS r M i y p ch).2.2 ≠ 0
    · rw [if_pos e1]; exact ⟨hM, fun e => absurd e e1⟩
    · rw [if_neg e1]
      cases hpe : peerF ls (i, (outS r M i y p ch).1.port) with
      | none => exact ⟨hM, fun e => absurd e (by simp [HandS.bad])⟩
      | some z =>
        cases h3 : (outS r M i y p ch).2.1
        · simp only [Bool.false_eq_true, if_false]; exact ⟨hM, fun e => absurd e (by simp [HandS.bad])⟩
        · simp only [if_true]
          have q := hg (by simpa using e1) h3
          exact ⟨q.2, fun _ => ⟨q.1, peer_place hE hpe⟩⟩
theorem come_good {ds : List Dev} {S : List ArrV} {x : ArrV} (h : ∀ x ∈ S, rightB x.p = true ∧ placeB ds (x.d, x.y) = true) (hx : rightB x.p = true ∧ placeB ds (x.d, x.y) = true) : ∀ z ∈ comeS S x, rightB z.p = true ∧ placeB ds (z.d, z.y) = true := by
  unfold comeS
  intro z hz
  split at hz
  · exact h z hz
  · rcases List.mem_append.1 hz with hz | hz
    · exact h z hz
    · rw [List.mem_singleton.1 hz]; exact hx
theorem come_nodup {S : List ArrV} {x : ArrV} (h : S.Nodup) : (comeS S x).Nodup := by
  unfold comeS
  split
  · exact h
  · rename_i hx
    rw [List.nodup_append]
    exact ⟨h, by simp, fun a ha b hb e => hx (by rw [← List.mem_singleton.1 hb, ← e]; exact ha)⟩
theorem come_cases (S : List ArrV) (x : ArrV) : comeS S x = S ∨ comeS S x = S ++ [x] := by
  unfold comeS
  split
  · exact Or.inl rfl
  · exact Or.inr rfl
theorem forget_good {ds : List Dev} {M : MS} {i : Int} {p : P4} {q : Int} (hM : GoodM M) : GoodM (forgetS ds M i p q).2 := by
  unfold forgetS
  repeat' split
  all_goals first
    | exact hM
    | exact ⟨fun a v hv => hM.o a v (by
        simp only [MS.drop] at hv
        first | exact hv | (split at hv <;> first | exact hv | cases hv)), fun a v hv => hM.b a v (by
        simp only [MS.drop] at hv
        first | exact hv | (split at hv <;> first | exact hv | cases hv))⟩
theorem do_good {ds : List Dev} {ls : List LinkV} {Z : WS} (hE : netE ds ls = 0) (h : GoodW ds Z) (x : ActV) : GoodW ds (doS ds ls Z x).2 ∧ ((doS ds ls Z x).2.S = Z.S ∨ (doS ds ls Z x).1 = 0 ∧ ∃ y, (doS ds ls Z x).2.S = Z.S ++ [y]) := by
  unfold doS
  by_cases h1 : x.kind = 1
  · rw [if_pos h1]
    unfold injS
    by_cases i1 : inR x.dev 0 ((ds.length : Int) - 1) = false
    · rw [if_pos i1]; exact ⟨⟨h.o, h.b, h.s, h.nd⟩, Or.inl rfl⟩
    rw [if_neg i1]
    cases hr : ds[x.dev.toNat]? with
    | none => exact ⟨⟨h.o, h.b, h.s, h.nd⟩, Or.inl rfl⟩
    | some r =>
      simp only [injR]
      by_cases k1 : r.kind ≠ 1
      · rw [if_pos k1]; exact ⟨⟨h.o, h.b, h.s, h.nd⟩, Or.inl rfl⟩
      rw [if_neg k1]
      by_cases k2 : rightB x.p = false
      · rw [if_pos k2]; exact ⟨⟨h.o, h.b, h.s, h.nd⟩, Or.inl rfl⟩
      rw [if_neg k2]
      by_cases k3 : x.p.src ≠ r.addr
      · rw [if_pos k3]; exact ⟨⟨h.o, h.b, h.s, h.nd⟩, Or.inl rfl⟩
      rw [if_neg k3]
      cases hpe : peerF ls (x.dev, 0) with
      | none => exact ⟨⟨h.o, h.b, h.s, h.nd⟩, Or.inl rfl⟩
      | some z =>
        simp only
        refine ⟨⟨h.o, h.b, come_good h.s ⟨by simpa using k2, peer_place hE hpe⟩, come_nodup h.nd⟩, ?_⟩
        rcases come_cases Z.S ⟨z.1, z.2, x.p⟩ with e | e
        · exact Or.inl e
        · exact Or.inr ⟨trivial, _, e⟩
  rw [if_neg h1]
  by_cases h2 : x.kind = 2
  · rw [if_pos h2]
    by_cases h3 : (⟨x.dev, x.port, x.p⟩ : ArrV) ∈ Z.S
    · rw [if_pos h3]
      obtain ⟨g1, g2⟩ := hand_good (i := x.dev) (y := x.port) (p := x.p) (ch := x.ch) (ls := ls) hE ⟨h.o, h.b⟩
      generalize handS ds ls Z.M x.dev x.port x.p x.ch = H at g1 g2
      by_cases e : H.e = 0
      · have hc : H.come Z.S = comeS Z.S ⟨H.to.1, H.to.2, H.q⟩ := by rw [HandS.come, if_pos e]
        refine ⟨⟨g1.o, g1.b, ?_, ?_⟩, ?_⟩
        · show ∀ z ∈ H.come Z.S, _
          rw [hc]; exact come_good h.s (g2 e)
        · show (H.come Z.S).Nodup
          rw [hc]; exact come_nodup h.nd
        · show H.come Z.S = Z.S ∨ H.e = 0 ∧ ∃ y, H.come Z.S = Z.S ++ [y]
          rw [hc]
          rcases come_cases Z.S ⟨H.to.1, H.to.2, H.q⟩ with q | q
          · exact Or.inl q
          · exact Or.inr ⟨e, _, q⟩
      · have hc : H.come Z.S = Z.S := by rw [HandS.come, if_neg e]
        refine ⟨⟨g1.o, g1.b, ?_, ?_⟩, Or.inl hc⟩
        · show ∀ z ∈ H.come Z.S, _
          rw [hc]; exact h.s
        · show (H.come Z.S).Nodup
          rw [hc]; exact h.nd
    · rw [if_neg h3]; exact ⟨h, Or.inl rfl⟩
  rw [if_neg h2]
  by_cases h3 : x.kind = 3
  · rw [if_pos h3]
    have g := forget_good (ds := ds) (i := x.dev) (p := x.p) (q := x.ch) ⟨h.o, h.b⟩
    exact ⟨⟨g.o, g.b, h.s, h.nd⟩, Or.inl rfl⟩
  · rw [if_neg h3]; exact ⟨h, Or.inl rfl⟩
end Go.Proofs.Ythaiffjalgionaa

set_option linter.unusedVariables false
set_option linter.unusedSimpArgs false
namespace Go.Proofs.Ythaiffjalgionaa
open Go.RowKit Go.Maps Go.WideElems

def arDom (k : ArrV) : Prop := k.ok
theorem arVal_inj (a b : ArrV) (h : a.val = b.val) : a = b := by
  obtain ⟨a0, a1, a2, a3, a4, a5⟩ := a
  obtain ⟨b0, b1, b2, b3, b4, b5⟩ := b
  simp only [ArrV.val, Value.agg.injEq, Array.mk.injEq, List.cons.injEq, Value.int.injEq, true_and, and_true] at h
  obtain ⟨rfl, rfl, rfl, rfl, rfl, rfl⟩ := h
  rfl
theorem rowAr : decide (43 < Try.prog.types.size) = true := by kernel_rfl
theorem atAr : Try.prog.keyTypeAt 3 43 = true := by kernel_rfl
theorem keyArT : Try.prog.keyType 43 = true := by kernel_rfl
theorem cellsAr6 : Try.prog.cellsOf 43 = 6 := by kernel_rfl
theorem cellsArPl2 : Try.prog.cellsOf 37 = 2 := by kernel_rfl
theorem lawAr : Keyed Try.prog 43 := Keyed.of_law (deep_law_laid Try.laidOut (m := 3) (by omega) (of_decide_eq_true rowAr) atAr (by rw [Try.underlying43]))
set_option maxHeartbeats 4000000 in
theorem ar_key {P : Program} {k i l q : TypeId} {f1 f2 e1 e2 g1 g2 g3 g4 : Field} (hu : P.underlying k = some (.struct #[f1, f2])) (hl : P.underlying l = some (.struct #[e1, e2])) (hq : P.underlying q = some (.struct #[g1, g2, g3, g4])) (h1 : f1.type = l ∧ f1.offset = 0 ∧ f1.name ≠ "_") (h2 : f2.type = q ∧ f2.offset = 2 ∧ f2.name ≠ "_")
    (k1 : e1.type = i ∧ e1.offset = 0 ∧ e1.name ≠ "_") (k2 : e2.type = i ∧ e2.offset = 1 ∧ e2.name ≠ "_")
    (j1 : g1.type = i ∧ g1.offset = 0 ∧ g1.name ≠ "_") (j2 : g2.type = i ∧ g2.offset = 1 ∧ g2.name ≠ "_") (j3 : g3.type = i ∧ g3.offset = 2 ∧ g3.name ≠ "_") (j4 : g4.type = i ∧ g4.offset = 3 ∧ g4.name ≠ "_")
    (hi : P.underlying i = some (.int .i64)) (hk : P.keyType k = true) (hc : P.cellsOf k = 6) (hcl : P.cellsOf l = 2) (hcq : P.cellsOf q = 4) (hci : P.cellsOf i = 1) (hm : ∃ m, P.types.size = m + 2) (t : ArrV) (ht : arDom t) : ∃ kl, keyOf P k t.val = some kl := by
  obtain ⟨a, y, b, c, d, e⟩ := t
  have w1 := i64ok_wf ht.d
  have w0 := i64ok_wf ht.y
  have w2 := i64ok_wf ht.p.1
  have w3 := i64ok_wf ht.p.2.1
  have w4 := i64ok_wf ht.p.2.2.1
  have w5 := i64ok_wf ht.p.2.2.2
  simp only at w0 w1 w2 w3 w4 w5
  obtain ⟨m, hm⟩ := hm
  unfold keyOf
  rw [hu]
  have hall : ∀ (i : Nat) (x : i < 4), ¬([g1, g2, g3, g4][i]'x).name = "_" := fun i x => match i, x with
    | 0, _ => j1.2.2
    | 1, _ => j2.2.2
    | 2, _ => j3.2.2
    | 3, _ => j4.2.2
  have hall2 : ∀ (i : Nat) (x : i < 2), ¬([e1, e2][i]'x).name = "_" := fun i x => match i, x with
    | 0, _ => k1.2.2
    | 1, _ => k2.2.2
  simp [hall, hall2, hk, Value.formed, hu, hl, hq, ArrV.val, hc, hcl, hcq, Value.cells, hm, Program.keyLits, hci, hi, w0, w1, w2, w3, w4, w5, h1, h2, k1, k2, j1, j2, j3, j4]
theorem arKeys : KeysAny Try.prog 43 ArrV.val arDom :=
  ⟨lawAr, ar_key Try.underlying43 Try.underlying37 Try.underlying39 ⟨rfl, rfl, by decide⟩ ⟨rfl, rfl, by decide⟩ ⟨rfl, rfl, by decide⟩ ⟨rfl, rfl, by decide⟩ ⟨rfl, rfl, by decide⟩ ⟨rfl, rfl, by decide⟩ ⟨rfl, rfl, by decide⟩ ⟨rfl, rfl, by decide⟩ Try.underlying3 keyArT cellsAr6 cellsArPl2 Try.cellsPacket cellsI types_succ2, arVal_inj⟩
end Go.Proofs.Ythaiffjalgionaa

set_option linter.unusedVariables false
set_option linter.unusedSimpArgs false
namespace Go.Proofs.Ythaiffjalgionaa
open Go.RowKit

theorem mcf_enters : ∀ (args : Array Value) (w' : World), (callFunc 80 args).run Try.prog w' = .ok (.enter 80 args) w' := enters_of Try.func80 (by kernel_rfl) rfl
set_option maxRecDepth 100000 in
set_option maxHeartbeats 4000000 in
theorem mcf_walk (x : FactV) (A1 A2 A3 A4 : Nat) (i kd q : Int) (p : P4) (w : World) (h1 : BoxV w A1 #[.int .i64 i]) (h2 : BoxV w A2 #[.int .i64 kd]) (h3 : BoxV w A3 #[.int .i64 q]) (h4 : BoxV w A4 #[.int .i64 p.src, .int .i64 p.dst, .int .i64 p.sport, .int .i64 p.dport]) :
    Calls Try.prog 80 (#[x.val] ++ #[.pointer (some ⟨A1, 0, none⟩), .pointer (some ⟨A2, 0, none⟩), .pointer (some ⟨A3, 0, none⟩), .pointer (some ⟨A4, 0, none⟩)]) w fun e w' => e = .returned (.bool (x.d == i && ((kd == 4 && x.n == q) || (kd != 4 && eq4 x.p p)))) ∧ Below w.heap.size w w' := by
  show Calls _ _ #[.agg #[.int .i64 x.d, .int .i64 x.p.src, .int .i64 x.p.dst, .int .i64 x.p.sport, .int .i64 x.p.dport, .int .i64 x.n], .pointer (some ⟨A1, 0, none⟩), .pointer (some ⟨A2, 0, none⟩), .pointer (some ⟨A3, 0, none⟩), .pointer (some ⟨A4, 0, none⟩)] w _
  have HB := hide (fun (o' : Obj) => show Below w.heap.size w (w.alloc o') from (Below.refl _ _).alloc (Nat.le_refl _) _)
  have a0 := fun (o' : Obj) => (h1.below ((Below.refl _ _).alloc (Nat.le_refl _) o') (cell_lt (h1.1 0 _ rfl))).1 0 _ rfl
  have b0 := fun (o' : Obj) => (h2.below ((Below.refl _ _).alloc (Nat.le_refl _) o') (cell_lt (h2.1 0 _ rfl))).1 0 _ rfl
  have c0 := fun (o' : Obj) => (h3.below ((Below.refl _ _).alloc (Nat.le_refl _) o') (cell_lt (h3.1 0 _ rfl))).1 0 _ rfl
  have d0 := fun (o' : Obj) => (h4.below ((Below.refl _ _).alloc (Nat.le_refl _) o') (cell_lt (h4.1 0 _ rfl))).1 0 _ rfl
  have d1 := fun (o' : Obj) => (h4.below ((Below.refl _ _).alloc (Nat.le_refl _) o') (cell_lt (h4.1 0 _ rfl))).1 1 _ rfl
  have d2 := fun (o' : Obj) => (h4.below ((Below.refl _ _).alloc (Nat.le_refl _) o') (cell_lt (h4.1 0 _ rfl))).1 2 _ rfl
  have d3 := fun (o' : Obj) => (h4.below ((Below.refl _ _).alloc (Nat.le_refl _) o') (cell_lt (h4.1 0 _ rfl))).1 3 _ rfl
  clear h1 h2 h3 h4
  cases e0 : (x.d == i)
  · simp only [Bool.false_and]
    go_enter Try.func80, Try.ntmps80
    go_wp2
    go_ret
    exact ⟨rfl, HB.out _⟩
  simp only [Bool.true_and]
  by_cases hk : kd = 4
  · subst hk
    have g4 : ((4 : Int) == 4) = true := rfl
    have g5 : ((4 : Int) != 4) = false := rfl
    simp only [g4, g5, Bool.true_and, Bool.false_and, Bool.or_false]
    cases e1 : (x.n == q)
    all_goals
      go_enter Try.func80, Try.ntmps80
      go_wp2
      go_ret
      exact ⟨rfl, HB.out _⟩
  have g4 : (kd == 4) = false := by simpa using hk
  have g5 : (kd != 4) = true := by simpa using hk
  rw [g4, g5]
  simp only [Bool.true_and, Bool.false_and, Bool.false_or]
  rcases peq x.p p with ⟨e1, ep⟩ | ⟨e1, e2, ep⟩ | ⟨e1, e2, e3, ep⟩ | ⟨e1, e2, e3, e4, ep⟩ | ⟨e1, e2, e3, e4, ep⟩
  all_goals
    rw [ep]
    clear ep
    go_enter Try.func80, Try.ntmps80
    go_wp2
    go_ret
    exact ⟨rfl, HB.out _⟩
end Go.Proofs.Ythaiffjalgionaa
