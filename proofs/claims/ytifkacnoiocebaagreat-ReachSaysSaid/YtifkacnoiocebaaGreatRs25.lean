/- A part of the proof: Sp2, RefPeer, Boxes, StepStay, Sp3, Sp4, Sp5. -/
import Derived.Test.YtifkacnoiocebaaGreatRs24
import Derived.Deep.MidRow
set_option linter.unusedVariables false
set_option linter.unusedSimpArgs false
set_option maxRecDepth 100000
set_option maxHeartbeats 8000000
namespace Go.Proofs.YtifkacnoiocebaaGreat
open Go.Maps Go.RowKit Go.WideElems
def T16 (w : World) (b : Nat) (T : Nat → Int) : Prop := ∀ c, c < 16384 → w.cell? ⟨b, c, none⟩ = some (.int .i64 (T c))
def slV (b : Nat) : Value := .slice (some ⟨b, 0, none⟩) 16384 16384
structure SetsAt (w : World) (s mb : Nat) (rd : Int) (D : PoK → Prop) (blk : PoK → Nat) (T : PoK → Nat → Int) (M : PoK → Option Value) : Prop where
  c0 : w.cell? ⟨s, 0, none⟩ = some (.int .i64 rd)
  c1 : w.cell? ⟨s, 1, none⟩ = some (.map (some mb))
  mp : MapIs Tryz.prog 27 poVal poDom w mb M
  val : ∀ x, D x → M x = some (slV (blk x))
  no : ∀ x, ¬ D x → M x = none
  tab : ∀ x, D x → T16 w (blk x) (T x)
  inj : ∀ x y, D x → D y → blk x = blk y → x = y
  ne : ∀ x, D x → blk x ≠ s ∧ blk x ≠ mb
  nsm : s ≠ mb
theorem MapIs.lookS {w : World} {b : Nat} {M : PoK → Option Value} (h : MapIs Tryz.prog 27 poVal poDom w b M) (x y : Int) (hx : i64ok x) (hy : i64ok y) :
    (Instr.lookup 42 (.map (some b)) (.agg #[.int .i64 x, .int .i64 y]) false).run Tryz.prog w = .ok ((M (x, y)).getD (.slice none 0 0)) w :=
  (h.lookA placeKeys Tryz.underlying42 (z := .slice none 0 0) (by kernel_rfl) (a := (x, y)) ⟨hx, hy⟩).2
def updT (T : PoK → Nat → Int) (x : PoK) (c : Nat) (v : Int) : PoK → Nat → Int := fun y d => if y = x ∧ d = c then v else T y d
section
variable {w w' : World} {s mb : Nat} {rd : Int} {D : PoK → Prop} {blk : PoK → Nat} {T : PoK → Nat → Int} {M : PoK → Option Value}
theorem SetsAt.same (h : SetsAt w s mb rd D blk T M) (hs : ∀ b, b = s ∨ b = mb ∨ (∃ x, D x ∧ b = blk x) → w'.heap[b]? = w.heap[b]?) : SetsAt w' s mb rd D blk T M := by
  have hc : ∀ b, b = s ∨ b = mb ∨ (∃ x, D x ∧ b = blk x) → ∀ o, w'.cell? ⟨b, o, none⟩ = w.cell? ⟨b, o, none⟩ := fun b hb o => by
    unfold World.cell?
    rw [hs b hb]
  exact ⟨by rw [hc s (.inl rfl)]; exact h.c0, by rw [hc s (.inl rfl)]; exact h.c1, h.mp.same (hs mb (.inr (.inl rfl))), h.val, h.no, fun x hx c hcc => by rw [hc _ (.inr (.inr ⟨x, hx, rfl⟩))]; exact h.tab x hx c hcc, h.inj, h.ne, h.nsm⟩
end
theorem was_walk (w : World) (s mb : Nat) (rd : Int) (D : PoK → Prop) (blk : PoK → Nat) (T : PoK → Nat → Int) (M : PoK → Option Value) (h : SetsAt w s mb rd D blk T M) (i port : Int) (hx : i64ok i) (hy : i64ok port) (hD : D (i, port)) (c : Nat) (hc : c < 16384) (k : Int) :
    Calls Tryz.prog 64 #[.pointer (some ⟨s, 0, none⟩), .int .i64 i, .int .i64 port, .int .i64 (c : Int), .int .i64 k] w fun e w' => e = .returned (.bool (decide (0 ≤ T (i, port) c) && decide (T (i, port) c ≤ k))) ∧ w = w' := by
  have hlk := h.mp.lookS i port hx hy
  rw [h.val _ hD] at hlk
  simp only [Option.getD_some, slV] at hlk
  have h1 := h.c1
  have h2 := h.tab _ hD c hc
  generalize T (i, port) c = t at *
  generalize blk (i, port) = b at *
  clear h
  have i1 : (0 : Int) ≤ (c : Int) := by omega
  have i2 : (c : Int) < 16384 := by omega
  go_enter Tryz.func64, Tryz.ntmps64
  go_wp2
  all_goals go_ret
  all_goals (rename_i ht; refine ⟨?_, rfl⟩; first | (simp [ht]; done) | (simp; omega))
theorem cells4c {w : World} {b : Nat} {x0 x1 x2 x3 : Value} {t : TypeId} (h : w.heap[b]? = some (.cells #[x0, x1, x2, x3] t)) :
    w.cell? ⟨b, 0, none⟩ = some x0 ∧ w.cell? ⟨b, 1, none⟩ = some x1 ∧ w.cell? ⟨b, 2, none⟩ = some x2 ∧ w.cell? ⟨b, 3, none⟩ = some x3 :=
  ⟨by rw [cell_of_row _ _ _ _ _ _ h]; rfl, by rw [cell_of_row _ _ _ _ _ _ h]; rfl, by rw [cell_of_row _ _ _ _ _ _ h]; rfl, by rw [cell_of_row _ _ _ _ _ _ h]; rfl⟩
theorem codeR_walk (a b c d : Nat) (h1 : a < 16) (h2 : b < 16) (h3 : c < 8) (h4 : d < 8) (W : World) :
    Calls Tryz.prog 33 #[.agg #[.int .i64 (a : Int), .int .i64 (b : Int), .int .i64 (c : Int), .int .i64 (d : Int)]] W fun e W' => e = .returned (.int .i64 ((a * 1024 + b * 64 + c * 8 + d : Nat) : Int)) ∧ RowKit.Below W.heap.size W W' := by
  have hx := heap_alloc_new W (.cells #[.int .i64 (a : Int), .int .i64 (b : Int), .int .i64 (c : Int), .int .i64 (d : Int)] 29)
  have HB := hide ((RowKit.Below.refl W.heap.size W).alloc (Nat.le_refl _) (.cells #[.int .i64 (a : Int), .int .i64 (b : Int), .int .i64 (c : Int), .int .i64 (d : Int)] 29))
  obtain ⟨z0, z1, z2, z3⟩ := cells4c hx
  go_enter Tryz.func33, Tryz.ntmps33
  go_wp2_with fail
  generalize W.alloc (.cells #[.int .i64 (a : Int), .int .i64 (b : Int), .int .i64 (c : Int), .int .i64 (d : Int)] 29) = w1 at *
  clear hx
  go_wp2
  go_ret
  refine ⟨?_, HB.out⟩
  congr 2
end Go.Proofs.YtifkacnoiocebaaGreat
namespace Go.Proofs.YtifkacnoiocebaaGreat
open Go.RowKit
theorem beqI (a b : Int) : (a == b) = (b == a) := by
  rw [Bool.eq_iff_iff, beq_iff_eq, beq_iff_eq]; exact eq_comm
theorem refPeer_any (dA : Option Addr) (dn dc : Nat) (lA : Option Addr) (ln lc : Nat) (ls : List LinkV) (x y : Int) (W : World) (hn : ln ≤ 9223372036854775807) (hl : SlAt LinkV.cells 4 W W.heap.size lA ln ls) :
    Calls Tryz.prog 31 #[.agg #[.slice dA dn dc, .slice lA ln lc], .agg #[.int .i64 x, .int .i64 y]] W fun e W' => e = .returned (peerV (peerF ls (x, y))) ∧ Below W.heap.size W W' := by
  have HL := hide (fun (w' : World) (hb : RowKit.Below W.heap.size W w') => show SlAt LinkV.cells 4 w' w'.heap.size lA ln ls from hl.below hb hb.size)
  have HLL := hide hl.1
  clear hl
  have hG : ∃ W0, W0 = ((W.alloc (.cells #[.slice dA dn dc, .slice lA ln lc] 25)).alloc (.cells #[.int .i64 x, .int .i64 y] 27)).alloc (.cells #[.int .i64 0, .int .i64 0] 27) := ⟨_, rfl⟩
  obtain ⟨W0, hG⟩ := hG
  have hz : W0.heap.size = W.heap.size + 3 := by rw [hG]; simp
  have HQ := hide (fun (w' : World) (hb : RowKit.Below W0.heap.size W0 w') => show (w'.cell? ⟨W.heap.size, 1, none⟩ = some (.slice lA ln lc) ∧ w'.cell? ⟨W.heap.size + 1, 0, none⟩ = some (.int .i64 x) ∧ w'.cell? ⟨W.heap.size + 1, 1, none⟩ = some (.int .i64 y)) ∧ Box2 w' (W.heap.size + 1 + 1) 0 0 ∧ RowKit.Below W.heap.size W w' from by
    have hbB : Box2 W0 (W.heap.size + 1 + 1) 0 0 := by
      rw [hG]
      have := Box2.new ((W.alloc (.cells #[.slice dA dn dc, .slice lA ln lc] 25)).alloc (.cells #[.int .i64 x, .int .i64 y] 27)) 0 0 27
      simpa using this
    have hbox := hbB.below hb (by omega)
    rw [hz, hG] at hb
    obtain ⟨c, h1, h2⟩ := boxesL [(#[.slice dA dn dc, .slice lA ln lc], 25), (#[.int .i64 x, .int .i64 y], 27), (#[.int .i64 0, .int .i64 0], 27)] W hb
    exact ⟨⟨c 0 _ _ rfl 1 _ rfl, c 1 _ _ rfl 0 _ rfl, c 1 _ _ rfl 1 _ rfl⟩, hbox, h1⟩)
  have HG := hide hG
  have HR := hide (RowKit.Below.refl W0.heap.size W0)
  have HZ := hide hz
  clear hG hz
  go_enter Tryz.func31, Tryz.ntmps31
  go_wp2
  rw [← HG.out]
  go_loopw [6] (fun i wr => ∃ k : Nat, k ≤ ln ∧ i = .int .i64 k ∧ Hid (peerF ls (x, y) = peerF (ls.drop k) (x, y)) ∧ Hid (RowKit.Below W0.heap.size W0 wr)) (fun i _ => ln - (intOf i).toNat)
  case atStart => exact ⟨0, Nat.zero_le _, rfl, hide rfl, HR⟩
  case round =>
    clear HR
    obtain ⟨k, hk, rfl, HE, HB⟩ := hrel
    obtain ⟨⟨x0, x1, x2⟩, ⟨z0, z1, z2, z3⟩, hbW⟩ := HQ.out wr HB.out
    have HBW := hide hbW
    clear hbW
    by_cases hlt : k < ln
    · obtain ⟨r, hr⟩ : ∃ r, ls[k]? = some r := ⟨_, List.getElem?_eq_getElem (by have := HLL.out; omega)⟩
      have HS := hide (peerF_drop hr (x, y))
      obtain ⟨b, o, rfl, _, _⟩ := (HL.out _ HBW.out).2 (by omega)
      obtain ⟨hbB, q0, q1, q2, q3⟩ := link_get (HL.out _ HBW.out) hr
      have HBA := hide (fun o => show RowKit.Below W0.heap.size W0 (wr.alloc o) from HB.out.alloc HB.out.size o)
      have v1 := fun o => (HQ.out _ (HBA.out o)).1.2.1
      have v2 := fun o => (HQ.out _ (HBA.out o)).1.2.2
      have v3 := fun o => (HQ.out _ (HBA.out o)).2.1.1
      have v4 := fun o => (HQ.out _ (HBA.out o)).2.1.2.1
      have v5 := fun o => (HQ.out _ (HBA.out o)).2.1.2.2.1
      have v6 := fun o => (HQ.out _ (HBA.out o)).2.1.2.2.2
      have HBB := hide (fun o => (HQ.out _ (HBA.out o)).2.2)
      clear hr
      obtain ⟨ra, rp, rb, rq⟩ := r
      cases e1 : (ra == x)
      · cases e3 : (rb == x)
        · have HN := hide (show peerF ls (x, y) = peerF (ls.drop (k + 1)) (x, y) from by rw [HE.out, HS.out]; simp only [eqP, LinkV.e1, LinkV.e2, beqI x, beqI y, e1, e3, Bool.false_and, Bool.and_false, Bool.false_eq_true, if_false])
          go_wp2
          go_roundw
          case rel => exact ⟨k + 1, by omega, by go_num, HN, hide (HBA.out _)⟩
          case measure => simp [intOf]; omega
        · cases e4 : (rq == y)
          · have HN := hide (show peerF ls (x, y) = peerF (ls.drop (k + 1)) (x, y) from by rw [HE.out, HS.out]; simp only [eqP, LinkV.e1, LinkV.e2, beqI x, beqI y, e1, e3, e4, Bool.false_and, Bool.and_false, Bool.false_eq_true, if_false])
            go_wp2
            go_roundw
            case rel => exact ⟨k + 1, by omega, by go_num, HN, hide (HBA.out _)⟩
            case measure => simp [intOf]; omega
          · have HN := hide (show peerF ls (x, y) = some (ra, rp) from by rw [HE.out, HS.out]; simp only [eqP, LinkV.e1, LinkV.e2, beqI x, beqI y, e1, e3, e4, Bool.false_and, Bool.and_false, Bool.and_self, Bool.false_eq_true, if_false, if_true])
            go_wp2
            refine bodyPost_ret (v := .tuple #[.agg #[.int .i64 ra, .int .i64 rp], .bool true]) (by simp [results, Tryz.results31, go_sem, v3, v4]) rfl ⟨by rw [HN.out]; rfl, ?_⟩
            exact ((HBB.out _).setCell (le2 _) _).setCell (le2 _) _
      · cases e2 : (rp == y)
        · cases e3 : (rb == x)
          · have HN := hide (show peerF ls (x, y) = peerF (ls.drop (k + 1)) (x, y) from by rw [HE.out, HS.out]; simp only [eqP, LinkV.e1, LinkV.e2, beqI x, beqI y, e1, e2, e3, Bool.false_and, Bool.and_false, Bool.false_eq_true, if_false])
            go_wp2
            go_roundw
            case rel => exact ⟨k + 1, by omega, by go_num, HN, hide (HBA.out _)⟩
            case measure => simp [intOf]; omega
          · cases e4 : (rq == y)
            · have HN := hide (show peerF ls (x, y) = peerF (ls.drop (k + 1)) (x, y) from by rw [HE.out, HS.out]; simp only [eqP, LinkV.e1, LinkV.e2, beqI x, beqI y, e1, e2, e3, e4, Bool.false_and, Bool.and_false, Bool.false_eq_true, if_false])
              go_wp2
              go_roundw
              case rel => exact ⟨k + 1, by omega, by go_num, HN, hide (HBA.out _)⟩
              case measure => simp [intOf]; omega
            · have HN := hide (show peerF ls (x, y) = some (ra, rp) from by rw [HE.out, HS.out]; simp only [eqP, LinkV.e1, LinkV.e2, beqI x, beqI y, e1, e2, e3, e4, Bool.false_and, Bool.and_false, Bool.and_self, Bool.false_eq_true, if_false, if_true])
              go_wp2
              refine bodyPost_ret (v := .tuple #[.agg #[.int .i64 ra, .int .i64 rp], .bool true]) (by simp [results, Tryz.results31, go_sem, v3, v4]) rfl ⟨by rw [HN.out]; rfl, ?_⟩
              exact ((HBB.out _).setCell (le2 _) _).setCell (le2 _) _
        · have HN := hide (show peerF ls (x, y) = some (rb, rq) from by rw [HE.out, HS.out]; simp only [eqP, LinkV.e1, LinkV.e2, beqI x, beqI y, e1, e2, Bool.false_and, Bool.and_false, Bool.and_self, Bool.false_eq_true, if_false, if_true])
          go_wp2
          refine bodyPost_ret (v := .tuple #[.agg #[.int .i64 rb, .int .i64 rq], .bool true]) (by simp [results, Tryz.results31, go_sem, v3, v4]) rfl ⟨by rw [HN.out]; rfl, ?_⟩
          exact ((HBB.out _).setCell (le2 _) _).setCell (le2 _) _
    · have HN := hide (show peerF ls (x, y) = none from by rw [HE.out, List.drop_of_length_le (by have := HLL.out; omega)]; rfl)
      go_wp2
      refine bodyPost_ret (v := .tuple #[.agg #[.int .i64 0, .int .i64 0], .bool false]) (by simp [results, Tryz.results31, go_sem, z0, z1]) rfl ⟨by rw [HN.out]; rfl, ?_⟩
      exact (HBW.out.setCell (le2 _) _).setCell (le2 _) _
open Go.Maps
def BoxV (w : World) (N : Nat) (vs : Array Value) : Prop := (∀ (j : Nat) (v : Value), vs[j]? = some v → w.cell? ⟨N, j, none⟩ = some v) ∧ ∀ o, w.frozen? ⟨N, o, none⟩ = false
theorem BoxV.of_block {w : World} {N : Nat} {vs : Array Value} {t : TypeId} (h : w.heap[N]? = some (.cells vs t)) : BoxV w N vs :=
  ⟨fun j v hv => by rw [cell_of_row _ _ _ _ _ _ h]; exact hv, fun o => by unfold World.frozen?; simp only [h]; simp⟩
theorem BoxV.new (w : World) (vs : Array Value) (t : TypeId) : BoxV (w.alloc (.cells vs t)) w.heap.size vs := BoxV.of_block (heap_alloc_new w _)
theorem BoxV.below {w w' : World} {B N : Nat} {vs : Array Value} (h : BoxV w N vs) (hB : Below B w w') (hN : N < B) : BoxV w' N vs :=
  ⟨fun j v hv => (hB.cell (p := ⟨N, j, none⟩) hN).trans (h.1 j v hv), fun o => (hB.frozen (p := ⟨N, o, none⟩) hN).trans (h.2 o)⟩
theorem BoxV.set {w : World} {N : Nat} {vs : Array Value} (h : BoxV w N vs) (j : Nat) (v : Value) : BoxV (w.setCell ⟨N, j, none⟩ v) N (vs.setIfInBounds j v) := by
  refine ⟨fun i u hu => ?_, fun o => by rw [World.frozen?_setCell]; exact h.2 o⟩
  by_cases e : j = i
  · subst e
    rw [Array.getElem?_setIfInBounds_self] at hu
    split at hu
    · rename_i hj
      cases hu
      exact World.cell?_setCell_same _ _ _ (h.1 j _ (Array.getElem?_eq_getElem hj))
    · cases hu
  · rw [Array.getElem?_setIfInBounds_ne e] at hu
    rw [World.cell?_setCell_other _ _ _ _ (by simp [Ne.symm e])]
    exact h.1 i u hu
theorem BoxV.far {w : World} {N : Nat} {vs : Array Value} (h : BoxV w N vs) (a : Addr) (v : Value) (hne : a.block ≠ N) : BoxV (w.setCell a v) N vs := by
  refine ⟨fun i u hu => ?_, fun o => by rw [World.frozen?_setCell]; exact h.2 o⟩
  rw [World.cell?_setCell_other _ _ _ _ (by intro e; apply hne; rw [e])]
  exact h.1 i u hu
theorem boxesB : ∀ (l : List (Array Value × TypeId)) (W : World) (i : Nat) c t, l[i]? = some (c, t) → (l.foldl (fun w x => w.alloc (.cells x.1 x.2)) W).heap[W.heap.size + i]? = some (.cells c t) := by
  intro l
  induction l with
  | nil => intro W i c t h; simp at h
  | cons x l ih =>
    intro W i c t h
    have hz : (W.alloc (.cells x.1 x.2)).heap.size = W.heap.size + 1 := by simp
    simp only [List.foldl_cons]
    cases i with
    | zero =>
      cases h
      obtain ⟨_, hb, _⟩ := boxesL l (W.alloc (.cells c t)) (Below.refl _ _)
      rw [hz] at hb
      rw [Nat.add_zero, hb.block _ (Nat.lt_succ_self _)]
      exact heap_alloc_new W _
    | succ i =>
      have := ih (W.alloc (.cells x.1 x.2)) i c t (by simpa using h)
      rw [hz] at this
      rw [show W.heap.size + (i + 1) = W.heap.size + 1 + i by omega]
      exact this
theorem boxesV (l : List (Array Value × TypeId)) (W : World) {W' : World} {B : Nat} (hb : Below B (l.foldl (fun w x => w.alloc (.cells x.1 x.2)) W) W') :
    (∀ (i : Nat) c t, l[i]? = some (c, t) → W.heap.size + i < B → BoxV W' (W.heap.size + i) c) ∧ (W.heap.size ≤ B → Below W.heap.size W W') := by
  refine ⟨fun i c t hi hB => BoxV.of_block (t := t) ((hb.block _ hB).trans (boxesB l W i c t hi)), fun hB => ?_⟩
  obtain ⟨_, h2, _⟩ := boxesL l W (Below.refl _ _)
  exact h2.trans (hb.mono hB)
end Go.Proofs.YtifkacnoiocebaaGreat
namespace Go.Proofs.YtifkacnoiocebaaGreat
open Go.RowKit
section
variable {p : Nat → Prop} {w w' w'' : World} {B B' n : Nat} {A : Option Addr}
theorem cell_lt {a : Addr} {v : Value} (h : w.cell? a = some v) : a.block < w.heap.size := by
  by_cases hl : a.block < w.heap.size
  · exact hl
  · exfalso
    have hn : w.heap[a.block]? = none := Array.getElem?_eq_none (by omega)
    simp [World.cell?, hn] at h
end
section
variable {α : Type} {P : Program} {kt : TypeId} {key : α → Value} {dom : α → Prop} {w w' : World} {b c : Nat} {M : α → Option Value}
end
open Go.Maps Go.WideElems
theorem put_none (w : World) (nA pS kA mA : Nat) (n : NetV) (hn : n.ln ≤ 9223372036854775807) (hl : SlAt LinkV.cells 4 w w.heap.size n.lA n.ln n.ls) (hA : BoxV w nA #[.slice n.dA n.dn n.dc, .slice n.lA n.ln n.lc]) (i port : Int) (p : P4)
    (hp : peerF n.ls (i, port) = none) :
    Calls Tryz.prog 32 #[.int .i64 i, .int .i64 port, .agg #[.int .i64 p.src, .int .i64 p.dst, .int .i64 p.sport, .int .i64 p.dport], .pointer (some ⟨nA, 0, none⟩), .pointer (some ⟨pS, 0, none⟩), .pointer (some ⟨kA, 0, none⟩), .pointer (some ⟨mA, 0, none⟩)] w fun e w' => e = .returned (.tuple #[]) ∧ RowKit.Below w.heap.size w w' := by
  have HB := hide (fun (o : Obj) => show RowKit.Below w.heap.size w (w.alloc o) from (RowKit.Below.refl _ _).alloc (Nat.le_refl _) o)
  have a0 := fun (o : Obj) => (hA.below (HB.out o) (cell_lt (hA.1 0 _ rfl))).1 0 _ rfl
  have a1 := fun (o : Obj) => (hA.below (HB.out o) (cell_lt (hA.1 0 _ rfl))).1 1 _ rfl
  have HPE := hide (fun (w1 : World) (hb : RowKit.Below w.heap.size w w1) => refPeer_any n.dA n.dn n.dc n.lA n.ln n.lc n.ls i port w1 hn (hl.below hb hb.size))
  clear hl hA
  rw [hp] at HPE
  go_enter Tryz.func32, Tryz.ntmps32
  go_wp2_with fail
  refine (HPE.out _ (HB.out _)).mono ?_
  clear HPE
  rintro en w1 ⟨rfl, hb0⟩
  have hb := (HB.out _).trans (hb0.mono (HB.out _).size)
  clear hb0 a0 a1
  generalize World.alloc w _ = wz at *
  have HB2 := hide hb
  clear hb HB
  simp only [peerV]
  go_wp2
  generalize hW1 : World.alloc w1 _ = W1
  have hb1 : RowKit.Below w.heap.size w W1 := by rw [← hW1]; exact HB2.out.alloc HB2.out.size _
  clear hW1 HB2
  refine wp_region_E (fun w' => RowKit.Below w.heap.size w w') 13 (by kernel_rfl) hb1.drew (fun hS => ?_)
  refine rP 0 hS ?_
  refine rP 1 hS ?_
  refine rK 2 hS ?_
  refine rK 3 hS ?_
  refine rK 4 hS ?_
  refine rK 5 hS ?_
  refine rK 6 hS ?_
  refine rK 7 hS ?_
  refine rK 8 hS ?_
  refine rK 9 hS ?_
  refine rK 10 hS ?_
  refine rK 11 hS ?_
  refine rK 12 hS ?_
  intro inv
  refine rT 13 inv fun K hK => ?_
  go_simp
  refine hK.out _ _ ?_
  clear hK K inv
  intro inv
  try simp only [Act.put, nrmA, nrmB, nrmC]
  refine rD ?_
  clear inv
  go_wp2
  go_end0
  exact ⟨rfl, hS⟩
structure KC (C : Nat → Prop) (w w' : World) : Prop where
  low : RowKit.Below 0 w w'
  same : ∀ b, b < w.heap.size → ¬ C b → w'.heap[b]? = w.heap[b]?
section
variable {C C' : Nat → Prop} {w w' w'' : World} {B : Nat}
theorem KC.refl (C : Nat → Prop) (w : World) : KC C w w := ⟨RowKit.Below.refl _ _, fun _ _ _ => rfl⟩
theorem KC.size (h : KC C w w') : w.heap.size ≤ w'.heap.size := h.low.size
theorem KC.trans (h : KC C w w') (k : KC C w' w'') : KC C w w'' := ⟨h.low.trans k.low, fun b hb hn => (k.same b (Nat.lt_of_lt_of_le hb h.size) hn).trans (h.same b hb hn)⟩
theorem KC.of_below (hb : RowKit.Below w.heap.size w w') : KC C w w' := ⟨hb.mono (Nat.zero_le _), fun b h _ => hb.block b h⟩
theorem KC.of_set (a : Addr) (v : Value) (h : C a.block) : KC C w (w.setCell a v) :=
  ⟨(RowKit.Below.refl 0 w).setCell (Nat.zero_le _) v, fun b hb hn => RowKit.Below.heap_setCell w a v b (fun e => hn (e ▸ h))⟩
theorem KC.to (h : KC C w w') (hB : B ≤ w.heap.size) (hC : ∀ b, C b → B ≤ b) : RowKit.Below B w w' :=
  ⟨h.low.os, h.low.tape, h.low.output, h.low.size, fun b hb => h.same b (Nat.lt_of_lt_of_le hb hB) (fun hc => Nat.lt_irrefl _ (Nat.lt_of_lt_of_le hb (hC b hc)))⟩
theorem BoxV.same {N : Nat} {vs : Array Value} (h : BoxV w N vs) (hs : w'.heap[N]? = w.heap[N]?) : BoxV w' N vs :=
  ⟨fun j v hv => by rw [World.cell?_of_block (w := w) (a := ⟨N, j, none⟩) hs]; exact h.1 j v hv, fun o => (World.frozen?_of_block (a := ⟨N, o, none⟩) hs).trans (h.2 o)⟩
theorem Bx.kc {N : Nat} {vs : Array Value} {t : TypeId} (h : Bx w N vs t) (k : KC C w w') (hN : ¬ C N) : Bx w' N vs t := h.same (k.same N h.lt hN)
end
structure SE where
  (B N nA pS kA mA s mb : Nat)
  n : NetV
  k : Nat
  D : PoK → Prop
  blk : PoK → Nat
  M : PoK → Option Value
def SE.C (E : SE) (b : Nat) : Prop := b = E.mA ∨ ∃ x, E.D x ∧ b = E.blk x
structure SE.Ok (E : SE) : Prop where
  fix : ∀ b, b = E.nA ∨ b = E.pS ∨ b = E.kA ∨ b = E.s ∨ b = E.mb → E.B ≤ b ∧ b < E.N ∧ ¬ E.C b
  cge : ∀ b, E.C b → E.B ≤ b ∧ b < E.N
  mx : ∀ x, E.D x → E.blk x ≠ E.mA
  ln : E.n.ls.length ≤ 15
  peer : ∀ x y, peerF E.n.ls x = some y → E.D y
  dom : ∀ x, E.D x → i64ok x.1 ∧ i64ok x.2
  kb : E.k ≤ 1000000000
  BN : E.B ≤ E.N
structure PSt (E : SE) (w : World) (T : PoK → Nat → Int) (more : Bool) : Prop where
  sz : E.N ≤ w.heap.size
  net : NetAt w E.B E.n
  nb : BoxV w E.nA #[.slice E.n.dA E.n.dn E.n.dc, .slice E.n.lA E.n.ln E.n.lc]
  sp : BoxV w E.pS #[.pointer (some ⟨E.s, 0, none⟩)]
  kk : BoxV w E.kA #[.int .i64 (E.k : Int)]
  mo : BoxV w E.mA #[.bool more]
  st : SetsAt w E.s E.mb 0 E.D E.blk T E.M
  fr : ∀ x, E.D x → ∀ o, w.frozen? ⟨E.blk x, o, none⟩ = false
section
variable {E : SE} {w w' : World} {T : PoK → Nat → Int} {more : Bool}
theorem PSt.below (h : PSt E w T more) (hE : E.Ok) (hb : RowKit.Below E.N w w') : PSt E w' T more := by
  have hs : ∀ b, b = E.nA ∨ b = E.pS ∨ b = E.kA ∨ b = E.s ∨ b = E.mb → w'.heap[b]? = w.heap[b]? := fun b hh => hb.block b (hE.fix b hh).2.1
  have hc : ∀ b, E.C b → w'.heap[b]? = w.heap[b]? := fun b hh => hb.block b (hE.cge b hh).2
  refine ⟨Nat.le_trans h.sz hb.size, h.net.below (hb.mono hE.BN) (Nat.le_refl _), h.nb.same (hs _ (.inl rfl)), h.sp.same (hs _ (.inr (.inl rfl))), h.kk.same (hs _ (.inr (.inr (.inl rfl)))), h.mo.same (hc _ (.inl rfl)), h.st.same ?_, fun x hx o => ?_⟩
  · rintro b (rfl | rfl | ⟨x, hx, rfl⟩)
    · exact hs _ (.inr (.inr (.inr (.inl rfl))))
    · exact hs _ (.inr (.inr (.inr (.inr rfl))))
    · exact hc _ (.inr ⟨x, hx, rfl⟩)
  · exact (World.frozen?_of_block (a := ⟨E.blk x, o, none⟩) (hc _ (.inr ⟨x, hx, rfl⟩))).trans (h.fr x hx o)
theorem PSt.up (h : PSt E w T more) (hE : E.Ok) (hb : RowKit.Below w.heap.size w w') : PSt E w' T more := h.below hE (hb.mono h.sz)
theorem PSt.put (h : PSt E w T more) (hE : E.Ok) {x : PoK} (hx : E.D x) (c : Nat) (hc : c < 16384) (v : Int) : PSt E (w.setCell ⟨E.blk x, c, none⟩ (.int .i64 v)) (updT T x c v) more := by
  have hB := (hE.cge _ (.inr ⟨x, hx, rfl⟩)).1
  have ho : ∀ b, b ≠ E.blk x → (w.setCell ⟨E.blk x, c, none⟩ (.int .i64 v)).heap[b]? = w.heap[b]? := fun b hb => RowKit.Below.heap_setCell w _ _ b hb
  have hs : ∀ b, b = E.nA ∨ b = E.pS ∨ b = E.kA ∨ b = E.s ∨ b = E.mb → (w.setCell ⟨E.blk x, c, none⟩ (.int .i64 v)).heap[b]? = w.heap[b]? := fun b hh => ho b (fun e => (hE.fix b hh).2.2 (.inr ⟨x, hx, e⟩))
  have hb : RowKit.Below E.B w (w.setCell ⟨E.blk x, c, none⟩ (.int .i64 v)) := (RowKit.Below.refl _ _).setCell hB _
  refine ⟨by rw [size_setCell]; exact h.sz, h.net.below hb (Nat.le_refl _), h.nb.same (hs _ (.inl rfl)), h.sp.same (hs _ (.inr (.inl rfl))), h.kk.same (hs _ (.inr (.inr (.inl rfl)))), h.mo.same (ho _ (fun e => hE.mx x hx e.symm)), ?_, fun y hy o => by rw [World.frozen?_setCell]; exact h.fr y hy o⟩
  have e1 := hs E.s (.inr (.inr (.inr (.inl rfl))))
  have e2 := hs E.mb (.inr (.inr (.inr (.inr rfl))))
  have g : ∀ o, World.cell? (w.setCell ⟨E.blk x, c, none⟩ (.int .i64 v)) ⟨E.s, o, none⟩ = w.cell? ⟨E.s, o, none⟩ := fun o => World.cell?_of_block (a := ⟨E.s, o, none⟩) e1
  refine ⟨by rw [g]; exact h.st.c0, by rw [g]; exact h.st.c1, h.st.mp.same e2, h.st.val, h.st.no, ?_, h.st.inj, h.st.ne, h.st.nsm⟩
  intro y hy d hd
  by_cases e : y = x
  · subst e
    by_cases ed : d = c
    · subst ed
      rw [World.cell?_setCell_same _ _ _ (h.st.tab y hy d hd)]
      simp [updT]
    · rw [World.cell?_setCell_other _ _ _ _ (by first | (simp; done) | (simp; omega) | (intro e; cases e; exact ed rfl))]
      rw [h.st.tab y hy d hd]
      simp [updT, ed]
  · rw [World.cell?_setCell_other _ _ _ _ (by simp; intro h1; exact absurd (h.st.inj _ _ hx hy h1).symm e)]
    rw [h.st.tab y hy d hd]
    simp [updT, e]
theorem PSt.said (h : PSt E w T more) (hE : E.Ok) (b : Bool) : PSt E (w.setCell ⟨E.mA, 0, none⟩ (.bool b)) T b := by
  have hB := (hE.cge _ (.inl rfl)).1
  have ho : ∀ c, c ≠ E.mA → (w.setCell ⟨E.mA, 0, none⟩ (.bool b)).heap[c]? = w.heap[c]? := fun c hc => RowKit.Below.heap_setCell w _ _ c hc
  have hs : ∀ c, c = E.nA ∨ c = E.pS ∨ c = E.kA ∨ c = E.s ∨ c = E.mb → (w.setCell ⟨E.mA, 0, none⟩ (.bool b)).heap[c]? = w.heap[c]? := fun c hh => ho c (fun e => (hE.fix c hh).2.2 (.inl e))
  have hb : RowKit.Below E.B w (w.setCell ⟨E.mA, 0, none⟩ (.bool b)) := (RowKit.Below.refl _ _).setCell hB _
  refine ⟨by rw [size_setCell]; exact h.sz, h.net.below hb (Nat.le_refl _), h.nb.same (hs _ (.inl rfl)), h.sp.same (hs _ (.inr (.inl rfl))), h.kk.same (hs _ (.inr (.inr (.inl rfl)))), ?_, h.st.same ?_, fun y hy o => by rw [World.frozen?_setCell]; exact h.fr y hy o⟩
  · have := h.mo.set 0 (.bool b)
    simpa using this
  · rintro c (rfl | rfl | ⟨x, hx, rfl⟩)
    · exact hs _ (.inr (.inr (.inr (.inl rfl))))
    · exact hs _ (.inr (.inr (.inr (.inr rfl))))
    · exact ho _ (hE.mx x hx)
end
end Go.Proofs.YtifkacnoiocebaaGreat
namespace Go.Proofs.YtifkacnoiocebaaGreat
open Bdd Go.Maps Go.RowKit
theorem outF_p4 (d : Int) (l : List RouteV) : (outF d l).2 < 0 ∨ (0 ≤ (outF d l).1 ∧ (outF d l).1 ≤ 3) := by
  have h : ∀ (l : List RouteV) (s : Int × Int), (s.2 < 0 ∨ (0 ≤ s.1 ∧ s.1 ≤ 3)) → ((l.foldl (outStep d) s).2 < 0 ∨ (0 ≤ (l.foldl (outStep d) s).1 ∧ (l.foldl (outStep d) s).1 ≤ 3)) := fun l => by
    induction l with
    | nil => exact fun s h => h
    | cons r l ih =>
      intro s h
      rw [List.foldl_cons]
      refine ih _ ?_
      unfold outStep
      split
      · rename_i hh
        refine .inr ?_
        simp only [outHit, routeB, Bool.and_eq_true, decide_eq_true_eq] at hh
        simp only
        omega
      · exact h
  exact h l (0, -1) (.inl (by decide))
def backC (c : Nat) : Nat := code4 (c / 64 % 16) (c / 1024) (c % 8) (c / 8 % 8)
def TpR (d : Dev) (c o c' : Nat) : Prop := (outF ((c / 64 % 16 : Nat) : Int) d.routes).1 = (o : Int) ∧ 0 ≤ (outF ((c / 64 % 16 : Nat) : Int) d.routes).2 ∧ letsB d.rules (pk c) = true ∧ c' = c
def TpF (d : Dev) (opn : Bool) (W : Nat → Nat → Bool) (port c o c' : Nat) : Prop :=
  (port = 0 ∧ letsB d.rules (pk c) = true ∧ o = 1 ∧ c' = c) ∨ (port = 1 ∧ opn = true ∧ W 0 (backC c) = true ∧ letsB d.rules (pk (backC c)) = true ∧ o = 0 ∧ c' = c)
def OwnN (W : Nat → Nat → Bool) (e : Nat) : Prop := ∃ x, x < 128 ∧ W 0 (code4 (e / 8) (x / 8) (e % 8) (x % 8)) = true
def TpN (d : Dev) (opn : Bool) (W : Nat → Nat → Bool) (port c o c' : Nat) : Prop :=
  (port = 0 ∧ ∃ x, x < 8 ∧ d.pool.testBit x = true ∧ o = 1 ∧ c' = code4 d.addr.toNat (c / 64 % 16) x (c % 8)) ∨
  (port = 1 ∧ d.addr.toNat = c / 64 % 16 ∧ d.pool.testBit (c % 8) = true ∧ ∃ e, e < 128 ∧ (opn = true ∧ OwnN W e) ∧ o = 0 ∧ c' = code4 (c / 1024) (e / 8) (c / 8 % 8) (e % 8))
def TpB (d : Dev) (opn : Bool) (W : Nat → Nat → Bool) (port c o c' : Nat) : Prop :=
  ((port = 1 ∨ d.addr.toNat ≠ c / 64 % 16) ∧ o = 1 - port ∧ c' = c) ∨ (port = 0 ∧ d.addr.toNat = c / 64 % 16 ∧ ∃ x ∈ d.backs, o = 1 ∧ c' = code4 (c / 1024) x.toNat (c / 8 % 8) (c % 8)) ∨
  (port = 1 ∧ opn = true ∧ (∃ x ∈ d.backs, x.toNat = c / 1024) ∧ W 0 (code4 (c / 64 % 16) d.addr.toNat (c % 8) (c / 8 % 8)) = true ∧ o = 0 ∧ c' = code4 d.addr.toNat (c / 64 % 16) (c / 8 % 8) (c % 8))
def Tp (d : Dev) (opn : Bool) (W : Nat → Nat → Bool) (port c o c' : Nat) : Prop :=
  (d.kind = 2 ∧ TpR d c o c') ∨ (d.kind = 3 ∧ TpF d opn W port c o c') ∨ (d.kind = 4 ∧ TpN d opn W port c o c') ∨ (d.kind = 5 ∧ TpB d opn W port c o c')
section
variable {d : Dev} {opn : Bool} {W : Nat → Nat → Bool} {o a b s t : Nat}
theorem fcode {a b s t : Nat} (h : Fld a b s t) : code4 a b s t / 1024 = a ∧ code4 a b s t / 64 % 16 = b ∧ code4 a b s t / 8 % 8 = s ∧ code4 a b s t % 8 = t := h.parts
theorem code_inj {a b s t a' b' s' t' : Nat} (h : Fld a b s t) (h' : Fld a' b' s' t') (e : code4 a b s t = code4 a' b' s' t') : a = a' ∧ b = b' ∧ s = s' ∧ t = t' := by
  obtain ⟨p1, p2, p3, p4⟩ := fcode h
  obtain ⟨q1, q2, q3, q4⟩ := fcode h'
  rw [e] at p1 p2 p3 p4
  exact ⟨p1.symm.trans q1, p2.symm.trans q2, p3.symm.trans q3, p4.symm.trans q4⟩
theorem tpR_iff (h : Fld a b s t) : (∃ port c, port < 4 ∧ c < 16384 ∧ W port c = true ∧ TpR d c o (code4 a b s t)) ↔ TellR d W o a b s t := by
  obtain ⟨q1, q2, q3, q4⟩ := fcode h
  unfold TellR TpR dstB
  constructor
  · rintro ⟨port, c, hp, hc, hw, h1, h2, h3, rfl⟩
    rw [q2] at h1 h2
    have := outF_p4 (b : Int) d.routes
    refine ⟨by omega, ⟨port, hp, hw⟩, ?_, h3⟩
    rw [Bool.and_eq_true, decide_eq_true_eq, beq_iff_eq]
    exact ⟨h2, h1⟩
  · rintro ⟨ho, ⟨port, hp, hw⟩, h1, h3⟩
    rw [Bool.and_eq_true, decide_eq_true_eq, beq_iff_eq] at h1
    exact ⟨port, _, hp, h.lt, hw, by rw [q2]; exact h1.2, by rw [q2]; exact h1.1, h3, rfl⟩
theorem tpF_iff (h : Fld a b s t) : (∃ port c, port < 2 ∧ c < 16384 ∧ W port c = true ∧ TpF d opn W port c o (code4 a b s t)) ↔ TellF d opn W o a b s t := by
  obtain ⟨q1, q2, q3, q4⟩ := fcode h
  have hb : backC (code4 a b s t) = code4 b a t s := by unfold backC; rw [q1, q2, q3, q4]
  unfold TellF TpF
  constructor
  · rintro ⟨port, c, hp, hc, hw, ⟨rfl, h1, h2, rfl⟩ | ⟨rfl, h1, h2, h3, h4, rfl⟩⟩
    · exact .inl ⟨h2, hw, h1⟩
    · rw [hb] at h2 h3
      exact .inr ⟨h1, h4, hw, h2, h3⟩
  · rintro (⟨h1, h2, h3⟩ | ⟨h1, h2, h3, h4, h5⟩)
    · exact ⟨0, _, by omega, h.lt, h2, .inl ⟨rfl, h3, h1, rfl⟩⟩
    · exact ⟨1, _, by omega, h.lt, h3, .inr ⟨rfl, h1, by rw [hb]; exact h4, by rw [hb]; exact h5, h2, rfl⟩⟩
theorem tpN_iff (hA : d.addr.toNat < 16) (h : Fld a b s t) : (∃ port c, port < 2 ∧ c < 16384 ∧ W port c = true ∧ TpN d opn W port c o (code4 a b s t)) ↔ TellN d opn W o a b s t := by
  unfold TellN TpN
  constructor
  · rintro ⟨port, c, hp, hc, hw, ⟨rfl, x, hx, h1, h2, h3⟩ | ⟨rfl, h1, h2, e, he, ⟨h3, x, hx, h4⟩, h5, h6⟩⟩
    · obtain ⟨e1, e2, e3, e4⟩ := code_inj h ⟨hA, by omega, hx, by omega⟩ h3
      obtain ⟨f1, f2⟩ := fld_of hc
      refine .inl ⟨h2, ⟨c / 8 % 8, by omega, c / 1024, by omega, ?_⟩, e1.symm, by rw [e3]; exact h1⟩
      rw [e2, e4, f2]
      exact hw
    · obtain ⟨e1, e2, e3, e4⟩ := code_inj h ⟨by omega, by omega, by omega, by omega⟩ h6
      obtain ⟨f1, f2⟩ := fld_of hc
      refine .inr ⟨h3, h5, ⟨c % 8, by omega, c / 64 % 16, by omega, ?_, h1, h2⟩, ⟨x % 8, by omega, x / 8, by omega, ?_⟩⟩
      · rw [e1, e3, f2]
        exact hw
      · rw [e2, e4]
        exact h4
  · rintro (⟨h1, ⟨y, hy, x, hx, hw⟩, h2, h3⟩ | ⟨h1, h2, ⟨y, hy, x, hx, hw, h3, h4⟩, y', hy', x', hx', hw'⟩)
    · have hf : Fld x b y t := ⟨hx, h.b, hy, h.d⟩
      obtain ⟨q1, q2, q3, q4⟩ := fcode hf
      exact ⟨0, _, by omega, hf.lt, hw, .inl ⟨rfl, s, h.s, h3, h1, by rw [q2, q4, h2]⟩⟩
    · have hf : Fld a x s y := ⟨h.a, hx, h.s, hy⟩
      obtain ⟨q1, q2, q3, q4⟩ := fcode hf
      have hb := h.b
      have hd := h.d
      refine ⟨1, _, by omega, hf.lt, hw, .inr ⟨rfl, by rw [q2]; exact h3, by rw [q4]; exact h4, b * 8 + t, by omega, ⟨h1, x' * 8 + y', by omega, ?_⟩, h2, ?_⟩⟩
      · rw [show (b * 8 + t) / 8 = b by omega, show (b * 8 + t) % 8 = t by omega, show (x' * 8 + y') / 8 = x' by omega, show (x' * 8 + y') % 8 = y' by omega]
        exact hw'
      · rw [q1, q3, show (b * 8 + t) / 8 = b by omega, show (b * 8 + t) % 8 = t by omega]
theorem tpB_iff (hA : d.addr.toNat < 16) (hB : ∀ x ∈ d.backs, x.toNat < 16) (h : Fld a b s t) : (∃ port c, port < 2 ∧ c < 16384 ∧ W port c = true ∧ TpB d opn W port c o (code4 a b s t)) ↔ TellB d opn W o a b s t := by
  obtain ⟨q1, q2, q3, q4⟩ := fcode h
  unfold TellB TpB
  constructor
  · rintro ⟨port, c, hp, hc, hw, ⟨h1, h2, rfl⟩ | ⟨rfl, h1, x, hx, h2, h3⟩ | ⟨rfl, h1, ⟨x, hx, h2⟩, h3, h4, h5⟩⟩
    · rw [q2] at h1
      rcases h1 with rfl | h1
      · exact .inr (.inl ⟨h2, hw⟩)
      · rcases (by omega : port = 0 ∨ port = 1) with rfl | rfl
        · exact .inl ⟨h2, hw, h1⟩
        · exact .inr (.inl ⟨h2, hw⟩)
    · obtain ⟨e1, e2, e3, e4⟩ := code_inj h ⟨by omega, hB x hx, by omega, by omega⟩ h3
      obtain ⟨f1, f2⟩ := fld_of hc
      refine .inr (.inr ⟨x, hx, .inl ⟨h2, ?_, e2.symm⟩⟩)
      rw [e1, e3, e4, h1, f2]
      exact hw
    · obtain ⟨e1, e2, e3, e4⟩ := code_inj h ⟨hA, by omega, by omega, by omega⟩ h5
      obtain ⟨f1, f2⟩ := fld_of hc
      refine .inr (.inr ⟨x, hx, .inr ⟨h1, h4, ?_, ?_, e1.symm⟩⟩)
      · rw [h2, e2, e3, e4, f2]
        exact hw
      · rw [e2, e3, e4]
        exact h3
  · rintro (⟨h1, h2, h3⟩ | ⟨h1, h2⟩ | ⟨x, hx, ⟨h1, h2, h3⟩ | ⟨h1, h2, h3, h4, h5⟩⟩)
    · exact ⟨0, _, by omega, h.lt, h2, .inl ⟨.inr (by rw [q2]; exact h3), h1, rfl⟩⟩
    · exact ⟨1, _, by omega, h.lt, h2, .inl ⟨.inl rfl, h1, rfl⟩⟩
    · have hf : Fld a d.addr.toNat s t := ⟨h.a, hA, h.s, h.d⟩
      obtain ⟨r1, r2, r3, r4⟩ := fcode hf
      exact ⟨0, _, by omega, hf.lt, h2, .inr (.inl ⟨rfl, by rw [r2], x, hx, h1, by rw [r1, r3, r4, h3]⟩)⟩
    · have hf : Fld x.toNat b s t := ⟨hB x hx, h.b, h.s, h.d⟩
      obtain ⟨r1, r2, r3, r4⟩ := fcode hf
      exact ⟨1, _, by omega, hf.lt, h3, .inr (.inr ⟨rfl, h1, ⟨x, hx, by rw [r1]⟩, by rw [r2, r3, r4]; exact h4, h2, by rw [r2, r3, r4, h5]⟩)⟩
theorem tp_iff (hd : DevOk d) {c' : Nat} (hc : c' < 16384) : (∃ port c, port < (portsF d.kind).toNat ∧ c < 16384 ∧ W port c = true ∧ Tp d opn W port c o c') ↔ Tells d opn W o (c' / 1024) (c' / 64 % 16) (c' / 8 % 8) (c' % 8) := by
  obtain ⟨hf, e⟩ := fld_of hc
  unfold Tp Tells
  by_cases k2 : d.kind = 2
  · have := tpR_iff (d := d) (W := W) (o := o) hf
    rw [e] at this
    simp only [k2, portsF]
    simpa using this
  by_cases k3 : d.kind = 3
  · have := tpF_iff (d := d) (opn := opn) (W := W) (o := o) hf
    rw [e] at this
    simp only [k3, portsF]
    simpa using this
  by_cases k4 : d.kind = 4
  · have h1 := hd.addr16 (.inr (.inl k4))
    have := tpN_iff (d := d) (opn := opn) (W := W) (o := o) (by omega) hf
    rw [e] at this
    simp only [k4, portsF]
    simpa using this
  by_cases k5 : d.kind = 5
  · have h1 := hd.addr16 (.inr (.inr k5))
    have := tpB_iff (d := d) (opn := opn) (W := W) (o := o) (by omega) (fun z hz => by
      have h1 := hd.bb
      unfold backsB at h1
      rw [Bool.and_eq_true] at h1
      have := backsOk_lt _ _ _ h1.1 z hz
      omega) hf
    rw [e] at this
    simp only [k5, portsF]
    simpa using this
  · simp [k2, k3, k4, k5]
end
structure InvT (k : Nat) (T0 : PoK → Nat → Int) (Dn : PoK → Nat → Prop) (T : PoK → Nat → Int) (more : Bool) : Prop where
  new : ∀ x c, c < 16384 → T0 x c < 0 → Dn x c → T x c = ((k + 1 : Nat) : Int)
  old : ∀ x c, c < 16384 → (0 ≤ T0 x c ∨ ¬ Dn x c) → T x c = T0 x c
  mo : more = true ↔ ∃ x c, c < 16384 ∧ T0 x c < 0 ∧ Dn x c
theorem InvT.start (k : Nat) (T0 : PoK → Nat → Int) : InvT k T0 (fun _ _ => False) T0 false :=
  ⟨fun _ _ _ _ h => h.elim, fun _ _ _ _ => rfl, ⟨fun h => (by cases h), fun ⟨_, _, _, _, h⟩ => h.elim⟩⟩
theorem InvT.congr {k : Nat} {T0 T : PoK → Nat → Int} {Dn Dn' : PoK → Nat → Prop} {more : Bool} (h : InvT k T0 Dn T more) (e : ∀ x c, c < 16384 → (Dn x c ↔ Dn' x c)) : InvT k T0 Dn' T more :=
  ⟨fun x c hc h0 hd => h.new x c hc h0 ((e x c hc).2 hd), fun x c hc hd => h.old x c hc (hd.imp id (fun hn q => hn ((e x c hc).1 q))), h.mo.trans ⟨fun ⟨x, c, hc, h0, hd⟩ => ⟨x, c, hc, h0, (e x c hc).1 hd⟩, fun ⟨x, c, hc, h0, hd⟩ => ⟨x, c, hc, h0, (e x c hc).2 hd⟩⟩⟩
theorem InvT.was {ds : List Dev} {ls : List LinkV} {k : Nat} {T : PoK → Nat → Int} {Dn : PoK → Nat → Prop} {more : Bool} (h : InvT k (tabF ds ls k) Dn T more) (x : PoK) (c : Nat) (hc : c < 16384) : (decide (0 ≤ T x c) && decide (T x c ≤ (k : Int))) = inS ds ls k x c := by
  rw [Bool.eq_iff_iff, Bool.and_eq_true, decide_eq_true_eq, decide_eq_true_eq]
  refine tab_was ds ls k x c hc ?_
  by_cases h0 : 0 ≤ tabF ds ls k x c
  · exact .inl (h.old x c hc (.inl h0))
  · by_cases hd : Dn x c
    · exact .inr ⟨by omega, h.new x c hc (by omega) hd⟩
    · exact .inl (h.old x c hc (.inr hd))
def addD (ls : List LinkV) (y : PoK) (c : Nat) (Dn : PoK → Nat → Prop) : PoK → Nat → Prop := fun x d => Dn x d ∨ (peerF ls y = some x ∧ d = c)
def PutR (ls : List LinkV) (k : Nat) (y : PoK) (c : Nat) (T : PoK → Nat → Int) (more : Bool) (T' : PoK → Nat → Int) (more' : Bool) : Prop :=
  match peerF ls y with
  | none => T' = T ∧ more' = more
  | some x => if T x c < 0 then T' = updT T x c ((k + 1 : Nat) : Int) ∧ more' = true else T' = T ∧ more' = more
theorem InvT.put {ls : List LinkV} {k : Nat} {T0 T T' : PoK → Nat → Int} {Dn : PoK → Nat → Prop} {more more' : Bool} (h : InvT k T0 Dn T more) {y : PoK} {c : Nat} (hc : c < 16384) (hr : PutR ls k y c T more T' more') : InvT k T0 (addD ls y c Dn) T' more' := by
  unfold PutR at hr
  cases hp : peerF ls y with
  | none =>
    rw [hp] at hr
    obtain ⟨rfl, rfl⟩ := hr
    exact h.congr fun x d _ => by unfold addD; rw [hp]; simp
  | some x =>
    rw [hp] at hr
    simp only at hr
    have ha : ∀ z d, addD ls y c Dn z d ↔ Dn z d ∨ (z = x ∧ d = c) := fun z d => by
      unfold addD
      rw [hp, Option.some.injEq, eq_comm (a := x)]
    by_cases h0 : T x c < 0
    · rw [if_pos h0] at hr
      obtain ⟨rfl, rfl⟩ := hr
      have h1 : T0 x c < 0 ∧ ¬ Dn x c := by
        by_cases a : 0 ≤ T0 x c
        · rw [h.old x c hc (.inl a)] at h0; omega
        · by_cases b : Dn x c
          · rw [h.new x c hc (by omega) b] at h0; omega
          · exact ⟨by omega, b⟩
      refine ⟨fun z d hd g1 g2 => ?_, fun z d hd g => ?_, ⟨fun _ => ⟨x, c, hc, h1.1, (ha x c).2 (.inr ⟨rfl, rfl⟩)⟩, fun _ => rfl⟩⟩
      · unfold updT
        by_cases e : z = x ∧ d = c
        · rw [if_pos e]
        · rw [if_neg e]
          exact h.new z d hd g1 (((ha z d).1 g2).resolve_right e)
      · unfold updT
        by_cases e : z = x ∧ d = c
        · obtain ⟨rfl, rfl⟩ := e
          exact absurd g (fun g => g.elim (fun g => by omega) (fun g => g ((ha z d).2 (.inr ⟨rfl, rfl⟩))))
        · rw [if_neg e]
          exact h.old z d hd (g.imp id (fun g q => g ((ha z d).2 (.inl q))))
    · rw [if_neg h0] at hr
      obtain ⟨rfl, rfl⟩ := hr
      have h1 : 0 ≤ T0 x c ∨ Dn x c := by
        by_cases a : 0 ≤ T0 x c
        · exact .inl a
        · by_cases b : Dn x c
          · exact .inr b
          · rw [h.old x c hc (.inr b)] at h0; omega
      refine ⟨fun z d hd g1 g2 => ?_, fun z d hd g => h.old z d hd (g.imp id (fun g q => g ((ha z d).2 (.inl q)))), h.mo.trans ⟨fun ⟨z, d, g1, g2, g3⟩ => ⟨z, d, g1, g2, (ha z d).2 (.inl g3)⟩, fun ⟨z, d, g1, g2, g3⟩ => ?_⟩⟩
      · rcases (ha z d).1 g2 with g | ⟨rfl, rfl⟩
        · exact h.new z d hd g1 g
        · exact h.new z d hd g1 (h1.resolve_left (by omega))
      · rcases (ha z d).1 g3 with g | ⟨rfl, rfl⟩
        · exact ⟨z, d, g1, g2, g⟩
        · exact ⟨z, d, g1, g2, h1.resolve_left (by omega)⟩
end Go.Proofs.YtifkacnoiocebaaGreat
