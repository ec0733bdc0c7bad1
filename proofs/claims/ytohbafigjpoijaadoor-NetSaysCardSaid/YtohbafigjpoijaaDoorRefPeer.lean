/- wireref.Peer. -/
import Derived.Test.YtohbafigjpoijaaDoorRing2
set_option linter.unusedVariables false
set_option linter.unusedSimpArgs false
namespace Go.Proofs.YtohbafigjpoijaaDoor
open Go.RowKit

theorem beqI (a b : Int) : (a == b) = (b == a) := by
  rw [Bool.eq_iff_iff, beq_iff_eq, beq_iff_eq]; exact eq_comm

set_option maxRecDepth 100000 in
set_option maxHeartbeats 8000000 in
theorem refPeer_any (dA : Option Addr) (dn dc : Nat) (lA : Option Addr) (ln lc : Nat) (ls : List LinkV) (x y : Int) (W : World) (hn : ln ≤ 9223372036854775807) (hl : SlAt LinkV.cells 4 W W.heap.size lA ln ls) :
    Calls Tryd.prog 33 #[.agg #[.slice dA dn dc, .slice lA ln lc], .agg #[.int .i64 x, .int .i64 y]] W fun e W' => e = .returned (peerV (peerF ls (x, y))) ∧ Below W.heap.size W W' := by
  have HL := hide (fun (w' : World) (hb : RowKit.Below W.heap.size W w') => show SlAt LinkV.cells 4 w' w'.heap.size lA ln ls from hl.below hb hb.size)
  have HLL := hide hl.1
  clear hl
  have hG : ∃ W0, W0 = ((W.alloc (.cells #[.slice dA dn dc, .slice lA ln lc] 53)).alloc (.cells #[.int .i64 x, .int .i64 y] 55)).alloc (.cells #[.int .i64 0, .int .i64 0] 55) := ⟨_, rfl⟩
  obtain ⟨W0, hG⟩ := hG
  have hz : W0.heap.size = W.heap.size + 3 := by rw [hG]; simp
  have HQ := hide (fun (w' : World) (hb : RowKit.Below W0.heap.size W0 w') => show (w'.cell? ⟨W.heap.size, 1, none⟩ = some (.slice lA ln lc) ∧ w'.cell? ⟨W.heap.size + 1, 0, none⟩ = some (.int .i64 x) ∧ w'.cell? ⟨W.heap.size + 1, 1, none⟩ = some (.int .i64 y)) ∧ Box2 w' (W.heap.size + 1 + 1) 0 0 ∧ RowKit.Below W.heap.size W w' from by
    have hbB : Box2 W0 (W.heap.size + 1 + 1) 0 0 := by
      rw [hG]
      have := Box2.new ((W.alloc (.cells #[.slice dA dn dc, .slice lA ln lc] 53)).alloc (.cells #[.int .i64 x, .int .i64 y] 55)) 0 0 55
      simpa using this
    have hbox := hbB.below hb (by omega)
    rw [hz, hG] at hb
    obtain ⟨c, h1, h2⟩ := boxesL [(#[.slice dA dn dc, .slice lA ln lc], 53), (#[.int .i64 x, .int .i64 y], 55), (#[.int .i64 0, .int .i64 0], 55)] W hb
    exact ⟨⟨c 0 _ _ rfl 1 _ rfl, c 1 _ _ rfl 0 _ rfl, c 1 _ _ rfl 1 _ rfl⟩, hbox, h1⟩)
  have HG := hide hG
  have HR := hide (RowKit.Below.refl W0.heap.size W0)
  have HZ := hide hz
  clear hG hz
  go_enter Tryd.func33, Tryd.ntmps33
  go_wp2
  rw [← HG.out]
  go_loopw [6] (fun i wr => ∃ k : Nat, k ≤ ln ∧ i = .int .i64 k ∧ Hid (peerF ls (x, y) = peerF (ls.drop k) (x, y)) ∧ Hid (RowKit.Below W0.heap.size W0 wr)) (fun i _ => ln - (intOf i).toNat)
  case atStart => exact ⟨0, Nat.zero_le _, rfl, hide rfl, HR⟩
  case round =>
    clear HR
    obtain ⟨k, hk, rfl, HE, HB⟩ := hrel
    obtain ⟨⟨x0, x1, x2⟩, ⟨z0, z1, z2, z3⟩, hbW⟩ := HQ.out wr HB.out
    have HBW := hide hbW
    clear hbW
    by_cases hlt : k < ln
    · obtain ⟨r, hr⟩ : ∃ r, ls[k]? = some r := ⟨_, List.getElem?_eq_getElem (by have := HLL.out; omega)⟩
      have HS := hide (peerF_drop hr (x, y))
      obtain ⟨b, o, rfl, _, _⟩ := (HL.out _ HBW.out).2 (by omega)
      obtain ⟨hbB, q0, q1, q2, q3⟩ := link_get (HL.out _ HBW.out) hr
      have HBA := hide (fun o => show RowKit.Below W0.heap.size W0 (wr.alloc o) from HB.out.alloc HB.out.size o)
      have v1 := fun o => (HQ.out _ (HBA.out o)).1.2.1
      have v2 := fun o => (HQ.out _ (HBA.out o)).1.2.2
      have v3 := fun o => (HQ.out _ (HBA.out o)).2.1.1
      have v4 := fun o => (HQ.out _ (HBA.out o)).2.1.2.1
      have v5 := fun o => (HQ.out _ (HBA.out o)).2.1.2.2.1
      have v6 := fun o => (HQ.out _ (HBA.out o)).2.1.2.2.2
      have HBB := hide (fun o => (HQ.out _ (HBA.out o)).2.2)
      clear hr
      obtain ⟨ra, rp, rb, rq⟩ := r
      cases e1 : (ra == x)
      · cases e3 : (rb == x)
        · have HN := hide (show peerF ls (x, y) = peerF (ls.drop (k + 1)) (x, y) from by rw [HE.out, HS.out]; simp only [eqP, LinkV.e1, LinkV.e2, beqI x, beqI y, e1, e3, Bool.false_and, Bool.and_false, Bool.false_eq_true, if_false])
          go_wp2
          go_roundw
          case rel => exact ⟨k + 1, by omega, by go_num, HN, hide (HBA.out _)⟩
          case measure => simp [intOf]; omega
        · cases e4 : (rq == y)
          · have HN := hide (show peerF ls (x, y) = peerF (ls.drop (k + 1)) (x, y) from by rw [HE.out, HS.out]; simp only [eqP, LinkV.e1, LinkV.e2, beqI x, beqI y, e1, e3, e4, Bool.false_and, Bool.and_false, Bool.false_eq_true, if_false])
            go_wp2
            go_roundw
            case rel => exact ⟨k + 1, by omega, by go_num, HN, hide (HBA.out _)⟩
            case measure => simp [intOf]; omega
          · have HN := hide (show peerF ls (x, y) = some (ra, rp) from by rw [HE.out, HS.out]; simp only [eqP, LinkV.e1, LinkV.e2, beqI x, beqI y, e1, e3, e4, Bool.false_and, Bool.and_false, Bool.and_self, Bool.false_eq_true, if_false, if_true])
            go_wp2
            refine bodyPost_ret (v := .tuple #[.agg #[.int .i64 ra, .int .i64 rp], .bool true]) (by simp [results, Tryd.results33, go_sem, v3, v4]) rfl ⟨by rw [HN.out]; rfl, ?_⟩
            exact ((HBB.out _).setCell (le2 _) _).setCell (le2 _) _
      · cases e2 : (rp == y)
        · cases e3 : (rb == x)
          · have HN := hide (show peerF ls (x, y) = peerF (ls.drop (k + 1)) (x, y) from by rw [HE.out, HS.out]; simp only [eqP, LinkV.e1, LinkV.e2, beqI x, beqI y, e1, e2, e3, Bool.false_and, Bool.and_false, Bool.false_eq_true, if_false])
            go_wp2
            go_roundw
            case rel => exact ⟨k + 1, by omega, by go_num, HN, hide (HBA.out _)⟩
            case measure => simp [intOf]; omega
          · cases e4 : (rq == y)
            · have HN := hide (show peerF ls (x, y) = peerF (ls.drop (k + 1)) (x, y) from by rw [HE.out, HS.out]; simp only [eqP, LinkV.e1, LinkV.e2, beqI x, beqI y, e1, e2, e3, e4, Bool.false_and, Bool.and_false, Bool.false_eq_true, if_false])
              go_wp2
              go_roundw
              case rel => exact ⟨k + 1, by omega, by go_num, HN, hide (HBA.out _)⟩
              case measure => simp [intOf]; omega
            · have HN := hide (show peerF ls (x, y) = some (ra, rp) from by rw [HE.out, HS.out]; simp only [eqP, LinkV.e1, LinkV.e2, beqI x, beqI y, e1, e2, e3, e4, Bool.false_and, Bool.and_false, Bool.and_self, Bool.false_eq_true, if_false, if_true])
              go_wp2
              refine bodyPost_ret (v := .tuple #[.agg #[.int .i64 ra, .int .i64 rp], .bool true]) (by simp [results, Tryd.results33, go_sem, v3, v4]) rfl ⟨by rw [HN.out]; rfl, ?_⟩
              exact ((HBB.out _).setCell (le2 _) _).setCell (le2 _) _
        · have HN := hide (show peerF ls (x, y) = some (rb, rq) from by rw [HE.out, HS.out]; simp only [eqP, LinkV.e1, LinkV.e2, beqI x, beqI y, e1, e2, Bool.false_and, Bool.and_false, Bool.and_self, Bool.false_eq_true, if_false, if_true])
          go_wp2
          refine bodyPost_ret (v := .tuple #[.agg #[.int .i64 rb, .int .i64 rq], .bool true]) (by simp [results, Tryd.results33, go_sem, v3, v4]) rfl ⟨by rw [HN.out]; rfl, ?_⟩
          exact ((HBB.out _).setCell (le2 _) _).setCell (le2 _) _
    · have HN := hide (show peerF ls (x, y) = none from by rw [HE.out, List.drop_of_length_le (by have := HLL.out; omega)]; rfl)
      go_wp2
      refine bodyPost_ret (v := .tuple #[.agg #[.int .i64 0, .int .i64 0], .bool false]) (by simp [results, Tryd.results33, go_sem, z0, z1]) rfl ⟨by rw [HN.out]; rfl, ?_⟩
      exact (HBW.out.setCell (le2 _) _).setCell (le2 _) _
end Go.Proofs.YtohbafigjpoijaaDoor
