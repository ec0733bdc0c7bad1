/- wirelaw.least: what it answers. -/
import Derived.Test.YtoanimmlpfchjaaRefLets
set_option linter.unusedVariables false
set_option linter.unusedSimpArgs false
namespace Go.Proofs.Ytoanimmlpfchjaa
open Go.RowKit

def PBox (w : World) (N : Nat) (a b c d : Int) : Prop :=
  w.cell? ⟨N, 0, none⟩ = some (.int .i64 a) ∧ w.cell? ⟨N, 1, none⟩ = some (.int .i64 b) ∧ w.cell? ⟨N, 2, none⟩ = some (.int .i64 c) ∧ w.cell? ⟨N, 3, none⟩ = some (.int .i64 d) ∧
    w.frozen? ⟨N, 0, none⟩ = false ∧ w.frozen? ⟨N, 1, none⟩ = false ∧ w.frozen? ⟨N, 2, none⟩ = false ∧ w.frozen? ⟨N, 3, none⟩ = false
theorem PBox.below {w w' : World} {B N : Nat} {a b c d : Int} (h : PBox w N a b c d) (hB : Below B w w') (hN : N < B) : PBox w' N a b c d := by
  have e : ∀ o, w'.cell? ⟨N, o, none⟩ = w.cell? ⟨N, o, none⟩ := fun o => hB.cell (p := ⟨N, o, none⟩) hN
  have f : ∀ o, w'.frozen? ⟨N, o, none⟩ = w.frozen? ⟨N, o, none⟩ := fun o => hB.frozen (p := ⟨N, o, none⟩) hN
  unfold PBox
  rw [e, e, e, e, f, f, f, f]
  exact h
theorem PBox.new (w : World) (a b c d : Int) (t : TypeId) : PBox (w.alloc (.cells #[.int .i64 a, .int .i64 b, .int .i64 c, .int .i64 d] t)) w.heap.size a b c d := by
  have hbx := heap_alloc_new w (.cells #[.int .i64 a, .int .i64 b, .int .i64 c, .int .i64 d] t)
  have f : ∀ o, (w.alloc (.cells #[.int .i64 a, .int .i64 b, .int .i64 c, .int .i64 d] t)).frozen? ⟨w.heap.size, o, none⟩ = false := fun o => by unfold World.frozen?; rw [hbx]; simp
  exact ⟨by rw [cell_of_row _ _ _ _ _ _ hbx]; rfl, by rw [cell_of_row _ _ _ _ _ _ hbx]; rfl, by rw [cell_of_row _ _ _ _ _ _ hbx]; rfl, by rw [cell_of_row _ _ _ _ _ _ hbx]; rfl, f 0, f 1, f 2, f 3⟩

theorem packVal_ints (c : Nat) : ∃ x0 x1 x2 x3 : Int, packVal c = .agg #[.int .i64 x0, .int .i64 x1, .int .i64 x2, .int .i64 x3] := ⟨_, _, _, _, rfl⟩

set_option maxRecDepth 100000 in
set_option maxHeartbeats 8000000 in
theorem least_walk (W : World) (f1 f2 : Nat) (cap1 cap2 : Array Value) (F G : Nat → Bool)
    (hc1 : ∀ (args : Array Value) (w : World), (callFunc f1 args).run Try.prog w = .ok (.enter f1 args) w) (hc2 : ∀ (args : Array Value) (w : World), (callFunc f2 args).run Try.prog w = .ok (.enter f2 args) w)
    (hf1 : Hid (∀ c (w' : World), c < 16384 → Below W.heap.size W w' → Calls Try.prog f1 (#[packVal c] ++ cap1) w' fun e w'' => e = .returned (.bool (F c)) ∧ Below w'.heap.size w' w''))
    (hf2 : Hid (∀ c (w' : World), c < 16384 → Below W.heap.size W w' → Calls Try.prog f2 (#[packVal c] ++ cap2) w' fun e w'' => e = .returned (.bool (G c)) ∧ Below w'.heap.size w' w'')) :
    Calls Try.prog 63 #[.func (.func f1) #[] cap1, .func (.func f2) #[] cap2] W fun e W' => e = .returned (leastV (leastF F G 16384)) ∧ Below W.heap.size W W' := by
  have HZ0 := hide (PBox.new W 0 0 0 0 29)
  have HB0 := hide (show Below W.heap.size W (W.alloc (.cells #[.int .i64 0, .int .i64 0, .int .i64 0, .int .i64 0] 29)) from (Below.refl _ _).alloc (Nat.le_refl _) _)
  go_enter Try.func63, Try.ntmps63
  go_wp2
  go_loopw [8] (fun i wr => ∃ k : Nat, k ≤ 16384 ∧ i = .int .i64 k ∧ Below W.heap.size W wr ∧ Hid (PBox wr W.heap.size 0 0 0 0) ∧ W.heap.size < wr.heap.size ∧ Hid (∀ j, j < k → F j = G j)) (fun i _ => 16384 - (intOf i).toNat)
  case atStart => exact ⟨0, Nat.zero_le _, rfl, HB0.out, HZ0, by simp, hide (fun j h => absurd h (by omega))⟩
  case round =>
    clear HZ0 HB0
    obtain ⟨k, hk, rfl, hb, HZ, hsz, HE⟩ := hrel
    have HB := hide hb
    clear hb
    by_cases hlt : k < 16384
    · obtain ⟨x0, x1, x2, x3, hpv⟩ := packVal_ints k
      have HPV := hide hpv
      have HF1 := hide (fun w' hb => hpv ▸ hf1.out k w' hlt hb)
      have HF2 := hide (fun w' hb => hpv ▸ hf2.out k w' hlt hb)
      clear hpv
      have HPK : Hid (Calls Try.prog 85 #[.int .i64 k] wr fun e W' => e = .returned (.agg #[.int .i64 x0, .int .i64 x1, .int .i64 x2, .int .i64 x3]) ∧ Below wr.heap.size wr W') := hide (HPV.out ▸ packet_walk wr k hlt)
      go_wp2_with fail
      refine HPK.out.mono ?_
      rintro e wa ⟨rfl, hba⟩
      have hsa := hba.size
      have HBa := hide ((HB.out.trans (hba.mono HB.out.size)).alloc (Nat.le_trans HB.out.size hsa) (.cells #[.int .i64 x0, .int .i64 x1, .int .i64 x2, .int .i64 x3] 29))
      have HXa := hide (PBox.new wa x0 x1 x2 x3 29)
      have HZa := hide ((HZ.out.below hba hsz).below ((Below.refl _ _).alloc (Nat.le_refl _) (.cells #[.int .i64 x0, .int .i64 x1, .int .i64 x2, .int .i64 x3] 29)) (Nat.lt_of_lt_of_le hsz hsa))
      have hpl : wa.heap.size < (wa.alloc (.cells #[.int .i64 x0, .int .i64 x1, .int .i64 x2, .int .i64 x3] 29)).heap.size := by simp
      have hne : W.heap.size < wa.heap.size := Nat.lt_of_lt_of_le hsz hsa
      clear hba HPK HZ HB hsz hsa
      go_wp2_with fail
      refine (HF1.out _ HBa.out).mono ?_
      generalize wa.alloc _ = wp at *
      rintro e wb ⟨rfl, hbb⟩
      have HBb := hide (HBa.out.trans (hbb.mono HBa.out.size))
      have HXb := hide (HXa.out.below hbb hpl)
      have HZb := hide (HZa.out.below hbb (Nat.lt_trans hne hpl))
      have hpb : wa.heap.size < wb.heap.size := Nat.lt_of_lt_of_le hpl hbb.size
      clear hbb HBa HXa HZa hpl
      generalize wa.heap.size = N at *
      obtain ⟨p0, p1, p2, p3, _⟩ := HXb.out
      cases hF : F k
      · go_wp2_with fail
        refine (HF2.out _ HBb.out).mono ?_
        rintro e wc ⟨rfl, hbc⟩
        have HBbc := hide (HBb.out.trans (hbc.mono HBb.out.size))
        have HXbc := hide (HXb.out.below hbc hpb)
        have HZbc := hide (HZb.out.below hbc (by omega))
        have hpbc : N < wc.heap.size := Nat.lt_of_lt_of_le hpb hbc.size
        clear hbc p0 p1 p2 p3
        obtain ⟨p0, p1, p2, p3, _⟩ := HXbc.out
        cases hG : G k
        · go_wp2
          go_roundw
          case rel => exact ⟨k + 1, by omega, by go_num, HBbc.out, HZbc, by omega, hide (fun j hj => by
            rcases (by omega : j < k ∨ j = k) with h | rfl
            · exact HE.out j h
            · rw [hF, hG])⟩
          case measure => simp [intOf]; omega
        · go_wp2_with fail
          refine (HF1.out _ HBbc.out).mono ?_
          rintro e wc ⟨rfl, hbc⟩
          have HBbcc := hide (HBbc.out.trans (hbc.mono HBbc.out.size))
          have HXbcc := hide (HXbc.out.below hbc hpbc)
          have HZbcc := hide (HZbc.out.below hbc (by omega))
          have hpbcc : N < wc.heap.size := Nat.lt_of_lt_of_le hpbc hbc.size
          clear hbc p0 p1 p2 p3
          obtain ⟨p0, p1, p2, p3, _⟩ := HXbcc.out
          have HR := hide (leastF_found hlt (by rw [hF, hG]; rfl) HE.out)
          obtain ⟨z0, z1, z2, z3, z4, z5, z6, z7⟩ := HZbcc.out
          go_wp2
          refine bodyPost_ret (v := .tuple #[.agg #[.int .i64 x0, .int .i64 x1, .int .i64 x2, .int .i64 x3], .int .i64 2]) (by simp [results, Try.results63, go_sem, z0, z1, z2, z3]) rfl ⟨by rw [HR.out, hF]; simp only [leastV]; rw [HPV.out]; rfl, ?_⟩
          exact (((HBbcc.out.setCell (Nat.le_refl _) _).setCell (Nat.le_refl _) _).setCell (Nat.le_refl _) _).setCell (Nat.le_refl _) _
      · go_wp2_with fail
        refine (HF2.out _ HBb.out).mono ?_
        rintro e wc ⟨rfl, hbc⟩
        have HBbc := hide (HBb.out.trans (hbc.mono HBb.out.size))
        have HXbc := hide (HXb.out.below hbc hpb)
        have HZbc := hide (HZb.out.below hbc (by omega))
        have hpbc : N < wc.heap.size := Nat.lt_of_lt_of_le hpb hbc.size
        clear hbc p0 p1 p2 p3
        obtain ⟨p0, p1, p2, p3, _⟩ := HXbc.out
        cases hG : G k
        · have HR := hide (leastF_found hlt (by rw [hF, hG]; rfl) HE.out)
          obtain ⟨z0, z1, z2, z3, z4, z5, z6, z7⟩ := HZbc.out
          go_wp2
          refine bodyPost_ret (v := .tuple #[.agg #[.int .i64 x0, .int .i64 x1, .int .i64 x2, .int .i64 x3], .int .i64 1]) (by simp [results, Try.results63, go_sem, z0, z1, z2, z3]) rfl ⟨by rw [HR.out, hF]; simp only [leastV]; rw [HPV.out]; rfl, ?_⟩
          exact (((HBbc.out.setCell (Nat.le_refl _) _).setCell (Nat.le_refl _) _).setCell (Nat.le_refl _) _).setCell (Nat.le_refl _) _
        · go_wp2_with fail
          refine (HF2.out _ HBbc.out).mono ?_
          rintro e wc ⟨rfl, hbc⟩
          have HBbcc := hide (HBbc.out.trans (hbc.mono HBbc.out.size))
          have HXbcc := hide (HXbc.out.below hbc hpbc)
          have HZbcc := hide (HZbc.out.below hbc (by omega))
          have hpbcc : N < wc.heap.size := Nat.lt_of_lt_of_le hpbc hbc.size
          clear hbc p0 p1 p2 p3
          obtain ⟨p0, p1, p2, p3, _⟩ := HXbcc.out
          go_wp2_with fail
          refine (HF1.out _ HBbcc.out).mono ?_
          rintro e wc ⟨rfl, hbc⟩
          have HBbccc := hide (HBbcc.out.trans (hbc.mono HBbcc.out.size))
          have HXbccc := hide (HXbcc.out.below hbc hpbcc)
          have HZbccc := hide (HZbcc.out.below hbc (by omega))
          have hpbccc : N < wc.heap.size := Nat.lt_of_lt_of_le hpbcc hbc.size
          clear hbc p0 p1 p2 p3
          obtain ⟨p0, p1, p2, p3, _⟩ := HXbccc.out
          go_wp2
          go_roundw
          case rel => exact ⟨k + 1, by omega, by go_num, HBbccc.out, HZbccc, by omega, hide (fun j hj => by
            rcases (by omega : j < k ∨ j = k) with h | rfl
            · exact HE.out j h
            · rw [hF, hG])⟩
          case measure => simp [intOf]; omega
    · have hk4 : k = 16384 := by omega
      have HR := hide (leastF_none (n := 16384) (fun j hj => HE.out j (by omega)))
      obtain ⟨z0, z1, z2, z3, z4, z5, z6, z7⟩ := HZ.out
      go_wp2
      refine bodyPost_ret (v := .tuple #[.agg #[.int .i64 0, .int .i64 0, .int .i64 0, .int .i64 0], .int .i64 0]) (by simp [results, Try.results63, go_sem, z0, z1, z2, z3]) rfl ⟨by rw [HR.out]; rfl, ?_⟩
      exact (((HB.out.setCell (Nat.le_refl _) _).setCell (Nat.le_refl _) _).setCell (Nat.le_refl _) _).setCell (Nat.le_refl _) _
end Go.Proofs.Ytoanimmlpfchjaa
