/- A packet's text: Print, PacketText, Parse, ReadPacket. -/
import Derived.Test.YtohbafigjpoijaaDoorSt4
import Derived.Deep.QuietTactic
import Derived.BigQuiet
set_option linter.unusedVariables false
set_option linter.unusedSimpArgs false
set_option maxRecDepth 100000
set_option maxHeartbeats 4000000
namespace Go.Proofs.YtohbafigjpoijaaDoor
open Go.RowKit

theorem endT_len {a p : Nat} (ha : a < 100) (hp : p < 100) : (endT a p).length ≤ 5 := by
  have := dec_len2 ha; have := dec_len2 hp
  simp [endT]; omega
/-- What Print answers. -/
def printF (p : P4) : List UInt8 := if rightB p then packT p else []
theorem print_walk (p : P4) (W : World) :
    Calls Tryd.prog 16 #[.agg #[.int .i64 p.src, .int .i64 p.dst, .int .i64 p.sport, .int .i64 p.dport]] W fun e W' => e = .returned (.tuple #[strV (printF p), .int .i64 (if rightB p then 0 else 1)]) ∧ Below W.heap.size W W' := by
  have HC := hide (fun (w : World) => packetCheck_walk p w)
  cases hR : rightB p with
  | false =>
    simp only [hR] at HC
    have HF := hide (show strV (printF p) = .string ⟨#[]⟩ by simp [printF, hR, strV])
    rw [HF.out]
    obtain ⟨a, b, c, d⟩ := p
    clear hR
    go_enter Tryd.func16, Tryd.ntmps16
    go_wp2_with fail
    have hb0 := (Below.refl W.heap.size W).alloc (Nat.le_refl _) (.cells #[.int .i64 a, .int .i64 b, .int .i64 c, .int .i64 d] 23)
    refine (HC.out _).mono ?_
    rintro e w1 ⟨rfl, hb⟩
    have HB := hide (hb0.trans (hb.mono hb0.size))
    clear hb hb0
    go_wp2
    go_ret2
    exact ⟨rfl, HB.out⟩
  | true =>
    simp only [hR] at HC
    obtain ⟨a, b, c, d, rfl, h1, h2, h3, h4⟩ := right_nats hR
    have HF := hide (show strV (printF ⟨(a : Int), (b : Int), (c : Int), (d : Int)⟩) = .string ⟨(endT a c ++ 62 :: endT b d).toArray⟩ by simp [printF, hR, packT, strV])
    rw [HF.out]
    have l1 := endT_len (show a < 100 by omega) (show c < 100 by omega)
    have l2 := endT_len (show b < 100 by omega) (show d < 100 by omega)
    have HX := hide (fun w => (end_walk a c (by omega) (by omega) w).mono (fun e w' h => show e = .returned (.string ⟨(endT a c).toArray⟩) ∧ w' = w from ⟨h.1, h.2.symm⟩))
    have HY := hide (fun w => (end_walk b d (by omega) (by omega) w).mono (fun e w' h => show e = .returned (.string ⟨(endT b d).toArray⟩) ∧ w' = w from ⟨h.1, h.2.symm⟩))
    generalize endT a c = X at *
    generalize endT b d = Y at *
    have e1 : ∀ w', (Op.stringOp .add ⟨X.toArray⟩ ⟨#[62]⟩).run Tryd.prog w' = .ok (.string ⟨(X ++ [62]).toArray⟩) w' := add_run X [62] (by omega) (by simp)
    have e2 : ∀ w', (Op.stringOp .add ⟨(X ++ [62]).toArray⟩ ⟨Y.toArray⟩).run Tryd.prog w' = .ok (.string ⟨(X ++ 62 :: Y).toArray⟩) w' := fun w' => by
      have := add_run (X ++ [62]) Y (by simp; omega) (by omega) w'
      simpa using this
    clear hR HF l1 l2
    go_enter Tryd.func16, Tryd.ntmps16
    go_wp2_with fail
    have hb0 := (Below.refl W.heap.size W).alloc (Nat.le_refl _) (.cells #[.int .i64 (a : Int), .int .i64 (b : Int), .int .i64 (c : Int), .int .i64 (d : Int)] 23)
    have HX0 := hide (heap_alloc_new W (.cells #[.int .i64 (a : Int), .int .i64 (b : Int), .int .i64 (c : Int), .int .i64 (d : Int)] 23))
    refine (HC.out _).mono ?_
    rintro e w1 ⟨rfl, hb⟩
    have HB := hide (hb0.trans (hb.mono hb0.size))
    have hx := (hb.block W.heap.size (by simp)).trans HX0.out
    have x0 : w1.cell? ⟨W.heap.size, 0, none⟩ = some (.int .i64 (a : Int)) := by rw [cell_of_row _ _ _ _ _ _ hx]; rfl
    have x1 : w1.cell? ⟨W.heap.size, 1, none⟩ = some (.int .i64 (b : Int)) := by rw [cell_of_row _ _ _ _ _ _ hx]; rfl
    have x2 : w1.cell? ⟨W.heap.size, 2, none⟩ = some (.int .i64 (c : Int)) := by rw [cell_of_row _ _ _ _ _ _ hx]; rfl
    have x3 : w1.cell? ⟨W.heap.size, 3, none⟩ = some (.int .i64 (d : Int)) := by rw [cell_of_row _ _ _ _ _ _ hx]; rfl
    clear hb hb0 hx HX0
    go_wp2
    go_quiet (first | (go_at_call_of 43 (Value.int .i64 (a : Int)); exact Calls.quiet_of_same (HX.out _)) | (go_at_call_of 43 (Value.int .i64 (b : Int)); exact Calls.quiet_of_same (HY.out _)))
    go_wp2
    go_ret2
    exact ⟨rfl, HB.out.trans ((below_drewN w1 _).mono HB.out.size)⟩

theorem packetText_walk (a b c d : Nat) (h1 : a < 100) (h2 : b < 100) (h3 : c < 100) (h4 : d < 100) (W : World) :
    Calls Tryd.prog 12 #[.agg #[.int .i64 (a : Int), .int .i64 (b : Int), .int .i64 (c : Int), .int .i64 (d : Int)]] W fun e W' => e = .returned (.string ⟨(endT a c ++ 62 :: endT b d).toArray⟩) ∧ Below W.heap.size W W' := by
  have HI := hide (fun (u : Nat) (h : u < 100) (w : World) => Tryd.strconv_Itoa_small u h w)
  have l1 := dec_len2 h1
  have l2 := dec_len2 h2
  have l3 := dec_len2 h3
  have l4 := dec_len2 h4
  simp only [endT]
  have HA := hide (HI.out a h1)
  have HB := hide (HI.out b h2)
  have HC := hide (HI.out c h3)
  have HD := hide (HI.out d h4)
  generalize Lib.decDigits a = X at *
  generalize Lib.decDigits b = Y at *
  generalize Lib.decDigits c = Z at *
  generalize Lib.decDigits d = U at *
  have e1 : ∀ w', (Op.stringOp .add ⟨X.toArray⟩ ⟨#[58]⟩).run Tryd.prog w' = .ok (.string ⟨(X ++ [58]).toArray⟩) w' := add_run X [58] (by omega) (by simp)
  have e2 : ∀ w', (Op.stringOp .add ⟨(X ++ [58]).toArray⟩ ⟨Z.toArray⟩).run Tryd.prog w' = .ok (.string ⟨(X ++ 58 :: Z).toArray⟩) w' := fun w' => by
    have := add_run (X ++ [58]) Z (by simp; omega) (by omega) w'
    simpa using this
  have e3 : ∀ w', (Op.stringOp .add ⟨(X ++ 58 :: Z).toArray⟩ ⟨#[62]⟩).run Tryd.prog w' = .ok (.string ⟨(X ++ 58 :: (Z ++ [62])).toArray⟩) w' := fun w' => by
    have := add_run (X ++ 58 :: Z) [62] (by simp; omega) (by simp) w'
    simpa using this
  have e4 : ∀ w', (Op.stringOp .add ⟨(X ++ 58 :: (Z ++ [62])).toArray⟩ ⟨Y.toArray⟩).run Tryd.prog w' = .ok (.string ⟨(X ++ 58 :: (Z ++ 62 :: Y)).toArray⟩) w' := fun w' => by
    have := add_run (X ++ 58 :: (Z ++ [62])) Y (by simp; omega) (by omega) w'
    simpa using this
  have e5 : ∀ w', (Op.stringOp .add ⟨(X ++ 58 :: (Z ++ 62 :: Y)).toArray⟩ ⟨#[58]⟩).run Tryd.prog w' = .ok (.string ⟨(X ++ 58 :: (Z ++ 62 :: (Y ++ [58]))).toArray⟩) w' := fun w' => by
    have := add_run (X ++ 58 :: (Z ++ 62 :: Y)) [58] (by simp; omega) (by simp) w'
    simpa using this
  have e6 : ∀ w', (Op.stringOp .add ⟨(X ++ 58 :: (Z ++ 62 :: (Y ++ [58]))).toArray⟩ ⟨U.toArray⟩).run Tryd.prog w' = .ok (.string ⟨(X ++ 58 :: (Z ++ 62 :: (Y ++ 58 :: U))).toArray⟩) w' := fun w' => by
    have := add_run (X ++ 58 :: (Z ++ 62 :: (Y ++ [58]))) U (by simp; omega) (by omega) w'
    simpa using this
  clear l1 l2 l3 l4 HI
  have hb0 := (Below.refl W.heap.size W).alloc (Nat.le_refl _) (.cells #[.int .i64 (a : Int), .int .i64 (b : Int), .int .i64 (c : Int), .int .i64 (d : Int)] 23)
  have hx := heap_alloc_new W (.cells #[.int .i64 (a : Int), .int .i64 (b : Int), .int .i64 (c : Int), .int .i64 (d : Int)] 23)
  go_enter Tryd.func12, Tryd.ntmps12
  go_wp2_with fail
  generalize W.alloc (.cells #[.int .i64 (a : Int), .int .i64 (b : Int), .int .i64 (c : Int), .int .i64 (d : Int)] 23) = w1 at *
  have x0 : w1.cell? ⟨W.heap.size, 0, none⟩ = some (.int .i64 (a : Int)) := by rw [cell_of_row _ _ _ _ _ _ hx]; rfl
  have x1 : w1.cell? ⟨W.heap.size, 1, none⟩ = some (.int .i64 (b : Int)) := by rw [cell_of_row _ _ _ _ _ _ hx]; rfl
  have x2 : w1.cell? ⟨W.heap.size, 2, none⟩ = some (.int .i64 (c : Int)) := by rw [cell_of_row _ _ _ _ _ _ hx]; rfl
  have x3 : w1.cell? ⟨W.heap.size, 3, none⟩ = some (.int .i64 (d : Int)) := by rw [cell_of_row _ _ _ _ _ _ hx]; rfl
  have HB0 := hide hb0
  clear hx hb0
  go_quiet (first | (go_at_call_of 41 (Value.int .i64 (a : Int)); exact Calls.quiet_of_same (HA.out _)) | (go_at_call_of 41 (Value.int .i64 (b : Int)); exact Calls.quiet_of_same (HB.out _)) | (go_at_call_of 41 (Value.int .i64 (c : Int)); exact Calls.quiet_of_same (HC.out _)) | (go_at_call_of 41 (Value.int .i64 (d : Int)); exact Calls.quiet_of_same (HD.out _)))
  go_wp2
  go_ret
  exact ⟨by simp, HB0.out.trans ((below_drewN w1 _).mono HB0.out.size)⟩

theorem heap_lt {w : World} {b : Nat} {o : Obj} (h : w.heap[b]? = some o) : b < w.heap.size := (Array.getElem?_eq_some_iff.1 h).1
theorem cells4f {w : World} {b : Nat} {x0 x1 x2 x3 : Value} {t : TypeId} (h : w.heap[b]? = some (.cells #[x0, x1, x2, x3] t)) :
    w.cell? ⟨b, 0, none⟩ = some x0 ∧ w.cell? ⟨b, 1, none⟩ = some x1 ∧ w.cell? ⟨b, 2, none⟩ = some x2 ∧ w.cell? ⟨b, 3, none⟩ = some x3 ∧
    w.frozen? ⟨b, 0, none⟩ = false ∧ w.frozen? ⟨b, 1, none⟩ = false ∧ w.frozen? ⟨b, 2, none⟩ = false ∧ w.frozen? ⟨b, 3, none⟩ = false :=
  ⟨by rw [cell_of_row _ _ _ _ _ _ h]; rfl, by rw [cell_of_row _ _ _ _ _ _ h]; rfl, by rw [cell_of_row _ _ _ _ _ _ h]; rfl, by rw [cell_of_row _ _ _ _ _ _ h]; rfl,
    frozen_of_row _ _ _ _ _ h, frozen_of_row _ _ _ _ _ h, frozen_of_row _ _ _ _ _ h, frozen_of_row _ _ _ _ _ h⟩

def parseV (l : List UInt8) : Value := .tuple #[.agg #[.int .i64 (parseF l).1.src, .int .i64 (parseF l).1.dst, .int .i64 (parseF l).1.sport, .int .i64 (parseF l).1.dport], .int .i64 (parseF l).2]
theorem cutB_len (b : UInt8) : ∀ (l : List UInt8), (cutB b l).1.length ≤ l.length ∧ (cutB b l).2.length ≤ l.length
  | [] => ⟨Nat.le_refl _, Nat.le_refl _⟩
  | x :: r => by
    have := cutB_len b r
    rw [cutB]
    split
    · simp
    · simp; omega

theorem parse_walk (l : List UInt8) (W : World) (hs : l.length ≤ 1048576) (hm : MaxAt W) :
    Calls Tryd.prog 17 #[.string ⟨l.toArray⟩] W fun e W' => e = .returned (parseV l) ∧ Below W.heap.size W W' := by
  have hb0 := (Below.refl W.heap.size W).alloc (Nat.le_refl _) (.cells #[.int .i64 0, .int .i64 0, .int .i64 0, .int .i64 0] 23)
  have hx := heap_alloc_new W (.cells #[.int .i64 0, .int .i64 0, .int .i64 0, .int .i64 0] 23)
  have hcl := cutB_len 62 l
  have HP := hide (show parseF l = if goodE (endsF (cutB 62 l).1) && goodE (endsF (cutB 62 l).2) then (⟨(endsF (cutB 62 l).1).1, (endsF (cutB 62 l).2).1, (endsF (cutB 62 l).1).2, (endsF (cutB 62 l).2).2⟩, 0) else (⟨0, 0, 0, 0⟩, 3) from rfl)
  have HC0 := hide (fun (w : World) (h : MaxAt w) => cut_walk ⟨l.toArray⟩ 62 w (by rw [← sz_list]; simpa using hs) h)
  obtain ⟨X, hX⟩ : ∃ X, (cutB 62 l).1 = X := ⟨_, rfl⟩
  obtain ⟨Y, hY⟩ : ∃ Y, (cutB 62 l).2 = Y := ⟨_, rfl⟩
  have HC := hide (fun (w : World) (h : MaxAt w) => (HC0.out w h).mono (fun e w' h => show e = .returned (.tuple #[.string ⟨X.toArray⟩, .string ⟨Y.toArray⟩, .bool (decide (62 ∈ l))]) ∧ Below w.heap.size w w' from by rw [← hX, ← hY]; exact h))
  rw [hX, hY] at HP hcl
  clear HC0 hX hY
  have HX := hide (fun (w : World) (h : MaxAt w) => ends_walk X w (by omega) h)
  have HY := hide (fun (w : World) (h : MaxAt w) => ends_walk Y w (by omega) h)
  clear hcl
  obtain ⟨⟨A, B⟩, hA⟩ : ∃ A, endsF X = A := ⟨_, rfl⟩
  obtain ⟨⟨C, D⟩, hC⟩ : ∃ C, endsF Y = C := ⟨_, rfl⟩
  rw [hA] at HX HP
  rw [hC] at HY HP
  obtain ⟨g1, hg1⟩ : ∃ g, goodE (A, B) = g := ⟨_, rfl⟩
  obtain ⟨g2, hg2⟩ : ∃ g, goodE (C, D) = g := ⟨_, rfl⟩
  rw [hg1] at HX HP
  rw [hg2] at HY HP
  have HV := hide (show parseV l = .tuple #[.agg #[.int .i64 (parseF l).1.src, .int .i64 (parseF l).1.dst, .int .i64 (parseF l).1.sport, .int .i64 (parseF l).1.dport], .int .i64 (parseF l).2] from rfl)
  rw [HP.out] at HV
  rw [HV.out]
  clear HP HV hA hC hg1 hg2
  have HM := hide hm
  clear hm
  go_enter Tryd.func17, Tryd.ntmps17
  go_wp2_with fail
  generalize W.alloc (.cells #[.int .i64 0, .int .i64 0, .int .i64 0, .int .i64 0] 23) = w1 at *
  have HM1 := hide (HM.out.below hb0)
  refine (HC.out _ HM1.out).mono ?_
  rintro e w2 ⟨rfl, hb2⟩
  have hx2 := (hb2.block W.heap.size (heap_lt hx)).trans hx
  have hbb2 := hb0.trans (hb2.mono hb0.size)
  have HM2 := hide (HM1.out.below hb2)
  clear HC hb2 hx hb0 HM1
  go_wp2_with fail
  refine (HX.out _ HM2.out).mono ?_
  rintro e w3 ⟨rfl, hb3⟩
  have hx3 := (hb3.block W.heap.size (heap_lt hx2)).trans hx2
  have hbb3 := hbb2.trans (hb3.mono hbb2.size)
  have HM3 := hide (HM2.out.below hb3)
  clear HX hb3 hx2 hbb2 HM2
  go_wp2_with fail
  refine (HY.out _ HM3.out).mono ?_
  rintro e w4 ⟨rfl, hb4⟩
  have hx4 := (hb4.block W.heap.size (heap_lt hx3)).trans hx3
  have HB := hide (hbb3.trans (hb4.mono hbb3.size))
  obtain ⟨z0, z1, z2, z3, z4, z5, z6, z7⟩ := cells4f hx4
  clear HY hb4 hx3 hbb3 hx4 HM3
  cases g1 <;> cases g2
  all_goals
    go_wp2
    first
      | refine bodyPost_ret (v := .tuple #[.agg #[.int .i64 0, .int .i64 0, .int .i64 0, .int .i64 0], .int .i64 3]) (by simp [results, Tryd.f17, go_sem, z0, z1, z2, z3]) rfl ⟨rfl, ?_⟩
      | refine bodyPost_ret (v := .tuple #[.agg #[.int .i64 A, .int .i64 C, .int .i64 B, .int .i64 D], .int .i64 0]) (by simp [results, Tryd.f17, go_sem, z0, z1, z2, z3]) rfl ⟨rfl, ?_⟩
    exact (((HB.out.setCell (Nat.le_refl _) _).setCell (Nat.le_refl _) _).setCell (Nat.le_refl _) _).setCell (Nat.le_refl _) _
end Go.Proofs.YtohbafigjpoijaaDoor
