/- wirekeep.MatchBack: the walk. -/
import Derived.Test.YtohbafigjpoijaaDoorMt6
import Derived.Test.YtohbafigjpoijaaDoorSt9
set_option linter.unusedVariables false
set_option linter.unusedSimpArgs false
set_option maxRecDepth 100000
set_option maxHeartbeats 8000000
namespace Go.Proofs.YtohbafigjpoijaaDoor
open Go.RowKit

theorem matchT_const : matchT ⟨14, 1, 255, 0⟩ = [49, 45, 51, 32, 42, 32, 48, 32, 45] := by
  simp [matchT, wordF, rowsF, stopAt, rowT, joinF, Nat.testBit, dig_dec]

theorem matchBack_walk (m : M4) (hmo : m.ok) (l : List UInt8) (W : World) (hsz : l.length ≤ 9223372036854775807) (hm : MaxAt W) :
    Calls Tryd.prog 6 #[.agg #[.int .u16 m.src, .int .u16 m.dst, .int .u8 m.sport, .int .u8 m.dport], .string ⟨l.toArray⟩] W fun e W' => e = .returned (.bool true) ∧ Below W.heap.size W W' := by
  have HPC := hide (fun w => show Calls Tryd.prog 26 #[.agg #[.int .u16 14, .int .u16 1, .int .u8 255, .int .u8 0]] w (fun e w' => e = .returned (.string ⟨#[49, 45, 51, 32, 42, 32, 48, 32, 45]⟩) ∧ Below w.heap.size w w') from (matchPrint_walk ⟨14, 1, 255, 0⟩ (by simp [M4.ok]) w).mono (fun e w' h => show e = .returned (.string ⟨#[49, 45, 51, 32, 42, 32, 48, 32, 45]⟩) ∧ Below w.heap.size w w' from by
    rw [matchT_const] at h; exact h))
  have HPR := hide (fun w => matchPrint_walk m hmo w)
  have HPA := hide (fun (w : World) (hb : Below W.heap.size W w) => matchParse_walk l w hsz (hm.below hb))
  have HPT := hide (fun (w : World) (d : M4) (hd : d.ok) (hb : Below W.heap.size W w) => (matchParse_walk (matchT d) w (by have := matchT_len d; omega) (hm.below hb)).mono (fun e w' h => show e = .returned (.tuple #[.agg #[.int .u16 d.src, .int .u16 d.dst, .int .u8 d.sport, .int .u8 d.dport], .int .i64 0]) ∧ Below w.heap.size w w' from by
    simp only [parseMV, parse_match hd] at h; exact h))
  have hok := parseM_ok (l := l)
  obtain ⟨⟨d0, d1, d2, d3⟩, j, hj⟩ : ∃ d j, parseM l = (d, j) := ⟨_, _, rfl⟩
  have hV : parseMV l = .tuple #[.agg #[.int .u16 d0, .int .u16 d1, .int .u8 d2, .int .u8 d3], .int .i64 j] := by simp only [parseMV, hj]
  rw [hj] at hok
  rw [hV] at HPA
  have HP2 := hide (fun w => matchPrint_walk ⟨d0, d1, d2, d3⟩ hok w)
  have HPT2 := hide (fun w hb => HPT.out w ⟨d0, d1, d2, d3⟩ hok hb)
  have HPT1 := hide (fun w hb => HPT.out w m hmo hb)
  clear hV hj HPT hok hm
  obtain ⟨T, hT⟩ : ∃ T, matchT m = T := ⟨_, rfl⟩
  obtain ⟨T2, hT2⟩ : ∃ T, matchT ⟨d0, d1, d2, d3⟩ = T := ⟨_, rfl⟩
  rw [hT] at HPR HPT1
  rw [hT2] at HP2 HPT2
  obtain ⟨a, b, c, d⟩ := m
  simp only at HPR HPT1 HP2 HPT2
  clear hT hT2
  go_enter Tryd.func6, Tryd.ntmps6
  go_wp2_with fail
  have HK0 := hide ((Kp.nil W).al #[.int .u16 a, .int .u16 b, .int .u8 c, .int .u8 d] 42)
  generalize W.alloc (.cells #[.int .u16 a, .int .u16 b, .int .u8 c, .int .u8 d] 42) = w0 at *
  refine (HPC.out _).mono ?_
  rintro e w1 ⟨rfl, hb⟩
  have HK1 := hide (HK0.out.below hb)
  obtain ⟨_, u0, u1, u2, u3, _⟩ := HK1.out.c4 0 rfl
  clear hb HK0 HPC
  go_wp2_with fail
  refine (HPR.out _).mono ?_
  rintro e w2 ⟨rfl, hb⟩
  have HK2 := hide (HK1.out.below hb)
  clear hb HK1 HPR u0 u1 u2 u3
  go_wp2_with fail
  refine (HPT1.out _ HK2.out.bl).mono ?_
  rintro e w3 ⟨rfl, hb⟩
  have HK3 := hide ((HK2.out.below hb).al #[.int .u16 a, .int .u16 b, .int .u8 c, .int .u8 d] 42)
  obtain ⟨_, u0, u1, u2, u3, _⟩ := HK3.out.c4 0 rfl
  obtain ⟨_, v0, v1, v2, v3, _⟩ := HK3.out.c4 1 rfl
  clear hb HK2 HPT1
  go_wp2_with fail
  have HK4 := hide (HK3.out.sub (L' := []) (by simp))
  generalize World.alloc _ _ = w4 at *
  clear HK3 u0 u1 u2 u3 v0 v1 v2 v3
  refine (HPA.out _ HK4.out.bl).mono ?_
  rintro e w5 ⟨rfl, hb⟩
  have HK6 := hide ((HK4.out.below hb).al #[.int .u16 d0, .int .u16 d1, .int .u8 d2, .int .u8 d3] 42)
  obtain ⟨_, u0, u1, u2, u3, _⟩ := HK6.out.c4 0 rfl
  clear hb HK4 HPA
  go_wp2_with fail
  generalize hw6 : w5.alloc (.cells #[.int .u16 d0, .int .u16 d1, .int .u8 d2, .int .u8 d3] 42) = w6 at *
  clear hw6
  generalize w5.heap.size = Nd at *
  refine (HP2.out _).mono ?_
  rintro e w7 ⟨rfl, hb⟩
  have HK7 := hide (HK6.out.below hb)
  clear hb HK6 HP2 u0 u1 u2 u3
  go_wp2_with fail
  refine (HPT2.out _ HK7.out.bl).mono ?_
  rintro e w8 ⟨rfl, hb⟩
  have HK8 := hide ((HK7.out.below hb).al #[.int .u16 d0, .int .u16 d1, .int .u8 d2, .int .u8 d3] 42)
  obtain ⟨_, u0, u1, u2, u3, _⟩ := HK8.out.c4 0 rfl
  obtain ⟨_, v0, v1, v2, v3, _⟩ := HK8.out.c4 1 rfl
  clear hb HK7 HPT2
  by_cases hj : j = 0
  · subst hj
    go_wp2
    go_ret
    exact ⟨rfl, HK8.out.bl⟩
  · have e1 : (j == 0) = false := by simpa using hj
    have e2 : (j != 0) = true := by simpa using hj
    go_wp2
    go_ret
    exact ⟨rfl, HK8.out.bl⟩
end Go.Proofs.YtohbafigjpoijaaDoor
