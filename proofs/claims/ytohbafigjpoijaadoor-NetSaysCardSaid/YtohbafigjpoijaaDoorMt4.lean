/- match.Print. -/
import Derived.Test.YtohbafigjpoijaaDoorMt3
import Derived.Test.YtohbafigjpoijaaDoorG3
set_option linter.unusedVariables false
set_option linter.unusedSimpArgs false
set_option maxRecDepth 100000
set_option maxHeartbeats 8000000
namespace Go.Proofs.YtohbafigjpoijaaDoor
open Go.RowKit

def wordsL (m : M4) : List (List UInt8) := [wordF m.src 16, wordF m.sport 8, wordF m.dst 16, wordF m.dport 8]
theorem words_part {m : M4} {k : Nat} {x : PartV} (h : (partL m.src m.dst m.sport m.dport)[k]? = some x) : (wordsL m)[k]? = some (wordF x.set (2 ^ x.bits)) := by
  match k, h with
  | 0, h => cases h; rfl
  | 1, h => cases h; rfl
  | 2, h => cases h; rfl
  | 3, h => cases h; rfl
  | k + 4, h => simp [partL] at h
theorem wordAny_walk {m : M4} (hm : m.ok) {k : Nat} {x : PartV} (h : (partL m.src m.dst m.sport m.dport)[k]? = some x) (w : World) :
    Calls Tryd.prog 55 #[.agg #[.int .u16 (x.set : Int), .int .i64 (x.bits : Int), .int .i64 (x.first : Int)]] w fun e W' => e = .returned (.string ⟨(wordF x.set (2 ^ x.bits)).toArray⟩) ∧ Below w.heap.size w W' := by
  obtain ⟨h1, h2, h3, h4⟩ := hm
  match k, h with
  | 0, h => cases h; exact word16_walk m.src 0 w h1
  | 1, h => cases h; exact word8_walk m.sport 8 w h3
  | 2, h => cases h; exact word16_walk m.dst 4 w h2
  | 3, h => cases h; exact word8_walk m.dport 11 w h4
  | k + 4, h => simp [partL] at h

theorem matchPrint_walk (m : M4) (hm : m.ok) (W : World) :
    Calls Tryd.prog 26 #[.agg #[.int .u16 m.src, .int .u16 m.dst, .int .u8 m.sport, .int .u8 m.dport]] W fun e W' => e = .returned (.string ⟨(matchT m).toArray⟩) ∧ Below W.heap.size W W' := by
  obtain ⟨i0, hi0, hz0, hz1, hz2⟩ := info_parts Tryd.infoString
  have hb0 := (Below.refl W.heap.size W).alloc (Nat.le_refl _) (.cells #[.int .u16 m.src, .int .u16 m.dst, .int .u8 m.sport, .int .u8 m.dport] 42)
  have hx := heap_alloc_new W (.cells #[.int .u16 m.src, .int .u16 m.dst, .int .u8 m.sport, .int .u8 m.dport] 42)
  obtain ⟨x0, x1, x2, x3, _⟩ := cells4f hx
  have HPA := hide (fun w => parts_walk w m.src m.dst m.sport m.dport hm.1 hm.2.1 hm.2.2.1 hm.2.2.2)
  have HWD := hide (fun k x h => wordAny_walk hm (k := k) (x := x) h)
  have HJN := hide (matchT_join m)
  have HLN := hide (matchT_len m)
  go_enter Tryd.func26, Tryd.ntmps26
  go_wp2_with fail
  have HB0 := hide hb0
  generalize W.alloc (.cells #[.int .u16 m.src, .int .u16 m.dst, .int .u8 m.sport, .int .u8 m.dport] 42) = w1 at *
  clear hx hb0
  refine (HPA.out w1).mono ?_
  rintro e w2 ⟨rfl, o0, hw2⟩
  have hpb : w2.heap[w1.heap.size + 1]? = some (.cells (partBox m.src m.dst m.sport m.dport) 90) := by
    rw [hw2]
    have := heap_alloc_new (w1.alloc o0) (.cells (partBox m.src m.dst m.sport m.dport) 90)
    rwa [show (w1.alloc o0).heap.size = w1.heap.size + 1 by simp] at this
  have HB2 := hide (show Below W.heap.size W w2 from by
    rw [hw2]; exact (HB0.out.alloc HB0.out.size o0).alloc (by have := HB0.out.size; simp; omega) _)
  have hsz2 : w2.heap.size = w1.heap.size + 2 := by rw [hw2]; simp
  have HPB := hide hpb
  clear hpb hw2 HPA HB0
  generalize hN : w1.heap.size + 1 = Np at *
  have HN2 := hide (show Np < w2.heap.size by omega)
  clear hsz2 hN x0 x1 x2 x3
  go_wp2_with fail
  go_loopw [3, 9] (fun v i wr => ∃ (k : Nat), k ≤ 4 ∧ i = .int .i64 (k : Int) ∧ Hid (wr.ownsRow w2.heap.size 9 1 v k (((wordsL m).take k).map strV)) ∧ Hid (Below w2.heap.size w2 wr)) (fun _ i _ => 4 - (intOf i).toNat)
  case atStart => exact ⟨0, by omega, rfl, hide (World.ownsRow_nil _ _ _ _), hide (Below.refl _ _)⟩
  case round =>
    obtain ⟨k, hk, rfl, HO, HBW⟩ := hrel
    by_cases hlt : k < 4
    case pos =>
      obtain ⟨x, hx, hxs, hxb, hxf, g0, g1, g2⟩ := part_get m.src m.dst m.sport m.dport k hm.1 hm.2.1 hm.2.2.1 hm.2.2.2 hlt
      have hpb := (HBW.out.block Np HN2.out).trans HPB.out
      have y0 : wr.cell? ⟨Np, k * 3, none⟩ = some (.int .u16 x.set) := by rw [cell_of_row _ _ _ _ _ _ hpb]; exact g0
      have y1 : wr.cell? ⟨Np, k * 3 + 1, none⟩ = some (.int .i64 x.bits) := by rw [cell_of_row _ _ _ _ _ _ hpb]; exact g1
      have y2 : wr.cell? ⟨Np, k * 3 + 2, none⟩ = some (.int .i64 x.first) := by rw [cell_of_row _ _ _ _ _ _ hpb]; exact g2
      have HW := hide (words_part hx)
      have HC := hide (HWD.out k x hx)
      have hltI : (k : Int) < 4 := by omega
      obtain ⟨X, hX⟩ : ∃ X, wordF x.set (2 ^ x.bits) = X := ⟨_, rfl⟩
      rw [hX] at HW HC
      clear hX hx hxs hxb hxf g0 g1 g2 hpb
      generalize x.set = xs at *
      generalize x.bits = xb at *
      generalize x.first = xf at *
      have hbz := HBW.out.size
      have HO3 := hide (HO.out.alloc (.cells #[.int .u16 (xs : Int), .int .i64 (xb : Int), .int .i64 (xf : Int)] 90))
      have HB3 := hide (HBW.out.alloc hbz (.cells #[.int .u16 (xs : Int), .int .i64 (xb : Int), .int .i64 (xf : Int)] 90))
      clear HO HBW
      go_wp2_with fail
      refine (HC.out _).mono ?_
      generalize wr.alloc (.cells #[.int .u16 (xs : Int), .int .i64 (xb : Int), .int .i64 (xf : Int)] 90) = w3 at *
      rintro e w4 ⟨rfl, hb⟩
      have HO4' := hide (ownsRow_below HO3.out hb)
      have HB4' := hide (HB3.out.trans (hb.mono HB3.out.size))
      have hwz : w2.heap.size ≤ w4.heap.size := HB4'.out.size
      clear hb HO3 HB3 y0 y1 y2
      have HLIT := hide (show Reads (w4.alloc (.cells #[.string ⟨X.toArray⟩] 9)) (w4.heap.size + 1) 1 (some ⟨w4.heap.size, 0, none⟩) 1 [.string ⟨X.toArray⟩] from
        ⟨rfl, fun _ => ⟨_, rfl, Nat.lt_succ_self _, fun j u hu => by
          rw [addr_add, Nat.zero_add, cell_of_row _ _ _ _ _ _ (heap_alloc_new w4 _)]
          simpa using hu⟩⟩)
      have HO4 := hide (HO4'.out.alloc (.cells #[.string ⟨X.toArray⟩] 9))
      have HB4 := hide (HB4'.out.alloc hwz (.cells #[.string ⟨X.toArray⟩] 9))
      clear HO4' HB4'
      have hlen4 : ((wordsL m).take k).length = k := by simp [wordsL]; omega
      have HTK := hide (show (wordsL m).take (k + 1) = (wordsL m).take k ++ [X] by rw [List.take_add_one, HW.out]; rfl)
      go_wp2_with (at_builtin; refine wpList_append_any _ rfl (.tmp 13) (.tmp 16) 82 rfl w2.heap.size 9 i0 _ 1 16 Tryd.underlying82 hi0 hz0 hz1 hz2 rfl (by omega) _ k (((wordsL m).take k).map strV) rfl HO4.out (w4.heap.size + 1) (some ⟨w4.heap.size, 0, none⟩) 1 1 [.string ⟨X.toArray⟩] rfl HLIT.out (by intro u hu; simp at hu; subst hu; rfl) (by simp only [maxLen]; omega) (by omega) (by simp; omega) ?_; intro v5 w5 hown5 hg5 hat5; have HO5 := hide hown5; have HB5 := hide (HB4.out.grown hg5 (by simp; omega) (fun q hq => (HO4.out.lt q hq).1)); clear hown5 hg5 hat5)
      go_roundw
      case rel => exact ⟨k + 1, by omega, by go_num, hide (by rw [HTK.out]; simpa [strV] using HO5.out), HB5⟩
      case measure => simp [intOf]; omega
    case neg =>
      obtain rfl : k = 4 := by omega
      have hall : (wordsL m).take 4 = wordsL m := rfl
      rw [hall] at HO
      obtain ⟨g, cap, hv, hgw⟩ := HO.out.form (by omega)
      subst hv
      have hcap : 4 ≤ cap := by
        rcases HO.out.2 with ⟨h, _⟩ | ⟨g', cap', cur, h, _, _, hnc, _⟩
        · cases h
        · cases h; exact hnc
      have HST := hide (show StrsAt wr w2.heap.size g 4 cap (wordsL m) from ⟨HO.out, rfl⟩)
      have HJ := hide (fun w (h : StrsAt w w2.heap.size g 4 cap (wordsL m)) => join_walk (wordsL m) 32 w2.heap.size g 4 cap w h (by have h := HLN.out; rw [HJN.out] at h; exact Nat.le_trans h (by omega)) (by omega) hcap)
      have HBF := hide (HB2.out.trans (HBW.out.mono HB2.out.size))
      clear HO hlt hgw hcap hall HBW
      go_wp2_with fail
      refine (HJ.out _ HST.out).mono ?_
      rintro e w9 ⟨rfl, hb⟩
      have HBZ := hide (HBF.out.trans (hb.mono HBF.out.size))
      clear hb
      go_wp2
      go_ret
      exact ⟨by rw [HJN.out]; rfl, HBZ.out⟩
end Go.Proofs.YtohbafigjpoijaaDoor
