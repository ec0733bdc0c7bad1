/- A net's text: numbers in a row. -/
import Derived.Test.YtohbafigjpoijaaDoorMt9
import Derived.Test.YtohbafigjpoijaaDoorG6
set_option linter.unusedVariables false
set_option linter.unusedSimpArgs false
set_option maxRecDepth 100000
set_option maxHeartbeats 8000000
namespace Go.Proofs.YtohbafigjpoijaaDoor
open Go.RowKit

def comT (xs : List Nat) : List UInt8 := joinF [44] (xs.map Lib.decDigits)
def poolL (p : Nat) : List Nat := (List.range 8).filter p.testBit
theorem poolL_len (p : Nat) : (poolL p).length ≤ 8 := by
  have := List.length_filter_le p.testBit (List.range 8)
  simpa [poolL] using this
theorem poolL_lt (p : Nat) : ∀ x ∈ poolL p, x < 8 := by
  intro x hx
  have := List.mem_filter.1 hx
  exact List.mem_range.1 this.1
theorem comT_len {xs : List Nat} (h : ∀ x ∈ xs, x < 100) : (comT xs).length ≤ 3 * xs.length := by
  have := join_len [44] 2 (xs.map Lib.decDigits) (fun y hy => by
    obtain ⟨x, hx, rfl⟩ := List.mem_map.1 hy
    exact dec_len2 (h x hx))
  simpa [comT] using this
theorem comT_take (xs : List Nat) (k x : Nat) (hx : xs[k]? = some x) : comT (xs.take (k + 1)) = if k = 0 then Lib.decDigits x else comT (xs.take k) ++ 44 :: Lib.decDigits x := by
  have := joinF_take 44 (xs.map Lib.decDigits) k (Lib.decDigits x) (by rw [List.getElem?_map, hx]; rfl)
  simpa [comT, List.map_take] using this
theorem ints_at {w : World} {B n : Nat} {A : Option Addr} {xs : List Nat} (h : IntsAt w B A n (xs.map fun (k : Nat) => (k : Int))) (h0 : 0 < n) : ∃ b o, A = some ⟨b, o, none⟩ ∧ b < B ∧ ∀ (k x : Nat), xs[k]? = some x → w.cell? ⟨b, o + k, none⟩ = some (.int .i64 (x : Int)) := by
  obtain ⟨b, o, e, hb, hg⟩ := h.2.2 h0
  exact ⟨b, o, e, hb, fun k x hx => hg k x (by rw [List.getElem?_map, hx]; rfl)⟩

/-- wireref.commas. -/
theorem commas_walk (xs : List Nat) (A : Option Addr) (n c : Nat) (W : World) (hI : IntsAt W W.heap.size A n (xs.map fun (k : Nat) => (k : Int))) (hx : ∀ x ∈ xs, x < 100) (hn : n ≤ 8) :
    Calls Tryd.prog 60 #[.slice A n c] W fun e W' => e = .returned (.string ⟨(comT xs).toArray⟩) ∧ W = W' := by
  have hlen : xs.length = n := by have := hI.1; simpa using this
  have HI := hide hI
  have HX := hide hx
  clear hI hx
  go_enter Tryd.func60, Tryd.ntmps60
  go_wp2_with fail
  go_loopw [3, 4] (fun v i wr => ∃ k : Nat, k ≤ n ∧ i = .int .i64 (k : Int) ∧ v = .string ⟨(comT (xs.take k)).toArray⟩ ∧ wr = W) (fun _ i _ => n - (intOf i).toNat)
  case atStart => exact ⟨0, Nat.zero_le _, rfl, rfl, rfl⟩
  case round =>
    obtain ⟨k, hk, rfl, rfl, rfl⟩ := hrel
    by_cases hlt : k < n
    case pos =>
      obtain ⟨x, hx⟩ : ∃ x, xs[k]? = some x := ⟨_, List.getElem?_eq_getElem (by omega)⟩
      obtain ⟨b, o, rfl, hb, hg⟩ := ints_at HI.out (by omega)
      have c0 := hg k x hx
      have hx100 := HX.out x (List.mem_of_getElem? hx)
      have HT := hide (comT_take xs k x hx)
      have hl0 := comT_len (xs := xs.take k) (fun y hy => HX.out y (List.mem_of_mem_take hy))
      have hl2 := dec_len2 hx100
      have htl : (xs.take k).length ≤ 8 := by simp; omega
      have HIT := hide (fun w => (Tryd.strconv_Itoa_small x hx100 w).mono (fun e w' h => show e = .returned (.string ⟨(Lib.decDigits x).toArray⟩) ∧ w = w' from ⟨h.1, h.2.symm⟩))
      obtain ⟨X, hX⟩ : ∃ X, Lib.decDigits x = X := ⟨_, rfl⟩
      rw [hX] at HT HIT hl2
      clear hX hx hg hx100
      by_cases h0 : k = 0
      · subst h0
        rw [if_pos rfl] at HT
        have e2 : ∀ w', (Op.stringOp .add ⟨#[]⟩ ⟨X.toArray⟩).run Tryd.prog w' = .ok (.string ⟨X.toArray⟩) w' := fun w' => by
          have := add_run [] X (by simp) (by omega) w'
          simpa using this
        have HJ : comT (xs.take 0) = [] := rfl
        rw [HJ]
        simp only [Nat.add_zero] at c0
        clear hl0 hl2 HJ htl
        go_wp2_with (go_at_call 41; refine (HIT.out _).mono ?_; rintro e w5 ⟨rfl, rfl⟩)
        go_roundw
        case rel => exact ⟨1, by omega, by go_num, by rw [HT.out], trivial⟩
        case measure => simp [intOf]; omega
      · rw [if_neg h0] at HT
        have hkp : (0 : Int) < (k : Int) := by omega
        generalize comT (xs.take k) = J at *
        have e1 : ∀ w', (Op.stringOp .add ⟨J.toArray⟩ ⟨#[44]⟩).run Tryd.prog w' = .ok (.string ⟨(J ++ [44]).toArray⟩) w' := add_run J [44] (by omega) (by simp)
        have e2 : ∀ w', (Op.stringOp .add ⟨(J ++ [44]).toArray⟩ ⟨X.toArray⟩).run Tryd.prog w' = .ok (.string ⟨(J ++ 44 :: X).toArray⟩) w' := fun w' => by
          have := add_run (J ++ [44]) X (by simp; omega) (by omega) w'
          simpa using this
        clear hl0 hl2 htl
        go_wp2_with (go_at_call 41; refine (HIT.out _).mono ?_; rintro e w5 ⟨rfl, rfl⟩)
        go_roundw
        case rel => exact ⟨k + 1, by omega, by go_num, by rw [HT.out], trivial⟩
        case measure => simp [intOf]; omega
    case neg =>
      obtain rfl : k = n := by omega
      have hall : xs.take k = xs := List.take_of_length_le (by omega)
      rw [hall]
      go_wp2
      go_ret
      exact ⟨rfl, rfl⟩

/-- net.list. -/
theorem list_walk (xs : List Nat) (A : Option Addr) (n c : Nat) (W : World) (hI : IntsAt W W.heap.size A n (xs.map fun (k : Nat) => (k : Int))) (hx : ∀ x ∈ xs, x < 100) (hn : n ≤ 8) (h0 : 0 < n) :
    Calls Tryd.prog 89 #[.slice A n c] W fun e W' => e = .returned (.string ⟨(comT xs).toArray⟩) ∧ Below W.heap.size W W' := by
  obtain ⟨i0, hi0, hz0, hz1, hz2⟩ := info_parts Tryd.infoString
  have hlen : xs.length = n := by have := hI.1; simpa using this
  obtain ⟨b, o, rfl, hb, hg⟩ := ints_at hI h0
  have HG := hide hg
  have HX := hide hx
  have HLC := hide (comT_len hx)
  clear hI hx hg
  go_enter Tryd.func89, Tryd.ntmps89
  go_wp2_with fail
  go_loopw [3, 8] (fun v i wr => ∃ k : Nat, k ≤ n ∧ i = .int .i64 (k : Int) ∧ Hid (wr.ownsRow W.heap.size 9 1 v k (((xs.take k).map Lib.decDigits).map strV)) ∧ Hid (Below W.heap.size W wr)) (fun _ i _ => n - (intOf i).toNat)
  case atStart => exact ⟨0, Nat.zero_le _, rfl, hide (World.ownsRow_nil _ _ _ _), hide (Below.refl _ _)⟩
  case round =>
    obtain ⟨k, hk, rfl, HO, HBW⟩ := hrel
    by_cases hlt : k < n
    case pos =>
      obtain ⟨x, hx⟩ : ∃ x, xs[k]? = some x := ⟨_, List.getElem?_eq_getElem (by omega)⟩
      have c0 := (HBW.out.cell (p := ⟨b, o + k, none⟩) hb).trans (HG.out k x hx)
      have hx100 := HX.out x (List.mem_of_getElem? hx)
      have HIT := hide (fun w => (Tryd.strconv_Itoa_small x hx100 w).mono (fun e w' h => show e = .returned (.string ⟨(Lib.decDigits x).toArray⟩) ∧ w = w' from ⟨h.1, h.2.symm⟩))
      have HT := hide (show ((xs.take (k + 1)).map Lib.decDigits).map strV = ((xs.take k).map Lib.decDigits).map strV ++ [.string ⟨(Lib.decDigits x).toArray⟩] by
        rw [show xs.take (k + 1) = xs.take k ++ [x] by rw [List.take_add_one, hx]; rfl]
        simp [strV])
      have hwz : W.heap.size ≤ wr.heap.size := HBW.out.size
      have htl : (xs.take k).length = k := by rw [List.length_take]; omega
      obtain ⟨X, hX⟩ : ∃ X, Lib.decDigits x = X := ⟨_, rfl⟩
      rw [hX] at HT HIT
      clear hX hx hx100
      have HLIT := hide (show Reads (wr.alloc (.cells #[.string ⟨(X).toArray⟩] 9)) (wr.heap.size + 1) 1 (some ⟨wr.heap.size, 0, none⟩) 1 [.string ⟨(X).toArray⟩] from
        ⟨rfl, fun _ => ⟨_, rfl, Nat.lt_succ_self _, fun j u hu => by
          rw [addr_add, Nat.zero_add, cell_of_row _ _ _ _ _ _ (heap_alloc_new wr _)]
          simpa using hu⟩⟩)
      have HO4 := hide (HO.out.alloc (.cells #[.string ⟨(X).toArray⟩] 9))
      have HB4 := hide (HBW.out.alloc hwz (.cells #[.string ⟨(X).toArray⟩] 9))
      clear HO HBW
      go_wp2_with (first | (go_at_call 41; refine (HIT.out _).mono ?_; rintro e w5 ⟨rfl, rfl⟩) | (at_builtin; refine wpList_append_any _ rfl (.tmp 12) (.tmp 15) 82 rfl W.heap.size 9 i0 _ 1 16 Tryd.underlying82 hi0 hz0 hz1 hz2 rfl (by omega) _ k (((xs.take k).map Lib.decDigits).map strV) rfl HO4.out (wr.heap.size + 1) (some ⟨wr.heap.size, 0, none⟩) 1 1 [.string ⟨X.toArray⟩] rfl HLIT.out (by intro u hu; simp at hu; subst hu; rfl) (by simp only [maxLen]; omega) (by omega) (by simp; omega) ?_; intro v5 w5 hown5 hg5 hat5; have HO5 := hide hown5; have HB5 := hide (HB4.out.grown hg5 (by simp; omega) (fun q hq => (HO4.out.lt q hq).1)); clear hown5 hg5 hat5))
      go_roundw
      case rel => exact ⟨k + 1, by omega, by go_num, hide (by rw [HT.out]; exact HO5.out), HB5⟩
      case measure => simp [intOf]; omega
    case neg =>
      obtain rfl : k = n := by omega
      have hall : xs.take k = xs := List.take_of_length_le (by omega)
      rw [hall] at HO
      obtain ⟨g, cap, hv, hgw⟩ := HO.out.form h0
      subst hv
      have hcap : k ≤ cap := by
        rcases HO.out.2 with ⟨h, _⟩ | ⟨g', cap', cur, h, _, _, hnc, _⟩
        · cases h
        · cases h; exact hnc
      have HST := hide (show StrsAt wr W.heap.size g k cap (xs.map Lib.decDigits) from ⟨HO.out, by simpa using hlen⟩)
      have HJ := hide (fun w (h : StrsAt w W.heap.size g k cap (xs.map Lib.decDigits)) => join_walk (xs.map Lib.decDigits) 44 W.heap.size g k cap w h (by have h := HLC.out; unfold comT at h; omega) (by omega) hcap)
      clear HO hlt hgw hcap hall
      go_wp2_with fail
      refine (HJ.out _ HST.out).mono ?_
      rintro e w9 ⟨rfl, hb9⟩
      have HBZ := hide (HBW.out.trans (hb9.mono HBW.out.size))
      clear hb9
      go_wp2
      go_ret
      exact ⟨rfl, HBZ.out⟩

theorem poolL_snoc (p k : Nat) : (List.range (k + 1)).filter p.testBit = (List.range k).filter p.testBit ++ (if p.testBit k then [k] else []) := by
  rw [List.range_succ, List.filter_append]
  cases h : p.testBit k <;> simp [h]
theorem bit_u8' (p k : Nat) (h : p < 256) : (Go.bits .and .u8 ((p : Int) / 2 ^ k) 1 == 1) = p.testBit k := bit_u8 p k h
/-- net.pool. -/
theorem pool_walk (p : Nat) (W : World) (hp : p < 256) :
    Calls Tryd.prog 90 #[.int .u8 (p : Int)] W fun e W' => ∃ A c, e = .returned (.slice A (poolL p).length c) ∧ IntsAt W' W'.heap.size A (poolL p).length ((poolL p).map fun (k : Nat) => (k : Int)) ∧ Below W.heap.size W W' := by
  obtain ⟨i0, hi0, hz0, hz1, hz2⟩ := info_parts Tryd.infoInt
  have HBIT := hide (fun k => bit_u8' p k hp)
  have HSN := hide (poolL_snoc p)
  clear hp
  go_enter Tryd.func90, Tryd.ntmps90
  go_wp2_with fail
  go_loopw [3, 5] (fun v i wr => ∃ (k : Nat) (os : List Nat), k ≤ 8 ∧ i = .int .i64 (k : Int) ∧ Hid ((List.range k).filter p.testBit = os) ∧ os.length ≤ k ∧ Hid (wr.ownsRow W.heap.size 3 1 v os.length (intCells os)) ∧ Hid (Below W.heap.size W wr)) (fun _ i _ => 8 - (intOf i).toNat)
  case atStart => exact ⟨0, [], by omega, rfl, hide rfl, Nat.le_refl _, hide (World.ownsRow_nil _ _ _ _), hide (Below.refl _ _)⟩
  case round =>
    obtain ⟨k, os, hk, rfl, HR, hol, HO, HBW⟩ := hrel
    have HBk := hide (HBIT.out k)
    by_cases hlt : k < 8
    case pos =>
      have hltI : (k : Int) < 8 := by omega
      cases hb : p.testBit k with
      | false =>
        have e1 : (Go.bits .and .u8 ((p : Int) / 2 ^ k) 1 == 1) = false := HBk.out.trans hb
        have HR2 := hide (show (List.range (k + 1)).filter p.testBit = os by rw [HSN.out, HR.out, hb]; simp)
        clear HBk hb HR
        go_wp2_with fail
        go_roundw
        case rel => exact ⟨k + 1, os, by omega, by go_num, HR2, by omega, HO, HBW⟩
        case measure => simp [intOf]; omega
      | true =>
        have e1 : (Go.bits .and .u8 ((p : Int) / 2 ^ k) 1 == 1) = true := HBk.out.trans hb
        have HR2 := hide (show (List.range (k + 1)).filter p.testBit = os ++ [k] by rw [HSN.out, HR.out, hb]; simp)
        have hwz : W.heap.size ≤ wr.heap.size := HBW.out.size
        have HLIT := hide (show Reads (wr.alloc (.cells #[.int .i64 (k : Int)] 3)) (wr.heap.size + 1) 1 (some ⟨wr.heap.size, 0, none⟩) 1 [.int .i64 (k : Int)] from
          ⟨rfl, fun _ => ⟨_, rfl, Nat.lt_succ_self _, fun j u hu => by
            rw [addr_add, Nat.zero_add, cell_of_row _ _ _ _ _ _ (heap_alloc_new wr _)]
            simpa using hu⟩⟩)
        have HO4 := hide (HO.out.alloc (.cells #[.int .i64 (k : Int)] 3))
        have HB4 := hide (HBW.out.alloc hwz (.cells #[.int .i64 (k : Int)] 3))
        clear HBk hb HR HO HBW
        go_wp2_with (at_builtin; refine wpList_append_any _ rfl (.tmp 13) (.tmp 15) 67 rfl W.heap.size 3 i0 _ 1 8 Tryd.underlying67 hi0 hz0 hz1 hz2 rfl (by omega) _ os.length (intCells os) rfl HO4.out (wr.heap.size + 1) (some ⟨wr.heap.size, 0, none⟩) 1 1 [.int .i64 (k : Int)] rfl HLIT.out (by intro u hu; simp at hu; subst hu; rfl) (by simp only [maxLen]; omega) (by omega) (by simp; omega) ?_; intro v5 w5 hown5 hg5 hat5; have HO5 := hide hown5; have HB5 := hide (HB4.out.grown hg5 (by simp; omega) (fun q hq => (HO4.out.lt q hq).1)); clear hown5 hg5 hat5)
        go_roundw
        case rel => exact ⟨k + 1, os ++ [k], by omega, by go_num, HR2, by simp; omega, hide (by simpa [intCells] using HO5.out), HB5⟩
        case measure => simp [intOf]; omega
    case neg =>
      obtain rfl : k = 8 := by omega
      have hos : poolL p = os := HR.out
      have hlt8 := poolL_lt p
      rw [hos] at hlt8
      obtain ⟨A, c, hv, hc, hI⟩ := ints_of_own HO.out (fun x hx => by have := hlt8 x hx; omega)
      subst hv
      have HV := hide (And.intro hos hI)
      clear HO HR hlt hos hI hlt8 hc
      go_wp2
      go_ret
      exact ⟨A, c, by rw [HV.out.1]; rfl, by rw [HV.out.1]; exact HV.out.2, HBW.out⟩
end Go.Proofs.YtohbafigjpoijaaDoor
