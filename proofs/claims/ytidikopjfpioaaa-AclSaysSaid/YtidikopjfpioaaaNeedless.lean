/- wirelaw.needless. -/
import Derived.Test.YtidikopjfpioaaaNeedPure
import Derived.Test.YtidikopjfpioaaaSlCut
import Derived.Deep.RegionLaw
set_option linter.unusedVariables false
set_option linter.unusedSimpArgs false
namespace Go.Proofs.Ytidikopjfpioaaa
open Go.RowKit Go.Maps Bdd

def NeedP (w : World) (l : List RuleV) (n : Nat) (e : Ending) (W' : World) : Prop :=
  ∃ (v : Value) (dl : List Nat), e = .returned v ∧ W'.ownsRow w.heap.size 3 1 v dl.length (intCells dl) ∧ DeadTo l n dl ∧ RowKit.Below w.heap.size w W'

theorem own_below {w w' : World} {base e s n : Nat} {v : Value} {xs : List Value} (h : w.ownsRow base e s v n xs) (hb : RowKit.Below w.heap.size w w') : w'.ownsRow base e s v n xs :=
  own_same h (fun q hq => hb.block q (h.lt q hq).2)

theorem grow_new {B : Nat} {w w' : World} {row : Option Nat} (hb : RowKit.Below B w w') (hB : B ≤ w.heap.size) {w'' : World} (hg : w'.grownBy w'' row) (hr : ∀ k, row = some k → B ≤ k) : RowKit.Below B w w'' :=
  hb.grown hg (by have := hb.size; omega) hr

set_option maxRecDepth 100000 in
set_option maxHeartbeats 8000000 in
theorem needless_walk (l : List RuleV) (A : Option Addr) (n c : Nat) (W : World) (hn : n ≤ 8) (hnc : n ≤ c) (hc : c ≤ 9223372036854775807) (hl : RulesAt W W.heap.size A n l) :
    Calls Try.prog 42 #[.slice A n c] W (NeedP W l n) := by
  obtain ⟨i0, hi0, hz0, hz1, hz2⟩ := info_parts Try.infoInt
  obtain ⟨i1, hi1, hy0, hy1, hy2⟩ := info_parts Try.infoRule
  have HL := hide (fun (w1 : World) (hb : RowKit.Below W.heap.size W w1) => show RulesAt w1 w1.heap.size A n l from hl.below hb hb.size)
  have hlen := hl.1
  have HOK := hide hl.2.1
  have HLEN := hide hlen
  clear hl hlen
  have HRO := hide (World.ownsRow_nil W W.heap.size 3 1)
  go_enter Try.func42, Try.ntmps42
  go_wp2
  go_loopw [3, 10] (fun u i wr => ∃ (k : Nat) (dl : List Nat) (v : Value), k ≤ n ∧ i = .int .i64 k ∧ u = v ∧ Hid (RowKit.Below W.heap.size W wr) ∧ Hid (wr.ownsRow W.heap.size 3 1 v dl.length (intCells dl)) ∧ Hid (DeadTo l k dl) ∧ dl.length ≤ k) (fun _ i _ => n - (intOf i).toNat)
  case atStart => exact ⟨0, [], _, Nat.zero_le _, rfl, rfl, hide (RowKit.Below.refl _ _), HRO, hide (DeadTo.zero l), Nat.zero_le _⟩
  case round =>
    clear HRO
    obtain ⟨k, dl, v, hk, rfl, rfl, HB, HO, HD, hdl⟩ := hrel
    generalize u3 = v at *
    by_cases hlt : k < n
    · have HR1 := hide ((((HL.out wr HB.out).sl).take (i := k) (by omega)).reads RuleV.len (by omega))
      have HL2 := hide (fun (w1 : World) (hb : RowKit.Below W.heap.size W w1) => (((HL.out w1 hb).sl).cut (k := k + 1) (cap := c) (by omega) hnc).reads RuleV.len (by omega))
      have hs1 : IntKind.i64.wrap ((k : Int) + 1) = (k : Int) + 1 := by rw [IntKind.wrap_i64]; omega
      have g1 : (0 : Int) ≤ (k : Int) := by omega
      have g2 : (k : Int) ≤ (n : Int) := by omega
      have g3 : (n : Int) ≤ (c : Int) := by omega
      have g4 : (0 : Int) ≤ (k : Int) + 1 := by omega
      have g7 : (k : Int) ≤ (c : Int) := by omega
      have g8 : (k : Int) ≤ (k : Int) + 1 := by omega
      have g5 : (k : Int) + 1 ≤ (n : Int) := by omega
      have g6 : ((k : Int) + 1).toNat = k + 1 := by omega
      obtain ⟨b, o, rfl, _, _⟩ := (HL.out wr HB.out).2.2 (by omega)
      by_cases hck : c = k + 1
      · subst hck
        go_wp2
        go_region_law (first | ((refine step_append_any _ rfl (.const (.slice none 0 0)) (.tmp 15) 27 rfl wr.heap.size 105 i1 _ 5 8 Try.underlying27 hi1 hy0 hy1 hy2 rfl (by omega) (.slice none 0 0) 0 [] rfl (World.ownsRow_nil _ _ _ _) wr.heap.size _ _ _ _ rfl HR1.out.drew (flat_one RuleV.one _) (by simp only [maxLen]; omega) (by omega) (by simp) ?_; intro v1 w1 hown1 hg1 hat1; have HB1 := hide (grow_new (B := wr.heap.size) (w := wr) (RowKit.Below.refl _ wr).drew (Nat.le_refl _) hg1 (by simp [Value.ownBlock])); clear hg1 hat1)) | ((refine step_append_any _ rfl (.tmp 16) (.tmp 20) 27 rfl wr.heap.size 105 i1 _ 5 8 Try.underlying27 hi1 hy0 hy1 hy2 rfl (by omega) v1 (0 + k) _ rfl hown1 _ _ 0 _ _ rfl (Reads.none_ (B := 0)) (fun u hu => by cases hu) (by simp only [maxLen]; omega) (by omega) HB1.out.size ?_; intro v2 w2 hown2 hg2 hat2; have HB2 := hide (grow_new HB1.out (Nat.le_refl _) hg2 (fun q hq => (hown1.lt q hq).1)); clear hg2 hat2)))
        have HO2 := hide (show w2.ownsRow wr.heap.size 105 5 v2 (n - 1) ((l.eraseIdx k).flatMap RuleV.cells) from by
          have h := hown2
          rw [show 0 + k + 0 = n - 1 by omega] at h
          rw [List.eraseIdx_eq_take_drop_succ, List.flatMap_append]
          first | (simpa using h) | (rw [List.drop_of_length_le (by have := HLEN.out; omega)]; simpa using h))
        clear hown1 hown2 HB1
        obtain ⟨A2, c2, rfl, hc2, hs2, _⟩ := SlAt.of_own RuleV.len HO2.out (by rw [List.length_eraseIdx, HLEN.out, if_pos hlt])
        have HLS := hide (fun (w3 : World) (hb : RowKit.Below w2.heap.size w2 w3) => show RulesAt w3 w3.heap.size A2 (n - 1) (l.eraseIdx k) from (hs2.rules (fun r hr => HOK.out r (List.mem_of_mem_eraseIdx hr))).below hb hb.size)
        have HOK2 := hide (fun r (hr : r ∈ l.eraseIdx k) => HOK.out r (List.mem_of_mem_eraseIdx hr))
        have HOb := hide (fun (w3 : World) (hb : RowKit.Below w2.heap.size w2 w3) => own_below HO.out (HB2.out.trans (hb.mono HB2.out.size)))
        have HBW := hide (HB.out.trans (HB2.out.mono HB.out.size))
        clear HO2 hs2 HO HB2 HR1 HL2 hs1 g1 g2 g3 g4 g5 g6 g7 g8
        go_wp2
        go_loopw [6, 7] (fun s i wi => ∃ q : Nat, q ≤ 16384 ∧ i = .int .i64 q ∧ s = .bool (sameTo l (l.eraseIdx k) q) ∧ Hid (RowKit.Below w2.heap.size w2 wi)) (fun _ i _ => 16384 - (intOf i).toNat)
        case atStart => exact ⟨0, by omega, rfl, by rw [sameTo_zero], hide (RowKit.Below.refl _ _)⟩
        case round =>
          obtain ⟨q, hq, rfl, rfl, HI⟩ := hrel
          cases hs : sameTo l (l.eraseIdx k) q
          · have HNE := hide (sameTo_not hq HOK.out HOK2.out hs)
            have HF := hide (And.intro (HOb.out wr HI.out) (HBW.out.trans (HI.out.mono HBW.out.size)))
            clear hs
            by_cases hq16 : q < 16384
            · go_wp2
              go_roundw
              case rel => exact ⟨k + 1, dl, v, by omega, by go_num, rfl, hide HF.out.2, hide HF.out.1, hide (HD.out.no (by have := HLEN.out; omega) HNE.out), by omega⟩
              case measure => simp [intOf]; omega
            · go_wp2
              go_roundw
              case rel => exact ⟨k + 1, dl, v, by omega, by go_num, rfl, hide HF.out.2, hide HF.out.1, hide (HD.out.no (by have := HLEN.out; omega) HNE.out), by omega⟩
              case measure => simp [intOf]; omega
          · by_cases hq16 : q < 16384
            · have HS := hide (sameTo_succ hs)
              clear hs
              have HLr := hide (fun (w3 : World) (hb : RowKit.Below wr.heap.size wr w3) => HLS.out w3 (HI.out.trans (hb.mono HI.out.size)))
              have HLl := hide (fun (w3 : World) (hb : RowKit.Below wr.heap.size wr w3) => HL.out w3 (HBW.out.trans ((HI.out.trans (hb.mono HI.out.size)).mono HBW.out.size)))
              have HR0 := hide (RowKit.Below.refl wr.heap.size wr)
              have HP := hide (fun (w3 : World) => packet_walk w3 q hq16)
              have HLE1 := hide (fun (w3 : World) (hb : RowKit.Below wr.heap.size wr w3) => refLets_any (l.eraseIdx k) A2 (n - 1) c2 (pk q) w3 (by omega) (HLr.out _ hb))
              have HLE2 := hide (fun (w3 : World) (hb : RowKit.Below wr.heap.size wr w3) cc => refLets_any l (some ⟨b, o, none⟩) n cc (pk q) w3 (by omega) (HLl.out _ hb))
              rw [pk_val] at HP
              generalize letsB (l.eraseIdx k) (pk q) = L1 at *
              generalize letsB l (pk q) = L2 at *
              generalize pk q = PQ at *
              go_wp2_with fail
              refine (HP.out _).mono ?_
              rintro e w3 ⟨rfl, hb⟩
              have HR1 := hide (HR0.out.trans (hb.mono HR0.out.size))
              clear hb
              go_wp2_with fail
              refine (HLE1.out _ HR1.out).mono ?_
              rintro e w4 ⟨rfl, hb⟩
              have HR2 := hide (HR1.out.trans (hb.mono HR1.out.size))
              clear hb
              go_wp2_with fail
              refine (HP.out _).mono ?_
              rintro e w5 ⟨rfl, hb⟩
              have HR3 := hide (HR2.out.trans (hb.mono HR2.out.size))
              clear hb
              go_wp2_with fail
              refine (HLE2.out _ HR3.out _).mono ?_
              rintro e w6 ⟨rfl, hb⟩
              have HIt := hide (HI.out.trans ((HR3.out.trans (hb.mono HR3.out.size)).mono HI.out.size))
              clear hb
              go_wp2
              go_roundw
              case rel => exact ⟨q + 1, by omega, by go_num, by rw [HS.out], HIt⟩
              case measure => simp [intOf]; omega
            · have hq' : q = 16384 := by omega
              subst hq'
              have HEQ := hide (sameTo_end HOK.out HOK2.out hs)
              clear hs
              have hb3 : RowKit.Below wr.heap.size wr (wr.alloc (.cells #[.int .i64 k] 3)) := (RowKit.Below.refl _ _).alloc (Nat.le_refl _) _
              have HIa := hide (HI.out.trans (hb3.mono HI.out.size))
              have HF := hide (And.intro (HOb.out _ HIa.out) (HBW.out.trans (HIa.out.mono HBW.out.size)))
              have HLIT := hide (show Reads (wr.alloc (.cells #[.int .i64 k] 3)) (wr.heap.size + 1) 1 (some ⟨wr.heap.size, 0, none⟩) 1 [.int .i64 (k : Int)] from
                ⟨rfl, fun _ => ⟨_, rfl, Nat.lt_succ_self _, fun j u hu => by
                  rw [addr_add, Nat.zero_add, cell_of_row _ _ _ _ _ _ (heap_alloc_new wr _)]
                  simpa using hu⟩⟩)
              have hWi : W.heap.size ≤ wr.heap.size := (HBW.out.trans (HI.out.mono HBW.out.size)).size
              clear hb3
              go_wp2_with (at_builtin; refine wpList_append_any _ rfl (.tmp 39) (.tmp 41) 26 rfl W.heap.size 3 i0 _ 1 8 Try.underlying26 hi0 hz0 hz1 hz2 rfl (by omega) v dl.length (intCells dl) rfl HF.out.1 (wr.heap.size + 1) (some ⟨wr.heap.size, 0, none⟩) 1 1 [.int .i64 (k : Int)] rfl HLIT.out (by intro u hu; simp at hu; subst hu; rfl) (by simp only [maxLen]; omega) (by omega) (by simp; omega) ?_; intro v5 w5 hown5 hg5 hat5; have HG5 := hide (grow_new HF.out.2 (Nat.le_refl _) hg5 (fun q hq => (HF.out.1.lt q hq).1)); have HO5 := hide hown5; clear hown5 hg5 hat5)
              go_roundw
              case rel => exact ⟨k + 1, dl ++ [k], v5, by omega, by go_num, rfl, HG5, hide (by simpa [intCells] using HO5.out), hide (HD.out.yes (by have := HLEN.out; omega) HEQ.out), by simp; omega⟩
              case measure => simp [intOf]; omega
      · have HL3 := hide (fun (w1 : World) (hb : RowKit.Below W.heap.size W w1) => show Reads w1 w1.heap.size 5 (some ⟨b, o + (k + 1) * 5, none⟩) (n - (k + 1)) _ from by
          have := HL2.out w1 hb
          rw [if_neg hck] at this
          simpa [addr_add] using this)
        go_wp2
        go_region_law (first | ((refine step_append_any _ rfl (.const (.slice none 0 0)) (.tmp 15) 27 rfl wr.heap.size 105 i1 _ 5 8 Try.underlying27 hi1 hy0 hy1 hy2 rfl (by omega) (.slice none 0 0) 0 [] rfl (World.ownsRow_nil _ _ _ _) wr.heap.size _ _ _ _ rfl HR1.out.drew (flat_one RuleV.one _) (by simp only [maxLen]; omega) (by omega) (by simp) ?_; intro v1 w1 hown1 hg1 hat1; have HB1 := hide (grow_new (B := wr.heap.size) (w := wr) (RowKit.Below.refl _ wr).drew (Nat.le_refl _) hg1 (by simp [Value.ownBlock])); clear hg1 hat1)) | ((refine step_append_any _ rfl (.tmp 16) (.tmp 20) 27 rfl wr.heap.size 105 i1 _ 5 8 Try.underlying27 hi1 hy0 hy1 hy2 rfl (by omega) v1 (0 + k) _ rfl hown1 _ _ (n - (k + 1)) _ _ rfl (HL3.out w1 (HB.out.trans (HB1.out.mono HB.out.size))) (flat_one RuleV.one _) (by simp only [maxLen]; omega) (by omega) HB1.out.size ?_; intro v2 w2 hown2 hg2 hat2; have HB2 := hide (grow_new HB1.out (Nat.le_refl _) hg2 (fun q hq => (hown1.lt q hq).1)); clear hg2 hat2)))
        have HO2 := hide (show w2.ownsRow wr.heap.size 105 5 v2 (n - 1) ((l.eraseIdx k).flatMap RuleV.cells) from by
          have h := hown2
          rw [show 0 + k + (n - (k + 1)) = n - 1 by omega] at h
          rw [List.eraseIdx_eq_take_drop_succ, List.flatMap_append]
          first | (simpa using h) | (rw [List.drop_of_length_le (by have := HLEN.out; omega)]; simpa using h))
        clear hown1 hown2 HB1
        obtain ⟨A2, c2, rfl, hc2, hs2, _⟩ := SlAt.of_own RuleV.len HO2.out (by rw [List.length_eraseIdx, HLEN.out, if_pos hlt])
        have HLS := hide (fun (w3 : World) (hb : RowKit.Below w2.heap.size w2 w3) => show RulesAt w3 w3.heap.size A2 (n - 1) (l.eraseIdx k) from (hs2.rules (fun r hr => HOK.out r (List.mem_of_mem_eraseIdx hr))).below hb hb.size)
        have HOK2 := hide (fun r (hr : r ∈ l.eraseIdx k) => HOK.out r (List.mem_of_mem_eraseIdx hr))
        have HOb := hide (fun (w3 : World) (hb : RowKit.Below w2.heap.size w2 w3) => own_below HO.out (HB2.out.trans (hb.mono HB2.out.size)))
        have HBW := hide (HB.out.trans (HB2.out.mono HB.out.size))
        clear HO2 hs2 HO HB2 HR1 HL2 hs1 g1 g2 g3 g4 g5 g6 g7 g8
        go_wp2
        go_loopw [6, 7] (fun s i wi => ∃ q : Nat, q ≤ 16384 ∧ i = .int .i64 q ∧ s = .bool (sameTo l (l.eraseIdx k) q) ∧ Hid (RowKit.Below w2.heap.size w2 wi)) (fun _ i _ => 16384 - (intOf i).toNat)
        case atStart => exact ⟨0, by omega, rfl, by rw [sameTo_zero], hide (RowKit.Below.refl _ _)⟩
        case round =>
          obtain ⟨q, hq, rfl, rfl, HI⟩ := hrel
          cases hs : sameTo l (l.eraseIdx k) q
          · have HNE := hide (sameTo_not hq HOK.out HOK2.out hs)
            have HF := hide (And.intro (HOb.out wr HI.out) (HBW.out.trans (HI.out.mono HBW.out.size)))
            clear hs
            by_cases hq16 : q < 16384
            · go_wp2
              go_roundw
              case rel => exact ⟨k + 1, dl, v, by omega, by go_num, rfl, hide HF.out.2, hide HF.out.1, hide (HD.out.no (by have := HLEN.out; omega) HNE.out), by omega⟩
              case measure => simp [intOf]; omega
            · go_wp2
              go_roundw
              case rel => exact ⟨k + 1, dl, v, by omega, by go_num, rfl, hide HF.out.2, hide HF.out.1, hide (HD.out.no (by have := HLEN.out; omega) HNE.out), by omega⟩
              case measure => simp [intOf]; omega
          · by_cases hq16 : q < 16384
            · have HS := hide (sameTo_succ hs)
              clear hs
              have HLr := hide (fun (w3 : World) (hb : RowKit.Below wr.heap.size wr w3) => HLS.out w3 (HI.out.trans (hb.mono HI.out.size)))
              have HLl := hide (fun (w3 : World) (hb : RowKit.Below wr.heap.size wr w3) => HL.out w3 (HBW.out.trans ((HI.out.trans (hb.mono HI.out.size)).mono HBW.out.size)))
              have HR0 := hide (RowKit.Below.refl wr.heap.size wr)
              have HP := hide (fun (w3 : World) => packet_walk w3 q hq16)
              have HLE1 := hide (fun (w3 : World) (hb : RowKit.Below wr.heap.size wr w3) => refLets_any (l.eraseIdx k) A2 (n - 1) c2 (pk q) w3 (by omega) (HLr.out _ hb))
              have HLE2 := hide (fun (w3 : World) (hb : RowKit.Below wr.heap.size wr w3) cc => refLets_any l (some ⟨b, o, none⟩) n cc (pk q) w3 (by omega) (HLl.out _ hb))
              rw [pk_val] at HP
              generalize letsB (l.eraseIdx k) (pk q) = L1 at *
              generalize letsB l (pk q) = L2 at *
              generalize pk q = PQ at *
              go_wp2_with fail
              refine (HP.out _).mono ?_
              rintro e w3 ⟨rfl, hb⟩
              have HR1 := hide (HR0.out.trans (hb.mono HR0.out.size))
              clear hb
              go_wp2_with fail
              refine (HLE1.out _ HR1.out).mono ?_
              rintro e w4 ⟨rfl, hb⟩
              have HR2 := hide (HR1.out.trans (hb.mono HR1.out.size))
              clear hb
              go_wp2_with fail
              refine (HP.out _).mono ?_
              rintro e w5 ⟨rfl, hb⟩
              have HR3 := hide (HR2.out.trans (hb.mono HR2.out.size))
              clear hb
              go_wp2_with fail
              refine (HLE2.out _ HR3.out _).mono ?_
              rintro e w6 ⟨rfl, hb⟩
              have HIt := hide (HI.out.trans ((HR3.out.trans (hb.mono HR3.out.size)).mono HI.out.size))
              clear hb
              go_wp2
              go_roundw
              case rel => exact ⟨q + 1, by omega, by go_num, by rw [HS.out], HIt⟩
              case measure => simp [intOf]; omega
            · have hq' : q = 16384 := by omega
              subst hq'
              have HEQ := hide (sameTo_end HOK.out HOK2.out hs)
              clear hs
              have hb3 : RowKit.Below wr.heap.size wr (wr.alloc (.cells #[.int .i64 k] 3)) := (RowKit.Below.refl _ _).alloc (Nat.le_refl _) _
              have HIa := hide (HI.out.trans (hb3.mono HI.out.size))
              have HF := hide (And.intro (HOb.out _ HIa.out) (HBW.out.trans (HIa.out.mono HBW.out.size)))
              have HLIT := hide (show Reads (wr.alloc (.cells #[.int .i64 k] 3)) (wr.heap.size + 1) 1 (some ⟨wr.heap.size, 0, none⟩) 1 [.int .i64 (k : Int)] from
                ⟨rfl, fun _ => ⟨_, rfl, Nat.lt_succ_self _, fun j u hu => by
                  rw [addr_add, Nat.zero_add, cell_of_row _ _ _ _ _ _ (heap_alloc_new wr _)]
                  simpa using hu⟩⟩)
              have hWi : W.heap.size ≤ wr.heap.size := (HBW.out.trans (HI.out.mono HBW.out.size)).size
              clear hb3
              go_wp2_with (at_builtin; refine wpList_append_any _ rfl (.tmp 39) (.tmp 41) 26 rfl W.heap.size 3 i0 _ 1 8 Try.underlying26 hi0 hz0 hz1 hz2 rfl (by omega) v dl.length (intCells dl) rfl HF.out.1 (wr.heap.size + 1) (some ⟨wr.heap.size, 0, none⟩) 1 1 [.int .i64 (k : Int)] rfl HLIT.out (by intro u hu; simp at hu; subst hu; rfl) (by simp only [maxLen]; omega) (by omega) (by simp; omega) ?_; intro v5 w5 hown5 hg5 hat5; have HG5 := hide (grow_new HF.out.2 (Nat.le_refl _) hg5 (fun q hq => (HF.out.1.lt q hq).1)); have HO5 := hide hown5; clear hown5 hg5 hat5)
              go_roundw
              case rel => exact ⟨k + 1, dl ++ [k], v5, by omega, by go_num, rfl, HG5, hide (by simpa [intCells] using HO5.out), hide (HD.out.yes (by have := HLEN.out; omega) HEQ.out), by simp; omega⟩
              case measure => simp [intOf]; omega
    · have hkn : k = n := by omega
      subst hkn
      have HF := hide (show NeedP W l k (.returned v) wr from ⟨v, dl, rfl, HO.out, HD.out, HB.out⟩)
      go_wp2
      go_ret
      exact HF.out
end Go.Proofs.Ytidikopjfpioaaa
