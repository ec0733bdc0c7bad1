/- Texts: pieces of a text (wireref.Pieces). -/
import Derived.Test.YtohbafigjpoijaaDoorSt1
import Derived.Laws.Concat
set_option linter.unusedVariables false
set_option linter.unusedSimpArgs false
set_option maxRecDepth 100000
set_option maxHeartbeats 4000000
namespace Go.Proofs.YtohbafigjpoijaaDoor
open Go.RowKit

def strV (l : List UInt8) : Value := .string ⟨l.toArray⟩
theorem strV_of (s : ByteArray) : strV s.data.toList = .string s := by simp [strV]
def pstep (b : UInt8) (acc : List (List UInt8)) (x : UInt8) : List (List UInt8) := if x = b then acc ++ [[]] else acc.dropLast ++ [acc.getLastD [] ++ [x]]
/-- What lies between bytes of one sort. -/
def pieces (b : UInt8) (l : List UInt8) : List (List UInt8) := l.foldl (pstep b) [[]]
theorem pieces_snoc (b : UInt8) (l : List UInt8) (x : UInt8) : pieces b (l ++ [x]) = pstep b (pieces b l) x := by simp [pieces]
theorem pfold_acc (b : UInt8) : ∀ (l : List UInt8) (acc : List (List UInt8)) (m : List UInt8), l.foldl (pstep b) (acc ++ [m]) = acc ++ l.foldl (pstep b) [m]
  | [], acc, m => rfl
  | x :: r, acc, m => by
    simp only [List.foldl_cons, pstep]
    split
    · rw [pfold_acc b r (acc ++ [m]) [], show [m] ++ [[]] = [m] ++ [([] : List UInt8)] from rfl, pfold_acc b r [m] []]; simp
    · simp only [List.dropLast_concat, List.getLastD_concat, List.dropLast_singleton, List.nil_append, List.getLastD_cons, List.getLastD_nil]
      exact pfold_acc b r acc (m ++ [x])
theorem pieces_eq (b : UInt8) (l : List UInt8) (hl : b ∉ l) : pieces b l = [l] := by
  rcases List.eq_nil_or_concat l with rfl | ⟨m, c, rfl⟩
  · rfl
  · rw [List.concat_eq_append] at hl ⊢
    rw [pieces_snoc, pieces_eq b m (fun h => hl (by simp [h])), pstep, if_neg (fun h => hl (by simp [h]))]
    rfl
termination_by l.length
decreasing_by simp [*]
theorem pieces_cut (b : UInt8) (l r : List UInt8) (hl : b ∉ l) : pieces b (l ++ b :: r) = l :: pieces b r := by
  have h1 : l.foldl (pstep b) [[]] = [l] := pieces_eq b l hl
  have h2 := pfold_acc b r [l] []
  unfold pieces
  rw [List.foldl_append, h1, List.foldl_cons, pstep, if_pos rfl, h2]
  rfl
theorem pieces_pos (b : UInt8) (l : List UInt8) : 0 < (pieces b l).length := by
  rcases List.eq_nil_or_concat l with rfl | ⟨m, c, rfl⟩
  · simp [pieces]
  · rw [List.concat_eq_append, pieces_snoc, pstep]; split <;> simp
theorem pieces_len (b : UInt8) (l : List UInt8) : (pieces b l).length ≤ l.length + 1 := by
  rcases List.eq_nil_or_concat l with rfl | ⟨m, c, rfl⟩
  · simp [pieces]
  · have := pieces_len b m
    rw [List.concat_eq_append, pieces_snoc, pstep]; split <;> simp <;> omega
termination_by l.length
decreasing_by simp [*]

theorem pieces_each (b : UInt8) (l : List UInt8) : ∀ m ∈ pieces b l, m.length ≤ l.length := by
  rcases List.eq_nil_or_concat l with rfl | ⟨r, c, rfl⟩
  · simp [pieces]
  · have ih := pieces_each b r
    intro m hm
    rw [List.concat_eq_append] at hm ⊢
    rw [pieces_snoc, pstep] at hm
    simp only [List.length_append, List.length_cons, List.length_nil]
    split at hm
    · rcases List.mem_append.1 hm with h | h
      · have := ih m h; omega
      · rw [List.mem_singleton.1 h]; simp
    · rcases List.mem_append.1 hm with h | h
      · have := ih m (List.dropLast_subset _ h); omega
      · rw [List.mem_singleton.1 h]
        have hp := pieces_pos b r
        have : (pieces b r).getLastD [] ∈ pieces b r := by
          rw [List.getLastD_eq_getLast?, List.getLast?_eq_some_getLast (List.ne_nil_of_length_pos hp)]
          exact List.getLast_mem _
        have := ih _ this
        simp only [List.length_append, List.length_cons, List.length_nil]; omega
termination_by l.length
decreasing_by simp [*]

theorem Tryd.infoString : (Tryd.prog.info? 9).map (fun i => (i.zero, i.size, i.bytes)) = some (some (.string ⟨#[]⟩), 1, 16) := by kernel_rfl

theorem pieces_walk (s : ByteArray) (b : UInt8) (W : World) (hs : s.size ≤ 1048576) :
    Calls Tryd.prog 46 #[.string s, .int .u8 (b.toNat : Int)] W fun e W' =>
      ∃ v, e = .returned v ∧ W'.ownsRow W.heap.size 9 1 v (pieces b s.data.toList).length ((pieces b s.data.toList).map strV) ∧ Below W.heap.size W W' := by
  obtain ⟨i0, hi0, hz0, hz1, hz2⟩ := info_parts Tryd.infoString
  obtain ⟨l, hl⟩ : ∃ l, s.data.toList = l := ⟨_, rfl⟩
  obtain ⟨n, hn⟩ : ∃ n, s.size = n := ⟨_, rfl⟩
  have hln : l.length = n := by rw [← hl, ← hn]; exact sz_list s
  have HEX := hide (fun (k : Nat) (c : UInt8) (h : l[k]? = some c) => show s.extract k (k + 1) = ⟨#[c]⟩ from by
    have : s = ⟨l.toArray⟩ := by rw [← hl]
    rw [this, ByteArray.extract_mk, show k + 1 - k = 1 by omega, List.take_one, List.head?_drop, h]; rfl)
  rw [hl]
  have HAT := hide (fun (k : Nat) (c : UInt8) (h : l[k]? = some c) => run_at (P := Tryd.prog) 9 s k c Tryd.underlying9 (by rw [hl]; exact h))
  have HLN := hide hln
  rw [hn] at hs
  clear hl hln
  go_enter Tryd.func46, Tryd.ntmps46
  go_wp2_with fail
  have HO0 := hide (World.ownsRow_lit (e := 9) (size := 1) W #[.string ⟨#[]⟩] 1 (Nat.le_refl _) (by decide) rfl)
  have HB0 := hide ((Below.refl W.heap.size W).alloc (Nat.le_refl _) (.cells #[.string ⟨#[]⟩] 9))
  generalize W.alloc (.cells #[.string ⟨#[]⟩] 9) = W1 at *
  go_loopw [5, 6] (fun v i wr => ∃ k : Nat, k ≤ n ∧ i = .int .i64 (k : Int) ∧ Hid (wr.ownsRow W.heap.size 9 1 v (pieces b (l.take k)).length ((pieces b (l.take k)).map strV)) ∧ Hid (Below W.heap.size W wr)) (fun _ i _ => n - (intOf i).toNat)
  case atStart => exact ⟨0, Nat.zero_le _, rfl, HO0, HB0⟩
  case round =>
    obtain ⟨k, hk, rfl, HO, HB⟩ := hrel
    by_cases hlt : k < n
    case pos =>
      obtain ⟨c, hc⟩ : ∃ c, l[k]? = some c := ⟨_, List.getElem?_eq_getElem (by have := HLN.out; omega)⟩
      have x1 : ∀ w', (Instr.index 9 (.string s) (.int .i64 (k : Int))).run Tryd.prog w' = .ok (.int .u8 (c.toNat : Int)) w' := HAT.out k c hc
      have HSN := hide (show pieces b (l.take (k + 1)) = pstep b (pieces b (l.take k)) c by rw [take_at hc, pieces_snoc])
      have HEXc := hide (HEX.out k c hc)
      have hlen : (pieces b (l.take k)).length ≤ k + 1 := Nat.le_trans (pieces_len _ _) (by simp; omega)
      have hpos := pieces_pos b (l.take k)
      have HEA := hide (pieces_each b (l.take k))
      have htk : (l.take k).length ≤ k := by simp; omega
      clear hc
      generalize pieces b (l.take k) = p at *
      obtain ⟨j, hj⟩ : ∃ j, p.length = j + 1 := ⟨p.length - 1, by omega⟩
      by_cases hcb : c = b
      case pos =>
        have e0 : ((c.toNat : Int) == (b.toNat : Int)) = true := by rw [hcb]; simp
        have e1 : (c.toNat : Int) = (b.toNat : Int) := by rw [hcb]
        have HP := hide (show pieces b (l.take (k + 1)) = p ++ [[]] by rw [HSN.out, pstep, if_pos hcb])
        clear hcb HSN e0
        have HLIT := hide (show Reads (wr.alloc (.cells #[.string ⟨#[]⟩] 9)) (wr.heap.size + 1) 1 (some ⟨wr.heap.size, 0, none⟩) 1 [.string ⟨#[]⟩] from
          ⟨rfl, fun _ => ⟨_, rfl, Nat.lt_succ_self _, fun j u hu => by
            rw [addr_add, Nat.zero_add, cell_of_row _ _ _ _ _ _ (heap_alloc_new wr _)]
            simpa using hu⟩⟩)
        have hb3 : Below wr.heap.size wr (wr.alloc (.cells #[.string ⟨#[]⟩] 9)) := (Below.refl _ _).alloc (Nat.le_refl _) _
        have hbz := HB.out.size
        have HO4 := hide (HO.out.alloc (.cells #[.string ⟨#[]⟩] 9))
        have HB4 := hide (HB.out.alloc hbz (.cells #[.string ⟨#[]⟩] 9))
        clear hb3 HO HB hj
        go_wp2_with (at_builtin; refine wpList_append_any _ rfl (.tmp 19) (.tmp 20) 82 rfl W.heap.size 9 i0 _ 1 16 Tryd.underlying82 hi0 hz0 hz1 hz2 rfl (by omega) _ p.length (p.map strV) rfl HO4.out (wr.heap.size + 1) (some ⟨wr.heap.size, 0, none⟩) 1 1 [.string ⟨#[]⟩] rfl HLIT.out (by intro u hu; simp at hu; subst hu; rfl) (by simp only [maxLen]; omega) (by omega) (by simp; omega) ?_; intro v5 w5 hown5 hg5 hat5; have HO5 := hide hown5; have HB5 := hide (HB4.out.grown hg5 (by simp; omega) (fun q hq => (HO4.out.lt q hq).1)); clear hown5 hg5 hat5)
        go_roundw
        case rel => exact ⟨k + 1, by omega, by go_num, hide (by rw [HP.out]; simpa [strV] using HO5.out), HB5⟩
        case measure => simp [intOf]; omega
      case neg =>
        have e0 : ((c.toNat : Int) == (b.toNat : Int)) = false := by
          have : c.toNat ≠ b.toNat := fun e => hcb (UInt8.toNat_inj.1 e)
          simp; omega
        have e1 : decide (c.toNat = b.toNat) = false := by
          have : c.toNat ≠ b.toNat := fun e => hcb (UInt8.toNat_inj.1 e)
          simp; omega
        obtain ⟨q, z, rfl⟩ : ∃ q z, p = q ++ [z] := by
          rcases List.eq_nil_or_concat p with rfl | ⟨q, z, rfl⟩
          · simp at hj
          · exact ⟨q, z, by rw [List.concat_eq_append]⟩
        obtain rfl : j = q.length := by simp at hj; omega
        have HP := hide (show pieces b (l.take (k + 1)) = q ++ [z ++ [c]] by rw [HSN.out, pstep, if_neg hcb]; simp)
        clear hcb HSN
        obtain ⟨g, cap, hv, hgw⟩ := HO.out.form hpos
        subst hv
        have c1 : wr.cell? ⟨g, q.length, none⟩ = some (.string ⟨z.toArray⟩) := by
          rw [HO.out.cellAt q.length (by simp)]
          simp [strV]
        have c2 : wr.frozen? ⟨g, q.length, none⟩ = false := HO.out.frozenAt q.length
        have HST := hide (HO.out.stored q.length (.string ⟨(z ++ [c]).toArray⟩))
        have hgl := (HO.out.lt g rfl)
        have hx : s.extract k (k + 1) = ⟨#[c]⟩ := HEXc.out
        have hzl := HEA.out z (by simp)
        have hadd : ∀ w', (Op.stringOp .add ⟨z.toArray⟩ ⟨#[c]⟩).run Tryd.prog w' = .ok (.string ⟨(z ++ [c]).toArray⟩) w' := fun w' => run_string_add_lists w' z [c] (by omega) (by simp)
        clear hzl htk HEA
        clear hpos
        simp only [List.length_append, List.length_cons, List.length_nil, Nat.zero_add] at *
        have HB5 := hide (HB.out.grown HST.out.2 (by have := HB.out.size; omega) (fun q hq => by cases hq; exact hgl.1))
        go_wp2
        go_region
        go_wp2
        go_roundw
        case rel => exact ⟨k + 1, by omega, by go_num, hide (by rw [HP.out]; simpa [strV] using HST.out.1.drew), hide HB5.out.drew⟩
        case measure => simp [intOf]; omega
    case neg =>
      obtain rfl : k = n := by omega
      have hall : l.take k = l := List.take_of_length_le (by have := HLN.out; omega)
      rw [hall] at HO
      go_wp2
      go_ret
      exact ⟨_, rfl, HO.out, HB.out⟩
end Go.Proofs.YtohbafigjpoijaaDoor
