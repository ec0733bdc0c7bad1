/- A part of the proof: St2, St3, ShD, G2, G4, G3, G5, G6, PkChk, PkCode. -/
import Derived.Test.YtohbafigjpoijaaDoorPs0
import Derived.Laws.Concat
import Derived.Lib.IndexMore
import Derived.Lib.ItoaNum
import Derived.Shelf.Strconv.Itoa3
import Derived.Shelf.Strings.OnBuilder
import Derived.Shelf.Strings.Cut
import Derived.Shelf.Strings.Split
import Derived.Test.YtohbafigjpoijaaDoorProg
import Derived.Maps.OwnOps
import Derived.Maps.OwnSet
import Derived.Maps.Ext
import Derived.Below
import Derived.DeepKeys5
import Derived.WalkKit
import Derived.Outline
import Derived.Deep.RegionLaw
import Derived.StillTailTactics
import Derived.WalkLawsBesides
import Derived.Laws.OwnMore
import Derived.BigQuiet
import Derived.Deep.RegionWith
import Derived.Deep.Upon
import Derived.Lib.SliceRun
import Derived.Laws.IdiomCopy
set_option linter.unusedVariables false
set_option linter.unusedSimpArgs false
set_option maxRecDepth 100000
set_option maxHeartbeats 4000000
namespace Go.Proofs.YtohbafigjpoijaaDoor
open Go.RowKit
def strV (l : List UInt8) : Value := .string ⟨l.toArray⟩
def pstep (b : UInt8) (acc : List (List UInt8)) (x : UInt8) : List (List UInt8) := if x = b then acc ++ [[]] else acc.dropLast ++ [acc.getLastD [] ++ [x]]
def pieces (b : UInt8) (l : List UInt8) : List (List UInt8) := l.foldl (pstep b) [[]]
theorem pieces_snoc (b : UInt8) (l : List UInt8) (x : UInt8) : pieces b (l ++ [x]) = pstep b (pieces b l) x := by simp [pieces]
theorem pfold_acc (b : UInt8) : ∀ (l : List UInt8) (acc : List (List UInt8)) (m : List UInt8), l.foldl (pstep b) (acc ++ [m]) = acc ++ l.foldl (pstep b) [m]
  | [], acc, m => rfl
  | x :: r, acc, m => by
    simp only [List.foldl_cons, pstep]
    split
    · rw [pfold_acc b r (acc ++ [m]) [], show [m] ++ [[]] = [m] ++ [([] : List UInt8)] from rfl, pfold_acc b r [m] []]; simp
    · simp only [List.dropLast_concat, List.getLastD_concat, List.dropLast_singleton, List.nil_append, List.getLastD_cons, List.getLastD_nil]
      exact pfold_acc b r acc (m ++ [x])
theorem pieces_eq (b : UInt8) (l : List UInt8) (hl : b ∉ l) : pieces b l = [l] := by
  rcases List.eq_nil_or_concat l with rfl | ⟨m, c, rfl⟩
  · rfl
  · rw [List.concat_eq_append] at hl ⊢
    rw [pieces_snoc, pieces_eq b m (fun h => hl (by simp [h])), pstep, if_neg (fun h => hl (by simp [h]))]
    rfl
termination_by l.length
decreasing_by simp [*]
theorem pieces_cut (b : UInt8) (l r : List UInt8) (hl : b ∉ l) : pieces b (l ++ b :: r) = l :: pieces b r := by
  have h1 : l.foldl (pstep b) [[]] = [l] := pieces_eq b l hl
  have h2 := pfold_acc b r [l] []
  unfold pieces
  rw [List.foldl_append, h1, List.foldl_cons, pstep, if_pos rfl, h2]
  rfl
theorem pieces_pos (b : UInt8) (l : List UInt8) : 0 < (pieces b l).length := by
  rcases List.eq_nil_or_concat l with rfl | ⟨m, c, rfl⟩
  · simp [pieces]
  · rw [List.concat_eq_append, pieces_snoc, pstep]; split <;> simp
theorem pieces_len (b : UInt8) (l : List UInt8) : (pieces b l).length ≤ l.length + 1 := by
  rcases List.eq_nil_or_concat l with rfl | ⟨m, c, rfl⟩
  · simp [pieces]
  · have := pieces_len b m
    rw [List.concat_eq_append, pieces_snoc, pstep]; split <;> simp <;> omega
termination_by l.length
decreasing_by simp [*]
theorem pieces_each (b : UInt8) (l : List UInt8) : ∀ m ∈ pieces b l, m.length ≤ l.length := by
  rcases List.eq_nil_or_concat l with rfl | ⟨r, c, rfl⟩
  · simp [pieces]
  · have ih := pieces_each b r
    intro m hm
    rw [List.concat_eq_append] at hm ⊢
    rw [pieces_snoc, pstep] at hm
    simp only [List.length_append, List.length_cons, List.length_nil]
    split at hm
    · rcases List.mem_append.1 hm with h | h
      · have := ih m h; omega
      · rw [List.mem_singleton.1 h]; simp
    · rcases List.mem_append.1 hm with h | h
      · have := ih m (List.dropLast_subset _ h); omega
      · rw [List.mem_singleton.1 h]
        have hp := pieces_pos b r
        have : (pieces b r).getLastD [] ∈ pieces b r := by
          rw [List.getLastD_eq_getLast?, List.getLast?_eq_some_getLast (List.ne_nil_of_length_pos hp)]
          exact List.getLast_mem _
        have := ih _ this
        simp only [List.length_append, List.length_cons, List.length_nil]; omega
termination_by l.length
decreasing_by simp [*]
theorem Tryd.infoString : (Tryd.prog.info? 9).map (fun i => (i.zero, i.size, i.bytes)) = some (some (.string ⟨#[]⟩), 1, 16) := by kernel_rfl
theorem pieces_walk (s : ByteArray) (b : UInt8) (W : World) (hs : s.size ≤ 1048576) :
    Calls Tryd.prog 46 #[.string s, .int .u8 (b.toNat : Int)] W fun e W' =>
      ∃ v, e = .returned v ∧ W'.ownsRow W.heap.size 9 1 v (pieces b s.data.toList).length ((pieces b s.data.toList).map strV) ∧ Below W.heap.size W W' := by
  obtain ⟨i0, hi0, hz0, hz1, hz2⟩ := info_parts Tryd.infoString
  obtain ⟨l, hl⟩ : ∃ l, s.data.toList = l := ⟨_, rfl⟩
  obtain ⟨n, hn⟩ : ∃ n, s.size = n := ⟨_, rfl⟩
  have hln : l.length = n := by rw [← hl, ← hn]; exact sz_list s
  have HEX := hide (fun (k : Nat) (c : UInt8) (h : l[k]? = some c) => show s.extract k (k + 1) = ⟨#[c]⟩ from by
    have : s = ⟨l.toArray⟩ := by rw [← hl]
    rw [this, ByteArray.extract_mk, show k + 1 - k = 1 by omega, List.take_one, List.head?_drop, h]; rfl)
  rw [hl]
  have HAT := hide (fun (k : Nat) (c : UInt8) (h : l[k]? = some c) => run_at (P := Tryd.prog) 9 s k c Tryd.underlying9 (by rw [hl]; exact h))
  have HLN := hide hln
  rw [hn] at hs
  clear hl hln
  go_enter Tryd.func46, Tryd.ntmps46
  go_wp2_with fail
  have HO0 := hide (World.ownsRow_lit (e := 9) (size := 1) W #[.string ⟨#[]⟩] 1 (Nat.le_refl _) (by decide) rfl)
  have HB0 := hide ((Below.refl W.heap.size W).alloc (Nat.le_refl _) (.cells #[.string ⟨#[]⟩] 9))
  generalize W.alloc (.cells #[.string ⟨#[]⟩] 9) = W1 at *
  go_loopw [5, 6] (fun v i wr => ∃ k : Nat, k ≤ n ∧ i = .int .i64 (k : Int) ∧ Hid (wr.ownsRow W.heap.size 9 1 v (pieces b (l.take k)).length ((pieces b (l.take k)).map strV)) ∧ Hid (Below W.heap.size W wr)) (fun _ i _ => n - (intOf i).toNat)
  case atStart => exact ⟨0, Nat.zero_le _, rfl, HO0, HB0⟩
  case round =>
    obtain ⟨k, hk, rfl, HO, HB⟩ := hrel
    by_cases hlt : k < n
    case pos =>
      obtain ⟨c, hc⟩ : ∃ c, l[k]? = some c := ⟨_, List.getElem?_eq_getElem (by have := HLN.out; omega)⟩
      have x1 : ∀ w', (Instr.index 9 (.string s) (.int .i64 (k : Int))).run Tryd.prog w' = .ok (.int .u8 (c.toNat : Int)) w' := HAT.out k c hc
      have HSN := hide (show pieces b (l.take (k + 1)) = pstep b (pieces b (l.take k)) c by rw [take_at hc, pieces_snoc])
      have HEXc := hide (HEX.out k c hc)
      have hlen : (pieces b (l.take k)).length ≤ k + 1 := Nat.le_trans (pieces_len _ _) (by simp; omega)
      have hpos := pieces_pos b (l.take k)
      have HEA := hide (pieces_each b (l.take k))
      have htk : (l.take k).length ≤ k := by simp; omega
      clear hc
      generalize pieces b (l.take k) = p at *
      obtain ⟨j, hj⟩ : ∃ j, p.length = j + 1 := ⟨p.length - 1, by omega⟩
      by_cases hcb : c = b
      case pos =>
        have e0 : ((c.toNat : Int) == (b.toNat : Int)) = true := by rw [hcb]; simp
        have e1 : (c.toNat : Int) = (b.toNat : Int) := by rw [hcb]
        have HP := hide (show pieces b (l.take (k + 1)) = p ++ [[]] by rw [HSN.out, pstep, if_pos hcb])
        clear hcb HSN e0
        have HLIT := hide (show Reads (wr.alloc (.cells #[.string ⟨#[]⟩] 9)) (wr.heap.size + 1) 1 (some ⟨wr.heap.size, 0, none⟩) 1 [.string ⟨#[]⟩] from
          ⟨rfl, fun _ => ⟨_, rfl, Nat.lt_succ_self _, fun j u hu => by
            rw [addr_add, Nat.zero_add, cell_of_row _ _ _ _ _ _ (heap_alloc_new wr _)]
            simpa using hu⟩⟩)
        have hb3 : Below wr.heap.size wr (wr.alloc (.cells #[.string ⟨#[]⟩] 9)) := (Below.refl _ _).alloc (Nat.le_refl _) _
        have hbz := HB.out.size
        have HO4 := hide (HO.out.alloc (.cells #[.string ⟨#[]⟩] 9))
        have HB4 := hide (HB.out.alloc hbz (.cells #[.string ⟨#[]⟩] 9))
        clear hb3 HO HB hj
        go_wp2_with (at_builtin; refine wpList_append_any _ rfl (.tmp 19) (.tmp 20) 82 rfl W.heap.size 9 i0 _ 1 16 Tryd.underlying82 hi0 hz0 hz1 hz2 rfl (by omega) _ p.length (p.map strV) rfl HO4.out (wr.heap.size + 1) (some ⟨wr.heap.size, 0, none⟩) 1 1 [.string ⟨#[]⟩] rfl HLIT.out (by intro u hu; simp at hu; subst hu; rfl) (by simp only [maxLen]; omega) (by omega) (by simp; omega) ?_; intro v5 w5 hown5 hg5 hat5; have HO5 := hide hown5; have HB5 := hide (HB4.out.grown hg5 (by simp; omega) (fun q hq => (HO4.out.lt q hq).1)); clear hown5 hg5 hat5)
        go_roundw
        case rel => exact ⟨k + 1, by omega, by go_num, hide (by rw [HP.out]; simpa [strV] using HO5.out), HB5⟩
        case measure => simp [intOf]; omega
      case neg =>
        have e0 : ((c.toNat : Int) == (b.toNat : Int)) = false := by
          have : c.toNat ≠ b.toNat := fun e => hcb (UInt8.toNat_inj.1 e)
          simp; omega
        have e1 : decide (c.toNat = b.toNat) = false := by
          have : c.toNat ≠ b.toNat := fun e => hcb (UInt8.toNat_inj.1 e)
          simp; omega
        obtain ⟨q, z, rfl⟩ : ∃ q z, p = q ++ [z] := by
          rcases List.eq_nil_or_concat p with rfl | ⟨q, z, rfl⟩
          · simp at hj
          · exact ⟨q, z, by rw [List.concat_eq_append]⟩
        obtain rfl : j = q.length := by simp at hj; omega
        have HP := hide (show pieces b (l.take (k + 1)) = q ++ [z ++ [c]] by rw [HSN.out, pstep, if_neg hcb]; simp)
        clear hcb HSN
        obtain ⟨g, cap, hv, hgw⟩ := HO.out.form hpos
        subst hv
        have c1 : wr.cell? ⟨g, q.length, none⟩ = some (.string ⟨z.toArray⟩) := by
          rw [HO.out.cellAt q.length (by simp)]
          simp [strV]
        have c2 : wr.frozen? ⟨g, q.length, none⟩ = false := HO.out.frozenAt q.length
        have HST := hide (HO.out.stored q.length (.string ⟨(z ++ [c]).toArray⟩))
        have hgl := (HO.out.lt g rfl)
        have hx : s.extract k (k + 1) = ⟨#[c]⟩ := HEXc.out
        have hzl := HEA.out z (by simp)
        have hadd : ∀ w', (Op.stringOp .add ⟨z.toArray⟩ ⟨#[c]⟩).run Tryd.prog w' = .ok (.string ⟨(z ++ [c]).toArray⟩) w' := fun w' => run_string_add_lists w' z [c] (by omega) (by simp)
        clear hzl htk HEA
        clear hpos
        simp only [List.length_append, List.length_cons, List.length_nil, Nat.zero_add] at *
        have HB5 := hide (HB.out.grown HST.out.2 (by have := HB.out.size; omega) (fun q hq => by cases hq; exact hgl.1))
        go_wp2
        go_region
        go_wp2
        go_roundw
        case rel => exact ⟨k + 1, by omega, by go_num, hide (by rw [HP.out]; simpa [strV] using HST.out.1.drew), hide HB5.out.drew⟩
        case measure => simp [intOf]; omega
    case neg =>
      obtain rfl : k = n := by omega
      have hall : l.take k = l := List.take_of_length_le (by have := HLN.out; omega)
      rw [hall] at HO
      go_wp2
      go_ret
      exact ⟨_, rfl, HO.out, HB.out⟩
def cutB (b : UInt8) : List UInt8 → List UInt8 × List UInt8
  | [] => ([], [])
  | x :: r => if x = b then ([], r) else (x :: (cutB b r).1, (cutB b r).2)
theorem cutB_not (b : UInt8) : ∀ (l : List UInt8), b ∉ l → cutB b l = (l, [])
  | [], _ => rfl
  | x :: r, h => by
    rw [cutB, if_neg (fun e => h (by simp [e])), cutB_not b r (fun e => h (by simp [e]))]
theorem cutB_at (b : UInt8) : ∀ (l r : List UInt8), b ∉ l → cutB b (l ++ b :: r) = (l, r)
  | [], r, _ => by simp [cutB]
  | x :: l, r, h => by
    rw [List.cons_append, cutB, if_neg (fun e => h (by simp [e])), cutB_at b l r (fun e => h (by simp [e]))]
theorem split_first {b : UInt8} : ∀ {l : List UInt8}, b ∈ l → ∃ u v, l = u ++ b :: v ∧ b ∉ u
  | x :: r, h => by
    by_cases e : x = b
    · exact ⟨[], r, by simp [e], by simp⟩
    · obtain ⟨u, v, rfl, hu⟩ := split_first (l := r) (by rcases List.mem_cons.1 h with h | h; exact absurd h.symm e; exact h)
      exact ⟨x :: u, v, rfl, fun h => by rcases List.mem_cons.1 h with h | h; exact e h.symm; exact hu h⟩
theorem index_one (b : UInt8) : ∀ (l : List UInt8), (b ∉ l → Lib.index l [b] = -1) ∧ ∀ u v, l = u ++ b :: v → b ∉ u → Lib.index l [b] = u.length
  | [] => ⟨fun _ => rfl, fun u v h => by simp at h⟩
  | x :: r => by
    obtain ⟨h1, h2⟩ := index_one b r
    refine ⟨fun h => ?_, fun u v h hu => ?_⟩
    · have e : b ≠ x := fun e => h (by simp [e])
      rw [Lib.index, if_neg (by simp [List.isPrefixOf, e]), h1 (fun e => h (by simp [e]))]
      rfl
    · cases u with
      | nil =>
        simp only [List.nil_append, List.cons.injEq] at h
        rw [Lib.index, if_pos (by simp [List.isPrefixOf, h.1])]
        rfl
      | cons y u =>
        simp only [List.cons_append, List.cons.injEq] at h
        obtain ⟨rfl, h⟩ := h
        have e : b ≠ x := fun e => hu (by simp [e])
        have := h2 u v h (fun e => hu (by simp [e]))
        rw [Lib.index, if_neg (by simp [List.isPrefixOf, e]), this, if_neg (by simp)]
        simp
theorem cut_one (b : UInt8) (l : List UInt8) : Lib.cut l [b] = ((cutB b l).1, (cutB b l).2, decide (b ∈ l)) := by
  by_cases h : b ∈ l
  · obtain ⟨u, v, rfl, hu⟩ := split_first h
    have := (index_one b _).2 u v rfl hu
    rw [Lib.cut, this, if_pos (by omega), cutB_at b u v hu]
    simp
  · rw [Lib.cut, (index_one b l).1 h, if_neg (by decide), cutB_not b l h]
    simp [h]
theorem two_pieces (b : UInt8) (l : List UInt8) : pieces b l = [(cutB b l).1, (cutB b l).2] ∨ ((pieces b l).length ≠ 2 ∧ (b ∈ (cutB b l).2 ∨ (cutB b l).2 = [])) := by
  by_cases h : b ∈ l
  · obtain ⟨u, v, rfl, hu⟩ := split_first h
    rw [pieces_cut b u v hu, cutB_at b u v hu]
    by_cases hv : b ∈ v
    · right
      refine ⟨?_, .inl hv⟩
      obtain ⟨x, y, rfl, hx⟩ := split_first hv
      rw [pieces_cut b x y hx]
      have := pieces_pos b y
      simp only [List.length_cons]; omega
    · left; rw [pieces_eq b v hv]
  · right
    rw [pieces_eq b l h, cutB_not b l h]
    exact ⟨by simp, .inr rfl⟩
theorem numF_bad {l : List UInt8} {m : Int} {x : UInt8} (h : x ∈ l) (hx : isDig x = false) : numF l m = -1 := by
  refine numF_not ?_
  have : l.all isDig = false := by
    rw [Bool.eq_false_iff]
    intro e
    rw [List.all_eq_true.1 e x h] at hx; cases hx
  simp [numeral, this]
theorem numF_lt (l : List UInt8) (m : Int) (h : 0 ≤ numF l m) : numF l m < m := by unfold numF at *; split <;> simp_all
theorem dig_dec (u : Nat) (h : u < 10) : Lib.decDigits u = [UInt8.ofNat (48 + u)] := by rw [Lib.decDigits, dif_pos h]
theorem dec_more (u : Nat) (h : ¬ u < 10) : Lib.decDigits u = Lib.decDigits (u / 10) ++ [UInt8.ofNat (48 + u % 10)] := by rw [Lib.decDigits, dif_neg h]
theorem dec_len (u k : Nat) (h : u < 10 ^ (k + 1)) : (Lib.decDigits u).length ≤ k + 1 := by
  induction k generalizing u with
  | zero => rw [dig_dec u (by simpa using h)]; simp
  | succ k ih =>
    by_cases hu : u < 10
    · rw [dig_dec u hu]; simp
    · rw [dec_more u hu]
      have := ih (u / 10) (by rw [Nat.pow_succ] at h; omega)
      simp; omega
def endT (a p : Nat) : List UInt8 := Lib.decDigits a ++ 58 :: Lib.decDigits p
def packT (p : P4) : List UInt8 := endT p.src.toNat p.sport.toNat ++ 62 :: endT p.dst.toNat p.dport.toNat
def endsF (l : List UInt8) : Int × Int := (numF (cutB 58 l).1 16, numF (cutB 58 l).2 8)
def goodE (x : Int × Int) : Bool := decide (0 ≤ x.1) && decide (0 ≤ x.2)
def parseF (l : List UInt8) : P4 × Int :=
  if goodE (endsF (cutB 62 l).1) && goodE (endsF (cutB 62 l).2) then (⟨(endsF (cutB 62 l).1).1, (endsF (cutB 62 l).2).1, (endsF (cutB 62 l).1).2, (endsF (cutB 62 l).2).2⟩, 0) else (⟨0, 0, 0, 0⟩, 3)
end Go.Proofs.YtohbafigjpoijaaDoor
namespace Go.Proofs
open Go.Shelf
def Tryd.lays171_ren : Go.Shelf.Ren := ⟨fun | 171 => 41 | 243 => 79 | 246 => 102 | 283 => 118 | 284 => 119 | 285 => 120 | 286 => 121 | 129 => 133 | 317 => 132 | 318 => 134 | 319 => 135 | 320 => 136 | 337 => 140 | 338 => 141 | n => n, fun | 3 => 3 | 9 => 9 | 2 => 2 | 4 => 4 | 171 => 162 | 0 => 0 | 53 => 163 | 37 => 109 | 5 => 5 | 173 => 166 | 212 => 175 | 51 => 176 | 20 => 20 | 213 => 177 | 46 => 75 | 232 => 187 | 233 => 188 | n => n, fun | 17 => 1 | 18 => 4 | 19 => 5 | n => n⟩
theorem Tryd.lays171 : Go.Proofs.Lays.n171 Tryd.prog Tryd.lays171_ren := {
  mixed := by kernel_rfl
  f129 := Tryd.func133.trans (congrArg some (by kernel_rfl))
  f171 := Tryd.func41.trans (congrArg some (by kernel_rfl))
  f243 := Tryd.func79.trans (congrArg some (by kernel_rfl))
  f246 := Tryd.func102.trans (congrArg some (by kernel_rfl))
  f283 := Tryd.func118.trans (congrArg some (by kernel_rfl))
  f284 := Tryd.func119.trans (congrArg some (by kernel_rfl))
  f285 := Tryd.func120.trans (congrArg some (by kernel_rfl))
  f286 := Tryd.func121.trans (congrArg some (by kernel_rfl))
  f317 := Tryd.func132.trans (congrArg some (by kernel_rfl))
  f318 := Tryd.func134.trans (congrArg some (by kernel_rfl))
  f319 := Tryd.func135.trans (congrArg some (by kernel_rfl))
  f320 := Tryd.func136.trans (congrArg some (by kernel_rfl))
  f337 := Tryd.func140.trans (congrArg some (by kernel_rfl))
  f338 := Tryd.func141.trans (congrArg some (by kernel_rfl))
  t0 := Tryd.underlying0
  a0 := Tryd.isAgg0
  z0 := Tryd.sizeOf0
  v0 := Tryd.zeroValue0
  t2 := Tryd.underlying2
  a2 := Tryd.isAgg2
  z2 := Tryd.sizeOf2
  v2 := Tryd.zeroValue2
  t3 := Tryd.underlying3
  a3 := Tryd.isAgg3
  z3 := Tryd.sizeOf3
  v3 := Tryd.zeroValue3
  t4 := Tryd.underlying4
  a4 := Tryd.isAgg4
  z4 := Tryd.sizeOf4
  v4 := Tryd.zeroValue4
  t5 := Tryd.underlying5
  a5 := Tryd.isAgg5
  z5 := Tryd.sizeOf5
  v5 := Tryd.zeroValue5
  t9 := Tryd.underlying9
  a9 := Tryd.isAgg9
  z9 := Tryd.sizeOf9
  v9 := Tryd.zeroValue9
  t20 := Tryd.underlying20
  a20 := Tryd.isAgg20
  z20 := Tryd.sizeOf20
  v20 := Tryd.zeroValue20
  t37 := Tryd.underlying109
  a37 := Tryd.isAgg109
  z37 := Tryd.sizeOf109
  v37 := Tryd.zeroValue109
  t46 := Tryd.underlying75
  a46 := Tryd.isAgg75
  z46 := Tryd.sizeOf75
  v46 := Tryd.zeroValue75
  t51 := Tryd.underlying176
  a51 := Tryd.isAgg176
  z51 := Tryd.sizeOf176
  v51 := Tryd.zeroValue176
  t53 := Tryd.underlying163
  a53 := Tryd.isAgg163
  z53 := Tryd.sizeOf163
  v53 := Tryd.zeroValue163
  t171 := Tryd.underlying162
  a171 := Tryd.isAgg162
  z171 := Tryd.sizeOf162
  v171 := Tryd.zeroValue162
  t173 := Tryd.underlying166
  a173 := Tryd.isAgg166
  z173 := Tryd.sizeOf166
  v173 := Tryd.zeroValue166
  t212 := Tryd.underlying175
  a212 := Tryd.isAgg175
  z212 := Tryd.sizeOf175
  v212 := Tryd.zeroValue175
  t213 := Tryd.underlying177
  a213 := Tryd.isAgg177
  z213 := Tryd.sizeOf177
  t232 := Tryd.underlying187
  a232 := Tryd.isAgg187
  z232 := Tryd.sizeOf187
  v232 := Tryd.zeroValue187
  t233 := Tryd.underlying188
  a233 := Tryd.isAgg188
  z233 := Tryd.sizeOf188
  v233 := Tryd.zeroValue188
  g17 := by kernel_rfl
  g18 := by kernel_rfl
  g19 := by kernel_rfl }
open Go.RowKit Go.Sort Go.Lib in
theorem Tryd.strconv_Itoa_small (i : Nat) (hi : i < 100) (w : World) :
    Calls Tryd.prog 41 #[.int .i64 i] w fun e w' => e = .returned (.string ⟨(Lib.decDigits i).toArray⟩) ∧ w' = w := Any.strconv_Itoa_small Tryd.lays171 i hi w
def Tryd.lays145_ren : Go.Shelf.Ren := ⟨fun | 145 => 44 | 220 => 80 | 219 => 103 | 217 => 122 | 225 => 123 | 224 => 124 | 267 => 125 | 266 => 137 | 314 => 138 | n => n, fun | 9 => 9 | 4 => 4 | 59 => 78 | 3 => 3 | 5 => 5 | 46 => 75 | 146 => 180 | 51 => 176 | n => n, fun | 1 => 0 | n => n⟩
theorem Tryd.lays145 : Go.Proofs.Lays.n145 Tryd.prog Tryd.lays145_ren := {
  mixed := by kernel_rfl
  f145 := Tryd.func44.trans (congrArg some (by kernel_rfl))
  f217 := Tryd.func122.trans (congrArg some (by kernel_rfl))
  f219 := Tryd.func103.trans (congrArg some (by kernel_rfl))
  f220 := Tryd.func80.trans (congrArg some (by kernel_rfl))
  f224 := Tryd.func124.trans (congrArg some (by kernel_rfl))
  f225 := Tryd.func123.trans (congrArg some (by kernel_rfl))
  f266 := Tryd.func137.trans (congrArg some (by kernel_rfl))
  f267 := Tryd.func125.trans (congrArg some (by kernel_rfl))
  f314 := Tryd.func138.trans (congrArg some (by kernel_rfl))
  t3 := Tryd.underlying3
  a3 := Tryd.isAgg3
  z3 := Tryd.sizeOf3
  v3 := Tryd.zeroValue3
  t4 := Tryd.underlying4
  a4 := Tryd.isAgg4
  z4 := Tryd.sizeOf4
  v4 := Tryd.zeroValue4
  t5 := Tryd.underlying5
  a5 := Tryd.isAgg5
  z5 := Tryd.sizeOf5
  v5 := Tryd.zeroValue5
  t9 := Tryd.underlying9
  a9 := Tryd.isAgg9
  z9 := Tryd.sizeOf9
  v9 := Tryd.zeroValue9
  t46 := Tryd.underlying75
  a46 := Tryd.isAgg75
  z46 := Tryd.sizeOf75
  v46 := Tryd.zeroValue75
  t51 := Tryd.underlying176
  a51 := Tryd.isAgg176
  z51 := Tryd.sizeOf176
  v51 := Tryd.zeroValue176
  t59 := Tryd.underlying78
  a59 := Tryd.isAgg78
  z59 := Tryd.sizeOf78
  v59 := Tryd.zeroValue78
  t146 := Tryd.underlying180
  a146 := Tryd.isAgg180
  z146 := Tryd.sizeOf180
  v146 := Tryd.zeroValue180
  g1 := by kernel_rfl }
open Go.RowKit Go.Lib in
theorem Tryd.strings_Cut (s sep : ByteArray) (m : Int) (w : World) (hs : s.size < 4294967281) (hm : w.cell? ⟨0, 0, none⟩ = some (.int .i64 m)) :
    Calls Tryd.prog 44 #[.string s, .string sep] w fun e w' => e = .returned (.tuple #[.string ⟨(Lib.cut s.data.toList sep.data.toList).1.toArray⟩, .string ⟨(Lib.cut s.data.toList sep.data.toList).2.1.toArray⟩, .bool (Lib.cut s.data.toList sep.data.toList).2.2]) ∧ ∃ n, w' = w.drewN n := Any.strings_Cut Tryd.lays145 s sep m w hs hm
end Go.Proofs
namespace Go.Proofs.YtohbafigjpoijaaDoor.Bdd
abbrev Asg := Nat → Bool
abbrev Fn := Asg → Bool
structure Node where
  v : Nat
  lo : Nat
  hi : Nat
section
variable {vars : Nat} {ns : List Node}
end
end Go.Proofs.YtohbafigjpoijaaDoor.Bdd
namespace Go.Proofs.YtohbafigjpoijaaDoor.Bdd
def Below (K : Nat) (F : Fn) : Prop := ∀ x y : Asg, (∀ u, u < K → x u = y u) → F x = F y
section
variable {vars : Nat} {ns : List Node}
end
structure St where
  vars : Nat
  most : Nat
  ns : List Node
  full : Bool
end Go.Proofs.YtohbafigjpoijaaDoor.Bdd
namespace Go.Proofs.YtohbafigjpoijaaDoor
open Go.Maps Go.RowKit Go.WideElems
section
variable {α : Type} {P : Program} {kt : TypeId} {key : α → Value} {dom : α → Prop} {w w' : World} {b : Nat} {M : α → Option Value}
end
section
variable {α : Type} {P : Program} {kt : TypeId} {key : α → Value} {dom : α → Prop} {b : Nat} {M : α → Option Value} (w : World)
end
end Go.Proofs.YtohbafigjpoijaaDoor
namespace Go.Proofs.YtohbafigjpoijaaDoor
open Bdd Go.Maps Go.RowKit
abbrev Tri := Nat × Nat × Nat
section
variable {w w' : World} {B g nb kb ib cap : Nat} {A : St} {K T : Tri → Option Value}
end
end Go.Proofs.YtohbafigjpoijaaDoor
namespace Go.Proofs.YtohbafigjpoijaaDoor
open Go.ChangeAt Go.ChangeShapes Go.RowKit Go.WideShapes
theorem ownsRow_below {w w' : World} {base e s n : Nat} {v : Value} {xs : List Value} (h : w.ownsRow base e s v n xs) (hb : Below w.heap.size w w') : w'.ownsRow base e s v n xs :=
  h.kept (row := none) ⟨hb.os, hb.tape, hb.output, hb.size, fun k hk _ => hb.block k hk⟩ (by cases hv : v.ownBlock <;> simp)
section
variable {H : Type} {enc : TypeId × Value → H} {w : World} {base : Nat} {spare : Nat → Bool} {held : Bool} {r : Reach} {b0 : Nat}
theorem open_i64 {v : Value} {d : DataW H} {p : List MemPlace} (hv : Value.okWide Tryd.prog w r b0 3 v) (h : DataW.Trod enc Tryd.prog w base spare held 3 v d p) : ∃ x : Int, v = .int .i64 x ∧ i64ok x := by
  obtain ⟨x, rfl, rfl, rfl, wx⟩ := open_int Tryd.underlying3 hv h
  exact ⟨x, rfl, wf_i64ok wx⟩
end
end Go.Proofs.YtohbafigjpoijaaDoor
namespace Go.Proofs.YtohbafigjpoijaaDoor
open Bdd Go.Maps Go.RowKit
end Go.Proofs.YtohbafigjpoijaaDoor
namespace Go.Proofs.YtohbafigjpoijaaDoor
open Go.RowKit
def packVal (c : Nat) : Value := .agg #[.int .i64 ((c / 1024 : Nat) : Int), .int .i64 ((c / 64 % 16 : Nat) : Int), .int .i64 ((c / 8 % 8 : Nat) : Int), .int .i64 ((c % 8 : Nat) : Int)]
theorem packet_walk (w : World) (c : Nat) (hc : c < 16384) :
    Calls Tryd.prog 13 #[.int .i64 c] w fun e W' => e = .returned (packVal c) ∧ Below w.heap.size w W' := by
  go_enter Tryd.func13, Tryd.ntmps13
  go_wp2
  refine bodyPost_ret (results_cell_row rfl _ _ w.heap.size 23 _ (0, 0) _ rfl (heap_alloc_new w _) Tryd.underlying23 rfl (by kernel_rfl)) rfl ?_
  have e1 : ((c / 1024 : Nat) : Int) = (c : Int) / 1024 := by omega
  have e2 : ((c / 64 % 16 : Nat) : Int) = (c : Int) / 64 % 16 := by omega
  have e3 : ((c / 8 % 8 : Nat) : Int) = (c : Int) / 8 % 8 := by omega
  have e4 : ((c % 8 : Nat) : Int) = (c : Int) % 8 := by omega
  exact ⟨by rw [packVal, e1, e2, e3, e4], (Below.refl _ _).alloc (Nat.le_refl _) _⟩
open Bdd
theorem tb (c i : Nat) : c.testBit i = decide (c / 2 ^ i % 2 = 1) := Nat.testBit_eq_decide_div_mod_eq
open Go.Maps
end Go.Proofs.YtohbafigjpoijaaDoor
namespace Go.Proofs.YtohbafigjpoijaaDoor
open Go.ChangeAt Go.ChangeShapes Go.RowKit Go.WideShapes
theorem ret_bool {a b : Bool} (h : a = b) : Ending.returned (.bool a) = .returned (.bool b) := by rw [h]
end Go.Proofs.YtohbafigjpoijaaDoor
namespace Go.Proofs.YtohbafigjpoijaaDoor
open Go.RowKit
open Bdd Go.Maps
theorem within_walk (n m : Int) (W : World) (B : Bool) (h : (decide (0 ≤ n) && decide (n < m)) = B) : Calls Tryd.prog 42 #[.int .i64 n, .int .i64 m] W fun e W' => e = .returned (.bool B) ∧ W = W' := by
  cases h1 : decide (0 ≤ n)
  · have e1 : ¬ 0 ≤ n := by simpa using h1
    have HF := hide (show false = B by rw [← h, h1]; rfl)
    clear h
    go_enter Tryd.func42, Tryd.ntmps42
    go_wp2
    go_ret
    exact ⟨ret_bool HF.out, rfl⟩
  · have HF := hide (show decide (n < m) = B by rw [← h, h1]; rfl)
    clear h
    go_enter Tryd.func42, Tryd.ntmps42
    go_wp2
    go_ret
    exact ⟨ret_bool HF.out, rfl⟩
end Go.Proofs.YtohbafigjpoijaaDoor
namespace Go.Proofs.YtohbafigjpoijaaDoor
open Go.RowKit
open Bdd Go.Maps
end Go.Proofs.YtohbafigjpoijaaDoor
namespace Go.Proofs.YtohbafigjpoijaaDoor
open Go.Maps Go.RowKit
theorem wi16 (a : Int) : inR a 0 15 = (decide (0 ≤ a) && decide (a < 16)) := by
  unfold inR
  rw [Bool.eq_iff_iff]; simp; omega
theorem wi8 (a : Int) : inR a 0 7 = (decide (0 ≤ a) && decide (a < 8)) := by
  unfold inR
  rw [Bool.eq_iff_iff]; simp; omega
theorem packetCheck_walk (p : P4) (W : World) : Calls Tryd.prog 19 #[.agg #[.int .i64 p.src, .int .i64 p.dst, .int .i64 p.sport, .int .i64 p.dport]] W fun e W' => e = .returned (.int .i64 (if rightB p then 0 else 1)) ∧ RowKit.Below W.heap.size W W' := by
  obtain ⟨a, b, c, d⟩ := p
  have HB := hide (fun o => show RowKit.Below W.heap.size W (W.alloc o) from (RowKit.Below.refl _ _).alloc (Nat.le_refl _) o)
  have HR := hide (show rightB ⟨a, b, c, d⟩ = (inR a 0 15 && inR b 0 15 && inR c 0 7 && inR d 0 7) from rfl)
  generalize rightB _ = R at *
  cases e1 : inR a 0 15
  · have f1 := hide ((wi16 a).symm.trans e1)
    have HF := hide (show R = false from by rw [HR.out, e1]; rfl)
    rw [HF.out]
    go_enter Tryd.func19, Tryd.ntmps19
    go_wp2_with (first | (go_at_call_of 42 (Value.int .i64 a); refine (within_walk _ _ _ _ f1.out).mono ?_; rintro e w1 ⟨rfl, rfl⟩))
    go_ret
    exact ⟨rfl, HB.out _⟩
  have f1 := hide ((wi16 a).symm.trans e1)
  cases e2 : inR b 0 15
  · have f2 := hide ((wi16 b).symm.trans e2)
    have HF := hide (show R = false from by rw [HR.out, e1, e2]; rfl)
    rw [HF.out]
    go_enter Tryd.func19, Tryd.ntmps19
    go_wp2_with (first | (go_at_call_of 42 (Value.int .i64 a); refine (within_walk _ _ _ _ f1.out).mono ?_; rintro e w1 ⟨rfl, rfl⟩) | (go_at_call_of 42 (Value.int .i64 b); refine (within_walk _ _ _ _ f2.out).mono ?_; rintro e w1 ⟨rfl, rfl⟩))
    go_ret
    exact ⟨rfl, HB.out _⟩
  have f2 := hide ((wi16 b).symm.trans e2)
  cases e3 : inR c 0 7
  · have f3 := hide ((wi8 c).symm.trans e3)
    have HF := hide (show R = false from by rw [HR.out, e1, e2, e3]; rfl)
    rw [HF.out]
    go_enter Tryd.func19, Tryd.ntmps19
    go_wp2_with (first | (go_at_call_of 42 (Value.int .i64 a); refine (within_walk _ _ _ _ f1.out).mono ?_; rintro e w1 ⟨rfl, rfl⟩) | (go_at_call_of 42 (Value.int .i64 b); refine (within_walk _ _ _ _ f2.out).mono ?_; rintro e w1 ⟨rfl, rfl⟩) | (go_at_call_of 42 (Value.int .i64 c); refine (within_walk _ _ _ _ f3.out).mono ?_; rintro e w1 ⟨rfl, rfl⟩))
    go_ret
    exact ⟨rfl, HB.out _⟩
  have f3 := hide ((wi8 c).symm.trans e3)
  cases e4 : inR d 0 7
  · have f4 := hide ((wi8 d).symm.trans e4)
    have HF := hide (show R = false from by rw [HR.out, e1, e2, e3, e4]; rfl)
    rw [HF.out]
    go_enter Tryd.func19, Tryd.ntmps19
    go_wp2_with (first | (go_at_call_of 42 (Value.int .i64 a); refine (within_walk _ _ _ _ f1.out).mono ?_; rintro e w1 ⟨rfl, rfl⟩) | (go_at_call_of 42 (Value.int .i64 b); refine (within_walk _ _ _ _ f2.out).mono ?_; rintro e w1 ⟨rfl, rfl⟩) | (go_at_call_of 42 (Value.int .i64 c); refine (within_walk _ _ _ _ f3.out).mono ?_; rintro e w1 ⟨rfl, rfl⟩) | (go_at_call_of 42 (Value.int .i64 d); refine (within_walk _ _ _ _ f4.out).mono ?_; rintro e w1 ⟨rfl, rfl⟩))
    go_ret
    exact ⟨rfl, HB.out _⟩
  · have f4 := hide ((wi8 d).symm.trans e4)
    have HF := hide (show R = true from by rw [HR.out, e1, e2, e3, e4]; rfl)
    rw [HF.out]
    go_enter Tryd.func19, Tryd.ntmps19
    go_wp2_with (first | (go_at_call_of 42 (Value.int .i64 a); refine (within_walk _ _ _ _ f1.out).mono ?_; rintro e w1 ⟨rfl, rfl⟩) | (go_at_call_of 42 (Value.int .i64 b); refine (within_walk _ _ _ _ f2.out).mono ?_; rintro e w1 ⟨rfl, rfl⟩) | (go_at_call_of 42 (Value.int .i64 c); refine (within_walk _ _ _ _ f3.out).mono ?_; rintro e w1 ⟨rfl, rfl⟩) | (go_at_call_of 42 (Value.int .i64 d); refine (within_walk _ _ _ _ f4.out).mono ?_; rintro e w1 ⟨rfl, rfl⟩))
    go_ret
    exact ⟨rfl, HB.out _⟩
def codeP (p : P4) : Nat := p.src.toNat * 1024 + p.dst.toNat * 64 + p.sport.toNat * 8 + p.dport.toNat
theorem right_nats {p : P4} (h : rightB p = true) : ∃ a b c d : Nat, p = ⟨(a : Int), (b : Int), (c : Int), (d : Int)⟩ ∧ a < 16 ∧ b < 16 ∧ c < 8 ∧ d < 8 := by
  obtain ⟨a, b, c, d⟩ := p
  simp only [rightB, inR, Bool.and_eq_true, decide_eq_true_eq] at h
  refine ⟨a.toNat, b.toNat, c.toNat, d.toNat, ?_, by omega, by omega, by omega, by omega⟩
  simp only [P4.mk.injEq]
  omega
theorem or_parts (a b k : Nat) (hb : b < 2 ^ k) : a * 2 ^ k ||| b = a * 2 ^ k + b := by
  rw [Nat.mul_comm, Nat.two_pow_add_eq_or_of_lt hb]
theorem or_code1 (a b : Nat) (ha : a < 16) (hb : b < 16) : Go.bits .or .i64 ((a * 1024 : Nat) : Int) ((b * 64 : Nat) : Int) = ((a * 1024 + b * 64 : Nat) : Int) := by
  rw [i64_or _ _ (by omega) (by omega)]
  have : a * 1024 ||| b * 64 = a * 1024 + b * 64 := or_parts a (b * 64) 10 (by omega)
  rw [this]
theorem or_code2 (a b c : Nat) (ha : a < 16) (hb : b < 16) (hc : c < 8) : Go.bits .or .i64 ((a * 1024 + b * 64 : Nat) : Int) ((c * 8 : Nat) : Int) = ((a * 1024 + b * 64 + c * 8 : Nat) : Int) := by
  rw [i64_or _ _ (by omega) (by omega)]
  have := or_parts (a * 16 + b) (c * 8) 6 (by omega)
  have e : (a * 16 + b) * 2 ^ 6 = a * 1024 + b * 64 := by omega
  rw [e] at this
  rw [this]
theorem or_code3 (a b c d : Nat) (ha : a < 16) (hb : b < 16) (hc : c < 8) (hd : d < 8) : Go.bits .or .i64 ((a * 1024 + b * 64 + c * 8 : Nat) : Int) (d : Int) = ((a * 1024 + b * 64 + c * 8 + d : Nat) : Int) := by
  rw [i64_or _ _ (by omega) (by omega)]
  have := or_parts (a * 128 + b * 8 + c) d 3 (by omega)
  have e : (a * 128 + b * 8 + c) * 2 ^ 3 = a * 1024 + b * 64 + c * 8 := by omega
  rw [e] at this
  rw [this]
theorem code_walk (p : P4) (W : World) : Calls Tryd.prog 14 #[.agg #[.int .i64 p.src, .int .i64 p.dst, .int .i64 p.sport, .int .i64 p.dport]] W fun e W' => e = .returned (.tuple #[.int .i64 (if rightB p then (codeP p : Int) else 0), .int .i64 (if rightB p then 0 else 1)]) ∧ RowKit.Below W.heap.size W W' := by
  have HC := hide (fun (w : World) => packetCheck_walk p w)
  cases hR : rightB p with
  | false =>
    simp only [hR] at HC
    obtain ⟨a, b, c, d⟩ := p
    clear hR
    go_enter Tryd.func14, Tryd.ntmps14
    go_wp2_with fail
    have hb0 := (RowKit.Below.refl W.heap.size W).alloc (Nat.le_refl _) (.cells #[.int .i64 a, .int .i64 b, .int .i64 c, .int .i64 d] 23)
    refine (HC.out _).mono ?_
    rintro e w1 ⟨rfl, hb⟩
    have HB := hide (hb0.trans (hb.mono hb0.size))
    clear hb hb0
    go_wp2
    go_ret2
    exact ⟨rfl, HB.out⟩
  | true =>
    simp only [hR] at HC
    obtain ⟨a, b, c, d, rfl, h1, h2, h3, h4⟩ := right_nats hR
    have e0 : codeP ⟨(a : Int), (b : Int), (c : Int), (d : Int)⟩ = a * 1024 + b * 64 + c * 8 + d := by simp only [codeP, Int.toNat_natCast]
    rw [e0]
    have q1 := or_code1 a b h1 h2
    have q2 := or_code2 a b c h1 h2 h3
    have q3 := or_code3 a b c d h1 h2 h3 h4
    have q4 : Go.bits .or .i64 (Go.bits .or .i64 (Go.bits .or .i64 ((a : Int) * 1024) ((b : Int) * 64)) ((c : Int) * 8)) (d : Int) = ((a * 1024 + b * 64 + c * 8 + d : Nat) : Int) := by
      rw [show ((a : Int) * 1024) = ((a * 1024 : Nat) : Int) by omega, show ((b : Int) * 64) = ((b * 64 : Nat) : Int) by omega, show ((c : Int) * 8) = ((c * 8 : Nat) : Int) by omega, q1, q2, q3]
    have HQ := hide q4
    clear hR e0 q1 q2 q3 q4
    go_enter Tryd.func14, Tryd.ntmps14
    go_wp2_with fail
    have hb0 := (RowKit.Below.refl W.heap.size W).alloc (Nat.le_refl _) (.cells #[.int .i64 (a : Int), .int .i64 (b : Int), .int .i64 (c : Int), .int .i64 (d : Int)] 23)
    have HX0 := hide (heap_alloc_new W (.cells #[.int .i64 (a : Int), .int .i64 (b : Int), .int .i64 (c : Int), .int .i64 (d : Int)] 23))
    refine (HC.out _).mono ?_
    rintro e w1 ⟨rfl, hb⟩
    have HB := hide (hb0.trans (hb.mono hb0.size))
    have hx := (hb.block W.heap.size (by simp)).trans HX0.out
    have x0 : w1.cell? ⟨W.heap.size, 0, none⟩ = some (.int .i64 (a : Int)) := by rw [cell_of_row _ _ _ _ _ _ hx]; rfl
    have x1 : w1.cell? ⟨W.heap.size, 1, none⟩ = some (.int .i64 (b : Int)) := by rw [cell_of_row _ _ _ _ _ _ hx]; rfl
    have x2 : w1.cell? ⟨W.heap.size, 2, none⟩ = some (.int .i64 (c : Int)) := by rw [cell_of_row _ _ _ _ _ _ hx]; rfl
    have x3 : w1.cell? ⟨W.heap.size, 3, none⟩ = some (.int .i64 (d : Int)) := by rw [cell_of_row _ _ _ _ _ _ hx]; rfl
    clear hb hb0 hx HX0
    go_wp2
    go_ret2
    refine ⟨?_, HB.out⟩
    show Ending.returned (.tuple #[.int .i64 (Go.bits .or .i64 (Go.bits .or .i64 (Go.bits .or .i64 ((a : Int) * 1024) ((b : Int) * 64)) ((c : Int) * 8)) (d : Int)), .int .i64 0]) = _
    rw [HQ.out]
    rfl
end Go.Proofs.YtohbafigjpoijaaDoor
