/- A part of the proof: Mt1, ShD, G2, G4, G3, St4, St5, St6. -/
import Derived.Test.YtohbafigjpoijaaDoorMs1
import Derived.Lib.CountLaws
import Derived.Lib.Split
import Derived.Lib.Join
import Derived.Shelf.Strconv.Itoa3
import Derived.Shelf.Strings.OnBuilder
import Derived.Shelf.Strings.Cut
import Derived.Shelf.Strings.Split
import Derived.Test.YtohbafigjpoijaaDoorProg
import Derived.Maps.OwnOps
import Derived.Maps.OwnSet
import Derived.Maps.Ext
import Derived.Below
import Derived.DeepKeys5
import Derived.WalkKit
import Derived.Outline
import Derived.Deep.RegionLaw
import Derived.StillTailTactics
import Derived.WalkLawsBesides
import Derived.Laws.OwnMore
import Derived.BigQuiet
import Derived.Deep.RegionWith
import Derived.Deep.QuietTactic
import Derived.Deep.RegionHeld3
import Derived.Deep.Upon
import Derived.Lib.SliceRun
import Derived.Laws.IdiomCopy
set_option linter.unusedVariables false
set_option linter.unusedSimpArgs false
set_option maxRecDepth 100000
set_option maxHeartbeats 4000000
namespace Go.Proofs.YtohbafigjpoijaaDoor
open Go.RowKit
theorem split_pieces (b : UInt8) (l : List UInt8) : Lib.splitK [b] 0 (Lib.count l [b]) l = pieces b l := by
  by_cases h : b ∈ l
  · obtain ⟨u, v, rfl, hu⟩ := split_first h
    have hi := (index_one b (u ++ b :: v)).2 u v rfl hu
    have hd : (u ++ b :: v).drop (u.length + [b].length) = v := by simp
    rw [Lib.count_hit (by simp) hi, hd, Nat.add_comm, Lib.splitK, hi, if_neg (by simp), show ((u.length : Int)).toNat = u.length from rfl, hd, split_pieces b v, pieces_cut b u v hu]
    simp
  · rw [Lib.count_miss ((index_one b l).1 h), pieces_eq b l h]; rfl
termination_by l.length
decreasing_by simp [*]; omega
def joinF (sep : List UInt8) : List (List UInt8) → List UInt8
  | [] => []
  | [x] => x
  | x :: y :: r => x ++ sep ++ joinF sep (y :: r)
theorem join_lib (sep : List UInt8) : ∀ xs, Lib.join xs sep = joinF sep xs
  | [] => rfl
  | [x] => by simp [Lib.join, joinF, List.intercalate]
  | x :: y :: r => by
    have := join_lib sep (y :: r)
    simp only [Lib.join, joinF, List.intercalate, List.intersperse_cons_cons, List.flatten_cons] at this ⊢
    rw [this, List.append_assoc]
theorem join_snoc (sep : List UInt8) : ∀ (xs : List (List UInt8)) (x : List UInt8), xs ≠ [] → joinF sep (xs ++ [x]) = joinF sep xs ++ sep ++ x
  | [y], x, _ => rfl
  | y :: z :: r, x, _ => by
    have := join_snoc sep (z :: r) x (by simp)
    simp only [List.cons_append, joinF] at this ⊢
    rw [this]; simp
theorem join_len (sep : List UInt8) (k : Nat) : ∀ (xs : List (List UInt8)), (∀ x ∈ xs, x.length ≤ k) → (joinF sep xs).length ≤ (k + sep.length) * xs.length
  | [], _ => by simp [joinF]
  | [x], h => by have := h x (by simp); simp [joinF]; omega
  | x :: y :: r, h => by
    have ih := join_len sep k (y :: r) (fun z hz => h z (by simp at hz ⊢; rcases hz with h | h; exact .inr (.inl h); exact .inr (.inr h)))
    have := h x (by simp)
    simp only [joinF, List.length_append, List.length_cons, Nat.mul_succ] at ih ⊢
    omega
def stopAt (S : Nat → Bool) (most n : Nat) : Nat := if h : n < most ∧ S n = true then stopAt S most (n + 1) else n
termination_by most - n
theorem stop_no {S : Nat → Bool} {most n : Nat} (h : ¬ (n < most ∧ S n = true)) : stopAt S most n = n := by rw [stopAt, dif_neg h]
theorem stop_yes {S : Nat → Bool} {most n : Nat} (h : n < most ∧ S n = true) : stopAt S most n = stopAt S most (n + 1) := by rw [stopAt, dif_pos h]
theorem stop_ge (S : Nat → Bool) (most n : Nat) : n ≤ stopAt S most n := by
  by_cases h : n < most ∧ S n = true
  · rw [stop_yes h]; have := stop_ge S most (n + 1); omega
  · rw [stop_no h]; exact Nat.le_refl _
termination_by most - n
theorem stop_le (S : Nat → Bool) (most n : Nat) (hn : n ≤ most) : stopAt S most n ≤ most := by
  by_cases h : n < most ∧ S n = true
  · rw [stop_yes h]; exact stop_le S most (n + 1) (by omega)
  · rw [stop_no h]; exact hn
termination_by most - n
theorem stop_in (S : Nat → Bool) (most n i : Nat) (h1 : n ≤ i) (h2 : i < stopAt S most n) : S i = true := by
  by_cases h : n < most ∧ S n = true
  · rw [stop_yes h] at h2
    by_cases e : i = n
    · rw [e]; exact h.2
    · exact stop_in S most (n + 1) i (by omega) h2
  · rw [stop_no h] at h2; omega
termination_by most - n
theorem stop_end (S : Nat → Bool) (most n : Nat) (h : stopAt S most n < most) : S (stopAt S most n) = false := by
  by_cases hh : n < most ∧ S n = true
  · rw [stop_yes hh] at h ⊢; exact stop_end S most (n + 1) h
  · rw [stop_no hh] at h ⊢
    cases e : S n with
    | false => rfl
    | true => exact absurd ⟨h, e⟩ hh
termination_by most - n
def rowsF (S : Nat → Bool) (most n : Nat) : List (Nat × Nat) :=
  if h : n < most then (if n < stopAt S most n then [(n, stopAt S most n - 1)] else []) ++ rowsF S most (stopAt S most n + 1) else []
termination_by most - n
decreasing_by have := stop_ge S most n; omega
theorem rows_done {S : Nat → Bool} {most n : Nat} (h : ¬ n < most) : rowsF S most n = [] := by rw [rowsF, dif_neg h]
theorem rows_step {S : Nat → Bool} {most n : Nat} (h : n < most) : rowsF S most n = (if n < stopAt S most n then [(n, stopAt S most n - 1)] else []) ++ rowsF S most (stopAt S most n + 1) := by rw [rowsF, dif_pos h]
theorem rows_not {S : Nat → Bool} {most n : Nat} (h : S n = false) : rowsF S most n = rowsF S most (n + 1) := by
  by_cases hn : n < most
  · rw [rows_step hn, stop_no (by simp [h]), if_neg (Nat.lt_irrefl _)]; rfl
  · rw [rows_done hn, rows_done (by omega)]
def refRows (S : Nat → Bool) (most n : Nat) : List (Nat × Nat) :=
  if h : n < most then (if S n = true ∧ ¬ (0 < n ∧ S (n - 1) = true) then [(n, stopAt S most n - 1)] else []) ++ refRows S most (n + 1) else []
termination_by most - n
theorem ref_done {S : Nat → Bool} {most n : Nat} (h : ¬ n < most) : refRows S most n = [] := by rw [refRows, dif_neg h]
theorem ref_step {S : Nat → Bool} {most n : Nat} (h : n < most) : refRows S most n = (if S n = true ∧ ¬ (0 < n ∧ S (n - 1) = true) then [(n, stopAt S most n - 1)] else []) ++ refRows S most (n + 1) := by rw [refRows, dif_pos h]
theorem ref_skip {S : Nat → Bool} {most : Nat} (k : Nat) : ∀ n, 0 < n → S (n - 1) = true → (∀ i, n ≤ i → i < n + k → S i = true) → refRows S most n = refRows S most (n + k) := by
  induction k with
  | zero => intros; rfl
  | succ k ih =>
    intro n h0 hp hall
    by_cases hn : n < most
    · rw [ref_step hn, if_neg (by simp [h0, hp]), List.nil_append, ih (n + 1) (by omega) (by simpa using hall n (Nat.le_refl _) (by omega)) (fun i h1 h2 => hall i (by omega) (by omega))]
      congr 1; omega
    · rw [ref_done hn, ref_done (by omega)]
theorem ref_rows (S : Nat → Bool) (most n : Nat) (h : n = 0 ∨ S (n - 1) = false) : refRows S most n = rowsF S most n := by
  by_cases hn : n < most
  · cases hS : S n with
    | false =>
      rw [ref_step hn, if_neg (by simp [hS]), rows_not hS, List.nil_append]
      exact ref_rows S most (n + 1) (.inr (by simpa using hS))
    | true =>
      have hgt : n < stopAt S most n := by rw [stop_yes ⟨hn, hS⟩]; have := stop_ge S most (n + 1); omega
      have hle := stop_le S most n (Nat.le_of_lt hn)
      rw [ref_step hn, if_pos ⟨hS, by rcases h with h | h <;> simp [h]⟩, rows_step hn, if_pos hgt]
      congr 1
      have hk := ref_skip (S := S) (most := most) (stopAt S most n - (n + 1)) (n + 1) (by omega) (by simpa using hS) (fun i h1 h2 => stop_in S most n i (by omega) (by omega))
      rw [hk, show n + 1 + (stopAt S most n - (n + 1)) = stopAt S most n by omega]
      by_cases he : stopAt S most n < most
      · have hE := stop_end S most n he
        rw [ref_step he, if_neg (by simp [hE]), List.nil_append]
        exact ref_rows S most (stopAt S most n + 1) (.inr (by simpa using hE))
      · rw [ref_done he, rows_done (by omega)]
  · rw [ref_done hn, rows_done hn]
termination_by most - n
decreasing_by all_goals omega
theorem rows_len (S : Nat → Bool) (most n : Nat) : (rowsF S most n).length ≤ most - n := by
  by_cases hn : n < most
  · have := stop_ge S most n
    have ih := rows_len S most (stopAt S most n + 1)
    rw [rows_step hn]
    split <;> simp <;> omega
  · rw [rows_done hn]; simp
termination_by most - n
decreasing_by have := stop_ge S most n; omega
theorem rows_mem (S : Nat → Bool) (most n : Nat) : ∀ r ∈ rowsF S most n, n ≤ r.1 ∧ r.1 ≤ r.2 ∧ r.2 < most ∧ ∀ i, r.1 ≤ i → i ≤ r.2 → S i = true := by
  by_cases hn : n < most
  · have h0 := stop_ge S most n
    have h1 := stop_le S most n (Nat.le_of_lt hn)
    have ih := rows_mem S most (stopAt S most n + 1)
    rw [rows_step hn]
    intro r hr
    rcases List.mem_append.1 hr with hr | hr
    · split at hr
      · rw [List.mem_singleton.1 hr]
        exact ⟨Nat.le_refl _, by simp; omega, by simp; omega, fun i a b => stop_in S most n i a (by simp at b; omega)⟩
      · simp at hr
    · have := ih r hr
      exact ⟨by omega, this.2⟩
  · rw [rows_done hn]; simp
termination_by most - n
decreasing_by have := stop_ge S most n; omega
theorem rows_all (S : Nat → Bool) (most n i : Nat) (h1 : n ≤ i) (h2 : i < most) (hS : S i = true) : ∃ r ∈ rowsF S most n, r.1 ≤ i ∧ i ≤ r.2 := by
  have h0 := stop_ge S most n
  rw [rows_step (by omega)]
  by_cases he : i < stopAt S most n
  · exact ⟨(n, stopAt S most n - 1), by rw [if_pos (by omega)]; simp, by simpa using h1, by simp; omega⟩
  · have hle : stopAt S most n + 1 ≤ i := by
      rcases Nat.lt_or_ge (stopAt S most n) i with h | h
      · omega
      · have e : stopAt S most n = i := by omega
        have := stop_end S most n (by omega)
        rw [e, hS] at this; cases this
    obtain ⟨r, hr, h⟩ := rows_all S most (stopAt S most n + 1) i hle h2 hS
    exact ⟨r, List.mem_append_right _ hr, h⟩
termination_by most - n
decreasing_by have := stop_ge S most n; omega
def rowT (r : Nat × Nat) : List UInt8 := if r.1 < r.2 then Lib.decDigits r.1 ++ 45 :: Lib.decDigits r.2 else Lib.decDigits r.1
theorem rowT_len {r : Nat × Nat} (h1 : r.1 < 100) (h2 : r.2 < 100) : (rowT r).length ≤ 5 := by
  have := dec_len r.1 1 (by omega)
  have := dec_len r.2 1 (by omega)
  unfold rowT; split <;> simp <;> omega
def wordF (set most : Nat) : List UInt8 := if set = 0 then [45] else if set = 2 ^ most - 1 then [42] else joinF [44] ((rowsF set.testBit most 0).map rowT)
def rowOf (most : Nat) (l : List UInt8) : Option (Nat × Nat) :=
  let lo := numF (cutB 45 l).1 most
  let hi := numF (if 45 ∈ l then (cutB 45 l).2 else (cutB 45 l).1) most
  if lo < 0 ∨ hi < lo then none else some (lo.toNat, hi.toNat)
def maskF (set : Nat) (xs : List Nat) : Nat := xs.foldl (fun s n => s ||| 2 ^ n) set
def readRowsF (most : Nat) : Nat → List (List UInt8) → Option Nat
  | set, [] => some set
  | set, l :: r => match rowOf most l with
    | none => none
    | some (lo, hi) => readRowsF most (maskF set (List.range' lo (hi + 1 - lo))) r
def readF (l : List UInt8) (most : Nat) : Option Nat := if l = [42] then some (2 ^ most - 1) else if l = [45] then some 0 else readRowsF most 0 (pieces 44 l)
theorem mask_bit : ∀ (xs : List Nat) (set i : Nat), (maskF set xs).testBit i = (set.testBit i || decide (i ∈ xs))
  | [], set, i => by simp [maskF]
  | x :: xs, set, i => by
    have := mask_bit xs (set ||| 2 ^ x) i
    simp only [maskF, List.foldl_cons] at this ⊢
    rw [this, Nat.testBit_or, Nat.testBit_two_pow]
    by_cases e : x = i
    · subst e; simp
    · simp [e, Ne.symm e, Bool.or_assoc]
theorem word_len {set most : Nat} (hm : most ≤ 100) (h0 : 0 < most) : (wordF set most).length ≤ 6 * most := by
  unfold wordF
  split
  · simp; omega
  · split
    · simp; omega
    · have h1 := join_len [44] 5 ((rowsF set.testBit most 0).map rowT) (fun x hx => by
        obtain ⟨r, hr, rfl⟩ := List.mem_map.1 hx
        have := rows_mem set.testBit most 0 r hr
        exact rowT_len (by omega) (by omega))
      have h2 := rows_len set.testBit most 0
      simp only [List.length_map, List.length_cons, List.length_nil] at h1
      omega
def matchT (m : M4) : List UInt8 := wordF m.src 16 ++ 32 :: (wordF m.sport 8 ++ 32 :: (wordF m.dst 16 ++ 32 :: wordF m.dport 8))
theorem matchT_join (m : M4) : matchT m = joinF [32] [wordF m.src 16, wordF m.sport 8, wordF m.dst 16, wordF m.dport 8] := by simp [matchT, joinF]
theorem matchT_len (m : M4) : (matchT m).length ≤ 291 := by
  have h1 := word_len (set := m.src) (most := 16) (by omega) (by omega)
  have h2 := word_len (set := m.sport) (most := 8) (by omega) (by omega)
  have h3 := word_len (set := m.dst) (most := 16) (by omega) (by omega)
  have h4 := word_len (set := m.dport) (most := 8) (by omega) (by omega)
  simp [matchT]; omega
def parseM (l : List UInt8) : M4 × Int :=
  if 300 < l.length then (⟨0, 0, 0, 0⟩, 2) else
  match pieces 32 l with
  | [a, b, c, d] => match readF a 16, readF b 8, readF c 16, readF d 8 with
    | some x, some y, some z, some u => (⟨x, z, y, u⟩, 0)
    | _, _, _, _ => (⟨0, 0, 0, 0⟩, 3)
  | _ => (⟨0, 0, 0, 0⟩, 3)
theorem read_lt {l : List UInt8} {most : Nat} {x : Nat} (hm : 0 < most) (h : readF l most = some x) : x < 2 ^ most := by
  have hp : 0 < 2 ^ most := Nat.two_pow_pos most
  unfold readF at h
  split at h
  · cases h; omega
  · split at h
    · cases h; exact hp
    · have key : ∀ (rs : List (List UInt8)) (set : Nat), set < 2 ^ most → ∀ x, readRowsF most set rs = some x → x < 2 ^ most := by
        intro rs
        induction rs with
        | nil => intro set hs x hx; cases hx; exact hs
        | cons r rs ih =>
          intro set hs x hx
          unfold readRowsF at hx
          split at hx
          · cases hx
          · rename_i lo hi hr
            refine ih _ ?_ x hx
            have hhi : hi < most := by
              obtain ⟨q, hq⟩ : ∃ q, (if 45 ∈ r then (cutB 45 r).2 else (cutB 45 r).1) = q := ⟨_, rfl⟩
              simp only [rowOf, hq] at hr
              split at hr
              · cases hr
              · simp only [Option.some.injEq, Prod.mk.injEq] at hr
                have := numF_lt q most (by omega)
                omega
            apply Nat.lt_pow_two_of_testBit
            intro i hi'
            rw [mask_bit, Nat.testBit_lt_two_pow (Nat.lt_of_lt_of_le hs (Nat.pow_le_pow_right (by decide) hi')), Bool.false_or]
            exact decide_eq_false (by simp only [List.mem_range'_1]; omega)
      exact key _ 0 hp x h
end Go.Proofs.YtohbafigjpoijaaDoor
namespace Go.Proofs
open Go.Shelf
def Tryd.lays156_ren : Go.Shelf.Ren := ⟨fun | 156 => 56 | 165 => 83 | 166 => 61 | 169 => 63 | 240 => 87 | 241 => 107 | 276 => 109 | 277 => 129 | n => n, fun | 31 => 82 | 9 => 9 | 3 => 3 | 4 => 4 | 0 => 0 | 20 => 20 | 72 => 111 | 76 => 114 | 70 => 108 | 37 => 109 | 75 => 113 | 127 => 140 | 164 => 151 | 5 => 5 | 80 => 95 | n => n, fun | n => n⟩
theorem Tryd.lays156 : Go.Proofs.Lays.n156 Tryd.prog Tryd.lays156_ren := {
  mixed := by kernel_rfl
  f156 := Tryd.func56.trans (congrArg some (by kernel_rfl))
  f165 := Tryd.func83.trans (congrArg some (by kernel_rfl))
  f166 := Tryd.func61.trans (congrArg some (by kernel_rfl))
  f169 := Tryd.func63.trans (congrArg some (by kernel_rfl))
  f240 := Tryd.func87.trans (congrArg some (by kernel_rfl))
  f241 := Tryd.func107.trans (congrArg some (by kernel_rfl))
  f276 := Tryd.func109.trans (congrArg some (by kernel_rfl))
  f277 := Tryd.func129.trans (congrArg some (by kernel_rfl))
  t0 := Tryd.underlying0
  a0 := Tryd.isAgg0
  z0 := Tryd.sizeOf0
  v0 := Tryd.zeroValue0
  t3 := Tryd.underlying3
  a3 := Tryd.isAgg3
  z3 := Tryd.sizeOf3
  v3 := Tryd.zeroValue3
  t4 := Tryd.underlying4
  a4 := Tryd.isAgg4
  z4 := Tryd.sizeOf4
  v4 := Tryd.zeroValue4
  t9 := Tryd.underlying9
  a9 := Tryd.isAgg9
  z9 := Tryd.sizeOf9
  v9 := Tryd.zeroValue9
  t20 := Tryd.underlying20
  a20 := Tryd.isAgg20
  z20 := Tryd.sizeOf20
  v20 := Tryd.zeroValue20
  t31 := Tryd.underlying82
  a31 := Tryd.isAgg82
  z31 := Tryd.sizeOf82
  v31 := Tryd.zeroValue82
  t37 := Tryd.underlying109
  a37 := Tryd.isAgg109
  z37 := Tryd.sizeOf109
  v37 := Tryd.zeroValue109
  t70 := Tryd.underlying108
  a70 := Tryd.isAgg108
  z70 := Tryd.sizeOf108
  v70 := Tryd.zeroValue108
  t72 := Tryd.underlying111
  a72 := Tryd.isAgg111
  z72 := Tryd.sizeOf111
  v72 := Tryd.zeroValue111
  t75 := Tryd.underlying113
  a75 := Tryd.isAgg113
  z75 := Tryd.sizeOf113
  v75 := Tryd.zeroValue113
  t76 := Tryd.underlying114
  a76 := Tryd.isAgg114
  z76 := Tryd.sizeOf114
  v76 := Tryd.zeroValue114
  t127 := Tryd.underlying140
  a127 := Tryd.isAgg140
  z127 := Tryd.sizeOf140
  v127 := Tryd.zeroValue140
  t164 := Tryd.underlying151
  a164 := Tryd.isAgg151
  z164 := Tryd.sizeOf151
  v164 := Tryd.zeroValue151 }
theorem Tryd.Builder_Extra_156 : Builder.Extra Tryd.prog Tryd.lays156_ren := {
  sizeBuilder := by kernel_rfl
  liesBuilder := by kernel_rfl
  t5 := Tryd.underlying5
  a5 := Tryd.isAgg5
  z5 := Tryd.sizeOf5
  v5 := Tryd.zeroValue5
  infoByte := by kernel_rfl
  cellsByte := by kernel_rfl
  sizeByte := by kernel_rfl
  neB5 := by decide }
open Go.RowKit in
theorem Tryd.strings_Join (bk o c : Nat) (xs : List ByteArray) (sep : ByteArray) (w : World) (hcells : ∀ (j : Nat) x, xs[j]? = some x → w.cell? ⟨bk, o + j, none⟩ = some (.string x)) (hbk : bk < w.heap.size) (hN : xs.length ≤ 140737488355328) (hcap : xs.length ≤ c) (hlen : (Lib.join (xs.map (·.data.toList)) sep.data.toList).length ≤ 140737488355328) :
    Calls Tryd.prog 56 #[.slice (some ⟨bk, o, none⟩) xs.length c, .string sep] w fun e w' => e = .returned (.string ⟨(Lib.join (xs.map (·.data.toList)) sep.data.toList).toArray⟩) ∧ Below w.heap.size w w' := Any.strings_Join Tryd.lays156 Tryd.Builder_Extra_156 bk o c xs sep w hcells hbk hN hcap hlen
def Tryd.lays171_ren : Go.Shelf.Ren := ⟨fun | 171 => 41 | 243 => 79 | 246 => 102 | 283 => 118 | 284 => 119 | 285 => 120 | 286 => 121 | 129 => 133 | 317 => 132 | 318 => 134 | 319 => 135 | 320 => 136 | 337 => 140 | 338 => 141 | n => n, fun | 3 => 3 | 9 => 9 | 2 => 2 | 4 => 4 | 171 => 162 | 0 => 0 | 53 => 163 | 37 => 109 | 5 => 5 | 173 => 166 | 212 => 175 | 51 => 176 | 20 => 20 | 213 => 177 | 46 => 75 | 232 => 187 | 233 => 188 | n => n, fun | 17 => 1 | 18 => 4 | 19 => 5 | n => n⟩
theorem Tryd.lays171 : Go.Proofs.Lays.n171 Tryd.prog Tryd.lays171_ren := {
  mixed := by kernel_rfl
  f129 := Tryd.func133.trans (congrArg some (by kernel_rfl))
  f171 := Tryd.func41.trans (congrArg some (by kernel_rfl))
  f243 := Tryd.func79.trans (congrArg some (by kernel_rfl))
  f246 := Tryd.func102.trans (congrArg some (by kernel_rfl))
  f283 := Tryd.func118.trans (congrArg some (by kernel_rfl))
  f284 := Tryd.func119.trans (congrArg some (by kernel_rfl))
  f285 := Tryd.func120.trans (congrArg some (by kernel_rfl))
  f286 := Tryd.func121.trans (congrArg some (by kernel_rfl))
  f317 := Tryd.func132.trans (congrArg some (by kernel_rfl))
  f318 := Tryd.func134.trans (congrArg some (by kernel_rfl))
  f319 := Tryd.func135.trans (congrArg some (by kernel_rfl))
  f320 := Tryd.func136.trans (congrArg some (by kernel_rfl))
  f337 := Tryd.func140.trans (congrArg some (by kernel_rfl))
  f338 := Tryd.func141.trans (congrArg some (by kernel_rfl))
  t0 := Tryd.underlying0
  a0 := Tryd.isAgg0
  z0 := Tryd.sizeOf0
  v0 := Tryd.zeroValue0
  t2 := Tryd.underlying2
  a2 := Tryd.isAgg2
  z2 := Tryd.sizeOf2
  v2 := Tryd.zeroValue2
  t3 := Tryd.underlying3
  a3 := Tryd.isAgg3
  z3 := Tryd.sizeOf3
  v3 := Tryd.zeroValue3
  t4 := Tryd.underlying4
  a4 := Tryd.isAgg4
  z4 := Tryd.sizeOf4
  v4 := Tryd.zeroValue4
  t5 := Tryd.underlying5
  a5 := Tryd.isAgg5
  z5 := Tryd.sizeOf5
  v5 := Tryd.zeroValue5
  t9 := Tryd.underlying9
  a9 := Tryd.isAgg9
  z9 := Tryd.sizeOf9
  v9 := Tryd.zeroValue9
  t20 := Tryd.underlying20
  a20 := Tryd.isAgg20
  z20 := Tryd.sizeOf20
  v20 := Tryd.zeroValue20
  t37 := Tryd.underlying109
  a37 := Tryd.isAgg109
  z37 := Tryd.sizeOf109
  v37 := Tryd.zeroValue109
  t46 := Tryd.underlying75
  a46 := Tryd.isAgg75
  z46 := Tryd.sizeOf75
  v46 := Tryd.zeroValue75
  t51 := Tryd.underlying176
  a51 := Tryd.isAgg176
  z51 := Tryd.sizeOf176
  v51 := Tryd.zeroValue176
  t53 := Tryd.underlying163
  a53 := Tryd.isAgg163
  z53 := Tryd.sizeOf163
  v53 := Tryd.zeroValue163
  t171 := Tryd.underlying162
  a171 := Tryd.isAgg162
  z171 := Tryd.sizeOf162
  v171 := Tryd.zeroValue162
  t173 := Tryd.underlying166
  a173 := Tryd.isAgg166
  z173 := Tryd.sizeOf166
  v173 := Tryd.zeroValue166
  t212 := Tryd.underlying175
  a212 := Tryd.isAgg175
  z212 := Tryd.sizeOf175
  v212 := Tryd.zeroValue175
  t213 := Tryd.underlying177
  a213 := Tryd.isAgg177
  z213 := Tryd.sizeOf177
  t232 := Tryd.underlying187
  a232 := Tryd.isAgg187
  z232 := Tryd.sizeOf187
  v232 := Tryd.zeroValue187
  t233 := Tryd.underlying188
  a233 := Tryd.isAgg188
  z233 := Tryd.sizeOf188
  v233 := Tryd.zeroValue188
  g17 := by kernel_rfl
  g18 := by kernel_rfl
  g19 := by kernel_rfl }
open Go.RowKit Go.Sort Go.Lib in
theorem Tryd.strconv_Itoa_small (i : Nat) (hi : i < 100) (w : World) :
    Calls Tryd.prog 41 #[.int .i64 i] w fun e w' => e = .returned (.string ⟨(Lib.decDigits i).toArray⟩) ∧ w' = w := Any.strconv_Itoa_small Tryd.lays171 i hi w
def Tryd.lays145_ren : Go.Shelf.Ren := ⟨fun | 145 => 44 | 220 => 80 | 219 => 103 | 217 => 122 | 225 => 123 | 224 => 124 | 267 => 125 | 266 => 137 | 314 => 138 | n => n, fun | 9 => 9 | 4 => 4 | 59 => 78 | 3 => 3 | 5 => 5 | 46 => 75 | 146 => 180 | 51 => 176 | n => n, fun | 1 => 0 | n => n⟩
theorem Tryd.lays145 : Go.Proofs.Lays.n145 Tryd.prog Tryd.lays145_ren := {
  mixed := by kernel_rfl
  f145 := Tryd.func44.trans (congrArg some (by kernel_rfl))
  f217 := Tryd.func122.trans (congrArg some (by kernel_rfl))
  f219 := Tryd.func103.trans (congrArg some (by kernel_rfl))
  f220 := Tryd.func80.trans (congrArg some (by kernel_rfl))
  f224 := Tryd.func124.trans (congrArg some (by kernel_rfl))
  f225 := Tryd.func123.trans (congrArg some (by kernel_rfl))
  f266 := Tryd.func137.trans (congrArg some (by kernel_rfl))
  f267 := Tryd.func125.trans (congrArg some (by kernel_rfl))
  f314 := Tryd.func138.trans (congrArg some (by kernel_rfl))
  t3 := Tryd.underlying3
  a3 := Tryd.isAgg3
  z3 := Tryd.sizeOf3
  v3 := Tryd.zeroValue3
  t4 := Tryd.underlying4
  a4 := Tryd.isAgg4
  z4 := Tryd.sizeOf4
  v4 := Tryd.zeroValue4
  t5 := Tryd.underlying5
  a5 := Tryd.isAgg5
  z5 := Tryd.sizeOf5
  v5 := Tryd.zeroValue5
  t9 := Tryd.underlying9
  a9 := Tryd.isAgg9
  z9 := Tryd.sizeOf9
  v9 := Tryd.zeroValue9
  t46 := Tryd.underlying75
  a46 := Tryd.isAgg75
  z46 := Tryd.sizeOf75
  v46 := Tryd.zeroValue75
  t51 := Tryd.underlying176
  a51 := Tryd.isAgg176
  z51 := Tryd.sizeOf176
  v51 := Tryd.zeroValue176
  t59 := Tryd.underlying78
  a59 := Tryd.isAgg78
  z59 := Tryd.sizeOf78
  v59 := Tryd.zeroValue78
  t146 := Tryd.underlying180
  a146 := Tryd.isAgg180
  z146 := Tryd.sizeOf180
  v146 := Tryd.zeroValue180
  g1 := by kernel_rfl }
open Go.RowKit Go.Lib in
theorem Tryd.strings_Cut (s sep : ByteArray) (m : Int) (w : World) (hs : s.size < 4294967281) (hm : w.cell? ⟨0, 0, none⟩ = some (.int .i64 m)) :
    Calls Tryd.prog 44 #[.string s, .string sep] w fun e w' => e = .returned (.tuple #[.string ⟨(Lib.cut s.data.toList sep.data.toList).1.toArray⟩, .string ⟨(Lib.cut s.data.toList sep.data.toList).2.1.toArray⟩, .bool (Lib.cut s.data.toList sep.data.toList).2.2]) ∧ ∃ n, w' = w.drewN n := Any.strings_Cut Tryd.lays145 s sep m w hs hm
def Tryd.lays146_ren : Go.Shelf.Ren := ⟨fun | 146 => 48 | 221 => 82 | 268 => 104 | 138 => 105 | 143 => 106 | 195 => 126 | 197 => 127 | 218 => 128 | 219 => 103 | 260 => 139 | 217 => 122 | 225 => 123 | 224 => 124 | 267 => 125 | 266 => 137 | 314 => 138 | n => n, fun | 9 => 9 | 31 => 82 | 3 => 3 | 4 => 4 | 0 => 0 | 105 => 169 | 21 => 21 | 5 => 5 | 46 => 75 | 119 => 183 | 139 => 186 | 138 => 185 | 146 => 180 | 51 => 176 | n => n, fun | 1 => 0 | 3 => 2 | 4 => 3 | n => n⟩
theorem Tryd.lays146 : Go.Proofs.Lays.n146 Tryd.prog Tryd.lays146_ren := {
  mixed := by kernel_rfl
  f138 := Tryd.func105.trans (congrArg some (by kernel_rfl))
  f143 := Tryd.func106.trans (congrArg some (by kernel_rfl))
  f146 := Tryd.func48.trans (congrArg some (by kernel_rfl))
  f195 := Tryd.func126.trans (congrArg some (by kernel_rfl))
  f197 := Tryd.func127.trans (congrArg some (by kernel_rfl))
  f217 := Tryd.func122.trans (congrArg some (by kernel_rfl))
  f218 := Tryd.func128.trans (congrArg some (by kernel_rfl))
  f219 := Tryd.func103.trans (congrArg some (by kernel_rfl))
  f221 := Tryd.func82.trans (congrArg some (by kernel_rfl))
  f224 := Tryd.func124.trans (congrArg some (by kernel_rfl))
  f225 := Tryd.func123.trans (congrArg some (by kernel_rfl))
  f260 := Tryd.func139.trans (congrArg some (by kernel_rfl))
  f266 := Tryd.func137.trans (congrArg some (by kernel_rfl))
  f267 := Tryd.func125.trans (congrArg some (by kernel_rfl))
  f268 := Tryd.func104.trans (congrArg some (by kernel_rfl))
  f314 := Tryd.func138.trans (congrArg some (by kernel_rfl))
  t0 := Tryd.underlying0
  a0 := Tryd.isAgg0
  z0 := Tryd.sizeOf0
  v0 := Tryd.zeroValue0
  t3 := Tryd.underlying3
  a3 := Tryd.isAgg3
  z3 := Tryd.sizeOf3
  v3 := Tryd.zeroValue3
  t4 := Tryd.underlying4
  a4 := Tryd.isAgg4
  z4 := Tryd.sizeOf4
  v4 := Tryd.zeroValue4
  t5 := Tryd.underlying5
  a5 := Tryd.isAgg5
  z5 := Tryd.sizeOf5
  v5 := Tryd.zeroValue5
  t9 := Tryd.underlying9
  a9 := Tryd.isAgg9
  z9 := Tryd.sizeOf9
  v9 := Tryd.zeroValue9
  t21 := Tryd.underlying21
  a21 := Tryd.isAgg21
  z21 := Tryd.sizeOf21
  v21 := Tryd.zeroValue21
  t31 := Tryd.underlying82
  a31 := Tryd.isAgg82
  z31 := Tryd.sizeOf82
  v31 := Tryd.zeroValue82
  t46 := Tryd.underlying75
  a46 := Tryd.isAgg75
  z46 := Tryd.sizeOf75
  v46 := Tryd.zeroValue75
  t51 := Tryd.underlying176
  a51 := Tryd.isAgg176
  z51 := Tryd.sizeOf176
  v51 := Tryd.zeroValue176
  t105 := Tryd.underlying169
  a105 := Tryd.isAgg169
  z105 := Tryd.sizeOf169
  v105 := Tryd.zeroValue169
  t119 := Tryd.underlying183
  a119 := Tryd.isAgg183
  z119 := Tryd.sizeOf183
  t138 := Tryd.underlying185
  a138 := Tryd.isAgg185
  z138 := Tryd.sizeOf185
  v138 := Tryd.zeroValue185
  t139 := Tryd.underlying186
  a139 := Tryd.isAgg186
  z139 := Tryd.sizeOf186
  v139 := Tryd.zeroValue186
  t146 := Tryd.underlying180
  a146 := Tryd.isAgg180
  z146 := Tryd.sizeOf180
  v146 := Tryd.zeroValue180
  g1 := by kernel_rfl
  g3 := by kernel_rfl
  g4 := by kernel_rfl }
open Go.RowKit Go.Lib in
theorem Tryd.strings_Split (s sep : ByteArray) (m : Int) (w : World) (hs : s.size < 4294967281) (hm : w.cell? ⟨0, 0, none⟩ = some (.int .i64 m)) (h1 : 1 ≤ sep.size) :
    Calls Tryd.prog 48 #[.string s, .string sep] w fun e w' =>
      e = .returned (.slice (some ⟨w.heap.size, 0, none⟩) (Lib.countB s sep + 1) (Lib.countB s sep + 1)) ∧ w' = w.alloc (.cells ((Lib.splitB sep 0 (Lib.countB s sep) s).map Value.string).toArray 9) := Any.strings_Split Tryd.lays146 (by kernel_rfl) s sep m w hs hm h1
end Go.Proofs
namespace Go.Proofs.YtohbafigjpoijaaDoor.Bdd
abbrev Asg := Nat → Bool
abbrev Fn := Asg → Bool
structure Node where
  v : Nat
  lo : Nat
  hi : Nat
section
variable {vars : Nat} {ns : List Node}
end
end Go.Proofs.YtohbafigjpoijaaDoor.Bdd
namespace Go.Proofs.YtohbafigjpoijaaDoor.Bdd
def Below (K : Nat) (F : Fn) : Prop := ∀ x y : Asg, (∀ u, u < K → x u = y u) → F x = F y
section
variable {vars : Nat} {ns : List Node}
end
structure St where
  vars : Nat
  most : Nat
  ns : List Node
  full : Bool
end Go.Proofs.YtohbafigjpoijaaDoor.Bdd
namespace Go.Proofs.YtohbafigjpoijaaDoor
open Go.Maps Go.RowKit Go.WideElems
section
variable {α : Type} {P : Program} {kt : TypeId} {key : α → Value} {dom : α → Prop} {w w' : World} {b : Nat} {M : α → Option Value}
end
section
variable {α : Type} {P : Program} {kt : TypeId} {key : α → Value} {dom : α → Prop} {b : Nat} {M : α → Option Value} (w : World)
end
end Go.Proofs.YtohbafigjpoijaaDoor
namespace Go.Proofs.YtohbafigjpoijaaDoor
open Bdd Go.Maps Go.RowKit
abbrev Tri := Nat × Nat × Nat
section
variable {w w' : World} {B g nb kb ib cap : Nat} {A : St} {K T : Tri → Option Value}
end
end Go.Proofs.YtohbafigjpoijaaDoor
namespace Go.Proofs.YtohbafigjpoijaaDoor
open Go.ChangeAt Go.ChangeShapes Go.RowKit Go.WideShapes
theorem ownsRow_below {w w' : World} {base e s n : Nat} {v : Value} {xs : List Value} (h : w.ownsRow base e s v n xs) (hb : Below w.heap.size w w') : w'.ownsRow base e s v n xs :=
  h.kept (row := none) ⟨hb.os, hb.tape, hb.output, hb.size, fun k hk _ => hb.block k hk⟩ (by cases hv : v.ownBlock <;> simp)
section
variable {H : Type} {enc : TypeId × Value → H} {w : World} {base : Nat} {spare : Nat → Bool} {held : Bool} {r : Reach} {b0 : Nat}
end
end Go.Proofs.YtohbafigjpoijaaDoor
namespace Go.Proofs.YtohbafigjpoijaaDoor
open Bdd Go.Maps Go.RowKit
def partBox (s d p q : Nat) : Array Value := #[.int .u16 s, .int .i64 4, .int .i64 0, .int .u16 p, .int .i64 3, .int .i64 8, .int .u16 d, .int .i64 4, .int .i64 4, .int .u16 q, .int .i64 3, .int .i64 11]
theorem parts_walk (w : World) (s d p q : Nat) (hs : s < 65536) (hd : d < 65536) (hp : p < 256) (hq : q < 256) :
    Calls Tryd.prog 49 #[.agg #[.int .u16 s, .int .u16 d, .int .u8 p, .int .u8 q]] w fun e W' => e = .returned (.slice (some ⟨w.heap.size + 1, 0, none⟩) 4 4) ∧ ∃ o0, W' = (w.alloc o0).alloc (.cells (partBox s d p q) 90) := by
  go_enter Tryd.func49, Tryd.ntmps49
  go_wp2
  go_ret
  exact ⟨rfl, _, rfl⟩
structure PartV where
  set : Nat
  bits : Nat
  first : Nat
def partL (s d p q : Nat) : List PartV := [⟨s, 4, 0⟩, ⟨p, 3, 8⟩, ⟨d, 4, 4⟩, ⟨q, 3, 11⟩]
theorem part_get (s d p q k : Nat) (hs : s < 65536) (hd : d < 65536) (hp : p < 256) (hq : q < 256) (hk : k < 4) : ∃ x : PartV, (partL s d p q)[k]? = some x ∧ x.set < 65536 ∧ x.bits ≤ 4 ∧ x.first + x.bits ≤ 14 ∧
    (partBox s d p q)[k * 3]? = some (.int .u16 x.set) ∧ (partBox s d p q)[k * 3 + 1]? = some (.int .i64 x.bits) ∧ (partBox s d p q)[k * 3 + 2]? = some (.int .i64 x.first) := by
  match k, hk with
  | 0, _ => exact ⟨_, rfl, hs, (by show 4 ≤ 4; omega), (by show 0 + 4 ≤ 14; omega), rfl, rfl, rfl⟩
  | 1, _ => exact ⟨_, rfl, (by show p < _; omega), (by show 3 ≤ 4; omega), (by show 8 + 3 ≤ 14; omega), rfl, rfl, rfl⟩
  | 2, _ => exact ⟨_, rfl, hd, (by show 4 ≤ 4; omega), (by show 4 + 4 ≤ 14; omega), rfl, rfl, rfl⟩
  | 3, _ => exact ⟨_, rfl, (by show q < _; omega), (by show 3 ≤ 4; omega), (by show 11 + 3 ≤ 14; omega), rfl, rfl, rfl⟩
theorem wrap_pow (v : Nat) (h : v ≤ 16) : wrap64 ((2 : Int) ^ v) = 2 ^ v := by
  have : ∀ i : Fin 17, wrap64 ((2 : Int) ^ i.val) = 2 ^ i.val := by decide +kernel
  exact this ⟨v, by omega⟩
end Go.Proofs.YtohbafigjpoijaaDoor
namespace Go.Proofs.YtohbafigjpoijaaDoor
open Go.RowKit
theorem has_bit (set n : Nat) : (((set : Int) / 2 ^ n).tmod 2 == 1) = set.testBit n := by
  rw [div_pow_cast]
  have h := testBit_div set n
  rw [Nat.and_one_is_mod] at h
  rw [← h]
  have e : ((set / 2 ^ n : Nat) : Int).tmod 2 = ((set / 2 ^ n % 2 : Nat) : Int) := by
    generalize set / 2 ^ n = m
    rw [Int.tmod_eq_emod_of_nonneg (by omega)]; omega
  rw [e]
  rcases Nat.mod_two_eq_zero_or_one (set / 2 ^ n) with h0 | h0 <;> rw [h0] <;> rfl
theorem has_walk (w : World) (set n : Nat) (hs : set < 65536) (hn : n < 16) (B : Bool) (hB : set.testBit n = B) :
    Calls Tryd.prog 54 #[.int .i64 set, .int .i64 n] w fun e W' => e = .returned (.bool B) ∧ w = W' := by
  have h1 : inR n 0 15 = true := by simp [inR]; omega
  have hb := hide ((has_bit set n).trans hB)
  clear hB
  go_enter Tryd.func54, Tryd.ntmps54
  go_wp2_with fail
  refine (inR_walk _ _ _ _).mono ?_
  rintro e w' ⟨rfl, rfl⟩
  rw [h1]
  go_wp2
  go_ret
  refine ⟨?_, rfl⟩
  rw [← hb.out]; rfl
open Bdd
theorem tb (c i : Nat) : c.testBit i = decide (c / 2 ^ i % 2 = 1) := Nat.testBit_eq_decide_div_mod_eq
open Go.Maps
end Go.Proofs.YtohbafigjpoijaaDoor
namespace Go.Proofs.YtohbafigjpoijaaDoor
open Go.RowKit
def MaxAt (w : World) : Prop := 0 < w.heap.size ∧ ∃ m : Int, w.cell? ⟨0, 0, none⟩ = some (.int .i64 m)
theorem MaxAt.below {w w' : World} (h : MaxAt w) (hb : Below w.heap.size w w') : MaxAt w' :=
  ⟨Nat.lt_of_lt_of_le h.1 hb.size, h.2.imp fun m e => (hb.cell (p := ⟨_, 0, none⟩) h.1).trans e⟩
theorem below_drewN (w : World) (n : Nat) : Below w.heap.size w (w.drewN n) := ⟨rfl, rfl, rfl, Nat.le_refl _, fun _ _ => rfl⟩
theorem cut_walk (s : ByteArray) (b : UInt8) (w : World) (hs : s.size ≤ 1048576) (hm : MaxAt w) :
    Calls Tryd.prog 44 #[.string s, .string ⟨#[b]⟩] w fun e w' => e = .returned (.tuple #[strV (cutB b s.data.toList).1, strV (cutB b s.data.toList).2, .bool (decide (b ∈ s.data.toList))]) ∧ Below w.heap.size w w' := by
  obtain ⟨_, m, hm⟩ := hm
  refine (Tryd.strings_Cut s ⟨#[b]⟩ m w (by omega) hm).mono ?_
  rintro e w' ⟨rfl, n, rfl⟩
  have : (⟨#[b]⟩ : ByteArray).data.toList = [b] := rfl
  rw [this, cut_one]
  exact ⟨rfl, below_drewN w n⟩
theorem add_run (x y : List UInt8) (hx : x.length ≤ 1000000) (hy : y.length ≤ 1000000) (w : World) : (Op.stringOp .add ⟨x.toArray⟩ ⟨y.toArray⟩).run Tryd.prog w = .ok (.string ⟨(x ++ y).toArray⟩) w :=
  run_string_add_lists w x y (by omega) (by omega)
theorem dec_len2 {u : Nat} (h : u < 100) : (Lib.decDigits u).length ≤ 2 := dec_len u 1 (by omega)
theorem num_walk (x : List UInt8) (most : Int) (w : World) : Calls Tryd.prog 81 #[.string ⟨x.toArray⟩, .int .i64 most] w fun e w' => e = .returned (.int .i64 (numF x most)) ∧ w = w' := number_walk ⟨x.toArray⟩ most w
theorem heap_lt {w : World} {b : Nat} {o : Obj} (h : w.heap[b]? = some o) : b < w.heap.size := (Array.getElem?_eq_some_iff.1 h).1
theorem cells4f {w : World} {b : Nat} {x0 x1 x2 x3 : Value} {t : TypeId} (h : w.heap[b]? = some (.cells #[x0, x1, x2, x3] t)) :
    w.cell? ⟨b, 0, none⟩ = some x0 ∧ w.cell? ⟨b, 1, none⟩ = some x1 ∧ w.cell? ⟨b, 2, none⟩ = some x2 ∧ w.cell? ⟨b, 3, none⟩ = some x3 ∧
    w.frozen? ⟨b, 0, none⟩ = false ∧ w.frozen? ⟨b, 1, none⟩ = false ∧ w.frozen? ⟨b, 2, none⟩ = false ∧ w.frozen? ⟨b, 3, none⟩ = false :=
  ⟨by rw [cell_of_row _ _ _ _ _ _ h]; rfl, by rw [cell_of_row _ _ _ _ _ _ h]; rfl, by rw [cell_of_row _ _ _ _ _ _ h]; rfl, by rw [cell_of_row _ _ _ _ _ _ h]; rfl,
    frozen_of_row _ _ _ _ _ h, frozen_of_row _ _ _ _ _ h, frozen_of_row _ _ _ _ _ h, frozen_of_row _ _ _ _ _ h⟩
structure StrsAt (w : World) (base g n cap : Nat) (ps : List (List UInt8)) : Prop where
  own : w.ownsRow base 9 1 (.slice (some ⟨g, 0, none⟩) n cap) n (ps.map strV)
  len : ps.length = n
theorem StrsAt.lt {w : World} {base g n cap : Nat} {ps : List (List UInt8)} (h : StrsAt w base g n cap ps) : base ≤ g ∧ g < w.heap.size := h.own.lt g rfl
theorem StrsAt.get {w : World} {base g n cap : Nat} {ps : List (List UInt8)} (h : StrsAt w base g n cap ps) {k : Nat} {x : List UInt8} (hx : ps[k]? = some x) : w.cell? ⟨g, k, none⟩ = some (.string ⟨x.toArray⟩) := by
  have hk : k < n := by rw [← h.len]; exact (List.getElem?_eq_some_iff.1 hx).1
  rw [h.own.cellAt k (by omega), List.getElem?_map, hx]; rfl
theorem StrsAt.below {w w' : World} {base g n cap : Nat} {ps : List (List UInt8)} (h : StrsAt w base g n cap ps) (hb : Below w.heap.size w w') : StrsAt w' base g n cap ps :=
  ⟨Go.Proofs.YtohbafigjpoijaaDoor.ownsRow_below h.own hb, h.len⟩
theorem pieces_own (l : List UInt8) (b : UInt8) (w : World) (hs : l.length ≤ 1048576) :
    Calls Tryd.prog 46 #[.string ⟨l.toArray⟩, .int .u8 (b.toNat : Int)] w fun e w' =>
      ∃ g cap, e = .returned (.slice (some ⟨g, 0, none⟩) (pieces b l).length cap) ∧ StrsAt w' w.heap.size g (pieces b l).length cap (pieces b l) ∧ Below w.heap.size w w' := by
  refine (pieces_walk ⟨l.toArray⟩ b w (by rw [← sz_list]; simpa using hs)).mono ?_
  rintro e w' ⟨v, rfl, ho, hb⟩
  obtain ⟨g, cap, rfl, _⟩ := ho.form (pieces_pos b _)
  exact ⟨g, cap, rfl, ⟨ho, rfl⟩, hb⟩
end Go.Proofs.YtohbafigjpoijaaDoor
