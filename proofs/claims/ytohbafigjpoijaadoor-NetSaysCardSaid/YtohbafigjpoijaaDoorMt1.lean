/- A match's text, plainly: rows of numbers, words, reading. -/
import Derived.Test.YtohbafigjpoijaaDoorSt3
import Derived.Lib.CountLaws
import Derived.Lib.Split
import Derived.Lib.Join
set_option linter.unusedVariables false
set_option linter.unusedSimpArgs false
set_option maxRecDepth 100000
namespace Go.Proofs.YtohbafigjpoijaaDoor
open Go.RowKit

theorem split_pieces (b : UInt8) (l : List UInt8) : Lib.splitK [b] 0 (Lib.count l [b]) l = pieces b l := by
  by_cases h : b ∈ l
  · obtain ⟨u, v, rfl, hu⟩ := split_first h
    have hi := (index_one b (u ++ b :: v)).2 u v rfl hu
    have hd : (u ++ b :: v).drop (u.length + [b].length) = v := by simp
    rw [Lib.count_hit (by simp) hi, hd, Nat.add_comm, Lib.splitK, hi, if_neg (by simp), show ((u.length : Int)).toNat = u.length from rfl, hd, split_pieces b v, pieces_cut b u v hu]
    simp
  · rw [Lib.count_miss ((index_one b l).1 h), pieces_eq b l h]; rfl
termination_by l.length
decreasing_by simp [*]; omega

/-- Texts with a text between. -/
def joinF (sep : List UInt8) : List (List UInt8) → List UInt8
  | [] => []
  | [x] => x
  | x :: y :: r => x ++ sep ++ joinF sep (y :: r)
theorem join_lib (sep : List UInt8) : ∀ xs, Lib.join xs sep = joinF sep xs
  | [] => rfl
  | [x] => by simp [Lib.join, joinF, List.intercalate]
  | x :: y :: r => by
    have := join_lib sep (y :: r)
    simp only [Lib.join, joinF, List.intercalate, List.intersperse_cons_cons, List.flatten_cons] at this ⊢
    rw [this, List.append_assoc]
theorem join_snoc (sep : List UInt8) : ∀ (xs : List (List UInt8)) (x : List UInt8), xs ≠ [] → joinF sep (xs ++ [x]) = joinF sep xs ++ sep ++ x
  | [y], x, _ => rfl
  | y :: z :: r, x, _ => by
    have := join_snoc sep (z :: r) x (by simp)
    simp only [List.cons_append, joinF] at this ⊢
    rw [this]; simp
theorem pieces_join (b : UInt8) : ∀ (xs : List (List UInt8)), xs ≠ [] → (∀ x ∈ xs, b ∉ x) → pieces b (joinF [b] xs) = xs
  | [x], _, h => by rw [joinF, pieces_eq b x (h x (by simp))]
  | x :: y :: r, _, h => by
    have ih := pieces_join b (y :: r) (by simp) (fun z hz => h z (by simp at hz ⊢; rcases hz with h | h; exact .inr (.inl h); exact .inr (.inr h)))
    rw [joinF, List.append_assoc, List.singleton_append, pieces_cut b x _ (h x (by simp)), ih]
theorem join_len (sep : List UInt8) (k : Nat) : ∀ (xs : List (List UInt8)), (∀ x ∈ xs, x.length ≤ k) → (joinF sep xs).length ≤ (k + sep.length) * xs.length
  | [], _ => by simp [joinF]
  | [x], h => by have := h x (by simp); simp [joinF]; omega
  | x :: y :: r, h => by
    have ih := join_len sep k (y :: r) (fun z hz => h z (by simp at hz ⊢; rcases hz with h | h; exact .inr (.inl h); exact .inr (.inr h)))
    have := h x (by simp)
    simp only [joinF, List.length_append, List.length_cons, Nat.mul_succ] at ih ⊢
    omega
theorem join_mem {sep : List UInt8} {c : UInt8} : ∀ {xs : List (List UInt8)}, c ∈ joinF sep xs → c ∈ sep ∨ ∃ x ∈ xs, c ∈ x
  | [], h => by simp [joinF] at h
  | [x], h => .inr ⟨x, by simp, h⟩
  | x :: y :: r, h => by
    simp only [joinF, List.mem_append] at h
    rcases h with (h | h) | h
    · exact .inr ⟨x, by simp, h⟩
    · exact .inl h
    · rcases join_mem h with h | ⟨z, hz, h⟩
      · exact .inl h
      · exact .inr ⟨z, by simp at hz ⊢; rcases hz with h | h; exact .inr (.inl h); exact .inr (.inr h), h⟩

/-! ### rows -/
/-- The first number from n on that is not in a set, or the most. -/
def stopAt (S : Nat → Bool) (most n : Nat) : Nat := if h : n < most ∧ S n = true then stopAt S most (n + 1) else n
termination_by most - n
theorem stop_no {S : Nat → Bool} {most n : Nat} (h : ¬ (n < most ∧ S n = true)) : stopAt S most n = n := by rw [stopAt, dif_neg h]
theorem stop_yes {S : Nat → Bool} {most n : Nat} (h : n < most ∧ S n = true) : stopAt S most n = stopAt S most (n + 1) := by rw [stopAt, dif_pos h]
theorem stop_ge (S : Nat → Bool) (most n : Nat) : n ≤ stopAt S most n := by
  by_cases h : n < most ∧ S n = true
  · rw [stop_yes h]; have := stop_ge S most (n + 1); omega
  · rw [stop_no h]; exact Nat.le_refl _
termination_by most - n
theorem stop_le (S : Nat → Bool) (most n : Nat) (hn : n ≤ most) : stopAt S most n ≤ most := by
  by_cases h : n < most ∧ S n = true
  · rw [stop_yes h]; exact stop_le S most (n + 1) (by omega)
  · rw [stop_no h]; exact hn
termination_by most - n
theorem stop_in (S : Nat → Bool) (most n i : Nat) (h1 : n ≤ i) (h2 : i < stopAt S most n) : S i = true := by
  by_cases h : n < most ∧ S n = true
  · rw [stop_yes h] at h2
    by_cases e : i = n
    · rw [e]; exact h.2
    · exact stop_in S most (n + 1) i (by omega) h2
  · rw [stop_no h] at h2; omega
termination_by most - n
theorem stop_end (S : Nat → Bool) (most n : Nat) (h : stopAt S most n < most) : S (stopAt S most n) = false := by
  by_cases hh : n < most ∧ S n = true
  · rw [stop_yes hh] at h ⊢; exact stop_end S most (n + 1) h
  · rw [stop_no hh] at h ⊢
    cases e : S n with
    | false => rfl
    | true => exact absurd ⟨h, e⟩ hh
termination_by most - n

/-- The rows of numbers that follow one another, from n on. -/
def rowsF (S : Nat → Bool) (most n : Nat) : List (Nat × Nat) :=
  if h : n < most then (if n < stopAt S most n then [(n, stopAt S most n - 1)] else []) ++ rowsF S most (stopAt S most n + 1) else []
termination_by most - n
decreasing_by have := stop_ge S most n; omega
theorem rows_done {S : Nat → Bool} {most n : Nat} (h : ¬ n < most) : rowsF S most n = [] := by rw [rowsF, dif_neg h]
theorem rows_step {S : Nat → Bool} {most n : Nat} (h : n < most) : rowsF S most n = (if n < stopAt S most n then [(n, stopAt S most n - 1)] else []) ++ rowsF S most (stopAt S most n + 1) := by rw [rowsF, dif_pos h]
theorem rows_not {S : Nat → Bool} {most n : Nat} (h : S n = false) : rowsF S most n = rowsF S most (n + 1) := by
  by_cases hn : n < most
  · rw [rows_step hn, stop_no (by simp [h]), if_neg (Nat.lt_irrefl _)]; rfl
  · rw [rows_done hn, rows_done (by omega)]
/-- The document's way: at each number that opens a row. -/
def refRows (S : Nat → Bool) (most n : Nat) : List (Nat × Nat) :=
  if h : n < most then (if S n = true ∧ ¬ (0 < n ∧ S (n - 1) = true) then [(n, stopAt S most n - 1)] else []) ++ refRows S most (n + 1) else []
termination_by most - n
theorem ref_done {S : Nat → Bool} {most n : Nat} (h : ¬ n < most) : refRows S most n = [] := by rw [refRows, dif_neg h]
theorem ref_step {S : Nat → Bool} {most n : Nat} (h : n < most) : refRows S most n = (if S n = true ∧ ¬ (0 < n ∧ S (n - 1) = true) then [(n, stopAt S most n - 1)] else []) ++ refRows S most (n + 1) := by rw [refRows, dif_pos h]
/-- Inside a row nothing is told. -/
theorem ref_skip {S : Nat → Bool} {most : Nat} (k : Nat) : ∀ n, 0 < n → S (n - 1) = true → (∀ i, n ≤ i → i < n + k → S i = true) → refRows S most n = refRows S most (n + k) := by
  induction k with
  | zero => intros; rfl
  | succ k ih =>
    intro n h0 hp hall
    by_cases hn : n < most
    · rw [ref_step hn, if_neg (by simp [h0, hp]), List.nil_append, ih (n + 1) (by omega) (by simpa using hall n (Nat.le_refl _) (by omega)) (fun i h1 h2 => hall i (by omega) (by omega))]
      congr 1; omega
    · rw [ref_done hn, ref_done (by omega)]
theorem ref_rows (S : Nat → Bool) (most n : Nat) (h : n = 0 ∨ S (n - 1) = false) : refRows S most n = rowsF S most n := by
  by_cases hn : n < most
  · cases hS : S n with
    | false =>
      rw [ref_step hn, if_neg (by simp [hS]), rows_not hS, List.nil_append]
      exact ref_rows S most (n + 1) (.inr (by simpa using hS))
    | true =>
      have hgt : n < stopAt S most n := by rw [stop_yes ⟨hn, hS⟩]; have := stop_ge S most (n + 1); omega
      have hle := stop_le S most n (Nat.le_of_lt hn)
      rw [ref_step hn, if_pos ⟨hS, by rcases h with h | h <;> simp [h]⟩, rows_step hn, if_pos hgt]
      congr 1
      have hk := ref_skip (S := S) (most := most) (stopAt S most n - (n + 1)) (n + 1) (by omega) (by simpa using hS) (fun i h1 h2 => stop_in S most n i (by omega) (by omega))
      rw [hk, show n + 1 + (stopAt S most n - (n + 1)) = stopAt S most n by omega]
      by_cases he : stopAt S most n < most
      · have hE := stop_end S most n he
        rw [ref_step he, if_neg (by simp [hE]), List.nil_append]
        exact ref_rows S most (stopAt S most n + 1) (.inr (by simpa using hE))
      · rw [ref_done he, rows_done (by omega)]
  · rw [ref_done hn, rows_done hn]
termination_by most - n
decreasing_by all_goals omega
theorem rows_len (S : Nat → Bool) (most n : Nat) : (rowsF S most n).length ≤ most - n := by
  by_cases hn : n < most
  · have := stop_ge S most n
    have ih := rows_len S most (stopAt S most n + 1)
    rw [rows_step hn]
    split <;> simp <;> omega
  · rw [rows_done hn]; simp
termination_by most - n
decreasing_by have := stop_ge S most n; omega
theorem rows_mem (S : Nat → Bool) (most n : Nat) : ∀ r ∈ rowsF S most n, n ≤ r.1 ∧ r.1 ≤ r.2 ∧ r.2 < most ∧ ∀ i, r.1 ≤ i → i ≤ r.2 → S i = true := by
  by_cases hn : n < most
  · have h0 := stop_ge S most n
    have h1 := stop_le S most n (Nat.le_of_lt hn)
    have ih := rows_mem S most (stopAt S most n + 1)
    rw [rows_step hn]
    intro r hr
    rcases List.mem_append.1 hr with hr | hr
    · split at hr
      · rw [List.mem_singleton.1 hr]
        exact ⟨Nat.le_refl _, by simp; omega, by simp; omega, fun i a b => stop_in S most n i a (by simp at b; omega)⟩
      · simp at hr
    · have := ih r hr
      exact ⟨by omega, this.2⟩
  · rw [rows_done hn]; simp
termination_by most - n
decreasing_by have := stop_ge S most n; omega
theorem rows_all (S : Nat → Bool) (most n i : Nat) (h1 : n ≤ i) (h2 : i < most) (hS : S i = true) : ∃ r ∈ rowsF S most n, r.1 ≤ i ∧ i ≤ r.2 := by
  have h0 := stop_ge S most n
  rw [rows_step (by omega)]
  by_cases he : i < stopAt S most n
  · exact ⟨(n, stopAt S most n - 1), by rw [if_pos (by omega)]; simp, by simpa using h1, by simp; omega⟩
  · have hle : stopAt S most n + 1 ≤ i := by
      rcases Nat.lt_or_ge (stopAt S most n) i with h | h
      · omega
      · have e : stopAt S most n = i := by omega
        have := stop_end S most n (by omega)
        rw [e, hS] at this; cases this
    obtain ⟨r, hr, h⟩ := rows_all S most (stopAt S most n + 1) i hle h2 hS
    exact ⟨r, List.mem_append_right _ hr, h⟩
termination_by most - n
decreasing_by have := stop_ge S most n; omega

/-! ### words -/
def rowT (r : Nat × Nat) : List UInt8 := if r.1 < r.2 then Lib.decDigits r.1 ++ 45 :: Lib.decDigits r.2 else Lib.decDigits r.1
theorem rowT_len {r : Nat × Nat} (h1 : r.1 < 100) (h2 : r.2 < 100) : (rowT r).length ≤ 5 := by
  have := dec_len r.1 1 (by omega)
  have := dec_len r.2 1 (by omega)
  unfold rowT; split <;> simp <;> omega
theorem rowT_mem {r : Nat × Nat} {c : UInt8} (h : c ∈ rowT r) : isDig c = true ∨ c = 45 := by
  unfold rowT at h
  split at h
  · rcases List.mem_append.1 h with h | h
    · exact .inl ((dec_all _).1 c h)
    · rcases List.mem_cons.1 h with h | h
      · exact .inr h
      · exact .inl ((dec_all _).1 c h)
  · exact .inl ((dec_all _).1 c h)
def wordF (set most : Nat) : List UInt8 := if set = 0 then [45] else if set = 2 ^ most - 1 then [42] else joinF [44] ((rowsF set.testBit most 0).map rowT)
/-- A row, read. -/
def rowOf (most : Nat) (l : List UInt8) : Option (Nat × Nat) :=
  let lo := numF (cutB 45 l).1 most
  let hi := numF (if 45 ∈ l then (cutB 45 l).2 else (cutB 45 l).1) most
  if lo < 0 ∨ hi < lo then none else some (lo.toNat, hi.toNat)
def maskF (set : Nat) (xs : List Nat) : Nat := xs.foldl (fun s n => s ||| 2 ^ n) set
def readRowsF (most : Nat) : Nat → List (List UInt8) → Option Nat
  | set, [] => some set
  | set, l :: r => match rowOf most l with
    | none => none
    | some (lo, hi) => readRowsF most (maskF set (List.range' lo (hi + 1 - lo))) r
def readF (l : List UInt8) (most : Nat) : Option Nat := if l = [42] then some (2 ^ most - 1) else if l = [45] then some 0 else readRowsF most 0 (pieces 44 l)
theorem mask_bit : ∀ (xs : List Nat) (set i : Nat), (maskF set xs).testBit i = (set.testBit i || decide (i ∈ xs))
  | [], set, i => by simp [maskF]
  | x :: xs, set, i => by
    have := mask_bit xs (set ||| 2 ^ x) i
    simp only [maskF, List.foldl_cons] at this ⊢
    rw [this, Nat.testBit_or, Nat.testBit_two_pow]
    by_cases e : x = i
    · subst e; simp
    · simp [e, Ne.symm e, Bool.or_assoc]
theorem rowOf_T {most : Nat} {r : Nat × Nat} (h1 : r.1 ≤ r.2) (h2 : r.2 < most) (hm : most ≤ 10000) : rowOf most (rowT r) = some r := by
  obtain ⟨a, b⟩ := r
  simp only at h1 h2
  unfold rowT
  simp only
  split
  · rename_i hab
    have hmem : (45 : UInt8) ∈ Lib.decDigits a ++ 45 :: Lib.decDigits b := by simp
    simp only [rowOf, if_pos hmem, cutB_at 45 _ _ (not_dec a 45 (by decide))]
    rw [num_dec a most (by omega) (by omega), num_dec b most (by omega) (by omega), if_neg (by omega)]
    simp
  · have e : a = b := by omega
    subst e
    have hn := not_dec a 45 (by decide)
    simp only [rowOf, if_neg hn, cutB_not 45 _ hn]
    rw [num_dec a most (by omega) (by omega), if_neg (by omega)]
    simp
theorem read_rows {most : Nat} (hm : most ≤ 10000) : ∀ (rs : List (Nat × Nat)) (set : Nat), (∀ r ∈ rs, r.1 ≤ r.2 ∧ r.2 < most) → ∃ out, readRowsF most set (rs.map rowT) = some out ∧ ∀ i, out.testBit i = (set.testBit i || decide (∃ r ∈ rs, r.1 ≤ i ∧ i ≤ r.2))
  | [], set, _ => ⟨set, rfl, fun i => by simp⟩
  | r :: rs, set, h => by
    have h0 := h r (by simp)
    obtain ⟨out, ho, hb⟩ := read_rows hm rs (maskF set (List.range' r.1 (r.2 + 1 - r.1))) (fun x hx => h x (by simp [hx]))
    refine ⟨out, by rw [List.map_cons, readRowsF, rowOf_T h0.1 h0.2 hm]; exact ho, fun i => ?_⟩
    rw [hb i, mask_bit, Bool.or_assoc]
    congr 1
    rw [← Bool.decide_or]
    congr 1
    simp only [List.mem_range'_1, List.mem_cons, exists_eq_or_imp, eq_iff_iff]
    constructor
    · rintro (h | h)
      · exact .inl ⟨h.1, by omega⟩
      · exact .inr h
    · rintro (h | h)
      · exact .inl ⟨h.1, by omega⟩
      · exact .inr h

theorem join_head {sep x : List UInt8} {xs : List (List UInt8)} (h : x ≠ []) : (joinF sep (x :: xs)).head? = x.head? := by
  obtain ⟨a, r, rfl⟩ := List.exists_cons_of_ne_nil h
  cases xs <;> simp [joinF]
theorem rowT_head (r : Nat × Nat) : ∃ c, (rowT r).head? = some c ∧ isDig c = true := by
  obtain ⟨c, l, e⟩ := List.exists_cons_of_ne_nil (dec_all r.1).2.2.1
  refine ⟨c, ?_, (dec_all r.1).1 c (by rw [e]; simp)⟩
  unfold rowT; rw [e]; split <;> rfl
/-- What a word tells is what it was made of. -/
theorem read_word {set most : Nat} (hm : most ≤ 100) (hs : set < 2 ^ most) (h0 : 0 < most) : readF (wordF set most) most = some set := by
  unfold wordF
  split
  · rename_i e; rw [e]; simp [readF]
  · rename_i hne
    split
    · rename_i e; rw [e]; simp [readF]
    · rename_i hnf
      have hmem := rows_mem set.testBit most 0
      have hrows : rowsF set.testBit most 0 ≠ [] := by
        intro e
        have : set = 0 := by
          apply Nat.eq_of_testBit_eq
          intro i
          rw [Nat.zero_testBit]
          cases hb : set.testBit i with
          | false => rfl
          | true =>
            have hi : i < most := by
              rcases Nat.lt_or_ge i most with h | h
              · exact h
              · rw [Nat.testBit_lt_two_pow (Nat.lt_of_lt_of_le hs (Nat.pow_le_pow_right (by decide) h))] at hb; cases hb
            obtain ⟨r, hr, _⟩ := rows_all set.testBit most 0 i (Nat.zero_le _) hi hb
            rw [e] at hr; simp at hr
        exact hne this
      obtain ⟨r0, rs, e0⟩ := List.exists_cons_of_ne_nil hrows
      obtain ⟨c, hc, hcd⟩ := rowT_head r0
      have hne0 : rowT r0 ≠ [] := fun e => by rw [e] at hc; simp at hc
      have hhead : (joinF [44] ((rowsF set.testBit most 0).map rowT)).head? = some c := by
        rw [e0, List.map_cons, join_head hne0, hc]
      have hn1 : joinF [44] ((rowsF set.testBit most 0).map rowT) ≠ [42] := fun e => by
        rw [e] at hhead; simp at hhead; rw [← hhead] at hcd; simp [isDig] at hcd
      have hn2 : joinF [44] ((rowsF set.testBit most 0).map rowT) ≠ [45] := fun e => by
        rw [e] at hhead; simp at hhead; rw [← hhead] at hcd; simp [isDig] at hcd
      rw [readF, if_neg hn1, if_neg hn2, pieces_join 44 _ (by simpa using hrows) (fun x hx hb => by
        obtain ⟨r, _, rfl⟩ := List.mem_map.1 hx
        rcases rowT_mem hb with h | h
        · simp [isDig] at h
        · simp at h)]
      obtain ⟨out, ho, hb⟩ := read_rows (by omega) (rowsF set.testBit most 0) 0 (fun r hr => ⟨(hmem r hr).2.1, (hmem r hr).2.2.1⟩)
      rw [ho]
      congr 1
      apply Nat.eq_of_testBit_eq
      intro i
      rw [hb i, Nat.zero_testBit, Bool.false_or]
      cases hS : set.testBit i with
      | true =>
        have hi : i < most := by
          rcases Nat.lt_or_ge i most with h | h
          · exact h
          · rw [Nat.testBit_lt_two_pow (Nat.lt_of_lt_of_le hs (Nat.pow_le_pow_right (by decide) h))] at hS; cases hS
        exact decide_eq_true (rows_all set.testBit most 0 i (Nat.zero_le _) hi hS)
      | false =>
        refine decide_eq_false ?_
        rintro ⟨r, hr, a, b⟩
        have := (hmem r hr).2.2.2 i a b
        rw [this] at hS; cases hS
theorem word_len {set most : Nat} (hm : most ≤ 100) (h0 : 0 < most) : (wordF set most).length ≤ 6 * most := by
  unfold wordF
  split
  · simp; omega
  · split
    · simp; omega
    · have h1 := join_len [44] 5 ((rowsF set.testBit most 0).map rowT) (fun x hx => by
        obtain ⟨r, hr, rfl⟩ := List.mem_map.1 hx
        have := rows_mem set.testBit most 0 r hr
        exact rowT_len (by omega) (by omega))
      have h2 := rows_len set.testBit most 0
      simp only [List.length_map, List.length_cons, List.length_nil] at h1
      omega
theorem word_mem {set most : Nat} {c : UInt8} (h : c ∈ wordF set most) : isDig c = true ∨ c = 45 ∨ c = 42 ∨ c = 44 := by
  unfold wordF at h
  split at h
  · exact .inr (.inl (List.mem_singleton.1 h))
  · split at h
    · exact .inr (.inr (.inl (List.mem_singleton.1 h)))
    · rcases join_mem h with h | ⟨x, hx, h⟩
      · exact .inr (.inr (.inr (List.mem_singleton.1 h)))
      · obtain ⟨r, hr, rfl⟩ := List.mem_map.1 hx
        rcases rowT_mem h with h | h
        · exact .inl h
        · exact .inr (.inl h)
/-- A match's text. -/
def matchT (m : M4) : List UInt8 := wordF m.src 16 ++ 32 :: (wordF m.sport 8 ++ 32 :: (wordF m.dst 16 ++ 32 :: wordF m.dport 8))
theorem matchT_join (m : M4) : matchT m = joinF [32] [wordF m.src 16, wordF m.sport 8, wordF m.dst 16, wordF m.dport 8] := by simp [matchT, joinF]
theorem matchT_len (m : M4) : (matchT m).length ≤ 291 := by
  have h1 := word_len (set := m.src) (most := 16) (by omega) (by omega)
  have h2 := word_len (set := m.sport) (most := 8) (by omega) (by omega)
  have h3 := word_len (set := m.dst) (most := 16) (by omega) (by omega)
  have h4 := word_len (set := m.dport) (most := 8) (by omega) (by omega)
  simp [matchT]; omega
/-- What a text tells of a match; the number of an error. -/
def parseM (l : List UInt8) : M4 × Int :=
  if 300 < l.length then (⟨0, 0, 0, 0⟩, 2) else
  match pieces 32 l with
  | [a, b, c, d] => match readF a 16, readF b 8, readF c 16, readF d 8 with
    | some x, some y, some z, some u => (⟨x, z, y, u⟩, 0)
    | _, _, _, _ => (⟨0, 0, 0, 0⟩, 3)
  | _ => (⟨0, 0, 0, 0⟩, 3)
theorem parse_match {m : M4} (h : m.ok) : parseM (matchT m) = (m, 0) := by
  obtain ⟨h1, h2, h3, h4⟩ := h
  have hl := matchT_len m
  rw [parseM, if_neg (by omega), matchT_join, pieces_join 32 _ (by simp) (fun x hx hb => by
    simp only [List.mem_cons, List.not_mem_nil, or_false] at hx
    rcases hx with rfl | rfl | rfl | rfl <;> (rcases word_mem hb with h | h | h | h <;> simp [isDig] at h))]
  simp only [read_word (set := m.src) (most := 16) (by omega) h1 (by omega), read_word (set := m.sport) (most := 8) (by omega) h3 (by omega), read_word (set := m.dst) (most := 16) (by omega) h2 (by omega), read_word (set := m.dport) (most := 8) (by omega) h4 (by omega)]
theorem read_lt {l : List UInt8} {most : Nat} {x : Nat} (hm : 0 < most) (h : readF l most = some x) : x < 2 ^ most := by
  have hp : 0 < 2 ^ most := Nat.two_pow_pos most
  unfold readF at h
  split at h
  · cases h; omega
  · split at h
    · cases h; exact hp
    · have key : ∀ (rs : List (List UInt8)) (set : Nat), set < 2 ^ most → ∀ x, readRowsF most set rs = some x → x < 2 ^ most := by
        intro rs
        induction rs with
        | nil => intro set hs x hx; cases hx; exact hs
        | cons r rs ih =>
          intro set hs x hx
          unfold readRowsF at hx
          split at hx
          · cases hx
          · rename_i lo hi hr
            refine ih _ ?_ x hx
            have hhi : hi < most := by
              obtain ⟨q, hq⟩ : ∃ q, (if 45 ∈ r then (cutB 45 r).2 else (cutB 45 r).1) = q := ⟨_, rfl⟩
              simp only [rowOf, hq] at hr
              split at hr
              · cases hr
              · simp only [Option.some.injEq, Prod.mk.injEq] at hr
                have := numF_lt q most (by omega)
                omega
            apply Nat.lt_pow_two_of_testBit
            intro i hi'
            rw [mask_bit, Nat.testBit_lt_two_pow (Nat.lt_of_lt_of_le hs (Nat.pow_le_pow_right (by decide) hi')), Bool.false_or]
            exact decide_eq_false (by simp only [List.mem_range'_1]; omega)
      exact key _ 0 hp x h
theorem parseM_ok {l : List UInt8} : (parseM l).1.ok := by
  unfold parseM
  split
  · exact ⟨by decide, by decide, by decide, by decide⟩
  · split
    · split
      · rename_i h1 h2 h3 h4
        exact ⟨read_lt (most := 16) (by decide) h1, read_lt (most := 16) (by decide) h3, read_lt (most := 8) (by decide) h2, read_lt (most := 8) (by decide) h4⟩
      · exact ⟨by decide, by decide, by decide, by decide⟩
    · exact ⟨by decide, by decide, by decide, by decide⟩
end Go.Proofs.YtohbafigjpoijaaDoor
