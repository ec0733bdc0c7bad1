/- Texts, plainly: cutting, numerals back and forth, a packet's text. -/
import Derived.Test.YtohbafigjpoijaaDoorSt2
import Derived.Lib.IndexMore
import Derived.Lib.ItoaNum
set_option linter.unusedVariables false
set_option linter.unusedSimpArgs false
set_option maxRecDepth 100000
namespace Go.Proofs.YtohbafigjpoijaaDoor
open Go.RowKit

/-- What stands ahead of the first byte of a sort, and behind it. -/
def cutB (b : UInt8) : List UInt8 → List UInt8 × List UInt8
  | [] => ([], [])
  | x :: r => if x = b then ([], r) else (x :: (cutB b r).1, (cutB b r).2)
theorem cutB_not (b : UInt8) : ∀ (l : List UInt8), b ∉ l → cutB b l = (l, [])
  | [], _ => rfl
  | x :: r, h => by
    rw [cutB, if_neg (fun e => h (by simp [e])), cutB_not b r (fun e => h (by simp [e]))]
theorem cutB_at (b : UInt8) : ∀ (l r : List UInt8), b ∉ l → cutB b (l ++ b :: r) = (l, r)
  | [], r, _ => by simp [cutB]
  | x :: l, r, h => by
    rw [List.cons_append, cutB, if_neg (fun e => h (by simp [e])), cutB_at b l r (fun e => h (by simp [e]))]
theorem split_first {b : UInt8} : ∀ {l : List UInt8}, b ∈ l → ∃ u v, l = u ++ b :: v ∧ b ∉ u
  | x :: r, h => by
    by_cases e : x = b
    · exact ⟨[], r, by simp [e], by simp⟩
    · obtain ⟨u, v, rfl, hu⟩ := split_first (l := r) (by rcases List.mem_cons.1 h with h | h; exact absurd h.symm e; exact h)
      exact ⟨x :: u, v, rfl, fun h => by rcases List.mem_cons.1 h with h | h; exact e h.symm; exact hu h⟩
theorem index_one (b : UInt8) : ∀ (l : List UInt8), (b ∉ l → Lib.index l [b] = -1) ∧ ∀ u v, l = u ++ b :: v → b ∉ u → Lib.index l [b] = u.length
  | [] => ⟨fun _ => rfl, fun u v h => by simp at h⟩
  | x :: r => by
    obtain ⟨h1, h2⟩ := index_one b r
    refine ⟨fun h => ?_, fun u v h hu => ?_⟩
    · have e : b ≠ x := fun e => h (by simp [e])
      rw [Lib.index, if_neg (by simp [List.isPrefixOf, e]), h1 (fun e => h (by simp [e]))]
      rfl
    · cases u with
      | nil =>
        simp only [List.nil_append, List.cons.injEq] at h
        rw [Lib.index, if_pos (by simp [List.isPrefixOf, h.1])]
        rfl
      | cons y u =>
        simp only [List.cons_append, List.cons.injEq] at h
        obtain ⟨rfl, h⟩ := h
        have e : b ≠ x := fun e => hu (by simp [e])
        have := h2 u v h (fun e => hu (by simp [e]))
        rw [Lib.index, if_neg (by simp [List.isPrefixOf, e]), this, if_neg (by simp)]
        simp
theorem cut_one (b : UInt8) (l : List UInt8) : Lib.cut l [b] = ((cutB b l).1, (cutB b l).2, decide (b ∈ l)) := by
  by_cases h : b ∈ l
  · obtain ⟨u, v, rfl, hu⟩ := split_first h
    have := (index_one b _).2 u v rfl hu
    rw [Lib.cut, this, if_pos (by omega), cutB_at b u v hu]
    simp
  · rw [Lib.cut, (index_one b l).1 h, if_neg (by decide), cutB_not b l h]
    simp [h]
/-- Two pieces, or a cut whose second part bears the byte, or no byte. -/
theorem two_pieces (b : UInt8) (l : List UInt8) : pieces b l = [(cutB b l).1, (cutB b l).2] ∨ ((pieces b l).length ≠ 2 ∧ (b ∈ (cutB b l).2 ∨ (cutB b l).2 = [])) := by
  by_cases h : b ∈ l
  · obtain ⟨u, v, rfl, hu⟩ := split_first h
    rw [pieces_cut b u v hu, cutB_at b u v hu]
    by_cases hv : b ∈ v
    · right
      refine ⟨?_, .inl hv⟩
      obtain ⟨x, y, rfl, hx⟩ := split_first hv
      rw [pieces_cut b x y hx]
      have := pieces_pos b y
      simp only [List.length_cons]; omega
    · left; rw [pieces_eq b v hv]
  · right
    rw [pieces_eq b l h, cutB_not b l h]
    exact ⟨by simp, .inr rfl⟩

theorem numF_nil (m : Int) : numF [] m = -1 := rfl
theorem numF_bad {l : List UInt8} {m : Int} {x : UInt8} (h : x ∈ l) (hx : isDig x = false) : numF l m = -1 := by
  refine numF_not ?_
  have : l.all isDig = false := by
    rw [Bool.eq_false_iff]
    intro e
    rw [List.all_eq_true.1 e x h] at hx; cases hx
  simp [numeral, this]
theorem numF_ge (l : List UInt8) (m : Int) : -1 ≤ numF l m := by unfold numF; split <;> omega
theorem numF_lt (l : List UInt8) (m : Int) (h : 0 ≤ numF l m) : numF l m < m := by unfold numF at *; split <;> simp_all
theorem numF_some {l : List UInt8} {m : Int} (h : 0 ≤ numF l m) : numeral l = true ∧ numF l m = digs l := by
  unfold numF at *
  split <;> simp_all
theorem dig_dec (u : Nat) (h : u < 10) : Lib.decDigits u = [UInt8.ofNat (48 + u)] := by rw [Lib.decDigits, dif_pos h]
theorem dec_more (u : Nat) (h : ¬ u < 10) : Lib.decDigits u = Lib.decDigits (u / 10) ++ [UInt8.ofNat (48 + u % 10)] := by rw [Lib.decDigits, dif_neg h]
theorem ofNat_dig (c : UInt8) (h : isDig c = true) : UInt8.ofNat (48 + (c.toNat - 48)) = c := by
  simp only [isDig, Bool.and_eq_true, decide_eq_true_eq] at h
  rw [show 48 + (c.toNat - 48) = c.toNat by omega]
  simp
theorem dig_ofNat (u : Nat) (h : u < 10) : isDig (UInt8.ofNat (48 + u)) = true ∧ (UInt8.ofNat (48 + u)).toNat = 48 + u := by
  have : (UInt8.ofNat (48 + u)).toNat = 48 + u := by simp; omega
  refine ⟨?_, this⟩
  simp only [isDig, this]; simp; omega
/-- Digits without noughts ahead are what their number is written as. -/
theorem dec_digs (l : List UInt8) (hd : ∀ c ∈ l, isDig c = true) (h0 : l ≠ []) (hz : l.head? = some 48 → l.length = 1) : Lib.decDigits (digs l) = l ∧ (l.head? ≠ some 48 → 1 ≤ digs l) := by
  rcases List.eq_nil_or_concat l with rfl | ⟨m, c, rfl⟩
  · exact absurd rfl h0
  · rw [List.concat_eq_append] at *
    have hc := hd c (by simp)
    have hcb := hc
    simp only [isDig, Bool.and_eq_true, decide_eq_true_eq] at hcb
    rw [digs_snoc]
    cases m with
    | nil =>
      simp only [digs, List.foldl_nil, Nat.zero_mul, Nat.zero_add, List.nil_append]
      refine ⟨by rw [dig_dec _ (by omega), ofNat_dig c hc], fun h => ?_⟩
      have : c ≠ 48 := fun e => h (by simp [e])
      have : c.toNat ≠ 48 := fun e => this (UInt8.toNat_inj.1 e)
      omega
    | cons y m =>
      have hh : (y :: m ++ [c]).head? = some y := rfl
      rw [hh] at hz ⊢
      have hy : y ≠ 48 := fun e => by
        have := hz (by rw [e])
        simp at this
      obtain ⟨i1, i2⟩ := dec_digs (y :: m) (fun x hx => hd x (by simp at hx ⊢; rcases hx with h | h; exact .inl h; exact .inr (.inl h))) (by simp) (fun e => by simp at e; exact absurd e hy)
      have i3 := i2 (by simpa using hy)
      refine ⟨?_, fun _ => by omega⟩
      rw [dec_more _ (by omega), show (digs (y :: m) * 10 + (c.toNat - 48)) / 10 = digs (y :: m) by omega, show (digs (y :: m) * 10 + (c.toNat - 48)) % 10 = c.toNat - 48 by omega, i1, ofNat_dig c hc]
termination_by l.length
decreasing_by simp [*]
theorem dec_all (u : Nat) : (∀ c ∈ Lib.decDigits u, isDig c = true) ∧ digs (Lib.decDigits u) = u ∧ Lib.decDigits u ≠ [] ∧ (1 ≤ u → (Lib.decDigits u).head? ≠ some 48) := by
  by_cases h : u < 10
  · rw [dig_dec u h]
    obtain ⟨h1, h2⟩ := dig_ofNat u h
    refine ⟨fun c hc => by rw [List.mem_singleton.1 hc]; exact h1, by simp only [digs, List.foldl_cons, List.foldl_nil, h2]; omega, by simp, fun hu e => ?_⟩
    simp only [List.head?_cons, Option.some.injEq] at e
    rw [e] at h2
    simp at h2; omega
  · obtain ⟨i1, i2, i3, i4⟩ := dec_all (u / 10)
    obtain ⟨h1, h2⟩ := dig_ofNat (u % 10) (by omega)
    rw [dec_more u h]
    refine ⟨fun c hc => ?_, by rw [digs_snoc, i2, h2]; omega, by simp, fun _ => ?_⟩
    · rcases List.mem_append.1 hc with hc | hc
      · exact i1 c hc
      · rw [List.mem_singleton.1 hc]; exact h1
    · obtain ⟨y, r, e⟩ := List.exists_cons_of_ne_nil i3
      rw [e] at i4 ⊢
      exact i4 (by omega)
termination_by u
decreasing_by omega
theorem dec_len (u k : Nat) (h : u < 10 ^ (k + 1)) : (Lib.decDigits u).length ≤ k + 1 := by
  induction k generalizing u with
  | zero => rw [dig_dec u (by simpa using h)]; simp
  | succ k ih =>
    by_cases hu : u < 10
    · rw [dig_dec u hu]; simp
    · rw [dec_more u hu]
      have := ih (u / 10) (by rw [Nat.pow_succ] at h; omega)
      simp; omega
theorem num_dec (u : Nat) (m : Int) (h : u < 10000) (hm : (u : Int) < m) : numF (Lib.decDigits u) m = u := by
  obtain ⟨h1, h2, h3, h4⟩ := dec_all u
  have hl := dec_len u 3 (by omega)
  have hlp : 1 ≤ (Lib.decDigits u).length := List.length_pos_iff.2 h3
  have hn : numeral (Lib.decDigits u) = true := by
    have ha : (Lib.decDigits u).all isDig = true := List.all_eq_true.2 h1
    have hz : (decide ((Lib.decDigits u).head? = some 48) && decide (1 < (Lib.decDigits u).length)) = false := by
      rw [Bool.eq_false_iff]; intro e
      simp only [Bool.and_eq_true, decide_eq_true_eq] at e
      by_cases h0 : u = 0
      · subst h0; rw [dig_dec 0 (by decide)] at e; simp at e
      · exact h4 (by omega) e.1
    show (decide (1 ≤ _) && decide (_ ≤ 4) && _ && !(_)) = true
    rw [hz, ha, decide_eq_true (show 1 ≤ (Lib.decDigits u).length from hlp), decide_eq_true (show (Lib.decDigits u).length ≤ 4 by omega)]
    rfl
  rw [numF, h2, if_pos ⟨hn, hm⟩]
theorem numeral_dec {l : List UInt8} (h : numeral l = true) : Lib.decDigits (digs l) = l := by
  have h' : (decide (1 ≤ l.length) && decide (l.length ≤ 4) && l.all isDig && !(decide (l.head? = some 48) && decide (1 < l.length))) = true := h
  simp only [Bool.and_eq_true, decide_eq_true_eq, Bool.not_eq_true', Bool.and_eq_false_iff, decide_eq_false_iff_not] at h'
  obtain ⟨⟨⟨h1, h2⟩, h3⟩, h4⟩ := h'
  refine (dec_digs l (List.all_eq_true.1 h3) (List.length_pos_iff.1 h1) (fun e => ?_)).1
  rcases h4 with h4 | h4
  · exact absurd e h4
  · omega
theorem not_dec (u : Nat) (x : UInt8) (hx : isDig x = false) : x ∉ Lib.decDigits u := fun h => by
  rw [(dec_all u).1 x h] at hx; cases hx

/-- An address and a port, as a text. -/
def endT (a p : Nat) : List UInt8 := Lib.decDigits a ++ 58 :: Lib.decDigits p
def packT (p : P4) : List UInt8 := endT p.src.toNat p.sport.toNat ++ 62 :: endT p.dst.toNat p.dport.toNat
/-- What a text tells of an end. -/
def endsF (l : List UInt8) : Int × Int := (numF (cutB 58 l).1 16, numF (cutB 58 l).2 8)
def goodE (x : Int × Int) : Bool := decide (0 ≤ x.1) && decide (0 ≤ x.2)
def parseF (l : List UInt8) : P4 × Int :=
  if goodE (endsF (cutB 62 l).1) && goodE (endsF (cutB 62 l).2) then (⟨(endsF (cutB 62 l).1).1, (endsF (cutB 62 l).2).1, (endsF (cutB 62 l).1).2, (endsF (cutB 62 l).2).2⟩, 0) else (⟨0, 0, 0, 0⟩, 3)
end Go.Proofs.YtohbafigjpoijaaDoor
